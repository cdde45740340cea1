/- The parser's functions: what stands first. -/
import Derived.Test.YteomefghofhkiaaGreatDoorWnD
set_option maxRecDepth 100000
set_option linter.unusedVariables false
set_option linter.unusedSimpArgs false
set_option maxHeartbeats 40000000
namespace Go.AM.Ps
open Go.Proofs W
def PostT {α : Type} (t : List Tk) (w : List UInt8) (r : Rs α) (av : α → AV) (out : Out) (S' : St) : Prop := ∃ z', Ans r av out z' ∧ At t z' (S'.row 0) ∧ S'.row 1 = [.ptr 0 0] ∧ S'.row 2 = [.str w] ∧ 3 ≤ S'.next
theorem beq_ne {a b : Nat} (h : a ≠ b) : Nat.beq a b = false := by
 cases hq : Nat.beq a b with
 | false => rfl
 | true => exact absurd (Nat.eq_of_beq_eq_true hq) h
theorem idx3 {o o1 o2 : Nat} (h01 : o ≠ o1) (h02 : o ≠ o2) (h12 : o1 ≠ o2) : idx [o, o1, o2] o = some 0 ∧ idx [o, o1, o2] o1 = some 1 ∧ idx [o, o1, o2] o2 = some 2 := by
 have e0 : Nat.beq o o = true := Nat.beq_refl o
 have e1 : Nat.beq o1 o1 = true := Nat.beq_refl o1
 have e2 : Nat.beq o2 o2 = true := Nat.beq_refl o2
 simp [idx, e0, e1, e2, beq_ne h01, beq_ne h02, beq_ne h12]
theorem lift3 {α : Type} {f : FuncId} {args args0 : List AV} {r : Rs α} {av : α → AV} {t : List Tk} {z : Nat} {S : St} {o o1 o2 : Nat} {w : List UInt8} {K : Out → St → Prop} (h01 : o ≠ o1) (h02 : o ≠ o2) (h12 : o1 ≠ o2) (hargs : renL (idx [o, o1, o2]) noh args = args0) (hav : ∀ a f h, (av a).ren f h = av a)
  (h : At t z (S.row o)) (ho : o < S.next) (hb : S.row o1 = [.ptr o 0]) (ho1 : o1 < S.next) (hw : S.row o2 = [.str w]) (ho2 : o2 < S.next)
  (hc : CallP Tryz.prog (Pr.tab real) f args0 (P3 (S.row o) [.str w]) (PostT t w r av))
  (hok : ∀ a z' r', r = .ok a z' → At t z' r' → K (.ret (av a)) (S.set o r')) (hwr : ∀ z' r', r = .wrong → At t z' r' → K (.panic wrongV) (S.set o r')) : CallP Tryz.prog (Pr.tab real) f args S K := by
 have hc2 : CallP Tryz.prog (Pr.tab real) f args0 (P3 (S.row o) [.str w]) fun out S' => (∃ a z', r = .ok a z' ∧ out = .ret (av a) ∧ At t z' (S'.row 0) ∧ S'.row 1 = [.ptr 0 0] ∧ S'.row 2 = [.str w] ∧ 3 ≤ S'.next) ∨
   (∃ z', r = .wrong ∧ out = .panic wrongV ∧ At t z' (S'.row 0) ∧ S'.row 1 = [.ptr 0 0] ∧ S'.row 2 = [.str w] ∧ 3 ≤ S'.next) := by
  refine CallP.sub (CallP.mono hc ?_)
  rintro out S' ⟨z', ha, h1, h2, h3, h4⟩
  unfold Ans at ha
  split at ha
  · exact ha.elim
  · subst ha; exact ⟨_, .panic _, .inr ⟨z', rfl, rfl, h1, h2, h3, h4⟩⟩
  · obtain ⟨h5, rfl⟩ := ha
    exact ⟨_, h5, .inl ⟨_, _, rfl, rfl, h1, h2, h3, h4⟩⟩
 obtain ⟨i0, i1, i2⟩ := idx3 h01 h02 h12
 refine frameN [o, o1, o2] (by simp [h01, h02, h12]) ?_ (S0 := P3 (S.row o) [.str w]) rfl ?_ (by rw [hargs]; exact hc2) ?_
 · intro p hp
   simp at hp
   rcases hp with rfl | rfl | rfl <;> assumption
 · intro i p hp
   match i, hp with
   | 0, hp => simp at hp; subst hp; rw [h.ren]; rfl
   | 1, hp => simp at hp; subst hp; rw [hb]; simp only [renL, AV.ren, i0]; rfl
   | 2, hp => simp at hp; subst hp; rw [hw]; rfl
   | i + 3, hp => simp at hp
 · have fin : ∀ (S0' : St) (z' : Nat), At t z' (S0'.row 0) → S0'.row 1 = [.ptr 0 0] → S0'.row 2 = [.str w] → (S.set o (S0'.row 0)).next = S.next ∧ (S.set o (S0'.row 0)).caps = S.caps ∧ (∀ p, p ∉ [o, o1, o2] → (S.set o (S0'.row 0)).row p = S.row p) ∧
     (∀ i p, [o, o1, o2][i]? = some p → (S.set o (S0'.row 0)).row p = renL (fun i => [o, o1, o2][i]?) noh (S0'.row i)) := by
    intro S0' z' h1 h2 h3
    refine ⟨rfl, rfl, ?_, ?_⟩
    · intro p hp
      simp at hp
      rw [row_set_ne _ _ _ _ h.ne, if_neg (fun q => hp.1 q.symm)]
    · intro i p hp
      match i, hp with
      | 0, hp => simp at hp; subst hp; rw [row_set_ne _ _ _ _ h.ne, if_pos rfl, h1.ren]
      | 1, hp => simp at hp; subst hp; rw [row_set_ne _ _ _ _ h.ne, if_neg h01, hb, h2]; rfl
      | 2, hp => simp at hp; subst hp; rw [row_set_ne _ _ _ _ h.ne, if_neg h02, hw, h3]; rfl
      | i + 3, hp => simp at hp
   rintro out0 S0' (⟨a, z', h1, rfl, h2, h3, h4, h5⟩ | ⟨z', h1, rfl, h2, h3, h4, h5⟩)
   · obtain ⟨f1, f2, f3, f4⟩ := fin S0' z' h2 h3 h4
     refine ⟨h5, S.set o (S0'.row 0), f1, f2, f3, f4, ?_⟩
     show K (.ret ((av a).ren _ _)) _
     rw [hav]
     exact hok a z' _ h1 h2
   · obtain ⟨f1, f2, f3, f4⟩ := fin S0' z' h2 h3 h4
     exact ⟨h5, S.set o (S0'.row 0), f1, f2, f3, f4, hwr z' _ h1 h2⟩
def FnT (t : List Tk) (f : FuncId) (w : List UInt8) (r : Nat → Rs Nd) : Prop :=
 ∀ (z : Nat) (S : St) (o o1 o2 : Nat) (K : Out → St → Prop), o ≠ o1 → o ≠ o2 → o1 ≠ o2 → At t z (S.row o) → o < S.next → S.row o1 = [.ptr o 0] → o1 < S.next → S.row o2 = [.str w] → o2 < S.next → (r z = .fuel → False) →
  (∀ op s k l cl z' r', r z = .ok (.mk op s k l) z' → cl = avL l → At t z' r' → K (.ret (.agg [.str op, .str s, .int .i64 k, .slice 24 cl .no])) (S.set o r')) →
  (∀ z' r', r z = .wrong → At t z' r' → K (.panic wrongV) (S.set o r')) → CallP Tryz.prog (Pr.tab real) f [.ptr o2 0, .ptr o1 0] S K
theorem fnT_of {t : List Tk} {f : FuncId} {w : List UInt8} {r : Nat → Rs Nd}
  (hc : ∀ z rw', At t z rw' → (r z = .fuel → False) → CallP Tryz.prog (Pr.tab real) f [.ptr 2 0, .ptr 1 0] (P3 rw' [.str w]) (PostT t w (r z) Nd.av)) : FnT t f w r := by
 intro z S o o1 o2 K h01 h02 h12 h ho hb ho1 hw ho2 hf hok hwr
 obtain ⟨i0, i1, i2⟩ := idx3 h01 h02 h12
 refine lift3 h01 h02 h12 (args0 := [.ptr 2 0, .ptr 1 0]) (by simp only [renL, AV.ren, i1, i2]) (fun a f h => av_ren f h a) h ho hb ho1 hw ho2 (hc z _ h hf) (fun a z' r' hq hr' => ?_) hwr
 obtain ⟨op, s, k, l⟩ := a
 exact hok op s k l _ z' r' hq rfl hr'
theorem finOkT (t : List Tk) (w : List UInt8) (r : Rs Nd) (op s : List UInt8) (k : Int) (e : TypeId) (cs : List AV) (m : Mode) (l : List Nd) (z' : Nat) (S' : St) (hr : r = .ok (.mk op s k l) z') (hcs : cs = avL l) (he : e = 24 ∨ cs = []) (h : At t z' (S'.row 0)) (hn : 3 ≤ S'.next) (h1 : S'.row 1 = [.ptr 0 0]) (h2 : S'.row 2 = [.str w]) :
  PostT t w r Nd.av (.ret (.agg [.str op, .str s, .int .i64 k, .slice e cs m])) S' := by
 rw [hr]
 exact ⟨z', ⟨.ret _ _ (sub_node _ op s k e cs m l hcs he), rfl⟩, h, h1, h2, hn⟩
theorem finBadT {α : Type} (t : List Tk) (w : List UInt8) (r : Rs α) (av : α → AV) (z' : Nat) (S' : St) (hr : r = .wrong) (h : At t z' (S'.row 0)) (hn : 3 ≤ S'.next) (h1 : S'.row 1 = [.ptr 0 0]) (h2 : S'.row 2 = [.str w]) : PostT t w r av (.panic (.iface 47 (.agg []))) S' := by
 rw [hr]
 exact ⟨z', rfl, h, h1, h2, hn⟩
end Go.AM.Ps
namespace Go.AM.Ps
open Go.Proofs W
theorem lit_withinT {t : List Tk} (ht : Toks t) {fid : FuncId} {w : List UInt8} {part : Nat → Rs Nd} (hp : FnT t fid w part) (z : Nat) (r : List AV) (h : At t z r) (hf : within t part z = .fuel → False) :
  CallP Tryz.prog (Pr.tab real) 111 [.ptr 0 0, .func fid [] [.ptr 2 0, .ptr 1 0]] (P3 r [.str w]) (PostT t w (within t part z) Nd.av) := by
 have hfin := fun op s k e cs m l z' S' => finOkT t w (within t part z) op s k e cs m l z' S'
 have hbad := fun z' S' => finBadT t w (within t part z) Nd.av z' S'
 generalize PostT t w (within t part z) Nd.av = K0 at hfin hbad ⊢
 apply body_calls (un := 0) Pr.tabOk Pr.mixed Ps.fn111 (Nat.le_of_ble_eq_true rfl)
 apply gen_body (mk := Pr.tab)
 intro fail need same call loop len slen arith shift cmp conv eqS ltS cat app elt byt subS subL strOf isB fit inb cut room not and eqB avs G
 have heqS : ∀ a b, eqS a b = (a == b) := fun a b => by rw [G.eqS']
 have hnot : ∀ b, not b = !b := fun b => by rw [G.not']
 unfold P3
 cbv
 repeat'
  (first
    | refine GenH.need' G rfl ?_
    | refine GenH.same' G rfl ?_
    | ((refine GenH.call' G (at_need ht (by assumption) (Nat.le_of_ble_eq_true rfl) (fun r' hs hr' => ?_) (fun z' r' hs hr' => ?_))) <;> (try cbv))
    | ((refine GenH.call' G (hp _ _ 0 1 2 _ (by decide) (by decide) (by decide) (by assumption) (Nat.le_of_ble_eq_true rfl) rfl (Nat.le_of_ble_eq_true rfl) rfl (Nat.le_of_ble_eq_true rfl) (fun q => hf (by first | (simp only [within, Rs.bind, Ps.need, Ps.take, Ps.needs, Bool.or_true, Bool.or_false, Bool.true_or, Bool.false_or, Bool.and_true, Bool.and_false, Bool.true_and, Bool.false_and, *]; done) | (simp only [within, Rs.bind, Ps.need, Ps.take, Ps.needs, Bool.or_true, Bool.or_false, Bool.true_or, Bool.false_or, Bool.and_true, Bool.and_false, Bool.true_and, Bool.false_and, *]; exact rfl))) (fun op s k l cl z' r' hs hcl hr' => ?_) (fun z' r' hs hr' => ?_))) <;> (try cbv))
    | (rw [hnot]; (try cbv))
    | fail)
 all_goals first
  | exact hbad _ _ (by first | (simp only [within, Rs.bind, Ps.need, Ps.take, Ps.needs, Bool.or_true, Bool.or_false, Bool.true_or, Bool.false_or, Bool.and_true, Bool.and_false, Bool.true_and, Bool.false_and, *]; done) | (simp only [within, Rs.bind, Ps.need, Ps.take, Ps.needs, Bool.or_true, Bool.or_false, Bool.true_or, Bool.false_or, Bool.and_true, Bool.and_false, Bool.true_and, Bool.false_and, *]; exact rfl)) (by assumption) (Nat.le_of_ble_eq_true rfl) rfl rfl
  | exact hfin _ _ _ _ _ _ _ _ _ (by first | (simp only [within, Rs.bind, Ps.need, Ps.take, Ps.needs, Bool.or_true, Bool.or_false, Bool.true_or, Bool.false_or, Bool.and_true, Bool.and_false, Bool.true_and, Bool.false_and, *]; done) | (simp only [within, Rs.bind, Ps.need, Ps.take, Ps.needs, Bool.or_true, Bool.or_false, Bool.true_or, Bool.false_or, Bool.and_true, Bool.and_false, Bool.true_and, Bool.false_and, *]; exact rfl)) (by subst_vars; exact rfl) (by first | exact .inl rfl | exact .inr rfl) (by assumption) (Nat.le_of_ble_eq_true rfl) rfl rfl
theorem at_withinT {t : List Tk} (ht : Toks t) {fid : FuncId} {w : List UInt8} {part : Nat → Rs Nd} (hp : FnT t fid w part) {z : Nat} {S : St} {o o1 o2 : Nat} (h01 : o ≠ o1) (h02 : o ≠ o2) (h12 : o1 ≠ o2) (h : At t z (S.row o)) (ho : o < S.next) (hb : S.row o1 = [.ptr o 0]) (ho1 : o1 < S.next) (hw : S.row o2 = [.str w]) (ho2 : o2 < S.next) {K : Out → St → Prop} (hf : within t part z = .fuel → False)
  (hok : ∀ op s k l cl z' r', within t part z = .ok (.mk op s k l) z' → cl = avL l → At t z' r' → K (.ret (.agg [.str op, .str s, .int .i64 k, .slice 24 cl .no])) (S.set o r'))
  (hwr : ∀ z' r', within t part z = .wrong → At t z' r' → K (.panic wrongV) (S.set o r')) : CallP Tryz.prog (Pr.tab real) 111 [.ptr o 0, .func fid [] [.ptr o2 0, .ptr o1 0]] S K := by
 obtain ⟨i0, i1, i2⟩ := idx3 h01 h02 h12
 refine lift3 h01 h02 h12 (args0 := [.ptr 0 0, .func fid [] [.ptr 2 0, .ptr 1 0]]) (by simp only [renL, AV.ren, i0, i1, i2]) (fun a f h => av_ren f h a) h ho hb ho1 hw ho2 (lit_withinT ht hp z _ h hf) (fun a z' r' hq hr' => ?_) hwr
 obtain ⟨op, s, k, l⟩ := a; exact hok op s k l _ z' r' hq rfl hr'
theorem lit_primTotal {t : List Tk} (ht : Toks t) (n : Nat) (hn : n ≤ 1000000000) (w : List UInt8) (hexpr : Fn t 83 [] (expr reservedB t n)) (z : Nat) (r : List AV) (h : At t z r) (hf : primTotal reservedB t (n + 1) w z = .fuel → False) :
  CallP Tryz.prog (Pr.tab real) 161 [.ptr 2 0, .ptr 1 0] (P3 r [.str w]) (PostT t w (primTotal reservedB t (n + 1) w z) Nd.av) := by
 have hfin := fun op s k e cs m l z' S' => finOkT t w (primTotal reservedB t (n + 1) w z) op s k e cs m l z' S'
 have hbad := fun z' S' => finBadT t w (primTotal reservedB t (n + 1) w z) Nd.av z' S'
 generalize PostT t w (primTotal reservedB t (n + 1) w z) Nd.av = K0 at hfin hbad ⊢
 apply body_calls (un := 0) Pr.tabOk Pr.mixed Ps.fn161 (Nat.le_of_ble_eq_true rfl)
 apply gen_body (mk := Pr.tab)
 intro fail need same call loop len slen arith shift cmp conv eqS ltS cat app elt byt subS subL strOf isB fit inb cut room not and eqB avs G
 have heqS : ∀ a b, eqS a b = (a == b) := fun a b => by rw [G.eqS']
 have hnot : ∀ b, not b = !b := fun b => by rw [G.not']
 unfold P3
 cbv
 repeat'
  (first
    | refine GenH.need' G rfl ?_
    | refine GenH.same' G rfl ?_
    | (rw [heqS]; (try rw [hnot]); split <;> ((first | contradiction | (rename_i hq; (try simp only [Bool.not_eq_true', Bool.not_eq_false'] at hq); rw [hq]) | (rename_i hq _; rw [hq]) | skip); try cbv))
    | ((refine GenH.call' G (at_take ht (by assumption) (Nat.le_of_ble_eq_true rfl) (fun r' hs hr' => ?_) (fun r' hs hr' => ?_))) <;> (try cbv))
    | ((refine GenH.call' G (at_node [] (by subst_vars; exact rfl) (by first | exact .inl rfl | exact .inr rfl) rfl (fun cl hcl => ?_))) <;> (try cbv))
    | ((refine GenH.call' G (at_node [.mk _ _ _ _] (by subst_vars; exact rfl) (by first | exact .inl rfl | exact .inr rfl) rfl (fun cl hcl => ?_))) <;> (try cbv))
    | ((refine GenH.call' G (at_node [.mk _ _ _ _, .mk _ _ _ _] (by subst_vars; exact rfl) (by first | exact .inl rfl | exact .inr rfl) rfl (fun cl hcl => ?_))) <;> (try cbv))
    | ((refine GenH.call' G (at_node [.mk _ _ _ _, .mk _ _ _ _, .mk _ _ _ _] (by subst_vars; exact rfl) (by first | exact .inl rfl | exact .inr rfl) rfl (fun cl hcl => ?_))) <;> (try cbv))
    | ((refine GenH.call' G (at_node [.mk _ _ _ _, .mk _ _ _ _, .mk _ _ _ _, .mk _ _ _ _, .mk _ _ _ _] (by subst_vars; exact rfl) (by first | exact .inl rfl | exact .inr rfl) rfl (fun cl hcl => ?_))) <;> (try cbv))
    | ((refine GenH.call' G (at_node (.mk _ _ _ _ :: _) (by subst_vars; exact rfl) (by first | exact .inl rfl | exact .inr rfl) rfl (fun cl hcl => ?_))) <;> (try cbv))
    | ((refine GenH.call' G (at_node _ (by subst_vars; exact rfl) (by first | exact .inl rfl | exact .inr rfl) rfl (fun cl hcl => ?_))) <;> (try cbv))
    | ((refine GenH.call' G (at_one ht [_, _] (by decide) (by assumption) (Nat.le_of_ble_eq_true rfl) (fun a z' r' hs hr' => ?_))) <;> (try cbv))
    | ((refine GenH.call' G (hexpr _ _ 0 _ (by assumption) (Nat.le_of_ble_eq_true rfl) (fun q => hf (by first | (simp only [primTotal, Rs.bind, Ps.need, Ps.take, Ps.needs, Bool.or_true, Bool.or_false, Bool.true_or, Bool.false_or, Bool.and_true, Bool.and_false, Bool.true_and, Bool.false_and, Ps.named, Ps.node, *]; done) | (simp only [primTotal, Rs.bind, Ps.need, Ps.take, Ps.needs, Bool.or_true, Bool.or_false, Bool.true_or, Bool.false_or, Bool.and_true, Bool.and_false, Bool.true_and, Bool.false_and, Ps.named, Ps.node, *]; exact rfl))) (fun op s k l cl z' r' hs hcl hr' => ?_) (fun z' r' hs hr' => ?_))) <;> (try cbv))
    | (rw [hnot]; (try cbv))
    | fail)
 all_goals first
  | exact hbad _ _ (by first | (simp only [primTotal, Rs.bind, Ps.need, Ps.take, Ps.needs, Bool.or_true, Bool.or_false, Bool.true_or, Bool.false_or, Bool.and_true, Bool.and_false, Bool.true_and, Bool.false_and, Ps.named, Ps.node, *]; done) | (simp only [primTotal, Rs.bind, Ps.need, Ps.take, Ps.needs, Bool.or_true, Bool.or_false, Bool.true_or, Bool.false_or, Bool.and_true, Bool.and_false, Bool.true_and, Bool.false_and, Ps.named, Ps.node, *]; exact rfl)) (by assumption) (Nat.le_of_ble_eq_true rfl) rfl rfl
  | exact hfin _ _ _ _ _ _ _ _ _ (by first | (simp only [primTotal, Rs.bind, Ps.need, Ps.take, Ps.needs, Bool.or_true, Bool.or_false, Bool.true_or, Bool.false_or, Bool.and_true, Bool.and_false, Bool.true_and, Bool.false_and, Ps.named, Ps.node, *]; done) | (simp only [primTotal, Rs.bind, Ps.need, Ps.take, Ps.needs, Bool.or_true, Bool.or_false, Bool.true_or, Bool.false_or, Bool.and_true, Bool.and_false, Bool.true_and, Bool.false_and, Ps.named, Ps.node, *]; exact rfl)) (by subst_vars; exact rfl) (by first | exact .inl rfl | exact .inr rfl) (by assumption) (Nat.le_of_ble_eq_true rfl) rfl rfl
theorem lit_primary {t : List Tk} (ht : Toks t) (n : Nat) (hn : n ≤ 1000000000) (hexpr : Fn t 83 [] (expr reservedB t n)) (hbody : Fn t 73 [] (body reservedB t n)) (hexprs : FnL t 82 [] (exprs reservedB t n)) (hcases : Fn t 158 [] (cases reservedB t n)) (hcast : FnC t 159 (primCast reservedB t n)) (hnullif : FnC t 160 (primNullif reservedB t n)) (htotal : ∀ w, FnT t 161 w (primTotal reservedB t n w)) (z : Nat) (r : List AV) (h : At t z r) (hf : primary reservedB t (n + 1) z = .fuel → False) :
  CallP Tryz.prog (Pr.tab real) 151 [.ptr 0 0] (P0 r) (Post t (primary reservedB t (n + 1) z) Nd.av) := by
 have hfin := fun op s k e cs m l z' S' => finOk t (primary reservedB t (n + 1) z) op s k e cs m l z' S'
 have hbad := fun z' S' => finBad t (primary reservedB t (n + 1) z) Nd.av z' S'
 generalize Post t (primary reservedB t (n + 1) z) Nd.av = K0 at hfin hbad ⊢
 have htl := ht.len
 have hr0 := h
 obtain ⟨h1, h2⟩ := h
 obtain ⟨e, cs, m, hv, hcs, he⟩ := tokV_len t
 rw [hv] at h1
 obtain ⟨zz, hzz⟩ : ∃ zz : Int, zz = (z : Int) := ⟨_, rfl⟩
 rw [← hzz] at h1
 obtain ⟨z1, hz1⟩ : ∃ z1 : Int, z1 = (z + 1 : Nat) := ⟨_, rfl⟩
 have kind_lt : isKind t 2 z = true → z < t.length := by
  intro q
  unfold isKind at q
  rcases Nat.lt_or_ge z t.length with w | w
  · exact w
  · rw [List.getElem?_eq_none w] at q; cases q
 have hat1 : isKind t 2 z = true → At t (z + 1) [.slice e cs m, .int .i64 z1] := fun q => ⟨by rw [hv, hz1], kind_lt q⟩
 have he41 : isKind t 2 z = true → e = 41 := fun q => he (by intro w; have := kind_lt q; rw [w] at this; simp at this)
 obtain ⟨xk, xn, xa, hxx⟩ : ∃ xk xn xa, isKind t 2 z = true → t[z]? = some ⟨xk, textAt t z, xn, xa⟩ := by
  cases hx : t[z]? with
  | none => exact ⟨0, 0, 0, fun q => by unfold isKind at q; rw [hx] at q; cases q⟩
  | some x => obtain ⟨a, b, c, d⟩ := x; exact ⟨a, c, d, fun _ => by unfold textAt; rw [hx]⟩
 obtain ⟨tx, htx⟩ : ∃ tx, textAt t z = tx := ⟨_, rfl⟩
 rw [htx] at hxx
 apply body_calls (un := 0) Pr.tabOk Pr.mixed Ps.fn151 (Nat.le_of_ble_eq_true rfl)
 apply gen_body (mk := Pr.tab)
 intro fail need same call loop len slen arith shift cmp conv eqS ltS cat app elt byt subS subL strOf isB fit inb cut room not and eqB avs G
 have heqS : ∀ a b, eqS a b = (a == b) := fun a b => by rw [G.eqS']
 have hnot : ∀ b, not b = !b := fun b => by rw [G.not']
 have hadd1 : arith BinOp.add IntKind.i64 zz 1 = z1 := by rw [G.arith', hz1, hzz]; exact wrap_i64 _ (by omega) (by omega)
 have hsub1 : arith BinOp.sub IntKind.i64 z1 1 = zz := by
  rw [G.arith']
  show IntKind.i64.wrap (z1 - 1) = zz
  rw [show z1 - 1 = zz by omega]
  exact wrap_i64 _ (by omega) (by omega)
 have hinT : isKind t 2 z = true → inb zz (len cs) = true := fun q => by
  have := kind_lt q
  rw [G.inb', G.len', hcs]; simp; omega
 have helT : isKind t 2 z = true → elt cs zz = .agg [.int .i64 xk, .str tx, .int .i64 xn, .int .i64 xa] := fun q => by
  rw [G.elt', hcs]; simp only []
  rw [show zz.toNat = z by omega, List.getD_eq_getElem?_getD, List.getElem?_map, hxx q]; rfl
 clear hxx kind_lt hcs he hzz hz1 hv
 unfold P0
 cbv
 repeat'
  (first
    | refine GenH.need' G rfl ?_
    | refine GenH.same' G rfl ?_
    | (rw [heqS]; (try rw [hnot]); split <;> ((first | contradiction | (rename_i hq; (try simp only [Bool.not_eq_true', Bool.not_eq_false'] at hq); rw [hq]) | (rename_i hq _; rw [hq]) | skip); try cbv))
    | ((refine GenH.call' G (is_kind ht (by assumption) (Nat.le_of_ble_eq_true rfl) (fun hs => ?_) (fun hs => ?_))) <;> (try cbv))
    | ((refine GenH.call' G (at_number ht (by assumption) (Nat.le_of_ble_eq_true rfl) (fun a z' r' hs hr' => ?_) (fun z' r' hs hr' => ?_))) <;> (try cbv))
    | ((refine GenH.call' G (opens_body ht (by assumption) (Nat.le_of_ble_eq_true rfl) (fun hs => ?_) (fun hs => ?_))) <;> (try cbv))
    | ((refine GenH.call' G (sees0 ht (by assumption) (Nat.le_of_ble_eq_true rfl) (fun hs => ?_) (fun hs => ?_))) <;> (try cbv))
    | ((refine GenH.call' G (at_within ht (by assumption) (by assumption) (Nat.le_of_ble_eq_true rfl) (fun q => hf (by first | (simp only [primary, Rs.bind, Ps.need, Ps.take, Ps.needs, Bool.or_true, Bool.or_false, Bool.true_or, Bool.false_or, Bool.and_true, Bool.and_false, Bool.true_and, Bool.false_and, Ps.named, Ps.node, *]; done) | (simp only [primary, Rs.bind, Ps.need, Ps.take, Ps.needs, Bool.or_true, Bool.or_false, Bool.true_or, Bool.false_or, Bool.and_true, Bool.and_false, Bool.true_and, Bool.false_and, Ps.named, Ps.node, *]; exact rfl))) (fun op s k l cl z' r' hs hcl hr' => ?_) (fun z' r' hs hr' => ?_))) <;> (try cbv))
    | ((refine GenH.call' G (at_withinC ht (by assumption) (by decide) (by assumption) (Nat.le_of_ble_eq_true rfl) rfl (Nat.le_of_ble_eq_true rfl) (fun q => hf (by first | (simp only [primary, Rs.bind, Ps.need, Ps.take, Ps.needs, Bool.or_true, Bool.or_false, Bool.true_or, Bool.false_or, Bool.and_true, Bool.and_false, Bool.true_and, Bool.false_and, Ps.named, Ps.node, *]; done) | (simp only [primary, Rs.bind, Ps.need, Ps.take, Ps.needs, Bool.or_true, Bool.or_false, Bool.true_or, Bool.false_or, Bool.and_true, Bool.and_false, Bool.true_and, Bool.false_and, Ps.named, Ps.node, *]; exact rfl))) (fun op s k l cl z' r' hs hcl hr' => ?_) (fun z' r' hs hr' => ?_))) <;> (try cbv))
    | ((refine GenH.call' G (at_withinL ht (by assumption) (by assumption) (Nat.le_of_ble_eq_true rfl) (fun q => hf (by first | (simp only [primary, Rs.bind, Ps.need, Ps.take, Ps.needs, Bool.or_true, Bool.or_false, Bool.true_or, Bool.false_or, Bool.and_true, Bool.and_false, Bool.true_and, Bool.false_and, Ps.named, Ps.node, *]; done) | (simp only [primary, Rs.bind, Ps.need, Ps.take, Ps.needs, Bool.or_true, Bool.or_false, Bool.true_or, Bool.false_or, Bool.and_true, Bool.and_false, Bool.true_and, Bool.false_and, Ps.named, Ps.node, *]; exact rfl))) (fun l cl z' r' hs hcl hr' => ?_) (fun z' r' hs hr' => ?_))) <;> (try cbv))
    | ((refine GenH.call' G (at_withinT ht (htotal _) (by decide) (by decide) (by decide) (by assumption) (Nat.le_of_ble_eq_true rfl) rfl (Nat.le_of_ble_eq_true rfl) rfl (Nat.le_of_ble_eq_true rfl) (fun q => hf (by first | (simp only [primary, Rs.bind, Ps.need, Ps.take, Ps.needs, Bool.or_true, Bool.or_false, Bool.true_or, Bool.false_or, Bool.and_true, Bool.and_false, Bool.true_and, Bool.false_and, Ps.named, Ps.node, *]; done) | (simp only [primary, Rs.bind, Ps.need, Ps.take, Ps.needs, Bool.or_true, Bool.or_false, Bool.true_or, Bool.false_or, Bool.and_true, Bool.and_false, Bool.true_and, Bool.false_and, Ps.named, Ps.node, *]; exact rfl))) (fun op s k l cl z' r' hs hcl hr' => ?_) (fun z' r' hs hr' => ?_))) <;> (try cbv))
    | ((refine GenH.call' G (at_one ht [_, _, _, _, _, _, _, _, _, _, _, _] (by decide) (by assumption) (Nat.le_of_ble_eq_true rfl) (fun a z' r' hs hr' => ?_))) <;> (try cbv))
    | ((refine GenH.call' G (hcases _ _ 0 _ (by assumption) (Nat.le_of_ble_eq_true rfl) (fun q => hf (by first | (simp only [primary, Rs.bind, Ps.need, Ps.take, Ps.needs, Bool.or_true, Bool.or_false, Bool.true_or, Bool.false_or, Bool.and_true, Bool.and_false, Bool.true_and, Bool.false_and, Ps.named, Ps.node, *]; done) | (simp only [primary, Rs.bind, Ps.need, Ps.take, Ps.needs, Bool.or_true, Bool.or_false, Bool.true_or, Bool.false_or, Bool.and_true, Bool.and_false, Bool.true_and, Bool.false_and, Ps.named, Ps.node, *]; exact rfl))) (fun op s k l cl z' r' hs hcl hr' => ?_) (fun z' r' hs hr' => ?_))) <;> (try cbv))
    | ((refine GenH.call' G (at_column ht _ _ 0 _ (by assumption) (Nat.le_of_ble_eq_true rfl) (fun q => hf (by first | (simp only [primary, Rs.bind, Ps.need, Ps.take, Ps.needs, Bool.or_true, Bool.or_false, Bool.true_or, Bool.false_or, Bool.and_true, Bool.and_false, Bool.true_and, Bool.false_and, Ps.named, Ps.node, *]; done) | (simp only [primary, Rs.bind, Ps.need, Ps.take, Ps.needs, Bool.or_true, Bool.or_false, Bool.true_or, Bool.false_or, Bool.and_true, Bool.and_false, Bool.true_and, Bool.false_and, Ps.named, Ps.node, *]; exact rfl))) (fun op s k l cl z' r' hs hcl hr' => ?_) (fun z' r' hs hr' => ?_))) <;> (try cbv))
    | ((refine GenH.call' G (at_named [] (by subst_vars; exact rfl) (by first | exact .inl rfl | exact .inr rfl) rfl (fun cl hcl => ?_))) <;> (try cbv))
    | ((refine GenH.call' G (at_named [.mk _ _ _ _] (by subst_vars; exact rfl) (by first | exact .inl rfl | exact .inr rfl) rfl (fun cl hcl => ?_))) <;> (try cbv))
    | ((refine GenH.call' G (at_named [.mk _ _ _ _, .mk _ _ _ _] (by subst_vars; exact rfl) (by first | exact .inl rfl | exact .inr rfl) rfl (fun cl hcl => ?_))) <;> (try cbv))
    | ((refine GenH.call' G (at_named [.mk _ _ _ _, .mk _ _ _ _, .mk _ _ _ _] (by subst_vars; exact rfl) (by first | exact .inl rfl | exact .inr rfl) rfl (fun cl hcl => ?_))) <;> (try cbv))
    | ((refine GenH.call' G (at_named [.mk _ _ _ _, .mk _ _ _ _, .mk _ _ _ _, .mk _ _ _ _, .mk _ _ _ _] (by subst_vars; exact rfl) (by first | exact .inl rfl | exact .inr rfl) rfl (fun cl hcl => ?_))) <;> (try cbv))
    | ((refine GenH.call' G (at_named (.mk _ _ _ _ :: _) (by subst_vars; exact rfl) (by first | exact .inl rfl | exact .inr rfl) rfl (fun cl hcl => ?_))) <;> (try cbv))
    | ((refine GenH.call' G (at_named _ (by subst_vars; exact rfl) (by first | exact .inl rfl | exact .inr rfl) rfl (fun cl hcl => ?_))) <;> (try cbv))
    | ((refine GenH.call' G (at_node [] (by subst_vars; exact rfl) (by first | exact .inl rfl | exact .inr rfl) rfl (fun cl hcl => ?_))) <;> (try cbv))
    | ((refine GenH.call' G (at_node [.mk _ _ _ _] (by subst_vars; exact rfl) (by first | exact .inl rfl | exact .inr rfl) rfl (fun cl hcl => ?_))) <;> (try cbv))
    | ((refine GenH.call' G (at_node [.mk _ _ _ _, .mk _ _ _ _] (by subst_vars; exact rfl) (by first | exact .inl rfl | exact .inr rfl) rfl (fun cl hcl => ?_))) <;> (try cbv))
    | ((refine GenH.call' G (at_node [.mk _ _ _ _, .mk _ _ _ _, .mk _ _ _ _] (by subst_vars; exact rfl) (by first | exact .inl rfl | exact .inr rfl) rfl (fun cl hcl => ?_))) <;> (try cbv))
    | ((refine GenH.call' G (at_node [.mk _ _ _ _, .mk _ _ _ _, .mk _ _ _ _, .mk _ _ _ _, .mk _ _ _ _] (by subst_vars; exact rfl) (by first | exact .inl rfl | exact .inr rfl) rfl (fun cl hcl => ?_))) <;> (try cbv))
    | ((refine GenH.call' G (at_node (.mk _ _ _ _ :: _) (by subst_vars; exact rfl) (by first | exact .inl rfl | exact .inr rfl) rfl (fun cl hcl => ?_))) <;> (try cbv))
    | ((refine GenH.call' G (at_node _ (by subst_vars; exact rfl) (by first | exact .inl rfl | exact .inr rfl) rfl (fun cl hcl => ?_))) <;> (try cbv))
    | (((rw [hadd1, hsub1]; refine GenH.need' G (hinT (by assumption)) ?_; rw [helT (by assumption)])) <;> (try cbv))
    | (((have hq41 := he41 (by assumption); subst hq41; subst h1)) <;> (try cbv))
    | (rw [hnot]; (try cbv))
    | fail)
 all_goals first
  | exact hbad _ _ (by first | (simp only [primary, Rs.bind, Ps.need, Ps.take, Ps.needs, Bool.or_true, Bool.or_false, Bool.true_or, Bool.false_or, Bool.and_true, Bool.and_false, Bool.true_and, Bool.false_and, Ps.named, Ps.node, *]; done) | (simp only [primary, Rs.bind, Ps.need, Ps.take, Ps.needs, Bool.or_true, Bool.or_false, Bool.true_or, Bool.false_or, Bool.and_true, Bool.and_false, Bool.true_and, Bool.false_and, Ps.named, Ps.node, *]; exact rfl)) (by assumption) (Nat.le_of_ble_eq_true rfl)
  | exact hfin _ _ _ _ _ _ _ _ _ (by first | (simp only [primary, Rs.bind, Ps.need, Ps.take, Ps.needs, Bool.or_true, Bool.or_false, Bool.true_or, Bool.false_or, Bool.and_true, Bool.and_false, Bool.true_and, Bool.false_and, Ps.named, Ps.node, *]; done) | (simp only [primary, Rs.bind, Ps.need, Ps.take, Ps.needs, Bool.or_true, Bool.or_false, Bool.true_or, Bool.false_or, Bool.and_true, Bool.and_false, Bool.true_and, Bool.false_and, Ps.named, Ps.node, *]; exact rfl)) (by subst_vars; exact rfl) (by first | exact .inl rfl | exact .inr rfl) (by assumption) (Nat.le_of_ble_eq_true rfl)
  | exact hfin _ _ _ _ _ _ _ _ _ (by first | (simp only [primary, Rs.bind, Ps.need, Ps.take, Ps.needs, Bool.or_true, Bool.or_false, Bool.true_or, Bool.false_or, Bool.and_true, Bool.and_false, Bool.true_and, Bool.false_and, Ps.named, Ps.node, *]; done) | (simp only [primary, Rs.bind, Ps.need, Ps.take, Ps.needs, Bool.or_true, Bool.or_false, Bool.true_or, Bool.false_or, Bool.and_true, Bool.and_false, Bool.true_and, Bool.false_and, Ps.named, Ps.node, *]; exact rfl)) (by subst_vars; exact rfl) (by first | exact .inl rfl | exact .inr rfl) (hat1 (by assumption)) (Nat.le_of_ble_eq_true rfl)
end Go.AM.Ps
