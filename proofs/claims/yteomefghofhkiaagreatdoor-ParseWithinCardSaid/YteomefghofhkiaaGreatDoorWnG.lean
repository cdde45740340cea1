/- The parser's functions: a query's parts. -/
import Derived.Test.YteomefghofhkiaaGreatDoorWnF
set_option maxRecDepth 100000
set_option linter.unusedVariables false
set_option maxHeartbeats 40000000
set_option linter.unusedSimpArgs false
namespace Go.AM.Ps
open Go.Proofs W
inductive NA : AV → Nd → Prop where
 | mk (op s : List UInt8) (k : Int) (e : TypeId) (cs : List AV) (m : Mode) (l : List Nd) (hcs : cs = avL l) (he : e = 24 ∨ cs = []) : NA (.agg [.str op, .str s, .int .i64 k, .slice e cs m]) (.mk op s k l)
inductive NL : List AV → List Nd → Prop where
 | nil : NL [] []
 | cons {v : AV} {x : Nd} {cs : List AV} {l : List Nd} (h : NA v x) (t : NL cs l) : NL (v :: cs) (x :: l)
theorem NL.len : ∀ {cs : List AV} {l : List Nd}, NL cs l → (avL l).length = cs.length
 | _, _, .nil => rfl
 | _, _, .cons h t => by simp [avL, t.len]
theorem NA.cell {v : AV} {x : Nd} (h : NA v x) (j : Nat) : Sub (Pr.tab real) (nth v.cells j) (nth x.av.cells j) := by
 cases h with
 | mk op s k e cs m l hcs he =>
  match j with
  | 0 => exact Sub.refl _ _
  | 1 => exact Sub.refl _ _
  | 2 => exact Sub.refl _ _
  | 3 =>
   show Sub _ (.slice e cs m) (.slice 24 (avL l) .no)
   rw [← hcs]
   rcases he with rfl | rfl
   · exact sub_slice _ _ _ _
   · exact sub_empty _ _ _ _
  | j + 4 => exact fun _ _ _ h => .undef _ _
theorem NL.cell : ∀ {cs : List AV} {l : List Nd}, NL cs l → ∀ i j, i < cs.length → Sub (Pr.tab real) (nth (nth cs i).cells j) (nth (nth (avL l) i).cells j)
 | _, _, .nil, i, j, hi => absurd hi (Nat.not_lt_zero i)
 | _, _, .cons h t, 0, j, _ => h.cell j
 | _, _, .cons h t, i + 1, j, hi => by simpa [nth, avL] using t.cell i j (by simpa using hi)
theorem NL.isNode : ∀ {cs : List AV} {l : List Nd}, NL cs l → ∀ i, i < cs.length → ∃ a, nth (avL l) i = .agg a ∧ a.length = 4
 | _, _, .nil, i, hi => absurd hi (Nat.not_lt_zero i)
 | _, _, .cons (x := x) h t, 0, _ => by obtain ⟨op, s, n, l⟩ := x; exact ⟨_, rfl, rfl⟩
 | _, _, .cons h t, i + 1, hi => by simpa [nth, avL] using t.isNode i (by simpa using hi)
theorem sub_list {cs : List AV} {l : List Nd} (h : NL cs l) (m : Mode) : Sub (Pr.tab real) (.slice 24 cs m) (.slice 24 (avL l) .no) := by
 intro w g x hr
 have hlen := h.len
 have hsz : (Pr.tab real).size 24 = 4 := rfl
 have hag : (Pr.tab real).agg 24 = true := rfl
 cases hr with
 | slice _ _ _ _ a cap b base xs hcap hmax hm ho ha hf hc h1 hD hR =>
  rw [← hlen] at hcap hf hc h1 hD hR ⊢
  refine .slice g 24 (avL l) .no a cap b base xs hcap hmax (fun q => by cases q) (fun k q => by cases q) (fun q => ha fun q2 => q (by rw [q2] at hlen; exact List.eq_nil_of_length_eq_zero hlen)) ?_ hc h1 hD ?_
  · intro i hi
    obtain ⟨c, h2, h3⟩ := h.isNode i (by omega)
    exact .inl ⟨hag, c, h2, h3.trans hsz.symm⟩
  · intro i j hi hj
    exact h.cell i j (by omega) _ _ _ (hR i j hi hj)
theorem sub_tree (op s : List UInt8) (k : Int) {cs : List AV} (m : Mode) {l : List Nd} (h : NL cs l) : Sub (Pr.tab real) (.agg [.str op, .str s, .int .i64 k, .slice 24 cs m]) (Nd.mk op s k l).av := by
 refine sub_agg rfl fun j hj => ?_
 match j, hj with
 | 0, _ => exact Sub.refl _ _
 | 1, _ => exact Sub.refl _ _
 | 2, _ => exact Sub.refl _ _
 | 3, _ => exact sub_list h m
theorem finOk2 (t : List Tk) (r : Rs Nd) (op s : List UInt8) (k : Int) (cs : List AV) (m : Mode) (l : List Nd) (z' : Nat) (S' : St) (hr : r = .ok (.mk op s k l) z') (hcs : NL cs l) (h : At t z' (S'.row 0)) (hn : 1 ≤ S'.next) :
  Post t r Nd.av (.ret (.agg [.str op, .str s, .int .i64 k, .slice 24 cs m])) S' := by
 rw [hr]
 exact ⟨z', ⟨.ret _ _ (sub_tree op s k m hcs), rfl⟩, h, hn⟩
end Go.AM.Ps
namespace Go.AM.Ps
open Go.Proofs W
theorem Ps.fn108 : FnOk Tryz.prog 108 (fni Tryz.f108 Pr.a108) := ⟨⟨Tryz.f108, Tryz.func108, rfl, rfl, rfl, by kernel_rfl⟩, by kernel_rfl⟩
theorem at_take2 {t : List Tk} (ht : Toks t) {z : Nat} {a b : List UInt8} {S : St} {o : Nat} (h : At t z (S.row o)) (ho : o < S.next) {K : Out → St → Prop}
  (hyes : ∀ r', sees t z a = true → sees t (z + 1) b = true → At t (z + 1 + 1) r' → K (.ret (.bool true)) (S.set o r')) (hno : ∀ r', sees t z a = false → At t z r' → K (.ret (.bool false)) (S.set o r'))
  (hwr : ∀ z' r', sees t z a = true → sees t (z + 1) b = false → At t z' r' → K (.panic wrongV) (S.set o r')) :
  CallP Tryz.prog (Pr.tab real) 22 [.ptr o 0, .slice 9 [.str a, .str b] .exact] S K := by
 refine at_takes ht a [b] (by simp) h ho ?_ ?_
 · intro x z' r' hx hr'
   unfold take at hx
   split at hx
   · rename_i hs
     simp only [needs, Ps.need] at hx
     split at hx
     · rename_i hs2
       simp only [Rs.bind, Rs.ok.injEq] at hx
       obtain ⟨rfl, rfl⟩ := hx
       exact hyes r' hs hs2 hr'
     · cases hx
   · rename_i hs
     simp only [Rs.ok.injEq] at hx
     obtain ⟨rfl, rfl⟩ := hx
     exact hno r' hs hr'
 · intro z' r' hx hr'
   unfold take at hx
   split at hx
   · rename_i hs
     simp only [needs, Ps.need] at hx
     split at hx
     · cases hx
     · rename_i hs2
       exact hwr z' r' hs hs2 hr'
   · cases hx
theorem lit_simple {t : List Tk} (ht : Toks t) (n : Nat) (hn : n ≤ 1000000000) (hexpr : Fn t 83 [] (expr reservedB t n)) (hbody : Fn t 73 [] (body reservedB t n)) (hitem : Fn t 133 [] (item reservedB t n)) (htable : Fn t 134 [] (table reservedB t n)) (z : Nat) (r : List AV) (h : At t z r) (hf : simple reservedB t (n + 1) z = .fuel → False) :
  CallP Tryz.prog (Pr.tab real) 108 [.ptr 0 0] (P0 r) (Post t (simple reservedB t (n + 1) z) Nd.av) := by
 have hfin := fun op s k e cs m l z' S' => finOk t (simple reservedB t (n + 1) z) op s k e cs m l z' S'
 have hbad := fun z' S' => finBad t (simple reservedB t (n + 1) z) Nd.av z' S'
 have hfin2 := fun op s k cs m l z' S' => finOk2 t (simple reservedB t (n + 1) z) op s k cs m l z' S'
 generalize Post t (simple reservedB t (n + 1) z) Nd.av = K0 at hfin hbad hfin2 ⊢
 apply body_calls (un := 0) Pr.tabOk Pr.mixed Ps.fn108 (Nat.le_of_ble_eq_true rfl)
 apply gen_body (mk := Pr.tab)
 intro fail need same call loop len slen arith shift cmp conv eqS ltS cat app elt byt subS subL strOf isB fit inb cut room not and eqB avs G
 have heqS : ∀ a b, eqS a b = (a == b) := fun a b => by rw [G.eqS']
 have hnot : ∀ b, not b = !b := fun b => by rw [G.not']
 unfold P0
 cbv
 repeat'
  (first
    | refine GenH.need' G rfl ?_
    | refine GenH.same' G rfl ?_
    | (rw [heqS]; (try rw [hnot]); split <;> ((first | contradiction | (rename_i hq; (try simp only [Bool.not_eq_true', Bool.not_eq_false'] at hq); rw [hq]) | (rename_i hq _; rw [hq]) | skip); try cbv))
    | ((refine GenH.call' G (sees0 ht (by assumption) (Nat.le_of_ble_eq_true rfl) (fun hs => ?_) (fun hs => ?_))) <;> (try cbv))
    | ((refine GenH.call' G (at_within ht (by assumption) (by assumption) (Nat.le_of_ble_eq_true rfl) (fun q => hf (by first | (simp only [simple, optPart, optGroup, Rs.bind, Ps.need, Ps.take, Ps.needs, Bool.or_true, Bool.or_false, Bool.true_or, Bool.false_or, Bool.and_true, Bool.and_false, Bool.true_and, Bool.false_and, Ps.named, Ps.node, *]; done) | (simp only [simple, optPart, optGroup, Rs.bind, Ps.need, Ps.take, Ps.needs, Bool.or_true, Bool.or_false, Bool.true_or, Bool.false_or, Bool.and_true, Bool.and_false, Bool.true_and, Bool.false_and, Ps.named, Ps.node, *]; exact rfl))) (fun op s k l cl z' r' hs hcl hr' => ?_) (fun z' r' hs hr' => ?_))) <;> (try cbv))
    | ((refine GenH.call' G (at_need ht (by assumption) (Nat.le_of_ble_eq_true rfl) (fun r' hs hr' => ?_) (fun z' r' hs hr' => ?_))) <;> (try cbv))
    | ((refine GenH.call' G (at_one ht [_, _] (by decide) (by assumption) (Nat.le_of_ble_eq_true rfl) (fun a z' r' hs hr' => ?_))) <;> (try cbv))
    | ((refine GenH.call' G (at_list ht hitem hn (by assumption) (Nat.le_of_ble_eq_true rfl) (fun q => hf (by first | (simp only [simple, optPart, optGroup, Rs.bind, Ps.need, Ps.take, Ps.needs, Bool.or_true, Bool.or_false, Bool.true_or, Bool.false_or, Bool.and_true, Bool.and_false, Bool.true_and, Bool.false_and, Ps.named, Ps.node, *]; done) | (simp only [simple, optPart, optGroup, Rs.bind, Ps.need, Ps.take, Ps.needs, Bool.or_true, Bool.or_false, Bool.true_or, Bool.false_or, Bool.and_true, Bool.and_false, Bool.true_and, Bool.false_and, Ps.named, Ps.node, *]; exact rfl))) (fun l cl z' r' hs hcl hr' => ?_) (fun z' r' hs hr' => ?_))) <;> (try cbv))
    | ((refine GenH.call' G (at_list ht htable hn (by assumption) (Nat.le_of_ble_eq_true rfl) (fun q => hf (by first | (simp only [simple, optPart, optGroup, Rs.bind, Ps.need, Ps.take, Ps.needs, Bool.or_true, Bool.or_false, Bool.true_or, Bool.false_or, Bool.and_true, Bool.and_false, Bool.true_and, Bool.false_and, Ps.named, Ps.node, *]; done) | (simp only [simple, optPart, optGroup, Rs.bind, Ps.need, Ps.take, Ps.needs, Bool.or_true, Bool.or_false, Bool.true_or, Bool.false_or, Bool.and_true, Bool.and_false, Bool.true_and, Bool.false_and, Ps.named, Ps.node, *]; exact rfl))) (fun l cl z' r' hs hcl hr' => ?_) (fun z' r' hs hr' => ?_))) <;> (try cbv))
    | ((refine GenH.call' G (at_list ht (at_column ht) hn (by assumption) (Nat.le_of_ble_eq_true rfl) (fun q => hf (by first | (simp only [simple, optPart, optGroup, Rs.bind, Ps.need, Ps.take, Ps.needs, Bool.or_true, Bool.or_false, Bool.true_or, Bool.false_or, Bool.and_true, Bool.and_false, Bool.true_and, Bool.false_and, Ps.named, Ps.node, *]; done) | (simp only [simple, optPart, optGroup, Rs.bind, Ps.need, Ps.take, Ps.needs, Bool.or_true, Bool.or_false, Bool.true_or, Bool.false_or, Bool.and_true, Bool.and_false, Bool.true_and, Bool.false_and, Ps.named, Ps.node, *]; exact rfl))) (fun l cl z' r' hs hcl hr' => ?_) (fun z' r' hs hr' => ?_))) <;> (try cbv))
    | ((refine GenH.call' G (at_take ht (by assumption) (Nat.le_of_ble_eq_true rfl) (fun r' hs hr' => ?_) (fun r' hs hr' => ?_))) <;> (try cbv))
    | ((refine GenH.call' G (at_take2 ht (by assumption) (Nat.le_of_ble_eq_true rfl) (fun r' hs hs2 hr' => ?_) (fun r' hs hr' => ?_) (fun z' r' hs hs2 hr' => ?_))) <;> (try cbv))
    | ((refine GenH.call' G (hexpr _ _ 0 _ (by assumption) (Nat.le_of_ble_eq_true rfl) (fun q => hf (by first | (simp only [simple, optPart, optGroup, Rs.bind, Ps.need, Ps.take, Ps.needs, Bool.or_true, Bool.or_false, Bool.true_or, Bool.false_or, Bool.and_true, Bool.and_false, Bool.true_and, Bool.false_and, Ps.named, Ps.node, *]; done) | (simp only [simple, optPart, optGroup, Rs.bind, Ps.need, Ps.take, Ps.needs, Bool.or_true, Bool.or_false, Bool.true_or, Bool.false_or, Bool.and_true, Bool.and_false, Bool.true_and, Bool.false_and, Ps.named, Ps.node, *]; exact rfl))) (fun op s k l cl z' r' hs hcl hr' => ?_) (fun z' r' hs hr' => ?_))) <;> (try cbv))
    | ((refine GenH.call' G (at_node [] (by subst_vars; exact rfl) (by first | exact .inl rfl | exact .inr rfl) rfl (fun cl hcl => ?_))) <;> (try cbv))
    | ((refine GenH.call' G (at_node [.mk _ _ _ _] (by subst_vars; exact rfl) (by first | exact .inl rfl | exact .inr rfl) rfl (fun cl hcl => ?_))) <;> (try cbv))
    | ((refine GenH.call' G (at_node [.mk _ _ _ _, .mk _ _ _ _] (by subst_vars; exact rfl) (by first | exact .inl rfl | exact .inr rfl) rfl (fun cl hcl => ?_))) <;> (try cbv))
    | ((refine GenH.call' G (at_node [.mk _ _ _ _, .mk _ _ _ _, .mk _ _ _ _] (by subst_vars; exact rfl) (by first | exact .inl rfl | exact .inr rfl) rfl (fun cl hcl => ?_))) <;> (try cbv))
    | ((refine GenH.call' G (at_node [.mk _ _ _ _, .mk _ _ _ _, .mk _ _ _ _, .mk _ _ _ _, .mk _ _ _ _] (by subst_vars; exact rfl) (by first | exact .inl rfl | exact .inr rfl) rfl (fun cl hcl => ?_))) <;> (try cbv))
    | ((refine GenH.call' G (at_node (.mk _ _ _ _ :: _) (by subst_vars; exact rfl) (by first | exact .inl rfl | exact .inr rfl) rfl (fun cl hcl => ?_))) <;> (try cbv))
    | ((refine GenH.call' G (at_node _ (by subst_vars; exact rfl) (by first | exact .inl rfl | exact .inr rfl) rfl (fun cl hcl => ?_))) <;> (try cbv))
    | (rw [hnot]; (try cbv))
    | fail)
 all_goals first
  | exact hbad _ _ (by first | (simp only [simple, optPart, optGroup, Rs.bind, Ps.need, Ps.take, Ps.needs, Bool.or_true, Bool.or_false, Bool.true_or, Bool.false_or, Bool.and_true, Bool.and_false, Bool.true_and, Bool.false_and, Ps.named, Ps.node, *]; done) | (simp only [simple, optPart, optGroup, Rs.bind, Ps.need, Ps.take, Ps.needs, Bool.or_true, Bool.or_false, Bool.true_or, Bool.false_or, Bool.and_true, Bool.and_false, Bool.true_and, Bool.false_and, Ps.named, Ps.node, *]; exact rfl)) (by assumption) (Nat.le_of_ble_eq_true rfl)
  | exact hfin _ _ _ _ _ _ _ _ _ (by first | (simp only [simple, optPart, optGroup, Rs.bind, Ps.need, Ps.take, Ps.needs, Bool.or_true, Bool.or_false, Bool.true_or, Bool.false_or, Bool.and_true, Bool.and_false, Bool.true_and, Bool.false_and, Ps.named, Ps.node, *]; done) | (simp only [simple, optPart, optGroup, Rs.bind, Ps.need, Ps.take, Ps.needs, Bool.or_true, Bool.or_false, Bool.true_or, Bool.false_or, Bool.and_true, Bool.and_false, Bool.true_and, Bool.false_and, Ps.named, Ps.node, *]; exact rfl)) (by subst_vars; exact rfl) (by first | exact .inl rfl | exact .inr rfl) (by assumption) (Nat.le_of_ble_eq_true rfl)
  | exact hfin2 _ _ _ _ _ _ _ _ (by first | (simp only [simple, optPart, optGroup, Rs.bind, Ps.need, Ps.take, Ps.needs, Bool.or_true, Bool.or_false, Bool.true_or, Bool.false_or, Bool.and_true, Bool.and_false, Bool.true_and, Bool.false_and, Ps.named, Ps.node, *]; done) | (simp only [simple, optPart, optGroup, Rs.bind, Ps.need, Ps.take, Ps.needs, Bool.or_true, Bool.or_false, Bool.true_or, Bool.false_or, Bool.and_true, Bool.and_false, Bool.true_and, Bool.false_and, Ps.named, Ps.node, *]; exact rfl)) (.cons (NA.mk _ _ _ _ _ _ _ (by subst_vars; exact rfl) (by first | exact .inl rfl | exact .inr rfl)) (.cons (NA.mk _ _ _ _ _ _ _ (by subst_vars; exact rfl) (by first | exact .inl rfl | exact .inr rfl)) (.cons (NA.mk _ _ _ _ _ _ _ (by subst_vars; exact rfl) (by first | exact .inl rfl | exact .inr rfl)) (.cons (NA.mk _ _ _ _ _ _ _ (by subst_vars; exact rfl) (by first | exact .inl rfl | exact .inr rfl)) (.cons (NA.mk _ _ _ _ _ _ _ (by subst_vars; exact rfl) (by first | exact .inl rfl | exact .inr rfl)) (.nil)))))) (by assumption) (Nat.le_of_ble_eq_true rfl)
end Go.AM.Ps
