/- The parser's functions: cases, joins, sets of queries. -/
import Derived.Test.YteomefghofhkiaaGreatDoorWnE
set_option maxRecDepth 100000
set_option maxHeartbeats 40000000
set_option linter.unusedVariables false
set_option linter.unusedSimpArgs false
namespace Go.AM.Ps
open Go.Proofs W
theorem Ps.fn133 : FnOk Tryz.prog 133 (fni Tryz.f133 Pr.a133) := ⟨⟨Tryz.f133, Tryz.func133, rfl, rfl, rfl, by kernel_rfl⟩, by kernel_rfl⟩
theorem Ps.fn134 : FnOk Tryz.prog 134 (fni Tryz.f134 Pr.a134) := ⟨⟨Tryz.f134, Tryz.func134, rfl, rfl, rfl, by kernel_rfl⟩, by kernel_rfl⟩
theorem Ps.fn148 : FnOk Tryz.prog 148 (fni Tryz.f148 Pr.a148) := ⟨⟨Tryz.f148, Tryz.func148, rfl, rfl, rfl, by kernel_rfl⟩, by kernel_rfl⟩
theorem star2 {t : List Tk} (ht : Toks t) {z z' : Nat} {a : List UInt8} {r' : List AV} (hn : name reservedB t z = .ok a z') (hs : sees t (z + 2) g_star = true) (h : At t z' r') :
  ∃ (y y2 : Int), r' = [tokV t, .int .i64 y] ∧ y2 = y + 2 ∧ 0 ≤ y ∧ y ≤ 1000 ∧ At t (z' + 2) [tokV t, .int .i64 y2] := by
 have hz : z' = z + 1 := by
  unfold name at hn
  split at hn
  · cases hn; rfl
  · cases hn
 have hlt : z + 2 < t.length := by
  unfold sees at hs
  rcases Nat.lt_or_ge (z + 2) t.length with w | w
  · exact w
  · rw [List.getElem?_eq_none w] at hs; cases hs
 have := ht.len
 exact ⟨z', z' + 2, h.1, rfl, by omega, by omega, ⟨rfl, by omega⟩⟩
theorem lit_item {t : List Tk} (ht : Toks t) (n : Nat) (hn : n ≤ 1000000000) (hexpr : Fn t 83 [] (expr reservedB t n)) (z : Nat) (r : List AV) (h : At t z r) (hf : item reservedB t (n + 1) z = .fuel → False) :
  CallP Tryz.prog (Pr.tab real) 133 [.ptr 0 0] (P0 r) (Post t (item reservedB t (n + 1) z) Nd.av) := by
 have hfin := fun op s k e cs m l z' S' => finOk t (item reservedB t (n + 1) z) op s k e cs m l z' S'
 have hbad := fun z' S' => finBad t (item reservedB t (n + 1) z) Nd.av z' S'
 generalize Post t (item reservedB t (n + 1) z) Nd.av = K0 at hfin hbad ⊢
 apply body_calls (un := 0) Pr.tabOk Pr.mixed Ps.fn133 (Nat.le_of_ble_eq_true rfl)
 apply gen_body (mk := Pr.tab)
 intro fail need same call loop len slen arith shift cmp conv eqS ltS cat app elt byt subS subL strOf isB fit inb cut room not and eqB avs G
 have heqS : ∀ a b, eqS a b = (a == b) := fun a b => by rw [G.eqS']
 have hnot : ∀ b, not b = !b := fun b => by rw [G.not']
 have hadd2' : ∀ y y2 : Int, y2 = y + 2 → 0 ≤ y → y ≤ 1000 → arith BinOp.add IntKind.i64 y 2 = y2 := fun y y2 a b c => by rw [G.arith', a]; exact wrap_i64 _ (by omega) (by omega)
 unfold P0
 cbv
 repeat'
  (first
    | refine GenH.need' G rfl ?_
    | refine GenH.same' G rfl ?_
    | (rw [heqS]; (try rw [hnot]); split <;> ((first | contradiction | (rename_i hq; (try simp only [Bool.not_eq_true', Bool.not_eq_false'] at hq); rw [hq]) | (rename_i hq _; rw [hq]) | skip); try cbv))
    | ((refine GenH.call' G (at_take ht (by assumption) (Nat.le_of_ble_eq_true rfl) (fun r' hs hr' => ?_) (fun r' hs hr' => ?_))) <;> (try cbv))
    | ((refine GenH.call' G (is_name0 ht (by assumption) (Nat.le_of_ble_eq_true rfl) (fun hs => ?_) (fun hs => ?_))) <;> (try cbv))
    | ((refine GenH.call' G (sees1 ht (by assumption) (Nat.le_of_ble_eq_true rfl) (fun hs => ?_) (fun hs => ?_))) <;> (try cbv))
    | ((refine GenH.call' G (sees2 ht (by assumption) (Nat.le_of_ble_eq_true rfl) (fun hs => ?_) (fun hs => ?_))) <;> (try cbv))
    | ((refine GenH.call' G (at_name ht (by assumption) (Nat.le_of_ble_eq_true rfl) (fun a z' r' hs hr' => ?_) (fun z' r' hs hr' => ?_))) <;> (try cbv))
    | ((refine GenH.call' G (hexpr _ _ 0 _ (by assumption) (Nat.le_of_ble_eq_true rfl) (fun q => hf (by first | (simp only [item, Rs.bind, Ps.need, Ps.take, Ps.needs, Bool.or_true, Bool.or_false, Bool.true_or, Bool.false_or, Bool.and_true, Bool.and_false, Bool.true_and, Bool.false_and, Ps.named, Ps.node, *]; done) | (simp only [item, Rs.bind, Ps.need, Ps.take, Ps.needs, Bool.or_true, Bool.or_false, Bool.true_or, Bool.false_or, Bool.and_true, Bool.and_false, Bool.true_and, Bool.false_and, Ps.named, Ps.node, *]; exact rfl))) (fun op s k l cl z' r' hs hcl hr' => ?_) (fun z' r' hs hr' => ?_))) <;> (try cbv))
    | ((refine GenH.call' G (at_alias ht (by assumption) (Nat.le_of_ble_eq_true rfl) (fun a z' r' hs hr' => ?_) (fun z' r' hs hr' => ?_))) <;> (try cbv))
    | ((refine GenH.call' G (at_node [] (by subst_vars; exact rfl) (by first | exact .inl rfl | exact .inr rfl) rfl (fun cl hcl => ?_))) <;> (try cbv))
    | ((refine GenH.call' G (at_node [.mk _ _ _ _] (by subst_vars; exact rfl) (by first | exact .inl rfl | exact .inr rfl) rfl (fun cl hcl => ?_))) <;> (try cbv))
    | ((refine GenH.call' G (at_node [.mk _ _ _ _, .mk _ _ _ _] (by subst_vars; exact rfl) (by first | exact .inl rfl | exact .inr rfl) rfl (fun cl hcl => ?_))) <;> (try cbv))
    | ((refine GenH.call' G (at_node [.mk _ _ _ _, .mk _ _ _ _, .mk _ _ _ _] (by subst_vars; exact rfl) (by first | exact .inl rfl | exact .inr rfl) rfl (fun cl hcl => ?_))) <;> (try cbv))
    | ((refine GenH.call' G (at_node [.mk _ _ _ _, .mk _ _ _ _, .mk _ _ _ _, .mk _ _ _ _, .mk _ _ _ _] (by subst_vars; exact rfl) (by first | exact .inl rfl | exact .inr rfl) rfl (fun cl hcl => ?_))) <;> (try cbv))
    | ((refine GenH.call' G (at_node (.mk _ _ _ _ :: _) (by subst_vars; exact rfl) (by first | exact .inl rfl | exact .inr rfl) rfl (fun cl hcl => ?_))) <;> (try cbv))
    | ((refine GenH.call' G (at_node _ (by subst_vars; exact rfl) (by first | exact .inl rfl | exact .inr rfl) rfl (fun cl hcl => ?_))) <;> (try cbv))
    | ((refine GenH.call' G (at_named [] (by subst_vars; exact rfl) (by first | exact .inl rfl | exact .inr rfl) rfl (fun cl hcl => ?_))) <;> (try cbv))
    | ((refine GenH.call' G (at_named [.mk _ _ _ _] (by subst_vars; exact rfl) (by first | exact .inl rfl | exact .inr rfl) rfl (fun cl hcl => ?_))) <;> (try cbv))
    | ((refine GenH.call' G (at_named [.mk _ _ _ _, .mk _ _ _ _] (by subst_vars; exact rfl) (by first | exact .inl rfl | exact .inr rfl) rfl (fun cl hcl => ?_))) <;> (try cbv))
    | ((refine GenH.call' G (at_named [.mk _ _ _ _, .mk _ _ _ _, .mk _ _ _ _] (by subst_vars; exact rfl) (by first | exact .inl rfl | exact .inr rfl) rfl (fun cl hcl => ?_))) <;> (try cbv))
    | ((refine GenH.call' G (at_named [.mk _ _ _ _, .mk _ _ _ _, .mk _ _ _ _, .mk _ _ _ _, .mk _ _ _ _] (by subst_vars; exact rfl) (by first | exact .inl rfl | exact .inr rfl) rfl (fun cl hcl => ?_))) <;> (try cbv))
    | ((refine GenH.call' G (at_named (.mk _ _ _ _ :: _) (by subst_vars; exact rfl) (by first | exact .inl rfl | exact .inr rfl) rfl (fun cl hcl => ?_))) <;> (try cbv))
    | ((refine GenH.call' G (at_named _ (by subst_vars; exact rfl) (by first | exact .inl rfl | exact .inr rfl) rfl (fun cl hcl => ?_))) <;> (try cbv))
    | (((obtain ⟨y, y2, hr1, hy2, hy0, hy1, hat2⟩ := star2 ht (by assumption) (by assumption) (by assumption); generalize tokV t = tv at *; subst hr1; have hadd2 := hadd2' y y2 hy2 hy0 hy1; clear hy2 hy0 hy1; cbv; refine GenH.need' G rfl ?_; rw [hadd2])) <;> (try cbv))
    | (rw [hnot]; (try cbv))
    | fail)
 all_goals first
  | exact hbad _ _ (by first | (simp only [item, Rs.bind, Ps.need, Ps.take, Ps.needs, Bool.or_true, Bool.or_false, Bool.true_or, Bool.false_or, Bool.and_true, Bool.and_false, Bool.true_and, Bool.false_and, Ps.named, Ps.node, *]; done) | (simp only [item, Rs.bind, Ps.need, Ps.take, Ps.needs, Bool.or_true, Bool.or_false, Bool.true_or, Bool.false_or, Bool.and_true, Bool.and_false, Bool.true_and, Bool.false_and, Ps.named, Ps.node, *]; exact rfl)) (by assumption) (Nat.le_of_ble_eq_true rfl)
  | exact hfin _ _ _ _ _ _ _ _ _ (by first | (simp only [item, Rs.bind, Ps.need, Ps.take, Ps.needs, Bool.or_true, Bool.or_false, Bool.true_or, Bool.false_or, Bool.and_true, Bool.and_false, Bool.true_and, Bool.false_and, Ps.named, Ps.node, *]; done) | (simp only [item, Rs.bind, Ps.need, Ps.take, Ps.needs, Bool.or_true, Bool.or_false, Bool.true_or, Bool.false_or, Bool.and_true, Bool.and_false, Bool.true_and, Bool.false_and, Ps.named, Ps.node, *]; exact rfl)) (by subst_vars; exact rfl) (by first | exact .inl rfl | exact .inr rfl) (by assumption) (Nat.le_of_ble_eq_true rfl)
theorem lit_joined {t : List Tk} (ht : Toks t) (n : Nat) (hn : n ≤ 1000000000) (hbody : Fn t 73 [] (body reservedB t n)) (htable : Fn t 134 [] (table reservedB t n)) (z : Nat) (r : List AV) (h : At t z r) (hf : joined reservedB t (n + 1) z = .fuel → False) :
  CallP Tryz.prog (Pr.tab real) 148 [.ptr 0 0] (P0 r) (Post t (joined reservedB t (n + 1) z) Nd.av) := by
 have hfin := fun op s k e cs m l z' S' => finOk t (joined reservedB t (n + 1) z) op s k e cs m l z' S'
 have hbad := fun z' S' => finBad t (joined reservedB t (n + 1) z) Nd.av z' S'
 generalize Post t (joined reservedB t (n + 1) z) Nd.av = K0 at hfin hbad ⊢
 apply body_calls (un := 0) Pr.tabOk Pr.mixed Ps.fn148 (Nat.le_of_ble_eq_true rfl)
 apply gen_body (mk := Pr.tab)
 intro fail need same call loop len slen arith shift cmp conv eqS ltS cat app elt byt subS subL strOf isB fit inb cut room not and eqB avs G
 have heqS : ∀ a b, eqS a b = (a == b) := fun a b => by rw [G.eqS']
 have hnot : ∀ b, not b = !b := fun b => by rw [G.not']
 unfold P0
 cbv
 repeat'
  (first
    | refine GenH.need' G rfl ?_
    | refine GenH.same' G rfl ?_
    | (rw [heqS]; (try rw [hnot]); split <;> ((first | contradiction | (rename_i hq; (try simp only [Bool.not_eq_true', Bool.not_eq_false'] at hq); rw [hq]) | (rename_i hq _; rw [hq]) | skip); try cbv))
    | ((refine GenH.call' G (opens_body ht (by assumption) (Nat.le_of_ble_eq_true rfl) (fun hs => ?_) (fun hs => ?_))) <;> (try cbv))
    | ((refine GenH.call' G (at_within ht (by assumption) (by assumption) (Nat.le_of_ble_eq_true rfl) (fun q => hf (by first | (simp only [joined, Rs.bind, Ps.need, Ps.take, Ps.needs, Bool.or_true, Bool.or_false, Bool.true_or, Bool.false_or, Bool.and_true, Bool.and_false, Bool.true_and, Bool.false_and, Ps.named, Ps.node, *]; done) | (simp only [joined, Rs.bind, Ps.need, Ps.take, Ps.needs, Bool.or_true, Bool.or_false, Bool.true_or, Bool.false_or, Bool.and_true, Bool.and_false, Bool.true_and, Bool.false_and, Ps.named, Ps.node, *]; exact rfl))) (fun op s k l cl z' r' hs hcl hr' => ?_) (fun z' r' hs hr' => ?_))) <;> (try cbv))
    | ((refine GenH.call' G (at_take ht (by assumption) (Nat.le_of_ble_eq_true rfl) (fun r' hs hr' => ?_) (fun r' hs hr' => ?_))) <;> (try cbv))
    | ((refine GenH.call' G (at_name ht (by assumption) (Nat.le_of_ble_eq_true rfl) (fun a z' r' hs hr' => ?_) (fun z' r' hs hr' => ?_))) <;> (try cbv))
    | ((refine GenH.call' G (sees0 ht (by assumption) (Nat.le_of_ble_eq_true rfl) (fun hs => ?_) (fun hs => ?_))) <;> (try cbv))
    | ((refine GenH.call' G (at_alias ht (by assumption) (Nat.le_of_ble_eq_true rfl) (fun a z' r' hs hr' => ?_) (fun z' r' hs hr' => ?_))) <;> (try cbv))
    | ((refine GenH.call' G (at_named [] (by subst_vars; exact rfl) (by first | exact .inl rfl | exact .inr rfl) rfl (fun cl hcl => ?_))) <;> (try cbv))
    | ((refine GenH.call' G (at_named [.mk _ _ _ _] (by subst_vars; exact rfl) (by first | exact .inl rfl | exact .inr rfl) rfl (fun cl hcl => ?_))) <;> (try cbv))
    | ((refine GenH.call' G (at_named [.mk _ _ _ _, .mk _ _ _ _] (by subst_vars; exact rfl) (by first | exact .inl rfl | exact .inr rfl) rfl (fun cl hcl => ?_))) <;> (try cbv))
    | ((refine GenH.call' G (at_named [.mk _ _ _ _, .mk _ _ _ _, .mk _ _ _ _] (by subst_vars; exact rfl) (by first | exact .inl rfl | exact .inr rfl) rfl (fun cl hcl => ?_))) <;> (try cbv))
    | ((refine GenH.call' G (at_named [.mk _ _ _ _, .mk _ _ _ _, .mk _ _ _ _, .mk _ _ _ _, .mk _ _ _ _] (by subst_vars; exact rfl) (by first | exact .inl rfl | exact .inr rfl) rfl (fun cl hcl => ?_))) <;> (try cbv))
    | ((refine GenH.call' G (at_named (.mk _ _ _ _ :: _) (by subst_vars; exact rfl) (by first | exact .inl rfl | exact .inr rfl) rfl (fun cl hcl => ?_))) <;> (try cbv))
    | ((refine GenH.call' G (at_named _ (by subst_vars; exact rfl) (by first | exact .inl rfl | exact .inr rfl) rfl (fun cl hcl => ?_))) <;> (try cbv))
    | (rw [hnot]; (try cbv))
    | fail)
 all_goals first
  | exact hbad _ _ (by first | (simp only [joined, Rs.bind, Ps.need, Ps.take, Ps.needs, Bool.or_true, Bool.or_false, Bool.true_or, Bool.false_or, Bool.and_true, Bool.and_false, Bool.true_and, Bool.false_and, Ps.named, Ps.node, *]; done) | (simp only [joined, Rs.bind, Ps.need, Ps.take, Ps.needs, Bool.or_true, Bool.or_false, Bool.true_or, Bool.false_or, Bool.and_true, Bool.and_false, Bool.true_and, Bool.false_and, Ps.named, Ps.node, *]; exact rfl)) (by assumption) (Nat.le_of_ble_eq_true rfl)
  | exact hfin _ _ _ _ _ _ _ _ _ (by first | (simp only [joined, Rs.bind, Ps.need, Ps.take, Ps.needs, Bool.or_true, Bool.or_false, Bool.true_or, Bool.false_or, Bool.and_true, Bool.and_false, Bool.true_and, Bool.false_and, Ps.named, Ps.node, *]; done) | (simp only [joined, Rs.bind, Ps.need, Ps.take, Ps.needs, Bool.or_true, Bool.or_false, Bool.true_or, Bool.false_or, Bool.and_true, Bool.and_false, Bool.true_and, Bool.false_and, Ps.named, Ps.node, *]; exact rfl)) (by subst_vars; exact rfl) (by first | exact .inl rfl | exact .inr rfl) (by assumption) (Nat.le_of_ble_eq_true rfl)
end Go.AM.Ps
namespace Go.AM.Ps
open Go.Proofs W
noncomputable def c134 : Code := (fni Tryz.f134 Pr.a134).loop 0
theorem Ps.c134 : codeOk 47 Pr.a134 c134 = true := by kernel_rfl
theorem step134 (K : Ex → Env → St → Prop) (env : Env) (S : St) (h : xcode (pAlg Tryz.prog (Pr.tab real) 47) (Pr.tab real) Pr.a134 0 c134 (andThen (LoopP Tryz.prog (Pr.tab real) 47 c134 K) K) env S) : LoopP Tryz.prog (Pr.tab real) 47 c134 K env S :=
 loopP_step Pr.tabOk Pr.mixed Ps.c134 h
theorem LoopP.front3 {P : Program} {T : Tab} {N : Nat} {c : Code} {K : Ex → Env → St → Prop} {env : Env} {S : St} (h : LoopP P T N c K env ⟨(0, S.row 0) :: (1, S.row 1) :: (2, S.row 2) :: S.objs, S.next, S.caps⟩) : LoopP P T N c K env S := by
 refine LoopP.ext (S' := ⟨(0, S.row 0) :: (1, S.row 1) :: (2, S.row 2) :: S.objs, S.next, S.caps⟩) ?_ rfl rfl h
 intro o
 have h2 := row_front S 2 o
 have h1 := row_front ⟨(2, S.row 2) :: S.objs, S.next, S.caps⟩ 1 o
 have h0 := row_front ⟨(1, S.row 1) :: (2, S.row 2) :: S.objs, S.next, S.caps⟩ 0 o
 have e1 : St.row ⟨(2, S.row 2) :: S.objs, S.next, S.caps⟩ 1 = S.row 1 := row_front S 2 1
 have e0 : St.row ⟨(1, S.row 1) :: (2, S.row 2) :: S.objs, S.next, S.caps⟩ 0 = S.row 0 := by
  have a := row_front ⟨(2, S.row 2) :: S.objs, S.next, S.caps⟩ 1 0
  rw [e1] at a
  exact a.trans (row_front S 2 0)
 rw [e0] at h0
 rw [e1] at h1
 exact h0.trans (h1.trans h2)
theorem table_loop {t : List Tk} (ht : Toks t) {jn ex : Nat → Rs Nd} (hjn : Fn t 148 [] jn) (hex : Fn t 83 [] ex) (K : Ex → Env → St → Prop) : ∀ (n : Nat) (op s : List UInt8) (k : Int) (l : List Nd) (cl : List AV) (z : Nat) (r : List AV) (S : St), cl = avL l → At t z r →
      S.row 0 = r → S.row 1 = zeroN → S.row 2 = [.str op, .str s, .int .i64 k, .slice 24 cl .no] → (∃ m, S.next = m + 3) → S.caps = [] → (tableMore t jn ex n (.mk op s k l) z = .fuel → False) →
      (∀ op' s' k' l' cl' z' r' S', tableMore t jn ex n (.mk op s k l) z = .ok (.mk op' s' k' l') z' → cl' = avL l' → At t z' r' → S'.row 0 = r' → S'.row 1 = [.str op', .str s', .int .i64 k', .slice 24 cl' .no] → 1 ≤ S'.next → K .ret [(2, .ptr 1 0)] S') →
      (∀ z' r' S', tableMore t jn ex n (.mk op s k l) z = .wrong → At t z' r' → S'.row 0 = r' → 1 ≤ S'.next → K (.panic wrongV) [] S') →
      LoopP Tryz.prog (Pr.tab real) 47 c134 (Less K) [(0, .ptr 0 0), (2, .ptr 1 0), (3, .ptr 2 0)] S := by
 intro n
 induction n with
 | zero => intro op s k l cl z r S _ _ _ _ _ _ _ hf; exact (hf rfl).elim
 | succ n ih =>
  intro op s k l cl z r S hcl h hr0 hr1 hr2 hnx hcaps hf hK1 hK2
  obtain ⟨m, hm⟩ := hnx
  refine LoopP.front3 ?_
  rw [hr0, hr1, hr2, hm, hcaps]
  obtain ⟨O, hO⟩ : ∃ O, S.objs = O := ⟨_, rfl⟩
  rw [hO]
  clear hr0 hr1 hr2 hm hcaps hO S
  have hret : ∀ op' s' k' l' cl' z' r' env S', tableMore t jn ex (n + 1) (.mk op s k l) z = .ok (.mk op' s' k' l') z' → cl' = avL l' → At t z' r' → EnvLe [(2, .ptr 1 0)] env → S'.row 0 = r' → S'.row 1 = [.str op', .str s', .int .i64 k', .slice 24 cl' .no] → 1 ≤ S'.next → Less K .ret env S' :=
   fun op' s' k' l' cl' z' r' env S' a b c d e f g => ⟨_, d, hK1 op' s' k' l' cl' z' r' S' a b c e f g⟩
  have hbad : ∀ z' r' env S', tableMore t jn ex (n + 1) (.mk op s k l) z = .wrong → At t z' r' → S'.row 0 = r' → 1 ≤ S'.next → Less K (.panic (.iface 47 (.agg []))) env S' :=
   fun z' r' env S' a b c d => ⟨[], .nil _, hK2 z' r' S' a b c d⟩
  have hcont : ∀ op' s' k' l' cl' z' r' env S', tableMore t jn ex (n + 1) (.mk op s k l) z = tableMore t jn ex n (.mk op' s' k' l') z' → cl' = avL l' → At t z' r' → EnvLe [(0, .ptr 0 0), (2, .ptr 1 0), (3, .ptr 2 0)] env → S'.row 0 = r' → S'.row 1 = zeroN → S'.row 2 = [.str op', .str s', .int .i64 k', .slice 24 cl' .no] → (∃ m, S'.next = m + 3) → S'.caps = [] →
    LoopP Tryz.prog (Pr.tab real) 47 c134 (Less K) env S' := by
   intro op' s' k' l' cl' z' r' env S' a b c d e f g i j
   rw [a] at hf hK1 hK2
   exact LoopP.weak d (ih op' s' k' l' cl' z' r' S' b c e f g i j hf hK1 hK2)
  clear ih hK1 hK2
  apply step134
  apply gen_code (mk := Pr.tab)
  intro fail need same call loop len slen arith shift cmp conv eqS ltS cat app elt byt subS subL strOf isB fit inb cut room not and eqB avs G
  have heqS : ∀ a b, eqS a b = (a == b) := fun a b => by rw [G.eqS']
  have hnot : ∀ b, not b = !b := fun b => by rw [G.not']
  have hnn : Nat.beq m m = true := Nat.beq_refl m
  have hbb : Nat.ble m m = true := Nat.ble_eq_true_of_le (Nat.le_refl m)
  cbv at hnn hbb
  generalize hL : LoopP Tryz.prog (Pr.tab real) 47 c134 (Less K) = L at *
  generalize hK' : Less K = K' at *
  unfold zeroN at *
  clear hL hK'
  cbv
  repeat'
   (first
     | refine GenH.need' G rfl ?_
     | refine GenH.same' G rfl ?_
     | (rw [hnn]; (try cbv))
     | (rw [hbb]; (try cbv))
     | (rw [heqS]; (try rw [hnot]); split <;> ((first | contradiction | (rename_i hq; (try simp only [Bool.not_eq_true', Bool.not_eq_false'] at hq); rw [hq]) | (rename_i hq _; rw [hq]) | skip); try cbv))
     | ((refine GenH.call' G (at_one ht [_, _, _, _, _, _] (by decide) (by assumption) (Nat.le_of_ble_eq_true rfl) (fun a z' r' hs hr' => ?_))) <;> (try cbv))
     | ((refine GenH.call' G (at_need ht (by assumption) (Nat.le_of_ble_eq_true rfl) (fun r' hs hr' => ?_) (fun z' r' hs hr' => ?_))) <;> (try cbv))
     | ((refine GenH.call' G (at_take ht (by assumption) (Nat.le_of_ble_eq_true rfl) (fun r' hs hr' => ?_) (fun r' hs hr' => ?_))) <;> (try cbv))
     | ((refine GenH.call' G (hjn _ _ 0 _ (by assumption) (Nat.le_of_ble_eq_true rfl) (fun q => hf (by first | (simp only [tableMore, Rs.bind, Ps.need, Ps.take, Ps.needs, Ps.named, Ps.node, Bool.or_true, Bool.or_false, Bool.true_or, Bool.false_or, Bool.and_true, Bool.and_false, Bool.true_and, Bool.false_and, *]; done) | (simp only [tableMore, Rs.bind, Ps.need, Ps.take, Ps.needs, Ps.named, Ps.node, Bool.or_true, Bool.or_false, Bool.true_or, Bool.false_or, Bool.and_true, Bool.and_false, Bool.true_and, Bool.false_and, *]; exact rfl))) (fun op s k l cl z' r' hs hcl hr' => ?_) (fun z' r' hs hr' => ?_))) <;> (try cbv))
     | ((refine GenH.call' G (hex _ _ 0 _ (by assumption) (Nat.le_of_ble_eq_true rfl) (fun q => hf (by first | (simp only [tableMore, Rs.bind, Ps.need, Ps.take, Ps.needs, Ps.named, Ps.node, Bool.or_true, Bool.or_false, Bool.true_or, Bool.false_or, Bool.and_true, Bool.and_false, Bool.true_and, Bool.false_and, *]; done) | (simp only [tableMore, Rs.bind, Ps.need, Ps.take, Ps.needs, Ps.named, Ps.node, Bool.or_true, Bool.or_false, Bool.true_or, Bool.false_or, Bool.and_true, Bool.and_false, Bool.true_and, Bool.false_and, *]; exact rfl))) (fun op s k l cl z' r' hs hcl hr' => ?_) (fun z' r' hs hr' => ?_))) <;> (try cbv))
     | ((refine GenH.call' G (at_node [] (by subst_vars; exact rfl) (by first | exact .inl rfl | exact .inr rfl) rfl (fun cl hcl => ?_))) <;> (try cbv))
     | ((refine GenH.call' G (at_node [.mk _ _ _ _] (by subst_vars; exact rfl) (by first | exact .inl rfl | exact .inr rfl) rfl (fun cl hcl => ?_))) <;> (try cbv))
     | ((refine GenH.call' G (at_node [.mk _ _ _ _, .mk _ _ _ _] (by subst_vars; exact rfl) (by first | exact .inl rfl | exact .inr rfl) rfl (fun cl hcl => ?_))) <;> (try cbv))
     | ((refine GenH.call' G (at_node [.mk _ _ _ _, .mk _ _ _ _, .mk _ _ _ _] (by subst_vars; exact rfl) (by first | exact .inl rfl | exact .inr rfl) rfl (fun cl hcl => ?_))) <;> (try cbv))
     | ((refine GenH.call' G (at_node [.mk _ _ _ _, .mk _ _ _ _, .mk _ _ _ _, .mk _ _ _ _, .mk _ _ _ _] (by subst_vars; exact rfl) (by first | exact .inl rfl | exact .inr rfl) rfl (fun cl hcl => ?_))) <;> (try cbv))
     | ((refine GenH.call' G (at_node (.mk _ _ _ _ :: _) (by subst_vars; exact rfl) (by first | exact .inl rfl | exact .inr rfl) rfl (fun cl hcl => ?_))) <;> (try cbv))
     | ((refine GenH.call' G (at_node _ (by subst_vars; exact rfl) (by first | exact .inl rfl | exact .inr rfl) rfl (fun cl hcl => ?_))) <;> (try cbv))
     | (rw [hnot]; (try cbv))
     | fail)
  all_goals first
   | exact hbad _ _ _ _ (by first | (simp only [tableMore, Rs.bind, Ps.need, Ps.take, Ps.needs, Ps.named, Ps.node, Bool.or_true, Bool.or_false, Bool.true_or, Bool.false_or, Bool.and_true, Bool.and_false, Bool.true_and, Bool.false_and, *]; done) | (simp only [tableMore, Rs.bind, Ps.need, Ps.take, Ps.needs, Ps.named, Ps.node, Bool.or_true, Bool.or_false, Bool.true_or, Bool.false_or, Bool.and_true, Bool.and_false, Bool.true_and, Bool.false_and, *]; exact rfl)) (by assumption) rfl (Nat.le_of_ble_eq_true rfl)
   | exact hret _ _ _ _ _ _ _ _ _ (by first | (simp only [tableMore, Rs.bind, Ps.need, Ps.take, Ps.needs, Ps.named, Ps.node, Bool.or_true, Bool.or_false, Bool.true_or, Bool.false_or, Bool.and_true, Bool.and_false, Bool.true_and, Bool.false_and, *]; done) | (simp only [tableMore, Rs.bind, Ps.need, Ps.take, Ps.needs, Ps.named, Ps.node, Bool.or_true, Bool.or_false, Bool.true_or, Bool.false_or, Bool.and_true, Bool.and_false, Bool.true_and, Bool.false_and, *]; exact rfl)) (by subst_vars; exact rfl) (by assumption) (.cons rfl (.nil _)) rfl rfl (Nat.le_of_ble_eq_true rfl)
   | exact hcont _ _ _ _ _ _ _ _ _ (by first | (simp only [tableMore, Rs.bind, Ps.need, Ps.take, Ps.needs, Ps.named, Ps.node, Bool.or_true, Bool.or_false, Bool.true_or, Bool.false_or, Bool.and_true, Bool.and_false, Bool.true_and, Bool.false_and, *]; done) | (simp only [tableMore, Rs.bind, Ps.need, Ps.take, Ps.needs, Ps.named, Ps.node, Bool.or_true, Bool.or_false, Bool.true_or, Bool.false_or, Bool.and_true, Bool.and_false, Bool.true_and, Bool.false_and, *]; exact rfl)) (by subst_vars; exact rfl) (by assumption) (.cons rfl (.cons rfl (.cons rfl (.nil _)))) rfl rfl rfl ⟨_, rfl⟩ rfl
end Go.AM.Ps
namespace Go.AM.Ps
open Go.Proofs W
theorem xret_node {A : Alg Prop} {X : Sg} {env : Env} {S : St} {K : Out → St → Prop} {a o : Nat} {v1 v2 v3 v4 : AV} (he : env.get a = .ptr o 0) (hr : S.row o = [v1, v2, v3, v4]) (hK : K (.ret (.agg [v1, v2, v3, v4])) S) :
  xret A (Pr.tab X) [.cell a 24] env S K := by
 have hh : (Pr.tab X).has 24 = true := rfl
 have hs : (Pr.tab X).size 24 = 4 := rfl
 have hp : part (Pr.tab X) 24 [v1, v2, v3, v4] 0 = .agg [v1, v2, v3, v4] := rfl
 simp only [xret, resAll, resVar, hh, he, hr, hs, hp, lenN]
 exact hK
theorem lit_table {t : List Tk} (ht : Toks t) (n : Nat) (hn : n ≤ 1000000000) (hexpr : Fn t 83 [] (expr reservedB t n)) (hjoined : Fn t 148 [] (joined reservedB t n)) (z : Nat) (r : List AV) (h : At t z r) (hf : table reservedB t (n + 1) z = .fuel → False) :
  CallP Tryz.prog (Pr.tab real) 134 [.ptr 0 0] (P0 r) (Post t (table reservedB t (n + 1) z) Nd.av) := by
 have hfin := fun op s k e cs m l z' S' => finOk t (table reservedB t (n + 1) z) op s k e cs m l z' S'
 have hbad := fun z' S' => finBad t (table reservedB t (n + 1) z) Nd.av z' S'
 generalize Post t (table reservedB t (n + 1) z) Nd.av = K0 at hfin hbad ⊢
 apply body_calls (un := 0) Pr.tabOk Pr.mixed Ps.fn134 (Nat.le_of_ble_eq_true rfl)
 apply gen_body (mk := Pr.tab)
 intro fail need same call loop len slen arith shift cmp conv eqS ltS cat app elt byt subS subL strOf isB fit inb cut room not and eqB avs G
 have heqS : ∀ a b, eqS a b = (a == b) := fun a b => by rw [G.eqS']
 have hnot : ∀ b, not b = !b := fun b => by rw [G.not']
 unfold P0
 cbv
 repeat'
  (first
    | refine GenH.need' G rfl ?_
    | refine GenH.same' G rfl ?_
    | (rw [heqS]; (try rw [hnot]); split <;> ((first | contradiction | (rename_i hq; (try simp only [Bool.not_eq_true', Bool.not_eq_false'] at hq); rw [hq]) | (rename_i hq _; rw [hq]) | skip); try cbv))
    | ((refine GenH.call' G (hjoined _ _ 0 _ (by assumption) (Nat.le_of_ble_eq_true rfl) (fun q => hf (by first | (simp only [table, Rs.bind, Ps.need, Ps.take, Ps.needs, Bool.or_true, Bool.or_false, Bool.true_or, Bool.false_or, Bool.and_true, Bool.and_false, Bool.true_and, Bool.false_and, Ps.named, Ps.node, *]; done) | (simp only [table, Rs.bind, Ps.need, Ps.take, Ps.needs, Bool.or_true, Bool.or_false, Bool.true_or, Bool.false_or, Bool.and_true, Bool.and_false, Bool.true_and, Bool.false_and, Ps.named, Ps.node, *]; exact rfl))) (fun op s k l cl z' r' hs hcl hr' => ?_) (fun z' r' hs hr' => ?_))) <;> (try cbv))
    | (((refine GenH.loop' G ?_; change LoopP Tryz.prog (Pr.tab real) 47 c134 _ _ _; refine LoopP.relax (LoopP.weak (.cons rfl (.cons rfl (.cons rfl (.nil _)))) (table_loop ht hjoined hexpr _ n _ _ _ _ _ _ _ _ (by assumption) (by assumption) rfl rfl rfl ⟨_, rfl⟩ rfl (fun q => hf (by first | (simp only [table, Rs.bind, Ps.need, Ps.take, Ps.needs, Bool.or_true, Bool.or_false, Bool.true_or, Bool.false_or, Bool.and_true, Bool.and_false, Bool.true_and, Bool.false_and, Ps.named, Ps.node, *]; done) | (simp only [table, Rs.bind, Ps.need, Ps.take, Ps.needs, Bool.or_true, Bool.or_false, Bool.true_or, Bool.false_or, Bool.and_true, Bool.and_false, Bool.true_and, Bool.false_and, Ps.named, Ps.node, *]; exact rfl))) (fun op' s' k' l' cl' z' r' S' hs hcl hr' e0 e1 en => ?_) (fun z' r' S' hs hr' e0 en => ?_))) <;> (first | (refine xret_node rfl (by assumption) ?_) | skip))) <;> (try cbv))
    | (rw [hnot]; (try cbv))
    | fail)
 all_goals first
  | exact hbad _ _ (by first | (simp only [table, Rs.bind, Ps.need, Ps.take, Ps.needs, Bool.or_true, Bool.or_false, Bool.true_or, Bool.false_or, Bool.and_true, Bool.and_false, Bool.true_and, Bool.false_and, Ps.named, Ps.node, *]; done) | (simp only [table, Rs.bind, Ps.need, Ps.take, Ps.needs, Bool.or_true, Bool.or_false, Bool.true_or, Bool.false_or, Bool.and_true, Bool.and_false, Bool.true_and, Bool.false_and, Ps.named, Ps.node, *]; exact rfl)) (by assumption) (Nat.le_of_ble_eq_true rfl)
  | exact hfin _ _ _ _ _ _ _ _ _ (by first | (simp only [table, Rs.bind, Ps.need, Ps.take, Ps.needs, Bool.or_true, Bool.or_false, Bool.true_or, Bool.false_or, Bool.and_true, Bool.and_false, Bool.true_and, Bool.false_and, Ps.named, Ps.node, *]; done) | (simp only [table, Rs.bind, Ps.need, Ps.take, Ps.needs, Bool.or_true, Bool.or_false, Bool.true_or, Bool.false_or, Bool.and_true, Bool.and_false, Bool.true_and, Bool.false_and, Ps.named, Ps.node, *]; exact rfl)) (by subst_vars; exact rfl) (by first | exact .inl rfl | exact .inr rfl) (by assumption) (Nat.le_of_ble_eq_true rfl)
  | exact hfin _ _ _ _ _ _ _ _ _ (by first | (simp only [table, Rs.bind, Ps.need, Ps.take, Ps.needs, Bool.or_true, Bool.or_false, Bool.true_or, Bool.false_or, Bool.and_true, Bool.and_false, Bool.true_and, Bool.false_and, Ps.named, Ps.node, *]; done) | (simp only [table, Rs.bind, Ps.need, Ps.take, Ps.needs, Bool.or_true, Bool.or_false, Bool.true_or, Bool.false_or, Bool.and_true, Bool.and_false, Bool.true_and, Bool.false_and, Ps.named, Ps.node, *]; exact rfl)) (by assumption) (.inl rfl) (by rw [e0]; assumption) en
  | exact hbad _ _ (by first | (simp only [table, Rs.bind, Ps.need, Ps.take, Ps.needs, Bool.or_true, Bool.or_false, Bool.true_or, Bool.false_or, Bool.and_true, Bool.and_false, Bool.true_and, Bool.false_and, Ps.named, Ps.node, *]; done) | (simp only [table, Rs.bind, Ps.need, Ps.take, Ps.needs, Bool.or_true, Bool.or_false, Bool.true_or, Bool.false_or, Bool.and_true, Bool.and_false, Bool.true_and, Bool.false_and, Ps.named, Ps.node, *]; exact rfl)) (by rw [e0]; assumption) en
end Go.AM.Ps
namespace Go.AM.Ps
open Go.Proofs W
theorem Ps.fn106 : FnOk Tryz.prog 106 (fni Tryz.f106 Pr.a106) := ⟨⟨Tryz.f106, Tryz.func106, rfl, rfl, rfl, by kernel_rfl⟩, by kernel_rfl⟩
theorem Ps.fn73 : FnOk Tryz.prog 73 (fni Tryz.f73 Pr.a73) := ⟨⟨Tryz.f73, Tryz.func73, rfl, rfl, rfl, by kernel_rfl⟩, by kernel_rfl⟩
theorem Ps.fn107 : FnOk Tryz.prog 107 (fni Tryz.f107 Pr.a107) := ⟨⟨Tryz.f107, Tryz.func107, rfl, rfl, rfl, by kernel_rfl⟩, by kernel_rfl⟩
noncomputable def c106 : Code := (fni Tryz.f106 Pr.a106).loop 0
theorem Ps.c106 : codeOk 30 Pr.a106 c106 = true := by kernel_rfl
theorem step106 (K : Ex → Env → St → Prop) (env : Env) (S : St) (h : xcode (pAlg Tryz.prog (Pr.tab real) 30) (Pr.tab real) Pr.a106 0 c106 (andThen (LoopP Tryz.prog (Pr.tab real) 30 c106 K) K) env S) : LoopP Tryz.prog (Pr.tab real) 30 c106 K env S :=
 loopP_step Pr.tabOk Pr.mixed Ps.c106 h
theorem LoopP.retell {P : Program} {T : Tab} {N : Nat} {c : Code} {K : Ex → Env → St → Prop} {env : Env} {S : St} {o : Nat} {row : List AV} (hne : S.row o ≠ []) (hl : row.length = (S.row o).length)
  (hR : ∀ j, j < row.length → Sub T (nth (S.row o) j) (nth row j)) (h : LoopP P T N c K env (S.set o row)) : LoopP P T N c K env S := fun C hC g a w hI =>
 h C hC g a w (hI.retell hne hl fun j hj x hx => hR j hj _ _ _ hx)
theorem sub_row (op s : List UInt8) (k : Int) (e : TypeId) (cs : List AV) (m : Mode) (he : e = 24 ∨ cs = []) : ∀ j, j < 4 → Sub (Pr.tab real) (nth [.str op, .str s, .int .i64 k, .slice e cs m] j) (nth [.str op, .str s, .int .i64 k, .slice 24 cs .no] j) := by
 intro j hj
 match j, hj with
 | 0, _ => exact Sub.refl _ _
 | 1, _ => exact Sub.refl _ _
 | 2, _ => exact Sub.refl _ _
 | 3, _ =>
  rcases he with rfl | rfl
  · exact sub_slice _ _ _ _
  · exact sub_empty _ _ _ _
theorem LoopP.front4 {P : Program} {T : Tab} {N : Nat} {c : Code} {K : Ex → Env → St → Prop} {env : Env} {S : St} (h : LoopP P T N c K env ⟨(0, S.row 0) :: (1, S.row 1) :: (2, S.row 2) :: (3, S.row 3) :: S.objs, S.next, S.caps⟩) : LoopP P T N c K env S := by
 have e3 : ∀ p, St.row ⟨(3, S.row 3) :: S.objs, S.next, S.caps⟩ p = S.row p := row_front S 3
 refine LoopP.ext (S' := ⟨(3, S.row 3) :: S.objs, S.next, S.caps⟩) e3 rfl rfl (LoopP.front3 ?_)
 rw [e3, e3, e3]
 exact h
theorem sets_loopM {t : List Tk} (ht : Toks t) {fid : FuncId} {part : Nat → Rs Nd} (hp : Fn t fid [] part) (K : Ex → Env → St → Prop) : ∀ (n : Nat) (op s : List UInt8) (k : Int) (l : List Nd) (cl : List AV) (z : Nat) (r : List AV) (S : St), cl = avL l → At t z r →
      S.row 0 = r → S.row 1 = zeroN → S.row 2 = [.str op, .str s, .int .i64 k, .slice 24 cl .no] → (∃ m, S.next = m + 3) → S.caps = [] → (setsMore t part [k_intersect] n (.mk op s k l) z = .fuel → False) →
      (∀ op' s' k' l' cl' z' r' S', setsMore t part [k_intersect] n (.mk op s k l) z = .ok (.mk op' s' k' l') z' → cl' = avL l' → At t z' r' → S'.row 0 = r' → S'.row 1 = [.str op', .str s', .int .i64 k', .slice 24 cl' .no] → 2 ≤ S'.next → K .ret [(6, .ptr 1 0)] S') →
      (∀ z' r' S', setsMore t part [k_intersect] n (.mk op s k l) z = .wrong → At t z' r' → S'.row 0 = r' → 2 ≤ S'.next → K (.panic wrongV) [] S') →
      LoopP Tryz.prog (Pr.tab real) 30 c106 (Less K) [(0, .ptr 0 0), (1, .func fid [.ptr 0 0] []), (2, .slice 9 [AV.str k_intersect] .exact), (6, .ptr 1 0), (7, .ptr 2 0)] S := by
 intro n
 induction n with
 | zero => intro op s k l cl z r S _ _ _ _ _ _ _ hf; exact (hf rfl).elim
 | succ n ih =>
  intro op s k l cl z r S hcl h hr0 hr1 hr2 hnx hcaps hf hK1 hK2
  obtain ⟨m, hm⟩ := hnx
  refine LoopP.front3 ?_
  rw [hr0, hr1, hr2, hm, hcaps]
  obtain ⟨O, hO⟩ : ∃ O, S.objs = O := ⟨_, rfl⟩
  rw [hO]
  clear hr0 hr1 hr2 hm hcaps hO S
  have hret : ∀ op' s' k' l' cl' z' r' env S', setsMore t part [k_intersect] (n + 1) (.mk op s k l) z = .ok (.mk op' s' k' l') z' → cl' = avL l' → At t z' r' → EnvLe [(6, .ptr 1 0)] env → S'.row 0 = r' → S'.row 1 = [.str op', .str s', .int .i64 k', .slice 24 cl' .no] → 2 ≤ S'.next → Less K .ret env S' :=
   fun op' s' k' l' cl' z' r' env S' a b c d e f g => ⟨_, d, hK1 op' s' k' l' cl' z' r' S' a b c e f g⟩
  have hbad : ∀ z' r' env S', setsMore t part [k_intersect] (n + 1) (.mk op s k l) z = .wrong → At t z' r' → S'.row 0 = r' → 2 ≤ S'.next → Less K (.panic (.iface 47 (.agg []))) env S' :=
   fun z' r' env S' a b c d => ⟨[], .nil _, hK2 z' r' S' a b c d⟩
  have hcont : ∀ op' s' k' l' cl' e' m' z' r' env S', setsMore t part [k_intersect] (n + 1) (.mk op s k l) z = setsMore t part [k_intersect] n (.mk op' s' k' l') z' → cl' = avL l' → (e' = 24 ∨ cl' = []) → At t z' r' → EnvLe [(0, .ptr 0 0), (1, .func fid [.ptr 0 0] []), (2, .slice 9 [AV.str k_intersect] .exact), (6, .ptr 1 0), (7, .ptr 2 0)] env → S'.row 0 = r' → S'.row 1 = zeroN → S'.row 2 = [.str op', .str s', .int .i64 k', .slice e' cl' m'] → (∃ m, S'.next = m + 3) → S'.caps = [] →
    LoopP Tryz.prog (Pr.tab real) 30 c106 (Less K) env S' := by
   intro op' s' k' l' cl' e' m' z' r' env S' a b he c d e f g i j
   rw [a] at hf hK1 hK2
   have hset : ∀ p, (S'.set 2 [.str op', .str s', .int .i64 k', .slice 24 cl' .no]).row p = if 2 = p then [.str op', .str s', .int .i64 k', .slice 24 cl' .no] else S'.row p := fun p => row_set_ne _ _ _ _ (by rw [g]; simp)
   refine LoopP.retell (o := 2) (row := [.str op', .str s', .int .i64 k', .slice 24 cl' .no]) (by rw [g]; simp) (by rw [g]; rfl) (by rw [g]; exact sub_row _ _ _ _ _ _ he) ?_
   exact LoopP.weak d (ih op' s' k' l' cl' z' r' _ b c (by rw [hset]; exact e) (by rw [hset]; exact f) (by rw [hset]; rfl) i j hf hK1 hK2)
  clear ih hK1 hK2
  apply step106
  apply gen_code (mk := Pr.tab)
  intro fail need same call loop len slen arith shift cmp conv eqS ltS cat app elt byt subS subL strOf isB fit inb cut room not and eqB avs G
  have heqS : ∀ a b, eqS a b = (a == b) := fun a b => by rw [G.eqS']
  have hnot : ∀ b, not b = !b := fun b => by rw [G.not']
  have hnn : Nat.beq m m = true := Nat.beq_refl m
  have hbb : Nat.ble m m = true := Nat.ble_eq_true_of_le (Nat.le_refl m)
  cbv at hnn hbb
  generalize hL : LoopP Tryz.prog (Pr.tab real) 30 c106 (Less K) = L at *
  generalize hK' : Less K = K' at *
  unfold zeroN at *
  clear hL hK'
  cbv
  repeat'
   (first
     | refine GenH.need' G rfl ?_
     | refine GenH.same' G rfl ?_
     | (rw [hnn]; (try cbv))
     | (rw [hbb]; (try cbv))
     | (rw [heqS]; (try rw [hnot]); split <;> ((first | contradiction | (rename_i hq; (try simp only [Bool.not_eq_true', Bool.not_eq_false'] at hq); rw [hq]) | (rename_i hq _; rw [hq]) | skip); try cbv))
     | ((refine GenH.call' G (at_one ht [_] (by decide) (by assumption) (Nat.le_of_ble_eq_true rfl) (fun a z' r' hs hr' => ?_))) <;> (try cbv))
     | ((refine GenH.call' G (at_take ht (by assumption) (Nat.le_of_ble_eq_true rfl) (fun r' hs hr' => ?_) (fun r' hs hr' => ?_))) <;> (try cbv))
     | ((refine GenH.call' G (hp _ _ 0 _ (by assumption) (Nat.le_of_ble_eq_true rfl) (fun q => hf (by first | (simp only [setsMore, Rs.bind, Ps.need, Ps.take, Ps.needs, Ps.named, Ps.node, Bool.or_true, Bool.or_false, Bool.true_or, Bool.false_or, Bool.and_true, Bool.and_false, Bool.true_and, Bool.false_and, *]; done) | (simp only [setsMore, Rs.bind, Ps.need, Ps.take, Ps.needs, Ps.named, Ps.node, Bool.or_true, Bool.or_false, Bool.true_or, Bool.false_or, Bool.and_true, Bool.and_false, Bool.true_and, Bool.false_and, *]; exact rfl))) (fun op s k l cl z' r' hs hcl hr' => ?_) (fun z' r' hs hr' => ?_))) <;> (try cbv))
     | ((refine GenH.call' G (at_node [] (by subst_vars; exact rfl) (by first | exact .inl rfl | exact .inr rfl) rfl (fun cl hcl => ?_))) <;> (try cbv))
     | ((refine GenH.call' G (at_node [.mk _ _ _ _] (by subst_vars; exact rfl) (by first | exact .inl rfl | exact .inr rfl) rfl (fun cl hcl => ?_))) <;> (try cbv))
     | ((refine GenH.call' G (at_node [.mk _ _ _ _, .mk _ _ _ _] (by subst_vars; exact rfl) (by first | exact .inl rfl | exact .inr rfl) rfl (fun cl hcl => ?_))) <;> (try cbv))
     | ((refine GenH.call' G (at_node [.mk _ _ _ _, .mk _ _ _ _, .mk _ _ _ _] (by subst_vars; exact rfl) (by first | exact .inl rfl | exact .inr rfl) rfl (fun cl hcl => ?_))) <;> (try cbv))
     | ((refine GenH.call' G (at_node [.mk _ _ _ _, .mk _ _ _ _, .mk _ _ _ _, .mk _ _ _ _, .mk _ _ _ _] (by subst_vars; exact rfl) (by first | exact .inl rfl | exact .inr rfl) rfl (fun cl hcl => ?_))) <;> (try cbv))
     | ((refine GenH.call' G (at_node (.mk _ _ _ _ :: _) (by subst_vars; exact rfl) (by first | exact .inl rfl | exact .inr rfl) rfl (fun cl hcl => ?_))) <;> (try cbv))
     | ((refine GenH.call' G (at_node _ (by subst_vars; exact rfl) (by first | exact .inl rfl | exact .inr rfl) rfl (fun cl hcl => ?_))) <;> (try cbv))
     | (rw [hnot]; (try cbv))
     | fail)
  all_goals first
   | exact hbad _ _ _ _ (by first | (simp only [setsMore, Rs.bind, Ps.need, Ps.take, Ps.needs, Ps.named, Ps.node, Bool.or_true, Bool.or_false, Bool.true_or, Bool.false_or, Bool.and_true, Bool.and_false, Bool.true_and, Bool.false_and, *]; done) | (simp only [setsMore, Rs.bind, Ps.need, Ps.take, Ps.needs, Ps.named, Ps.node, Bool.or_true, Bool.or_false, Bool.true_or, Bool.false_or, Bool.and_true, Bool.and_false, Bool.true_and, Bool.false_and, *]; exact rfl)) (by assumption) rfl (Nat.le_of_ble_eq_true rfl)
   | exact hret _ _ _ _ _ _ _ _ _ (by first | (simp only [setsMore, Rs.bind, Ps.need, Ps.take, Ps.needs, Ps.named, Ps.node, Bool.or_true, Bool.or_false, Bool.true_or, Bool.false_or, Bool.and_true, Bool.and_false, Bool.true_and, Bool.false_and, *]; done) | (simp only [setsMore, Rs.bind, Ps.need, Ps.take, Ps.needs, Ps.named, Ps.node, Bool.or_true, Bool.or_false, Bool.true_or, Bool.false_or, Bool.and_true, Bool.and_false, Bool.true_and, Bool.false_and, *]; exact rfl)) (by subst_vars; exact rfl) (by assumption) (.cons rfl (.nil _)) rfl rfl (Nat.le_of_ble_eq_true rfl)
   | exact hcont _ _ _ _ _ _ _ _ _ _ _ (by first | (simp only [setsMore, Rs.bind, Ps.need, Ps.take, Ps.needs, Ps.named, Ps.node, Bool.or_true, Bool.or_false, Bool.true_or, Bool.false_or, Bool.and_true, Bool.and_false, Bool.true_and, Bool.false_and, *]; done) | (simp only [setsMore, Rs.bind, Ps.need, Ps.take, Ps.needs, Ps.named, Ps.node, Bool.or_true, Bool.or_false, Bool.true_or, Bool.false_or, Bool.and_true, Bool.and_false, Bool.true_and, Bool.false_and, *]; exact rfl)) (by subst_vars; exact rfl) (.inl rfl) (by assumption) (.cons rfl (.cons rfl (.cons rfl (.cons rfl (.cons rfl (.nil _)))))) rfl rfl rfl ⟨_, rfl⟩ rfl
theorem sets_loopC {t : List Tk} (ht : Toks t) {fid : FuncId} {part : Nat → Rs Nd} (hp : FnC t fid part) (K : Ex → Env → St → Prop) : ∀ (n : Nat) (op s : List UInt8) (k : Int) (l : List Nd) (cl : List AV) (z : Nat) (r : List AV) (S : St), cl = avL l → At t z r →
      S.row 0 = r → S.row 1 = [.ptr 0 0] → S.row 2 = zeroN → S.row 3 = [.str op, .str s, .int .i64 k, .slice 24 cl .no] → (∃ m, S.next = m + 4) → S.caps = [] → (setsMore t part [k_union, k_except] n (.mk op s k l) z = .fuel → False) →
      (∀ op' s' k' l' cl' z' r' S', setsMore t part [k_union, k_except] n (.mk op s k l) z = .ok (.mk op' s' k' l') z' → cl' = avL l' → At t z' r' → S'.row 0 = r' → S'.row 1 = [.ptr 0 0] → S'.row 2 = [.str op', .str s', .int .i64 k', .slice 24 cl' .no] → 3 ≤ S'.next → K .ret [(6, .ptr 2 0)] S') →
      (∀ z' r' S', setsMore t part [k_union, k_except] n (.mk op s k l) z = .wrong → At t z' r' → S'.row 0 = r' → S'.row 1 = [.ptr 0 0] → 3 ≤ S'.next → K (.panic wrongV) [] S') →
      LoopP Tryz.prog (Pr.tab real) 30 c106 (Less K) [(0, .ptr 0 0), (1, .func fid [] [.ptr 1 0]), (2, .slice 9 [AV.str k_union, AV.str k_except] .exact), (6, .ptr 2 0), (7, .ptr 3 0)] S := by
 intro n
 induction n with
 | zero => intro op s k l cl z r S _ _ _ _ _ _ _ _ hf; exact (hf rfl).elim
 | succ n ih =>
  intro op s k l cl z r S hcl h hr0 hrb hr1 hr2 hnx hcaps hf hK1 hK2
  obtain ⟨m, hm⟩ := hnx
  refine LoopP.front4 ?_
  rw [hr0, hrb, hr1, hr2, hm, hcaps]
  obtain ⟨O, hO⟩ : ∃ O, S.objs = O := ⟨_, rfl⟩
  rw [hO]
  clear hr0 hrb hr1 hr2 hm hcaps hO S
  have hret : ∀ op' s' k' l' cl' z' r' env S', setsMore t part [k_union, k_except] (n + 1) (.mk op s k l) z = .ok (.mk op' s' k' l') z' → cl' = avL l' → At t z' r' → EnvLe [(6, .ptr 2 0)] env → S'.row 0 = r' → S'.row 1 = [.ptr 0 0] → S'.row 2 = [.str op', .str s', .int .i64 k', .slice 24 cl' .no] → 3 ≤ S'.next → Less K .ret env S' :=
   fun op' s' k' l' cl' z' r' env S' a b c d e x f g => ⟨_, d, hK1 op' s' k' l' cl' z' r' S' a b c e x f g⟩
  have hbad : ∀ z' r' env S', setsMore t part [k_union, k_except] (n + 1) (.mk op s k l) z = .wrong → At t z' r' → S'.row 0 = r' → S'.row 1 = [.ptr 0 0] → 3 ≤ S'.next → Less K (.panic (.iface 47 (.agg []))) env S' :=
   fun z' r' env S' a b c x d => ⟨[], .nil _, hK2 z' r' S' a b c x d⟩
  have hcont : ∀ op' s' k' l' cl' e' m' z' r' env S', setsMore t part [k_union, k_except] (n + 1) (.mk op s k l) z = setsMore t part [k_union, k_except] n (.mk op' s' k' l') z' → cl' = avL l' → (e' = 24 ∨ cl' = []) → At t z' r' → EnvLe [(0, .ptr 0 0), (1, .func fid [] [.ptr 1 0]), (2, .slice 9 [AV.str k_union, AV.str k_except] .exact), (6, .ptr 2 0), (7, .ptr 3 0)] env → S'.row 0 = r' → S'.row 1 = [.ptr 0 0] → S'.row 2 = zeroN → S'.row 3 = [.str op', .str s', .int .i64 k', .slice e' cl' m'] → (∃ m, S'.next = m + 4) → S'.caps = [] →
    LoopP Tryz.prog (Pr.tab real) 30 c106 (Less K) env S' := by
   intro op' s' k' l' cl' e' m' z' r' env S' a b he c d e x f g i j
   rw [a] at hf hK1 hK2
   have hset : ∀ p, (S'.set 3 [.str op', .str s', .int .i64 k', .slice 24 cl' .no]).row p = if 3 = p then [.str op', .str s', .int .i64 k', .slice 24 cl' .no] else S'.row p := fun p => row_set_ne _ _ _ _ (by rw [g]; simp)
   refine LoopP.retell (o := 3) (row := [.str op', .str s', .int .i64 k', .slice 24 cl' .no]) (by rw [g]; simp) (by rw [g]; rfl) (by rw [g]; exact sub_row _ _ _ _ _ _ he) ?_
   exact LoopP.weak d (ih op' s' k' l' cl' z' r' _ b c (by rw [hset]; exact e) (by rw [hset]; exact x) (by rw [hset]; exact f) (by rw [hset]; rfl) i j hf hK1 hK2)
  clear ih hK1 hK2
  apply step106
  apply gen_code (mk := Pr.tab)
  intro fail need same call loop len slen arith shift cmp conv eqS ltS cat app elt byt subS subL strOf isB fit inb cut room not and eqB avs G
  have heqS : ∀ a b, eqS a b = (a == b) := fun a b => by rw [G.eqS']
  have hnot : ∀ b, not b = !b := fun b => by rw [G.not']
  have hnn : Nat.beq m m = true := Nat.beq_refl m
  have hbb : Nat.ble m m = true := Nat.ble_eq_true_of_le (Nat.le_refl m)
  cbv at hnn hbb
  generalize hL : LoopP Tryz.prog (Pr.tab real) 30 c106 (Less K) = L at *
  generalize hK' : Less K = K' at *
  unfold zeroN at *
  clear hL hK'
  cbv
  repeat'
   (first
     | refine GenH.need' G rfl ?_
     | refine GenH.same' G rfl ?_
     | (rw [hnn]; (try cbv))
     | (rw [hbb]; (try cbv))
     | (rw [heqS]; (try rw [hnot]); split <;> ((first | contradiction | (rename_i hq; (try simp only [Bool.not_eq_true', Bool.not_eq_false'] at hq); rw [hq]) | (rename_i hq _; rw [hq]) | skip); try cbv))
     | ((refine GenH.call' G (at_one ht [_, _] (by decide) (by assumption) (Nat.le_of_ble_eq_true rfl) (fun a z' r' hs hr' => ?_))) <;> (try cbv))
     | ((refine GenH.call' G (at_take ht (by assumption) (Nat.le_of_ble_eq_true rfl) (fun r' hs hr' => ?_) (fun r' hs hr' => ?_))) <;> (try cbv))
     | ((refine GenH.call' G (hp _ _ 0 1 _ (by decide) (by assumption) (Nat.le_of_ble_eq_true rfl) rfl (Nat.le_of_ble_eq_true rfl) (fun q => hf (by first | (simp only [setsMore, Rs.bind, Ps.need, Ps.take, Ps.needs, Ps.named, Ps.node, Bool.or_true, Bool.or_false, Bool.true_or, Bool.false_or, Bool.and_true, Bool.and_false, Bool.true_and, Bool.false_and, *]; done) | (simp only [setsMore, Rs.bind, Ps.need, Ps.take, Ps.needs, Ps.named, Ps.node, Bool.or_true, Bool.or_false, Bool.true_or, Bool.false_or, Bool.and_true, Bool.and_false, Bool.true_and, Bool.false_and, *]; exact rfl))) (fun op s k l cl z' r' hs hcl hr' => ?_) (fun z' r' hs hr' => ?_))) <;> (try cbv))
     | ((refine GenH.call' G (at_node [] (by subst_vars; exact rfl) (by first | exact .inl rfl | exact .inr rfl) rfl (fun cl hcl => ?_))) <;> (try cbv))
     | ((refine GenH.call' G (at_node [.mk _ _ _ _] (by subst_vars; exact rfl) (by first | exact .inl rfl | exact .inr rfl) rfl (fun cl hcl => ?_))) <;> (try cbv))
     | ((refine GenH.call' G (at_node [.mk _ _ _ _, .mk _ _ _ _] (by subst_vars; exact rfl) (by first | exact .inl rfl | exact .inr rfl) rfl (fun cl hcl => ?_))) <;> (try cbv))
     | ((refine GenH.call' G (at_node [.mk _ _ _ _, .mk _ _ _ _, .mk _ _ _ _] (by subst_vars; exact rfl) (by first | exact .inl rfl | exact .inr rfl) rfl (fun cl hcl => ?_))) <;> (try cbv))
     | ((refine GenH.call' G (at_node [.mk _ _ _ _, .mk _ _ _ _, .mk _ _ _ _, .mk _ _ _ _, .mk _ _ _ _] (by subst_vars; exact rfl) (by first | exact .inl rfl | exact .inr rfl) rfl (fun cl hcl => ?_))) <;> (try cbv))
     | ((refine GenH.call' G (at_node (.mk _ _ _ _ :: _) (by subst_vars; exact rfl) (by first | exact .inl rfl | exact .inr rfl) rfl (fun cl hcl => ?_))) <;> (try cbv))
     | ((refine GenH.call' G (at_node _ (by subst_vars; exact rfl) (by first | exact .inl rfl | exact .inr rfl) rfl (fun cl hcl => ?_))) <;> (try cbv))
     | (rw [hnot]; (try cbv))
     | fail)
  all_goals first
   | exact hbad _ _ _ _ (by first | (simp only [setsMore, Rs.bind, Ps.need, Ps.take, Ps.needs, Ps.named, Ps.node, Bool.or_true, Bool.or_false, Bool.true_or, Bool.false_or, Bool.and_true, Bool.and_false, Bool.true_and, Bool.false_and, *]; done) | (simp only [setsMore, Rs.bind, Ps.need, Ps.take, Ps.needs, Ps.named, Ps.node, Bool.or_true, Bool.or_false, Bool.true_or, Bool.false_or, Bool.and_true, Bool.and_false, Bool.true_and, Bool.false_and, *]; exact rfl)) (by assumption) rfl rfl (Nat.le_of_ble_eq_true rfl)
   | exact hret _ _ _ _ _ _ _ _ _ (by first | (simp only [setsMore, Rs.bind, Ps.need, Ps.take, Ps.needs, Ps.named, Ps.node, Bool.or_true, Bool.or_false, Bool.true_or, Bool.false_or, Bool.and_true, Bool.and_false, Bool.true_and, Bool.false_and, *]; done) | (simp only [setsMore, Rs.bind, Ps.need, Ps.take, Ps.needs, Ps.named, Ps.node, Bool.or_true, Bool.or_false, Bool.true_or, Bool.false_or, Bool.and_true, Bool.and_false, Bool.true_and, Bool.false_and, *]; exact rfl)) (by subst_vars; exact rfl) (by assumption) (.cons rfl (.nil _)) rfl rfl rfl (Nat.le_of_ble_eq_true rfl)
   | exact hcont _ _ _ _ _ _ _ _ _ _ _ (by first | (simp only [setsMore, Rs.bind, Ps.need, Ps.take, Ps.needs, Ps.named, Ps.node, Bool.or_true, Bool.or_false, Bool.true_or, Bool.false_or, Bool.and_true, Bool.and_false, Bool.true_and, Bool.false_and, *]; done) | (simp only [setsMore, Rs.bind, Ps.need, Ps.take, Ps.needs, Ps.named, Ps.node, Bool.or_true, Bool.or_false, Bool.true_or, Bool.false_or, Bool.and_true, Bool.and_false, Bool.true_and, Bool.false_and, *]; exact rfl)) (by subst_vars; exact rfl) (.inl rfl) (by assumption) (.cons rfl (.cons rfl (.cons rfl (.cons rfl (.cons rfl (.nil _)))))) rfl rfl rfl rfl ⟨_, rfl⟩ rfl
end Go.AM.Ps
namespace Go.AM.Ps
open Go.Proofs W
theorem lit_setsM {t : List Tk} (ht : Toks t) {fid : FuncId} {part : Nat → Rs Nd} (hp : Fn t fid [] part) (n : Nat) (z : Nat) (r : List AV) (h : At t z r) (hf : setsOf t n part [k_intersect] z = .fuel → False) :
  CallP Tryz.prog (Pr.tab real) 106 [.ptr 0 0, .func fid [.ptr 0 0] [], .slice 9 [.str k_intersect] .exact] (P0 r) (Post t (setsOf t n part [k_intersect] z) Nd.av) := by
 have hfin := fun op s k e cs m l z' S' => finOk t (setsOf t n part [k_intersect] z) op s k e cs m l z' S'
 have hbad := fun z' S' => finBad t (setsOf t n part [k_intersect] z) Nd.av z' S'
 generalize Post t (setsOf t n part [k_intersect] z) Nd.av = K0 at hfin hbad ⊢
 apply body_calls (un := 0) Pr.tabOk Pr.mixed Ps.fn106 (Nat.le_of_ble_eq_true rfl)
 apply gen_body (mk := Pr.tab)
 intro fail need same call loop len slen arith shift cmp conv eqS ltS cat app elt byt subS subL strOf isB fit inb cut room not and eqB avs G
 have heqS : ∀ a b, eqS a b = (a == b) := fun a b => by rw [G.eqS']
 have hnot : ∀ b, not b = !b := fun b => by rw [G.not']
 unfold P0
 cbv
 repeat'
  (first
    | refine GenH.need' G rfl ?_
    | refine GenH.same' G rfl ?_
    | ((refine GenH.call' G (hp _ _ 0 _ (by assumption) (Nat.le_of_ble_eq_true rfl) (fun q => hf (by first | (simp only [setsOf, Rs.bind, Ps.need, Ps.take, Ps.needs, Bool.or_true, Bool.or_false, Bool.true_or, Bool.false_or, Bool.and_true, Bool.and_false, Bool.true_and, Bool.false_and, *]; done) | (simp only [setsOf, Rs.bind, Ps.need, Ps.take, Ps.needs, Bool.or_true, Bool.or_false, Bool.true_or, Bool.false_or, Bool.and_true, Bool.and_false, Bool.true_and, Bool.false_and, *]; exact rfl))) (fun op s k l cl z' r' hs hcl hr' => ?_) (fun z' r' hs hr' => ?_))) <;> (try cbv))
    | (((refine GenH.loop' G ?_; change LoopP Tryz.prog (Pr.tab real) 30 c106 _ _ _; refine LoopP.relax (LoopP.weak (.cons rfl (.cons rfl (.cons rfl (.cons rfl (.cons rfl (.nil _)))))) (sets_loopM ht hp _ n _ _ _ _ _ _ _ _ (by assumption) (by assumption) rfl rfl rfl ⟨_, rfl⟩ rfl (fun q => hf (by first | (simp only [setsOf, Rs.bind, Ps.need, Ps.take, Ps.needs, Bool.or_true, Bool.or_false, Bool.true_or, Bool.false_or, Bool.and_true, Bool.and_false, Bool.true_and, Bool.false_and, *]; done) | (simp only [setsOf, Rs.bind, Ps.need, Ps.take, Ps.needs, Bool.or_true, Bool.or_false, Bool.true_or, Bool.false_or, Bool.and_true, Bool.and_false, Bool.true_and, Bool.false_and, *]; exact rfl))) (fun op' s' k' l' cl' z' r' S' hs hcl hr' e0 e1 en => ?_) (fun z' r' S' hs hr' e0 en => ?_))) <;> (first | (refine xret_node rfl (by assumption) ?_) | skip))) <;> (try cbv))
    | (rw [hnot]; (try cbv))
    | fail)
 all_goals first
  | exact hbad _ _ (by first | (simp only [setsOf, Rs.bind, Ps.need, Ps.take, Ps.needs, Bool.or_true, Bool.or_false, Bool.true_or, Bool.false_or, Bool.and_true, Bool.and_false, Bool.true_and, Bool.false_and, *]; done) | (simp only [setsOf, Rs.bind, Ps.need, Ps.take, Ps.needs, Bool.or_true, Bool.or_false, Bool.true_or, Bool.false_or, Bool.and_true, Bool.and_false, Bool.true_and, Bool.false_and, *]; exact rfl)) (by assumption) (Nat.le_of_ble_eq_true rfl)
  | exact hfin _ _ _ _ _ _ _ _ _ (by first | (simp only [setsOf, Rs.bind, Ps.need, Ps.take, Ps.needs, Bool.or_true, Bool.or_false, Bool.true_or, Bool.false_or, Bool.and_true, Bool.and_false, Bool.true_and, Bool.false_and, *]; done) | (simp only [setsOf, Rs.bind, Ps.need, Ps.take, Ps.needs, Bool.or_true, Bool.or_false, Bool.true_or, Bool.false_or, Bool.and_true, Bool.and_false, Bool.true_and, Bool.false_and, *]; exact rfl)) (by subst_vars; exact rfl) (by first | exact .inl rfl | exact .inr rfl) (by assumption) (Nat.le_of_ble_eq_true rfl)
  | exact hfin _ _ _ _ _ _ _ _ _ (by first | (simp only [setsOf, Rs.bind, Ps.need, Ps.take, Ps.needs, Bool.or_true, Bool.or_false, Bool.true_or, Bool.false_or, Bool.and_true, Bool.and_false, Bool.true_and, Bool.false_and, *]; done) | (simp only [setsOf, Rs.bind, Ps.need, Ps.take, Ps.needs, Bool.or_true, Bool.or_false, Bool.true_or, Bool.false_or, Bool.and_true, Bool.and_false, Bool.true_and, Bool.false_and, *]; exact rfl)) (by assumption) (.inl rfl) (by rw [e0]; assumption) (Nat.le_of_succ_le en)
  | exact hbad _ _ (by first | (simp only [setsOf, Rs.bind, Ps.need, Ps.take, Ps.needs, Bool.or_true, Bool.or_false, Bool.true_or, Bool.false_or, Bool.and_true, Bool.and_false, Bool.true_and, Bool.false_and, *]; done) | (simp only [setsOf, Rs.bind, Ps.need, Ps.take, Ps.needs, Bool.or_true, Bool.or_false, Bool.true_or, Bool.false_or, Bool.and_true, Bool.and_false, Bool.true_and, Bool.false_and, *]; exact rfl)) (by rw [e0]; assumption) (Nat.le_of_succ_le en)
theorem at_setsM {t : List Tk} (ht : Toks t) {fid : FuncId} {part : Nat → Rs Nd} (hp : Fn t fid [] part) {n : Nat} {z : Nat} {S : St} {o : Nat} (h : At t z (S.row o)) (ho : o < S.next) {K : Out → St → Prop} (hf : setsOf t n part [k_intersect] z = .fuel → False)
  (hok : ∀ op s k l cl z' r', setsOf t n part [k_intersect] z = .ok (.mk op s k l) z' → cl = avL l → At t z' r' → K (.ret (.agg [.str op, .str s, .int .i64 k, .slice 24 cl .no])) (S.set o r'))
  (hwr : ∀ z' r', setsOf t n part [k_intersect] z = .wrong → At t z' r' → K (.panic wrongV) (S.set o r')) : CallP Tryz.prog (Pr.tab real) 106 [.ptr o 0, .func fid [.ptr o 0] [], .slice 9 [.str k_intersect] .exact] S K := by
 refine lift_fn (args0 := [.ptr 0 0, .func fid [.ptr 0 0] [], .slice 9 [.str k_intersect] .exact]) ?_ (fun a f h => av_ren f h a) h ho (lit_setsM ht hp n z _ h hf) (fun a z' r' hq hr' => ?_) hwr
 · simp only [renL, AV.ren, show AM.one o 0 o = some 0 from one_iff.2 ⟨rfl, rfl⟩]; rfl
 · obtain ⟨op, s, k, l⟩ := a; exact hok op s k l _ z' r' hq rfl hr'
theorem lit_setsC {t : List Tk} (ht : Toks t) {fid : FuncId} {part : Nat → Rs Nd} (hp : FnC t fid part) (n : Nat) (z : Nat) (r : List AV) (h : At t z r) (hf : setsOf t n part [k_union, k_except] z = .fuel → False) :
  CallP Tryz.prog (Pr.tab real) 106 [.ptr 0 0, .func fid [] [.ptr 1 0], .slice 9 [.str k_union, .str k_except] .exact] (P2 r) (PostC t 2 (setsOf t n part [k_union, k_except] z) Nd.av) := by
 have hfin := fun op s k e cs m l z' S' => finOkC t 2 (setsOf t n part [k_union, k_except] z) op s k e cs m l z' S'
 have hbad := fun z' S' => finBadC t 2 (setsOf t n part [k_union, k_except] z) Nd.av z' S'
 generalize PostC t 2 (setsOf t n part [k_union, k_except] z) Nd.av = K0 at hfin hbad ⊢
 apply body_calls (un := 0) Pr.tabOk Pr.mixed Ps.fn106 (Nat.le_of_ble_eq_true rfl)
 apply gen_body (mk := Pr.tab)
 intro fail need same call loop len slen arith shift cmp conv eqS ltS cat app elt byt subS subL strOf isB fit inb cut room not and eqB avs G
 have heqS : ∀ a b, eqS a b = (a == b) := fun a b => by rw [G.eqS']
 have hnot : ∀ b, not b = !b := fun b => by rw [G.not']
 unfold P2
 cbv
 repeat'
  (first
    | refine GenH.need' G rfl ?_
    | refine GenH.same' G rfl ?_
    | ((refine GenH.call' G (hp _ _ 0 1 _ (by decide) (by assumption) (Nat.le_of_ble_eq_true rfl) rfl (Nat.le_of_ble_eq_true rfl) (fun q => hf (by first | (simp only [setsOf, Rs.bind, Ps.need, Ps.take, Ps.needs, Bool.or_true, Bool.or_false, Bool.true_or, Bool.false_or, Bool.and_true, Bool.and_false, Bool.true_and, Bool.false_and, *]; done) | (simp only [setsOf, Rs.bind, Ps.need, Ps.take, Ps.needs, Bool.or_true, Bool.or_false, Bool.true_or, Bool.false_or, Bool.and_true, Bool.and_false, Bool.true_and, Bool.false_and, *]; exact rfl))) (fun op s k l cl z' r' hs hcl hr' => ?_) (fun z' r' hs hr' => ?_))) <;> (try cbv))
    | (((refine GenH.loop' G ?_; change LoopP Tryz.prog (Pr.tab real) 30 c106 _ _ _; refine LoopP.relax (LoopP.weak (.cons rfl (.cons rfl (.cons rfl (.cons rfl (.cons rfl (.nil _)))))) (sets_loopC ht hp _ n _ _ _ _ _ _ _ _ (by assumption) (by assumption) rfl rfl rfl rfl ⟨_, rfl⟩ rfl (fun q => hf (by first | (simp only [setsOf, Rs.bind, Ps.need, Ps.take, Ps.needs, Bool.or_true, Bool.or_false, Bool.true_or, Bool.false_or, Bool.and_true, Bool.and_false, Bool.true_and, Bool.false_and, *]; done) | (simp only [setsOf, Rs.bind, Ps.need, Ps.take, Ps.needs, Bool.or_true, Bool.or_false, Bool.true_or, Bool.false_or, Bool.and_true, Bool.and_false, Bool.true_and, Bool.false_and, *]; exact rfl))) (fun op' s' k' l' cl' z' r' S' hs hcl hr' e0 eb e1 en => ?_) (fun z' r' S' hs hr' e0 eb en => ?_))) <;> (first | (refine xret_node rfl (by assumption) ?_) | skip))) <;> (try cbv))
    | (rw [hnot]; (try cbv))
    | fail)
 all_goals first
  | exact hbad _ _ (by first | (simp only [setsOf, Rs.bind, Ps.need, Ps.take, Ps.needs, Bool.or_true, Bool.or_false, Bool.true_or, Bool.false_or, Bool.and_true, Bool.and_false, Bool.true_and, Bool.false_and, *]; done) | (simp only [setsOf, Rs.bind, Ps.need, Ps.take, Ps.needs, Bool.or_true, Bool.or_false, Bool.true_or, Bool.false_or, Bool.and_true, Bool.and_false, Bool.true_and, Bool.false_and, *]; exact rfl)) (by assumption) (Nat.le_of_ble_eq_true rfl) rfl
  | exact hfin _ _ _ _ _ _ _ _ _ (by first | (simp only [setsOf, Rs.bind, Ps.need, Ps.take, Ps.needs, Bool.or_true, Bool.or_false, Bool.true_or, Bool.false_or, Bool.and_true, Bool.and_false, Bool.true_and, Bool.false_and, *]; done) | (simp only [setsOf, Rs.bind, Ps.need, Ps.take, Ps.needs, Bool.or_true, Bool.or_false, Bool.true_or, Bool.false_or, Bool.and_true, Bool.and_false, Bool.true_and, Bool.false_and, *]; exact rfl)) (by subst_vars; exact rfl) (by first | exact .inl rfl | exact .inr rfl) (by assumption) (Nat.le_of_ble_eq_true rfl) rfl
  | exact hfin _ _ _ _ _ _ _ _ _ (by first | (simp only [setsOf, Rs.bind, Ps.need, Ps.take, Ps.needs, Bool.or_true, Bool.or_false, Bool.true_or, Bool.false_or, Bool.and_true, Bool.and_false, Bool.true_and, Bool.false_and, *]; done) | (simp only [setsOf, Rs.bind, Ps.need, Ps.take, Ps.needs, Bool.or_true, Bool.or_false, Bool.true_or, Bool.false_or, Bool.and_true, Bool.and_false, Bool.true_and, Bool.false_and, *]; exact rfl)) (by assumption) (.inl rfl) (by rw [e0]; assumption) (Nat.le_of_succ_le en) eb
  | exact hbad _ _ (by first | (simp only [setsOf, Rs.bind, Ps.need, Ps.take, Ps.needs, Bool.or_true, Bool.or_false, Bool.true_or, Bool.false_or, Bool.and_true, Bool.and_false, Bool.true_and, Bool.false_and, *]; done) | (simp only [setsOf, Rs.bind, Ps.need, Ps.take, Ps.needs, Bool.or_true, Bool.or_false, Bool.true_or, Bool.false_or, Bool.and_true, Bool.and_false, Bool.true_and, Bool.false_and, *]; exact rfl)) (by rw [e0]; assumption) (Nat.le_of_succ_le en) eb
theorem at_setsC {t : List Tk} (ht : Toks t) {fid : FuncId} {part : Nat → Rs Nd} (hp : FnC t fid part) {n : Nat} {z : Nat} {S : St} {o o1 : Nat} (hne : o ≠ o1) (h : At t z (S.row o)) (ho : o < S.next) (hb : S.row o1 = [.ptr o 0]) (ho1 : o1 < S.next) {K : Out → St → Prop} (hf : setsOf t n part [k_union, k_except] z = .fuel → False)
  (hok : ∀ op s k l cl z' r', setsOf t n part [k_union, k_except] z = .ok (.mk op s k l) z' → cl = avL l → At t z' r' → K (.ret (.agg [.str op, .str s, .int .i64 k, .slice 24 cl .no])) (S.set o r'))
  (hwr : ∀ z' r', setsOf t n part [k_union, k_except] z = .wrong → At t z' r' → K (.panic wrongV) (S.set o r')) : CallP Tryz.prog (Pr.tab real) 106 [.ptr o 0, .func fid [] [.ptr o1 0], .slice 9 [.str k_union, .str k_except] .exact] S K := by
 refine lift2 hne (args0 := [.ptr 0 0, .func fid [] [.ptr 1 0], .slice 9 [.str k_union, .str k_except] .exact]) ?_ (fun a f h => av_ren f h a) h ho hb ho1 (lit_setsC ht hp n z _ h hf) (fun a z' r' hq hr' => ?_) hwr
 · simp only [renL, AV.ren, (idx2 hne).1, (idx2 hne).2]; rfl
 · obtain ⟨op, s, k, l⟩ := a; exact hok op s k l _ z' r' hq rfl hr'
theorem lit_term {t : List Tk} (ht : Toks t) (n : Nat) (hn : n ≤ 1000000000) (hsimple : Fn t 108 [] (simple reservedB t n)) (z : Nat) (r : List AV) (h : At t z r) (hf : term reservedB t (n + 1) z = .fuel → False) :
  CallP Tryz.prog (Pr.tab real) 107 [.ptr 1 0] (P2 r) (PostC t 2 (term reservedB t (n + 1) z) Nd.av) := by
 have hfin := fun op s k e cs m l z' S' => finOkC t 2 (term reservedB t (n + 1) z) op s k e cs m l z' S'
 have hbad := fun z' S' => finBadC t 2 (term reservedB t (n + 1) z) Nd.av z' S'
 generalize PostC t 2 (term reservedB t (n + 1) z) Nd.av = K0 at hfin hbad ⊢
 apply body_calls (un := 0) Pr.tabOk Pr.mixed Ps.fn107 (Nat.le_of_ble_eq_true rfl)
 apply gen_body (mk := Pr.tab)
 intro fail need same call loop len slen arith shift cmp conv eqS ltS cat app elt byt subS subL strOf isB fit inb cut room not and eqB avs G
 have heqS : ∀ a b, eqS a b = (a == b) := fun a b => by rw [G.eqS']
 have hnot : ∀ b, not b = !b := fun b => by rw [G.not']
 unfold P2
 cbv
 repeat'
  (first
    | refine GenH.need' G rfl ?_
    | refine GenH.same' G rfl ?_
    | ((refine GenH.call' G (at_setsM (n := n) ht hsimple (by assumption) (Nat.le_of_ble_eq_true rfl) (fun q => hf (by first | (simp only [term, Rs.bind, Ps.need, Ps.take, Ps.needs, Bool.or_true, Bool.or_false, Bool.true_or, Bool.false_or, Bool.and_true, Bool.and_false, Bool.true_and, Bool.false_and, *]; done) | (simp only [term, Rs.bind, Ps.need, Ps.take, Ps.needs, Bool.or_true, Bool.or_false, Bool.true_or, Bool.false_or, Bool.and_true, Bool.and_false, Bool.true_and, Bool.false_and, *]; exact rfl))) (fun op s k l cl z' r' hs hcl hr' => ?_) (fun z' r' hs hr' => ?_))) <;> (try cbv))
    | (rw [hnot]; (try cbv))
    | fail)
 all_goals first
  | exact hbad _ _ (by first | (simp only [term, Rs.bind, Ps.need, Ps.take, Ps.needs, Bool.or_true, Bool.or_false, Bool.true_or, Bool.false_or, Bool.and_true, Bool.and_false, Bool.true_and, Bool.false_and, *]; done) | (simp only [term, Rs.bind, Ps.need, Ps.take, Ps.needs, Bool.or_true, Bool.or_false, Bool.true_or, Bool.false_or, Bool.and_true, Bool.and_false, Bool.true_and, Bool.false_and, *]; exact rfl)) (by assumption) (Nat.le_of_ble_eq_true rfl) rfl
  | exact hfin _ _ _ _ _ _ _ _ _ (by first | (simp only [term, Rs.bind, Ps.need, Ps.take, Ps.needs, Bool.or_true, Bool.or_false, Bool.true_or, Bool.false_or, Bool.and_true, Bool.and_false, Bool.true_and, Bool.false_and, *]; done) | (simp only [term, Rs.bind, Ps.need, Ps.take, Ps.needs, Bool.or_true, Bool.or_false, Bool.true_or, Bool.false_or, Bool.and_true, Bool.and_false, Bool.true_and, Bool.false_and, *]; exact rfl)) (by subst_vars; exact rfl) (by first | exact .inl rfl | exact .inr rfl) (by assumption) (Nat.le_of_ble_eq_true rfl) rfl
theorem lit_body {t : List Tk} (ht : Toks t) (n : Nat) (hn : n ≤ 1000000000) (hterm : FnC t 107 (term reservedB t n)) (z : Nat) (r : List AV) (h : At t z r) (hf : body reservedB t (n + 1) z = .fuel → False) :
  CallP Tryz.prog (Pr.tab real) 73 [.ptr 0 0] (P0 r) (Post t (body reservedB t (n + 1) z) Nd.av) := by
 have hfin := fun op s k e cs m l z' S' => finOk t (body reservedB t (n + 1) z) op s k e cs m l z' S'
 have hbad := fun z' S' => finBad t (body reservedB t (n + 1) z) Nd.av z' S'
 generalize Post t (body reservedB t (n + 1) z) Nd.av = K0 at hfin hbad ⊢
 apply body_calls (un := 0) Pr.tabOk Pr.mixed Ps.fn73 (Nat.le_of_ble_eq_true rfl)
 apply gen_body (mk := Pr.tab)
 intro fail need same call loop len slen arith shift cmp conv eqS ltS cat app elt byt subS subL strOf isB fit inb cut room not and eqB avs G
 have heqS : ∀ a b, eqS a b = (a == b) := fun a b => by rw [G.eqS']
 have hnot : ∀ b, not b = !b := fun b => by rw [G.not']
 unfold P0
 cbv
 repeat'
  (first
    | refine GenH.need' G rfl ?_
    | refine GenH.same' G rfl ?_
    | ((refine GenH.call' G (at_setsC (n := n) ht hterm (by decide) (by assumption) (Nat.le_of_ble_eq_true rfl) rfl (Nat.le_of_ble_eq_true rfl) (fun q => hf (by first | (simp only [body, Rs.bind, Ps.need, Ps.take, Ps.needs, Bool.or_true, Bool.or_false, Bool.true_or, Bool.false_or, Bool.and_true, Bool.and_false, Bool.true_and, Bool.false_and, *]; done) | (simp only [body, Rs.bind, Ps.need, Ps.take, Ps.needs, Bool.or_true, Bool.or_false, Bool.true_or, Bool.false_or, Bool.and_true, Bool.and_false, Bool.true_and, Bool.false_and, *]; exact rfl))) (fun op s k l cl z' r' hs hcl hr' => ?_) (fun z' r' hs hr' => ?_))) <;> (try cbv))
    | (rw [hnot]; (try cbv))
    | fail)
 all_goals first
  | exact hbad _ _ (by first | (simp only [body, Rs.bind, Ps.need, Ps.take, Ps.needs, Bool.or_true, Bool.or_false, Bool.true_or, Bool.false_or, Bool.and_true, Bool.and_false, Bool.true_and, Bool.false_and, *]; done) | (simp only [body, Rs.bind, Ps.need, Ps.take, Ps.needs, Bool.or_true, Bool.or_false, Bool.true_or, Bool.false_or, Bool.and_true, Bool.and_false, Bool.true_and, Bool.false_and, *]; exact rfl)) (by assumption) (Nat.le_of_ble_eq_true rfl)
  | exact hfin _ _ _ _ _ _ _ _ _ (by first | (simp only [body, Rs.bind, Ps.need, Ps.take, Ps.needs, Bool.or_true, Bool.or_false, Bool.true_or, Bool.false_or, Bool.and_true, Bool.and_false, Bool.true_and, Bool.false_and, *]; done) | (simp only [body, Rs.bind, Ps.need, Ps.take, Ps.needs, Bool.or_true, Bool.or_false, Bool.true_or, Bool.false_or, Bool.and_true, Bool.and_false, Bool.true_and, Bool.false_and, *]; exact rfl)) (by subst_vars; exact rfl) (by first | exact .inl rfl | exact .inr rfl) (by assumption) (Nat.le_of_ble_eq_true rfl)
end Go.AM.Ps
