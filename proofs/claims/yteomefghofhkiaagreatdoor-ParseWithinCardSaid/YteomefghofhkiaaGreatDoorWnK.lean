/- The parser's functions: statements, third part. -/
import Derived.Test.YteomefghofhkiaaGreatDoorWnJ
set_option maxRecDepth 100000
set_option maxHeartbeats 40000000
set_option linter.unusedVariables false
set_option linter.unusedSimpArgs false
namespace Go.AM.Ps
open Go.Proofs W
theorem at_take4 {t : List Tk} (ht : Toks t) {z : Nat} {a b c d : List UInt8} {S : St} {o : Nat} (h : At t z (S.row o)) (ho : o < S.next) {K : Out → St → Prop}
  (hyes : ∀ r', sees t z a = true → sees t (z + 1) b = true → sees t (z + 1 + 1) c = true → sees t (z + 1 + 1 + 1) d = true → At t (z + 1 + 1 + 1 + 1) r' → K (.ret (.bool true)) (S.set o r')) (hno : ∀ r', sees t z a = false → At t z r' → K (.ret (.bool false)) (S.set o r'))
  (hwr1 : ∀ z' r', sees t z a = true → sees t (z + 1) b = false → At t z' r' → K (.panic wrongV) (S.set o r'))
  (hwr2 : ∀ z' r', sees t z a = true → sees t (z + 1) b = true → sees t (z + 1 + 1) c = false → At t z' r' → K (.panic wrongV) (S.set o r'))
  (hwr3 : ∀ z' r', sees t z a = true → sees t (z + 1) b = true → sees t (z + 1 + 1) c = true → sees t (z + 1 + 1 + 1) d = false → At t z' r' → K (.panic wrongV) (S.set o r')) :
  CallP Tryz.prog (Pr.tab real) 22 [.ptr o 0, .slice 9 [.str a, .str b, .str c, .str d] .exact] S K := by
 refine at_takes ht a [b, c, d] (by simp) h ho ?_ ?_
 · intro x z' r' hx hr'
   unfold take at hx
   cases h0 : sees t z a with
   | false =>
    rw [h0] at hx
    simp only [Rs.ok.injEq] at hx
    obtain ⟨rfl, rfl⟩ := hx
    exact hno r' h0 hr'
   | true =>
    rw [h0] at hx
    cases h1 : sees t (z + 1) b <;> cases h2 : sees t (z + 1 + 1) c <;> cases h3 : sees t (z + 1 + 1 + 1) d <;> simp [needs, Ps.need, Rs.bind, h1, h2, h3] at hx
    obtain ⟨rfl, rfl⟩ := hx
    exact hyes r' h0 h1 h2 h3 hr'
 · intro z' r' hx hr'
   unfold take at hx
   cases h0 : sees t z a with
   | false => rw [h0] at hx; cases hx
   | true =>
    rw [h0] at hx
    cases h1 : sees t (z + 1) b with
    | false => exact hwr1 z' r' h0 h1 hr'
    | true =>
     cases h2 : sees t (z + 1 + 1) c with
     | false => exact hwr2 z' r' h0 h1 h2 hr'
     | true =>
      cases h3 : sees t (z + 1 + 1 + 1) d with
      | false => exact hwr3 z' r' h0 h1 h2 h3 hr'
      | true => simp [needs, Ps.need, Rs.bind, h1, h2, h3] at hx
theorem lit_element {t : List Tk} (ht : Toks t) (n : Nat) (hn : n ≤ 1000000000) (P : Parser t n) (z : Nat) (r : List AV) (h : At t z r) (hf : element reservedB t n z = .fuel → False) :
  CallP Tryz.prog (Pr.tab real) 77 [.ptr 0 0] (P0 r) (Post t (element reservedB t n z) Nd.av) := by
 have hfin := fun op s k e cs m l z' S' => finOk t (element reservedB t n z) op s k e cs m l z' S'
 have hbad := fun z' S' => finBad t (element reservedB t n z) Nd.av z' S'
 generalize Post t (element reservedB t n z) Nd.av = K0 at hfin hbad ⊢
 apply body_calls (un := 0) Pr.tabOk Pr.mixed Ps.fn77 (Nat.le_of_ble_eq_true rfl)
 apply gen_body (mk := Pr.tab)
 intro fail need same call loop len slen arith shift cmp conv eqS ltS cat app elt byt subS subL strOf isB fit inb cut room not and eqB avs G
 have heqS : ∀ a b, eqS a b = (a == b) := fun a b => by rw [G.eqS']
 have hnot : ∀ b, not b = !b := fun b => by rw [G.not']
 unfold P0
 cbv
 repeat'
  (first
    | refine GenH.need' G rfl ?_
    | refine GenH.same' G rfl ?_
    | ((refine GenH.call' G (at_take2 ht (by assumption) (Nat.le_of_ble_eq_true rfl) (fun r' hs hs2 hr' => ?_) (fun r' hs hr' => ?_) (fun z' r' hs hs2 hr' => ?_))) <;> (try cbv))
    | ((refine GenH.call' G ((at_names ht n hn P) _ _ 0 _ (by assumption) (Nat.le_of_ble_eq_true rfl) (fun q => hf (by first | (simp only [element, Rs.bind, Ps.need, Ps.take, Ps.needs, Bool.or_true, Bool.or_false, Bool.true_or, Bool.false_or, Bool.and_true, Bool.and_false, Bool.true_and, Bool.false_and, Bool.not_true, Bool.not_false, Ps.named, Ps.node, *]; done) | (simp only [element, Rs.bind, Ps.need, Ps.take, Ps.needs, Bool.or_true, Bool.or_false, Bool.true_or, Bool.false_or, Bool.and_true, Bool.and_false, Bool.true_and, Bool.false_and, Bool.not_true, Bool.not_false, Ps.named, Ps.node, *]; exact rfl))) (fun l cl z' r' hs hcl hr' => ?_) (fun z' r' hs hr' => ?_))) <;> (try cbv))
    | ((refine GenH.call' G (at_take ht (by assumption) (Nat.le_of_ble_eq_true rfl) (fun r' hs hr' => ?_) (fun r' hs hr' => ?_))) <;> (try cbv))
    | ((refine GenH.call' G (at_within ht P.expr (by assumption) (Nat.le_of_ble_eq_true rfl) (fun q => hf (by first | (simp only [element, Rs.bind, Ps.need, Ps.take, Ps.needs, Bool.or_true, Bool.or_false, Bool.true_or, Bool.false_or, Bool.and_true, Bool.and_false, Bool.true_and, Bool.false_and, Bool.not_true, Bool.not_false, Ps.named, Ps.node, *]; done) | (simp only [element, Rs.bind, Ps.need, Ps.take, Ps.needs, Bool.or_true, Bool.or_false, Bool.true_or, Bool.false_or, Bool.and_true, Bool.and_false, Bool.true_and, Bool.false_and, Bool.not_true, Bool.not_false, Ps.named, Ps.node, *]; exact rfl))) (fun op s k l cl z' r' hs hcl hr' => ?_) (fun z' r' hs hr' => ?_))) <;> (try cbv))
    | ((refine GenH.call' G (at_need ht (by assumption) (Nat.le_of_ble_eq_true rfl) (fun r' hs hr' => ?_) (fun z' r' hs hr' => ?_))) <;> (try cbv))
    | ((refine GenH.call' G (at_name ht (by assumption) (Nat.le_of_ble_eq_true rfl) (fun a z' r' hs hr' => ?_) (fun z' r' hs hr' => ?_))) <;> (try cbv))
    | ((refine GenH.call' G (at_typed ht _ _ 0 _ (by assumption) (Nat.le_of_ble_eq_true rfl) (fun q => hf (by first | (simp only [element, Rs.bind, Ps.need, Ps.take, Ps.needs, Bool.or_true, Bool.or_false, Bool.true_or, Bool.false_or, Bool.and_true, Bool.and_false, Bool.true_and, Bool.false_and, Bool.not_true, Bool.not_false, Ps.named, Ps.node, *]; done) | (simp only [element, Rs.bind, Ps.need, Ps.take, Ps.needs, Bool.or_true, Bool.or_false, Bool.true_or, Bool.false_or, Bool.and_true, Bool.and_false, Bool.true_and, Bool.false_and, Bool.not_true, Bool.not_false, Ps.named, Ps.node, *]; exact rfl))) (fun op s k l cl z' r' hs hcl hr' => ?_) (fun z' r' hs hr' => ?_))) <;> (try cbv))
    | ((refine GenH.call' G (named_raw o_column _ _ _ _ rfl _ _ ?_)) <;> (try cbv))
    | (((refine GenH.loop' G ?_; change LoopP Tryz.prog (Pr.tab real) 105 c77 _ _ _; refine LoopP.relax (LoopP.weak (.cons rfl (.cons rfl (.cons rfl (.nil _)))) (opts_loop ht P.expr _ _ n [.mk _ _ _ _] _ .exact [] _ _ (by subst_vars; exact rfl) (.fresh _) (by simp; omega) (by assumption) (fun q => hf (by first | (simp only [element, Rs.bind, Ps.need, Ps.take, Ps.needs, Bool.or_true, Bool.or_false, Bool.true_or, Bool.false_or, Bool.and_true, Bool.and_false, Bool.true_and, Bool.false_and, Bool.not_true, Bool.not_false, Ps.named, Ps.node, *]; done) | (simp only [element, Rs.bind, Ps.need, Ps.take, Ps.needs, Bool.or_true, Bool.or_false, Bool.true_or, Bool.false_or, Bool.and_true, Bool.and_false, Bool.true_and, Bool.false_and, Bool.not_true, Bool.not_false, Ps.named, Ps.node, *]; exact rfl))) (fun l' cs' m' caps' z' r' hs hcl hr' => ?_) (fun z' r' S' hs hr' e0 en => ?_))))) <;> (try cbv))
    | ((refine GenH.call' G (at_node [] (by subst_vars; exact rfl) (by first | exact .inl rfl | exact .inr rfl) rfl (fun cl hcl => ?_))) <;> (try cbv))
    | ((refine GenH.call' G (at_node [.mk _ _ _ _] (by subst_vars; exact rfl) (by first | exact .inl rfl | exact .inr rfl) rfl (fun cl hcl => ?_))) <;> (try cbv))
    | ((refine GenH.call' G (at_node [.mk _ _ _ _, .mk _ _ _ _] (by subst_vars; exact rfl) (by first | exact .inl rfl | exact .inr rfl) rfl (fun cl hcl => ?_))) <;> (try cbv))
    | ((refine GenH.call' G (at_node [.mk _ _ _ _, .mk _ _ _ _, .mk _ _ _ _] (by subst_vars; exact rfl) (by first | exact .inl rfl | exact .inr rfl) rfl (fun cl hcl => ?_))) <;> (try cbv))
    | ((refine GenH.call' G (at_node [.mk _ _ _ _, .mk _ _ _ _, .mk _ _ _ _, .mk _ _ _ _, .mk _ _ _ _] (by subst_vars; exact rfl) (by first | exact .inl rfl | exact .inr rfl) rfl (fun cl hcl => ?_))) <;> (try cbv))
    | ((refine GenH.call' G (at_node (.mk _ _ _ _ :: _) (by subst_vars; exact rfl) (by first | exact .inl rfl | exact .inr rfl) rfl (fun cl hcl => ?_))) <;> (try cbv))
    | ((refine GenH.call' G (at_node _ (by subst_vars; exact rfl) (by first | exact .inl rfl | exact .inr rfl) rfl (fun cl hcl => ?_))) <;> (try cbv))
    | ((refine GenH.call' G (at_named [] (by subst_vars; exact rfl) (by first | exact .inl rfl | exact .inr rfl) rfl (fun cl hcl => ?_))) <;> (try cbv))
    | ((refine GenH.call' G (at_named [.mk _ _ _ _] (by subst_vars; exact rfl) (by first | exact .inl rfl | exact .inr rfl) rfl (fun cl hcl => ?_))) <;> (try cbv))
    | ((refine GenH.call' G (at_named [.mk _ _ _ _, .mk _ _ _ _] (by subst_vars; exact rfl) (by first | exact .inl rfl | exact .inr rfl) rfl (fun cl hcl => ?_))) <;> (try cbv))
    | ((refine GenH.call' G (at_named [.mk _ _ _ _, .mk _ _ _ _, .mk _ _ _ _] (by subst_vars; exact rfl) (by first | exact .inl rfl | exact .inr rfl) rfl (fun cl hcl => ?_))) <;> (try cbv))
    | ((refine GenH.call' G (at_named [.mk _ _ _ _, .mk _ _ _ _, .mk _ _ _ _, .mk _ _ _ _, .mk _ _ _ _] (by subst_vars; exact rfl) (by first | exact .inl rfl | exact .inr rfl) rfl (fun cl hcl => ?_))) <;> (try cbv))
    | ((refine GenH.call' G (at_named (.mk _ _ _ _ :: _) (by subst_vars; exact rfl) (by first | exact .inl rfl | exact .inr rfl) rfl (fun cl hcl => ?_))) <;> (try cbv))
    | ((refine GenH.call' G (at_named _ (by subst_vars; exact rfl) (by first | exact .inl rfl | exact .inr rfl) rfl (fun cl hcl => ?_))) <;> (try cbv))
    | (rw [hnot]; (try cbv))
    | fail)
 all_goals first
  | exact hbad _ _ (by first | (simp only [element, Rs.bind, Ps.need, Ps.take, Ps.needs, Bool.or_true, Bool.or_false, Bool.true_or, Bool.false_or, Bool.and_true, Bool.and_false, Bool.true_and, Bool.false_and, Bool.not_true, Bool.not_false, Ps.named, Ps.node, *]; done) | (simp only [element, Rs.bind, Ps.need, Ps.take, Ps.needs, Bool.or_true, Bool.or_false, Bool.true_or, Bool.false_or, Bool.and_true, Bool.and_false, Bool.true_and, Bool.false_and, Bool.not_true, Bool.not_false, Ps.named, Ps.node, *]; exact rfl)) (by assumption) (Nat.le_of_ble_eq_true rfl)
  | exact hfin _ _ _ _ _ _ _ _ _ (by first | (simp only [element, Rs.bind, Ps.need, Ps.take, Ps.needs, Bool.or_true, Bool.or_false, Bool.true_or, Bool.false_or, Bool.and_true, Bool.and_false, Bool.true_and, Bool.false_and, Bool.not_true, Bool.not_false, Ps.named, Ps.node, *]; done) | (simp only [element, Rs.bind, Ps.need, Ps.take, Ps.needs, Bool.or_true, Bool.or_false, Bool.true_or, Bool.false_or, Bool.and_true, Bool.and_false, Bool.true_and, Bool.false_and, Bool.not_true, Bool.not_false, Ps.named, Ps.node, *]; exact rfl)) (by subst_vars; exact rfl) (by first | exact .inl rfl | exact .inr rfl) (by assumption) (Nat.le_of_ble_eq_true rfl)
  | exact hbad _ _ (by first | (simp only [element, Rs.bind, Ps.need, Ps.take, Ps.needs, Bool.or_true, Bool.or_false, Bool.true_or, Bool.false_or, Bool.and_true, Bool.and_false, Bool.true_and, Bool.false_and, Bool.not_true, Bool.not_false, Ps.named, Ps.node, *]; done) | (simp only [element, Rs.bind, Ps.need, Ps.take, Ps.needs, Bool.or_true, Bool.or_false, Bool.true_or, Bool.false_or, Bool.and_true, Bool.and_false, Bool.true_and, Bool.false_and, Bool.not_true, Bool.not_false, Ps.named, Ps.node, *]; exact rfl)) (by rw [show St.row _ 0 = _ by assumption]; assumption) (by assumption)
  | exact hfin _ _ _ _ _ _ _ _ _ (by first | (simp only [element, Rs.bind, Ps.need, Ps.take, Ps.needs, Bool.or_true, Bool.or_false, Bool.true_or, Bool.false_or, Bool.and_true, Bool.and_false, Bool.true_and, Bool.false_and, Bool.not_true, Bool.not_false, Ps.named, Ps.node, *]; done) | (simp only [element, Rs.bind, Ps.need, Ps.take, Ps.needs, Bool.or_true, Bool.or_false, Bool.true_or, Bool.false_or, Bool.and_true, Bool.and_false, Bool.true_and, Bool.false_and, Bool.not_true, Bool.not_false, Ps.named, Ps.node, *]; exact rfl)) (by assumption) (.inl rfl) (by assumption) (Nat.le_of_ble_eq_true rfl)
theorem at_element {t : List Tk} (ht : Toks t) (n : Nat) (hn : n ≤ 1000000000) (P : Parser t n) : Fn t 77 [] (element reservedB t n) := fn_of (fun _ => rfl) fun z r h hf => lit_element ht n hn P z r h hf
theorem lit_create1 {t : List Tk} (ht : Toks t) (n : Nat) (hn : n ≤ 1000000000) (P : Parser t n) (z : Nat) (r : List AV) (h : At t z r) (hf : listOf t n (element reservedB t n) z = .fuel → False) :
  CallP Tryz.prog (Pr.tab real) 76 [.ptr 1 0] (P2 r) (PostC t 2 (listOf t n (element reservedB t n) z) lav) := by
 have hfin := fun e cs m l z' S' => finLC t 2 (listOf t n (element reservedB t n) z) e cs m l z' S'
 have hbad := fun z' S' => finBadC t 2 (listOf t n (element reservedB t n) z) lav z' S'
 generalize PostC t 2 (listOf t n (element reservedB t n) z) lav = K0 at hfin hbad ⊢
 apply body_calls (un := 0) Pr.tabOk Pr.mixed Ps.fn76 (Nat.le_of_ble_eq_true rfl)
 apply gen_body (mk := Pr.tab)
 intro fail need same call loop len slen arith shift cmp conv eqS ltS cat app elt byt subS subL strOf isB fit inb cut room not and eqB avs G
 have heqS : ∀ a b, eqS a b = (a == b) := fun a b => by rw [G.eqS']
 have hnot : ∀ b, not b = !b := fun b => by rw [G.not']
 unfold P2
 cbv
 repeat'
  (first
    | refine GenH.need' G rfl ?_
    | refine GenH.same' G rfl ?_
    | ((refine GenH.call' G (at_list ht (at_element ht n hn P) hn (by assumption) (Nat.le_of_ble_eq_true rfl) (fun q => hf (by first | (simp only [Ps.need, Rs.bind, Ps.need, Ps.take, Ps.needs, Bool.or_true, Bool.or_false, Bool.true_or, Bool.false_or, Bool.and_true, Bool.and_false, Bool.true_and, Bool.false_and, Bool.not_true, Bool.not_false, *]; done) | (simp only [Ps.need, Rs.bind, Ps.need, Ps.take, Ps.needs, Bool.or_true, Bool.or_false, Bool.true_or, Bool.false_or, Bool.and_true, Bool.and_false, Bool.true_and, Bool.false_and, Bool.not_true, Bool.not_false, *]; exact rfl))) (fun l cl z' r' hs hcl hr' => ?_) (fun z' r' hs hr' => ?_))) <;> (try cbv))
    | (rw [hnot]; (try cbv))
    | fail)
 all_goals first
  | exact hbad _ _ (by first | (simp only [Ps.need, Rs.bind, Ps.need, Ps.take, Ps.needs, Bool.or_true, Bool.or_false, Bool.true_or, Bool.false_or, Bool.and_true, Bool.and_false, Bool.true_and, Bool.false_and, Bool.not_true, Bool.not_false, *]; done) | (simp only [Ps.need, Rs.bind, Ps.need, Ps.take, Ps.needs, Bool.or_true, Bool.or_false, Bool.true_or, Bool.false_or, Bool.and_true, Bool.and_false, Bool.true_and, Bool.false_and, Bool.not_true, Bool.not_false, *]; exact rfl)) (by assumption) (Nat.le_of_ble_eq_true rfl) rfl
  | exact hfin _ _ _ _ _ _ (by first | (simp only [Ps.need, Rs.bind, Ps.need, Ps.take, Ps.needs, Bool.or_true, Bool.or_false, Bool.true_or, Bool.false_or, Bool.and_true, Bool.and_false, Bool.true_and, Bool.false_and, Bool.not_true, Bool.not_false, *]; done) | (simp only [Ps.need, Rs.bind, Ps.need, Ps.take, Ps.needs, Bool.or_true, Bool.or_false, Bool.true_or, Bool.false_or, Bool.and_true, Bool.and_false, Bool.true_and, Bool.false_and, Bool.not_true, Bool.not_false, *]; exact rfl)) (by subst_vars; exact rfl) (by first | exact .inl rfl | exact .inr rfl) (by assumption) (Nat.le_of_ble_eq_true rfl) rfl
theorem at_create1 {t : List Tk} (ht : Toks t) (n : Nat) (hn : n ≤ 1000000000) (P : Parser t n) : FnCL t 76 (listOf t n (element reservedB t n)) := fnCL_of fun z r h hf => lit_create1 ht n hn P z r h hf
theorem names_len {t : List Tk} {n z : Nat} {l : List Nd} {z' : Nat} (h : names reservedB t n z = .ok l z') : 1 ≤ l.length ∧ l.length ≤ n + 1 := by
 unfold names at h
 obtain ⟨a, b, hab⟩ := within_ok h
 exact listOf_len hab
theorem lit_create {t : List Tk} (ht : Toks t) (n : Nat) (hn : n ≤ 1000000000) (P : Parser t n) (z : Nat) (r : List AV) (h : At t z r) (hf : create reservedB t n z = .fuel → False) :
  CallP Tryz.prog (Pr.tab real) 38 [.ptr 0 0] (P0 r) (Post t (create reservedB t n z) Nd.av) := by
 have hfin := fun op s k e cs m l z' S' => finOk t (create reservedB t n z) op s k e cs m l z' S'
 have hbad := fun z' S' => finBad t (create reservedB t n z) Nd.av z' S'
 generalize Post t (create reservedB t n z) Nd.av = K0 at hfin hbad ⊢
 apply body_calls (un := 0) Pr.tabOk Pr.mixed Ps.fn38 (Nat.le_of_ble_eq_true rfl)
 apply gen_body (mk := Pr.tab)
 intro fail need same call loop len slen arith shift cmp conv eqS ltS cat app elt byt subS subL strOf isB fit inb cut room not and eqB avs G
 have heqS : ∀ a b, eqS a b = (a == b) := fun a b => by rw [G.eqS']
 have hnot : ∀ b, not b = !b := fun b => by rw [G.not']
 have hlenE : ∀ {l cl z1 z2}, names reservedB t n z1 = .ok l z2 → cl = avL l → 1 ≤ cl.length ∧ cl.length ≤ 1000000001 := by
  intro l cl z1 z2 hq hcl
  have := names_len hq
  rw [hcl, avL_map, List.length_map]
  omega
 have hroomE : ∀ {l cl z1 z2 x}, names reservedB t n z1 = .ok l z2 → cl = avL l → room (len (app [x] cl)) 64 = true := by
  intro l cl z1 z2 x hq hcl
  have := hlenE hq hcl
  rw [G.app', G.room', G.len']; simp; omega
 have hposE : ∀ {l cl z1 z2}, names reservedB t n z1 = .ok l z2 → cl = avL l → cmp BinOp.lss 0 (len cl) = true := by
  intro l cl z1 z2 hq hcl
  have := hlenE hq hcl
  rw [G.cmp', G.len']; simp [intRel]; omega
 have happE : ∀ x cl, app [x] cl = x :: cl := fun x cl => by rw [G.app']; rfl
 unfold P0
 cbv
 repeat'
  (first
    | refine GenH.need' G rfl ?_
    | refine GenH.same' G rfl ?_
    | ((refine GenH.call' G (at_take ht (by assumption) (Nat.le_of_ble_eq_true rfl) (fun r' hs hr' => ?_) (fun r' hs hr' => ?_))) <;> (try cbv))
    | ((refine GenH.call' G (at_name ht (by assumption) (Nat.le_of_ble_eq_true rfl) (fun a z' r' hs hr' => ?_) (fun z' r' hs hr' => ?_))) <;> (try cbv))
    | ((refine GenH.call' G (at_withinCL ht (at_create1 ht n hn P) (by decide) (by assumption) (Nat.le_of_ble_eq_true rfl) rfl (Nat.le_of_ble_eq_true rfl) (fun q => hf (by first | (simp only [create, Rs.bind, Ps.need, Ps.take, Ps.needs, Bool.or_true, Bool.or_false, Bool.true_or, Bool.false_or, Bool.and_true, Bool.and_false, Bool.true_and, Bool.false_and, Bool.not_true, Bool.not_false, Ps.named, Ps.node, *]; done) | (simp only [create, Rs.bind, Ps.need, Ps.take, Ps.needs, Bool.or_true, Bool.or_false, Bool.true_or, Bool.false_or, Bool.and_true, Bool.and_false, Bool.true_and, Bool.false_and, Bool.not_true, Bool.not_false, Ps.named, Ps.node, *]; exact rfl))) (fun l cl z' r' hs hcl hr' => ?_) (fun z' r' hs hr' => ?_))) <;> (try cbv))
    | ((refine GenH.call' G (at_need ht (by assumption) (Nat.le_of_ble_eq_true rfl) (fun r' hs hr' => ?_) (fun z' r' hs hr' => ?_))) <;> (try cbv))
    | ((refine GenH.call' G ((at_names ht n hn P) _ _ 0 _ (by assumption) (Nat.le_of_ble_eq_true rfl) (fun q => hf (by first | (simp only [create, Rs.bind, Ps.need, Ps.take, Ps.needs, Bool.or_true, Bool.or_false, Bool.true_or, Bool.false_or, Bool.and_true, Bool.and_false, Bool.true_and, Bool.false_and, Bool.not_true, Bool.not_false, Ps.named, Ps.node, *]; done) | (simp only [create, Rs.bind, Ps.need, Ps.take, Ps.needs, Bool.or_true, Bool.or_false, Bool.true_or, Bool.false_or, Bool.and_true, Bool.and_false, Bool.true_and, Bool.false_and, Bool.not_true, Bool.not_false, Ps.named, Ps.node, *]; exact rfl))) (fun l cl z' r' hs hcl hr' => ?_) (fun z' r' hs hr' => ?_))) <;> (try cbv))
    | (((refine GenH.need' G (hroomE (by assumption) (by assumption)) (GenH.need' G (hposE (by assumption) (by assumption)) ?_); rw [happE])) <;> (try cbv))
    | ((refine GenH.call' G (at_node [] (by subst_vars; exact rfl) (by first | exact .inl rfl | exact .inr rfl) rfl (fun cl hcl => ?_))) <;> (try cbv))
    | ((refine GenH.call' G (at_node [.mk _ _ _ _] (by subst_vars; exact rfl) (by first | exact .inl rfl | exact .inr rfl) rfl (fun cl hcl => ?_))) <;> (try cbv))
    | ((refine GenH.call' G (at_node [.mk _ _ _ _, .mk _ _ _ _] (by subst_vars; exact rfl) (by first | exact .inl rfl | exact .inr rfl) rfl (fun cl hcl => ?_))) <;> (try cbv))
    | ((refine GenH.call' G (at_node [.mk _ _ _ _, .mk _ _ _ _, .mk _ _ _ _] (by subst_vars; exact rfl) (by first | exact .inl rfl | exact .inr rfl) rfl (fun cl hcl => ?_))) <;> (try cbv))
    | ((refine GenH.call' G (at_node [.mk _ _ _ _, .mk _ _ _ _, .mk _ _ _ _, .mk _ _ _ _, .mk _ _ _ _] (by subst_vars; exact rfl) (by first | exact .inl rfl | exact .inr rfl) rfl (fun cl hcl => ?_))) <;> (try cbv))
    | ((refine GenH.call' G (at_node (.mk _ _ _ _ :: _) (by subst_vars; exact rfl) (by first | exact .inl rfl | exact .inr rfl) rfl (fun cl hcl => ?_))) <;> (try cbv))
    | ((refine GenH.call' G (at_node _ (by subst_vars; exact rfl) (by first | exact .inl rfl | exact .inr rfl) rfl (fun cl hcl => ?_))) <;> (try cbv))
    | ((refine GenH.call' G (at_named [] (by subst_vars; exact rfl) (by first | exact .inl rfl | exact .inr rfl) rfl (fun cl hcl => ?_))) <;> (try cbv))
    | ((refine GenH.call' G (at_named [.mk _ _ _ _] (by subst_vars; exact rfl) (by first | exact .inl rfl | exact .inr rfl) rfl (fun cl hcl => ?_))) <;> (try cbv))
    | ((refine GenH.call' G (at_named [.mk _ _ _ _, .mk _ _ _ _] (by subst_vars; exact rfl) (by first | exact .inl rfl | exact .inr rfl) rfl (fun cl hcl => ?_))) <;> (try cbv))
    | ((refine GenH.call' G (at_named [.mk _ _ _ _, .mk _ _ _ _, .mk _ _ _ _] (by subst_vars; exact rfl) (by first | exact .inl rfl | exact .inr rfl) rfl (fun cl hcl => ?_))) <;> (try cbv))
    | ((refine GenH.call' G (at_named [.mk _ _ _ _, .mk _ _ _ _, .mk _ _ _ _, .mk _ _ _ _, .mk _ _ _ _] (by subst_vars; exact rfl) (by first | exact .inl rfl | exact .inr rfl) rfl (fun cl hcl => ?_))) <;> (try cbv))
    | ((refine GenH.call' G (at_named (.mk _ _ _ _ :: _) (by subst_vars; exact rfl) (by first | exact .inl rfl | exact .inr rfl) rfl (fun cl hcl => ?_))) <;> (try cbv))
    | ((refine GenH.call' G (at_named _ (by subst_vars; exact rfl) (by first | exact .inl rfl | exact .inr rfl) rfl (fun cl hcl => ?_))) <;> (try cbv))
    | (rw [hnot]; (try cbv))
    | fail)
 all_goals first
  | exact hbad _ _ (by first | (simp only [create, Rs.bind, Ps.need, Ps.take, Ps.needs, Bool.or_true, Bool.or_false, Bool.true_or, Bool.false_or, Bool.and_true, Bool.and_false, Bool.true_and, Bool.false_and, Bool.not_true, Bool.not_false, Ps.named, Ps.node, *]; done) | (simp only [create, Rs.bind, Ps.need, Ps.take, Ps.needs, Bool.or_true, Bool.or_false, Bool.true_or, Bool.false_or, Bool.and_true, Bool.and_false, Bool.true_and, Bool.false_and, Bool.not_true, Bool.not_false, Ps.named, Ps.node, *]; exact rfl)) (by assumption) (Nat.le_of_ble_eq_true rfl)
  | exact hfin _ _ _ _ _ _ _ _ _ (by first | (simp only [create, Rs.bind, Ps.need, Ps.take, Ps.needs, Bool.or_true, Bool.or_false, Bool.true_or, Bool.false_or, Bool.and_true, Bool.and_false, Bool.true_and, Bool.false_and, Bool.not_true, Bool.not_false, Ps.named, Ps.node, *]; done) | (simp only [create, Rs.bind, Ps.need, Ps.take, Ps.needs, Bool.or_true, Bool.or_false, Bool.true_or, Bool.false_or, Bool.and_true, Bool.and_false, Bool.true_and, Bool.false_and, Bool.not_true, Bool.not_false, Ps.named, Ps.node, *]; exact rfl)) (by subst_vars; exact rfl) (by first | exact .inl rfl | exact .inr rfl) (by assumption) (Nat.le_of_ble_eq_true rfl)
theorem at_create {t : List Tk} (ht : Toks t) (n : Nat) (hn : n ≤ 1000000000) (P : Parser t n) : Fn t 38 [] (create reservedB t n) := fn_of (fun _ => rfl) fun z r h hf => lit_create ht n hn P z r h hf
theorem lit_statement {t : List Tk} (ht : Toks t) (n : Nat) (hn : n ≤ 1000000000) (P : Parser t n) (z : Nat) (r : List AV) (h : At t z r) (hf : statement reservedB t n z = .fuel → False) :
  CallP Tryz.prog (Pr.tab real) 21 [.ptr 0 0] (P0 r) (Post t (statement reservedB t n z) Nd.av) := by
 have hfin := fun op s k e cs m l z' S' => finOk t (statement reservedB t n z) op s k e cs m l z' S'
 have hbad := fun z' S' => finBad t (statement reservedB t n z) Nd.av z' S'
 generalize Post t (statement reservedB t n z) Nd.av = K0 at hfin hbad ⊢
 apply body_calls (un := 0) Pr.tabOk Pr.mixed Ps.fn21 (Nat.le_of_ble_eq_true rfl)
 apply gen_body (mk := Pr.tab)
 intro fail need same call loop len slen arith shift cmp conv eqS ltS cat app elt byt subS subL strOf isB fit inb cut room not and eqB avs G
 have heqS : ∀ a b, eqS a b = (a == b) := fun a b => by rw [G.eqS']
 have hnot : ∀ b, not b = !b := fun b => by rw [G.not']
 have happ : ∀ cs x, app cs [x] = cs ++ [x] := fun cs x => by rw [G.app']
 have hroom : ∀ (cs : List AV) x, cs.length ≤ 2000000001 → room (len (cs ++ [x])) 64 = true := fun cs x h => by rw [G.room', G.len']; simp; omega
 have heqc : ∀ (cs : List AV) (n2 : Int), n2 = cs.length → cmp BinOp.eql n2 (len cs) = true := fun cs n2 h => by rw [G.cmp', G.len', h]; simp [intRel]
 have h01 : ∀ x, cmp BinOp.lss 0 (len [x]) = true := fun x => by rw [G.cmp', G.len']; rfl
 unfold P0
 cbv
 repeat'
  (first
    | refine GenH.need' G rfl ?_
    | refine GenH.same' G rfl ?_
    | ((refine GenH.call' G (sees0 ht (by assumption) (Nat.le_of_ble_eq_true rfl) (fun hs => ?_) (fun hs => ?_))) <;> (try cbv))
    | ((refine GenH.call' G (at_take ht (by assumption) (Nat.le_of_ble_eq_true rfl) (fun r' hs hr' => ?_) (fun r' hs hr' => ?_))) <;> (try cbv))
    | ((refine GenH.call' G (at_take2 ht (by assumption) (Nat.le_of_ble_eq_true rfl) (fun r' hs hs2 hr' => ?_) (fun r' hs hr' => ?_) (fun z' r' hs hs2 hr' => ?_))) <;> (try cbv))
    | ((refine GenH.call' G (at_take4 ht (by assumption) (Nat.le_of_ble_eq_true rfl) (fun r' hs hs2 hs3 hs4 hr' => ?_) (fun r' hs hr' => ?_) (fun z' r' hs hs2 hr' => ?_) (fun z' r' hs hs2 hs3 hr' => ?_) (fun z' r' hs hs2 hs3 hs4 hr' => ?_))) <;> (try cbv))
    | ((refine GenH.call' G (at_name ht (by assumption) (Nat.le_of_ble_eq_true rfl) (fun a z' r' hs hr' => ?_) (fun z' r' hs hr' => ?_))) <;> (try cbv))
    | ((refine GenH.call' G (at_need ht (by assumption) (Nat.le_of_ble_eq_true rfl) (fun r' hs hr' => ?_) (fun z' r' hs hr' => ?_))) <;> (try cbv))
    | ((refine GenH.call' G ((at_query ht n hn P) _ _ 0 _ (by assumption) (Nat.le_of_ble_eq_true rfl) (fun q => hf (by first | (simp only [statement, updateP, Rs.bind, Ps.need, Ps.take, Ps.needs, Bool.or_true, Bool.or_false, Bool.true_or, Bool.false_or, Bool.and_true, Bool.and_false, Bool.true_and, Bool.false_and, Bool.not_true, Bool.not_false, Ps.named, Ps.node, *]; done) | (simp only [statement, updateP, Rs.bind, Ps.need, Ps.take, Ps.needs, Bool.or_true, Bool.or_false, Bool.true_or, Bool.false_or, Bool.and_true, Bool.and_false, Bool.true_and, Bool.false_and, Bool.not_true, Bool.not_false, Ps.named, Ps.node, *]; exact rfl))) (fun op s k l cl z' r' hs hcl hr' => ?_) (fun z' r' hs hr' => ?_))) <;> (try cbv))
    | ((refine GenH.call' G ((at_create ht n hn P) _ _ 0 _ (by assumption) (Nat.le_of_ble_eq_true rfl) (fun q => hf (by first | (simp only [statement, updateP, Rs.bind, Ps.need, Ps.take, Ps.needs, Bool.or_true, Bool.or_false, Bool.true_or, Bool.false_or, Bool.and_true, Bool.and_false, Bool.true_and, Bool.false_and, Bool.not_true, Bool.not_false, Ps.named, Ps.node, *]; done) | (simp only [statement, updateP, Rs.bind, Ps.need, Ps.take, Ps.needs, Bool.or_true, Bool.or_false, Bool.true_or, Bool.false_or, Bool.and_true, Bool.and_false, Bool.true_and, Bool.false_and, Bool.not_true, Bool.not_false, Ps.named, Ps.node, *]; exact rfl))) (fun op s k l cl z' r' hs hcl hr' => ?_) (fun z' r' hs hr' => ?_))) <;> (try cbv))
    | ((refine GenH.call' G ((at_insertP ht n hn P) _ _ 0 _ (by assumption) (Nat.le_of_ble_eq_true rfl) (fun q => hf (by first | (simp only [statement, updateP, Rs.bind, Ps.need, Ps.take, Ps.needs, Bool.or_true, Bool.or_false, Bool.true_or, Bool.false_or, Bool.and_true, Bool.and_false, Bool.true_and, Bool.false_and, Bool.not_true, Bool.not_false, Ps.named, Ps.node, *]; done) | (simp only [statement, updateP, Rs.bind, Ps.need, Ps.take, Ps.needs, Bool.or_true, Bool.or_false, Bool.true_or, Bool.false_or, Bool.and_true, Bool.and_false, Bool.true_and, Bool.false_and, Bool.not_true, Bool.not_false, Ps.named, Ps.node, *]; exact rfl))) (fun op s k l cl z' r' hs hcl hr' => ?_) (fun z' r' hs hr' => ?_))) <;> (try cbv))
    | ((refine GenH.call' G ((at_whose ht n hn P) _ _ 0 _ (by assumption) (Nat.le_of_ble_eq_true rfl) (fun q => hf (by first | (simp only [statement, updateP, Rs.bind, Ps.need, Ps.take, Ps.needs, Bool.or_true, Bool.or_false, Bool.true_or, Bool.false_or, Bool.and_true, Bool.and_false, Bool.true_and, Bool.false_and, Bool.not_true, Bool.not_false, Ps.named, Ps.node, *]; done) | (simp only [statement, updateP, Rs.bind, Ps.need, Ps.take, Ps.needs, Bool.or_true, Bool.or_false, Bool.true_or, Bool.false_or, Bool.and_true, Bool.and_false, Bool.true_and, Bool.false_and, Bool.not_true, Bool.not_false, Ps.named, Ps.node, *]; exact rfl))) (fun op s k l cl z' r' hs hcl hr' => ?_) (fun z' r' hs hr' => ?_))) <;> (try cbv))
    | ((refine GenH.call' G ((at_declareP ht n hn P) _ _ 0 _ (by assumption) (Nat.le_of_ble_eq_true rfl) (fun q => hf (by first | (simp only [statement, updateP, Rs.bind, Ps.need, Ps.take, Ps.needs, Bool.or_true, Bool.or_false, Bool.true_or, Bool.false_or, Bool.and_true, Bool.and_false, Bool.true_and, Bool.false_and, Bool.not_true, Bool.not_false, Ps.named, Ps.node, *]; done) | (simp only [statement, updateP, Rs.bind, Ps.need, Ps.take, Ps.needs, Bool.or_true, Bool.or_false, Bool.true_or, Bool.false_or, Bool.and_true, Bool.and_false, Bool.true_and, Bool.false_and, Bool.not_true, Bool.not_false, Ps.named, Ps.node, *]; exact rfl))) (fun op s k l cl z' r' hs hcl hr' => ?_) (fun z' r' hs hr' => ?_))) <;> (try cbv))
    | ((refine GenH.call' G ((at_way ht n hn P) _ _ 0 _ (by assumption) (Nat.le_of_ble_eq_true rfl) (fun q => hf (by first | (simp only [statement, updateP, Rs.bind, Ps.need, Ps.take, Ps.needs, Bool.or_true, Bool.or_false, Bool.true_or, Bool.false_or, Bool.and_true, Bool.and_false, Bool.true_and, Bool.false_and, Bool.not_true, Bool.not_false, Ps.named, Ps.node, *]; done) | (simp only [statement, updateP, Rs.bind, Ps.need, Ps.take, Ps.needs, Bool.or_true, Bool.or_false, Bool.true_or, Bool.false_or, Bool.and_true, Bool.and_false, Bool.true_and, Bool.false_and, Bool.not_true, Bool.not_false, Ps.named, Ps.node, *]; exact rfl))) (fun op s k l cl z' r' hs hcl hr' => ?_) (fun z' r' hs hr' => ?_))) <;> (try cbv))
    | ((refine GenH.call' G (at_level ht n hn P (by assumption) (Nat.le_of_ble_eq_true rfl) (fun a z' r' hs hr' => ?_) (fun z' r' hs hr' => ?_))) <;> (try cbv))
    | (((refine GenH.call' G (at_listOwn ht (at_setE ht n hn P) hn (by assumption) rfl rfl (fun q => hf (by first | (simp only [statement, updateP, Rs.bind, Ps.need, Ps.take, Ps.needs, Bool.or_true, Bool.or_false, Bool.true_or, Bool.false_or, Bool.and_true, Bool.and_false, Bool.true_and, Bool.false_and, Bool.not_true, Bool.not_false, Ps.named, Ps.node, *]; done) | (simp only [statement, updateP, Rs.bind, Ps.need, Ps.take, Ps.needs, Bool.or_true, Bool.or_false, Bool.true_or, Bool.false_or, Bool.and_true, Bool.and_false, Bool.true_and, Bool.false_and, Bool.not_true, Bool.not_false, Ps.named, Ps.node, *]; exact rfl))) (fun l cs m caps z' r' hs hcl hg hlen hr' => ?_) (fun z' r' caps hs hr' => ?_)))) <;> (try cbv))
    | (((rw [happ]; refine GenH.need' G (hroom _ _ (by assumption)) (GenH.need' G (heqc _ _ (by assumption)) ?_))) <;> (try cbv))
    | (((rw [happ]; refine GenH.need' G (hroom _ _ (by assumption)) (GenH.need' G (h01 _) ?_))) <;> (try cbv))
    | ((refine GenH.call' G (at_node [] (by subst_vars; exact rfl) (by first | exact .inl rfl | exact .inr rfl) rfl (fun cl hcl => ?_))) <;> (try cbv))
    | ((refine GenH.call' G (at_node [.mk _ _ _ _] (by subst_vars; exact rfl) (by first | exact .inl rfl | exact .inr rfl) rfl (fun cl hcl => ?_))) <;> (try cbv))
    | ((refine GenH.call' G (at_node [.mk _ _ _ _, .mk _ _ _ _] (by subst_vars; exact rfl) (by first | exact .inl rfl | exact .inr rfl) rfl (fun cl hcl => ?_))) <;> (try cbv))
    | ((refine GenH.call' G (at_node [.mk _ _ _ _, .mk _ _ _ _, .mk _ _ _ _] (by subst_vars; exact rfl) (by first | exact .inl rfl | exact .inr rfl) rfl (fun cl hcl => ?_))) <;> (try cbv))
    | ((refine GenH.call' G (at_node [.mk _ _ _ _, .mk _ _ _ _, .mk _ _ _ _, .mk _ _ _ _, .mk _ _ _ _] (by subst_vars; exact rfl) (by first | exact .inl rfl | exact .inr rfl) rfl (fun cl hcl => ?_))) <;> (try cbv))
    | ((refine GenH.call' G (at_node (.mk _ _ _ _ :: _) (by subst_vars; exact rfl) (by first | exact .inl rfl | exact .inr rfl) rfl (fun cl hcl => ?_))) <;> (try cbv))
    | ((refine GenH.call' G (at_node _ (by subst_vars; exact rfl) (by first | exact .inl rfl | exact .inr rfl) rfl (fun cl hcl => ?_))) <;> (try cbv))
    | ((refine GenH.call' G (at_named [] (by subst_vars; exact rfl) (by first | exact .inl rfl | exact .inr rfl) rfl (fun cl hcl => ?_))) <;> (try cbv))
    | ((refine GenH.call' G (at_named [.mk _ _ _ _] (by subst_vars; exact rfl) (by first | exact .inl rfl | exact .inr rfl) rfl (fun cl hcl => ?_))) <;> (try cbv))
    | ((refine GenH.call' G (at_named [.mk _ _ _ _, .mk _ _ _ _] (by subst_vars; exact rfl) (by first | exact .inl rfl | exact .inr rfl) rfl (fun cl hcl => ?_))) <;> (try cbv))
    | ((refine GenH.call' G (at_named [.mk _ _ _ _, .mk _ _ _ _, .mk _ _ _ _] (by subst_vars; exact rfl) (by first | exact .inl rfl | exact .inr rfl) rfl (fun cl hcl => ?_))) <;> (try cbv))
    | ((refine GenH.call' G (at_named [.mk _ _ _ _, .mk _ _ _ _, .mk _ _ _ _, .mk _ _ _ _, .mk _ _ _ _] (by subst_vars; exact rfl) (by first | exact .inl rfl | exact .inr rfl) rfl (fun cl hcl => ?_))) <;> (try cbv))
    | ((refine GenH.call' G (at_named (.mk _ _ _ _ :: _) (by subst_vars; exact rfl) (by first | exact .inl rfl | exact .inr rfl) rfl (fun cl hcl => ?_))) <;> (try cbv))
    | ((refine GenH.call' G (at_named _ (by subst_vars; exact rfl) (by first | exact .inl rfl | exact .inr rfl) rfl (fun cl hcl => ?_))) <;> (try cbv))
    | (((cases hg)) <;> (try cbv))
    | (rw [hnot]; (try cbv))
    | fail)
 all_goals first
  | exact hbad _ _ (by first | (simp only [statement, updateP, Rs.bind, Ps.need, Ps.take, Ps.needs, Bool.or_true, Bool.or_false, Bool.true_or, Bool.false_or, Bool.and_true, Bool.and_false, Bool.true_and, Bool.false_and, Bool.not_true, Bool.not_false, Ps.named, Ps.node, *]; done) | (simp only [statement, updateP, Rs.bind, Ps.need, Ps.take, Ps.needs, Bool.or_true, Bool.or_false, Bool.true_or, Bool.false_or, Bool.and_true, Bool.and_false, Bool.true_and, Bool.false_and, Bool.not_true, Bool.not_false, Ps.named, Ps.node, *]; exact rfl)) (by assumption) (Nat.le_of_ble_eq_true rfl)
  | exact hfin _ _ _ _ _ _ _ _ _ (by first | (simp only [statement, updateP, Rs.bind, Ps.need, Ps.take, Ps.needs, Bool.or_true, Bool.or_false, Bool.true_or, Bool.false_or, Bool.and_true, Bool.and_false, Bool.true_and, Bool.false_and, Bool.not_true, Bool.not_false, Ps.named, Ps.node, *]; done) | (simp only [statement, updateP, Rs.bind, Ps.need, Ps.take, Ps.needs, Bool.or_true, Bool.or_false, Bool.true_or, Bool.false_or, Bool.and_true, Bool.and_false, Bool.true_and, Bool.false_and, Bool.not_true, Bool.not_false, Ps.named, Ps.node, *]; exact rfl)) (by subst_vars; exact rfl) (by first | exact .inl rfl | exact .inr rfl) (by assumption) (Nat.le_of_ble_eq_true rfl)
  | exact hfin _ _ _ _ _ _ _ _ _ (by first | (simp only [statement, updateP, Rs.bind, Ps.need, Ps.take, Ps.needs, Bool.or_true, Bool.or_false, Bool.true_or, Bool.false_or, Bool.and_true, Bool.and_false, Bool.true_and, Bool.false_and, Bool.not_true, Bool.not_false, Ps.named, Ps.node, *]; done) | (simp only [statement, updateP, Rs.bind, Ps.need, Ps.take, Ps.needs, Bool.or_true, Bool.or_false, Bool.true_or, Bool.false_or, Bool.and_true, Bool.and_false, Bool.true_and, Bool.false_and, Bool.not_true, Bool.not_false, Ps.named, Ps.node, *]; exact rfl)) (by rw [happ]; exact avL_app' (by assumption) (by assumption)) (.inl rfl) (by assumption) (Nat.le_of_ble_eq_true rfl)
theorem at_statement {t : List Tk} (ht : Toks t) (n : Nat) (hn : n ≤ 1000000000) (P : Parser t n) : Fn t 21 [] (statement reservedB t n) := fn_of (fun _ => rfl) fun z r h hf => lit_statement ht n hn P z r h hf
end Go.AM.Ps
