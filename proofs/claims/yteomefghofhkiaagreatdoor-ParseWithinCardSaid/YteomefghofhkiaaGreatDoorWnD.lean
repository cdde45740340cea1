/- The parser's functions: tests. -/
import Derived.Test.YteomefghofhkiaaGreatDoorWnC
set_option maxRecDepth 100000
set_option maxHeartbeats 40000000
set_option linter.unusedVariables false
set_option linter.unusedSimpArgs false
namespace Go.AM.Ps
open Go.Proofs W
theorem listMore_len {α : Type} {t : List Tk} {part : Nat → Rs α} : ∀ (n : Nat) (acc : List α) (z : Nat) (l : List α) (z' : Nat), listMore t part n acc z = .ok l z' → acc.length ≤ l.length ∧ l.length ≤ acc.length + n
 | 0, acc, z, l, z', h => by cases h
 | n + 1, acc, z, l, z', h => by
  have hlm : listMore t part (n + 1) acc z = match sees t z g_comma with
   | true => (part (z + 1)).bind fun x z => listMore t part n (acc ++ [x]) z
   | false => .ok acc z := rfl
  rw [hlm] at h
  split at h
  · cases hp : part (z + 1) with
    | fuel => rw [hp] at h; cases h
    | wrong => rw [hp] at h; cases h
    | ok x z1 =>
     rw [hp] at h
     have := listMore_len n (acc ++ [x]) z1 l z' h
     simp at this
     omega
  · cases h; omega
theorem listOf_len {α : Type} {t : List Tk} {part : Nat → Rs α} {n : Nat} {z : Nat} {l : List α} {z' : Nat} (h : listOf t n part z = .ok l z') : 1 ≤ l.length ∧ l.length ≤ n + 1 := by
 unfold listOf at h
 cases hp : part z with
 | fuel => rw [hp] at h; cases h
 | wrong => rw [hp] at h; cases h
 | ok x z1 =>
  rw [hp] at h
  have := listMore_len n [x] z1 l z' h
  simp at this
  omega
theorem within_ok {α : Type} {t : List Tk} {part : Nat → Rs α} {z : Nat} {x : α} {z' : Nat} (h : within t part z = .ok x z') : ∃ z1 z2, part z1 = .ok x z2 := by
 unfold within at h
 cases h1 : Ps.need t g_par z with
 | fuel => rw [h1] at h; cases h
 | wrong => rw [h1] at h; cases h
 | ok u z1 =>
  rw [h1] at h
  simp only [Rs.bind] at h
  cases h2 : part z1 with
  | fuel => rw [h2] at h; cases h
  | wrong => rw [h2] at h; cases h
  | ok y z2 =>
   rw [h2] at h
   simp only [] at h
   split at h
   · cases h
   · cases h
   · cases h; exact ⟨z1, z2, h2⟩
theorem exprs_len {t : List Tk} {n z : Nat} {l : List Nd} {z' : Nat} (h : exprs reservedB t n z = .ok l z') : 1 ≤ l.length ∧ l.length ≤ n + 1 := by
 cases n with
 | zero => rw [exprs] at h; cases h
 | succ n =>
  rw [exprs] at h
  have := listOf_len h
  omega
theorem lit_expr {t : List Tk} (ht : Toks t) (n : Nat) (hn : n ≤ 1000000000) (hb1 : Fn t 116 [.int .i64 1] (binds reservedB t n 1)) (z : Nat) (r : List AV) (h : At t z r) (hf : expr reservedB t (n + 1) z = .fuel → False) :
  CallP Tryz.prog (Pr.tab real) 83 [.ptr 0 0] (P0 r) (Post t (expr reservedB t (n + 1) z) Nd.av) := by
 have hfin := fun op s k e cs m l z' S' => finOk t (expr reservedB t (n + 1) z) op s k e cs m l z' S'
 have hbad := fun z' S' => finBad t (expr reservedB t (n + 1) z) Nd.av z' S'
 generalize Post t (expr reservedB t (n + 1) z) Nd.av = K0 at hfin hbad ⊢
 apply body_calls (un := 0) Pr.tabOk Pr.mixed Ps.fn83 (Nat.le_of_ble_eq_true rfl)
 apply gen_body (mk := Pr.tab)
 intro fail need same call loop len slen arith shift cmp conv eqS ltS cat app elt byt subS subL strOf isB fit inb cut room not and eqB avs G
 have heqS : ∀ a b, eqS a b = (a == b) := fun a b => by rw [G.eqS']
 have hnot : ∀ b, not b = !b := fun b => by rw [G.not']
 unfold P0
 cbv
 repeat'
  (first
    | refine GenH.need' G rfl ?_
    | refine GenH.same' G rfl ?_
    | ((refine GenH.call' G (hb1 _ _ 0 _ (by assumption) (Nat.le_of_ble_eq_true rfl) (fun q => hf (by first | (simp only [expr, Rs.bind, Ps.need, Ps.take, Ps.needs, Bool.or_true, Bool.or_false, Bool.true_or, Bool.false_or, Bool.and_true, Bool.and_false, Bool.true_and, Bool.false_and, *]; done) | (simp only [expr, Rs.bind, Ps.need, Ps.take, Ps.needs, Bool.or_true, Bool.or_false, Bool.true_or, Bool.false_or, Bool.and_true, Bool.and_false, Bool.true_and, Bool.false_and, *]; exact rfl))) (fun op s k l cl z' r' hs hcl hr' => ?_) (fun z' r' hs hr' => ?_))) <;> (try cbv))
    | (rw [hnot]; (try cbv))
    | fail)
 all_goals first
  | exact hbad _ _ (by first | (simp only [expr, Rs.bind, Ps.need, Ps.take, Ps.needs, Bool.or_true, Bool.or_false, Bool.true_or, Bool.false_or, Bool.and_true, Bool.and_false, Bool.true_and, Bool.false_and, *]; done) | (simp only [expr, Rs.bind, Ps.need, Ps.take, Ps.needs, Bool.or_true, Bool.or_false, Bool.true_or, Bool.false_or, Bool.and_true, Bool.and_false, Bool.true_and, Bool.false_and, *]; exact rfl)) (by assumption) (Nat.le_of_ble_eq_true rfl)
  | exact hfin _ _ _ _ _ _ _ _ _ (by first | (simp only [expr, Rs.bind, Ps.need, Ps.take, Ps.needs, Bool.or_true, Bool.or_false, Bool.true_or, Bool.false_or, Bool.and_true, Bool.and_false, Bool.true_and, Bool.false_and, *]; done) | (simp only [expr, Rs.bind, Ps.need, Ps.take, Ps.needs, Bool.or_true, Bool.or_false, Bool.true_or, Bool.false_or, Bool.and_true, Bool.and_false, Bool.true_and, Bool.false_and, *]; exact rfl)) (by subst_vars; exact rfl) (by first | exact .inl rfl | exact .inr rfl) (by assumption) (Nat.le_of_ble_eq_true rfl)
theorem lit_exprs {t : List Tk} (ht : Toks t) (n : Nat) (hn : n ≤ 1000000000) (hexpr : Fn t 83 [] (expr reservedB t n)) (z : Nat) (r : List AV) (h : At t z r) (hf : exprs reservedB t (n + 1) z = .fuel → False) :
  CallP Tryz.prog (Pr.tab real) 82 [.ptr 0 0] (P0 r) (Post t (exprs reservedB t (n + 1) z) lav) := by
 have hfin := fun e cs m l z' S' => finL t (exprs reservedB t (n + 1) z) e cs m l z' S'
 have hbad := fun z' S' => finBad t (exprs reservedB t (n + 1) z) lav z' S'
 generalize Post t (exprs reservedB t (n + 1) z) lav = K0 at hfin hbad ⊢
 apply body_calls (un := 0) Pr.tabOk Pr.mixed Ps.fn82 (Nat.le_of_ble_eq_true rfl)
 apply gen_body (mk := Pr.tab)
 intro fail need same call loop len slen arith shift cmp conv eqS ltS cat app elt byt subS subL strOf isB fit inb cut room not and eqB avs G
 have heqS : ∀ a b, eqS a b = (a == b) := fun a b => by rw [G.eqS']
 have hnot : ∀ b, not b = !b := fun b => by rw [G.not']
 unfold P0
 cbv
 repeat'
  (first
    | refine GenH.need' G rfl ?_
    | refine GenH.same' G rfl ?_
    | ((refine GenH.call' G (at_list ht (by assumption) (by assumption) (by assumption) (Nat.le_of_ble_eq_true rfl) (fun q => hf (by first | (simp only [exprs, Rs.bind, Ps.need, Ps.take, Ps.needs, Bool.or_true, Bool.or_false, Bool.true_or, Bool.false_or, Bool.and_true, Bool.and_false, Bool.true_and, Bool.false_and, *]; done) | (simp only [exprs, Rs.bind, Ps.need, Ps.take, Ps.needs, Bool.or_true, Bool.or_false, Bool.true_or, Bool.false_or, Bool.and_true, Bool.and_false, Bool.true_and, Bool.false_and, *]; exact rfl))) (fun l cl z' r' hs hcl hr' => ?_) (fun z' r' hs hr' => ?_))) <;> (try cbv))
    | (rw [hnot]; (try cbv))
    | fail)
 all_goals first
  | exact hbad _ _ (by first | (simp only [exprs, Rs.bind, Ps.need, Ps.take, Ps.needs, Bool.or_true, Bool.or_false, Bool.true_or, Bool.false_or, Bool.and_true, Bool.and_false, Bool.true_and, Bool.false_and, *]; done) | (simp only [exprs, Rs.bind, Ps.need, Ps.take, Ps.needs, Bool.or_true, Bool.or_false, Bool.true_or, Bool.false_or, Bool.and_true, Bool.and_false, Bool.true_and, Bool.false_and, *]; exact rfl)) (by assumption) (Nat.le_of_ble_eq_true rfl)
  | exact hfin _ _ _ _ _ _ (by first | (simp only [exprs, Rs.bind, Ps.need, Ps.take, Ps.needs, Bool.or_true, Bool.or_false, Bool.true_or, Bool.false_or, Bool.and_true, Bool.and_false, Bool.true_and, Bool.false_and, *]; done) | (simp only [exprs, Rs.bind, Ps.need, Ps.take, Ps.needs, Bool.or_true, Bool.or_false, Bool.true_or, Bool.false_or, Bool.and_true, Bool.and_false, Bool.true_and, Bool.false_and, *]; exact rfl)) (by subst_vars; exact rfl) (by first | exact .inl rfl | exact .inr rfl) (by assumption) (Nat.le_of_ble_eq_true rfl)
theorem lit_primCast {t : List Tk} (ht : Toks t) (n : Nat) (hn : n ≤ 1000000000) (hexpr : Fn t 83 [] (expr reservedB t n)) (z : Nat) (r : List AV) (h : At t z r) (hf : primCast reservedB t (n + 1) z = .fuel → False) :
  CallP Tryz.prog (Pr.tab real) 159 [.ptr 1 0] (P2 r) (PostC t 2 (primCast reservedB t (n + 1) z) Nd.av) := by
 have hfin := fun op s k e cs m l z' S' => finOkC t 2 (primCast reservedB t (n + 1) z) op s k e cs m l z' S'
 have hbad := fun z' S' => finBadC t 2 (primCast reservedB t (n + 1) z) Nd.av z' S'
 generalize PostC t 2 (primCast reservedB t (n + 1) z) Nd.av = K0 at hfin hbad ⊢
 apply body_calls (un := 0) Pr.tabOk Pr.mixed Ps.fn159 (Nat.le_of_ble_eq_true rfl)
 apply gen_body (mk := Pr.tab)
 intro fail need same call loop len slen arith shift cmp conv eqS ltS cat app elt byt subS subL strOf isB fit inb cut room not and eqB avs G
 have heqS : ∀ a b, eqS a b = (a == b) := fun a b => by rw [G.eqS']
 have hnot : ∀ b, not b = !b := fun b => by rw [G.not']
 unfold P2
 cbv
 repeat'
  (first
    | refine GenH.need' G rfl ?_
    | refine GenH.same' G rfl ?_
    | ((refine GenH.call' G (hexpr _ _ 0 _ (by assumption) (Nat.le_of_ble_eq_true rfl) (fun q => hf (by first | (simp only [primCast, Rs.bind, Ps.need, Ps.take, Ps.needs, Bool.or_true, Bool.or_false, Bool.true_or, Bool.false_or, Bool.and_true, Bool.and_false, Bool.true_and, Bool.false_and, *]; done) | (simp only [primCast, Rs.bind, Ps.need, Ps.take, Ps.needs, Bool.or_true, Bool.or_false, Bool.true_or, Bool.false_or, Bool.and_true, Bool.and_false, Bool.true_and, Bool.false_and, *]; exact rfl))) (fun op s k l cl z' r' hs hcl hr' => ?_) (fun z' r' hs hr' => ?_))) <;> (try cbv))
    | ((refine GenH.call' G (at_need ht (by assumption) (Nat.le_of_ble_eq_true rfl) (fun r' hs hr' => ?_) (fun z' r' hs hr' => ?_))) <;> (try cbv))
    | ((refine GenH.call' G (at_typed ht _ _ 0 _ (by assumption) (Nat.le_of_ble_eq_true rfl) (fun q => hf (by first | (simp only [primCast, Rs.bind, Ps.need, Ps.take, Ps.needs, Bool.or_true, Bool.or_false, Bool.true_or, Bool.false_or, Bool.and_true, Bool.and_false, Bool.true_and, Bool.false_and, *]; done) | (simp only [primCast, Rs.bind, Ps.need, Ps.take, Ps.needs, Bool.or_true, Bool.or_false, Bool.true_or, Bool.false_or, Bool.and_true, Bool.and_false, Bool.true_and, Bool.false_and, *]; exact rfl))) (fun op s k l cl z' r' hs hcl hr' => ?_) (fun z' r' hs hr' => ?_))) <;> (try cbv))
    | ((refine GenH.call' G (at_node [] (by subst_vars; exact rfl) (by first | exact .inl rfl | exact .inr rfl) rfl (fun cl hcl => ?_))) <;> (try cbv))
    | ((refine GenH.call' G (at_node [.mk _ _ _ _] (by subst_vars; exact rfl) (by first | exact .inl rfl | exact .inr rfl) rfl (fun cl hcl => ?_))) <;> (try cbv))
    | ((refine GenH.call' G (at_node [.mk _ _ _ _, .mk _ _ _ _] (by subst_vars; exact rfl) (by first | exact .inl rfl | exact .inr rfl) rfl (fun cl hcl => ?_))) <;> (try cbv))
    | ((refine GenH.call' G (at_node [.mk _ _ _ _, .mk _ _ _ _, .mk _ _ _ _] (by subst_vars; exact rfl) (by first | exact .inl rfl | exact .inr rfl) rfl (fun cl hcl => ?_))) <;> (try cbv))
    | ((refine GenH.call' G (at_node [.mk _ _ _ _, .mk _ _ _ _, .mk _ _ _ _, .mk _ _ _ _, .mk _ _ _ _] (by subst_vars; exact rfl) (by first | exact .inl rfl | exact .inr rfl) rfl (fun cl hcl => ?_))) <;> (try cbv))
    | ((refine GenH.call' G (at_node (.mk _ _ _ _ :: _) (by subst_vars; exact rfl) (by first | exact .inl rfl | exact .inr rfl) rfl (fun cl hcl => ?_))) <;> (try cbv))
    | ((refine GenH.call' G (at_node _ (by subst_vars; exact rfl) (by first | exact .inl rfl | exact .inr rfl) rfl (fun cl hcl => ?_))) <;> (try cbv))
    | (rw [hnot]; (try cbv))
    | fail)
 all_goals first
  | exact hbad _ _ (by first | (simp only [primCast, Rs.bind, Ps.need, Ps.take, Ps.needs, Bool.or_true, Bool.or_false, Bool.true_or, Bool.false_or, Bool.and_true, Bool.and_false, Bool.true_and, Bool.false_and, *]; done) | (simp only [primCast, Rs.bind, Ps.need, Ps.take, Ps.needs, Bool.or_true, Bool.or_false, Bool.true_or, Bool.false_or, Bool.and_true, Bool.and_false, Bool.true_and, Bool.false_and, *]; exact rfl)) (by assumption) (Nat.le_of_ble_eq_true rfl) rfl
  | exact hfin _ _ _ _ _ _ _ _ _ (by first | (simp only [primCast, Rs.bind, Ps.need, Ps.take, Ps.needs, Bool.or_true, Bool.or_false, Bool.true_or, Bool.false_or, Bool.and_true, Bool.and_false, Bool.true_and, Bool.false_and, *]; done) | (simp only [primCast, Rs.bind, Ps.need, Ps.take, Ps.needs, Bool.or_true, Bool.or_false, Bool.true_or, Bool.false_or, Bool.and_true, Bool.and_false, Bool.true_and, Bool.false_and, *]; exact rfl)) (by subst_vars; exact rfl) (by first | exact .inl rfl | exact .inr rfl) (by assumption) (Nat.le_of_ble_eq_true rfl) rfl
theorem lit_primNullif {t : List Tk} (ht : Toks t) (n : Nat) (hn : n ≤ 1000000000) (hexpr : Fn t 83 [] (expr reservedB t n)) (z : Nat) (r : List AV) (h : At t z r) (hf : primNullif reservedB t (n + 1) z = .fuel → False) :
  CallP Tryz.prog (Pr.tab real) 160 [.ptr 1 0] (P2 r) (PostC t 2 (primNullif reservedB t (n + 1) z) Nd.av) := by
 have hfin := fun op s k e cs m l z' S' => finOkC t 2 (primNullif reservedB t (n + 1) z) op s k e cs m l z' S'
 have hbad := fun z' S' => finBadC t 2 (primNullif reservedB t (n + 1) z) Nd.av z' S'
 generalize PostC t 2 (primNullif reservedB t (n + 1) z) Nd.av = K0 at hfin hbad ⊢
 apply body_calls (un := 0) Pr.tabOk Pr.mixed Ps.fn160 (Nat.le_of_ble_eq_true rfl)
 apply gen_body (mk := Pr.tab)
 intro fail need same call loop len slen arith shift cmp conv eqS ltS cat app elt byt subS subL strOf isB fit inb cut room not and eqB avs G
 have heqS : ∀ a b, eqS a b = (a == b) := fun a b => by rw [G.eqS']
 have hnot : ∀ b, not b = !b := fun b => by rw [G.not']
 unfold P2
 cbv
 repeat'
  (first
    | refine GenH.need' G rfl ?_
    | refine GenH.same' G rfl ?_
    | ((refine GenH.call' G (hexpr _ _ 0 _ (by assumption) (Nat.le_of_ble_eq_true rfl) (fun q => hf (by first | (simp only [primNullif, Rs.bind, Ps.need, Ps.take, Ps.needs, Bool.or_true, Bool.or_false, Bool.true_or, Bool.false_or, Bool.and_true, Bool.and_false, Bool.true_and, Bool.false_and, *]; done) | (simp only [primNullif, Rs.bind, Ps.need, Ps.take, Ps.needs, Bool.or_true, Bool.or_false, Bool.true_or, Bool.false_or, Bool.and_true, Bool.and_false, Bool.true_and, Bool.false_and, *]; exact rfl))) (fun op s k l cl z' r' hs hcl hr' => ?_) (fun z' r' hs hr' => ?_))) <;> (try cbv))
    | ((refine GenH.call' G (at_need ht (by assumption) (Nat.le_of_ble_eq_true rfl) (fun r' hs hr' => ?_) (fun z' r' hs hr' => ?_))) <;> (try cbv))
    | ((refine GenH.call' G (at_node [] (by subst_vars; exact rfl) (by first | exact .inl rfl | exact .inr rfl) rfl (fun cl hcl => ?_))) <;> (try cbv))
    | ((refine GenH.call' G (at_node [.mk _ _ _ _] (by subst_vars; exact rfl) (by first | exact .inl rfl | exact .inr rfl) rfl (fun cl hcl => ?_))) <;> (try cbv))
    | ((refine GenH.call' G (at_node [.mk _ _ _ _, .mk _ _ _ _] (by subst_vars; exact rfl) (by first | exact .inl rfl | exact .inr rfl) rfl (fun cl hcl => ?_))) <;> (try cbv))
    | ((refine GenH.call' G (at_node [.mk _ _ _ _, .mk _ _ _ _, .mk _ _ _ _] (by subst_vars; exact rfl) (by first | exact .inl rfl | exact .inr rfl) rfl (fun cl hcl => ?_))) <;> (try cbv))
    | ((refine GenH.call' G (at_node [.mk _ _ _ _, .mk _ _ _ _, .mk _ _ _ _, .mk _ _ _ _, .mk _ _ _ _] (by subst_vars; exact rfl) (by first | exact .inl rfl | exact .inr rfl) rfl (fun cl hcl => ?_))) <;> (try cbv))
    | ((refine GenH.call' G (at_node (.mk _ _ _ _ :: _) (by subst_vars; exact rfl) (by first | exact .inl rfl | exact .inr rfl) rfl (fun cl hcl => ?_))) <;> (try cbv))
    | ((refine GenH.call' G (at_node _ (by subst_vars; exact rfl) (by first | exact .inl rfl | exact .inr rfl) rfl (fun cl hcl => ?_))) <;> (try cbv))
    | (rw [hnot]; (try cbv))
    | fail)
 all_goals first
  | exact hbad _ _ (by first | (simp only [primNullif, Rs.bind, Ps.need, Ps.take, Ps.needs, Bool.or_true, Bool.or_false, Bool.true_or, Bool.false_or, Bool.and_true, Bool.and_false, Bool.true_and, Bool.false_and, *]; done) | (simp only [primNullif, Rs.bind, Ps.need, Ps.take, Ps.needs, Bool.or_true, Bool.or_false, Bool.true_or, Bool.false_or, Bool.and_true, Bool.and_false, Bool.true_and, Bool.false_and, *]; exact rfl)) (by assumption) (Nat.le_of_ble_eq_true rfl) rfl
  | exact hfin _ _ _ _ _ _ _ _ _ (by first | (simp only [primNullif, Rs.bind, Ps.need, Ps.take, Ps.needs, Bool.or_true, Bool.or_false, Bool.true_or, Bool.false_or, Bool.and_true, Bool.and_false, Bool.true_and, Bool.false_and, *]; done) | (simp only [primNullif, Rs.bind, Ps.need, Ps.take, Ps.needs, Bool.or_true, Bool.or_false, Bool.true_or, Bool.false_or, Bool.and_true, Bool.and_false, Bool.true_and, Bool.false_and, *]; exact rfl)) (by subst_vars; exact rfl) (by first | exact .inl rfl | exact .inr rfl) (by assumption) (Nat.le_of_ble_eq_true rfl) rfl
theorem lit_test {t : List Tk} (ht : Toks t) (n : Nat) (hn : n ≤ 1000000000) (hb5 : Fn t 116 [.int .i64 5] (binds reservedB t n 5)) (hbody : Fn t 73 [] (body reservedB t n)) (hexprs : FnL t 82 [] (exprs reservedB t n)) (z : Nat) (r : List AV) (h : At t z r) (hf : test reservedB t (n + 1) z = .fuel → False) :
  CallP Tryz.prog (Pr.tab real) 150 [.ptr 0 0] (P0 r) (Post t (test reservedB t (n + 1) z) Nd.av) := by
 have hfin := fun op s k e cs m l z' S' => finOk t (test reservedB t (n + 1) z) op s k e cs m l z' S'
 have hbad := fun z' S' => finBad t (test reservedB t (n + 1) z) Nd.av z' S'
 generalize Post t (test reservedB t (n + 1) z) Nd.av = K0 at hfin hbad ⊢
 apply body_calls (un := 0) Pr.tabOk Pr.mixed Ps.fn150 (Nat.le_of_ble_eq_true rfl)
 apply gen_body (mk := Pr.tab)
 intro fail need same call loop len slen arith shift cmp conv eqS ltS cat app elt byt subS subL strOf isB fit inb cut room not and eqB avs G
 have heqS : ∀ a b, eqS a b = (a == b) := fun a b => by rw [G.eqS']
 have hnot : ∀ b, not b = !b := fun b => by rw [G.not']
 have hlenE : ∀ {l cl z1 z2}, within t (exprs reservedB t n) z1 = .ok l z2 → cl = avL l → 1 ≤ cl.length ∧ cl.length ≤ 1000000001 := by
  intro l cl z1 z2 hq hcl
  obtain ⟨a, b, hab⟩ := within_ok hq
  have := exprs_len hab
  rw [hcl, avL_map, List.length_map]
  omega
 have hroomE : ∀ {l cl z1 z2 x}, within t (exprs reservedB t n) z1 = .ok l z2 → cl = avL l → room (len (app [x] cl)) 64 = true := by
  intro l cl z1 z2 x hq hcl
  have := hlenE hq hcl
  rw [G.app', G.room', G.len']; simp; omega
 have hposE : ∀ {l cl z1 z2}, within t (exprs reservedB t n) z1 = .ok l z2 → cl = avL l → cmp BinOp.lss 0 (len cl) = true := by
  intro l cl z1 z2 hq hcl
  have := hlenE hq hcl
  rw [G.cmp', G.len']; simp [intRel]; omega
 have happE : ∀ x cl, app [x] cl = x :: cl := fun x cl => by rw [G.app']; rfl
 unfold P0
 cbv
 repeat'
  (first
    | refine GenH.need' G rfl ?_
    | refine GenH.same' G rfl ?_
    | (rw [heqS]; (try rw [hnot]); split <;> ((first | contradiction | (rename_i hq; (try simp only [Bool.not_eq_true', Bool.not_eq_false'] at hq); rw [hq]) | (rename_i hq _; rw [hq]) | skip); try cbv))
    | ((refine GenH.call' G (hb5 _ _ 0 _ (by assumption) (Nat.le_of_ble_eq_true rfl) (fun q => hf (by first | (simp only [test, Rs.bind, Ps.need, Ps.take, Ps.needs, Bool.or_true, Bool.or_false, Bool.true_or, Bool.false_or, Bool.and_true, Bool.and_false, Bool.true_and, Bool.false_and, Ps.named, Ps.node, *]; done) | (simp only [test, Rs.bind, Ps.need, Ps.take, Ps.needs, Bool.or_true, Bool.or_false, Bool.true_or, Bool.false_or, Bool.and_true, Bool.and_false, Bool.true_and, Bool.false_and, Ps.named, Ps.node, *]; exact rfl))) (fun op s k l cl z' r' hs hcl hr' => ?_) (fun z' r' hs hr' => ?_))) <;> (try cbv))
    | ((refine GenH.call' G (at_one ht [_, _, _, _, _, _] (by decide) (by assumption) (Nat.le_of_ble_eq_true rfl) (fun a z' r' hs hr' => ?_))) <;> (try cbv))
    | ((refine GenH.call' G (at_one ht [_, _, _] (by decide) (by assumption) (Nat.le_of_ble_eq_true rfl) (fun a z' r' hs hr' => ?_))) <;> (try cbv))
    | ((refine GenH.call' G (at_one ht [_, _, _, _] (by decide) (by assumption) (Nat.le_of_ble_eq_true rfl) (fun a z' r' hs hr' => ?_))) <;> (try cbv))
    | ((refine GenH.call' G (at_within ht (by assumption) (by assumption) (Nat.le_of_ble_eq_true rfl) (fun q => hf (by first | (simp only [test, Rs.bind, Ps.need, Ps.take, Ps.needs, Bool.or_true, Bool.or_false, Bool.true_or, Bool.false_or, Bool.and_true, Bool.and_false, Bool.true_and, Bool.false_and, Ps.named, Ps.node, *]; done) | (simp only [test, Rs.bind, Ps.need, Ps.take, Ps.needs, Bool.or_true, Bool.or_false, Bool.true_or, Bool.false_or, Bool.and_true, Bool.and_false, Bool.true_and, Bool.false_and, Ps.named, Ps.node, *]; exact rfl))) (fun op s k l cl z' r' hs hcl hr' => ?_) (fun z' r' hs hr' => ?_))) <;> (try cbv))
    | ((refine GenH.call' G (at_withinL ht (by assumption) (by assumption) (Nat.le_of_ble_eq_true rfl) (fun q => hf (by first | (simp only [test, Rs.bind, Ps.need, Ps.take, Ps.needs, Bool.or_true, Bool.or_false, Bool.true_or, Bool.false_or, Bool.and_true, Bool.and_false, Bool.true_and, Bool.false_and, Ps.named, Ps.node, *]; done) | (simp only [test, Rs.bind, Ps.need, Ps.take, Ps.needs, Bool.or_true, Bool.or_false, Bool.true_or, Bool.false_or, Bool.and_true, Bool.and_false, Bool.true_and, Bool.false_and, Ps.named, Ps.node, *]; exact rfl))) (fun l cl z' r' hs hcl hr' => ?_) (fun z' r' hs hr' => ?_))) <;> (try cbv))
    | ((refine GenH.call' G (at_take ht (by assumption) (Nat.le_of_ble_eq_true rfl) (fun r' hs hr' => ?_) (fun r' hs hr' => ?_))) <;> (try cbv))
    | ((refine GenH.call' G (at_need ht (by assumption) (Nat.le_of_ble_eq_true rfl) (fun r' hs hr' => ?_) (fun z' r' hs hr' => ?_))) <;> (try cbv))
    | ((refine GenH.call' G (opens_body ht (by assumption) (Nat.le_of_ble_eq_true rfl) (fun hs => ?_) (fun hs => ?_))) <;> (try cbv))
    | ((refine GenH.call' G (at_named [] (by subst_vars; exact rfl) (by first | exact .inl rfl | exact .inr rfl) rfl (fun cl hcl => ?_))) <;> (try cbv))
    | ((refine GenH.call' G (at_named [.mk _ _ _ _] (by subst_vars; exact rfl) (by first | exact .inl rfl | exact .inr rfl) rfl (fun cl hcl => ?_))) <;> (try cbv))
    | ((refine GenH.call' G (at_named [.mk _ _ _ _, .mk _ _ _ _] (by subst_vars; exact rfl) (by first | exact .inl rfl | exact .inr rfl) rfl (fun cl hcl => ?_))) <;> (try cbv))
    | ((refine GenH.call' G (at_named [.mk _ _ _ _, .mk _ _ _ _, .mk _ _ _ _] (by subst_vars; exact rfl) (by first | exact .inl rfl | exact .inr rfl) rfl (fun cl hcl => ?_))) <;> (try cbv))
    | ((refine GenH.call' G (at_named [.mk _ _ _ _, .mk _ _ _ _, .mk _ _ _ _, .mk _ _ _ _, .mk _ _ _ _] (by subst_vars; exact rfl) (by first | exact .inl rfl | exact .inr rfl) rfl (fun cl hcl => ?_))) <;> (try cbv))
    | ((refine GenH.call' G (at_named (.mk _ _ _ _ :: _) (by subst_vars; exact rfl) (by first | exact .inl rfl | exact .inr rfl) rfl (fun cl hcl => ?_))) <;> (try cbv))
    | ((refine GenH.call' G (at_named _ (by subst_vars; exact rfl) (by first | exact .inl rfl | exact .inr rfl) rfl (fun cl hcl => ?_))) <;> (try cbv))
    | ((refine GenH.call' G (at_node [] (by subst_vars; exact rfl) (by first | exact .inl rfl | exact .inr rfl) rfl (fun cl hcl => ?_))) <;> (try cbv))
    | ((refine GenH.call' G (at_node [.mk _ _ _ _] (by subst_vars; exact rfl) (by first | exact .inl rfl | exact .inr rfl) rfl (fun cl hcl => ?_))) <;> (try cbv))
    | ((refine GenH.call' G (at_node [.mk _ _ _ _, .mk _ _ _ _] (by subst_vars; exact rfl) (by first | exact .inl rfl | exact .inr rfl) rfl (fun cl hcl => ?_))) <;> (try cbv))
    | ((refine GenH.call' G (at_node [.mk _ _ _ _, .mk _ _ _ _, .mk _ _ _ _] (by subst_vars; exact rfl) (by first | exact .inl rfl | exact .inr rfl) rfl (fun cl hcl => ?_))) <;> (try cbv))
    | ((refine GenH.call' G (at_node [.mk _ _ _ _, .mk _ _ _ _, .mk _ _ _ _, .mk _ _ _ _, .mk _ _ _ _] (by subst_vars; exact rfl) (by first | exact .inl rfl | exact .inr rfl) rfl (fun cl hcl => ?_))) <;> (try cbv))
    | ((refine GenH.call' G (at_node (.mk _ _ _ _ :: _) (by subst_vars; exact rfl) (by first | exact .inl rfl | exact .inr rfl) rfl (fun cl hcl => ?_))) <;> (try cbv))
    | ((refine GenH.call' G (at_node _ (by subst_vars; exact rfl) (by first | exact .inl rfl | exact .inr rfl) rfl (fun cl hcl => ?_))) <;> (try cbv))
    | ((refine GenH.call' G (at_turned _ _ (by first | assumption | (subst_vars; exact rfl)) (fun op s k l cl hs hcl => ?_))) <;> (try cbv))
    | (((refine GenH.need' G (hroomE (by assumption) (by assumption)) (GenH.need' G (hposE (by assumption) (by assumption)) ?_); rw [happE])) <;> (try cbv))
    | (rw [hnot]; (try cbv))
    | fail)
 all_goals first
  | exact hbad _ _ (by first | (simp only [test, Rs.bind, Ps.need, Ps.take, Ps.needs, Bool.or_true, Bool.or_false, Bool.true_or, Bool.false_or, Bool.and_true, Bool.and_false, Bool.true_and, Bool.false_and, Ps.named, Ps.node, *]; done) | (simp only [test, Rs.bind, Ps.need, Ps.take, Ps.needs, Bool.or_true, Bool.or_false, Bool.true_or, Bool.false_or, Bool.and_true, Bool.and_false, Bool.true_and, Bool.false_and, Ps.named, Ps.node, *]; exact rfl)) (by assumption) (Nat.le_of_ble_eq_true rfl)
  | exact hfin _ _ _ _ _ _ _ _ _ (by first | (simp only [test, Rs.bind, Ps.need, Ps.take, Ps.needs, Bool.or_true, Bool.or_false, Bool.true_or, Bool.false_or, Bool.and_true, Bool.and_false, Bool.true_and, Bool.false_and, Ps.named, Ps.node, *]; done) | (simp only [test, Rs.bind, Ps.need, Ps.take, Ps.needs, Bool.or_true, Bool.or_false, Bool.true_or, Bool.false_or, Bool.and_true, Bool.and_false, Bool.true_and, Bool.false_and, Ps.named, Ps.node, *]; exact rfl)) (by subst_vars; exact rfl) (by first | exact .inl rfl | exact .inr rfl) (by assumption) (Nat.le_of_ble_eq_true rfl)
end Go.AM.Ps
