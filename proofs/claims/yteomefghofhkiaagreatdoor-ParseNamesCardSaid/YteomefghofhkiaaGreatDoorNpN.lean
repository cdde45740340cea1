/- What parse.Parse answers at texts with one word left open. -/
import Derived.Test.YteomefghofhkiaaGreatDoorNpM
import Derived.Test.YteomefghofhkiaaGreatDoorNpScanD
set_option linter.unusedSimpArgs false
set_option linter.unusedVariables false
set_option linter.unusedSectionVars false
namespace Go.AM.Ps
open Go.Proofs W
set_option maxRecDepth 100000
set_option linter.unusedVariables false
set_option maxHeartbeats 4000000

theorem chain_toks {s : List UInt8} (hs : s.length ≤ 2000) : ∀ {p : Nat} {l : List Tk}, Chain s p l → ∀ x ∈ l, x.t.length ≤ 2000 ∧ 0 ≤ x.n ∧ x.n < 9223372036854775808 := by
  intro p l h
  induction h with
  | nil p => intro x hx; simp at hx
  | cons p t l j hlt ht hj hle h ih =>
    intro x hx
    rcases List.mem_cons.1 hx with rfl | hx
    · cases ht with
      | word w hw hl h32 => exact ⟨by simp; omega, by simp, by simp⟩
      | num hd v hv => exact ⟨by simp, by simp, by simp; omega⟩
      | text b j hb h4 => exact ⟨by simp; omega, by simp, by simp⟩
      | sign y hy hp =>
        refine ⟨?_, by simp, by simp⟩
        have hp := List.isPrefixOf_iff_prefix.1 hp
        have := hp.length_le
        simp at this
        show y.length ≤ 2000
        omega
    · exact ih x hx

theorem toks_lex (s : List UInt8) : Toks (lexScan s).1 := by
  by_cases h : (lexScan s).2 = sDone
  · obtain ⟨h1, h2, h3⟩ := lex_chain s h
    exact ⟨h2, fun x hx => (chain_toks h1 h3 x hx).1, fun x hx => (chain_toks h1 h3 x hx).2⟩
  · have := (lexScan_done s).2.2 h
    rw [this]
    exact ⟨by simp, fun x hx => by simp at hx, fun x hx => by simp at hx⟩

def rounds : Nat := 100000

theorem parse_atN (n : Nat) (h1 : 30 * (600 + 1) + 40 ≤ n) (h2 : n ≤ 1000000000) (s : List UInt8) (S : St) (K : Out → St → Prop) (hK : K (.ret (.tup [(parseS n s).1.av, .str (parseS n s).2])) S) : CallP Tryz.prog (Pr.tab real) 8 [.str s] S K := by
  have ht := toks_lex s
  have hl := ht.len
  have hr : Res (lexScan s).1 0 SmallA (statement reservedB (lexScan s).1 n 0) := res_statement (by omega) h2
  exact parse_spec n h2 s ht (fun h => hr.1 h) (fun a z h => (hr.2 a z h).2.2) S K hK
/-- parse.Parse. -/
theorem parse_at (s : List UInt8) (S : St) (K : Out → St → Prop) (hK : K (.ret (.tup [(parseS rounds s).1.av, .str (parseS rounds s).2])) S) : CallP Tryz.prog (Pr.tab real) 8 [.str s] S K :=
  parse_atN rounds (Nat.le_of_ble_eq_true rfl) (Nat.le_of_ble_eq_true rfl) s S K hK
end Go.AM.Ps

namespace Go.AM.Ps
open Go.Proofs W
set_option maxRecDepth 100000
set_option maxHeartbeats 4000000
set_option linter.unusedVariables false
section
variable (res : List UInt8 → Bool) (w : List UInt8) (p0 p1 p2 p3 p4 p5 p6 p7 p8 : Int) (n m : Nat)

/-- A word, if it may be a name. -/
def ifName {α : Type} (a : α) (z : Nat) : Rs α := match res w with
  | true => .wrong
  | false => .ok a z

theorem name_at {t : List Tk} {z : Nat} {x : Tk} (hx : t[z]? = some x) (hk : x.k = 0) : name res t z = ifName res x.t x.t (z + 1) := by
  unfold name isName textAt ifName
  rw [hx]
  simp only [hk]
  cases res x.t <;> rfl
theorem isName_at {t : List Tk} {z : Nat} {x : Tk} (hx : t[z]? = some x) (hk : x.k = 0) (hr : res x.t = false) : isName res t z = true := by
  unfold isName
  rw [hx]
  simp only [hk, hr]
  rfl
theorem name_ok {t : List Tk} {z : Nat} {x : Tk} (hx : t[z]? = some x) (hk : x.k = 0) (hr : res x.t = false) : name res t z = .ok x.t (z + 1) := by
  rw [name_at res hx hk]; unfold ifName; rw [hr]

theorem ifName_bind {α β : Type} (a : α) (z : Nat) (f : α → Nat → Rs β) : (ifName res w a z).bind f = match res w with | true => .wrong | false => f a z := by
  unfold ifName
  cases res w <;> rfl
theorem sees_no {t : List Tk} {z : Nat} {x : Tk} {s : List UInt8} (hx : t[z]? = some x) (hk : (x.t == s) = false) : sees t z s = false := by
  unfold sees
  rw [hx]
  simp only [hk, Bool.and_false]
theorem take_no {t : List Tk} {z : Nat} {x : Tk} {s : List UInt8} (l : List (List UInt8)) (hx : t[z]? = some x) (hk : (x.t == s) = false) : take t s l z = .ok false z := by
  unfold take
  rw [sees_no hx hk]

theorem st_savepoint : statement res [⟨0, k_savepoint, 0, p0⟩, ⟨0, w, 0, p1⟩] n 0 = ifName res w (named k_savepoint w []) 2 := by
  show (name res [⟨0, k_savepoint, 0, p0⟩, ⟨0, w, 0, p1⟩] 1).bind _ = _
  rw [name_at res (z := 1) (x := ⟨0, w, 0, p1⟩) rfl rfl, ifName_bind]
  rfl
theorem st_close : statement res [⟨0, k_close, 0, p0⟩, ⟨0, w, 0, p1⟩] n 0 = ifName res w (named k_close w []) 2 := by
  show (name res [⟨0, k_close, 0, p0⟩, ⟨0, w, 0, p1⟩] 1).bind _ = _
  rw [name_at res (z := 1) (x := ⟨0, w, 0, p1⟩) rfl rfl, ifName_bind]
  rfl
theorem st_drop : statement res [⟨0, k_drop, 0, p0⟩, ⟨0, k_table, 0, p1⟩, ⟨0, w, 0, p2⟩] n 0 = ifName res w (named o_droptable w []) 3 := by
  show (name res [⟨0, k_drop, 0, p0⟩, ⟨0, k_table, 0, p1⟩, ⟨0, w, 0, p2⟩] 2).bind _ = _
  rw [name_at res (z := 2) (x := ⟨0, w, 0, p2⟩) rfl rfl, ifName_bind]
  rfl

section
variable {res}
theorem st_create (ht : res [116] = false) (h1 : (w == k_primary) = false) (h2 : (w == k_unique) = false) (h3 : (w == k_check) = false) (h4 : (w == k_foreign) = false) :
    statement res [⟨0, k_create, 0, p0⟩, ⟨0, k_table, 0, p1⟩, ⟨0, [116], 0, p2⟩, ⟨3, [40], 0, p3⟩, ⟨0, w, 0, p4⟩, ⟨0, k_int, 0, p5⟩, ⟨3, [41], 0, p6⟩] (n + 1) 0 =
      ifName res w (named o_createtable [116] [named o_column w [.mk o_type k_integer 0 []]]) 7 := by
  obtain ⟨t, htt⟩ : ∃ t, t = [(⟨0, k_create, 0, p0⟩ : Tk), ⟨0, k_table, 0, p1⟩, ⟨0, [116], 0, p2⟩, ⟨3, [40], 0, p3⟩, ⟨0, w, 0, p4⟩, ⟨0, k_int, 0, p5⟩, ⟨3, [41], 0, p6⟩] := ⟨_, rfl⟩
  have hel : element res t (n + 1) 4 = ifName res w (named o_column w [.mk o_type k_integer 0 []]) 6 := by
    unfold element
    rw [take_no (x := ⟨0, w, 0, p4⟩) [k_key] (by rw [htt]; rfl) h1]
    simp only [Rs.bind_ok]
    rw [take_no (x := ⟨0, w, 0, p4⟩) [] (by rw [htt]; rfl) h2]
    simp only [Rs.bind_ok]
    rw [take_no (x := ⟨0, w, 0, p4⟩) [] (by rw [htt]; rfl) h3]
    simp only [Rs.bind_ok]
    rw [take_no (x := ⟨0, w, 0, p4⟩) [k_key] (by rw [htt]; rfl) h4]
    simp only [Rs.bind_ok]
    rw [name_at res (z := 4) (x := ⟨0, w, 0, p4⟩) (by rw [htt]; rfl) rfl, ifName_bind]
    unfold ifName
    simp only []
    subst htt
    cases res w <;> rfl
  have e : statement res t (n + 1) 0 = (name res t 2).bind fun s z => (within t (listOf t (n + 1) (element res t (n + 1))) z).bind fun l z => .ok (named o_createtable s l) z := by subst htt; rfl
  rw [← htt, e, name_ok res (x := ⟨0, [116], 0, p2⟩) (by rw [htt]; rfl) rfl ht, Rs.bind_ok]
  have e2 : within t (listOf t (n + 1) (element res t (n + 1))) 3 = (listOf t (n + 1) (element res t (n + 1)) 4).bind fun x z => (need t g_rap z).bind fun _ z => .ok x z := by subst htt; rfl
  show ((within t (listOf t (n + 1) (element res t (n + 1))) 3).bind _) = _
  rw [e2]
  unfold listOf
  rw [hel]
  simp only [ifName_bind]
  unfold ifName
  subst htt
  cases res w <;> rfl

/-- A name that stands by itself. -/
theorem expr_name {t : List Tk} {z : Nat} {r : Rs Nd} (hc : column res t z = r) (hp : ∀ m, primary res t (m + 1) z = column res t z) (hf : ∀ m, first res t (m + 1) 5 z = primary res t m z) (hf1 : ∀ m, first res t (m + 1) 1 z = test res t m z)
    (hr : r = .wrong ∨ ∃ a z', r = .ok a z' ∧ (∀ m, bindsMore res t (m + 1) 5 a z' = .ok a z') ∧ (∀ m, bindsMore res t (m + 1) 1 a z' = .ok a z') ∧ one t [g_eq, g_ne, g_le, g_ge, g_lt, g_gt] z' = .ok [] z' ∧ take t k_is [] z' = .ok false z' ∧ take t k_not [] z' = .ok false z' ∧ take t k_between [] z' = .ok false z' ∧ take t k_like [] z' = .ok false z' ∧ take t k_in [] z' = .ok false z') (m : Nat) :
    expr res t (m + 7) z = r := by
  have h5 : binds res t (m + 3) 5 z = r := by
    rw [binds, hf, hp, hc]
    rcases hr with rfl | ⟨a, z', rfl, h, _⟩
    · rfl
    · rw [Rs.bind_ok, h]
  have htest : test res t (m + 4) z = r := by
    rw [test, h5]
    rcases hr with rfl | ⟨a, z', rfl, _, _, h1, h2, h3, h4, h5, h6⟩
    · rfl
    · simp only [Rs.bind_ok, h1]
      simp only [Rs.bind_ok, h2, beq_self_eq_true, h3, h4, h5, h6]
  rw [expr, binds, hf1, htest]
  rcases hr with rfl | ⟨a, z', rfl, _, h, _⟩
  · rfl
  · rw [Rs.bind_ok, h]


def selQ (tb : Nd) (N : Nat) : Rs Nd → Rs Nd
  | .fuel => .fuel
  | .wrong => .wrong
  | .ok e _ => .ok (node o_query [.mk k_select [] 0 [node o_items [e], node k_from [tb], node k_where [], node k_group [], node k_having []], node k_order []]) N

/-- A query's parts, from the first item on. -/
theorem st_select {t : List Tk} {r : Rs Nd} (m : Nat) (hsel : ∀ k, statement res t k 0 = query res t k 0) (hpar : sees t 0 g_par = false) (hneed : need t k_select 0 = .ok () 1) (hone : one t [k_all, k_distinct] 1 = .ok [] 1) (hi : item res t (m + 10) 1 = r)
    (tb : Nd) (hr : r = .wrong ∨ ∃ e, r = .ok e 4 ∧ sees t 4 g_comma = false ∧ need t k_from 4 = .ok () 5 ∧ table res t (m + 10) 5 = .ok tb t.length ∧ (∀ s, sees t t.length s = false)) :
    statement res t (m + 13) 0 = selQ tb t.length r := by
  rw [hsel]
  unfold query
  rw [body, setsOf, term, setsOf, simple, hpar]
  simp only [hneed, Rs.bind_ok, hone]
  unfold listOf
  rw [hi]
  rcases hr with rfl | ⟨e, rfl, h1, h2, h3, h4⟩
  · rfl
  · simp only [Rs.bind_ok]
    have hl : ∀ (α : Type) (part : Nat → Rs α) (acc : List α) z k, sees t z g_comma = false → listMore t part (k + 1) acc z = .ok acc z := fun α part acc z k h => by
      unfold listMore; rw [h]
    have htk : ∀ s l, take t s l t.length = .ok false t.length := fun s l => by unfold take; rw [h4]
    have hon : ∀ l, one t l t.length = .ok [] t.length := fun l => by
      induction l with
      | nil => rfl
      | cons s l ih => unfold one; rw [h4]; exact ih
    rw [hl _ _ _ _ _ h1]
    simp only [Rs.bind_ok, h2, h3, hl _ _ _ _ _ (h4 _)]
    unfold optPart optGroup
    simp only [htk, Rs.bind_ok]
    unfold setsMore
    simp only [hon, Rs.bind_ok, beq_self_eq_true, htk]
    rfl

theorem st_col (ht : res [116] = false) (hx : res [120] = false) (hfr : res k_from = true) (hs : (w == g_star) = false) :
    statement res [⟨0, k_select, 0, p0⟩, ⟨0, [120], 0, p1⟩, ⟨3, [46], 0, p2⟩, ⟨0, w, 0, p3⟩, ⟨0, k_from, 0, p4⟩, ⟨0, [116], 0, p5⟩, ⟨0, [120], 0, p6⟩] (m + 13) 0 =
      ifName res w (node o_query [.mk k_select [] 0 [node o_items [named o_item [] [named o_col w [named k_of [120] []]]], node k_from [named k_table [116] [named k_as [120] []]], node k_where [], node k_group [], node k_having []], node k_order []]) 7 := by
  obtain ⟨t, htt⟩ : ∃ t, t = [(⟨0, k_select, 0, p0⟩ : Tk), ⟨0, [120], 0, p1⟩, ⟨3, [46], 0, p2⟩, ⟨0, w, 0, p3⟩, ⟨0, k_from, 0, p4⟩, ⟨0, [116], 0, p5⟩, ⟨0, [120], 0, p6⟩] := ⟨_, rfl⟩
  have hcol : column res t 1 = ifName res w (named o_col w [named k_of [120] []]) 4 := by
    unfold column
    rw [name_ok res (x := ⟨0, [120], 0, p1⟩) (by rw [htt]; rfl) rfl hx, Rs.bind_ok]
    show (take t g_dot [] 2).bind _ = _
    have : take t g_dot [] 2 = .ok true 3 := by rw [htt]; rfl
    rw [this]
    simp only [Rs.bind_ok]
    rw [name_at res (z := 3) (x := ⟨0, w, 0, p3⟩) (by rw [htt]; rfl) rfl, ifName_bind]
    unfold ifName
    cases res w <;> rfl
  have hex : ∀ m, expr res t (m + 7) 1 = ifName res w (named o_col w [named k_of [120] []]) 4 := fun m => by
    refine expr_name hcol (fun m => by rw [htt, primary]; rfl) (fun m => by rw [htt, first]; rfl) (fun m => by rw [htt, first]; rfl) ?_ m
    unfold ifName
    cases res w with
    | true => exact .inl rfl
    | false => exact .inr ⟨_, 4, rfl, fun m => by rw [htt, bindsMore]; rfl, fun m => by rw [htt, bindsMore]; rfl, by rw [htt]; rfl, by rw [htt]; rfl, by rw [htt]; rfl, by rw [htt]; rfl, by rw [htt]; rfl, by rw [htt]; rfl⟩
  have hit : item res t (m + 10) 1 = ifName res w (named o_item [] [named o_col w [named k_of [120] []]]) 4 := by
    rw [item]
    have h1 : take t g_star [] 1 = .ok false 1 := by rw [htt]; rfl
    rw [h1]
    simp only [Rs.bind_ok]
    rw [sees_no (z := 1 + 2) (x := ⟨0, w, 0, p3⟩) (by rw [htt]; rfl) hs, Bool.and_false]
    simp only
    rw [hex, ifName_bind]
    have hal : alias res t [] 4 = .ok [] 4 := by
      unfold alias
      have h3 : take t k_as [] 4 = .ok false 4 := by rw [htt]; rfl
      have h4 : isName res t 4 = false := by
        unfold isName
        have : t[4]? = some ⟨0, k_from, 0, p4⟩ := by rw [htt]; rfl
        rw [this]
        simp only [hfr]
        rfl
      rw [h3]
      simp only [Rs.bind_ok, h4, Bool.or_false]
    rw [hal]
    unfold ifName
    cases res w <;> rfl
  have htab : table res t (m + 10) 5 = .ok (named k_table [116] [named k_as [120] []]) 7 := by
    rw [table, joined]
    have h1 : opensBody t 5 = false := by rw [htt]; rfl
    have h2 : sees t 5 g_par = false := by rw [htt]; rfl
    rw [h1, h2]
    simp only
    rw [name_ok res (x := ⟨0, [116], 0, p5⟩) (by rw [htt]; rfl) rfl ht, Rs.bind_ok]
    unfold alias
    have h3 : take t k_as [] (5 + 1) = .ok false 6 := by rw [htt]; rfl
    rw [h3]
    simp only [Rs.bind_ok]
    rw [isName_at res (z := 6) (x := ⟨0, [120], 0, p6⟩) (by rw [htt]; rfl) rfl hx, name_ok res (z := 6) (x := ⟨0, [120], 0, p6⟩) (by rw [htt]; rfl) rfl hx]
    subst htt
    rfl
  have htl : t.length = 7 := by rw [htt]; rfl
  have := st_select m (t := t) (fun k => by rw [htt]; rfl) (by rw [htt]; rfl) (by rw [htt]; rfl) (by rw [htt]; rfl) hit (named k_table [116] [named k_as [120] []]) (by
    unfold ifName
    cases res w with
    | true => exact .inl rfl
    | false => exact .inr ⟨_, rfl, by rw [htt]; rfl, by rw [htt]; rfl, by rw [htl]; exact htab, fun s => by rw [htl, htt]; rfl⟩)
  rw [← htt, this, htl]
  unfold ifName
  cases res w <;> rfl

theorem st_alias (ht : res [116] = false) (ha : res [97] = false) :
    statement res [⟨0, k_select, 0, p0⟩, ⟨0, [97], 0, p1⟩, ⟨0, k_as, 0, p2⟩, ⟨0, w, 0, p3⟩, ⟨0, k_from, 0, p4⟩, ⟨0, [116], 0, p5⟩] (m + 13) 0 =
      ifName res w (node o_query [.mk k_select [] 0 [node o_items [named o_item w [named o_col [97] []]], node k_from [named k_table [116] [named k_as [116] []]], node k_where [], node k_group [], node k_having []], node k_order []]) 6 := by
  obtain ⟨t, htt⟩ : ∃ t, t = [(⟨0, k_select, 0, p0⟩ : Tk), ⟨0, [97], 0, p1⟩, ⟨0, k_as, 0, p2⟩, ⟨0, w, 0, p3⟩, ⟨0, k_from, 0, p4⟩, ⟨0, [116], 0, p5⟩] := ⟨_, rfl⟩
  have hcol : column res t 1 = .ok (named o_col [97] []) 2 := by
    unfold column
    rw [name_ok res (x := ⟨0, [97], 0, p1⟩) (by rw [htt]; rfl) rfl ha, Rs.bind_ok]
    subst htt
    rfl
  have hex : ∀ m, expr res t (m + 7) 1 = .ok (named o_col [97] []) 2 := fun m => by
    refine expr_name hcol (fun m => by rw [htt, primary]; rfl) (fun m => by rw [htt, first]; rfl) (fun m => by rw [htt, first]; rfl) ?_ m
    exact .inr ⟨_, 2, rfl, fun m => by rw [htt, bindsMore]; rfl, fun m => by rw [htt, bindsMore]; rfl, by rw [htt]; rfl, by rw [htt]; rfl, by rw [htt]; rfl, by rw [htt]; rfl, by rw [htt]; rfl, by rw [htt]; rfl⟩
  have hit : item res t (m + 10) 1 = ifName res w (named o_item w [named o_col [97] []]) 4 := by
    rw [item]
    have h1 : take t g_star [] 1 = .ok false 1 := by rw [htt]; rfl
    rw [h1]
    simp only [Rs.bind_ok]
    rw [sees_no (z := 1 + 1) (x := ⟨0, k_as, 0, p2⟩) (by rw [htt]; rfl) rfl, Bool.and_false, Bool.false_and]
    simp only
    rw [hex]
    simp only [Rs.bind_ok]
    unfold alias
    have h3 : take t k_as [] 2 = .ok true 3 := by rw [htt]; rfl
    rw [h3]
    simp only [Rs.bind_ok, Bool.true_or]
    rw [name_at res (z := 3) (x := ⟨0, w, 0, p3⟩) (by rw [htt]; rfl) rfl, ifName_bind]
    unfold ifName
    cases res w <;> rfl
  have htab : table res t (m + 10) 5 = .ok (named k_table [116] [named k_as [116] []]) 6 := by
    rw [table, joined]
    have h1 : opensBody t 5 = false := by rw [htt]; rfl
    have h2 : sees t 5 g_par = false := by rw [htt]; rfl
    rw [h1, h2]
    simp only
    rw [name_ok res (x := ⟨0, [116], 0, p5⟩) (by rw [htt]; rfl) rfl ht, Rs.bind_ok]
    unfold alias
    subst htt
    rfl
  have htl : t.length = 6 := by rw [htt]; rfl
  have := st_select m (t := t) (fun k => by rw [htt]; rfl) (by rw [htt]; rfl) (by rw [htt]; rfl) (by rw [htt]; rfl) hit (named k_table [116] [named k_as [116] []]) (by
    unfold ifName
    cases res w with
    | true => exact .inl rfl
    | false => exact .inr ⟨_, rfl, by rw [htt]; rfl, by rw [htt]; rfl, by rw [htl]; exact htab, fun s => by rw [htl, htt]; rfl⟩)
  rw [← htt, this, htl]
  unfold ifName
  cases res w <;> rfl
end
end
end Go.AM.Ps

namespace Go.AM.Ps
open Go.Proofs W
set_option maxRecDepth 100000
set_option maxHeartbeats 4000000
set_option linter.unusedVariables false

def Reads (s : List UInt8) (l : List Tk) : Prop := run s (skip s 0) = some l

theorem reads_nil : Reads [] [] := run_end []

theorem skip_blank (r : List UInt8) (c : UInt8) (hc : isBlank c = true) : skip (c :: r) 0 = 1 + skip r 0 := by
  have h := skip_drop (c :: r) 1 0 (by simp)
  simp only [Nat.add_zero, List.drop_succ_cons, List.drop_zero] at h
  rw [← h]
  unfold skip skipN
  rw [scan_step isBlank (c :: r) 0 (by simp) (by simpa using hc)]

theorem reads_blank {r : List UInt8} {l : List Tk} (c : UInt8) (hc : isBlank c = true) (h : Reads r l) : Reads (c :: r) (l.map (shiftTk 1)) := by
  unfold Reads
  rw [skip_blank r c hc, run_drop (c :: r) 1 ((c :: r).length + 1) _ (by have := skip_le r 0 (Nat.zero_le _); simp; omega) (by omega)]
  show (run r (skip r 0)).map _ = _
  rw [h]
  rfl

theorem skip_here (c : UInt8) (r : List UInt8) (h1 : isBlank c = false) (h2 : (45 == c) = false) : skip (c :: r) 0 = 0 := by
  unfold skip skipN
  rw [scan_stop isBlank (c :: r) 0 (by simp) (by simpa using h1)]
  have : [45, 45].isPrefixOf ((c :: r).drop 0) = false := by simp [List.isPrefixOf, h2]
  rw [this]

theorem reads_tok {s r : List UInt8} {l : List Tk} {x : Tk} {k : Nat} (h0 : skip s 0 = 0) (hlt : 0 < s.length) (hn : nextR s 0 = (x, sDone, k)) (hk : k ≤ s.length) (hd : s.drop k = r) (h : Reads r l) : Reads s (x :: l.map (shiftTk k)) := by
  unfold Reads
  rw [h0, run_step s 0 hlt, hn]
  simp only [beq_self_eq_true]
  have hs := skip_drop s k 0 (by omega)
  simp only [Nat.add_zero] at hs
  have hsl := skip_le s k hk
  rw [hs, run_drop s k (s.length + 1) _ (by omega) (by omega), hd]
  have h : run r (skip r 0) = some l := h
  rw [h]
  rfl

def Low (w : List UInt8) : Prop := ∀ c ∈ w, 97 ≤ c.toNat ∧ c.toNat ≤ 122
instance (w : List UInt8) : Decidable (Low w) := by unfold Low; infer_instance

theorem low_letter {c : UInt8} (h : 97 ≤ c.toNat ∧ c.toNat ≤ 122) : isLetter c = true := by
  unfold isLetter
  have h1 : (97 : UInt8) ≤ c := by rw [UInt8.le_iff_toNat_le]; exact h.1
  have h2 : c ≤ (122 : UInt8) := by rw [UInt8.le_iff_toNat_le]; exact h.2
  simp [h1, h2]
theorem low_self {c : UInt8} (h : 97 ≤ c.toNat ∧ c.toNat ≤ 122) : low c = c := by
  unfold low
  rw [if_neg (by omega)]
theorem low_plain {c : UInt8} (h : 97 ≤ c.toNat ∧ c.toNat ≤ 122) : isBlank c = false ∧ (45 == c) = false := by
  have hn : ∀ d : UInt8, d.toNat < 97 → (c == d) = false := fun d hd => by
    rw [beq_eq_false_iff_ne]
    intro e
    rw [e] at h
    omega
  refine ⟨?_, ?_⟩
  · unfold isBlank
    rw [hn 9 (by decide), hn 10 (by decide), hn 13 (by decide), hn 32 (by decide)]
    rfl
  · have := hn 45 (by decide)
    rw [beq_eq_false_iff_ne] at this ⊢
    exact Ne.symm this

theorem low_map {w : List UInt8} (h : Low w) : w.map low = w := by
  induction w with
  | nil => rfl
  | cons c r ih => rw [List.map_cons, low_self (h c (by simp)), ih fun x hx => h x (by simp [hx])]

theorem low_word {w : List UInt8} (h : Low w) : w.takeWhile isWord = w := by
  induction w with
  | nil => rfl
  | cons c r ih =>
    have : isWord c = true := by unfold isWord; rw [low_letter (h c (by simp))]; rfl
    rw [List.takeWhile_cons, this, ih fun x hx => h x (by simp [hx])]
    rfl

theorem reads_word {w r : List UInt8} {l : List Tk} (hw : Low w) (h0 : w ≠ []) (h32 : w.length ≤ 32) (hr : r.takeWhile isWord = []) (h : Reads r l) : Reads (w ++ r) (⟨0, w, 0, 0⟩ :: l.map (shiftTk w.length)) := by
  have htw : (w ++ r).takeWhile isWord = w := by
    rw [tw_all isWord r w (by rw [low_word hw]), hr, List.append_nil]
  cases hw0 : w with
  | nil => exact absurd hw0 h0
  | cons c w' =>
    have hc := hw c (by rw [hw0]; simp)
    rw [← hw0]
    refine reads_tok (x := ⟨0, w, 0, 0⟩) (k := w.length) ?_ (by rw [hw0]; simp) ?_ (by simp) (by simp) h
    · rw [hw0]
      exact skip_here c (w' ++ r) (low_plain hc).1 (low_plain hc).2
    · unfold nextR
      have e0 : (w ++ r).getD 0 0 = c := by rw [hw0]; rfl
      have es : scan isWord (w ++ r) 0 = w.length := by unfold scan; rw [List.drop_zero, htw]; omega
      rw [e0, low_letter hc, List.drop_zero, htw, es]
      unfold wordR
      rw [low_map hw, decide_eq_false (by omega)]
      rfl

theorem reads_sign {g : UInt8} {r : List UInt8} {l : List Tk} (hg : nextR (g :: r) 0 = (⟨3, [g], 0, 0⟩, sDone, 1)) (h1 : isBlank g = false) (h2 : (45 == g) = false) (h : Reads r l) : Reads (g :: r) (⟨3, [g], 0, 0⟩ :: l.map (shiftTk 1)) :=
  reads_tok (skip_here g r h1 h2) (by simp) hg (by simp) rfl h

theorem reads_lex {s : List UInt8} {l : List Tk} (h : Reads s l) (hs : s.length ≤ 2000) (hl : l.length ≤ 600) : lexScan s = (l, sDone) := by
  obtain ⟨h1, h2, _⟩ := lexScan_done s
  have hd := h1.2 ⟨hs, l, h, hl⟩
  have h2 := h2 hd
  have h : run s (skip s 0) = some l := h
  rw [h] at h2
  exact Prod.ext (by simpa using h2.symm) hd

/-- What is answered where only a word may be wrong. -/
theorem parse_ifName {s w : List UInt8} {t : List Tk} {a : Nd} {n : Nat} (hl : lexScan s = (t, sDone)) (hs : statement reservedB t n 0 = ifName reservedB w a t.length) (hd : decide (depth a > 24) = false) :
    parseS n s = match reservedB w with | true => (zeroNd, sSyntax) | false => (a, sDone) := by
  unfold parseS
  rw [hl]
  simp only [beq_self_eq_true]
  rw [hs]
  unfold ifName
  cases reservedB w with
  | true => rfl
  | false =>
    show parseEnd t a t.length = _
    unfold parseEnd
    have : sees t t.length g_semi = false := by unfold sees; rw [List.getElem?_eq_none (Nat.le_refl _)]
    rw [this]
    simp only [Nat.lt_irrefl, decide_false, hd]

theorem res_t : reservedB [116] = false := by kernel_rfl
theorem res_x : reservedB [120] = false := by kernel_rfl
theorem res_a : reservedB [97] = false := by kernel_rfl
theorem res_from : reservedB k_from = true := by kernel_rfl

section
variable {w : List UInt8}

theorem reads_w (hw : Low w) (h0 : w ≠ []) (h20 : w.length ≤ 20) : Reads w [⟨0, w, 0, 0⟩] := by
  have := reads_word (r := []) hw h0 (by omega) rfl reads_nil
  rw [List.append_nil] at this
  exact this

theorem parse_savepoint (hw : Low w) (h0 : w ≠ []) (h20 : w.length ≤ 20) (n : Nat) : parseS n (k_savepoint ++ [32] ++ w) = match reservedB w with | true => (zeroNd, sSyntax) | false => (named k_savepoint w [], sDone) := by
  have h := reads_word (w := k_savepoint) (by decide) (by decide) (by decide) (by rfl) (reads_blank 32 rfl (reads_w hw h0 h20))
  have e : k_savepoint ++ [32] ++ w = k_savepoint ++ 32 :: w := by simp
  rw [e]
  exact parse_ifName (t := [⟨0, k_savepoint, 0, _⟩, ⟨0, w, 0, _⟩]) (reads_lex h (by simp; omega) (by simp)) (st_savepoint reservedB w _ _ n) rfl
theorem parse_close (hw : Low w) (h0 : w ≠ []) (h20 : w.length ≤ 20) (n : Nat) : parseS n (k_close ++ [32] ++ w) = match reservedB w with | true => (zeroNd, sSyntax) | false => (named k_close w [], sDone) := by
  have h := reads_word (w := k_close) (by decide) (by decide) (by decide) (by rfl) (reads_blank 32 rfl (reads_w hw h0 h20))
  have e : k_close ++ [32] ++ w = k_close ++ 32 :: w := by simp
  rw [e]
  exact parse_ifName (t := [⟨0, k_close, 0, _⟩, ⟨0, w, 0, _⟩]) (reads_lex h (by simp; omega) (by simp)) (st_close reservedB w _ _ n) rfl
theorem parse_drop (hw : Low w) (h0 : w ≠ []) (h20 : w.length ≤ 20) (n : Nat) : parseS n (k_drop ++ [32] ++ k_table ++ [32] ++ w) = match reservedB w with | true => (zeroNd, sSyntax) | false => (named o_droptable w [], sDone) := by
  have h := reads_word (w := k_drop) (by decide) (by decide) (by decide) (by rfl) (reads_blank 32 rfl (reads_word (w := k_table) (by decide) (by decide) (by decide) (by rfl) (reads_blank 32 rfl (reads_w hw h0 h20))))
  have e : k_drop ++ [32] ++ k_table ++ [32] ++ w = k_drop ++ 32 :: (k_table ++ 32 :: w) := by simp
  rw [e]
  exact parse_ifName (t := [⟨0, k_drop, 0, _⟩, ⟨0, k_table, 0, _⟩, ⟨0, w, 0, _⟩]) (reads_lex h (by simp; omega) (by simp)) (st_drop reservedB w _ _ _ n) rfl

theorem parse_create (hw : Low w) (h0 : w ≠ []) (h20 : w.length ≤ 20) (n : Nat) (h1 : (w == k_primary) = false) (h2 : (w == k_unique) = false) (h3 : (w == k_check) = false) (h4 : (w == k_foreign) = false) :
    parseS (n + 1) (k_create ++ [32] ++ k_table ++ [32, 116, 32, 40] ++ w ++ ([32] ++ k_int ++ [41])) = match reservedB w with | true => (zeroNd, sSyntax) | false => (named o_createtable [116] [named o_column w [.mk o_type k_integer 0 []]], sDone) := by
  have h := reads_word (w := k_create) (by decide) (by decide) (by decide) (by rfl) (reads_blank 32 rfl (reads_word (w := k_table) (by decide) (by decide) (by decide) (by rfl) (reads_blank 32 rfl (reads_word (w := [116]) (by decide) (by decide) (by decide) (by rfl)
    (reads_blank 32 rfl (reads_sign (g := 40) (r := w ++ 32 :: (k_int ++ [41])) rfl rfl rfl (reads_word hw h0 (by omega) (by rfl) (reads_blank 32 rfl (reads_word (w := k_int) (by decide) (by decide) (by decide) (by rfl) (reads_sign (g := 41) (r := []) rfl rfl rfl reads_nil))))))))))
  have e : k_create ++ [32] ++ k_table ++ [32, 116, 32, 40] ++ w ++ ([32] ++ k_int ++ [41]) = k_create ++ 32 :: (k_table ++ 32 :: ([116] ++ 32 :: 40 :: (w ++ 32 :: (k_int ++ [41])))) := by simp
  rw [e]
  exact parse_ifName (t := [⟨0, k_create, 0, _⟩, ⟨0, k_table, 0, _⟩, ⟨0, [116], 0, _⟩, ⟨3, [40], 0, _⟩, ⟨0, w, 0, _⟩, ⟨0, k_int, 0, _⟩, ⟨3, [41], 0, _⟩]) (reads_lex h (by simp; omega) (by simp)) (st_create w _ _ _ _ _ _ _ n res_t h1 h2 h3 h4) rfl

theorem parse_col (hw : Low w) (h0 : w ≠ []) (h20 : w.length ≤ 20) (n : Nat) :
    parseS (n + 13) (k_select ++ [32, 120, 46] ++ w ++ ([32] ++ k_from ++ [32, 116, 32, 120])) = match reservedB w with | true => (zeroNd, sSyntax) | false => (node o_query [.mk k_select [] 0 [node o_items [named o_item [] [named o_col w [named k_of [120] []]]], node k_from [named k_table [116] [named k_as [120] []]], node k_where [], node k_group [], node k_having []], node k_order []], sDone) := by
  have h := reads_word (w := k_select) (by decide) (by decide) (by decide) (by rfl) (reads_blank 32 rfl (reads_word (w := [120]) (by decide) (by decide) (by decide) (by rfl)
    (reads_sign (g := 46) (r := w ++ 32 :: (k_from ++ 32 :: ([116] ++ 32 :: [120]))) rfl rfl rfl (reads_word hw h0 (by omega) (by rfl) (reads_blank 32 rfl (reads_word (w := k_from) (by decide) (by decide) (by decide) (by rfl)
      (reads_blank 32 rfl (reads_word (w := [116]) (by decide) (by decide) (by decide) (by rfl) (reads_blank 32 rfl (reads_w (w := [120]) (by decide) (by decide) (by decide)))))))))))
  have e : k_select ++ [32, 120, 46] ++ w ++ ([32] ++ k_from ++ [32, 116, 32, 120]) = k_select ++ 32 :: ([120] ++ 46 :: (w ++ 32 :: (k_from ++ 32 :: ([116] ++ 32 :: [120])))) := by simp
  have hs : (w == g_star) = false := by
    rw [beq_eq_false_iff_ne]
    rintro rfl
    have := hw 42 (by decide)
    revert this
    decide
  rw [e]
  exact parse_ifName (t := [⟨0, k_select, 0, _⟩, ⟨0, [120], 0, _⟩, ⟨3, [46], 0, _⟩, ⟨0, w, 0, _⟩, ⟨0, k_from, 0, _⟩, ⟨0, [116], 0, _⟩, ⟨0, [120], 0, _⟩]) (reads_lex h (by simp; omega) (by simp)) (st_col w _ _ _ _ _ _ _ n res_t res_x res_from hs) rfl

theorem parse_alias (hw : Low w) (h0 : w ≠ []) (h20 : w.length ≤ 20) (n : Nat) :
    parseS (n + 13) (k_select ++ [32, 97, 32] ++ k_as ++ [32] ++ w ++ ([32] ++ k_from ++ [32, 116])) = match reservedB w with | true => (zeroNd, sSyntax) | false => (node o_query [.mk k_select [] 0 [node o_items [named o_item w [named o_col [97] []]], node k_from [named k_table [116] [named k_as [116] []]], node k_where [], node k_group [], node k_having []], node k_order []], sDone) := by
  have h := reads_word (w := k_select) (by decide) (by decide) (by decide) (by rfl) (reads_blank 32 rfl (reads_word (w := [97]) (by decide) (by decide) (by decide) (by rfl)
    (reads_blank 32 rfl (reads_word (w := k_as) (by decide) (by decide) (by decide) (by rfl) (reads_blank 32 rfl (reads_word (r := 32 :: (k_from ++ 32 :: [116])) hw h0 (by omega) (by rfl) (reads_blank 32 rfl (reads_word (w := k_from) (by decide) (by decide) (by decide) (by rfl)
      (reads_blank 32 rfl (reads_w (w := [116]) (by decide) (by decide) (by decide)))))))))))
  have e : k_select ++ [32, 97, 32] ++ k_as ++ [32] ++ w ++ ([32] ++ k_from ++ [32, 116]) = k_select ++ 32 :: ([97] ++ 32 :: (k_as ++ 32 :: (w ++ 32 :: (k_from ++ 32 :: [116])))) := by simp
  rw [e]
  exact parse_ifName (t := [⟨0, k_select, 0, _⟩, ⟨0, [97], 0, _⟩, ⟨0, k_as, 0, _⟩, ⟨0, w, 0, _⟩, ⟨0, k_from, 0, _⟩, ⟨0, [116], 0, _⟩]) (reads_lex h (by simp; omega) (by simp)) (st_alias w _ _ _ _ _ _ n res_t res_a) rfl
end
end Go.AM.Ps
