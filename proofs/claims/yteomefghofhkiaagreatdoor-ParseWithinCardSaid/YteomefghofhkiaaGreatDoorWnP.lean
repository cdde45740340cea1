/- An expression in parentheses has its tree: of tokens. -/
import Derived.Test.YteomefghofhkiaaGreatDoorWnO
import Derived.Test.YteomefghofhkiaaGreatDoorWnN
set_option linter.unusedVariables false
set_option linter.unusedSimpArgs false
set_option maxHeartbeats 8000000
set_option maxRecDepth 100000
namespace Go.AM.Ps
open W
def Stop (t : List Tk) (z : Nat) : Prop := t[z]? = none ∨ ∃ y, t[z]? = some y ∧ strength y.t = 0 ∧ (∀ s ∈ [g_eq, g_ne, g_le, g_ge, g_lt, g_gt, k_is, k_not, k_between, k_like, k_in], (y.t == s) = false)
theorem Stop.sees {t : List Tk} {z : Nat} (h : Stop t z) {s : List UInt8} (hs : s ∈ [g_eq, g_ne, g_le, g_ge, g_lt, g_gt, k_is, k_not, k_between, k_like, k_in]) : Ps.sees t z s = false := by
 unfold Ps.sees
 rcases h with h | ⟨y, h, _, h2⟩
 · rw [h]
 · rw [h]; simp only [h2 s hs, Bool.and_false]
theorem Stop.more {t : List Tk} {z : Nat} (h : Stop t z) (res : List UInt8 → Bool) (m : Nat) (L : Int) (a : Nd) : Ps.bindsMore res t (m + 1) L a z = .ok a z := by
 rw [Ps.bindsMore]
 rcases h with h | ⟨y, h, h1, h2⟩
 · rw [h]
 · rw [h]
   simp only [h1, beq_self_eq_true, Bool.or_true, Bool.true_or]
   cases (y.k != 2 && y.k != 1) <;> rfl
theorem Stop.take {t : List Tk} {z : Nat} (h : Stop t z) {s : List UInt8} (hs : s ∈ [g_eq, g_ne, g_le, g_ge, g_lt, g_gt, k_is, k_not, k_between, k_like, k_in]) : Ps.take t s [] z = .ok false z := by
 unfold Ps.take; rw [h.sees hs]
theorem Stop.one {t : List Tk} {z : Nat} (h : Stop t z) : Ps.one t [g_eq, g_ne, g_le, g_ge, g_lt, g_gt] z = .ok [] z := by
 unfold Ps.one; rw [h.sees (by decide)]
 unfold Ps.one; rw [h.sees (by decide)]
 unfold Ps.one; rw [h.sees (by decide)]
 unfold Ps.one; rw [h.sees (by decide)]
 unfold Ps.one; rw [h.sees (by decide)]
 unfold Ps.one; rw [h.sees (by decide)]
 rfl
section
variable {res : List UInt8 → Bool} {t : List Tk} {z : Nat}
theorem expr_down (hn : sees t z k_not = false) (hm : sees t z g_minus = false) (m : Nat) : expr res t (m + 7) z =
  ((((primary res t (m + 1) z).bind fun a z => bindsMore res t (m + 2) 5 a z).bind fun a z => (one t [g_eq, g_ne, g_le, g_ge, g_lt, g_gt] z).bind fun op z => match op == [] with
  | false => (one t [k_all, k_any, k_some] z).bind fun q z => match q == k_all, q == k_any || q == k_some with
   | true, _ => (within t (body res t (m + 3)) z).bind fun b z => .ok (named k_all op [a, b]) z
   | _, true => (within t (body res t (m + 3)) z).bind fun b z => .ok (named k_any op [a, b]) z
   | _, _ => (binds res t (m + 3) 5 z).bind fun b z => .ok (node op [a, b]) z
  | true => (take t k_is [] z).bind fun is z => match is with
   | true => (take t k_not [] z).bind fun no z => (one t [k_null, k_true, k_false, k_unknown] z).bind fun s z => match s == [] with
    | true => .wrong
    | false => .ok (turned no (named k_is s [a])) z
   | false => (take t k_not [] z).bind fun no z => (take t k_between [] z).bind fun bt z => match bt with
    | true => (binds res t (m + 3) 5 z).bind fun low z => (need t k_and z).bind fun _ z => (binds res t (m + 3) 5 z).bind fun b z => .ok (turned no (node k_between [a, low, b])) z
    | false => (take t k_like [] z).bind fun lk z => match lk with
     | true => (binds res t (m + 3) 5 z).bind fun b z => .ok (turned no (node k_like [a, b])) z
     | false => (take t k_in [] z).bind fun i z => match i with
      | true => match opensBody t z with
       | true => (within t (body res t (m + 3)) z).bind fun b z => .ok (turned no (named k_in o_query [a, b])) z
       | false => (within t (exprs res t (m + 3)) z).bind fun l z => .ok (turned no (node k_in (a :: l))) z
      | false => match no with
       | true => .wrong
       | false => .ok a z).bind fun a z => bindsMore res t (m + 5) 1 a z) := by
 have hf5 : ∀ m, first res t (m + 1) 5 z = primary res t m z := fun m => by rw [first, hn, hm]; rfl
 have hf1 : ∀ m, first res t (m + 1) 1 z = test res t m z := fun m => by rw [first, hn]; rfl
 rw [expr, binds, hf1, test, binds, hf5]
 rfl
theorem expr_stop (hn : sees t z k_not = false) (hm : sees t z g_minus = false) {m : Nat} {a : Nd} {z' : Nat} (hp : primary res t (m + 1) z = .ok a z') (hs : Stop t z') : expr res t (m + 7) z = .ok a z' := by
 rw [expr_down hn hm, hp]
 simp only [Rs.bind_ok, hs.more, hs.one, beq_self_eq_true, hs.take (s := k_is) (by decide), hs.take (s := k_not) (by decide), hs.take (s := k_between) (by decide), hs.take (s := k_like) (by decide), hs.take (s := k_in) (by decide)]
theorem expr_primary (hn : sees t z k_not = false) (hm : sees t z g_minus = false) {m : Nat} {x : Nd} {z1 : Nat} (h : expr res t (m + 7) z = .ok x z1) : ∃ a z', primary res t (m + 1) z = .ok a z' := by
 rw [expr_down hn hm] at h
 cases hp : primary res t (m + 1) z with
 | fuel => rw [hp] at h; cases h
 | wrong => rw [hp] at h; cases h
 | ok a z' => exact ⟨a, z', rfl⟩
end
theorem bind_okk {α β : Type} {r : Rs α} {f : α → Nat → Rs β} {b : β} {z : Nat} (h : r.bind f = .ok b z) : ∃ a z', r = .ok a z' ∧ f a z' = .ok b z := by
 cases r with
 | fuel => cases h
 | wrong => cases h
 | ok a z' => exact ⟨a, z', rfl, h⟩
theorem need_okk {t : List Tk} {s : List UInt8} {z z' : Nat} {u : Unit} (h : need t s z = .ok u z') : sees t z s = true ∧ z' = z + 1 := by
 unfold need at h
 cases hb : sees t z s with
 | false => rw [hb] at h; cases h
 | true => rw [hb] at h; cases h; exact ⟨rfl, rfl⟩
end Go.AM.Ps
namespace Go.AM.Ps
open W
theorem sm_refl (t : List Tk) : Sm t t 0 0 false := ⟨fun z x _ h => ⟨x, h, rfl, rfl, rfl⟩, fun z h => .inl h⟩
theorem fuel_down {t : List Tk} {k n p : Nat} (hk : 30 * (t.length + 1) + 40 ≤ k) (hkn : k ≤ n) (hn : n ≤ 1000000000) (hp : p ≤ t.length) {x : Nd} {z : Nat} (h : expr reservedB t n p = .ok x z) : expr reservedB t k p = .ok x z := by
 have h1 := res_expr (t := t) hk (by omega) p hp
 have h2 := (sims_all (sm_refl t) k n hkn).expr p (Nat.zero_le _)
 cases hr : expr reservedB t k p with
 | fuel => exact absurd hr h1.1
 | wrong =>
  rw [hr] at h2
  have h2 : expr reservedB t n (p + 0) = .wrong := h2 rfl
  rw [Nat.add_zero, h] at h2
  cases h2
 | ok a z' =>
  rw [hr] at h2
  obtain ⟨_, h2⟩ := h2
  rw [Nat.add_zero, h] at h2
  cases h2
  rfl
theorem sees_other {t : List Tk} {z : Nat} {a b : List UInt8} (h : sees t z a = true) (hab : (a == b) = false) : sees t z b = false := by
 unfold sees at *
 cases hx : t[z]? with
 | none => rfl
 | some x =>
  rw [hx] at h
  simp only [Bool.and_eq_true] at h
  have : x.t = a := by simpa using h.2
  simp only [this, hab, Bool.and_false]
theorem sees_kind {t : List Tk} {z : Nat} {a : List UInt8} (h : sees t z a = true) : isKind t 1 z = false ∧ isKind t 2 z = false := by
 unfold sees at h
 unfold isKind
 cases hx : t[z]? with
 | none => rw [hx] at h; cases h
 | some x =>
  rw [hx] at h
  simp only [Bool.and_eq_true, Bool.or_eq_true, beq_iff_eq] at h
  rcases h.1 with h1 | h1 <;> (simp only [h1]; exact ⟨rfl, rfl⟩)
theorem sees_noName {t : List Tk} {z : Nat} {a : List UInt8} (h : sees t z a = true) (hr : reservedB a = true) : isName reservedB t z = false := by
 unfold sees at h
 unfold isName
 cases hx : t[z]? with
 | none => rfl
 | some x =>
  rw [hx] at h
  simp only [Bool.and_eq_true, Bool.or_eq_true, beq_iff_eq] at h
  simp only [h.2, hr, Bool.not_true, Bool.and_false]
theorem sees_one {t : List Tk} {z : Nat} {l : List (List UInt8)} (hl : ∀ s ∈ l, sees t z s = false) : one t l z = .ok [] z := by
 induction l with
 | nil => rfl
 | cons s l ih =>
  unfold one
  rw [hl s (by simp)]
  exact ih fun s hs => hl s (by simp [hs])
theorem sees_stop {t : List Tk} {z : Nat} {a : List UInt8} (h : sees t z a = true) (h1 : strength a = 0) (h2 : ∀ s ∈ [g_eq, g_ne, g_le, g_ge, g_lt, g_gt, k_is, k_not, k_between, k_like, k_in], (a == s) = false) : Stop t z := by
 unfold sees at h
 cases hx : t[z]? with
 | none => rw [hx] at h; cases h
 | some x =>
  rw [hx] at h
  simp only [Bool.and_eq_true] at h
  have : x.t = a := by simpa using h.2
  exact .inr ⟨x, hx, by rw [this]; exact h1, by rw [this]; exact h2⟩
theorem paren {ta tb : List Tk} {p K z1 z2 : Nat} {x y : Nd} (h : Sm ta tb p 1 true) (hpl : p ≤ ta.length) (hK : 30 * (ta.length + 1) + 40 ≤ K) (hK2 : K + 17 ≤ 1000000000) (hlen : tb.length = ta.length + 2)
  (hpar : sees tb p g_par = true)
  (hx : expr reservedB ta (K + 17) p = .ok x z1) (he : ta[z1]? = none ∨ sees ta z1 g_semi = true) (hy : expr reservedB tb (K + 17) p = .ok y z2) : y = x ∧ z2 = tb.length := by
 have hnb : sees tb p k_not = false := sees_other hpar rfl
 have hmb : sees tb p g_minus = false := sees_other hpar rfl
 obtain ⟨hk1, hk2⟩ := sees_kind hpar
 have hx7 : expr reservedB ta (K + 7) p = .ok x z1 := fuel_down (by omega) (by omega) hK2 hpl hx
 have hz1le : z1 ≤ ta.length := ((res_expr (t := ta) (n := K + 7) (by omega) (by omega) p hpl).2 _ _ hx7).2.1
 obtain ⟨a, z', hp⟩ := expr_primary hnb hmb (m := K + 10) hy
 have hdone : ∀ a0 z0, primary reservedB ta (K + 1) p = .ok a0 z0 → Stop ta z0 → sees ta p k_not = false → sees ta p g_minus = false → x = a0 ∧ z1 = z0 := fun a0 z0 h1 h2 h3 h4 => by
  have := expr_stop h3 h4 h1 h2
  rw [hx7] at this
  cases this
  exact ⟨rfl, rfl⟩
 have hp0 := hp
 rw [primary, hk1, hk2] at hp
 simp only at hp
 cases hob : opensBody tb p with
 | false =>
  rw [hob, hpar] at hp
  simp only at hp
  unfold within at hp
  obtain ⟨_, z3, h1, hp⟩ := bind_okk hp
  obtain ⟨a2, z4, h2, hp⟩ := bind_okk hp
  obtain ⟨_, z5, h3, hp⟩ := bind_okk hp
  cases hp
  obtain ⟨_, rfl⟩ := need_okk h1
  obtain ⟨h3', rfl⟩ := need_okk h3
  have hs := (sims_all h (K + 7) (K + 10) (by omega)).expr p (Nat.le_refl _)
  rw [hx7] at hs
  obtain ⟨hz1, hs⟩ := hs
  rw [hs] at h2
  cases h2
  have hz1l : ta[z1]? = none := by
   rcases he with he | he
   · exact he
   · have := h.at_ z1
     unfold sees at he
     cases hq : ta[z1]? with
     | none => rfl
     | some q =>
      rw [hq] at he
      obtain ⟨y', h4, h5, h6, _⟩ := h.at_ z1 q hz1 hq
      unfold sees at h3'
      rw [h4] at h3'
      simp only [Bool.and_eq_true] at he h3'
      have e1 : q.t = g_semi := by simpa using he.2
      have e2 : y'.t = g_rap := by simpa using h3'.2
      rw [h6, e1] at e2
      exact absurd e2 (by decide)
  have hge : ta.length ≤ z1 := List.getElem?_eq_none_iff.1 hz1l
  have := expr_stop hnb hmb hp0 (.inl (List.getElem?_eq_none (by omega)))
  rw [hy] at this
  cases this
  exact ⟨rfl, by omega⟩
 | true =>
  rw [hob] at hp
  simp only at hp
  obtain ⟨b2, z3, hw, hp⟩ := bind_okk hp
  cases hp
  unfold within at hw
  obtain ⟨_, z4, h1, hw⟩ := bind_okk hw
  obtain ⟨b3, z5, h2, hw⟩ := bind_okk hw
  obtain ⟨_, z6, h3, hw⟩ := bind_okk hw
  cases hw
  obtain ⟨_, rfl⟩ := need_okk h1
  obtain ⟨h3', rfl⟩ := need_okk h3
  have hop : opens tb tb.length p = opens ta ta.length p + 1 := by
   rw [hlen]
   have e : opens tb (ta.length + 2) p = opens tb (ta.length + 1) (p + 1) + 1 := by
    conv => lhs; unfold opens
    rw [hpar]
   rw [e, h.opens ta.length (ta.length + 1) p (Nat.le_refl _) (by omega) (by omega)]
  have hsel : sees ta (p + opens ta ta.length p) k_select = true := by
   unfold opensBody at hob
   simp only [Bool.and_eq_true] at hob
   have := hob.2
   rw [hop, show p + (opens ta ta.length p + 1) = p + opens ta ta.length p + 1 by omega, h.sees (by omega) (by decide)] at this
   exact this
  by_cases ho : opens ta ta.length p = 0
  · exfalso
    rw [ho, Nat.add_zero] at hsel
    have hn := sees_other hsel (b := k_not) rfl
    have hm := sees_other hsel (b := g_minus) rfl
    obtain ⟨a0, z0, h0⟩ := expr_primary hn hm hx7
    have hob0 : opensBody ta p = false := by unfold opensBody; rw [ho]; rfl
    have hpar0 := sees_other hsel (b := g_par) rfl
    have hkind := sees_kind hsel
    have hname := sees_noName hsel (by kernel_rfl)
    have hone : one ta [k_true, k_false, k_null, k_exists, k_case, k_cast, k_coalesce, k_nullif, k_count, k_sum, k_min, k_max] p = .ok [] p :=
     sees_one fun s hs => sees_other hsel (by revert s; decide)
    rw [primary, hkind.1, hkind.2, hob0, hpar0, hone] at h0
    have hcol : column reservedB ta p = .wrong := by unfold column name; rw [hname]; rfl
    have h0 : column reservedB ta p = .ok a0 z0 := h0
    rw [hcol] at h0
    cases h0
  · have hpa : sees ta p g_par = true := by
     cases hq : sees ta p g_par with
     | true => rfl
     | false =>
      exfalso
      apply ho
      cases hl : ta.length with
      | zero => rfl
      | succ k => unfold opens; rw [hq]
    have hn := sees_other hpa (b := k_not) rfl
    have hm := sees_other hpa (b := g_minus) rfl
    have hoba : opensBody ta p = true := by
     unfold opensBody
     rw [hsel, Bool.and_true]
     exact decide_eq_true (by omega)
    obtain ⟨a0, z0, h0⟩ := expr_primary hn hm hx7
    have h00 := h0
    obtain ⟨hka1, hka2⟩ := sees_kind hpa
    rw [primary, hka1, hka2, hoba] at h0
    simp only at h0
    obtain ⟨b1, z9, hw1, h0⟩ := bind_okk h0
    cases h0
    have hwt := h.within (sims_all h K (K + 7) (by omega)).body (Nat.le_refl p)
    rw [hw1] at hwt
    obtain ⟨hz0, hwt⟩ := hwt
    have hsimple : simple reservedB tb (K + 8) (p + 1) = .ok b1 (z0 + 1) := by
     rw [simple, h.sees (Nat.le_refl p) (by decide), hpa]
     exact hwt
    have hword : ∀ w, sees ta z0 w = true → strength w = 0 → (∀ s ∈ [g_eq, g_ne, g_le, g_ge, g_lt, g_gt, k_is, k_not, k_between, k_like, k_in], (w == s) = false) → (w == g_semi) = false → False := fun w h1 h2 h3 h4 => by
     obtain ⟨_, rfl⟩ := hdone _ _ h00 (sees_stop h1 h2 h3) hn hm
     rcases he with he | he
     · unfold sees at h1; rw [he] at h1; cases h1
     · rw [sees_other h1 h4] at he; cases he
    have hno : ∀ w, strength w = 0 → (∀ s ∈ [g_eq, g_ne, g_le, g_ge, g_lt, g_gt, k_is, k_not, k_between, k_like, k_in], (w == s) = false) → (w == g_semi) = false → Plain w → sees tb (z0 + 1) w = false := fun w h2 h3 h4 h5 => by
     rw [h.sees hz0 h5]
     cases hq : sees ta z0 w with
     | false => rfl
     | true => exact (hword w hq h2 h3 h4).elim
    have n1 := hno k_intersect rfl (by decide) rfl (by decide)
    have n2 := hno k_union rfl (by decide) rfl (by decide)
    have n3 := hno k_except rfl (by decide) rfl (by decide)
    have hbody : body reservedB tb (K + 10) (p + 1) = .ok b1 (z0 + 1) := by
     rw [body, setsOf, term, setsOf, hsimple]
     simp only [Rs.bind_ok]
     unfold setsMore
     rw [sees_one (l := [k_intersect]) (by intro s hs; simp only [List.mem_singleton] at hs; rw [hs]; exact n1)]
     simp only [Rs.bind_ok, beq_self_eq_true]
     rw [sees_one (l := [k_union, k_except]) (by intro s hs; simp only [List.mem_cons, List.mem_nil_iff, or_false] at hs; rcases hs with rfl | rfl; exact n2; exact n3)]
     simp only [Rs.bind_ok, beq_self_eq_true]
    rw [hbody] at h2
    cases h2
    have hz : ta[z0]? = none := by
     cases hq : ta[z0]? with
     | none => rfl
     | some q =>
      exfalso
      obtain ⟨y', g1, g2, g3, _⟩ := h.at_ z0 q hz0 hq
      have hr : sees ta z0 g_rap = true := by
       unfold sees at h3' ⊢
       rw [g1] at h3'
       rw [hq]
       simp only [g2, g3] at h3'
       exact h3'
      exact hword g_rap hr rfl (by decide) rfl
    obtain ⟨rfl, rfl⟩ := hdone _ _ h00 (.inl hz) hn hm
    have hge : ta.length ≤ z1 := List.getElem?_eq_none_iff.1 hz
    have := expr_stop hnb hmb hp0 (.inl (List.getElem?_eq_none (by omega)))
    rw [hy] at this
    cases this
    exact ⟨rfl, by omega⟩
end Go.AM.Ps
namespace Go.AM.Ps
open W
def condOf : Nd → Option Nd
 | .mk op _ _ [.mk o2 _ _ [_, _, .mk _ _ _ [x], _, _], _] => match op == o_query && o2 == k_select with
  | true => some x
  | false => none
 | _ => none
def alone : Nd → Bool
 | .mk _ _ _ [.mk _ _ _ [_, _, _, .mk _ _ _ g, .mk _ _ _ v], .mk _ _ _ o] => g.isEmpty && v.isEmpty && o.isEmpty
 | _ => false
structure Whr (t : List Tk) : Prop where
 t0 : ∃ p, t[0]? = some ⟨0, k_select, 0, p⟩
 t1 : ∃ p, t[1]? = some ⟨0, [120], 0, p⟩
 t2 : ∃ p, t[2]? = some ⟨0, k_from, 0, p⟩
 t3 : ∃ p, t[3]? = some ⟨0, [116], 0, p⟩
 t4 : ∃ p, t[4]? = some ⟨0, k_where, 0, p⟩
theorem tok_sees {t : List Tk} {z : Nat} {w : List UInt8} {p : Int} (h : t[z]? = some ⟨0, w, 0, p⟩) (s : List UInt8) : sees t z s = (w == s) := by
 unfold sees; rw [h]; simp
theorem st_where {t : List Tk} (h : Whr t) (hres : reservedB k_where = true ∧ reservedB k_from = true ∧ reservedB [120] = false ∧ reservedB [116] = false) (m : Nat) :
  statement reservedB t (m + 13) 0 = (((((expr reservedB t (m + 10) 5).bind fun e z => .ok [e] z).bind fun wh z => (optGroup reservedB t (m + 10) z).bind fun gr z => (optPart t k_having (expr reservedB t (m + 10)) z).bind fun hv z =>
        .ok (Nd.mk k_select [] 0 [node o_items [named o_item [] [named o_col [120] []]], node k_from [named k_table [116] [named k_as [116] []]], node k_where wh, node k_group gr, node k_having hv]) z).bind
    fun a z => setsMore t (simple reservedB t (m + 11)) [k_intersect] (m + 11) a z).bind fun a z => setsMore t (term reservedB t (m + 12)) [k_union, k_except] (m + 12) a z).bind fun b z => (take t k_order [k_by] z).bind fun o z => match o with
   | true => (listOf t (m + 13) (keyP reservedB t) z).bind fun l z => .ok (node o_query [b, node k_order l]) z
   | false => .ok (node o_query [b, node k_order []]) z := by
 obtain ⟨p0, h0⟩ := h.t0
 obtain ⟨p1, h1⟩ := h.t1
 obtain ⟨p2, h2⟩ := h.t2
 obtain ⟨p3, h3⟩ := h.t3
 obtain ⟨p4, h4⟩ := h.t4
 obtain ⟨r1, r2, r3, r4⟩ := hres
 have st2 : Stop t 2 := .inr ⟨_, h2, rfl, (by decide : ∀ s ∈ [g_eq, g_ne, g_le, g_ge, g_lt, g_gt, k_is, k_not, k_between, k_like, k_in], (k_from == s) = false)⟩
 have hsel : statement reservedB t (m + 13) 0 = query reservedB t (m + 13) 0 := by
  unfold statement
  rw [tok_sees h0, tok_sees h0]
  rfl
 have hop : ∀ z (w : List UInt8) p, t[z]? = some ⟨0, w, 0, p⟩ → (w == g_par) = false → opensBody t z = false := fun z w p hz hw => by
  unfold opensBody
  have : opens t t.length z = 0 := by
   cases hl : t.length with
   | zero => rfl
   | succ k => unfold opens; rw [tok_sees hz, hw]
  rw [this]; rfl
 have hcol : column reservedB t 1 = .ok (named o_col [120] []) 2 := by
  unfold column
  rw [name_ok reservedB h1 rfl r3, Rs.bind_ok]
  unfold take
  rw [tok_sees h2]
  rfl
 have hex : expr reservedB t (m + 9) 1 = .ok (named o_col [120] []) 2 := by
  refine expr_stop (m := m + 2) (by rw [tok_sees h1]; rfl) (by rw [tok_sees h1]; rfl) ?_ st2
  rw [primary]
  have k1 : isKind t 1 1 = false := by unfold isKind; rw [h1]; rfl
  have k2 : isKind t 2 1 = false := by unfold isKind; rw [h1]; rfl
  rw [k1, k2, hop 1 _ _ h1 rfl, tok_sees h1]
  have ho : one t [k_true, k_false, k_null, k_exists, k_case, k_cast, k_coalesce, k_nullif, k_count, k_sum, k_min, k_max] 1 = .ok [] 1 := sees_one fun s hs => by
   rw [tok_sees h1]; revert s; decide
  rw [ho]
  exact hcol
 have halias : ∀ z s w p, t[z]? = some ⟨0, w, 0, p⟩ → (w == k_as) = false → reservedB w = true → alias reservedB t s z = .ok s z := fun z s w p hz hw hr => by
  unfold alias take
  rw [tok_sees hz, hw]
  simp only [Rs.bind_ok, Bool.false_or]
  have : isName reservedB t z = false := by unfold isName; rw [hz]; simp only [hr]; rfl
  rw [this]
 have hitem : item reservedB t (m + 10) 1 = .ok (named o_item [] [named o_col [120] []]) 2 := by
  rw [item]
  have e1 : take t g_star [] 1 = .ok false 1 := by unfold take; rw [tok_sees h1]; rfl
  rw [e1]
  simp only [Rs.bind_ok]
  rw [show sees t (1 + 1) g_dot = false by rw [tok_sees h2]; rfl, Bool.and_false, Bool.false_and]
  simp only
  rw [hex]
  simp only [Rs.bind_ok]
  rw [halias 2 [] k_from _ h2 rfl r2]
  rfl
 have htab : table reservedB t (m + 10) 3 = .ok (named k_table [116] [named k_as [116] []]) 4 := by
  rw [table, joined, hop 3 _ _ h3 rfl, tok_sees h3]
  simp only [show ([116] == g_par) = false from rfl]
  rw [name_ok reservedB h3 rfl r4, Rs.bind_ok]
  show ((alias reservedB t [116] 4).bind _).bind _ = _
  rw [halias 4 [116] k_where _ h4 rfl r1]
  simp only [Rs.bind_ok]
  unfold tableMore
  rw [sees_one (z := 4) fun s hs => by rw [tok_sees h4]; revert s; decide]
  rfl
 rw [hsel]
 unfold query
 rw [body, setsOf, term, setsOf, simple, tok_sees h0]
 simp only [show (k_select == g_par) = false from rfl]
 have e2 : need t k_select 0 = .ok () 1 := by unfold need; rw [tok_sees h0]; rfl
 have e3 : one t [k_all, k_distinct] 1 = .ok [] 1 := sees_one fun s hs => by rw [tok_sees h1]; revert s; decide
 have e4 : listOf t (m + 10) (item reservedB t (m + 10)) 1 = .ok [named o_item [] [named o_col [120] []]] 2 := by
  unfold listOf
  rw [hitem, Rs.bind_ok]
  unfold listMore
  rw [tok_sees h2]
  rfl
 have e5 : need t k_from 2 = .ok () 3 := by unfold need; rw [tok_sees h2]; rfl
 have e6 : listOf t (m + 10) (table reservedB t (m + 10)) 3 = .ok [named k_table [116] [named k_as [116] []]] 4 := by
  unfold listOf
  rw [htab, Rs.bind_ok]
  unfold listMore
  rw [tok_sees h4]
  rfl
 have e7 : optPart t k_where (expr reservedB t (m + 10)) 4 = (expr reservedB t (m + 10) 5).bind fun e z => .ok [e] z := by
  unfold optPart take
  rw [tok_sees h4]
  rfl
 simp only [e2, e3, e4, e5, e6, e7, Rs.bind_ok]
 rfl
def opOf : Nd → List UInt8
 | .mk op _ _ _ => op
theorem one_okk {t : List Tk} : ∀ {l : List (List UInt8)} {z : Nat} {op : List UInt8} {z1 : Nat}, one t l z = .ok op z1 → (op = [] ∧ z1 = z) ∨ op ∈ l
 | [], z, op, z1, h => by cases h; exact .inl ⟨rfl, rfl⟩
 | s :: l, z, op, z1, h => by
  unfold one at h
  cases hs : sees t z s with
  | true => rw [hs] at h; cases h; exact .inr (by simp)
  | false =>
   rw [hs] at h
   rcases one_okk h with h | h
   · exact .inl h
   · exact .inr (by simp [h])
theorem setsMore_op {t : List Tk} {part : Nat → Rs Nd} {ws : List (List UInt8)} (hw : [] ∉ ws) : ∀ (n : Nat) (a : Nd) (z : Nat) (b : Nd) (z' : Nat), setsMore t part ws n a z = .ok b z' → (b = a ∧ z' = z) ∨ opOf b ∈ ws := by
 intro n
 induction n with
 | zero => intro a z b z' h; cases h
 | succ n ih =>
  intro a z b z' h
  unfold setsMore at h
  obtain ⟨op, z1, h1, h⟩ := bind_okk h
  have h2 := one_okk h1
  cases ho : (op == []) with
  | true =>
   have e : op = [] := by simpa using ho
   rw [ho] at h
   cases h
   rcases h2 with ⟨_, h2⟩ | h2
   · exact .inl ⟨rfl, h2⟩
   · rw [e] at h2; exact absurd h2 hw
  | false =>
   have e : op ≠ [] := by simpa using ho
   rw [ho] at h
   obtain ⟨al, z3, _, h⟩ := bind_okk h
   obtain ⟨b', z4, _, h⟩ := bind_okk h
   rcases h2 with ⟨h2, _⟩ | h2
   · exact absurd h2 e
   · rcases ih _ _ _ _ h with ⟨rfl, _⟩ | h
     · exact .inr h2
     · exact .inr h
theorem listMore_long {t : List Tk} {part : Nat → Rs Nd} : ∀ (n : Nat) (acc : List Nd) (z : Nat) (l : List Nd) (z' : Nat), listMore t part n acc z = .ok l z' → acc.length ≤ l.length := by
 intro n
 induction n with
 | zero => intro acc z l z' h; cases h
 | succ n ih =>
  intro acc z l z' h
  unfold listMore at h
  cases hs : sees t z g_comma with
  | true =>
   rw [hs] at h
   obtain ⟨x, z1, _, h⟩ := bind_okk h
   have := ih _ _ _ _ h
   simp at this
   omega
  | false => rw [hs] at h; cases h; exact Nat.le_refl _
theorem listOf_long {t : List Tk} {part : Nat → Rs Nd} {n z : Nat} {l : List Nd} {z' : Nat} (h : listOf t n part z = .ok l z') : 1 ≤ l.length := by
 unfold listOf at h
 obtain ⟨x, z1, _, h⟩ := bind_okk h
 exact listMore_long n [x] z1 l z' h
theorem take_false {t : List Tk} {s : List UInt8} {l : List (List UInt8)} {z z' : Nat} (h : take t s l z = .ok false z') : z' = z := by
 unfold take at h
 cases hs : sees t z s with
 | true =>
  rw [hs] at h
  obtain ⟨u, z1, _, h⟩ := bind_okk h
  cases h
 | false => rw [hs] at h; cases h; rfl
theorem where_expr {t : List Tk} (h : Whr t) {m : Nat} {q x : Nd} {z : Nat} (hs : statement reservedB t (m + 13) 0 = .ok q z) (hc : condOf q = some x) : ∃ z1, expr reservedB t (m + 10) 5 = .ok x z1 ∧ (alone q = true → z1 = z) := by
 rw [st_where h ⟨by kernel_rfl, by kernel_rfl, by kernel_rfl, by kernel_rfl⟩] at hs
 obtain ⟨b, z2, hs, h9⟩ := bind_okk hs
 obtain ⟨b1, z3, hs, h8⟩ := bind_okk hs
 obtain ⟨b0, z4, hs, h7⟩ := bind_okk hs
 obtain ⟨wh, z5, hs, h6⟩ := bind_okk hs
 obtain ⟨e, z6, h5, hs⟩ := bind_okk hs
 cases hs
 obtain ⟨gr, z7, h10, h6⟩ := bind_okk h6
 obtain ⟨hv, z8, h11, h6⟩ := bind_okk h6
 cases h6
 obtain ⟨o, z9, h12, h9⟩ := bind_okk h9
 have hq : ∃ l, q = node o_query [b, node k_order l] ∧ (l = [] → z = z9 ∧ o = false) := by
  cases o with
  | false => cases h9; exact ⟨[], rfl, fun _ => ⟨rfl, rfl⟩⟩
  | true =>
   obtain ⟨l, z10, h13, h9⟩ := bind_okk h9
   cases h9
   exact ⟨l, rfl, fun hl => by have := listOf_long h13; rw [hl] at this; simp at this⟩
 obtain ⟨l, rfl, hl⟩ := hq
 have hbop : opOf b = k_select := by
  obtain ⟨op, s, k, cs⟩ := b
  unfold condOf node at hc
  split at hc
  · rename_i heq
    simp only [Nd.mk.injEq, List.cons.injEq] at heq
    split at hc
    · rename_i hb
      simp only [Bool.and_eq_true, beq_iff_eq] at hb
      show op = _
      rw [heq.2.2.2.1.1]
      exact hb.2
    · cases hc
  · cases hc
 have hb1 : b = b1 ∧ z2 = z3 := by
  rcases setsMore_op (by decide) _ _ _ _ _ h8 with h | h
  · exact h
  · rw [hbop] at h; exact absurd h (by decide)
 obtain ⟨rfl, rfl⟩ := hb1
 have hb0 := setsMore_op (by decide) _ _ _ _ _ h7
 rcases hb0 with ⟨rfl, rfl⟩ | hb0
 · refine ⟨z5, ?_, fun hal => ?_⟩
   · rw [h5]
     have : x = e := (Option.some.inj hc).symm
     rw [this]
   · have hal : (gr.isEmpty && hv.isEmpty && l.isEmpty) = true := hal
     simp only [Bool.and_eq_true, List.isEmpty_iff] at hal
     obtain ⟨⟨rfl, rfl⟩, hle⟩ := hal
     obtain ⟨rfl, ho⟩ := hl hle
     subst ho
     have e1 := take_false h12
     unfold optGroup at h10
     obtain ⟨g, z11, h13, h10⟩ := bind_okk h10
     unfold optPart at h11
     obtain ⟨v, z12, h14, h11⟩ := bind_okk h11
     cases g with
     | true => have := listOf_long h10; simp at this
     | false =>
      cases h10
      have e2 := take_false h13
      cases v with
      | true =>
       obtain ⟨e', z13, _, h11⟩ := bind_okk h11
       cases h11
      | false =>
       cases h11
       have e3 := take_false h14
       omega
 · rw [hbop] at hb0; exact absurd hb0 (by decide)
end Go.AM.Ps
namespace Go.AM.Ps
open Go.Proofs W
theorem mid_done {t : List Tk} {r : Rs Nd} {q : Nd} (h : parseMid t r = (q, sDone)) : ∃ z, r = .ok q z ∧ (t[z]? = none ∨ sees t z g_semi = true) := by
 cases r with
 | fuel => exact absurd (show ([] : List UInt8) = sDone from congrArg Prod.snd h) (by decide)
 | wrong => exact absurd (show sSyntax = sDone from congrArg Prod.snd h) (by decide)
 | ok a z =>
  have h : parseEnd t a z = (q, sDone) := h
  unfold parseEnd at h
  cases hb : sees t z g_semi with
  | true =>
   rw [hb] at h
   simp only at h
   cases h1 : decide (z + 1 < t.length) with
   | true => rw [h1] at h; exact absurd (show sSyntax = sDone from congrArg Prod.snd h) (by decide)
   | false =>
    rw [h1] at h
    cases h2 : decide (depth a > 24) with
    | true => rw [h2] at h; exact absurd (show sComplex = sDone from congrArg Prod.snd h) (by decide)
    | false => rw [h2] at h; cases h; exact ⟨z, rfl, .inr hb⟩
  | false =>
   rw [hb] at h
   simp only at h
   cases h1 : decide (z < t.length) with
   | true => rw [h1] at h; exact absurd (show sSyntax = sDone from congrArg Prod.snd h) (by decide)
   | false =>
    rw [h1] at h
    have h1 := of_decide_eq_false h1
    cases h2 : decide (depth a > 24) with
    | true => rw [h2] at h; exact absurd (show sComplex = sDone from congrArg Prod.snd h) (by decide)
    | false => rw [h2] at h; cases h; exact ⟨z, rfl, .inl (List.getElem?_eq_none (by omega))⟩
theorem within_tokens {ta tb : List Tk} {m : Nat} {qa qb x y : Nd} (ha : Whr ta) (hb : Whr tb) (h : Sm ta tb 5 1 true) (h5 : 5 ≤ ta.length) (h6 : ta.length ≤ 600) (hm : 20000 ≤ m) (hm2 : m ≤ 900000000) (hlen : tb.length = ta.length + 2) (hpar : sees tb 5 g_par = true)
  (hqa : parseMid ta (statement reservedB ta (m + 13) 0) = (qa, sDone)) (hqb : parseMid tb (statement reservedB tb (m + 13) 0) = (qb, sDone)) (hca : condOf qa = some x) (hal : alone qa = true) (hcb : condOf qb = some y) :
  y = x ∧ expr reservedB tb (m + 10) 5 = .ok y tb.length := by
 obtain ⟨z, hsa, hea⟩ := mid_done hqa
 obtain ⟨z', hsb, heb⟩ := mid_done hqb
 obtain ⟨z1, hxa, hz1⟩ := where_expr ha hsa hca
 obtain ⟨z2, hxb, _⟩ := where_expr hb hsb hcb
 obtain rfl := hz1 hal
 obtain ⟨K, rfl⟩ : ∃ K, m = K + 7 := ⟨m - 7, by omega⟩
 have := paren (K := K) h h5 (by omega) (by omega) hlen hpar hxa hea hxb
 exact ⟨this.1, by rw [← this.2]; exact hxb⟩
theorem within_again {tb tc : List Tk} {m : Nat} {qc y z : Nd} (hc : Whr tc) (h : Sm tb tc 5 1 true) (h5 : 5 ≤ tb.length) (h6 : tb.length ≤ 600) (hm : 20000 ≤ m) (hm2 : m ≤ 900000000) (hlen : tc.length = tb.length + 2) (hpar : sees tc 5 g_par = true)
  (hb : expr reservedB tb (m + 10) 5 = .ok y tb.length) (hqc : parseMid tc (statement reservedB tc (m + 13) 0) = (qc, sDone)) (hcc : condOf qc = some z) : z = y := by
 obtain ⟨z', hsc, hec⟩ := mid_done hqc
 obtain ⟨z2, hxc, _⟩ := where_expr hc hsc hcc
 obtain ⟨K, rfl⟩ : ∃ K, m = K + 7 := ⟨m - 7, by omega⟩
 exact (paren (K := K) h h5 (by omega) (by omega) hlen hpar hb (.inl (List.getElem?_eq_none (Nat.le_refl _))) hxc).1
end Go.AM.Ps
