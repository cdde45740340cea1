/- Token lists that are alike are parsed alike. -/
import Derived.Test.YteomefghofhkiaaGreatDoorWnM
import Derived.Test.YteomefghofhkiaaGreatDoorWnN
set_option linter.unusedVariables false
set_option linter.unusedSimpArgs false
set_option maxHeartbeats 8000000
namespace Go.AM.Ps
open W
structure Sm (t1 t2 : List Tk) (lo d : Nat) (sh : Bool) : Prop where
 at_ : ∀ z x, lo ≤ z → t1[z]? = some x → ∃ y, t2[z + d]? = some y ∧ y.k = x.k ∧ y.t = x.t ∧ y.n = x.n
 tail : ∀ z, t1[z]? = none → t2[z + d]? = none ∨ ∃ y, t2[z + d]? = some y ∧ y.k = 3 ∧ (y.t = g_semi ∨ (sh = true ∧ y.t = g_rap))
def Sim {α : Type} (lo d : Nat) (sh : Bool) (r1 r2 : Rs α) : Prop :=
 match r1 with
 | .fuel => True
 | .wrong => sh = false → r2 = .wrong
 | .ok a z => lo ≤ z ∧ r2 = .ok a (z + d)
def Plain (s : List UInt8) : Prop := s ≠ g_semi ∧ s ≠ g_rap
instance (s : List UInt8) : Decidable (Plain s) := by unfold Plain; infer_instance
theorem Sim.bind {α β : Type} {lo d : Nat} {sh : Bool} {r1 r2 : Rs α} {f g : α → Nat → Rs β} (h : Sim lo d sh r1 r2) (hf : ∀ a z, lo ≤ z → Sim lo d sh (f a z) (g a (z + d))) : Sim lo d sh (r1.bind f) (r2.bind g) := by
 cases r1 with
 | fuel => trivial
 | wrong =>
  intro hs
  have h : r2 = .wrong := h hs
  rw [h]; rfl
 | ok a z =>
  obtain ⟨h1, h2⟩ := h
  rw [h2]
  exact hf a z h1
theorem Sim.okk {α : Type} {lo d : Nat} {sh : Bool} {a : α} {z z2 : Nat} (h1 : lo ≤ z) (h2 : z2 = z + d) : Sim lo d sh (.ok a z) (.ok a z2) := ⟨h1, by rw [h2]⟩
theorem Sim.wrongs {α : Type} {lo d : Nat} {sh : Bool} : Sim lo d sh (.wrong : Rs α) .wrong := fun _ => rfl
section
variable {t1 t2 : List Tk} {lo d : Nat} {sh : Bool}
theorem Sm.sees (h : Sm t1 t2 lo d sh) {z : Nat} (hz : lo ≤ z) {s : List UInt8} (hs : Plain s) : Ps.sees t2 (z + d) s = Ps.sees t1 z s := by
 unfold Ps.sees
 cases hx : t1[z]? with
 | some x =>
  obtain ⟨y, h1, h2, h3, _⟩ := h.at_ z x hz hx
  rw [h1]
  simp only [h2, h3]
 | none =>
  rcases h.tail z hx with h1 | ⟨y, h1, _, h2⟩
  · rw [h1]
  · rw [h1]
    have : (y.t == s) = false := by
     rw [beq_eq_false_iff_ne]
     rcases h2 with h2 | ⟨_, h2⟩
     · rw [h2]; exact Ne.symm hs.1
     · rw [h2]; exact Ne.symm hs.2
    simp only [this, Bool.and_false]
theorem Sm.seesR (h : Sm t1 t2 lo d sh) {z : Nat} (hz : lo ≤ z) (hs : sh = false) : Ps.sees t2 (z + d) g_rap = Ps.sees t1 z g_rap := by
 unfold Ps.sees
 cases hx : t1[z]? with
 | some x =>
  obtain ⟨y, h1, h2, h3, _⟩ := h.at_ z x hz hx
  rw [h1]
  simp only [h2, h3]
 | none =>
  rcases h.tail z hx with h1 | ⟨y, h1, _, h2⟩
  · rw [h1]
  · rw [h1]
    rcases h2 with h2 | ⟨h2, _⟩
    · simp only [h2]; rw [show (g_semi == g_rap) = false from rfl, Bool.and_false]
    · rw [hs] at h2; cases h2
theorem Sm.seesR1 (h : Sm t1 t2 lo d sh) {z : Nat} (hz : lo ≤ z) (hs : Ps.sees t1 z g_rap = true) : Ps.sees t2 (z + d) g_rap = true := by
 unfold Ps.sees at hs ⊢
 cases hx : t1[z]? with
 | some x =>
  rw [hx] at hs
  obtain ⟨y, h1, h2, h3, _⟩ := h.at_ z x hz hx
  rw [h1]
  simp only [h2, h3]
  exact hs
 | none => rw [hx] at hs; cases hs
theorem Sm.isKind (h : Sm t1 t2 lo d sh) {z : Nat} (hz : lo ≤ z) {k : Int} (hk : k ≠ 3) : Ps.isKind t2 k (z + d) = Ps.isKind t1 k z := by
 unfold Ps.isKind
 cases hx : t1[z]? with
 | some x =>
  obtain ⟨y, h1, h2, h3, _⟩ := h.at_ z x hz hx
  rw [h1]
  simp only [h2]
 | none =>
  rcases h.tail z hx with h1 | ⟨y, h1, h2, _⟩
  · rw [h1]
  · rw [h1]
    simp only [h2]
    exact beq_eq_false_iff_ne.2 (Ne.symm hk)
theorem Sm.isName (h : Sm t1 t2 lo d sh) {z : Nat} (hz : lo ≤ z) : Ps.isName reservedB t2 (z + d) = Ps.isName reservedB t1 z := by
 unfold Ps.isName
 cases hx : t1[z]? with
 | some x =>
  obtain ⟨y, h1, h2, h3, _⟩ := h.at_ z x hz hx
  rw [h1]
  simp only [h2, h3]
 | none =>
  rcases h.tail z hx with h1 | ⟨y, h1, h2, _⟩
  · rw [h1]
  · rw [h1]
    simp only [h2]
    rfl
theorem Sm.textAt (h : Sm t1 t2 lo d sh) {z : Nat} (hz : lo ≤ z) (hx : ∃ x, t1[z]? = some x) : Ps.textAt t2 (z + d) = Ps.textAt t1 z := by
 obtain ⟨x, hx⟩ := hx
 obtain ⟨y, h1, h2, h3, h4⟩ := h.at_ z x hz hx
 unfold Ps.textAt
 rw [hx, h1]
 exact h3
theorem Sm.numAt (h : Sm t1 t2 lo d sh) {z : Nat} (hz : lo ≤ z) (hx : ∃ x, t1[z]? = some x) : Ps.numAt t2 (z + d) = Ps.numAt t1 z := by
 obtain ⟨x, hx⟩ := hx
 obtain ⟨y, h1, h2, h3, h4⟩ := h.at_ z x hz hx
 unfold Ps.numAt
 rw [hx, h1]
 exact h4
theorem isName_some {t : List Tk} {z : Nat} (h : isName reservedB t z = true) : ∃ x, t[z]? = some x := by
 unfold Ps.isName at h
 cases hx : t[z]? with
 | some x => exact ⟨x, rfl⟩
 | none => rw [hx] at h; cases h
theorem isKind_some {t : List Tk} {z : Nat} {k : Int} (h : isKind t k z = true) : ∃ x, t[z]? = some x := by
 unfold Ps.isKind at h
 cases hx : t[z]? with
 | some x => exact ⟨x, rfl⟩
 | none => rw [hx] at h; cases h
theorem Sm.opens (h : Sm t1 t2 lo d sh) : ∀ (n m z : Nat), lo ≤ z → t1.length - z ≤ n → t2.length - (z + d) ≤ m → opens t2 m (z + d) = opens t1 n z := by
 intro n
 induction n with
 | zero =>
  intro m z hz hn hm
  have hs : Ps.sees t2 (z + d) g_par = false := by
   rw [h.sees hz (by decide)]
   unfold Ps.sees
   rw [List.getElem?_eq_none (by omega)]
  cases m with
  | zero => rfl
  | succ m => unfold Ps.opens; rw [hs]
 | succ n ih =>
  intro m z hz hn hm
  have hs := h.sees hz (s := g_par) (by decide)
  conv => rhs; unfold Ps.opens
  cases hb : Ps.sees t1 z g_par with
  | false =>
   rw [hb] at hs
   cases m with
   | zero => rfl
   | succ m => unfold Ps.opens; rw [hs]
  | true =>
   rw [hb] at hs
   have hlt := sees_lt hs
   have hlt1 := sees_lt hb
   cases m with
   | zero => omega
   | succ m =>
    have e : Ps.opens t2 (m + 1) (z + d) = Ps.opens t2 m (z + d + 1) + 1 := by
     conv => lhs; unfold Ps.opens
     rw [hs]
    rw [e, show z + d + 1 = z + 1 + d by omega, ih m (z + 1) (by omega) (by omega) (by omega)]
theorem Sm.opensBody (h : Sm t1 t2 lo d sh) {z : Nat} (hz : lo ≤ z) : Ps.opensBody t2 (z + d) = Ps.opensBody t1 z := by
 unfold Ps.opensBody
 rw [h.opens t1.length t2.length z hz (by omega) (by omega), show z + d + Ps.opens t1 t1.length z = z + Ps.opens t1 t1.length z + d by omega, h.sees (by omega) (by decide)]
theorem Sm.need (h : Sm t1 t2 lo d sh) {z : Nat} (hz : lo ≤ z) {s : List UInt8} (hs : Plain s) : Sim lo d sh (Ps.need t1 s z) (Ps.need t2 s (z + d)) := by
 unfold Ps.need
 rw [h.sees hz hs]
 cases Ps.sees t1 z s
 · exact .wrongs
 · exact .okk (by omega) (by omega)
theorem Sm.needR (h : Sm t1 t2 lo d sh) {z : Nat} (hz : lo ≤ z) : Sim lo d sh (Ps.need t1 g_rap z) (Ps.need t2 g_rap (z + d)) := by
 unfold Ps.need
 cases hb : Ps.sees t1 z g_rap
 · intro hs
   rw [h.seesR hz hs, hb]
 · rw [h.seesR1 hz hb]
   exact .okk (by omega) (by omega)
theorem Sm.needs (h : Sm t1 t2 lo d sh) : ∀ (l : List (List UInt8)) {z : Nat}, lo ≤ z → (∀ s ∈ l, Plain s) → Sim lo d sh (Ps.needs t1 l z) (Ps.needs t2 l (z + d))
 | [], z, hz, _ => .okk hz rfl
 | s :: l, z, hz, hl => (h.need hz (hl s (by simp))).bind fun _ z hz => h.needs l hz fun s hs => hl s (by simp [hs])
theorem Sm.take (h : Sm t1 t2 lo d sh) {z : Nat} (hz : lo ≤ z) {s : List UInt8} {l : List (List UInt8)} (hs : Plain s) (hl : ∀ s ∈ l, Plain s) : Sim lo d sh (Ps.take t1 s l z) (Ps.take t2 s l (z + d)) := by
 unfold Ps.take
 rw [h.sees hz hs]
 cases Ps.sees t1 z s
 · exact .okk hz rfl
 · have := (h.needs l (z := z + 1) (by omega) hl).bind (f := fun _ z => Rs.ok true z) (g := fun _ z => Rs.ok true z) fun _ z hz => .okk hz rfl
   rw [show z + 1 + d = z + d + 1 by omega] at this
   exact this
theorem Sm.one (h : Sm t1 t2 lo d sh) : ∀ (l : List (List UInt8)) {z : Nat}, lo ≤ z → (∀ s ∈ l, Plain s) → Sim lo d sh (Ps.one t1 l z) (Ps.one t2 l (z + d))
 | [], z, hz, _ => .okk hz rfl
 | s :: l, z, hz, hl => by
  unfold Ps.one
  rw [h.sees hz (hl s (by simp))]
  cases Ps.sees t1 z s
  · exact h.one l hz fun s hs => hl s (by simp [hs])
  · exact .okk (by omega) (by omega)
theorem Sm.name (h : Sm t1 t2 lo d sh) {z : Nat} (hz : lo ≤ z) : Sim lo d sh (Ps.name reservedB t1 z) (Ps.name reservedB t2 (z + d)) := by
 unfold Ps.name
 rw [h.isName hz]
 cases hb : Ps.isName reservedB t1 z
 · exact .wrongs
 · rw [h.textAt hz (isName_some hb)]
   exact .okk (by omega) (by omega)
theorem Sm.number (h : Sm t1 t2 lo d sh) {z : Nat} (hz : lo ≤ z) : Sim lo d sh (Ps.number t1 z) (Ps.number t2 (z + d)) := by
 unfold Ps.number
 rw [h.isKind hz (by decide)]
 cases hb : Ps.isKind t1 1 z
 · exact .wrongs
 · rw [h.numAt hz (isKind_some hb)]
   exact .okk (by omega) (by omega)
theorem Sm.within (h : Sm t1 t2 lo d sh) {α : Type} {p1 p2 : Nat → Rs α} (hp : ∀ z, lo ≤ z → Sim lo d sh (p1 z) (p2 (z + d))) {z : Nat} (hz : lo ≤ z) : Sim lo d sh (Ps.within t1 p1 z) (Ps.within t2 p2 (z + d)) := by
 unfold Ps.within
 exact (h.need hz (by decide)).bind fun _ z hz => (hp z hz).bind fun a z hz => (h.needR hz).bind fun _ z hz => .okk hz rfl
theorem Sm.listMore (h : Sm t1 t2 lo d sh) {α : Type} {p1 p2 : Nat → Rs α} (hp : ∀ z, lo ≤ z → Sim lo d sh (p1 z) (p2 (z + d))) : ∀ (n m : Nat) (acc : List α) (z : Nat), n ≤ m → lo ≤ z → Sim lo d sh (Ps.listMore t1 p1 n acc z) (Ps.listMore t2 p2 m acc (z + d)) := by
 intro n
 induction n with
 | zero => intro m acc z _ _; trivial
 | succ n ih =>
  intro m acc z hm hz
  obtain ⟨m, rfl⟩ : ∃ k, m = k + 1 := ⟨m - 1, by omega⟩
  unfold Ps.listMore
  rw [h.sees hz (by decide)]
  cases Ps.sees t1 z g_comma
  · exact .okk hz rfl
  · have := (hp (z + 1) (by omega)).bind fun a z hz => ih m (acc ++ [a]) z (by omega) hz
    rw [show z + 1 + d = z + d + 1 by omega] at this
    exact this
theorem Sm.listOf (h : Sm t1 t2 lo d sh) {α : Type} {p1 p2 : Nat → Rs α} (hp : ∀ z, lo ≤ z → Sim lo d sh (p1 z) (p2 (z + d))) {n m : Nat} (hm : n ≤ m) {z : Nat} (hz : lo ≤ z) : Sim lo d sh (Ps.listOf t1 n p1 z) (Ps.listOf t2 m p2 (z + d)) := by
 unfold Ps.listOf
 exact (hp z hz).bind fun a z hz => h.listMore hp n m [a] z hm hz
theorem Sm.setsMore (h : Sm t1 t2 lo d sh) {p1 p2 : Nat → Rs Nd} (hp : ∀ z, lo ≤ z → Sim lo d sh (p1 z) (p2 (z + d))) {ws : List (List UInt8)} (hw : ∀ s ∈ ws, Plain s) : ∀ (n m : Nat) (a : Nd) (z : Nat), n ≤ m → lo ≤ z → Sim lo d sh (Ps.setsMore t1 p1 ws n a z) (Ps.setsMore t2 p2 ws m a (z + d)) := by
 intro n
 induction n with
 | zero => intro m a z _ _; trivial
 | succ n ih =>
  intro m a z hm hz
  obtain ⟨m, rfl⟩ : ∃ k, m = k + 1 := ⟨m - 1, by omega⟩
  unfold Ps.setsMore
  refine (h.one ws hz hw).bind fun op z hz => ?_
  cases (op == [])
  · exact (h.take hz (by decide) (by decide)).bind fun al z hz => (hp z hz).bind fun b z hz => ih m _ z (by omega) hz
  · exact .okk hz rfl
theorem Sm.setsOf (h : Sm t1 t2 lo d sh) {p1 p2 : Nat → Rs Nd} (hp : ∀ z, lo ≤ z → Sim lo d sh (p1 z) (p2 (z + d))) {ws : List (List UInt8)} (hw : ∀ s ∈ ws, Plain s) {n m : Nat} (hm : n ≤ m) {z : Nat} (hz : lo ≤ z) : Sim lo d sh (Ps.setsOf t1 n p1 ws z) (Ps.setsOf t2 m p2 ws (z + d)) := by
 unfold Ps.setsOf
 exact (hp z hz).bind fun a z hz => h.setsMore hp hw n m a z hm hz
theorem Sm.aName (h : Sm t1 t2 lo d sh) {z : Nat} (hz : lo ≤ z) : Sim lo d sh (Ps.aName reservedB t1 z) (Ps.aName reservedB t2 (z + d)) := by
 unfold Ps.aName
 exact (h.name hz).bind fun s z hz => .okk hz rfl
theorem Sm.names (h : Sm t1 t2 lo d sh) {n m : Nat} (hm : n ≤ m) {z : Nat} (hz : lo ≤ z) : Sim lo d sh (Ps.names reservedB t1 n z) (Ps.names reservedB t2 m (z + d)) := by
 unfold Ps.names
 exact h.within (fun z hz => h.listOf (fun z hz => h.aName hz) hm hz) hz
theorem Sm.column (h : Sm t1 t2 lo d sh) {z : Nat} (hz : lo ≤ z) : Sim lo d sh (Ps.column reservedB t1 z) (Ps.column reservedB t2 (z + d)) := by
 unfold Ps.column
 refine (h.name hz).bind fun s z hz => (h.take hz (by decide) (by decide)).bind fun b z hz => ?_
 cases b
 · exact .okk hz rfl
 · exact (h.name hz).bind fun c z hz => .okk hz rfl
theorem Sm.typed (h : Sm t1 t2 lo d sh) {z : Nat} (hz : lo ≤ z) : Sim lo d sh (Ps.typed t1 z) (Ps.typed t2 (z + d)) := by
 unfold Ps.typed
 refine (h.one _ hz (by decide)).bind fun s z hz => ?_
 have hw := h.within (fun z hz => h.number hz) hz
 have hs := h.sees hz (s := g_par) (by decide)
 generalize (s == []) = b0
 generalize (s == k_int) = b1
 generalize (s == k_char || s == k_character) = b2
 generalize (s == k_varchar) = b3
 cases b0
 · cases b1
   · cases b2
     · cases b3
       · exact .okk hz rfl
       · exact hw.bind fun n z hz => .okk hz rfl
     · show Sim lo d sh (match Ps.sees t1 z g_par with
        | true => (Ps.within t1 (Ps.number t1) z).bind fun n z => .ok (Nd.mk o_type k_char n []) z
        | false => .ok (Nd.mk o_type k_char 1 []) z) (match Ps.sees t2 (z + d) g_par with
        | true => (Ps.within t2 (Ps.number t2) (z + d)).bind fun n z => .ok (Nd.mk o_type k_char n []) z
        | false => .ok (Nd.mk o_type k_char 1 []) (z + d))
       rw [hs]
       cases Ps.sees t1 z g_par
       · exact .okk hz rfl
       · exact hw.bind fun n z hz => .okk hz rfl
   · exact .okk hz rfl
 · exact .wrongs
theorem Sm.alias (h : Sm t1 t2 lo d sh) {s : List UInt8} {z : Nat} (hz : lo ≤ z) : Sim lo d sh (Ps.alias reservedB t1 s z) (Ps.alias reservedB t2 s (z + d)) := by
 unfold Ps.alias
 refine (h.take hz (by decide) (by decide)).bind fun q z hz => ?_
 rw [h.isName hz]
 cases (q || Ps.isName reservedB t1 z)
 · exact .okk hz rfl
 · exact h.name hz
theorem Sm.optPart (h : Sm t1 t2 lo d sh) {p1 p2 : Nat → Rs Nd} (hp : ∀ z, lo ≤ z → Sim lo d sh (p1 z) (p2 (z + d))) {w : List UInt8} (hw : Plain w) {z : Nat} (hz : lo ≤ z) : Sim lo d sh (Ps.optPart t1 w p1 z) (Ps.optPart t2 w p2 (z + d)) := by
 unfold Ps.optPart
 refine (h.take hz hw (by decide)).bind fun b z hz => ?_
 cases b
 · exact .okk hz rfl
 · exact (hp z hz).bind fun a z hz => .okk hz rfl
theorem Sm.optGroup (h : Sm t1 t2 lo d sh) {n m : Nat} (hm : n ≤ m) {z : Nat} (hz : lo ≤ z) : Sim lo d sh (Ps.optGroup reservedB t1 n z) (Ps.optGroup reservedB t2 m (z + d)) := by
 unfold Ps.optGroup
 refine (h.take hz (by decide) (by decide)).bind fun b z hz => ?_
 cases b
 · exact .okk hz rfl
 · exact h.listOf (fun z hz => h.column hz) hm hz
theorem Sm.casesMore (h : Sm t1 t2 lo d sh) {p1 p2 : Nat → Rs Nd} (hp : ∀ z, lo ≤ z → Sim lo d sh (p1 z) (p2 (z + d))) (of : Option Nd) : ∀ (n m : Nat) (fst : Bool) (l : List Nd) (z : Nat), n ≤ m → lo ≤ z → Sim lo d sh (Ps.casesMore t1 p1 n of fst l z) (Ps.casesMore t2 p2 m of fst l (z + d)) := by
 intro n
 induction n with
 | zero => intro m fst l z _ _; trivial
 | succ n ih =>
  intro m fst l z hm hz
  obtain ⟨m, rfl⟩ : ∃ k, m = k + 1 := ⟨m - 1, by omega⟩
  unfold Ps.casesMore
  rw [h.sees hz (by decide)]
  cases (fst || Ps.sees t1 z k_when)
  · exact .okk hz rfl
  · exact (h.need hz (by decide)).bind fun _ z hz => (hp z hz).bind fun c z hz => (h.need hz (by decide)).bind fun _ z hz => (hp z hz).bind fun e z hz => ih m false _ z (by omega) hz
theorem Sm.casesEnd (h : Sm t1 t2 lo d sh) {p1 p2 : Nat → Rs Nd} (hp : ∀ z, lo ≤ z → Sim lo d sh (p1 z) (p2 (z + d))) {l : List Nd} {z : Nat} (hz : lo ≤ z) : Sim lo d sh (Ps.casesEnd t1 p1 l z) (Ps.casesEnd t2 p2 l (z + d)) := by
 unfold Ps.casesEnd
 refine (h.take hz (by decide) (by decide)).bind fun b z hz => ?_
 cases b
 · exact (h.need hz (by decide)).bind fun _ z hz => .okk hz rfl
 · exact (hp z hz).bind fun e z hz => (h.need hz (by decide)).bind fun _ z hz => .okk hz rfl
theorem Sm.tableMore (h : Sm t1 t2 lo d sh) {j1 j2 p1 p2 : Nat → Rs Nd} (hj : ∀ z, lo ≤ z → Sim lo d sh (j1 z) (j2 (z + d))) (hp : ∀ z, lo ≤ z → Sim lo d sh (p1 z) (p2 (z + d))) : ∀ (n m : Nat) (a : Nd) (z : Nat), n ≤ m → lo ≤ z → Sim lo d sh (Ps.tableMore t1 j1 p1 n a z) (Ps.tableMore t2 j2 p2 m a (z + d)) := by
 intro n
 induction n with
 | zero => intro m a z _ _; trivial
 | succ n ih =>
  intro m a z hm hz
  obtain ⟨m, rfl⟩ : ∃ k, m = k + 1 := ⟨m - 1, by omega⟩
  unfold Ps.tableMore
  refine (h.one _ hz (by decide)).bind fun op z hz => ?_
  have tail : ∀ op' z, lo ≤ z → Sim lo d sh ((j1 z).bind fun b z => (Ps.need t1 k_on z).bind fun _ z => (p1 z).bind fun e z => Ps.tableMore t1 j1 p1 n (node op' [a, b, e]) z) ((j2 (z + d)).bind fun b z => (Ps.need t2 k_on z).bind fun _ z => (p2 z).bind fun e z => Ps.tableMore t2 j2 p2 m (node op' [a, b, e]) z) := fun op' z hz =>
   (hj z hz).bind fun b z hz => (h.need hz (by decide)).bind fun _ z hz => (hp z hz).bind fun e z hz => ih m _ z (by omega) hz
  generalize (op == []) = b0
  generalize (op == k_cross) = b1
  generalize (op == k_join) = b2
  generalize (op == k_inner) = b3
  cases b0
  · cases b1
    · cases b2
      · cases b3
        · exact (h.take hz (by decide) (by decide)).bind fun _ z hz => (h.need hz (by decide)).bind fun _ z hz => tail op z hz
        · exact (h.need hz (by decide)).bind fun _ z hz => tail op z hz
      · exact tail k_inner z hz
    · exact (h.need hz (by decide)).bind fun _ z hz => (hj z hz).bind fun b z hz => ih m _ z (by omega) hz
  · exact .okk hz rfl
end
end Go.AM.Ps
namespace Go.AM.Ps
open W
structure Sims (t1 t2 : List Tk) (lo d : Nat) (sh : Bool) (n m : Nat) : Prop where
 expr : ∀ z, lo ≤ z → Sim lo d sh (expr reservedB t1 n z) (expr reservedB t2 m (z + d))
 exprs : ∀ z, lo ≤ z → Sim lo d sh (exprs reservedB t1 n z) (exprs reservedB t2 m (z + d))
 binds : ∀ L z, lo ≤ z → Sim lo d sh (binds reservedB t1 n L z) (binds reservedB t2 m L (z + d))
 bindsMore : ∀ L a z, lo ≤ z → Sim lo d sh (bindsMore reservedB t1 n L a z) (bindsMore reservedB t2 m L a (z + d))
 first : ∀ L z, lo ≤ z → Sim lo d sh (first reservedB t1 n L z) (first reservedB t2 m L (z + d))
 test : ∀ z, lo ≤ z → Sim lo d sh (test reservedB t1 n z) (test reservedB t2 m (z + d))
 primary : ∀ z, lo ≤ z → Sim lo d sh (primary reservedB t1 n z) (primary reservedB t2 m (z + d))
 primCast : ∀ z, lo ≤ z → Sim lo d sh (primCast reservedB t1 n z) (primCast reservedB t2 m (z + d))
 primNullif : ∀ z, lo ≤ z → Sim lo d sh (primNullif reservedB t1 n z) (primNullif reservedB t2 m (z + d))
 primTotal : ∀ w z, lo ≤ z → Sim lo d sh (primTotal reservedB t1 n w z) (primTotal reservedB t2 m w (z + d))
 cases : ∀ z, lo ≤ z → Sim lo d sh (cases reservedB t1 n z) (cases reservedB t2 m (z + d))
 body : ∀ z, lo ≤ z → Sim lo d sh (body reservedB t1 n z) (body reservedB t2 m (z + d))
 term : ∀ z, lo ≤ z → Sim lo d sh (term reservedB t1 n z) (term reservedB t2 m (z + d))
 simple : ∀ z, lo ≤ z → Sim lo d sh (simple reservedB t1 n z) (simple reservedB t2 m (z + d))
 item : ∀ z, lo ≤ z → Sim lo d sh (item reservedB t1 n z) (item reservedB t2 m (z + d))
 table : ∀ z, lo ≤ z → Sim lo d sh (table reservedB t1 n z) (table reservedB t2 m (z + d))
 joined : ∀ z, lo ≤ z → Sim lo d sh (joined reservedB t1 n z) (joined reservedB t2 m (z + d))
theorem sims_all {t1 t2 : List Tk} {lo d : Nat} {sh : Bool} (h : Sm t1 t2 lo d sh) : ∀ n m, n ≤ m → Sims t1 t2 lo d sh n m := by
 intro n
 induction n with
 | zero =>
  intro m _
  constructor <;> intros <;> first | (rw [expr]; trivial) | (rw [exprs]; trivial) | (rw [binds]; trivial) | (rw [bindsMore]; trivial) | (rw [first]; trivial) | (rw [test]; trivial) | (rw [primary]; trivial) | (rw [primCast]; trivial) | (rw [primNullif]; trivial) | (rw [primTotal]; trivial) | (rw [cases]; trivial) | (rw [body]; trivial) | (rw [term]; trivial) | (rw [simple]; trivial) | (rw [item]; trivial) | (rw [table]; trivial) | (rw [joined]; trivial)
 | succ n ih =>
  intro m hm
  obtain ⟨m, rfl⟩ : ∃ k, m = k + 1 := ⟨m - 1, by omega⟩
  have hnm : n ≤ m := by omega
  have E := ih m hnm
  have up : ∀ z, z + d + 1 = z + 1 + d := fun z => by omega
  have hwb : ∀ z, lo ≤ z → Sim lo d sh (within t1 (Ps.body reservedB t1 n) z) (within t2 (Ps.body reservedB t2 m) (z + d)) := fun z hz => h.within E.body hz
  have hwl : ∀ z, lo ≤ z → Sim lo d sh (within t1 (Ps.exprs reservedB t1 n) z) (within t2 (Ps.exprs reservedB t2 m) (z + d)) := fun z hz => h.within E.exprs hz
  exact {
   expr := fun z hz => by
    rw [Ps.expr, Ps.expr]
    exact E.binds 1 z hz
   exprs := fun z hz => by
    rw [Ps.exprs, Ps.exprs]
    exact h.listOf E.expr hnm hz
   binds := fun L z hz => by
    rw [Ps.binds, Ps.binds]
    exact (E.first L z hz).bind fun a z hz => E.bindsMore L a z hz
   bindsMore := fun L a z hz => by
    rw [Ps.bindsMore, Ps.bindsMore]
    cases hx : t1[z]? with
    | none =>
     rcases h.tail z hx with h1 | ⟨y, h1, h2, h3⟩
     · rw [h1]; exact .okk hz rfl
     · rw [h1]
       have hk : (y.k != 2 && y.k != 1) = true := by rw [h2]; rfl
       have hst : strength y.t = 0 := by
        rcases h3 with h3 | ⟨_, h3⟩ <;> (rw [h3]; rfl)
       simp only [hk, hst, beq_self_eq_true, Bool.or_true, Bool.true_or]
       exact .okk hz rfl
    | some x =>
     obtain ⟨y, h1, h2, h3, h4⟩ := h.at_ z x hz hx
     rw [h1]
     simp only [h2, h3]
     cases (x.k != 2 && x.k != 1)
     · exact .okk hz rfl
     · simp only
       cases (decide (strength x.t < L) || strength x.t == 0 || (decide (L ≤ 4) && decide (5 ≤ strength x.t)))
       · rw [up]
         exact (E.binds _ (z + 1) (by omega)).bind fun b z hz => E.bindsMore L _ z hz
       · exact .okk hz rfl
   first := fun L z hz => by
    rw [Ps.first, Ps.first]
    rw [h.sees hz (s := k_not) (by decide), h.sees hz (s := g_minus) (by decide), up]
    cases (decide (L ≤ 3) && Ps.sees t1 z k_not)
    · simp only
      cases (decide (L ≤ 4))
      · simp only
        cases Ps.sees t1 z g_minus
        · exact E.primary z hz
        · exact (E.first 7 (z + 1) (by omega)).bind fun a z hz => .okk hz rfl
      · exact E.test z hz
    · exact (E.first 3 (z + 1) (by omega)).bind fun a z hz => .okk hz rfl
   test := fun z hz => by
    rw [Ps.test, Ps.test]
    refine (E.binds 5 z hz).bind fun a z hz => (h.one _ hz (by decide)).bind fun op z hz => ?_
    cases (op == [])
    · refine (h.one _ hz (by decide)).bind fun q z hz => ?_
      generalize (q == k_all) = b1
      generalize (q == k_any || q == k_some) = b2
      cases b1
      · cases b2
        · exact (E.binds 5 z hz).bind fun b z hz => .okk hz rfl
        · exact (hwb z hz).bind fun b z hz => .okk hz rfl
      · exact (hwb z hz).bind fun b z hz => .okk hz rfl
    · refine (h.take hz (by decide) (by decide)).bind fun is z hz => ?_
      cases is
      · refine (h.take hz (by decide) (by decide)).bind fun no z hz => (h.take hz (by decide) (by decide)).bind fun bt z hz => ?_
        cases bt
        · refine (h.take hz (by decide) (by decide)).bind fun lk z hz => ?_
          cases lk
          · refine (h.take hz (by decide) (by decide)).bind fun i z hz => ?_
            cases i
            · cases no
              · exact .okk hz rfl
              · exact .wrongs
            · simp only
              rw [h.opensBody hz]
              cases Ps.opensBody t1 z
              · exact (hwl z hz).bind fun l z hz => .okk hz rfl
              · exact (hwb z hz).bind fun b z hz => .okk hz rfl
          · exact (E.binds 5 z hz).bind fun b z hz => .okk hz rfl
        · exact (E.binds 5 z hz).bind fun low z hz => (h.need hz (by decide)).bind fun _ z hz => (E.binds 5 z hz).bind fun b z hz => .okk hz rfl
      · refine (h.take hz (by decide) (by decide)).bind fun no z hz => (h.one _ hz (by decide)).bind fun s z hz => ?_
        cases (s == [])
        · exact .okk hz rfl
        · exact .wrongs
   primary := fun z hz => by
    rw [Ps.primary, Ps.primary]
    rw [h.isKind hz (k := 1) (by decide), h.isKind hz (k := 2) (by decide), h.opensBody hz, h.sees hz (s := g_par) (by decide)]
    cases Ps.isKind t1 1 z
    · simp only
      cases hb : Ps.isKind t1 2 z
      · simp only
        cases Ps.opensBody t1 z
        · simp only
          cases Ps.sees t1 z g_par
          · refine (h.one _ hz (by decide)).bind fun op z hz => ?_
            generalize (op == k_true) = b1
            generalize (op == k_false) = b2
            generalize (op == k_null) = b3
            generalize (op == k_exists) = b4
            generalize (op == k_case) = b5
            generalize (op == k_cast) = b6
            generalize (op == k_coalesce) = b7
            generalize (op == k_nullif) = b8
            generalize (op == k_count || op == k_sum || op == k_min || op == k_max) = b9
            cases b1
            · cases b2
              · cases b3
                · cases b4
                  · cases b5
                    · cases b6
                      · cases b7
                        · cases b8
                          · cases b9
                            · exact h.column hz
                            · exact h.within (E.primTotal op) hz
                          · exact h.within E.primNullif hz
                        · exact (hwl z hz).bind fun l z hz => .okk hz rfl
                      · exact h.within E.primCast hz
                    · exact E.cases z hz
                  · exact (hwb z hz).bind fun b z hz => .okk hz rfl
                · exact .okk hz rfl
              · exact .okk hz rfl
            · exact .okk hz rfl
          · exact h.within E.expr hz
        · exact (hwb z hz).bind fun b z hz => .okk hz rfl
      · rw [h.textAt hz (isKind_some hb)]
        exact .okk (by omega) (by omega)
    · exact (h.number hz).bind fun k z hz => .okk hz rfl
   primCast := fun z hz => by
    rw [Ps.primCast, Ps.primCast]
    exact (E.expr z hz).bind fun e z hz => (h.need hz (by decide)).bind fun _ z hz => (h.typed hz).bind fun ty z hz => .okk hz rfl
   primNullif := fun z hz => by
    rw [Ps.primNullif, Ps.primNullif]
    exact (E.expr z hz).bind fun e z hz => (h.need hz (by decide)).bind fun _ z hz => (E.expr z hz).bind fun b z hz => .okk hz rfl
   primTotal := fun w z hz => by
    rw [Ps.primTotal, Ps.primTotal, h.sees hz (s := g_star) (by decide)]
    cases (w == k_count && Ps.sees t1 z g_star)
    · exact (h.one _ hz (by decide)).bind fun q z hz => (E.expr z hz).bind fun e z hz => .okk hz rfl
    · exact .okk (by omega) (by omega)
   cases := fun z hz => by
    rw [Ps.cases, Ps.cases, h.sees hz (s := k_when) (by decide)]
    cases Ps.sees t1 z k_when
    · exact (E.expr z hz).bind fun e z hz => (h.casesMore E.expr (some e) n m true [] z hnm hz).bind fun l z hz => h.casesEnd E.expr hz
    · exact (h.casesMore E.expr none n m true [] z hnm hz).bind fun l z hz => h.casesEnd E.expr hz
   body := fun z hz => by
    rw [Ps.body, Ps.body]
    exact h.setsOf E.term (by decide) hnm hz
   term := fun z hz => by
    rw [Ps.term, Ps.term]
    exact h.setsOf E.simple (by decide) hnm hz
   simple := fun z hz => by
    rw [Ps.simple, Ps.simple, h.sees hz (s := g_par) (by decide)]
    cases Ps.sees t1 z g_par
    · exact (h.need hz (by decide)).bind fun _ z hz => (h.one _ hz (by decide)).bind fun q z hz => (h.listOf E.item hnm hz).bind fun items z hz => (h.need hz (by decide)).bind fun _ z hz =>
       (h.listOf E.table hnm hz).bind fun from_ z hz => (h.optPart E.expr (by decide) hz).bind fun wh z hz => (h.optGroup hnm hz).bind fun gr z hz => (h.optPart E.expr (by decide) hz).bind fun hv z hz => .okk hz rfl
    · exact hwb z hz
   item := fun z hz => by
    rw [Ps.item, Ps.item]
    refine (h.take hz (by decide) (by decide)).bind fun st z hz => ?_
    cases st
    · simp only
      rw [h.isName hz, up, show z + d + 2 = z + 2 + d by omega, h.sees (z := z + 1) (by omega) (s := g_dot) (by decide), h.sees (z := z + 2) (by omega) (s := g_star) (by decide)]
      cases (Ps.isName reservedB t1 z && Ps.sees t1 (z + 1) g_dot && Ps.sees t1 (z + 2) g_star)
      · exact (E.expr z hz).bind fun e z hz => (h.alias hz).bind fun s z hz => .okk hz rfl
      · refine (h.name hz).bind fun s z' hz' => ?_
        exact .okk (by omega) (by omega)
    · exact .okk hz rfl
   table := fun z hz => by
    rw [Ps.table, Ps.table]
    exact (E.joined z hz).bind fun a z hz => h.tableMore E.joined E.expr n m a z hnm hz
   joined := fun z hz => by
    rw [Ps.joined, Ps.joined, h.opensBody hz, h.sees hz (s := g_par) (by decide)]
    cases Ps.opensBody t1 z
    · simp only
      cases Ps.sees t1 z g_par
      · exact (h.name hz).bind fun s z hz => (h.alias hz).bind fun al z hz => .okk hz rfl
      · exact h.within E.table hz
    · exact (hwb z hz).bind fun b z hz => (h.take hz (by decide) (by decide)).bind fun _ z hz => (h.name hz).bind fun s z hz => .okk hz rfl }
end Go.AM.Ps
namespace Go.AM.Ps
open W
section
variable {t1 t2 : List Tk} {lo d : Nat} {sh : Bool}
theorem Sm.keyP (h : Sm t1 t2 lo d sh) {z : Nat} (hz : lo ≤ z) : Sim lo d sh (Ps.keyP reservedB t1 z) (Ps.keyP reservedB t2 (z + d)) := by
 unfold Ps.keyP
 rw [h.isKind hz (by decide)]
 refine Sim.bind (r1 := match Ps.isKind t1 1 z with
  | true => (Ps.number t1 z).bind fun k z => .ok (Nd.mk o_num [] k []) z
  | false => Ps.column reservedB t1 z) ?_ fun e z hz => (h.one _ hz (by decide)).bind fun s z hz => ?_
 · cases Ps.isKind t1 1 z
   · exact h.column hz
   · exact (h.number hz).bind fun k z hz => .okk hz rfl
 · cases (s == [])
   · exact .okk hz rfl
   · exact .okk hz rfl
theorem Sm.query (h : Sm t1 t2 lo d sh) {n m : Nat} (hm : n ≤ m) {z : Nat} (hz : lo ≤ z) : Sim lo d sh (Ps.query reservedB t1 n z) (Ps.query reservedB t2 m (z + d)) := by
 have E := sims_all h n m hm
 unfold Ps.query
 refine (E.body z hz).bind fun b z hz => (h.take hz (by decide) (by decide)).bind fun o z hz => ?_
 cases o
 · exact .okk hz rfl
 · exact (h.listOf (fun z hz => h.keyP hz) hm hz).bind fun l z hz => .okk hz rfl
theorem Sm.whose (h : Sm t1 t2 lo d sh) {n m : Nat} (hm : n ≤ m) {z : Nat} (hz : lo ≤ z) : Sim lo d sh (Ps.whose reservedB t1 n z) (Ps.whose reservedB t2 m (z + d)) := by
 have E := sims_all h n m hm
 unfold Ps.whose
 refine (h.take hz (by decide) (by decide)).bind fun w z hz => ?_
 cases w
 · exact .okk hz rfl
 · refine (h.take hz (by decide) (by decide)).bind fun c z hz => ?_
   cases c
   · exact (E.expr z hz).bind fun e z hz => .okk hz rfl
   · exact (h.name hz).bind fun s z hz => .okk hz rfl
theorem Sm.setE (h : Sm t1 t2 lo d sh) {n m : Nat} (hm : n ≤ m) {z : Nat} (hz : lo ≤ z) : Sim lo d sh (Ps.setE reservedB t1 n z) (Ps.setE reservedB t2 m (z + d)) := by
 have E := sims_all h n m hm
 unfold Ps.setE
 exact (h.name hz).bind fun s z hz => (h.need hz (by decide)).bind fun _ z hz => (E.expr z hz).bind fun e z hz => .okk hz rfl
theorem Sm.rowP (h : Sm t1 t2 lo d sh) {n m : Nat} (hm : n ≤ m) {z : Nat} (hz : lo ≤ z) : Sim lo d sh (Ps.rowP reservedB t1 n z) (Ps.rowP reservedB t2 m (z + d)) := by
 have E := sims_all h n m hm
 unfold Ps.rowP
 exact (h.within E.exprs hz).bind fun l z hz => .okk hz rfl
theorem Sm.insertP (h : Sm t1 t2 lo d sh) {n m : Nat} (hm : n ≤ m) {z : Nat} (hz : lo ≤ z) : Sim lo d sh (Ps.insertP reservedB t1 n z) (Ps.insertP reservedB t2 m (z + d)) := by
 have E := sims_all h n m hm
 unfold Ps.insertP
 refine (h.name hz).bind fun s z hz => Sim.bind (r1 := Ps.insertCols reservedB t1 n z) ?_ fun cols z hz => (h.take hz (by decide) (by decide)).bind fun v z hz => ?_
 · unfold Ps.insertCols
   rw [h.sees hz (s := g_par) (by decide), h.opensBody hz]
   cases (Ps.sees t1 z g_par && !Ps.opensBody t1 z)
   · exact .okk hz rfl
   · exact h.names hm hz
 · cases v
   · exact (E.body z hz).bind fun b z hz => .okk hz rfl
   · exact (h.listOf (fun z hz => h.rowP hm hz) hm hz).bind fun l z hz => .okk hz rfl
theorem Sm.optsMore (h : Sm t1 t2 lo d sh) {n m : Nat} (hm : n ≤ m) : ∀ (k j : Nat) (l : List Nd) (z : Nat), k ≤ j → lo ≤ z → Sim lo d sh (Ps.optsMore reservedB t1 n k l z) (Ps.optsMore reservedB t2 m j l (z + d)) := by
 have E := sims_all h n m hm
 intro k
 induction k with
 | zero => intro j l z _ _; trivial
 | succ k ih =>
  intro j l z hj hz
  obtain ⟨j, rfl⟩ : ∃ i, j = i + 1 := ⟨j - 1, by omega⟩
  unfold Ps.optsMore
  refine (h.take hz (by decide) (by decide)).bind fun a z hz => ?_
  cases a
  · refine (h.take hz (by decide) (by decide)).bind fun a z hz => ?_
    cases a
    · refine (h.take hz (by decide) (by decide)).bind fun a z hz => ?_
      cases a
      · refine (h.take hz (by decide) (by decide)).bind fun a z hz => ?_
        cases a
        · refine (h.take hz (by decide) (by decide)).bind fun a z hz => ?_
          cases a
          · exact .okk hz rfl
          · exact (h.name hz).bind fun s z hz => ih j _ z (by omega) hz
        · exact (h.within E.expr hz).bind fun e z hz => ih j _ z (by omega) hz
      · exact ih j _ z (by omega) hz
    · exact ih j _ z (by omega) hz
  · exact ih j _ z (by omega) hz
theorem Sm.element (h : Sm t1 t2 lo d sh) {n m : Nat} (hm : n ≤ m) {z : Nat} (hz : lo ≤ z) : Sim lo d sh (Ps.element reservedB t1 n z) (Ps.element reservedB t2 m (z + d)) := by
 have E := sims_all h n m hm
 unfold Ps.element
 refine (h.take hz (by decide) (by decide)).bind fun a z hz => ?_
 cases a
 · refine (h.take hz (by decide) (by decide)).bind fun a z hz => ?_
   cases a
   · refine (h.take hz (by decide) (by decide)).bind fun a z hz => ?_
     cases a
     · refine (h.take hz (by decide) (by decide)).bind fun a z hz => ?_
       cases a
       · exact (h.name hz).bind fun s z hz => (h.typed hz).bind fun ty z hz => (h.optsMore hm n m [ty] z hm hz).bind fun l z hz => .okk hz rfl
       · exact (h.names hm hz).bind fun l z hz => (h.need hz (by decide)).bind fun _ z hz => (h.name hz).bind fun s z hz => .okk hz rfl
     · exact (h.within E.expr hz).bind fun e z hz => .okk hz rfl
   · exact (h.names hm hz).bind fun l z hz => .okk hz rfl
 · exact (h.names hm hz).bind fun l z hz => .okk hz rfl
theorem Sm.create (h : Sm t1 t2 lo d sh) {n m : Nat} (hm : n ≤ m) {z : Nat} (hz : lo ≤ z) : Sim lo d sh (Ps.create reservedB t1 n z) (Ps.create reservedB t2 m (z + d)) := by
 unfold Ps.create
 refine (h.take hz (by decide) (by decide)).bind fun a z hz => ?_
 cases a
 · exact (h.take hz (by decide) (by decide)).bind fun u z hz => (h.need hz (by decide)).bind fun _ z hz => (h.name hz).bind fun s z hz => (h.need hz (by decide)).bind fun _ z hz => (h.name hz).bind fun o z hz => (h.names hm hz).bind fun l z hz => .okk hz rfl
 · exact (h.name hz).bind fun s z hz => (h.within (fun z hz => h.listOf (fun z hz => h.element hm hz) hm hz) hz).bind fun l z hz => .okk hz rfl
theorem Sm.level (h : Sm t1 t2 lo d sh) {z : Nat} (hz : lo ≤ z) : Sim lo d sh (Ps.level t1 z) (Ps.level t2 (z + d)) := by
 unfold Ps.level
 refine (h.one _ hz (by decide)).bind fun w z hz => ?_
 generalize (w == k_read) = b1
 generalize (w == k_repeatable) = b2
 generalize (w == k_serializable) = b3
 cases b1
 · cases b2
   · cases b3
     · exact .wrongs
     · exact .okk hz rfl
   · exact (h.need hz (by decide)).bind fun _ z hz => .okk hz rfl
 · refine (h.take hz (by decide) (by decide)).bind fun u z hz => ?_
   cases u
   · exact (h.need hz (by decide)).bind fun _ z hz => .okk hz rfl
   · exact .okk hz rfl
theorem Sm.forP (h : Sm t1 t2 lo d sh) {z : Nat} (hz : lo ≤ z) : Sim lo d sh (Ps.forP t1 z) (Ps.forP t2 (z + d)) := by
 unfold Ps.forP
 refine (h.take hz (by decide) (by decide)).bind fun f z hz => ?_
 cases f
 · exact .okk hz rfl
 · refine (h.one _ hz (by decide)).bind fun w z hz => ?_
   generalize (w == k_read) = b1
   generalize (w == k_update) = b2
   cases b1
   · cases b2
     · exact .wrongs
     · exact .okk hz rfl
   · exact (h.need hz (by decide)).bind fun _ z hz => .okk hz rfl
theorem Sm.declareP (h : Sm t1 t2 lo d sh) {n m : Nat} (hm : n ≤ m) {z : Nat} (hz : lo ≤ z) : Sim lo d sh (Ps.declareP reservedB t1 n z) (Ps.declareP reservedB t2 m (z + d)) := by
 unfold Ps.declareP
 exact (h.name hz).bind fun s z hz => (h.take hz (by decide) (by decide)).bind fun sc z hz => (h.need hz (by decide)).bind fun _ z hz => (h.need hz (by decide)).bind fun _ z hz => (h.query hm hz).bind fun q z hz => (h.forP hz).bind fun f z hz => .okk hz rfl
theorem Sm.way (h : Sm t1 t2 lo d sh) {z : Nat} (hz : lo ≤ z) : Sim lo d sh (Ps.way t1 z) (Ps.way t2 (z + d)) := by
 unfold Ps.way
 refine (h.one _ hz (by decide)).bind fun op z hz => ?_
 generalize (op == []) = b1
 generalize (op == k_absolute || op == k_relative) = b2
 cases b1
 · cases b2
   · exact .okk hz rfl
   · exact (h.take hz (by decide) (by decide)).bind fun m z hz => (h.number hz).bind fun k z hz => .okk hz rfl
 · exact .okk hz rfl
theorem Sm.updateP (h : Sm t1 t2 lo d sh) {n m : Nat} (hm : n ≤ m) {z : Nat} (hz : lo ≤ z) : Sim lo d sh (Ps.updateP reservedB t1 n z) (Ps.updateP reservedB t2 m (z + d)) := by
 unfold Ps.updateP
 exact (h.name hz).bind fun s z hz => (h.need hz (by decide)).bind fun _ z hz => (h.listOf (fun z hz => h.setE hm hz) hm hz).bind fun l z hz => (h.whose hm hz).bind fun w z hz => .okk hz rfl
theorem Sm.statement (h : Sm t1 t2 lo d sh) {n m : Nat} (hm : n ≤ m) {z : Nat} (hz : lo ≤ z) : Sim lo d sh (Ps.statement reservedB t1 n z) (Ps.statement reservedB t2 m (z + d)) := by
 unfold Ps.statement
 rw [h.sees hz (s := g_par) (by decide), h.sees hz (s := k_select) (by decide)]
 have tk : ∀ {s : List UInt8} {l : List (List UInt8)} {f1 f2 g1 g2 : Nat → Rs Nd} {z : Nat}, Plain s → (∀ s ∈ l, Plain s) → lo ≤ z → (∀ z, lo ≤ z → Sim lo d sh (f1 z) (f2 (z + d))) → (∀ z, lo ≤ z → Sim lo d sh (g1 z) (g2 (z + d))) →
   Sim lo d sh ((Ps.take t1 s l z).bind fun a z => match a with | true => f1 z | false => g1 z) ((Ps.take t2 s l (z + d)).bind fun a z => match a with | true => f2 z | false => g2 z) := fun hs hl hz hf hg =>
  (h.take hz hs hl).bind fun a z hz => by
    cases a
    · exact hg z hz
    · exact hf z hz
 have nm : ∀ {f : List UInt8 → Nd} {z : Nat}, lo ≤ z → Sim lo d sh ((Ps.name reservedB t1 z).bind fun s z => .ok (f s) z) ((Ps.name reservedB t2 (z + d)).bind fun s z => .ok (f s) z) := fun hz => (h.name hz).bind fun s z hz => .okk hz rfl
 cases (Ps.sees t1 z g_par || Ps.sees t1 z k_select)
 · refine tk (by decide) (by decide) hz (fun z hz => h.create hm hz) fun z hz => ?_
   refine tk (by decide) (by decide) hz (fun z hz => ?_) fun z hz => ?_
   · exact tk (by decide) (by decide) hz (fun z hz => nm hz) fun z hz => (h.need hz (by decide)).bind fun _ z hz => nm hz
   refine tk (by decide) (by decide) hz (fun z hz => h.insertP hm hz) fun z hz => ?_
   refine tk (by decide) (by decide) hz (fun z hz => h.updateP hm hz) fun z hz => ?_
   refine tk (by decide) (by decide) hz (fun z hz => (h.name hz).bind fun s z hz => (h.whose hm hz).bind fun w z hz => .okk hz rfl) fun z hz => ?_
   refine tk (by decide) (by decide) hz (fun z hz => .okk hz rfl) fun z hz => ?_
   refine tk (by decide) (by decide) hz (fun z hz => ?_) fun z hz => ?_
   · refine (h.take hz (by decide) (by decide)).bind fun a z hz => ?_
     cases a
     · exact .okk hz rfl
     · exact (h.take hz (by decide) (by decide)).bind fun _ z hz => nm hz
   refine tk (by decide) (by decide) hz (fun z hz => nm hz) fun z hz => ?_
   refine tk (by decide) (by decide) hz (fun z hz => (h.take hz (by decide) (by decide)).bind fun _ z hz => nm hz) fun z hz => ?_
   refine tk (by decide) (by decide) hz (fun z hz => (h.level hz).bind fun k z hz => .okk hz rfl) fun z hz => ?_
   refine tk (by decide) (by decide) hz (fun z hz => h.declareP hm hz) fun z hz => ?_
   refine tk (by decide) (by decide) hz (fun z hz => nm hz) fun z hz => ?_
   refine tk (by decide) (by decide) hz (fun z hz => nm hz) fun z hz => ?_
   refine tk (by decide) (by decide) hz (fun z hz => (h.way hz).bind fun w z hz => (h.take hz (by decide) (by decide)).bind fun _ z hz => nm hz) fun z hz => ?_
   exact .wrongs
 · exact h.query hm hz
end
end Go.AM.Ps
