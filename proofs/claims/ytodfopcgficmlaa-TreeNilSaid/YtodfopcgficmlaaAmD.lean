/- The abstract machine, fourth part: frames; closed runs; how a slice shows and hides its capacity. -/
import Derived.Test.YtodfopcgficmlaaAmC
import Derived.Below
import Derived.Recover
set_option linter.unusedSectionVars false
set_option linter.unusedVariables false
set_option linter.unusedSimpArgs false
namespace Go.AM
def fwd (f : Nat → Option Nat) (big small n : Nat) : Nat → Option Nat := fun o =>
 match Nat.ble big o with
 | false => f o
 | true => match Nat.blt o (big + n) with
  | true => some (small + (o - big))
  | false => none
section
variable {P : Program} {T : Tab} {f fi h hi : Nat → Option Nat} {S S0 : St} {n : Nat}
theorem fwd_old {o : Nat} (ho : o < S.next) : fwd f S.next S0.next n o = f o := by
 unfold fwd
 cases hb : Nat.ble S.next o with
 | false => rfl
 | true => have := Nat.le_of_ble_eq_true hb; omega
theorem fwd_new {o i : Nat} (ho : S.next ≤ o) : fwd f S.next S0.next n o = some i ↔ o < S.next + n ∧ i = S0.next + (o - S.next) := by
 unfold fwd
 rw [Nat.ble_eq_true_of_le ho]
 simp only
 cases hb : Nat.blt o (S.next + n) with
 | false =>
  simp only
  constructor
  · intro h; cases h
  · rintro ⟨h1, _⟩
    have : Nat.blt o (S.next + n) = true := Nat.ble_eq_true_of_le h1
    rw [hb] at this; cases this
 | true =>
  have : o + 1 ≤ S.next + n := Nat.le_of_ble_eq_true hb
  simp only [Option.some.injEq]
  exact ⟨fun h => ⟨this, h.symm⟩, fun h => h.2.symm⟩
theorem View.back_fwd (V : View f fi h hi S S0) {i o : Nat} : back fi S.next S0.next n i = some o ↔ fwd f S.next S0.next n o = some i := by
 constructor
 · intro e
   rcases Nat.lt_or_ge i S0.next with hlt | hge
   · rw [back_old hlt] at e
     have hf := (V.inv o i).2 e
     rw [fwd_old (V.lt o i hf).1]
     exact hf
   · obtain ⟨h1, h2⟩ := (back_new hge).1 e
     exact (fwd_new (by omega)).2 ⟨by omega, by omega⟩
 · intro e
   rcases Nat.lt_or_ge o S.next with hlt | hge
   · rw [fwd_old hlt] at e
     rw [back_old (V.lt o i e).2]
     exact (V.inv o i).1 e
   · obtain ⟨h1, h2⟩ := (fwd_new hge).1 e
     exact (back_new (by omega)).2 ⟨by omega, by omega⟩
def bigG (f h : Nat → Option Nat) (S S0 : St) (n : Nat) (g g0 : Ghost) : Ghost :=
 { ρ := fun o => match fwd f S.next S0.next n o with | some i => g0.ρ i | none => g.ρ o
   τ := fun k => match h k with | some l => g0.τ l | none => g.τ k
   D := g0.D
   α := fun o => match fwd f S.next S0.next n o with | some i => g0.α i | none => g.α o }
theorem bigG_ρ1 {g g0 : Ghost} {o i : Nat} (e : fwd f S.next S0.next n o = some i) : (bigG f h S S0 n g g0).ρ o = g0.ρ i := by simp [bigG, e]
theorem bigG_ρ0 {g g0 : Ghost} {o : Nat} (e : fwd f S.next S0.next n o = none) : (bigG f h S S0 n g g0).ρ o = g.ρ o := by simp [bigG, e]
theorem bigG_α1 {g g0 : Ghost} {o i : Nat} (e : fwd f S.next S0.next n o = some i) : (bigG f h S S0 n g g0).α o = g0.α i := by simp [bigG, e]
theorem bigG_α0 {g g0 : Ghost} {o : Nat} (e : fwd f S.next S0.next n o = none) : (bigG f h S S0 n g g0).α o = g.α o := by simp [bigG, e]
theorem bigG_τ1 {g g0 : Ghost} {k l : Nat} (e : h k = some l) : (bigG f h S S0 n g g0).τ k = g0.τ l := by simp [bigG, e]
theorem bigG_τ0 {g g0 : Ghost} {k : Nat} (e : h k = none) : (bigG f h S S0 n g g0).τ k = g.τ k := by simp [bigG, e]
theorem frame {fid : FuncId} {args args0 : List AV} {K K0 : Out → St → Prop} (V : View f fi h hi S S0) (hargs : args0 = renL f h args) (hc : CallP P T fid args0 S0 K0)
  (hK : ∀ out0 S0', K0 out0 S0' → ∃ n S', Lift f fi h hi S S0 S0' S' n ∧ K (out0.ren (back fi S.next S0.next n) hi) S') : CallP P T fid args S K := by
 intro g w vs r hglob hA
 let g0 := small fi hi g
 have r0 : WRel T g0 S0 w := V.rel r
 have hglob0 : GlobOk T g0 w := fun gl t e hg => by
  have := V.rep (hglob gl t e hg)
  simpa [AV.ren] using this
 have hA0 : ArgsRel T w g0 args0 vs := by
  subst hargs
  refine ⟨by rw [renL_len]; exact hA.1, fun j hj => ?_⟩
  rw [renL_len] at hj
  rw [renL_nth _ _ _ _ hj]
  exact V.rep (hA.2 j hj)
 have key : ∀ e w', callPost T g0 S0 w K0 e w' → callPost T g S w K e w' := by
  rintro e w' ⟨out0, S0', g0', hk0, hor, r0', ex, ht, nm, nx, vn⟩
  obtain ⟨n, S', L, hk⟩ := hK out0 S0' hk0
  let g' := bigG f h S S0 n g g0'
  have gone : ∀ o b, g.ρ o = some b → b < w.heap.size := fun o b e => by
   obtain ⟨c, t, hc, _⟩ := r.obj o b e
   exact heap_lt hc
  have tob : ∀ k tk b, g.τ k = some tk → tk.v.ownBlock = some b → b < w.heap.size ∧ (∀ o, g.ρ o ≠ some b) ∧ ∀ off, tk.n * T.size tk.e ≤ off → ¬ g.D b off := fun k tk b e hb => by
   obtain ⟨_, _, xs, hown, hblk⟩ := r.tok k tk e
   exact ⟨(hown.lt b hb).2, (hblk b hb).2, (hblk b hb).1⟩
  have old_of : ∀ o i b, f o = some i → (g0.ρ i = some b ↔ g.ρ o = some b) := fun o i b e => by
   have := (V.inv o i).1 e
   simp [g0, small, this]
  have told_of : ∀ k l tk, h k = some l → (g0.τ l = some tk ↔ g.τ k = some tk) := fun k l tk e => by
   have := (V.tinv k l).1 e
   simp [g0, small, this]
  have f_of_fwd : ∀ o, o < S.next → fwd f S.next S0.next n o = f o := fun o ho => fwd_old ho
  have none_old : ∀ o, g.ρ o ≠ none → fwd f S.next S0.next n o = none → f o = none := fun o h1 h2 => by
   cases hq : g.ρ o with
   | none => exact absurd hq h1
   | some b => rw [← f_of_fwd o (r.dom o b hq)]; exact h2
  have vold_of : ∀ o i tk, f o = some i → (g0.α i = some tk ↔ g.α o = some tk) := fun o i tk e => by
   have := (V.inv o i).1 e
   simp [g0, small, this]
  have vob : ∀ o tk b, g.α o = some tk → tk.b = some b → b < w.heap.size := fun o tk b e hb => (r.vec.ok o tk e).2.lt hb
  have vnone_old : ∀ o tk, g.α o = some tk → fwd f S.next S0.next n o = none → f o = none := fun o tk h1 h2 => by
   rw [← f_of_fwd o (r.vec.ok o tk h1).1]; exact h2
  have free_v : ∀ o tk b, g.α o = some tk → tk.b = some b → f o = none → ¬ touchOf g0 b := by
   rintro o tk b e hb hf (⟨i, e'⟩ | ⟨l, tt, e', hb'⟩ | ⟨i, tk', e', hb'⟩)
   · obtain ⟨o', h1, h2⟩ := small_ρ e'
     exact r.vec.ρ o tk b e hb o' h2
   · obtain ⟨k, h1, h2⟩ := small_τ e'
     exact r.vec.τ o tk b e hb k tt h2 hb'
   · obtain ⟨o', h1, h2⟩ := small_α e'
     have := r.vec.inj o o' tk tk' b e h2 hb hb'
     subst this
     rw [(V.inv o i).2 h1] at hf
     cases hf
  have free_o : ∀ o b, g.ρ o = some b → f o = none → ¬ touchOf g0 b := by
   rintro o b e hf (⟨i, e'⟩ | ⟨l, tk, e', hb⟩ | ⟨i, tk, e', hb⟩)
   rotate_right
   · obtain ⟨o', h1, h2⟩ := small_α e'
     exact r.vec.ρ o' tk b h2 hb o e
   · obtain ⟨o', h1, h2⟩ := small_ρ e'
     have := r.inj o o' b e h2
     subst this
     rw [(V.inv o i).2 h1] at hf
     cases hf
   · obtain ⟨k, h1, h2⟩ := small_τ e'
     exact (tob k tk b h2 hb).2.1 o e
  have free_t : ∀ k tk b, g.τ k = some tk → tk.v.ownBlock = some b → h k = none → ¬ touchOf g0 b := by
   rintro k tk b e hb hf (⟨i, e'⟩ | ⟨l, tk', e', hb'⟩ | ⟨i, tk', e', hb'⟩)
   rotate_right
   · obtain ⟨o', h1, h2⟩ := small_α e'
     exact r.vec.τ o' tk' b h2 hb' k tk e hb
   · obtain ⟨o', h1, h2⟩ := small_ρ e'
     exact (tob k tk b e hb).2.1 o' h2
   · obtain ⟨k', h1, h2⟩ := small_τ e'
     have := r.tinj k k' tk tk' b e h2 hb hb'
     subst this
     rw [(V.tinv k l).2 h1] at hf
     cases hf
  have notouch : ∀ b, b < w.heap.size → ¬ touchOf g0 b → ¬ touchOf g0' b := fun b hb hn ht' => by
   rcases ht b ht' with q | q
   · exact hn q
   · omega
  have keeps : Keeps g w g' w' := by
   refine ⟨fun o b e => ?_, fun k tk e => ?_, ex.keeps.D, ex.keeps.cell, ex.keeps.ty, fun o tk e => ?_⟩
   rotate_right
   · have ho := (r.vec.ok o tk e).1
     cases hq : f o with
     | none =>
      have : (bigG f h S S0 n g g0').α o = g.α o := bigG_α0 (by rw [f_of_fwd o ho]; exact hq)
      exact ⟨tk, this.trans e, rfl, .inl rfl⟩
     | some i =>
      have : (bigG f h S S0 n g g0').α o = g0'.α i := bigG_α1 (by rw [f_of_fwd o ho]; exact hq)
      obtain ⟨tk', h1, h2⟩ := ex.keeps.α i tk ((vold_of o i tk hq).2 e)
      exact ⟨tk', this.trans h1, h2⟩
   · have ho := r.dom o b e
     cases hq : f o with
     | none =>
      have : (bigG f h S S0 n g g0').ρ o = g.ρ o := bigG_ρ0 (by rw [f_of_fwd o ho]; exact hq)
      exact this.trans e
     | some i =>
      have : (bigG f h S S0 n g g0').ρ o = g0'.ρ i := bigG_ρ1 (by rw [f_of_fwd o ho]; exact hq)
      exact this.trans (ex.keeps.ρ i b ((old_of o i b hq).2 e))
   · cases hq : h k with
     | none => exact ⟨tk, (bigG_τ0 hq).trans e, rfl, .inl rfl⟩
     | some l =>
      obtain ⟨tk', h1, h2⟩ := ex.keeps.τ l tk ((told_of k l tk hq).2 e)
      exact ⟨tk', (bigG_τ1 hq).trans h1, h2⟩
  have repR : ∀ {v : AV} {x : Value}, Rep T w' g0' v x → Rep T w' g' (v.ren (back fi S.next S0.next n) hi) x := fun hr =>
   hr.ren (fun i b o e1 e2 => (bigG_ρ1 (V.back_fwd.1 e2)).trans e1) (fun l tk k e1 e2 => (bigG_τ1 ((V.tinv k l).2 e2)).trans e1) (fun _ _ q => q) (fun i tk o e1 e2 => (bigG_α1 (V.back_fwd.1 e2)).trans e1)
  have cases_ρ : ∀ o b, g'.ρ o = some b → (∃ i, fwd f S.next S0.next n o = some i ∧ g0'.ρ i = some b) ∨ (fwd f S.next S0.next n o = none ∧ f o = none ∧ g.ρ o = some b) := fun o b e => by
   cases hq : fwd f S.next S0.next n o with
   | some i => exact .inl ⟨i, rfl, (bigG_ρ1 hq).symm.trans e⟩
   | none =>
    have e' : g.ρ o = some b := (bigG_ρ0 hq).symm.trans e
    exact .inr ⟨rfl, none_old o (by rw [e']; simp) hq, e'⟩
  have cases_α : ∀ o tk, g'.α o = some tk → (∃ i, fwd f S.next S0.next n o = some i ∧ g0'.α i = some tk) ∨ (fwd f S.next S0.next n o = none ∧ f o = none ∧ g.α o = some tk) := fun o tk e => by
   cases hq : fwd f S.next S0.next n o with
   | some i => exact .inl ⟨i, rfl, (bigG_α1 hq).symm.trans e⟩
   | none =>
    have e' : g.α o = some tk := (bigG_α0 hq).symm.trans e
    exact .inr ⟨rfl, vnone_old o tk e' hq, e'⟩
  have cases_τ : ∀ k tk, g'.τ k = some tk → (∃ l, h k = some l ∧ g0'.τ l = some tk) ∨ (h k = none ∧ g.τ k = some tk) := fun k tk e => by
   cases hq : h k with
   | some l => exact .inl ⟨l, rfl, (bigG_τ1 hq).symm.trans e⟩
   | none => exact .inr ⟨rfl, (bigG_τ0 hq).symm.trans e⟩
  have hrel : WRel T g' S' w' := by
   refine ⟨?_, ?_, ?_, ?_, r0'.live, ?_, ?_, ?_⟩
   rotate_right
   · refine ⟨fun o tk e => ?_, fun o tk e hd => ?_, fun o o' tk tk' b e e' q q' => ?_, fun o tk b e q p hp => ?_, fun o tk b e q off hD => ?_, fun o tk b e q k tt ek hk' => ?_, fun o b e => ?_⟩
     · rcases cases_α o tk e with ⟨i, h1, h2⟩ | ⟨h1, h2, h3⟩
       · have hrow := L.row i o (V.back_fwd.2 h1)
         refine ⟨?_, ?_⟩
         · rw [L.next]
           rcases Nat.lt_or_ge o S.next with q | q
           · omega
           · have := ((fwd_new q).1 h1).1; omega
         · rw [hrow]
           exact (r0'.vec.ok i tk h2).2.ren (fun i b o e1 e2 => (bigG_ρ1 (V.back_fwd.1 e2)).trans e1) (fun l tk k e1 e2 => (bigG_τ1 ((V.tinv k l).2 e2)).trans e1) (fun _ _ q => q) (fun i tk o e1 e2 => (bigG_α1 (V.back_fwd.1 e2)).trans e1)
       · have hlt := (r.vec.ok o tk h3).1
         refine ⟨by rw [L.next]; omega, ?_⟩
         rw [L.other o hlt h2]
         exact (r.vec.ok o tk h3).2.keeps keeps fun b hb => ex.frame b (vob o tk b h3 hb) (free_v o tk b h3 hb h2)
     · rcases cases_α o tk e with ⟨i, h1, h2⟩ | ⟨h1, h2, h3⟩
       · intro e0 v full cs hr
         rw [L.row i o (V.back_fwd.2 h1)] at hr
         obtain ⟨cs', hr'⟩ := renL_mrow hr
         exact r0'.vec.dead i tk h2 hd _ _ _ _ hr'
       · rw [L.other o (r.vec.ok o tk h3).1 h2]
         exact r.vec.dead o tk h3 hd
     · rcases cases_α o tk e with ⟨i, h1, h2⟩ | ⟨h1, h2, h3⟩ <;> rcases cases_α o' tk' e' with ⟨i', h1', h2'⟩ | ⟨h1', h2', h3'⟩
       · have := r0'.vec.inj i i' tk tk' b h2 h2' q q'
         subst this
         have q1 := V.back_fwd.2 h1
         have q2 := V.back_fwd.2 h1'
         rw [q1] at q2
         simpa using q2
       · exact (notouch b (vob o' tk' b h3' q') (free_v o' tk' b h3' q' h2') (.inr (.inr ⟨i, tk, h2, q⟩))).elim
       · exact (notouch b (vob o tk b h3 q) (free_v o tk b h3 q h2) (.inr (.inr ⟨i', tk', h2', q'⟩))).elim
       · exact r.vec.inj o o' tk tk' b h3 h3' q q'
     · rcases cases_α o tk e with ⟨i, h1, h2⟩ | ⟨h1, h2, h3⟩ <;> rcases cases_ρ p b hp with ⟨i', h1', h2'⟩ | ⟨h1', h2', h3'⟩
       · exact r0'.vec.ρ i tk b h2 q i' h2'
       · exact notouch b (gone p b h3') (free_o p b h3' h2') (.inr (.inr ⟨i, tk, h2, q⟩))
       · exact notouch b (vob o tk b h3 q) (free_v o tk b h3 q h2) (.inl ⟨i', h2'⟩)
       · exact r.vec.ρ o tk b h3 q p h3'
     · rcases cases_α o tk e with ⟨i, h1, h2⟩ | ⟨h1, h2, h3⟩
       · exact r0'.vec.D i tk b h2 q off hD
       · rcases ex.newD b off hD with p | p | p
         · exact r.vec.D o tk b h3 q off p
         · exact free_v o tk b h3 q h2 p
         · have := vob o tk b h3 q; omega
     · rcases cases_α o tk e with ⟨i, h1, h2⟩ | ⟨h1, h2, h3⟩ <;> rcases cases_τ k tt ek with ⟨l, h1', h2'⟩ | ⟨h1', h2'⟩
       · exact r0'.vec.τ i tk b h2 q l tt h2' hk'
       · exact notouch b (tob k tt b h2' hk').1 (free_t k tt b h2' hk' h1') (.inr (.inr ⟨i, tk, h2, q⟩))
       · exact notouch b (vob o tk b h3 q) (free_v o tk b h3 q h2) (.inr (.inl ⟨l, tt, h2', hk'⟩))
       · exact r.vec.τ o tk b h3 q k tt h2' hk'
     · rcases cases_ρ o b e with ⟨i, h1, h2⟩ | ⟨h1, h2, h3⟩
       · exact (bigG_α1 h1).trans (r0'.vec.one i b h2)
       · exact (bigG_α0 h1).trans (r.vec.one o b h3)
   · intro o b e
     rcases cases_ρ o b e with ⟨i, h1, h2⟩ | ⟨h1, h2, h3⟩
     · obtain ⟨c, t, hc, hs, h4, hR⟩ := r0'.obj i b h2
       have hrow := L.row i o (V.back_fwd.2 h1)
       refine ⟨c, t, hc, by rw [hrow, renL_len]; exact hs, h4, fun j hj => ?_⟩
       rw [hrow, renL_len] at hj
       rw [hrow, renL_nth _ _ _ _ hj]
       exact repR (hR j hj)
     · obtain ⟨c, t, hc, hs, h4, hR⟩ := r.obj o b h3
       have hrow := L.other o (r.dom o b h3) h2
       refine ⟨c, t, (ex.frame b (gone o b h3) (free_o o b h3 h2)).trans hc, by rw [hrow]; exact hs, h4, fun j hj => ?_⟩
       rw [hrow] at hj ⊢
       exact (hR j hj).keeps keeps
   · have mixed : ∀ o o' b i, fwd f S.next S0.next n o = some i → g0'.ρ i = some b → f o' = none → g.ρ o' = some b → False := by
      intro o o' b i h1 h2 h3 h4
      exact notouch b (gone o' b h4) (free_o o' b h4 h3) (.inl ⟨i, h2⟩)
     intro o o' b e e'
     rcases cases_ρ o b e with ⟨i, h1, h2⟩ | ⟨h1, h2, h3⟩ <;> rcases cases_ρ o' b e' with ⟨i', h1', h2'⟩ | ⟨h1', h2', h3'⟩
     · have := r0'.inj i i' b h2 h2'
       subst this
       have q1 := V.back_fwd.2 h1
       have q2 := V.back_fwd.2 h1'
       rw [q1] at q2
       simpa using q2
     · exact (mixed o o' b i h1 h2 h2' h3').elim
     · exact (mixed o' o b i' h1' h2' h2 h3).elim
     · exact r.inj o o' b h3 h3'
   · intro o b e
     rw [L.next]
     rcases cases_ρ o b e with ⟨i, h1, h2⟩ | ⟨h1, h2, h3⟩
     · rcases Nat.lt_or_ge o S.next with q | q
       · omega
       · have := ((fwd_new q).1 h1).1; omega
     · have := r.dom o b h3; omega
   · intro o b off e hD
     rcases cases_ρ o b e with ⟨i, h1, h2⟩ | ⟨h1, h2, h3⟩
     · exact r0'.apart i b off h2 hD
     · rcases ex.newD b off hD with q | q | q
       · exact r.apart o b off h3 q
       · exact free_o o b h3 h2 q
       · have := gone o b h3; omega
   · intro k tk e
     rcases cases_τ k tk e with ⟨l, h1, h2⟩ | ⟨h1, h2⟩
     · obtain ⟨q1, q2, xs, q3, q4⟩ := r0'.tok l tk h2
       have hcap := L.cap k
       rw [h1] at hcap
       refine ⟨by rw [L.clen]; exact (V.tok k l h1).1, hcap.trans q2, xs, q3, fun b hb => ⟨(q4 b hb).1, fun o e' => ?_⟩⟩
       rcases cases_ρ o b e' with ⟨i, p1, p2⟩ | ⟨p1, p2, p3⟩
       · exact (q4 b hb).2 i p2
       · exact notouch b (gone o b p3) (free_o o b p3 p2) (.inr (.inl ⟨l, tk, h2, hb⟩))
     · obtain ⟨q1, q2, xs, q3, q4⟩ := r.tok k tk h2
       have hcap := L.cap k
       rw [h1] at hcap
       refine ⟨by rw [L.clen]; exact q1, hcap.trans q2, xs, ?_, fun b hb => ⟨fun off ho hD => ?_, fun o e' => ?_⟩⟩
       · rcases q3 with q3 | q3
         · exact .inl q3
         obtain ⟨y1, y2⟩ := q3
         refine .inr ⟨y1, ?_⟩
         rcases y2 with y2 | ⟨gb, cap, cur, y3, y4, y5, y6⟩
         · exact .inl y2
         · have hob : tk.v.ownBlock = some gb := by rw [y3]; rfl
           exact .inr ⟨gb, cap, cur, y3, y4, (ex.frame gb (tob k tk gb h2 hob).1 (free_t k tk gb h2 hob h1)).trans y5, y6⟩
       · rcases ex.newD b off hD with q | q | q
         · exact (q4 b hb).1 off ho q
         · exact free_t k tk b h2 hb h1 q
         · have := (tob k tk b h2 hb).1; omega
       · rcases cases_ρ o b e' with ⟨i, p1, p2⟩ | ⟨p1, p2, p3⟩
         · exact notouch b (tob k tk b h2 hb).1 (free_t k tk b h2 hb h1) (.inl ⟨i, p2⟩)
         · exact (q4 b hb).2 o p3
   · intro k k' tk tk' b e e' hb hb'
     rcases cases_τ k tk e with ⟨l, h1, h2⟩ | ⟨h1, h2⟩ <;> rcases cases_τ k' tk' e' with ⟨l', h1', h2'⟩ | ⟨h1', h2'⟩
     · have := r0'.tinj l l' tk tk' b h2 h2' hb hb'
       subst this
       have q1 := (V.tinv k l).1 h1
       have q2 := (V.tinv k' l).1 h1'
       rw [q1] at q2
       simpa using q2
     · exact (notouch b (tob k' tk' b h2' hb').1 (free_t k' tk' b h2' hb' h1') (.inr (.inl ⟨l, tk, h2, hb⟩))).elim
     · exact (notouch b (tob k tk b h2 hb).1 (free_t k tk b h2 hb h1) (.inr (.inl ⟨l', tk', h2', hb'⟩))).elim
     · exact r.tinj k k' tk tk' b h2 h2' hb hb'
  refine ⟨_, S', g', hk, ?_, hrel, ⟨ex.os, ex.tape, ex.output, ex.size, keeps, fun b hb hn => ex.frame b hb fun q => hn (small_touch q), fun b off hD => ?_⟩, ?_, ?_, by rw [L.next]; omega, ?_⟩
  · cases out0 with
    | ret v =>
     cases e with
     | returned x => exact repR hor
     | _ => exact hor.elim
    | panic v =>
     cases e with
     | panicked ch =>
      obtain ⟨x, rfl, hv⟩ := hor
      exact ⟨x, rfl, repR hv⟩
     | _ => exact hor.elim
  · rcases ex.newD b off hD with q | q | q
    · exact .inl q
    · exact .inr (.inl (small_touch q))
    · exact .inr (.inr q)
  · rintro b (⟨o, e⟩ | ⟨k, tk, e, hb⟩ | ⟨o, tk, e, hb⟩)
    · rcases cases_ρ o b e with ⟨i, h1, h2⟩ | ⟨h1, h2, h3⟩
      · rcases ht b (.inl ⟨i, h2⟩) with q | q
        · exact .inl (small_touch q)
        · exact .inr q
      · exact .inl (.inl ⟨o, h3⟩)
    · rcases cases_τ k tk e with ⟨l, h1, h2⟩ | ⟨h1, h2⟩
      · rcases ht b (.inr (.inl ⟨l, tk, h2, hb⟩)) with q | q
        · exact .inl (small_touch q)
        · exact .inr q
      · exact .inl (.inr (.inl ⟨k, tk, h2, hb⟩))
    · rcases cases_α o tk e with ⟨i, h1, h2⟩ | ⟨h1, h2, h3⟩
      · rcases ht b (.inr (.inr ⟨i, tk, h2, hb⟩)) with q | q
        · exact .inl (small_touch q)
        · exact .inr q
      · exact .inl (.inr (.inr ⟨o, tk, h3, hb⟩))
  · intro o b e
    rcases cases_ρ o b e with ⟨i, h1, h2⟩ | ⟨h1, h2, h3⟩
    · rcases Nat.lt_or_ge o S.next with q | q
      · have hf : f o = some i := by rw [← f_of_fwd o q]; exact h1
        rcases nm i b h2 with p | p
        · exact .inl ((old_of o i b hf).1 p)
        · have := (V.lt o i hf).2; omega
      · exact .inr q
    · exact .inl h3
  · intro o tk e
    rcases cases_α o tk e with ⟨i, h1, h2⟩ | ⟨h1, h2, h3⟩
    · rcases Nat.lt_or_ge o S.next with q | q
      · have hf : f o = some i := by rw [← f_of_fwd o q]; exact h1
        rcases vn i tk h2 with p | p
        · refine .inl fun hq => p ?_
          cases hz : g0.α i with
          | none => rfl
          | some t0 => have := (vold_of o i t0 hf).1 hz; rw [hq] at this; cases this
        · have := (V.lt o i hf).2; omega
      · exact .inr q
    · exact .inl (by rw [h3]; simp)
 rcases hc g0 w vs r0 hglob0 hA0 with ⟨hent, hcalls⟩ | ⟨x, w', hr, hp⟩
 · exact .inl ⟨hent, Calls.mono hcalls fun e w' hp => key e w' hp⟩
 · exact .inr ⟨x, w', hr, key _ _ hp⟩
end
end Go.AM
namespace Go.AM
def g0 (w : World) : Ghost := { ρ := fun _ => none, τ := fun _ => none, D := fun b _ => b < w.heap.size, α := fun _ => none }
def St.nil : St := ⟨[], 0, []⟩
theorem rel0 (T : Tab) (w : World) : WRel T (g0 w) St.nil w :=
 ⟨fun _ _ e => (by cases e), fun _ _ _ e => (by cases e), fun _ _ e => (by cases e), fun _ _ _ e => (by cases e), fun _ _ h => h, fun _ _ e => (by cases e), fun _ _ _ _ _ e => (by cases e),
  ⟨fun _ _ e => (by cases e), fun _ _ e => (by cases e), fun _ _ _ _ _ e => (by cases e), fun _ _ _ e => (by cases e), fun _ _ _ e => (by cases e), fun _ _ _ e => (by cases e), fun _ _ e => (by cases e)⟩⟩
theorem law_calls {P : Program} {T : Tab} {f : FuncId} {args : List AV} {vs : List Value} {K : Out → St → Prop} (hc : CallP P T f args St.nil K) (hent : Enters P f) {w : World} (hglob : GlobOk T (g0 w) w)
  (hargs : ArgsRel T w (g0 w) args vs) : Calls P f vs.toArray w fun e w' => (∃ out S' g', K out S' ∧ outRel T w' g' out e) ∧ RowKit.Below w.heap.size w w' := by
 have key : ∀ e w', callPost T (g0 w) St.nil w K e w' → (∃ out S' g', K out S' ∧ outRel T w' g' out e) ∧ RowKit.Below w.heap.size w w' := by
  rintro e w' ⟨out, S', g', hk, hor, _, ex, _⟩
  refine ⟨⟨out, S', g', hk, hor⟩, ex.os, ex.tape, ex.output, ex.size, fun b hb => ex.frame b hb ?_⟩
  rintro (⟨o, e⟩ | ⟨k, tk, e, _⟩ | ⟨k, tk, e, _⟩) <;> cases e
 rcases hc (g0 w) w vs (rel0 T w) hglob hargs with ⟨_, h⟩ | ⟨x, w', hr, _⟩
 · exact Calls.mono h key
 · rw [hent] at hr; cases hr
theorem law_true {P : Program} {T : Tab} {f : FuncId} {args : List AV} {vs : List Value} (hc : CallP P T f args St.nil fun o _ => o = .ret (.bool true)) (hent : Enters P f) {w : World} (hglob : GlobOk T (g0 w) w)
  (hargs : ArgsRel T w (g0 w) args vs) : Calls P f vs.toArray w fun e w' => e = .returned (.bool true) ∧ RowKit.Below w.heap.size w w' := by
 refine Calls.mono (law_calls hc hent hglob hargs) ?_
 rintro e w' ⟨⟨out, S', g', rfl, hor⟩, hb⟩
 refine ⟨?_, hb⟩
 cases e with
 | returned x =>
  have hor' : Rep T w' g' (.bool true) x := hor
  cases hor'
  rfl
 | _ => exact hor.elim
theorem args_nil (T : Tab) (w : World) (g : Ghost) : ArgsRel T w g [] [] := ⟨rfl, by simp⟩
theorem args_cons {T : Tab} {w : World} {g : Ghost} {v : AV} {l : List AV} {x : Value} {m : List Value} (h : Rep T w g v x) (k : ArgsRel T w g l m) : ArgsRel T w g (v :: l) (x :: m) :=
 ⟨by simp [k.1], fun j hj => by
   cases j with
   | zero => simpa [nth] using h
   | succ j => simpa [nth] using k.2 j (by simpa using hj)⟩
theorem rep_string (T : Tab) (w : World) (g : Ghost) (a : ByteArray) : Rep T w g (.str a.data.toList) (.string a) := by
 have : a = ⟨a.data.toList.toArray⟩ := by cases a; simp
 have h := Rep.str (T := T) (w := w) g a.data.toList
 rwa [← this] at h
theorem callP_grow {P : Program} {T : Tab} {f : FuncId} {args : List AV} {S : St} {K : Out → St → Prop} {v : AV} (hk : K (.ret v) S)
  (h : ∀ (g : Ghost) (w : World) (vs : List Value), WRel T g S w → ArgsRel T w g args vs → Into P f vs w fun e w' => ∃ x g', e = .returned x ∧ Grow g w g' w' ∧ Rep T w' g' v x) : CallP P T f args S K := by
 intro g w vs r hglob hargs
 have key : ∀ e w', (∃ x g', e = .returned x ∧ Grow g w g' w' ∧ Rep T w' g' v x) → callPost T g S w K e w' := by
  rintro e w' ⟨x, g', rfl, hg, hv⟩
  refine ⟨.ret v, S, g', hk, hv, r.grow hg, hg.ext r _, ?_, fun o b q => by rw [hg.ρ] at q; exact .inl q, Nat.le_refl _, fun o tk q => by rw [hg.α] at q; exact .inl (by rw [q]; simp)⟩
  rintro b (⟨o, q⟩ | ⟨k, tk, q, q'⟩ | ⟨k, tk, q, q'⟩)
  · rw [hg.ρ] at q; exact .inl (.inl ⟨o, q⟩)
  · rw [hg.τ] at q; exact .inl (.inr (.inl ⟨k, tk, q, q'⟩))
  · rw [hg.α] at q; exact .inl (.inr (.inr ⟨k, tk, q, q'⟩))
 rcases h g w vs r hargs with ⟨h1, h2⟩ | ⟨x, w', h1, h2⟩
 · exact .inl ⟨h1, Calls.mono h2 fun e w' q => key e w' q⟩
 · exact .inr ⟨x, w', h1, key _ _ h2⟩
theorem CallP.mono {P : Program} {T : Tab} {f : FuncId} {args : List AV} {S : St} {K K' : Out → St → Prop} (h : CallP P T f args S K) (hk : ∀ o S', K o S' → K' o S') : CallP P T f args S K' := by
 intro g w vs r hg ha
 have key : ∀ e w', callPost T g S w K e w' → callPost T g S w K' e w' := by
  rintro e w' ⟨out, S', g', q, rest⟩
  exact ⟨out, S', g', hk _ _ q, rest⟩
 rcases h g w vs r hg ha with ⟨h1, h2⟩ | ⟨x, w', h1, h2⟩
 · exact .inl ⟨h1, Calls.mono h2 fun e w' q => key e w' q⟩
 · exact .inr ⟨x, w', h1, key _ _ h2⟩
end Go.AM
namespace Go.AM
def EnvLe (l env : Env) : Prop := ∀ t, l.get t = .undef ∨ l.get t = env.get t
theorem EnvLe.nil (env : Env) : EnvLe [] env := fun _ => .inl rfl
theorem EnvLe.cons {k : Nat} {v : AV} {l env : Env} (h : env.get k = v) (hl : EnvLe l env) : EnvLe ((k, v) :: l) env := fun t => by
 rw [get_cons]
 by_cases e : k = t
 · subst e; rw [if_pos rfl]; exact .inr h.symm
 · rw [if_neg e]; exact hl t
theorem LoopP.weak {P : Program} {T : Tab} {N : Nat} {c : Code} {K : Ex → Env → St → Prop} {env env' : Env} {S : St} (he : EnvLe env' env) (h : LoopP P T N c K env' S) : LoopP P T N c K env S :=
 fun C hC g a w hI => h C hC g a w (hI.weak he)
theorem LoopP.mono {P : Program} {T : Tab} {N : Nat} {c : Code} {K K' : Ex → Env → St → Prop} {env : Env} {S : St} (h : LoopP P T N c K env S) (hk : ∀ e env S, K e env S → K' e env S) : LoopP P T N c K' env S := by
 intro C hC g a w hI b k cs
 obtain ⟨e, a', w', ⟨ex, env, S, g', q, r⟩, harr⟩ := h C hC g a w hI b k cs
 exact ⟨e, a', w', ⟨ex, env, S, g', hk _ _ _ q, r⟩, harr⟩
def loopsOf : Code → List Code
 | .seq a b => loopsOf a ++ loopsOf b
 | .cond _ a b => loopsOf a ++ loopsOf b
 | .block _ a => loopsOf a
 | .loop a => a :: loopsOf a
 | _ => []
def codeAt : List Code → Nat → Code
 | [], _ => .skip
 | c :: _, 0 => c
 | _ :: l, n + 1 => codeAt l n
def fni (f : Func) (a : List (Nat × Ann)) : FnI := { n := f.ntmps, ann := a, results := f.results.toList, body := match f.body with | some c => c | none => .skip }
def FnI.loop (f : FnI) (k : Nat) : Code := codeAt (loopsOf f.body) k
theorem codeOk_loops {N : Nat} {ann : List (Nat × Ann)} : ∀ {c : Code}, codeOk N ann c = true → ∀ d, d ∈ loopsOf c → codeOk N ann d = true := by
 intro c
 induction c with
 | seq a b iha ihb =>
  intro h d hd
  simp only [codeOk, Bool.and_eq_true] at h
  rcases List.mem_append.1 hd with hd | hd
  · exact iha h.1 d hd
  · exact ihb h.2 d hd
 | cond c a b iha ihb =>
  intro h d hd
  simp only [codeOk, Bool.and_eq_true] at h
  rcases List.mem_append.1 hd with hd | hd
  · exact iha h.1 d hd
  · exact ihb h.2 d hd
 | block i a ih => intro h d hd; exact ih h d hd
 | loop a ih =>
  intro h d hd
  rcases List.mem_cons.1 hd with rfl | hd
  · exact h
  · exact ih h d hd
 | _ => intro _ d hd; cases hd
theorem codeAt_ok {N : Nat} {ann : List (Nat × Ann)} : ∀ {l : List Code} {k : Nat}, (∀ d, d ∈ l → codeOk N ann d = true) → codeOk N ann (codeAt l k) = true
 | [], _, _ => rfl
 | c :: _, 0, h => h c (by simp)
 | _ :: l, k + 1, h => codeAt_ok (l := l) fun d hd => h d (by simp [hd])
theorem FnOk.loop {P : Program} {f : FuncId} {fi : FnI} (h : FnOk P f fi) (k : Nat) : codeOk fi.n fi.ann (fi.loop k) = true := codeAt_ok (codeOk_loops h.ok)
end Go.AM
namespace Go.AM
structure GenH (P : Program) (T : Tab) (N : Nat) (A : Alg Prop) (X : Sg) : Prop where
 A : A = pAlg P T N
 X : X = real
section
variable {P : Program} {T : Tab} {N : Nat} {fail : Prop} {need : Bool → Prop → Prop} {same : AV → AV → Prop → Prop} {call : FuncId → List AV → St → (Out → St → Prop) → Prop}
 {loop : Code → (Ex → Env → St → Prop) → Env → St → Prop}
 {len : List AV → Int} {slen : List UInt8 → Int} {arith shift : BinOp → IntKind → Int → Int → Int} {cmp : BinOp → Int → Int → Bool} {conv : IntKind → Int → Int} {eqS ltS : List UInt8 → List UInt8 → Bool}
 {cat : List UInt8 → List UInt8 → List UInt8} {app : List AV → List AV → List AV} {elt : List AV → Int → AV} {byt : List UInt8 → Int → Int} {subS : List UInt8 → Int → Int → List UInt8} {subL : List AV → Int → Int → List AV}
 {strOf : List AV → List UInt8} {isB : List AV → Bool} {fit : List UInt8 → List UInt8 → Bool} {inb : Int → Int → Bool} {cut : Int → Int → Int → Bool} {room : Int → Nat → Bool} {not : Bool → Bool} {and eqB : Bool → Bool → Bool} {avs : List UInt8 → List AV} {rep : Int → AV → List AV} {ver : Nat → Nat → Bool}
abbrev Named (P : Program) (T : Tab) (N : Nat) (fail : Prop) (need : Bool → Prop → Prop) (same : AV → AV → Prop → Prop) (call : FuncId → List AV → St → (Out → St → Prop) → Prop)
  (loop : Code → (Ex → Env → St → Prop) → Env → St → Prop)
  (len : List AV → Int) (slen : List UInt8 → Int) (arith shift : BinOp → IntKind → Int → Int → Int) (cmp : BinOp → Int → Int → Bool) (conv : IntKind → Int → Int) (eqS ltS : List UInt8 → List UInt8 → Bool)
  (cat : List UInt8 → List UInt8 → List UInt8) (app : List AV → List AV → List AV) (elt : List AV → Int → AV) (byt : List UInt8 → Int → Int) (subS : List UInt8 → Int → Int → List UInt8) (subL : List AV → Int → Int → List AV)
  (strOf : List AV → List UInt8) (isB : List AV → Bool) (fit : List UInt8 → List UInt8 → Bool) (inb : Int → Int → Bool) (cut : Int → Int → Int → Bool) (room : Int → Nat → Bool) (not : Bool → Bool) (and eqB : Bool → Bool → Bool) (avs : List UInt8 → List AV) (rep : Int → AV → List AV) (ver : Nat → Nat → Bool) : Prop :=
 GenH P T N ⟨fail, need, same, call, loop⟩ ⟨len, slen, arith, shift, cmp, conv, eqS, ltS, cat, app, elt, byt, subS, subL, strOf, isB, fit, inb, cut, room, not, and, eqB, avs, rep, ver⟩
variable (G : Named P T N fail need same call loop len slen arith shift cmp conv eqS ltS cat app elt byt subS subL strOf isB fit inb cut room not and eqB avs rep ver)
include G
theorem GenH.need' {b : Bool} {r : Prop} (hb : b = true) (hr : r) : need b r := by
 have : need = (pAlg P T N).need := congrArg Alg.need G.A
 rw [this]; exact ⟨hb, hr⟩
theorem GenH.same' {a b : AV} {r : Prop} (hb : a = b) (hr : r) : same a b r := by
 have : same = (pAlg P T N).same := congrArg Alg.same G.A
 rw [this]; exact ⟨hb, hr⟩
theorem GenH.call' {f : FuncId} {args : List AV} {S : St} {K : Out → St → Prop} (h : CallP P T f args S K) : call f args S K := by
 have : call = (pAlg P T N).call := congrArg Alg.call G.A
 rw [this]; exact h
theorem GenH.len' : len = fun cs => (cs.length : Int) := congrArg Sg.len G.X
theorem GenH.arith' : arith = intBin := congrArg Sg.arith G.X
theorem GenH.cmp' : cmp = intRel := congrArg Sg.cmp G.X
theorem GenH.app' : app = fun a b => a ++ b := congrArg Sg.app G.X
theorem GenH.subL' : subL = fun s i j => (s.drop i.toNat).take (j - i).toNat := congrArg Sg.subL G.X
theorem GenH.cut' : cut = fun i j n => decide (0 ≤ i ∧ i ≤ j ∧ j ≤ n) := congrArg Sg.cut G.X
theorem GenH.room' : room = fun (n : Int) (b : Nat) => decide (n * (b : Int) ≤ 140737488355328) := congrArg Sg.room G.X
theorem GenH.not' : not = fun b => !b := congrArg Sg.not G.X
theorem GenH.and' : and = fun a b => a && b := congrArg Sg.and G.X
theorem GenH.rep' : rep = fun n v => List.replicate n.toNat v := congrArg Sg.rep G.X
theorem GenH.ver' : ver = Nat.beq := congrArg Sg.ver G.X
end
theorem gen_body {P : Program} {mk : Sg → Tab} {N un : Nat} {fi : FnI} {args : List AV} {S : St} {K : Out → St → Prop}
  (h : ∀ fail need same call loop len slen arith shift cmp conv eqS ltS cat app elt byt subS subL strOf isB fit inb cut room not and eqB avs rep ver,
    Named P (mk real) N fail need same call loop len slen arith shift cmp conv eqS ltS cat app elt byt subS subL strOf isB fit inb cut room not and eqB avs rep ver →
    xbody ⟨fail, need, same, call, loop⟩ (mk ⟨len, slen, arith, shift, cmp, conv, eqS, ltS, cat, app, elt, byt, subS, subL, strOf, isB, fit, inb, cut, room, not, and, eqB, avs, rep, ver⟩) un fi args S K) :
  xbody (pAlg P (mk real) N) (mk real) un fi args S K :=
 h _ _ _ _ _ _ _ _ _ _ _ _ _ _ _ _ _ _ _ _ _ _ _ _ _ _ _ _ _ _ _ ⟨rfl, rfl⟩
end Go.AM
namespace Go.AM
def one (a b : Nat) : Nat → Option Nat := fun i => match Nat.beq i a with
 | true => some b
 | false => none
end Go.AM
namespace Go.AM
def flatC : Code → List Code
 | .seq a b => flatC a ++ flatC b
 | c => [c]
theorem flatC_ne : ∀ c : Code, flatC c ≠ []
 | .seq a b => by
  simp only [flatC]
  intro h
  exact flatC_ne a (List.append_eq_nil_iff.1 h).1
 | .region .. => by simp [flatC]
 | .cond .. => by simp [flatC]
 | .block .. => by simp [flatC]
 | .loop .. => by simp [flatC]
 | .skip => by simp [flatC]
 | .exit _ => by simp [flatC]
 | .ret => by simp [flatC]
 | .goto .. => by simp [flatC]
 | .label .. => by simp [flatC]
 | .scope .. => by simp [flatC]
 | .rangeFunc .. => by simp [flatC]
 | .refuse .. => by simp [flatC]
def wpL (P : Program) (Q : Exit → Act → World → Prop) : List Code → Act → World → Prop
 | [], a, w => Q .normal a w
 | c :: l, a, w => c.wp P (Exit.then (wpL P Q l) Q) a w
section
variable {P : Program} {T : Tab}
theorem then_mono {n n' : Act → World → Prop} {Q Q' : Exit → Act → World → Prop} (hn : ∀ a w, n a w → n' a w) (hq : ∀ e a w, Q e a w → Q' e a w) : ∀ e a w, Exit.then n Q e a w → Exit.then n' Q' e a w := by
 intro e a w h
 cases e <;> first | exact hn a w h | exact hq _ a w h
theorem wpL_mono {Q Q' : Exit → Act → World → Prop} (hq : ∀ e a w, Q e a w → Q' e a w) : ∀ (l : List Code) (a : Act) (w : World), wpL P Q l a w → wpL P Q' l a w
 | [], a, w, h => hq _ a w h
 | c :: l, a, w, h => wp_mono h (then_mono (wpL_mono hq l) hq)
theorem then_idem {n : Act → World → Prop} {Q : Exit → Act → World → Prop} {m : Act → World → Prop} : ∀ e a w, Exit.then n (Exit.then m Q) e a w ↔ Exit.then n Q e a w := by
 intro e a w
 cases e <;> exact Iff.rfl
theorem wpL_app {Q : Exit → Act → World → Prop} {m : List Code} : ∀ (l : List Code) (a : Act) (w : World), wpL P (Exit.then (wpL P Q m) Q) l a w ↔ wpL P Q (l ++ m) a w
 | [], a, w => Iff.rfl
 | c :: l, a, w =>
  ⟨fun h => wp_mono h fun e a w h => then_mono (fun a w => (wpL_app l a w).1) (fun _ _ _ h => h) e a w ((then_idem e a w).1 h),
   fun h => wp_mono h fun e a w h => (then_idem e a w).2 (then_mono (fun a w => (wpL_app l a w).2) (fun _ _ _ h => h) e a w h)⟩
theorem wp_of_flat {c : Code} : ∀ {Q : Exit → Act → World → Prop} {a : Act} {w : World}, wpL P Q (flatC c) a w → c.wp P Q a w := by
 induction c with
 | seq x y ihx ihy =>
  intro Q a w h
  simp only [flatC] at h
  exact wp_seq (wp_mono (ihx ((wpL_app _ a w).2 h)) (then_mono (fun a w h => ihy h) fun _ _ _ h => h))
 | _ =>
  intro Q a w h
  simp only [flatC, wpL] at h
  exact wp_mono h fun e a w h => by cases e <;> exact h
theorem wpS_mono {c : Code} {Q Q' : Exit → Act → List Frame → World → Prop} {a : Act} {cs : List Frame} {w : World} (h : c.wpS P Q a cs w) (hq : ∀ e a cs w, Q e a cs w → Q' e a cs w) : c.wpS P Q' a cs w :=
 fun b k hb hr => let ⟨e, a', cs', w', q, r⟩ := h b k hb hr; ⟨e, a', cs', w', hq _ _ _ _ q, r⟩
theorem wpS_of_flat {c x : Code} {l : List Code} (hf : flatC c = x :: l) {Q : Exit → Act → List Frame → World → Prop} {a : Act} {cs : List Frame} {w : World}
  (h : x.wpS P (Exit.thenS (fun a cs w => wpL P (fun e a w => Q e a cs w) l a w) Q) a cs w) : c.wpS P Q a cs w := by
 induction c generalizing l Q with
 | seq p q ihp ihq =>
  simp only [flatC] at hf
  obtain ⟨l1, hl1⟩ : ∃ l1, flatC p = x :: l1 := by
   cases hp : flatC p with
   | nil => exact absurd hp (flatC_ne p)
   | cons y l1 =>
    rw [hp] at hf
    simp only [List.cons_append, List.cons.injEq] at hf
    exact ⟨l1, by rw [hf.1]⟩
  have hl : l = l1 ++ flatC q := by
   rw [hl1] at hf
   simpa using hf.symm
  refine wpS_seq (ihp hl1 (wpS_mono h ?_))
  intro e a cs w hx
  cases e with
  | normal =>
   simp only [Exit.thenS] at hx ⊢
   rw [hl] at hx
   refine wpL_mono (fun e a w hx => ?_) _ a w ((wpL_app l1 a w).2 hx)
   cases e with
   | normal => exact wpS_of_wp (wp_of_flat hx)
   | _ => exact hx
  | _ => exact hx
 | _ =>
  simp only [flatC, List.cons.injEq] at hf
  obtain ⟨rfl, rfl⟩ := hf
  refine wpS_mono h fun e a cs w hx => ?_
  cases e <;> exact hx
end
section
variable {R : Type}
def xlist (A : Alg R) (T : Tab) (ann : List (Nat × Ann)) (un : Nat) (K : Ex → Env → St → R) : List Code → Env → St → R
 | [], env, S => K .normal env S
 | c :: l, env, S => xcode A T ann un c (fun e env S => match e with
   | .normal => xlist A T ann un K l env S
   | .exit i => K (.exit i) env S
   | .ret => K .ret env S
   | .panic v => K (.panic v) env S) env S
structure DfI where
 fi : FnI
 pre : List Code
 post : List Code
 t : Tmp
 cid : FuncId
 cap : List Operand
 ci : FnI
 tr : Tmp
 ts : Tmp
 rest : List Code
def xdefer (A : Alg R) (T : Tab) (un : Nat) (D : DfI) (cap : List AV) (r : AV) (S : St) (K : St → R) : R :=
 xlist A T D.ci.ann un (fun e _ S => match e with
  | .normal => K S
  | .ret => K S
  | .panic _ => A.fail
  | .exit _ => A.fail) D.rest ((D.ts, r) :: (D.tr, r) :: argEnv 0 cap) S
def xbodyD (A : Alg R) (A2 : Alg R) (T : Tab) (un : Nat) (D : DfI) (args : List AV) (S : St) (K : Out → St → R) : R :=
 xlist A T D.fi.ann un (fun e env S => match e with
  | .normal => xlist A T D.fi.ann un (fun e env' S => match e with
    | .normal => xdefer A2 T un D (evs T env D.cap) .nili S fun S => xret A T D.fi.results env' S K
    | .ret => xdefer A2 T un D (evs T env D.cap) .nili S fun S => xret A T D.fi.results env' S K
    | .panic v => match v with
     | .iface t x => xdefer A2 T un D (evs T env D.cap) (.iface t x) S fun S => xret A T D.fi.results env' S K
     | _ => A.fail
    | .exit _ => A.fail) D.post ((D.t, .func D.cid [] (evs T env D.cap)) :: env) S
  | .ret => xret A T D.fi.results env S K
  | .panic v => K (.panic v) S
  | .exit _ => A.fail) D.pre (argEnv 0 args) S
end
section
variable {P : Program} {T : Tab} {N : Nat} {ann : List (Nat × Ann)}
theorem xlist_sound (hT : TabOk P T) (hm : P.follows .mixedOrders = true) (un : Nat) {C : Ctx} (hC : C.n = N) {K : Ex → Env → St → Prop} : ∀ (l : List Code), (l.all (codeOk N ann)) = true → ∀ (env : Env) (S : St) (g : Ghost) (a : Act) (w : World),
  xlist (pAlg P T N) T ann un K l env S → Inv T C g env S a w → wpL P (Post T C K) l a w
 | [], _, env, S, g, a, w, hx, h => ⟨.normal, env, S, g, hx, trivial, h⟩
 | c :: l, hok, env, S, g, a, w, hx, h => by
  simp only [List.all_cons, Bool.and_eq_true] at hok
  simp only [xlist] at hx
  have he : andThen (fun env S => xlist (pAlg P T N) T ann un K l env S) K = fun e env S => match e with
    | .normal => xlist (pAlg P T N) T ann un K l env S
    | .exit i => K (.exit i) env S
    | .ret => K .ret env S
    | .panic v => K (.panic v) env S := by
   funext e env S; cases e <;> rfl
  rw [← he] at hx
  exact wp_mono (xcode_sound hT hm un c hok.1 C hC _ env S hx g a w h) (post_then fun env S g a w hk hI => xlist_sound hT hm un hC l hok.2 env S g a w hk hI)
structure DfOk (P : Program) (f : FuncId) (D : DfI) : Prop where
 fn : ∃ fn body id o1 o2, P.funcs[f]? = some fn ∧ fn.body = some body ∧ fn.ntmps = D.fi.n ∧ fn.results.toList = D.fi.results ∧ (fn.name == "runtime.NumGoroutine") = false ∧
  flatC body = D.pre ++ .region id #[o1, o2] false :: D.post ∧ o1.guard = none ∧ o2.guard = none ∧ o1.dst = some D.t ∧ o2.dst = none ∧
  o1.op = .makeFunc (.func D.cid) #[] D.cap.toArray ∧ ∃ ts, o2.op = .defer { callee := .value (.tmp D.t), args := #[], argTypes := ts }
 lt : D.t < D.fi.n
 pre : D.pre.all (codeOk D.fi.n D.fi.ann) = true
 post : D.post.all (codeOk D.fi.n D.fi.ann) = true
 cf : ∃ cf body id r1 r2, P.funcs[D.cid]? = some cf ∧ cf.body = some body ∧ cf.ntmps = D.ci.n ∧ cf.results = #[] ∧ (cf.name == "runtime.NumGoroutine") = false ∧
  flatC body = .region id #[r1, r2] false :: D.rest ∧ r1.guard = none ∧ r2.guard = none ∧ r1.dst = some D.tr ∧ r2.dst = some D.ts ∧
  (∃ ts, r1.op = .call { callee := .builtin .recover, args := #[], argTypes := ts }) ∧ r2.op = .assign (.tmp D.tr)
 trlt : D.tr < D.ci.n
 tslt : D.ts < D.ci.n
 caplt : D.cap.length ≤ D.ci.n
 rest : D.rest.all (codeOk D.ci.n D.ci.ann) = true
theorem inv_enter {f : FuncId} {fn : Func} {n : Nat} {args : List AV} {vs : List Value} {S : St} {g : Ghost} {w : World} (hn : fn.ntmps = n) (hlen : args.length ≤ n)
  (hrel : WRel T g S w) (hglob : GlobOk T g w) (hargs : ArgsRel T w g args vs) :
  Inv T { n := n, w0 := w, g0 := g, next := S.next, touch := touchOf g } g (argEnv 0 args) S { tmps := vs.toArray ++ Array.replicate (fn.ntmps - vs.toArray.size) undef, defers := [] } w := by
 refine ⟨fun t => ?_, ?_, rfl, hrel, .refl _ _ _, fun o b q => .inl (.inl ⟨o, q⟩), fun k tk b q q' => .inl (.inr (.inl ⟨k, tk, q, q'⟩)), hglob, fun o b q => .inl q, Nat.le_refl _, fun o tk b q q' => .inl (.inr (.inr ⟨o, tk, q, q'⟩)), fun o tk q => .inl (by show g.α o ≠ none; rw [q]; simp)⟩
 · rw [argEnv_get, if_pos (Nat.zero_le _), Nat.sub_zero]
   by_cases ht : t < args.length
   · have := hargs.2 t ht
     have hlt : t < vs.length := by rw [hargs.1]; exact ht
     have he : (vs.toArray ++ Array.replicate (fn.ntmps - vs.toArray.size) undef).getD t undef = vs.getD t undef := by
      simp [Array.getD_eq_getD_getElem?, List.getD_eq_getElem?_getD, Array.getElem?_append, hlt]
     rw [he]; exact this
   · rw [nth_out (by omega)]
     exact .undef _ _
 · simp only [Array.size_append, Array.size_replicate, List.size_toArray, hn, hargs.1]
   omega
structure After (T : Tab) (g : Ghost) (S : St) (w : World) (g' : Ghost) (S' : St) (w' : World) : Prop where
 rel : WRel T g' S' w'
 ext : Ext (touchOf g) g w g' w'
 tch : ∀ b, touchOf g' b → touchOf g b ∨ w.heap.size ≤ b
 nm : ∀ o b, g'.ρ o = some b → g.ρ o = some b ∨ S.next ≤ o
 next : S.next ≤ S'.next
 vn : ∀ o tk, g'.α o = some tk → g.α o ≠ none ∨ S.next ≤ o
theorem after_of {g g' : Ghost} {S S' : St} {w w' : World} {env : Env} {a : Act} {n : Nat} {ds : List Deferred} (h : Inv T { n := n, w0 := w, g0 := g, next := S.next, touch := touchOf g, defers := ds } g' env S' a w') : After T g S w g' S' w' := by
 refine ⟨h.rel, h.ext, ?_, h.nm, h.next, h.vn⟩
 rintro b (⟨o, q⟩ | ⟨k, tk, q, q'⟩ | ⟨k, tk, q, q'⟩)
 · exact h.ob o b q
 · exact h.tb k tk b q q'
 · exact h.vb k tk b q q'
theorem deferred_sound (hT : TabOk P T) (hm : P.follows .mixedOrders = true) (un : Nat) {f : FuncId} {D : DfI} (hD : DfOk P f D) {g : Ghost} {w : World} {S : St} {cap : List AV} {vals : List Value} (hcap : cap.length = D.cap.length) (hrel : WRel T g S w)
  (hglob : GlobOk T g w) (hargs : ArgsRel T w g cap vals) {u : FrameMode} {r : AV} (hu : (u = .returning ∧ r = .nili) ∨ ∃ t x y, r = .iface t x ∧ u = .panicking [{ v := .iface t y, recovered := false }] ∧ Rep T w g r (.iface t y)) {K : St → Prop}
  (hx : xdefer (pAlg P T D.ci.n) T un D cap r S K) :
  CallsD P D.cid vals.toArray u w fun e u' w' => (∃ y, e = .returned y) ∧ settle u' = .returning ∧ ∃ S' g', K S' ∧ After T g S w g' S' w' := by
 obtain ⟨cf, body, id, r1, r2, hf, hb, hn, hres, _, hfl, hg1, hg2, hd1, hd2, ⟨ts, ho1⟩, ho2⟩ := hD.cf
 refine callsD_of_wpS hf hb fun c0 cs hmode => ?_
 refine wpS_of_flat hfl (wpS_region ?_)
 have hI := inv_enter (f := D.cid) (fn := cf) (n := D.ci.n) (args := cap) hn (by have := hD.caplt; omega) hrel hglob hargs
 generalize ({ tmps := vals.toArray ++ Array.replicate (cf.ntmps - vals.toArray.size) undef, defers := [] } : Act) = a0 at *
 have fin : ∀ (x : Value) (c1 : Frame), Rep T w g r x → (∃ u', c1 = { c0 with mode := u' } ∧ settle u' = .returning) →
   wpL P (fun e a w_1 => bodyPostS P cf c0 cs (fun e u' w' => (∃ y, e = .returned y) ∧ settle u' = .returning ∧ ∃ S' g', K S' ∧ After T g S w g' S' w') e a (c1 :: cs) w_1) D.rest ((a0.put (some D.tr) x).put (some D.ts) x) w := by
  rintro x c1 hxr ⟨u', rfl, hset⟩
  have h1 := (hI.put hxr (some D.tr) (fun t h => by cases h; exact hD.trlt)).put hxr (some D.ts) (fun t h => by cases h; exact hD.tslt)
  refine wpL_mono ?_ _ _ _ (xlist_sound hT hm un (C := { n := D.ci.n, w0 := w, g0 := g, next := S.next, touch := touchOf g }) rfl D.rest hD.rest _ S g _ w hx h1)
  have done : ∀ env S' g' a w', K S' → Inv T { n := D.ci.n, w0 := w, g0 := g, next := S.next, touch := touchOf g } g' env S' a w' → a.defers = [] ∧ ∃ u'', ({ c0 with mode := u' } :: cs : List Frame) = { c0 with mode := u'' } :: cs ∧ ∃ v, (results cf a.tmps).run P w' = .ok v w' ∧
    ((∃ y, Ending.returned v = .returned y) ∧ settle u'' = .returning ∧ ∃ S' g', K S' ∧ After T g S w g' S' w') := by
   intro env S' g' a w' hk hI'
   refine ⟨hI'.defers, u', rfl, .tuple #[], ?_, ⟨_, rfl⟩, hset, S', g', hk, after_of hI'⟩
   rw [results_eq, hres]
   simp
  rintro e a w' ⟨ex, env, S', g', hk, hr, hI'⟩
  cases e with
  | normal => cases ex <;> first | exact done env S' g' a w' hk hI' | exact hr.elim
  | ret => cases ex <;> first | exact done env S' g' a w' hk hI' | exact hr.elim
  | panic ch => cases ex <;> first | exact hk.elim | exact hr.elim
  | exit i => cases ex <;> first | exact hk.elim | exact hr.elim
  | goto l => cases ex <;> exact hr.elim
  | outgrown => cases ex <;> exact hr.elim
 have hev : ∀ x, (a0.put (some D.tr) x).eval (.tmp D.tr) = x := by
  intro x
  have hsz : D.tr < a0.tmps.size := by rw [hI.size]; exact hD.trlt
  simp [Act.put, Act.eval, hsz]
 have hrec : (execOp a0.eval r1).run P w = .ok .recover w := by
  simp [execOp, ho1, resolve, invoke, builtin]
 have has : ∀ (a : Act), (execOp a.eval r2).run P w = .ok (.value (a.eval (.tmp D.tr))) w := by
  intro a
  simp [execOp, ho2]
 have hw1 : Region.wanted r1 (yielded #[r1, r2] a0.tmps) = true := by simp [Region.wanted, hg1]
 have hw2 : ∀ t, Region.wanted r2 (yielded #[r1, r2] t) = true := fun t => by simp [Region.wanted, hg2]
 rcases hu with ⟨rfl, rfl⟩ | ⟨t, x, y, rfl, rfl, hy⟩
 · have hrd : recoverD (c0 :: cs) = none := by simp [recoverD, hmode]
   simp only [List.size_toArray, List.length_cons, List.length_nil, List.range_succ, List.range_zero, List.nil_append, List.cons_append, wpOpsS, List.getElem?_toArray, List.getElem?_cons_zero, List.getElem?_cons_succ, hw1, hw2, if_true, hrec, hrd, has, Oper.upon, hd1, hd2, hev]
   exact fin _ c0 (.nili _) ⟨.returning, by cases c0; simp_all, rfl⟩
 · have hrd : recoverD (c0 :: cs) = some (.iface t y, { c0 with mode := .panicking [{ v := .iface t y, recovered := true }] } :: cs) := by simp [recoverD, hmode]
   simp only [List.size_toArray, List.length_cons, List.length_nil, List.range_succ, List.range_zero, List.nil_append, List.cons_append, wpOpsS, List.getElem?_toArray, List.getElem?_cons_zero, List.getElem?_cons_succ, hw1, hw2, if_true, hrec, hrd, has, Oper.upon, hd1, hd2, hev]
   exact fin _ _ hy ⟨_, rfl, rfl⟩
theorem ret_sound (hT : TabOk P T) {fn : Func} {rs : List ResultVar} (hrs : fn.results.toList = rs) {A : Alg Prop} (hA : A.fail = False) {C : Ctx} {g : Ghost} {env : Env} {S : St} {a : Act} {w : World} {K : Out → St → Prop} (hI : Inv T C g env S a w) (hk : xret A T rs env S K) :
  ∃ x v, (results fn a.tmps).run P w = .ok x w ∧ K (.ret v) S ∧ Rep T w g v x := by
 unfold xret at hk
 split at hk
 · rename_i l hl
   obtain ⟨xs, hxs, hl1, hl2⟩ := resAll_sound hT hI hl
   have hrun : (results fn a.tmps).run P w = .ok (if h : xs.toArray.size = 1 then xs.toArray[0] else .tuple xs.toArray) w := by
    have hxs' : (fn.results.mapM (resSem a.tmps)).run P w = .ok xs.toArray w := by
     rw [← hrs] at hxs
     rw [Array.mapM_eq_mapM_toList, map_eq_pure_bind, Sem.run_bind, hxs, Result.andThen_ok]
     rfl
    rw [results_eq, Sem.run_bind, hxs', Result.andThen_ok]
    rfl
   refine ⟨_, oneOf l, hrun, hk, ?_⟩
   cases l with
   | nil =>
    have : xs = [] := List.eq_nil_of_length_eq_zero (by simpa using hl1)
    subst this
    exact .tup _ _ _ rfl (by simp)
   | cons v l =>
    cases l with
    | nil =>
     cases xs with
     | nil => simp at hl1
     | cons x xs =>
      have : xs = [] := List.eq_nil_of_length_eq_zero (by simpa using hl1)
      subst this
      simpa [oneOf, nth] using hl2 0 (by simp)
    | cons v2 l =>
     have : ¬ xs.toArray.size = 1 := by simp [hl1]
     rw [dif_neg this]
     exact .tup _ _ _ hl1 hl2
 · rw [hA] at hk; exact hk.elim
theorem bodyD_calls (hT : TabOk P T) (hm : P.follows .mixedOrders = true) (un : Nat) {f : FuncId} {D : DfI} (hD : DfOk P f D) {args : List AV} {S : St} {K : Out → St → Prop} (hlen : args.length ≤ D.fi.n)
  (hx : xbodyD (pAlg P T D.fi.n) (pAlg P T D.ci.n) T un D args S K) : CallP P T f args S K := by
 intro g w vs hrel hglob hargs
 obtain ⟨fn, body, id, o1, o2, hfn, hb, hn, hrs, hname, hfl, hg1, hg2, hd1, hd2, ho1, ts, ho2⟩ := hD.fn
 have hent : Enters P f := by
  intro args w
  have hn' : ¬ fn.name = "runtime.NumGoroutine" := by simpa using hname
  simp [callFunc, hfn, hn', hb]
 have hcent : Enters P D.cid := by
  obtain ⟨cf, cbody, _, _, _, hcf, hcb, _, _, hcn, _⟩ := hD.cf
  intro args w
  have hn' : ¬ cf.name = "runtime.NumGoroutine" := by simpa using hcn
  simp [callFunc, hcf, hn', hcb]
 refine .inl ⟨hent, calls_of_wp_defers hfn hb (wp_of_flat ?_)⟩
 rw [hfl]
 have hI := inv_enter (f := f) (fn := fn) (n := D.fi.n) (args := args) hn hlen hrel hglob hargs
 generalize ({ tmps := vs.toArray ++ Array.replicate (fn.ntmps - vs.toArray.size) undef, defers := [] } : Act) = a0 at *
 rw [← wpL_app]
 have fin0 : ∀ env S' g' a w', xret (pAlg P T D.fi.n) T D.fi.results env S' K → Inv T { n := D.fi.n, w0 := w, g0 := g, next := S.next, touch := touchOf g } g' env S' a w' → Leaves P fn a.tmps (callPost T g S w K) a.defers .returning w' := by
  intro env S' g' a w' hk hI'
  rw [hI'.defers]
  obtain ⟨x, v, hrun, hkv, hv⟩ := ret_sound hT hrs rfl hI' hk
  have hA := after_of hI'
  exact ⟨x, hrun, .ret v, S', g', hkv, hv, hA.rel, hA.ext, hA.tch, hA.nm, hA.next, hA.vn⟩
 refine wpL_mono ?_ _ _ _ (xlist_sound hT hm un (C := { n := D.fi.n, w0 := w, g0 := g, next := S.next, touch := touchOf g }) rfl D.pre hD.pre _ S g _ w hx hI)
 rintro e a w' ⟨ex, env, S', g', hk, hr, hI'⟩
 cases e with
 | exit i => cases ex <;> first | exact hk.elim | exact hr.elim
 | goto l => cases ex <;> exact hr.elim
 | outgrown => cases ex <;> exact hr.elim
 | ret => cases ex <;> first | exact fin0 env S' g' a w' hk hI' | exact hr.elim
 | panic ch =>
  cases ex with
  | panic v =>
   obtain ⟨x, rfl, hv⟩ := hr
   have hA := after_of hI'
   show Leaves P fn a.tmps (callPost T g S w K) a.defers _ w'
   rw [hI'.defers]
   exact ⟨.panic v, S', g', hk, ⟨x, rfl, hv⟩, hA.rel, hA.ext, hA.tch, hA.nm, hA.next, hA.vn⟩
  | _ => exact hr.elim
 | normal =>
  cases ex with
  | normal =>
   simp only [Exit.then, wpL] at hk ⊢
   refine wp_region ?_
   have hw1 : Region.wanted o1 (yielded #[o1, o2] a.tmps) = true := by simp [Region.wanted, hg1]
   have hw2 : ∀ t, Region.wanted o2 (yielded #[o1, o2] t) = true := fun t => by simp [Region.wanted, hg2]
   have hcapR := args_rel hT hI' D.cap
   obtain ⟨vals, hvals⟩ : ∃ vals, D.cap.map a.eval = vals := ⟨_, rfl⟩
   rw [hvals] at hcapR
   have hrun1 : (execOp a.eval o1).run P w' = .ok (.value (.func (.func D.cid) #[] vals.toArray)) w' := by
    simp [execOp, ho1, Instr.makeFunc, ← hvals]
   have hfr : Rep T w' g' (.func D.cid [] (evs T env D.cap)) (.func (.func D.cid) #[] vals.toArray) := .func _ _ [] _ [] vals rfl hcapR.1 (fun j hj => by simp at hj) hcapR.2
   have hput := hI'.put hfr (some D.t) (fun t h => by cases h; exact hD.lt)
   have hev : (a.put (some D.t) (.func (.func D.cid) #[] vals.toArray)).eval (.tmp D.t) = .func (.func D.cid) #[] vals.toArray := by
    have hsz : D.t < a.tmps.size := by rw [hI'.size]; exact hD.lt
    simp [Act.put, Act.eval, hsz]
   have hrun2 : (execOp (a.put (some D.t) (.func (.func D.cid) #[] vals.toArray)).eval o2).run P w' = .ok (.defer { target := .fn (.func D.cid) vals.toArray, args := #[] }) w' := by
    simp [execOp, ho2, resolve, hev, Deferred.ofValue]
   generalize ha1 : a.put (some D.t) (.func (.func D.cid) #[] vals.toArray) = a1 at *
   have hw2' := hw2 a1.tmps
   simp only [List.size_toArray, List.length_cons, List.length_nil, List.range_succ, List.range_zero, List.nil_append, List.cons_append, wpOps, List.getElem?_toArray, List.getElem?_cons_zero, List.getElem?_cons_succ, hw1, if_true]
   refine .inl ?_
   unfold Oper.wp
   rw [hrun1]
   simp only [Oper.upon, hd1, ha1, hw2', if_true]
   refine .inl ?_
   try unfold Oper.wp
   rw [hrun2]
   simp only [Oper.upon, hd2, Act.put]
   have hd0 : a1.defers = [] := hput.defers
   have hI2 : Inv T { n := D.fi.n, w0 := w, g0 := g, next := S.next, touch := touchOf g, defers := [{ target := .fn (.func D.cid) vals.toArray, args := #[] }] } g' ((D.t, .func D.cid [] (evs T env D.cap)) :: env) S' { a1 with defers := { target := .fn (.func D.cid) vals.toArray, args := #[] } :: a1.defers } w' :=
    ⟨hput.tmp, hput.size, by rw [hd0], hput.rel, hput.ext, hput.ob, hput.tb, hput.glob, hput.nm, hput.next, hput.vb, hput.vn⟩
   have hI3 := hI2.rebase
   have hcl : (evs T env D.cap).length = D.cap.length := by rw [evs_eq]; simp
   generalize evs T env D.cap = capA at *
   generalize hd : ({ target := .fn (.func D.cid) vals.toArray, args := #[] } : Deferred) = dd at *
   have leave : ∀ (r : AV) (u : FrameMode) (env2 : Env) (S2 : St) (g2 : Ghost) (a2 : Act) (w2 : World), u ≠ .run → ((u = .returning ∧ r = .nili) ∨ ∃ t x y, r = .iface t x ∧ u = .panicking [{ v := .iface t y, recovered := false }] ∧ Rep T w2 g2 r (.iface t y)) →
     (xdefer (pAlg P T D.ci.n) T un D capA r S2 fun S => xret (pAlg P T D.fi.n) T D.fi.results env2 S K) →
     Inv T (AM.rebase { n := D.fi.n, w0 := w, g0 := g, next := S.next, touch := touchOf g, defers := [dd] } g' S' w') g2 env2 S2 a2 w2 → Leaves P fn a2.tmps (callPost T g S w K) a2.defers u w2 := by
    intro r u env2 S2 g2 a2 w2 hne hu hx2 hI4
    have hI5 := (hI2.unbase hI4).1
    rw [hI4.defers]
    show Leaves P fn a2.tmps (callPost T g S w K) [dd] u w2
    rw [← hd]
    have hcap2 : ArgsRel T w2 g2 capA vals := ⟨hcapR.1, fun j hj => (hcapR.2 j hj).keeps hI4.ext.keeps⟩
    refine leaves_cons hne ?_ ((deferred_sound hT hm un hD hcl hI5.rel (fun gl t e hg => hI5.glob gl t e hg) hcap2 hu hx2).mono ?_)
    · simp only [invoke]
      have := hcent (#[] ++ vals.toArray) w2
      simpa using this
    · rintro e u' w3 ⟨⟨y, rfl⟩, hset, S3, g3, hk3, hA3⟩
      simp only
      rw [hset]
      have hI6 := ext_of_call hT hI5 hA3.rel hA3.ext hA3.tch hA3.nm hA3.next hA3.vn
      obtain ⟨x, v, hrun, hkv, hv⟩ := ret_sound hT hrs rfl hI6 hk3
      have hA := after_of hI6
      exact ⟨x, hrun, .ret v, S3, g3, hkv, hv, hA.rel, hA.ext, hA.tch, hA.nm, hA.next, hA.vn⟩
   refine wpL_mono ?_ _ _ _ (xlist_sound hT hm un (C := AM.rebase { n := D.fi.n, w0 := w, g0 := g, next := S.next, touch := touchOf g, defers := [dd] } g' S' w') rfl D.post hD.post _ S' g' _ w' hk hI3)
   rintro e a2 w2 ⟨ex, env2, S2, g2, hk2, hr2, hI4⟩
   cases e with
   | normal =>
    cases ex with
    | normal => exact leave .nili .returning env2 S2 g2 a2 w2 (by simp) (.inl ⟨rfl, rfl⟩) hk2 hI4
    | _ => exact hr2.elim
   | ret =>
    cases ex with
    | ret => exact leave .nili .returning env2 S2 g2 a2 w2 (by simp) (.inl ⟨rfl, rfl⟩) hk2 hI4
    | _ => exact hr2.elim
   | panic ch =>
    cases ex with
    | panic v =>
     obtain ⟨x, rfl, hv⟩ := hr2
     cases v with
     | iface t y =>
      have hv' := hv
      cases hv with
      | iface _ _ _ z hz => exact leave _ _ env2 S2 g2 a2 w2 (by simp) (.inr ⟨t, y, z, rfl, rfl, hv'⟩) hk2 hI4
     | _ => exact hk2.elim
    | _ => exact hr2.elim
   | exit i => cases ex <;> first | exact hk2.elim | exact hr2.elim
   | goto l => cases ex <;> exact hr2.elim
   | outgrown => cases ex <;> exact hr2.elim
  | _ => exact hr.elim
end
end Go.AM
namespace Go.AM
section
variable {R : Type} {A A2 : Alg R} {B B2 : Alg Prop} {h : R → Prop} (H : Hom A B h) (H2 : Hom A2 B2 h) {T : Tab}
include H
theorem xlist_hom {ann : List (Nat × Ann)} {un : Nat} {K : Ex → Env → St → R} {K' : Ex → Env → St → Prop} (hk : ∀ e env S, h (K e env S) → K' e env S) : ∀ {l : List Code} {env : Env} {S : St}, h (xlist A T ann un K l env S) → xlist B T ann un K' l env S
 | [], env, S, hx => hk _ _ _ hx
 | c :: l, env, S, hx => by
  simp only [xlist] at hx ⊢
  refine xcode_hom H (fun e env S hx => ?_) hx
  cases e with
  | normal => exact xlist_hom hk hx
  | _ => exact hk _ _ _ hx
theorem xret_hom {rs : List ResultVar} {env : Env} {S : St} {K : Out → St → R} {K' : Out → St → Prop} (hk : ∀ o S, h (K o S) → K' o S) (hx : h (xret A T rs env S K)) : xret B T rs env S K' := by
 unfold xret at hx ⊢
 cases hr : resAll T env S rs with
 | none => rw [hr] at hx; exact (H.fail hx).elim
 | some l => rw [hr] at hx; exact hk _ _ hx
theorem xdefer_hom {un : Nat} {D : DfI} {cap : List AV} {r : AV} {S : St} {K : St → R} {K' : St → Prop} (hk : ∀ S, h (K S) → K' S) (hx : h (xdefer A T un D cap r S K)) : xdefer B T un D cap r S K' := by
 unfold xdefer at hx ⊢
 refine xlist_hom H (fun e env S hx => ?_) hx
 cases e with
 | normal => exact hk _ hx
 | ret => exact hk _ hx
 | panic v => exact (H.fail hx).elim
 | exit i => exact (H.fail hx).elim
include H2 in
theorem xbodyD_hom {un : Nat} {D : DfI} {args : List AV} {S : St} {K : Out → St → R} {K' : Out → St → Prop} (hk : ∀ o S, h (K o S) → K' o S) (hx : h (xbodyD A A2 T un D args S K)) : xbodyD B B2 T un D args S K' := by
 unfold xbodyD at hx ⊢
 refine xlist_hom H (fun e env S hx => ?_) hx
 cases e with
 | ret => exact xret_hom H hk hx
 | panic v => exact hk _ _ hx
 | exit i => exact (H.fail hx).elim
 | normal =>
  refine xlist_hom H (fun e env' S hx => ?_) hx
  cases e with
  | normal => exact xdefer_hom H2 (fun S hx => xret_hom H hk hx) hx
  | ret => exact xdefer_hom H2 (fun S hx => xret_hom H hk hx) hx
  | exit i => exact (H.fail hx).elim
  | panic v =>
   cases v with
   | iface t x => exact xdefer_hom H2 (fun S hx => xret_hom H hk hx) hx
   | _ => exact (H.fail hx).elim
end
def cAlg (T : Tab) (fns : FuncId → Option FnI) (dfs : FuncId → Option DfI) (prim : FuncId → List AV → St → Option (AV × St)) (un : Nat) : Nat → Alg Bool
 | 0 => { fail := false, need := fun b r => match b with | true => r | false => false, same := fun a b r => match avEq a b with | true => r | false => false, call := fun _ _ _ _ => false, loop := fun _ _ _ _ => false }
 | d + 1 => { fail := false, need := fun b r => match b with | true => r | false => false, same := fun a b r => match avEq a b with | true => r | false => false, loop := fun _ _ _ _ => false,
              call := fun f args S K => match fns f with
               | some fi => match Nat.ble (lenN args) fi.n with
                | true => xbody (cAlg T fns dfs prim un d) T un fi args S K
                | false => false
               | none => match prim f args S with
                | some (v, S') => K (.ret v) S'
                | none => match dfs f with
                 | some D => match Nat.ble (lenN args) D.fi.n with
                  | true => xbodyD (cAlg T fns dfs prim un d) (cAlg T fns dfs prim un d) T un D args S K
                  | false => false
                 | none => false }
section
variable {P : Program} {T : Tab} (hT : TabOk P T) (hm : P.follows .mixedOrders = true) {fns : FuncId → Option FnI} (hf : ∀ f fi, fns f = some fi → FnOk P f fi)
variable {dfs : FuncId → Option DfI} (hd : ∀ f D, dfs f = some D → DfOk P f D) {prim : FuncId → List AV → St → Option (AV × St)} (hp : ∀ f args S v S', prim f args S = some (v, S') → ∀ (K : Out → St → Prop), K (.ret v) S' → CallP P T f args S K)
include hT hm hf hd hp
theorem cAlg_hom (un : Nat) : ∀ (d N : Nat), Hom (cAlg T fns dfs prim un d) (pAlg P T N) (fun b => b = true)
 | 0, N => ⟨fun h => by simp [cAlg] at h, fun b _ _ h k => by cases b <;> simp [cAlg] at h; exact ⟨rfl, k h⟩, fun a b _ _ h k => by
   simp only [cAlg] at h
   cases hq : avEq a b with
   | false => rw [hq] at h; cases h
   | true => rw [hq] at h; exact ⟨avEq_eq hq, k h⟩, fun _ _ _ _ _ h _ => by simp [cAlg] at h, fun _ _ _ _ _ h _ => by simp [cAlg] at h⟩
 | d + 1, N => ⟨fun h => by simp [cAlg] at h, fun b _ _ h k => by cases b <;> simp [cAlg] at h; exact ⟨rfl, k h⟩, fun a b _ _ h k => by
   simp only [cAlg] at h
   cases hq : avEq a b with
   | false => rw [hq] at h; cases h
   | true => rw [hq] at h; exact ⟨avEq_eq hq, k h⟩, fun f args S K K' h k => by
   simp only [cAlg] at h
   cases hq : fns f with
   | some fi =>
    rw [hq] at h
    simp only at h
    cases hl : Nat.ble (lenN args) fi.n with
    | false => rw [hl] at h; cases h
    | true =>
     rw [hl] at h
     exact body_calls hT hm (hf f fi hq) (by have := Nat.le_of_ble_eq_true hl; rwa [lenN_eq] at this) (un := un) (xbody_hom (cAlg_hom un d fi.n) k h)
   | none =>
    rw [hq] at h
    simp only at h
    cases hpr : prim f args S with
    | some vs => obtain ⟨v, S'⟩ := vs; rw [hpr] at h; exact hp f args S v S' hpr K' (k _ _ h)
    | none =>
     rw [hpr] at h
     simp only at h
     cases hdf : dfs f with
     | none => rw [hdf] at h; cases h
     | some D =>
      rw [hdf] at h
      simp only at h
      cases hl : Nat.ble (lenN args) D.fi.n with
      | false => rw [hl] at h; cases h
      | true =>
       rw [hl] at h
       exact bodyD_calls hT hm un (hd f D hdf) (by have := Nat.le_of_ble_eq_true hl; rwa [lenN_eq] at this) (xbodyD_hom (cAlg_hom un d D.fi.n) (cAlg_hom un d D.ci.n) k h), fun _ _ _ _ _ h _ => by simp [cAlg] at h⟩
theorem callP_run (un d : Nat) {f : FuncId} {args : List AV} {S : St} {q : Out → St → Bool} (h : (cAlg T fns dfs prim un d).call f args S q = true) : CallP P T f args S fun o S' => q o S' = true :=
 (cAlg_hom hT hm hf hd hp un d 0).call f args S q _ h fun _ _ h => h
end
end Go.AM
namespace Go.AM
def unk (T : Tab) (e : TypeId) : AV :=
 match T.agg e with
 | true => .agg (List.replicate (T.size e) .undef)
 | false => .undef
theorem unk_fit {T : Tab} {e : TypeId} (hh : T.has e = true) : Fit T e (unk T e) ∧ ∀ j, nth (unk T e).cells j = .undef := by
 have hs := T.size_eq e
 have ha := T.agg_eq e
 unfold unk
 cases hag : T.agg e with
 | true =>
  refine ⟨.inl ⟨hag, _, rfl, by simp⟩, fun j => ?_⟩
  show nth (List.replicate (T.size e) AV.undef) j = .undef
  rw [nth_eq]
  simp only [List.getD_eq_getElem?_getD, List.getElem?_replicate]
  split <;> rfl
 | false =>
  rw [ha] at hag
  have one : (T.ty e).zs.length = 1 := by
   cases ht : T.ty e with
   | struct => rw [ht] at hag; cases hag
   | array => rw [ht] at hag; cases hag
   | other => unfold Tab.has at hh; rw [ht] at hh; cases hh
   | _ => rfl
  refine ⟨.inr ⟨by rw [ha]; exact hag, by rw [hs, one], rfl⟩, fun j => ?_⟩
  cases j <;> rfl
theorem triv_inv {T : Tab} {g : Ghost} {S : St} {w : World} (hrel : WRel T g S w) (hglob : GlobOk T g w) :
  Inv T { n := 0, w0 := w, g0 := g, next := S.next, touch := touchOf g } g [] S { tmps := #[], defers := [] } w :=
 ⟨fun t => .undef _ _, rfl, rfl, hrel, .refl _ _ _, fun o b q => .inl (.inl ⟨o, q⟩), fun k tk b q q' => .inl (.inr (.inl ⟨k, tk, q, q'⟩)), hglob, fun o b q => .inl q, Nat.le_refl _,
   fun o tk b q q' => .inl (.inr (.inr ⟨o, tk, q, q'⟩)), fun o tk q => .inl (by show g.α o ≠ none; rw [q]; simp)⟩
theorem no_ρ {T : Tab} {g : Ghost} {S : St} {w : World} (r : WRel T g S w) {o : Nat} {tk : VTok} (hα : g.α o = some tk) : g.ρ o = none := by
 cases hq : g.ρ o with
 | none => rfl
 | some q => have := r.vec.one o q hq; rw [hα] at this; cases this
theorem WRel.reveal {T : Tab} {g : Ghost} {S : St} {w : World} (r : WRel T g S w) (hglob : GlobOk T g w) {o v : Nat} {e : TypeId} {cs : List AV} {tk : VTok} (hh : T.has e = true) (hα : g.α o = some tk) (hvec : S.vec e o v = some (false, cs)) :
  WRel T (setVec g o { tk with n := tk.cap }) (S.set o [.mrow e v true (cs ++ List.replicate (tk.cap - tk.n) (unk T e))]) w ∧ Keeps g w (setVec g o { tk with n := tk.cap }) w := by
 obtain ⟨hte, htv, b, c, hb, hcl, hn, hfull, hmx, hsz, hcc, hcs, hone, hfit, hR0⟩ := r.vecAt hα hvec
 obtain ⟨hf, hu⟩ := unk_fit (T := T) hh
 have hrow := vrow_set (q := [.mrow e v true (cs ++ List.replicate (tk.cap - tk.n) (unk T e))]) (vec_row hvec) (by simp)
 have hlen : (cs ++ List.replicate (tk.cap - tk.n) (unk T e)).length = tk.cap := by simp; omega
 have hnth : ∀ i, nth (cs ++ List.replicate (tk.cap - tk.n) (unk T e)) i = if i < cs.length then nth cs i else nth (List.replicate (tk.cap - tk.n) (unk T e)) (i - cs.length) := by
  intro i
  simp only [nth_eq, List.getD_eq_getElem?_getD]
  split
  · rename_i hlt; rw [List.getElem?_append_left hlt]
  · rename_i hge; rw [List.getElem?_append_right (by omega)]
 have hrep : ∀ i, i < tk.cap - tk.n → nth (List.replicate (tk.cap - tk.n) (unk T e)) i = unk T e := fun i hi => by
  rw [nth_eq]; simp [List.getD_eq_getElem?_getD, hi]
 obtain ⟨hI, hK⟩ := (triv_inv r hglob).vtell (o := o) (b := b) (S' := S.set o [.mrow e v true (cs ++ List.replicate (tk.cap - tk.n) (unk T e))]) (w' := w) (c := c) { tk with n := tk.cap } true _ (fun t0 e0 => by
   have : tk = t0 := by rw [hα] at e0; simpa using e0
   subst this
   exact ⟨rfl, .inr (.inr ⟨rfl, rfl, rfl, rfl⟩)⟩) hb (by show o < S.next; exact (r.vec.ok o tk hα).1) (Nat.le_refl _) (no_ρ r hα)
  (by rw [hrow, if_pos rfl]; simp only [hte, htv]) (fun p hp _ => by rw [hrow, if_neg (Ne.symm hp)]) rfl rfl rfl rfl (Nat.le_refl _) (fun _ _ _ => rfl) (.inl ⟨tk, hα, hb⟩)
  (by simpa only [hte] using hcc) (by simpa only [hte] using hsz) (by simpa only [hte] using hcs) hone hlen (Nat.le_refl _) (fun _ => rfl) hmx (fun i hi => by
    rw [hlen] at hi
    rw [hnth]
    split
    · rename_i hlt; simpa only [hte] using hfit i hlt
    · rw [hrep _ (by omega)]; simpa only [hte] using hf) (fun i j hi hj => by
    rw [hlen] at hi
    rw [hnth]
    split
    · rename_i hlt; simpa only [hte] using hR0 i j hlt (by simpa only [hte] using hj)
    · rw [hrep _ (by omega), hu]; exact .undef _ _) (.inl (by rw [hα]; simp))
 exact ⟨hI.rel, hK⟩
theorem touch_set {g : Ghost} {o : Nat} {tk tk' : VTok} (hα : g.α o = some tk) (hb : tk'.b = tk.b) (b : Nat) : touchOf (setVec g o tk') b ↔ touchOf g b := by
 constructor
 · rintro (q | q | ⟨p, t, q, q'⟩)
   · exact .inl q
   · exact .inr (.inl q)
   · by_cases hp : p = o
     · subst hp
       simp only [setVec, if_true, Option.some.injEq] at q
       subst q
       exact .inr (.inr ⟨p, tk, hα, by rw [← hb]; exact q'⟩)
     · simp only [setVec, if_neg hp] at q
       exact .inr (.inr ⟨p, t, q, q'⟩)
 · rintro (q | q | ⟨p, t, q, q'⟩)
   · exact .inl q
   · exact .inr (.inl q)
   · by_cases hp : p = o
     · subst hp
       rw [hα] at q
       simp only [Option.some.injEq] at q
       subst q
       exact .inr (.inr ⟨p, tk', by simp [setVec], by rw [hb]; exact q'⟩)
     · exact .inr (.inr ⟨p, t, by simp [setVec, hp, q], q'⟩)
theorem CallP.reveal {P : Program} {T : Tab} {f : FuncId} {rest : List AV} {S : St} {K : Out → St → Prop} {e : TypeId} {o v : Nat} {n : Int} {cs : List AV} (hh : T.has e = true) (hvec : S.vec e o v = some (false, cs))
  (h : ∀ k : Nat, cs.length + k ≤ maxLen → n ≤ (cs.length : Int) → 0 ≤ n → CallP P T f (.msf e o v 0 n ((cs.length + k : Nat) : Int) :: rest) (S.set o [.mrow e v true (cs ++ List.replicate k (unk T e))]) K) :
  CallP P T f (.msl e o v 0 n :: rest) S K := by
 intro g w vs r hglob hargs
 have h0 := hargs.2 0 (by simp)
 have hv0 : nth (AV.msl e o v 0 n :: rest) 0 = .msl e o v 0 n := rfl
 rw [hv0] at h0
 generalize hu : vs.getD 0 undef = u at h0
 cases h0 with
 | msl _ _ _ _ _ _ ad cap tk hα he hv hn hcn hmax hst hc =>
  obtain ⟨hte, htv, b, c, hb, hcl, hnn, hfull, hmx, hsz, hcc, hcs, hone, hfit, hR0⟩ := r.vecAt hα hvec
  obtain ⟨-, q1, ⟨q2, q3⟩, q4⟩ := hc htv.symm
  have hcap : cap = tk.cap := by simpa using q2
  have hnle : n ≤ (cs.length : Int) := by
   have : (0 + n).toNat = n.toNat := by rw [Int.zero_add]
   omega
  obtain ⟨rR, kR⟩ := r.reveal hglob hh hα hvec
  have hk := h (tk.cap - tk.n) (by omega) hnle hn
  have hglobR : GlobOk T (setVec g o { tk with n := tk.cap }) w := fun gl t e hg => (hglob gl t e hg).keeps kR
  have hcl2 : cs.length + (tk.cap - tk.n) = tk.cap := by omega
  rw [hcl2] at hk
  have hargsR : ArgsRel T w (setVec g o { tk with n := tk.cap }) (.msf e o v 0 n ((tk.cap : Nat) : Int) :: rest) vs := by
   refine ⟨hargs.1, fun j hj => ?_⟩
   cases j with
   | zero =>
    show Rep T w _ (.msf e o v 0 n ((tk.cap : Nat) : Int)) (vs.getD 0 undef)
    rw [hu]
    have := Rep.msf (T := T) (w := w) (setVec g o { tk with n := tk.cap }) e o v 0 n ((tk.cap : Nat) : Int) ad { tk with n := tk.cap } (by simp [setVec]) he hv ⟨hn, by omega, by simpa using q3⟩ hst (fun _ => ⟨by omega, by simp, rfl, q3, fun b2 hb2 hpos => q4 b2 hb2 (by omega)⟩)
    simp only [Int.toNat_natCast] at this
    rwa [hcap]
   | succ j => exact (hargs.2 (j + 1) hj).keeps kR
  have key : ∀ e' w', callPost T (setVec g o { tk with n := tk.cap }) (S.set o [.mrow e v true (cs ++ List.replicate (tk.cap - tk.n) (unk T e))]) w K e' w' → callPost T g S w K e' w' := by
   rintro e' w' ⟨out, S', g', hk, hor, hr, ex, ht, nm, nx, vn⟩
   have htt := fun b => touch_set (g := g) (o := o) (tk' := { tk with n := tk.cap }) hα rfl b
   refine ⟨out, S', g', hk, hor, hr, ⟨ex.os, ex.tape, ex.output, ex.size, kR.trans ex.keeps, fun b hb hnt => ex.frame b hb (fun q => hnt ((htt b).1 q)), fun b off hD => ?_⟩, fun b q => ?_, nm, nx, fun p t q => ?_⟩
   · rcases ex.newD b off hD with q | q | q
     · exact .inl q
     · exact .inr (.inl ((htt b).1 q))
     · exact .inr (.inr q)
   · rcases ht b q with q | q
     · exact .inl ((htt b).1 q)
     · exact .inr q
   · rcases vn p t q with q | q
     · refine .inl fun hq => q ?_
       by_cases hp : p = o
       · subst hp; rw [hα] at hq; cases hq
       · simp [setVec, hp, hq]
     · exact .inr q
  rcases hk _ w vs rR hglobR hargsR with ⟨h1, h2⟩ | ⟨x, w', h1, h2⟩
  · exact .inl ⟨h1, Calls.mono h2 fun e' w' q => key e' w' q⟩
  · exact .inr ⟨x, w', h1, key _ _ h2⟩
theorem WRel.steal {T : Tab} {g : Ghost} {S : St} {w : World} (r : WRel T g S w) {o o2 v2 : Nat} {e : TypeId} {full2 : Bool} {cs2 : List AV} {tk tk2 : VTok} (hne : o2 ≠ o) (hα : g.α o = some tk) (hte : tk.e = e) (hα2 : g.α o2 = some tk2) (hvec2 : S.vec e o2 v2 = some (full2, cs2))
  (hro : S.row o ≠ []) {m : Nat} (hm : m ≤ cs2.length) :
  let tk' : VTok := { e := e, v := tk.v + 1, b := tk2.b, cap := tk2.cap, n := m }
  let g' : Ghost := { g with α := fun i => if i = o then some tk' else if i = o2 then some { tk2 with v := tk2.v + 1, b := none } else g.α i }
  WRel T g' ((S.set o [.mrow e (tk.v + 1) false (cs2.take m)]).set o2 [.undef]) w ∧ Keeps g w g' w ∧ (∀ b, touchOf g' b → touchOf g b) := by
 intro tk' g'
 obtain ⟨hte2, htv2, b, c, hb, hcl, hn, hfull, hmx, hsz, hcc, hcs, hone, hfit, hR0⟩ := r.vecAt hα2 hvec2
 have g1 : g'.α o = some tk' := by simp [g']
 have g2 : g'.α o2 = some { tk2 with v := tk2.v + 1, b := none } := by simp [g', hne]
 have g3 : ∀ p, p ≠ o → p ≠ o2 → g'.α p = g.α p := fun p h1 h2 => by simp [g', h1, h2]
 have hK : Keeps g w g' w := by
  refine ⟨fun _ _ e => e, fun _ t e => ⟨t, e, rfl, .inl rfl⟩, fun _ _ e => e, fun _ _ _ => rfl, fun _ c _ fr h => ⟨c, fr, h⟩, fun p t e0 => ?_⟩
  by_cases hp : p = o
  · subst hp
    have : tk = t := by rw [hα] at e0; simpa using e0
    subst this
    exact ⟨tk', g1, hte.symm, .inr (.inl (by show tk.v < tk.v + 1; omega))⟩
  · by_cases hp2 : p = o2
    · subst hp2
      have : tk2 = t := by rw [hα2] at e0; simpa using e0
      subst this
      exact ⟨_, g2, rfl, .inr (.inl (by show tk2.v < tk2.v + 1; omega))⟩
    · exact ⟨t, (g3 p hp hp2).trans e0, rfl, .inl rfl⟩
 have hro2 : S.row o2 ≠ [] := by rw [vec_row hvec2]; simp
 have hrow1 : ∀ p, (S.set o [.mrow e (tk.v + 1) false (cs2.take m)]).row p = if o = p then [.mrow e (tk.v + 1) false (cs2.take m)] else S.row p := fun p => rowIn_set _ _ _ _ hro
 have hrow : ∀ p, ((S.set o [.mrow e (tk.v + 1) false (cs2.take m)]).set o2 [.undef]).row p = if o2 = p then [.undef] else if o = p then [.mrow e (tk.v + 1) false (cs2.take m)] else S.row p := fun p => by
  have h1 : ((S.set o [.mrow e (tk.v + 1) false (cs2.take m)]).set o2 [.undef]).row p = if o2 = p then [.undef] else (S.set o [.mrow e (tk.v + 1) false (cs2.take m)]).row p :=
   rowIn_set _ _ _ _ (by show (S.set o _).row o2 ≠ []; rw [hrow1, if_neg (Ne.symm hne)]; exact hro2)
  rw [h1, hrow1]
 have hlo : ∀ p q, g.ρ p = some q → p ≠ o ∧ p ≠ o2 := fun p q e0 => ⟨(by rintro rfl; rw [no_ρ r hα] at e0; cases e0), (by rintro rfl; rw [no_ρ r hα2] at e0; cases e0)⟩
 have hrowρ : ∀ p q, g.ρ p = some q → ((S.set o [.mrow e (tk.v + 1) false (cs2.take m)]).set o2 [.undef]).row p = S.row p := fun p q e0 => by
  obtain ⟨h1, h2⟩ := hlo p q e0
  rw [hrow, if_neg (Ne.symm h2), if_neg (Ne.symm h1)]
 have htl : (cs2.take m).length = m := by simp; omega
 have hnth : ∀ i, i < m → nth (cs2.take m) i = nth cs2 i := fun i hi => by
  rw [nth_eq, nth_eq]; simp only [List.getD_eq_getElem?_getD]; rw [List.getElem?_take, if_pos hi]
 have cases_α : ∀ p t, g'.α p = some t → (p = o ∧ t = tk') ∨ (p = o2 ∧ t = { tk2 with v := tk2.v + 1, b := none }) ∨ (p ≠ o ∧ p ≠ o2 ∧ g.α p = some t) := fun p t e0 => by
  by_cases hp : p = o
  · subst hp; rw [g1] at e0; exact .inl ⟨rfl, by simpa using e0.symm⟩
  · by_cases hp2 : p = o2
    · subst hp2; rw [g2] at e0; exact .inr (.inl ⟨rfl, by simpa using e0.symm⟩)
    · exact .inr (.inr ⟨hp, hp2, (g3 p hp hp2).symm.trans e0⟩)
 have blk : ∀ p t b', g'.α p = some t → t.b = some b' → (p = o ∧ b' = b) ∨ (p ≠ o ∧ p ≠ o2 ∧ g.α p = some t ∧ b' ≠ b) := fun p t b' e0 e1 => by
  rcases cases_α p t e0 with ⟨rfl, rfl⟩ | ⟨rfl, rfl⟩ | ⟨h1, h2, h3⟩
  · left
    have : tk2.b = some b' := e1
    rw [hb] at this
    exact ⟨rfl, by simpa using this.symm⟩
  · cases e1
  · refine .inr ⟨h1, h2, h3, ?_⟩
    rintro rfl
    exact h2 (r.vec.inj p o2 t tk2 b' h3 hα2 e1 hb)
 refine ⟨⟨?_, r.inj, r.dom, r.apart, r.live, r.tok, r.tinj, ?_⟩, hK, ?_⟩
 · intro p q e0
   obtain ⟨c0, t0, hc0, hs0, h10, hR⟩ := r.obj p q e0
   refine ⟨c0, t0, hc0, by rw [hrowρ p q e0]; exact hs0, h10, fun j hj => ?_⟩
   rw [hrowρ p q e0] at hj ⊢
   exact (hR j hj).keeps hK
 · refine ⟨fun p t e0 => ?_, fun p t e0 hd => ?_, fun p p' t t' b' e0 e0' q q' => ?_, fun p t b' e0 q x hx => ?_, fun p t b' e0 q off => ?_, fun p t b' e0 q k tt ek => ?_, fun p q e0 => ?_⟩
   · rcases cases_α p t e0 with ⟨rfl, rfl⟩ | ⟨rfl, rfl⟩ | ⟨h1, h2, h3⟩
     · refine ⟨(r.vec.ok p tk hα).1, fun b' hb' => ?_⟩
       have hbb : b' = b := by
        have : tk2.b = some b' := hb'
        rw [hb] at this; simpa using this.symm
       subst hbb
       rw [hrow, if_neg hne, if_pos rfl]
       refine ⟨false, _, c, rfl, htl, by show m ≤ tk2.cap; omega, by simp, hmx, hsz, hcc, hcs, hone, fun i hi => ?_, fun i j hi hj => ?_⟩
       · rw [htl] at hi; rw [hnth i hi]; exact hfit i (by omega)
       · rw [htl] at hi; rw [hnth i hi]; exact (hR0 i j (by omega) hj).keeps hK
     · exact ⟨(r.vec.ok p tk2 hα2).1, fun b' hb' => by cases hb'⟩
     · obtain ⟨q1, q2⟩ := r.vec.ok p t h3
       refine ⟨q1, ?_⟩
       rw [hrow, if_neg (Ne.symm h2), if_neg (Ne.symm h1)]
       exact q2.keeps hK fun _ _ => rfl
   · rcases cases_α p t e0 with ⟨rfl, rfl⟩ | ⟨rfl, rfl⟩ | ⟨h1, h2, h3⟩
     · have : tk2.b = none := hd
       rw [hb] at this; cases this
     · intro e5 v5 f5 c5
       rw [hrow, if_pos rfl]
       simp
     · rw [hrow, if_neg (Ne.symm h2), if_neg (Ne.symm h1)]
       exact r.vec.dead p t h3 hd
   · rcases blk p t b' e0 q with ⟨h1, h2⟩ | ⟨h1, h2, h3, h4⟩ <;> rcases blk p' t' b' e0' q' with ⟨h1', h2'⟩ | ⟨h1', h2', h3', h4'⟩
     · rw [h1, h1']
     · exact absurd h2 h4'
     · exact absurd h2' h4
     · exact r.vec.inj p p' t t' b' h3 h3' q q'
   · rcases blk p t b' e0 q with ⟨h1, rfl⟩ | ⟨h1, h2, h3, h4⟩
     · exact r.vec.ρ o2 tk2 b' hα2 hb x hx
     · exact r.vec.ρ p t b' h3 q x hx
   · rcases blk p t b' e0 q with ⟨h1, rfl⟩ | ⟨h1, h2, h3, h4⟩
     · exact r.vec.D o2 tk2 b' hα2 hb off
     · exact r.vec.D p t b' h3 q off
   · rcases blk p t b' e0 q with ⟨h1, rfl⟩ | ⟨h1, h2, h3, h4⟩
     · exact r.vec.τ o2 tk2 b' hα2 hb k tt ek
     · exact r.vec.τ p t b' h3 q k tt ek
   · obtain ⟨h1, h2⟩ := hlo p q e0
     rw [g3 p h1 h2]
     exact r.vec.one p q e0
 · rintro b' (q | q | ⟨p, t, q, q'⟩)
   · exact .inl q
   · exact .inr (.inl q)
   · rcases blk p t b' q q' with ⟨h1, rfl⟩ | ⟨h1, h2, h3, h4⟩
     · exact .inr (.inr ⟨o2, tk2, hα2, hb⟩)
     · exact .inr (.inr ⟨p, t, h3, q'⟩)
def HideK (e : TypeId) (o v : Nat) (K : Out → St → Prop) (out : Out) (S1 : St) : Prop :=
 (∃ n c cs1, out = .ret (.msf e o v 0 n c) ∧ S1.vec e o v = some (true, cs1) ∧ K (.ret (.msl e o (v + 1) 0 n)) ((S1.set o [.mrow e (v + 1) false (cs1.take n.toNat)]).push [.undef])) ∨
 (∃ o2 v2 n full full2 cs1 cs2, o2 ≠ o ∧ out = .ret (.msl e o2 v2 0 n) ∧ S1.vec e o v = some (full, cs1) ∧ S1.vec e o2 v2 = some (full2, cs2) ∧
   K (.ret (.msl e o (v + 1) 0 n)) ((S1.set o [.mrow e (v + 1) false (cs2.take n.toNat)]).set o2 [.undef]))
theorem CallP.hide {P : Program} {T : Tab} {f : FuncId} {args : List AV} {S : St} {K : Out → St → Prop} {e : TypeId} {o v : Nat} (ho : ∀ g w vs, WRel T g S w → ArgsRel T w g args vs → g.α o ≠ none)
  (h : CallP P T f args S (HideK e o v K)) : CallP P T f args S K := by
 intro g w vs r hglob hargs
 have hgo := ho g w vs r hargs
 have key : ∀ e' w', callPost T g S w (HideK e o v K) e' w' → callPost T g S w K e' w' := by
  rintro e' w' ⟨out, S1, g1, hk, hor, hr, ex, ht, nm, nx, vn⟩
  have hglob1 : GlobOk T g1 w' := fun gl t e hg => (hglob gl t e hg).keeps ex.keeps
  rcases hk with ⟨n, c, cs1, rfl, hvec, hk⟩ | ⟨o2, v2, n, full, full2, cs1, cs2, hne, rfl, hvec, hvec2, hk⟩
  · cases e' with
    | panicked ch => exact hor.elim
    | outgrown => exact hor.elim
    | returned x =>
     have hor' : Rep T w' g1 (.msf e o v 0 n c) x := hor
     cases hor' with
     | msf _ _ _ _ _ _ _ ad tk hα he hv hn hst hc =>
      obtain ⟨hte, htv, b, cc, hb, hcl, hnn, hfull, hmx, hsz, hcc, hcs, hone, hfit, hR0⟩ := hr.vecAt hα hvec
      obtain ⟨-, q1, q2, q3, q4⟩ := hc htv.symm
      have hccs : c.toNat = tk.cap := by
       have : (0 + c).toNat = c.toNat := by rw [Int.zero_add]
       omega
      have hnle : n.toNat ≤ cs1.length := by omega
      have htl : (cs1.take n.toNat).length = n.toNat := by simp; omega
      have hnth : ∀ i, i < n.toNat → nth (cs1.take n.toNat) i = nth cs1 i := fun i hi => by
       rw [nth_eq, nth_eq]; simp only [List.getD_eq_getElem?_getD]; rw [List.getElem?_take, if_pos hi]
      have hrow := vrow_set (q := [.mrow e (v + 1) false (cs1.take n.toNat)]) (vec_row hvec) (by simp)
      obtain ⟨hI, hK⟩ := (triv_inv hr hglob1).vtell (o := o) (b := b) (S' := S1.set o [.mrow e (v + 1) false (cs1.take n.toNat)]) (w' := w') (c := cc) { e := e, v := v + 1, b := some b, cap := tk.cap, n := n.toNat } false _ (fun t0 e0 => by
        have : tk = t0 := by rw [hα] at e0; simpa using e0
        subst this
        exact ⟨hte.symm, .inr (.inl (by show tk.v < v + 1; omega))⟩) rfl (by show o < S1.next; exact (hr.vec.ok o tk hα).1) (Nat.le_refl _) (no_ρ hr hα)
       (by rw [hrow, if_pos rfl]) (fun p hp _ => by rw [hrow, if_neg (Ne.symm hp)]) rfl rfl rfl rfl (Nat.le_refl _) (fun _ _ _ => rfl) (.inl ⟨tk, hα, hb⟩)
       hcc hsz hcs hone htl (by show n.toNat ≤ tk.cap; omega) (by simp) hmx (fun i hi => by rw [htl] at hi; rw [hnth i hi]; exact hfit i (by omega))
       (fun i j hi hj => by rw [htl] at hi; rw [hnth i hi]; exact hR0 i j (by omega) hj) (.inl (by rw [hα]; simp))
      have hP := (hI.push [.undef])
      refine ⟨_, _, _, hk, ?_, hP.rel, ⟨ex.os, ex.tape, ex.output, ex.size, ex.keeps.trans hK, ex.frame, ex.newD⟩, fun b' q => ?_, nm, ?_, fun p t q => ?_⟩
      · show Rep T w' _ (.msl e o (v + 1) 0 n) (.slice ad n.toNat c.toNat)
        refine .msl _ e o (v + 1) 0 n ad c.toNat { e := e, v := v + 1, b := some b, cap := tk.cap, n := n.toNat } (by simp [setVec]) rfl (Nat.le_refl _) hn.1 (by omega) hn.2.2 hst fun _ => ⟨by omega, by show _ ≤ n.toNat; rw [Int.zero_add]; exact Nat.le_refl _, ⟨by show _ = tk.cap; simpa using hccs, by show tk.cap ≤ _; exact hmx.2⟩, fun b2 hb2 hpos => ?_⟩
        have : b = b2 := by simpa using hb2
        subst this
        exact q4 b hb (by omega)
      · refine ht b' ((touch_set (tk' := { e := e, v := v + 1, b := some b, cap := tk.cap, n := n.toNat }) hα hb.symm b').1 q)
      · show S.next ≤ S1.next + 1
        omega
      · by_cases hp : p = o
        · exact .inl (by rw [hp]; exact hgo)
        · simp only [setVec, if_neg hp] at q
          exact vn p t q
  · cases e' with
    | panicked ch => exact hor.elim
    | outgrown => exact hor.elim
    | returned x =>
     have hor' : Rep T w' g1 (.msl e o2 v2 0 n) x := hor
     cases hor' with
     | msl _ _ _ _ _ _ ad cap tk2 hα2 he2 hv2 hn hcn hmax hst hc =>
      obtain ⟨t0, ht0⟩ : ∃ t0, g.α o = some t0 := by
       cases hq : g.α o with
       | none => exact absurd hq hgo
       | some t0 => exact ⟨t0, rfl⟩
      obtain ⟨tk, hα, _, _⟩ := ex.keeps.α o t0 ht0
      obtain ⟨hte, htv, _⟩ := hr.vecAt hα hvec
      obtain ⟨hte2, htv2, b, cc, hb, hcl, hnn, hfull, hmx, hsz, hcc, hcs, hone, hfit, hR0⟩ := hr.vecAt hα2 hvec2
      obtain ⟨-, q1, ⟨q2, q3⟩, q4⟩ := hc htv2.symm
      have hnle : n.toNat ≤ cs2.length := by
       have : (0 + n).toNat = n.toNat := by rw [Int.zero_add]
       omega
      obtain ⟨hrel, hK, htch⟩ := hr.steal hne hα hte hα2 hvec2 (by rw [vec_row hvec]; simp) hnle
      rw [htv] at hrel hK htch
      refine ⟨_, _, _, hk, ?_, hrel, ⟨ex.os, ex.tape, ex.output, ex.size, ex.keeps.trans hK, ex.frame, ex.newD⟩, fun b' q => ht b' (htch b' q), nm, nx, fun p t q => ?_⟩
      · show Rep T w' _ (.msl e o (v + 1) 0 n) (.slice ad n.toNat cap)
        refine .msl _ e o (v + 1) 0 n ad cap { e := e, v := v + 1, b := tk2.b, cap := tk2.cap, n := n.toNat } (by simp) rfl (Nat.le_refl _) hn hcn hmax hst fun _ => ⟨by omega, by show _ ≤ n.toNat; rw [Int.zero_add]; exact Nat.le_refl _, ⟨q2, q3⟩, q4⟩
      · by_cases hp : p = o
        · exact .inl (by rw [hp]; exact hgo)
        · by_cases hp2 : p = o2
          · subst hp2
            exact vn p tk2 hα2
          · simp only [if_neg hp, if_neg hp2] at q
            exact vn p t q
 rcases h g w vs r hglob hargs with ⟨h1, h2⟩ | ⟨x, w', h1, h2⟩
 · exact .inl ⟨h1, Calls.mono h2 fun e' w' q => key e' w' q⟩
 · exact .inr ⟨x, w', h1, key _ _ h2⟩
end Go.AM
