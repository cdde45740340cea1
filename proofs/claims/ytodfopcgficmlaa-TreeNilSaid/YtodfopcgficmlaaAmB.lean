/- The abstract machine, second part: appends, stores, calls, slices that are written in place. -/
import Derived.Test.YtodfopcgficmlaaAmA
import Derived.Laws.CopyRow
import Derived.Lib.AppendStr
set_option linter.unusedSectionVars false
set_option linter.unusedVariables false
set_option linter.unusedSimpArgs false
namespace Go.AM
theorem Inv.stepC {T : Tab} {C : Ctx} {g g' : Ghost} {env : Env} {S S' : St} {a : Act} {w w' : World} (h : Inv T C g env S a w) (r : WRel T g' S' w')
  (e : Ext (fun b => C.touch b ∨ C.w0.heap.size ≤ b) g w g' w')
  (ob : ∀ o b, g'.ρ o = some b → C.touch b ∨ C.w0.heap.size ≤ b) (tb : ∀ k tk b, g'.τ k = some tk → tk.v.ownBlock = some b → C.touch b ∨ C.w0.heap.size ≤ b)
  (nm : ∀ o b, g'.ρ o = some b → g.ρ o = some b ∨ S.next ≤ o) (nx : S.next ≤ S'.next)
  (vb : ∀ o tk b, g'.α o = some tk → tk.b = some b → C.touch b ∨ C.w0.heap.size ≤ b) (vn : ∀ o tk, g'.α o = some tk → g.α o ≠ none ∨ C.next ≤ o) : Inv T C g' env S' a w' :=
 ⟨fun t => (h.tmp t).keeps e.keeps, h.size, h.defers, r, h.ext.trans e, ob, tb, fun gl t e' hg => (h.glob gl t e' hg).keeps e.keeps,
  fun o b q => by
   rcases nm o b q with q | q
   · exact h.nm o b q
   · exact .inr (Nat.le_trans h.next q), Nat.le_trans h.next nx, vb, fun o tk q => by
   rcases vn o tk q with q | q
   · cases hq : g.α o with
     | none => exact absurd hq q
     | some t0 => exact h.vn o t0 hq
   · exact .inr q⟩
theorem Inv.step {T : Tab} {C : Ctx} {g g' : Ghost} {env : Env} {S S' : St} {a : Act} {w w' : World} (h : Inv T C g env S a w) (r : WRel T g' S' w')
  (e : Ext (fun b => C.touch b ∨ C.w0.heap.size ≤ b) g w g' w')
  (ob : ∀ o b, g'.ρ o = some b → C.touch b ∨ C.w0.heap.size ≤ b) (tb : ∀ k tk b, g'.τ k = some tk → tk.v.ownBlock = some b → C.touch b ∨ C.w0.heap.size ≤ b)
  (nm : ∀ o b, g'.ρ o = some b → g.ρ o = some b ∨ S.next ≤ o) (nx : S.next ≤ S'.next)
  (vb : ∀ o tk b, g'.α o = some tk → tk.b = some b → C.touch b ∨ C.w0.heap.size ≤ b) (vn : ∀ o tk, g'.α o = some tk → g.α o ≠ none ∨ S.next ≤ o) : Inv T C g' env S' a w' :=
 h.stepC r e ob tb nm nx vb fun o tk q => (vn o tk q).imp id fun q => Nat.le_trans h.next q
theorem VRel.other {T : Tab} {g g' : Ghost} {S S' : St} {w w' : World} (r : VRel T g S w) (hα : g'.α = g.α) (hrow : ∀ o tk, g.α o = some tk → S'.row o = S.row o) (hnext : S.next ≤ S'.next) (k : Keeps g w g' w')
  (hheap : ∀ o tk b, g.α o = some tk → tk.b = some b → w'.heap[b]? = w.heap[b]?) (hρ : ∀ o tk b, g.α o = some tk → tk.b = some b → ∀ p, g'.ρ p ≠ some b)
  (hD : ∀ o tk b, g.α o = some tk → tk.b = some b → ∀ off, ¬ g'.D b off) (hτ : ∀ o tk b, g.α o = some tk → tk.b = some b → ∀ k tt, g'.τ k = some tt → tt.v.ownBlock ≠ some b)
  (hone : ∀ o b, g'.ρ o = some b → g.α o = none) : VRel T g' S' w' := by
 refine ⟨fun o tk e => ?_, fun o tk e hb => ?_, fun o o' tk tk' b e e' => ?_, fun o tk b e => ?_, fun o tk b e => ?_, fun o tk b e => ?_, fun o b e => ?_⟩ <;> rw [hα] at *
 · obtain ⟨h1, h2⟩ := r.ok o tk e
   rw [hrow o tk e]
   exact ⟨Nat.lt_of_lt_of_le h1 hnext, h2.keeps k fun b hb => hheap o tk b e hb⟩
 · rw [hrow o tk e]; exact r.dead o tk e hb
 · exact r.inj o o' tk tk' b e e'
 · exact hρ o tk b e
 · exact hD o tk b e
 · exact hτ o tk b e
 · exact hone o b e
structure Flat (T : Tab) (w : World) (g : Ghost) (e : TypeId) (cs : List AV) (L : List Value) : Prop where
 len : L.length = cs.length * T.size e
 one : ∀ u ∈ L, u.oneCell' = true
 fit : ∀ i, i < cs.length → Fit T e (nth cs i)
 rep : ∀ i j, i < cs.length → j < T.size e → Rep T w g.flat (nth (nth cs i).cells j) (L.getD (i * T.size e + j) undef)
theorem idx_lt {n sz i j : Nat} (hi : i < n) (hj : j < sz) : i * sz + j < n * sz := by
 have : (i + 1) * sz ≤ n * sz := Nat.mul_le_mul_right _ hi
 rw [Nat.succ_mul] at this
 omega
theorem Flat.append {T : Tab} {w : World} {g : Ghost} {e : TypeId} {cs ys : List AV} {L M : List Value} (h : Flat T w g e cs L) (k : Flat T w g e ys M) : Flat T w g e (cs ++ ys) (L ++ M) := by
 have hn : ∀ i, i < cs.length → nth (cs ++ ys) i = nth cs i := by
  intro i hi; rw [nth_eq, nth_eq]; simp [List.getD_eq_getElem?_getD, List.getElem?_append_left hi]
 have hm : ∀ i, cs.length ≤ i → nth (cs ++ ys) i = nth ys (i - cs.length) := by
  intro i hi; rw [nth_eq, nth_eq]; simp [List.getD_eq_getElem?_getD, List.getElem?_append_right hi]
 refine ⟨by simp [h.len, k.len, Nat.add_mul], ?_, ?_, ?_⟩
 · intro u hu
   rcases List.mem_append.1 hu with hu | hu
   · exact h.one u hu
   · exact k.one u hu
 · intro i hi
   by_cases hlt : i < cs.length
   · rw [hn i hlt]; exact h.fit i hlt
   · rw [hm i (by omega)]; exact k.fit _ (by simp at hi; omega)
 · intro i j hi hj
   by_cases hlt : i < cs.length
   · rw [hn i hlt]
     have := idx_lt hlt hj
     have h2 := h.rep i j hlt hj
     rw [List.getD_eq_getElem?_getD] at h2 ⊢
     rw [List.getElem?_append_left (by rw [h.len]; exact this)]
     exact h2
   · rw [hm i (by omega)]
     have hlt' : i - cs.length < ys.length := by simp at hi; omega
     have h2 := k.rep (i - cs.length) j hlt' hj
     have h3 : L.length ≤ i * T.size e + j := by
      rw [h.len]
      have : cs.length * T.size e ≤ i * T.size e := Nat.mul_le_mul_right _ (by omega)
      omega
     rw [List.getD_eq_getElem?_getD] at h2 ⊢
     rw [List.getElem?_append_right h3, h.len]
     have : i * T.size e + j - cs.length * T.size e = (i - cs.length) * T.size e + j := by
      rw [Nat.sub_mul]
      have : cs.length * T.size e ≤ i * T.size e := Nat.mul_le_mul_right _ (by omega)
      omega
     rw [this]
     exact h2
theorem Flat.keeps {T : Tab} {w w' : World} {g g' : Ghost} {e : TypeId} {cs : List AV} {L : List Value} (h : Flat T w g e cs L) (k : Keeps g w g' w') : Flat T w' g' e cs L :=
 ⟨h.len, h.one, h.fit, fun i j hi hj => (h.rep i j hi hj).keeps k.flat⟩
theorem flat_of {T : Tab} {w : World} {g : Ghost} {e : TypeId} {cs : List AV} {m : Mode} {ad : Option Addr} {n cap : Nat} (hr : Rep T w g (.slice e cs m) (.slice ad n cap)) (hsz : 1 ≤ T.size e) :
  n = cs.length ∧ ∃ L, Flat T w g e cs L ∧ (cs ≠ [] → ∃ b base, ad = some ⟨b, base, none⟩ ∧ (∀ j v, L[j]? = some v → w.cell? ⟨b, base + j, none⟩ = some v) ∧ ∀ j, j < L.length → g.D b (base + j)) := by
 cases hr with
 | slice _ _ _ _ _ _ b base xs hcap hmax hm ho ha hf hc h1 hD hR =>
  have key : ∀ p, p < cs.length * T.size e → p / T.size e < cs.length ∧ p % T.size e < T.size e ∧ p / T.size e * T.size e + p % T.size e = p := by
   intro p hp
   refine ⟨Nat.div_lt_of_lt_mul (by rw [Nat.mul_comm]; exact hp), Nat.mod_lt _ hsz, ?_⟩
   rw [Nat.mul_comm]; exact Nat.div_add_mod p _
  refine ⟨rfl, (List.range (cs.length * T.size e)).map fun p => xs (p / T.size e) (p % T.size e), ⟨by simp, ?_, hf, ?_⟩, ?_⟩
  · intro u hu
    obtain ⟨p, hp, rfl⟩ := List.mem_map.1 hu
    obtain ⟨h2, h3, _⟩ := key p (List.mem_range.1 hp)
    exact h1 _ _ h2 h3
  · intro i j hi hj
    have hlt := idx_lt hi hj
    have e1 : (i * T.size e + j) / T.size e = i := by
     rw [Nat.add_comm, Nat.add_mul_div_right _ _ (by omega), Nat.div_eq_of_lt hj, Nat.zero_add]
    have e2 : (i * T.size e + j) % T.size e = j := by
     rw [Nat.add_comm, Nat.add_mul_mod_self_right, Nat.mod_eq_of_lt hj]
    rw [List.getD_eq_getElem?_getD, List.getElem?_map, List.getElem?_range hlt]
    simp only [Option.map_some, Option.getD_some, e1, e2]
    exact hR i j hi hj
  · intro hne
    refine ⟨b, base, ha hne, ?_, ?_⟩
    · intro p v hv
      rw [List.getElem?_map] at hv
      cases hq : (List.range (cs.length * T.size e))[p]? with
      | none => rw [hq] at hv; cases hv
      | some q =>
       rw [hq] at hv
       simp only [Option.map_some, Option.some.injEq] at hv
       obtain ⟨hp, rfl⟩ := List.getElem?_eq_some_iff.1 hq
       simp only [List.length_range] at hp
       simp only [List.getElem_range] at hv
       obtain ⟨h2, h3, h4⟩ := key p hp
       rw [← hv, ← hc _ _ h2 h3, h4]
    · intro p hp
      simp only [List.length_map, List.length_range] at hp
      obtain ⟨h2, h3, h4⟩ := key p hp
      have := hD _ _ h2 h3
      rwa [h4] at this
theorem Flat.slice {T : Tab} {w : World} {g : Ghost} {e : TypeId} {cs : List AV} {L : List Value} (h : Flat T w g e cs L) (hsz : 1 ≤ T.size e) (b base cap : Nat) (m : Mode)
  (hcap : cs.length ≤ cap) (hmax : cap ≤ maxLen) (hm : m ≠ .exact ∧ m ≠ .empty) (hc : ∀ j v, L[j]? = some v → w.cell? ⟨b, base + j, none⟩ = some v) (hD : ∀ j, j < L.length → g.D b (base + j))
  (ho : ∀ k, m = .own k → ∃ tk, g.τ k = some tk ∧ tk.e = e ∧ cs.length ≤ tk.n ∧ (cs.length = tk.n → tk.v = .slice (some ⟨b, base, none⟩) cs.length cap)) :
  Rep T w g (.slice e cs m) (.slice (some ⟨b, base, none⟩) cs.length cap) := by
 refine .slice g e cs m _ cap b base (fun i j => L.getD (i * T.size e + j) undef) hcap hmax ⟨fun e' => absurd e' hm.1, fun e' => absurd e' hm.2⟩ ho (fun _ => rfl) h.fit ?_ ?_ ?_ h.rep
 · intro i j hi hj
   have hlt := idx_lt hi hj
   rw [← h.len] at hlt
   refine hc _ _ ?_
   rw [List.getD_eq_getElem?_getD, List.getElem?_eq_getElem hlt, Option.getD_some]
 · intro i j hi hj
   have hlt := idx_lt hi hj
   rw [← h.len] at hlt
   show Value.oneCell' (L.getD _ undef) = true
   rw [List.getD_eq_getElem?_getD, List.getElem?_eq_getElem hlt, Option.getD_some]
   exact h.one _ (List.getElem_mem _)
 · intro i j hi hj
   have hlt := idx_lt hi hj
   rw [← h.len] at hlt
   exact hD _ hlt
theorem lenC_eq : ∀ l : List Int, lenC l = l.length
 | [] => rfl
 | _ :: l => by simp [lenC, lenC_eq l]
theorem capAt_push : ∀ (l : List Int) (v : Int) (k : Nat), capAt (capPush l v) k = if k = l.length then v else capAt l k
 | [], v, 0 => rfl
 | [], v, k + 1 => by simp [capPush, capAt]
 | w :: l, v, 0 => by simp [capPush, capAt]
 | w :: l, v, k + 1 => by simp [capPush, capAt, capAt_push l v k]
theorem len_push : ∀ (l : List Int) (v : Int), (capPush l v).length = l.length + 1
 | [], v => rfl
 | w :: l, v => by simp [capPush, len_push l v]
theorem capAt_set : ∀ (l : List Int) (n : Nat) (v : Int) (k : Nat), n < l.length → capAt (capSet l n v) k = if k = n then v else capAt l k
 | [], n, v, k, h => by simp at h
 | w :: l, 0, v, 0, _ => rfl
 | w :: l, 0, v, k + 1, _ => by simp [capSet, capAt]
 | w :: l, n + 1, v, 0, _ => by simp [capSet, capAt]
 | w :: l, n + 1, v, k + 1, h => by simp [capSet, capAt, capAt_set l n v k (by simpa using h)]
theorem len_set : ∀ (l : List Int) (n : Nat) (v : Int), (capSet l n v).length = l.length
 | [], _, _ => rfl
 | w :: l, 0, v => rfl
 | w :: l, n + 1, v => by simp [capSet, len_set l n v]
def setTok (g : Ghost) (k : Nat) (tk : Tok) : Ghost := { g with τ := fun i => if i = k then some tk else g.τ i }
theorem setTok_keeps {g : Ghost} {w : World} {k : Nat} {tk : Tok} (h : ∀ t0, g.τ k = some t0 → tk.e = t0.e ∧ (tk = t0 ∨ t0.n < tk.n)) : Keeps g w (setTok g k tk) w := by
 refine ⟨fun _ _ e => e, fun i t0 e => ?_, fun _ _ e => e, fun _ _ _ => rfl, fun _ c _ fr h => ⟨c, fr, h⟩, fun _ t0 e => ⟨t0, e, rfl, .inl rfl⟩⟩
 by_cases hi : i = k
 · subst hi
   exact ⟨tk, by simp [setTok], (h t0 e).1, (h t0 e).2⟩
 · exact ⟨t0, by simp [setTok, hi, e], rfl, .inl rfl⟩
theorem WRel.setTok {T : Tab} {g : Ghost} {S : St} {w : World} (r : WRel T g S w) (k : Nat) (tk : Tok) (caps : List Int) (hk : ∀ t0, g.τ k = some t0 → tk.e = t0.e ∧ (tk = t0 ∨ t0.n < tk.n))
  (hlen : k < caps.length ∧ S.caps.length ≤ caps.length) (hcap : ∀ i, capAt caps i = if i = k then (tk.n : Int) else capAt S.caps i) (hok : TokOk T w g tk)
  (hin : ∀ i ti b, i ≠ k → g.τ i = some ti → ti.v.ownBlock = some b → tk.v.ownBlock ≠ some b)
  (hvec : ∀ o vt b, g.α o = some vt → vt.b = some b → tk.v.ownBlock ≠ some b) : WRel T (AM.setTok g k tk) { S with caps := caps } w := by
 have hkp := setTok_keeps (w := w) hk
 refine ⟨?_, r.inj, r.dom, r.apart, r.live, ?_, ?_, ?_⟩
 rotate_right
 · refine ⟨fun o vt e => ⟨(r.vec.ok o vt e).1, (r.vec.ok o vt e).2.keeps hkp fun _ _ => rfl⟩, r.vec.dead, r.vec.inj, r.vec.ρ, r.vec.D, fun o vt b e hb i ti ei => ?_, r.vec.one⟩
   by_cases hi : i = k
   · subst hi
     simp only [AM.setTok, if_true, Option.some.injEq] at ei
     subst ei
     exact hvec o vt b e hb
   · simp only [AM.setTok, if_neg hi] at ei
     exact r.vec.τ o vt b e hb i ti ei
 · intro o b e
   obtain ⟨c, t, hc, hs, h1, hR⟩ := r.obj o b e
   exact ⟨c, t, hc, hs, h1, fun j hj => (hR j hj).keeps hkp⟩
 · intro i ti e
   by_cases hi : i = k
   · subst hi
     simp only [AM.setTok, if_true, Option.some.injEq] at e
     subst e
     exact ⟨hlen.1, by rw [hcap, if_pos rfl], hok⟩
   · simp only [AM.setTok, if_neg hi] at e
     obtain ⟨h1, h2, h3⟩ := r.tok i ti e
     exact ⟨Nat.lt_of_lt_of_le h1 hlen.2, by rw [hcap, if_neg hi]; exact h2, h3⟩
 · intro i i' ti ti' b e e' hb hb'
   by_cases hi : i = k <;> by_cases hi' : i' = k
   · omega
   · subst hi
     simp only [AM.setTok, if_true, Option.some.injEq, if_neg hi'] at e e'
     subst e
     exact absurd hb (hin i' ti' b hi' e' hb')
   · subst hi'
     simp only [AM.setTok, if_true, Option.some.injEq, if_neg hi] at e e'
     subst e'
     exact absurd hb' (hin i ti b hi e hb)
   · simp only [AM.setTok, if_neg hi, if_neg hi'] at e e'
     exact r.tinj i i' ti ti' b e e' hb hb'
end Go.AM
namespace Go.AM
section
variable {P : Program} {T : Tab} {C : Ctx} {g : Ghost} {env : Env} {S : St} {a : Act} {w : World} (hT : TabOk P T) (h : Inv T C g env S a w)
include h hT
theorem fresh_row {e : TypeId} {cs : List AV} {L : List Value} (hL : Flat T w g e cs L) (hsz : 1 ≤ T.size e) (Zs : Array Value) (cap : Nat) (hcap : cs.length ≤ cap) (hmax : cap ≤ maxLen)
  (hcells : (L.toArray ++ Zs).size = cap * T.size e) (k : Nat) (hk : ∀ t0, g.τ k = some t0 → t0.e = e ∧ t0.n < cs.length) (caps : List Int)
  (hlen : k < caps.length ∧ S.caps.length ≤ caps.length) (hcapk : ∀ i, capAt caps i = if i = k then (cs.length : Int) else capAt S.caps i) :
  ∃ g', Inv T C g' env { S with caps := caps } a (w.drew.alloc (.cells (L.toArray ++ Zs) e)) ∧
   Rep T (w.drew.alloc (.cells (L.toArray ++ Zs) e)) g' (.slice e cs (.own k)) (.slice (some ⟨w.heap.size, 0, none⟩) cs.length cap) := by
 let w' := w.drew.alloc (.cells (L.toArray ++ Zs) e)
 let g1 : Ghost := { g with D := fun b off => g.D b off ∨ (b = w.heap.size ∧ off < L.length) }
 have hg1 : Grow g w g1 w' := by
  refine ⟨rfl, rfl, rfl, fun _ _ hh => .inl hh, fun b off hh => ?_, fun b hb => heap_alloc_old w.drew _ b hb, by simp [w'], rfl, rfl, rfl⟩
  rcases hh with hh | ⟨rfl, _⟩
  · exact .inl hh
  · exact .inr ⟨Nat.le_refl _, by simp [w']⟩
 let tk : Tok := { e := e, v := .slice (some ⟨w.heap.size, 0, none⟩) cs.length cap, n := cs.length }
 have hnew : w'.heap[w.heap.size]? = some (.cells (L.toArray ++ Zs) e (0, 0)) := heap_alloc_new w.drew _
 have hrow : ∀ j v, L[j]? = some v → w'.cell? ⟨w.heap.size, 0 + j, none⟩ = some v := by
  intro j v hv
  have hj : j < L.length := (List.getElem?_eq_some_iff.1 hv).1
  simp only [World.cell?, hnew, Nat.zero_add]
  simp only [Array.getElem?_append, List.size_toArray, hj, if_true, List.getElem?_toArray, hv]
  simp [hv]
 have hi := h.grow hg1
 have hk1 := hg1.keeps h.rel
 have hown : w'.ownsRow 0 e (T.size e) tk.v tk.n L := by
  refine ⟨hL.len, .inr ⟨w.heap.size, cap, _, rfl, Nat.zero_le _, hnew, hcap, hmax, hcells, ?_⟩⟩
  simp only [Array.toList_append]
  show List.take (cs.length * T.size e) (L ++ Zs.toList) = L
  rw [← hL.len]; exact List.take_left
 have hok : TokOk T w' g1 tk := by
  refine ⟨L, .inr hown, fun b hb => ?_⟩
  have : w.heap.size = b := by simpa [tk, Value.ownBlock] using hb
  subst this
  refine ⟨fun off ho hD => ?_, fun o ho => ?_⟩
  · rcases hD with hD | ⟨_, hD⟩
    · have := h.rel.live _ _ hD; omega
    · rw [hL.len] at hD; simp only [tk] at ho; omega
  · obtain ⟨c, t, hc, _⟩ := h.rel.obj o _ ho
    have := heap_lt hc; omega
 have hkk : ∀ t0, g1.τ k = some t0 → tk.e = t0.e ∧ (tk = t0 ∨ t0.n < tk.n) := fun t0 e0 => ⟨(hk t0 e0).1.symm, .inr (hk t0 e0).2⟩
 have hrel := hi.rel.setTok k tk caps hkk hlen hcapk hok (fun i ti b hne e0 hb hb' => by
  have : w.heap.size = b := by simpa [tk, Value.ownBlock] using hb'
  obtain ⟨_, _, xs, ho, _⟩ := h.rel.tok i ti e0
  have := (ho.lt b hb).2; omega) (fun o vt b e0 hb hb' => by
  have : w.heap.size = b := by simpa [tk, Value.ownBlock] using hb'
  have := (h.rel.vec.ok o vt e0).2.lt hb; omega)
 have hkt := setTok_keeps (w := w') hkk
 have hkeep : Keeps g w (setTok g1 k tk) w' := hk1.trans hkt
 refine ⟨setTok g1 k tk, h.step hrel ⟨hg1.os, hg1.tape, hg1.output, hg1.size, hkeep, fun b hb _ => hg1.heap b hb, fun b off hD => ?_⟩ h.ob (fun i ti b e0 hb => ?_) (fun _ _ q => .inl q) (Nat.le_refl _) h.vb (fun _ _ q => .inl (by rw [show g.α _ = _ from q]; simp)), ?_⟩
 · rcases hD with hD | ⟨rfl, _⟩
   · exact .inl hD
   · exact .inr (.inr (Nat.le_refl _))
 · by_cases hik : i = k
   · subst hik
     simp only [setTok, if_true, Option.some.injEq] at e0
     subst e0
     have : w.heap.size = b := by simpa [tk, Value.ownBlock] using hb
     exact .inr (by rw [← this]; exact h.ext.size)
   · simp only [setTok, if_neg hik] at e0
     exact h.tb i ti b e0 hb
 · refine (hL.keeps hkeep).slice hsz w.heap.size 0 cap (.own k) hcap hmax (by simp) hrow (fun j hj => .inr ⟨rfl, by omega⟩) ?_
   intro k' hk'
   simp only [Mode.own.injEq] at hk'
   subst hk'
   exact ⟨tk, by simp [setTok], rfl, Nat.le_refl _, fun _ => rfl⟩
theorem grown_row {e : TypeId} {cs ys : List AV} {k : Nat} {tk : Tok} {b cap : Nat} {cur : Array Value} {L M : List Value} (htk : g.τ k = some tk) (he : tk.e = e) (hn : tk.n = cs.length)
  (hv : tk.v = .slice (some ⟨b, 0, none⟩) cs.length cap) (hcur : w.heap[b]? = some (.cells cur e (0, 0))) (hcs : cur.size = cap * T.size e) (hmax : cap ≤ maxLen)
  (htake : cur.toList.take (cs.length * T.size e) = L) (hL : Flat T w g e cs L) (hM : Flat T w g e ys M) (hsz : 1 ≤ T.size e) (hroom : cs.length + ys.length ≤ cap) (hy : 0 < ys.length) :
  ∃ g', Inv T C g' env { S with caps := capSet S.caps k ((cs ++ ys).length : Int) } a (w.setRow b (cur.toList.take (cs.length * T.size e) ++ M ++ cur.toList.drop (cs.length * T.size e + M.length)).toArray) ∧
   Rep T (w.setRow b (cur.toList.take (cs.length * T.size e) ++ M ++ cur.toList.drop (cs.length * T.size e + M.length)).toArray) g' (.slice e (cs ++ ys) (.own k)) (.slice (some ⟨b, 0, none⟩) (cs ++ ys).length cap) := by
 obtain ⟨hkl, hkc, xs, hown, hblk⟩ := h.rel.tok k tk htk
 obtain ⟨hspare, hnob⟩ := hblk b (by simp [hv, Value.ownBlock])
 have hlenT : (cur.toList.take (cs.length * T.size e)).length = cs.length * T.size e := by rw [htake]; exact hL.len
 let row := (cur.toList.take (cs.length * T.size e) ++ M ++ cur.toList.drop (cs.length * T.size e + M.length)).toArray
 have hMlen := hM.len
 have hLM := hL.append hM
 have hsum : cs.length * T.size e + M.length = (cs ++ ys).length * T.size e := by rw [hMlen, List.length_append, Nat.add_mul]
 have hfit : (cs ++ ys).length * T.size e ≤ cap * T.size e := Nat.mul_le_mul_right _ (by simpa using hroom)
 have hrowsize : row.size = cap * T.size e := by
  simp only [row, List.size_toArray, List.length_append, hlenT, List.length_drop, Array.length_toList, hcs]
  omega
 let w' := w.setRow b row
 have hnew : w'.heap[b]? = some (.cells row e (0, 0)) := setRow_heap w b cur row e (0, 0) hcur
 have hother : ∀ i, i ≠ b → w'.heap[i]? = w.heap[i]? := fun i hi => setRow_other w b i row hi
 have hsize : w'.heap.size = w.heap.size := by simp [w', World.setRow]
 let g1 : Ghost := { g with D := fun b' off => g.D b' off ∨ (b' = b ∧ off < (cs ++ ys).length * T.size e) }
 have hpre : ∀ off, off < cs.length * T.size e → row[off]? = cur[off]? := by
  intro off ho
  have : off < (cur.toList.take (cs.length * T.size e)).length := by omega
  simp only [row, List.getElem?_toArray, List.append_assoc]
  rw [List.getElem?_append_left this, List.getElem?_take, if_pos ho, Array.getElem?_toList]
 have hcell : ∀ b' off, g.D b' off → w'.cell? ⟨b', off, none⟩ = w.cell? ⟨b', off, none⟩ := by
  intro b' off hD
  by_cases hb : b' = b
  · subst hb
    have hlt : off < cs.length * T.size e := by
     rcases Nat.lt_or_ge off (cs.length * T.size e) with h' | h'
     · exact h'
     · exact absurd hD (hspare off (by rw [hn, he]; exact h'))
    simp only [World.cell?, hnew, hcur]
    simpa using hpre off hlt
  · exact cell_of_heap (hother b' hb)
 let tk' : Tok := { e := e, v := .slice (some ⟨b, 0, none⟩) (cs ++ ys).length cap, n := (cs ++ ys).length }
 have hbl : b < w.heap.size := heap_lt hcur
 have hkeep1 : Keeps g w g1 w' := ⟨fun _ _ e0 => e0, fun i ti e0 => ⟨ti, e0, rfl, .inl rfl⟩, fun _ _ hD => .inl hD, hcell, fun b' c t fr e0 => by
  by_cases hb : b' = b
  · subst hb
    have := hcur.symm.trans e0
    simp only [Option.some.injEq, Obj.cells.injEq] at this
    obtain ⟨_, rfl, _⟩ := this
    exact ⟨_, _, hnew⟩
  · exact ⟨c, fr, (hother b' hb).trans e0⟩, fun _ t0 e0 => ⟨t0, e0, rfl, .inl rfl⟩⟩
 have hkk : ∀ t0, g1.τ k = some t0 → tk'.e = t0.e ∧ (tk' = t0 ∨ t0.n < tk'.n) := by
  intro t0 e0
  have : tk = t0 := by have := htk.symm.trans e0; simpa using this
  subst this
  exact ⟨he.symm, .inr (by simp only [tk', hn, List.length_append]; omega)⟩
 have hkt := setTok_keeps (w := w') hkk
 have hkeep : Keeps g w (setTok g1 k tk') w' := hkeep1.trans hkt
 have hown' : w'.ownsRow 0 e (T.size e) tk'.v tk'.n (L ++ M) := by
  refine ⟨by rw [hLM.len], .inr ⟨b, cap, row, rfl, Nat.zero_le _, hnew, by simp only [tk', List.length_append]; exact hroom, hmax, hrowsize, ?_⟩⟩
  simp only [row, htake]
  show List.take ((cs ++ ys).length * T.size e) (L ++ M ++ _) = L ++ M
  rw [← hLM.len]; exact List.take_left
 have hrel : WRel T (setTok g1 k tk') { S with caps := capSet S.caps k ((cs ++ ys).length : Int) } w' := by
  have hvb : ∀ o vt b', g.α o = some vt → vt.b = some b' → b' ≠ b := fun o vt b' e0 e1 e2 =>
   h.rel.vec.τ o vt b' e0 e1 k tk htk (by rw [e2]; simp [hv, Value.ownBlock])
  refine ⟨?_, h.rel.inj, h.rel.dom, ?_, ?_, ?_, ?_, ?_⟩
  rotate_right
  · refine h.rel.vec.other rfl (fun _ _ _ => rfl) (Nat.le_refl _) hkeep (fun o vt b' e0 e1 => hother b' (hvb o vt b' e0 e1)) h.rel.vec.ρ (fun o vt b' e0 e1 off hD => ?_) (fun o vt b' e0 e1 i ti ei => ?_) h.rel.vec.one
    · rcases hD with hD | ⟨q, _⟩
      · exact h.rel.vec.D o vt b' e0 e1 off hD
      · exact hvb o vt b' e0 e1 q
    · by_cases hik : i = k
      · subst hik
        simp only [setTok, if_true, Option.some.injEq] at ei
        subst ei
        intro q
        have : b = b' := by simpa [tk', Value.ownBlock] using q
        exact hvb o vt b' e0 e1 this.symm
      · simp only [setTok, if_neg hik] at ei
        exact h.rel.vec.τ o vt b' e0 e1 i ti ei
  · intro o b' e0
    obtain ⟨c, t, hc, hs, h1, hR⟩ := h.rel.obj o b' e0
    have hb : b' ≠ b := fun e1 => hnob o (e1 ▸ e0)
    exact ⟨c, t, (hother b' hb).trans hc, hs, h1, fun j hj => (hR j hj).keeps hkeep⟩
  · intro o b' off e0 hD
    rcases hD with hD | ⟨rfl, _⟩
    · exact h.rel.apart o b' off e0 hD
    · exact hnob o e0
  · intro b' off hD
    rw [hsize]
    rcases hD with hD | ⟨rfl, _⟩
    · exact h.rel.live b' off hD
    · exact hbl
  · intro i ti e0
    by_cases hik : i = k
    · subst hik
      simp only [setTok, if_true, Option.some.injEq] at e0
      subst e0
      refine ⟨by rw [len_set]; exact hkl, by rw [capAt_set _ _ _ _ hkl, if_pos rfl], L ++ M, .inr hown', fun b' hb' => ?_⟩
      have : b = b' := by simpa [tk', Value.ownBlock] using hb'
      subst this
      refine ⟨fun off ho hD => ?_, hnob⟩
      rcases hD with hD | ⟨_, hD⟩
      · refine hspare off ?_ hD
        rw [hn, he]
        have : cs.length * T.size e ≤ (cs ++ ys).length * T.size e := Nat.mul_le_mul_right _ (by simp)
        simp only [tk'] at ho
        omega
      · simp only [tk'] at ho; omega
    · simp only [setTok, if_neg hik] at e0
      obtain ⟨h1, h2, xs', ho', hb'⟩ := h.rel.tok i ti e0
      refine ⟨by rw [len_set]; exact h1, by rw [capAt_set _ _ _ _ hkl, if_neg hik]; exact h2, xs', ?_, fun b' hbb => ?_⟩
      · refine ho'.kept (row := some b) ⟨rfl, rfl, rfl, by rw [hsize]; exact Nat.le_refl _, fun j hj hne => hother j (fun e1 => hne (by rw [e1]))⟩ ?_
        cases hob : ti.v.ownBlock with
        | none => exact .inl rfl
        | some b2 =>
         refine .inr fun e1 => ?_
         have : b2 = b := by simpa using e1
         subst this
         exact hik (h.rel.tinj i k ti tk b2 e0 htk hob (by simp [hv, Value.ownBlock]))
      · obtain ⟨h3, h4⟩ := hb' b' hbb
        refine ⟨fun off ho hD => ?_, h4⟩
        rcases hD with hD | ⟨rfl, _⟩
        · exact h3 off ho hD
        · exact hik (h.rel.tinj i k ti tk b' e0 htk hbb (by simp [hv, Value.ownBlock]))
  · intro i i' ti ti' b' e0 e0' hb hb'
    by_cases hi : i = k <;> by_cases hi' : i' = k
    · omega
    · subst hi
      simp only [setTok, if_true, Option.some.injEq, if_neg hi'] at e0 e0'
      subst e0
      have : b = b' := by simpa [tk', Value.ownBlock] using hb
      subst this
      exact h.rel.tinj i i' tk ti' b htk e0' (by simp [hv, Value.ownBlock]) hb'
    · subst hi'
      simp only [setTok, if_true, Option.some.injEq, if_neg hi] at e0 e0'
      subst e0'
      have : b = b' := by simpa [tk', Value.ownBlock] using hb'
      subst this
      exact h.rel.tinj i i' ti tk b e0 htk hb (by simp [hv, Value.ownBlock])
    · simp only [setTok, if_neg hi, if_neg hi'] at e0 e0'
      exact h.rel.tinj i i' ti ti' b' e0 e0' hb hb'
 have htb := h.tb k tk b htk (by simp [hv, Value.ownBlock])
 refine ⟨setTok g1 k tk', h.step hrel ⟨rfl, rfl, rfl, by rw [hsize]; exact Nat.le_refl _, hkeep, fun b' hb hnt => hother b' (fun e1 => hnt (e1 ▸ htb)), fun b' off hD => ?_⟩ h.ob (fun i ti b' e0 hb => ?_) (fun _ _ q => .inl q) (Nat.le_refl _) h.vb (fun _ _ q => .inl (by rw [show g.α _ = _ from q]; simp)), ?_⟩
 · rcases hD with hD | ⟨rfl, _⟩
   · exact .inl hD
   · exact .inr (.inl htb)
 · by_cases hik : i = k
   · subst hik
     simp only [setTok, if_true, Option.some.injEq] at e0
     subst e0
     have : b = b' := by simpa [tk', Value.ownBlock] using hb
     subst this
     exact htb
   · simp only [setTok, if_neg hik] at e0
     exact h.tb i ti b' e0 hb
 · refine (hLM.keeps hkeep).slice hsz b 0 cap (.own k) (by simpa using hroom) hmax (by simp) ?_ (fun j hj => .inr ⟨rfl, by rw [hLM.len] at hj; omega⟩) ?_
   · intro j v hjv
     have hj : j < (L ++ M).length := (List.getElem?_eq_some_iff.1 hjv).1
     show w'.cell? _ = _
     simp only [World.cell?, hnew, Nat.zero_add]
     simp only [row, htake, List.getElem?_toArray]
     rw [List.getElem?_append_left hj]
     simpa using hjv
   · intro k' hk'
     simp only [Mode.own.injEq] at hk'
     subst hk'
     exact ⟨tk', by simp [setTok], rfl, Nat.le_refl _, fun _ => rfl⟩
end
end Go.AM
namespace Go.AM
def setVec (g : Ghost) (o : Nat) (tk : VTok) : Ghost := { g with α := fun i => if i = o then some tk else g.α i }
section
variable {P : Program} {T : Tab} {C : Ctx} {g : Ghost} {env : Env} {S : St} {a : Act} {w : World}
theorem Inv.vtellC (h : Inv T C g env S a w) {o b : Nat} {S' : St} {w' : World} {c : Array Value} (tk' : VTok) (full : Bool) (cs : List AV)
  (hk : ∀ tk, g.α o = some tk → tk'.e = tk.e ∧ tk.le tk') (hb : tk'.b = some b) (ho : o < S'.next) (hnx : S.next ≤ S'.next) (hρo : g.ρ o = none)
  (hrow : S'.row o = [.mrow tk'.e tk'.v full cs]) (hrows : ∀ p, p ≠ o → p < S.next → S'.row p = S.row p) (hcaps : S'.caps = S.caps)
  (hos : w'.os = w.os) (htape : w'.tape = w.tape) (hout : w'.output = w.output) (hsize : w.heap.size ≤ w'.heap.size)
  (hother : ∀ i, i ≠ b → i < w.heap.size → w'.heap[i]? = w.heap[i]?) (hown : (∃ tk, g.α o = some tk ∧ tk.b = some b) ∨ w.heap.size ≤ b)
  (hcell : w'.heap[b]? = some (.cells c tk'.e (0, 0))) (hsz : 1 ≤ T.size tk'.e) (hcs : c.size = tk'.cap * T.size tk'.e) (hone : ∀ u ∈ c.toList, u.oneCell' = true)
  (hn : cs.length = tk'.n) (hncap : tk'.n ≤ tk'.cap) (hfull : full = true → tk'.n = tk'.cap) (hcap : 0 < tk'.cap ∧ tk'.cap ≤ maxLen)
  (hfit : ∀ i, i < cs.length → Fit T tk'.e (nth cs i)) (hR : ∀ i j, i < cs.length → j < T.size tk'.e → Rep T w g (nth (nth cs i).cells j) (c.toList.getD (i * T.size tk'.e + j) undef))
  (hvn : g.α o ≠ none ∨ C.next ≤ o) :
  Inv T C (setVec g o tk') env S' a w' ∧ Keeps g w (setVec g o tk') w' := by
 have hlt : b < w'.heap.size := heap_lt hcell
 have nρ : ∀ p, g.ρ p ≠ some b := by
  intro p hp
  rcases hown with ⟨tk, e, eb⟩ | hf
  · exact h.rel.vec.ρ o tk b e eb p hp
  · obtain ⟨c0, t0, hc0, _⟩ := h.rel.obj p b hp
    have := heap_lt hc0; omega
 have nD : ∀ off, ¬ g.D b off := by
  intro off hD
  rcases hown with ⟨tk, e, eb⟩ | hf
  · exact h.rel.vec.D o tk b e eb off hD
  · have := h.rel.live b off hD; omega
 have nτ : ∀ k tt, g.τ k = some tt → tt.v.ownBlock ≠ some b := by
  intro k tt ek hq
  rcases hown with ⟨tk, e, eb⟩ | hf
  · exact h.rel.vec.τ o tk b e eb k tt ek hq
  · obtain ⟨_, _, xs, ho', _⟩ := h.rel.tok k tt ek
    have := (ho'.lt b hq).2; omega
 have nα : ∀ p tk, p ≠ o → g.α p = some tk → tk.b ≠ some b := by
  intro p tk hp e hq
  rcases hown with ⟨tk0, e0, eb0⟩ | hf
  · exact hp (h.rel.vec.inj p o tk tk0 b e e0 hq eb0)
  · have := (h.rel.vec.ok p tk e).2.lt hq; omega
 have hold : ∀ i, i < w.heap.size → i ≠ b → w'.heap[i]? = w.heap[i]? := fun i hi hne => hother i hne hi
 have hkeep : Keeps g w (setVec g o tk') w' := by
  refine ⟨fun _ _ e => e, fun _ t0 e => ⟨t0, e, rfl, .inl rfl⟩, fun _ _ e => e, fun b' off hD => ?_, fun b' c0 t0 fr e0 => ?_, fun p tk e => ?_⟩
  · refine cell_of_heap (hold b' (h.rel.live b' off hD) ?_)
    rintro rfl
    exact nD off hD
  · by_cases hbb : b' = b
    · subst hbb
      rcases hown with ⟨tk, e, eb⟩ | hf
      · obtain ⟨f0, cs0, c1, _, _, _, _, _, _, q, _⟩ := (h.rel.vec.ok o tk e).2 b' eb
        have := q.symm.trans e0
        simp only [Option.some.injEq, Obj.cells.injEq] at this
        obtain ⟨_, rfl, _⟩ := this
        exact ⟨c, (0, 0), by rw [hcell, (hk tk e).1]⟩
      · have := heap_lt e0; omega
    · exact ⟨c0, fr, (hold b' (heap_lt e0) hbb).trans e0⟩
  · by_cases hp : p = o
    · subst hp
      exact ⟨tk', by simp [setVec], (hk tk e).1, (hk tk e).2⟩
    · exact ⟨tk, by simp [setVec, hp, e], rfl, .inl rfl⟩
 have hlo : ∀ p q, g.ρ p = some q → p ≠ o := fun p q e => by rintro rfl; rw [hρo] at e; cases e
 have hrowρ : ∀ p q, g.ρ p = some q → S'.row p = S.row p := fun p q e => hrows p (hlo p q e) (h.rel.dom p q e)
 have hrel : WRel T (setVec g o tk') S' w' := by
  refine ⟨?_, h.rel.inj, fun p q e => Nat.lt_of_lt_of_le (h.rel.dom p q e) hnx, h.rel.apart, fun q off hD => Nat.lt_of_lt_of_le (h.rel.live q off hD) hsize, ?_, h.rel.tinj, ?_⟩
  · intro p q e
    obtain ⟨c0, t0, hc0, hs0, h10, hR0⟩ := h.rel.obj p q e
    refine ⟨c0, t0, (hold q (heap_lt hc0) (by rintro rfl; exact nρ p e)).trans hc0, by rw [hrowρ p q e]; exact hs0, h10, fun j hj => ?_⟩
    rw [hrowρ p q e] at hj ⊢
    exact (hR0 j hj).keeps hkeep
  · intro k tt e
    obtain ⟨q1, q2, xs, q3, q4⟩ := h.rel.tok k tt e
    refine ⟨by rw [hcaps]; exact q1, by rw [hcaps]; exact q2, xs, ?_, q4⟩
    refine q3.kept (row := some b) ⟨hos, htape, hout, hsize, fun j hj hne => hold j hj (by rintro rfl; exact hne rfl)⟩ ?_
    cases hob : tt.v.ownBlock with
    | none => exact .inl rfl
    | some b2 =>
     refine .inr fun e1 => ?_
     have : b2 = b := by simpa using e1
     subst this
     exact nτ k tt e hob
  · refine ⟨fun p tk e => ?_, fun p tk e hd => ?_, fun p p' tk tk2 b' e e' q q' => ?_, fun p tk b' e q r => ?_, fun p tk b' e q off => ?_, fun p tk b' e q k tt ek => ?_, fun p b' e => ?_⟩
    · by_cases hp : p = o
      · subst hp
        simp only [setVec, if_true, Option.some.injEq] at e
        subst e
        refine ⟨ho, fun b' hb' => ?_⟩
        have : b = b' := by rw [hb] at hb'; simpa using hb'
        subst this
        exact ⟨full, cs, c, hrow, hn, hncap, hfull, hcap, hsz, hcell, hcs, hone, hfit, fun i j hi hj => (hR i j hi hj).keeps hkeep⟩
      · simp only [setVec, if_neg hp] at e
        obtain ⟨h1, h2⟩ := h.rel.vec.ok p tk e
        refine ⟨Nat.lt_of_lt_of_le h1 hnx, ?_⟩
        rw [hrows p hp h1]
        exact h2.keeps hkeep fun b' hb' => hold b' (h2.lt hb') (by rintro rfl; exact nα p tk hp e hb')
    · by_cases hp : p = o
      · subst hp
        simp only [setVec, if_true, Option.some.injEq] at e
        subst e
        rw [hb] at hd; cases hd
      · simp only [setVec, if_neg hp] at e
        rw [hrows p hp (h.rel.vec.ok p tk e).1]
        exact h.rel.vec.dead p tk e hd
    · by_cases hp : p = o <;> by_cases hp' : p' = o
      · rw [hp, hp']
      · subst hp
        simp only [setVec, if_true, Option.some.injEq, if_neg hp'] at e e'
        subst e
        have : b = b' := by rw [hb] at q; simpa using q
        subst this
        exact absurd q' (nα p' tk2 hp' e')
      · subst hp'
        simp only [setVec, if_true, Option.some.injEq, if_neg hp] at e e'
        subst e'
        have : b = b' := by rw [hb] at q'; simpa using q'
        subst this
        exact absurd q (nα p tk hp e)
      · simp only [setVec, if_neg hp, if_neg hp'] at e e'
        exact h.rel.vec.inj p p' tk tk2 b' e e' q q'
    · by_cases hp : p = o
      · subst hp
        simp only [setVec, if_true, Option.some.injEq] at e
        subst e
        have : b = b' := by rw [hb] at q; simpa using q
        subst this
        exact nρ r
      · simp only [setVec, if_neg hp] at e
        exact h.rel.vec.ρ p tk b' e q r
    · by_cases hp : p = o
      · subst hp
        simp only [setVec, if_true, Option.some.injEq] at e
        subst e
        have : b = b' := by rw [hb] at q; simpa using q
        subst this
        exact nD off
      · simp only [setVec, if_neg hp] at e
        exact h.rel.vec.D p tk b' e q off
    · by_cases hp : p = o
      · subst hp
        simp only [setVec, if_true, Option.some.injEq] at e
        subst e
        have : b = b' := by rw [hb] at q; simpa using q
        subst this
        exact nτ k tt ek
      · simp only [setVec, if_neg hp] at e
        exact h.rel.vec.τ p tk b' e q k tt ek
    · have := hlo p b' e
      simp only [setVec, if_neg this]
      exact h.rel.vec.one p b' e
 have htb : C.touch b ∨ C.w0.heap.size ≤ b := by
  rcases hown with ⟨tk, e, eb⟩ | hf
  · exact h.vb o tk b e eb
  · exact .inr (Nat.le_trans h.ext.size hf)
 refine ⟨h.stepC hrel ⟨hos, htape, hout, hsize, hkeep, fun b' hb' hnt => hold b' hb' (fun e1 => hnt (e1 ▸ htb)), fun b' off hD => .inl hD⟩ h.ob h.tb (fun _ _ q => .inl q) hnx (fun p tk b' e q => ?_) (fun p tk e => ?_), hkeep⟩
 · by_cases hp : p = o
   · subst hp
     simp only [setVec, if_true, Option.some.injEq] at e
     subst e
     have : b = b' := by rw [hb] at q; simpa using q
     subst this
     exact htb
   · simp only [setVec, if_neg hp] at e
     exact h.vb p tk b' e q
 · by_cases hp : p = o
   · subst hp; exact hvn
   · simp only [setVec, if_neg hp] at e
     exact .inl (by rw [e]; simp)
theorem Inv.vtell (h : Inv T C g env S a w) {o b : Nat} {S' : St} {w' : World} {c : Array Value} (tk' : VTok) (full : Bool) (cs : List AV)
  (hk : ∀ tk, g.α o = some tk → tk'.e = tk.e ∧ tk.le tk') (hb : tk'.b = some b) (ho : o < S'.next) (hnx : S.next ≤ S'.next) (hρo : g.ρ o = none)
  (hrow : S'.row o = [.mrow tk'.e tk'.v full cs]) (hrows : ∀ p, p ≠ o → p < S.next → S'.row p = S.row p) (hcaps : S'.caps = S.caps)
  (hos : w'.os = w.os) (htape : w'.tape = w.tape) (hout : w'.output = w.output) (hsize : w.heap.size ≤ w'.heap.size)
  (hother : ∀ i, i ≠ b → i < w.heap.size → w'.heap[i]? = w.heap[i]?) (hown : (∃ tk, g.α o = some tk ∧ tk.b = some b) ∨ w.heap.size ≤ b)
  (hcell : w'.heap[b]? = some (.cells c tk'.e (0, 0))) (hsz : 1 ≤ T.size tk'.e) (hcs : c.size = tk'.cap * T.size tk'.e) (hone : ∀ u ∈ c.toList, u.oneCell' = true)
  (hn : cs.length = tk'.n) (hncap : tk'.n ≤ tk'.cap) (hfull : full = true → tk'.n = tk'.cap) (hcap : 0 < tk'.cap ∧ tk'.cap ≤ maxLen)
  (hfit : ∀ i, i < cs.length → Fit T tk'.e (nth cs i)) (hR : ∀ i j, i < cs.length → j < T.size tk'.e → Rep T w g (nth (nth cs i).cells j) (c.toList.getD (i * T.size tk'.e + j) undef))
  (hvn : g.α o ≠ none ∨ S.next ≤ o) :
  Inv T C (setVec g o tk') env S' a w' ∧ Keeps g w (setVec g o tk') w' :=
 h.vtellC tk' full cs hk hb ho hnx hρo hrow hrows hcaps hos htape hout hsize hother hown hcell hsz hcs hone hn hncap hfull hcap hfit hR (hvn.imp id fun q => Nat.le_trans h.next q)
end
end Go.AM
namespace Go.AM
def GlobOk (T : Tab) (g : Ghost) (w : World) : Prop := ∀ gl t e, T.glob gl = some (t, e) → Rep T w g (.eptr t e 0) (.pointer (some ⟨gl, 0, none⟩))
def touchOf (g : Ghost) (b : Nat) : Prop := (∃ o, g.ρ o = some b) ∨ (∃ k tk, g.τ k = some tk ∧ tk.v.ownBlock = some b) ∨ ∃ o tk, g.α o = some tk ∧ tk.b = some b
def outRel (T : Tab) (w : World) (g : Ghost) : Out → Ending → Prop
 | .ret v, .returned x => Rep T w g v x
 | .panic v, .panicked chain => ∃ x, chain = [{ v := x, recovered := false }] ∧ Rep T w g v x
 | _, _ => False
def callPost (T : Tab) (g : Ghost) (S : St) (w : World) (K : Out → St → Prop) : Ending → World → Prop :=
 fun e w' => ∃ out S' g', K out S' ∧ outRel T w' g' out e ∧ WRel T g' S' w' ∧ Ext (touchOf g) g w g' w' ∧ (∀ b, touchOf g' b → touchOf g b ∨ w.heap.size ≤ b) ∧
  (∀ o b, g'.ρ o = some b → g.ρ o = some b ∨ S.next ≤ o) ∧ S.next ≤ S'.next ∧ ∀ o tk, g'.α o = some tk → g.α o ≠ none ∨ S.next ≤ o
def Enters (P : Program) (f : FuncId) : Prop := ∀ (args : Array Value) (w : World), (callFunc f args).run P w = .ok (.enter f args) w
def Into (P : Program) (f : FuncId) (vs : List Value) (w : World) (R : Ending → World → Prop) : Prop :=
 (Enters P f ∧ Calls P f vs.toArray w R) ∨ ∃ x w', (callFunc f vs.toArray).run P w = .ok (.value x) w' ∧ R (.returned x) w'
def ArgsRel (T : Tab) (w : World) (g : Ghost) (args : List AV) (vs : List Value) : Prop :=
 vs.length = args.length ∧ ∀ j, j < args.length → Rep T w g (nth args j) (vs.getD j undef)
def CallP (P : Program) (T : Tab) (f : FuncId) (args : List AV) (S : St) (K : Out → St → Prop) : Prop :=
 ∀ (g : Ghost) (w : World) (vs : List Value), WRel T g S w → GlobOk T g w → ArgsRel T w g args vs → Into P f vs w (callPost T g S w K)
def exRel (T : Tab) (w : World) (g : Ghost) : Ex → Exit → Prop
 | .normal, .normal => True
 | .exit i, .exit j => i = j
 | .ret, .ret => True
 | .panic v, .panic chain => ∃ x, chain = [{ v := x, recovered := false }] ∧ Rep T w g v x
 | _, _ => False
def Post (T : Tab) (C : Ctx) (K : Ex → Env → St → Prop) : Exit → Act → World → Prop :=
 fun e a w => ∃ ex env S g, K ex env S ∧ exRel T w g ex e ∧ Inv T C g env S a w
def WpA (P : Program) (T : Tab) (C : Ctx) (c : Code) (K : Ex → Env → St → Prop) (env : Env) (S : St) : Prop :=
 ∀ g a w, Inv T C g env S a w → c.wp P (Post T C K) a w
def LoopGo (P : Program) (c : Code) (Q : Exit → Act → World → Prop) (a : Act) (w : World) : Prop :=
 ∀ (b : Frame) (k : List Item) (cs : List Frame), ∃ e a' w', Q e a' w' ∧ Arrives P (lone (b.at a (.code c :: .inLoop c :: k)) cs w) b k cs e a' w'
def LoopP (P : Program) (T : Tab) (N : Nat) (c : Code) (K : Ex → Env → St → Prop) (env : Env) (S : St) : Prop :=
 ∀ C : Ctx, C.n = N → ∀ g a w, Inv T C g env S a w → LoopGo P c (Post T C K) a w
def pAlg (P : Program) (T : Tab) (N : Nat) : Alg Prop where
 fail := False
 need b r := b = true ∧ r
 same a b r := a = b ∧ r
 call := CallP P T
 loop := LoopP P T N
section
variable {P : Program} {T : Tab} {C : Ctx} {g : Ghost} {env : Env} {S : St} {a : Act} {w : World}
theorem row_push (S : St) (r : List AV) (o : Nat) : (S.push r).row o = if S.next = o then r else S.row o := by
 simp only [St.push, St.row, rowIn]
 cases hb : Nat.beq S.next o with
 | true => rw [if_pos (Nat.eq_of_beq_eq_true hb)]
 | false => rw [if_neg (Nat.ne_of_beq_eq_false hb)]
theorem rowIn_set : ∀ (l : List (Nat × List AV)) (o : Nat) (r : List AV) (p : Nat), rowIn l o ≠ [] → rowIn (setIn l o r) p = if o = p then r else rowIn l p
 | [], o, r, p, h => absurd rfl h
 | (k, q) :: l, o, r, p, h => by
  simp only [rowIn, setIn] at h ⊢
  cases hb : Nat.beq k o with
  | true =>
   have hko : k = o := Nat.eq_of_beq_eq_true hb
   subst hko
   simp only [rowIn]
   cases hp : Nat.beq k p with
   | true => rw [if_pos (Nat.eq_of_beq_eq_true hp)]
   | false => rw [if_neg (Nat.ne_of_beq_eq_false hp)]
  | false =>
   simp only [hb] at h
   simp only [rowIn]
   have hne : k ≠ o := Nat.ne_of_beq_eq_false hb
   cases hp : Nat.beq k p with
   | true =>
    have hkp : k = p := Nat.eq_of_beq_eq_true hp
    subst hkp
    rw [if_neg (Ne.symm hne)]
   | false => exact rowIn_set l o r p h
theorem next_push (S : St) (r : List AV) : (S.push r).next = S.next + 1 := rfl
theorem Inv.push (h : Inv T C g env S a w) (row : List AV) : Inv T C g env (S.push row) a w := by
 have hlt : ∀ o b, g.ρ o = some b → (S.push row).row o = S.row o := fun o b e => by
  rw [row_push, if_neg]
  have := h.rel.dom o b e
  omega
 have hvt : ∀ o tk, g.α o = some tk → (S.push row).row o = S.row o := fun o tk e => by
  rw [row_push, if_neg]
  have := (h.rel.vec.ok o tk e).1
  omega
 refine ⟨h.tmp, h.size, h.defers, ⟨?_, h.rel.inj, fun o b e => Nat.lt_succ_of_lt (h.rel.dom o b e), h.rel.apart, h.rel.live, h.rel.tok, h.rel.tinj,
  h.rel.vec.other rfl hvt (Nat.le_succ _) (.refl _ _) (fun _ _ _ _ _ => rfl) h.rel.vec.ρ h.rel.vec.D h.rel.vec.τ h.rel.vec.one⟩, h.ext, h.ob, h.tb, h.glob, h.nm, Nat.le_succ_of_le h.next, h.vb, h.vn⟩
 intro o b e
 obtain ⟨c, t, hc, hs, h1, hR⟩ := h.rel.obj o b e
 refine ⟨c, t, hc, by rw [hlt o b e]; exact hs, h1, fun j hj => ?_⟩
 rw [hlt o b e] at hj ⊢
 exact hR j hj
theorem Inv.name (h : Inv T C g env S a w) {ob : Nat} (hob : ob < S.next) (hfree : g.ρ ob = none) (hva : g.α ob = none) (hnx : C.next ≤ ob) {c : Array Value} {t : TypeId} (hs : c.size = (S.row ob).length)
  (h1 : ∀ u ∈ c.toList, u.oneCell' = true) (hR : ∀ j, j < (S.row ob).length → Rep T w g (nth (S.row ob) j) (c.toList.getD j undef)) :
  ∃ g', Inv T C g' env S a (w.alloc (.cells c t)) ∧ Keeps g w g' (w.alloc (.cells c t)) ∧ Rep T (w.alloc (.cells c t)) g' (.ptr ob 0) (.pointer (some ⟨w.heap.size, 0, none⟩)) ∧
   (∀ o, o ≠ ob → g'.ρ o = g.ρ o) ∧ g'.α = g.α := by
 have hg : Grow g w g (w.alloc (.cells c t)) := ⟨rfl, rfl, rfl, fun _ _ hh => hh, fun _ _ hh => .inl hh, fun b hb => heap_alloc_old w _ b hb, by simp, rfl, rfl, rfl⟩
 have hr := h.rel.grow hg
 have hk1 := hg.keeps h.rel
 let g' : Ghost := { g with ρ := fun o => if o = ob then some w.heap.size else g.ρ o }
 have hk2 : Keeps g (w.alloc (.cells c t)) g' (w.alloc (.cells c t)) := by
  refine ⟨fun o b e => ?_, fun k tk e => ⟨tk, e, rfl, .inl rfl⟩, fun _ _ hh => hh, fun _ _ _ => rfl, fun _ c _ fr h => ⟨c, fr, h⟩, fun _ tk e => ⟨tk, e, rfl, .inl rfl⟩⟩
  by_cases ho : o = ob
  · subst ho; rw [hfree] at e; cases e
  · simp only [g', if_neg ho]; exact e
 have hk := hk1.trans hk2
 have hlt : ∀ o b, g.ρ o = some b → b < w.heap.size := fun o b e => by
  obtain ⟨c', t', hc, _⟩ := h.rel.obj o b e
  exact heap_lt hc
 have hkext : Ext (fun b => C.touch b ∨ C.w0.heap.size ≤ b) g w g' (w.alloc (.cells c t)) := ⟨rfl, rfl, rfl, by simp, hk, fun b hb _ => hg.heap b hb, fun b off hD => .inl hD⟩
 refine ⟨g', ⟨fun u => (h.tmp u).keeps hk, h.size, h.defers, ?_, h.ext.trans hkext, ?_, h.tb, fun gl t e' hg => (h.glob gl t e' hg).keeps hk, ?_, h.next, h.vb, h.vn⟩, hk, .ptr _ _ _ _ (by simp [g']), fun o ho => by simp [g', ho], rfl⟩
 · refine ⟨?_, ?_, ?_, ?_, ?_, ?_, hr.tinj, ?_⟩
   rotate_right
   · have hlv : ∀ o tk b, g.α o = some tk → tk.b = some b → b < w.heap.size := fun o tk b e hb => (h.rel.vec.ok o tk e).2.lt hb
     refine h.rel.vec.other rfl (fun _ _ _ => rfl) (Nat.le_refl _) hk (fun o tk b e hb => hg.heap b (hlv o tk b e hb)) (fun o tk b e hb p hp => ?_) h.rel.vec.D h.rel.vec.τ (fun o b e => ?_)
     · by_cases ho : p = ob
       · subst ho
         simp only [g', if_true, Option.some.injEq] at hp
         have := hlv o tk b e hb; omega
       · simp only [g', if_neg ho] at hp
         exact h.rel.vec.ρ o tk b e hb p hp
     · by_cases ho : o = ob
       · subst ho; exact hva
       · simp only [g', if_neg ho] at e
         exact h.rel.vec.one o b e
   · intro o b e
     by_cases ho : o = ob
     · subst ho
       simp only [g', if_true, Option.some.injEq] at e
       subst e
       exact ⟨c, t, heap_alloc_new w _, hs, h1, fun j hj => (hR j hj).keeps hk⟩
     · simp only [g', if_neg ho] at e
       obtain ⟨c', t', hc, hs', h1', hR'⟩ := hr.obj o b e
       exact ⟨c', t', hc, hs', h1', fun j hj => (hR' j hj).keeps hk2⟩
   · intro o o' b e e'
     by_cases ho : o = ob <;> by_cases ho' : o' = ob
     · rw [ho, ho']
     · subst ho
       simp only [g', if_true, Option.some.injEq, if_neg ho'] at e e'
       have := hlt _ _ e'; omega
     · subst ho'
       simp only [g', if_true, Option.some.injEq, if_neg ho] at e e'
       have := hlt _ _ e; omega
     · simp only [g', if_neg ho, if_neg ho'] at e e'
       exact h.rel.inj _ _ _ e e'
   · intro o b e
     by_cases ho : o = ob
     · subst ho; exact hob
     · simp only [g', if_neg ho] at e
       exact h.rel.dom _ _ e
   · intro o b off e hD
     by_cases ho : o = ob
     · subst ho
       simp only [g', if_true, Option.some.injEq] at e
       subst e
       have := h.rel.live _ _ hD; omega
     · simp only [g', if_neg ho] at e
       exact h.rel.apart _ _ _ e hD
   · intro b off hD
     have := h.rel.live _ _ hD
     simp; omega
   · intro k tk e
     obtain ⟨q1, q2, xs, q3, q4⟩ := hr.tok k tk e
     refine ⟨q1, q2, xs, q3, fun b hb => ⟨(q4 b hb).1, fun o e' => ?_⟩⟩
     by_cases ho : o = ob
     · subst ho
       simp only [g', if_true, Option.some.injEq] at e'
       subst e'
       obtain ⟨_, _, xs', q5, _⟩ := h.rel.tok k tk e
       have := (q5.lt _ hb).2; omega
     · simp only [g', if_neg ho] at e'
       exact (q4 b hb).2 o e'
 · intro o b e
   by_cases ho : o = ob
   · subst ho
     simp only [g', if_true, Option.some.injEq] at e
     subst e
     exact .inr h.ext.size
   · simp only [g', if_neg ho] at e
     exact h.ob _ _ e
 · intro o b e
   by_cases ho : o = ob
   · subst ho
     exact .inr hnx
   · simp only [g', if_neg ho] at e
     exact h.nm _ _ e
theorem Inv.new (h : Inv T C g env S a w) {c : Array Value} {t : TypeId} {row : List AV} (hs : c.size = row.length) (h1 : ∀ u ∈ c.toList, u.oneCell' = true)
  (hR : ∀ j, j < row.length → Rep T w g (nth row j) (c.toList.getD j undef)) :
  ∃ g', Inv T C g' env (S.push row) a (w.alloc (.cells c t)) ∧ Keeps g w g' (w.alloc (.cells c t)) ∧ Rep T (w.alloc (.cells c t)) g' (.ptr S.next 0) (.pointer (some ⟨w.heap.size, 0, none⟩)) := by
 have hrow : (S.push row).row S.next = row := by rw [row_push, if_pos rfl]
 have hfree : g.ρ S.next = none := by
  cases hq : g.ρ S.next with
  | none => rfl
  | some b => exact absurd (h.rel.dom _ _ hq) (Nat.lt_irrefl _)
 have hva : g.α S.next = none := by
  cases hq : g.α S.next with
  | none => rfl
  | some tk => exact absurd (h.rel.vec.ok _ _ hq).1 (Nat.lt_irrefl _)
 obtain ⟨g', h1', h2', h3', _⟩ := (h.push row).name (ob := S.next) (c := c) (t := t) (Nat.lt_succ_self _) hfree hva h.next (by rw [hrow]; exact hs) h1 (by rw [hrow]; exact hR)
 exact ⟨g', h1', h2', h3'⟩
theorem Inv.retell (h : Inv T C g env S a w) {o : Nat} {row : List AV} (hne : S.row o ≠ []) (hva : g.α o = none) (hl : row.length = (S.row o).length)
  (hR : ∀ j, j < row.length → ∀ x, Rep T w g (nth (S.row o) j) x → Rep T w g (nth row j) x) : Inv T C g env (S.set o row) a w := by
 have hrow : ∀ p, (S.set o row).row p = if o = p then row else S.row p := fun p => rowIn_set _ _ _ _ hne
 refine ⟨h.tmp, h.size, h.defers, ⟨?_, h.rel.inj, h.rel.dom, h.rel.apart, h.rel.live, h.rel.tok, h.rel.tinj,
  h.rel.vec.other rfl (fun p tk e => by rw [hrow, if_neg]; rintro rfl; rw [hva] at e; cases e) (Nat.le_refl _) (.refl _ _) (fun _ _ _ _ _ => rfl) h.rel.vec.ρ h.rel.vec.D h.rel.vec.τ h.rel.vec.one⟩, h.ext, h.ob, h.tb, h.glob, h.nm, h.next, h.vb, h.vn⟩
 intro p b e
 obtain ⟨c, t, hc, hs, h1, hR'⟩ := h.rel.obj p b e
 by_cases hp : o = p
 · subst hp
   refine ⟨c, t, hc, by rw [hrow, if_pos rfl, hl]; exact hs, h1, fun j hj => ?_⟩
   rw [hrow, if_pos rfl] at hj ⊢
   exact hR j hj _ (hR' j (by omega))
 · refine ⟨c, t, hc, by rw [hrow, if_neg hp]; exact hs, h1, fun j hj => ?_⟩
   rw [hrow, if_neg hp] at hj ⊢
   exact hR' j hj
theorem Inv.write (h : Inv T C g env S a w) {o b off : Nat} {c : Array Value} {t : TypeId} {vs : List AV} {xs : List Value} (hb : g.ρ o = some b) (hc : w.heap[b]? = some (.cells c t (0, 0)))
  (hl : xs.length = vs.length) (hle : off + vs.length ≤ (S.row o).length) (hne : S.row o ≠ []) (h1 : ∀ u ∈ xs, u.oneCell' = true) (hR : ∀ j, j < vs.length → Rep T w g (nth vs j) (xs.getD j undef)) :
  Inv T C g env (S.set o (setRange (S.row o) off vs)) a (w.setRow b (c.toList.take off ++ xs ++ c.toList.drop (off + xs.length)).toArray) := by
 let c' := (c.toList.take off ++ xs ++ c.toList.drop (off + xs.length)).toArray
 let w' := w.setRow b c'
 obtain ⟨c0, t0, hc0, hs0, h10, hR0⟩ := h.rel.obj o b hb
 have hcc : c = c0 ∧ t = t0 := by
  have := hc.symm.trans hc0
  simp only [Option.some.injEq, Obj.cells.injEq] at this
  exact ⟨this.1, this.2.1⟩
 obtain ⟨rfl, rfl⟩ := hcc
 have hnew : w'.heap[b]? = some (.cells c' t (0, 0)) := setRow_heap w b c c' t (0, 0) hc
 have hother : ∀ i, i ≠ b → w'.heap[i]? = w.heap[i]? := fun i hi => setRow_other w b i c' hi
 have hsize : w'.heap.size = w.heap.size := by simp [w', World.setRow]
 have htake : (c.toList.take off).length = off := by
  have e := Array.length_toList (xs := c)
  rw [List.length_take]; omega
 have hcs : c'.size = c.size := by
  have e := Array.length_toList (xs := c)
  simp only [c', List.size_toArray, List.length_append, htake, List.length_drop]
  omega
 have hget : ∀ j, c'.toList.getD j undef = if off ≤ j ∧ j < off + xs.length then xs.getD (j - off) undef else c.toList.getD j undef := by
  intro j
  simp only [c', List.getD_eq_getElem?_getD, List.append_assoc]
  by_cases hj1 : j < off
  · rw [List.getElem?_append_left (by omega), if_neg (by omega), List.getElem?_take, if_pos hj1]
  · rw [List.getElem?_append_right (by omega), htake]
    by_cases hj2 : j < off + xs.length
    · rw [List.getElem?_append_left (by omega), if_pos (by omega)]
    · rw [List.getElem?_append_right (by omega), if_neg (by omega), List.getElem?_drop]
      congr 2; omega
 have hDb : ∀ off', ¬ g.D b off' := fun off' hD => h.rel.apart o b off' hb hD
 have hkeep : Keeps g w g w' := by
  refine ⟨fun _ _ e => e, fun k tk e => ⟨tk, e, rfl, .inl rfl⟩, fun _ _ hD => hD, fun b' off' hD => ?_, fun b' c2 t2 fr2 e0 => ?_, fun _ tk e => ⟨tk, e, rfl, .inl rfl⟩⟩
  rotate_left
  · by_cases hb2 : b' = b
    · subst hb2
      have := hc.symm.trans e0
      simp only [Option.some.injEq, Obj.cells.injEq] at this
      obtain ⟨_, rfl, _⟩ := this
      exact ⟨_, _, hnew⟩
    · exact ⟨c2, fr2, (hother b' hb2).trans e0⟩
  have hbb : b' ≠ b := fun e => hDb off' (e ▸ hD)
  exact cell_of_heap (hother b' hbb)
 have hrow : ∀ p, (S.set o (setRange (S.row o) off vs)).row p = if o = p then setRange (S.row o) off vs else S.row p := fun p => rowIn_set _ _ _ _ hne
 have htouch := h.ob o b hb
 refine h.step ?_ ⟨rfl, rfl, rfl, by rw [hsize]; exact Nat.le_refl _, hkeep, fun b' hb' hnt => hother b' (fun e => hnt (e ▸ htouch)), fun b' off' hD => .inl hD⟩ h.ob h.tb (fun _ _ q => .inl q) (Nat.le_refl _) h.vb (fun _ _ q => .inl (by rw [q]; simp))
 refine ⟨?_, h.rel.inj, h.rel.dom, h.rel.apart, fun b' off' hD => by rw [hsize]; exact h.rel.live b' off' hD, ?_, h.rel.tinj,
  h.rel.vec.other rfl (fun p tk e => by rw [hrow, if_neg]; rintro rfl; rw [h.rel.vec.one _ _ hb] at e; cases e) (Nat.le_refl _) hkeep (fun p tk b' e hb' => hother b' (by rintro rfl; exact h.rel.vec.ρ p tk b' e hb' o hb)) h.rel.vec.ρ h.rel.vec.D h.rel.vec.τ h.rel.vec.one⟩
 · intro p b' e
   by_cases hp : o = p
   · subst hp
     have : b' = b := by have := e.symm.trans hb; simpa using this
     subst this
     refine ⟨c', t, hnew, by rw [hrow, if_pos rfl, setRange_len, hcs]; exact hs0, ?_, ?_⟩
     · intro u hu
       simp only [c', List.mem_append] at hu
       rcases hu with (hu | hu) | hu
       · exact h10 u (List.mem_of_mem_take hu)
       · exact h1 u hu
       · exact h10 u (List.mem_of_mem_drop hu)
     · intro j hj
       rw [hrow, if_pos rfl] at hj ⊢
       rw [setRange_len] at hj
       rw [nth_setRange _ _ _ _ hle, hget]
       by_cases hin : off ≤ j ∧ j < off + vs.length
       · rw [if_pos hin, if_pos (by omega)]
         exact (hR _ (by omega)).keeps hkeep
       · rw [if_neg hin, if_neg (by omega)]
         exact (hR0 j hj).keeps hkeep
   · have hbb : b' ≠ b := fun e' => hp (h.rel.inj o p b hb (e' ▸ e))
     obtain ⟨c2, t2, hc2, hs2, h12, hR2⟩ := h.rel.obj p b' e
     refine ⟨c2, t2, (hother b' hbb).trans hc2, by rw [hrow, if_neg hp]; exact hs2, h12, fun j hj => ?_⟩
     rw [hrow, if_neg hp] at hj ⊢
     exact (hR2 j hj).keeps hkeep
 · intro k tk e
   obtain ⟨q1, q2, xs', q3, q4⟩ := h.rel.tok k tk e
   refine ⟨q1, q2, xs', ?_, q4⟩
   refine q3.kept (row := some b) ⟨rfl, rfl, rfl, by rw [hsize]; exact Nat.le_refl _, fun j hj hn => hother j (fun e1 => hn (by rw [e1]))⟩ ?_
   cases hob : tk.v.ownBlock with
   | none => exact .inl rfl
   | some b2 =>
    refine .inr fun e1 => ?_
    have : b2 = b := by simpa using e1
    subst this
    exact (q4 b2 hob).2 o hb
theorem setVec_self {g : Ghost} {o : Nat} {tk : VTok} (h : g.α o = some tk) : setVec g o tk = g := by
 unfold setVec
 have : (fun i => if i = o then some tk else g.α i) = g.α := by
  funext i
  by_cases hi : i = o
  · subst hi; rw [if_pos rfl, h]
  · rw [if_neg hi]
 rw [this]
theorem vrow_set {S : St} {o : Nat} {r q : List AV} (hr : S.row o = r) (hne : r ≠ []) (p : Nat) : (S.set o q).row p = if o = p then q else S.row p :=
 rowIn_set _ _ _ _ (by show S.row o ≠ []; rw [hr]; exact hne)
theorem putE_real {cs : List AV} {i : Int} (h0 : 0 ≤ i) (h1 : i < cs.length) (h2 : cs.length ≤ maxLen) (el : AV) : putE real cs i el = cs.set i.toNat el := by
 obtain ⟨k, rfl⟩ := Int.eq_ofNat_of_zero_le h0
 have hk : k < cs.length := by omega
 simp only [maxLen] at h2
 have e1 : real.arith .add .i64 (k : Int) 1 = ((k + 1 : Nat) : Int) := by
  show IntKind.i64.wrap ((k : Int) + 1) = _
  rw [wrap_in (by omega) (by omega)]; omega
 unfold putE
 rw [e1]
 show ((cs.drop 0).take ((k : Int) - 0).toNat) ++ (el :: (cs.drop ((k + 1 : Nat) : Int).toNat).take ((cs.length : Int) - ((k + 1 : Nat) : Int)).toNat) = _
 have e2 : ((k : Int) - 0).toNat = k := by omega
 have e3 : (((k + 1 : Nat) : Int)).toNat = k + 1 := by omega
 have e4 : ((cs.length : Int) - ((k + 1 : Nat) : Int)).toNat = (cs.drop (k + 1)).length := by simp; omega
 rw [e2, e3, e4, List.drop_zero, List.take_length, Int.toNat_natCast, List.set_eq_take_append_cons_drop, if_pos hk]
theorem Inv.vput (h : Inv T C g env S a w) {o v : Nat} {e : TypeId} {full : Bool} {cs : List AV} {tk : VTok} (hα : g.α o = some tk) (hvec : S.vec e o v = some (full, cs)) {k d b : Nat} (hk : k < cs.length)
  {vs : List AV} {xs : List Value} (hl : xs.length = vs.length) (hle : d + vs.length ≤ T.size e) (h1 : ∀ u ∈ xs, u.oneCell' = true) (hR : ∀ j, j < vs.length → Rep T w g (nth vs j) (xs.getD j undef))
  {el : AV} (hfe : Fit T e el) (hel : ∀ j, j < T.size e → nth el.cells j = if d ≤ j ∧ j < d + vs.length then nth vs (j - d) else nth (nth cs k).cells j)
  (hb : tk.b = some b) {c : Array Value} (hc : w.heap[b]? = some (.cells c e (0, 0))) :
  Inv T C g env (S.set o [.mrow e v full (cs.set k el)]) a (w.setRow b (c.toList.take (k * T.size e + d) ++ xs ++ c.toList.drop (k * T.size e + d + xs.length)).toArray) := by
 obtain ⟨hte, htv, b0, c0, hb0, hcl, hn, hfull, hmx, hsz, hcc, hcs, hone, hfit, hR0⟩ := h.rel.vecAt hα hvec
 have : b0 = b := by rw [hb] at hb0; simpa using hb0.symm
 subst this
 have hcc2 : c0 = c := by
  have := hcc.symm.trans hc
  simpa using this
 subst hcc2
 let c' := (c0.toList.take (k * T.size e + d) ++ xs ++ c0.toList.drop (k * T.size e + d + xs.length)).toArray
 have hkn : (k + 1) * T.size e ≤ tk.cap * T.size e := Nat.mul_le_mul_right _ (by omega)
 rw [Nat.succ_mul] at hkn
 have htake : (c0.toList.take (k * T.size e + d)).length = k * T.size e + d := by
  have e := Array.length_toList (xs := c0)
  rw [List.length_take]; omega
 have hcs' : c'.size = c0.size := by
  have e := Array.length_toList (xs := c0)
  simp only [c', List.size_toArray, List.length_append, htake, List.length_drop]
  omega
 have hget : ∀ j, c'.toList.getD j undef = if k * T.size e + d ≤ j ∧ j < k * T.size e + d + xs.length then xs.getD (j - (k * T.size e + d)) undef else c0.toList.getD j undef := by
  intro j
  simp only [c', List.getD_eq_getElem?_getD, List.append_assoc]
  by_cases hj1 : j < k * T.size e + d
  · rw [List.getElem?_append_left (by omega), if_neg (by omega), List.getElem?_take, if_pos hj1]
  · rw [List.getElem?_append_right (by omega), htake]
    by_cases hj2 : j < k * T.size e + d + xs.length
    · rw [List.getElem?_append_left (by omega), if_pos (by omega)]
    · rw [List.getElem?_append_right (by omega), if_neg (by omega), List.getElem?_drop]
      congr 2; omega
 have hnth : ∀ i, nth (cs.set k el) i = if i = k then el else nth cs i := by
  intro i
  rw [nth_eq, nth_eq]
  simp only [List.getD_eq_getElem?_getD, List.getElem?_set]
  by_cases hi : k = i
  · subst hi; simp [hk]
  · rw [if_neg hi, if_neg (Ne.symm hi)]
 have hr := vec_row hvec
 have hrow := vrow_set (q := [.mrow e v full (cs.set k el)]) hr (by simp)
 have hsame := (h.vtell (o := o) (b := b0) (S' := S.set o [.mrow e v full (cs.set k el)]) (w' := w.setRow b0 c') (c := c') tk full (cs.set k el) (fun t0 e0 => by
   have : tk = t0 := by rw [hα] at e0; simpa using e0
   subst this
   exact ⟨rfl, .inl rfl⟩) hb (by show o < S.next; exact (h.rel.vec.ok o tk hα).1) (Nat.le_refl _)
  (by
    cases hq : g.ρ o with
    | none => rfl
    | some q => have := h.rel.vec.one o q hq; rw [hα] at this; cases this)
  (by rw [hrow, if_pos rfl, hte, htv]) (fun p hp _ => by rw [hrow, if_neg (Ne.symm hp)]) rfl rfl rfl rfl (by simp [World.setRow]) (fun i hi _ => setRow_other w b0 i c' hi) (.inl ⟨tk, hα, hb⟩)
  (by rw [hte]; exact setRow_heap w b0 c0 c' e (0, 0) hc) (by rw [hte]; exact hsz) (by rw [hcs', hcs, hte]) ?_ (by simpa using hcl) hn hfull hmx ?_ ?_ (.inl (by rw [hα]; simp))).1
 · rwa [setVec_self hα] at hsame
 · intro u hu
   simp only [c', List.mem_append] at hu
   rcases hu with (hu | hu) | hu
   · exact hone u (List.mem_of_mem_take hu)
   · exact h1 u hu
   · exact hone u (List.mem_of_mem_drop hu)
 · intro i hi
   rw [hnth, hte]
   split
   · exact hfe
   · exact hfit i (by simpa using hi)
 · intro i j hi hj
   rw [hte] at hj ⊢
   have hi' : i < cs.length := by simpa using hi
   rw [hnth, hget]
   by_cases hik : i = k
   · subst hik
     rw [if_pos rfl, hel j hj]
     by_cases hin : d ≤ j ∧ j < d + vs.length
     · rw [if_pos hin, if_pos (by omega)]
       have e1 : i * T.size e + j - (i * T.size e + d) = j - d := by omega
       rw [e1]
       exact hR _ (by omega)
     · rw [if_neg hin, if_neg (by omega)]
       exact hR0 i j hi' hj
   · rw [if_neg hik, if_neg]
     · exact hR0 i j hi' hj
     · rintro ⟨q1, q2⟩
       rcases Nat.lt_or_gt_of_ne hik with hlt | hgt
       · have : (i + 1) * T.size e ≤ k * T.size e := Nat.mul_le_mul_right _ (by omega)
         rw [Nat.succ_mul] at this
         omega
       · have : (k + 1) * T.size e ≤ i * T.size e := Nat.mul_le_mul_right _ (by omega)
         rw [Nat.succ_mul] at this
         omega
section
variable (hT : TabOk P T) (h : Inv T C g env S a w)
include hT h
theorem sound_store (N : Nat) (o : Oper) (t : TypeId) (x v : Operand) (ho : o.op = .store t x v) {Pa K : AV → St → Prop} (hx : xeff (pAlg P T N) T env S o.op Pa K) :
  ∃ S' w', K .undef S' ∧ (execOp a.eval o).run P w = .ok .skip w' ∧ Inv T C g env S' a w' := by
 rw [ho] at hx
 simp only [xeff, vecX_of hT.X] at hx
 split at hx
 · rename_i ob off hp
   split at hx
   · rename_i hk
     split at hx
     · rename_i hsz
       split at hx
       · rename_i hle
         have hcl : (AM.ev T env v).cells.length = T.size t := by have := Nat.eq_of_beq_eq_true hsz; rwa [lenN_eq] at this
         have hle' := ble_le hle
         rw [lenN_eq] at hle'
         have hax := h.ev x
         rw [hp] at hax
         generalize hxx : a.eval x = u at hax
         cases hax with
         | ptr _ _ _ b hb =>
          obtain ⟨hv1, hv2, hv3⟩ := (h.ev v).cells hk
          split at hx
          · rename_i hone
            have hone' := ble_le hone
            have hhas : T.has t = true := by
             cases hq : T.has t with
             | true => rfl
             | false =>
              have : T.ty t = .other := by
               unfold Tab.has at hq
               split at hq
               · assumption
               · cases hq
              rw [T.size_eq, this] at hone'
              simp [Ty.zs] at hone'
            obtain ⟨c, tt, hc, hs, h1, hR⟩ := h.rel.obj ob b hb
            obtain ⟨hsr, _, _⟩ := row_size hT hhas w
            have hvl : (a.eval v).cells.toList.length = (AM.ev T env v).cells.length := by rw [Array.length_toList]; exact hv1
            have hpos : S.row ob ≠ [] := by
             intro e
             rw [e] at hle'
             simp at hle'
             omega
            have hst := run_storeCells_at P b off tt (a.eval v).cells.toList 0 c w hc (by omega) hv2
            refine ⟨_, _, hx, ?_, h.write hb hc hvl (by rw [hcl]; exact hle') hpos hv2 hv3⟩
            have hrun : (storeVar t ⟨b, off, none⟩ (a.eval v)).run P w = .ok () (w.setRow b (c.toList.take off ++ (a.eval v).cells.toList ++ c.toList.drop (off + (a.eval v).cells.toList.length)).toArray) := by
             unfold storeVar
             simp only [Sem.run_bind, hsr, Result.andThen_ok]
             rw [if_neg (by rw [hv1, hcl]; simp)]
             simpa using hst
            simp only [execOp, ho, hxx, Instr.storeAt, Sem.run_bind, Instr.sureAddr, Sem.run_pure, Result.andThen_ok, hrun]
          · split at hx
            · rename_i hnil
              split at hx
              · rename_i hhas
                obtain ⟨hsr, _, _⟩ := row_size hT hhas w
                refine ⟨_, w, hx, ?_, h⟩
                rw [hnil] at hv1 hcl
                have hcells : (a.eval v).cells = #[] := Array.eq_empty_of_size_eq_zero (by simpa using hv1)
                have hz : T.size t = 0 := by rw [← hcl]; rfl
                have hrun : (storeVar t ⟨b, off, none⟩ (a.eval v)).run P w = .ok () w := by
                 unfold storeVar
                 simp [hsr, hcells, hz, storeCells]
                simp only [execOp, ho, hxx, Instr.storeAt, Sem.run_bind, Instr.sureAddr, Sem.run_pure, Result.andThen_ok, hrun]
              · exact hx.elim
            · exact hx.elim
       · exact hx.elim
     · exact hx.elim
   · exact hx.elim
 · rename_i e ob vv i d hp
   split at hx
   · rename_i full cs hvec
     split at hx
     · rename_i hfits
       have hax := h.ev x
       rw [hp] at hax
       generalize hxx : a.eval x = u at hax
       cases hax with
       | mpt _ _ _ _ _ _ b0 p0 tk hα he hle hcur =>
        obtain ⟨hte, htv, b, c, hb, hcl, hn, hfull, hmx, hsz, hcc, hcs, hone, hfit, hR0⟩ := h.rel.vecAt hα hvec
        obtain ⟨hi0, rfl, rfl⟩ := hcur htv.symm b hb
        obtain ⟨hhas, hfits⟩ : T.has t = true ∧ fits T t (AM.ev T env v) = true := by
         unfold fitsH at hfits
         split at hfits
         · rename_i hq; exact ⟨hq, hfits⟩
         · cases hfits
        obtain ⟨hfv, hkv⟩ := fits_fit hT h hhas hfits
        obtain ⟨hv1, hv2, hv3⟩ := (h.ev v).cells hkv
        have hvl : (AM.ev T env v).cells.length = T.size t := by
         rcases hfv with ⟨_, cs', hcs', hl⟩ | ⟨_, hs', hcs'⟩
         · rw [hcs']; exact hl
         · rw [hcs', hs']; rfl
        have hxl : (a.eval v).cells.toList.length = (AM.ev T env v).cells.length := by rw [Array.length_toList]; exact hv1
        obtain ⟨hsr, _, _⟩ := row_size hT hhas w
        have hclen : ∀ k, k < cs.length → (nth cs k).cells.length = T.size e := by
         intro k hk
         rcases hfit k hk with ⟨_, cs', hcs', hl⟩ | ⟨_, hs, hcs'⟩
         · rw [hcs']; exact hl
         · rw [hcs', hs]; rfl
        have key : ∀ el, (pAlg P T N).need (T.X.inb i (T.X.len cs)) (K .undef (S.set ob [.mrow e vv full (putE T.X cs i el)])) → d + T.size t ≤ T.size e → (i.toNat < cs.length → Fit T e el) →
          (i.toNat < cs.length → ∀ j, j < T.size e → nth el.cells j = if d ≤ j ∧ j < d + (AM.ev T env v).cells.length then nth (AM.ev T env v).cells (j - d) else nth (nth cs i.toNat).cells j) →
          ∃ S' w', K .undef S' ∧ (execOp a.eval o).run P w = .ok .skip w' ∧ Inv T C g env S' a w' := by
         intro el hx hde hfe hel
         obtain ⟨hin, hx⟩ := hx
         rw [hT.X] at hin hx
         have hin' : 0 ≤ i ∧ i < (cs.length : Int) := inb_real' hin
         have hk : i.toNat < cs.length := by omega
         rw [putE_real hin'.1 hin'.2 (by omega)] at hx
         have hkn : (i.toNat + 1) * T.size e ≤ tk.cap * T.size e := Nat.mul_le_mul_right _ (by omega)
         rw [Nat.succ_mul] at hkn
         have hst := run_storeCells_at P b (i.toNat * T.size e + d) e (a.eval v).cells.toList 0 c w hcc (by omega) hv2
         refine ⟨_, _, hx, ?_, h.vput hα hvec hk hxl (by omega) hv2 hv3 (hfe hk) (hel hk) hb hcc⟩
         have hrun : (storeVar t ⟨b, i.toNat * T.size e + d, none⟩ (a.eval v)).run P w = .ok () (w.setRow b (c.toList.take (i.toNat * T.size e + d) ++ (a.eval v).cells.toList ++ c.toList.drop (i.toNat * T.size e + d + (a.eval v).cells.toList.length)).toArray) := by
          unfold storeVar
          simp only [Sem.run_bind, hsr, Result.andThen_ok]
          rw [if_neg (by rw [hv1, hvl]; simp)]
          simpa using hst
         simp only [execOp, ho, hxx, Instr.storeAt, Sem.run_bind, Instr.sureAddr, Sem.run_pure, Result.andThen_ok, hrun]
        split at hx
        · rename_i hbeq
          have hte2 : t = e := Nat.eq_of_beq_eq_true hbeq
          subst hte2
          cases d with
          | succ n => exact hx.elim
          | zero =>
           refine key _ hx (by omega) (fun _ => hfv) (fun _ j hj => ?_)
           rw [if_pos (by omega)]
           rfl
        · split at hx
          · rename_i hag
            split at hx
            · rename_i hle2
              have hle' := ble_le hle2
              rw [hT.X] at hx
              have helt : real.elt cs i = nth cs i.toNat := by rw [nth_eq]; rfl
              rw [helt] at hx
              rw [← hT.X] at hx
              refine key _ hx hle' (fun hk => .inl ⟨hag, _, rfl, ?_⟩) (fun hk j hj => ?_)
              · rw [setRange_len, hclen _ hk]
              · show nth (setRange _ _ _) j = _
                rw [nth_setRange _ _ _ _ (by rw [hclen _ hk]; omega)]
            · exact hx.elim
          · exact hx.elim
     · exact hx.elim
   · exact hx.elim
 · exact hx.elim
theorem args_of {x y : Operand} {c : Call} (hargs : c.args.toList = [x, y]) : c.args = #[x, y] := by
 rw [← Array.toArray_toList (xs := c.args), hargs]
omit hT h in
theorem capSet_same : ∀ (l : List Int) (k : Nat), capSet l k (capAt l k) = l
 | [], k => rfl
 | v :: l, 0 => rfl
 | v :: l, k + 1 => by simp [capSet, capAt, capSet_same l k]
omit hT h in
theorem room_nat {p b : Nat} (hr : real.room (p : Int) b = true) : p * b ≤ 140737488355328 := by
 have h1 : (p : Int) * (b : Int) ≤ 140737488355328 := of_decide_eq_true hr
 have h2 : ((p * b : Nat) : Int) = (p : Int) * (b : Int) := Int.natCast_mul _ _
 omega
theorem run_append_empty {t e : TypeId} {i : TypeInfo} (ty : TypeId) (ht : P.underlying t = some (.slice e)) (hi : P.info? e = some i) (base : Option Addr) (n cap : Nat) (hc : n ≤ cap) (ad : Option Addr) (c2 : Nat) (w : World) :
  (Builtin.append_ #[t, t] ty #[.slice base n cap, .slice ad 0 c2]).run P w = .ok (.slice base n cap) w := by
 have h1 : (Builtin.firstCells i.size 0 (.slice ad 0 c2)).run P w = .ok #[] w := by
  cases ad <;> simp [Builtin.firstCells, loadCells, loadCellsFrom]
 cases base <;> simp [Builtin.append_, run_underlying ht, sizeOf, run_typeInfo w hi, Builtin.lenOf, hc, h1, storeCells]
structure Apps (P : Program) (w : World) (t u e : TypeId) (i : TypeInfo) (z : Value) (n : Nat) (M : List Value) (uy : Value) : Prop where
 empty : n = 0 → ∀ ty (ad : Option Addr) k cap, k ≤ cap → (Builtin.append_ #[t, u] ty #[.slice ad k cap, uy]).run P w = .ok (.slice ad k cap) w
 nil : ∀ ty, 0 < n → (n : Int) ≤ 9223372036854775807 → n * i.bytes ≤ 281474976710656 → (Builtin.append_ #[t, u] ty #[.slice none 0 0, uy]).run P w =
   .ok (.slice (some ⟨w.heap.size, 0, none⟩) n (grownCap w n 0 e)) (w.drew.alloc (.cells (M.toArray ++ Builtin.zeroCells z.cells (grownCap w n 0 e - n)) e))
 grow : ∀ ty (b : Addr) (sLen sCap : Nat) (olds : List Value), olds.length = sLen * i.size → (∀ j v, olds[j]? = some v → w.cell? (b.add j) = some v) → sCap < sLen + n → ((sLen + n : Nat) : Int) ≤ 9223372036854775807 →
   Builtin.nextslicecap (sLen + n) sCap * i.bytes ≤ 281474976710656 → (Builtin.append_ #[t, u] ty #[.slice (some b) sLen sCap, uy]).run P w =
   .ok (.slice (some ⟨w.heap.size, 0, none⟩) (sLen + n) (grownCap w (sLen + n) sCap e))
    (w.drew.alloc (.cells (olds.toArray ++ M.toArray ++ Builtin.zeroCells z.cells (grownCap w (sLen + n) sCap e - (sLen + n))) e))
 room : ∀ ty (g sLen sCap : Nat) (cur : Array Value), 0 < n → w.heap[g]? = some (.cells cur e (0, 0)) → (∀ v ∈ M, v.oneCell' = true) → sLen + n ≤ sCap → sLen * i.size + M.length ≤ cur.size →
   (Builtin.append_ #[t, u] ty #[.slice (some ⟨g, 0, none⟩) sLen sCap, uy]).run P w =
   .ok (.slice (some ⟨g, 0, none⟩) (sLen + n) sCap) (w.setRow g (cur.toList.take (sLen * i.size) ++ M ++ cur.toList.drop (sLen * i.size + M.length)).toArray)
structure FlatV (T : Tab) (w : World) (g : Ghost) (e : TypeId) (cs : List AV) (L : List Value) : Prop where
 len : L.length = cs.length * T.size e
 one : ∀ u ∈ L, u.oneCell' = true
 fit : ∀ i, i < cs.length → Fit T e (nth cs i)
 rep : ∀ i j, i < cs.length → j < T.size e → Rep T w g (nth (nth cs i).cells j) (L.getD (i * T.size e + j) undef)
omit hT h in
theorem Flat.v {T : Tab} {w : World} {g : Ghost} {e : TypeId} {cs : List AV} {L : List Value} (h : Flat T w g e cs L) : FlatV T w g e cs L :=
 ⟨h.len, h.one, h.fit, fun i j hi hj => (h.rep i j hi hj).unflat⟩
omit hT h in
theorem FlatV.append {T : Tab} {w : World} {g : Ghost} {e : TypeId} {cs ys : List AV} {L M : List Value} (h : FlatV T w g e cs L) (k : FlatV T w g e ys M) : FlatV T w g e (cs ++ ys) (L ++ M) := by
 have hn : ∀ i, i < cs.length → nth (cs ++ ys) i = nth cs i := by
  intro i hi; rw [nth_eq, nth_eq]; simp [List.getD_eq_getElem?_getD, List.getElem?_append_left hi]
 have hm : ∀ i, cs.length ≤ i → nth (cs ++ ys) i = nth ys (i - cs.length) := by
  intro i hi; rw [nth_eq, nth_eq]; simp [List.getD_eq_getElem?_getD, List.getElem?_append_right hi]
 refine ⟨by simp [h.len, k.len, Nat.add_mul], ?_, ?_, ?_⟩
 · intro u hu
   rcases List.mem_append.1 hu with hu | hu
   · exact h.one u hu
   · exact k.one u hu
 · intro i hi
   by_cases hlt : i < cs.length
   · rw [hn i hlt]; exact h.fit i hlt
   · rw [hm i (by omega)]; exact k.fit _ (by simp at hi; omega)
 · intro i j hi hj
   by_cases hlt : i < cs.length
   · rw [hn i hlt]
     have := idx_lt hlt hj
     have h2 := h.rep i j hlt hj
     rw [List.getD_eq_getElem?_getD] at h2 ⊢
     rw [List.getElem?_append_left (by rw [h.len]; exact this)]
     exact h2
   · rw [hm i (by omega)]
     have hlt' : i - cs.length < ys.length := by simp at hi; omega
     have h2 := k.rep (i - cs.length) j hlt' hj
     have h3 : L.length ≤ i * T.size e + j := by
      rw [h.len]
      have : cs.length * T.size e ≤ i * T.size e := Nat.mul_le_mul_right _ (by omega)
      omega
     rw [List.getD_eq_getElem?_getD] at h2 ⊢
     rw [List.getElem?_append_right h3, h.len]
     have : i * T.size e + j - cs.length * T.size e = (i - cs.length) * T.size e + j := by
      rw [Nat.sub_mul]
      have : cs.length * T.size e ≤ i * T.size e := Nat.mul_le_mul_right _ (by omega)
      omega
     rw [this]
     exact h2
omit hT h in
theorem zeroCells_one {zc : Array Value} (hz : ∀ u ∈ zc.toList, u.oneCell' = true) (n : Nat) : ∀ u ∈ (Builtin.zeroCells zc n).toList, u.oneCell' = true := by
 intro u hu
 simp only [Builtin.zeroCells, Array.toList_map, List.mem_map] at hu
 obtain ⟨i, hi, rfl⟩ := hu
 have hi' : i < n * zc.size := by simpa using hi
 have hpos : 0 < zc.size := by
  rcases Nat.eq_zero_or_pos zc.size with h0 | h0
  · rw [h0] at hi'; simp at hi'
  · exact h0
 have hlt : i % zc.size < zc.size := Nat.mod_lt _ hpos
 rw [getElem!_pos zc _ hlt]
 exact hz _ (by simp)
theorem vec_newC {e : TypeId} {cs : List AV} {L : List Value} (hL : FlatV T w g e cs L) (hpos : 0 < cs.length) (hsz : 1 ≤ T.size e) (Zs : Array Value) (hZ : ∀ u ∈ Zs.toList, u.oneCell' = true) (cap : Nat)
  (hcap : cs.length ≤ cap) (hmax : cap ≤ maxLen) (hcells : (L.toArray ++ Zs).size = cap * T.size e) {o v : Nat} {S' : St} (hk : ∀ tk, g.α o = some tk → tk.e = e ∧ tk.v < v) (ho : o < S'.next) (hnx : S.next ≤ S'.next)
  (hρo : g.ρ o = none) (hrow : S'.row o = [.mrow e v false cs]) (hrows : ∀ p, p ≠ o → p < S.next → S'.row p = S.row p) (hcaps : S'.caps = S.caps) (hvn : g.α o ≠ none ∨ C.next ≤ o)
  {w' : World} (hw : w' = w.drew.alloc (.cells (L.toArray ++ Zs) e) ∨ w' = w.alloc (.cells (L.toArray ++ Zs) e)) :
  ∃ g', Inv T C g' env S' a w' ∧ Rep T w' g' (.msl e o v 0 cs.length) (.slice (some ⟨w.heap.size, 0, none⟩) cs.length cap) ∧ Keeps g w g' w' ∧ ∃ tk', g' = setVec g o tk' := by
 let tk' : VTok := { e := e, v := v, b := some w.heap.size, cap := cap, n := cs.length }
 have hnew : w'.heap[w.heap.size]? = some (.cells (L.toArray ++ Zs) e (0, 0)) := by
  rcases hw with rfl | rfl
  · exact heap_alloc_new w.drew _
  · exact heap_alloc_new w _
 have hold : ∀ i, i < w.heap.size → w'.heap[i]? = w.heap[i]? := by
  intro i hi
  rcases hw with rfl | rfl
  · exact heap_alloc_old w.drew _ i hi
  · exact heap_alloc_old w _ i hi
 have hsize : w.heap.size ≤ w'.heap.size := by rcases hw with rfl | rfl <;> simp
 obtain ⟨hI, hK⟩ := h.vtellC (o := o) (b := w.heap.size) (S' := S') (w' := w') (c := L.toArray ++ Zs) tk' false cs (fun t0 e0 => ⟨(hk t0 e0).1.symm, .inr (.inl (hk t0 e0).2)⟩) rfl ho hnx hρo hrow hrows hcaps
  (by rcases hw with rfl | rfl <;> rfl) (by rcases hw with rfl | rfl <;> rfl) (by rcases hw with rfl | rfl <;> rfl) hsize (fun i _ hi => hold i hi) (.inr (Nat.le_refl _)) hnew hsz hcells
  (by
    intro u hu
    simp only [Array.toList_append, List.mem_append] at hu
    rcases hu with hu | hu
    · exact hL.one u hu
    · exact hZ u hu) rfl hcap (by simp) ⟨by show 0 < cap; omega, hmax⟩ hL.fit (fun i j hi hj => by
    have := hL.rep i j hi hj
    have hlt := idx_lt hi hj
    rw [List.getD_eq_getElem?_getD] at this ⊢
    simp only [Array.toList_append]
    rw [List.getElem?_append_left (by rw [hL.len]; exact hlt)]
    exact this) hvn
 refine ⟨_, hI, ?_, hK, _, rfl⟩
 have e1 : cs.length = ((cs.length : Nat) : Int).toNat := by omega
 have := Rep.msl (T := T) (w := w') (setVec g o tk') e o v 0 (cs.length : Int) (some ⟨w.heap.size, 0, none⟩) cap tk' (by simp [setVec]) rfl (Nat.le_refl _) (by omega) (by omega) hmax ⟨_, _, rfl⟩ (fun _ => ⟨by omega, by show _ ≤ cs.length; omega, ⟨by show _ = cap; omega, hmax⟩, fun b hb _ => by
  have : w.heap.size = b := by simpa [tk'] using hb
  subst this
  simp⟩)
 rwa [← e1] at this
theorem vec_new {e : TypeId} {cs : List AV} {L : List Value} (hL : FlatV T w g e cs L) (hpos : 0 < cs.length) (hsz : 1 ≤ T.size e) (Zs : Array Value) (hZ : ∀ u ∈ Zs.toList, u.oneCell' = true) (cap : Nat)
  (hcap : cs.length ≤ cap) (hmax : cap ≤ maxLen) (hcells : (L.toArray ++ Zs).size = cap * T.size e) {o v : Nat} {S' : St} (hk : ∀ tk, g.α o = some tk → tk.e = e ∧ tk.v < v) (ho : o < S'.next) (hnx : S.next ≤ S'.next)
  (hρo : g.ρ o = none) (hrow : S'.row o = [.mrow e v false cs]) (hrows : ∀ p, p ≠ o → p < S.next → S'.row p = S.row p) (hcaps : S'.caps = S.caps) (hvn : g.α o ≠ none ∨ S.next ≤ o)
  {w' : World} (hw : w' = w.drew.alloc (.cells (L.toArray ++ Zs) e) ∨ w' = w.alloc (.cells (L.toArray ++ Zs) e)) :
  ∃ g', Inv T C g' env S' a w' ∧ Rep T w' g' (.msl e o v 0 cs.length) (.slice (some ⟨w.heap.size, 0, none⟩) cs.length cap) ∧ Keeps g w g' w' := by
 obtain ⟨g', h1, h2, h3, _⟩ := vec_newC hT h hL hpos hsz Zs hZ cap hcap hmax hcells hk ho hnx hρo hrow hrows hcaps (hvn.imp id fun q => Nat.le_trans h.next q) hw
 exact ⟨g', h1, h2, h3⟩
theorem apps_cells {t e : TypeId} {i : TypeInfo} {z : Value} (ht : P.underlying t = some (.slice e)) (hi : P.info? e = some i) (hz : i.zero = some z) {n : Nat} {M : List Value} {ad : Option Addr} {cap : Nat}
  (hMl : M.length = n * i.size) (hne : 0 < n → ∃ b : Addr, ad = some b ∧ ∀ j v, M[j]? = some v → w.cell? (b.add j) = some v) : Apps P w t t e i z n M (.slice ad n cap) := by
 refine ⟨fun h0 ty ad' k cap' hk => ?_, fun ty h0 h63 h48 => ?_, fun ty b sLen sCap olds hlo holds hg h63 hfit => ?_, fun ty gb sLen sCap cur h0 hg h1 hroom hfit => ?_⟩
 · rw [h0]; exact run_append_empty hT h ty ht hi ad' k cap' hk ad cap w
 · obtain ⟨b, rfl, hb⟩ := hne h0
   exact run_append_nil (P := P) w t ty e i z ht hi hz b n cap M hMl hb h0 h63 h48
 · rcases Nat.eq_zero_or_pos n with h0 | h0
   · have hM0 : M = [] := List.eq_nil_of_length_eq_zero (by rw [hMl, h0]; simp)
     subst hM0
     have hn : ¬ (sLen + n ≤ sCap) := by omega
     have h63' : ¬ (9223372036854775807 < ((sLen : Int) + (n : Int))) := by omega
     have h48' : ¬ (281474976710656 < Builtin.nextslicecap (sLen + n) sCap * i.bytes) := by omega
     have hf : (Builtin.firstCells i.size 0 (.slice ad 0 cap)).run P w.drew = .ok #[] w.drew := by
      cases ad <;> simp [Builtin.firstCells, loadCells, loadCellsFrom]
     have hfo := run_firstCells_some (P := P) w.drew i.size sLen b sLen sCap olds hlo (by simpa using holds)
     rw [h0] at hn h63' h48' ⊢
     simp only [Nat.add_zero] at hn h63' h48' ⊢
     have h63'' : ¬ (9223372036854775807 < (sLen : Int)) := by omega
     simp [Builtin.append_, run_underlying ht, sizeOf, typeInfo, zeroValue, hi, hz, Builtin.lenOf, hn, h63'', h48', Question.forced, hf, hfo, newRow, grownCap]
   · obtain ⟨b', rfl, hb⟩ := hne h0
     exact run_append_grow (P := P) w t ty e i z ht hi hz b sLen sCap olds hlo holds b' n cap M hMl hb hg h63 hfit
 · obtain ⟨b', rfl, hb⟩ := hne h0
   exact run_append_room (P := P) w t ty e i ht hi gb sLen sCap cur hg b' n cap M hMl hb h1 hroom hfit
theorem apps_slice {t e : TypeId} {i : TypeInfo} {z : Value} (ht : P.underlying t = some (.slice e)) (hi : P.info? e = some i) (hz : i.zero = some z) {ys : List AV} {m2 : Mode} {ad : Option Addr} {cap : Nat}
  (hisz : i.size = T.size e) (hry : Rep T w g (.slice e ys m2) (.slice ad ys.length cap)) (hsz : 1 ≤ T.size e) : ∃ M, Flat T w g e ys M ∧ Apps P w t t e i z ys.length M (.slice ad ys.length cap) := by
 obtain ⟨_, M, hM, hMc⟩ := flat_of hry hsz
 have hMl : M.length = ys.length * i.size := by rw [hM.len, hisz]
 have hne : 0 < ys.length → ∃ b : Addr, ad = some b ∧ ∀ j v, M[j]? = some v → w.cell? (b.add j) = some v := fun h0 => by
  obtain ⟨by', basey, hady, hMcell, _⟩ := hMc (List.length_pos_iff.1 h0)
  exact ⟨_, hady, fun j v hv => by rw [addr_add]; exact hMcell j v hv⟩
 exact ⟨M, hM, apps_cells hT h ht hi hz hMl hne⟩
theorem vnil {e : TypeId} {i : TypeInfo} {z : Value} (hsz : 1 ≤ T.size e) (ys : List AV) (M : List Value) (hM : FlatV T w g e ys M) (hpos : 0 < ys.length) (hmax : ys.length ≤ maxLen) (hzs : z.cells.toList = (T.ty e).zs.map Z.val) :
  ∃ g', Inv T C g' env (S.push [.mrow e 0 false ys]) a (w.drew.alloc (.cells (M.toArray ++ Builtin.zeroCells z.cells (grownCap w ys.length 0 e - ys.length)) e)) ∧
   Rep T (w.drew.alloc (.cells (M.toArray ++ Builtin.zeroCells z.cells (grownCap w ys.length 0 e - ys.length)) e)) g' (.msl e S.next 0 0 ys.length) (.slice (some ⟨w.heap.size, 0, none⟩) ys.length (grownCap w ys.length 0 e)) ∧
   Keeps g w g' (w.drew.alloc (.cells (M.toArray ++ Builtin.zeroCells z.cells (grownCap w ys.length 0 e - ys.length)) e)) := by
 have hge := grownCap_ge w ys.length 0 e
 have hcm := grownCap_le_maxLen w ys.length 0 e hmax
 have hzsz : z.cells.size = T.size e := by rw [← Array.length_toList, hzs, T.size_eq]; simp
 have hva : g.α S.next = none := by
  cases hq : g.α S.next with
  | none => rfl
  | some tk => exact absurd (h.rel.vec.ok _ _ hq).1 (Nat.lt_irrefl _)
 refine vec_new hT h hM hpos hsz _ (zeroCells_one (fun u hu => ?_) _) _ hge hcm ?_ (o := S.next) (v := 0) (S' := S.push [.mrow e 0 false ys]) (fun tk q => by rw [hva] at q; cases q) (Nat.lt_succ_self _) (Nat.le_succ _) ?_ (by rw [row_push, if_pos rfl])
  (fun p _ hp => by rw [row_push, if_neg (by omega)]) rfl (.inr (Nat.le_refl _)) (.inl rfl)
 · rw [hzs] at hu
   obtain ⟨zz, _, rfl⟩ := List.mem_map.1 hu
   exact zone zz
 · simp only [Array.size_append, List.size_toArray, size_zeroCells, hzsz, hM.len, ← Nat.add_mul]
   congr 1
   omega
 · cases hq : g.ρ S.next with
   | none => rfl
   | some b => exact absurd (h.rel.dom _ _ hq) (Nat.lt_irrefl _)
omit hT h in
theorem take_vec {o v : Nat} {e : TypeId} {full : Bool} {cs : List AV} {c : Array Value} (hfit : ∀ i, i < cs.length → Fit T e (nth cs i))
  (hR : ∀ i j, i < cs.length → j < T.size e → Rep T w g (nth (nth cs i).cells j) (c.toList.getD (i * T.size e + j) undef)) (hone : ∀ u ∈ c.toList, u.oneCell' = true)
  (p q : Nat) (hpq : p + q ≤ cs.length) (hc : cs.length * T.size e ≤ c.size) : FlatV T w g e ((cs.drop p).take q) ((c.toList.drop (p * T.size e)).take (q * T.size e)) := by
 have hlen : ((cs.drop p).take q).length = q := by simp; omega
 have hle : (p + q) * T.size e ≤ c.size := Nat.le_trans (Nat.mul_le_mul_right _ hpq) hc
 rw [Nat.add_mul] at hle
 have e0 := Array.length_toList (xs := c)
 refine ⟨by rw [hlen]; simp; omega, fun u hu => hone u (List.mem_of_mem_drop (List.mem_of_mem_take hu)), fun i hi => ?_, fun i j hi hj => ?_⟩
 · rw [hlen] at hi
   rw [nth_take_drop _ _ _ _ hi]
   exact hfit _ (by omega)
 · rw [hlen] at hi
   rw [nth_take_drop _ _ _ _ hi]
   have := hR (p + i) j (by omega) hj
   have hlt := idx_lt hi hj
   rw [List.getD_eq_getElem?_getD] at this ⊢
   rw [List.getElem?_take, if_pos hlt, List.getElem?_drop]
   have e1 : p * T.size e + (i * T.size e + j) = (p + i) * T.size e + j := by rw [Nat.add_mul]; omega
   rw [e1]
   exact this
theorem sound_vapp {t u oty : TypeId} {x : Operand} {e : TypeId} {o v : Nat} {n : Int} (hpx : AM.ev T env x = .msl e o v 0 n) (ht : T.ty t = .slice e) (hhas : T.has e = true) (hbz : 1 ≤ T.bytes e)
  {full : Bool} {cs : List AV} (hvec : S.vec e o v = some (full, cs)) {ys : List AV} {M : List Value} {uy : Value} (hM : FlatV T w g e ys M)
  (happs : ∀ i z, P.underlying t = some (.slice e) → P.info? e = some i → i.zero = some z → Apps P w t u e i z ys.length M uy)
  (hroom : (cs.take n.toNat ++ ys).length * T.bytes e ≤ 140737488355328) :
  ∃ x' w' g', (Builtin.append_ #[t, u] oty #[a.eval x, uy]).run P w = .ok x' w' ∧ Inv T C g' env (S.set o [.mrow e (v + 1) false (cs.take n.toNat ++ ys)]) a w' ∧
   Rep T w' g' (.msl e o (v + 1) 0 ((cs.take n.toNat ++ ys).length : Int)) x' := by
 obtain ⟨ad, cap, ex, hm0, hcap0, hmax0, hr⟩ := msl_form hT h hpx
 obtain ⟨d, hd, hsh⟩ := shape_of hT h ht (by simp)
 have := shape_slice hsh; subst this
 obtain ⟨i, z, d', hi, hd', hsi, hz, hzs, hb0, hsh', ha⟩ := (has_row hT hhas).row
 have hisz : i.size = T.size e := by rw [hsi, T.size_eq]
 have hY := happs i z hd hi hz
 have hMl : M.length = ys.length * i.size := by rw [hM.len, hisz]
 generalize hu : Value.slice ad n.toNat cap = uu at hr
 cases hr with
 | msl _ _ _ _ _ _ ad' cap' tk hα he hv hn hcn hmax' hst hc =>
  simp only [Value.slice.injEq] at hu
  obtain ⟨rfl, -, rfl⟩ := hu
  obtain ⟨hte, htv, b, c, hb, hcl, hnn, hfull, hmx, hsz, hcc, hcs, hone, hfit, hR0⟩ := h.rel.vecAt hα hvec
  obtain ⟨-, q1, ⟨q2, q3⟩, q4⟩ := hc htv.symm
  have hcapt : cap = tk.cap := by simpa using q2
  have hnle : n.toNat ≤ cs.length := by
   have : (0 + n).toNat = n.toNat := by rw [Int.zero_add]
   omega
  have had := q4 b hb (by omega)
  simp only [Int.toNat_zero, Nat.zero_mul] at had
  subst had
  have htl : (cs.take n.toNat).length = n.toNat := by simp; omega
  have hnl : (cs.take n.toNat ++ ys).length = n.toNat + ys.length := by rw [List.length_append, htl]
  have hL : FlatV T w g e (cs.take n.toNat) (c.toList.take (n.toNat * T.size e)) := by
   have := take_vec (o := o) (v := v) (full := full) hfit hR0 hone 0 n.toNat (by omega) (by rw [hcs]; exact Nat.mul_le_mul_right _ (by omega))
   simpa using this
  have hLM := hL.append hM
  have hlen1 : n.toNat + ys.length ≤ 140737488355328 := by rw [← hnl]; exact Nat.le_trans (Nat.le_mul_of_pos_right _ hbz) hroom
  have hmaxl : n.toNat + ys.length ≤ maxLen := Nat.le_trans hlen1 (by simp [maxLen])
  have h63 : ((n.toNat + ys.length : Nat) : Int) ≤ 9223372036854775807 := by simp only [maxLen] at hmaxl; omega
  have hρo : g.ρ o = none := by
   cases hq : g.ρ o with
   | none => rfl
   | some q => have := h.rel.vec.one o q hq; rw [hα] at this; cases this
  have hr' := vec_row hvec
  have hrow := vrow_set (q := [.mrow e (v + 1) false (cs.take n.toNat ++ ys)]) hr' (by simp)
  have hkk : ∀ t0, g.α o = some t0 → t0.e = e ∧ t0.v < v + 1 := fun t0 e0 => by
   have : tk = t0 := by rw [hα] at e0; simpa using e0
   subst this
   exact ⟨hte, by omega⟩
  have holt : o < S.next := (h.rel.vec.ok o tk hα).1
  have htk0 : (c.toList.take (n.toNat * T.size e)).length = n.toNat * T.size e := by have := hL.len; rw [htl] at this; exact this
  have inplace : ∀ (c' : Array Value) (w' : World), c'.size = c.size → (∀ u ∈ c'.toList, u.oneCell' = true) → n.toNat + ys.length ≤ cap →
    (∀ j, j < (n.toNat + ys.length) * T.size e → c'.toList.getD j undef = (c.toList.take (n.toNat * T.size e) ++ M).getD j undef) → w' = w.setRow b c' ∨ (c' = c ∧ w' = w) →
    ∃ g', Inv T C g' env (S.set o [.mrow e (v + 1) false (cs.take n.toNat ++ ys)]) a w' ∧ Rep T w' g' (.msl e o (v + 1) 0 ((cs.take n.toNat ++ ys).length : Int)) (.slice (some ⟨b, 0, none⟩) (n.toNat + ys.length) cap) := by
   intro c' w' hcs' hone' hfitc hget hw
   let tk' : VTok := { e := e, v := v + 1, b := some b, cap := tk.cap, n := n.toNat + ys.length }
   have hcell' : w'.heap[b]? = some (.cells c' e (0, 0)) := by
    rcases hw with rfl | ⟨rfl, rfl⟩
    · exact setRow_heap w b c c' e (0, 0) hcc
    · exact hcc
   obtain ⟨hI, hK⟩ := h.vtell (o := o) (b := b) (S' := S.set o [.mrow e (v + 1) false (cs.take n.toNat ++ ys)]) (w' := w') (c := c') tk' false (cs.take n.toNat ++ ys) (fun t0 e0 => ⟨(hkk t0 e0).1.symm, .inr (.inl (hkk t0 e0).2)⟩) rfl holt (Nat.le_refl _) hρo
    (by rw [hrow, if_pos rfl]) (fun p hp _ => by rw [hrow, if_neg (Ne.symm hp)]) rfl (by rcases hw with rfl | ⟨-, rfl⟩ <;> rfl) (by rcases hw with rfl | ⟨-, rfl⟩ <;> rfl) (by rcases hw with rfl | ⟨-, rfl⟩ <;> rfl)
    (by rcases hw with rfl | ⟨-, rfl⟩ <;> simp [World.setRow]) (fun i hi _ => by
      rcases hw with rfl | ⟨-, rfl⟩
      · exact setRow_other w b i c' hi
      · rfl) (.inl ⟨tk, hα, hb⟩) hcell' hsz (by rw [hcs', hcs]) hone' hnl (by show n.toNat + ys.length ≤ tk.cap; omega) (by simp) hmx hLM.fit (fun p q hp hq => by
      have := hLM.rep p q hp hq
      rw [hget _ (by rw [← hnl]; exact idx_lt hp hq)]
      exact this) (.inl (by rw [hα]; simp))
   refine ⟨_, hI, ?_⟩
   have e1 : n.toNat + ys.length = (((n.toNat + ys.length : Nat)) : Int).toNat := by omega
   have := Rep.msl (T := T) (w := w') (setVec g o tk') e o (v + 1) 0 ((n.toNat + ys.length : Nat) : Int) (some ⟨b, 0, none⟩) cap tk' (by simp [setVec]) rfl (Nat.le_refl _) (by omega) (by omega) hmax0 ⟨_, _, rfl⟩ (fun _ => ⟨by omega, by show _ ≤ n.toNat + ys.length; omega, ⟨by show _ = tk.cap; omega, by show tk.cap ≤ _; exact hmx.2⟩, fun b2 hb2 _ => by
    have : b = b2 := by simpa [tk'] using hb2
    subst this
    simp⟩)
   rw [hnl]
   rwa [← e1] at this
  by_cases hy0 : ys = []
  · subst hy0
    have hM0 : M = [] := List.eq_nil_of_length_eq_zero (by rw [hMl]; simp)
    subst hM0
    have hemp := hY.empty rfl oty (some ⟨b, 0, none⟩) n.toNat cap hcap0
    obtain ⟨g', hI, hR⟩ := inplace c w rfl hone (by simpa using hcap0) (fun j hj => by
     simp only [List.length_nil, Nat.add_zero] at hj
     rw [List.append_nil, List.getD_eq_getElem?_getD, List.getD_eq_getElem?_getD, List.getElem?_take, if_pos hj]) (.inr ⟨rfl, rfl⟩)
    exact ⟨_, w, g', by rw [ex]; exact hemp, hI, hR⟩
  · have hypos : 0 < ys.length := List.length_pos_iff.2 hy0
    by_cases hroomq : n.toNat + ys.length ≤ cap
    · have hfitb : (n.toNat + ys.length) * T.size e ≤ c.size := by rw [hcs]; exact Nat.mul_le_mul_right _ (by omega)
      rw [Nat.add_mul] at hfitb
      have hr2 := hY.room oty b n.toNat cap c hypos hcc hM.one hroomq (by rw [hMl, hisz]; exact hfitb)
      rw [hisz] at hr2
      have e0 := Array.length_toList (xs := c)
      obtain ⟨g', hI, hR⟩ := inplace (c.toList.take (n.toNat * T.size e) ++ M ++ c.toList.drop (n.toNat * T.size e + M.length)).toArray _ (by
        simp only [List.size_toArray, List.length_append, htk0, List.length_drop]
        rw [hMl, hisz]; omega) (by
        intro u hu
        simp only [List.mem_append] at hu
        rcases hu with (hu | hu) | hu
        · exact hone u (List.mem_of_mem_take hu)
        · exact hM.one u hu
        · exact hone u (List.mem_of_mem_drop hu)) hroomq (fun j hj => by
        rw [List.getD_eq_getElem?_getD, List.getD_eq_getElem?_getD, List.getElem?_append_left]
        rw [List.length_append, htk0, hMl, hisz, ← Nat.add_mul]; exact hj) (.inl rfl)
      exact ⟨_, _, g', by rw [ex]; exact hr2, hI, hR⟩
    · have hge := grownCap_ge w (n.toNat + ys.length) cap e
      have hcm := grownCap_le_maxLen w (n.toNat + ys.length) cap e hmaxl
      have hzsz : z.cells.size = T.size e := by rw [← Array.length_toList, hzs, T.size_eq]; simp
      have hr2 := hY.grow oty ⟨b, 0, none⟩ n.toNat cap (c.toList.take (n.toNat * T.size e)) (by rw [htk0, hisz]) (fun j u hu => by
        rw [addr_add]
        have hj : j < (c.toList.take (n.toNat * T.size e)).length := (List.getElem?_eq_some_iff.1 hu).1
        rw [htk0] at hj
        rw [List.getElem?_take, if_pos hj] at hu
        simp only [World.cell?, hcc, Nat.zero_add]
        simpa using hu) (by omega) h63 (growslice_fits (by omega) (by rw [hb0, ← hnl]; exact hroom))
      obtain ⟨g', hI, hR, _⟩ := vec_new hT h hLM (by rw [hnl]; omega) hsz (Builtin.zeroCells z.cells (grownCap w (n.toNat + ys.length) cap e - (n.toNat + ys.length))) (zeroCells_one (fun u hu => by
        rw [hzs] at hu
        obtain ⟨zz, _, rfl⟩ := List.mem_map.1 hu
        exact zone zz) _) (grownCap w (n.toNat + ys.length) cap e) (by rw [hnl]; exact hge) hcm (by
        simp only [Array.size_append, List.size_toArray, size_zeroCells, hzsz, hLM.len, hnl, ← Nat.add_mul]
        congr 1
        omega) (o := o) (v := v + 1) (S' := S.set o [.mrow e (v + 1) false (cs.take n.toNat ++ ys)]) hkk holt (Nat.le_refl _) hρo (by rw [hrow, if_pos rfl]) (fun p hp _ => by rw [hrow, if_neg (Ne.symm hp)]) rfl (.inl (by rw [hα]; simp)) (.inl rfl)
      rw [hnl] at hR
      refine ⟨_, _, g', by rw [ex]; exact hr2, ?_, by rw [hnl]; simpa using hR⟩
      simpa using hI
theorem vec_src {t e : TypeId} {y : Operand} {o v : Nat} {j n : Int} (hpy : AM.ev T env y = .msl e o v j n) {full : Bool} {cs : List AV} (hvec : S.vec e o v = some (full, cs)) :
  ∃ M, FlatV T w g e (real.subL cs j (addI real j n)) M ∧ ∀ i z, P.underlying t = some (.slice e) → P.info? e = some i → i.zero = some z → i.size = T.size e →
   Apps P w t t e i z (real.subL cs j (addI real j n)).length M (a.eval y) := by
 obtain ⟨ad, cap, ex, hm0, hcap0, hmax0, hr⟩ := msl_form hT h hpy
 generalize hu : Value.slice ad n.toNat cap = uu at hr
 cases hr with
 | msl _ _ _ _ _ _ ad' cap' tk hα he hv hn hcn hmax' hst hc =>
  simp only [Value.slice.injEq] at hu
  obtain ⟨rfl, -, rfl⟩ := hu
  obtain ⟨hte, htv, b, c, hb, hcl, hnn, hfull, hmx, hsz, hcc, hcs, hone, hfit, hR0⟩ := h.rel.vecAt hα hvec
  obtain ⟨q0, q1, ⟨q2, q3⟩, q4⟩ := hc htv.symm
  simp only [maxLen] at q3
  have hadd : addI real j n = j + n := addI_real q0 hm0 (by omega)
  have hys : real.subL cs j (addI real j n) = (cs.drop j.toNat).take n.toNat := by
   rw [hadd]
   show (cs.drop j.toNat).take (j + n - j).toNat = _
   congr 1; omega
  rw [hys]
  have hjn : j.toNat + n.toNat ≤ cs.length := by omega
  have hL := take_vec (o := o) (v := v) (full := full) hfit hR0 hone j.toNat n.toNat hjn (by rw [hcs]; exact Nat.mul_le_mul_right _ (by omega))
  have hlen : ((cs.drop j.toNat).take n.toNat).length = n.toNat := by simp; omega
  refine ⟨_, hL, fun i z hd hi hz hisz => ?_⟩
  rw [hlen, ex]
  refine apps_cells hT h hd hi hz (by rw [hL.len, hlen, hisz]) fun hpos => ⟨_, q4 b hb (by omega), fun p u hu => ?_⟩
  rw [addr_add]
  have hp := (List.getElem?_eq_some_iff.1 hu).1
  rw [hL.len, hlen] at hp
  rw [List.getElem?_take, if_pos hp, List.getElem?_drop] at hu
  simp only [World.cell?, hcc]
  simpa using hu
theorem run_nilish {t u e : TypeId} {i : TypeInfo} {z : Value} {n : Nat} {M : List Value} {uy : Value} (hY : Apps P w t u e i z n M uy) (oty : TypeId) {m : Mode} {x : Operand} {e1 : TypeId} (hpx : AM.ev T env x = .slice e1 [] m) (hm : nilish m = true)
  (hpos : 0 < n) (h63 : (n : Int) ≤ 9223372036854775807) (h48 : n * i.bytes ≤ 140737488355328) : (Builtin.append_ #[t, u] oty #[a.eval x, uy]).run P w =
    .ok (.slice (some ⟨w.heap.size, 0, none⟩) n (grownCap w n 0 e)) (w.drew.alloc (.cells (M.toArray ++ Builtin.zeroCells z.cells (grownCap w n 0 e - n)) e)) := by
 obtain ⟨ad, cap, ex, hcap, hr⟩ := sl_form hT h hpx
 have h0 : cap = 0 := by
  cases hr with
  | slice _ _ _ _ _ _ b base xs hcap hmax hm' ho' ha2 hf hc h1 hD hR =>
   cases m with
   | exact => exact (hm'.1 rfl).1
   | empty => exact hm'.2 rfl
   | no => cases hm
   | own k => cases hm
 subst h0
 rw [ex]
 cases ad with
 | none => exact hY.nil oty hpos h63 (by omega)
 | some b =>
  have := hY.grow oty b 0 0 [] (by simp) (by simp) (by omega) (by simpa using h63) (growslice_fits (by omega) (by simpa using h48))
  simpa using this
theorem vec_srcF {t e : TypeId} {y : Operand} {o v : Nat} {j n c0 : Int} (hpy : AM.ev T env y = .msf e o v j n c0) {full : Bool} {cs : List AV} (hvec : S.vec e o v = some (full, cs)) :
  ∃ M, FlatV T w g e (real.subL cs j (addI real j n)) M ∧ ∀ i z, P.underlying t = some (.slice e) → P.info? e = some i → i.zero = some z → i.size = T.size e →
   Apps P w t t e i z (real.subL cs j (addI real j n)).length M (a.eval y) := by
 obtain ⟨ad, ex, hm0, hmc, hmax0, hr⟩ := msf_form hT h hpy
 generalize hu : Value.slice ad n.toNat c0.toNat = uu at hr
 cases hr with
 | msf _ _ _ _ _ _ _ ad' tk hα he hv hn hst hc =>
  simp only [Value.slice.injEq] at hu
  obtain ⟨rfl, -, -⟩ := hu
  obtain ⟨hte, htv, b, c, hb, hcl, hnn, hfull, hmx, hsz, hcc, hcs, hone, hfit, hR0⟩ := h.rel.vecAt hα hvec
  obtain ⟨q0, q1, q2, q3, q4⟩ := hc htv.symm
  simp only [maxLen] at q3
  have hadd : addI real j n = j + n := addI_real q0 hm0 (by omega)
  have hys : real.subL cs j (addI real j n) = (cs.drop j.toNat).take n.toNat := by
   rw [hadd]
   show (cs.drop j.toNat).take (j + n - j).toNat = _
   congr 1; omega
  rw [hys]
  have hjn : j.toNat + n.toNat ≤ cs.length := by omega
  have hL := take_vec (o := o) (v := v) (full := full) hfit hR0 hone j.toNat n.toNat hjn (by rw [hcs]; exact Nat.mul_le_mul_right _ (by omega))
  have hlen : ((cs.drop j.toNat).take n.toNat).length = n.toNat := by simp; omega
  refine ⟨_, hL, fun i z hd hi hz hisz => ?_⟩
  rw [hlen, ex]
  have hap : Apps P w t t e i z n.toNat (List.take (n.toNat * T.size e) (List.drop (j.toNat * T.size e) c.toList)) (.slice ad n.toNat c0.toNat) := by
   refine apps_cells hT h hd hi hz (by rw [hL.len, hlen, hisz]) fun hpos => ⟨_, q4 b hb (by omega), fun p u hu => ?_⟩
   rw [addr_add]
   have hp := (List.getElem?_eq_some_iff.1 hu).1
   rw [hL.len, hlen] at hp
   rw [List.getElem?_take, if_pos hp, List.getElem?_drop] at hu
   simp only [World.cell?, hcc]
   simpa using hu
  exact hap
theorem sound_xappend (N : Nat) (t u oty : TypeId) (x : Operand) (e2 : TypeId) (ys : List AV) (m2 : Mode) (uy : Value) {K : AV → St → Prop} (hx : xappend (pAlg P T N) T t (AM.ev T env x) (.slice e2 ys m2) S K)
  (happs : ∀ i z, P.underlying t = some (.slice e2) → P.info? e2 = some i → i.zero = some z → T.ty t = .slice e2 → 1 ≤ T.size e2 → ∃ M, Flat T w g e2 ys M ∧ Apps P w t u e2 i z ys.length M uy) :
  ∃ v S' x' w' g', K v S' ∧ (Builtin.append_ #[t, u] oty #[a.eval x, uy]).run P w = .ok x' w' ∧ Inv T C g' env S' a w' ∧ Rep T w' g' v x' := by
 have hrun : ∀ ux v w', a.eval x = ux → (Builtin.append_ #[t, u] oty #[ux, uy]).run P w = .ok v w' → (Builtin.append_ #[t, u] oty #[a.eval x, uy]).run P w = .ok v w' := by
  intro ux v w' hux hv
  rw [hux]; exact hv
 unfold xappend at hx
 (try simp only [vecX_of hT.X] at hx)
 split at hx
 · rename_i e ht
   split at hx
   · rename_i hhas
     split at hx
     · rename_i hone hone2
       have hsz := ble_le hone
       have hbz := ble_le hone2
       split at hx
       · rename_i e1 cs m e2' ys' m2' hpx hpy
         simp only [AV.slice.injEq] at hpy
         obtain ⟨rfl, rfl, rfl⟩ := hpy
         split at hx
         · rename_i he2
           have he2' : e2 = e := Nat.eq_of_beq_eq_true he2
           subst he2'
           obtain ⟨hroom, hx⟩ := hx
           rw [hT.X] at hroom hx
           have hroom' : (cs.length + ys.length) * T.bytes e2 ≤ 140737488355328 := by
            have hq : (cs ++ ys).length * T.bytes e2 ≤ 140737488355328 := room_nat hroom
            rwa [List.length_append] at hq
           obtain ⟨d, hd, hsh⟩ := shape_of hT h ht (by simp)
           have := shape_slice hsh; subst this
           obtain ⟨i, z, d', hi, hd', hsi, hz, hzs, hb, hsh', ha⟩ := (has_row hT hhas).row
           have hisz : i.size = T.size e2 := by rw [hsi, T.size_eq]
           obtain ⟨adx, capx, ex, hcapx, hrx⟩ := sl_form hT h hpx
           obtain ⟨M, hM, hY⟩ := happs i z hd hi hz ht hsz
           have hMl : M.length = ys.length * i.size := by rw [hM.len, hisz]
           have hlen1 : cs.length + ys.length ≤ 140737488355328 := Nat.le_trans (Nat.le_mul_of_pos_right _ hbz) hroom'
           have hmaxl : cs.length + ys.length ≤ maxLen := Nat.le_trans hlen1 (by simp [maxLen])
           have happ : ∀ p q : List AV, real.app p q = p ++ q := fun _ _ => rfl
           have hrlen : ∀ p : List AV, real.len p = (p.length : Int) := fun _ => rfl
           rw [lenC_eq] at hx
           have hkfree : ∀ t0, g.τ S.caps.length = some t0 → t0.e = e2 ∧ t0.n < (cs ++ ys).length := fun t0 e0 => absurd (h.rel.tok _ _ e0).1 (Nat.lt_irrefl _)
           have fresh : ∀ (L : List Value) (k : Nat) (caps : List Int), Flat T w g e2 cs L → (∀ t0, g.τ k = some t0 → t0.e = e2 ∧ t0.n < (cs ++ ys).length) → (k < caps.length ∧ S.caps.length ≤ caps.length) →
             (∀ i, capAt caps i = if i = k then ((cs ++ ys).length : Int) else capAt S.caps i) →
             ∃ g', Inv T C g' env { S with caps := caps } a (w.drew.alloc (.cells (L.toArray ++ M.toArray ++ Builtin.zeroCells z.cells (grownCap w (cs.length + ys.length) capx e2 - (cs.length + ys.length))) e2)) ∧
              Rep T (w.drew.alloc (.cells (L.toArray ++ M.toArray ++ Builtin.zeroCells z.cells (grownCap w (cs.length + ys.length) capx e2 - (cs.length + ys.length))) e2)) g' (.slice e2 (cs ++ ys) (.own k))
               (.slice (some ⟨w.heap.size, 0, none⟩) (cs.length + ys.length) (grownCap w (cs.length + ys.length) capx e2)) := by
            intro L k caps hL hk hlen hcapk
            have hge := grownCap_ge w (cs.length + ys.length) capx e2
            have hcm := grownCap_le_maxLen w (cs.length + ys.length) capx e2 hmaxl
            have hLM := hL.append hM
            have hzsz : z.cells.size = T.size e2 := by rw [← Array.length_toList, hzs, T.size_eq]; simp
            have := fresh_row hT h hLM hsz (Builtin.zeroCells z.cells (grownCap w (cs.length + ys.length) capx e2 - (cs.length + ys.length))) (grownCap w (cs.length + ys.length) capx e2)
             (by rw [List.length_append]; exact hge) hcm (by
               simp only [Array.size_append, List.size_toArray, size_zeroCells, hzsz, hLM.len, List.length_append, ← Nat.add_mul]
               congr 1
               omega) k hk caps hlen hcapk
            simpa [List.length_append] using this
           have hsnoc : (cs ++ ys).length = cs.length + ys.length := List.length_append
           by_cases hy0 : ys = []
           · subst hy0
             have hemp := hY.empty rfl oty adx cs.length capx hcapx
             have hrun' := hrun _ _ w ex hemp
             cases m with
             | no => exact hx.elim
             | exact =>
              cases cs with
              | cons v l =>
               dsimp only at hx
               split at hx
               · have : (0 : Int) < 0 := by simpa [real, intRel] using hx.1
                 omega
               · exact hx.elim
              | nil =>
               cases hrx with
               | slice _ _ _ _ _ _ b base xs hcap hmax hm ho' ha2 hf hc h1 hD hR =>
                obtain ⟨hcap0, hadn⟩ := hm.1 rfl
                have hadx := hadn rfl
                subst hadx
                have hcap0' : capx = 0 := by simpa using hcap0
                subst hcap0'
                dsimp only at hx
                cases hmv : memN T.vecs e2 with
                | true =>
                 rw [hmv] at hx
                 have : (0 : Int) < 0 := by simpa [real, intRel] using hx.1
                 omega
                | false =>
                rw [hmv] at hx
                let tk : Tok := { e := e2, v := .slice none 0 0, n := 0 }
                have hnk : g.τ S.caps.length = none := by
                 cases hq : g.τ S.caps.length with
                 | none => rfl
                 | some t0 => exact absurd (h.rel.tok _ _ hq).1 (Nat.lt_irrefl _)
                have hkk : ∀ t0, g.τ S.caps.length = some t0 → tk.e = t0.e ∧ (tk = t0 ∨ t0.n < tk.n) := fun t0 e0 => by rw [hnk] at e0; cases e0
                have hrel := h.rel.setTok S.caps.length tk (capPush S.caps (real.len (real.app [] []))) hkk ⟨by rw [len_push]; omega, by rw [len_push]; omega⟩
                 (fun i => by rw [capAt_push]; rfl) ⟨[], .inr ⟨by simp [tk], .inl ⟨rfl, rfl⟩⟩, fun b hb => by simp [tk, Value.ownBlock] at hb⟩ (fun i ti b _ _ _ hb => by simp [tk, Value.ownBlock] at hb) (fun o vt b _ _ hb => by simp [tk, Value.ownBlock] at hb)
                have hkt := setTok_keeps (w := w) hkk
                refine ⟨_, _, _, w, setTok g S.caps.length tk, hx, hrun', h.step hrel ⟨rfl, rfl, rfl, Nat.le_refl _, hkt, fun _ _ _ => rfl, fun _ _ hD => .inl hD⟩ h.ob (fun i ti b e0 hb => ?_) (fun _ _ q => .inl q) (Nat.le_refl _) h.vb (fun _ _ q => .inl (by rw [show g.α _ = _ from q]; simp)), ?_⟩
                · by_cases hik : i = S.caps.length
                  · subst hik
                    simp only [setTok, if_true, Option.some.injEq] at e0
                    subst e0
                    simp [tk, Value.ownBlock] at hb
                  · simp only [setTok, if_neg hik] at e0
                    exact h.tb i ti b e0 hb
                · refine .slice _ e2 [] (.own S.caps.length) none 0 0 0 (fun _ _ => Go.undef) (by simp) (by simp [maxLen]) (by simp) ?_ (by simp) (by simp) (by simp) (by simp) (by simp) (by simp)
                  intro k hk
                  simp only [Mode.own.injEq] at hk
                  subst hk
                  exact ⟨tk, by simp [setTok], rfl, by simp, fun _ => rfl⟩
             | empty =>
              cases cs with
              | cons v l => exact hx.elim
              | nil =>
               dsimp only at hx
               cases hmv : memN T.vecs e2 with
               | true =>
                rw [hmv] at hx
                have : (0 : Int) < 0 := by simpa [real, intRel] using hx.1
                omega
               | false => rw [hmv] at hx; exact hx.elim
             | own k =>
              dsimp only at hx
              split at hx
              · rename_i he1
                have he1' : e1 = e2 := Nat.eq_of_beq_eq_true he1
                subst he1'
                obtain ⟨hcapq, hx⟩ := hx
                have hcapq' : capAt S.caps k = (cs.length : Int) := by simpa [real, intRel] using hcapq
                have hsame : { S with caps := capSet S.caps k (real.len (real.app cs [])) } = S := by
                 have : capSet S.caps k (real.len (real.app cs [])) = S.caps := by
                  rw [happ, hrlen, List.append_nil, ← hcapq']
                  exact capSet_same S.caps k
                 rw [this]
                rw [hsame] at hx
                refine ⟨_, _, _, w, g, hx, hrun', h, ?_⟩
                rw [happ, List.append_nil]
                exact hrx
              · exact hx.elim
           ·
            have hypos : 0 < ys.length := List.length_pos_iff.2 hy0
            have h63 : ((cs.length + ys.length : Nat) : Int) ≤ 9223372036854775807 := by simp only [maxLen] at hmaxl; omega
            cases m with
            | no => exact hx.elim
            | exact =>
             cases cs with
             | nil =>
              cases hrx with
              | slice _ _ _ _ _ _ b base xs hcap hmax hm ho' ha2 hf hc h1 hD hR =>
               obtain ⟨hcap0, hadn⟩ := hm.1 rfl
               have hadx := hadn rfl
               subst hadx
               have hcap0' : capx = 0 := by simpa using hcap0
               subst hcap0'
               have hr := hY.nil oty hypos (by simpa using h63) (by rw [hb]; simp only [List.length_nil, Nat.zero_add] at hroom'; omega)
               dsimp only at hx
               cases hmv : memN T.vecs e2 with
               | true =>
                rw [hmv] at hx
                obtain ⟨g', hI, hR', _⟩ := vnil hT h (i := i) hsz ys M (hM.v) hypos (by simpa using hmaxl) hzs
                refine ⟨_, _, _, _, g', hx.2, hrun _ _ _ ex hr, hI, ?_⟩
                exact hR'
               | false =>
               rw [hmv] at hx
               obtain ⟨g', hI, hR'⟩ := fresh [] S.caps.length (capPush S.caps (real.len (real.app [] ys))) ⟨by simp, by simp, by simp, by simp⟩ hkfree ⟨by rw [len_push]; omega, by rw [len_push]; omega⟩ (fun i => by rw [capAt_push]; rfl)
               refine ⟨_, _, _, _, g', hx, hrun _ _ _ ex hr, ?_, ?_⟩
               · simpa using hI
               · simpa [happ] using hR'
             | cons v l =>
              dsimp only at hx
              split at hx
              · rename_i he1
                have he1' : e1 = e2 := Nat.eq_of_beq_eq_true he1
                subst he1'
                obtain ⟨_, hx⟩ := hx
                obtain ⟨_, L, hL, hLc⟩ := flat_of hrx hsz
                obtain ⟨bx, basex, hadx, hLcell, _⟩ := hLc (by simp)
                subst hadx
                have hcapx' : capx = (v :: l).length := by
                 cases hrx with
                 | slice _ _ _ _ _ _ b base xs hcap hmax hm ho' ha2 hf hc h1 hD hR => exact (hm.1 rfl).1
                have hr := hY.grow oty ⟨bx, basex, none⟩ ((v :: l).length) capx L (by rw [hL.len, hisz]) (fun j u hu => by rw [addr_add]; exact hLcell j u hu) (by omega) h63 (growslice_fits (by omega) (by rw [hb]; exact hroom'))
                obtain ⟨g', hI, hR'⟩ := fresh L S.caps.length (capPush S.caps (real.len (real.app (v :: l) ys))) hL hkfree ⟨by rw [len_push]; omega, by rw [len_push]; omega⟩ (fun i => by rw [capAt_push]; rfl)
                exact ⟨_, _, _, _, g', hx, hrun _ _ _ ex hr, hI, hR'⟩
              · exact hx.elim
            | empty =>
             cases cs with
             | cons v l => exact hx.elim
             | nil =>
              dsimp only at hx
              cases hmv : memN T.vecs e2 with
              | false => rw [hmv] at hx; exact hx.elim
              | true =>
               rw [hmv] at hx
               have hr := run_nilish hT h hY oty hpx rfl hypos (by simpa using h63) (by rw [hb]; simpa using hroom')
               obtain ⟨g', hI, hR', _⟩ := vnil hT h (i := i) hsz ys M (hM.v) hypos (by simpa using hmaxl) hzs
               exact ⟨_, _, _, _, g', hx.2, hr, hI, hR'⟩
            | own k =>
             dsimp only at hx
             split at hx
             · rename_i he1
               have he1' : e1 = e2 := Nat.eq_of_beq_eq_true he1
               subst he1'
               obtain ⟨hcapq, hx⟩ := hx
               have hcapq' : capAt S.caps k = (cs.length : Int) := by simpa [real, intRel] using hcapq
               obtain ⟨tk, htk, hte, hcsn, htv⟩ : ∃ tk, g.τ k = some tk ∧ tk.e = e1 ∧ cs.length ≤ tk.n ∧ (cs.length = tk.n → tk.v = .slice adx cs.length capx) := by
                cases hrx with
                | slice _ _ _ _ _ _ b base xs hcap hmax hm ho' ha2 hf hc h1 hD hR => exact ho' k rfl
               obtain ⟨hkl, hkc, xs, hown, hblk⟩ := h.rel.tok k tk htk
               have hown := hown.resolve_left (by rintro ⟨q, _⟩; have := hkc.symm.trans hcapq'; omega)
               have htn : tk.n = cs.length := by have := hkc.symm.trans hcapq'; omega
               have htv' := htv htn.symm
               have hset : ∀ i, capAt (capSet S.caps k (real.len (real.app cs ys))) i = if i = k then ((cs ++ ys).length : Int) else capAt S.caps i := fun i => by rw [capAt_set _ _ _ _ hkl]; rfl
               have hkk : ∀ t0, g.τ k = some t0 → t0.e = e1 ∧ t0.n < (cs ++ ys).length := fun t0 e0 => by
                have : tk = t0 := by have := htk.symm.trans e0; simpa using this
                subst this
                exact ⟨hte, by rw [hsnoc]; omega⟩
               obtain ⟨_, L, hL, hLc⟩ := flat_of hrx hsz
               by_cases hroomq : cs.length + ys.length ≤ capx
               ·
                have hxs := hown.2
                rw [htv'] at hxs
                rcases hxs with ⟨he, hn0⟩ | ⟨gb, cap', cur, he, _, hcur, hnc, hcm, hcs', htake⟩
                · simp only [Value.slice.injEq] at he
                  omega
                · simp only [Value.slice.injEq] at he
                  obtain ⟨rfl, hlen', rfl⟩ := he
                  rw [hte] at hcur hcs' htake
                  have hLxs : cur.toList.take (cs.length * T.size e1) = L := by
                   by_cases hc0 : cs = []
                   · subst hc0
                     have hL0 : L = [] := List.eq_nil_of_length_eq_zero (by rw [hL.len]; simp)
                     rw [hL0]; simp
                   · obtain ⟨bx, basex, hadx, hLcell, _⟩ := hLc hc0
                     simp only [Option.some.injEq, Addr.mk.injEq] at hadx
                     obtain ⟨rfl, rfl, -⟩ := hadx
                     apply List.ext_getElem?
                     intro j
                     by_cases hj : j < cs.length * T.size e1
                     · have hjl : j < L.length := by rw [hL.len]; exact hj
                       rw [List.getElem?_take, if_pos hj, List.getElem?_eq_getElem hjl]
                       have h1 := hLcell j L[j] (List.getElem?_eq_getElem hjl)
                       simpa [World.cell?, hcur] using h1
                     · rw [List.getElem?_take, if_neg hj, List.getElem?_eq_none (by rw [hL.len]; omega)]
                  obtain ⟨g', hI, hR'⟩ := grown_row hT h htk hte htn (by rw [htv']) hcur hcs' hcm hLxs hL hM hsz hroomq hypos
                  have hr := hY.room oty gb cs.length capx cur hypos hcur hM.one hroomq
                   (by rw [hMl, hisz, hcs', ← Nat.add_mul]; exact Nat.mul_le_mul_right _ hroomq)
                  rw [hisz] at hr
                  refine ⟨_, _, _, _, g', hx, hrun _ _ _ ex hr, hI, ?_⟩
                  rw [hsnoc] at hR'
                  exact hR'
               ·
                by_cases hc0 : cs = []
                · subst hc0
                  have hL0 : L = [] := List.eq_nil_of_length_eq_zero (by rw [hL.len]; simp)
                  subst hL0
                  obtain ⟨g', hI, hR'⟩ := fresh [] k (capSet S.caps k (real.len (real.app [] ys))) hL hkk ⟨by rw [len_set]; exact hkl, by rw [len_set]; exact Nat.le_refl _⟩ hset
                  have hxs := hown.2
                  rw [htv'] at hxs
                  rcases hxs with ⟨he, hn0⟩ | ⟨gb, cap', cur, he, _⟩
                  · simp only [Value.slice.injEq] at he
                    obtain ⟨rfl, _, rfl⟩ := he
                    have hr := hY.nil oty hypos (by simpa using h63) (by rw [hb]; simp only [List.length_nil, Nat.zero_add] at hroom'; omega)
                    refine ⟨_, _, _, _, g', hx, hrun _ _ _ ex hr, ?_, ?_⟩
                    · simpa using hI
                    · simpa [happ] using hR'
                  · simp only [Value.slice.injEq] at he
                    obtain ⟨rfl, hlen', rfl⟩ := he
                    have hr := hY.grow oty ⟨gb, 0, none⟩ (0) capx [] (by simp) (by simp) (by simpa using hroomq) (by simpa using h63) (growslice_fits (by simpa using hroomq) (by rw [hb]; simpa using hroom'))
                    exact ⟨_, _, _, _, g', hx, hrun _ _ _ ex hr, hI, hR'⟩
                · obtain ⟨bx, basex, hadx, hLcell, _⟩ := hLc hc0
                  subst hadx
                  have hr := hY.grow oty ⟨bx, basex, none⟩ (cs.length) capx L (by rw [hL.len, hisz]) (fun j u hu => by rw [addr_add]; exact hLcell j u hu) (by omega) h63 (growslice_fits (by omega) (by rw [hb]; exact hroom'))
                  obtain ⟨g', hI, hR'⟩ := fresh L k (capSet S.caps k (real.len (real.app cs ys))) hL hkk ⟨by rw [len_set]; exact hkl, by rw [len_set]; exact Nat.le_refl _⟩ hset
                  exact ⟨_, _, _, _, g', hx, hrun _ _ _ ex hr, hI, hR'⟩
             · exact hx.elim
         · exact hx.elim
       · rename_i hpy
         cases hpy
       · rename_i e1 o v i n hpx
         split at hx
         · rename_i he1
           have he1' : e1 = e := Nat.eq_of_beq_eq_true he1
           subst he1'
           simp only [shown, vecX_of hT.X] at hx
           split at hx
           · rename_i he2
             have he2' : e2 = e1 := Nat.eq_of_beq_eq_true he2
             subst he2'
             split at hx
             · rename_i full cs hvec
               obtain ⟨hi0, hroom, hx⟩ := hx
               rw [hT.X] at hi0 hroom hx
               have hi0' : i = 0 := by simpa [real, intRel] using hi0
               subst hi0'
               have hsub : real.subL cs 0 n = cs.take n.toNat := by
                show (cs.drop 0).take (n - 0).toNat = _
                rw [List.drop_zero, Int.sub_zero]
               rw [hsub] at hroom hx
               obtain ⟨d, hd, hsh⟩ := shape_of hT h ht (by simp)
               have := shape_slice hsh; subst this
               obtain ⟨i0, z0, d', hi, hd', hsi, hz, hzs, hb, hsh', ha⟩ := (has_row hT hhas).row
               obtain ⟨M, hM, hY⟩ := happs i0 z0 hd hi hz ht hsz
               obtain ⟨x', w', g', hr, hI, hR⟩ := sound_vapp hT h (u := u) (oty := oty) hpx ht hhas hbz hvec hM.v (fun i' z' hd'' hi' hz' => by
                have e3 : i0 = i' := by rw [hi] at hi'; simpa using hi'
                subst e3
                have e4 : z0 = z' := by rw [hz] at hz'; simpa using hz'
                subst e4
                exact hY) (room_nat hroom)
               exact ⟨_, _, x', w', g', hx, hr, hI, hR⟩
             · exact hx.elim
           · exact hx.elim
         · exact hx.elim
       · exact hx.elim
     · exact hx.elim
   · exact hx.elim
 · exact hx.elim
theorem sound_xappend2 (N : Nat) (t oty : TypeId) (x y : Operand) {e2 : TypeId} {o2 v2 : Nat} {j2 n2 : Int} (hpy : AM.ev T env y = .msl e2 o2 v2 j2 n2) {K : AV → St → Prop}
  (hx : xappend (pAlg P T N) T t (AM.ev T env x) (.msl e2 o2 v2 j2 n2) S K) :
  ∃ v S' x' w' g', K v S' ∧ (Builtin.append_ #[t, t] oty #[a.eval x, a.eval y]).run P w = .ok x' w' ∧ Inv T C g' env S' a w' ∧ Rep T w' g' v x' := by
 unfold xappend at hx
 (try simp only [vecX_of hT.X] at hx)
 split at hx
 · rename_i e ht
   split at hx
   · rename_i hhas
     split at hx
     · rename_i hone hone2
       have hsz := ble_le hone
       have hbz := ble_le hone2
       obtain ⟨d, hd, hsh⟩ := shape_of hT h ht (by simp)
       have := shape_slice hsh; subst this
       obtain ⟨i0, z0, d', hi, hd', hsi, hz, hzs, hb, hsh', ha⟩ := (has_row hT hhas).row
       have hisz : i0.size = T.size e := by rw [hsi, T.size_eq]
       split at hx
       · rename_i hq
         cases hq
       · rename_i e1 cs m e3 o v i n hpx hq
         cases hq
         split at hx
         · rename_i hnil hmv
           simp only [shown, vecX_of hT.X] at hx
           split at hx
           · rename_i e4 ys hs
             split at hs
             · rename_i full c0 hvec
               simp only [Option.some.injEq, Prod.mk.injEq] at hs
               obtain ⟨rfl, rfl⟩ := hs
               split at hx
               · rename_i he2
                 have he2' : e2 = e := Nat.eq_of_beq_eq_true he2
                 subst he2'
                 obtain ⟨hpos, hroom, hx⟩ := hx
                 rw [hT.X] at hpos hroom hx
                 obtain ⟨M, hM, hY⟩ := vec_src (t := t) hT h hpy hvec
                 have hY := hY i0 z0 hd hi hz hisz
                 have hpos' : 0 < (real.subL c0 j2 (addI real j2 n2)).length := by
                  have : (0 : Int) < ((real.subL c0 j2 (addI real j2 n2)).length : Int) := by
                   have := hpos
                   simpa [real, intRel] using this
                  omega
                 have hroom' := room_nat hroom
                 have hlen1 : (real.subL c0 j2 (addI real j2 n2)).length ≤ 140737488355328 := Nat.le_trans (Nat.le_mul_of_pos_right _ hbz) hroom'
                 have hr := run_nilish hT h hY oty hpx (by assumption) hpos' (by omega) (by rw [hb]; omega)
                 obtain ⟨g', hI, hR', _⟩ := vnil hT h (i := i0) hsz _ M hM hpos' (Nat.le_trans hlen1 (by simp [maxLen])) hzs
                 exact ⟨_, _, _, _, g', hx, hr, hI, hR'⟩
               · exact hx.elim
             · cases hs
           · exact hx.elim
         · exact hx.elim
       · rename_i e1 o v i n hpx
         split at hx
         · rename_i he1
           have he1' : e1 = e := Nat.eq_of_beq_eq_true he1
           subst he1'
           simp only [shown, vecX_of hT.X] at hx
           split at hx
           · rename_i e4 ys hs
             split at hs
             · rename_i full2 c0 hvec2
               simp only [Option.some.injEq, Prod.mk.injEq] at hs
               obtain ⟨rfl, rfl⟩ := hs
               split at hx
               · rename_i he2
                 have he2' : e2 = e1 := Nat.eq_of_beq_eq_true he2
                 subst he2'
                 split at hx
                 · rename_i full cs hvec
                   obtain ⟨hi0, hroom, hx⟩ := hx
                   rw [hT.X] at hi0 hroom hx
                   have hi0' : i = 0 := by simpa [real, intRel] using hi0
                   subst hi0'
                   have hsub : real.subL cs 0 n = cs.take n.toNat := by
                    show (cs.drop 0).take (n - 0).toNat = _
                    rw [List.drop_zero, Int.sub_zero]
                   rw [hsub] at hroom hx
                   obtain ⟨M, hM, hY⟩ := vec_src (t := t) hT h hpy hvec2
                   obtain ⟨x', w', g', hr, hI, hR⟩ := sound_vapp hT h (u := t) (oty := oty) hpx ht hhas hbz hvec hM (fun i' z' hd'' hi' hz' => by
                    have e3 : i0 = i' := by rw [hi] at hi'; simpa using hi'
                    subst e3
                    exact hY i0 z' hd'' hi' hz' hisz) (room_nat hroom)
                   exact ⟨_, _, x', w', g', hx, hr, hI, hR⟩
                 · exact hx.elim
               · exact hx.elim
             · cases hs
           · exact hx.elim
         · exact hx.elim
       · exact hx.elim
     · exact hx.elim
   · exact hx.elim
 · exact hx.elim
theorem sound_xappend3 (N : Nat) (t oty : TypeId) (x y : Operand) {e2 : TypeId} {o2 v2 : Nat} {j2 n2 c2 : Int} (hpy : AM.ev T env y = .msf e2 o2 v2 j2 n2 c2) {K : AV → St → Prop}
  (hx : xappend (pAlg P T N) T t (AM.ev T env x) (.msf e2 o2 v2 j2 n2 c2) S K) :
  ∃ v S' x' w' g', K v S' ∧ (Builtin.append_ #[t, t] oty #[a.eval x, a.eval y]).run P w = .ok x' w' ∧ Inv T C g' env S' a w' ∧ Rep T w' g' v x' := by
 unfold xappend at hx
 (try simp only [vecX_of hT.X] at hx)
 split at hx
 · rename_i e ht
   split at hx
   · rename_i hhas
     split at hx
     · rename_i hone hone2
       have hsz := ble_le hone
       have hbz := ble_le hone2
       obtain ⟨d, hd, hsh⟩ := shape_of hT h ht (by simp)
       have := shape_slice hsh; subst this
       obtain ⟨i0, z0, d', hi, hd', hsi, hz, hzs, hb, hsh', ha⟩ := (has_row hT hhas).row
       have hisz : i0.size = T.size e := by rw [hsi, T.size_eq]
       split at hx
       · rename_i hq
         cases hq
       · rename_i hq
         cases hq
       · rename_i e1 o v i n hpx
         split at hx
         · rename_i he1
           have he1' : e1 = e := Nat.eq_of_beq_eq_true he1
           subst he1'
           simp only [shown, vecX_of hT.X] at hx
           split at hx
           · rename_i e4 ys hs
             split at hs
             · rename_i full2 c0 hvec2
               simp only [Option.some.injEq, Prod.mk.injEq] at hs
               obtain ⟨rfl, rfl⟩ := hs
               split at hx
               · rename_i he2
                 have he2' : e2 = e1 := Nat.eq_of_beq_eq_true he2
                 subst he2'
                 split at hx
                 · rename_i full cs hvec
                   obtain ⟨hi0, hroom, hx⟩ := hx
                   rw [hT.X] at hi0 hroom hx
                   have hi0' : i = 0 := by simpa [real, intRel] using hi0
                   subst hi0'
                   have hsub : real.subL cs 0 n = cs.take n.toNat := by
                    show (cs.drop 0).take (n - 0).toNat = _
                    rw [List.drop_zero, Int.sub_zero]
                   rw [hsub] at hroom hx
                   obtain ⟨M, hM, hY⟩ := vec_srcF (t := t) hT h hpy hvec2
                   obtain ⟨x', w', g', hr, hI, hR⟩ := sound_vapp hT h (u := t) (oty := oty) hpx ht hhas hbz hvec hM (fun i' z' hd'' hi' hz' => by
                    have e3 : i0 = i' := by rw [hi] at hi'; simpa using hi'
                    subst e3
                    exact hY i0 z' hd'' hi' hz' hisz) (room_nat hroom)
                   exact ⟨_, _, x', w', g', hx, hr, hI, hR⟩
                 · exact hx.elim
               · exact hx.elim
             · cases hs
           · exact hx.elim
         · exact hx.elim
       · exact hx.elim
     · exact hx.elim
   · exact hx.elim
 · exact hx.elim
theorem apps_string {t u e : TypeId} {i : TypeInfo} (ht : P.underlying t = some (.slice e)) (hu : P.underlying u = some .string) (hi : P.info? e = some i) {z : Value} (hz : i.zero = some z) (hs1 : i.size = 1) (s : List UInt8) :
  Apps P w t u e i z s.length (Lib.strCells ⟨s.toArray⟩) (.string ⟨s.toArray⟩) := by
 have hsz : (⟨s.toArray⟩ : ByteArray).size = s.length := by simp [ByteArray.size]
 have hl := Lib.strCells_length ⟨s.toArray⟩
 refine ⟨fun h0 ty ad' k cap' hk => ?_, fun ty h0 h63 h48 => ?_, fun ty b sLen sCap olds hlo holds hg h63 hfit => ?_, fun ty gb sLen sCap cur h0 hg h1 hroom hfit => ?_⟩
 · have hf := Lib.run_firstCells_string (P := P) w 1 ⟨s.toArray⟩
   have hn : Lib.strCells ⟨s.toArray⟩ = [] := List.eq_nil_of_length_eq_zero (by rw [hl, hsz]; exact h0)
   rw [hsz, h0, hn] at hf
   cases ad' <;> simp [Builtin.append_, run_underlying ht, run_underlying hu, sizeOf, typeInfo, hi, hs1, Builtin.lenOf, hk, hsz, h0, hf, storeCells]
 · have hr := run_append_nil_string (P := P) w t u ty e i z ht hu hi hz ⟨s.toArray⟩ (by omega) (by omega) (by rw [hsz]; exact h48)
   have e1 : ((⟨s.toArray⟩ : ByteArray).data.map fun b => Value.int .u8 b.toNat) = (Lib.strCells ⟨s.toArray⟩).toArray := by
    apply Array.ext'
    simp [Lib.strCells]
   rw [e1, hsz] at hr
   exact hr
 · have hr := Lib.run_append_grow_string (P := P) w t u ty e i z ht hu hi hz b sLen sCap olds hlo holds ⟨s.toArray⟩ (by omega) (by rw [hsz]; exact h63) (by rw [hsz]; exact hfit)
   rw [hsz] at hr
   exact hr
 · rw [hl, hsz] at hfit
   have hr := Lib.run_append_room_string (P := P) w t u ty e i ht hu hi hs1 gb sLen sCap cur hg ⟨s.toArray⟩ (by omega) (by rw [hs1] at hfit; omega)
   rw [hl, hs1, Nat.mul_one]
   rw [hsz] at hr ⊢
   exact hr
theorem flat_string {e : TypeId} (he : T.ty e = .int .u8) (s : List UInt8) : Flat T w g e (real.avs s) (Lib.strCells ⟨s.toArray⟩) := by
 have hsz : T.size e = 1 := by rw [T.size_eq, he]; rfl
 have hag : T.agg e = false := by unfold Tab.agg; rw [he]
 have hl : (Lib.strCells ⟨s.toArray⟩).length = s.length := by rw [Lib.strCells_length]; simp [ByteArray.size]
 have hn : ∀ i, i < s.length → nth (real.avs s) i = .int .u8 ((s.getD i 0).toNat : Int) := fun i hi => by
  rw [nth_eq]
  simp [real, List.getD_eq_getElem?_getD, hi]
 refine ⟨by rw [hl, hsz]; simp [real], Lib.strCells_oneCell _, fun i hi => ?_, fun i j hi hj => ?_⟩
 · have hi' : i < s.length := by simpa [real] using hi
   rw [hn i hi']
   exact .inr ⟨hag, hsz, rfl⟩
 · have hi' : i < s.length := by simpa [real] using hi
   rw [hsz] at hj ⊢
   have : j = 0 := by omega
   subst this
   rw [hn i hi']
   have : (Lib.strCells ⟨s.toArray⟩).getD (i * 1 + 0) undef = .int .u8 ((s.getD i 0).toNat : Int) := by
    simp [Lib.strCells, List.getD_eq_getElem?_getD, hi']
   rw [this]
   exact .int ..
theorem sound_append (N : Nat) (o : Oper) (c : Call) (ho : o.op = .call c) (hcal : c.callee = .builtin .append) (hms : ∀ x y, c.args.toList = [x, y] → msfOf (AM.ev T env x) = none) {Pa K : AV → St → Prop} (hx : xeff (pAlg P T N) T env S o.op Pa K) :
  ∃ v S' x' w' g', K v S' ∧ (execOp a.eval o).run P w = .ok (.value x') w' ∧ Inv T C g' env S' a w' ∧ Rep T w' g' v x' := by
 rw [ho] at hx
 simp only [xeff, hcal] at hx
 split at hx
 · rename_i x y t u hargs htys
   have hrun : ∀ v w', (Builtin.append_ #[t, u] o.type #[a.eval x, a.eval y]).run P w = .ok v w' → (execOp a.eval o).run P w = .ok (.value v) w' := by
    intro v w' hv
    have h1 : c.args = #[x, y] := args_of hT h hargs
    have h2 : c.argTypes = #[t, u] := by rw [← Array.toArray_toList (xs := c.argTypes), htys]
    simp [execOp, ho, resolve, hcal, invoke, builtin, h1, h2, hv]
   rw [hms x y hargs] at hx
   dsimp only at hx
   split at hx
   · rename_i htu
     have htu' : t = u := Nat.eq_of_beq_eq_true htu
     subst htu'
     by_cases hy : ∃ e2 ys m2, AM.ev T env y = .slice e2 ys m2
     · obtain ⟨e2, ys, m2, hpy⟩ := hy
       obtain ⟨ady, capy, ey, hcapy, hry⟩ := sl_form hT h hpy
       rw [hpy] at hx
       obtain ⟨v, S', x', w', g', hk, hr, hI, hv⟩ := sound_xappend hT h N t t o.type x e2 ys m2 (a.eval y) hx (by
        intro i z hd hi hz hty hsz
        have hhas : T.has e2 = true := by
         cases hq : T.has e2 with
         | true => rfl
         | false =>
          have : T.ty e2 = .other := by
           unfold Tab.has at hq
           split at hq
           · assumption
           · cases hq
          rw [T.size_eq, this] at hsz
          simp [Ty.zs] at hsz
        obtain ⟨i', z', d', hi', hd', hsi, hz', hzs, hb, hsh', ha⟩ := (has_row hT hhas).row
        have : i = i' := by have := hi.symm.trans hi'; simpa using this
        subst this
        rw [ey]
        exact apps_slice hT h hd hi hz (by rw [hsi, T.size_eq]) hry hsz)
       exact ⟨v, S', x', w', g', hk, hrun _ _ hr, hI, hv⟩
     · by_cases hy2 : ∃ e2 o2 v2 j2 n2, AM.ev T env y = .msl e2 o2 v2 j2 n2
       · obtain ⟨e2, o2, v2, j2, n2, hpy⟩ := hy2
         rw [hpy] at hx
         obtain ⟨v, S', x', w', g', hk, hr, hI, hv⟩ := sound_xappend2 hT h N t o.type x y hpy hx
         exact ⟨v, S', x', w', g', hk, hrun _ _ hr, hI, hv⟩
       · by_cases hy3 : ∃ e2 o2 v2 j2 n2 c2, AM.ev T env y = .msf e2 o2 v2 j2 n2 c2
         · obtain ⟨e2, o2, v2, j2, n2, c2, hpy⟩ := hy3
           rw [hpy] at hx
           obtain ⟨v, S', x', w', g', hk, hr, hI, hv⟩ := sound_xappend3 hT h N t o.type x y hpy hx
           exact ⟨v, S', x', w', g', hk, hrun _ _ hr, hI, hv⟩
         exfalso
         unfold xappend at hx
         split at hx
         · split at hx
           · split at hx
             · split at hx
               · rename_i hpx hpy
                 exact hy ⟨_, _, _, hpy⟩
               · rename_i hpx hpy
                 exact hy2 ⟨_, _, _, _, _, hpy⟩
               · split at hx
                 · split at hx
                   · rename_i hs
                     unfold shown at hs
                     split at hs
                     · rename_i hpy; exact hy ⟨_, _, _, hpy⟩
                     · rename_i hpy; exact hy2 ⟨_, _, _, _, _, hpy⟩
                     · rename_i hpy; exact hy3 ⟨_, _, _, _, _, _, hpy⟩
                     · cases hs
                   · exact hx
                 · exact hx
               · exact hx
             · exact hx
           · exact hx
         · exact hx
   · split at hx
     · rename_i s htu hpy
       split at hx
       · rename_i e hte
         split at hx
         · rename_i hee
           rw [hT.X] at hx
           have hey : a.eval y = .string ⟨s.toArray⟩ := by
            have hq := h.ev y
            rw [hpy] at hq
            generalize a.eval y = uy at hq
            cases hq
            rfl
           obtain ⟨du, hdu, hsu⟩ := shape_of hT h htu (by simp)
           have := shape_str hsu; subst this
           have hlen : (real.avs s).length = s.length := by simp [real]
           obtain ⟨v, S', x', w', g', hk, hr, hI, hv⟩ := sound_xappend hT h N t u o.type x e (real.avs s) .no (a.eval y) hx (by
            intro i z hd hi hz hty hsz
            obtain ⟨i', z', d', hi', hd', hsi, hz', hzs, hb, hsh', ha⟩ := (has_row hT (t := e) (by unfold Tab.has; rw [hee])).row
            have : i = i' := by have := hi.symm.trans hi'; simpa using this
            subst this
            rw [hee] at hsi
            refine ⟨_, flat_string hT h hee s, ?_⟩
            rw [hey, hlen]
            exact apps_string hT h hd hdu hi hz (by rw [hsi]; rfl) s)
           exact ⟨v, S', x', w', g', hk, hrun _ _ hr, hI, hv⟩
         · exact hx.elim
       · exact hx.elim
     · exact hx.elim
 · exact hx.elim
end
end
end Go.AM
namespace Go.AM
section
variable {P : Program} {T : Tab} {C : Ctx} {g : Ghost} {env : Env} {S : St} {a : Act} {w : World}
theorem Inv.vover (h : Inv T C g env S a w) {o v : Nat} {e : TypeId} {full : Bool} {cs : List AV} {tk : VTok} (hα : g.α o = some tk) (hvec : S.vec e o v = some (full, cs)) {p b : Nat} {zs : List AV} {M : List Value}
  (hM : FlatV T w g e zs M) (hp : p + zs.length ≤ cs.length) (hb : tk.b = some b) {c : Array Value} (hc : w.heap[b]? = some (.cells c e (0, 0))) :
  Inv T C g env (S.set o [.mrow e v full (cs.take p ++ zs ++ cs.drop (p + zs.length))]) a (w.setRow b (c.toList.take (p * T.size e) ++ M ++ c.toList.drop (p * T.size e + M.length)).toArray) := by
 obtain ⟨hte, htv, b0, c0, hb0, hcl, hn, hfull, hmx, hsz, hcc, hcs, hone, hfit, hR0⟩ := h.rel.vecAt hα hvec
 have : b0 = b := by rw [hb] at hb0; simpa using hb0.symm
 subst this
 have hcc2 : c0 = c := by
  have := hcc.symm.trans hc
  simpa using this
 subst hcc2
 let c' := (c0.toList.take (p * T.size e) ++ M ++ c0.toList.drop (p * T.size e + M.length)).toArray
 have hMl := hM.len
 have hkn : (p + zs.length) * T.size e ≤ tk.cap * T.size e := Nat.mul_le_mul_right _ (by omega)
 rw [Nat.add_mul] at hkn
 have e0 := Array.length_toList (xs := c0)
 have htake : (c0.toList.take (p * T.size e)).length = p * T.size e := by rw [List.length_take]; omega
 have hcs' : c'.size = c0.size := by
  simp only [c', List.size_toArray, List.length_append, htake, List.length_drop]
  omega
 have hget : ∀ j, c'.toList.getD j undef = if p * T.size e ≤ j ∧ j < p * T.size e + M.length then M.getD (j - p * T.size e) undef else c0.toList.getD j undef := by
  intro j
  simp only [c', List.getD_eq_getElem?_getD, List.append_assoc]
  by_cases hj1 : j < p * T.size e
  · rw [List.getElem?_append_left (by omega), if_neg (by omega), List.getElem?_take, if_pos hj1]
  · rw [List.getElem?_append_right (by omega), htake]
    by_cases hj2 : j < p * T.size e + M.length
    · rw [List.getElem?_append_left (by omega), if_pos (by omega)]
    · rw [List.getElem?_append_right (by omega), if_neg (by omega), List.getElem?_drop]
      congr 2; omega
 have hnth : ∀ i, nth (cs.take p ++ zs ++ cs.drop (p + zs.length)) i = if p ≤ i ∧ i < p + zs.length then nth zs (i - p) else nth cs i := by
  intro i
  simp only [nth_eq, List.getD_eq_getElem?_getD, List.append_assoc]
  have htk : (cs.take p).length = p := by rw [List.length_take]; omega
  by_cases h1 : i < p
  · rw [List.getElem?_append_left (by omega), if_neg (by omega), List.getElem?_take, if_pos h1]
  · rw [List.getElem?_append_right (by omega), htk]
    by_cases h2 : i < p + zs.length
    · rw [List.getElem?_append_left (by omega), if_pos (by omega)]
    · rw [List.getElem?_append_right (by omega), if_neg (by omega), List.getElem?_drop]
      congr 2; omega
 have hlen : (cs.take p ++ zs ++ cs.drop (p + zs.length)).length = cs.length := by simp; omega
 have hr := vec_row hvec
 have hrow := vrow_set (q := [.mrow e v full (cs.take p ++ zs ++ cs.drop (p + zs.length))]) hr (by simp)
 have hsame := (h.vtell (o := o) (b := b0) (S' := S.set o [.mrow e v full (cs.take p ++ zs ++ cs.drop (p + zs.length))]) (w' := w.setRow b0 c') (c := c') tk full (cs.take p ++ zs ++ cs.drop (p + zs.length)) (fun t0 e0 => by
   have : tk = t0 := by rw [hα] at e0; simpa using e0
   subst this
   exact ⟨rfl, .inl rfl⟩) hb (by show o < S.next; exact (h.rel.vec.ok o tk hα).1) (Nat.le_refl _)
  (by
    cases hq : g.ρ o with
    | none => rfl
    | some q => have := h.rel.vec.one o q hq; rw [hα] at this; cases this)
  (by rw [hrow, if_pos rfl, hte, htv]) (fun p hp _ => by rw [hrow, if_neg (Ne.symm hp)]) rfl rfl rfl rfl (by simp [World.setRow]) (fun i hi _ => setRow_other w b0 i c' hi) (.inl ⟨tk, hα, hb⟩)
  (by rw [hte]; exact setRow_heap w b0 c0 c' e (0, 0) hc) (by rw [hte]; exact hsz) (by rw [hcs', hcs, hte]) ?_ (by rw [hlen]; exact hcl) hn hfull hmx ?_ ?_ (.inl (by rw [hα]; simp))).1
 · rwa [setVec_self hα] at hsame
 · intro u hu
   simp only [c', List.mem_append] at hu
   rcases hu with (hu | hu) | hu
   · exact hone u (List.mem_of_mem_take hu)
   · exact hM.one u hu
   · exact hone u (List.mem_of_mem_drop hu)
 · intro i hi
   rw [hlen] at hi
   rw [hnth, hte]
   split
   · exact hM.fit _ (by omega)
   · exact hfit i hi
 · intro i j hi hj
   rw [hlen] at hi
   rw [hte] at hj ⊢
   rw [hnth, hget]
   by_cases hin : p ≤ i ∧ i < p + zs.length
   · have h2 : (i - p) * T.size e + j < zs.length * T.size e := idx_lt (by omega) hj
     have h3 : i * T.size e = (i - p) * T.size e + p * T.size e := by rw [← Nat.add_mul]; congr 1; omega
     rw [if_pos hin, if_pos (by omega)]
     have e1 : i * T.size e + j - p * T.size e = (i - p) * T.size e + j := by omega
     rw [e1]
     exact hM.rep _ _ (by omega) hj
   · rw [if_neg hin, if_neg]
     · exact hR0 i j hi hj
     · rintro ⟨q1, q2⟩
       rcases Nat.lt_or_ge i p with hlt | hge
       · have : (i + 1) * T.size e ≤ p * T.size e := Nat.mul_le_mul_right _ (by omega)
         rw [Nat.succ_mul] at this
         omega
       · have : (p + zs.length) * T.size e ≤ i * T.size e := Nat.mul_le_mul_right _ (by omega)
         rw [Nat.add_mul] at this
         omega
theorem FlatV.take {e : TypeId} {zs : List AV} {M : List Value} (h : FlatV T w g e zs M) (m : Nat) (hm : m ≤ zs.length) : FlatV T w g e (zs.take m) (M.take (m * T.size e)) := by
 have hl : (zs.take m).length = m := by rw [List.length_take]; omega
 have hle : m * T.size e ≤ zs.length * T.size e := Nat.mul_le_mul_right _ hm
 have hM := h.len
 have hn : ∀ i, i < m → nth (zs.take m) i = nth zs i := fun i hi => by
  rw [nth_eq, nth_eq]; simp only [List.getD_eq_getElem?_getD]; rw [List.getElem?_take, if_pos hi]
 refine ⟨by rw [hl, List.length_take]; omega, fun u hu => h.one u (List.mem_of_mem_take hu), fun i hi => ?_, fun i j hi hj => ?_⟩
 · rw [hl] at hi
   rw [hn i hi]
   exact h.fit i (by omega)
 · rw [hl] at hi
   rw [hn i hi]
   have := h.rep i j (by omega) hj
   rw [List.getD_eq_getElem?_getD] at this ⊢
   rw [List.getElem?_take, if_pos (idx_lt hi hj)]
   exact this
theorem zeroE_cells {e : TypeId} (hh : T.has e = true) : (zeroE T e).cells = T.zero e ∧ Fit T e (zeroE T e) := by
 unfold zeroE
 have hz := zero_eq T e
 have hs := T.size_eq e
 have ha := T.agg_eq e
 cases hag : T.agg e with
 | true => exact ⟨rfl, .inl ⟨hag, _, rfl, by rw [hz, hs]; simp⟩⟩
 | false =>
  rw [ha] at hag
  have hag' : T.agg e = false := by rw [ha]; exact hag
  have hz' : T.zero e = (T.ty e).zs.map Z.av := hz
  have key : ∀ z : Z, (z.av).cells = [z.av] := fun z => by cases z <;> rfl
  have one : ∃ z : Z, (T.ty e).zs = [z] := by
   cases ht : T.ty e with
   | struct => rw [ht] at hag; cases hag
   | array => rw [ht] at hag; cases hag
   | other => unfold Tab.has at hh; rw [ht] at hh; cases hh
   | _ => exact ⟨_, rfl⟩
  obtain ⟨z, hzz⟩ := one
  rw [hz', hzz]
  refine ⟨?_, .inr ⟨hag', by rw [hs, hzz]; rfl, ?_⟩⟩
  · exact key z
  · exact key z
theorem flat_zeros {e : TypeId} (hh : T.has e = true) {z : Value} (hzs : z.cells.toList = (T.ty e).zs.map Z.val) (k : Nat) : FlatV T w g e (List.replicate k (zeroE T e)) (Builtin.zeroCells z.cells k).toList := by
 obtain ⟨hc, hf⟩ := zeroE_cells (T := T) hh
 have hzsz : z.cells.size = T.size e := by rw [← Array.length_toList, hzs, T.size_eq]; simp
 have hn : ∀ i, i < k → nth (List.replicate k (zeroE T e)) i = zeroE T e := fun i hi => by
  rw [nth_eq]; simp [List.getD_eq_getElem?_getD, hi]
 refine ⟨by simp [Builtin.zeroCells, hzsz], zeroCells_one (fun u hu => ?_) k, fun i hi => ?_, fun i j hi hj => ?_⟩
 · rw [hzs] at hu
   obtain ⟨zz, _, rfl⟩ := List.mem_map.1 hu
   exact zone zz
 · rw [hn i (by simpa using hi)]; exact hf
 · have hi' : i < k := by simpa using hi
   rw [hn i hi', hc, zero_eq]
   have h1 := zero_reps T w g (T.ty e).zs j (by rw [List.length_map, ← T.size_eq]; exact hj)
   have h2 : (Builtin.zeroCells z.cells k).toList.getD (i * T.size e + j) undef = ((T.ty e).zs.map Z.val).getD j undef := by
    rw [← hzs]
    have hlt : i * T.size e + j < k * z.cells.size := by rw [hzsz]; exact idx_lt hi' hj
    have hj' : j < z.cells.size := by rw [hzsz]; exact hj
    have hmod : (i * T.size e + j) % z.cells.size = j := by rw [hzsz, Nat.add_comm, Nat.add_mul_mod_self_right, Nat.mod_eq_of_lt hj]
    simp [Builtin.zeroCells, List.getD_eq_getElem?_getD, hlt, hmod, hj']
   rw [h2]
   exact h1
theorem row_form (hT : TabOk P T) (h : Inv T C g env S a w) {x : Operand} {e : TypeId} {o v : Nat} {i n : Int} (hp : rowOf (AM.ev T env x) = some (e, o, v, i, n)) {full : Bool} {cs : List AV} (hvec : S.vec e o v = some (full, cs)) :
  ∃ ad cap tk b c, a.eval x = .slice ad n.toNat cap ∧ g.α o = some tk ∧ tk.b = some b ∧ w.heap[b]? = some (.cells c e (0, 0)) ∧ c.size = tk.cap * T.size e ∧ cs.length ≤ tk.cap ∧ 1 ≤ T.size e ∧ 0 ≤ i ∧ 0 ≤ n ∧ (i + n).toNat ≤ cs.length ∧ cs.length ≤ maxLen ∧
   (∃ b' p', ad = some ⟨b', p', none⟩) ∧ (0 < n → ad = some ⟨b, i.toNat * T.size e, none⟩) ∧
   (∀ u ∈ c.toList, u.oneCell' = true) ∧ (∀ i, i < cs.length → Fit T e (nth cs i)) ∧ ∀ i j, i < cs.length → j < T.size e → Rep T w g (nth (nth cs i).cells j) (c.toList.getD (i * T.size e + j) undef) := by
 have hx := h.ev x
 unfold rowOf at hp
 split at hp
 · rename_i e' o' v' i' n' c' hq
   simp only [Option.some.injEq, Prod.mk.injEq] at hp
   obtain ⟨rfl, rfl, rfl, rfl, rfl⟩ := hp
   rw [hq] at hx
   generalize hu : a.eval x = u at hx
   cases hx with
   | msf _ _ _ _ _ _ _ ad tk hα he hv hn hst hc =>
    obtain ⟨hte, htv, b, c, hb, hcl, hnn, hfull, hmx, hsz, hcc, hcs, hone, hfit, hR0⟩ := h.rel.vecAt hα hvec
    obtain ⟨q0, q1, q2, q3, q4⟩ := hc htv.symm
    exact ⟨ad, _, tk, b, c, rfl, hα, hb, hcc, hcs, by omega, hsz, q0, hn.1, by omega, by omega, hst, fun hpos => q4 b hb (by omega), hone, hfit, hR0⟩
 · rename_i e' o' v' i' n' hq
   simp only [Option.some.injEq, Prod.mk.injEq] at hp
   obtain ⟨rfl, rfl, rfl, rfl, rfl⟩ := hp
   rw [hq] at hx
   generalize hu : a.eval x = u at hx
   cases hx with
   | msl _ _ _ _ _ _ ad cap tk hα he hv hn hcn hmax hst hc =>
    obtain ⟨hte, htv, b, c, hb, hcl, hnn, hfull, hmx, hsz, hcc, hcs, hone, hfit, hR0⟩ := h.rel.vecAt hα hvec
    obtain ⟨q0, q1, ⟨q2, q3⟩, q4⟩ := hc htv.symm
    exact ⟨ad, _, tk, b, c, rfl, hα, hb, hcc, hcs, by omega, hsz, q0, hn, by omega, by omega, hst, fun hpos => q4 b hb (by omega), hone, hfit, hR0⟩
 · cases hp
theorem src_form (hT : TabOk P T) (h : Inv T C g env S a w) {y : Operand} {e : TypeId} {ys : List AV} (hp : shown real S (AM.ev T env y) = some (e, ys)) (hsz : 1 ≤ T.size e) :
  ∃ ad cap M, a.eval y = .slice ad ys.length cap ∧ FlatV T w g e ys M ∧ (0 < ys.length → ∃ b : Addr, ad = some b ∧ ∀ j v, M[j]? = some v → w.cell? (b.add j) = some v) := by
 have vec : ∀ {o v : Nat} {j n : Int} {full : Bool} {cs : List AV}, rowOf (AM.ev T env y) = some (e, o, v, j, n) → S.vec e o v = some (full, cs) → real.subL cs j (addI real j n) = ys →
   ∃ ad cap M, a.eval y = .slice ad ys.length cap ∧ FlatV T w g e ys M ∧ (0 < ys.length → ∃ b : Addr, ad = some b ∧ ∀ j v, M[j]? = some v → w.cell? (b.add j) = some v) := by
  rintro o v j n full cs hr hvec rfl
  obtain ⟨ad, cap, tk, b, c, ex, hα, hb, hcc, hcs, hle, _, q0, hn, hjn, hmax, _, had, hone, hfit, hR0⟩ := row_form hT h hr hvec
  simp only [maxLen] at hmax
  have hadd : addI real j n = j + n := addI_real q0 hn (by omega)
  have hys : real.subL cs j (addI real j n) = (cs.drop j.toNat).take n.toNat := by
   rw [hadd]
   show (cs.drop j.toNat).take (j + n - j).toNat = _
   congr 1; omega
  rw [hys]
  have hjn' : j.toNat + n.toNat ≤ cs.length := by omega
  have hL := take_vec (o := o) (v := v) (full := full) hfit hR0 hone j.toNat n.toNat hjn' (by rw [hcs]; exact Nat.mul_le_mul_right _ hle)
  have hlen : ((cs.drop j.toNat).take n.toNat).length = n.toNat := by simp; omega
  refine ⟨ad, cap, _, by rw [hlen]; exact ex, hL, fun hpos => ⟨_, had (by omega), fun p u hu => ?_⟩⟩
  rw [addr_add]
  have hp := (List.getElem?_eq_some_iff.1 hu).1
  rw [hL.len, hlen] at hp
  rw [List.getElem?_take, if_pos hp, List.getElem?_drop] at hu
  simp only [World.cell?, hcc]
  simpa using hu
 unfold shown at hp
 split at hp
 · rename_i e' ys' m hq
   simp only [Option.some.injEq, Prod.mk.injEq] at hp
   obtain ⟨rfl, rfl⟩ := hp
   obtain ⟨ady, capy, ey, hcapy, hry⟩ := sl_form hT h hq
   obtain ⟨_, M, hM, hMc⟩ := flat_of hry hsz
   refine ⟨ady, capy, M, ey, hM.v, fun h0 => ?_⟩
   obtain ⟨b, base, hady, hcell, _⟩ := hMc (List.length_pos_iff.1 h0)
   exact ⟨_, hady, fun j v hv => by rw [addr_add]; exact hcell j v hv⟩
 · rename_i e' o v j n hq
   split at hp
   · rename_i full cs hvec
     simp only [Option.some.injEq, Prod.mk.injEq] at hp
     obtain ⟨rfl, h2⟩ := hp
     exact vec (by rw [hq]; rfl) hvec h2
   · cases hp
 · rename_i e' o v j n c hq
   split at hp
   · rename_i full cs hvec
     simp only [Option.some.injEq, Prod.mk.injEq] at hp
     obtain ⟨rfl, h2⟩ := hp
     exact vec (by rw [hq]; rfl) hvec h2
   · cases hp
 · cases hp
theorem run_copy {t e : TypeId} {i : TypeInfo} (ty : TypeId) (ht : P.underlying t = some (.slice e)) (hi : P.info? e = some i) (gb o dLen dCap : Nat) (ads : Option Addr) (sLen sCap n : Nat) {cur : Array Value} {M : List Value} (hn : n = Nat.min sLen dLen)
  (hMl : M.length = n * i.size) (hM : 0 < n → ∃ b : Addr, ads = some b ∧ ∀ j v, M[j]? = some v → w.cell? (b.add j) = some v) (hc : w.heap[gb]? = some (.cells cur e (0, 0))) (hfit : o + M.length ≤ cur.size) (h1 : ∀ v ∈ M, v.oneCell' = true) :
  (Builtin.copy_ #[t, t] ty #[.slice (some ⟨gb, o, none⟩) dLen dCap, .slice ads sLen sCap]).run P w =
    .ok (.int .i64 n) (w.setRow gb (cur.toList.take o ++ M ++ cur.toList.drop (o + M.length)).toArray) := by
 have hst := run_storeCells_at P gb o e M 0 cur w hc (by simpa using hfit) h1
 simp only [Nat.add_zero] at hst
 rcases Nat.eq_zero_or_pos n with h0 | h0
 · have hM0 : M = [] := List.eq_nil_of_length_eq_zero (by rw [hMl, h0]; simp)
   subst hM0
   have hf : (Builtin.firstCells i.size 0 (.slice ads sLen sCap)).run P w = .ok #[] w := by
    cases ads <;> simp [Builtin.firstCells, loadCells, loadCellsFrom]
   have hmin : Nat.min sLen dLen = 0 := by omega
   simp [Builtin.copy_, run_underlying ht, sizeOf, typeInfo, hi, Builtin.lenOf, hmin, hf, goInt, h0, hst]
 · obtain ⟨b, rfl, hb⟩ := hM h0
   have hf := run_firstCells_some (P := P) w i.size n b sLen sCap M hMl hb
   simp [Builtin.copy_, run_underlying ht, sizeOf, typeInfo, hi, Builtin.lenOf, ← hn, hf, goInt, hst]
theorem run_copy0 {t e : TypeId} {i : TypeInfo} (ty : TypeId) (ht : P.underlying t = some (.slice e)) (hi : P.info? e = some i) (adx ads : Option Addr) (dLen dCap sLen sCap : Nat) (hn : Nat.min sLen dLen = 0) :
  (Builtin.copy_ #[t, t] ty #[.slice adx dLen dCap, .slice ads sLen sCap]).run P w = .ok (.int .i64 0) w := by
 have hf : (Builtin.firstCells i.size 0 (.slice ads sLen sCap)).run P w = .ok #[] w := by
  cases ads <;> simp [Builtin.firstCells, loadCells, loadCellsFrom]
 cases adx <;> simp [Builtin.copy_, run_underlying ht, sizeOf, typeInfo, hi, Builtin.lenOf, hn, hf, goInt, storeCells]
theorem setVec_same {S : St} {o : Nat} {r : List AV} (hr : S.row o = r) (hne : r ≠ []) (h : Inv T C g env S a w) (hva : ∀ tk, g.α o = some tk → True) : Inv T C g env (S.set o r) a w := by
 have hrow : ∀ p, (S.set o r).row p = S.row p := fun p => by
  rw [vrow_set hr hne]
  by_cases hp : o = p
  · subst hp; rw [if_pos rfl, hr]
  · rw [if_neg hp]
 refine ⟨h.tmp, h.size, h.defers, ⟨?_, h.rel.inj, h.rel.dom, h.rel.apart, h.rel.live, h.rel.tok, h.rel.tinj,
  h.rel.vec.other rfl (fun p tk e => hrow p) (Nat.le_refl _) (.refl _ _) (fun _ _ _ _ _ => rfl) h.rel.vec.ρ h.rel.vec.D h.rel.vec.τ h.rel.vec.one⟩, h.ext, h.ob, h.tb, h.glob, h.nm, h.next, h.vb, h.vn⟩
 intro p b e
 obtain ⟨c, t, hc, hs, h1, hR⟩ := h.rel.obj p b e
 refine ⟨c, t, hc, by rw [hrow]; exact hs, h1, fun j hj => ?_⟩
 rw [hrow] at hj ⊢
 exact hR j hj
theorem over_real {cs zs : List AV} {p : Nat} {i k : Int} (hi : i = (p : Int)) (hk : k = (p : Int) + (zs.length : Int)) (hp : p + zs.length ≤ cs.length) :
  real.app (real.subL cs 0 i) (real.app zs (real.subL cs k (real.len cs))) = cs.take p ++ zs ++ cs.drop (p + zs.length) := by
 show ((cs.drop 0).take (i - 0).toNat) ++ (zs ++ ((cs.drop k.toNat).take ((cs.length : Int) - k).toNat)) = _
 have e1 : (i - 0).toNat = p := by omega
 have e2 : k.toNat = p + zs.length := by omega
 have e3 : ((cs.length : Int) - k).toNat = (cs.drop (p + zs.length)).length := by simp; omega
 rw [e1, e2, e3, List.take_length, List.drop_zero, List.append_assoc]
theorem sound_xcopy (hT : TabOk P T) (h : Inv T C g env S a w) (N : Nat) {t oty : TypeId} {x y : Operand} {e : TypeId} {o v : Nat} {i n : Int} (hp : rowOf (AM.ev T env x) = some (e, o, v, i, n)) {K : AV → St → Prop}
  (hx : xcopy (pAlg P T N) T t e o v i n (AM.ev T env y) S K) :
  ∃ v S' x' w', K v S' ∧ (Builtin.copy_ #[t, t] oty #[a.eval x, a.eval y]).run P w = .ok x' w' ∧ Inv T C g env S' a w' ∧ Rep T w' g v x' := by
 unfold xcopy at hx
 simp only [vecX_of hT.X] at hx
 rw [hT.X] at hx
 split at hx
 · rename_i e' ht
   split at hx
   · rename_i hbeq
     have hee : e = e' := Nat.eq_of_beq_eq_true hbeq
     subst hee
     split at hx
     · rename_i hhas
       split at hx
       · rename_i e2 ys hsh
         split at hx
         · rename_i hb2
           have he2 : e2 = e := Nat.eq_of_beq_eq_true hb2
           subst he2
           split at hx
           · rename_i full cs hvec
             obtain ⟨ad, cap, tk, b, c, ex, hα, hb, hcc, hcs, hle, hsz, q0, hn, hjn, hmax, ⟨b', p', had'⟩, had, hone, hfit, hR0⟩ := row_form hT h hp hvec
             obtain ⟨ads, scap, M, ey, hM, hMc⟩ := src_form hT h hsh hsz
             obtain ⟨d, hd, hshp⟩ := shape_of hT h ht (by simp)
             have := shape_slice hshp; subst this
             obtain ⟨inf, z, d', hi, hd', hsi, hz, hzs, hb0, hsh', ha⟩ := (has_row hT hhas).row
             have hisz : inf.size = T.size e2 := by rw [hsi, T.size_eq]
             simp only [maxLen] at hmax
             have go : ∀ (m : Nat) (zs : List AV) (Mz : List Value), FlatV T w g e2 zs Mz → zs.length = m → m = Nat.min ys.length n.toNat → (0 < m → ∃ b : Addr, ads = some b ∧ ∀ j v, Mz[j]? = some v → w.cell? (b.add j) = some v) →
               ∃ w', (Builtin.copy_ #[t, t] oty #[a.eval x, a.eval y]).run P w = .ok (.int .i64 m) w' ∧ Inv T C g env (S.set o [.mrow e2 v full (cs.take i.toNat ++ zs ++ cs.drop (i.toNat + zs.length))]) a w' := by
              intro m zs Mz hz hzl hm hcell
              have hmn : m ≤ n.toNat := by rw [hm]; exact Nat.min_le_right _ _
              rcases Nat.eq_zero_or_pos m with h0 | h0
              · subst h0
                have hz0 : zs = [] := List.eq_nil_of_length_eq_zero hzl
                subst hz0
                refine ⟨w, by rw [ex, ey]; exact run_copy0 oty hd hi ad ads n.toNat cap ys.length scap hm.symm, ?_⟩
                have : cs.take i.toNat ++ [] ++ cs.drop (i.toNat + ([] : List AV).length) = cs := by simp
                rw [this]
                exact setVec_same (vec_row hvec) (by simp) h (fun _ _ => trivial)
              · have hadd := had (by omega)
                subst hadd
                have hover := h.vover hα hvec hz (p := i.toNat) (by omega) hb hcc
                refine ⟨_, ?_, hover⟩
                rw [ex, ey]
                refine run_copy oty hd hi b (i.toNat * T.size e2) n.toNat cap ads ys.length scap m hm (by rw [hz.len, hzl, hisz]) hcell hcc ?_ hz.one
                rw [hz.len, hzl, hcs, ← Nat.add_mul]
                exact Nat.mul_le_mul_right _ (by omega)
             split at hx
             · rename_i hlt
               have hlt' : (ys.length : Int) < n := by
                have : real.cmp .lss (real.len ys) n = true := hlt
                simpa [real, intRel] using this
               obtain ⟨w', hr, hI⟩ := go ys.length ys M hM rfl (by show ys.length = min ys.length n.toNat; omega) hMc
               rw [over_real (p := i.toNat) (by omega) (by rw [addI_real q0 (by simp [real]) (by show i + (ys.length : Int) ≤ _; omega)]; show i + (ys.length : Int) = _; omega) (by omega)] at hx
               exact ⟨_, _, _, w', hx, hr, hI, .int _ _ _⟩
             · rename_i hlt
               have hlt' : n ≤ (ys.length : Int) := by
                have : real.cmp .lss (real.len ys) n = false := hlt
                simpa [real, intRel] using this
               have hsub : real.subL ys 0 n = ys.take n.toNat := by
                show (ys.drop 0).take (n - 0).toNat = _
                rw [List.drop_zero, Int.sub_zero]
               have htl : (ys.take n.toNat).length = n.toNat := by simp; omega
               obtain ⟨w', hr, hI⟩ := go n.toNat (ys.take n.toNat) (M.take (n.toNat * T.size e2)) (hM.take _ (by omega)) htl (by show n.toNat = min ys.length n.toNat; omega) (fun hpos => by
                obtain ⟨b, hb, hc⟩ := hMc (by omega)
                refine ⟨b, hb, fun j v hv => hc j v ?_⟩
                rw [List.getElem?_take] at hv
                split at hv
                · exact hv
                · cases hv)
               rw [hsub, over_real (p := i.toNat) (by omega) (by rw [addI_real q0 hn (by omega), htl]; omega) (by omega)] at hx
               have e1 : ((n.toNat : Nat) : Int) = n := by omega
               rw [e1] at hr
               exact ⟨_, _, _, w', hx, hr, hI, .int _ _ _⟩
           · exact hx.elim
         · exact hx.elim
       · exact hx.elim
     · exact hx.elim
   · exact hx.elim
 · exact hx.elim
theorem run_clear {t e : TypeId} {i : TypeInfo} {z : Value} (ty : TypeId) (ht : P.underlying t = some (.slice e)) (hi : P.info? e = some i) (hz : i.zero = some z) (gb o n cap : Nat) {cur : Array Value}
  (hc : w.heap[gb]? = some (.cells cur e (0, 0))) (hfit : o + (Builtin.zeroCells z.cells n).toList.length ≤ cur.size) (h1 : ∀ v ∈ (Builtin.zeroCells z.cells n).toList, v.oneCell' = true) (hn : 0 < n) :
  (Builtin.clear_ #[t] ty #[.slice (some ⟨gb, o, none⟩) n cap]).run P w =
    .ok (.tuple #[]) (w.setRow gb (cur.toList.take o ++ (Builtin.zeroCells z.cells n).toList ++ cur.toList.drop (o + (Builtin.zeroCells z.cells n).toList.length)).toArray) := by
 have hst := run_storeCells_at P gb o e (Builtin.zeroCells z.cells n).toList 0 cur w hc (by simpa using hfit) h1
 simp only [Nat.add_zero] at hst
 cases n with
 | zero => omega
 | succ n => simp [Builtin.clear_, run_underlying ht, zeroValue, typeInfo, hi, hz, hst]
theorem run_clear0 {t e : TypeId} (ty : TypeId) (ht : P.underlying t = some (.slice e)) (ad : Option Addr) (cap : Nat) : (Builtin.clear_ #[t] ty #[.slice ad 0 cap]).run P w = .ok (.tuple #[]) w := by
 cases ad <;> simp [Builtin.clear_, run_underlying ht]
theorem sound_xclear (hT : TabOk P T) (h : Inv T C g env S a w) (N : Nat) {t oty : TypeId} {x : Operand} {e : TypeId} {o v : Nat} {i n : Int} (hp : rowOf (AM.ev T env x) = some (e, o, v, i, n)) {K : AV → St → Prop}
  (hx : xclear (pAlg P T N) T t e o v i n S K) :
  ∃ v S' x' w', K v S' ∧ (Builtin.clear_ #[t] oty #[a.eval x]).run P w = .ok x' w' ∧ Inv T C g env S' a w' ∧ Rep T w' g v x' := by
 unfold xclear at hx
 simp only [vecX_of hT.X] at hx
 rw [hT.X] at hx
 split at hx
 · rename_i e' ht
   split at hx
   · rename_i hbeq
     have hee : e = e' := Nat.eq_of_beq_eq_true hbeq
     subst hee
     split at hx
     · rename_i hhas
       split at hx
       · rename_i full cs hvec
         obtain ⟨ad, cap, tk, b, c, ex, hα, hb, hcc, hcs, hle, hsz, q0, hn, hjn, hmax, ⟨b', p', had'⟩, had, hone, hfit, hR0⟩ := row_form hT h hp hvec
         obtain ⟨d, hd, hshp⟩ := shape_of hT h ht (by simp)
         have := shape_slice hshp; subst this
         obtain ⟨inf, z, d', hi, hd', hsi, hz, hzs, hb0, hsh', ha⟩ := (has_row hT hhas).row
         simp only [maxLen] at hmax
         have hrep : real.rep n (zeroE T e) = List.replicate n.toNat (zeroE T e) := rfl
         have hlr : (List.replicate n.toNat (zeroE T e)).length = n.toNat := by simp
         rw [hrep, over_real (p := i.toNat) (by omega) (by rw [addI_real q0 hn (by omega), hlr]; omega) (by omega)] at hx
         have hF := flat_zeros (T := T) (w := w) (g := g) hhas hzs n.toNat
         by_cases hpos : 0 < n
         · have hadd := had hpos
           subst hadd
           refine ⟨_, _, _, _, hx, ?_, h.vover hα hvec hF (p := i.toNat) (by omega) hb hcc, .tup _ [] [] rfl (by simp)⟩
           rw [ex]
           refine run_clear oty hd hi hz b (i.toNat * T.size e) n.toNat cap hcc ?_ hF.one (by omega)
           rw [hF.len, hlr, hcs, ← Nat.add_mul]
           exact Nat.mul_le_mul_right _ (by omega)
         · have hn0 : n.toNat = 0 := by omega
           rw [hn0] at hx ex
           have : cs.take i.toNat ++ List.replicate 0 (zeroE T e) ++ cs.drop (i.toNat + (List.replicate 0 (zeroE T e)).length) = cs := by simp
           rw [this] at hx
           exact ⟨_, _, _, w, hx, by rw [ex]; exact run_clear0 oty hd ad cap, setVec_same (vec_row hvec) (by simp) h (fun _ _ => trivial), .tup _ [] [] rfl (by simp)⟩
       · exact hx.elim
     · exact hx.elim
   · exact hx.elim
 · exact hx.elim
structure AppsG (P : Program) (w : World) (t u e : TypeId) (i : TypeInfo) (z : Value) (n : Nat) (M : List Value) (uy : Value) : Prop where
 empty : n = 0 → ∀ ty (ad : Option Addr) k cap, k ≤ cap → (Builtin.append_ #[t, u] ty #[.slice ad k cap, uy]).run P w = .ok (.slice ad k cap) w
 grow : ∀ ty (b : Addr) (sLen sCap : Nat) (olds : List Value), olds.length = sLen * i.size → (∀ j v, olds[j]? = some v → w.cell? (b.add j) = some v) → sCap < sLen + n → ((sLen + n : Nat) : Int) ≤ 9223372036854775807 →
   Builtin.nextslicecap (sLen + n) sCap * i.bytes ≤ 281474976710656 → (Builtin.append_ #[t, u] ty #[.slice (some b) sLen sCap, uy]).run P w =
   .ok (.slice (some ⟨w.heap.size, 0, none⟩) (sLen + n) (grownCap w (sLen + n) sCap e))
    (w.drew.alloc (.cells (olds.toArray ++ M.toArray ++ Builtin.zeroCells z.cells (grownCap w (sLen + n) sCap e - (sLen + n))) e))
 room : ∀ ty (g sLen sCap : Nat) (cur : Array Value), 0 < n → w.heap[g]? = some (.cells cur e (0, 0)) → (∀ v ∈ M, v.oneCell' = true) → sLen + n ≤ sCap → sLen * i.size + M.length ≤ cur.size →
   (Builtin.append_ #[t, u] ty #[.slice (some ⟨g, 0, none⟩) sLen sCap, uy]).run P w =
   .ok (.slice (some ⟨g, 0, none⟩) (sLen + n) sCap) (w.setRow g (cur.toList.take (sLen * i.size) ++ M ++ cur.toList.drop (sLen * i.size + M.length)).toArray)
theorem Apps.gg {t u e : TypeId} {i : TypeInfo} {z : Value} {n : Nat} {M : List Value} {uy : Value} (h : Apps P w t u e i z n M uy) : AppsG P w t u e i z n M uy := ⟨h.empty, h.grow, h.room⟩
theorem apps_zeros {t u e : TypeId} {i : TypeInfo} {z : Value} {k : IntKind} (ht : P.underlying t = some (.slice e)) (hu : P.underlying u = some (.int k)) (hi : P.info? e = some i) (hz : i.zero = some z) (hzi : z.cells.size = i.size) (hsz : 0 < i.size) (n : Nat)
  (h48 : n * i.bytes ≤ 281474976710656) (h63 : n < 9223372036854775808) : AppsG P w t u e i z n (Builtin.zeroCells z.cells n).toList (.int .i64 (n : Int)) := by
 have hw : IntKind.i64.wrap (n : Int) = (n : Int) := wrap_in (by omega) (by omega)
 have h48i : ¬ ((n : Int) * (i.bytes : Int) > 281474976710656) := by
  have : ((n * i.bytes : Nat) : Int) = (n : Int) * (i.bytes : Int) := Int.natCast_mul _ _
  omega
 have hl : (Builtin.zeroCells z.cells n).toList.length = n * i.size := by rw [Array.length_toList, size_zeroCells, hzi]
 have hneg : ¬ ((n : Int) < 0) := by omega
 refine ⟨fun h0 ty ad k' cap hk => ?_, fun ty b sLen sCap olds hlo holds hg h63' hfit => ?_, fun ty gb sLen sCap cur h0 hg h1 hroom hfit => ?_⟩
 · subst h0
   have hw0 : IntKind.i64.wrap 0 = 0 := wrap_in (by omega) (by omega)
   cases ad <;> simp [Builtin.append_, run_underlying ht, run_underlying hu, sizeOf, typeInfo, hi, asInt, asIntOf, hw0, hk, storeCells]
 · have hn : ¬ (sLen + n ≤ sCap) := by omega
   have hfo := run_firstCells_some (P := P) w.drew i.size sLen b sLen sCap olds hlo (by simpa using holds)
   have h63'' : ¬ (9223372036854775807 < ((sLen : Int) + (n : Int))) := by omega
   have h48' : ¬ (281474976710656 < Builtin.nextslicecap (sLen + n) sCap * i.bytes) := by omega
   by_cases h0 : n = 0
   · subst h0
     have hw0 : IntKind.i64.wrap 0 = 0 := wrap_in (by omega) (by omega)
     have hn' : ¬ (sLen ≤ sCap) := by omega
     have h63q : ¬ (9223372036854775807 < (sLen : Int)) := by omega
     have hfo' := hfo
     simp only [Nat.add_zero] at h48'
     simp [Builtin.append_, run_underlying ht, run_underlying hu, sizeOf, typeInfo, zeroValue, hi, hz, asInt, asIntOf, hw0, hn', h63q, h48', Question.forced, hfo, newRow, grownCap]
     have hz0 : Builtin.zeroCells z.cells 0 = #[] := Array.eq_empty_of_size_eq_zero (by simp [size_zeroCells])
     rw [hz0]
     simp
   · have hns : ¬ (n * i.size = 0) := by
      intro e0
      rcases Nat.mul_eq_zero.1 e0 with e1 | e1 <;> omega
     have hns' : ¬ (n = 0 ∨ i.size = 0) := by omega
     simp [Builtin.append_, run_underlying ht, run_underlying hu, sizeOf, typeInfo, zeroValue, hi, hz, asInt, asIntOf, hw, hneg, h48i, hn, h63'', h48', Question.forced, hfo, newRow, grownCap, h0]
     exact fun e0 => absurd e0 hns
 · have hns' : ¬ (n = 0 ∨ i.size = 0) := by omega
   have hst := run_storeCells_at P gb (sLen * i.size) e (Builtin.zeroCells z.cells n).toList 0 cur w hg (by simpa using hfit) h1
   simp only [Nat.add_zero] at hst
   simp [Builtin.append_, run_underlying ht, run_underlying hu, sizeOf, typeInfo, zeroValue, hi, hz, asInt, asIntOf, hw, hneg, h48i, hroom, Addr.add_lit, hst]
   exact fun e0 => absurd e0 (by intro e0; rcases Nat.mul_eq_zero.1 e0 with e1 | e1 <;> omega)
theorem msfOf_row {x : AV} {e : TypeId} {o v : Nat} {i n c : Int} (h : msfOf x = some (e, o, v, i, n, c)) : x = .msf e o v i n c := by
 unfold msfOf at h
 split at h
 · simp only [Option.some.injEq, Prod.mk.injEq] at h
   obtain ⟨rfl, rfl, rfl, rfl, rfl, rfl⟩ := h
   rfl
 · cases h
theorem srcF_sound (hT : TabOk P T) (h : Inv T C g env S a w) {t u e e2 : TypeId} {y : Operand} {ok : Bool} {ys : List AV} (hp : srcF T S t u (AM.ev T env y) = some (ok, e2, ys)) (hok : ok = true) (he : e2 = e) (ht : T.ty t = .slice e) (hhas : T.has e = true)
  (hsz : 1 ≤ T.size e) (hbz : 1 ≤ T.bytes e) {i : TypeInfo} {z : Value} (hd : P.underlying t = some (.slice e)) (hi : P.info? e = some i) (hz : i.zero = some z) (hzs : z.cells.toList = (T.ty e).zs.map Z.val) (hisz : i.size = T.size e) (hib : i.bytes = T.bytes e) :
  ∃ M, FlatV T w g e ys M ∧ AppsG P w t u e i z ys.length M (a.eval y) := by
 subst he
 unfold srcF at hp
 split at hp
 · rename_i htu
   have htu' : t = u := Nat.eq_of_beq_eq_true htu
   subst htu'
   split at hp
   · rename_i e3 ys' hsh
     simp only [Option.some.injEq, Prod.mk.injEq] at hp
     obtain ⟨-, rfl, rfl⟩ := hp
     rw [hT.X] at hsh
     obtain ⟨ad, cap, M, ey, hM, hMc⟩ := src_form hT h hsh hsz
     refine ⟨M, hM, ?_⟩
     rw [ey]
     exact (apps_cells hT h hd hi hz (by rw [hM.len, hisz]) hMc).gg
   · cases hp
 · split at hp
   · rename_i e3 k3 k hte htu hy
     simp only [Option.some.injEq, Prod.mk.injEq] at hp
     obtain ⟨rfl, rfl, rfl⟩ := hp
     rw [hT.X] at hok ⊢
     have hok' : (real.cmp .leq 0 k && real.room k (T.bytes e3)) = true := hok
     simp only [Bool.and_eq_true] at hok'
     have h0 : 0 ≤ k := by simpa [real, intRel] using hok'.1
     obtain ⟨n, rfl⟩ := Int.eq_ofNat_of_zero_le h0
     have hr := room_nat hok'.2
     obtain ⟨du, hdu, hsu⟩ := shape_of hT h htu (by simp)
     have hdu' : ∃ k', du = .int k' := by cases du <;> simp [shapeOk] at hsu; exact ⟨_, rfl⟩
     obtain ⟨k', rfl⟩ := hdu'
     have hrep : real.rep (n : Int) (zeroE T e3) = List.replicate n (zeroE T e3) := rfl
     rw [hrep]
     have hF := flat_zeros (T := T) (w := w) (g := g) hhas hzs n
     have hzsz : z.cells.size = i.size := by rw [← Array.length_toList, hzs, hisz, T.size_eq]; simp
     have hn1 : n ≤ 140737488355328 := Nat.le_trans (Nat.le_mul_of_pos_right _ hbz) hr
     refine ⟨_, hF, ?_⟩
     rw [List.length_replicate, int_of hT h hy]
     exact apps_zeros hd hdu hi hz hzsz (by omega) n (by rw [hib]; omega) (by omega)
   · cases hp
theorem sound_xappF (hT : TabOk P T) (h : Inv T C g env S a w) (N : Nat) {t u oty : TypeId} {x y : Operand} {e : TypeId} {o v : Nat} {i n c : Int} (hp : msfOf (AM.ev T env x) = some (e, o, v, i, n, c)) {K : AV → St → Prop}
  (hx : xappF (pAlg P T N) T t u e o v i n c (AM.ev T env y) S K) :
  ∃ v S' x' w' g', K v S' ∧ (Builtin.append_ #[t, u] oty #[a.eval x, a.eval y]).run P w = .ok x' w' ∧ Inv T C g' env S' a w' ∧ Rep T w' g' v x' := by
 have hpx := msfOf_row hp
 unfold xappF at hx
 simp only [vecX_of hT.X] at hx
 split at hx
 · rename_i e' ht
   split at hx
   · rename_i hbeq
     have hee : e = e' := Nat.eq_of_beq_eq_true hbeq
     subst hee
     split at hx
     · rename_i hhas hbz
       have hbz' := ble_le hbz
       split at hx
       · rename_i ok e2 ys hsrc
         split at hx
         · rename_i hb2
           have he2 : e2 = e := Nat.eq_of_beq_eq_true hb2
           subst he2
           split at hx
           · rename_i cs hvec
             obtain ⟨hok, hi0, hx⟩ := hx
             rw [hT.X] at hi0 hx
             have hi0' : i = 0 := by simpa [real, intRel] using hi0
             subst hi0'
             obtain ⟨d, hd, hshp⟩ := shape_of hT h ht (by simp)
             have := shape_slice hshp; subst this
             obtain ⟨inf, z, d', hi, hd', hsi, hz, hzs, hb0, hsh', ha⟩ := (has_row hT hhas).row
             have hisz : inf.size = T.size e2 := by rw [hsi, T.size_eq]
             have hxv := h.ev x
             rw [hpx] at hxv
             generalize hux : a.eval x = ux at hxv
             cases hxv with
             | msf _ _ _ _ _ _ _ ad tk hα he hv hn hst hc =>
              obtain ⟨hte, htv, b, cc, hb, hcl, hnn, hfull, hmx, hsz, hcc, hcs, hone, hfit, hR0⟩ := h.rel.vecAt hα hvec
              obtain ⟨-, q1, q2, q3, q4⟩ := hc htv.symm
              obtain ⟨hn0, hnc, hcm⟩ := hn
              simp only [maxLen] at hcm
              have hccs : c.toNat = cs.length := by
               have : (0 + c).toNat = c.toNat := by rw [Int.zero_add]
               omega
              have had := q4 b hb (by have := hmx.1; omega)
              simp only [Int.toNat_zero, Nat.zero_mul] at had
              subst had
              obtain ⟨M, hM, hY⟩ := srcF_sound hT h hsrc hok rfl ht hhas hsz hbz' hd hi hz hzs hisz hb0
              have hsub : real.subL cs 0 n = cs.take n.toNat := by
               show (cs.drop 0).take (n - 0).toNat = _
               rw [List.drop_zero, Int.sub_zero]
              have htl : (cs.take n.toNat).length = n.toNat := by simp; omega
              have happ : real.app (real.subL cs 0 n) ys = cs.take n.toNat ++ ys := by rw [hsub]; rfl
              have hlenapp : real.len (real.app (real.subL cs 0 n) ys) = ((n.toNat + ys.length : Nat) : Int) := by
               rw [happ]; show ((cs.take n.toNat ++ ys).length : Int) = _; rw [List.length_append, htl]
              have hsubI : real.arith .sub .i64 c n = c - n := wrap_in (n := c - n) (by omega) (by omega)
              rw [hsubI, hlenapp] at hx
              split at hx
              · rename_i hle
                have hle' : (ys.length : Int) ≤ c - n := by
                 have : real.cmp .leq (real.len ys) (c - n) = true := hle
                 simpa [real, intRel] using this
                rw [over_real (p := n.toNat) (by omega) (by omega) (by omega)] at hx
                have hrepr : ∀ w', Rep T w' g (.msf e2 o v 0 ((n.toNat + ys.length : Nat) : Int) c) (.slice (some ⟨b, 0, none⟩) (n.toNat + ys.length) c.toNat) := by
                 intro w'
                 have := Rep.msf (T := T) (w := w') g e2 o v 0 ((n.toNat + ys.length : Nat) : Int) c (some ⟨b, 0, none⟩) tk hα he hv ⟨by omega, by omega, by simp only [maxLen]; omega⟩ ⟨_, _, rfl⟩ (fun hcur => ⟨by omega, q1, q2, q3, fun b2 hb2 _ => by
                  rw [hb] at hb2
                  simp only [Option.some.injEq] at hb2
                  subst hb2
                  simp⟩)
                 have e1 : (((n.toNat + ys.length : Nat) : Int)).toNat = n.toNat + ys.length := by omega
                 rwa [e1] at this
                by_cases hy0 : ys = []
                · subst hy0
                  have hemp := hY.empty rfl oty (some ⟨b, 0, none⟩) n.toNat c.toNat (by omega)
                  have : cs.take n.toNat ++ [] ++ cs.drop (n.toNat + ([] : List AV).length) = cs := by simp
                  rw [this] at hx
                  exact ⟨_, _, _, w, g, hx, hemp, setVec_same (vec_row hvec) (by simp) h (fun _ _ => trivial), hrepr w⟩
                · have hypos : 0 < ys.length := List.length_pos_iff.2 hy0
                  have hfitb : (n.toNat + ys.length) * T.size e2 ≤ cc.size := by rw [hcs]; exact Nat.mul_le_mul_right _ (by omega)
                  rw [Nat.add_mul] at hfitb
                  have hr2 := hY.room oty b n.toNat c.toNat cc hypos hcc hM.one (by omega) (by rw [hM.len, hisz]; exact hfitb)
                  rw [hisz] at hr2
                  exact ⟨_, _, _, _, g, hx, hr2, h.vover hα hvec hM (p := n.toNat) (by omega) hb hcc, hrepr _⟩
              · rename_i hle
                have hle' : c - n < (ys.length : Int) := by
                 have : real.cmp .leq (real.len ys) (c - n) = false := hle
                 simpa [real, intRel] using this
                obtain ⟨hroom, hx⟩ := hx
                have hroom' : (n.toNat + ys.length) * T.bytes e2 ≤ 140737488355328 := room_nat hroom
                rw [happ] at hx
                have hnl : (cs.take n.toNat ++ ys).length = n.toNat + ys.length := by rw [List.length_append, htl]
                have hL : FlatV T w g e2 (cs.take n.toNat) (cc.toList.take (n.toNat * T.size e2)) := by
                 have := take_vec (o := o) (v := v) (full := true) hfit hR0 hone 0 n.toNat (by omega) (by rw [hcs]; exact Nat.mul_le_mul_right _ (by omega))
                 simpa using this
                have hLM := hL.append hM
                have hlen1 : n.toNat + ys.length ≤ 140737488355328 := Nat.le_trans (Nat.le_mul_of_pos_right _ hbz') hroom'
                have htk0 : (cc.toList.take (n.toNat * T.size e2)).length = n.toNat * T.size e2 := by have := hL.len; rw [htl] at this; exact this
                have hge := grownCap_ge w (n.toNat + ys.length) c.toNat e2
                have hcm2 := grownCap_le_maxLen w (n.toNat + ys.length) c.toNat e2 (Nat.le_trans hlen1 (by simp [maxLen]))
                have hzsz : z.cells.size = T.size e2 := by rw [← Array.length_toList, hzs, T.size_eq]; simp
                have hr2 := hY.grow oty ⟨b, 0, none⟩ n.toNat c.toNat (cc.toList.take (n.toNat * T.size e2)) (by rw [htk0, hisz]) (fun j uu hu => by
                  rw [addr_add]
                  have hj : j < (cc.toList.take (n.toNat * T.size e2)).length := (List.getElem?_eq_some_iff.1 hu).1
                  rw [htk0] at hj
                  rw [List.getElem?_take, if_pos hj] at hu
                  simp only [World.cell?, hcc, Nat.zero_add]
                  simpa using hu) (by omega) (by omega) (growslice_fits (by omega) (by rw [hb0]; exact hroom'))
                have hva : g.α S.next = none := by
                 cases hq : g.α S.next with
                 | none => rfl
                 | some tk => exact absurd (h.rel.vec.ok _ _ hq).1 (Nat.lt_irrefl _)
                have hρ : g.ρ S.next = none := by
                 cases hq : g.ρ S.next with
                 | none => rfl
                 | some b => exact absurd (h.rel.dom _ _ hq) (Nat.lt_irrefl _)
                obtain ⟨g', hI, hR, _⟩ := vec_new hT h hLM (by rw [hnl]; omega) hsz (Builtin.zeroCells z.cells (grownCap w (n.toNat + ys.length) c.toNat e2 - (n.toNat + ys.length))) (zeroCells_one (fun uu hu => by
                  rw [hzs] at hu
                  obtain ⟨zz, _, rfl⟩ := List.mem_map.1 hu
                  exact zone zz) _) (grownCap w (n.toNat + ys.length) c.toNat e2) (by rw [hnl]; exact hge) hcm2 (by
                  simp only [Array.size_append, List.size_toArray, size_zeroCells, hzsz, hLM.len, hnl, ← Nat.add_mul]
                  congr 1
                  omega) (o := S.next) (v := 0) (S' := S.push [.mrow e2 0 false (cs.take n.toNat ++ ys)]) (fun tk q => by rw [hva] at q; cases q) (Nat.lt_succ_self _) (Nat.le_succ _) hρ (by rw [row_push, if_pos rfl])
                 (fun p _ hp => by rw [row_push, if_neg (by omega)]) rfl (.inr (Nat.le_refl _)) (.inl rfl)
                rw [hnl] at hR
                refine ⟨_, _, _, _, g', hx, hr2, ?_, by simpa using hR⟩
                simpa using hI
           · exact hx.elim
         · exact hx.elim
       · exact hx.elim
     · exact hx.elim
   · exact hx.elim
 · exact hx.elim
end
end Go.AM
namespace Go.AM
section
variable {P : Program} {T : Tab} {C : Ctx} {g : Ghost} {env : Env} {S : St} {a : Act} {w : World}
variable (hT : TabOk P T) (h : Inv T C g env S a w)
include hT h
theorem ext_of_call {g' : Ghost} {S' : St} {w' : World} (r : WRel T g' S' w') (e : Ext (touchOf g) g w g' w') (hb : ∀ b, touchOf g' b → touchOf g b ∨ w.heap.size ≤ b)
  (nm : ∀ o b, g'.ρ o = some b → g.ρ o = some b ∨ S.next ≤ o) (nx : S.next ≤ S'.next) (vn : ∀ o tk, g'.α o = some tk → g.α o ≠ none ∨ S.next ≤ o) : Inv T C g' env S' a w' := by
 have ht : ∀ b, touchOf g b → C.touch b ∨ C.w0.heap.size ≤ b := by
  rintro b (⟨o, ho⟩ | ⟨k, tk, hk, hb⟩ | ⟨o, tk, hk, hb⟩)
  · exact h.ob o b ho
  · exact h.tb k tk b hk hb
  · exact h.vb o tk b hk hb
 have ht' : ∀ b, touchOf g' b → C.touch b ∨ C.w0.heap.size ≤ b := fun b q => by
  rcases hb b q with q | q
  · exact ht b q
  · exact .inr (Nat.le_trans h.ext.size q)
 exact h.step r (e.mono fun b q => .inl (ht b q)) (fun o b q => ht' b (.inl ⟨o, q⟩)) (fun k tk b q q' => ht' b (.inr (.inl ⟨k, tk, q, q'⟩))) nm nx (fun o tk b q q' => ht' b (.inr (.inr ⟨o, tk, q, q'⟩))) vn
theorem args_rel (l : List Operand) : ArgsRel T w g (evs T env l) (l.map a.eval) := by
 refine ⟨by simp [evs_eq], fun j hj => ?_⟩
 rw [evs_eq] at hj ⊢
 have hj' : j < l.length := by simpa using hj
 rw [nth_eq]
 simp only [List.getD_eq_getElem?_getD, List.getElem?_map, List.getElem?_eq_getElem hj', Option.map_some, Option.getD_some]
 exact h.ev _
omit hT h in
theorem ArgsRel.append {p q : List AV} {x y : List Value} (hp : ArgsRel T w g p x) (hq : ArgsRel T w g q y) : ArgsRel T w g (p ++ q) (x ++ y) := by
 obtain ⟨h1, h2⟩ := hp
 obtain ⟨h3, h4⟩ := hq
 refine ⟨by simp [h1, h3], fun j hj => ?_⟩
 rw [nth_eq]
 by_cases hlt : j < p.length
 · have := h2 j hlt
   rw [nth_eq] at this
   simp only [List.getD_eq_getElem?_getD] at this ⊢
   rwa [List.getElem?_append_left hlt, List.getElem?_append_left (by omega)]
 · have := h4 (j - p.length) (by simp at hj; omega)
   rw [nth_eq] at this
   simp only [List.getD_eq_getElem?_getD] at this ⊢
   rwa [List.getElem?_append_right (by omega), List.getElem?_append_right (by omega), h1]
theorem xop_sound (N : Nat) (o : Oper) {Pa K : AV → St → Prop} (hx : xop (pAlg P T N) T env S o.op Pa K) (next : Act → World → Prop) (Q : Exit → Act → World → Prop)
  (hK : ∀ v S' x g' w', K v S' → Inv T C g' env S' a w' → Rep T w' g' v x → next (a.put o.dst x) w')
  (hP : ∀ v S' x g' w', Pa v S' → Inv T C g' env S' a w' → Rep T w' g' v x → Q (.panic [{ v := x, recovered := false }]) a w') :
  o.wp P a w next Q := by
 have hs := xpure_sound hT h o
 unfold xop at hx
 unfold Oper.wp
 split at hx
 · rename_i v hp
   rw [hp] at hs
   obtain ⟨x, w', g', hr, hg, hv⟩ := hs
   rw [hr]
   exact hK v S x g' w' hx (h.grow hg) hv
 · rename_i b v hp
   rw [hp] at hs
   obtain ⟨x, w', g', hr, hg, hv⟩ := hs hx.1
   rw [hr]
   exact hK v S x g' w' hx.2 (h.grow hg) hv
 · rename_i row hp
   rw [hp] at hs
   obtain ⟨c, t, hr, hs, h1, hR⟩ := hs
   rw [hr]
   obtain ⟨g', hI, hk, hv⟩ := h.new (t := t) hs h1 hR
   exact hK _ _ _ g' _ hx hI hv
 · rename_i e cs hp
   rw [hp] at hs
   obtain ⟨ys, hr, hsz, ⟨hpos, hmax⟩, hys, h1, hf, hR⟩ := hs
   rw [hr]
   rw [hT.X] at hx
   have hva : g.α S.next = none := by
    cases hq : g.α S.next with
    | none => rfl
    | some tk => exact absurd (h.rel.vec.ok _ _ hq).1 (Nat.lt_irrefl _)
   have hρ : g.ρ S.next = none := by
    cases hq : g.ρ S.next with
    | none => rfl
    | some b => exact absurd (h.rel.dom _ _ hq) (Nat.lt_irrefl _)
   obtain ⟨g', hI, hv, _⟩ := vec_new hT h (e := e) (cs := cs) (L := ys.toList) ⟨by simpa using hys, h1, hf, hR⟩ hpos hsz #[] (by simp) cs.length (Nat.le_refl _) hmax (by simpa using hys) (o := S.next) (v := 0) (S' := S.push [.mrow e 0 false cs])
     (fun tk q => by rw [hva] at q; cases q) (Nat.lt_succ_self _) (Nat.le_succ _) hρ (by rw [row_push, if_pos rfl]) (fun p _ hp => by rw [row_push, if_neg (by omega)]) rfl (.inr (Nat.le_refl _)) (.inr rfl)
   have e1 : (ys.toList.toArray ++ #[]) = ys := by simp
   rw [e1] at hI hv
   exact hK _ _ _ g' _ hx hI hv
 · cases ho : o.op with
   | store t x v =>
    obtain ⟨S', w', hk, hr, hI⟩ := sound_store hT h N o t x v ho hx
    rw [hr]
    exact hK _ _ _ g w' hk hI (.undef _ _)
   | panic x =>
    rw [ho] at hx
    simp only [xeff] at hx
    split at hx
    · rename_i t v hp
      have hv := h.ev x
      rw [hp] at hv
      generalize hxx : a.eval x = u at hv
      have : ∃ t' u', u = .iface t' u' := by cases hv; exact ⟨_, _, rfl⟩
      obtain ⟨t', u', rfl⟩ := this
      have hr : (execOp a.eval o).run P w = .halt (.panic (.iface t' u')) w := by
       simp [execOp, ho, hxx, Instr.panic, goPanic]
      rw [hr]
      exact hP _ _ _ g w hx h hv
    · exact hx.elim
   | call c =>
    cases hcal : c.callee with
    | builtin bi =>
     by_cases hb : bi = .append
     · subst hb
       by_cases hms : ∀ x y, c.args.toList = [x, y] → msfOf (AM.ev T env x) = none
       · obtain ⟨v, S', x', w', g', hk, hr, hI, hv⟩ := sound_append hT h N o c ho hcal hms hx
         rw [hr]
         exact hK v S' x' g' w' hk hI hv
       · rw [ho] at hx
         simp only [xeff, hcal] at hx
         split at hx
         · rename_i x y t u hargs htys
           cases hq : msfOf (AM.ev T env x) with
           | none =>
            exfalso
            apply hms
            intro x' y' hxy
            rw [hargs] at hxy
            simp only [List.cons.injEq, and_true] at hxy
            rw [← hxy.1]; exact hq
           | some q =>
            obtain ⟨e, ob, vv, i, n, cc⟩ := q
            rw [hq] at hx
            dsimp only at hx
            obtain ⟨v, S', x', w', g', hk, hr, hI, hv⟩ := sound_xappF (u := u) (oty := o.type) hT h N hq hx
            have h1 : c.args = #[x, y] := by rw [← Array.toArray_toList (xs := c.args), hargs]
            have h2 : c.argTypes = #[t, u] := by rw [← Array.toArray_toList (xs := c.argTypes), htys]
            have hrun : (execOp a.eval o).run P w = .ok (.value x') w' := by
             simp [execOp, ho, resolve, hcal, invoke, builtin, h1, h2, hr]
            rw [hrun]
            exact hK v S' x' g' w' hk hI hv
         · exact hx.elim
     · by_cases hb2 : bi = .copy
       · subst hb2
         rw [ho] at hx
         simp only [xeff, hcal] at hx
         split at hx
         · rename_i x y t u hargs htys
           split at hx
           · rename_i htu
             have htu' : t = u := Nat.eq_of_beq_eq_true htu
             subst htu'
             cases hq : rowOf (AM.ev T env x) with
             | none => rw [hq] at hx; exact hx.elim
             | some q =>
              obtain ⟨e, ob, vv, i, n⟩ := q
              rw [hq] at hx
              dsimp only at hx
              obtain ⟨v, S', x', w', hk, hr, hI, hv⟩ := sound_xcopy (oty := o.type) hT h N hq hx
              have h1 : c.args = #[x, y] := by rw [← Array.toArray_toList (xs := c.args), hargs]
              have h2 : c.argTypes = #[t, t] := by rw [← Array.toArray_toList (xs := c.argTypes), htys]
              have hrun : (execOp a.eval o).run P w = .ok (.value x') w' := by
               simp [execOp, ho, resolve, hcal, invoke, builtin, h1, h2, hr]
              rw [hrun]
              exact hK v S' x' g w' hk hI hv
           · exact hx.elim
         · exact hx.elim
       · by_cases hb3 : bi = .clear
         · subst hb3
           rw [ho] at hx
           simp only [xeff, hcal] at hx
           split at hx
           · rename_i x t hargs htys
             cases hq : rowOf (AM.ev T env x) with
             | none => rw [hq] at hx; exact hx.elim
             | some q =>
              obtain ⟨e, ob, vv, i, n⟩ := q
              rw [hq] at hx
              dsimp only at hx
              obtain ⟨v, S', x', w', hk, hr, hI, hv⟩ := sound_xclear (oty := o.type) hT h N hq hx
              have h1 : c.args = #[x] := by rw [← Array.toArray_toList (xs := c.args), hargs]
              have h2 : c.argTypes = #[t] := by rw [← Array.toArray_toList (xs := c.argTypes), htys]
              have hrun : (execOp a.eval o).run P w = .ok (.value x') w' := by
               simp [execOp, ho, resolve, hcal, invoke, builtin, h1, h2, hr]
              rw [hrun]
              exact hK v S' x' g w' hk hI hv
           · exact hx.elim
         · rw [ho] at hx
           simp only [xeff, hcal] at hx
           cases bi <;> first | exact absurd rfl hb | exact absurd rfl hb2 | exact absurd rfl hb3 | exact hx.elim
    | value f =>
     rw [ho] at hx
     simp only [xeff, hcal] at hx
     split at hx
     · rename_i fid p q hp
       have hv := h.ev f
       rw [hp] at hv
       generalize hxx : a.eval f = u at hv
       cases hv with
       | func _ _ _ _ fs cs h1 h2 hf hc =>
        have hargs : ArgsRel T w g (p ++ (evs T env c.args.toList ++ q)) (fs ++ (c.args.toList.map a.eval ++ cs)) :=
         ArgsRel.append ⟨h1, hf⟩ (ArgsRel.append (args_rel hT h _) ⟨h2, hc⟩)
        have hrun : (execOp a.eval o).run P w = (callFunc fid (fs ++ (c.args.toList.map a.eval ++ cs)).toArray).run P w := by
         have he : (fs.toArray ++ c.args.map a.eval ++ cs.toArray) = (fs ++ (c.args.toList.map a.eval ++ cs)).toArray := by
          apply Array.ext'
          simp
         simp [execOp, ho, resolve, hcal, hxx, Deferred.ofValue, invoke, ← he]
        rw [hrun]
        have hpost : ∀ x w', callPost T g S w (fun o S' => match o with | .ret v => K v S' | .panic v => Pa v S') (.returned x) w' → next (a.put o.dst x) w' := by
         rintro x w' ⟨out, S', g', hk, hor, hr, he, hb, nm, nx, vn⟩
         cases out with
         | ret v => exact hK v S' x g' w' hk (ext_of_call hT h hr he hb nm nx vn) hor
         | panic v => exact hor.elim
        rcases hx g w _ h.rel (fun gl t e => h.glob gl t e) hargs with ⟨hent, hcalls⟩ | ⟨x, w', hr, hp⟩
        · rw [hent]
          refine Calls.mono hcalls ?_
          intro e w' hp
          cases e with
          | returned x => exact hpost x w' hp
          | panicked chain =>
           obtain ⟨out, S', g', hk, hor, hr, he, hb, nm, nx, vn⟩ := hp
           cases out with
           | ret v => exact hor.elim
           | panic v =>
            obtain ⟨x, rfl, hv⟩ := hor
            exact hP v S' x g' w' hk (ext_of_call hT h hr he hb nm nx vn) hv
          | outgrown =>
           obtain ⟨out, S', g', hk, hor, hr, he, hb, nm, nx⟩ := hp
           cases out <;> exact hor.elim
        · rw [hr]
          exact hpost x w' hp
     · exact hx.elim
    | invoke r n =>
     rw [ho] at hx
     simp only [xeff, hcal] at hx
     exact hx.elim
   | _ => rw [ho] at hx; exact hx.elim
end
end Go.AM
