/- Insert of one element into a slice, among any objects. -/
import Derived.Test.YtodfopcgficmlaaNlTab
set_option maxRecDepth 100000
set_option linter.unusedVariables false
set_option linter.unusedSimpArgs false
set_option linter.unusedSectionVars false
namespace Go.AM
open Go.Proofs
theorem setIn_set : ∀ (l : List (Nat × List AV)) (o : Nat) (a b : List AV), setIn (setIn l o a) o b = setIn l o b
 | [], _, _, _ => rfl
 | (k, r) :: l, o, a, b => by
  simp only [setIn]
  cases hq : Nat.beq k o with
  | true => simp only [setIn, hq]
  | false => simp only [setIn, hq]; rw [setIn_set l]
theorem set_set (S : St) (o : Nat) (a b : List AV) : (S.set o a).set o b = S.set o b := by
 unfold St.set
 simp only [setIn_set]
theorem beq_no {a b : Nat} (h : a ≠ b) : Nat.beq a b = false := by
 cases hq : Nat.beq a b with
 | false => rfl
 | true => exact absurd (Nat.eq_of_beq_eq_true hq) h
theorem push_set {S : St} {o : Nat} {r a : List AV} (h : S.next ≠ o) : (S.push r).set o a = (S.set o a).push r := by
 unfold St.push St.set
 simp only [setIn, beq_no h]
theorem push_set_new {S : St} {r a : List AV} : (S.push r).set S.next a = S.push a := by
 unfold St.push St.set
 simp only [setIn, Nat.beq_refl]
def Flt (a : AV) : Prop := ∀ f h, a.ren f h = a
theorem Flt.list {l : List AV} (hl : ∀ a, a ∈ l → Flt a) (f h : Nat → Option Nat) : renL f h l = l := by
 induction l with
 | nil => rfl
 | cons a l ih =>
  simp only [renL]
  rw [hl a (by simp) f h, ih fun a ha => hl a (by simp [ha])]
mutual
def flatB : AV → Bool
 | .int .. => true
 | .bool _ => true
 | .str _ => true
 | .nilp => true
 | .undef => true
 | .agg l => flatBs l
 | _ => false
def flatBs : List AV → Bool
 | [] => true
 | a :: l => flatB a && flatBs l
end
mutual
theorem flatB_flt : ∀ (a : AV), flatB a = true → Flt a
 | .int _ _, _ => fun _ _ => rfl
 | .bool _, _ => fun _ _ => rfl
 | .str _, _ => fun _ _ => rfl
 | .nilp, _ => fun _ _ => rfl
 | .undef, _ => fun _ _ => rfl
 | .agg l, h => fun f k => by
  simp only [flatB] at h
  simp only [AV.ren]
  rw [flatBs_ren l h f k]
 | .ptr .., h => by simp [flatB] at h
 | .eptr .., h => by simp [flatB] at h
 | .slice .., h => by simp [flatB] at h
 | .func .., h => by simp [flatB] at h
 | .iface .., h => by simp [flatB] at h
 | .tup .., h => by simp [flatB] at h
 | .msl .., h => by simp [flatB] at h
 | .msf .., h => by simp [flatB] at h
 | .mpt .., h => by simp [flatB] at h
 | .mrow .., h => by simp [flatB] at h
 | .anyInt .., h => by simp [flatB] at h
 | .nilf, h => by simp [flatB] at h
 | .nili, h => by simp [flatB] at h
 | .tnil .., h => by simp [flatB] at h
theorem flatBs_ren : ∀ (l : List AV), flatBs l = true → ∀ f h, renL f h l = l
 | [], _, _, _ => rfl
 | b :: l, h, f, k => by
  simp only [flatBs, Bool.and_eq_true] at h
  simp only [renL]
  rw [flatB_flt b h.1 f k, flatBs_ren l h.2 f k]
end
theorem flatBs_mem : ∀ (l : List AV), flatBs l = true → ∀ a, a ∈ l → Flt a
 | [], _, a, h => by cases h
 | b :: l, h, a, ha => by
  simp only [flatBs, Bool.and_eq_true] at h
  rcases List.mem_cons.1 ha with e | ha
  · rw [e]; exact flatB_flt _ h.1
  · exact flatBs_mem l h.2 a ha
def InsFull (P : Program) (T : Tab) (fid e : Nat) : Prop :=
 ∀ (v v2 : Nat) (full : List AV) (x : AV) (n z c : Int) (N i k : Nat), n = N → z = i → c = (N : Int) + k → i ≤ N → N ≤ 100000000000 → N + k ≤ 9223372036854775807 → full.length = N + k → ∀ K0 : Out → St → Prop,
  (1 ≤ k → K0 (.ret (.msf e 0 v 0 (n + 1) c)) ⟨[(1, [.mrow e v2 false [x]]), (0, [.mrow e v true (full.take i ++ x :: ((full.take N).drop i ++ full.drop (N + 1)))])], 2, []⟩) →
  (k = 0 → K0 (.ret (.msl e 2 0 0 (n + 1))) ⟨[(2, [.mrow e 0 false (full.take i ++ x :: (full.take N).drop i)]), (1, [.mrow e v2 false [x]]), (0, [.mrow e v true full])], 3, []⟩) →
  CallP P T fid [.msf e 0 v 0 n c, .int .i64 z, .msl e 1 v2 0 1] ⟨[(1, [.mrow e v2 false [x]]), (0, [.mrow e v true full])], 2, []⟩ K0
def fw2 (o o2 : Nat) : Nat → Option Nat := fun p => if p = o then some 0 else if p = o2 then some 1 else none
def bw2 (o o2 : Nat) : Nat → Option Nat
 | 0 => some o
 | 1 => some o2
 | _ => none
def nw : Nat → Option Nat := fun _ => none
theorem inv2 {o o2 : Nat} (hne : o ≠ o2) (p i : Nat) : fw2 o o2 p = some i ↔ bw2 o o2 i = some p := by
 unfold fw2
 constructor
 · intro h
   split at h
   · rename_i hp; cases h; subst hp; rfl
   · split at h
     · rename_i hp; cases h; subst hp; rfl
     · cases h
 · intro h
   match i, h with
   | 0, h => cases h; simp
   | 1, h => cases h; simp [Ne.symm hne]
theorem unk_flt (T : Tab) (e : TypeId) : Flt (unk T e) := by
 unfold unk
 cases T.agg e with
 | false => exact fun _ _ => rfl
 | true =>
  intro f h
  simp only [AV.ren]
  rw [Flt.list (l := List.replicate (T.size e) .undef)]
  intro a ha
  have := (List.mem_replicate.1 ha).2
  rw [this]
  exact fun _ _ => rfl
theorem back_new2 {fi : Nat → Option Nat} {big small n i o : Nat} (h : small ≤ i) : back fi big small n i = some o ↔ i < small + n ∧ o = big + (i - small) :=
 back_new (S := ⟨[], big, []⟩) (S0 := ⟨[], small, []⟩) h
theorem insert_any {P : Program} {T : Tab} {fid e : Nat} (hI : InsFull P T fid e) (hh : T.has e = true) {S : St} {o v o2 v2 : Nat} {n z : Int} {cs : List AV} {x : AV} {K : Out → St → Prop}
  (hv : S.vec e o v = some (false, cs)) (hv2 : S.vec e o2 v2 = some (false, [x])) (hne : o ≠ o2) (hn : n = cs.length) (hz : 0 ≤ z) (hzn : z ≤ n) (hN : n ≤ 100000000000)
  (hcs : ∀ a, a ∈ cs → Flt a) (hx : Flt x)
  (hk : K (.ret (.msl e o (v + 1) 0 (n + 1))) ((S.set o [.mrow e (v + 1) false (cs.take z.toNat ++ x :: cs.drop z.toNat)]).push [.undef])) :
  CallP P T fid [.msl e o v 0 n, .int .i64 z, .msl e o2 v2 0 1] S K := by
 have hlo := vec_lt hv
 have hlo2 := vec_lt hv2
 refine CallP.hide (e := e) (o := o) (v := v) ?_ ?_
 · intro g w vs r hargs
   have h0 := hargs.2 0 (by simp)
   have hv0 : nth [AV.msl e o v 0 n, .int .i64 z, .msl e o2 v2 0 1] 0 = .msl e o v 0 n := rfl
   rw [hv0] at h0
   generalize hu : vs.getD 0 undef = u at h0
   cases h0 with
   | msl _ _ _ _ _ _ ad cap tk hα => rw [hα]; simp
 refine CallP.reveal hh hv fun k hk1 hk2 hk3 => ?_
 let full := cs ++ List.replicate k (unk T e)
 have hfull : ∀ a, a ∈ full → Flt a := by
  intro a ha
  rcases List.mem_append.1 ha with ha | ha
  · exact hcs a ha
  · rw [(List.mem_replicate.1 ha).2]; exact unk_flt T e
 have hr0 := vec_row hv
 have hr2 := vec_row hv2
 have hro : S.row o ≠ [] := by rw [hr0]; simp
 let S1 := S.set o [.mrow e v true full]
 have hrow1 : ∀ p, S1.row p = if o = p then [.mrow e v true full] else S.row p := fun p => rowIn_set _ _ _ _ hro
 have hS1o : S1.row o = [.mrow e v true full] := by rw [hrow1, if_pos rfl]
 have hS1o2 : S1.row o2 = [.mrow e v2 false [x]] := by rw [hrow1, if_neg hne]; exact hr2
 have V : View (fw2 o o2) (bw2 o o2) nw nw S1 ⟨[(1, [.mrow e v2 false [x]]), (0, [.mrow e v true full])], 2, []⟩ := by
  refine ⟨inv2 hne, fun _ _ => ⟨fun h => (by cases h), fun h => (by cases h)⟩, fun p i h => ?_, fun p i h => ?_, fun _ _ h => (by cases h)⟩
  · unfold fw2 at h
    split at h
    · rename_i hp; cases h; subst hp; exact ⟨hlo, (show 0 < 2 by decide)⟩
    · split at h
      · rename_i hp; cases h; subst hp; exact ⟨hlo2, (show 1 < 2 by decide)⟩
      · cases h
  · unfold fw2 at h
    split at h
    · rename_i hp; cases h; subst hp
      rw [hS1o]
      show [AV.mrow e v true full] = _
      simp only [renL, AV.ren, Flt.list hfull]
    · split at h
      · rename_i hp; cases h; subst hp
        rw [hS1o2]
        show [AV.mrow e v2 false [x]] = _
        simp only [renL, AV.ren, hx _ _]
      · cases h
 refine frame (S0 := ⟨[(1, [.mrow e v2 false [x]]), (0, [.mrow e v true full])], 2, []⟩) (args0 := [.msf e 0 v 0 n ((cs.length + k : Nat) : Int), .int .i64 z, .msl e 1 v2 0 1])
  (K0 := fun out0 S0' => ∃ n' S', Lift (fw2 o o2) (bw2 o o2) nw nw S1 ⟨[(1, [.mrow e v2 false [x]]), (0, [.mrow e v true full])], 2, []⟩ S0' S' n' ∧ HideK e o v K (out0.ren (back (bw2 o o2) S1.next 2 n') nw) S') V ?_ ?_ (fun _ _ h => h)
 · simp [renL, AV.ren, fw2, Ne.symm hne]
 · have hzl : z.toNat ≤ cs.length := by omega
   have htk : full.take cs.length = cs := List.take_left
   have hti : full.take z.toNat = cs.take z.toNat := by
    show (cs ++ _).take z.toNat = _
    rw [List.take_append_of_le_length hzl]
   have hR : ∀ a, a ∈ cs.take z.toNat ++ x :: (cs.drop z.toNat) → Flt a := by
    intro a ha
    rcases List.mem_append.1 ha with ha | ha
    · exact hcs a (List.mem_of_mem_take ha)
    · rcases List.mem_cons.1 ha with rfl | ha
      · exact hx
      · exact hcs a (List.mem_of_mem_drop ha)
   have hRl : (cs.take z.toNat ++ x :: cs.drop z.toNat).length = cs.length + 1 := by simp; omega
   refine hI v v2 full x n z _ cs.length z.toNat k hn (by omega) (by omega) hzl (by omega) (by unfold maxLen at hk1; omega) (by simp [full]) _ ?_ ?_
   · intro hkp
     rw [htk, hti]
     let R := cs.take z.toNat ++ x :: (cs.drop z.toNat ++ full.drop (cs.length + 1))
     have hRR : ∀ a, a ∈ R → Flt a := by
      intro a ha
      rcases List.mem_append.1 ha with ha | ha
      · exact hcs a (List.mem_of_mem_take ha)
      · rcases List.mem_cons.1 ha with rfl | ha
        · exact hx
        · rcases List.mem_append.1 ha with ha | ha
          · exact hcs a (List.mem_of_mem_drop ha)
          · exact hfull a (List.mem_of_mem_drop ha)
     have hRt : R.take (n + 1).toNat = cs.take z.toNat ++ x :: cs.drop z.toNat := by
      have e1 : R = (cs.take z.toNat ++ x :: cs.drop z.toNat) ++ full.drop (cs.length + 1) := by simp [R]
      rw [e1]
      have e2 : (n + 1).toNat = (cs.take z.toNat ++ x :: cs.drop z.toNat).length := by rw [hRl]; omega
      rw [e2, List.take_left]
     have hb : back (bw2 o o2) S1.next 2 0 0 = some o := rfl
     have hbk : ∀ i p, back (bw2 o o2) S1.next 2 0 i = some p → (i = 0 ∧ p = o) ∨ (i = 1 ∧ p = o2) := by
      intro i p h
      match i, h with
      | 0, h => have : some o = some p := h; cases this; exact .inl ⟨rfl, rfl⟩
      | 1, h => have : some o2 = some p := h; cases this; exact .inr ⟨rfl, rfl⟩
      | i + 2, h =>
       have := (back_new2 (fi := bw2 o o2) (big := S1.next) (small := 2) (n := 0) (show 2 ≤ i + 2 by omega)).1 h
       omega
     refine ⟨0, S.set o [.mrow e v true R], ⟨Nat.le_refl _, rfl, fun p _ hp => ?_, fun i p h => ?_, rfl, fun _ => rfl⟩, .inl ⟨n + 1, ((cs.length + k : Nat) : Int), R, ?_, ?_, ?_⟩⟩
     · have hpo : o ≠ p := by rintro rfl; simp [fw2] at hp
       rw [hrow1, if_neg hpo]
       exact (rowIn_set _ _ _ _ hro).trans (if_neg hpo)
     · rcases hbk i p h with ⟨rfl, rfl⟩ | ⟨rfl, rfl⟩
       · refine ((rowIn_set _ _ _ _ hro).trans (if_pos rfl)).trans ?_
         show _ = renL _ _ [AV.mrow e v true R]
         simp only [renL, AV.ren, Flt.list hRR]
       · refine ((rowIn_set _ _ _ _ hro).trans (if_neg hne)).trans ?_
         rw [show rowIn S.objs p = S.row p from rfl, hr2]
         show _ = renL _ _ [AV.mrow e v2 false [x]]
         simp only [renL, AV.ren, hx _ _]
     · show Out.ret (AV.ren _ _ (.msf e 0 v 0 (n + 1) _)) = _
       simp only [AV.ren, hb]
     · have : (S.set o [.mrow e v true R]).row o = [.mrow e v true R] := (rowIn_set _ _ _ _ hro).trans (if_pos rfl)
       unfold St.vec
       rw [this]
       have hl : Nat.ble (o + 1) (S.set o [.mrow e v true R]).next = true := Nat.ble_eq_true_of_le hlo
       rw [hl]
       simp [Nat.beq_refl]
     · rw [set_set, hRt]
       exact hk
   · intro hk0
     rw [htk, hti]
     let R := cs.take z.toNat ++ x :: cs.drop z.toNat
     have hRt : R.take (n + 1).toNat = R := by
      have e2 : (n + 1).toNat = R.length := by rw [hRl]; omega
      rw [e2, List.take_length]
     have hb : back (bw2 o o2) S1.next 2 1 2 = some S1.next := (back_new2 (by omega)).2 ⟨by omega, by omega⟩
     have hbk : ∀ i p, back (bw2 o o2) S1.next 2 1 i = some p → (i = 0 ∧ p = o) ∨ (i = 1 ∧ p = o2) ∨ (i = 2 ∧ p = S1.next) := by
      intro i p h
      match i, h with
      | 0, h => have : some o = some p := h; cases this; exact .inl ⟨rfl, rfl⟩
      | 1, h => have : some o2 = some p := h; cases this; exact .inr (.inl ⟨rfl, rfl⟩)
      | i + 2, h =>
       have := (back_new2 (fi := bw2 o o2) (big := S1.next) (small := 2) (n := 1) (show 2 ≤ i + 2 by omega)).1 h
       refine .inr (.inr ⟨by omega, by omega⟩)
     have hnx : S1.next = S.next := rfl
     refine ⟨1, S1.push [.mrow e 0 false R], ⟨Nat.le_refl _, rfl, fun p hp1 hp => ?_, fun i p h => ?_, rfl, fun _ => rfl⟩, .inr ⟨S1.next, 0, n + 1, true, false, full, R, ?_, ?_, ?_, ?_, ?_⟩⟩
     · rw [row_push, if_neg (by omega)]
     · rcases hbk i p h with ⟨rfl, rfl⟩ | ⟨rfl, rfl⟩ | ⟨rfl, rfl⟩
       · rw [row_push, if_neg (by omega), hS1o]
         show _ = renL _ _ [AV.mrow e v true full]
         simp only [renL, AV.ren, Flt.list hfull]
       · rw [row_push, if_neg (by omega), hS1o2]
         show _ = renL _ _ [AV.mrow e v2 false [x]]
         simp only [renL, AV.ren, hx _ _]
       · rw [row_push, if_pos rfl]
         show _ = renL _ _ [AV.mrow e 0 false R]
         simp only [renL, AV.ren, Flt.list hR, R]
     · omega
     · show Out.ret (AV.ren _ _ (.msl e 2 0 0 (n + 1))) = _
       simp only [AV.ren, hb]
     · have : (S1.push [.mrow e 0 false R]).row o = [.mrow e v true full] := by rw [row_push, if_neg (by omega)]; exact hS1o
       unfold St.vec
       rw [this]
       have hl : Nat.ble (o + 1) (S1.push [.mrow e 0 false R]).next = true := Nat.ble_eq_true_of_le (Nat.le_succ_of_le hlo)
       rw [hl]
       simp [Nat.beq_refl]
     · have : (S1.push [.mrow e 0 false R]).row S1.next = [.mrow e 0 false R] := by rw [row_push, if_pos rfl]
       unfold St.vec
       rw [this]
       have hl : Nat.ble (S1.next + 1) (S1.push [.mrow e 0 false R]).next = true := Nat.ble_eq_true_of_le (Nat.le_refl _)
       rw [hl]
       simp [Nat.beq_refl]
     · rw [hRt, push_set (by omega), show S1.set o _ = _ from set_set _ _ _ _]
       have : (S.set o [.mrow e (v + 1) false R]).next = S1.next := rfl
       rw [← this, push_set_new]
       exact hk
end Go.AM
