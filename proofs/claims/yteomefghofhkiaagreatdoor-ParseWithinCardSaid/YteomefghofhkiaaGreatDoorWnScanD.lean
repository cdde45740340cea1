/- The scanner in plain words: of what is left, and of texts one behind the other. -/
import Derived.Test.YteomefghofhkiaaGreatDoorWnScanC
set_option maxRecDepth 100000
set_option linter.unusedVariables false
namespace Go.AM
open Go.Proofs
theorem drop_getD (s : List UInt8) (i : Nat) (h : i < s.length) : s.drop i = s.getD i 0 :: s.drop (i + 1) := by
 rw [List.drop_eq_getElem_cons h]; simp [List.getD_eq_getElem?_getD, h]
theorem scan_stop (q : UInt8 → Bool) (s : List UInt8) (i : Nat) (h : i < s.length) (hq : q (s.getD i 0) = false) : scan q s i = i := by
 unfold scan; rw [drop_getD s i h, List.takeWhile_cons, hq]; simp
theorem scan_end (q : UInt8 → Bool) (s : List UInt8) (i : Nat) (h : s.length ≤ i) : scan q s i = i := by
 unfold scan; rw [List.drop_eq_nil_of_le h]; simp
theorem scan_step (q : UInt8 → Bool) (s : List UInt8) (i : Nat) (h : i < s.length) (hq : q (s.getD i 0) = true) : scan q s i = scan q s (i + 1) := by
 unfold scan; rw [drop_getD s i h, List.takeWhile_cons, hq]; simp; omega
theorem scan_at (q : UInt8 → Bool) (s : List UInt8) : ∀ (n i : Nat), i + n = s.length → scan q s i < s.length → q (s.getD (scan q s i) 0) = false := by
 intro n
 induction n with
 | zero => intro i hi h; rw [scan_end q s i (by omega)] at h; omega
 | succ n ih =>
  intro i hi h
  have hlt : i < s.length := by omega
  cases hq : q (s.getD i 0) with
  | false => rw [scan_stop q s i hlt hq]; exact hq
  | true => rw [scan_step q s i hlt hq] at h ⊢; exact ih (i + 1) (by omega) h
theorem refTxt_run (s : List UInt8) (n : Nat) : ∀ (i m : Nat) (b : List UInt8) (ok : Bool), i + n = s.length → refTxt s (m + ((s.drop i).takeWhile notQ).length) i b ok =
  refTxt s m (scan notQ s i) (b ++ (s.drop i).takeWhile notQ) (ok && ((s.drop i).takeWhile notQ).all goodB) := by
 induction n with
 | zero =>
  intro i m b ok hi
  rw [scan_end notQ s i (by omega), List.drop_eq_nil_of_le (by omega)]
  simp
 | succ n ih =>
  intro i m b ok hi
  have hlt : i < s.length := by omega
  cases hq : notQ (s.getD i 0) with
  | false =>
   rw [scan_stop notQ s i hlt hq, drop_getD s i hlt, List.takeWhile_cons, hq]
   simp
  | true =>
   rw [scan_step notQ s i hlt hq, drop_getD s i hlt, List.takeWhile_cons, hq]
   simp only [if_true, List.length_cons, List.all_cons]
   have h39 : (s.getD i 0 == 39) = false := by simpa [notQ, bne] using hq
   rw [← Nat.add_assoc]
   rw [refTxt, decide_eq_true hlt, h39]
   simp only
   rw [ih (i + 1) m _ _ (by omega)]
   simp [Bool.and_assoc]
def up : List UInt8 × Bool × Nat → List UInt8 × Bool × Nat := fun r => (r.1, r.2.1, r.2.2 + 1)
theorem txt_ref (s : List UInt8) (n : Nat) : ∀ (i m : Nat) (b : List UInt8) (ok : Bool), i ≤ s.length → s.length - i < n → s.length - i < m → txtN s n i b ok = (refTxt s m i b ok).map up := by
 induction n with
 | zero => intro i m b ok hi hn; omega
 | succ n ih =>
  intro i m b ok hi hn hm
  have hjb := scan_le notQ s i hi
  have hjp : scan notQ s i = i + ((s.drop i).takeWhile notQ).length := rfl
  obtain ⟨m', hm'⟩ : ∃ m', m = m' + 1 + ((s.drop i).takeWhile notQ).length := ⟨m - 1 - ((s.drop i).takeWhile notQ).length, by omega⟩
  rw [hm', refTxt_run s (s.length - i) i (m' + 1) b ok (by omega)]
  unfold txtN
  rw [refTxt]
  generalize hpart : (s.drop i).takeWhile notQ = part at *
  generalize hj : scan notQ s i = j at *
  by_cases hend : j = s.length
  · have e : decide (j < s.length) = false := decide_eq_false (by omega)
    rw [decide_eq_true hend, e]; rfl
  · have hlt : j < s.length := by omega
    rw [decide_eq_false hend, decide_eq_true hlt]
    have hq := scan_at notQ s (s.length - i) i (by omega) (by rw [hj]; exact hlt)
    rw [hj] at hq
    have h39 : (s.getD j 0 == 39) = true := by simpa [notQ, bne] using hq
    rw [h39]
    simp only
    have hc : (decide (j + 1 = s.length) || s.getD (j + 1) 0 != 39) = !(decide (j + 1 < s.length) && s.getD (j + 1) 0 == 39) := by
     by_cases h1 : j + 1 = s.length
     · rw [decide_eq_true h1, decide_eq_false (by omega)]; rfl
     · rw [decide_eq_false h1, decide_eq_true (by omega)]; simp [bne]
    rw [hc]
    cases hd : (decide (j + 1 < s.length) && s.getD (j + 1) 0 == 39) with
    | false => rfl
    | true =>
     have h2 : j + 1 < s.length := by simp only [Bool.and_eq_true, decide_eq_true_eq] at hd; exact hd.1
     exact ih (j + 2) m' _ _ (by omega) (by omega) (by omega)
theorem skipN_fuel (s : List UInt8) (n : Nat) : ∀ (m i : Nat), i ≤ s.length → s.length - i < n → s.length - i < m → skipN s n i = skipN s m i := by
 induction n with
 | zero => intro m i hi hn; omega
 | succ n ih =>
  intro m i hi hn hm
  obtain ⟨m', rfl⟩ : ∃ m', m = m' + 1 := ⟨m - 1, by omega⟩
  unfold skipN
  have h1 := scan_le isBlank s i hi
  cases hp : [45, 45].isPrefixOf (s.drop (scan isBlank s i)) with
  | false => rfl
  | true =>
   have h2 := comment_on s _ hp
   have h3 := scan_le notEnd s (scan isBlank s i) h1.2
   exact ih m' _ h3.2 (by omega) (by omega)
theorem scanN_len (s : List UInt8) (n : Nat) : ∀ (p : Nat) (acc l : List Tk), acc.length ≤ 600 → scanN s n p acc = .inl l → l.length ≤ 600 := by
 induction n with
 | zero => intro p acc l _ h; cases h
 | succ n ih =>
  intro p acc l hacc h
  unfold scanN at h
  cases h1 : decide (p < s.length) with
  | false => rw [h1] at h; simp only [Sum.inl.injEq] at h; rw [← h]; exact hacc
  | true =>
   rw [h1] at h
   cases h2 : ((nextR s p).2.1 == sDone) with
   | false => rw [h2] at h; cases h
   | true =>
    rw [h2] at h
    cases h3 : decide (acc.length = 600) with
    | true => rw [h3] at h; cases h
    | false =>
     rw [h3] at h
     have := of_decide_eq_false h3
     exact ih _ _ l (by simp; omega) h
theorem lexScan_len (s : List UInt8) : (lexScan s).1.length ≤ 600 := by
 unfold lexScan
 cases decide (2000 < s.length) with
 | true => simp
 | false =>
  simp only
  cases h : scanN s (s.length + 1) (skipN s (s.length + 1) 0) [] with
  | inl l => exact scanN_len s _ _ _ l (by simp) h
  | inr st => simp
end Go.AM
namespace Go.AM
open Go.Proofs
def skip (s : List UInt8) (i : Nat) : Nat := skipN s (s.length + 1) i
theorem scan_drop (q : UInt8 → Bool) (s : List UInt8) (k i : Nat) : scan q s (k + i) = k + scan q (s.drop k) i := by
 unfold scan; rw [List.drop_drop]; omega
theorem skipN_drop (s : List UInt8) (k n : Nat) : ∀ i, skipN s n (k + i) = k + skipN (s.drop k) n i := by
 induction n with
 | zero => intro i; rfl
 | succ n ih =>
  intro i
  unfold skipN
  rw [scan_drop, List.drop_drop]
  cases [45, 45].isPrefixOf (s.drop (k + scan isBlank (s.drop k) i)) with
  | false => rfl
  | true =>
   simp only
   rw [scan_drop]
   exact ih _
theorem skip_drop (s : List UInt8) (k i : Nat) (h : k + i ≤ s.length) : skip s (k + i) = k + skip (s.drop k) i := by
 unfold skip
 have hi : i ≤ (s.drop k).length := by simp; omega
 rw [skipN_drop, skipN_fuel (s.drop k) (s.length + 1) ((s.drop k).length + 1) i hi (by simp; omega) (by omega)]
theorem skip_le (s : List UInt8) (i : Nat) (h : i ≤ s.length) : i ≤ skip s i ∧ skip s i ≤ s.length := skipN_le s _ i h
theorem getD_drop (s : List UInt8) (k i : Nat) : (s.drop k).getD i 0 = s.getD (k + i) 0 := by
 simp [List.getD_eq_getElem?_getD]
theorem txtN_drop (s : List UInt8) (k n : Nat) (hk : k ≤ s.length) : ∀ i b ok, txtN s n (k + i) b ok = (txtN (s.drop k) n i b ok).map fun r => (r.1, r.2.1, k + r.2.2) := by
 induction n with
 | zero => intro i b ok; rfl
 | succ n ih =>
  intro i b ok
  unfold txtN
  rw [scan_drop, List.drop_drop, getD_drop]
  have e1 : decide (k + scan notQ (s.drop k) i = s.length) = decide (scan notQ (s.drop k) i = (s.drop k).length) := by
   rw [Bool.eq_iff_iff]; simp; omega
  have e2 : decide (k + scan notQ (s.drop k) i + 1 = s.length) = decide (scan notQ (s.drop k) i + 1 = (s.drop k).length) := by
   rw [Bool.eq_iff_iff]; simp; omega
  rw [e1, e2, show k + (scan notQ (s.drop k) i + 1) = k + scan notQ (s.drop k) i + 1 by omega]
  cases decide (scan notQ (s.drop k) i = (s.drop k).length) with
  | true => rfl
  | false =>
   simp only
   cases (decide (scan notQ (s.drop k) i + 1 = (s.drop k).length) || s.getD (k + scan notQ (s.drop k) i + 1) 0 != 39) with
   | true => rfl
   | false =>
    simp only
    rw [show k + scan notQ (s.drop k) i + 2 = k + (scan notQ (s.drop k) i + 2) by omega]
    exact ih _ _ _
theorem txtN_fuel (s : List UInt8) (n m i : Nat) (b : List UInt8) (ok : Bool) (hi : i ≤ s.length) (hn : s.length - i < n) (hm : s.length - i < m) : txtN s n i b ok = txtN s m i b ok := by
 rw [txt_ref s n i (s.length + 1) b ok hi hn (by omega), txt_ref s m i (s.length + 1) b ok hi hm (by omega)]
def shiftTk (k : Nat) (t : Tk) : Tk := ⟨t.k, t.t, t.n, t.a + k⟩
def shiftR (k : Nat) (r : Tk × List UInt8 × Nat) : Tk × List UInt8 × Nat := (shiftTk k r.1, r.2.1, k + r.2.2)
theorem textR_drop (s : List UInt8) (k i : Nat) (h : k + i ≤ s.length) : textR s (k + i) = ((textR (s.drop k) i).1, (textR (s.drop k) i).2.1, k + (textR (s.drop k) i).2.2) := by
 unfold textR
 have hi : i ≤ (s.drop k).length := by simp; omega
 rw [txtN_drop s k _ (by omega), txtN_fuel (s.drop k) (s.length + 1) ((s.drop k).length + 1) i [] true hi (by simp; omega) (by omega)]
 cases txtN (s.drop k) ((s.drop k).length + 1) i [] true with
 | none => simp; omega
 | some r => rfl
theorem next_drop (s : List UInt8) (k i : Nat) (h : k + i < s.length) : nextR s (k + i) = shiftR k (nextR (s.drop k) i) := by
 unfold nextR
 rw [← getD_drop, ← List.drop_drop, scan_drop, scan_drop]
 cases isLetter ((s.drop k).getD i 0) with
 | true =>
  unfold wordR shiftR shiftTk
  simp only [Int.natCast_add]
  rw [Int.add_comm]
 | false =>
  simp only
  cases isDigit ((s.drop k).getD i 0) with
  | true =>
   simp only
   unfold numR
   have e1 : decide (k + scan isDigit (s.drop k) i < s.length) = decide (scan isDigit (s.drop k) i < (s.drop k).length) := by
    rw [Bool.eq_iff_iff]; simp; omega
   rw [e1, getD_drop]
   cases decide (numFold 0 (((s.drop k).drop i).takeWhile isDigit) < 9223372036854775808) with
   | false => unfold shiftR shiftTk; simp only [Int.natCast_add]; rw [Int.add_comm]
   | true => unfold shiftR shiftTk; simp only [Int.natCast_add]; rw [Int.add_comm]
  | false =>
   simp only
   cases ((s.drop k).getD i 0 == 39) with
   | true =>
    simp only
    rw [Nat.add_assoc, textR_drop s k (i + 1) (by omega)]
    unfold shiftR shiftTk; simp only [Int.natCast_add]; rw [Int.add_comm]
   | false =>
    simp only
    have e1 : signIn s (k + i) Pr.signs = signIn (s.drop k) i Pr.signs := by unfold signIn; rw [List.drop_drop]
    rw [e1]
    cases signIn (s.drop k) i Pr.signs with
    | none => unfold signR shiftR shiftTk; simp only [Int.natCast_add]; rw [Int.add_comm]
    | some x => unfold signR shiftR shiftTk; simp only [Int.natCast_add]; rw [Int.add_comm, Nat.add_assoc]
def runN (s : List UInt8) : Nat → Nat → Option (List Tk)
 | 0, _ => none
 | n + 1, p => match decide (p < s.length) with
  | false => some []
  | true => match (nextR s p).2.1 == sDone with
   | false => none
   | true => (runN s n (skip s (nextR s p).2.2)).map ((nextR s p).1 :: ·)
theorem runN_fuel (s : List UInt8) (n : Nat) : ∀ m p, p ≤ s.length → s.length - p < n → s.length - p < m → runN s n p = runN s m p := by
 induction n with
 | zero => intro m p hp hn; omega
 | succ n ih =>
  intro m p hp hn hm
  obtain ⟨m', rfl⟩ : ∃ m', m = m' + 1 := ⟨m - 1, by omega⟩
  unfold runN
  by_cases hlt : p < s.length
  · rw [decide_eq_true hlt]
    simp only
    cases hs : ((nextR s p).2.1 == sDone) with
    | false => rfl
    | true =>
     simp only
     have hl := next_le s p hlt (by simpa using hs)
     have hk := skip_le s (nextR s p).2.2 hl.2
     rw [ih m' _ hk.2 (by omega) (by omega)]
  · rw [decide_eq_false hlt]
def run (s : List UInt8) (p : Nat) : Option (List Tk) := runN s (s.length + 1) p
theorem run_step (s : List UInt8) (p : Nat) (h : p < s.length) : run s p = match (nextR s p).2.1 == sDone with
  | false => none
  | true => (run s (skip s (nextR s p).2.2)).map ((nextR s p).1 :: ·) := by
 unfold run
 conv => lhs; unfold runN
 rw [decide_eq_true h]
 simp only
 cases hs : ((nextR s p).2.1 == sDone) with
 | false => rfl
 | true =>
  have hl := next_le s p h (by simpa using hs)
  have hk := skip_le s (nextR s p).2.2 hl.2
  simp only
  rw [runN_fuel s s.length (s.length + 1) _ hk.2 (by omega) (by omega)]
theorem run_end (s : List UInt8) : run s s.length = some [] := by
 unfold run runN
 rw [decide_eq_false (by omega)]
theorem scan_run (s : List UInt8) (n : Nat) : ∀ (p : Nat) (acc : List Tk), p ≤ s.length → s.length - p < n → acc.length ≤ 600 →
  (∀ l, scanN s n p acc = .inl l ↔ ∃ l', run s p = some l' ∧ l = acc ++ l' ∧ l.length ≤ 600) ∧ (∀ st, scanN s n p acc = .inr st → st ≠ sDone) := by
 induction n with
 | zero => intro p acc hp hn; omega
 | succ n ih =>
  intro p acc hp hn hacc
  by_cases hlt : p < s.length
  · rw [run_step s p hlt, scanN, decide_eq_true hlt]
    simp only
    cases hs : ((nextR s p).2.1 == sDone) with
    | false =>
     simp only
     refine ⟨fun l => ⟨fun h => (by cases h), fun ⟨l', h, _⟩ => (by cases h)⟩, fun st h => ?_⟩
     simp only [Sum.inr.injEq] at h
     rw [← h]
     simpa using hs
    | true =>
     have hl := next_le s p hlt (by simpa using hs)
     have hk := skip_le s (nextR s p).2.2 hl.2
     simp only
     by_cases h6 : acc.length = 600
     · rw [decide_eq_true h6]
       refine ⟨fun l => ⟨fun h => (by cases h), ?_⟩, fun st h => ?_⟩
       · rintro ⟨l', h, he, hle⟩
         simp only [Option.map_eq_some_iff] at h
         obtain ⟨l2, _, rfl⟩ := h
         rw [he] at hle
         simp at hle
         omega
       · simp only [Sum.inr.injEq] at h
         rw [← h]
         decide
     · rw [decide_eq_false h6]
       simp only
       obtain ⟨h1, h2⟩ := ih (skip s (nextR s p).2.2) (acc ++ [(nextR s p).1]) hk.2 (by omega) (by simp; omega)
       refine ⟨fun l => ?_, h2⟩
       have := h1 l
       rw [show skipN s (s.length + 1) (nextR s p).2.2 = skip s (nextR s p).2.2 from rfl, this]
       constructor
       · rintro ⟨l', h, he, hle⟩
         exact ⟨_ :: l', by rw [h]; rfl, by rw [he]; simp, hle⟩
       · rintro ⟨l', h, he, hle⟩
         simp only [Option.map_eq_some_iff] at h
         obtain ⟨l2, h, rfl⟩ := h
         exact ⟨l2, h, by rw [he]; simp, hle⟩
  · have : p = s.length := by omega
    subst this
    rw [run_end, scanN, decide_eq_false hlt]
    refine ⟨fun l => ⟨fun h => ?_, ?_⟩, fun st h => (by cases h)⟩
    · simp only [Sum.inl.injEq] at h
      exact ⟨[], rfl, by rw [← h]; simp, by rw [← h]; exact hacc⟩
    · rintro ⟨l', h, he, hle⟩
      simp only [Option.some.injEq] at h
      subst h
      rw [he]; simp
theorem lexScan_done (s : List UInt8) : ((lexScan s).2 = sDone ↔ s.length ≤ 2000 ∧ ∃ l, run s (skip s 0) = some l ∧ l.length ≤ 600) ∧ ((lexScan s).2 = sDone → run s (skip s 0) = some (lexScan s).1) ∧ ((lexScan s).2 ≠ sDone → (lexScan s).1 = []) := by
 have hk := skip_le s 0 (Nat.zero_le _)
 obtain ⟨h1, h2⟩ := scan_run s (s.length + 1) (skip s 0) [] hk.2 (by omega) (by simp)
 unfold lexScan
 by_cases hb : 2000 < s.length
 · rw [decide_eq_true hb]
   refine ⟨⟨fun h => by simp [sLarge, sDone] at h, fun ⟨h, _⟩ => by omega⟩, fun h => by simp [sLarge, sDone] at h, fun _ => rfl⟩
 · rw [decide_eq_false hb]
   simp only
   rw [show skipN s (s.length + 1) 0 = skip s 0 from rfl]
   cases hq : scanN s (s.length + 1) (skip s 0) [] with
   | inl l =>
    obtain ⟨l', h3, h4, h5⟩ := (h1 l).1 hq
    simp only [List.nil_append] at h4
    subst h4
    exact ⟨⟨fun _ => ⟨by omega, l, h3, h5⟩, fun _ => rfl⟩, fun _ => h3, fun h => absurd rfl h⟩
   | inr st =>
    refine ⟨⟨fun h => absurd h (h2 st hq), ?_⟩, fun h => absurd h (h2 st hq), fun _ => rfl⟩
    rintro ⟨_, l, h3, h4⟩
    have := (h1 l).2 ⟨l, h3, rfl, h4⟩
    rw [hq] at this
    cases this
theorem run_drop (s : List UInt8) (k : Nat) (n : Nat) : ∀ i, k + i ≤ s.length → s.length - (k + i) < n → run s (k + i) = (run (s.drop k) i).map (·.map (shiftTk k)) := by
 induction n with
 | zero => intro i h hn; omega
 | succ n ih =>
  intro i h hn
  by_cases hlt : k + i < s.length
  · have hlt' : i < (s.drop k).length := by simp; omega
    rw [run_step s _ hlt, run_step _ i hlt', next_drop s k i hlt]
    simp only [shiftR]
    cases hs : ((nextR (s.drop k) i).2.1 == sDone) with
    | false => rfl
    | true =>
     have hl := next_le (s.drop k) i hlt' (by simpa using hs)
     have hl2 : k + (nextR (s.drop k) i).2.2 ≤ s.length := by have := hl.2; simp at this; omega
     have hk := skip_le (s.drop k) (nextR (s.drop k) i).2.2 hl.2
     have hk2 : (skip (s.drop k) (nextR (s.drop k) i).2.2) ≤ s.length - k := by have := hk.2; simpa using this
     simp only
     rw [skip_drop s k _ hl2, ih _ (by omega) (by omega)]
     cases run (s.drop k) (skip (s.drop k) (nextR (s.drop k) i).2.2) <;> rfl
  · have e1 : k + i = s.length := by omega
    have e2 : i = (s.drop k).length := by simp; omega
    rw [e1, run_end]
    rw [e2, run_end]
    rfl
end Go.AM
namespace Go.AM
open Go.Proofs
theorem tw_stop (q : UInt8 → Bool) (c : UInt8) (b : List UInt8) (hc : q c = false) : ∀ t : List UInt8, (t ++ c :: b).takeWhile q = t.takeWhile q
 | [] => by simp [hc]
 | x :: t => by
  simp only [List.cons_append, List.takeWhile_cons]
  rw [tw_stop q c b hc t]
theorem tw_in (q : UInt8 → Bool) (b : List UInt8) : ∀ t : List UInt8, (t.takeWhile q).length < t.length → (t ++ b).takeWhile q = t.takeWhile q
 | [], h => by simp at h
 | x :: t, h => by
  simp only [List.cons_append, List.takeWhile_cons] at h ⊢
  cases hx : q x with
  | false => rfl
  | true =>
   rw [hx] at h
   simp only [if_true, List.length_cons] at h
   simp only [if_true]
   rw [tw_in q b t (by omega)]
theorem tw_all (q : UInt8 → Bool) (b : List UInt8) : ∀ t : List UInt8, (t.takeWhile q).length = t.length → (t ++ b).takeWhile q = t ++ b.takeWhile q
 | [], _ => rfl
 | x :: t, h => by
  simp only [List.cons_append, List.takeWhile_cons] at h ⊢
  cases hx : q x with
  | false => rw [hx] at h; simp at h
  | true =>
   rw [hx] at h
   simp only [if_true, List.length_cons] at h
   simp only [if_true]
   rw [tw_all q b t (by omega)]
theorem pre_app (c : UInt8) (b : List UInt8) : ∀ (x t : List UInt8), c ∉ x → x.isPrefixOf (t ++ c :: b) = x.isPrefixOf t
 | [], t, _ => by simp
 | y :: x, [], h => by
  have : (y == c) = false := by simp only [List.mem_cons, not_or] at h; simpa using Ne.symm h.1
  simp only [List.nil_append, List.isPrefixOf_cons_cons, this, Bool.false_and]
  rfl
 | y :: x, z :: t, h => by
  simp only [List.mem_cons, not_or] at h
  simp only [List.cons_append, List.isPrefixOf_cons_cons]
  rw [pre_app c b x t h.2]
section
variable (a b : List UInt8)
def joint : List UInt8 := a ++ 10 :: b
theorem joint_len : (joint a b).length = a.length + 1 + b.length := by unfold joint; simp; omega
theorem joint_drop (i : Nat) (h : i ≤ a.length) : (joint a b).drop i = a.drop i ++ 10 :: b := by unfold joint; rw [List.drop_append_of_le_length h]
theorem joint_tail : (joint a b).drop (a.length + 1) = b := by
 unfold joint
 rw [List.drop_append]
 simp
theorem joint_get (i : Nat) (h : i < a.length) : (joint a b).getD i 0 = a.getD i 0 := by
 unfold joint; simp [List.getD_eq_getElem?_getD, List.getElem?_append, h]
theorem joint_ten : (joint a b).getD a.length 0 = 10 := by unfold joint; simp [List.getD_eq_getElem?_getD]
theorem joint_scan (q : UInt8 → Bool) (hq : q 10 = false) (i : Nat) (h : i ≤ a.length) : scan q (joint a b) i = scan q a i ∧ ((joint a b).drop i).takeWhile q = (a.drop i).takeWhile q := by
 unfold scan
 rw [joint_drop a b i h, tw_stop q 10 b hq]
 exact ⟨rfl, rfl⟩
theorem joint_scan_in (q : UInt8 → Bool) (i : Nat) (h : i ≤ a.length) (hlt : scan q a i < a.length) : scan q (joint a b) i = scan q a i ∧ ((joint a b).drop i).takeWhile q = (a.drop i).takeWhile q := by
 unfold scan at hlt ⊢
 rw [joint_drop a b i h, tw_in q _ _ (by simp; omega)]
 exact ⟨rfl, rfl⟩
theorem joint_txt (n : Nat) : ∀ i c ok r, i ≤ a.length → txtN a n i c ok = some r → txtN (joint a b) n i c ok = some r := by
 induction n with
 | zero => intro i c ok r _ h; cases h
 | succ n ih =>
  intro i c ok r hi h
  unfold txtN at h ⊢
  have hle := scan_le notQ a i hi
  by_cases hend : scan notQ a i = a.length
  · rw [decide_eq_true hend] at h; cases h
  · rw [decide_eq_false hend] at h
    have hlt : scan notQ a i < a.length := by omega
    obtain ⟨e1, e2⟩ := joint_scan_in a b notQ i hi hlt
    rw [e1, e2]
    have e3 : decide (scan notQ a i = (joint a b).length) = false := decide_eq_false (by rw [joint_len]; omega)
    rw [e3]
    simp only at h ⊢
    have e4 : decide (scan notQ a i + 1 = (joint a b).length) = false := decide_eq_false (by rw [joint_len]; omega)
    by_cases h1 : scan notQ a i + 1 = a.length
    · rw [decide_eq_true h1] at h
      rw [e4, h1, joint_ten]
      rw [h1] at h
      simpa using h
    · rw [decide_eq_false h1] at h
      rw [e4, joint_get a b _ (by omega)]
      cases hq : (false || a.getD (scan notQ a i + 1) 0 != 39) with
      | true => rw [hq] at h; exact h
      | false =>
       rw [hq] at h
       exact ih _ _ _ _ (by omega) h
theorem find_congr {α : Type} {p q : α → Bool} : ∀ {l : List α}, (∀ x ∈ l, p x = q x) → l.find? p = l.find? q
 | [], _ => rfl
 | x :: l, h => by
  rw [List.find?_cons, List.find?_cons, h x (by simp), find_congr fun y hy => h y (by simp [hy])]
theorem joint_sign (i : Nat) (h : i ≤ a.length) : signIn (joint a b) i Pr.signs = signIn a i Pr.signs := by
 unfold signIn
 refine find_congr fun x hx => ?_
 have hn : ∀ y ∈ Pr.signs, (10 : UInt8) ∉ y := by decide
 rw [joint_drop a b i h, pre_app 10 b x _ (hn x hx)]
theorem joint_next (i : Nat) (h : i < a.length) (hd : (nextR a i).2.1 = sDone) : nextR (joint a b) i = nextR a i := by
 unfold nextR at hd ⊢
 obtain ⟨w1, w2⟩ := joint_scan a b isWord rfl i (by omega)
 obtain ⟨d1, d2⟩ := joint_scan a b isDigit rfl i (by omega)
 rw [joint_get a b i h, w1, w2, d1, d2]
 cases h1 : isLetter (a.getD i 0) with
 | true => rfl
 | false =>
  rw [h1] at hd
  simp only at hd ⊢
  cases h2 : isDigit (a.getD i 0) with
  | true =>
   simp only
   unfold numR
   have hle := scan_le isDigit a i (by omega)
   have e : (decide (scan isDigit a i < (joint a b).length) && isLetter ((joint a b).getD (scan isDigit a i) 0)) = (decide (scan isDigit a i < a.length) && isLetter (a.getD (scan isDigit a i) 0)) := by
    rw [decide_eq_true (show scan isDigit a i < (joint a b).length by rw [joint_len]; omega)]
    by_cases hj : scan isDigit a i < a.length
    · rw [decide_eq_true hj, joint_get a b _ hj]
    · have : scan isDigit a i = a.length := by omega
      rw [decide_eq_false hj, this, joint_ten]
      rfl
   rw [e]
  | false =>
   rw [h2] at hd
   simp only at hd ⊢
   cases h3 : (a.getD i 0 == 39) with
   | true =>
    rw [h3] at hd
    simp only at hd ⊢
    have : textR (joint a b) (i + 1) = textR a (i + 1) := by
     unfold textR at hd ⊢
     have hf : txtN (joint a b) ((joint a b).length + 1) (i + 1) [] true = txtN (joint a b) (a.length + 1 + (joint a b).length) (i + 1) [] true := txtN_fuel _ _ _ _ _ _ (by rw [joint_len]; omega) (by omega) (by omega)
     cases ht : txtN a (a.length + 1) (i + 1) [] true with
     | none => rw [ht] at hd; simp [sSyntax, sDone] at hd
     | some r =>
      have h5 : txtN a (a.length + 1 + (joint a b).length) (i + 1) [] true = some r := by rw [← ht]; exact txtN_fuel _ _ _ _ _ _ (by omega) (by omega) (by omega)
      rw [hf, joint_txt a b _ _ _ _ _ (by omega) h5]
    rw [this]
   | false =>
    simp only
    rw [joint_sign a b i (by omega)]
theorem joint_skip (n : Nat) : ∀ i, i ≤ a.length → (joint a b).length - i < n →
  (skipN a n i < a.length → skipN (joint a b) n i = skipN a n i) ∧ (skipN a n i = a.length → skipN (joint a b) n i = a.length + 1 + skip b 0) := by
 induction n with
 | zero => intro i hi hn; omega
 | succ n ih =>
  intro i hi hn
  have hlen := joint_len a b
  have hle := scan_le isBlank a i hi
  unfold skipN
  by_cases hj : scan isBlank a i < a.length
  · obtain ⟨e1, _⟩ := joint_scan_in a b isBlank i hi hj
    rw [e1, joint_drop a b _ (by omega), pre_app 10 b [45, 45] _ (by decide)]
    cases hp : [45, 45].isPrefixOf (a.drop (scan isBlank a i)) with
    | false => exact ⟨fun _ => rfl, fun h => by simp only at h; omega⟩
    | true =>
     obtain ⟨e2, _⟩ := joint_scan a b notEnd rfl (scan isBlank a i) (by omega)
     have h2 := comment_on a _ hp
     have h3 := scan_le notEnd a (scan isBlank a i) (by omega)
     simp only
     rw [e2]
     exact ih _ h3.2 (by omega)
  · have hj' : scan isBlank a i = a.length := by omega
    rw [hj', List.drop_eq_nil_of_le (Nat.le_refl _)]
    have hp : [45, 45].isPrefixOf ([] : List UInt8) = false := rfl
    rw [hp]
    refine ⟨fun h => by simp only at h; omega, fun _ => ?_⟩
    have e1 : scan isBlank (joint a b) i = scan isBlank (joint a b) (a.length + 1 + 0) := by
     have h1 : ((a.drop i).takeWhile isBlank).length = (a.drop i).length := by unfold scan at hj'; simp; omega
     rw [scan_drop isBlank (joint a b) (a.length + 1) 0, joint_tail]
     unfold scan
     rw [joint_drop a b i hi, tw_all isBlank _ _ h1]
     have : (10 :: b).takeWhile isBlank = 10 :: b.takeWhile isBlank := by rw [List.takeWhile_cons]; rfl
     rw [this]
     simp
     omega
    have e2 : skipN (joint a b) (n + 1) i = skipN (joint a b) (n + 1) (a.length + 1 + 0) := by
     unfold skipN
     rw [e1]
    show skipN (joint a b) (n + 1) i = _
    rw [e2, skipN_drop, joint_tail]
    unfold skip
    rw [skipN_fuel b (n + 1) (b.length + 1) 0 (by omega) (by omega) (by omega)]
theorem joint_skip' (i : Nat) (hi : i ≤ a.length) : (skip a i < a.length → skip (joint a b) i = skip a i) ∧ (skip a i = a.length → skip (joint a b) i = a.length + 1 + skip b 0) := by
 have hlen := joint_len a b
 have := joint_skip a b ((joint a b).length + 1) i hi (by omega)
 unfold skip at this ⊢
 rwa [skipN_fuel a ((joint a b).length + 1) (a.length + 1) i hi (by omega) (by omega)] at this
theorem joint_run (n : Nat) : ∀ p, p ≤ a.length → a.length - p < n → ∀ l, run a (skip a p) = some l → run (joint a b) (skip (joint a b) p) = (run b (skip b 0)).map fun m => l ++ m.map (shiftTk (a.length + 1)) := by
 induction n with
 | zero => intro p hp hn; omega
 | succ n ih =>
  intro p hp hn l hl
  have hlen := joint_len a b
  obtain ⟨k1, k2⟩ := joint_skip' a b p hp
  have hk := skip_le a p hp
  by_cases hlt : skip a p < a.length
  · rw [k1 hlt]
    rw [run_step a _ hlt] at hl
    rw [run_step _ _ (by omega)]
    cases hs : ((nextR a (skip a p)).2.1 == sDone) with
    | false => rw [hs] at hl; cases hl
    | true =>
     rw [hs] at hl
     have hsd : (nextR a (skip a p)).2.1 = sDone := by simpa using hs
     rw [joint_next a b _ hlt hsd, hs]
     have hnl := next_le a _ hlt hsd
     simp only [Option.map_eq_some_iff] at hl ⊢
     obtain ⟨l', h1, rfl⟩ := hl
     rw [ih _ hnl.2 (by omega) l' h1]
     cases run b (skip b 0) <;> rfl
  · have hend : skip a p = a.length := by omega
    rw [hend, run_end] at hl
    simp only [Option.some.injEq] at hl
    subst hl
    rw [k2 hend, run_drop (joint a b) (a.length + 1) _ (skip b 0) (by have := skip_le b 0 (by omega); omega) (Nat.lt_succ_self _), joint_tail]
    cases run b (skip b 0) <;> simp
end
end Go.AM
namespace Go.AM
open Go.Proofs
inductive TokIs (s : List UInt8) (i : Nat) : Tk → Nat → Prop
 | word (w : List UInt8) (hw : w = (s.drop i).takeWhile isWord) (hl : isLetter (s.getD i 0) = true) (h32 : w.length ≤ 32) : TokIs s i ⟨0, w.map low, 0, i⟩ (i + w.length)
 | num (hd : isDigit (s.getD i 0) = true) (v : Nat) (hv : v < 9223372036854775808) : TokIs s i ⟨1, [], v, i⟩ (scan isDigit s i)
 | text (b : List UInt8) (j : Nat) (hb : txtN s (s.length + 1) (i + 1) [] true = some (b, true, j)) (h4 : b.length ≤ 400) : TokIs s i ⟨2, b, 0, i⟩ j
 | sign (x : List UInt8) (hx : x ∈ Pr.signs) (hp : x.isPrefixOf (s.drop i) = true) : TokIs s i ⟨3, x, 0, i⟩ (i + x.length)
theorem tok_is (s : List UInt8) (i : Nat) (hi : i < s.length) (h : (nextR s i).2.1 = sDone) : TokIs s i (nextR s i).1 (nextR s i).2.2 := by
 unfold nextR at h ⊢
 cases h1 : isLetter (s.getD i 0) with
 | true =>
  rw [h1] at h
  simp only at h ⊢
  unfold wordR at h ⊢
  cases h3 : decide (32 < ((s.drop i).takeWhile isWord).length) with
  | true => rw [h3] at h; simp [sSyntax, sDone] at h
  | false => exact .word _ rfl h1 (by have := of_decide_eq_false h3; omega)
 | false =>
  rw [h1] at h
  cases h2 : isDigit (s.getD i 0) with
  | true =>
   rw [h2] at h
   simp only at h ⊢
   unfold numR at h ⊢
   cases h3 : decide (numFold 0 ((s.drop i).takeWhile isDigit) < 9223372036854775808) with
   | false => rw [h3] at h; simp [sRange, sDone] at h
   | true => exact .num h2 _ (of_decide_eq_true h3)
  | false =>
   rw [h2] at h
   cases h3 : (s.getD i 0 == 39) with
   | true =>
    rw [h3] at h
    simp only at h ⊢
    unfold textR at h ⊢
    cases ht : txtN s (s.length + 1) (i + 1) [] true with
    | none => rw [ht] at h; simp [sSyntax, sDone] at h
    | some r =>
     obtain ⟨b, ok, j⟩ := r
     rw [ht] at h
     simp only at h ⊢
     cases ok with
     | false => simp [textSt, sSyntax, sDone] at h
     | true =>
      simp only [textSt] at h
      cases h4 : decide (400 < b.length) with
      | true => rw [h4] at h; simp [sTooLong, sDone] at h
      | false => exact .text b j ht (by have := of_decide_eq_false h4; omega)
   | false =>
    rw [h3] at h
    simp only at h ⊢
    cases ho : signIn s i Pr.signs with
    | none => rw [ho] at h; simp [signR, sSyntax, sDone] at h
    | some x =>
     have hp := List.find?_some ho
     exact .sign x (List.mem_of_find?_eq_some ho) hp
inductive Chain (s : List UInt8) : Nat → List Tk → Prop
 | nil (p : Nat) : Chain s p []
 | cons (p : Nat) (t : Tk) (l : List Tk) (j : Nat) (hlt : skip s p < s.length) (ht : TokIs s (skip s p) t j) (hj : skip s p < j) (hle : j ≤ s.length) (h : Chain s j l) : Chain s p (t :: l)
theorem chain_of (s : List UInt8) (n : Nat) : ∀ p l, p ≤ s.length → s.length - p < n → run s (skip s p) = some l → Chain s p l := by
 induction n with
 | zero => intro p l hp hn; omega
 | succ n ih =>
  intro p l hp hn h
  have hk := skip_le s p hp
  by_cases hlt : skip s p < s.length
  · rw [run_step s _ hlt] at h
    cases hs : ((nextR s (skip s p)).2.1 == sDone) with
    | false => rw [hs] at h; cases h
    | true =>
     rw [hs] at h
     have hsd : (nextR s (skip s p)).2.1 = sDone := by simpa using hs
     have hl := next_le s _ hlt hsd
     simp only [Option.map_eq_some_iff] at h
     obtain ⟨l', h1, rfl⟩ := h
     exact .cons p _ l' _ hlt (tok_is s _ hlt hsd) hl.1 hl.2 (ih _ _ hl.2 (by omega) h1)
  · have : skip s p = s.length := by omega
    rw [this, run_end] at h
    simp only [Option.some.injEq] at h
    subst h
    exact .nil p
theorem lex_chain (s : List UInt8) (h : (lexScan s).2 = sDone) : s.length ≤ 2000 ∧ (lexScan s).1.length ≤ 600 ∧ Chain s 0 (lexScan s).1 := by
 obtain ⟨h1, h2, _⟩ := lexScan_done s
 exact ⟨(h1.1 h).1, lexScan_len s, chain_of s (s.length + 1) 0 _ (by omega) (by omega) (h2 h)⟩
end Go.AM
