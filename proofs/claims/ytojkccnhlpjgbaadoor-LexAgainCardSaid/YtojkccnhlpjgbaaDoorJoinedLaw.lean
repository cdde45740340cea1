/- The plain law of LexJoined, and its walk. -/
import Derived.Test.YtojkccnhlpjgbaaDoorLxC
namespace Go.AM
open Go.Proofs
set_option maxRecDepth 100000
set_option linter.unusedVariables false

/-! ### A scan is of what is left -/
def skip (s : List UInt8) (i : Nat) : Nat := skipN s (s.length + 1) i

theorem scan_drop (q : UInt8 → Bool) (s : List UInt8) (k i : Nat) : scan q s (k + i) = k + scan q (s.drop k) i := by
  unfold scan; rw [List.drop_drop]; omega

theorem skipN_drop (s : List UInt8) (k n : Nat) : ∀ i, skipN s n (k + i) = k + skipN (s.drop k) n i := by
  induction n with
  | zero => intro i; rfl
  | succ n ih =>
    intro i
    unfold skipN
    rw [scan_drop, List.drop_drop]
    cases [45, 45].isPrefixOf (s.drop (k + scan isBlank (s.drop k) i)) with
    | false => rfl
    | true =>
      simp only
      rw [scan_drop]
      exact ih _

theorem skip_drop (s : List UInt8) (k i : Nat) (h : k + i ≤ s.length) : skip s (k + i) = k + skip (s.drop k) i := by
  unfold skip
  have hi : i ≤ (s.drop k).length := by simp; omega
  rw [skipN_drop, skipN_fuel (s.drop k) (s.length + 1) ((s.drop k).length + 1) i hi (by simp; omega) (by omega)]

theorem skip_le (s : List UInt8) (i : Nat) (h : i ≤ s.length) : i ≤ skip s i ∧ skip s i ≤ s.length := skipN_le s _ i h

theorem getD_drop (s : List UInt8) (k i : Nat) : (s.drop k).getD i 0 = s.getD (k + i) 0 := by
  simp [List.getD_eq_getElem?_getD]

theorem txtN_drop (s : List UInt8) (k n : Nat) (hk : k ≤ s.length) : ∀ i b ok, txtN s n (k + i) b ok = (txtN (s.drop k) n i b ok).map fun r => (r.1, r.2.1, k + r.2.2) := by
  induction n with
  | zero => intro i b ok; rfl
  | succ n ih =>
    intro i b ok
    unfold txtN
    rw [scan_drop, List.drop_drop, getD_drop]
    have e1 : decide (k + scan notQ (s.drop k) i = s.length) = decide (scan notQ (s.drop k) i = (s.drop k).length) := by
      rw [Bool.eq_iff_iff]; simp; omega
    have e2 : decide (k + scan notQ (s.drop k) i + 1 = s.length) = decide (scan notQ (s.drop k) i + 1 = (s.drop k).length) := by
      rw [Bool.eq_iff_iff]; simp; omega
    rw [e1, e2, show k + (scan notQ (s.drop k) i + 1) = k + scan notQ (s.drop k) i + 1 by omega]
    cases decide (scan notQ (s.drop k) i = (s.drop k).length) with
    | true => rfl
    | false =>
      simp only
      cases (decide (scan notQ (s.drop k) i + 1 = (s.drop k).length) || s.getD (k + scan notQ (s.drop k) i + 1) 0 != 39) with
      | true => rfl
      | false =>
        simp only
        rw [show k + scan notQ (s.drop k) i + 2 = k + (scan notQ (s.drop k) i + 2) by omega]
        exact ih _ _ _

/-- The fuel does not matter. -/
theorem txtN_fuel (s : List UInt8) (n m i : Nat) (b : List UInt8) (ok : Bool) (hi : i ≤ s.length) (hn : s.length - i < n) (hm : s.length - i < m) : txtN s n i b ok = txtN s m i b ok := by
  rw [txt_ref s n i (s.length + 1) b ok hi hn (by omega), txt_ref s m i (s.length + 1) b ok hi hm (by omega)]

def shiftTk (k : Nat) (t : Tk) : Tk := ⟨t.k, t.t, t.n, t.a + k⟩
def shiftR (k : Nat) (r : Tk × List UInt8 × Nat) : Tk × List UInt8 × Nat := (shiftTk k r.1, r.2.1, k + r.2.2)

theorem textR_drop (s : List UInt8) (k i : Nat) (h : k + i ≤ s.length) : textR s (k + i) = ((textR (s.drop k) i).1, (textR (s.drop k) i).2.1, k + (textR (s.drop k) i).2.2) := by
  unfold textR
  have hi : i ≤ (s.drop k).length := by simp; omega
  rw [txtN_drop s k _ (by omega), txtN_fuel (s.drop k) (s.length + 1) ((s.drop k).length + 1) i [] true hi (by simp; omega) (by omega)]
  cases txtN (s.drop k) ((s.drop k).length + 1) i [] true with
  | none => simp; omega
  | some r => rfl

theorem next_drop (s : List UInt8) (k i : Nat) (h : k + i < s.length) : nextR s (k + i) = shiftR k (nextR (s.drop k) i) := by
  unfold nextR
  rw [← getD_drop, ← List.drop_drop, scan_drop, scan_drop]
  cases isLetter ((s.drop k).getD i 0) with
  | true =>
    unfold wordR shiftR shiftTk
    simp only [Int.natCast_add]
    rw [Int.add_comm]
  | false =>
    simp only
    cases isDigit ((s.drop k).getD i 0) with
    | true =>
      simp only
      unfold numR
      have e1 : decide (k + scan isDigit (s.drop k) i < s.length) = decide (scan isDigit (s.drop k) i < (s.drop k).length) := by
        rw [Bool.eq_iff_iff]; simp; omega
      rw [e1, getD_drop]
      cases decide (numFold 0 (((s.drop k).drop i).takeWhile isDigit) < 9223372036854775808) with
      | false => unfold shiftR shiftTk; simp only [Int.natCast_add]; rw [Int.add_comm]
      | true => unfold shiftR shiftTk; simp only [Int.natCast_add]; rw [Int.add_comm]
    | false =>
      simp only
      cases ((s.drop k).getD i 0 == 39) with
      | true =>
        simp only
        rw [Nat.add_assoc, textR_drop s k (i + 1) (by omega)]
        unfold shiftR shiftTk; simp only [Int.natCast_add]; rw [Int.add_comm]
      | false =>
        simp only
        have e1 : signIn s (k + i) Lx.signs = signIn (s.drop k) i Lx.signs := by unfold signIn; rw [List.drop_drop]
        rw [e1]
        cases signIn (s.drop k) i Lx.signs with
        | none => unfold signR shiftR shiftTk; simp only [Int.natCast_add]; rw [Int.add_comm]
        | some x => unfold signR shiftR shiftTk; simp only [Int.natCast_add]; rw [Int.add_comm, Nat.add_assoc]

/-! ### All tokens, whatever their number -/
def runN (s : List UInt8) : Nat → Nat → Option (List Tk)
  | 0, _ => none
  | n + 1, p => match decide (p < s.length) with
    | false => some []
    | true => match (nextR s p).2.1 == sDone with
      | false => none
      | true => (runN s n (skip s (nextR s p).2.2)).map ((nextR s p).1 :: ·)

theorem runN_fuel (s : List UInt8) (n : Nat) : ∀ m p, p ≤ s.length → s.length - p < n → s.length - p < m → runN s n p = runN s m p := by
  induction n with
  | zero => intro m p hp hn; omega
  | succ n ih =>
    intro m p hp hn hm
    obtain ⟨m', rfl⟩ : ∃ m', m = m' + 1 := ⟨m - 1, by omega⟩
    unfold runN
    by_cases hlt : p < s.length
    · rw [decide_eq_true hlt]
      simp only
      cases hs : ((nextR s p).2.1 == sDone) with
      | false => rfl
      | true =>
        simp only
        have hl := next_le s p hlt (by simpa using hs)
        have hk := skip_le s (nextR s p).2.2 hl.2
        rw [ih m' _ hk.2 (by omega) (by omega)]
    · rw [decide_eq_false hlt]

def run (s : List UInt8) (p : Nat) : Option (List Tk) := runN s (s.length + 1) p

theorem run_step (s : List UInt8) (p : Nat) (h : p < s.length) : run s p = match (nextR s p).2.1 == sDone with
    | false => none
    | true => (run s (skip s (nextR s p).2.2)).map ((nextR s p).1 :: ·) := by
  unfold run
  conv => lhs; unfold runN
  rw [decide_eq_true h]
  simp only
  cases hs : ((nextR s p).2.1 == sDone) with
  | false => rfl
  | true =>
    have hl := next_le s p h (by simpa using hs)
    have hk := skip_le s (nextR s p).2.2 hl.2
    simp only
    rw [runN_fuel s s.length (s.length + 1) _ hk.2 (by omega) (by omega)]

theorem run_end (s : List UInt8) : run s s.length = some [] := by
  unfold run runN
  rw [decide_eq_false (by omega)]

/-- The scanner, by all tokens. -/
theorem scan_run (s : List UInt8) (n : Nat) : ∀ (p : Nat) (acc : List Tk), p ≤ s.length → s.length - p < n → acc.length ≤ 600 →
    (∀ l, scanN s n p acc = .inl l ↔ ∃ l', run s p = some l' ∧ l = acc ++ l' ∧ l.length ≤ 600) ∧ (∀ st, scanN s n p acc = .inr st → st ≠ sDone) := by
  induction n with
  | zero => intro p acc hp hn; omega
  | succ n ih =>
    intro p acc hp hn hacc
    by_cases hlt : p < s.length
    · rw [run_step s p hlt, scanN, decide_eq_true hlt]
      simp only
      cases hs : ((nextR s p).2.1 == sDone) with
      | false =>
        simp only
        refine ⟨fun l => ⟨fun h => (by cases h), fun ⟨l', h, _⟩ => (by cases h)⟩, fun st h => ?_⟩
        simp only [Sum.inr.injEq] at h
        rw [← h]
        simpa using hs
      | true =>
        have hl := next_le s p hlt (by simpa using hs)
        have hk := skip_le s (nextR s p).2.2 hl.2
        simp only
        by_cases h6 : acc.length = 600
        · rw [decide_eq_true h6]
          refine ⟨fun l => ⟨fun h => (by cases h), ?_⟩, fun st h => ?_⟩
          · rintro ⟨l', h, he, hle⟩
            simp only [Option.map_eq_some_iff] at h
            obtain ⟨l2, _, rfl⟩ := h
            rw [he] at hle
            simp at hle
            omega
          · simp only [Sum.inr.injEq] at h
            rw [← h]
            decide
        · rw [decide_eq_false h6]
          simp only
          obtain ⟨h1, h2⟩ := ih (skip s (nextR s p).2.2) (acc ++ [(nextR s p).1]) hk.2 (by omega) (by simp; omega)
          refine ⟨fun l => ?_, h2⟩
          have := h1 l
          rw [show skipN s (s.length + 1) (nextR s p).2.2 = skip s (nextR s p).2.2 from rfl, this]
          constructor
          · rintro ⟨l', h, he, hle⟩
            exact ⟨_ :: l', by rw [h]; rfl, by rw [he]; simp, hle⟩
          · rintro ⟨l', h, he, hle⟩
            simp only [Option.map_eq_some_iff] at h
            obtain ⟨l2, h, rfl⟩ := h
            exact ⟨l2, h, by rw [he]; simp, hle⟩
    · have : p = s.length := by omega
      subst this
      rw [run_end, scanN, decide_eq_false hlt]
      refine ⟨fun l => ⟨fun h => ?_, ?_⟩, fun st h => (by cases h)⟩
      · simp only [Sum.inl.injEq] at h
        exact ⟨[], rfl, by rw [← h]; simp, by rw [← h]; exact hacc⟩
      · rintro ⟨l', h, he, hle⟩
        simp only [Option.some.injEq] at h
        subst h
        rw [he]; simp

/-- lex.Scan, in a word: when it goes well, and what it gives then. -/
theorem lexScan_done (s : List UInt8) : ((lexScan s).2 = sDone ↔ s.length ≤ 2000 ∧ ∃ l, run s (skip s 0) = some l ∧ l.length ≤ 600) ∧ ((lexScan s).2 = sDone → run s (skip s 0) = some (lexScan s).1) ∧ ((lexScan s).2 ≠ sDone → (lexScan s).1 = []) := by
  have hk := skip_le s 0 (Nat.zero_le _)
  obtain ⟨h1, h2⟩ := scan_run s (s.length + 1) (skip s 0) [] hk.2 (by omega) (by simp)
  unfold lexScan
  by_cases hb : 2000 < s.length
  · rw [decide_eq_true hb]
    refine ⟨⟨fun h => by simp [sLarge, sDone] at h, fun ⟨h, _⟩ => by omega⟩, fun h => by simp [sLarge, sDone] at h, fun _ => rfl⟩
  · rw [decide_eq_false hb]
    simp only
    rw [show skipN s (s.length + 1) 0 = skip s 0 from rfl]
    cases hq : scanN s (s.length + 1) (skip s 0) [] with
    | inl l =>
      obtain ⟨l', h3, h4, h5⟩ := (h1 l).1 hq
      simp only [List.nil_append] at h4
      subst h4
      exact ⟨⟨fun _ => ⟨by omega, l, h3, h5⟩, fun _ => rfl⟩, fun _ => h3, fun h => absurd rfl h⟩
    | inr st =>
      refine ⟨⟨fun h => absurd h (h2 st hq), ?_⟩, fun h => absurd h (h2 st hq), fun _ => rfl⟩
      rintro ⟨_, l, h3, h4⟩
      have := (h1 l).2 ⟨l, h3, rfl, h4⟩
      rw [hq] at this
      cases this

/-- The tokens of what is left, from there. -/
theorem run_drop (s : List UInt8) (k : Nat) (n : Nat) : ∀ i, k + i ≤ s.length → s.length - (k + i) < n → run s (k + i) = (run (s.drop k) i).map (·.map (shiftTk k)) := by
  induction n with
  | zero => intro i h hn; omega
  | succ n ih =>
    intro i h hn
    by_cases hlt : k + i < s.length
    · have hlt' : i < (s.drop k).length := by simp; omega
      rw [run_step s _ hlt, run_step _ i hlt', next_drop s k i hlt]
      simp only [shiftR]
      cases hs : ((nextR (s.drop k) i).2.1 == sDone) with
      | false => rfl
      | true =>
        have hl := next_le (s.drop k) i hlt' (by simpa using hs)
        have hl2 : k + (nextR (s.drop k) i).2.2 ≤ s.length := by have := hl.2; simp at this; omega
        have hk := skip_le (s.drop k) (nextR (s.drop k) i).2.2 hl.2
        have hk2 : (skip (s.drop k) (nextR (s.drop k) i).2.2) ≤ s.length - k := by have := hk.2; simpa using this
        simp only
        rw [skip_drop s k _ hl2, ih _ (by omega) (by omega)]
        cases run (s.drop k) (skip (s.drop k) (nextR (s.drop k) i).2.2) <;> rfl
    · have e1 : k + i = s.length := by omega
      have e2 : i = (s.drop k).length := by simp; omega
      rw [e1, run_end]
      rw [e2, run_end]
      rfl
end Go.AM

namespace Go.AM
open Go.Proofs
set_option maxRecDepth 100000
set_option linter.unusedVariables false

theorem tw_stop (q : UInt8 → Bool) (c : UInt8) (b : List UInt8) (hc : q c = false) : ∀ t : List UInt8, (t ++ c :: b).takeWhile q = t.takeWhile q
  | [] => by simp [hc]
  | x :: t => by
    simp only [List.cons_append, List.takeWhile_cons]
    rw [tw_stop q c b hc t]

theorem tw_in (q : UInt8 → Bool) (b : List UInt8) : ∀ t : List UInt8, (t.takeWhile q).length < t.length → (t ++ b).takeWhile q = t.takeWhile q
  | [], h => by simp at h
  | x :: t, h => by
    simp only [List.cons_append, List.takeWhile_cons] at h ⊢
    cases hx : q x with
    | false => rfl
    | true =>
      rw [hx] at h
      simp only [if_true, List.length_cons] at h
      simp only [if_true]
      rw [tw_in q b t (by omega)]

theorem tw_all (q : UInt8 → Bool) (b : List UInt8) : ∀ t : List UInt8, (t.takeWhile q).length = t.length → (t ++ b).takeWhile q = t ++ b.takeWhile q
  | [], _ => rfl
  | x :: t, h => by
    simp only [List.cons_append, List.takeWhile_cons] at h ⊢
    cases hx : q x with
    | false => rw [hx] at h; simp at h
    | true =>
      rw [hx] at h
      simp only [if_true, List.length_cons] at h
      simp only [if_true]
      rw [tw_all q b t (by omega)]

theorem pre_app (c : UInt8) (b : List UInt8) : ∀ (x t : List UInt8), c ∉ x → x.isPrefixOf (t ++ c :: b) = x.isPrefixOf t
  | [], t, _ => by simp
  | y :: x, [], h => by
    have : (y == c) = false := by simp only [List.mem_cons, not_or] at h; simpa using Ne.symm h.1
    simp only [List.nil_append, List.isPrefixOf_cons_cons, this, Bool.false_and]
    rfl
  | y :: x, z :: t, h => by
    simp only [List.mem_cons, not_or] at h
    simp only [List.cons_append, List.isPrefixOf_cons_cons]
    rw [pre_app c b x t h.2]

section
variable (a b : List UInt8)

def joint : List UInt8 := a ++ 10 :: b

theorem joint_len : (joint a b).length = a.length + 1 + b.length := by unfold joint; simp; omega
theorem joint_drop (i : Nat) (h : i ≤ a.length) : (joint a b).drop i = a.drop i ++ 10 :: b := by unfold joint; rw [List.drop_append_of_le_length h]
theorem joint_tail : (joint a b).drop (a.length + 1) = b := by
  unfold joint
  rw [List.drop_append]
  simp
theorem joint_get (i : Nat) (h : i < a.length) : (joint a b).getD i 0 = a.getD i 0 := by
  unfold joint; simp [List.getD_eq_getElem?_getD, List.getElem?_append, h]
theorem joint_ten : (joint a b).getD a.length 0 = 10 := by unfold joint; simp [List.getD_eq_getElem?_getD]

theorem joint_scan (q : UInt8 → Bool) (hq : q 10 = false) (i : Nat) (h : i ≤ a.length) : scan q (joint a b) i = scan q a i ∧ ((joint a b).drop i).takeWhile q = (a.drop i).takeWhile q := by
  unfold scan
  rw [joint_drop a b i h, tw_stop q 10 b hq]
  exact ⟨rfl, rfl⟩

theorem joint_scan_in (q : UInt8 → Bool) (i : Nat) (h : i ≤ a.length) (hlt : scan q a i < a.length) : scan q (joint a b) i = scan q a i ∧ ((joint a b).drop i).takeWhile q = (a.drop i).takeWhile q := by
  unfold scan at hlt ⊢
  rw [joint_drop a b i h, tw_in q _ _ (by simp; omega)]
  exact ⟨rfl, rfl⟩

theorem joint_txt (n : Nat) : ∀ i c ok r, i ≤ a.length → txtN a n i c ok = some r → txtN (joint a b) n i c ok = some r := by
  induction n with
  | zero => intro i c ok r _ h; cases h
  | succ n ih =>
    intro i c ok r hi h
    unfold txtN at h ⊢
    have hle := scan_le notQ a i hi
    by_cases hend : scan notQ a i = a.length
    · rw [decide_eq_true hend] at h; cases h
    · rw [decide_eq_false hend] at h
      have hlt : scan notQ a i < a.length := by omega
      obtain ⟨e1, e2⟩ := joint_scan_in a b notQ i hi hlt
      rw [e1, e2]
      have e3 : decide (scan notQ a i = (joint a b).length) = false := decide_eq_false (by rw [joint_len]; omega)
      rw [e3]
      simp only at h ⊢
      have e4 : decide (scan notQ a i + 1 = (joint a b).length) = false := decide_eq_false (by rw [joint_len]; omega)
      by_cases h1 : scan notQ a i + 1 = a.length
      · rw [decide_eq_true h1] at h
        rw [e4, h1, joint_ten]
        rw [h1] at h
        simpa using h
      · rw [decide_eq_false h1] at h
        rw [e4, joint_get a b _ (by omega)]
        cases hq : (false || a.getD (scan notQ a i + 1) 0 != 39) with
        | true => rw [hq] at h; exact h
        | false =>
          rw [hq] at h
          exact ih _ _ _ _ (by omega) h

theorem find_congr {α : Type} {p q : α → Bool} : ∀ {l : List α}, (∀ x ∈ l, p x = q x) → l.find? p = l.find? q
  | [], _ => rfl
  | x :: l, h => by
    rw [List.find?_cons, List.find?_cons, h x (by simp), find_congr fun y hy => h y (by simp [hy])]

theorem joint_sign (i : Nat) (h : i ≤ a.length) : signIn (joint a b) i Lx.signs = signIn a i Lx.signs := by
  unfold signIn
  refine find_congr fun x hx => ?_
  have hn : ∀ y ∈ Lx.signs, (10 : UInt8) ∉ y := by decide
  rw [joint_drop a b i h, pre_app 10 b x _ (hn x hx)]

theorem joint_next (i : Nat) (h : i < a.length) (hd : (nextR a i).2.1 = sDone) : nextR (joint a b) i = nextR a i := by
  unfold nextR at hd ⊢
  obtain ⟨w1, w2⟩ := joint_scan a b isWord rfl i (by omega)
  obtain ⟨d1, d2⟩ := joint_scan a b isDigit rfl i (by omega)
  rw [joint_get a b i h, w1, w2, d1, d2]
  cases h1 : isLetter (a.getD i 0) with
  | true => rfl
  | false =>
    rw [h1] at hd
    simp only at hd ⊢
    cases h2 : isDigit (a.getD i 0) with
    | true =>
      simp only
      unfold numR
      have hle := scan_le isDigit a i (by omega)
      have e : (decide (scan isDigit a i < (joint a b).length) && isLetter ((joint a b).getD (scan isDigit a i) 0)) = (decide (scan isDigit a i < a.length) && isLetter (a.getD (scan isDigit a i) 0)) := by
        rw [decide_eq_true (show scan isDigit a i < (joint a b).length by rw [joint_len]; omega)]
        by_cases hj : scan isDigit a i < a.length
        · rw [decide_eq_true hj, joint_get a b _ hj]
        · have : scan isDigit a i = a.length := by omega
          rw [decide_eq_false hj, this, joint_ten]
          rfl
      rw [e]
    | false =>
      rw [h2] at hd
      simp only at hd ⊢
      cases h3 : (a.getD i 0 == 39) with
      | true =>
        rw [h3] at hd
        simp only at hd ⊢
        have : textR (joint a b) (i + 1) = textR a (i + 1) := by
          unfold textR at hd ⊢
          have hf : txtN (joint a b) ((joint a b).length + 1) (i + 1) [] true = txtN (joint a b) (a.length + 1 + (joint a b).length) (i + 1) [] true := txtN_fuel _ _ _ _ _ _ (by rw [joint_len]; omega) (by omega) (by omega)
          cases ht : txtN a (a.length + 1) (i + 1) [] true with
          | none => rw [ht] at hd; simp [sSyntax, sDone] at hd
          | some r =>
            have h5 : txtN a (a.length + 1 + (joint a b).length) (i + 1) [] true = some r := by rw [← ht]; exact txtN_fuel _ _ _ _ _ _ (by omega) (by omega) (by omega)
            rw [hf, joint_txt a b _ _ _ _ _ (by omega) h5]
        rw [this]
      | false =>
        simp only
        rw [joint_sign a b i (by omega)]

theorem joint_skip (n : Nat) : ∀ i, i ≤ a.length → (joint a b).length - i < n →
    (skipN a n i < a.length → skipN (joint a b) n i = skipN a n i) ∧ (skipN a n i = a.length → skipN (joint a b) n i = a.length + 1 + skip b 0) := by
  induction n with
  | zero => intro i hi hn; omega
  | succ n ih =>
    intro i hi hn
    have hlen := joint_len a b
    have hle := scan_le isBlank a i hi
    unfold skipN
    by_cases hj : scan isBlank a i < a.length
    · obtain ⟨e1, _⟩ := joint_scan_in a b isBlank i hi hj
      rw [e1, joint_drop a b _ (by omega), pre_app 10 b [45, 45] _ (by decide)]
      cases hp : [45, 45].isPrefixOf (a.drop (scan isBlank a i)) with
      | false => exact ⟨fun _ => rfl, fun h => by simp only at h; omega⟩
      | true =>
        obtain ⟨e2, _⟩ := joint_scan a b notEnd rfl (scan isBlank a i) (by omega)
        have h2 := comment_on a _ hp
        have h3 := scan_le notEnd a (scan isBlank a i) (by omega)
        simp only
        rw [e2]
        exact ih _ h3.2 (by omega)
    · have hj' : scan isBlank a i = a.length := by omega
      rw [hj', List.drop_eq_nil_of_le (Nat.le_refl _)]
      have hp : [45, 45].isPrefixOf ([] : List UInt8) = false := rfl
      rw [hp]
      refine ⟨fun h => by simp only at h; omega, fun _ => ?_⟩
      have e1 : scan isBlank (joint a b) i = scan isBlank (joint a b) (a.length + 1 + 0) := by
        have h1 : ((a.drop i).takeWhile isBlank).length = (a.drop i).length := by unfold scan at hj'; simp; omega
        rw [scan_drop isBlank (joint a b) (a.length + 1) 0, joint_tail]
        unfold scan
        rw [joint_drop a b i hi, tw_all isBlank _ _ h1]
        have : (10 :: b).takeWhile isBlank = 10 :: b.takeWhile isBlank := by rw [List.takeWhile_cons]; rfl
        rw [this]
        simp
        omega
      have e2 : skipN (joint a b) (n + 1) i = skipN (joint a b) (n + 1) (a.length + 1 + 0) := by
        unfold skipN
        rw [e1]
      show skipN (joint a b) (n + 1) i = _
      rw [e2, skipN_drop, joint_tail]
      unfold skip
      rw [skipN_fuel b (n + 1) (b.length + 1) 0 (by omega) (by omega) (by omega)]

theorem joint_skip' (i : Nat) (hi : i ≤ a.length) : (skip a i < a.length → skip (joint a b) i = skip a i) ∧ (skip a i = a.length → skip (joint a b) i = a.length + 1 + skip b 0) := by
  have hlen := joint_len a b
  have := joint_skip a b ((joint a b).length + 1) i hi (by omega)
  unfold skip at this ⊢
  rwa [skipN_fuel a ((joint a b).length + 1) (a.length + 1) i hi (by omega) (by omega)] at this

theorem joint_run (n : Nat) : ∀ p, p ≤ a.length → a.length - p < n → ∀ l, run a (skip a p) = some l → run (joint a b) (skip (joint a b) p) = (run b (skip b 0)).map fun m => l ++ m.map (shiftTk (a.length + 1)) := by
  induction n with
  | zero => intro p hp hn; omega
  | succ n ih =>
    intro p hp hn l hl
    have hlen := joint_len a b
    obtain ⟨k1, k2⟩ := joint_skip' a b p hp
    have hk := skip_le a p hp
    by_cases hlt : skip a p < a.length
    · rw [k1 hlt]
      rw [run_step a _ hlt] at hl
      rw [run_step _ _ (by omega)]
      cases hs : ((nextR a (skip a p)).2.1 == sDone) with
      | false => rw [hs] at hl; cases hl
      | true =>
        rw [hs] at hl
        have hsd : (nextR a (skip a p)).2.1 = sDone := by simpa using hs
        rw [joint_next a b _ hlt hsd, hs]
        have hnl := next_le a _ hlt hsd
        simp only [Option.map_eq_some_iff] at hl ⊢
        obtain ⟨l', h1, rfl⟩ := hl
        rw [ih _ hnl.2 (by omega) l' h1]
        cases run b (skip b 0) <;> rfl
    · have hend : skip a p = a.length := by omega
      rw [hend, run_end] at hl
      simp only [Option.some.injEq] at hl
      subst hl
      rw [k2 hend, run_drop (joint a b) (a.length + 1) _ (skip b 0) (by have := skip_le b 0 (by omega); omega) (Nat.lt_succ_self _), joint_tail]
      cases run b (skip b 0) <;> simp

theorem joint_bad (he : (lexScan a).2 = sDone) (hf : (lexScan b).2 ≠ sDone) : (lexScan (joint a b)).2 ≠ sDone := by
  have hlen := joint_len a b
  have h1 := (lexScan_done a).2.1 he
  intro hg
  obtain ⟨hsz, n, hn, hnl⟩ := (lexScan_done (joint a b)).1.1 hg
  apply hf
  rw [(lexScan_done b).1]
  rw [joint_run a b (a.length + 1) 0 (by omega) (by omega) _ h1] at hn
  simp only [Option.map_eq_some_iff] at hn
  obtain ⟨m, hm, rfl⟩ := hn
  simp at hnl
  exact ⟨by omega, m, hm, by omega⟩

theorem joint_good (he : (lexScan a).2 = sDone) (hf : (lexScan b).2 = sDone) (hl : (lexScan a).1.length + (lexScan b).1.length ≤ 600) (hs : a.length + b.length + 1 ≤ 2000) :
    (lexScan (joint a b)).2 = sDone ∧ (lexScan (joint a b)).1 = (lexScan a).1 ++ (lexScan b).1.map (shiftTk (a.length + 1)) := by
  have hlen := joint_len a b
  have h1 := (lexScan_done a).2.1 he
  have h2 := (lexScan_done b).2.1 hf
  have hr := joint_run a b (a.length + 1) 0 (by omega) (by omega) _ h1
  rw [h2] at hr
  have hg : (lexScan (joint a b)).2 = sDone := (lexScan_done (joint a b)).1.2 ⟨by omega, _, hr, by simp; omega⟩
  refine ⟨hg, ?_⟩
  have h3 := (lexScan_done (joint a b)).2.1 hg
  rw [hr] at h3
  simpa using h3.symm
end
end Go.AM

namespace Go.AM
open Go.Proofs
set_option maxRecDepth 100000
set_option maxHeartbeats 1000000
set_option linter.unusedVariables false
theorem next_a (s : List UInt8) (i : Nat) : (nextR s i).1.a = i := by
  unfold nextR
  cases isLetter (s.getD i 0) with
  | true => rfl
  | false =>
    simp only
    cases isDigit (s.getD i 0) with
    | true =>
      simp only
      unfold numR
      cases decide (numFold 0 ((s.drop i).takeWhile isDigit) < 9223372036854775808) <;> rfl
    | false =>
      simp only
      cases (s.getD i 0 == 39) with
      | true => rfl
      | false =>
        simp only
        cases signIn s i Lx.signs <;> rfl

theorem runN_a (s : List UInt8) (n : Nat) : ∀ p l, p ≤ s.length → runN s n p = some l → ∀ t ∈ l, 0 ≤ t.a ∧ t.a ≤ s.length := by
  induction n with
  | zero => intro p l _ h; cases h
  | succ n ih =>
    intro p l hp h
    unfold runN at h
    by_cases hlt : p < s.length
    · rw [decide_eq_true hlt] at h
      simp only at h
      cases hs : ((nextR s p).2.1 == sDone) with
      | false => rw [hs] at h; cases h
      | true =>
        rw [hs] at h
        have hl := next_le s p hlt (by simpa using hs)
        have hk := skip_le s (nextR s p).2.2 hl.2
        simp only [Option.map_eq_some_iff] at h
        obtain ⟨l', h1, rfl⟩ := h
        intro t ht
        rcases List.mem_cons.1 ht with rfl | ht
        · rw [next_a]; omega
        · exact ih _ l' hk.2 h1 t ht
    · rw [decide_eq_false hlt] at h
      simp only [Option.some.injEq] at h
      subst h
      intro t ht; simp at ht

theorem lex_a (s : List UInt8) (h : (lexScan s).2 = sDone) : ∀ t ∈ (lexScan s).1, 0 ≤ t.a ∧ t.a ≤ 2000 := by
  obtain ⟨h1, h2, _⟩ := lexScan_done s
  have hsz := (h1.1 h).1
  intro t ht
  have := runN_a s (s.length + 1) (skip s 0) _ (skip_le s 0 (Nat.zero_le _)).2 (h2 h) t ht
  omega

theorem Lx.fn6 : FnOk Tryd.prog 6 (fni Tryd.f6 a6) := ⟨⟨Tryd.f6, Tryd.func6, rfl, rfl, rfl, by kernel_rfl⟩, by kernel_rfl⟩
noncomputable def c6 : Code := (fni Tryd.f6 a6).loop 0
theorem Lx.c6 : codeOk 115 a6 c6 = true := by kernel_rfl
theorem step6 (K : Ex → Env → St → Prop) (env : Env) (S : St) (h : xcode (pAlg Tryd.prog (Lx.tab real) 115) (Lx.tab real) a6 0 c6 (andThen (LoopP Tryd.prog (Lx.tab real) 115 c6 K) K) env S) : LoopP Tryd.prog (Lx.tab real) 115 c6 K env S :=
  loopP_step Lx.tabOk Lx.mixed Lx.c6 h

theorem joined_loop (a : List UInt8) (ha : a.length ≤ 2000) (l m q : List Tk) (hl : l.length ≤ 600) (hm : m.length ≤ 600) (hma : ∀ t ∈ m, 0 ≤ t.a ∧ t.a ≤ 2000) (hq : q = l ++ m.map (shiftTk (a.length + 1)))
    (K : Ex → Env → St → Prop) (hK : ∀ S', K (.exit 0) [] S') (n : Nat) :
    ∀ (k : Nat) (y : Int) (S : St), y = k → k + n = l.length + m.length →
      LoopP Tryd.prog (Lx.tab real) 115 c6 (Less K) [(0, .str a), (5, tokV l), (7, tokV m), (9, tokV q), (11, .int .i64 y)] S := by
  have hqlen : q.length = l.length + m.length := by rw [hq]; simp
  induction n with
  | zero =>
    intro k y S hy hk
    obtain ⟨e3, c3, m3, he3, hc3, _⟩ := tokV_len q
    rw [he3]
    apply step6
    apply gen_code (mk := Lx.tab)
    intro fail need same call loop len slen arith shift cmp conv eqS ltS cat app elt byt subS subL strOf isB fit inb cut room not and eqB avs G
    have hb : cmp BinOp.lss y (len c3) = false := by rw [G.cmp', G.len', hc3]; simp [intRel]; omega
    generalize LoopP Tryd.prog (Lx.tab real) 115 c6 (Less K) = L at *
    generalize hK' : Less K = K' at *
    cbv
    refine GenH.need' G rfl ?_
    rw [hb]
    cbv
    rw [← hK']
    exact ⟨[], .nil _, hK _⟩
  | succ n ih =>
    intro k y S hy hk
    have hgo := fun S' => ih (k + 1) (y + 1) S' (by omega) (by omega)
    clear ih
    obtain ⟨O, mm, caps⟩ := S
    obtain ⟨e1, c1, m1, he1, hc1, h1⟩ := tokV_len l
    obtain ⟨e2, c2, m2, he2, hc2, h2⟩ := tokV_len m
    obtain ⟨e3, c3, m3, he3, hc3, h3⟩ := tokV_len q
    have h33 := h3 (by intro h; rw [h] at hqlen; simp at hqlen; omega)
    subst h33
    rw [he1, he2, he3] at hgo ⊢
    obtain ⟨tk, htk⟩ : ∃ tk, q.getD k zeroTk = tk := ⟨_, rfl⟩
    obtain ⟨k1, t1, n1, p1⟩ := tk
    have hkq : k < q.length := by omega
    have hleft : k < l.length → e1 = 32 ∧ l.getD k zeroTk = ⟨k1, t1, n1, p1⟩ := fun h => by
      refine ⟨h1 (by rintro rfl; simp at h), ?_⟩
      rw [← htk, hq]
      simp [List.getD_eq_getElem?_getD, List.getElem?_append, h]
    have hright : ¬ k < l.length → e2 = 32 ∧ ∃ p0, m.getD (k - l.length) zeroTk = ⟨k1, t1, n1, p0⟩ ∧ p1 = p0 + a.length + 1 ∧ 0 ≤ p0 ∧ p0 ≤ 2000 := fun h => by
      have hlt : k - l.length < m.length := by omega
      refine ⟨h2 (by rintro rfl; simp at hlt), ?_⟩
      have hx : q.getD k zeroTk = shiftTk (a.length + 1) m[k - l.length] := by
        rw [hq]
        simp [List.getD_eq_getElem?_getD, List.getElem?_append, h, hlt]
      have hmem := hma _ (List.getElem_mem hlt)
      have hm2 : m.getD (k - l.length) zeroTk = m[k - l.length] := by simp [List.getD_eq_getElem?_getD, hlt]
      rw [hm2]
      rw [htk] at hx
      generalize m[k - l.length] = tm at *
      obtain ⟨k0, t0, n0, p0⟩ := tm
      simp only [shiftTk, Tk.mk.injEq] at hx
      obtain ⟨rfl, rfl, rfl, hp⟩ := hx
      simp only at hmem
      exact ⟨p0, rfl, by rw [hp]; omega, hmem.1, hmem.2⟩
    apply step6
    apply gen_code (mk := Lx.tab)
    intro fail need same call loop len slen arith shift cmp conv eqS ltS cat app elt byt subS subL strOf isB fit inb cut room not and eqB avs G
    have hb : cmp BinOp.lss y (len c3) = true := by rw [G.cmp', G.len', hc3]; simp [intRel]; omega
    have hb2 : cmp BinOp.lss y (len c1) = decide (k < l.length) := by rw [G.cmp', G.len', hc1]; simp only [intRel, List.length_map]; rw [Bool.eq_iff_iff]; simp only [decide_eq_true_eq]; omega
    have hin3 : inb y (len c3) = true := by rw [G.inb', G.len', hc3]; simp; omega
    have helt3 : elt c3 y = .agg [.int .i64 k1, .str t1, .int .i64 n1, .int .i64 p1] := by
      rw [G.elt', hc3, hy]
      have : (q.map Tk.av).getD k AV.undef = (q.getD k zeroTk).av := by simp [List.getD_eq_getElem?_getD, hkq]
      simp only [Int.toNat_natCast]
      rw [this, htk]; rfl
    have hin1 : k < l.length → inb y (len c1) = true := fun h => by rw [G.inb', G.len', hc1]; simp; omega
    have helt1 : k < l.length → elt c1 y = .agg [.int .i64 k1, .str t1, .int .i64 n1, .int .i64 p1] := fun h => by
      rw [G.elt', hc1, hy]
      have : (l.map Tk.av).getD k AV.undef = (l.getD k zeroTk).av := by simp [List.getD_eq_getElem?_getD, h]
      simp only [Int.toNat_natCast]
      rw [this, (hleft h).2]; rfl
    have hsub : ¬ k < l.length → arith BinOp.sub IntKind.i64 y (len c1) = y - l.length := fun h => by
      rw [G.arith', G.len', hc1]; simp only [List.length_map]; exact wrap_i64 _ (by omega) (by omega)
    have hin2 : ¬ k < l.length → inb (y - l.length) (len c2) = true := fun h => by rw [G.inb', G.len', hc2]; simp; omega
    have helt2 : ¬ k < l.length → ∀ p0, m.getD (k - l.length) zeroTk = ⟨k1, t1, n1, p0⟩ → elt c2 (y - l.length) = .agg [.int .i64 k1, .str t1, .int .i64 n1, .int .i64 p0] := fun h p0 hp => by
      have hlt : k - l.length < m.length := by omega
      rw [G.elt', hc2]
      have : (m.map Tk.av).getD (k - l.length) AV.undef = (m.getD (k - l.length) zeroTk).av := by simp [List.getD_eq_getElem?_getD, hlt]
      simp only [show (y - (l.length : Int)).toNat = k - l.length by omega]
      rw [this, hp]; rfl
    have hadd : ∀ p0 : Int, 0 ≤ p0 → p0 ≤ 2000 → p1 = p0 + a.length + 1 → arith BinOp.add IntKind.i64 (arith BinOp.add IntKind.i64 p0 (slen a)) 1 = p1 := fun p0 h0 h1 hp => by
      have e1 : arith BinOp.add IntKind.i64 p0 (slen a) = p0 + a.length := by rw [G.arith', G.slen']; exact wrap_i64 (p0 + (a.length : Int)) (by omega) (by omega)
      rw [e1, hp, G.arith']; exact wrap_i64 _ (by omega) (by omega)
    have hone : arith BinOp.add IntKind.i64 y 1 = y + 1 := by rw [G.arith']; exact wrap_i64 _ (by omega) (by omega)
    have heq : not (and (cmp BinOp.eql k1 k1) (and (eqS t1 t1) (and (cmp BinOp.eql n1 n1) (and (cmp BinOp.eql p1 p1) true)))) = false := by
      rw [G.not', G.and', G.cmp', G.eqS']; simp [intRel]
    have hnn : Nat.beq mm mm = true := Nat.beq_refl mm
    have hbb : Nat.ble mm mm = true := Nat.ble_eq_true_of_le (Nat.le_refl mm)
    have hD1 : decide (k < l.length) = true → e1 = 32 ∧ inb y (len c1) = true ∧ elt c1 y = .agg [.int .i64 k1, .str t1, .int .i64 n1, .int .i64 p1] := fun h => by
      have h' := of_decide_eq_true h
      exact ⟨(hleft h').1, hin1 h', helt1 h'⟩
    obtain ⟨yl, hyl⟩ : ∃ yl : Int, yl = y - l.length := ⟨_, rfl⟩
    rw [← hyl] at hsub hin2 helt2
    have hD2 : decide (k < l.length) = false → e2 = 32 ∧ arith BinOp.sub IntKind.i64 y (len c1) = yl ∧ inb yl (len c2) = true ∧ ∃ p0, elt c2 yl = .agg [.int .i64 k1, .str t1, .int .i64 n1, .int .i64 p0] ∧ arith BinOp.add IntKind.i64 (arith BinOp.add IntKind.i64 p0 (slen a)) 1 = p1 := fun h => by
      have h' := of_decide_eq_false h
      obtain ⟨h3, p0, h4, h5, h6, h7⟩ := hright h'
      exact ⟨h3, hsub h', hin2 h', p0, helt2 h' p0 h4, hadd p0 h6 h7 h5⟩
    generalize decide (k < l.length) = dk at *
    generalize hL : LoopP Tryd.prog (Lx.tab real) 115 c6 (Less K) = L at hgo ⊢
    generalize hK' : Less K = K' at hL ⊢
    generalize y + 1 = y1 at *
    clear hright hleft hin1 helt1 hsub hin2 helt2 hadd hyl hqlen hkq htk hq hc1 hc2 hc3 he1 he2 he3 h1 h2 h3 hma hl hm ha hk hy
    cbv at hnn hbb
    cbv
    refine GenH.need' G rfl ?_
    rw [hb]
    cbv
    iterate 6 (first | (rw [hnn]; cbv) | (rw [hbb]; cbv) | skip)
    refine GenH.need' G rfl ?_
    rw [hb2]
    cases dk with
    | true =>
      obtain ⟨rfl, hin1, helt1⟩ := hD1 rfl
      cbv
      refine GenH.need' G hin1 ?_
      rw [helt1]
      cbv
      iterate 6 (first | (rw [hnn]; cbv) | (rw [hbb]; cbv) | skip)
      refine GenH.need' G hin3 ?_
      rw [helt3]
      cbv
      iterate 6 (first | (rw [hnn]; cbv) | (rw [hbb]; cbv) | skip)
      rw [heq]
      cbv
      refine GenH.need' G rfl ?_
      rw [hone]
      have go := fun S' => hgo S'
      rw [← hL] at go ⊢
      exact LoopP.weak (env' := [(0, .str a), (5, .slice 32 c1 m1), (7, .slice e2 c2 m2), (9, .slice 32 c3 m3), (11, .int .i64 y1)]) (.cons rfl (.cons rfl (.cons rfl (.cons rfl (.cons rfl (.nil _)))))) (go _)
    | false =>
      obtain ⟨rfl, hsub, hin2, p0, helt2, hadd⟩ := hD2 rfl
      cbv
      refine GenH.need' G rfl ?_
      rw [hsub]
      refine GenH.need' G hin2 ?_
      rw [helt2]
      cbv
      iterate 8 (first | (rw [hnn]; cbv) | (rw [hbb]; cbv) | skip)
      refine GenH.need' G rfl (GenH.need' G rfl ?_)
      rw [hadd]
      cbv
      iterate 8 (first | (rw [hnn]; cbv) | (rw [hbb]; cbv) | skip)
      refine GenH.need' G hin3 ?_
      rw [helt3]
      cbv
      iterate 6 (first | (rw [hnn]; cbv) | (rw [hbb]; cbv) | skip)
      rw [heq]
      cbv
      refine GenH.need' G rfl ?_
      rw [hone]
      have go := fun S' => hgo S'
      rw [← hL] at go ⊢
      exact LoopP.weak (env' := [(0, .str a), (5, .slice e1 c1 m1), (7, .slice 32 c2 m2), (9, .slice 32 c3 m3), (11, .int .i64 y1)]) (.cons rfl (.cons rfl (.cons rfl (.cons rfl (.cons rfl (.nil _)))))) (go _)

theorem joined_law (a b : List UInt8) (ha : a.length ≤ 140737488355328) (hb : b.length ≤ 140737488355328) : CallP Tryd.prog (Lx.tab real) 6 [.str a, .str b] St.nil fun o _ => o = .ret (.bool true) := by
  apply body_calls (un := 0) Lx.tabOk Lx.mixed Lx.fn6 (Nat.le_of_ble_eq_true rfl)
  apply gen_body (mk := Lx.tab)
  intro fail need same call loop len slen arith shift cmp conv eqS ltS cat app elt byt subS subL strOf isB fit inb cut room not and eqB avs G
  have w1 := fun S K => scan_spec a S K
  have w2 := fun S K => scan_spec b S K
  have w3 := fun S K => scan_spec (joint a b) S K
  have hc : cat (cat a [10]) b = joint a b := by rw [G.cat']; simp [joint]
  have hf1 : fit a [10] = true := by rw [G.fit']; simp; omega
  have hf2 : fit (cat a [10]) b = true := by rw [G.fit', G.cat']; simp; omega
  have bad := joint_bad a b
  have good := joint_good a b
  have hma : (lexScan b).2 = sDone → ∀ t ∈ (lexScan b).1, 0 ≤ t.a ∧ t.a ≤ 2000 := lex_a b
  have hl6 := lexScan_len a
  have hm6 := lexScan_len b
  have ne : ∀ st, not (eqS st [48, 48, 48, 48, 48]) = !(st == sDone) := fun st => by rw [G.not', G.eqS']; rfl
  have ee : ∀ st, eqS st [48, 48, 48, 48, 48] = (st == sDone) := fun st => by rw [G.eqS']; rfl
  obtain ⟨l, hl⟩ : ∃ l, (lexScan a).1 = l := ⟨_, rfl⟩
  obtain ⟨m, hm⟩ : ∃ m, (lexScan b).1 = m := ⟨_, rfl⟩
  obtain ⟨q, hq⟩ : ∃ q, (lexScan (joint a b)).1 = q := ⟨_, rfl⟩
  obtain ⟨e, he⟩ : ∃ e, (lexScan a).2 = e := ⟨_, rfl⟩
  obtain ⟨f, hf⟩ : ∃ f, (lexScan b).2 = f := ⟨_, rfl⟩
  obtain ⟨g, hg⟩ : ∃ g, (lexScan (joint a b)).2 = g := ⟨_, rfl⟩
  rw [hl, he] at w1; rw [hm, hf] at w2; rw [hq, hg] at w3
  rw [hl] at good hl6; rw [hm] at good hma hm6; rw [he, hf, hg] at good bad; rw [hq] at good; rw [hf] at hma
  have h600 : cmp BinOp.gtr (arith BinOp.add IntKind.i64 (len (l.map Tk.av)) (len (m.map Tk.av))) 600 = decide (600 < l.length + m.length) := by
    have e1 : arith BinOp.add IntKind.i64 (len (l.map Tk.av)) (len (m.map Tk.av)) = (l.length : Int) + m.length := by
      rw [G.len', G.arith']; simp only [List.length_map]; exact wrap_i64 _ (by omega) (by omega)
    rw [e1, G.cmp']
    simp only [intRel]
    rw [Bool.eq_iff_iff]; simp only [decide_eq_true_eq]; omega
  have h2000 : cmp BinOp.gtr (arith BinOp.add IntKind.i64 (arith BinOp.add IntKind.i64 (slen a) (slen b)) 1) 2000 = decide (2000 < a.length + b.length + 1) := by
    have e1 : arith BinOp.add IntKind.i64 (slen a) (slen b) = (a.length : Int) + b.length := by rw [G.slen', G.arith']; exact wrap_i64 ((a.length : Int) + b.length) (by omega) (by omega)
    have e2 : arith BinOp.add IntKind.i64 ((a.length : Int) + b.length) 1 = (a.length : Int) + b.length + 1 := by rw [G.arith']; exact wrap_i64 _ (by omega) (by omega)
    rw [e1, e2, G.cmp']
    simp only [intRel]
    rw [Bool.eq_iff_iff]; simp only [decide_eq_true_eq]; omega
  have hlens : (e == sDone) = true → (f == sDone) = true → decide (600 < l.length + m.length) = false → decide (2000 < a.length + b.length + 1) = false → (g == sDone) = true ∧ q = l ++ m.map (shiftTk (a.length + 1)) ∧ a.length ≤ 2000 ∧ (∀ t ∈ m, 0 ≤ t.a ∧ t.a ≤ 2000) := fun h1 h2 h3 h4 => by
    have h1' : e = sDone := by simpa using h1
    have h2' : f = sDone := by simpa using h2
    have h3' := of_decide_eq_false h3
    have h4' := of_decide_eq_false h4
    obtain ⟨g1, g2⟩ := good h1' h2' (by omega) (by omega)
    exact ⟨by simpa using g1, g2, by omega, hma h2'⟩
  have hbad : (e == sDone) = true → (f == sDone) = false → (g == sDone) = false := fun h1 h2 => by
    have := bad (by simpa using h1) (by simpa using h2)
    simpa using this
  have hneq : q = l ++ m.map (shiftTk (a.length + 1)) → cmp BinOp.neq (len (q.map Tk.av)) (arith BinOp.add IntKind.i64 (len (l.map Tk.av)) (len (m.map Tk.av))) = false := fun h => by
    have e1 : arith BinOp.add IntKind.i64 (len (l.map Tk.av)) (len (m.map Tk.av)) = (l.length : Int) + m.length := by
      rw [G.len', G.arith']; simp only [List.length_map]; exact wrap_i64 _ (by omega) (by omega)
    rw [e1, G.len', G.cmp', h]
    simp [intRel]
  have hloop := fun h1 h2 h3 K hK => joined_loop a h1 l m q hl6 hm6 h2 h3 K hK (l.length + m.length) 0 0 ⟨[], 0, []⟩ rfl (by omega)
  obtain ⟨t1, c1, m1, he1, hc1, _⟩ := tokV_len l
  obtain ⟨t2, c2, m2, he2, hc2, _⟩ := tokV_len m
  obtain ⟨t3, c3, m3, he3, hc3, _⟩ := tokV_len q
  rw [← hc1, ← hc2] at h600; rw [← hc1, ← hc2, ← hc3] at hneq
  rw [he1, he2, he3] at hloop; rw [he1] at w1; rw [he2] at w2; rw [he3] at w3
  have nee := ne e; have nef := ne f; have neg := ne g; have eef := ee f
  have hn1 : not true = false := by rw [G.not']; rfl
  generalize hK' : (fun (o : Out) (_ : St) => o = .ret (.bool true)) = K0
  have hfin : ∀ S, K0 (.ret (.bool true)) S := fun S => by rw [← hK']
  generalize hse : (e == sDone) = se at *
  generalize hsf : (f == sDone) = sf at *
  generalize hsg : (g == sDone) = sg at *
  generalize decide (600 < l.length + m.length) = d6 at *
  generalize decide (2000 < a.length + b.length + 1) = d2 at *
  clear hl hm hq he hf hg hl6 hm6 hma good bad hc1 hc2 hc3 he1 he2 he3 ne ee hse hsf hsg ha hb
  generalize joint a b = ab at *
  cbv
  refine GenH.call' G (w1 _ _ ?_)
  cbv
  refine GenH.call' G (w2 _ _ ?_)
  cbv
  refine GenH.need' G hf1 (GenH.need' G hf2 (GenH.call' G ?_))
  rw [hc]
  refine w3 _ _ ?_
  cbv
  rw [nee]
  cases se with
  | false =>
    cbv
    refine GenH.call' G (alive_spec _ _ ?_)
    cbv
    rw [nee]
    cbv
    exact hfin _
  | true =>
    cbv
    rw [nef]
    cases sf with
    | false =>
      cbv
      refine GenH.call' G (alive_spec _ _ ?_)
      cbv
      rw [nee]
      cbv
      rw [eef]
      cbv
      rw [neg, hbad rfl rfl]
      cbv
      exact hfin _
    | true =>
      cbv
      refine GenH.need' G rfl (GenH.need' G rfl ?_)
      rw [h600]
      cases d6 with
      | true =>
        cbv
        refine GenH.call' G (alive_spec _ _ ?_)
        cbv
        rw [nee]
        cbv
        rw [eef]
        cbv
        exact hfin _
      | false =>
        cbv
        iterate 4 (first | refine GenH.need' G rfl ?_ | skip)
        rw [h2000]
        cases d2 with
        | true =>
          cbv
          refine GenH.call' G (alive_spec _ _ ?_)
          cbv
          rw [nee]
          cbv
          rw [eef]
          cbv
          exact hfin _
        | false =>
          obtain ⟨rfl, hqe, ha2, hma⟩ := hlens rfl rfl rfl rfl
          have hneq := hneq hqe
          have hloop := hloop ha2 hma hqe
          clear hlens hqe
          cbv
          rw [neg]
          cbv
          refine GenH.need' G rfl (GenH.need' G rfl ?_)
          rw [hneq]
          cbv
          refine GenH.loop' G ?_
          change LoopP Tryd.prog (Lx.tab real) 115 c6 _ _ _
          refine LoopP.relax (LoopP.weak (env' := [(0, .str a), (5, .slice t1 c1 m1), (7, .slice t2 c2 m2), (9, .slice t3 c3 m3), (11, .int .i64 0)]) (.cons rfl (.cons rfl (.cons rfl (.cons rfl (.cons rfl (.nil _)))))) ?_)
          refine hloop _ fun S' => ?_
          cbv
          refine GenH.call' G (alive_spec _ _ ?_)
          cbv
          exact hfin _
end Go.AM
