/- The plain law of LexAgain, and its walk. -/
import Derived.Test.YtojkccnhlpjgbaaDoorPlacesLaw
namespace Go.AM
open Go.Proofs
set_option maxRecDepth 100000
set_option linter.unusedVariables false

theorem byte_all {p : UInt8 → Bool} (h : ∀ n : Fin 256, p (UInt8.ofNat n.val) = true) (c : UInt8) : p c = true := by
  have := h ⟨c.toNat, c.toNat_lt⟩
  simpa using this

theorem low_word (c : UInt8) (h : isWord c = true) : isWord (low c) = true := by
  have := byte_all (p := fun c => !isWord c || isWord (low c)) (by decide) c
  simpa [h] using this
theorem low_letter (c : UInt8) (h : isLetter c = true) : isLetter (low c) = true := by
  have := byte_all (p := fun c => !isLetter c || isLetter (low c)) (by decide) c
  simpa [h] using this
theorem low_low (c : UInt8) : low (low c) = low c := by
  have := byte_all (p := fun c => low (low c) == low c) (by decide) c
  simpa using this
theorem digit_letter (c : UInt8) (h : isDigit c = true) : isLetter c = false := by
  have := byte_all (p := fun c => !isDigit c || !isLetter c) (by decide) c
  simpa [h] using this
theorem letter_blank (c : UInt8) (h : isLetter c = true) : isBlank c = false ∧ (45 == c) = false := by
  have := byte_all (p := fun c => !isLetter c || (!isBlank c && !(45 == c))) (by decide) c
  simpa [h] using this
theorem digit_blank (c : UInt8) (h : isDigit c = true) : isBlank c = false ∧ (45 == c) = false := by
  have := byte_all (p := fun c => !isDigit c || (!isBlank c && !(45 == c))) (by decide) c
  simpa [h] using this

theorem tw_whole (q : UInt8 → Bool) : ∀ l : List UInt8, (∀ c ∈ l, q c = true) → l.takeWhile q = l
  | [], _ => rfl
  | c :: l, h => by
    rw [List.takeWhile_cons, h c (by simp)]
    simp only [if_true]
    rw [tw_whole q l fun x hx => h x (by simp [hx])]

/-! ### Figures -/
theorem digs_ok (n : Nat) : ∀ m acc, m < 10 ^ n → n ≠ 0 → (∀ c ∈ acc, isDigit c = true) → (∀ c ∈ digs n m acc, isDigit c = true) ∧ (∀ b, numFold b (digs n m acc) = numFold (b * 10 ^ ((digs n m acc).length - acc.length) + m) acc) ∧ acc.length < (digs n m acc).length ∧ (digs n m acc).length ≤ acc.length + n := by
  induction n with
  | zero => intro m acc _ h; exact absurd rfl h
  | succ n ih =>
    intro m acc hm _ ha
    have hd : m % 10 < 10 := Nat.mod_lt _ (by omega)
    have hdig : ∀ k, k < 10 → isDigit (UInt8.ofNat (48 + k)) = true ∧ (UInt8.ofNat (48 + k)).toNat - 48 = k := by decide
    obtain ⟨hc1, hc2⟩ := hdig _ hd
    unfold digs
    cases h0 : decide (m / 10 = 0) with
    | true =>
      have h0' := of_decide_eq_true h0
      simp only
      refine ⟨fun c hc => ?_, fun b => ?_, by simp, by simp⟩
      · rcases List.mem_cons.1 hc with rfl | hc
        · exact hc1
        · exact ha c hc
      · simp only [numFold, List.foldl_cons, hc2, List.length_cons]
        rw [show acc.length + 1 - acc.length = 1 by omega]
        congr 1
        omega
    | false =>
      have h0' := of_decide_eq_false h0
      simp only
      have hm2 : m / 10 < 10 ^ n := by rw [Nat.pow_succ] at hm; omega
      have hn : n ≠ 0 := by rintro rfl; simp at hm2; omega
      obtain ⟨h1, h2, h3, h4⟩ := ih (m / 10) (UInt8.ofNat (48 + m % 10) :: acc) hm2 hn (fun c hc => by
        rcases List.mem_cons.1 hc with rfl | hc
        · exact hc1
        · exact ha c hc)
      generalize digs n (m / 10) (UInt8.ofNat (48 + m % 10) :: acc) = D at *
      simp only [List.length_cons] at h2 h3 h4
      refine ⟨h1, fun b => ?_, by omega, by omega⟩
      rw [h2 b]
      simp only [numFold, List.foldl_cons, hc2]
      congr 1
      obtain ⟨e, he⟩ : ∃ e, D.length - acc.length = e + 1 := ⟨D.length - acc.length - 1, by omega⟩
      rw [he, show D.length - (acc.length + 1) = e by omega, Nat.pow_succ, ← Nat.mul_assoc]
      omega

theorem figs_ok (m : Nat) (h : m < 9223372036854775808) : (∀ c ∈ figs m, isDigit c = true) ∧ numFold 0 (figs m) = m ∧ figs m ≠ [] ∧ (figs m).length ≤ 20 := by
  obtain ⟨h1, h2, h3, h4⟩ := digs_ok 20 m [] (by omega) (by omega) (by simp)
  refine ⟨h1, ?_, ?_, Nat.le_trans h4 (Nat.le_of_eq (Nat.zero_add 20))⟩
  · have := h2 0
    simpa [figs, numFold] using this
  · intro he
    unfold figs at he
    rw [he] at h3
    simp at h3

/-! ### Texts -/
theorem txtN_again (rest : List UInt8) (m : Nat) : ∀ b : List UInt8, b.length ≤ m → b.all goodB = true → ∀ n acc, b.length < n →
    txtN (dbl b ++ 39 :: 32 :: rest) n 0 acc true = some (acc ++ b, true, (dbl b).length + 1) := by
  induction m with
  | zero =>
    intro b hb hg n acc hn
    obtain rfl : b = [] := List.length_eq_zero_iff.1 (by omega)
    obtain ⟨n', rfl⟩ : ∃ n', n = n' + 1 := ⟨n - 1, by omega⟩
    unfold txtN
    have e : scan notQ (dbl [] ++ 39 :: 32 :: rest) 0 = 0 := rfl
    rw [e]
    simp [dbl, notQ]
  | succ m ih =>
    intro b hb hg n acc hn
    obtain ⟨n', rfl⟩ : ∃ n', n = n' + 1 := ⟨n - 1, by omega⟩
    obtain ⟨b1, hb1⟩ : ∃ b1, b.takeWhile notQ = b1 := ⟨_, rfl⟩
    obtain ⟨b2, hb2⟩ : ∃ b2, b.dropWhile notQ = b2 := ⟨_, rfl⟩
    have hsplit : b = b1 ++ b2 := by rw [← hb1, ← hb2, List.takeWhile_append_dropWhile]
    have hq1 : ∀ c ∈ b1, notQ c = true := fun c hc => by rw [← hb1] at hc; exact tw_mem notQ b c hc
    have hd1 : dbl b1 = b1 := dbl_notQ b1 hq1
    have hg1 : b1.all goodB = true := by rw [hsplit, List.all_append, Bool.and_eq_true] at hg; exact hg.1
    have hg2 : b2.all goodB = true := by rw [hsplit, List.all_append, Bool.and_eq_true] at hg; exact hg.2
    have htw : ∀ r, (b1 ++ 39 :: r).takeWhile notQ = b1 := fun r => by
      rw [tw_stop notQ 39 r rfl, tw_whole notQ b1 hq1]
    cases b2 with
    | nil =>
      have hbb : b = b1 := by simpa using hsplit
      rw [hbb, hd1]
      unfold txtN scan
      simp only [List.drop_zero, htw, Nat.zero_add]
      have e1 : decide (b1.length = (b1 ++ 39 :: 32 :: rest).length) = false := decide_eq_false (by simp)
      have e2 : decide (b1.length + 1 = (b1 ++ 39 :: 32 :: rest).length) = false := decide_eq_false (by simp)
      have e3 : ((b1 ++ 39 :: 32 :: rest).getD (b1.length + 1) 0 != 39) = true := by simp [List.getD_eq_getElem?_getD]
      rw [e1, e2, e3, hg1]
      rfl
    | cons c b3 =>
      have hc : c = 39 := by
        have : b.dropWhile notQ = c :: b3 := hb2
        have h2 := List.head?_dropWhile_not (p := notQ) b
        rw [this] at h2
        simpa [notQ] using h2
      subst hc
      have hdb : dbl b = b1 ++ 39 :: 39 :: dbl b3 := by rw [hsplit, dbl_app, hd1]; rfl
      have hl : b.length = b1.length + 1 + b3.length := by rw [hsplit]; simp; omega
      have hg3 : b3.all goodB = true := by rw [List.all_cons, Bool.and_eq_true] at hg2; exact hg2.2
      rw [hdb]
      have hS : b1 ++ 39 :: 39 :: dbl b3 ++ 39 :: 32 :: rest = b1 ++ 39 :: 39 :: (dbl b3 ++ 39 :: 32 :: rest) := by simp
      rw [hS]
      have hrec := ih b3 (by omega) hg3 n' (acc ++ b1 ++ [39]) (by omega)
      have hdrop : (b1 ++ 39 :: 39 :: (dbl b3 ++ 39 :: 32 :: rest)).drop (b1.length + 2) = dbl b3 ++ 39 :: 32 :: rest := by
        rw [List.drop_append]
        simp
      have hstep := txtN_drop (b1 ++ 39 :: 39 :: (dbl b3 ++ 39 :: 32 :: rest)) (b1.length + 2) n' (by simp) 0 (acc ++ b1 ++ [39]) true
      rw [hdrop, hrec] at hstep
      generalize hR : dbl b3 ++ 39 :: 32 :: rest = R at *
      unfold txtN scan
      simp only [List.drop_zero, htw, Nat.zero_add]
      have e1 : decide (b1.length = (b1 ++ 39 :: 39 :: R).length) = false := decide_eq_false (by simp)
      have e2 : decide (b1.length + 1 = (b1 ++ 39 :: 39 :: R).length) = false := decide_eq_false (by simp)
      have e3 : ((b1 ++ 39 :: 39 :: R).getD (b1.length + 1) 0 != 39) = false := by simp [List.getD_eq_getElem?_getD]
      rw [e1, e2, e3, hg1]
      simp only [Bool.or_self, Bool.and_self]
      rw [Nat.add_zero] at hstep
      rw [hstep, hsplit]
      simp
      omega

theorem txtN_good (s : List UInt8) (n : Nat) : ∀ i b ok b' j, txtN s n i b ok = some (b', true, j) → b.all goodB = true → b'.all goodB = true := by
  induction n with
  | zero => intro i b ok b' j h; cases h
  | succ n ih =>
    intro i b ok b' j h hb
    unfold txtN at h
    cases h1 : decide (scan notQ s i = s.length) with
    | true => rw [h1] at h; cases h
    | false =>
      rw [h1] at h
      simp only at h
      cases hx : (decide (scan notQ s i + 1 = s.length) || s.getD (scan notQ s i + 1) 0 != 39) with
      | true =>
        rw [hx] at h
        simp only [Option.some.injEq, Prod.mk.injEq, Bool.and_eq_true] at h
        obtain ⟨rfl, ⟨_, h2⟩, _⟩ := h
        rw [List.all_append, hb, h2]; rfl
      | false =>
        rw [hx] at h
        cases hy : ((s.drop i).takeWhile notQ).all goodB with
        | true => exact ih _ _ _ _ _ h (by rw [List.all_append, List.all_append, hb, hy]; decide)
        | false =>
          rw [hy] at h
          exfalso
          rw [Bool.and_false] at h
          have : ∀ n i b b' j, txtN s n i b false ≠ some (b', true, j) := by
            intro n
            induction n with
            | zero => intro i b b' j h; cases h
            | succ n ih =>
              intro i b b' j h
              unfold txtN at h
              cases h1 : decide (scan notQ s i = s.length) with
              | true => rw [h1] at h; cases h
              | false =>
                rw [h1] at h
                simp only [Bool.false_and] at h
                cases hx : (decide (scan notQ s i + 1 = s.length) || s.getD (scan notQ s i + 1) 0 != 39) with
                | true => rw [hx] at h; simp at h
                | false => rw [hx] at h; exact ih _ _ _ _ h
          exact this _ _ _ _ _ h
end Go.AM

namespace Go.AM
open Go.Proofs
set_option maxRecDepth 100000
set_option linter.unusedVariables false

/-- A token that may come out of a text. -/
inductive Good : Tk → Prop
  | word (w : List UInt8) (a : Int) (h0 : ∀ c ∈ w, isWord c = true ∧ low c = c) (c : UInt8) (r : List UInt8) (hc : w = c :: r) (hl : isLetter c = true) (h32 : w.length ≤ 32) : Good ⟨0, w, 0, a⟩
  | num (v : Nat) (a : Int) (hv : v < 9223372036854775808) : Good ⟨1, [], v, a⟩
  | text (b : List UInt8) (a : Int) (hg : b.all goodB = true) (h4 : b.length ≤ 400) : Good ⟨2, b, 0, a⟩
  | sign (x : List UInt8) (a : Int) (hx : x ∈ Lx.signs) : Good ⟨3, x, 0, a⟩

theorem TokIs.good {s : List UInt8} {i j : Nat} {t : Tk} (h : TokIs s i t j) (hi : i < s.length) : Good t := by
  cases h with
  | word w hw hl h32 =>
    have hdrop : s.drop i = s.getD i 0 :: s.drop (i + 1) := by
      rw [List.drop_eq_getElem_cons hi]; simp [List.getD_eq_getElem?_getD, hi]
    have hwc : w = s.getD i 0 :: (s.drop (i + 1)).takeWhile isWord := by
      rw [hw, hdrop, List.takeWhile_cons]
      have : isWord (s.getD i 0) = true := by unfold isWord; rw [hl]; rfl
      rw [this]; rfl
    refine .word _ _ (fun c hc => ?_) (low (s.getD i 0)) (((s.drop (i + 1)).takeWhile isWord).map low) (by rw [hwc]; rfl) (low_letter _ hl) (by simpa using h32)
    obtain ⟨c0, hc0, rfl⟩ := List.mem_map.1 hc
    rw [hw] at hc0
    exact ⟨low_word _ (tw_mem isWord _ _ hc0), low_low _⟩
  | num hd v hv => exact .num v _ hv
  | text b j hb h4 => exact .text b _ (txtN_good s _ _ _ _ _ _ hb rfl) h4
  | sign x hx hp => exact .sign x _ hx

theorem chain_good {s : List UInt8} {p : Nat} {l : List Tk} (h : Chain s p l) : ∀ t ∈ l, Good t := by
  induction h with
  | nil p => simp
  | cons p t l j hlt ht hj hle h ih =>
    intro x hx
    rcases List.mem_cons.1 hx with rfl | hx
    · exact ht.good hlt
    · exact ih x hx

theorem Good.nums {t : Tk} (h : Good t) : t.k = 1 → 0 ≤ t.n ∧ t.n < 9223372036854775808 := by
  intro hk
  cases h with
  | word => simp at hk
  | num v a hv => simp only; omega
  | text => simp at hk
  | sign => simp at hk
theorem Good.size {t : Tk} (h : Good t) : t.t.length ≤ 400 := by
  cases h with
  | word w a h0 c r hc hl h32 => simp only; omega
  | num => simp
  | text b a hg h4 => exact h4
  | sign x a hx =>
    have : ∀ x ∈ Lx.signs, x.length ≤ 400 := by decide
    exact this x hx
theorem Good.spellLen {t : Tk} (h : Good t) : (spell t).length ≤ 1000 := by
  cases h with
  | word w a h0 c r hc hl h32 => show w.length ≤ 1000; omega
  | num v a hv => show (figs (v : Int).toNat).length ≤ 1000; have := (figs_ok v hv).2.2.2; simp only [Int.toNat_natCast]; omega
  | text b a hg h4 => show (39 :: dbl b ++ [39]).length ≤ 1000; have := dbl_len b; simp; omega
  | sign x a hx =>
    have : ∀ x ∈ Lx.signs, x.length ≤ 1000 := by decide
    exact this x hx

theorem dbl_ge (b : List UInt8) : b.length ≤ (dbl b).length := by
  induction b with
  | nil => simp
  | cons c r ih => unfold dbl; cases c == 39 <;> simp <;> omega

theorem next_again (t : Tk) (h : Good t) (rest : List UInt8) : nextR (spell t ++ 32 :: rest) 0 = (⟨t.k, t.t, t.n, 0⟩, sDone, (spell t).length) := by
  cases h with
  | word w a h0 c r hc hl h32 =>
    show nextR (w ++ 32 :: rest) 0 = (⟨0, w, 0, 0⟩, sDone, w.length)
    have hg : (w ++ 32 :: rest).getD 0 0 = c := by rw [hc]; rfl
    have htw : ((w ++ 32 :: rest).drop 0).takeWhile isWord = w := by
      rw [List.drop_zero, tw_stop isWord 32 rest rfl, tw_whole isWord w fun c hc => (h0 c hc).1]
    have hm : w.map low = w := by
      conv => rhs; rw [← List.map_id w]
      exact List.map_congr_left fun c hc => (h0 c hc).2
    unfold nextR scan
    rw [hg, hl, htw]
    simp only [wordR, hm, Nat.zero_add]
    rw [decide_eq_false (by omega)]
    rfl
  | num v a hv =>
    show nextR (figs (v : Int).toNat ++ 32 :: rest) 0 = (⟨1, [], v, 0⟩, sDone, (figs (v : Int).toNat).length)
    rw [Int.toNat_natCast]
    obtain ⟨f1, f2, f3, _⟩ := figs_ok v hv
    generalize figs v = u at *
    obtain ⟨c, r, rfl⟩ : ∃ c r, u = c :: r := by cases u with
      | nil => exact absurd rfl f3
      | cons c r => exact ⟨c, r, rfl⟩
    have hd := f1 c (by simp)
    have hg : (c :: r ++ 32 :: rest).getD 0 0 = c := rfl
    have htw : ((c :: r ++ 32 :: rest).drop 0).takeWhile isDigit = c :: r := by
      rw [List.drop_zero, tw_stop isDigit 32 rest rfl, tw_whole isDigit _ f1]
    have hg2 : (c :: r ++ 32 :: rest).getD (c :: r).length 0 = 32 := by simp [List.getD_eq_getElem?_getD]
    unfold nextR scan
    rw [hg, hd, digit_letter c hd, htw]
    simp only [numR, Nat.zero_add]
    rw [f2, decide_eq_true hv, hg2]
    have : isLetter 32 = false := rfl
    rw [this, Bool.and_false]
    rfl
  | text b a hg h4 =>
    show nextR (39 :: dbl b ++ [39] ++ 32 :: rest) 0 = (⟨2, b, 0, 0⟩, sDone, (39 :: dbl b ++ [39]).length)
    have hS : 39 :: dbl b ++ [39] ++ 32 :: rest = 39 :: (dbl b ++ 39 :: 32 :: rest) := by simp
    rw [hS]
    have hdl := dbl_ge b
    have ht : textR (39 :: (dbl b ++ 39 :: 32 :: rest)) 1 = (b, sDone, (39 :: dbl b ++ [39]).length) := by
      unfold textR
      have h1 := txtN_again rest b.length b (Nat.le_refl _) hg ((39 :: (dbl b ++ 39 :: 32 :: rest)).length + 1) [] (by simp; omega)
      have h2 := txtN_drop (39 :: (dbl b ++ 39 :: 32 :: rest)) 1 ((39 :: (dbl b ++ 39 :: 32 :: rest)).length + 1) (by simp) 0 [] true
      rw [Nat.add_zero, List.drop_one, List.tail_cons, h1] at h2
      rw [h2]
      simp only [Option.map_some, textSt, List.nil_append]
      rw [decide_eq_false (by omega)]
      simp
      omega
    unfold nextR
    have hg0 : (39 :: (dbl b ++ 39 :: 32 :: rest)).getD 0 0 = 39 := rfl
    rw [hg0]
    have e1 : isLetter 39 = false := rfl
    have e2 : isDigit 39 = false := rfl
    have e3 : ((39 : UInt8) == 39) = true := rfl
    rw [e1, e2, e3]
    simp only [Nat.zero_add]
    rw [ht]
    rfl
  | sign x a hx =>
    show nextR (x ++ 32 :: rest) 0 = (⟨3, x, 0, 0⟩, sDone, x.length)
    have hs : signIn (x ++ 32 :: rest) 0 Lx.signs = some x := by
      unfold signIn
      rw [List.drop_zero, find_congr (q := fun y => y.isPrefixOf x) fun y hy => pre_app 32 rest y x ((by decide : ∀ y ∈ Lx.signs, (32 : UInt8) ∉ y) y hy)]
      exact (by decide : ∀ x ∈ Lx.signs, Lx.signs.find? (fun y => y.isPrefixOf x) = some x) x hx
    have hh : isLetter ((x ++ 32 :: rest).getD 0 0) = false ∧ isDigit ((x ++ 32 :: rest).getD 0 0) = false ∧ ((x ++ 32 :: rest).getD 0 0 == 39) = false := by
      have h1 : ∀ x ∈ Lx.signs, x ≠ [] ∧ isLetter (x.getD 0 0) = false ∧ isDigit (x.getD 0 0) = false ∧ (x.getD 0 0 == 39) = false := by decide
      have h2 := h1 x hx
      cases x with
      | nil => exact absurd rfl h2.1
      | cons c r => exact h2.2
    unfold nextR
    rw [hh.1, hh.2.1, hh.2.2, hs]
    simp [signR]

theorem skip_again (t : Tk) (h : Good t) (rest : List UInt8) : skip (spell t ++ 32 :: rest) 0 = 0 := by
  have key : ∀ u : List UInt8, isBlank (u.getD 0 0) = false → [45, 45].isPrefixOf u = false → u ≠ [] → skip u 0 = 0 := by
    intro u h1 h2 h3
    have hsc : scan isBlank u 0 = 0 := by
      cases u with
      | nil => exact absurd rfl h3
      | cons c r =>
        have h1 : isBlank c = false := h1
        unfold scan
        simp [h1]
    unfold skip skipN
    rw [hsc, List.drop_zero, h2]
  have key2 : ∀ (c : UInt8) (r : List UInt8), isBlank c = false ∧ (45 == c) = false → skip (c :: r) 0 = 0 := fun c r h => key _ h.1 (by simp [List.isPrefixOf_cons_cons, h.2]) (by simp)
  cases h with
  | word w a h0 c r hc hl h32 =>
    show skip (w ++ 32 :: rest) 0 = 0
    rw [hc]
    exact key2 c _ (letter_blank c hl)
  | num v a hv =>
    show skip (figs (v : Int).toNat ++ 32 :: rest) 0 = 0
    rw [Int.toNat_natCast]
    obtain ⟨f1, f2, f3, _⟩ := figs_ok v hv
    generalize figs v = u at *
    cases u with
    | nil => exact absurd rfl f3
    | cons c r => exact key2 c _ (digit_blank c (f1 c (by simp)))
  | text b a hg h4 =>
    show skip (39 :: dbl b ++ [39] ++ 32 :: rest) 0 = 0
    exact key2 39 _ ⟨rfl, rfl⟩
  | sign x a hx =>
    show skip (x ++ 32 :: rest) 0 = 0
    refine key _ ?_ ?_ (by simp)
    · have h1 : ∀ x ∈ Lx.signs, x ≠ [] ∧ isBlank (x.getD 0 0) = false := by decide
      have h2 := h1 x hx
      cases x with
      | nil => exact absurd rfl h2.1
      | cons c r => exact h2.2
    · rw [pre_app 32 rest [45, 45] x (by decide)]
      exact (by decide : ∀ x ∈ Lx.signs, [45, 45].isPrefixOf x = false) x hx

/-- The tokens, written one behind the other. -/
def spellAll : List Tk → List UInt8
  | [] => []
  | t :: r => spell t ++ 32 :: spellAll r

theorem spellAll_app (l : List Tk) (t : Tk) : spellAll (l ++ [t]) = spellAll l ++ spell t ++ [32] := by
  induction l with
  | nil => simp [spellAll]
  | cons x r ih => simp only [List.cons_append, spellAll, ih]; simp

theorem skip_blank (u : List UInt8) : skip (32 :: u) 0 = 1 + skip u 0 := by
  have h1 : scan isBlank (32 :: u) 0 = scan isBlank (32 :: u) (1 + 0) := by
    rw [scan_drop isBlank (32 :: u) 1 0]
    unfold scan
    have : (32 :: u).takeWhile isBlank = 32 :: u.takeWhile isBlank := by rw [List.takeWhile_cons]; rfl
    simp [this]
    omega
  have h2 : skipN (32 :: u) ((32 :: u).length + 1) 0 = skipN (32 :: u) ((32 :: u).length + 1) (1 + 0) := by
    unfold skipN
    rw [h1]
  unfold skip
  rw [h2, skipN_drop]
  show 1 + skipN u _ 0 = _
  rw [skipN_fuel u ((32 :: u).length + 1) (u.length + 1) 0 (by omega) (by simp; omega) (by omega)]

theorem run_again (l : List Tk) (h : ∀ t ∈ l, Good t) : ∃ m, run (spellAll l) (skip (spellAll l) 0) = some m ∧ m.length = l.length ∧ ∀ i, i < l.length → ∃ a : Int, m[i]? = (l[i]?).map fun t => ⟨t.k, t.t, t.n, a⟩ := by
  induction l with
  | nil => exact ⟨[], run_end [], rfl, fun i hi => by simp at hi⟩
  | cons t r ih =>
    obtain ⟨m, hm, hlen, hel⟩ := ih fun x hx => h x (by simp [hx])
    have ht := h t (by simp)
    obtain ⟨J, hJ⟩ : ∃ J, spell t ++ 32 :: spellAll r = J := ⟨_, rfl⟩
    have hJ0 : spellAll (t :: r) = J := hJ
    have hsk := skip_again t ht (spellAll r)
    have hnx := next_again t ht (spellAll r)
    rw [hJ] at hsk hnx
    have hlenJ : J.length = (spell t).length + 1 + (spellAll r).length := by rw [← hJ]; simp; omega
    have hd1 : J.drop (spell t).length = 32 :: spellAll r := by rw [← hJ, List.drop_left]
    have hd2 : J.drop ((spell t).length + 1) = spellAll r := by rw [← List.drop_drop, hd1]; rfl
    have hk := skip_le (spellAll r) 0 (by omega)
    have h1 : skip J (spell t).length = (spell t).length + 1 + skip (spellAll r) 0 := by
      have := skip_drop J (spell t).length 0 (by omega)
      rw [Nat.add_zero, hd1, skip_blank] at this
      omega
    have h2 := run_drop J ((spell t).length + 1) (J.length + 1) (skip (spellAll r) 0) (by omega) (by omega)
    rw [hd2, hm] at h2
    refine ⟨⟨t.k, t.t, t.n, 0⟩ :: m.map (shiftTk ((spell t).length + 1)), ?_, by simp [hlen], fun i hi => ?_⟩
    · rw [hJ0, hsk, run_step J 0 (by omega), hnx]
      have : (sDone == sDone) = true := by decide
      simp only [this]
      rw [h1, h2]
      rfl
    · cases i with
      | zero => exact ⟨0, rfl⟩
      | succ i =>
        obtain ⟨a, ha⟩ := hel i (by simpa using hi)
        simp only [List.getElem?_cons_succ, List.getElem?_map, ha]
        cases r[i]? with
        | none => exact ⟨0, rfl⟩
        | some x => exact ⟨a + ((spell t).length + 1 : Nat), rfl⟩

theorem lex_again (l : List Tk) (h : ∀ t ∈ l, Good t) (hl : l.length ≤ 600) (hs : (spellAll l).length ≤ 2000) :
    (lexScan (spellAll l)).2 = sDone ∧ (lexScan (spellAll l)).1.length = l.length ∧ ∀ i, i < l.length → ∃ a : Int, (lexScan (spellAll l)).1[i]? = (l[i]?).map fun t => ⟨t.k, t.t, t.n, a⟩ := by
  obtain ⟨m, hm, hlen, hel⟩ := run_again l h
  have hd : (lexScan (spellAll l)).2 = sDone := (lexScan_done _).1.2 ⟨hs, m, hm, by omega⟩
  have he := (lexScan_done _).2.1 hd
  rw [hm] at he
  simp only [Option.some.injEq] at he
  rw [← he]
  exact ⟨hd, hlen, hel⟩
end Go.AM

namespace Go.AM
open Go.Proofs
set_option maxRecDepth 100000
set_option maxHeartbeats 1000000
set_option linter.unusedVariables false
theorem Lx.fn4 : FnOk Tryd.prog 4 (fni Tryd.f4 a4) := ⟨⟨Tryd.f4, Tryd.func4, rfl, rfl, rfl, by kernel_rfl⟩, by kernel_rfl⟩
noncomputable def c4 : Code := (fni Tryd.f4 a4).loop 0
noncomputable def c4b : Code := (fni Tryd.f4 a4).loop 1
theorem Lx.c4 : codeOk 79 a4 c4 = true := by kernel_rfl
theorem Lx.c4b : codeOk 79 a4 c4b = true := by kernel_rfl
theorem step4 (K : Ex → Env → St → Prop) (env : Env) (S : St) (h : xcode (pAlg Tryd.prog (Lx.tab real) 79) (Lx.tab real) a4 0 c4 (andThen (LoopP Tryd.prog (Lx.tab real) 79 c4 K) K) env S) : LoopP Tryd.prog (Lx.tab real) 79 c4 K env S :=
  loopP_step Lx.tabOk Lx.mixed Lx.c4 h
theorem step4b (K : Ex → Env → St → Prop) (env : Env) (S : St) (h : xcode (pAlg Tryd.prog (Lx.tab real) 79) (Lx.tab real) a4 0 c4b (andThen (LoopP Tryd.prog (Lx.tab real) 79 c4b K) K) env S) : LoopP Tryd.prog (Lx.tab real) 79 c4b K env S :=
  loopP_step Lx.tabOk Lx.mixed Lx.c4b h

theorem again_spell (l : List Tk) (hl : l.length ≤ 600) (hg : ∀ t ∈ l, Good t) (K : Ex → Env → St → Prop) (hK : ∀ S', K (.exit 0) [(3, tokV l), (5, .str (spellAll l))] S') (r : List Tk) :
    ∀ (pre : List Tk) (y : Int) (S : St), l = pre ++ r → y = pre.length → (spellAll pre).length ≤ 2000 * pre.length →
      LoopP Tryd.prog (Lx.tab real) 79 c4 (Less K) [(3, tokV l), (5, .str (spellAll pre)), (6, .int .i64 y)] S := by
  induction r with
  | nil =>
    intro pre y S hpre hy _
    have hpl : pre = l := by rw [hpre]; simp
    obtain ⟨e3, c3, m3, he3, hc3, _⟩ := tokV_len l
    rw [hpl] at hy
    rw [he3] at hK
    rw [he3, hpl]
    apply step4
    apply gen_code (mk := Lx.tab)
    intro fail need same call loop len slen arith shift cmp conv eqS ltS cat app elt byt subS subL strOf isB fit inb cut room not and eqB avs G
    have hb : cmp BinOp.lss y (len c3) = false := by rw [G.cmp', G.len', hc3]; simp [intRel]; omega
    generalize LoopP Tryd.prog (Lx.tab real) 79 c4 (Less K) = L at *
    generalize hK' : Less K = K' at *
    generalize spellAll l = sp at *
    clear hg
    cbv
    refine GenH.need' G rfl ?_
    rw [hb]
    cbv
    rw [← hK']
    exact ⟨_, .cons rfl (.cons rfl (.nil _)), hK _⟩
  | cons t r ih =>
    intro pre y S hpre hy hsz
    have hgt := hg t (by rw [hpre]; simp)
    have hsl := hgt.spellLen
    have hget : l[pre.length]? = some t := by rw [hpre]; simp
    have hylen : pre.length < l.length := by rw [hpre]; simp
    have happ := spellAll_app pre t
    have hgo := fun S' => ih (pre ++ [t]) (y + 1) S' (by rw [hpre]; simp) (by simp; omega) (by rw [happ]; simp only [List.length_append, List.length_singleton]; omega)
    clear ih
    have hspec := fun S K hK => spelled_spec t hgt.nums (by have := hgt.size; omega) S K hK
    obtain ⟨e3, c3, m3, he3, hc3, h3⟩ := tokV_len l
    have h33 := h3 (by intro h; rw [h] at hpre; simp at hpre)
    subst h33
    rw [he3] at hgo ⊢
    rw [happ] at hgo
    generalize spellAll pre = acc at *
    generalize hspt : spell t = sp at *
    obtain ⟨k, tt, n, a⟩ := t
    simp only [Tk.av] at hspec
    apply step4
    apply gen_code (mk := Lx.tab)
    intro fail need same call loop len slen arith shift cmp conv eqS ltS cat app elt byt subS subL strOf isB fit inb cut room not and eqB avs G
    have hb : cmp BinOp.lss y (len c3) = true := by rw [G.cmp', G.len', hc3]; simp [intRel]; omega
    have hin : inb y (len c3) = true := by rw [G.inb', G.len', hc3]; simp; omega
    have helt : elt c3 y = .agg [.int .i64 k, .str tt, .int .i64 n, .int .i64 a] := by
      rw [G.elt', hc3, hy]
      simp only [Int.toNat_natCast, List.getD_eq_getElem?_getD, List.getElem?_map, hget]
      rfl
    have hone : arith BinOp.add IntKind.i64 y 1 = y + 1 := by rw [G.arith']; exact wrap_i64 _ (by omega) (by omega)
    have hc1 : cat acc sp = acc ++ sp := by rw [G.cat']
    have hc2 : cat (acc ++ sp) [32] = acc ++ sp ++ [32] := by rw [G.cat']
    have hf1 : fit acc sp = true := by rw [G.fit']; simp; omega
    have hf2 : fit (acc ++ sp) [32] = true := by rw [G.fit']; simp; omega
    clear hc3 he3 hget hylen hsz hsl hpre hy happ hgt hg hl hspt
    generalize acc ++ sp ++ [32] = acc3 at *
    generalize acc ++ sp = acc2 at *
    generalize y + 1 = y1 at *
    generalize hL : LoopP Tryd.prog (Lx.tab real) 79 c4 (Less K) = L at hgo ⊢
    generalize hK' : Less K = K' at hL ⊢
    cbv
    refine GenH.need' G rfl ?_
    rw [hb]
    cbv
    refine GenH.need' G hin ?_
    rw [helt]
    refine GenH.call' G (hspec _ _ ?_)
    cbv
    refine GenH.need' G hf1 ?_
    rw [hc1]
    refine GenH.need' G hf2 (GenH.need' G rfl ?_)
    rw [hc2, hone]
    have go := fun S' => hgo S'
    rw [← hL] at go ⊢
    exact LoopP.weak (.cons rfl (.cons rfl (.cons rfl (.nil _)))) (go _)

theorem again_cmp (l m : List Tk) (hl : l.length ≤ 600) (hm : m.length = l.length) (hsame : ∀ i, i < l.length → ∃ a : Int, m[i]? = (l[i]?).map fun t => ⟨t.k, t.t, t.n, a⟩) (K : Ex → Env → St → Prop) (hK : ∀ S', K (.exit 2) [] S') (n : Nat) :
    ∀ (k : Nat) (y : Int) (S : St), y = k → k + n = l.length →
      LoopP Tryd.prog (Lx.tab real) 79 c4b (Less K) [(3, tokV l), (7, tokV m), (9, .int .i64 y)] S := by
  induction n with
  | zero =>
    intro k y S hy hk
    obtain ⟨e1, c1, m1, he1, hc1, _⟩ := tokV_len l
    rw [he1]
    apply step4b
    apply gen_code (mk := Lx.tab)
    intro fail need same call loop len slen arith shift cmp conv eqS ltS cat app elt byt subS subL strOf isB fit inb cut room not and eqB avs G
    have hb : cmp BinOp.lss y (len c1) = false := by rw [G.cmp', G.len', hc1]; simp [intRel]; omega
    generalize LoopP Tryd.prog (Lx.tab real) 79 c4b (Less K) = L at *
    generalize hK' : Less K = K' at *
    generalize tokV m = vm at *
    cbv
    refine GenH.need' G rfl ?_
    rw [hb]
    cbv
    rw [← hK']
    exact ⟨[], .nil _, hK _⟩
  | succ n ih =>
    intro k y S hy hk
    have hgo := fun S' => ih (k + 1) (y + 1) S' (by omega) (by omega)
    clear ih
    obtain ⟨O, mm, caps⟩ := S
    obtain ⟨p1, hp1⟩ := hsame k (by omega)
    have hkl : k < l.length := by omega
    obtain ⟨t, ht⟩ : ∃ t, l[k]? = some t := ⟨_, List.getElem?_eq_getElem hkl⟩
    rw [ht] at hp1
    simp only [Option.map_some] at hp1
    obtain ⟨k1, t1, n1, p0⟩ := t
    simp only at hp1
    obtain ⟨e1, c1, m1, he1, hc1, h1⟩ := tokV_len l
    obtain ⟨e2, c2, m2, he2, hc2, h2⟩ := tokV_len m
    have h11 := h1 (by rintro rfl; simp at hkl)
    have h22 := h2 (by rintro rfl; simp at hm; omega)
    subst h11
    subst h22
    rw [he1, he2] at hgo ⊢
    apply step4b
    apply gen_code (mk := Lx.tab)
    intro fail need same call loop len slen arith shift cmp conv eqS ltS cat app elt byt subS subL strOf isB fit inb cut room not and eqB avs G
    have hb : cmp BinOp.lss y (len c1) = true := by rw [G.cmp', G.len', hc1]; simp [intRel]; omega
    have hin1 : inb y (len c1) = true := by rw [G.inb', G.len', hc1]; simp; omega
    have hin2 : inb y (len c2) = true := by rw [G.inb', G.len', hc2]; simp; omega
    have helt1 : elt c1 y = .agg [.int .i64 k1, .str t1, .int .i64 n1, .int .i64 p0] := by
      rw [G.elt', hc1, hy]
      simp only [Int.toNat_natCast, List.getD_eq_getElem?_getD, List.getElem?_map, ht]
      rfl
    have helt2 : elt c2 y = .agg [.int .i64 k1, .str t1, .int .i64 n1, .int .i64 p1] := by
      rw [G.elt', hc2, hy]
      simp only [Int.toNat_natCast, List.getD_eq_getElem?_getD, List.getElem?_map, hp1]
      rfl
    have hone : arith BinOp.add IntKind.i64 y 1 = y + 1 := by rw [G.arith']; exact wrap_i64 _ (by omega) (by omega)
    have heq : not (and (cmp BinOp.eql k1 k1) (and (eqS t1 t1) (and (cmp BinOp.eql n1 n1) (and (cmp BinOp.eql p1 p1) true)))) = false := by
      rw [G.not', G.and', G.cmp', G.eqS']; simp [intRel]
    have hnn : Nat.beq mm mm = true := Nat.beq_refl mm
    have hbb : Nat.ble mm mm = true := Nat.ble_eq_true_of_le (Nat.le_refl mm)
    clear hc1 hc2 he1 he2 h1 h2 ht hp1 hkl hk hy hsame hl hm
    generalize hL : LoopP Tryd.prog (Lx.tab real) 79 c4b (Less K) = L at hgo ⊢
    generalize hK' : Less K = K' at hL ⊢
    generalize y + 1 = y1 at *
    cbv at hnn hbb
    cbv
    refine GenH.need' G rfl ?_
    rw [hb]
    cbv
    refine GenH.need' G hin1 ?_
    rw [helt1]
    cbv
    iterate 6 (first | (rw [hnn]; cbv) | (rw [hbb]; cbv) | skip)
    refine GenH.need' G hin2 ?_
    rw [helt2]
    cbv
    iterate 8 (first | (rw [hnn]; cbv) | (rw [hbb]; cbv) | skip)
    iterate 2 (first | refine GenH.need' G hin2 ?_ | skip)
    rw [helt2]
    cbv
    iterate 8 (first | (rw [hnn]; cbv) | (rw [hbb]; cbv) | skip)
    rw [heq]
    cbv
    refine GenH.need' G rfl ?_
    rw [hone]
    have go := fun S' => hgo S'
    rw [← hL] at go ⊢
    exact LoopP.weak (.cons rfl (.cons rfl (.cons rfl (.nil _)))) (go _)

theorem again_law (s : List UInt8) : CallP Tryd.prog (Lx.tab real) 4 [.str s] St.nil fun o _ => o = .ret (.bool true) := by
  apply body_calls (un := 0) Lx.tabOk Lx.mixed Lx.fn4 (Nat.le_of_ble_eq_true rfl)
  apply gen_body (mk := Lx.tab)
  intro fail need same call loop len slen arith shift cmp conv eqS ltS cat app elt byt subS subL strOf isB fit inb cut room not and eqB avs G
  have w1 := fun S K => scan_spec s S K
  have hch := lex_chain s
  have hbad := (lexScan_done s).2.2
  obtain ⟨l, hl⟩ : ∃ l, (lexScan s).1 = l := ⟨_, rfl⟩
  obtain ⟨e, he⟩ : ∃ e, (lexScan s).2 = e := ⟨_, rfl⟩
  rw [hl, he] at w1 hch hbad
  have w2 := fun S K => scan_spec (spellAll l) S K
  have nee : not (eqS e [48, 48, 48, 48, 48]) = !(e == sDone) := by rw [G.not', G.eqS']; rfl
  have hA : (e == sDone) = true → ∀ K (hK : ∀ S', K (.exit 0) [(3, tokV l), (5, .str (spellAll l))] S'), LoopP Tryd.prog (Lx.tab real) 79 c4 (Less K) [(3, tokV l), (5, .str []), (6, .int .i64 0)] ⟨[], 0, []⟩ := fun h K hK => by
    obtain ⟨h1, h2, h3⟩ := hch (by simpa using h)
    exact again_spell l h2 (chain_good h3) K hK l [] 0 _ rfl rfl (by simp [spellAll])
  have hgt : cmp BinOp.gtr (slen (spellAll l)) 2000 = decide (2000 < (spellAll l).length) := by
    rw [G.cmp', G.slen']; simp only [intRel]; rw [Bool.eq_iff_iff]; simp only [decide_eq_true_eq]; omega
  obtain ⟨m, hm⟩ : ∃ m, (lexScan (spellAll l)).1 = m := ⟨_, rfl⟩
  obtain ⟨f, hf⟩ : ∃ f, (lexScan (spellAll l)).2 = f := ⟨_, rfl⟩
  have hB : (e == sDone) = true → decide (2000 < (spellAll l).length) = false → (f == sDone) = true ∧ cmp BinOp.neq (len (m.map Tk.av)) (len (l.map Tk.av)) = false ∧
      ∀ (S0 : St) K (hK : ∀ S', K (.exit 2) [] S'), LoopP Tryd.prog (Lx.tab real) 79 c4b (Less K) [(3, tokV l), (7, tokV m), (9, .int .i64 0)] S0 := fun h h' => by
    obtain ⟨h1, h2, h3⟩ := hch (by simpa using h)
    obtain ⟨g1, g2, g3⟩ := lex_again l (chain_good h3) h2 (by have := of_decide_eq_false h'; omega)
    rw [hf] at g1
    rw [hm] at g2 g3
    refine ⟨by simpa using g1, ?_, fun S0 K hK => again_cmp l m h2 g2 g3 K hK l.length 0 0 _ rfl (by omega)⟩
    rw [G.len', G.cmp']
    simp [intRel, g2]
  rw [hm, hf] at w2
  have nef : not (eqS f [48, 48, 48, 48, 48]) = !(f == sDone) := by rw [G.not', G.eqS']; rfl
  obtain ⟨t1, c1, m1, he1, hc1, _⟩ := tokV_len l
  obtain ⟨t2, c2, m2, he2, hc2, _⟩ := tokV_len m
  have hzero : (e == sDone) = false → cmp BinOp.eql (len c1) 0 = true := fun h => by
    rw [G.cmp', G.len', hc1, hbad (by simpa using h)]; rfl
  rw [← hc1, ← hc2, he1, he2] at hB
  rw [he1] at w1 hA
  rw [he2] at w2
  generalize hK' : (fun (o : Out) (_ : St) => o = .ret (.bool true)) = K0
  have hfin : ∀ S, K0 (.ret (.bool true)) S := fun S => by rw [← hK']
  generalize hse : (e == sDone) = se at *
  generalize hsf : (f == sDone) = sf at *
  generalize decide (2000 < (spellAll l).length) = dd at *
  generalize spellAll l = sp at *
  clear hl he hch hbad hc1 he1 hse hm hf hc2 he2 hsf
  cbv
  refine GenH.call' G (w1 _ _ ?_)
  cbv
  rw [nee]
  cases se with
  | false =>
    cbv
    refine GenH.call' G (alive_spec _ _ ?_)
    cbv
    refine GenH.need' G rfl ?_
    rw [hzero rfl]
    exact hfin _
  | true =>
    cbv
    refine GenH.loop' G ?_
    change LoopP Tryd.prog (Lx.tab real) 79 c4 _ _ _
    refine LoopP.relax (LoopP.weak (env' := [(3, .slice t1 c1 m1), (5, .str []), (6, .int .i64 0)]) (.cons rfl (.cons rfl (.cons rfl (.nil _)))) ?_)
    refine hA rfl _ fun S' => ?_
    cbv
    refine GenH.need' G rfl ?_
    rw [hgt]
    cases dd with
    | true =>
      cbv
      refine GenH.call' G (alive_spec _ _ ?_)
      cbv
      exact hfin _
    | false =>
      obtain ⟨rfl, hneq, hloop⟩ := hB rfl rfl
      cbv
      refine GenH.call' G (w2 _ _ ?_)
      cbv
      rw [nef]
      cbv
      refine GenH.need' G rfl ?_
      rw [hneq]
      cbv
      refine GenH.loop' G ?_
      change LoopP Tryd.prog (Lx.tab real) 79 c4b _ _ _
      refine LoopP.relax (LoopP.weak (env' := [(3, .slice t1 c1 m1), (7, .slice t2 c2 m2), (9, .int .i64 0)]) (.cons rfl (.cons rfl (.cons rfl (.nil _)))) ?_)
      refine hloop _ _ fun S'' => ?_
      cbv
      refine GenH.call' G (alive_spec _ _ ?_)
      cbv
      exact hfin _
end Go.AM
