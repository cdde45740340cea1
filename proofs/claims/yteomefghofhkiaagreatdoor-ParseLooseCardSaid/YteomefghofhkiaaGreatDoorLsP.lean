/- A text whose tokens are written anew has the same tree: the plain law. -/
import Derived.Test.YteomefghofhkiaaGreatDoorLsScanD
import Derived.Test.YteomefghofhkiaaGreatDoorLsN
import Derived.Test.YteomefghofhkiaaGreatDoorLsO
set_option maxRecDepth 100000
set_option maxHeartbeats 4000000
set_option linter.unusedVariables false
set_option linter.unusedSimpArgs false
namespace Go.AM
open Go.Proofs
def digs : Nat → Nat → List UInt8 → List UInt8
 | 0, _, acc => acc
 | n + 1, m, acc => match decide (m / 10 = 0) with
  | true => UInt8.ofNat (48 + m % 10) :: acc
  | false => digs n (m / 10) (UInt8.ofNat (48 + m % 10) :: acc)
def figs (m : Nat) : List UInt8 := digs 20 m []
theorem dbl_len (l : List UInt8) : (dbl l).length ≤ 2 * l.length := by
 induction l with
 | nil => simp [dbl]
 | cons c r ih => unfold dbl; cases c == 39 <;> simp <;> omega
theorem byte_all {p : UInt8 → Bool} (h : ∀ n : Fin 256, p (UInt8.ofNat n.val) = true) (c : UInt8) : p c = true := by
 have := h ⟨c.toNat, c.toNat_lt⟩
 simpa using this
theorem low_word (c : UInt8) (h : isWord c = true) : isWord (low c) = true := by
 have := byte_all (p := fun c => !isWord c || isWord (low c)) (by decide) c
 simpa [h] using this
theorem low_letter (c : UInt8) (h : isLetter c = true) : isLetter (low c) = true := by
 have := byte_all (p := fun c => !isLetter c || isLetter (low c)) (by decide) c
 simpa [h] using this
theorem low_low (c : UInt8) : low (low c) = low c := by
 have := byte_all (p := fun c => low (low c) == low c) (by decide) c
 simpa using this
theorem digit_letter (c : UInt8) (h : isDigit c = true) : isLetter c = false := by
 have := byte_all (p := fun c => !isDigit c || !isLetter c) (by decide) c
 simpa [h] using this
theorem letter_blank (c : UInt8) (h : isLetter c = true) : isBlank c = false ∧ (45 == c) = false := by
 have := byte_all (p := fun c => !isLetter c || (!isBlank c && !(45 == c))) (by decide) c
 simpa [h] using this
theorem tw_whole (q : UInt8 → Bool) : ∀ l : List UInt8, (∀ c ∈ l, q c = true) → l.takeWhile q = l
 | [], _ => rfl
 | c :: l, h => by
  rw [List.takeWhile_cons, h c (by simp)]
  simp only [if_true]
  rw [tw_whole q l fun x hx => h x (by simp [hx])]
theorem digs_ok (n : Nat) : ∀ m acc, m < 10 ^ n → n ≠ 0 → (∀ c ∈ acc, isDigit c = true) → (∀ c ∈ digs n m acc, isDigit c = true) ∧ (∀ b, numFold b (digs n m acc) = numFold (b * 10 ^ ((digs n m acc).length - acc.length) + m) acc) ∧ acc.length < (digs n m acc).length ∧ (digs n m acc).length ≤ acc.length + n := by
 induction n with
 | zero => intro m acc _ h; exact absurd rfl h
 | succ n ih =>
  intro m acc hm _ ha
  have hd : m % 10 < 10 := Nat.mod_lt _ (by omega)
  have hdig : ∀ k, k < 10 → isDigit (UInt8.ofNat (48 + k)) = true ∧ (UInt8.ofNat (48 + k)).toNat - 48 = k := by decide
  obtain ⟨hc1, hc2⟩ := hdig _ hd
  unfold digs
  cases h0 : decide (m / 10 = 0) with
  | true =>
   have h0' := of_decide_eq_true h0
   simp only
   refine ⟨fun c hc => ?_, fun b => ?_, by simp, by simp⟩
   · rcases List.mem_cons.1 hc with rfl | hc
     · exact hc1
     · exact ha c hc
   · simp only [numFold, List.foldl_cons, hc2, List.length_cons]
     rw [show acc.length + 1 - acc.length = 1 by omega]
     congr 1
     omega
  | false =>
   have h0' := of_decide_eq_false h0
   simp only
   have hm2 : m / 10 < 10 ^ n := by rw [Nat.pow_succ] at hm; omega
   have hn : n ≠ 0 := by rintro rfl; simp at hm2; omega
   obtain ⟨h1, h2, h3, h4⟩ := ih (m / 10) (UInt8.ofNat (48 + m % 10) :: acc) hm2 hn (fun c hc => by
    rcases List.mem_cons.1 hc with rfl | hc
    · exact hc1
    · exact ha c hc)
   generalize digs n (m / 10) (UInt8.ofNat (48 + m % 10) :: acc) = D at *
   simp only [List.length_cons] at h2 h3 h4
   refine ⟨h1, fun b => ?_, by omega, by omega⟩
   rw [h2 b]
   simp only [numFold, List.foldl_cons, hc2]
   congr 1
   obtain ⟨e, he⟩ : ∃ e, D.length - acc.length = e + 1 := ⟨D.length - acc.length - 1, by omega⟩
   rw [he, show D.length - (acc.length + 1) = e by omega, Nat.pow_succ, ← Nat.mul_assoc]
   omega
theorem figs_ok (m : Nat) (h : m < 9223372036854775808) : (∀ c ∈ figs m, isDigit c = true) ∧ numFold 0 (figs m) = m ∧ figs m ≠ [] ∧ (figs m).length ≤ 20 := by
 obtain ⟨h1, h2, h3, h4⟩ := digs_ok 20 m [] (by omega) (by omega) (by simp)
 refine ⟨h1, ?_, ?_, Nat.le_trans h4 (Nat.le_of_eq (Nat.zero_add 20))⟩
 · have := h2 0
   simpa [figs, numFold] using this
 · intro he
   unfold figs at he
   rw [he] at h3
   simp at h3
theorem txtN_again (e : UInt8) (he : (e != 39) = true) (rest : List UInt8) (m : Nat) : ∀ b : List UInt8, b.length ≤ m → b.all goodB = true → ∀ n acc, b.length < n →
  txtN (dbl b ++ 39 :: e :: rest) n 0 acc true = some (acc ++ b, true, (dbl b).length + 1) := by
 induction m with
 | zero =>
  intro b hb hg n acc hn
  obtain rfl : b = [] := List.length_eq_zero_iff.1 (by omega)
  obtain ⟨n', rfl⟩ : ∃ n', n = n' + 1 := ⟨n - 1, by omega⟩
  unfold txtN
  have e0 : scan notQ (dbl [] ++ 39 :: e :: rest) 0 = 0 := rfl
  rw [e0]
  simp [dbl, notQ]
  rw [he]
 | succ m ih =>
  intro b hb hg n acc hn
  obtain ⟨n', rfl⟩ : ∃ n', n = n' + 1 := ⟨n - 1, by omega⟩
  obtain ⟨b1, hb1⟩ : ∃ b1, b.takeWhile notQ = b1 := ⟨_, rfl⟩
  obtain ⟨b2, hb2⟩ : ∃ b2, b.dropWhile notQ = b2 := ⟨_, rfl⟩
  have hsplit : b = b1 ++ b2 := by rw [← hb1, ← hb2, List.takeWhile_append_dropWhile]
  have hq1 : ∀ c ∈ b1, notQ c = true := fun c hc => by rw [← hb1] at hc; exact tw_mem notQ b c hc
  have hd1 : dbl b1 = b1 := dbl_notQ b1 hq1
  have hg1 : b1.all goodB = true := by rw [hsplit, List.all_append, Bool.and_eq_true] at hg; exact hg.1
  have hg2 : b2.all goodB = true := by rw [hsplit, List.all_append, Bool.and_eq_true] at hg; exact hg.2
  have htw : ∀ r, (b1 ++ 39 :: r).takeWhile notQ = b1 := fun r => by
   rw [tw_stop notQ 39 r rfl, tw_whole notQ b1 hq1]
  cases b2 with
  | nil =>
   have hbb : b = b1 := by simpa using hsplit
   rw [hbb, hd1]
   unfold txtN scan
   simp only [List.drop_zero, htw, Nat.zero_add]
   have e1 : decide (b1.length = (b1 ++ 39 :: e :: rest).length) = false := decide_eq_false (by simp)
   have e2 : decide (b1.length + 1 = (b1 ++ 39 :: e :: rest).length) = false := decide_eq_false (by simp)
   have e3 : ((b1 ++ 39 :: e :: rest).getD (b1.length + 1) 0 != 39) = true := by
    have e4 : (b1 ++ 39 :: e :: rest).getD (b1.length + 1) 0 = e := by simp [List.getD_eq_getElem?_getD]
    rw [e4]; exact he
   rw [e1, e2, e3, hg1]
   rfl
  | cons c b3 =>
   have hc : c = 39 := by
    have : b.dropWhile notQ = c :: b3 := hb2
    have h2 := List.head?_dropWhile_not (p := notQ) b
    rw [this] at h2
    simpa [notQ] using h2
   subst hc
   have hdb : dbl b = b1 ++ 39 :: 39 :: dbl b3 := by rw [hsplit, dbl_app, hd1]; rfl
   have hl : b.length = b1.length + 1 + b3.length := by rw [hsplit]; simp; omega
   have hg3 : b3.all goodB = true := by rw [List.all_cons, Bool.and_eq_true] at hg2; exact hg2.2
   rw [hdb]
   have hS : b1 ++ 39 :: 39 :: dbl b3 ++ 39 :: e :: rest = b1 ++ 39 :: 39 :: (dbl b3 ++ 39 :: e :: rest) := by simp
   rw [hS]
   have hrec := ih b3 (by omega) hg3 n' (acc ++ b1 ++ [39]) (by omega)
   have hdrop : (b1 ++ 39 :: 39 :: (dbl b3 ++ 39 :: e :: rest)).drop (b1.length + 2) = dbl b3 ++ 39 :: e :: rest := by
    rw [List.drop_append]
    simp
   have hstep := txtN_drop (b1 ++ 39 :: 39 :: (dbl b3 ++ 39 :: e :: rest)) (b1.length + 2) n' (by simp) 0 (acc ++ b1 ++ [39]) true
   rw [hdrop, hrec] at hstep
   generalize hR : dbl b3 ++ 39 :: e :: rest = R at *
   unfold txtN scan
   simp only [List.drop_zero, htw, Nat.zero_add]
   have e1 : decide (b1.length = (b1 ++ 39 :: 39 :: R).length) = false := decide_eq_false (by simp)
   have e2 : decide (b1.length + 1 = (b1 ++ 39 :: 39 :: R).length) = false := decide_eq_false (by simp)
   have e3 : ((b1 ++ 39 :: 39 :: R).getD (b1.length + 1) 0 != 39) = false := by simp [List.getD_eq_getElem?_getD]
   rw [e1, e2, e3, hg1]
   simp only [Bool.or_self, Bool.and_self]
   rw [Nat.add_zero] at hstep
   rw [hstep, hsplit]
   simp
   omega
theorem txtN_good (s : List UInt8) (n : Nat) : ∀ i b ok b' j, txtN s n i b ok = some (b', true, j) → b.all goodB = true → b'.all goodB = true := by
 induction n with
 | zero => intro i b ok b' j h; cases h
 | succ n ih =>
  intro i b ok b' j h hb
  unfold txtN at h
  cases h1 : decide (scan notQ s i = s.length) with
  | true => rw [h1] at h; cases h
  | false =>
   rw [h1] at h
   simp only at h
   cases hx : (decide (scan notQ s i + 1 = s.length) || s.getD (scan notQ s i + 1) 0 != 39) with
   | true =>
    rw [hx] at h
    simp only [Option.some.injEq, Prod.mk.injEq, Bool.and_eq_true] at h
    obtain ⟨rfl, ⟨_, h2⟩, _⟩ := h
    rw [List.all_append, hb, h2]; rfl
   | false =>
    rw [hx] at h
    cases hy : ((s.drop i).takeWhile notQ).all goodB with
    | true => exact ih _ _ _ _ _ h (by rw [List.all_append, List.all_append, hb, hy]; decide)
    | false =>
     rw [hy] at h
     exfalso
     rw [Bool.and_false] at h
     have : ∀ n i b b' j, txtN s n i b false ≠ some (b', true, j) := by
      intro n
      induction n with
      | zero => intro i b b' j h; cases h
      | succ n ih =>
       intro i b b' j h
       unfold txtN at h
       cases h1 : decide (scan notQ s i = s.length) with
       | true => rw [h1] at h; cases h
       | false =>
        rw [h1] at h
        simp only [Bool.false_and] at h
        cases hx : (decide (scan notQ s i + 1 = s.length) || s.getD (scan notQ s i + 1) 0 != 39) with
        | true => rw [hx] at h; simp at h
        | false => rw [hx] at h; exact ih _ _ _ _ h
     exact this _ _ _ _ _ h
end Go.AM
namespace Go.AM
open Go.Proofs
inductive Good : Tk → Prop
 | word (w : List UInt8) (a : Int) (h0 : ∀ c ∈ w, isWord c = true ∧ low c = c) (c : UInt8) (r : List UInt8) (hc : w = c :: r) (hl : isLetter c = true) (h32 : w.length ≤ 32) : Good ⟨0, w, 0, a⟩
 | num (v : Nat) (a : Int) (hv : v < 9223372036854775808) : Good ⟨1, [], v, a⟩
 | text (b : List UInt8) (a : Int) (hg : b.all goodB = true) (h4 : b.length ≤ 400) : Good ⟨2, b, 0, a⟩
 | sign (x : List UInt8) (a : Int) (hx : x ∈ Pr.signs) : Good ⟨3, x, 0, a⟩
theorem TokIs.good {s : List UInt8} {i j : Nat} {t : Tk} (h : TokIs s i t j) (hi : i < s.length) : Good t := by
 cases h with
 | word w hw hl h32 =>
  have hdrop : s.drop i = s.getD i 0 :: s.drop (i + 1) := by
   rw [List.drop_eq_getElem_cons hi]; simp [List.getD_eq_getElem?_getD, hi]
  have hwc : w = s.getD i 0 :: (s.drop (i + 1)).takeWhile isWord := by
   rw [hw, hdrop, List.takeWhile_cons]
   have : isWord (s.getD i 0) = true := by unfold isWord; rw [hl]; rfl
   rw [this]; rfl
  refine .word _ _ (fun c hc => ?_) (low (s.getD i 0)) (((s.drop (i + 1)).takeWhile isWord).map low) (by rw [hwc]; rfl) (low_letter _ hl) (by simpa using h32)
  obtain ⟨c0, hc0, rfl⟩ := List.mem_map.1 hc
  rw [hw] at hc0
  exact ⟨low_word _ (tw_mem isWord _ _ hc0), low_low _⟩
 | num hd v hv => exact .num v _ hv
 | text b j hb h4 => exact .text b _ (txtN_good s _ _ _ _ _ _ hb rfl) h4
 | sign x hx hp => exact .sign x _ hx
theorem chain_good {s : List UInt8} {p : Nat} {l : List Tk} (h : Chain s p l) : ∀ t ∈ l, Good t := by
 induction h with
 | nil p => simp
 | cons p t l j hlt ht hj hle h ih =>
  intro x hx
  rcases List.mem_cons.1 hx with rfl | hx
  · exact ht.good hlt
  · exact ih x hx
theorem Good.nums {t : Tk} (h : Good t) : t.k = 1 → 0 ≤ t.n ∧ t.n < 9223372036854775808 := by
 intro hk
 cases h with
 | word => simp at hk
 | num v a hv => simp only; omega
 | text => simp at hk
 | sign => simp at hk
theorem Good.size {t : Tk} (h : Good t) : t.t.length ≤ 400 := by
 cases h with
 | word w a h0 c r hc hl h32 => simp only; omega
 | num => simp
 | text b a hg h4 => exact h4
 | sign x a hx =>
  have : ∀ x ∈ Pr.signs, x.length ≤ 400 := by decide
  exact this x hx
theorem dbl_ge (b : List UInt8) : b.length ≤ (dbl b).length := by
 induction b with
 | nil => simp
 | cons c r ih => unfold dbl; cases c == 39 <;> simp <;> omega
end Go.AM
namespace Go.AM.Ps
open Go.Proofs W
def up1 (b : Bool) (c : UInt8) : UInt8 := match decide (97 ≤ c.toNat) && (decide (c.toNat ≤ 122) && b) with
 | true => c - 32
 | false => c
def great (odd : Bool) : Bool → List UInt8 → List UInt8
 | _, [] => []
 | ev, c :: r => up1 (ev == odd) c :: great odd (!ev) r
theorem up1_ok (b : Bool) (c : UInt8) : (isWord c = true → isWord (up1 b c) = true) ∧ (isLetter c = true → isLetter (up1 b c) = true) ∧ (low c = c → low (up1 b c) = c) := by
 have h := byte_all (p := fun c => (!isWord c || isWord (up1 true c)) && ((!isLetter c || isLetter (up1 true c)) && (!(low c == c) || (low (up1 true c) == c)))) (by decide +kernel) c
 cases b with
 | true =>
  simp only [Bool.and_eq_true, Bool.or_eq_true, Bool.not_eq_true', beq_iff_eq] at h
  refine ⟨fun e => ?_, fun e => ?_, fun e => ?_⟩
  · rcases h.1 with k | k
    · rw [e] at k; cases k
    · exact k
  · rcases h.2.1 with k | k
    · rw [e] at k; cases k
    · exact k
  · rcases h.2.2 with k | k
    · rw [e, beq_self_eq_true] at k; cases k
    · exact k
 | false =>
  have : up1 false c = c := by unfold up1; simp only [Bool.and_false]
  rw [this]
  exact ⟨id, id, id⟩
theorem great_len (odd : Bool) : ∀ (w : List UInt8) (ev : Bool), (great odd ev w).length = w.length
 | [], _ => rfl
 | c :: r, ev => by simp only [great, List.length_cons, great_len odd r (!ev)]
theorem great_word (odd : Bool) : ∀ (w : List UInt8) (ev : Bool), (∀ c ∈ w, isWord c = true) → ∀ c ∈ great odd ev w, isWord c = true
 | [], _, _, c, hc => by simp [great] at hc
 | d :: r, ev, h, c, hc => by
  simp only [great, List.mem_cons] at hc
  rcases hc with rfl | hc
  · exact (up1_ok _ d).1 (h d (by simp))
  · exact great_word odd r (!ev) (fun x hx => h x (by simp [hx])) c hc
theorem great_low (odd : Bool) : ∀ (w : List UInt8) (ev : Bool), (∀ c ∈ w, low c = c) → (great odd ev w).map low = w
 | [], _, _ => rfl
 | d :: r, ev, h => by
  simp only [great, List.map_cons]
  rw [(up1_ok _ d).2.2 (h d (by simp)), great_low odd r (!ev) fun x hx => h x (by simp [hx])]
def spellG (odd : Bool) (x : Tk) : List UInt8 := match x.k == 1 with
 | true => 48 :: 48 :: figs x.n.toNat
 | false => match x.k == 2 with
  | true => 39 :: dbl x.t ++ [39]
  | false => match x.k == 0 with
   | true => great odd true x.t
   | false => x.t
theorem blank_is {e : UInt8} (h : isBlank e = true) : isWord e = false ∧ isDigit e = false ∧ isLetter e = false ∧ (e != 39) = true ∧ (∀ y ∈ Pr.signs, e ∉ y) ∧ e ∉ ([45, 45] : List UInt8) := by
 have := byte_all (p := fun e => !isBlank e || (!isWord e && (!isDigit e && (!isLetter e && ((e != 39) && (decide (∀ y ∈ Pr.signs, e ∉ y) && decide (e ∉ ([45, 45] : List UInt8)))))))) (by decide +kernel) e
 simp only [h, Bool.not_true, Bool.false_or, Bool.and_eq_true, Bool.not_eq_true', decide_eq_true_eq] at this
 exact ⟨this.1, this.2.1, this.2.2.1, this.2.2.2.1, this.2.2.2.2.1, this.2.2.2.2.2⟩
theorem spellG_len (odd : Bool) {t : Tk} (h : Good t) : (spellG odd t).length ≤ 1000 := by
 cases h with
 | word w a h0 c r hc hl h32 => show (great odd true w).length ≤ 1000; rw [great_len]; omega
 | num v a hv => show (48 :: 48 :: figs (v : Int).toNat).length ≤ 1000; have := (figs_ok v hv).2.2.2; simp only [Int.toNat_natCast, List.length_cons]; omega
 | text b a hg h4 => show (39 :: dbl b ++ [39]).length ≤ 1000; have := dbl_len b; simp; omega
 | sign x a hx =>
  have : ∀ x ∈ Pr.signs, x.length ≤ 1000 := by decide
  exact this x hx
theorem next_loose (odd : Bool) (t : Tk) (h : Good t) (e : UInt8) (he : isBlank e = true) (rest : List UInt8) : nextR (spellG odd t ++ e :: rest) 0 = (⟨t.k, t.t, t.n, 0⟩, sDone, (spellG odd t).length) := by
 obtain ⟨b1, b2, b3, b4, b5, b6⟩ := blank_is he
 cases h with
 | word w a h0 c r hc hl h32 =>
  show nextR (great odd true w ++ e :: rest) 0 = (⟨0, w, 0, 0⟩, sDone, (great odd true w).length)
  have hg : (great odd true w ++ e :: rest).getD 0 0 = up1 (true == odd) c := by rw [hc]; rfl
  have htw : ((great odd true w ++ e :: rest).drop 0).takeWhile isWord = great odd true w := by
   rw [List.drop_zero, tw_stop isWord e rest b1, tw_whole isWord _ (great_word odd w true fun c hc => (h0 c hc).1)]
  have hm : (great odd true w).map low = w := great_low odd w true fun c hc => (h0 c hc).2
  unfold nextR scan
  rw [hg, (up1_ok _ c).2.1 hl, htw]
  simp only [wordR, hm, Nat.zero_add]
  rw [decide_eq_false (by rw [great_len]; omega)]
  rfl
 | num v a hv =>
  show nextR (48 :: 48 :: figs (v : Int).toNat ++ e :: rest) 0 = (⟨1, [], v, 0⟩, sDone, (48 :: 48 :: figs (v : Int).toNat).length)
  rw [Int.toNat_natCast]
  obtain ⟨f1, f2, f3, _⟩ := figs_ok v hv
  obtain ⟨u, hu⟩ : ∃ u, u = 48 :: 48 :: figs v := ⟨_, rfl⟩
  have g1 : ∀ c ∈ u, isDigit c = true := fun c hc => by
   rw [hu] at hc
   simp only [List.mem_cons] at hc
   rcases hc with rfl | rfl | hc
   · rfl
   · rfl
   · exact f1 c hc
  have g2 : numFold 0 u = v := by
   rw [hu]
   have e0 : numFold 0 (48 :: 48 :: figs v) = numFold 0 (figs v) := rfl
   rw [e0, f2]
  obtain ⟨c, r, hcr⟩ : ∃ c r, u = c :: r := ⟨48, 48 :: figs v, hu⟩
  rw [← hu]
  clear hu
  subst hcr
  have hd := g1 c (by simp)
  have hg : (c :: r ++ e :: rest).getD 0 0 = c := rfl
  have htw : ((c :: r ++ e :: rest).drop 0).takeWhile isDigit = c :: r := by
   rw [List.drop_zero, tw_stop isDigit e rest b2, tw_whole isDigit _ g1]
  have hg2 : (c :: r ++ e :: rest).getD (c :: r).length 0 = e := by simp [List.getD_eq_getElem?_getD]
  unfold nextR scan
  rw [hg, hd, digit_letter c hd, htw]
  simp only [numR, Nat.zero_add]
  rw [g2, decide_eq_true hv, hg2, b3, Bool.and_false]
  rfl
 | text b a hg h4 =>
  show nextR (39 :: dbl b ++ [39] ++ e :: rest) 0 = (⟨2, b, 0, 0⟩, sDone, (39 :: dbl b ++ [39]).length)
  have hS : 39 :: dbl b ++ [39] ++ e :: rest = 39 :: (dbl b ++ 39 :: e :: rest) := by simp
  rw [hS]
  have hdl := dbl_ge b
  have ht : textR (39 :: (dbl b ++ 39 :: e :: rest)) 1 = (b, sDone, (39 :: dbl b ++ [39]).length) := by
   unfold textR
   have h1 := txtN_again e b4 rest b.length b (Nat.le_refl _) hg ((39 :: (dbl b ++ 39 :: e :: rest)).length + 1) [] (by simp; omega)
   have h2 := txtN_drop (39 :: (dbl b ++ 39 :: e :: rest)) 1 ((39 :: (dbl b ++ 39 :: e :: rest)).length + 1) (by simp) 0 [] true
   rw [Nat.add_zero, List.drop_one, List.tail_cons, h1] at h2
   rw [h2]
   simp only [Option.map_some, textSt, List.nil_append]
   rw [decide_eq_false (by omega)]
   simp
   omega
  unfold nextR
  have hg0 : (39 :: (dbl b ++ 39 :: e :: rest)).getD 0 0 = 39 := rfl
  rw [hg0]
  have e1 : isLetter 39 = false := rfl
  have e2 : isDigit 39 = false := rfl
  have e3 : ((39 : UInt8) == 39) = true := rfl
  rw [e1, e2, e3]
  simp only [Nat.zero_add]
  rw [ht]
  rfl
 | sign x a hx =>
  show nextR (x ++ e :: rest) 0 = (⟨3, x, 0, 0⟩, sDone, x.length)
  have hs : signIn (x ++ e :: rest) 0 Pr.signs = some x := by
   unfold signIn
   rw [List.drop_zero, find_congr (q := fun y => y.isPrefixOf x) fun y hy => pre_app e rest y x (b5 y hy)]
   exact (by decide : ∀ x ∈ Pr.signs, Pr.signs.find? (fun y => y.isPrefixOf x) = some x) x hx
  have hh : isLetter ((x ++ e :: rest).getD 0 0) = false ∧ isDigit ((x ++ e :: rest).getD 0 0) = false ∧ ((x ++ e :: rest).getD 0 0 == 39) = false := by
   have h1 : ∀ x ∈ Pr.signs, x ≠ [] ∧ isLetter (x.getD 0 0) = false ∧ isDigit (x.getD 0 0) = false ∧ (x.getD 0 0 == 39) = false := by decide
   have h2 := h1 x hx
   cases x with
   | nil => exact absurd rfl h2.1
   | cons c r => exact h2.2
  unfold nextR
  rw [hh.1, hh.2.1, hh.2.2, hs]
  simp [signR]
theorem skip_loose (odd : Bool) (t : Tk) (h : Good t) (e : UInt8) (he : isBlank e = true) (rest : List UInt8) : skip (spellG odd t ++ e :: rest) 0 = 0 := by
 obtain ⟨b1, b2, b3, b4, b5, b6⟩ := blank_is he
 have key : ∀ u : List UInt8, isBlank (u.getD 0 0) = false → [45, 45].isPrefixOf u = false → u ≠ [] → skip u 0 = 0 := by
  intro u h1 h2 h3
  have hsc : scan isBlank u 0 = 0 := by
   cases u with
   | nil => exact absurd rfl h3
   | cons c r =>
    have h1 : isBlank c = false := h1
    unfold scan
    simp [h1]
  unfold skip skipN
  rw [hsc, List.drop_zero, h2]
 have key2 : ∀ (c : UInt8) (r : List UInt8), isBlank c = false ∧ (45 == c) = false → skip (c :: r) 0 = 0 := fun c r h => key _ h.1 (by simp [List.isPrefixOf_cons_cons, h.2]) (by simp)
 cases h with
 | word w a h0 c r hc hl h32 =>
  show skip (great odd true w ++ e :: rest) 0 = 0
  rw [hc]
  exact key2 (up1 (true == odd) c) _ (letter_blank _ ((up1_ok _ c).2.1 hl))
 | num v a hv =>
  show skip (48 :: 48 :: figs (v : Int).toNat ++ e :: rest) 0 = 0
  exact key2 48 _ ⟨rfl, rfl⟩
 | text b a hg h4 =>
  show skip (39 :: dbl b ++ [39] ++ e :: rest) 0 = 0
  exact key2 39 _ ⟨rfl, rfl⟩
 | sign x a hx =>
  show skip (x ++ e :: rest) 0 = 0
  refine key _ ?_ ?_ (by simp)
  · have h1 : ∀ x ∈ Pr.signs, x ≠ [] ∧ isBlank (x.getD 0 0) = false := by decide
    have h2 := h1 x hx
    cases x with
    | nil => exact absurd rfl h2.1
    | cons c r => exact h2.2
  · rw [pre_app e rest [45, 45] x b6]
    exact (by decide : ∀ x ∈ Pr.signs, [45, 45].isPrefixOf x = false) x hx
theorem rd_loose (odd : Bool) (t : Tk) (h : Good t) (e : UInt8) (he : isBlank e = true) (rest : List UInt8) : rd (spellG odd t ++ e :: rest) = (rd (e :: rest)).map fun l => ⟨t.k, t.t, t.n, 0⟩ :: l.map (shiftTk (spellG odd t).length) :=
 rd_tok (skip_loose odd t h e he rest) (by simp; omega) (next_loose odd t h e he rest) (by simp) (by simp)
def gaps : List (List UInt8) := [[32], [10], [9, 32], [32, 45, 45, 120, 32, 121, 10], [32, 13, 10, 32]]
theorem rd_comment (r : List UInt8) : rd (45 :: 45 :: 120 :: 32 :: 121 :: 10 :: r) = (rd (10 :: r)).map fun l => l.map (shiftTk 5) := by
 have hk : skip (45 :: 45 :: 120 :: 32 :: 121 :: 10 :: r) 0 = 5 + skip (10 :: r) 0 := by
  have h1 : skip (45 :: 45 :: 120 :: 32 :: 121 :: 10 :: r) 0 = skipN (45 :: 45 :: 120 :: 32 :: 121 :: 10 :: r) ((10 :: r).length + 5) (5 + 0) := by
   unfold skip
   show skipN _ ((10 :: r).length + 5 + 1) 0 = _
   rw [skipN]
   have e1 : scan isBlank (45 :: 45 :: 120 :: 32 :: 121 :: 10 :: r) 0 = 0 := rfl
   rw [e1]
   rfl
  rw [h1, skipN_drop]
  show 5 + skipN (10 :: r) _ 0 = _
  unfold skip
  rw [skipN_fuel (10 :: r) ((10 :: r).length + 5) ((10 :: r).length + 1) 0 (by omega) (by omega) (by omega)]
 unfold rd
 rw [hk, run_drop _ 5 ((45 :: 45 :: 120 :: 32 :: 121 :: 10 :: r : List UInt8).length + 1) _ (by have := skip_le (10 :: r) 0 (Nat.zero_le _); simp only [List.length_cons] at this ⊢; omega) (by omega)]
 rfl
theorem rd_gap {b : List UInt8} (hb : b ∈ gaps) (r : List UInt8) : rd (b ++ r) = (rd r).map fun l => l.map (shiftTk b.length) := by
 have sh : ∀ (l : List Tk) (i j : Nat), (l.map (shiftTk i)).map (shiftTk j) = l.map (shiftTk (i + j)) := fun l i j => by
  rw [List.map_map]
  refine List.map_congr_left fun t _ => ?_
  show shiftTk j (shiftTk i t) = _
  unfold shiftTk
  simp only [Tk.mk.injEq, true_and]
  omega
 simp only [gaps, List.mem_cons, List.not_mem_nil, or_false] at hb
 rcases hb with rfl | rfl | rfl | rfl | rfl
 · exact rd_blank 32 rfl r
 · exact rd_blank 10 rfl r
 · show rd (9 :: 32 :: r) = _
   rw [rd_blank 9 rfl, rd_blank 32 rfl, Option.map_map]
   congr 1; funext l; exact sh l 1 1
 · show rd (32 :: 45 :: 45 :: 120 :: 32 :: 121 :: 10 :: r) = _
   rw [rd_blank 32 rfl, rd_comment, rd_blank 10 rfl, Option.map_map, Option.map_map]
   congr 1; funext l
   show ((l.map (shiftTk 1)).map (shiftTk 5)).map (shiftTk 1) = _
   rw [sh, sh]; rfl
 · show rd (32 :: 13 :: 10 :: 32 :: r) = _
   rw [rd_blank 32 rfl, rd_blank 13 rfl, rd_blank 10 rfl, rd_blank 32 rfl, Option.map_map, Option.map_map, Option.map_map]
   congr 1; funext l
   show (((l.map (shiftTk 1)).map (shiftTk 1)).map (shiftTk 1)).map (shiftTk 1) = _
   rw [sh, sh, sh]; rfl
theorem gap_head {b : List UInt8} (hb : b ∈ gaps) : ∃ e r, b = e :: r ∧ isBlank e = true := by
 simp only [gaps, List.mem_cons, List.not_mem_nil, or_false] at hb
 rcases hb with rfl | rfl | rfl | rfl | rfl <;> exact ⟨_, _, rfl, rfl⟩
def looseAll (odd : Bool) (g : Nat → List UInt8) : Nat → List Tk → List UInt8
 | _, [] => []
 | i, t :: r => spellG odd t ++ g i ++ looseAll odd g (i + 1) r
theorem looseAll_app (odd : Bool) (g : Nat → List UInt8) (t : Tk) : ∀ (l : List Tk) (i : Nat), looseAll odd g i (l ++ [t]) = looseAll odd g i l ++ spellG odd t ++ g (i + l.length)
 | [], i => by simp [looseAll]
 | x :: r, i => by
  simp only [List.cons_append, looseAll, looseAll_app odd g t r (i + 1), List.length_cons]
  rw [show i + 1 + r.length = i + (r.length + 1) by omega]
  simp
def trip (l : List Tk) : List (Int × List UInt8 × Int) := l.map fun t => (t.k, t.t, t.n)
theorem trip_shift (l : List Tk) (k : Nat) : trip (l.map (shiftTk k)) = trip l := by
 unfold trip
 rw [List.map_map]
 rfl
theorem rd_looseAll (odd : Bool) (g : Nat → List UInt8) (hg : ∀ i, g i ∈ gaps) {r : List UInt8} {q : List Tk} (hr : rd r = some q) : ∀ (l : List Tk) (i : Nat), (∀ t ∈ l, Good t) → ∃ m, rd (looseAll odd g i l ++ r) = some m ∧ trip m = trip (l ++ q)
 | [], i, _ => ⟨q, hr, rfl⟩
 | t :: l, i, h => by
  obtain ⟨m, h1, h2⟩ := rd_looseAll odd g hg hr l (i + 1) fun x hx => h x (by simp [hx])
  obtain ⟨e, b, hb, he⟩ := gap_head (hg i)
  have h3 := rd_gap (hg i) (looseAll odd g (i + 1) l ++ r)
  rw [h1] at h3
  have h4 := rd_loose odd t (h t (by simp)) e he (b ++ (looseAll odd g (i + 1) l ++ r))
  have e1 : e :: (b ++ (looseAll odd g (i + 1) l ++ r)) = g i ++ (looseAll odd g (i + 1) l ++ r) := by rw [hb]; rfl
  rw [e1, h3] at h4
  refine ⟨_, by
   have : looseAll odd g i (t :: l) ++ r = spellG odd t ++ (g i ++ (looseAll odd g (i + 1) l ++ r)) := by simp [looseAll]
   rw [this]; exact h4, ?_⟩
  show (t.k, t.t, t.n) :: trip ((m.map _).map _) = _
  rw [trip_shift, trip_shift, h2]
  rfl
end Go.AM.Ps
namespace Go.AM.Ps
open Go.Proofs W
theorem trip_at {l m : List Tk} (h : trip m = trip l) {z : Nat} {x : Tk} (hx : l[z]? = some x) : ∃ y, m[z]? = some y ∧ y.k = x.k ∧ y.t = x.t ∧ y.n = x.n := by
 have h1 := congrArg (·[z]?) h
 unfold trip at h1
 simp only [List.getElem?_map, hx, Option.map_some] at h1
 cases hy : m[z]? with
 | none => rw [hy] at h1; cases h1
 | some y =>
  rw [hy] at h1
  simp only [Option.map_some, Option.some.injEq, Prod.mk.injEq] at h1
  exact ⟨y, rfl, h1.1, h1.2.1, h1.2.2⟩
theorem trip_len {l m : List Tk} (h : trip m = trip l) : m.length = l.length := by
 have := congrArg List.length h
 unfold trip at this
 simpa using this
theorem trip_sees {l m : List Tk} (h : trip m = trip l) (z : Nat) (s : List UInt8) : sees m z s = sees l z s := by
 unfold sees
 cases hx : l[z]? with
 | some x =>
  obtain ⟨y, h1, h2, h3, _⟩ := trip_at h hx
  rw [h1]
  simp only [h2, h3]
 | none =>
  have := List.getElem?_eq_none_iff.1 hx
  rw [List.getElem?_eq_none (by rw [trip_len h]; exact this)]
structure Semi (l q : List Tk) : Prop where
 kind : q = [] ∨ ∃ a, q = [⟨3, g_semi, 0, a⟩]
 last : q ≠ [] → sees l (l.length - 1) g_semi = false
theorem semi_sm {l m q : List Tk} (h : trip m = trip (l ++ q)) (hq : Semi l q) : Sm l m 0 0 false := by
 refine ⟨fun z x _ hx => ?_, fun z hz => ?_⟩
 · have : (l ++ q)[z]? = some x := by
    rw [List.getElem?_append_left (by
     rcases Nat.lt_or_ge z l.length with w | w
     · exact w
     · rw [List.getElem?_eq_none w] at hx; cases hx)]
    exact hx
   rw [Nat.add_zero]
   exact trip_at h this
 · rw [Nat.add_zero]
   have hge := List.getElem?_eq_none_iff.1 hz
   cases hm : m[z]? with
   | none => exact .inl rfl
   | some y =>
    right
    obtain ⟨x, h1, h2, h3, h4⟩ := trip_at h.symm hm
    rw [List.getElem?_append_right hge] at h1
    rcases hq.kind with rfl | ⟨a, rfl⟩
    · simp at h1
    · cases hz2 : z - l.length with
      | zero =>
       rw [hz2] at h1
       have h1 : x = _ := (Option.some.inj h1).symm
       rw [h1] at h2 h3
       exact ⟨y, rfl, h2.symm, .inl h3.symm⟩
      | succ k => rw [hz2] at h1; simp at h1
theorem pe (t : List Tk) (a : Nd) (z : Nat) : ∀ (b : Bool), decide ((match sees t z g_semi with | true => z + 1 | false => z) < t.length) = b → parseEnd t a z = match b with
  | true => (zeroNd, sSyntax)
  | false => match decide (depth a > 24) with
   | true => (zeroNd, sComplex)
   | false => (a, sDone) := by rintro _ rfl; rfl
theorem semi_end {l m q : List Tk} (h : trip m = trip (l ++ q)) (hq : Semi l q) (a : Nd) (z : Nat) : parseEnd m a z = parseEnd l a z := by
 have hlen := trip_len h
 rcases hq.kind with rfl | ⟨p, rfl⟩
 · rw [List.append_nil] at h hlen
   unfold parseEnd
   rw [trip_sees h, hlen]
 · have hlen : m.length = l.length + 1 := by rw [hlen]; simp
   have hlast := hq.last (by simp)
   have hs1 := trip_sees h z g_semi
   have he : decide ((match sees (l ++ [⟨3, g_semi, 0, p⟩]) z g_semi with | true => z + 1 | false => z) < m.length) = decide ((match sees l z g_semi with | true => z + 1 | false => z) < l.length) := by
    rw [hlen]
    rcases Nat.lt_or_ge z l.length with w | w
    · have e : sees (l ++ [⟨3, g_semi, 0, p⟩]) z g_semi = sees l z g_semi := by
       unfold sees
       rw [List.getElem?_append_left w]
      rw [e]
      cases hs : sees l z g_semi with
      | true =>
       have : z ≠ l.length - 1 := by rintro rfl; rw [hlast] at hs; cases hs
       simp only []
       rw [decide_eq_true (by omega), decide_eq_true (by omega)]
      | false =>
       simp only []
       rw [decide_eq_true (by omega), decide_eq_true (by omega)]
    · have e : sees l z g_semi = false := by unfold sees; rw [List.getElem?_eq_none w]
      rw [e]
      rcases Nat.lt_or_ge l.length z with w2 | w2
      · have e2 : sees (l ++ [⟨3, g_semi, 0, p⟩]) z g_semi = false := by unfold sees; rw [List.getElem?_eq_none (by simp; omega)]
        rw [e2]
        simp only []
        rw [decide_eq_false (by omega), decide_eq_false (by omega)]
      · obtain rfl : z = l.length := by omega
        have e2 : sees (l ++ [⟨3, g_semi, 0, p⟩]) l.length g_semi = true := by unfold sees; rw [List.getElem?_append_right (Nat.le_refl _), Nat.sub_self]; rfl
        rw [e2]
        simp only []
        rw [decide_eq_false (by omega), decide_eq_false (by omega)]
   rw [← hs1] at he
   rw [pe m a z _ he, pe l a z _ rfl]
theorem parse_semi {s u : List UInt8} {q : List Tk} {n : Nat} (h1 : 30 * (600 + 1) + 40 ≤ n) (h2 : n ≤ 1000000000) (hs : (lexScan s).2 = sDone) (hu : (lexScan u).2 = sDone) (h : trip (lexScan u).1 = trip ((lexScan s).1 ++ q)) (hq : Semi (lexScan s).1 q) : parseS n u = parseS n s := by
 unfold parseS
 rw [hs, hu]
 have e : (sDone == sDone) = true := beq_self_eq_true _
 rw [e]
 simp only []
 have hr : Res (lexScan s).1 0 SmallA (statement reservedB (lexScan s).1 n 0) := res_statement (by have := (toks_lex s).len; omega) h2
 have hsim := (semi_sm h hq).statement (Nat.le_refl n) (z := 0) (Nat.le_refl 0)
 rw [Nat.add_zero] at hsim
 cases hst : statement reservedB (lexScan s).1 n 0 with
 | fuel => exact absurd hst hr.1
 | wrong =>
  rw [hst] at hsim
  have : statement reservedB (lexScan u).1 n 0 = .wrong := hsim rfl
  rw [this]
  rfl
 | ok a z =>
  rw [hst] at hsim
  obtain ⟨_, hsim⟩ := hsim
  rw [hsim]
  show parseEnd _ a z = parseEnd _ a z
  exact semi_end h hq a z
def adds (l : List Tk) : Bool := decide (0 < l.length) && (!(sees l (l.length - 1) g_semi) && decide (l.length < 600))
def loose (odd : Bool) (g : Nat → List UInt8) (l : List Tk) : List UInt8 := match adds l with
 | true => looseAll odd g 0 l ++ [59, 32]
 | false => looseAll odd g 0 l
theorem rd_semi : rd [59, 32] = some [⟨3, [59], 0, 0⟩] := by kernel_rfl
theorem loose_law {s : List UInt8} {n : Nat} (h1 : 30 * (600 + 1) + 40 ≤ n) (h2 : n ≤ 1000000000) (odd : Bool) (g : Nat → List UInt8) (hg : ∀ i, g i ∈ gaps) (hs : (lexScan s).2 = sDone) (hl : (loose odd g (lexScan s).1).length ≤ 2000) :
  parseS n (loose odd g (lexScan s).1) = parseS n s := by
 obtain ⟨_, hl6, hch⟩ := lex_chain s hs
 have hgood := chain_good hch
 have key : ∀ (r : List UInt8) (q : List Tk), rd r = some q → Semi (lexScan s).1 q → loose odd g (lexScan s).1 = looseAll odd g 0 (lexScan s).1 ++ r → (lexScan s).1.length + q.length ≤ 600 → parseS n (loose odd g (lexScan s).1) = parseS n s := by
  intro r q hr hq he hlen
  obtain ⟨m, hm, ht⟩ := rd_looseAll odd g hg hr (lexScan s).1 0 hgood
  rw [← he] at hm
  have hml : m.length = (lexScan s).1.length + q.length := by rw [trip_len ht]; simp
  have hlex := rd_lex hm hl (by omega)
  exact parse_semi h1 h2 hs (by rw [hlex]) (by rw [hlex]; exact ht) hq
 cases ha : adds (lexScan s).1 with
 | true =>
  have ha' := ha
  unfold adds at ha'
  simp only [Bool.and_eq_true, decide_eq_true_eq, Bool.not_eq_true'] at ha'
  exact key [59, 32] _ rd_semi ⟨.inr ⟨0, rfl⟩, fun _ => ha'.2.1⟩ (by unfold loose; rw [ha]) (by simp only [List.length_cons, List.length_nil]; omega)
 | false =>
  exact key [] [] (run_end []) ⟨.inl rfl, fun h => absurd rfl h⟩ (by unfold loose; rw [ha]; simp) (by simpa using hl6)
end Go.AM.Ps
