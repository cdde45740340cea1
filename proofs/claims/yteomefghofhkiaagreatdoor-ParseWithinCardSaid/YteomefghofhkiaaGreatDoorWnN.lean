/- What parse.Parse answers at any text; the tokens of a text part by part. -/
import Derived.Test.YteomefghofhkiaaGreatDoorWnM
import Derived.Test.YteomefghofhkiaaGreatDoorWnScanD
set_option maxRecDepth 100000
set_option linter.unusedVariables false
set_option maxHeartbeats 4000000
namespace Go.AM.Ps
open Go.Proofs W
theorem chain_toks {s : List UInt8} (hs : s.length ≤ 2000) : ∀ {p : Nat} {l : List Tk}, Chain s p l → ∀ x ∈ l, x.t.length ≤ 2000 ∧ 0 ≤ x.n ∧ x.n < 9223372036854775808 := by
 intro p l h
 induction h with
 | nil p => intro x hx; simp at hx
 | cons p t l j hlt ht hj hle h ih =>
  intro x hx
  rcases List.mem_cons.1 hx with rfl | hx
  · cases ht with
    | word w hw hl h32 => exact ⟨by simp; omega, by simp, by simp⟩
    | num hd v hv => exact ⟨by simp, by simp, by simp; omega⟩
    | text b j hb h4 => exact ⟨by simp; omega, by simp, by simp⟩
    | sign y hy hp =>
     refine ⟨?_, by simp, by simp⟩
     have hp := List.isPrefixOf_iff_prefix.1 hp
     have := hp.length_le
     simp at this
     show y.length ≤ 2000
     omega
  · exact ih x hx
theorem toks_lex (s : List UInt8) : Toks (lexScan s).1 := by
 by_cases h : (lexScan s).2 = sDone
 · obtain ⟨h1, h2, h3⟩ := lex_chain s h
   exact ⟨h2, fun x hx => (chain_toks h1 h3 x hx).1, fun x hx => (chain_toks h1 h3 x hx).2⟩
 · have := (lexScan_done s).2.2 h
   rw [this]
   exact ⟨by simp, fun x hx => by simp at hx, fun x hx => by simp at hx⟩
def rounds : Nat := 100000
theorem parse_atN (n : Nat) (h1 : 30 * (600 + 1) + 40 ≤ n) (h2 : n ≤ 1000000000) (s : List UInt8) (S : St) (K : Out → St → Prop) (hK : K (.ret (.tup [(parseS n s).1.av, .str (parseS n s).2])) S) : CallP Tryz.prog (Pr.tab real) 8 [.str s] S K := by
 have ht := toks_lex s
 have hl := ht.len
 have hr : Res (lexScan s).1 0 SmallA (statement reservedB (lexScan s).1 n 0) := res_statement (by omega) h2
 exact parse_spec n h2 s ht (fun h => hr.1 h) (fun a z h => (hr.2 a z h).2.2) S K hK
theorem parse_at (s : List UInt8) (S : St) (K : Out → St → Prop) (hK : K (.ret (.tup [(parseS rounds s).1.av, .str (parseS rounds s).2])) S) : CallP Tryz.prog (Pr.tab real) 8 [.str s] S K :=
 parse_atN rounds (Nat.le_of_ble_eq_true rfl) (Nat.le_of_ble_eq_true rfl) s S K hK
end Go.AM.Ps
namespace Go.AM.Ps
open Go.Proofs W
section
variable (res : List UInt8 → Bool) (w : List UInt8) (p0 p1 p2 p3 p4 p5 p6 p7 p8 : Int) (n m : Nat)
def ifName {α : Type} (a : α) (z : Nat) : Rs α := match res w with
 | true => .wrong
 | false => .ok a z
theorem name_at {t : List Tk} {z : Nat} {x : Tk} (hx : t[z]? = some x) (hk : x.k = 0) : name res t z = ifName res x.t x.t (z + 1) := by
 unfold name isName textAt ifName
 rw [hx]
 simp only [hk]
 cases res x.t <;> rfl
theorem name_ok {t : List Tk} {z : Nat} {x : Tk} (hx : t[z]? = some x) (hk : x.k = 0) (hr : res x.t = false) : name res t z = .ok x.t (z + 1) := by
 rw [name_at res hx hk]; unfold ifName; rw [hr]
section
variable {res}
end
end
end Go.AM.Ps
namespace Go.AM.Ps
open Go.Proofs W
theorem skip_blank (r : List UInt8) (c : UInt8) (hc : isBlank c = true) : skip (c :: r) 0 = 1 + skip r 0 := by
 have h := skip_drop (c :: r) 1 0 (by simp)
 simp only [Nat.add_zero, List.drop_succ_cons, List.drop_zero] at h
 rw [← h]
 unfold skip skipN
 rw [scan_step isBlank (c :: r) 0 (by simp) (by simpa using hc)]
theorem skip_here (c : UInt8) (r : List UInt8) (h1 : isBlank c = false) (h2 : (45 == c) = false) : skip (c :: r) 0 = 0 := by
 unfold skip skipN
 rw [scan_stop isBlank (c :: r) 0 (by simp) (by simpa using h1)]
 have : [45, 45].isPrefixOf ((c :: r).drop 0) = false := by simp [List.isPrefixOf, h2]
 rw [this]
def Low (w : List UInt8) : Prop := ∀ c ∈ w, 97 ≤ c.toNat ∧ c.toNat ≤ 122
instance (w : List UInt8) : Decidable (Low w) := by unfold Low; infer_instance
theorem low_letter {c : UInt8} (h : 97 ≤ c.toNat ∧ c.toNat ≤ 122) : isLetter c = true := by
 unfold isLetter
 have h1 : (97 : UInt8) ≤ c := by rw [UInt8.le_iff_toNat_le]; exact h.1
 have h2 : c ≤ (122 : UInt8) := by rw [UInt8.le_iff_toNat_le]; exact h.2
 simp [h1, h2]
theorem low_self {c : UInt8} (h : 97 ≤ c.toNat ∧ c.toNat ≤ 122) : low c = c := by
 unfold low
 rw [if_neg (by omega)]
theorem low_plain {c : UInt8} (h : 97 ≤ c.toNat ∧ c.toNat ≤ 122) : isBlank c = false ∧ (45 == c) = false := by
 have hn : ∀ d : UInt8, d.toNat < 97 → (c == d) = false := fun d hd => by
  rw [beq_eq_false_iff_ne]
  intro e
  rw [e] at h
  omega
 refine ⟨?_, ?_⟩
 · unfold isBlank
   rw [hn 9 (by decide), hn 10 (by decide), hn 13 (by decide), hn 32 (by decide)]
   rfl
 · have := hn 45 (by decide)
   rw [beq_eq_false_iff_ne] at this ⊢
   exact Ne.symm this
theorem low_map {w : List UInt8} (h : Low w) : w.map low = w := by
 induction w with
 | nil => rfl
 | cons c r ih => rw [List.map_cons, low_self (h c (by simp)), ih fun x hx => h x (by simp [hx])]
theorem low_word {w : List UInt8} (h : Low w) : w.takeWhile isWord = w := by
 induction w with
 | nil => rfl
 | cons c r ih =>
  have : isWord c = true := by unfold isWord; rw [low_letter (h c (by simp))]; rfl
  rw [List.takeWhile_cons, this, ih fun x hx => h x (by simp [hx])]
  rfl
section
variable {w : List UInt8}
end
end Go.AM.Ps
