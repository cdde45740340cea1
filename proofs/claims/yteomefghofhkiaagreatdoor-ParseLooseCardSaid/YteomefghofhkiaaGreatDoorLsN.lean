/- What parse.Parse answers at any text; the tokens of a text part by part. -/
import Derived.Test.YteomefghofhkiaaGreatDoorLsM
import Derived.Test.YteomefghofhkiaaGreatDoorLsScanD
set_option maxRecDepth 100000
set_option linter.unusedVariables false
set_option maxHeartbeats 4000000
namespace Go.AM.Ps
open Go.Proofs W
theorem chain_toks {s : List UInt8} (hs : s.length ≤ 2000) : ∀ {p : Nat} {l : List Tk}, Chain s p l → ∀ x ∈ l, x.t.length ≤ 2000 ∧ 0 ≤ x.n ∧ x.n < 9223372036854775808 := by
 intro p l h
 induction h with
 | nil p => intro x hx; simp at hx
 | cons p t l j hlt ht hj hle h ih =>
  intro x hx
  rcases List.mem_cons.1 hx with rfl | hx
  · cases ht with
    | word w hw hl h32 => exact ⟨by simp; omega, by simp, by simp⟩
    | num hd v hv => exact ⟨by simp, by simp, by simp; omega⟩
    | text b j hb h4 => exact ⟨by simp; omega, by simp, by simp⟩
    | sign y hy hp =>
     refine ⟨?_, by simp, by simp⟩
     have hp := List.isPrefixOf_iff_prefix.1 hp
     have := hp.length_le
     simp at this
     show y.length ≤ 2000
     omega
  · exact ih x hx
theorem toks_lex (s : List UInt8) : Toks (lexScan s).1 := by
 by_cases h : (lexScan s).2 = sDone
 · obtain ⟨h1, h2, h3⟩ := lex_chain s h
   exact ⟨h2, fun x hx => (chain_toks h1 h3 x hx).1, fun x hx => (chain_toks h1 h3 x hx).2⟩
 · have := (lexScan_done s).2.2 h
   rw [this]
   exact ⟨by simp, fun x hx => by simp at hx, fun x hx => by simp at hx⟩
def rounds : Nat := 100000
theorem parse_atN (n : Nat) (h1 : 30 * (600 + 1) + 40 ≤ n) (h2 : n ≤ 1000000000) (s : List UInt8) (S : St) (K : Out → St → Prop) (hK : K (.ret (.tup [(parseS n s).1.av, .str (parseS n s).2])) S) : CallP Tryz.prog (Pr.tab real) 8 [.str s] S K := by
 have ht := toks_lex s
 have hl := ht.len
 have hr : Res (lexScan s).1 0 SmallA (statement reservedB (lexScan s).1 n 0) := res_statement (by omega) h2
 exact parse_spec n h2 s ht (fun h => hr.1 h) (fun a z h => (hr.2 a z h).2.2) S K hK
theorem parse_at (s : List UInt8) (S : St) (K : Out → St → Prop) (hK : K (.ret (.tup [(parseS rounds s).1.av, .str (parseS rounds s).2])) S) : CallP Tryz.prog (Pr.tab real) 8 [.str s] S K :=
 parse_atN rounds (Nat.le_of_ble_eq_true rfl) (Nat.le_of_ble_eq_true rfl) s S K hK
end Go.AM.Ps
namespace Go.AM.Ps
open Go.Proofs W
def Reads (s : List UInt8) (l : List Tk) : Prop := run s (skip s 0) = some l
theorem skip_blank (r : List UInt8) (c : UInt8) (hc : isBlank c = true) : skip (c :: r) 0 = 1 + skip r 0 := by
 have h := skip_drop (c :: r) 1 0 (by simp)
 simp only [Nat.add_zero, List.drop_succ_cons, List.drop_zero] at h
 rw [← h]
 unfold skip skipN
 rw [scan_step isBlank (c :: r) 0 (by simp) (by simpa using hc)]
def Low (w : List UInt8) : Prop := ∀ c ∈ w, 97 ≤ c.toNat ∧ c.toNat ≤ 122
instance (w : List UInt8) : Decidable (Low w) := by unfold Low; infer_instance
theorem low_letter {c : UInt8} (h : 97 ≤ c.toNat ∧ c.toNat ≤ 122) : isLetter c = true := by
 unfold isLetter
 have h1 : (97 : UInt8) ≤ c := by rw [UInt8.le_iff_toNat_le]; exact h.1
 have h2 : c ≤ (122 : UInt8) := by rw [UInt8.le_iff_toNat_le]; exact h.2
 simp [h1, h2]
theorem low_word {w : List UInt8} (h : Low w) : w.takeWhile isWord = w := by
 induction w with
 | nil => rfl
 | cons c r ih =>
  have : isWord c = true := by unfold isWord; rw [low_letter (h c (by simp))]; rfl
  rw [List.takeWhile_cons, this, ih fun x hx => h x (by simp [hx])]
  rfl
theorem reads_lex {s : List UInt8} {l : List Tk} (h : Reads s l) (hs : s.length ≤ 2000) (hl : l.length ≤ 600) : lexScan s = (l, sDone) := by
 obtain ⟨h1, h2, _⟩ := lexScan_done s
 have hd := h1.2 ⟨hs, l, h, hl⟩
 have h2 := h2 hd
 have h : run s (skip s 0) = some l := h
 rw [h] at h2
 exact Prod.ext (by simpa using h2.symm) hd
section
variable {w : List UInt8}
end
end Go.AM.Ps
namespace Go.AM.Ps
open Go.Proofs W
def rd (s : List UInt8) : Option (List Tk) := run s (skip s 0)
theorem rd_blank (c : UInt8) (hc : isBlank c = true) (r : List UInt8) : rd (c :: r) = (rd r).map fun l => l.map (shiftTk 1) := by
 unfold rd
 rw [skip_blank r c hc, run_drop (c :: r) 1 ((c :: r).length + 1) _ (by have := skip_le r 0 (Nat.zero_le _); simp; omega) (by omega)]
 rfl
theorem rd_tok {s r : List UInt8} {x : Tk} {k : Nat} (h0 : skip s 0 = 0) (hlt : 0 < s.length) (hn : nextR s 0 = (x, sDone, k)) (hk : k ≤ s.length) (hd : s.drop k = r) : rd s = (rd r).map fun l => x :: l.map (shiftTk k) := by
 unfold rd
 rw [h0, run_step s 0 hlt, hn]
 simp only [beq_self_eq_true]
 have hs := skip_drop s k 0 (by omega)
 simp only [Nat.add_zero] at hs
 have hsl := skip_le s k hk
 rw [hs, run_drop s k (s.length + 1) _ (by omega) (by omega), hd, Option.map_map]
 rfl
theorem rd_lex {s : List UInt8} {l : List Tk} (h : rd s = some l) (hs : s.length ≤ 2000) (hl : l.length ≤ 600) : lexScan s = (l, sDone) := reads_lex h hs hl
end Go.AM.Ps
