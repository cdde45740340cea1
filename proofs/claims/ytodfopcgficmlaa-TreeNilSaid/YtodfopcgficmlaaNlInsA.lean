/- slices.Insert at the end of a row, and into no slice. -/
import Derived.Test.YtodfopcgficmlaaNlTab
set_option maxRecDepth 100000
set_option maxHeartbeats 20000000
set_option linter.unusedVariables false
set_option linter.unusedSimpArgs false
set_option linter.unusedSectionVars false
namespace Go.AM
open Go.Proofs
theorem Ins59_A_b1 (v v2 : Nat) (full : List AV) (x : AV) (n z c : Int) (N i k : Nat) (hn : n = N) (hz : z = i) (hc : c = (N : Int) + k) (hk : 1 ≤ k) (hi : i = N) (hN : N ≤ 100000000000) (hM : N + k ≤ 9223372036854775807) (hl : full.length = N + k) : real.ver v v = true := by
 exact Nat.beq_refl v
theorem Ins59_A_b2 (v v2 : Nat) (full : List AV) (x : AV) (n z c : Int) (N i k : Nat) (hn : n = N) (hz : z = i) (hc : c = (N : Int) + k) (hk : 1 ≤ k) (hi : i = N) (hN : N ≤ 100000000000) (hM : N + k ≤ 9223372036854775807) (hl : full.length = N + k) : real.ver v2 v2 = true := by
 exact Nat.beq_refl v2
theorem Ins59_A_b3 (v v2 : Nat) (full : List AV) (x : AV) (n z c : Int) (N i k : Nat) (hn : n = N) (hz : z = i) (hc : c = (N : Int) + k) (hk : 1 ≤ k) (hi : i = N) (hN : N ≤ 100000000000) (hM : N + k ≤ 9223372036854775807) (hl : full.length = N + k) : real.ver 0 0 = true := by
 rfl
theorem Ins59_A_f1 (v v2 : Nat) (full : List AV) (x : AV) (n z c : Int) (N i k : Nat) (hn : n = N) (hz : z = i) (hc : c = (N : Int) + k) (hk : 1 ≤ k) (hi : i = N) (hN : N ≤ 100000000000) (hM : N + k ≤ 9223372036854775807) (hl : full.length = N + k) : real.cut z n c = true := by
 simp [real]; omega
theorem Ins59_A_f2 (v v2 : Nat) (full : List AV) (x : AV) (n z c : Int) (N i k : Nat) (hn : n = N) (hz : z = i) (hc : c = (N : Int) + k) (hk : 1 ≤ k) (hi : i = N) (hN : N ≤ 100000000000) (hM : N + k ≤ 9223372036854775807) (hl : full.length = N + k) : real.cmp .eql 1 0 = false := by
 rfl
theorem Ins59_A_f3 (v v2 : Nat) (full : List AV) (x : AV) (n z c : Int) (N i k : Nat) (hn : n = N) (hz : z = i) (hc : c = (N : Int) + k) (hk : 1 ≤ k) (hi : i = N) (hN : N ≤ 100000000000) (hM : N + k ≤ 9223372036854775807) (hl : full.length = N + k) : real.subL [x] 0 1 = [x] := by
 rfl
theorem Ins59_A_f4 (v v2 : Nat) (full : List AV) (x : AV) (n z c : Int) (N i k : Nat) (hn : n = N) (hz : z = i) (hc : c = (N : Int) + k) (hk : 1 ≤ k) (hi : i = N) (hN : N ≤ 100000000000) (hM : N + k ≤ 9223372036854775807) (hl : full.length = N + k) : real.len [x] = 1 := by
 rfl
theorem Ins59_A_nf (v v2 : Nat) (full : List AV) (x : AV) (n z c : Int) (N i k : Nat) (hn : n = N) (hz : z = i) (hc : c = (N : Int) + k) (hk : 1 ≤ k) (hi : i = N) (hN : N ≤ 100000000000) (hM : N + k ≤ 9223372036854775807) (hl : full.length = N + k) : real.not false = true := by
 rfl
theorem Ins59_A_nt (v v2 : Nat) (full : List AV) (x : AV) (n z c : Int) (N i k : Nat) (hn : n = N) (hz : z = i) (hc : c = (N : Int) + k) (hk : 1 ≤ k) (hi : i = N) (hN : N ≤ 100000000000) (hM : N + k ≤ 9223372036854775807) (hl : full.length = N + k) : real.not true = false := by
 rfl
theorem Ins59_A_f8 (v v2 : Nat) (full : List AV) (x : AV) (n z c : Int) (N i k : Nat) (hn : n = N) (hz : z = i) (hc : c = (N : Int) + k) (hk : 1 ≤ k) (hi : i = N) (hN : N ≤ 100000000000) (hM : N + k ≤ 9223372036854775807) (hl : full.length = N + k) : real.cmp .eql 0 0 = true := by
 rfl
theorem Ins59_A_a1 (v v2 : Nat) (full : List AV) (x : AV) (n z c : Int) (N i k : Nat) (hn : n = N) (hz : z = i) (hc : c = (N : Int) + k) (hk : 1 ≤ k) (hi : i = N) (hN : N ≤ 100000000000) (hM : N + k ≤ 9223372036854775807) (hl : full.length = N + k) : real.arith .add .i64 n 1 = n + 1 := by
 exact W64 (n + 1) (by omega) (by omega)
theorem Ins59_A_a2 (v v2 : Nat) (full : List AV) (x : AV) (n z c : Int) (N i k : Nat) (hn : n = N) (hz : z = i) (hc : c = (N : Int) + k) (hk : 1 ≤ k) (hi : i = N) (hN : N ≤ 100000000000) (hM : N + k ≤ 9223372036854775807) (hl : full.length = N + k) : real.arith .sub .i64 c n = c - n := by
 exact W64 (c - n) (by omega) (by omega)
theorem Ins59_A_a3 (v v2 : Nat) (full : List AV) (x : AV) (n z c : Int) (N i k : Nat) (hn : n = N) (hz : z = i) (hc : c = (N : Int) + k) (hk : 1 ≤ k) (hi : i = N) (hN : N ≤ 100000000000) (hM : N + k ≤ 9223372036854775807) (hl : full.length = N + k) : real.arith .add .i64 z 1 = z + 1 := by
 exact W64 (z + 1) (by omega) (by omega)
theorem Ins59_A_a4 (v v2 : Nat) (full : List AV) (x : AV) (n z c : Int) (N i k : Nat) (hn : n = N) (hz : z = i) (hc : c = (N : Int) + k) (hk : 1 ≤ k) (hi : i = N) (hN : N ≤ 100000000000) (hM : N + k ≤ 9223372036854775807) (hl : full.length = N + k) : real.arith .add .i64 0 n = n := by
 exact (W64 (0 + n) (by omega) (by omega)).trans (by omega)
theorem Ins59_A_a5 (v v2 : Nat) (full : List AV) (x : AV) (n z c : Int) (N i k : Nat) (hn : n = N) (hz : z = i) (hc : c = (N : Int) + k) (hk : 1 ≤ k) (hi : i = N) (hN : N ≤ 100000000000) (hM : N + k ≤ 9223372036854775807) (hl : full.length = N + k) : real.arith .add .i64 0 1 = 1 := by
 rfl
theorem Ins59_A_a6 (v v2 : Nat) (full : List AV) (x : AV) (n z c : Int) (N i k : Nat) (hn : n = N) (hz : z = i) (hc : c = (N : Int) + k) (hk : 1 ≤ k) (hi : i = N) (hN : N ≤ 100000000000) (hM : N + k ≤ 9223372036854775807) (hl : full.length = N + k) : real.arith .add .i64 0 z = z := by
 exact (W64 (0 + z) (by omega) (by omega)).trans (by omega)
theorem Ins59_A_a7 (v v2 : Nat) (full : List AV) (x : AV) (n z c : Int) (N i k : Nat) (hn : n = N) (hz : z = i) (hc : c = (N : Int) + k) (hk : 1 ≤ k) (hi : i = N) (hN : N ≤ 100000000000) (hM : N + k ≤ 9223372036854775807) (hl : full.length = N + k) : real.arith .sub .i64 n z = n - z := by
 exact W64 (n - z) (by omega) (by omega)
theorem Ins59_A_a8 (v v2 : Nat) (full : List AV) (x : AV) (n z c : Int) (N i k : Nat) (hn : n = N) (hz : z = i) (hc : c = (N : Int) + k) (hk : 1 ≤ k) (hi : i = N) (hN : N ≤ 100000000000) (hM : N + k ≤ 9223372036854775807) (hl : full.length = N + k) : real.arith .sub .i64 c z = c - z := by
 exact W64 (c - z) (by omega) (by omega)
theorem Ins59_A_a9 (v v2 : Nat) (full : List AV) (x : AV) (n z c : Int) (N i k : Nat) (hn : n = N) (hz : z = i) (hc : c = (N : Int) + k) (hk : 1 ≤ k) (hi : i = N) (hN : N ≤ 100000000000) (hM : N + k ≤ 9223372036854775807) (hl : full.length = N + k) : real.arith .sub .i64 (n + 1) (z + 1) = n - z := by
 exact (W64 (n + 1 - (z + 1)) (by omega) (by omega)).trans (by omega)
theorem Ins59_A_a10 (v v2 : Nat) (full : List AV) (x : AV) (n z c : Int) (N i k : Nat) (hn : n = N) (hz : z = i) (hc : c = (N : Int) + k) (hk : 1 ≤ k) (hi : i = N) (hN : N ≤ 100000000000) (hM : N + k ≤ 9223372036854775807) (hl : full.length = N + k) : real.arith .sub .i64 c (z + 1) = c - (z + 1) := by
 exact W64 (c - (z + 1)) (by omega) (by omega)
theorem Ins59_A_a11 (v v2 : Nat) (full : List AV) (x : AV) (n z c : Int) (N i k : Nat) (hn : n = N) (hz : z = i) (hc : c = (N : Int) + k) (hk : 1 ≤ k) (hi : i = N) (hN : N ≤ 100000000000) (hM : N + k ≤ 9223372036854775807) (hl : full.length = N + k) : real.arith .sub .i64 (n + 1) z = n + 1 - z := by
 exact W64 (n + 1 - z) (by omega) (by omega)
theorem Ins59_A_a12 (v v2 : Nat) (full : List AV) (x : AV) (n z c : Int) (N i k : Nat) (hn : n = N) (hz : z = i) (hc : c = (N : Int) + k) (hk : 1 ≤ k) (hi : i = N) (hN : N ≤ 100000000000) (hM : N + k ≤ 9223372036854775807) (hl : full.length = N + k) : real.arith .add .i64 0 (z + 1) = z + 1 := by
 exact (W64 (0 + (z + 1)) (by omega) (by omega)).trans (by omega)
theorem Ins59_A_a13 (v v2 : Nat) (full : List AV) (x : AV) (n z c : Int) (N i k : Nat) (hn : n = N) (hz : z = i) (hc : c = (N : Int) + k) (hk : 1 ≤ k) (hi : i = N) (hN : N ≤ 100000000000) (hM : N + k ≤ 9223372036854775807) (hl : full.length = N + k) : real.arith .add .i64 z (n - z) = n := by
 exact (W64 (z + (n - z)) (by omega) (by omega)).trans (by omega)
theorem Ins59_A_a14 (v v2 : Nat) (full : List AV) (x : AV) (n z c : Int) (N i k : Nat) (hn : n = N) (hz : z = i) (hc : c = (N : Int) + k) (hk : 1 ≤ k) (hi : i = N) (hN : N ≤ 100000000000) (hM : N + k ≤ 9223372036854775807) (hl : full.length = N + k) : real.arith .add .i64 z (n + 1 - z) = n + 1 := by
 exact (W64 (z + (n + 1 - z)) (by omega) (by omega)).trans (by omega)
theorem Ins59_A_a15 (v v2 : Nat) (full : List AV) (x : AV) (n z c : Int) (N i k : Nat) (hn : n = N) (hz : z = i) (hc : c = (N : Int) + k) (hk : 1 ≤ k) (hi : i = N) (hN : N ≤ 100000000000) (hM : N + k ≤ 9223372036854775807) (hl : full.length = N + k) : real.arith .add .i64 (z + 1) (n - z) = n + 1 := by
 exact (W64 (z + 1 + (n - z)) (by omega) (by omega)).trans (by omega)
theorem Ins59_A_a16 (v v2 : Nat) (full : List AV) (x : AV) (n z c : Int) (N i k : Nat) (hn : n = N) (hz : z = i) (hc : c = (N : Int) + k) (hk : 1 ≤ k) (hi : i = N) (hN : N ≤ 100000000000) (hM : N + k ≤ 9223372036854775807) (hl : full.length = N + k) : real.arith .sub .i64 1 0 = 1 := by
 rfl
theorem Ins59_A_a17 (v v2 : Nat) (full : List AV) (x : AV) (n z c : Int) (N i k : Nat) (hn : n = N) (hz : z = i) (hc : c = (N : Int) + k) (hk : 1 ≤ k) (hi : i = N) (hN : N ≤ 100000000000) (hM : N + k ≤ 9223372036854775807) (hl : full.length = N + k) : real.arith .sub .i64 n 0 = n := by
 exact (W64 (n - 0) (by omega) (by omega)).trans (by omega)
theorem Ins59_A_a18 (v v2 : Nat) (full : List AV) (x : AV) (n z c : Int) (N i k : Nat) (hn : n = N) (hz : z = i) (hc : c = (N : Int) + k) (hk : 1 ≤ k) (hi : i = N) (hN : N ≤ 100000000000) (hM : N + k ≤ 9223372036854775807) (hl : full.length = N + k) : real.arith .sub .i64 z 0 = z := by
 exact (W64 (z - 0) (by omega) (by omega)).trans (by omega)
theorem Ins59_A_a19 (v v2 : Nat) (full : List AV) (x : AV) (n z c : Int) (N i k : Nat) (hn : n = N) (hz : z = i) (hc : c = (N : Int) + k) (hk : 1 ≤ k) (hi : i = N) (hN : N ≤ 100000000000) (hM : N + k ≤ 9223372036854775807) (hl : full.length = N + k) : real.arith .sub .i64 (n + 1) 0 = n + 1 := by
 exact (W64 (n + 1 - 0) (by omega) (by omega)).trans (by omega)
theorem Ins59_A_a20 (v v2 : Nat) (full : List AV) (x : AV) (n z c : Int) (N i k : Nat) (hn : n = N) (hz : z = i) (hc : c = (N : Int) + k) (hk : 1 ≤ k) (hi : i = N) (hN : N ≤ 100000000000) (hM : N + k ≤ 9223372036854775807) (hl : full.length = N + k) : real.arith .add .i64 0 (n + 1) = n + 1 := by
 exact (W64 (0 + (n + 1)) (by omega) (by omega)).trans (by omega)
theorem Ins59_A_g7 (v v2 : Nat) (full : List AV) (x : AV) (n z c : Int) (N i k : Nat) (hn : n = N) (hz : z = i) (hc : c = (N : Int) + k) (hk : 1 ≤ k) (hi : i = N) (hN : N ≤ 100000000000) (hM : N + k ≤ 9223372036854775807) (hl : full.length = N + k) : real.cmp .lss (n - z) (n - z) = false := by
 simp [real, intRel]
theorem Ins59_A_r4 (v v2 : Nat) (full : List AV) (x : AV) (n z c : Int) (N i k : Nat) (hn : n = N) (hz : z = i) (hc : c = (N : Int) + k) (hk : 1 ≤ k) (hi : i = N) (hN : N ≤ 100000000000) (hM : N + k ≤ 9223372036854775807) (hl : full.length = N + k) : real.len (real.app (real.subL full 0 n) [x]) = n + 1 := by
 simp [real]; omega
theorem Ins59_A_d1 (v v2 : Nat) (full : List AV) (x : AV) (n z c : Int) (N i k : Nat) (hn : n = N) (hz : z = i) (hc : c = (N : Int) + k) (hk : 1 ≤ k) (hi : i = N) (hN : N ≤ 100000000000) (hM : N + k ≤ 9223372036854775807) (hl : full.length = N + k) : real.cut 0 (n + 1) c = true := by
 simp [real]; omega
theorem Ins59_A_d2 (v v2 : Nat) (full : List AV) (x : AV) (n z c : Int) (N i k : Nat) (hn : n = N) (hz : z = i) (hc : c = (N : Int) + k) (hk : 1 ≤ k) (hi : i = N) (hN : N ≤ 100000000000) (hM : N + k ≤ 9223372036854775807) (hl : full.length = N + k) : real.cut (z + 1) (n + 1) c = true := by
 simp [real]; omega
theorem Ins59_A_d3 (v v2 : Nat) (full : List AV) (x : AV) (n z c : Int) (N i k : Nat) (hn : n = N) (hz : z = i) (hc : c = (N : Int) + k) (hk : 1 ≤ k) (hi : i = N) (hN : N ≤ 100000000000) (hM : N + k ≤ 9223372036854775807) (hl : full.length = N + k) : real.cut z (n + 1) c = true := by
 simp [real]; omega
theorem Ins59_A_h3 (v v2 : Nat) (full : List AV) (x : AV) (n z c : Int) (N i k : Nat) (hn : n = N) (hz : z = i) (hc : c = (N : Int) + k) (hk : 1 ≤ k) (hi : i = N) (hN : N ≤ 100000000000) (hM : N + k ≤ 9223372036854775807) (hl : full.length = N + k) : real.cmp .leq 1 (c - n) = true := by
 simp [real, intRel]; omega
theorem Ins59_A_h5 (v v2 : Nat) (full : List AV) (x : AV) (n z c : Int) (N i k : Nat) (hn : n = N) (hz : z = i) (hc : c = (N : Int) + k) (hk : 1 ≤ k) (hi : i = N) (hN : N ≤ 100000000000) (hM : N + k ≤ 9223372036854775807) (hl : full.length = N + k) : real.cmp .gtr (n + 1) c = false := by
 simp [real, intRel]; omega
theorem Ins59_A_h1 (v v2 : Nat) (full : List AV) (x : AV) (n z c : Int) (N i k : Nat) (hn : n = N) (hz : z = i) (hc : c = (N : Int) + k) (hk : 1 ≤ k) (hi : i = N) (hN : N ≤ 100000000000) (hM : N + k ≤ 9223372036854775807) (hl : full.length = N + k) : real.cmp .eql z n = true := by
 simp [real, intRel]; omega
theorem Ins59_A_fin (v v2 : Nat) (full : List AV) (x : AV) (n z c : Int) (N i k : Nat) (hn : n = N) (hz : z = i) (hc : c = (N : Int) + k) (hk : 1 ≤ k) (hi : i = N) (hN : N ≤ 100000000000) (hM : N + k ≤ 9223372036854775807) (hl : full.length = N + k) : real.app (real.subL full 0 n) (real.app [x] (real.subL full (n + 1) (real.len full))) = full.take i ++ x :: ((full.take N).drop i ++ full.drop (N + 1)) := by
 have q0 : (0 : Int).toNat = 0 := rfl
 have q1 : (z - 0).toNat = i := by omega
 have q2 : z.toNat = i := by omega
 have q3 : (z + 1 - 0).toNat = i + 1 := by omega
 have q4 : (z + 1).toNat = i + 1 := by omega
 have q5 : (n - 0).toNat = N := by omega
 have q6 : (n + 1).toNat = N + 1 := by omega
 have q7 : (n + 1 - z).toNat = N + 1 - i := by omega
 have q8 : (n - z - 0).toNat = N - i := by omega
 have q9 : (n - z).toNat = N - i := by omega
 have q10 : ∀ m : Nat, ((m : Int) - (z + 1)).toNat = m - (i + 1) := fun m => by omega
 have q11 : ∀ m : Nat, ((m : Int) - (n + 1)).toNat = m - (N + 1) := fun m => by omega
 have q12 : (n + 1 - (z + 1)).toNat = N + 1 - (i + 1) := by omega
 simp only [real, q0, q1, q2, q3, q4, q5, q6, q7, q8, q9, q10, q11, q12, List.drop_zero]
 subst hi; exact insA_list full x i (by omega)
theorem Ins59_A (v v2 : Nat) (full : List AV) (x : AV) (n z c : Int) (N i k : Nat) (hn : n = N) (hz : z = i) (hc : c = (N : Int) + k) (hk : 1 ≤ k) (hi : i = N) (hN : N ≤ 100000000000) (hM : N + k ≤ 9223372036854775807) (hl : full.length = N + k) (K0 : Out → St → Prop) (hK : K0 (.ret (.msf 59 0 v 0 (n + 1) c)) ⟨[(1, [.mrow 59 v2 false [x]]), (0, [.mrow 59 v true (full.take i ++ x :: ((full.take N).drop i ++ full.drop (N + 1)))])], 2, []⟩) :
  CallP Try.prog (Tr.tab real) 34 [.msf 59 0 v 0 n c, .int .i64 z, .msl 59 1 v2 0 1] ⟨[(1, [.mrow 59 v2 false [x]]), (0, [.mrow 59 v true full])], 2, []⟩ K0 := by
 apply body_calls (un := 0) Tr.tabOk Tr.mixed Tr.fn34 (Nat.le_of_ble_eq_true rfl)
 apply gen_body (mk := Tr.tab)
 intro fail need same call loop len slen arith shift cmp conv eqS ltS cat app elt byt subS subL strOf isB fit inb cut room not and eqB avs rep ver G
 have b1 : ver v v = true := by
  have h := Ins59_A_b1 v v2 full x n z c N i k hn hz hc hk hi hN hM hl
  rw [G.ver']; exact h
 have b2 : ver v2 v2 = true := by
  have h := Ins59_A_b2 v v2 full x n z c N i k hn hz hc hk hi hN hM hl
  rw [G.ver']; exact h
 have b3 : ver 0 0 = true := by
  have h := Ins59_A_b3 v v2 full x n z c N i k hn hz hc hk hi hN hM hl
  rw [G.ver']; exact h
 have f1 : cut z n c = true := by
  have h := Ins59_A_f1 v v2 full x n z c N i k hn hz hc hk hi hN hM hl
  rw [G.cut']; exact h
 have f2 : cmp .eql 1 0 = false := by
  have h := Ins59_A_f2 v v2 full x n z c N i k hn hz hc hk hi hN hM hl
  rw [G.cmp']; exact h
 have f3 : subL [x] 0 1 = [x] := by
  have h := Ins59_A_f3 v v2 full x n z c N i k hn hz hc hk hi hN hM hl
  rw [G.subL']; exact h
 have f4 : len [x] = 1 := by
  have h := Ins59_A_f4 v v2 full x n z c N i k hn hz hc hk hi hN hM hl
  rw [G.len']; exact h
 have nf : not false = true := by
  have h := Ins59_A_nf v v2 full x n z c N i k hn hz hc hk hi hN hM hl
  rw [G.not']; exact h
 have nt : not true = false := by
  have h := Ins59_A_nt v v2 full x n z c N i k hn hz hc hk hi hN hM hl
  rw [G.not']; exact h
 have f8 : cmp .eql 0 0 = true := by
  have h := Ins59_A_f8 v v2 full x n z c N i k hn hz hc hk hi hN hM hl
  rw [G.cmp']; exact h
 have a1 : arith .add .i64 n 1 = n + 1 := by
  have h := Ins59_A_a1 v v2 full x n z c N i k hn hz hc hk hi hN hM hl
  rw [G.arith']; exact h
 have a2 : arith .sub .i64 c n = c - n := by
  have h := Ins59_A_a2 v v2 full x n z c N i k hn hz hc hk hi hN hM hl
  rw [G.arith']; exact h
 have a3 : arith .add .i64 z 1 = z + 1 := by
  have h := Ins59_A_a3 v v2 full x n z c N i k hn hz hc hk hi hN hM hl
  rw [G.arith']; exact h
 have a4 : arith .add .i64 0 n = n := by
  have h := Ins59_A_a4 v v2 full x n z c N i k hn hz hc hk hi hN hM hl
  rw [G.arith']; exact h
 have a5 : arith .add .i64 0 1 = 1 := by
  have h := Ins59_A_a5 v v2 full x n z c N i k hn hz hc hk hi hN hM hl
  rw [G.arith']; exact h
 have a6 : arith .add .i64 0 z = z := by
  have h := Ins59_A_a6 v v2 full x n z c N i k hn hz hc hk hi hN hM hl
  rw [G.arith']; exact h
 have a7 : arith .sub .i64 n z = n - z := by
  have h := Ins59_A_a7 v v2 full x n z c N i k hn hz hc hk hi hN hM hl
  rw [G.arith']; exact h
 have a8 : arith .sub .i64 c z = c - z := by
  have h := Ins59_A_a8 v v2 full x n z c N i k hn hz hc hk hi hN hM hl
  rw [G.arith']; exact h
 have a9 : arith .sub .i64 (n + 1) (z + 1) = n - z := by
  have h := Ins59_A_a9 v v2 full x n z c N i k hn hz hc hk hi hN hM hl
  rw [G.arith']; exact h
 have a10 : arith .sub .i64 c (z + 1) = c - (z + 1) := by
  have h := Ins59_A_a10 v v2 full x n z c N i k hn hz hc hk hi hN hM hl
  rw [G.arith']; exact h
 have a11 : arith .sub .i64 (n + 1) z = n + 1 - z := by
  have h := Ins59_A_a11 v v2 full x n z c N i k hn hz hc hk hi hN hM hl
  rw [G.arith']; exact h
 have a12 : arith .add .i64 0 (z + 1) = z + 1 := by
  have h := Ins59_A_a12 v v2 full x n z c N i k hn hz hc hk hi hN hM hl
  rw [G.arith']; exact h
 have a13 : arith .add .i64 z (n - z) = n := by
  have h := Ins59_A_a13 v v2 full x n z c N i k hn hz hc hk hi hN hM hl
  rw [G.arith']; exact h
 have a14 : arith .add .i64 z (n + 1 - z) = n + 1 := by
  have h := Ins59_A_a14 v v2 full x n z c N i k hn hz hc hk hi hN hM hl
  rw [G.arith']; exact h
 have a15 : arith .add .i64 (z + 1) (n - z) = n + 1 := by
  have h := Ins59_A_a15 v v2 full x n z c N i k hn hz hc hk hi hN hM hl
  rw [G.arith']; exact h
 have a16 : arith .sub .i64 1 0 = 1 := by
  have h := Ins59_A_a16 v v2 full x n z c N i k hn hz hc hk hi hN hM hl
  rw [G.arith']; exact h
 have a17 : arith .sub .i64 n 0 = n := by
  have h := Ins59_A_a17 v v2 full x n z c N i k hn hz hc hk hi hN hM hl
  rw [G.arith']; exact h
 have a18 : arith .sub .i64 z 0 = z := by
  have h := Ins59_A_a18 v v2 full x n z c N i k hn hz hc hk hi hN hM hl
  rw [G.arith']; exact h
 have a19 : arith .sub .i64 (n + 1) 0 = n + 1 := by
  have h := Ins59_A_a19 v v2 full x n z c N i k hn hz hc hk hi hN hM hl
  rw [G.arith']; exact h
 have a20 : arith .add .i64 0 (n + 1) = n + 1 := by
  have h := Ins59_A_a20 v v2 full x n z c N i k hn hz hc hk hi hN hM hl
  rw [G.arith']; exact h
 have g7 : cmp .lss (n - z) (n - z) = false := by
  have h := Ins59_A_g7 v v2 full x n z c N i k hn hz hc hk hi hN hM hl
  rw [G.cmp']; exact h
 have r4 : len (app (subL full 0 n) [x]) = n + 1 := by
  have h := Ins59_A_r4 v v2 full x n z c N i k hn hz hc hk hi hN hM hl
  rw [G.len', G.app', G.subL']; exact h
 have d1 : cut 0 (n + 1) c = true := by
  have h := Ins59_A_d1 v v2 full x n z c N i k hn hz hc hk hi hN hM hl
  rw [G.cut']; exact h
 have d2 : cut (z + 1) (n + 1) c = true := by
  have h := Ins59_A_d2 v v2 full x n z c N i k hn hz hc hk hi hN hM hl
  rw [G.cut']; exact h
 have d3 : cut z (n + 1) c = true := by
  have h := Ins59_A_d3 v v2 full x n z c N i k hn hz hc hk hi hN hM hl
  rw [G.cut']; exact h
 have h3 : cmp .leq 1 (c - n) = true := by
  have h := Ins59_A_h3 v v2 full x n z c N i k hn hz hc hk hi hN hM hl
  rw [G.cmp']; exact h
 have h5 : cmp .gtr (n + 1) c = false := by
  have h := Ins59_A_h5 v v2 full x n z c N i k hn hz hc hk hi hN hM hl
  rw [G.cmp']; exact h
 have h1 : cmp .eql z n = true := by
  have h := Ins59_A_h1 v v2 full x n z c N i k hn hz hc hk hi hN hM hl
  rw [G.cmp']; exact h
 have fin : app (subL full 0 n) (app [x] (subL full (n + 1) (len full))) = full.take i ++ x :: ((full.take N).drop i ++ full.drop (N + 1)) := by
  have h := Ins59_A_fin v v2 full x n z c N i k hn hz hc hk hi hN hM hl
  rw [G.app', G.subL', G.len']; exact h
 clear hn hz hc hN hM hl
 generalize n + 1 - z = nz1 at *
 generalize hnp : n + 1 = n1 at *
 generalize c - n = cn at *
 generalize c - (z + 1) = cz1 at *
 generalize c - z = cz at *
 generalize hzp : z + 1 = z1 at *
 generalize hnz : n - z = nz at *
 cbv
 iterate 90 (first | (rw [b1]; cbv) | (rw [b2]; cbv) | (rw [b3]; cbv) | (rw [f2]; cbv) | (rw [f3]; cbv) | (rw [f4]; cbv) | (rw [nf]; cbv) | (rw [nt]; cbv) | (rw [a1]; cbv) | (rw [a2]; cbv) | (rw [a3]; cbv) | (rw [a4]; cbv) | (rw [a5]; cbv) | (rw [a6]; cbv) | (rw [a7]; cbv) | (rw [a8]; cbv) | (rw [a9]; cbv) | (rw [a10]; cbv) | (rw [a11]; cbv) | (rw [a12]; cbv) | (rw [a13]; cbv) | (rw [a14]; cbv) | (rw [a15]; cbv) | (rw [a16]; cbv) | (rw [a17]; cbv) | (rw [a18]; cbv) | (rw [a19]; cbv) | (rw [a20]; cbv) | (rw [g7]; cbv) | (rw [r4]; cbv) | (rw [h3]; cbv) | (rw [h5]; cbv) | (rw [h1]; cbv) | (refine GenH.need' G rfl ?_; cbv) | (refine GenH.need' G f1 ?_; cbv) | (refine GenH.need' G f8 ?_; cbv) | (refine GenH.need' G d1 ?_; cbv) | (refine GenH.need' G d2 ?_; cbv) | (refine GenH.need' G d3 ?_; cbv) | (refine GenH.same' G rfl ?_; cbv) | skip)
 rw [fin]
 exact hK
end Go.AM
namespace Go.AM
open Go.Proofs
theorem Ins59_C_b1 (v v2 : Nat) (full : List AV) (x : AV) (n z c : Int) (N i k : Nat) (hn : n = N) (hz : z = i) (hc : c = (N : Int) + k) (hk : k = 0) (hi : i = N) (hN : N ≤ 100000000000) (hM : N + k ≤ 9223372036854775807) (hl : full.length = N + k) : real.ver v v = true := by
 exact Nat.beq_refl v
theorem Ins59_C_b2 (v v2 : Nat) (full : List AV) (x : AV) (n z c : Int) (N i k : Nat) (hn : n = N) (hz : z = i) (hc : c = (N : Int) + k) (hk : k = 0) (hi : i = N) (hN : N ≤ 100000000000) (hM : N + k ≤ 9223372036854775807) (hl : full.length = N + k) : real.ver v2 v2 = true := by
 exact Nat.beq_refl v2
theorem Ins59_C_b3 (v v2 : Nat) (full : List AV) (x : AV) (n z c : Int) (N i k : Nat) (hn : n = N) (hz : z = i) (hc : c = (N : Int) + k) (hk : k = 0) (hi : i = N) (hN : N ≤ 100000000000) (hM : N + k ≤ 9223372036854775807) (hl : full.length = N + k) : real.ver 0 0 = true := by
 rfl
theorem Ins59_C_f1 (v v2 : Nat) (full : List AV) (x : AV) (n z c : Int) (N i k : Nat) (hn : n = N) (hz : z = i) (hc : c = (N : Int) + k) (hk : k = 0) (hi : i = N) (hN : N ≤ 100000000000) (hM : N + k ≤ 9223372036854775807) (hl : full.length = N + k) : real.cut z n c = true := by
 simp [real]; omega
theorem Ins59_C_f2 (v v2 : Nat) (full : List AV) (x : AV) (n z c : Int) (N i k : Nat) (hn : n = N) (hz : z = i) (hc : c = (N : Int) + k) (hk : k = 0) (hi : i = N) (hN : N ≤ 100000000000) (hM : N + k ≤ 9223372036854775807) (hl : full.length = N + k) : real.cmp .eql 1 0 = false := by
 rfl
theorem Ins59_C_f3 (v v2 : Nat) (full : List AV) (x : AV) (n z c : Int) (N i k : Nat) (hn : n = N) (hz : z = i) (hc : c = (N : Int) + k) (hk : k = 0) (hi : i = N) (hN : N ≤ 100000000000) (hM : N + k ≤ 9223372036854775807) (hl : full.length = N + k) : real.subL [x] 0 1 = [x] := by
 rfl
theorem Ins59_C_f4 (v v2 : Nat) (full : List AV) (x : AV) (n z c : Int) (N i k : Nat) (hn : n = N) (hz : z = i) (hc : c = (N : Int) + k) (hk : k = 0) (hi : i = N) (hN : N ≤ 100000000000) (hM : N + k ≤ 9223372036854775807) (hl : full.length = N + k) : real.len [x] = 1 := by
 rfl
theorem Ins59_C_nf (v v2 : Nat) (full : List AV) (x : AV) (n z c : Int) (N i k : Nat) (hn : n = N) (hz : z = i) (hc : c = (N : Int) + k) (hk : k = 0) (hi : i = N) (hN : N ≤ 100000000000) (hM : N + k ≤ 9223372036854775807) (hl : full.length = N + k) : real.not false = true := by
 rfl
theorem Ins59_C_nt (v v2 : Nat) (full : List AV) (x : AV) (n z c : Int) (N i k : Nat) (hn : n = N) (hz : z = i) (hc : c = (N : Int) + k) (hk : k = 0) (hi : i = N) (hN : N ≤ 100000000000) (hM : N + k ≤ 9223372036854775807) (hl : full.length = N + k) : real.not true = false := by
 rfl
theorem Ins59_C_f8 (v v2 : Nat) (full : List AV) (x : AV) (n z c : Int) (N i k : Nat) (hn : n = N) (hz : z = i) (hc : c = (N : Int) + k) (hk : k = 0) (hi : i = N) (hN : N ≤ 100000000000) (hM : N + k ≤ 9223372036854775807) (hl : full.length = N + k) : real.cmp .eql 0 0 = true := by
 rfl
theorem Ins59_C_a1 (v v2 : Nat) (full : List AV) (x : AV) (n z c : Int) (N i k : Nat) (hn : n = N) (hz : z = i) (hc : c = (N : Int) + k) (hk : k = 0) (hi : i = N) (hN : N ≤ 100000000000) (hM : N + k ≤ 9223372036854775807) (hl : full.length = N + k) : real.arith .add .i64 n 1 = n + 1 := by
 exact W64 (n + 1) (by omega) (by omega)
theorem Ins59_C_a2 (v v2 : Nat) (full : List AV) (x : AV) (n z c : Int) (N i k : Nat) (hn : n = N) (hz : z = i) (hc : c = (N : Int) + k) (hk : k = 0) (hi : i = N) (hN : N ≤ 100000000000) (hM : N + k ≤ 9223372036854775807) (hl : full.length = N + k) : real.arith .sub .i64 c n = c - n := by
 exact W64 (c - n) (by omega) (by omega)
theorem Ins59_C_a3 (v v2 : Nat) (full : List AV) (x : AV) (n z c : Int) (N i k : Nat) (hn : n = N) (hz : z = i) (hc : c = (N : Int) + k) (hk : k = 0) (hi : i = N) (hN : N ≤ 100000000000) (hM : N + k ≤ 9223372036854775807) (hl : full.length = N + k) : real.arith .add .i64 z 1 = z + 1 := by
 exact W64 (z + 1) (by omega) (by omega)
theorem Ins59_C_a4 (v v2 : Nat) (full : List AV) (x : AV) (n z c : Int) (N i k : Nat) (hn : n = N) (hz : z = i) (hc : c = (N : Int) + k) (hk : k = 0) (hi : i = N) (hN : N ≤ 100000000000) (hM : N + k ≤ 9223372036854775807) (hl : full.length = N + k) : real.arith .add .i64 0 n = n := by
 exact (W64 (0 + n) (by omega) (by omega)).trans (by omega)
theorem Ins59_C_a5 (v v2 : Nat) (full : List AV) (x : AV) (n z c : Int) (N i k : Nat) (hn : n = N) (hz : z = i) (hc : c = (N : Int) + k) (hk : k = 0) (hi : i = N) (hN : N ≤ 100000000000) (hM : N + k ≤ 9223372036854775807) (hl : full.length = N + k) : real.arith .add .i64 0 1 = 1 := by
 rfl
theorem Ins59_C_a6 (v v2 : Nat) (full : List AV) (x : AV) (n z c : Int) (N i k : Nat) (hn : n = N) (hz : z = i) (hc : c = (N : Int) + k) (hk : k = 0) (hi : i = N) (hN : N ≤ 100000000000) (hM : N + k ≤ 9223372036854775807) (hl : full.length = N + k) : real.arith .add .i64 0 z = z := by
 exact (W64 (0 + z) (by omega) (by omega)).trans (by omega)
theorem Ins59_C_a7 (v v2 : Nat) (full : List AV) (x : AV) (n z c : Int) (N i k : Nat) (hn : n = N) (hz : z = i) (hc : c = (N : Int) + k) (hk : k = 0) (hi : i = N) (hN : N ≤ 100000000000) (hM : N + k ≤ 9223372036854775807) (hl : full.length = N + k) : real.arith .sub .i64 n z = n - z := by
 exact W64 (n - z) (by omega) (by omega)
theorem Ins59_C_a8 (v v2 : Nat) (full : List AV) (x : AV) (n z c : Int) (N i k : Nat) (hn : n = N) (hz : z = i) (hc : c = (N : Int) + k) (hk : k = 0) (hi : i = N) (hN : N ≤ 100000000000) (hM : N + k ≤ 9223372036854775807) (hl : full.length = N + k) : real.arith .sub .i64 c z = c - z := by
 exact W64 (c - z) (by omega) (by omega)
theorem Ins59_C_a9 (v v2 : Nat) (full : List AV) (x : AV) (n z c : Int) (N i k : Nat) (hn : n = N) (hz : z = i) (hc : c = (N : Int) + k) (hk : k = 0) (hi : i = N) (hN : N ≤ 100000000000) (hM : N + k ≤ 9223372036854775807) (hl : full.length = N + k) : real.arith .sub .i64 (n + 1) (z + 1) = n - z := by
 exact (W64 (n + 1 - (z + 1)) (by omega) (by omega)).trans (by omega)
theorem Ins59_C_a10 (v v2 : Nat) (full : List AV) (x : AV) (n z c : Int) (N i k : Nat) (hn : n = N) (hz : z = i) (hc : c = (N : Int) + k) (hk : k = 0) (hi : i = N) (hN : N ≤ 100000000000) (hM : N + k ≤ 9223372036854775807) (hl : full.length = N + k) : real.arith .sub .i64 c (z + 1) = c - (z + 1) := by
 exact W64 (c - (z + 1)) (by omega) (by omega)
theorem Ins59_C_a11 (v v2 : Nat) (full : List AV) (x : AV) (n z c : Int) (N i k : Nat) (hn : n = N) (hz : z = i) (hc : c = (N : Int) + k) (hk : k = 0) (hi : i = N) (hN : N ≤ 100000000000) (hM : N + k ≤ 9223372036854775807) (hl : full.length = N + k) : real.arith .sub .i64 (n + 1) z = n + 1 - z := by
 exact W64 (n + 1 - z) (by omega) (by omega)
theorem Ins59_C_a12 (v v2 : Nat) (full : List AV) (x : AV) (n z c : Int) (N i k : Nat) (hn : n = N) (hz : z = i) (hc : c = (N : Int) + k) (hk : k = 0) (hi : i = N) (hN : N ≤ 100000000000) (hM : N + k ≤ 9223372036854775807) (hl : full.length = N + k) : real.arith .add .i64 0 (z + 1) = z + 1 := by
 exact (W64 (0 + (z + 1)) (by omega) (by omega)).trans (by omega)
theorem Ins59_C_a13 (v v2 : Nat) (full : List AV) (x : AV) (n z c : Int) (N i k : Nat) (hn : n = N) (hz : z = i) (hc : c = (N : Int) + k) (hk : k = 0) (hi : i = N) (hN : N ≤ 100000000000) (hM : N + k ≤ 9223372036854775807) (hl : full.length = N + k) : real.arith .add .i64 z (n - z) = n := by
 exact (W64 (z + (n - z)) (by omega) (by omega)).trans (by omega)
theorem Ins59_C_a14 (v v2 : Nat) (full : List AV) (x : AV) (n z c : Int) (N i k : Nat) (hn : n = N) (hz : z = i) (hc : c = (N : Int) + k) (hk : k = 0) (hi : i = N) (hN : N ≤ 100000000000) (hM : N + k ≤ 9223372036854775807) (hl : full.length = N + k) : real.arith .add .i64 z (n + 1 - z) = n + 1 := by
 exact (W64 (z + (n + 1 - z)) (by omega) (by omega)).trans (by omega)
theorem Ins59_C_a15 (v v2 : Nat) (full : List AV) (x : AV) (n z c : Int) (N i k : Nat) (hn : n = N) (hz : z = i) (hc : c = (N : Int) + k) (hk : k = 0) (hi : i = N) (hN : N ≤ 100000000000) (hM : N + k ≤ 9223372036854775807) (hl : full.length = N + k) : real.arith .add .i64 (z + 1) (n - z) = n + 1 := by
 exact (W64 (z + 1 + (n - z)) (by omega) (by omega)).trans (by omega)
theorem Ins59_C_a16 (v v2 : Nat) (full : List AV) (x : AV) (n z c : Int) (N i k : Nat) (hn : n = N) (hz : z = i) (hc : c = (N : Int) + k) (hk : k = 0) (hi : i = N) (hN : N ≤ 100000000000) (hM : N + k ≤ 9223372036854775807) (hl : full.length = N + k) : real.arith .sub .i64 1 0 = 1 := by
 rfl
theorem Ins59_C_a17 (v v2 : Nat) (full : List AV) (x : AV) (n z c : Int) (N i k : Nat) (hn : n = N) (hz : z = i) (hc : c = (N : Int) + k) (hk : k = 0) (hi : i = N) (hN : N ≤ 100000000000) (hM : N + k ≤ 9223372036854775807) (hl : full.length = N + k) : real.arith .sub .i64 n 0 = n := by
 exact (W64 (n - 0) (by omega) (by omega)).trans (by omega)
theorem Ins59_C_a18 (v v2 : Nat) (full : List AV) (x : AV) (n z c : Int) (N i k : Nat) (hn : n = N) (hz : z = i) (hc : c = (N : Int) + k) (hk : k = 0) (hi : i = N) (hN : N ≤ 100000000000) (hM : N + k ≤ 9223372036854775807) (hl : full.length = N + k) : real.arith .sub .i64 z 0 = z := by
 exact (W64 (z - 0) (by omega) (by omega)).trans (by omega)
theorem Ins59_C_a19 (v v2 : Nat) (full : List AV) (x : AV) (n z c : Int) (N i k : Nat) (hn : n = N) (hz : z = i) (hc : c = (N : Int) + k) (hk : k = 0) (hi : i = N) (hN : N ≤ 100000000000) (hM : N + k ≤ 9223372036854775807) (hl : full.length = N + k) : real.arith .sub .i64 (n + 1) 0 = n + 1 := by
 exact (W64 (n + 1 - 0) (by omega) (by omega)).trans (by omega)
theorem Ins59_C_a20 (v v2 : Nat) (full : List AV) (x : AV) (n z c : Int) (N i k : Nat) (hn : n = N) (hz : z = i) (hc : c = (N : Int) + k) (hk : k = 0) (hi : i = N) (hN : N ≤ 100000000000) (hM : N + k ≤ 9223372036854775807) (hl : full.length = N + k) : real.arith .add .i64 0 (n + 1) = n + 1 := by
 exact (W64 (0 + (n + 1)) (by omega) (by omega)).trans (by omega)
theorem Ins59_C_g7 (v v2 : Nat) (full : List AV) (x : AV) (n z c : Int) (N i k : Nat) (hn : n = N) (hz : z = i) (hc : c = (N : Int) + k) (hk : k = 0) (hi : i = N) (hN : N ≤ 100000000000) (hM : N + k ≤ 9223372036854775807) (hl : full.length = N + k) : real.cmp .lss (n - z) (n - z) = false := by
 simp [real, intRel]
theorem Ins59_C_r4 (v v2 : Nat) (full : List AV) (x : AV) (n z c : Int) (N i k : Nat) (hn : n = N) (hz : z = i) (hc : c = (N : Int) + k) (hk : k = 0) (hi : i = N) (hN : N ≤ 100000000000) (hM : N + k ≤ 9223372036854775807) (hl : full.length = N + k) : real.len (real.app (real.subL full 0 n) [x]) = n + 1 := by
 simp [real]; omega
theorem Ins59_C_r8 (v v2 : Nat) (full : List AV) (x : AV) (n z c : Int) (N i k : Nat) (hn : n = N) (hz : z = i) (hc : c = (N : Int) + k) (hk : k = 0) (hi : i = N) (hN : N ≤ 100000000000) (hM : N + k ≤ 9223372036854775807) (hl : full.length = N + k) : real.len full = n := by
 simp [real]; omega
theorem Ins59_C_r1 (v v2 : Nat) (full : List AV) (x : AV) (n z c : Int) (N i k : Nat) (hn : n = N) (hz : z = i) (hc : c = (N : Int) + k) (hk : k = 0) (hi : i = N) (hN : N ≤ 100000000000) (hM : N + k ≤ 9223372036854775807) (hl : full.length = N + k) : real.and (real.cmp .leq 0 (n + 1 - z)) (real.room (n + 1 - z) 32) = true := by
 simp [real, intRel]; omega
theorem Ins59_C_r2 (v v2 : Nat) (full : List AV) (x : AV) (n z c : Int) (N i k : Nat) (hn : n = N) (hz : z = i) (hc : c = (N : Int) + k) (hk : k = 0) (hi : i = N) (hN : N ≤ 100000000000) (hM : N + k ≤ 9223372036854775807) (hl : full.length = N + k) : real.len (real.rep (n + 1 - z) (.agg [.str [], .int .i64 0, .bool false])) = n + 1 - z := by
 simp [real]; omega
theorem Ins59_C_r3 (v v2 : Nat) (full : List AV) (x : AV) (n z c : Int) (N i k : Nat) (hn : n = N) (hz : z = i) (hc : c = (N : Int) + k) (hk : k = 0) (hi : i = N) (hN : N ≤ 100000000000) (hM : N + k ≤ 9223372036854775807) (hl : full.length = N + k) : real.room (n + 1) 32 = true := by
 simp [real]; omega
theorem Ins59_C_r5 (v v2 : Nat) (full : List AV) (x : AV) (n z c : Int) (N i k : Nat) (hn : n = N) (hz : z = i) (hc : c = (N : Int) + k) (hk : k = 0) (hi : i = N) (hN : N ≤ 100000000000) (hM : N + k ≤ 9223372036854775807) (hl : full.length = N + k) : real.len (real.app (real.subL full 0 z) (real.rep (n + 1 - z) (.agg [.str [], .int .i64 0, .bool false]))) = n + 1 := by
 simp [real]; omega
theorem Ins59_C_d4 (v v2 : Nat) (full : List AV) (x : AV) (n z c : Int) (N i k : Nat) (hn : n = N) (hz : z = i) (hc : c = (N : Int) + k) (hk : k = 0) (hi : i = N) (hN : N ≤ 100000000000) (hM : N + k ≤ 9223372036854775807) (hl : full.length = N + k) : real.cut 0 z c = true := by
 simp [real]; omega
theorem Ins59_C_d5 (v v2 : Nat) (full : List AV) (x : AV) (n z c : Int) (N i k : Nat) (hn : n = N) (hz : z = i) (hc : c = (N : Int) + k) (hk : k = 0) (hi : i = N) (hN : N ≤ 100000000000) (hM : N + k ≤ 9223372036854775807) (hl : full.length = N + k) : real.cut z (n + 1) (n + 1) = true := by
 simp [real]; omega
theorem Ins59_C_d6 (v v2 : Nat) (full : List AV) (x : AV) (n z c : Int) (N i k : Nat) (hn : n = N) (hz : z = i) (hc : c = (N : Int) + k) (hk : k = 0) (hi : i = N) (hN : N ≤ 100000000000) (hM : N + k ≤ 9223372036854775807) (hl : full.length = N + k) : real.cut (z + 1) (n + 1) (n + 1) = true := by
 simp [real]; omega
theorem Ins59_C_h3 (v v2 : Nat) (full : List AV) (x : AV) (n z c : Int) (N i k : Nat) (hn : n = N) (hz : z = i) (hc : c = (N : Int) + k) (hk : k = 0) (hi : i = N) (hN : N ≤ 100000000000) (hM : N + k ≤ 9223372036854775807) (hl : full.length = N + k) : real.cmp .leq 1 (c - n) = false := by
 simp [real, intRel]; omega
theorem Ins59_C_h5 (v v2 : Nat) (full : List AV) (x : AV) (n z c : Int) (N i k : Nat) (hn : n = N) (hz : z = i) (hc : c = (N : Int) + k) (hk : k = 0) (hi : i = N) (hN : N ≤ 100000000000) (hM : N + k ≤ 9223372036854775807) (hl : full.length = N + k) : real.cmp .gtr (n + 1) c = true := by
 simp [real, intRel]; omega
theorem Ins59_C_h9 (v v2 : Nat) (full : List AV) (x : AV) (n z c : Int) (N i k : Nat) (hn : n = N) (hz : z = i) (hc : c = (N : Int) + k) (hk : k = 0) (hi : i = N) (hN : N ≤ 100000000000) (hM : N + k ≤ 9223372036854775807) (hl : full.length = N + k) : real.cmp .leq (n + 1 - z) (c - z) = false := by
 simp [real, intRel]; omega
theorem Ins59_C_h10 (v v2 : Nat) (full : List AV) (x : AV) (n z c : Int) (N i k : Nat) (hn : n = N) (hz : z = i) (hc : c = (N : Int) + k) (hk : k = 0) (hi : i = N) (hN : N ≤ 100000000000) (hM : N + k ≤ 9223372036854775807) (hl : full.length = N + k) : real.cmp .lss (n + 1 - z) 0 = false := by
 simp [real, intRel]; omega
theorem Ins59_C_h1 (v v2 : Nat) (full : List AV) (x : AV) (n z c : Int) (N i k : Nat) (hn : n = N) (hz : z = i) (hc : c = (N : Int) + k) (hk : k = 0) (hi : i = N) (hN : N ≤ 100000000000) (hM : N + k ≤ 9223372036854775807) (hl : full.length = N + k) : real.cmp .eql z n = true := by
 simp [real, intRel]; omega
theorem Ins59_C_fin (v v2 : Nat) (full : List AV) (x : AV) (n z c : Int) (N i k : Nat) (hn : n = N) (hz : z = i) (hc : c = (N : Int) + k) (hk : k = 0) (hi : i = N) (hN : N ≤ 100000000000) (hM : N + k ≤ 9223372036854775807) (hl : full.length = N + k) : real.app (real.subL full 0 n) [x] = full.take i ++ x :: (full.take N).drop i := by
 have q0 : (0 : Int).toNat = 0 := rfl
 have q1 : (z - 0).toNat = i := by omega
 have q2 : z.toNat = i := by omega
 have q3 : (z + 1 - 0).toNat = i + 1 := by omega
 have q4 : (z + 1).toNat = i + 1 := by omega
 have q5 : (n - 0).toNat = N := by omega
 have q6 : (n + 1).toNat = N + 1 := by omega
 have q7 : (n + 1 - z).toNat = N + 1 - i := by omega
 have q8 : (n - z - 0).toNat = N - i := by omega
 have q9 : (n - z).toNat = N - i := by omega
 have q10 : ∀ m : Nat, ((m : Int) - (z + 1)).toNat = m - (i + 1) := fun m => by omega
 have q11 : ∀ m : Nat, ((m : Int) - (n + 1)).toNat = m - (N + 1) := fun m => by omega
 have q12 : (n + 1 - (z + 1)).toNat = N + 1 - (i + 1) := by omega
 simp only [real, q0, q1, q2, q3, q4, q5, q6, q7, q8, q9, q10, q11, q12, List.drop_zero]
 subst hi; exact insC_list full x i
theorem Ins59_C (v v2 : Nat) (full : List AV) (x : AV) (n z c : Int) (N i k : Nat) (hn : n = N) (hz : z = i) (hc : c = (N : Int) + k) (hk : k = 0) (hi : i = N) (hN : N ≤ 100000000000) (hM : N + k ≤ 9223372036854775807) (hl : full.length = N + k) (K0 : Out → St → Prop) (hK : K0 (.ret (.msl 59 2 0 0 (n + 1))) ⟨[(2, [.mrow 59 0 false (full.take i ++ x :: (full.take N).drop i)]), (1, [.mrow 59 v2 false [x]]), (0, [.mrow 59 v true full])], 3, []⟩) :
  CallP Try.prog (Tr.tab real) 34 [.msf 59 0 v 0 n c, .int .i64 z, .msl 59 1 v2 0 1] ⟨[(1, [.mrow 59 v2 false [x]]), (0, [.mrow 59 v true full])], 2, []⟩ K0 := by
 apply body_calls (un := 0) Tr.tabOk Tr.mixed Tr.fn34 (Nat.le_of_ble_eq_true rfl)
 apply gen_body (mk := Tr.tab)
 intro fail need same call loop len slen arith shift cmp conv eqS ltS cat app elt byt subS subL strOf isB fit inb cut room not and eqB avs rep ver G
 have b1 : ver v v = true := by
  have h := Ins59_C_b1 v v2 full x n z c N i k hn hz hc hk hi hN hM hl
  rw [G.ver']; exact h
 have b2 : ver v2 v2 = true := by
  have h := Ins59_C_b2 v v2 full x n z c N i k hn hz hc hk hi hN hM hl
  rw [G.ver']; exact h
 have b3 : ver 0 0 = true := by
  have h := Ins59_C_b3 v v2 full x n z c N i k hn hz hc hk hi hN hM hl
  rw [G.ver']; exact h
 have f1 : cut z n c = true := by
  have h := Ins59_C_f1 v v2 full x n z c N i k hn hz hc hk hi hN hM hl
  rw [G.cut']; exact h
 have f2 : cmp .eql 1 0 = false := by
  have h := Ins59_C_f2 v v2 full x n z c N i k hn hz hc hk hi hN hM hl
  rw [G.cmp']; exact h
 have f3 : subL [x] 0 1 = [x] := by
  have h := Ins59_C_f3 v v2 full x n z c N i k hn hz hc hk hi hN hM hl
  rw [G.subL']; exact h
 have f4 : len [x] = 1 := by
  have h := Ins59_C_f4 v v2 full x n z c N i k hn hz hc hk hi hN hM hl
  rw [G.len']; exact h
 have nf : not false = true := by
  have h := Ins59_C_nf v v2 full x n z c N i k hn hz hc hk hi hN hM hl
  rw [G.not']; exact h
 have nt : not true = false := by
  have h := Ins59_C_nt v v2 full x n z c N i k hn hz hc hk hi hN hM hl
  rw [G.not']; exact h
 have f8 : cmp .eql 0 0 = true := by
  have h := Ins59_C_f8 v v2 full x n z c N i k hn hz hc hk hi hN hM hl
  rw [G.cmp']; exact h
 have a1 : arith .add .i64 n 1 = n + 1 := by
  have h := Ins59_C_a1 v v2 full x n z c N i k hn hz hc hk hi hN hM hl
  rw [G.arith']; exact h
 have a2 : arith .sub .i64 c n = c - n := by
  have h := Ins59_C_a2 v v2 full x n z c N i k hn hz hc hk hi hN hM hl
  rw [G.arith']; exact h
 have a3 : arith .add .i64 z 1 = z + 1 := by
  have h := Ins59_C_a3 v v2 full x n z c N i k hn hz hc hk hi hN hM hl
  rw [G.arith']; exact h
 have a4 : arith .add .i64 0 n = n := by
  have h := Ins59_C_a4 v v2 full x n z c N i k hn hz hc hk hi hN hM hl
  rw [G.arith']; exact h
 have a5 : arith .add .i64 0 1 = 1 := by
  have h := Ins59_C_a5 v v2 full x n z c N i k hn hz hc hk hi hN hM hl
  rw [G.arith']; exact h
 have a6 : arith .add .i64 0 z = z := by
  have h := Ins59_C_a6 v v2 full x n z c N i k hn hz hc hk hi hN hM hl
  rw [G.arith']; exact h
 have a7 : arith .sub .i64 n z = n - z := by
  have h := Ins59_C_a7 v v2 full x n z c N i k hn hz hc hk hi hN hM hl
  rw [G.arith']; exact h
 have a8 : arith .sub .i64 c z = c - z := by
  have h := Ins59_C_a8 v v2 full x n z c N i k hn hz hc hk hi hN hM hl
  rw [G.arith']; exact h
 have a9 : arith .sub .i64 (n + 1) (z + 1) = n - z := by
  have h := Ins59_C_a9 v v2 full x n z c N i k hn hz hc hk hi hN hM hl
  rw [G.arith']; exact h
 have a10 : arith .sub .i64 c (z + 1) = c - (z + 1) := by
  have h := Ins59_C_a10 v v2 full x n z c N i k hn hz hc hk hi hN hM hl
  rw [G.arith']; exact h
 have a11 : arith .sub .i64 (n + 1) z = n + 1 - z := by
  have h := Ins59_C_a11 v v2 full x n z c N i k hn hz hc hk hi hN hM hl
  rw [G.arith']; exact h
 have a12 : arith .add .i64 0 (z + 1) = z + 1 := by
  have h := Ins59_C_a12 v v2 full x n z c N i k hn hz hc hk hi hN hM hl
  rw [G.arith']; exact h
 have a13 : arith .add .i64 z (n - z) = n := by
  have h := Ins59_C_a13 v v2 full x n z c N i k hn hz hc hk hi hN hM hl
  rw [G.arith']; exact h
 have a14 : arith .add .i64 z (n + 1 - z) = n + 1 := by
  have h := Ins59_C_a14 v v2 full x n z c N i k hn hz hc hk hi hN hM hl
  rw [G.arith']; exact h
 have a15 : arith .add .i64 (z + 1) (n - z) = n + 1 := by
  have h := Ins59_C_a15 v v2 full x n z c N i k hn hz hc hk hi hN hM hl
  rw [G.arith']; exact h
 have a16 : arith .sub .i64 1 0 = 1 := by
  have h := Ins59_C_a16 v v2 full x n z c N i k hn hz hc hk hi hN hM hl
  rw [G.arith']; exact h
 have a17 : arith .sub .i64 n 0 = n := by
  have h := Ins59_C_a17 v v2 full x n z c N i k hn hz hc hk hi hN hM hl
  rw [G.arith']; exact h
 have a18 : arith .sub .i64 z 0 = z := by
  have h := Ins59_C_a18 v v2 full x n z c N i k hn hz hc hk hi hN hM hl
  rw [G.arith']; exact h
 have a19 : arith .sub .i64 (n + 1) 0 = n + 1 := by
  have h := Ins59_C_a19 v v2 full x n z c N i k hn hz hc hk hi hN hM hl
  rw [G.arith']; exact h
 have a20 : arith .add .i64 0 (n + 1) = n + 1 := by
  have h := Ins59_C_a20 v v2 full x n z c N i k hn hz hc hk hi hN hM hl
  rw [G.arith']; exact h
 have g7 : cmp .lss (n - z) (n - z) = false := by
  have h := Ins59_C_g7 v v2 full x n z c N i k hn hz hc hk hi hN hM hl
  rw [G.cmp']; exact h
 have r4 : len (app (subL full 0 n) [x]) = n + 1 := by
  have h := Ins59_C_r4 v v2 full x n z c N i k hn hz hc hk hi hN hM hl
  rw [G.len', G.app', G.subL']; exact h
 have r8 : len full = n := by
  have h := Ins59_C_r8 v v2 full x n z c N i k hn hz hc hk hi hN hM hl
  rw [G.len']; exact h
 have r1 : and (cmp .leq 0 (n + 1 - z)) (room (n + 1 - z) 32) = true := by
  have h := Ins59_C_r1 v v2 full x n z c N i k hn hz hc hk hi hN hM hl
  rw [G.and', G.cmp', G.room']; exact h
 have r2 : len (rep (n + 1 - z) (.agg [.str [], .int .i64 0, .bool false])) = n + 1 - z := by
  have h := Ins59_C_r2 v v2 full x n z c N i k hn hz hc hk hi hN hM hl
  rw [G.len', G.rep']; exact h
 have r3 : room (n + 1) 32 = true := by
  have h := Ins59_C_r3 v v2 full x n z c N i k hn hz hc hk hi hN hM hl
  rw [G.room']; exact h
 have r5 : len (app (subL full 0 z) (rep (n + 1 - z) (.agg [.str [], .int .i64 0, .bool false]))) = n + 1 := by
  have h := Ins59_C_r5 v v2 full x n z c N i k hn hz hc hk hi hN hM hl
  rw [G.len', G.app', G.subL', G.rep']; exact h
 have d4 : cut 0 z c = true := by
  have h := Ins59_C_d4 v v2 full x n z c N i k hn hz hc hk hi hN hM hl
  rw [G.cut']; exact h
 have d5 : cut z (n + 1) (n + 1) = true := by
  have h := Ins59_C_d5 v v2 full x n z c N i k hn hz hc hk hi hN hM hl
  rw [G.cut']; exact h
 have d6 : cut (z + 1) (n + 1) (n + 1) = true := by
  have h := Ins59_C_d6 v v2 full x n z c N i k hn hz hc hk hi hN hM hl
  rw [G.cut']; exact h
 have h3 : cmp .leq 1 (c - n) = false := by
  have h := Ins59_C_h3 v v2 full x n z c N i k hn hz hc hk hi hN hM hl
  rw [G.cmp']; exact h
 have h5 : cmp .gtr (n + 1) c = true := by
  have h := Ins59_C_h5 v v2 full x n z c N i k hn hz hc hk hi hN hM hl
  rw [G.cmp']; exact h
 have h9 : cmp .leq (n + 1 - z) (c - z) = false := by
  have h := Ins59_C_h9 v v2 full x n z c N i k hn hz hc hk hi hN hM hl
  rw [G.cmp']; exact h
 have h10 : cmp .lss (n + 1 - z) 0 = false := by
  have h := Ins59_C_h10 v v2 full x n z c N i k hn hz hc hk hi hN hM hl
  rw [G.cmp']; exact h
 have h1 : cmp .eql z n = true := by
  have h := Ins59_C_h1 v v2 full x n z c N i k hn hz hc hk hi hN hM hl
  rw [G.cmp']; exact h
 have fin : app (subL full 0 n) [x] = full.take i ++ x :: (full.take N).drop i := by
  have h := Ins59_C_fin v v2 full x n z c N i k hn hz hc hk hi hN hM hl
  rw [G.app', G.subL']; exact h
 clear hn hz hc hN hM hl
 generalize n + 1 - z = nz1 at *
 generalize hnp : n + 1 = n1 at *
 generalize c - n = cn at *
 generalize c - (z + 1) = cz1 at *
 generalize c - z = cz at *
 generalize hzp : z + 1 = z1 at *
 generalize hnz : n - z = nz at *
 cbv
 iterate 90 (first | (rw [b1]; cbv) | (rw [b2]; cbv) | (rw [b3]; cbv) | (rw [f2]; cbv) | (rw [f3]; cbv) | (rw [f4]; cbv) | (rw [nf]; cbv) | (rw [nt]; cbv) | (rw [a1]; cbv) | (rw [a2]; cbv) | (rw [a3]; cbv) | (rw [a4]; cbv) | (rw [a5]; cbv) | (rw [a6]; cbv) | (rw [a7]; cbv) | (rw [a8]; cbv) | (rw [a9]; cbv) | (rw [a10]; cbv) | (rw [a11]; cbv) | (rw [a12]; cbv) | (rw [a13]; cbv) | (rw [a14]; cbv) | (rw [a15]; cbv) | (rw [a16]; cbv) | (rw [a17]; cbv) | (rw [a18]; cbv) | (rw [a19]; cbv) | (rw [a20]; cbv) | (rw [g7]; cbv) | (rw [r4]; cbv) | (rw [r8]; cbv) | (rw [r2]; cbv) | (rw [r5]; cbv) | (rw [h3]; cbv) | (rw [h5]; cbv) | (rw [h9]; cbv) | (rw [h10]; cbv) | (rw [h1]; cbv) | (refine GenH.need' G rfl ?_; cbv) | (refine GenH.need' G f1 ?_; cbv) | (refine GenH.need' G f8 ?_; cbv) | (refine GenH.need' G r1 ?_; cbv) | (refine GenH.need' G r3 ?_; cbv) | (refine GenH.need' G d4 ?_; cbv) | (refine GenH.need' G d5 ?_; cbv) | (refine GenH.need' G d6 ?_; cbv) | (refine GenH.same' G rfl ?_; cbv) | skip)
 rw [fin]
 exact hK
end Go.AM
namespace Go.AM
open Go.Proofs
theorem Ins59_E (v2 : Nat) (x : AV) (K0 : Out → St → Prop) (hK : K0 (.ret (.msl 59 1 0 0 1)) ⟨[(1, [.mrow 59 0 false [x]]), (0, [.mrow 59 v2 false [x]])], 2, []⟩) :
  CallP Try.prog (Tr.tab real) 34 [.slice 0 [] .exact, .int .i64 0, .msl 59 0 v2 0 1] ⟨[(0, [.mrow 59 v2 false [x]])], 1, []⟩ K0 := by
 apply body_calls (un := 0) Tr.tabOk Tr.mixed Tr.fn34 (Nat.le_of_ble_eq_true rfl)
 apply gen_body (mk := Tr.tab)
 intro fail need same call loop len slen arith shift cmp conv eqS ltS cat app elt byt subS subL strOf isB fit inb cut room not and eqB avs rep ver G
 have b2 : ver v2 v2 = true := by rw [G.ver']; exact Nat.beq_refl v2
 have f2 : cmp .eql 1 0 = false := by rw [G.cmp']; rfl
 have f3 : subL [x] 0 1 = [x] := by rw [G.subL']; rfl
 have f4 : len [x] = 1 := by rw [G.len']; rfl
 have f5 : len [] = 0 := by rw [G.len']; rfl
 have f6 : app [] [x] = [x] := by rw [G.app']; rfl
 have f8 : cmp .eql 0 0 = true := by rw [G.cmp']; rfl
 have f9 : cut 0 0 0 = true := by rw [G.cut']; rfl
 have f10 : subL [] 0 0 = [] := by rw [G.subL']; rfl
 have f12 : cmp .lss 0 1 = true := by rw [G.cmp']; rfl
 have f11 : room 1 32 = true := by rw [G.room']; rfl
 have a5 : arith .add .i64 0 1 = 1 := by rw [G.arith']; rfl
 have a6 : arith .sub .i64 0 0 = 0 := by rw [G.arith']; rfl
 have h3 : cmp .leq 1 0 = false := by rw [G.cmp']; rfl
 have nf : not false = true := by rw [G.not']; rfl
 cbv
 iterate 60 (first | (rw [b2]; cbv) | (rw [f2]; cbv) | (rw [f3]; cbv) | (rw [f4]; cbv) | (rw [f5]; cbv) | (rw [f6]; cbv) | (rw [f8]; cbv) | (rw [f10]; cbv) | (rw [a5]; cbv) | (rw [a6]; cbv) | (rw [h3]; cbv) | (rw [nf]; cbv) | (refine GenH.need' G rfl ?_; cbv) | (refine GenH.need' G f9 ?_; cbv) | (refine GenH.need' G f11 ?_; cbv) | (refine GenH.need' G f12 ?_; cbv) | (refine GenH.need' G f8 ?_; cbv) | (refine GenH.same' G rfl ?_; cbv) | skip)
 exact hK
end Go.AM
