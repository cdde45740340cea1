/- slices.Insert within a row that has no room. -/
import Derived.Test.YtodfopcgficmlaaNlTab
set_option maxRecDepth 100000
set_option maxHeartbeats 20000000
set_option linter.unusedVariables false
set_option linter.unusedSimpArgs false
set_option linter.unusedSectionVars false
namespace Go.AM
open Go.Proofs
theorem Ins59_D_b1 (v v2 : Nat) (full : List AV) (x : AV) (n z c : Int) (N i k : Nat) (hn : n = N) (hz : z = i) (hc : c = (N : Int) + k) (hk : k = 0) (hi : i < N) (hN : N ≤ 100000000000) (hM : N + k ≤ 9223372036854775807) (hl : full.length = N + k) : real.ver v v = true := by
 exact Nat.beq_refl v
theorem Ins59_D_b2 (v v2 : Nat) (full : List AV) (x : AV) (n z c : Int) (N i k : Nat) (hn : n = N) (hz : z = i) (hc : c = (N : Int) + k) (hk : k = 0) (hi : i < N) (hN : N ≤ 100000000000) (hM : N + k ≤ 9223372036854775807) (hl : full.length = N + k) : real.ver v2 v2 = true := by
 exact Nat.beq_refl v2
theorem Ins59_D_b3 (v v2 : Nat) (full : List AV) (x : AV) (n z c : Int) (N i k : Nat) (hn : n = N) (hz : z = i) (hc : c = (N : Int) + k) (hk : k = 0) (hi : i < N) (hN : N ≤ 100000000000) (hM : N + k ≤ 9223372036854775807) (hl : full.length = N + k) : real.ver 0 0 = true := by
 rfl
theorem Ins59_D_f1 (v v2 : Nat) (full : List AV) (x : AV) (n z c : Int) (N i k : Nat) (hn : n = N) (hz : z = i) (hc : c = (N : Int) + k) (hk : k = 0) (hi : i < N) (hN : N ≤ 100000000000) (hM : N + k ≤ 9223372036854775807) (hl : full.length = N + k) : real.cut z n c = true := by
 simp [real]; omega
theorem Ins59_D_f2 (v v2 : Nat) (full : List AV) (x : AV) (n z c : Int) (N i k : Nat) (hn : n = N) (hz : z = i) (hc : c = (N : Int) + k) (hk : k = 0) (hi : i < N) (hN : N ≤ 100000000000) (hM : N + k ≤ 9223372036854775807) (hl : full.length = N + k) : real.cmp .eql 1 0 = false := by
 rfl
theorem Ins59_D_f3 (v v2 : Nat) (full : List AV) (x : AV) (n z c : Int) (N i k : Nat) (hn : n = N) (hz : z = i) (hc : c = (N : Int) + k) (hk : k = 0) (hi : i < N) (hN : N ≤ 100000000000) (hM : N + k ≤ 9223372036854775807) (hl : full.length = N + k) : real.subL [x] 0 1 = [x] := by
 rfl
theorem Ins59_D_f4 (v v2 : Nat) (full : List AV) (x : AV) (n z c : Int) (N i k : Nat) (hn : n = N) (hz : z = i) (hc : c = (N : Int) + k) (hk : k = 0) (hi : i < N) (hN : N ≤ 100000000000) (hM : N + k ≤ 9223372036854775807) (hl : full.length = N + k) : real.len [x] = 1 := by
 rfl
theorem Ins59_D_nf (v v2 : Nat) (full : List AV) (x : AV) (n z c : Int) (N i k : Nat) (hn : n = N) (hz : z = i) (hc : c = (N : Int) + k) (hk : k = 0) (hi : i < N) (hN : N ≤ 100000000000) (hM : N + k ≤ 9223372036854775807) (hl : full.length = N + k) : real.not false = true := by
 rfl
theorem Ins59_D_nt (v v2 : Nat) (full : List AV) (x : AV) (n z c : Int) (N i k : Nat) (hn : n = N) (hz : z = i) (hc : c = (N : Int) + k) (hk : k = 0) (hi : i < N) (hN : N ≤ 100000000000) (hM : N + k ≤ 9223372036854775807) (hl : full.length = N + k) : real.not true = false := by
 rfl
theorem Ins59_D_f8 (v v2 : Nat) (full : List AV) (x : AV) (n z c : Int) (N i k : Nat) (hn : n = N) (hz : z = i) (hc : c = (N : Int) + k) (hk : k = 0) (hi : i < N) (hN : N ≤ 100000000000) (hM : N + k ≤ 9223372036854775807) (hl : full.length = N + k) : real.cmp .eql 0 0 = true := by
 rfl
theorem Ins59_D_a1 (v v2 : Nat) (full : List AV) (x : AV) (n z c : Int) (N i k : Nat) (hn : n = N) (hz : z = i) (hc : c = (N : Int) + k) (hk : k = 0) (hi : i < N) (hN : N ≤ 100000000000) (hM : N + k ≤ 9223372036854775807) (hl : full.length = N + k) : real.arith .add .i64 n 1 = n + 1 := by
 exact W64 (n + 1) (by omega) (by omega)
theorem Ins59_D_a2 (v v2 : Nat) (full : List AV) (x : AV) (n z c : Int) (N i k : Nat) (hn : n = N) (hz : z = i) (hc : c = (N : Int) + k) (hk : k = 0) (hi : i < N) (hN : N ≤ 100000000000) (hM : N + k ≤ 9223372036854775807) (hl : full.length = N + k) : real.arith .sub .i64 c n = c - n := by
 exact W64 (c - n) (by omega) (by omega)
theorem Ins59_D_a3 (v v2 : Nat) (full : List AV) (x : AV) (n z c : Int) (N i k : Nat) (hn : n = N) (hz : z = i) (hc : c = (N : Int) + k) (hk : k = 0) (hi : i < N) (hN : N ≤ 100000000000) (hM : N + k ≤ 9223372036854775807) (hl : full.length = N + k) : real.arith .add .i64 z 1 = z + 1 := by
 exact W64 (z + 1) (by omega) (by omega)
theorem Ins59_D_a4 (v v2 : Nat) (full : List AV) (x : AV) (n z c : Int) (N i k : Nat) (hn : n = N) (hz : z = i) (hc : c = (N : Int) + k) (hk : k = 0) (hi : i < N) (hN : N ≤ 100000000000) (hM : N + k ≤ 9223372036854775807) (hl : full.length = N + k) : real.arith .add .i64 0 n = n := by
 exact (W64 (0 + n) (by omega) (by omega)).trans (by omega)
theorem Ins59_D_a5 (v v2 : Nat) (full : List AV) (x : AV) (n z c : Int) (N i k : Nat) (hn : n = N) (hz : z = i) (hc : c = (N : Int) + k) (hk : k = 0) (hi : i < N) (hN : N ≤ 100000000000) (hM : N + k ≤ 9223372036854775807) (hl : full.length = N + k) : real.arith .add .i64 0 1 = 1 := by
 rfl
theorem Ins59_D_a6 (v v2 : Nat) (full : List AV) (x : AV) (n z c : Int) (N i k : Nat) (hn : n = N) (hz : z = i) (hc : c = (N : Int) + k) (hk : k = 0) (hi : i < N) (hN : N ≤ 100000000000) (hM : N + k ≤ 9223372036854775807) (hl : full.length = N + k) : real.arith .add .i64 0 z = z := by
 exact (W64 (0 + z) (by omega) (by omega)).trans (by omega)
theorem Ins59_D_a7 (v v2 : Nat) (full : List AV) (x : AV) (n z c : Int) (N i k : Nat) (hn : n = N) (hz : z = i) (hc : c = (N : Int) + k) (hk : k = 0) (hi : i < N) (hN : N ≤ 100000000000) (hM : N + k ≤ 9223372036854775807) (hl : full.length = N + k) : real.arith .sub .i64 n z = n - z := by
 exact W64 (n - z) (by omega) (by omega)
theorem Ins59_D_a8 (v v2 : Nat) (full : List AV) (x : AV) (n z c : Int) (N i k : Nat) (hn : n = N) (hz : z = i) (hc : c = (N : Int) + k) (hk : k = 0) (hi : i < N) (hN : N ≤ 100000000000) (hM : N + k ≤ 9223372036854775807) (hl : full.length = N + k) : real.arith .sub .i64 c z = c - z := by
 exact W64 (c - z) (by omega) (by omega)
theorem Ins59_D_a9 (v v2 : Nat) (full : List AV) (x : AV) (n z c : Int) (N i k : Nat) (hn : n = N) (hz : z = i) (hc : c = (N : Int) + k) (hk : k = 0) (hi : i < N) (hN : N ≤ 100000000000) (hM : N + k ≤ 9223372036854775807) (hl : full.length = N + k) : real.arith .sub .i64 (n + 1) (z + 1) = n - z := by
 exact (W64 (n + 1 - (z + 1)) (by omega) (by omega)).trans (by omega)
theorem Ins59_D_a10 (v v2 : Nat) (full : List AV) (x : AV) (n z c : Int) (N i k : Nat) (hn : n = N) (hz : z = i) (hc : c = (N : Int) + k) (hk : k = 0) (hi : i < N) (hN : N ≤ 100000000000) (hM : N + k ≤ 9223372036854775807) (hl : full.length = N + k) : real.arith .sub .i64 c (z + 1) = c - (z + 1) := by
 exact W64 (c - (z + 1)) (by omega) (by omega)
theorem Ins59_D_a11 (v v2 : Nat) (full : List AV) (x : AV) (n z c : Int) (N i k : Nat) (hn : n = N) (hz : z = i) (hc : c = (N : Int) + k) (hk : k = 0) (hi : i < N) (hN : N ≤ 100000000000) (hM : N + k ≤ 9223372036854775807) (hl : full.length = N + k) : real.arith .sub .i64 (n + 1) z = n + 1 - z := by
 exact W64 (n + 1 - z) (by omega) (by omega)
theorem Ins59_D_a12 (v v2 : Nat) (full : List AV) (x : AV) (n z c : Int) (N i k : Nat) (hn : n = N) (hz : z = i) (hc : c = (N : Int) + k) (hk : k = 0) (hi : i < N) (hN : N ≤ 100000000000) (hM : N + k ≤ 9223372036854775807) (hl : full.length = N + k) : real.arith .add .i64 0 (z + 1) = z + 1 := by
 exact (W64 (0 + (z + 1)) (by omega) (by omega)).trans (by omega)
theorem Ins59_D_a13 (v v2 : Nat) (full : List AV) (x : AV) (n z c : Int) (N i k : Nat) (hn : n = N) (hz : z = i) (hc : c = (N : Int) + k) (hk : k = 0) (hi : i < N) (hN : N ≤ 100000000000) (hM : N + k ≤ 9223372036854775807) (hl : full.length = N + k) : real.arith .add .i64 z (n - z) = n := by
 exact (W64 (z + (n - z)) (by omega) (by omega)).trans (by omega)
theorem Ins59_D_a14 (v v2 : Nat) (full : List AV) (x : AV) (n z c : Int) (N i k : Nat) (hn : n = N) (hz : z = i) (hc : c = (N : Int) + k) (hk : k = 0) (hi : i < N) (hN : N ≤ 100000000000) (hM : N + k ≤ 9223372036854775807) (hl : full.length = N + k) : real.arith .add .i64 z (n + 1 - z) = n + 1 := by
 exact (W64 (z + (n + 1 - z)) (by omega) (by omega)).trans (by omega)
theorem Ins59_D_a15 (v v2 : Nat) (full : List AV) (x : AV) (n z c : Int) (N i k : Nat) (hn : n = N) (hz : z = i) (hc : c = (N : Int) + k) (hk : k = 0) (hi : i < N) (hN : N ≤ 100000000000) (hM : N + k ≤ 9223372036854775807) (hl : full.length = N + k) : real.arith .add .i64 (z + 1) (n - z) = n + 1 := by
 exact (W64 (z + 1 + (n - z)) (by omega) (by omega)).trans (by omega)
theorem Ins59_D_a16 (v v2 : Nat) (full : List AV) (x : AV) (n z c : Int) (N i k : Nat) (hn : n = N) (hz : z = i) (hc : c = (N : Int) + k) (hk : k = 0) (hi : i < N) (hN : N ≤ 100000000000) (hM : N + k ≤ 9223372036854775807) (hl : full.length = N + k) : real.arith .sub .i64 1 0 = 1 := by
 rfl
theorem Ins59_D_a17 (v v2 : Nat) (full : List AV) (x : AV) (n z c : Int) (N i k : Nat) (hn : n = N) (hz : z = i) (hc : c = (N : Int) + k) (hk : k = 0) (hi : i < N) (hN : N ≤ 100000000000) (hM : N + k ≤ 9223372036854775807) (hl : full.length = N + k) : real.arith .sub .i64 n 0 = n := by
 exact (W64 (n - 0) (by omega) (by omega)).trans (by omega)
theorem Ins59_D_a18 (v v2 : Nat) (full : List AV) (x : AV) (n z c : Int) (N i k : Nat) (hn : n = N) (hz : z = i) (hc : c = (N : Int) + k) (hk : k = 0) (hi : i < N) (hN : N ≤ 100000000000) (hM : N + k ≤ 9223372036854775807) (hl : full.length = N + k) : real.arith .sub .i64 z 0 = z := by
 exact (W64 (z - 0) (by omega) (by omega)).trans (by omega)
theorem Ins59_D_a19 (v v2 : Nat) (full : List AV) (x : AV) (n z c : Int) (N i k : Nat) (hn : n = N) (hz : z = i) (hc : c = (N : Int) + k) (hk : k = 0) (hi : i < N) (hN : N ≤ 100000000000) (hM : N + k ≤ 9223372036854775807) (hl : full.length = N + k) : real.arith .sub .i64 (n + 1) 0 = n + 1 := by
 exact (W64 (n + 1 - 0) (by omega) (by omega)).trans (by omega)
theorem Ins59_D_a20 (v v2 : Nat) (full : List AV) (x : AV) (n z c : Int) (N i k : Nat) (hn : n = N) (hz : z = i) (hc : c = (N : Int) + k) (hk : k = 0) (hi : i < N) (hN : N ≤ 100000000000) (hM : N + k ≤ 9223372036854775807) (hl : full.length = N + k) : real.arith .add .i64 0 (n + 1) = n + 1 := by
 exact (W64 (0 + (n + 1)) (by omega) (by omega)).trans (by omega)
theorem Ins59_D_g7 (v v2 : Nat) (full : List AV) (x : AV) (n z c : Int) (N i k : Nat) (hn : n = N) (hz : z = i) (hc : c = (N : Int) + k) (hk : k = 0) (hi : i < N) (hN : N ≤ 100000000000) (hM : N + k ≤ 9223372036854775807) (hl : full.length = N + k) : real.cmp .lss (n - z) (n - z) = false := by
 simp [real, intRel]
theorem Ins59_D_r4 (v v2 : Nat) (full : List AV) (x : AV) (n z c : Int) (N i k : Nat) (hn : n = N) (hz : z = i) (hc : c = (N : Int) + k) (hk : k = 0) (hi : i < N) (hN : N ≤ 100000000000) (hM : N + k ≤ 9223372036854775807) (hl : full.length = N + k) : real.len (real.app (real.subL full 0 n) [x]) = n + 1 := by
 simp [real]; omega
theorem Ins59_D_r8 (v v2 : Nat) (full : List AV) (x : AV) (n z c : Int) (N i k : Nat) (hn : n = N) (hz : z = i) (hc : c = (N : Int) + k) (hk : k = 0) (hi : i < N) (hN : N ≤ 100000000000) (hM : N + k ≤ 9223372036854775807) (hl : full.length = N + k) : real.len full = n := by
 simp [real]; omega
theorem Ins59_D_r1 (v v2 : Nat) (full : List AV) (x : AV) (n z c : Int) (N i k : Nat) (hn : n = N) (hz : z = i) (hc : c = (N : Int) + k) (hk : k = 0) (hi : i < N) (hN : N ≤ 100000000000) (hM : N + k ≤ 9223372036854775807) (hl : full.length = N + k) : real.and (real.cmp .leq 0 (n + 1 - z)) (real.room (n + 1 - z) 32) = true := by
 simp [real, intRel]; omega
theorem Ins59_D_r2 (v v2 : Nat) (full : List AV) (x : AV) (n z c : Int) (N i k : Nat) (hn : n = N) (hz : z = i) (hc : c = (N : Int) + k) (hk : k = 0) (hi : i < N) (hN : N ≤ 100000000000) (hM : N + k ≤ 9223372036854775807) (hl : full.length = N + k) : real.len (real.rep (n + 1 - z) (.agg [.str [], .int .i64 0, .bool false])) = n + 1 - z := by
 simp [real]; omega
theorem Ins59_D_r3 (v v2 : Nat) (full : List AV) (x : AV) (n z c : Int) (N i k : Nat) (hn : n = N) (hz : z = i) (hc : c = (N : Int) + k) (hk : k = 0) (hi : i < N) (hN : N ≤ 100000000000) (hM : N + k ≤ 9223372036854775807) (hl : full.length = N + k) : real.room (n + 1) 32 = true := by
 simp [real]; omega
theorem Ins59_D_r5 (v v2 : Nat) (full : List AV) (x : AV) (n z c : Int) (N i k : Nat) (hn : n = N) (hz : z = i) (hc : c = (N : Int) + k) (hk : k = 0) (hi : i < N) (hN : N ≤ 100000000000) (hM : N + k ≤ 9223372036854775807) (hl : full.length = N + k) : real.len (real.app (real.subL full 0 z) (real.rep (n + 1 - z) (.agg [.str [], .int .i64 0, .bool false]))) = n + 1 := by
 simp [real]; omega
theorem Ins59_D_d4 (v v2 : Nat) (full : List AV) (x : AV) (n z c : Int) (N i k : Nat) (hn : n = N) (hz : z = i) (hc : c = (N : Int) + k) (hk : k = 0) (hi : i < N) (hN : N ≤ 100000000000) (hM : N + k ≤ 9223372036854775807) (hl : full.length = N + k) : real.cut 0 z c = true := by
 simp [real]; omega
theorem Ins59_D_d5 (v v2 : Nat) (full : List AV) (x : AV) (n z c : Int) (N i k : Nat) (hn : n = N) (hz : z = i) (hc : c = (N : Int) + k) (hk : k = 0) (hi : i < N) (hN : N ≤ 100000000000) (hM : N + k ≤ 9223372036854775807) (hl : full.length = N + k) : real.cut z (n + 1) (n + 1) = true := by
 simp [real]; omega
theorem Ins59_D_d6 (v v2 : Nat) (full : List AV) (x : AV) (n z c : Int) (N i k : Nat) (hn : n = N) (hz : z = i) (hc : c = (N : Int) + k) (hk : k = 0) (hi : i < N) (hN : N ≤ 100000000000) (hM : N + k ≤ 9223372036854775807) (hl : full.length = N + k) : real.cut (z + 1) (n + 1) (n + 1) = true := by
 simp [real]; omega
theorem Ins59_D_h3 (v v2 : Nat) (full : List AV) (x : AV) (n z c : Int) (N i k : Nat) (hn : n = N) (hz : z = i) (hc : c = (N : Int) + k) (hk : k = 0) (hi : i < N) (hN : N ≤ 100000000000) (hM : N + k ≤ 9223372036854775807) (hl : full.length = N + k) : real.cmp .leq 1 (c - n) = false := by
 simp [real, intRel]; omega
theorem Ins59_D_h5 (v v2 : Nat) (full : List AV) (x : AV) (n z c : Int) (N i k : Nat) (hn : n = N) (hz : z = i) (hc : c = (N : Int) + k) (hk : k = 0) (hi : i < N) (hN : N ≤ 100000000000) (hM : N + k ≤ 9223372036854775807) (hl : full.length = N + k) : real.cmp .gtr (n + 1) c = true := by
 simp [real, intRel]; omega
theorem Ins59_D_h9 (v v2 : Nat) (full : List AV) (x : AV) (n z c : Int) (N i k : Nat) (hn : n = N) (hz : z = i) (hc : c = (N : Int) + k) (hk : k = 0) (hi : i < N) (hN : N ≤ 100000000000) (hM : N + k ≤ 9223372036854775807) (hl : full.length = N + k) : real.cmp .leq (n + 1 - z) (c - z) = false := by
 simp [real, intRel]; omega
theorem Ins59_D_h10 (v v2 : Nat) (full : List AV) (x : AV) (n z c : Int) (N i k : Nat) (hn : n = N) (hz : z = i) (hc : c = (N : Int) + k) (hk : k = 0) (hi : i < N) (hN : N ≤ 100000000000) (hM : N + k ≤ 9223372036854775807) (hl : full.length = N + k) : real.cmp .lss (n + 1 - z) 0 = false := by
 simp [real, intRel]; omega
theorem Ins59_D_h1 (v v2 : Nat) (full : List AV) (x : AV) (n z c : Int) (N i k : Nat) (hn : n = N) (hz : z = i) (hc : c = (N : Int) + k) (hk : k = 0) (hi : i < N) (hN : N ≤ 100000000000) (hM : N + k ≤ 9223372036854775807) (hl : full.length = N + k) : real.cmp .eql z n = false := by
 simp [real, intRel]; omega
theorem Ins59_D_h6 (v v2 : Nat) (full : List AV) (x : AV) (n z c : Int) (N i k : Nat) (hn : n = N) (hz : z = i) (hc : c = (N : Int) + k) (hk : k = 0) (hi : i < N) (hN : N ≤ 100000000000) (hM : N + k ≤ 9223372036854775807) (hl : full.length = N + k) : real.cmp .lss 1 (n + 1 - z) = true := by
 simp [real, intRel]; omega
theorem Ins59_D_r7 (v v2 : Nat) (full : List AV) (x : AV) (n z c : Int) (N i k : Nat) (hn : n = N) (hz : z = i) (hc : c = (N : Int) + k) (hk : k = 0) (hi : i < N) (hN : N ≤ 100000000000) (hM : N + k ≤ 9223372036854775807) (hl : full.length = N + k) : real.len (real.subL full z n) = n - z := by
 simp only [real, List.length_take, List.length_drop]; omega
theorem Ins59_D_h8 (v v2 : Nat) (full : List AV) (x : AV) (n z c : Int) (N i k : Nat) (hn : n = N) (hz : z = i) (hc : c = (N : Int) + k) (hk : k = 0) (hi : i < N) (hN : N ≤ 100000000000) (hM : N + k ≤ 9223372036854775807) (hl : full.length = N + k) : real.cmp .lss (n + 1 - z) (n - z) = false := by
 simp [real, intRel]; omega
theorem Ins59_D_h11 (v v2 : Nat) (full : List AV) (x : AV) (n z c : Int) (N i k : Nat) (hn : n = N) (hz : z = i) (hc : c = (N : Int) + k) (hk : k = 0) (hi : i < N) (hN : N ≤ 100000000000) (hM : N + k ≤ 9223372036854775807) (hl : full.length = N + k) : real.cmp .lss (n - z) (n + 1 - z) = true := by
 simp [real, intRel]; omega
theorem Ins59_D_h7 (v v2 : Nat) (full : List AV) (x : AV) (n z c : Int) (N i k : Nat) (hn : n = N) (hz : z = i) (hc : c = (N : Int) + k) (hk : k = 0) (hi : i < N) (hN : N ≤ 100000000000) (hM : N + k ≤ 9223372036854775807) (hl : full.length = N + k) : real.cmp .lss (n + 1 - z) 1 = false := by
 simp [real, intRel]; omega
theorem Ins59_D_fin (v v2 : Nat) (full : List AV) (x : AV) (n z c : Int) (N i k : Nat) (hn : n = N) (hz : z = i) (hc : c = (N : Int) + k) (hk : k = 0) (hi : i < N) (hN : N ≤ 100000000000) (hM : N + k ≤ 9223372036854775807) (hl : full.length = N + k) : real.app (real.subL (real.app (real.subL (real.app (real.subL full 0 z) (real.rep (n + 1 - z) (.agg [.str [], .int .i64 0, .bool false]))) 0 z) (real.app [x] (real.subL (real.app (real.subL full 0 z) (real.rep (n + 1 - z) (.agg [.str [], .int .i64 0, .bool false]))) (z + 1) (n + 1)))) 0 (z + 1)) (real.app (real.subL (real.subL full z n) 0 (n - z)) (real.subL (real.app (real.subL (real.app (real.subL full 0 z) (real.rep (n + 1 - z) (.agg [.str [], .int .i64 0, .bool false]))) 0 z) (real.app [x] (real.subL (real.app (real.subL full 0 z) (real.rep (n + 1 - z) (.agg [.str [], .int .i64 0, .bool false]))) (z + 1) (n + 1)))) (n + 1) (real.len (real.app (real.subL (real.app (real.subL full 0 z) (real.rep (n + 1 - z) (.agg [.str [], .int .i64 0, .bool false]))) 0 z) (real.app [x] (real.subL (real.app (real.subL full 0 z) (real.rep (n + 1 - z) (.agg [.str [], .int .i64 0, .bool false]))) (z + 1) (n + 1))))))) = full.take i ++ x :: (full.take N).drop i := by
 have q0 : (0 : Int).toNat = 0 := rfl
 have q1 : (z - 0).toNat = i := by omega
 have q2 : z.toNat = i := by omega
 have q3 : (z + 1 - 0).toNat = i + 1 := by omega
 have q4 : (z + 1).toNat = i + 1 := by omega
 have q5 : (n - 0).toNat = N := by omega
 have q6 : (n + 1).toNat = N + 1 := by omega
 have q7 : (n + 1 - z).toNat = N + 1 - i := by omega
 have q8 : (n - z - 0).toNat = N - i := by omega
 have q9 : (n - z).toNat = N - i := by omega
 have q10 : ∀ m : Nat, ((m : Int) - (z + 1)).toNat = m - (i + 1) := fun m => by omega
 have q11 : ∀ m : Nat, ((m : Int) - (n + 1)).toNat = m - (N + 1) := fun m => by omega
 have q12 : (n + 1 - (z + 1)).toNat = N + 1 - (i + 1) := by omega
 simp only [real, q0, q1, q2, q3, q4, q5, q6, q7, q8, q9, q10, q11, q12, List.drop_zero]
 exact insD_list full x (.agg [.str [], .int .i64 0, .bool false]) N i (by omega) (by omega) _ _ rfl rfl
theorem Ins59_D (v v2 : Nat) (full : List AV) (x : AV) (n z c : Int) (N i k : Nat) (hn : n = N) (hz : z = i) (hc : c = (N : Int) + k) (hk : k = 0) (hi : i < N) (hN : N ≤ 100000000000) (hM : N + k ≤ 9223372036854775807) (hl : full.length = N + k) (K0 : Out → St → Prop) (hK : K0 (.ret (.msl 59 2 0 0 (n + 1))) ⟨[(2, [.mrow 59 0 false (full.take i ++ x :: (full.take N).drop i)]), (1, [.mrow 59 v2 false [x]]), (0, [.mrow 59 v true full])], 3, []⟩) :
  CallP Try.prog (Tr.tab real) 34 [.msf 59 0 v 0 n c, .int .i64 z, .msl 59 1 v2 0 1] ⟨[(1, [.mrow 59 v2 false [x]]), (0, [.mrow 59 v true full])], 2, []⟩ K0 := by
 apply body_calls (un := 0) Tr.tabOk Tr.mixed Tr.fn34 (Nat.le_of_ble_eq_true rfl)
 apply gen_body (mk := Tr.tab)
 intro fail need same call loop len slen arith shift cmp conv eqS ltS cat app elt byt subS subL strOf isB fit inb cut room not and eqB avs rep ver G
 have b1 : ver v v = true := by
  have h := Ins59_D_b1 v v2 full x n z c N i k hn hz hc hk hi hN hM hl
  rw [G.ver']; exact h
 have b2 : ver v2 v2 = true := by
  have h := Ins59_D_b2 v v2 full x n z c N i k hn hz hc hk hi hN hM hl
  rw [G.ver']; exact h
 have b3 : ver 0 0 = true := by
  have h := Ins59_D_b3 v v2 full x n z c N i k hn hz hc hk hi hN hM hl
  rw [G.ver']; exact h
 have f1 : cut z n c = true := by
  have h := Ins59_D_f1 v v2 full x n z c N i k hn hz hc hk hi hN hM hl
  rw [G.cut']; exact h
 have f2 : cmp .eql 1 0 = false := by
  have h := Ins59_D_f2 v v2 full x n z c N i k hn hz hc hk hi hN hM hl
  rw [G.cmp']; exact h
 have f3 : subL [x] 0 1 = [x] := by
  have h := Ins59_D_f3 v v2 full x n z c N i k hn hz hc hk hi hN hM hl
  rw [G.subL']; exact h
 have f4 : len [x] = 1 := by
  have h := Ins59_D_f4 v v2 full x n z c N i k hn hz hc hk hi hN hM hl
  rw [G.len']; exact h
 have nf : not false = true := by
  have h := Ins59_D_nf v v2 full x n z c N i k hn hz hc hk hi hN hM hl
  rw [G.not']; exact h
 have nt : not true = false := by
  have h := Ins59_D_nt v v2 full x n z c N i k hn hz hc hk hi hN hM hl
  rw [G.not']; exact h
 have f8 : cmp .eql 0 0 = true := by
  have h := Ins59_D_f8 v v2 full x n z c N i k hn hz hc hk hi hN hM hl
  rw [G.cmp']; exact h
 have a1 : arith .add .i64 n 1 = n + 1 := by
  have h := Ins59_D_a1 v v2 full x n z c N i k hn hz hc hk hi hN hM hl
  rw [G.arith']; exact h
 have a2 : arith .sub .i64 c n = c - n := by
  have h := Ins59_D_a2 v v2 full x n z c N i k hn hz hc hk hi hN hM hl
  rw [G.arith']; exact h
 have a3 : arith .add .i64 z 1 = z + 1 := by
  have h := Ins59_D_a3 v v2 full x n z c N i k hn hz hc hk hi hN hM hl
  rw [G.arith']; exact h
 have a4 : arith .add .i64 0 n = n := by
  have h := Ins59_D_a4 v v2 full x n z c N i k hn hz hc hk hi hN hM hl
  rw [G.arith']; exact h
 have a5 : arith .add .i64 0 1 = 1 := by
  have h := Ins59_D_a5 v v2 full x n z c N i k hn hz hc hk hi hN hM hl
  rw [G.arith']; exact h
 have a6 : arith .add .i64 0 z = z := by
  have h := Ins59_D_a6 v v2 full x n z c N i k hn hz hc hk hi hN hM hl
  rw [G.arith']; exact h
 have a7 : arith .sub .i64 n z = n - z := by
  have h := Ins59_D_a7 v v2 full x n z c N i k hn hz hc hk hi hN hM hl
  rw [G.arith']; exact h
 have a8 : arith .sub .i64 c z = c - z := by
  have h := Ins59_D_a8 v v2 full x n z c N i k hn hz hc hk hi hN hM hl
  rw [G.arith']; exact h
 have a9 : arith .sub .i64 (n + 1) (z + 1) = n - z := by
  have h := Ins59_D_a9 v v2 full x n z c N i k hn hz hc hk hi hN hM hl
  rw [G.arith']; exact h
 have a10 : arith .sub .i64 c (z + 1) = c - (z + 1) := by
  have h := Ins59_D_a10 v v2 full x n z c N i k hn hz hc hk hi hN hM hl
  rw [G.arith']; exact h
 have a11 : arith .sub .i64 (n + 1) z = n + 1 - z := by
  have h := Ins59_D_a11 v v2 full x n z c N i k hn hz hc hk hi hN hM hl
  rw [G.arith']; exact h
 have a12 : arith .add .i64 0 (z + 1) = z + 1 := by
  have h := Ins59_D_a12 v v2 full x n z c N i k hn hz hc hk hi hN hM hl
  rw [G.arith']; exact h
 have a13 : arith .add .i64 z (n - z) = n := by
  have h := Ins59_D_a13 v v2 full x n z c N i k hn hz hc hk hi hN hM hl
  rw [G.arith']; exact h
 have a14 : arith .add .i64 z (n + 1 - z) = n + 1 := by
  have h := Ins59_D_a14 v v2 full x n z c N i k hn hz hc hk hi hN hM hl
  rw [G.arith']; exact h
 have a15 : arith .add .i64 (z + 1) (n - z) = n + 1 := by
  have h := Ins59_D_a15 v v2 full x n z c N i k hn hz hc hk hi hN hM hl
  rw [G.arith']; exact h
 have a16 : arith .sub .i64 1 0 = 1 := by
  have h := Ins59_D_a16 v v2 full x n z c N i k hn hz hc hk hi hN hM hl
  rw [G.arith']; exact h
 have a17 : arith .sub .i64 n 0 = n := by
  have h := Ins59_D_a17 v v2 full x n z c N i k hn hz hc hk hi hN hM hl
  rw [G.arith']; exact h
 have a18 : arith .sub .i64 z 0 = z := by
  have h := Ins59_D_a18 v v2 full x n z c N i k hn hz hc hk hi hN hM hl
  rw [G.arith']; exact h
 have a19 : arith .sub .i64 (n + 1) 0 = n + 1 := by
  have h := Ins59_D_a19 v v2 full x n z c N i k hn hz hc hk hi hN hM hl
  rw [G.arith']; exact h
 have a20 : arith .add .i64 0 (n + 1) = n + 1 := by
  have h := Ins59_D_a20 v v2 full x n z c N i k hn hz hc hk hi hN hM hl
  rw [G.arith']; exact h
 have g7 : cmp .lss (n - z) (n - z) = false := by
  have h := Ins59_D_g7 v v2 full x n z c N i k hn hz hc hk hi hN hM hl
  rw [G.cmp']; exact h
 have r4 : len (app (subL full 0 n) [x]) = n + 1 := by
  have h := Ins59_D_r4 v v2 full x n z c N i k hn hz hc hk hi hN hM hl
  rw [G.len', G.app', G.subL']; exact h
 have r8 : len full = n := by
  have h := Ins59_D_r8 v v2 full x n z c N i k hn hz hc hk hi hN hM hl
  rw [G.len']; exact h
 have r1 : and (cmp .leq 0 (n + 1 - z)) (room (n + 1 - z) 32) = true := by
  have h := Ins59_D_r1 v v2 full x n z c N i k hn hz hc hk hi hN hM hl
  rw [G.and', G.cmp', G.room']; exact h
 have r2 : len (rep (n + 1 - z) (.agg [.str [], .int .i64 0, .bool false])) = n + 1 - z := by
  have h := Ins59_D_r2 v v2 full x n z c N i k hn hz hc hk hi hN hM hl
  rw [G.len', G.rep']; exact h
 have r3 : room (n + 1) 32 = true := by
  have h := Ins59_D_r3 v v2 full x n z c N i k hn hz hc hk hi hN hM hl
  rw [G.room']; exact h
 have r5 : len (app (subL full 0 z) (rep (n + 1 - z) (.agg [.str [], .int .i64 0, .bool false]))) = n + 1 := by
  have h := Ins59_D_r5 v v2 full x n z c N i k hn hz hc hk hi hN hM hl
  rw [G.len', G.app', G.subL', G.rep']; exact h
 have d4 : cut 0 z c = true := by
  have h := Ins59_D_d4 v v2 full x n z c N i k hn hz hc hk hi hN hM hl
  rw [G.cut']; exact h
 have d5 : cut z (n + 1) (n + 1) = true := by
  have h := Ins59_D_d5 v v2 full x n z c N i k hn hz hc hk hi hN hM hl
  rw [G.cut']; exact h
 have d6 : cut (z + 1) (n + 1) (n + 1) = true := by
  have h := Ins59_D_d6 v v2 full x n z c N i k hn hz hc hk hi hN hM hl
  rw [G.cut']; exact h
 have h3 : cmp .leq 1 (c - n) = false := by
  have h := Ins59_D_h3 v v2 full x n z c N i k hn hz hc hk hi hN hM hl
  rw [G.cmp']; exact h
 have h5 : cmp .gtr (n + 1) c = true := by
  have h := Ins59_D_h5 v v2 full x n z c N i k hn hz hc hk hi hN hM hl
  rw [G.cmp']; exact h
 have h9 : cmp .leq (n + 1 - z) (c - z) = false := by
  have h := Ins59_D_h9 v v2 full x n z c N i k hn hz hc hk hi hN hM hl
  rw [G.cmp']; exact h
 have h10 : cmp .lss (n + 1 - z) 0 = false := by
  have h := Ins59_D_h10 v v2 full x n z c N i k hn hz hc hk hi hN hM hl
  rw [G.cmp']; exact h
 have h1 : cmp .eql z n = false := by
  have h := Ins59_D_h1 v v2 full x n z c N i k hn hz hc hk hi hN hM hl
  rw [G.cmp']; exact h
 have h6 : cmp .lss 1 (n + 1 - z) = true := by
  have h := Ins59_D_h6 v v2 full x n z c N i k hn hz hc hk hi hN hM hl
  rw [G.cmp']; exact h
 have r7 : len (subL full z n) = n - z := by
  have h := Ins59_D_r7 v v2 full x n z c N i k hn hz hc hk hi hN hM hl
  rw [G.len', G.subL']; exact h
 have h8 : cmp .lss (n + 1 - z) (n - z) = false := by
  have h := Ins59_D_h8 v v2 full x n z c N i k hn hz hc hk hi hN hM hl
  rw [G.cmp']; exact h
 have h11 : cmp .lss (n - z) (n + 1 - z) = true := by
  have h := Ins59_D_h11 v v2 full x n z c N i k hn hz hc hk hi hN hM hl
  rw [G.cmp']; exact h
 have h7 : cmp .lss (n + 1 - z) 1 = false := by
  have h := Ins59_D_h7 v v2 full x n z c N i k hn hz hc hk hi hN hM hl
  rw [G.cmp']; exact h
 have fin : app (subL (app (subL (app (subL full 0 z) (rep (n + 1 - z) (.agg [.str [], .int .i64 0, .bool false]))) 0 z) (app [x] (subL (app (subL full 0 z) (rep (n + 1 - z) (.agg [.str [], .int .i64 0, .bool false]))) (z + 1) (n + 1)))) 0 (z + 1)) (app (subL (subL full z n) 0 (n - z)) (subL (app (subL (app (subL full 0 z) (rep (n + 1 - z) (.agg [.str [], .int .i64 0, .bool false]))) 0 z) (app [x] (subL (app (subL full 0 z) (rep (n + 1 - z) (.agg [.str [], .int .i64 0, .bool false]))) (z + 1) (n + 1)))) (n + 1) (len (app (subL (app (subL full 0 z) (rep (n + 1 - z) (.agg [.str [], .int .i64 0, .bool false]))) 0 z) (app [x] (subL (app (subL full 0 z) (rep (n + 1 - z) (.agg [.str [], .int .i64 0, .bool false]))) (z + 1) (n + 1))))))) = full.take i ++ x :: (full.take N).drop i := by
  have h := Ins59_D_fin v v2 full x n z c N i k hn hz hc hk hi hN hM hl
  rw [G.app', G.subL', G.rep', G.len']; exact h
 clear hn hz hc hN hM hl
 generalize n + 1 - z = nz1 at *
 generalize hnp : n + 1 = n1 at *
 generalize c - n = cn at *
 generalize c - (z + 1) = cz1 at *
 generalize c - z = cz at *
 generalize hzp : z + 1 = z1 at *
 generalize hnz : n - z = nz at *
 cbv
 iterate 90 (first | (rw [b1]; cbv) | (rw [b2]; cbv) | (rw [b3]; cbv) | (rw [f2]; cbv) | (rw [f3]; cbv) | (rw [f4]; cbv) | (rw [nf]; cbv) | (rw [nt]; cbv) | (rw [a1]; cbv) | (rw [a2]; cbv) | (rw [a3]; cbv) | (rw [a4]; cbv) | (rw [a5]; cbv) | (rw [a6]; cbv) | (rw [a7]; cbv) | (rw [a8]; cbv) | (rw [a9]; cbv) | (rw [a10]; cbv) | (rw [a11]; cbv) | (rw [a12]; cbv) | (rw [a13]; cbv) | (rw [a14]; cbv) | (rw [a15]; cbv) | (rw [a16]; cbv) | (rw [a17]; cbv) | (rw [a18]; cbv) | (rw [a19]; cbv) | (rw [a20]; cbv) | (rw [g7]; cbv) | (rw [r4]; cbv) | (rw [r8]; cbv) | (rw [r2]; cbv) | (rw [r5]; cbv) | (rw [h3]; cbv) | (rw [h5]; cbv) | (rw [h9]; cbv) | (rw [h10]; cbv) | (rw [h1]; cbv) | (rw [h6]; cbv) | (rw [r7]; cbv) | (rw [h8]; cbv) | (rw [h11]; cbv) | (rw [h7]; cbv) | (refine GenH.need' G rfl ?_; cbv) | (refine GenH.need' G f1 ?_; cbv) | (refine GenH.need' G f8 ?_; cbv) | (refine GenH.need' G r1 ?_; cbv) | (refine GenH.need' G r3 ?_; cbv) | (refine GenH.need' G d4 ?_; cbv) | (refine GenH.need' G d5 ?_; cbv) | (refine GenH.need' G d6 ?_; cbv) | (refine GenH.same' G rfl ?_; cbv) | skip)
 rw [fin]
 exact hK
end Go.AM
