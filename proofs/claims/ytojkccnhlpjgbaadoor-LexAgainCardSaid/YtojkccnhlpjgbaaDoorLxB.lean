/- The contracts of the scanner, second part: tokens, and the words and numbers of the document. -/
import Derived.Test.YtojkccnhlpjgbaaDoorLxA
import Derived.Lib.ConvBytes
import Derived.Deep.LoopGhost
import Derived.WalkKit
import Derived.Test.YtojkccnhlpjgbaaDoorShelf
namespace Go.Proofs
open Go.RowKit
set_option maxHeartbeats 2000000
set_option maxRecDepth 100000
set_option linter.unusedVariables false

def low (c : UInt8) : UInt8 := if 65 ≤ c.toNat ∧ c.toNat ≤ 90 then c + 32 else c

def lowAt (l : List UInt8) (j m : Nat) : UInt8 := if m < j then low (l.getD m 0) else l.getD m 0

def LowRow (l : List UInt8) (w : World) (j : Nat) (wr : World) : Prop :=
  Below w.heap.size w wr ∧ (∀ m, m < l.length → wr.cell? ⟨w.heap.size, m, none⟩ = some (.int .u8 ((lowAt l j m).toNat : Int))) ∧ ∀ m, m < l.length → wr.frozen? ⟨w.heap.size, m, none⟩ = false

theorem Tryd.lower (l : List UInt8) (w : World) (hl : l.length ≤ 1000000000) :
    Calls Tryd.prog 30 #[.string ⟨l.toArray⟩] w fun e w' => e = .returned (.string ⟨(l.map low).toArray⟩) ∧ Below w.heap.size w w' := by
  have hsz : (⟨l.toArray⟩ : ByteArray).size = l.length := by simp [ByteArray.size]
  obtain ⟨n, hn⟩ : ∃ n, n = l.length := ⟨_, rfl⟩
  obtain ⟨s, hs⟩ : ∃ s : ByteArray, s = ⟨l.toArray⟩ := ⟨_, rfl⟩
  rw [← hs] at hsz ⊢
  obtain ⟨cap, hcap⟩ : ∃ cap, cap = grownCap w s.size 0 5 := ⟨_, rfl⟩
  obtain ⟨w1, hw1⟩ : ∃ w1, w1 = Lib.bytesWorld w 5 s := ⟨_, rfl⟩
  have hconv : (convert 9 55 (.string s)).run Tryd.prog w = .ok (.slice (some ⟨w.heap.size, 0, none⟩) n cap) w1 := by
    have := Lib.run_convert_string_bytes (P := Tryd.prog) w 9 55 5 s (u := .string) (by kernel_rfl) (by kernel_rfl) (by kernel_rfl)
    rw [this, hcap, hw1, hsz, hn]
  have hrow0 : LowRow l w 0 w1 := by
    have hnew := Lib.bytesWorld_at_new w 5 s
    refine ⟨?_, fun m hm => ?_, fun m hm => ?_⟩
    · rw [hw1]
      refine ⟨?_, ?_, ?_, ?_, fun k hk => Lib.bytesWorld_at_old w 5 s k hk⟩
      · unfold Lib.bytesWorld World.freeze; split <;> rfl
      · unfold Lib.bytesWorld World.freeze; split <;> rfl
      · unfold Lib.bytesWorld World.freeze; split <;> rfl
      · rw [Lib.bytesWorld_size]; omega
    · rw [hw1, Lib.bytesWorld_cell w 5 s m (by omega), hs]
      simp [lowAt]
    · rw [hw1]
      have hlen : s.size ≤ (Lib.bytesCells w 5 s).size := by
        unfold Lib.bytesCells
        rw [Array.size_append, Array.size_map]
        show s.size ≤ s.data.size + _
        have : s.data.size = s.size := rfl
        omega
      simp [World.frozen?, hnew]
      omega
  have hA : Aside (LowRow l w 0 w1) := hrow0
  clear hrow0
  have hB : Aside (n = l.length ∧ s = ⟨l.toArray⟩ ∧ s.size = l.length) := ⟨hn, hs, hsz⟩
  clear hcap hw1 hn hsz hs
  have step : ∀ (j : Nat) (wr : World), j < l.length → LowRow l w j wr → low (l.getD j 0) = l.getD j 0 → LowRow l w (j + 1) wr := by
    rintro j wr hj ⟨h1, h2, h3⟩ he
    refine ⟨h1, fun m hm => ?_, h3⟩
    rw [h2 m hm]
    have : lowAt l (j + 1) m = lowAt l j m := by
      unfold lowAt
      by_cases h : m < j
      · rw [if_pos (by omega), if_pos h]
      · rw [if_neg h]
        by_cases h' : m = j
        · subst h'; rw [if_pos (by omega)]; exact he
        · rw [if_neg (by omega)]
    rw [this]
  have step2 : ∀ (j : Nat) (wr : World) (v : Int), j < l.length → LowRow l w j wr → v = ((low (l.getD j 0)).toNat : Int) → LowRow l w (j + 1) (wr.setCell ⟨w.heap.size, j, none⟩ (.int .u8 v)) := by
    rintro j wr v hj ⟨h1, h2, h3⟩ he
    refine ⟨h1.setCell (Nat.le_refl _) _, fun m hm => ?_, fun m hm => by rw [World.frozen?_setCell]; exact h3 m hm⟩
    by_cases h' : m = j
    · subst h'
      rw [World.cell?_setCell_same _ _ _ (h2 m hm), he]
      simp [lowAt]
    · rw [World.cell?_setCell_other _ _ _ _ (by intro q; injection q with q1 q2; exact h' q2.symm), h2 m hm]
      have : lowAt l (j + 1) m = lowAt l j m := by
        unfold lowAt
        by_cases h : m < j
        · rw [if_pos (by omega), if_pos h]
        · rw [if_neg h, if_neg (by omega)]
      rw [this]
  have hstep : Aside ((∀ (j : Nat) (wr : World), j < l.length → LowRow l w j wr → low (l.getD j 0) = l.getD j 0 → LowRow l w (j + 1) wr) ∧
    (∀ (j : Nat) (wr : World) (v : Int), j < l.length → LowRow l w j wr → v = ((low (l.getD j 0)).toNat : Int) → LowRow l w (j + 1) (wr.setCell ⟨w.heap.size, j, none⟩ (.int .u8 v)))) := ⟨step, step2⟩
  clear step step2
  go_enter Tryd.func30, Tryd.ntmps30
  go_wp2
  go_loopg [10] n (fun k i wr => ∃ j : Nat, j + k = n ∧ i = .int .i64 j ∧ Aside (LowRow l w j wr))
  case atStart => exact ⟨0, by omega, rfl, hA⟩
  case round =>
    obtain ⟨j, hjk, rfl, hR⟩ := hrel
    have hR' := hR.out
    have hB' := hB.out
    by_cases hlt : j < n
    · have hjl : j < l.length := by omega
      have hc := hR'.2.1 j hjl
      have hf := hR'.2.2 j hjl
      have hlat : lowAt l j j = l.getD j 0 := by simp [lowAt]
      rw [hlat] at hc
      have hlow : ((low (l.getD j 0)).toNat : Int) = if 65 ≤ ((l.getD j 0).toNat : Int) ∧ ((l.getD j 0).toNat : Int) ≤ 90 then ((l.getD j 0).toNat : Int) + 32 else ((l.getD j 0).toNat : Int) := by
        unfold low
        have hb := (l.getD j 0).toNat_lt
        by_cases h : 65 ≤ (l.getD j 0).toNat ∧ (l.getD j 0).toNat ≤ 90
        · rw [if_pos h, if_pos (by omega), UInt8.toNat_add]
          have : (32 : UInt8).toNat = 32 := rfl
          rw [this]
          omega
        · rw [if_neg h, if_neg (by omega)]
      have hx256 : ((l.getD j 0).toNat : Int) < 256 := by have := (l.getD j 0).toNat_lt; omega
      have hx0 : (0 : Int) ≤ ((l.getD j 0).toNat : Int) := by omega
      have hs1 := hstep.out.1 j wr hjl hR'
      have hs2 := fun v => hstep.out.2 j wr v hjl hR'
      have hsame : ((low (l.getD j 0)).toNat : Int) = ((l.getD j 0).toNat : Int) → low (l.getD j 0) = l.getD j 0 := fun h => UInt8.toNat_inj.1 (by omega)
      generalize ((l.getD j 0).toNat : Int) = x at *
      generalize ((low (l.getD j 0)).toNat : Int) = y at *
      have hK : Aside ((x < 65 ∨ 90 < x → LowRow l w (j + 1) wr) ∧ (65 ≤ x → x ≤ 90 → LowRow l w (j + 1) (wr.setCell ⟨w.heap.size, j, none⟩ (.int .u8 (x + 97 - 65))))) :=
        ⟨fun h => hs1 (hsame (by rw [hlow, if_neg (by omega)])), fun h1 h2 => hs2 _ (by rw [hlow, if_pos ⟨h1, h2⟩]; omega)⟩
      clear hs1 hs2 hsame hlow hlat hR' hB'
      by_cases h65 : 65 ≤ x
      · by_cases h90 : x ≤ 90
        · go_wp2
          go_roundg (gk - 1)
          case measure => omega
          case rel => exact ⟨j + 1, by omega, by go_num, hK.out.2 h65 h90⟩
        · go_wp2
          go_roundg (gk - 1)
          case measure => omega
          case rel => exact ⟨j + 1, by omega, by go_num, hK.out.1 (by omega)⟩
      · go_wp2
        go_roundg (gk - 1)
        case measure => omega
        case rel => exact ⟨j + 1, by omega, by go_num, hK.out.1 (by omega)⟩
    · have hjn : j = n := by omega
      have hback : (convert 55 9 (.slice (some ⟨w.heap.size, 0, none⟩) n cap)).run Tryd.prog wr = .ok (.string ⟨(l.map low).toArray⟩) wr := by
        have hln : n = (l.map low).length := by simp [hB'.1]
        rw [hln]
        refine run_convert_bytes_back wr 55 9 5 _ cap (l.map low) (by kernel_rfl) (by kernel_rfl) (by kernel_rfl) ?_
        intro m hm
        have hm' : m < l.length := by simpa using hm
        have hadd : (⟨w.heap.size, 0, none⟩ : Addr).add m = ⟨w.heap.size, m, none⟩ := by unfold Addr.add; split <;> simp_all
        rw [hadd, hR'.2.1 m hm']
        have : lowAt l j m = low l[m] := by unfold lowAt; rw [if_pos (by omega)]; simp [List.getD_eq_getElem?_getD, hm']
        rw [this]
        simp
      have hbel : Below w.heap.size w wr := hR'.1
      clear hR' hB'
      have hbel' : Aside (Below w.heap.size w wr) := hbel
      clear hbel
      go_wp2
      go_ret
      exact ⟨rfl, hbel'.out⟩
end Go.Proofs

namespace Go.AM
open Go.Proofs
set_option maxRecDepth 100000
set_option linter.unusedVariables false
theorem Lx.enters30 : Enters Tryd.prog 30 := enters_of Tryd.func30 (by kernel_rfl) (by kernel_rfl)

theorem grow_of_below (g : Ghost) {w w' : World} (h : RowKit.Below w.heap.size w w') : Grow g w g w' :=
  ⟨rfl, rfl, fun _ _ h => h, fun _ _ h => .inl h, h.block, h.size, h.os, h.tape, h.output⟩

theorem lower_spec (l : List UInt8) (hl : l.length ≤ 1000000000) (S : St) (K : Out → St → Prop) (hK : K (.ret (.str (l.map low))) S) : CallP Tryd.prog (Lx.tab real) 30 [.str l] S K := by
  refine callP_grow (v := .str (l.map low)) hK fun g w vs r ha => .inl ⟨Lx.enters30, ?_⟩
  obtain ⟨x, rfl, hx⟩ : ∃ x, vs = [x] ∧ Rep (Lx.tab real) w g (.str l) x := by
    obtain ⟨hl, hR⟩ := ha
    match vs, hl with
    | [x], _ => exact ⟨x, rfl, by simpa [nth] using hR 0 (by simp)⟩
  cases hx
  refine Calls.mono (Tryd.lower l w hl) ?_
  rintro e w' ⟨rfl, hb⟩
  exact ⟨_, g, rfl, grow_of_below g hb, .str _ _⟩
end Go.AM

namespace Go.AM
open Go.Proofs
set_option maxRecDepth 100000
set_option linter.unusedVariables false

def numFold (acc : Nat) (l : List UInt8) : Nat := l.foldl (fun a c => a * 10 + (c.toNat - 48)) acc

theorem numFold_ge (l : List UInt8) : ∀ acc, acc ≤ numFold acc l := by
  induction l with
  | nil => intro acc; exact Nat.le_refl _
  | cons c r ih => intro acc; exact Nat.le_trans (by omega) (ih (acc * 10 + (c.toNat - 48)))

theorem digit_iff (c : UInt8) (h : isDigit c = true) : 48 ≤ c.toNat ∧ c.toNat ≤ 57 := by
  unfold isDigit at h
  simp only [Bool.and_eq_true, decide_eq_true_eq] at h
  exact ⟨UInt8.le_iff_toNat_le.1 h.1, UInt8.le_iff_toNat_le.1 h.2⟩

theorem parseM (l : List UInt8) : ∀ acc, acc ≤ 18446744073709551615 → l.all isDigit = true →
    Lib.parseUintM 18446744073709551615 acc l = if numFold acc l ≤ 18446744073709551615 then .ok (numFold acc l) else .range := by
  induction l with
  | nil => intro acc ha _; have e : numFold acc [] = acc := rfl; rw [e, if_pos ha]; rfl
  | cons c r ih =>
    intro acc ha hd
    rw [List.all_cons, Bool.and_eq_true] at hd
    have hc := digit_iff c hd.1
    have hge := numFold_ge r (acc * 10 + (c.toNat - 48))
    have hcons : numFold acc (c :: r) = numFold (acc * 10 + (c.toNat - 48)) r := rfl
    unfold Lib.parseUintM
    rw [if_pos hc, hcons]
    by_cases h1 : 1844674407370955162 ≤ acc
    · rw [if_pos h1, if_neg (by omega)]
    · rw [if_neg h1]
      by_cases h2 : 18446744073709551615 < acc * 10 + (c.toNat - 48)
      · rw [if_pos h2, if_neg (by omega)]
      · rw [if_neg h2]
        exact ih _ (by omega) hd.2

theorem parseI (l : List UInt8) (h0 : l ≠ []) (hd : l.all isDigit = true) :
    Lib.parseIntB 64 l = if numFold 0 l < 9223372036854775808 then .ok (numFold 0 l : Int) else .range := by
  cases l with
  | nil => exact absurd rfl h0
  | cons c r =>
    have hc := digit_iff c (by rw [List.all_cons, Bool.and_eq_true] at hd; exact hd.1)
    have hp := parseM (c :: r) 0 (by omega) hd
    unfold Lib.parseIntB
    simp only
    rw [if_neg (show ¬ (c.toNat = 43 ∨ c.toNat = 45) by omega)]
    unfold Lib.parseUintB
    rw [if_neg (by simp), show 2 ^ 64 - 1 = 18446744073709551615 from rfl, hp]
    have h45 : ¬ c.toNat = 45 := by omega
    by_cases h1 : numFold 0 (c :: r) ≤ 18446744073709551615
    · rw [if_pos h1]
      simp only [h45, not_false_eq_true, true_and, false_and, if_false]
      by_cases h2 : numFold 0 (c :: r) < 9223372036854775808
      · rw [if_pos h2, if_neg (by omega)]
      · rw [if_neg h2, if_pos (by omega)]
    · rw [if_neg h1, if_neg (by omega)]

theorem bytes_below (w : World) (t : ByteArray) : RowKit.Below w.heap.size w (Lib.bytesWorld w 5 t) := by
  refine ⟨?_, ?_, ?_, ?_, fun k hk => Lib.bytesWorld_at_old w 5 t k hk⟩
  · unfold Lib.bytesWorld World.freeze; split <;> rfl
  · unfold Lib.bytesWorld World.freeze; split <;> rfl
  · unfold Lib.bytesWorld World.freeze; split <;> rfl
  · rw [Lib.bytesWorld_size]; omega

theorem Lx.enters33 : Enters Tryd.prog 33 := enters_of Tryd.func33 (by kernel_rfl) (by kernel_rfl)

theorem args3 {T : Tab} {w : World} {g : Ghost} {a b c : AV} {vs : List Value} (h : ArgsRel T w g [a, b, c] vs) : ∃ x y z, vs = [x, y, z] ∧ Rep T w g a x ∧ Rep T w g b y ∧ Rep T w g c z := by
  obtain ⟨hl, hR⟩ := h
  match vs, hl with
  | [x, y, z], _ => exact ⟨x, y, z, rfl, by simpa [nth] using hR 0 (by simp), by simpa [nth] using hR 1 (by simp), by simpa [nth] using hR 2 (by simp)⟩

def bigN : Int := 9223372036854775807

theorem parse_spec (l : List UInt8) (h0 : l ≠ []) (hd : l.all isDigit = true) (hl : l.length ≤ 1000000000) (S : St) (K : Out → St → Prop)
    (hK1 : numFold 0 l < 9223372036854775808 → ∀ n : Int, n = numFold 0 l → K (.ret (.tup [.int .i64 n, .nili])) S)
    (hK2 : ¬ numFold 0 l < 9223372036854775808 → K (.ret (.tup [.int .i64 bigN, .iface 73 .undef])) S) : CallP Tryd.prog (Lx.tab real) 33 [.str l, .int .i64 10, .int .i64 64] S K := by
  have hp := parseI l h0 hd
  have hsz : (⟨l.toArray⟩ : ByteArray).size = l.length := by simp [ByteArray.size]
  by_cases hr : numFold 0 l < 9223372036854775808
  · rw [if_pos hr] at hp
    refine callP_grow (v := .tup [.int .i64 (numFold 0 l : Int), .nili]) (hK1 hr _ rfl) fun g w vs r ha => .inl ⟨Lx.enters33, ?_⟩
    obtain ⟨x, y, z, rfl, hx, hy, hz⟩ := args3 ha
    cases hx; cases hy; cases hz
    refine Calls.mono (Tryd.strconv_ParseInt_10_at64_ok ⟨l.toArray⟩ (by omega) _ (by simpa using hp) w) ?_
    rintro e w' ⟨rfl, hw⟩
    refine ⟨_, g, rfl, ?_, ?_⟩
    · rcases hw with rfl | ⟨t, rfl⟩
      · exact .refl _ _
      · exact grow_of_below g (bytes_below w t)
    · refine .tup _ _ [_, _] rfl fun j hj => ?_
      match j, hj with
      | 0, _ => exact .int ..
      | 1, _ => exact .nili _
  · rw [if_neg hr] at hp
    refine callP_growG (v := .tup [.int .i64 bigN, .iface 73 .undef]) (hK2 hr) fun g w vs r hg ha => .inl ⟨Lx.enters33, ?_⟩
    obtain ⟨x, y, z, rfl, hx, hy, hz⟩ := args3 ha
    cases hx; cases hy; cases hz
    have hgl := hg 3 49 (.iface 84 .undef) rfl
    obtain ⟨ev, hev, hev2⟩ : ∃ ev, w.cell? ⟨3, 0, none⟩ = some ev ∧ (ev = .nilIface ∨ ∃ te pe, ev = .iface te pe) := by
      cases hgl with
      | eptr _ _ _ _ _ base xs hf hc h1 hD hR =>
        have h2 := hc 0 (by simp [AV.cells])
        have h3 := hR 0 (by simp [AV.cells])
        simp only [AV.cells, nth] at h3
        simp only [Nat.add_zero] at *
        refine ⟨xs 0, ?_, .inr ?_⟩
        · first | exact h2 | simpa using h2
        · generalize xs 0 = q at h3
          cases h3
          exact ⟨_, _, rfl⟩
    refine Calls.mono (Tryd.strconv_ParseInt_10_at64_range ⟨l.toArray⟩ (by omega) (by simpa using hp) ev w hev hev2) ?_
    rintro e w' ⟨N, rfl, _, _, hb⟩
    refine ⟨_, g, rfl, grow_of_below g hb, ?_⟩
    have hsat : Lib.intSat 64 l = bigN := by
      cases l with
      | nil => exact absurd rfl h0
      | cons c r =>
        have hc := digit_iff c (by rw [List.all_cons, Bool.and_eq_true] at hd; exact hd.1)
        unfold Lib.intSat
        rw [if_neg (by simp; omega)]
        rfl
    refine .tup _ _ [_, _] rfl fun j hj => ?_
    match j, hj with
    | 0, _ => simp only [nth]; rw [← hsat]; exact .int ..
    | 1, _ => exact .iface _ _ _ _ (.undef _ _)
end Go.AM

namespace Go.AM
open Go.Proofs
set_option maxRecDepth 100000
set_option linter.unusedVariables false
theorem Lx.fn14 : FnOk Tryd.prog 14 (fni Tryd.f14 a14) := ⟨⟨Tryd.f14, Tryd.func14, rfl, rfl, rfl, by kernel_rfl⟩, by kernel_rfl⟩
noncomputable def c14 : Code := (fni Tryd.f14 a14).loop 0
theorem Lx.c14 : codeOk 120 a14 c14 = true := by kernel_rfl
theorem step14 (K : Ex → Env → St → Prop) (env : Env) (S : St) (h : xcode (pAlg Tryd.prog (Lx.tab real) 120) (Lx.tab real) a14 0 c14 (andThen (LoopP Tryd.prog (Lx.tab real) 120 c14 K) K) env S) : LoopP Tryd.prog (Lx.tab real) 120 c14 K env S :=
  loopP_step Lx.tabOk Lx.mixed Lx.c14 h

/-- A scanner, and a token in the making. -/
def SN (s : List UInt8) (z k : Int) (t : List UInt8) (n a : Int) : St := ⟨[(1, [.int .i64 k, .str t, .int .i64 n, .int .i64 a]), (0, [.str s, .int .i64 z])], 2, []⟩

def signIn (s : List UInt8) (i : Nat) (l : List (List UInt8)) : Option (List UInt8) := l.find? fun x => x.isPrefixOf (s.drop i)

def signsV : AV := .agg [.str [60, 61], .str [62, 61], .str [60, 62], .str [124, 124], .str [40], .str [41], .str [44], .str [46], .str [59], .str [61], .str [60], .str [62], .str [43], .str [45], .str [42], .str [47]]
def envS (y : Int) (st : List UInt8) : Env := [(0, .ptr 0 0), (2, .ptr 1 0), (3, .str st), (24, signsV), (25, .int .i64 y)]
def envS2 (st : List UInt8) : Env := [(0, .ptr 0 0), (2, .ptr 1 0), (3, .str st)]

theorem sign_loop (s : List UInt8) (hs : s.length ≤ 1000000) (i : Nat) (hi : i ≤ s.length) (z a : Int) (hz : z = i) (K : Ex → Env → St → Prop)  (n : Nat) :
    ∀ (k : Nat) (y : Int), y = k → k + n = 16 → (∀ x, signIn s i (Lx.signs.drop k) = some x → ∀ z' : Int, z' = i + x.length → K (.exit 1) (envS2 sDone) (SN s z' 3 x 0 a)) →
      (signIn s i (Lx.signs.drop k) = none → K (.exit 1) (envS2 sSyntax) (SN s z 3 [] 0 a)) →
      LoopP Tryd.prog (Lx.tab real) 120 c14 (Less K) (envS y sSyntax) (SN s z 3 [] 0 a) := by
  induction n with
  | zero =>
    intro k y hy hk hK1 hK2
    have hfin := hK2 (by have : k = 16 := by omega
                         subst this; rfl)
    apply step14
    apply gen_code (mk := Lx.tab)
    intro fail need same call loop len slen arith shift cmp conv eqS ltS cat app elt byt subS subL strOf isB fit inb cut room not and eqB avs G
    have hb : cmp BinOp.lss y 16 = false := by rw [G.cmp']; simp [intRel]; omega
    generalize LoopP Tryd.prog (Lx.tab real) 120 c14 (Less K) = L at *
    generalize hK' : Less K = K' at *
    generalize hst : sSyntax = st at *
    cbv
    refine GenH.need' G rfl ?_
    rw [hb]
    cbv
    rw [← hK']
    exact ⟨envS2 st, .cons rfl (.cons rfl (.cons rfl (.nil _))), hfin⟩
  | succ n ih =>
    intro k y hy hk hK1 hK2
    have hlt : k < Lx.signs.length := by show k < 16; omega
    have hdrop : Lx.signs.drop k = Lx.signs[k] :: Lx.signs.drop (k + 1) := List.drop_eq_getElem_cons hlt
    obtain ⟨sg, hsg⟩ : ∃ sg, Lx.signs[k] = sg := ⟨_, rfl⟩
    rw [hsg] at hdrop
    have hsl : sg.length ≤ 2 := by
      have : ∀ x ∈ Lx.signs, x.length ≤ 2 := by decide
      exact this sg (hsg ▸ List.getElem_mem hlt)
    have hstep : signIn s i (Lx.signs.drop k) = match sg.isPrefixOf (s.drop i) with
      | true => some sg
      | false => signIn s i (Lx.signs.drop (k + 1)) := by
      rw [hdrop]; unfold signIn; rw [List.find?_cons]
      cases sg.isPrefixOf (s.drop i) <;> rfl
    rw [hstep] at hK1 hK2
    have hyes : sg.isPrefixOf (s.drop i) = true → ∀ z' : Int, z' = i + sg.length → K (.exit 1) (envS2 sDone) (SN s z' 3 sg 0 a) := fun h => hK1 sg (by rw [h])
    have hno : sg.isPrefixOf (s.drop i) = false → LoopP Tryd.prog (Lx.tab real) 120 c14 (Less K) (envS (y + 1) sSyntax) (SN s z 3 [] 0 a) := fun h => by
      rw [h] at hK1 hK2
      exact ih (k + 1) (y + 1) (by omega) (by omega) hK1 hK2
    apply step14
    apply gen_code (mk := Lx.tab)
    intro fail need same call loop len slen arith shift cmp conv eqS ltS cat app elt byt subS subL strOf isB fit inb cut room not and eqB avs G
    have hb : cmp BinOp.lss y 16 = true := by rw [G.cmp']; simp [intRel]; omega
    have hin : inb y 16 = true := by rw [G.inb']; simp; omega
    have helt : elt [.str [60, 61], .str [62, 61], .str [60, 62], .str [124, 124], .str [40], .str [41], .str [44], .str [46], .str [59], .str [61], .str [60], .str [62], .str [43], .str [45], .str [42], .str [47]] y = .str sg := by
      rw [G.elt']
      show (Lx.signs.map AV.str).getD y.toNat AV.undef = _
      rw [hy, ← hsg]
      simp [List.getD_eq_getElem?_getD, hlt]
    have hcut : cut z (slen s) (slen s) = true := by rw [G.cut', G.slen', hz]; simp; omega
    have hsub : subS s z (slen s) = s.drop i := by
      rw [G.subS', G.slen', hz]
      simp only [Int.toNat_natCast]
      rw [List.take_of_length_le]
      simp
    have hone : arith BinOp.add IntKind.i64 y 1 = y + 1 := by rw [G.arith']; exact wrap_i64 _ (by omega) (by omega)
    have hadd : arith BinOp.add IntKind.i64 z (slen sg) = z + sg.length := by rw [G.arith', G.slen']; exact wrap_i64 (z + (sg.length : Int)) (by omega) (by omega)
    have hyes := fun h => hyes h (z + sg.length) (by omega)
    generalize z + (sg.length : Int) = z2 at *
    generalize hL : LoopP Tryd.prog (Lx.tab real) 120 c14 (Less K) = L at *
    generalize hK' : Less K = K' at *
    generalize hst : sSyntax = st at *
    generalize y + 1 = y1 at *
    generalize hdr : s.drop i = tl at *
    cbv
    refine GenH.need' G rfl ?_
    rw [hb]
    cbv
    refine GenH.need' G hin ?_
    rw [helt]
    refine GenH.need' G hcut (GenH.call' G ?_)
    rw [hsub]
    refine hasPrefix_spec _ _ _ _ ?_
    cases hp : sg.isPrefixOf tl with
    | true =>
      have hyes := hyes hp
      cbv
      refine GenH.need' G rfl ?_
      rw [hadd]
      rw [← hK']
      exact ⟨[(0, .ptr 0 0), (2, .ptr 1 0), (3, .str [48, 48, 48, 48, 48])], .cons rfl (.cons rfl (.cons rfl (.nil _))), hyes⟩
    | false =>
      have hno := hno hp
      cbv
      refine GenH.need' G rfl ?_
      rw [hone]
      rw [← hL] at hno ⊢
      exact LoopP.weak (env' := envS y1 st) (.cons rfl (.cons rfl (.cons rfl (.cons rfl (.cons rfl (.nil _)))))) hno
end Go.AM

namespace Go.AM
open Go.Proofs
set_option maxRecDepth 100000
set_option maxHeartbeats 1000000
set_option linter.unusedVariables false

/-- A token: its kind, its text, its number, its place. -/
structure Tk where
  k : Int
  t : List UInt8
  n : Int
  a : Int

def Tk.av (x : Tk) : AV := .agg [.int .i64 x.k, .str x.t, .int .i64 x.n, .int .i64 x.a]

def isWord (b : UInt8) : Bool := isLetter b || isDigit b
def sRange : List UInt8 := [50, 50, 48, 48, 51]
def sLarge : List UInt8 := [53, 52, 48, 48, 48]

def wordR (w : List UInt8) (i j : Nat) : Tk × List UInt8 × Nat := (⟨0, w.map low, 0, i⟩, match decide (32 < w.length) with
  | true => sSyntax
  | false => sDone, j)

def numR (s d : List UInt8) (i j : Nat) : Tk × List UInt8 × Nat := match decide (numFold 0 d < 9223372036854775808) with
  | false => (⟨1, [], bigN, i⟩, sRange, j)
  | true => (⟨1, [], numFold 0 d, i⟩, match decide (j < s.length) && isLetter (s.getD j 0) with
    | true => sSyntax
    | false => sDone, j)

def signR (o : Option (List UInt8)) (i : Nat) : Tk × List UInt8 × Nat := match o with
  | some x => (⟨3, x, 0, i⟩, sDone, i + x.length)
  | none => (⟨3, [], 0, i⟩, sSyntax, i)

/-- The next token, how it went, where it ends. -/
def nextR (s : List UInt8) (i : Nat) : Tk × List UInt8 × Nat :=
  match isLetter (s.getD i 0) with
  | true => wordR ((s.drop i).takeWhile isWord) i (scan isWord s i)
  | false => match isDigit (s.getD i 0) with
    | true => numR s ((s.drop i).takeWhile isDigit) i (scan isDigit s i)
    | false => match s.getD i 0 == 39 with
      | true => (⟨2, (textR s (i + 1)).1, 0, i⟩, (textR s (i + 1)).2.1, (textR s (i + 1)).2.2)
      | false => signR (signIn s i Lx.signs) i

def NextOut (s : List UInt8) (i : Nat) (out : Out) (S' : St) : Prop :=
  ∃ y : Int, y = (nextR s i).2.2 ∧ out = .ret (.tup [(nextR s i).1.av, .str (nextR s i).2.1]) ∧ 1 ≤ S'.next ∧ S'.row 0 = [.str s, .int .i64 y]

theorem nextOut_of {s : List UInt8} {i : Nat} {k n a y : Int} {t st : List UInt8} {j : Nat} (h : nextR s i = (⟨k, t, n, a⟩, st, j)) (hy : y = j) (S' : St) (h1 : 1 ≤ S'.next) (h2 : S'.row 0 = [.str s, .int .i64 y]) :
    NextOut s i (.ret (.tup [.agg [.int .i64 k, .str t, .int .i64 n, .int .i64 a], .str st])) S' := by
  unfold NextOut
  rw [h]
  exact ⟨y, hy, rfl, h1, h2⟩

theorem next_spec (s : List UInt8) (hs : s.length ≤ 1000000) (i : Nat) (z : Int) (hz : z = i) (hi : i < s.length) : CallP Tryd.prog (Lx.tab real) 14 [.ptr 0 0] (S1 s z) (NextOut s i) := by
  apply body_calls (un := 0) Lx.tabOk Lx.mixed Lx.fn14 (Nat.le_of_ble_eq_true rfl)
  apply gen_body (mk := Lx.tab)
  intro fail need same call loop len slen arith shift cmp conv eqS ltS cat app elt byt subS subL strOf isB fit inb cut room not and eqB avs G
  obtain ⟨c, hc⟩ : ∃ c, s.getD i 0 = c := ⟨_, rfl⟩
  obtain ⟨cz, hcz⟩ : ∃ cz : Int, cz = c.toNat := ⟨_, rfl⟩
  have hbyt : byt s z = cz := by rw [G.byt', hz, hcz, ← hc]; rfl
  have hin : inb z (slen s) = true := by rw [G.inb', G.slen']; simp; omega
  have hL : ∀ S K, K (.ret (.bool (isLetter c))) S → CallP Tryd.prog (Lx.tab real) 29 [.int .u8 cz] S K := fun S K h => by rw [hcz]; exact asks29 c S K h
  have hD : ∀ S K, K (.ret (.bool (isDigit c))) S → CallP Tryd.prog (Lx.tab real) 32 [.int .u8 cz] S K := fun S K h => by rw [hcz]; exact asks32 c S K h
  have h39 : cmp BinOp.eql cz 39 = (c == 39) := by rw [G.cmp', hcz]; exact eqb c 39
  have hone : arith BinOp.add IntKind.i64 z 1 = z + 1 := by rw [G.arith']; exact wrap_i64 _ (by omega) (by omega)
  -- the ways
  have wW := while_at 31 isWord asks31 s (by omega) i z hz (by omega) (SN s z 0 [] 0 z) 0 (Nat.zero_lt_succ 1) rfl
  have wD := while_at 32 isDigit asks32 s (by omega) i z hz (by omega) (SN s z 1 [] 0 z) 0 (Nat.zero_lt_succ 1) rfl
  have wT := text_at s hs (i + 1) (z + 1) (by omega) (by omega) (SN s (z + 1) 2 [] 0 z) 0 (Nat.zero_lt_succ 1) rfl
  obtain ⟨w, hw⟩ : ∃ w, (s.drop i).takeWhile isWord = w := ⟨_, rfl⟩
  obtain ⟨d, hd⟩ : ∃ d, (s.drop i).takeWhile isDigit = d := ⟨_, rfl⟩
  obtain ⟨jw, hjw⟩ : ∃ j, scan isWord s i = j := ⟨_, rfl⟩
  obtain ⟨jd, hjd⟩ : ∃ j, scan isDigit s i = j := ⟨_, rfl⟩
  have hjdb := scan_le isDigit s i (by omega)
  rw [hjd] at hjdb
  have hwl : w.length ≤ 1000000 := by rw [← hw]; have := (List.takeWhile_prefix isWord (l := s.drop i)).length_le; simp at this; omega
  have hdl : d.length ≤ 1000000 := by rw [← hd]; have := (List.takeWhile_prefix isDigit (l := s.drop i)).length_le; simp at this; omega
  have hdall : d.all isDigit = true := by rw [← hd]; exact List.all_takeWhile
  have hdrop : s.drop i = c :: s.drop (i + 1) := by
    have : s[i] = c := by rw [← hc]; simp [List.getD_eq_getElem?_getD, hi]
    rw [List.drop_eq_getElem_cons hi, this]
  have hdne : isDigit c = true → d ≠ [] := fun h => by rw [← hd, hdrop, List.takeWhile_cons, h]; simp
  rw [hw, hjw] at wW
  rw [hd, hjd] at wD
  obtain ⟨tr, htr⟩ : ∃ tr, textR s (i + 1) = tr := ⟨_, rfl⟩
  rw [htr] at wT
  have wS := fun K h1 h2 => sign_loop s hs i (by omega) z z hz K 16 0 0 rfl rfl h1 h2
  rw [List.drop_zero] at wS
  obtain ⟨so, hso⟩ : ∃ so, signIn s i Lx.signs = so := ⟨_, rfl⟩
  rw [hso] at wS
  have wLow := fun S K => lower_spec w (by omega) S K
  have hwlen : slen (w.map low) = (w.length : Int) := by rw [G.slen']; simp
  have h32 : cmp BinOp.gtr (slen (w.map low)) 32 = decide (32 < w.length) := by
    rw [G.cmp', hwlen]; simp only [intRel]; rw [Bool.eq_iff_iff]; simp only [decide_eq_true_eq]; omega
  obtain ⟨bn, hbn⟩ : ∃ bn, bn = bigN := ⟨_, rfl⟩
  have wP := fun h S K => parse_spec d (hdne h) hdall (by omega) S K
  rw [← hbn] at wP
  -- ends
  have eW : isLetter c = true → ∀ y : Int, y = jw → ∀ S', 1 ≤ S'.next → S'.row 0 = [.str s, .int .i64 y] →
      NextOut s i (.ret (.tup [.agg [.int .i64 0, .str (w.map low), .int .i64 0, .int .i64 z], .str (match decide (32 < w.length) with
        | true => sSyntax
        | false => sDone)])) S' := fun h y hy S' h1 h2 => by
    refine nextOut_of ?_ hy S' h1 h2
    unfold nextR
    rw [hc, h, hw, hjw, hz]
    rfl
  have eD1 : isLetter c = false → isDigit c = true → ¬ numFold 0 d < 9223372036854775808 → ∀ y : Int, y = jd → ∀ S', 1 ≤ S'.next → S'.row 0 = [.str s, .int .i64 y] →
      NextOut s i (.ret (.tup [.agg [.int .i64 1, .str [], .int .i64 bn, .int .i64 z], .str sRange])) S' := fun h0 h hn y hy S' h1 h2 => by
    rw [hbn]
    refine nextOut_of ?_ hy S' h1 h2
    unfold nextR
    rw [hc, h0, h, hd, hjd, hz]
    simp only [numR]
    rw [decide_eq_false hn]
  have eD2 : isLetter c = false → isDigit c = true → numFold 0 d < 9223372036854775808 → ∀ y n : Int, y = jd → n = numFold 0 d → ∀ S', 1 ≤ S'.next → S'.row 0 = [.str s, .int .i64 y] →
      NextOut s i (.ret (.tup [.agg [.int .i64 1, .str [], .int .i64 n, .int .i64 z], .str (match decide (jd < s.length) && isLetter (s.getD jd 0) with
        | true => sSyntax
        | false => sDone)])) S' := fun h0 h hn y n hy hnn S' h1 h2 => by
    refine nextOut_of ?_ hy S' h1 h2
    unfold nextR
    rw [hc, h0, h, hd, hjd, hz, hnn]
    simp only [numR]
    rw [decide_eq_true hn]
  have eT : isLetter c = false → isDigit c = false → (c == 39) = true → ∀ y : Int, y = tr.2.2 → ∀ S', 1 ≤ S'.next → S'.row 0 = [.str s, .int .i64 y] →
      NextOut s i (.ret (.tup [.agg [.int .i64 2, .str tr.1, .int .i64 0, .int .i64 z], .str tr.2.1])) S' := fun h0 h h3 y hy S' h1 h2 => by
    refine nextOut_of ?_ hy S' h1 h2
    unfold nextR
    rw [hc, h0, h, h3, htr, hz]
  have eS1 : isLetter c = false → isDigit c = false → (c == 39) = false → ∀ x, so = some x → ∀ y : Int, y = i + x.length → ∀ S', 1 ≤ S'.next → S'.row 0 = [.str s, .int .i64 y] →
      NextOut s i (.ret (.tup [.agg [.int .i64 3, .str x, .int .i64 0, .int .i64 z], .str sDone])) S' := fun h0 h h3 x hx y hy S' h1 h2 => by
    refine nextOut_of (j := i + x.length) ?_ (by omega) S' h1 h2
    unfold nextR
    rw [hc, h0, h, h3, hso, hx, hz]
    rfl
  have eS2 : isLetter c = false → isDigit c = false → (c == 39) = false → so = none → ∀ S', 1 ≤ S'.next → S'.row 0 = [.str s, .int .i64 z] →
      NextOut s i (.ret (.tup [.agg [.int .i64 3, .str [], .int .i64 0, .int .i64 z], .str sSyntax])) S' := fun h0 h h3 hx S' h1 h2 => by
    refine nextOut_of (j := i) ?_ hz S' h1 h2
    unfold nextR
    rw [hc, h0, h, h3, hso, hx, hz]
    rfl
  -- behind a number
  have hmore : ∀ y : Int, y = jd → cmp BinOp.lss y (slen s) = decide (jd < s.length) := fun y hy => by
    rw [G.cmp', G.slen']; simp only [intRel]; rw [Bool.eq_iff_iff]; simp only [decide_eq_true_eq]; omega
  have hmin : ∀ y : Int, y = jd → jd < s.length → inb y (slen s) = true := fun y hy h => by rw [G.inb', G.slen']; simp; omega
  have hmL : ∀ y : Int, y = jd → ∀ S K, K (.ret (.bool (isLetter (s.getD jd 0)))) S → CallP Tryd.prog (Lx.tab real) 29 [.int .u8 (byt s y)] S K := fun y hy S K h => by
    have : byt s y = ((s.getD jd 0).toNat : Int) := by rw [G.byt', hy]; rfl
    rw [this]; exact asks29 _ S K h
  have hnot1 : not true = false := by rw [G.not']; rfl
  have hnot0 : not false = true := by rw [G.not']; rfl
  generalize NextOut s i = NO at *
  generalize hlc : isLetter c = lc at *
  generalize hdc : isDigit c = dc at *
  generalize hqc : (c == 39) = qc at *
  generalize hdw : decide (32 < w.length) = dw at *
  generalize hml : isLetter (s.getD jd 0) = ml at *
  obtain ⟨mj, hmj⟩ : ∃ mj, decide (jd < s.length) = mj := ⟨_, rfl⟩
  rw [hmj] at eD2
  have hmore : ∀ y : Int, y = jd → cmp BinOp.lss y (slen s) = mj := fun y hy => by rw [hmore y hy, hmj]
  have hmin : ∀ y : Int, y = jd → mj = true → inb y (slen s) = true := fun y hy h => hmin y hy (of_decide_eq_true (hmj.trans h))
  clear hbn hcz hc hjw hjd hw hd hdrop hdne hdall hso htr hmj hdw hml hqc hdc hlc hwlen hjdb
  generalize hz1 : z + 1 = z1 at *
  generalize hwm : w.map low = wm at *
  cbv
  refine GenH.need' G hin ?_
  rw [hbyt]
  refine GenH.call' G (hL _ _ ?_)
  cases lc with
  | true =>
    have eW := eW rfl
    cbv
    refine GenH.call' G (wW _ fun y hy => ?_)
    have eW := eW y hy
    cbv
    refine GenH.call' G (wLow _ _ ?_)
    cbv
    refine GenH.need' G rfl ?_
    rw [h32]
    cases dw with
    | true => cbv; exact eW _ (Nat.le_of_ble_eq_true rfl) rfl
    | false => cbv; exact eW _ (Nat.le_of_ble_eq_true rfl) rfl
  | false =>
    cbv
    refine GenH.call' G (hD _ _ ?_)
    cases dc with
    | true =>
      cbv
      refine GenH.call' G (wD _ fun y hy => ?_)
      have hmore := hmore y hy
      have hmin := hmin y hy
      have hmL := hmL y hy
      have eD1 := fun h => eD1 rfl rfl h y hy
      have eD2 := fun h n hn => eD2 rfl rfl h y n hy hn
      cbv
      refine GenH.call' G (wP rfl _ _ (fun hn n hnn => ?_) (fun hn => ?_))
      · have eD2 := eD2 hn n hnn
        cbv
        rw [hnot1]
        cbv
        refine GenH.need' G rfl ?_
        rw [hmore]
        cases mj with
        | false => cbv; exact eD2 _ (Nat.le_of_ble_eq_true rfl) rfl
        | true =>
          cbv
          refine GenH.need' G (hmin rfl) (GenH.call' G (hmL _ _ ?_))
          cases ml with
          | true => cbv; exact eD2 _ (Nat.le_of_ble_eq_true rfl) rfl
          | false => cbv; exact eD2 _ (Nat.le_of_ble_eq_true rfl) rfl
      · have eD1 := eD1 hn
        cbv
        rw [hnot0]
        cbv
        exact eD1 _ (Nat.le_of_ble_eq_true rfl) rfl
    | false =>
      cbv
      refine GenH.need' G rfl ?_
      rw [h39]
      cases qc with
      | true =>
        cbv
        refine GenH.need' G rfl ?_
        rw [hone]
        refine GenH.call' G (wT _ fun y hy => ?_)
        have eT := eT rfl rfl rfl y hy
        cbv
        exact eT _ (Nat.le_of_ble_eq_true rfl) rfl
      | false =>
        cbv
        refine GenH.loop' G ?_
        change LoopP Tryd.prog (Lx.tab real) 120 c14 _ _ _
        refine LoopP.relax (LoopP.weak (env' := envS 0 sSyntax) (.cons rfl (.cons rfl (.cons rfl (.cons rfl (.cons rfl (.nil _)))))) ?_)
        refine wS _ (fun x hx z' hz' => ?_) fun hx => ?_
        · have eS1 := eS1 rfl rfl rfl x hx z' hz'
          cbv
          exact eS1 _ (Nat.le_of_ble_eq_true rfl) rfl
        · have eS2 := eS2 rfl rfl rfl hx
          cbv
          exact eS2 _ (Nat.le_of_ble_eq_true rfl) rfl

theorem next_at (s : List UInt8) (hs : s.length ≤ 1000000) (i : Nat) (z : Int) (hz : z = i) (hi : i < s.length) (S : St) (o : Nat) (ho : o < S.next) (hrow : S.row o = [.str s, .int .i64 z]) (K : Out → St → Prop)
    (hK : ∀ y : Int, y = (nextR s i).2.2 → K (.ret (.tup [(nextR s i).1.av, .str (nextR s i).2.1])) (S.set o [.str s, .int .i64 y])) : CallP Tryd.prog (Lx.tab real) 14 [.ptr o 0] S K := by
  have hptr : one o 0 o = some 0 := one_iff.2 ⟨rfl, rfl⟩
  have hsp := next_spec s hs i z hz hi
  refine frame1 (K0 := NextOut s i) ho (by rw [hrow]; simp) ?_ ?_
  · rw [hrow]
    simp only [renL, AV.ren, hptr]
    exact hsp
  · rintro out S' ⟨y, hy, rfl, h1, h2⟩
    refine ⟨h1, ?_⟩
    rw [h2]
    generalize nextR s i = r at *
    obtain ⟨⟨k, t, n, a⟩, st, j⟩ := r
    exact hK y hy
end Go.AM

namespace Go.AM
open Go.Proofs
set_option maxRecDepth 100000
set_option linter.unusedVariables false

theorem skipN_le (s : List UInt8) (n : Nat) : ∀ i, i ≤ s.length → i ≤ skipN s n i ∧ skipN s n i ≤ s.length := by
  induction n with
  | zero => intro i hi; exact ⟨Nat.le_refl _, hi⟩
  | succ n ih =>
    intro i hi
    have h1 := scan_le isBlank s i hi
    have h2 := scan_le notEnd s (scan isBlank s i) h1.2
    unfold skipN
    cases [45, 45].isPrefixOf (s.drop (scan isBlank s i)) with
    | true => have := ih _ h2.2; simp only; omega
    | false => exact h1

theorem scan_lt (q : UInt8 → Bool) (s : List UInt8) (i : Nat) (hi : i < s.length) (h : q (s.getD i 0) = true) : i < scan q s i := by
  have hdrop : s.drop i = s.getD i 0 :: s.drop (i + 1) := by
    rw [List.drop_eq_getElem_cons hi]; simp [List.getD_eq_getElem?_getD, hi]
  unfold scan
  rw [hdrop, List.takeWhile_cons, h]
  simp

theorem next_le (s : List UInt8) (i : Nat) (hi : i < s.length) (h : (nextR s i).2.1 = sDone) : i < (nextR s i).2.2 ∧ (nextR s i).2.2 ≤ s.length := by
  unfold nextR at h ⊢
  cases h1 : isLetter (s.getD i 0) with
  | true =>
    have h2 := scan_lt isWord s i hi (by unfold isWord; rw [h1]; rfl)
    have h3 := scan_le isWord s i (by omega)
    exact ⟨h2, h3.2⟩
  | false =>
    rw [h1] at h
    cases h2 : isDigit (s.getD i 0) with
    | true =>
      rw [h2] at h
      have h3 := scan_lt isDigit s i hi h2
      have h4 := scan_le isDigit s i (by omega)
      simp only
      unfold numR
      cases decide (numFold 0 ((s.drop i).takeWhile isDigit) < 9223372036854775808) <;> exact ⟨h3, h4.2⟩
    | false =>
      rw [h2] at h
      cases h3 : (s.getD i 0 == 39) with
      | true =>
        rw [h3] at h
        simp only at h ⊢
        unfold textR at h ⊢
        cases ht : txtN s (s.length + 1) (i + 1) [] true with
        | none => rw [ht] at h; simp [sSyntax, sDone] at h
        | some r =>
          obtain ⟨b, ok, j⟩ := r
          have := txtN_len s _ (i + 1) [] true b ok j (by omega) (by simp) ht
          simp only
          omega
      | false =>
        rw [h3] at h
        simp only at h ⊢
        cases ho : signIn s i Lx.signs with
        | none => rw [ho] at h; simp [signR, sSyntax, sDone] at h
        | some x =>
          have hm := List.mem_of_find?_eq_some ho
          have hp := List.find?_some ho
          have hpos : ∀ y ∈ Lx.signs, 1 ≤ y.length := by decide
          have h1 := hpos x hm
          have hpre : x <+: s.drop i := List.isPrefixOf_iff_prefix.1 hp
          have hl := hpre.length_le
          simp at hl
          simp only [signR]
          omega

theorem row_set0 (S : St) (o : Nat) (r : List AV) (h : S.row o ≠ []) : (S.set o r).row o = r := by
  have := rowIn_set S.objs o r o h
  rw [if_pos rfl] at this
  exact this
end Go.AM

namespace Go.AM
open Go.Proofs
set_option maxRecDepth 100000
set_option maxHeartbeats 1000000
set_option linter.unusedVariables false
theorem Lx.fn7 : FnOk Tryd.prog 7 (fni Tryd.f7 a7) := ⟨⟨Tryd.f7, Tryd.func7, rfl, rfl, rfl, by kernel_rfl⟩, by kernel_rfl⟩
noncomputable def c7 : Code := (fni Tryd.f7 a7).loop 0
theorem Lx.c7 : codeOk 43 a7 c7 = true := by kernel_rfl
theorem step7 (K : Ex → Env → St → Prop) (env : Env) (S : St) (h : xcode (pAlg Tryd.prog (Lx.tab real) 43) (Lx.tab real) a7 0 c7 (andThen (LoopP Tryd.prog (Lx.tab real) 43 c7 K) K) env S) : LoopP Tryd.prog (Lx.tab real) 43 c7 K env S :=
  loopP_step Lx.tabOk Lx.mixed Lx.c7 h

theorem LoopP.ext {P : Program} {T : Tab} {N : Nat} {c : Code} {K : Ex → Env → St → Prop} {env : Env} {S S' : St} (hr : ∀ o, S'.row o = S.row o) (hn : S'.next = S.next) (hc : S'.caps = S.caps) (h : LoopP P T N c K env S') : LoopP P T N c K env S := by
  intro C hC g a w hI
  refine h C hC g a w ⟨hI.tmp, hI.size, hI.defers, ⟨fun o b e => ?_, hI.rel.inj, fun o b e => by rw [hn]; exact hI.rel.dom o b e, hI.rel.apart, hI.rel.live, fun k tk e => by rw [hc]; exact hI.rel.tok k tk e, hI.rel.tinj⟩, hI.ext, hI.ob, hI.tb, hI.glob, hI.nm, by rw [hn]; exact hI.next⟩
  rw [hr]
  exact hI.rel.obj o b e

/-- An object to the front. -/
theorem row_front (S : St) (o p : Nat) : ({ objs := (o, S.row o) :: S.objs, next := S.next, caps := S.caps } : St).row p = S.row p := by
  show rowIn ((o, S.row o) :: S.objs) p = S.row p
  simp only [rowIn]
  cases hb : Nat.beq o p with
  | false => rfl
  | true => rw [Nat.eq_of_beq_eq_true hb]

/-- The tokens from a place on, behind others; or how it went wrong. -/
def scanN (s : List UInt8) : Nat → Nat → List Tk → List Tk ⊕ List UInt8
  | 0, _, _ => .inr []
  | n + 1, p, acc => match decide (p < s.length) with
    | false => .inl acc
    | true => match (nextR s p).2.1 == sDone with
      | false => .inr (nextR s p).2.1
      | true => match decide (acc.length = 600) with
        | true => .inr sLarge
        | false => scanN s n (skipN s (s.length + 1) (nextR s p).2.2) (acc ++ [(nextR s p).1])

def accV : List Tk → AV
  | [] => .slice 0 [] .exact
  | x :: r => .slice 32 ((x :: r).map Tk.av) (.own 0)
def accCaps : List Tk → List Int
  | [] => []
  | x :: r => [((x :: r).length : Int)]

theorem scan_loop (s : List UInt8) (hs : s.length ≤ 2000) (K : Ex → Env → St → Prop) (n : Nat) :
    ∀ (p : Nat) (z : Int) (acc : List Tk) (S : St), z = p → p ≤ s.length → s.length - p < n → acc.length ≤ 600 → S.row 0 = [.str s, .int .i64 z] → 1 ≤ S.next → S.caps = accCaps acc →
      (∀ acc' S', scanN s n p acc = .inl acc' → K (.exit 0) [(5, accV acc')] S') →
      (∀ st S', scanN s n p acc = .inr st → K .ret [(2, .slice 0 [] .exact), (3, .str st)] S') →
      LoopP Tryd.prog (Lx.tab real) 43 c7 (Less K) [(0, .str s), (4, .ptr 0 0), (5, accV acc)] S := by
  induction n with
  | zero => intro p z acc S hz hp hn; omega
  | succ n ih =>
    intro p z acc S hz hp hn hacc hrow hnext hcaps hK1 hK2
    unfold scanN at hK1 hK2
    have hn0 : Nat.beq S.next 0 = false := by
      cases hq : Nat.beq S.next 0 with
      | false => rfl
      | true => have := Nat.eq_of_beq_eq_true hq; omega
    obtain ⟨tk, htk⟩ : ∃ tk, (nextR s p).1 = tk := ⟨_, rfl⟩
    obtain ⟨st, hst⟩ : ∃ st, (nextR s p).2.1 = st := ⟨_, rfl⟩
    obtain ⟨j, hj⟩ : ∃ j, (nextR s p).2.2 = j := ⟨_, rfl⟩
    rw [htk, hst, hj] at hK1 hK2
    have hle : p < s.length → st = sDone → p < j ∧ j ≤ s.length := fun h1 h2 => by
      have := next_le s p h1 (hst.trans h2)
      rw [hj] at this; exact this
    -- the next round
    have hround : ∀ (S' : St) (y : Int), (decide (p < s.length)) = true → (st == sDone) = true → decide (acc.length = 600) = false → y = skipN s (s.length + 1) j → S'.row 0 = [.str s, .int .i64 y] → 1 ≤ S'.next → S'.caps = accCaps (acc ++ [tk]) →
        LoopP Tryd.prog (Lx.tab real) 43 c7 (Less K) [(0, .str s), (4, .ptr 0 0), (5, accV (acc ++ [tk]))] S' := by
      intro S' y h1 h2 h3 hy hr hnx hc
      have h1' := of_decide_eq_true h1
      have h2' : st = sDone := by simpa using h2
      have h3' := of_decide_eq_false h3
      have hjl := hle h1' h2'
      have hsk := skipN_le s (s.length + 1) j hjl.2
      refine ih (skipN s (s.length + 1) j) y _ S' hy hsk.2 (by omega) (by simp; omega) hr hnx hc (fun acc' S'' h => hK1 acc' S'' ?_) (fun st' S'' h => hK2 st' S'' ?_)
      · rw [h1, h2, h3]; exact h
      · rw [h1, h2, h3]; exact h
    have hend : decide (p < s.length) = false → ∀ S', K (.exit 0) [(5, accV acc)] S' := fun h S' => hK1 acc S' (by rw [h])
    have herr : decide (p < s.length) = true → (st == sDone) = false → ∀ S', K .ret [(2, .slice 0 [] .exact), (3, .str st)] S' := fun h1 h2 S' => hK2 st S' (by rw [h1, h2])
    have hbig : decide (p < s.length) = true → (st == sDone) = true → decide (acc.length = 600) = true → ∀ S', K .ret [(2, .slice 0 [] .exact), (3, .str sLarge)] S' := fun h1 h2 h3 S' => hK2 sLarge S' (by rw [h1, h2, h3])
    clear ih hK1 hK2
    refine LoopP.ext (row_front S 0) rfl rfl ?_
    rw [hrow]
    obtain ⟨O, nx, caps⟩ := S
    obtain ⟨m, rfl⟩ : ∃ m, nx = m + 1 := ⟨nx - 1, by have : 1 ≤ nx := hnext; omega⟩
    have hcaps : caps = accCaps acc := hcaps
    have wN : p < s.length → ∀ K' : Out → St → Prop, (∀ (y : Int), y = j → K' (.ret (.tup [tk.av, .str st])) ⟨(0, [.str s, .int .i64 y]) :: O, m + 1, caps⟩) →
        CallP Tryd.prog (Lx.tab real) 14 [.ptr 0 0] ⟨(0, [.str s, .int .i64 z]) :: O, m + 1, caps⟩ K' := fun hlt K' h => by
      refine next_at s (by omega) p z hz hlt _ 0 (Nat.succ_pos m) rfl K' fun y hy => ?_
      rw [htk, hst]
      rw [hj] at hy
      exact h y hy
    have wK : p < s.length → st = sDone → ∀ (O2 : List (Nat × List AV)) (m2 : Nat) (caps2 : List Int) (y : Int), y = j → rowIn O2 0 = [.str s, .int .i64 y] → ∀ K' : Out → St → Prop, (∀ (y2 : Int) (S' : St), y2 = skipN s (s.length + 1) j → S'.row 0 = [.str s, .int .i64 y2] → S'.next = m2 + 1 → S'.caps = caps2 → K' (.ret (.tup [])) S') →
        CallP Tryd.prog (Lx.tab real) 13 [.ptr 0 0] ⟨O2, m2 + 1, caps2⟩ K' := fun hlt hsd O2 m2 caps2 y hy hr K' h => by
      refine skip_at s (by omega) j y hy (hle hlt hsd).2 ⟨O2, m2 + 1, caps2⟩ 0 (Nat.succ_pos m2) hr K' fun y2 hy2 => ?_
      refine h y2 _ hy2 (row_set0 _ 0 _ ?_) rfl rfl
      have : (⟨O2, m2 + 1, caps2⟩ : St).row 0 = rowIn O2 0 := rfl
      rw [this, hr]; simp
    clear hrow hnext
    apply step7
    apply gen_code (mk := Lx.tab)
    intro fail need same call loop len slen arith shift cmp conv eqS ltS cat app elt byt subS subL strOf isB fit inb cut room not and eqB avs G
    have hlss : cmp BinOp.lss z (slen s) = decide (p < s.length) := by
      rw [G.cmp', G.slen']; simp only [intRel]; rw [Bool.eq_iff_iff]; simp only [decide_eq_true_eq]; omega
    have hne : not (eqS st [48, 48, 48, 48, 48]) = !(st == sDone) := by rw [G.not', G.eqS']; rfl
    have hlen : cmp BinOp.eql (len (acc.map Tk.av)) 600 = decide (acc.length = 600) := by
      rw [G.cmp', G.len']; simp only [intRel]; rw [Bool.eq_iff_iff]; simp only [beq_iff_eq, decide_eq_true_eq, List.length_map]; omega
    have happ : app (acc.map Tk.av) [tk.av] = (acc ++ [tk]).map Tk.av := by rw [G.app']; simp
    have hroom : room (len ((acc ++ [tk]).map Tk.av)) 40 = true := by rw [G.room', G.len']; simp; omega
    have hlen2 : len ((acc ++ [tk]).map Tk.av) = ((acc ++ [tk]).length : Int) := by rw [G.len']; simp
    have hsd : (st == sDone) = true → st = sDone := fun h => by simpa using h
    generalize hL : LoopP Tryd.prog (Lx.tab real) 43 c7 (Less K) = L at hround ⊢
    generalize hK' : Less K = K' at hL ⊢
    have hvapp : accV (acc ++ [tk]) = .slice 32 ((acc ++ [tk]).map Tk.av) (.own 0) ∧ accCaps (acc ++ [tk]) = [((acc ++ [tk]).length : Int)] := by
      cases acc <;> exact ⟨rfl, rfl⟩
    have hcase : (accV acc = .slice 0 [] .exact ∧ caps = [] ∧ acc.map Tk.av = []) ∨ (accV acc = .slice 32 (acc.map Tk.av) (.own 0) ∧ caps = [(acc.length : Int)]) := by
      rw [hcaps]
      cases acc with
      | nil => exact .inl ⟨rfl, rfl, rfl⟩
      | cons => exact .inr ⟨rfl, rfl⟩
    have hown : cmp BinOp.eql (acc.length : Int) (len (acc.map Tk.av)) = true := by rw [G.cmp', G.len']; simp [intRel]
    rw [hvapp.1, hvapp.2] at hround
    clear hvapp hcaps
    generalize hav : accV acc = av at *
    clear hav
    generalize ((acc ++ [tk]).length : Int) = n2 at *
    generalize (acc ++ [tk]).map Tk.av = cs2 at *
    generalize hn1 : (acc.length : Int) = n1 at *
    generalize acc.map Tk.av = cs at *
    obtain ⟨tkav, htkav⟩ : ∃ v, tk.av = v := ⟨_, rfl⟩
    have hlt : decide (p < s.length) = true → p < s.length := of_decide_eq_true
    have hnn : Nat.beq m m = true := Nat.beq_refl m
    have hbb : Nat.ble m m = true := Nat.ble_eq_true_of_le (Nat.le_refl m)
    generalize hdp : decide (p < s.length) = dp at *
    generalize hds : (st == sDone) = ds at *
    generalize hda : decide (acc.length = 600) = da at *
    clear htk hst hj hle hdp hds hda hn1
    cbv at hnn hbb
    cbv
    refine GenH.need' G rfl ?_
    rw [hlss]
    cases dp with
    | false =>
      have hend := hend rfl
      cbv
      rw [← hK']
      exact ⟨[(5, av)], .cons rfl (.nil _), hend _⟩
    | true =>
      have hround := fun S' y => hround S' y rfl
      have herr := herr rfl
      have hbig := hbig rfl
      have hlt := hlt rfl
      cbv
      refine GenH.call' G (wN hlt _ fun y hy => ?_)
      obtain ⟨tkk, tkt, tkn, tka⟩ := tk
      have htkav' : tkav = .agg [.int .i64 tkk, .str tkt, .int .i64 tkn, .int .i64 tka] := htkav.symm
      clear htkav
      rw [show (Tk.av ⟨tkk, tkt, tkn, tka⟩) = .agg [.int .i64 tkk, .str tkt, .int .i64 tkn, .int .i64 tka] from rfl] at happ
      cbv
      rw [hnn]
      cbv
      rw [hne]
      cases ds with
      | false =>
        have herr := herr rfl
        cbv
        rw [← hK']
        exact ⟨[(2, .slice 0 [] .exact), (3, .str st)], .cons rfl (.cons rfl (.nil _)), herr _⟩
      | true =>
        have hround := fun S' y => hround S' y rfl
        have hbig := hbig rfl
        have wK := wK hlt (hsd rfl)
        rcases hcase with ⟨rfl, rfl, rfl⟩ | ⟨rfl, rfl⟩
        · cbv
          refine GenH.need' G rfl ?_
          rw [hlen]
          cases da with
          | true =>
            have hbig := hbig rfl
            cbv
            rw [← hK']
            exact ⟨[(2, .slice 0 [] .exact), (3, .str [53, 52, 48, 48, 48])], .cons rfl (.cons rfl (.nil _)), hbig _⟩
          | false =>
            have hround := fun S' y => hround S' y rfl
            cbv
            iterate 4 (first | (rw [hbb]; cbv) | (rw [hnn]; cbv) | skip)
            rw [happ]
            refine GenH.need' G rfl (GenH.need' G hroom ?_)
            rw [hlen2]
            refine GenH.call' G (wK _ _ _ y hy rfl _ fun y2 S' hy2 hr2 hnx2 hc2 => ?_)
            have hgo := hround S' y2 hy2 hr2 (by rw [hnx2]; exact Nat.succ_pos _) hc2
            cbv
            rw [← hL] at hgo ⊢
            exact LoopP.weak (env' := [(0, .str s), (4, .ptr 0 0), (5, .slice 32 cs2 (.own 0))]) (.cons rfl (.cons rfl (.cons rfl (.nil _)))) hgo
        · cbv
          refine GenH.need' G rfl ?_
          rw [hlen]
          cases da with
          | true =>
            have hbig := hbig rfl
            cbv
            rw [← hK']
            exact ⟨[(2, .slice 0 [] .exact), (3, .str [53, 52, 48, 48, 48])], .cons rfl (.cons rfl (.nil _)), hbig _⟩
          | false =>
            have hround := fun S' y => hround S' y rfl
            cbv
            iterate 4 (first | (rw [hbb]; cbv) | (rw [hnn]; cbv) | skip)
            rw [happ]
            refine GenH.need' G rfl (GenH.need' G hroom (GenH.need' G hown ?_))
            rw [hlen2]
            refine GenH.call' G (wK _ _ _ y hy rfl _ fun y2 S' hy2 hr2 hnx2 hc2 => ?_)
            have hgo := hround S' y2 hy2 hr2 (by rw [hnx2]; exact Nat.succ_pos _) hc2
            cbv
            rw [← hL] at hgo ⊢
            exact LoopP.weak (env' := [(0, .str s), (4, .ptr 0 0), (5, .slice 32 cs2 (.own 0))]) (.cons rfl (.cons rfl (.cons rfl (.nil _)))) hgo
end Go.AM

namespace Go.AM
open Go.Proofs
set_option maxRecDepth 100000
set_option maxHeartbeats 1000000
set_option linter.unusedVariables false

/-- What lex.Scan answers. -/
def lexScan (s : List UInt8) : List Tk × List UInt8 := match decide (2000 < s.length) with
  | true => ([], sLarge)
  | false => match scanN s (s.length + 1) (skipN s (s.length + 1) 0) [] with
    | .inl l => (l, sDone)
    | .inr st => ([], st)

def tokV : List Tk → AV
  | [] => .slice 0 [] .exact
  | x :: r => .slice 32 ((x :: r).map Tk.av) .no

theorem scan_spec (s : List UInt8) (S : St) (K : Out → St → Prop) (hK : K (.ret (.tup [tokV (lexScan s).1, .str (lexScan s).2])) S) : CallP Tryd.prog (Lx.tab real) 7 [.str s] S K := by
  refine CallP.lift (K0 := fun o _ => o = .ret (.tup [accV (lexScan s).1, .str (lexScan s).2])) rfl ?_ (by
    rintro o S0 rfl
    generalize lexScan s = r at *
    obtain ⟨l, st⟩ := r
    cases l <;> exact hK)
  apply body_calls (un := 0) Lx.tabOk Lx.mixed Lx.fn7 (Nat.le_of_ble_eq_true rfl)
  apply gen_body (mk := Lx.tab)
  intro fail need same call loop len slen arith shift cmp conv eqS ltS cat app elt byt subS subL strOf isB fit inb cut room not and eqB avs G
  have hgt : cmp BinOp.gtr (slen s) 2000 = decide (2000 < s.length) := by
    rw [G.cmp', G.slen']; simp only [intRel]; rw [Bool.eq_iff_iff]; simp only [decide_eq_true_eq]; omega
  have hbig : decide (2000 < s.length) = true → ∀ S : St, (fun (o : Out) (_ : St) => o = .ret (.tup [accV (lexScan s).1, .str (lexScan s).2])) (.ret (.tup [.slice 0 [] .exact, .str sLarge])) S := fun h S => by
    show _ = _
    unfold lexScan
    rw [h]; rfl
  have hskip : decide (2000 < s.length) = false → ∀ K : Out → St → Prop, (∀ y : Int, y = skipN s (s.length + 1) 0 → K (.ret (.tup [])) ⟨[(0, [.str s, .int .i64 y])], 1, []⟩) → CallP Tryd.prog (Lx.tab real) 13 [.ptr 0 0] ⟨[(0, [.str s, .int .i64 0])], 1, []⟩ K := fun h K hk => by
    have h' := of_decide_eq_false h
    exact skip_at s (by omega) 0 0 rfl (by omega) ⟨[(0, [.str s, .int .i64 0])], 1, []⟩ 0 Nat.one_pos rfl K hk
  have hloop : decide (2000 < s.length) = false → ∀ (y : Int), y = skipN s (s.length + 1) 0 → ∀ K : Ex → Env → St → Prop, (∀ acc' S', scanN s (s.length + 1) (skipN s (s.length + 1) 0) [] = .inl acc' → K (.exit 0) [(5, accV acc')] S') →
      (∀ st S', scanN s (s.length + 1) (skipN s (s.length + 1) 0) [] = .inr st → K .ret [(2, .slice 0 [] .exact), (3, .str st)] S') → LoopP Tryd.prog (Lx.tab real) 43 c7 (Less K) [(0, .str s), (4, .ptr 0 0), (5, accV [])] ⟨[(0, [.str s, .int .i64 y])], 1, []⟩ := fun h y hy K h1 h2 => by
    have h' := of_decide_eq_false h
    have hb := skipN_le s (s.length + 1) 0 (by omega)
    exact scan_loop s (by omega) K (s.length + 1) (skipN s (s.length + 1) 0) y [] _ hy hb.2 (by omega) (by simp) rfl (Nat.le_refl _) rfl h1 h2
  have hl : decide (2000 < s.length) = false → ∀ l, scanN s (s.length + 1) (skipN s (s.length + 1) 0) [] = .inl l → ∀ S : St, (fun (o : Out) (_ : St) => o = .ret (.tup [accV (lexScan s).1, .str (lexScan s).2])) (.ret (.tup [accV l, .str sDone])) S := fun h l hl S => by
    show _ = _
    unfold lexScan
    rw [h, hl]
  have hr : decide (2000 < s.length) = false → ∀ st, scanN s (s.length + 1) (skipN s (s.length + 1) 0) [] = .inr st → ∀ S : St, (fun (o : Out) (_ : St) => o = .ret (.tup [accV (lexScan s).1, .str (lexScan s).2])) (.ret (.tup [.slice 0 [] .exact, .str st])) S := fun h st hl S => by
    show _ = _
    unfold lexScan
    rw [h, hl]
    rfl
  generalize (fun (o : Out) (_ : St) => o = .ret (.tup [accV (lexScan s).1, .str (lexScan s).2])) = K0 at *
  generalize scanN s (s.length + 1) (skipN s (s.length + 1) 0) [] = sc at *
  generalize skipN s (s.length + 1) 0 = sk at *
  generalize decide (2000 < s.length) = db at *
  cbv
  refine GenH.need' G rfl ?_
  rw [hgt]
  cases db with
  | true =>
    have hbig := hbig rfl
    cbv
    exact hbig _
  | false =>
    have hskip := hskip rfl
    have hloop := hloop rfl
    have hl := hl rfl
    have hr := hr rfl
    cbv
    refine GenH.call' G (hskip _ fun y hy => ?_)
    cbv
    refine GenH.loop' G ?_
    change LoopP Tryd.prog (Lx.tab real) 43 c7 _ _ _
    refine LoopP.relax (LoopP.weak (env' := [(0, .str s), (4, .ptr 0 0), (5, accV [])]) (.cons rfl (.cons rfl (.cons rfl (.nil _)))) ?_)
    refine hloop y hy _ (fun l S' h => ?_) fun st S' h => ?_
    · have hl := hl l h
      generalize accV l = v at *
      cbv
      exact hl _
    · have hr := hr st h
      cbv
      exact hr _
end Go.AM

namespace Go.AM
open Go.Proofs
set_option maxRecDepth 100000
set_option maxHeartbeats 1000000
set_option linter.unusedVariables false
theorem Lx.fn18 : FnOk Tryd.prog 18 (fni Tryd.f18 a18) := ⟨⟨Tryd.f18, Tryd.func18, rfl, rfl, rfl, by kernel_rfl⟩, by kernel_rfl⟩
noncomputable def c18 : Code := (fni Tryd.f18 a18).loop 0
theorem Lx.c18 : codeOk 55 a18 c18 = true := by kernel_rfl
theorem step18 (K : Ex → Env → St → Prop) (env : Env) (S : St) (h : xcode (pAlg Tryd.prog (Lx.tab real) 55) (Lx.tab real) a18 0 c18 (andThen (LoopP Tryd.prog (Lx.tab real) 55 c18 K) K) env S) : LoopP Tryd.prog (Lx.tab real) 55 c18 K env S :=
  loopP_step Lx.tabOk Lx.mixed Lx.c18 h

def envWd (s : List UInt8) (z y : Int) (l : List UInt8) : Env := [(0, .str s), (1, .int .i64 z), (4, .ptr 0 0), (7, .int .i64 y), (8, .str l)]

theorem low_toNat (c : UInt8) : ((low c).toNat : Int) = if 65 ≤ c.toNat ∧ c.toNat ≤ 90 then (c.toNat : Int) + 32 else c.toNat := by
  unfold low
  have hb := c.toNat_lt
  by_cases h : 65 ≤ c.toNat ∧ c.toNat ≤ 90
  · rw [if_pos h, if_pos h, UInt8.toNat_add]
    have : (32 : UInt8).toNat = 32 := rfl
    rw [this]
    omega
  · rw [if_neg h, if_neg h]

theorem word_loop (s : List UInt8) (hs : s.length ≤ 1000000) (i : Nat) (z : Int) (hz : z = i) (S : St) (K : Ex → Env → St → Prop) (m : Nat) :
    ∀ (n : Nat) (y : Int) (l : List UInt8), y = n → i + n + m = s.length → l.length = n →
      (∀ (y' : Int), y' = n + ((s.drop (i + n)).takeWhile isWord).length → K (.exit 0) (envWd s z y' (l ++ ((s.drop (i + n)).takeWhile isWord).map low)) S) →
      LoopP Tryd.prog (Lx.tab real) 55 c18 (Less K) (envWd s z y l) S := by
  induction m with
  | zero =>
    intro n y l hy hm hl hK
    have hfin : K (.exit 0) (envWd s z y l) S := by
      have := hK y (by rw [List.drop_eq_nil_of_le (by omega)]; simpa using hy)
      rw [List.drop_eq_nil_of_le (by omega)] at this
      simpa using this
    apply step18
    apply gen_code (mk := Lx.tab)
    intro fail need same call loop len slen arith shift cmp conv eqS ltS cat app elt byt subS subL strOf isB fit inb cut room not and eqB avs G
    generalize hL : LoopP Tryd.prog (Lx.tab real) 55 c18 (Less K) = L
    generalize hK' : Less K = K'
    have hadd : arith BinOp.add IntKind.i64 z y = z + y := by rw [G.arith']; exact wrap_i64 _ (by omega) (by omega)
    have hb : cmp BinOp.lss (z + y) (slen s) = false := by rw [G.cmp', G.slen']; simp [intRel]; omega
    cbv
    refine GenH.need' G rfl (GenH.need' G rfl ?_)
    rw [hadd, hb]
    cbv
    rw [← hK']
    exact ⟨envWd s z y l, .cons rfl (.cons rfl (.cons rfl (.cons rfl (.cons rfl (.nil _))))), hfin⟩
  | succ m ih =>
    intro n y l hy hm hl hK
    have hlt : i + n < s.length := by omega
    have hdrop : s.drop (i + n) = s[i + n] :: s.drop (i + n + 1) := List.drop_eq_getElem_cons hlt
    obtain ⟨c, hc⟩ : ∃ c, s[i + n] = c := ⟨_, rfl⟩
    rw [hc] at hdrop
    have hfin : isLetter c = false → isDigit c = false → K (.exit 0) (envWd s z y l) S := fun h1 h2 => by
      have hw : isWord c = false := by unfold isWord; rw [h1, h2]; rfl
      have h3 : (s.drop (i + n)).takeWhile isWord = [] := by rw [hdrop, List.takeWhile_cons, hw]; simp
      have := hK y (by rw [h3]; simpa using hy)
      rw [h3] at this
      simpa using this
    have hgo : (isLetter c = true ∨ isDigit c = true) → LoopP Tryd.prog (Lx.tab real) 55 c18 (Less K) (envWd s z (y + 1) (l ++ [low c])) S := fun h1 => by
      have hw : isWord c = true := by unfold isWord; rcases h1 with h | h <;> simp [h]
      have h3 : (s.drop (i + n)).takeWhile isWord = c :: (s.drop (i + (n + 1))).takeWhile isWord := by rw [hdrop, List.takeWhile_cons, hw, ← Nat.add_assoc]; simp
      refine ih (n + 1) (y + 1) (l ++ [low c]) (by omega) (by omega) (by simp [hl]) fun y' hy' => ?_
      have := hK y' (by rw [h3, hy']; simp only [List.length_cons]; omega)
      rw [h3] at this
      simpa using this
    clear ih hK
    obtain ⟨cz, hcz⟩ : ∃ cz : Int, cz = c.toNat := ⟨_, rfl⟩
    obtain ⟨lz, hlz⟩ : ∃ lz : Int, lz = (low c).toNat := ⟨_, rfl⟩
    have hlz' : lz = if 65 ≤ c.toNat ∧ c.toNat ≤ 90 then cz + 32 else cz := by rw [hlz, hcz]; exact low_toNat c
    apply step18
    apply gen_code (mk := Lx.tab)
    intro fail need same call loop len slen arith shift cmp conv eqS ltS cat app elt byt subS subL strOf isB fit inb cut room not and eqB avs G
    have hadd : arith BinOp.add IntKind.i64 z y = z + y := by rw [G.arith']; exact wrap_i64 _ (by omega) (by omega)
    have hone : arith BinOp.add IntKind.i64 y 1 = y + 1 := by rw [G.arith']; exact wrap_i64 _ (by omega) (by omega)
    have hb : cmp BinOp.lss (z + y) (slen s) = true := by rw [G.cmp', G.slen']; simp [intRel]; omega
    have hin : inb (z + y) (slen s) = true := by rw [G.inb', G.slen']; simp; omega
    have hbyt : byt s (z + y) = cz := by
      rw [G.byt', hz, hy, hcz, ← hc]; simp only []; rw [show ((i : Int) + (n : Int)).toNat = i + n by omega]; simp [List.getD_eq_getElem?_getD, hlt]
    have hA : ∀ S K, K (.ret (.bool (isLetter c))) S → CallP Tryd.prog (Lx.tab real) 16 [.int .u8 cz] S K := fun S K h => by rw [hcz]; exact asks16 c S K h
    have hD : ∀ S K, K (.ret (.bool (isDigit c))) S → CallP Tryd.prog (Lx.tab real) 17 [.int .u8 cz] S K := fun S K h => by rw [hcz]; exact asks17 c S K h
    have h65 : cmp BinOp.geq cz 65 = decide (65 ≤ c.toNat) := by rw [G.cmp', hcz]; simp only [intRel]; rw [Bool.eq_iff_iff]; simp only [decide_eq_true_eq]; omega
    have h90 : cmp BinOp.leq cz 90 = decide (c.toNat ≤ 90) := by rw [G.cmp', hcz]; simp only [intRel]; rw [Bool.eq_iff_iff]; simp only [decide_eq_true_eq]; omega
    have hup : decide (65 ≤ c.toNat) = true → decide (c.toNat ≤ 90) = true → arith BinOp.add IntKind.u8 cz 32 = lz := fun h1 h2 => by
      have h1' := of_decide_eq_true h1
      have h2' := of_decide_eq_true h2
      rw [hlz', if_pos ⟨h1', h2'⟩, G.arith']
      simp only [intBin]
      rw [IntKind.wrap_u8]
      omega
    have hsame : decide (65 ≤ c.toNat) = false ∨ decide (c.toNat ≤ 90) = false → cz = lz := fun h => by
      rw [hlz', if_neg]
      rintro ⟨h1, h2⟩
      rcases h with h | h
      · exact of_decide_eq_false h h1
      · exact of_decide_eq_false h h2
    have hisB : isB [.int .u8 lz] = true := by rw [G.isB']; rfl
    have hstr : strOf [.int .u8 lz] = [low c] := by rw [G.strOf', hlz]; simp [byteOf]
    have hfit : fit l [low c] = true := by rw [G.fit']; simp; omega
    have hcat : cat l [low c] = l ++ [low c] := by rw [G.cat']
    have hn1 : not true = false := by rw [G.not']; rfl
    have hn0 : not false = true := by rw [G.not']; rfl
    generalize hL : LoopP Tryd.prog (Lx.tab real) 55 c18 (Less K) = L at hgo ⊢
    generalize hK' : Less K = K' at hL ⊢
    generalize hll : l ++ [low c] = l2 at *
    generalize [low c] = lc1 at *
    generalize hq1 : isLetter c = q1 at *
    generalize hq2 : isDigit c = q2 at *
    generalize hd1 : decide (65 ≤ c.toNat) = d1 at *
    generalize hd2 : decide (c.toNat ≤ 90) = d2 at *
    generalize hy1 : y + 1 = y1 at *
    generalize hzy : z + y = zy at *
    clear hlz' hlz hcz hll hq1 hq2 hd1 hd2
    have rest : (q1 = true ∨ q2 = true) → L (envWd s z y1 l2) S := hgo
    cbv
    refine GenH.need' G rfl (GenH.need' G rfl ?_)
    rw [hadd, hb]
    cbv
    refine GenH.need' G rfl ?_
    rw [hadd]
    refine GenH.need' G hin ?_
    rw [hbyt]
    refine GenH.call' G (hA _ _ ?_)
    cbv
    refine GenH.call' G (hD _ _ ?_)
    cbv
    cases q1 with
    | false =>
      rw [hn0]
      cbv
      cases q2 with
      | false =>
        rw [hn0]
        cbv
        rw [← hK']
        exact ⟨envWd s z y l, .cons rfl (.cons rfl (.cons rfl (.cons rfl (.cons rfl (.nil _))))), hfin rfl rfl⟩
      | true =>
        have rest := rest (.inr rfl)
        rw [hn1]
        cbv
        refine GenH.need' G rfl ?_
        rw [h65]
        cases d1 with
        | false =>
          have he := hsame (.inl rfl)
          cbv
          rw [he]
          refine GenH.need' G rfl (GenH.need' G hisB ?_)
          rw [hstr]
          refine GenH.need' G hfit ?_
          rw [hcat]
          refine GenH.need' G rfl ?_
          rw [hone]
          rw [← hL] at rest ⊢
          exact LoopP.weak (env' := envWd s z y1 l2) (.cons rfl (.cons rfl (.cons rfl (.cons rfl (.cons rfl (.nil _)))))) rest
        | true =>
          cbv
          refine GenH.need' G rfl ?_
          rw [h90]
          cases d2 with
          | false =>
            have he := hsame (.inr rfl)
            cbv
            rw [he]
            refine GenH.need' G rfl (GenH.need' G hisB ?_)
            rw [hstr]
            refine GenH.need' G hfit ?_
            rw [hcat]
            refine GenH.need' G rfl ?_
            rw [hone]
            rw [← hL] at rest ⊢
            exact LoopP.weak (env' := envWd s z y1 l2) (.cons rfl (.cons rfl (.cons rfl (.cons rfl (.cons rfl (.nil _)))))) rest
          | true =>
            have he := hup rfl rfl
            cbv
            refine GenH.need' G rfl ?_
            rw [he]
            refine GenH.need' G rfl (GenH.need' G hisB ?_)
            rw [hstr]
            refine GenH.need' G hfit ?_
            rw [hcat]
            refine GenH.need' G rfl ?_
            rw [hone]
            rw [← hL] at rest ⊢
            exact LoopP.weak (env' := envWd s z y1 l2) (.cons rfl (.cons rfl (.cons rfl (.cons rfl (.cons rfl (.nil _)))))) rest
    | true =>
      have rest := rest (.inl rfl)
      rw [hn1]
      cbv
      refine GenH.need' G rfl ?_
      rw [h65]
      cases d1 with
      | false =>
        have he := hsame (.inl rfl)
        cbv
        rw [he]
        refine GenH.need' G rfl (GenH.need' G hisB ?_)
        rw [hstr]
        refine GenH.need' G hfit ?_
        rw [hcat]
        refine GenH.need' G rfl ?_
        rw [hone]
        rw [← hL] at rest ⊢
        exact LoopP.weak (env' := envWd s z y1 l2) (.cons rfl (.cons rfl (.cons rfl (.cons rfl (.cons rfl (.nil _)))))) rest
      | true =>
        cbv
        refine GenH.need' G rfl ?_
        rw [h90]
        cases d2 with
        | false =>
          have he := hsame (.inr rfl)
          cbv
          rw [he]
          refine GenH.need' G rfl (GenH.need' G hisB ?_)
          rw [hstr]
          refine GenH.need' G hfit ?_
          rw [hcat]
          refine GenH.need' G rfl ?_
          rw [hone]
          rw [← hL] at rest ⊢
          exact LoopP.weak (env' := envWd s z y1 l2) (.cons rfl (.cons rfl (.cons rfl (.cons rfl (.cons rfl (.nil _)))))) rest
        | true =>
          have he := hup rfl rfl
          cbv
          refine GenH.need' G rfl ?_
          rw [he]
          refine GenH.need' G rfl (GenH.need' G hisB ?_)
          rw [hstr]
          refine GenH.need' G hfit ?_
          rw [hcat]
          refine GenH.need' G rfl ?_
          rw [hone]
          rw [← hL] at rest ⊢
          exact LoopP.weak (env' := envWd s z y1 l2) (.cons rfl (.cons rfl (.cons rfl (.cons rfl (.cons rfl (.nil _)))))) rest

/-- The document's word. -/
def refWord (w : List UInt8) (i : Nat) : AV := match decide (32 < w.length) with
  | true => .tup [.agg [.int .i64 0, .str [], .int .i64 0, .int .i64 0], .int .i64 0, .str sSyntax]
  | false => .tup [.agg [.int .i64 0, .str (w.map low), .int .i64 0, .int .i64 i], .int .i64 w.length, .str sDone]

theorem word_spec (s : List UInt8) (hs : s.length ≤ 1000000) (i : Nat) (z : Int) (hz : z = i) (hi : i ≤ s.length) (S : St) (K : Out → St → Prop) (hK : K (.ret (refWord ((s.drop i).takeWhile isWord) i)) S) :
    CallP Tryd.prog (Lx.tab real) 18 [.str s, .int .i64 z] S K := by
  refine CallP.lift (K0 := fun o _ => o = .ret (refWord ((s.drop i).takeWhile isWord) i)) rfl ?_ (by
    rintro o S0 rfl
    unfold refWord at hK ⊢
    generalize decide (32 < ((s.drop i).takeWhile isWord).length) = d at *
    cases d <;> exact hK)
  apply body_calls (un := 0) Lx.tabOk Lx.mixed Lx.fn18 (Nat.le_of_ble_eq_true rfl)
  apply gen_body (mk := Lx.tab)
  intro fail need same call loop len slen arith shift cmp conv eqS ltS cat app elt byt subS subL strOf isB fit inb cut room not and eqB avs G
  obtain ⟨w, hw⟩ : ∃ w, (s.drop i).takeWhile isWord = w := ⟨_, rfl⟩
  have hwl := (List.takeWhile_prefix isWord (l := s.drop i)).length_le
  rw [hw] at hwl
  simp at hwl
  have hloop := fun K h => word_loop s hs i z hz ⟨[(0, [.int .i64 0, .str [], .int .i64 0, .int .i64 0])], 1, []⟩ K (s.length - i) 0 0 [] rfl (by omega) rfl h
  rw [Nat.add_zero, hw] at hloop
  rw [hw]
  have hgt : ∀ y : Int, y = ((0 : Nat) : Int) + w.length → cmp BinOp.gtr y 32 = decide (32 < w.length) := fun y hy => by
    rw [G.cmp', hy]; simp only [intRel]; rw [Bool.eq_iff_iff]; simp only [decide_eq_true_eq]; omega
  have h1 : decide (32 < w.length) = true → ∀ S : St, (fun (o : Out) (_ : St) => o = .ret (refWord w i)) (.ret (.tup [.agg [.int .i64 0, .str [], .int .i64 0, .int .i64 0], .int .i64 0, .str sSyntax])) S := fun h S => by
    show _ = _
    unfold refWord; rw [h]
  have h2 : decide (32 < w.length) = false → ∀ y : Int, y = ((0 : Nat) : Int) + w.length → ∀ S : St, (fun (o : Out) (_ : St) => o = .ret (refWord w i)) (.ret (.tup [.agg [.int .i64 0, .str (w.map low), .int .i64 0, .int .i64 z], .int .i64 y, .str sDone])) S := fun h y hy S => by
    show _ = _
    unfold refWord; rw [h, hz, hy]; simp
  generalize (fun (o : Out) (_ : St) => o = .ret (refWord w i)) = K0 at *
  generalize decide (32 < w.length) = dw at *
  generalize hwm : ([] : List UInt8) ++ w.map low = wm at *
  rw [List.nil_append] at hwm
  rw [hwm] at h2
  generalize (((0 : Nat) : Int) + (w.length : Int)) = yw at *
  cbv
  refine GenH.loop' G ?_
  change LoopP Tryd.prog (Lx.tab real) 55 c18 _ _ _
  refine LoopP.relax (LoopP.weak (env' := envWd s z 0 []) (.cons rfl (.cons rfl (.cons rfl (.cons rfl (.cons rfl (.nil _)))))) ?_)
  refine hloop _ fun y hy => ?_
  have hg := hgt y hy
  have h2 := fun h => h2 h y hy
  cbv
  refine GenH.need' G rfl ?_
  rw [hg]
  cases dw with
  | true => have h1 := h1 rfl; cbv; exact h1 _
  | false => have h2 := h2 rfl; cbv; exact h2 _
end Go.AM

namespace Go.AM
open Go.Proofs
set_option maxRecDepth 100000
set_option maxHeartbeats 1000000
set_option linter.unusedVariables false
theorem Lx.fn19 : FnOk Tryd.prog 19 (fni Tryd.f19 a19) := ⟨⟨Tryd.f19, Tryd.func19, rfl, rfl, rfl, by kernel_rfl⟩, by kernel_rfl⟩
noncomputable def c19 : Code := (fni Tryd.f19 a19).loop 0
theorem Lx.c19 : codeOk 75 a19 c19 = true := by kernel_rfl
theorem step19 (K : Ex → Env → St → Prop) (env : Env) (S : St) (h : xcode (pAlg Tryd.prog (Lx.tab real) 75) (Lx.tab real) a19 0 c19 (andThen (LoopP Tryd.prog (Lx.tab real) 75 c19 K) K) env S) : LoopP Tryd.prog (Lx.tab real) 75 c19 K env S :=
  loopP_step Lx.tabOk Lx.mixed Lx.c19 h

def envNu (s : List UInt8) (z y v : Int) (ov : Bool) : Env := [(0, .str s), (1, .int .i64 z), (4, .ptr 0 0), (7, .int .i64 y), (8, .int .u64 v), (9, .bool ov)]

theorem number_loop (s : List UInt8) (hs : s.length ≤ 1000000) (i : Nat) (z : Int) (hz : z = i) (S : St) (K : Ex → Env → St → Prop) (m : Nat) :
    ∀ (n acc : Nat) (y v : Int), y = n → i + n + m = s.length → 0 ≤ v → v < 18446744073709551616 → (acc < 9223372036854775808 → v = acc) →
      (∀ (y' v' : Int), y' = n + ((s.drop (i + n)).takeWhile isDigit).length → (numFold acc ((s.drop (i + n)).takeWhile isDigit) < 9223372036854775808 → v' = numFold acc ((s.drop (i + n)).takeWhile isDigit)) → 0 ≤ v' → v' < 18446744073709551616 →
        K (.exit 0) (envNu s z y' v' (decide (9223372036854775808 ≤ numFold acc ((s.drop (i + n)).takeWhile isDigit)))) S) →
      LoopP Tryd.prog (Lx.tab real) 75 c19 (Less K) (envNu s z y v (decide (9223372036854775808 ≤ acc))) S := by
  induction m with
  | zero =>
    intro n acc y v hy hm hv0 hv1 hv hK
    have hfin : K (.exit 0) (envNu s z y v (decide (9223372036854775808 ≤ acc))) S := by
      have h0 : (s.drop (i + n)).takeWhile isDigit = [] := by rw [List.drop_eq_nil_of_le (by omega)]; rfl
      have := hK y v (by rw [h0]; simpa using hy) (by rw [h0]; exact hv) hv0 hv1
      rw [h0] at this
      exact this
    apply step19
    apply gen_code (mk := Lx.tab)
    intro fail need same call loop len slen arith shift cmp conv eqS ltS cat app elt byt subS subL strOf isB fit inb cut room not and eqB avs G
    generalize hL : LoopP Tryd.prog (Lx.tab real) 75 c19 (Less K) = L
    generalize hK' : Less K = K'
    generalize hov : decide (9223372036854775808 ≤ acc) = ov at *
    have hadd : arith BinOp.add IntKind.i64 z y = z + y := by rw [G.arith']; exact wrap_i64 _ (by omega) (by omega)
    have hb : cmp BinOp.lss (z + y) (slen s) = false := by rw [G.cmp', G.slen']; simp [intRel]; omega
    cbv
    refine GenH.need' G rfl (GenH.need' G rfl ?_)
    rw [hadd, hb]
    cbv
    rw [← hK']
    exact ⟨envNu s z y v ov, .cons rfl (.cons rfl (.cons rfl (.cons rfl (.cons rfl (.cons rfl (.nil _)))))), hfin⟩
  | succ m ih =>
    intro n acc y v hy hm hv0 hv1 hv hK
    have hlt : i + n < s.length := by omega
    have hdrop : s.drop (i + n) = s[i + n] :: s.drop (i + n + 1) := List.drop_eq_getElem_cons hlt
    obtain ⟨c, hc⟩ : ∃ c, s[i + n] = c := ⟨_, rfl⟩
    rw [hc] at hdrop
    have hfin : isDigit c = false → K (.exit 0) (envNu s z y v (decide (9223372036854775808 ≤ acc))) S := fun h2 => by
      have h3 : (s.drop (i + n)).takeWhile isDigit = [] := by rw [hdrop, List.takeWhile_cons, h2]; simp
      have := hK y v (by rw [h3]; simpa using hy) (by rw [h3]; exact hv) hv0 hv1
      rw [h3] at this
      exact this
    obtain ⟨cz, hcz⟩ : ∃ cz : Int, cz = c.toNat := ⟨_, rfl⟩
    have hgo : isDigit c = true → ∀ v2 : Int, 0 ≤ v2 → v2 < 18446744073709551616 → (acc * 10 + (c.toNat - 48) < 9223372036854775808 → v2 = ((acc * 10 + (c.toNat - 48) : Nat) : Int)) →
        LoopP Tryd.prog (Lx.tab real) 75 c19 (Less K) (envNu s z (y + 1) v2 (decide (9223372036854775808 ≤ acc * 10 + (c.toNat - 48)))) S := fun h1 v2 h20 h21 hv2 => by
      have h3 : (s.drop (i + n)).takeWhile isDigit = c :: (s.drop (i + (n + 1))).takeWhile isDigit := by rw [hdrop, List.takeWhile_cons, h1, ← Nat.add_assoc]; simp
      refine ih (n + 1) (acc * 10 + (c.toNat - 48)) (y + 1) v2 (by omega) (by omega) h20 h21 hv2 fun y' v' hy' hv' h30 h31 => ?_
      have := hK y' v' (by rw [h3, hy']; simp only [List.length_cons]; omega) (by rw [h3]; exact hv') h30 h31
      rw [h3] at this
      exact this
    clear ih hK
    obtain ⟨v2, hv2⟩ : ∃ v2 : Int, v2 = 10 * v + (cz - 48) := ⟨_, rfl⟩
    have hdig : isDigit c = true → 48 ≤ c.toNat ∧ c.toNat ≤ 57 := digit_iff c
    -- over
    have rest1 : isDigit c = true → (decide (9223372036854775808 ≤ acc) = true ∨ decide (922337203685477580 < v) = true ∨ (decide (v = 922337203685477580) = true ∧ decide (55 < cz) = true)) →
        LoopP Tryd.prog (Lx.tab real) 75 c19 (Less K) (envNu s z (y + 1) v true) S := fun h1 h => by
      have hd := hdig h1
      have hbig : 9223372036854775808 ≤ acc * 10 + (c.toNat - 48) := by
        simp only [decide_eq_true_eq] at h
        by_cases hq : acc < 9223372036854775808
        · have := hv hq
          rcases h with h | h | ⟨h, h'⟩ <;> omega
        · omega
      have := hgo h1 v hv0 hv1 (fun hq => by omega)
      rw [decide_eq_true hbig] at this
      exact this
    have rest2 : isDigit c = true → decide (9223372036854775808 ≤ acc) = false → decide (922337203685477580 < v) = false → (decide (v = 922337203685477580) = false ∨ decide (55 < cz) = false) →
        LoopP Tryd.prog (Lx.tab real) 75 c19 (Less K) (envNu s z (y + 1) v2 false) S := fun h1 h2 h3 h4 => by
      have hd := hdig h1
      simp only [decide_eq_false_iff_not] at h2 h3 h4
      have hva := hv (by omega)
      have hsm : acc * 10 + (c.toNat - 48) < 9223372036854775808 := by rcases h4 with h4 | h4 <;> omega
      have := hgo h1 v2 (by omega) (by omega) (fun _ => by omega)
      rw [decide_eq_false (by omega)] at this
      exact this
    have hsmall : isDigit c = true → decide (9223372036854775808 ≤ acc) = false → decide (922337203685477580 < v) = false → 48 ≤ cz ∧ cz ≤ 57 ∧ 0 ≤ v ∧ v ≤ 922337203685477580 := fun h1 h2 h3 => by
      have hd := hdig h1
      simp only [decide_eq_false_iff_not] at h2 h3
      omega
    clear hgo
    apply step19
    apply gen_code (mk := Lx.tab)
    intro fail need same call loop len slen arith shift cmp conv eqS ltS cat app elt byt subS subL strOf isB fit inb cut room not and eqB avs G
    have hadd : arith BinOp.add IntKind.i64 z y = z + y := by rw [G.arith']; exact wrap_i64 _ (by omega) (by omega)
    have hone : arith BinOp.add IntKind.i64 y 1 = y + 1 := by rw [G.arith']; exact wrap_i64 _ (by omega) (by omega)
    have hb : cmp BinOp.lss (z + y) (slen s) = true := by rw [G.cmp', G.slen']; simp [intRel]; omega
    have hin : inb (z + y) (slen s) = true := by rw [G.inb', G.slen']; simp; omega
    have hbyt : byt s (z + y) = cz := by
      rw [G.byt', hz, hy, hcz, ← hc]; simp only []; rw [show ((i : Int) + (n : Int)).toNat = i + n by omega]; simp [List.getD_eq_getElem?_getD, hlt]
    have hD : ∀ S K, K (.ret (.bool (isDigit c))) S → CallP Tryd.prog (Lx.tab real) 17 [.int .u8 cz] S K := fun S K h => by rw [hcz]; exact asks17 c S K h
    have hgt : cmp BinOp.gtr v 922337203685477580 = decide (922337203685477580 < v) := by rw [G.cmp']; rfl
    have heq : cmp BinOp.eql v 922337203685477580 = decide (v = 922337203685477580) := by rw [G.cmp']; simp only [intRel]; rw [Bool.eq_iff_iff]; simp
    have h55 : cmp BinOp.gtr cz 55 = decide (55 < cz) := by rw [G.cmp']; rfl
    have hval : isDigit c = true → decide (9223372036854775808 ≤ acc) = false → decide (922337203685477580 < v) = false →
        arith BinOp.add IntKind.u64 (arith BinOp.mul IntKind.u64 10 v) (conv IntKind.u64 (arith BinOp.sub IntKind.u8 cz 48)) = v2 := fun h1 h2 h3 => by
      obtain ⟨g1, g2, g3, g4⟩ := hsmall h1 h2 h3
      rw [G.arith', G.conv']
      simp only [intBin, IntKind.wrap_u64, IntKind.wrap_u8]
      omega
    have hn1 : not true = false := by rw [G.not']; rfl
    have hn0 : not false = true := by rw [G.not']; rfl
    generalize hL : LoopP Tryd.prog (Lx.tab real) 75 c19 (Less K) = L at rest1 rest2 ⊢
    generalize hK' : Less K = K' at hL ⊢
    generalize hq2 : isDigit c = q2 at *
    generalize hov : decide (9223372036854775808 ≤ acc) = ov at *
    generalize hb1 : decide (922337203685477580 < v) = b1 at *
    generalize hb2 : decide (v = 922337203685477580) = b2 at *
    generalize hb3 : decide (55 < cz) = b3 at *
    generalize hy1 : y + 1 = y1 at *
    generalize hzy : z + y = zy at *
    clear hv2 hcz hq2 hov hb1 hb2 hb3 hsmall hdig hv hv0 hv1
    cbv
    refine GenH.need' G rfl (GenH.need' G rfl ?_)
    rw [hadd, hb]
    cbv
    refine GenH.need' G rfl ?_
    rw [hadd]
    refine GenH.need' G hin ?_
    rw [hbyt]
    refine GenH.call' G (hD _ _ ?_)
    cbv
    cases q2 with
    | false =>
      rw [hn0]
      cbv
      rw [← hK']
      exact ⟨envNu s z y v ov, .cons rfl (.cons rfl (.cons rfl (.cons rfl (.cons rfl (.cons rfl (.nil _)))))), hfin rfl⟩
    | true =>
      have rest1 := rest1 rfl
      have rest2 := rest2 rfl
      have hval := hval rfl
      rw [hn1]
      cbv
      refine GenH.need' G rfl ?_
      rw [hgt]
      cases b1 with
      | true =>
        have go := rest1 (.inr (.inl rfl))
        cbv
        rw [hn1]
        cbv
        refine GenH.need' G rfl ?_
        rw [hone]
        rw [← hL] at go ⊢
        exact LoopP.weak (env' := envNu s z y1 v true) (.cons rfl (.cons rfl (.cons rfl (.cons rfl (.cons rfl (.cons rfl (.nil _))))))) go
      | false =>
        cbv
        refine GenH.need' G rfl ?_
        rw [heq]
        cases b2 with
        | false =>
          cbv
          cases ov with
          | true =>
            have go := rest1 (.inl rfl)
            cbv
            rw [hn1]
            cbv
            refine GenH.need' G rfl ?_
            rw [hone]
            rw [← hL] at go ⊢
            exact LoopP.weak (env' := envNu s z y1 v true) (.cons rfl (.cons rfl (.cons rfl (.cons rfl (.cons rfl (.cons rfl (.nil _))))))) go
          | false =>
            have go := rest2 rfl rfl (.inl rfl)
            have hval := hval rfl rfl
            cbv
            rw [hn0]
            cbv
            refine GenH.need' G rfl (GenH.need' G rfl ?_)
            rw [hadd]
            refine GenH.need' G hin (GenH.need' G rfl (GenH.need' G rfl ?_))
            rw [hbyt, hval]
            refine GenH.need' G rfl ?_
            rw [hone]
            rw [← hL] at go ⊢
            exact LoopP.weak (env' := envNu s z y1 v2 false) (.cons rfl (.cons rfl (.cons rfl (.cons rfl (.cons rfl (.cons rfl (.nil _))))))) go
        | true =>
          cbv
          refine GenH.need' G rfl ?_
          rw [hadd]
          refine GenH.need' G hin (GenH.need' G rfl ?_)
          rw [hbyt, h55]
          cases b3 with
          | true =>
            have go := rest1 (.inr (.inr ⟨rfl, rfl⟩))
            cbv
            rw [hn1]
            cbv
            refine GenH.need' G rfl ?_
            rw [hone]
            rw [← hL] at go ⊢
            exact LoopP.weak (env' := envNu s z y1 v true) (.cons rfl (.cons rfl (.cons rfl (.cons rfl (.cons rfl (.cons rfl (.nil _))))))) go
          | false =>
            cbv
            cases ov with
            | true =>
              have go := rest1 (.inl rfl)
              cbv
              rw [hn1]
              cbv
              refine GenH.need' G rfl ?_
              rw [hone]
              rw [← hL] at go ⊢
              exact LoopP.weak (env' := envNu s z y1 v true) (.cons rfl (.cons rfl (.cons rfl (.cons rfl (.cons rfl (.cons rfl (.nil _))))))) go
            | false =>
              have go := rest2 rfl rfl (.inr rfl)
              have hval := hval rfl rfl
              cbv
              rw [hn0]
              cbv
              refine GenH.need' G rfl (GenH.need' G rfl ?_)
              rw [hadd]
              refine GenH.need' G hin (GenH.need' G rfl (GenH.need' G rfl ?_))
              rw [hbyt, hval]
              refine GenH.need' G rfl ?_
              rw [hone]
              rw [← hL] at go ⊢
              exact LoopP.weak (env' := envNu s z y1 v2 false) (.cons rfl (.cons rfl (.cons rfl (.cons rfl (.cons rfl (.cons rfl (.nil _))))))) go
end Go.AM

namespace Go.AM
open Go.Proofs
set_option maxRecDepth 100000
set_option maxHeartbeats 1000000
set_option linter.unusedVariables false

def zeroTok : AV := .agg [.int .i64 0, .str [], .int .i64 0, .int .i64 0]

/-- The document's number. -/
def refNum (s d : List UInt8) (i j : Nat) : AV := match decide (9223372036854775808 ≤ numFold 0 d) with
  | true => .tup [zeroTok, .int .i64 0, .str sRange]
  | false => match decide (j < s.length) && isLetter (s.getD j 0) with
    | true => .tup [zeroTok, .int .i64 0, .str sSyntax]
    | false => .tup [.agg [.int .i64 1, .str [], .int .i64 (numFold 0 d), .int .i64 i], .int .i64 d.length, .str sDone]

theorem number_spec (s : List UInt8) (hs : s.length ≤ 1000000) (i : Nat) (z : Int) (hz : z = i) (hi : i ≤ s.length) (S : St) (K : Out → St → Prop) (hK : K (.ret (refNum s ((s.drop i).takeWhile isDigit) i (scan isDigit s i))) S) :
    CallP Tryd.prog (Lx.tab real) 19 [.str s, .int .i64 z] S K := by
  refine CallP.lift (K0 := fun o _ => o = .ret (refNum s ((s.drop i).takeWhile isDigit) i (scan isDigit s i))) rfl ?_ (by
    rintro o S0 rfl
    unfold refNum at hK ⊢
    generalize decide (9223372036854775808 ≤ numFold 0 ((s.drop i).takeWhile isDigit)) = d at *
    generalize (decide (scan isDigit s i < s.length) && isLetter (s.getD (scan isDigit s i) 0)) = e at *
    cases d <;> cases e <;> exact hK)
  apply body_calls (un := 0) Lx.tabOk Lx.mixed Lx.fn19 (Nat.le_of_ble_eq_true rfl)
  apply gen_body (mk := Lx.tab)
  intro fail need same call loop len slen arith shift cmp conv eqS ltS cat app elt byt subS subL strOf isB fit inb cut room not and eqB avs G
  obtain ⟨j, hj⟩ : ∃ j, scan isDigit s i = j := ⟨_, rfl⟩
  have hjb := scan_le isDigit s i hi
  obtain ⟨d, hd⟩ : ∃ d, (s.drop i).takeWhile isDigit = d := ⟨_, rfl⟩
  have hjd : j = i + d.length := by rw [← hj, ← hd]; rfl
  rw [hj] at hjb ⊢
  have hloop := fun K h => number_loop s hs i z hz ⟨[(0, [.int .i64 0, .str [], .int .i64 0, .int .i64 0])], 1, []⟩ K (s.length - i) 0 0 0 0 rfl (by omega) (by omega) (by omega) (fun _ => rfl) h
  rw [Nat.add_zero, hd] at hloop
  rw [hd]
  have hml : ∀ y : Int, y = ((0 : Nat) : Int) + d.length → arith BinOp.add IntKind.i64 z y = z + y ∧ cmp BinOp.lss (z + y) (slen s) = decide (j < s.length) ∧ (decide (j < s.length) = true → inb (z + y) (slen s) = true) := fun y hy => by
    refine ⟨?_, ?_, fun h => ?_⟩
    · rw [G.arith']; exact wrap_i64 _ (by omega) (by omega)
    · rw [G.cmp', G.slen']; simp only [intRel]; rw [Bool.eq_iff_iff]; simp only [decide_eq_true_eq]; omega
    · have := of_decide_eq_true h
      rw [G.inb', G.slen']; simp; omega
  have hL : ∀ y : Int, y = ((0 : Nat) : Int) + d.length → ∀ S K, K (.ret (.bool (isLetter (s.getD j 0)))) S → CallP Tryd.prog (Lx.tab real) 16 [.int .u8 (byt s (z + y))] S K := fun y hy S K h => by
    have : byt s (z + y) = ((s.getD j 0).toNat : Int) := by rw [G.byt']; simp only []; rw [show (z + y).toNat = j by omega]
    rw [this]; exact asks16 _ S K h
  have hconv : ∀ v : Int, (numFold 0 d < 9223372036854775808 → v = numFold 0 d) → numFold 0 d < 9223372036854775808 → conv IntKind.i64 v = numFold 0 d := fun v h h' => by
    rw [G.conv', h h']
    exact wrap_i64 _ (by omega) (by omega)
  obtain ⟨nv, hnv⟩ : ∃ nv : Int, nv = (numFold 0 d : Nat) := ⟨_, rfl⟩
  have hconv := fun v h h' => (hconv v h h').trans hnv.symm
  have h1 : decide (9223372036854775808 ≤ numFold 0 d) = true → ∀ S : St, (fun (o : Out) (_ : St) => o = .ret (refNum s d i j)) (.ret (.tup [.agg [.int .i64 0, .str [], .int .i64 0, .int .i64 0], .int .i64 0, .str sRange])) S := fun h S => by
    show _ = _
    unfold refNum; rw [h]; rfl
  have h2 : decide (9223372036854775808 ≤ numFold 0 d) = false → (decide (j < s.length) && isLetter (s.getD j 0)) = true → ∀ S : St, (fun (o : Out) (_ : St) => o = .ret (refNum s d i j)) (.ret (.tup [.agg [.int .i64 0, .str [], .int .i64 0, .int .i64 0], .int .i64 0, .str sSyntax])) S := fun h h' S => by
    show _ = _
    unfold refNum; rw [h, h']; rfl
  have h3 : decide (9223372036854775808 ≤ numFold 0 d) = false → (decide (j < s.length) && isLetter (s.getD j 0)) = false → ∀ y : Int, y = ((0 : Nat) : Int) + d.length → ∀ S : St, (fun (o : Out) (_ : St) => o = .ret (refNum s d i j)) (.ret (.tup [.agg [.int .i64 1, .str [], .int .i64 nv, .int .i64 z], .int .i64 y, .str sDone])) S := fun h h' y hy S => by
    show _ = _
    unfold refNum; rw [h, h', hz, hy, hnv]; simp
  have hsm : decide (9223372036854775808 ≤ numFold 0 d) = false → numFold 0 d < 9223372036854775808 := fun h => by have := of_decide_eq_false h; omega
  generalize (fun (o : Out) (_ : St) => o = .ret (refNum s d i j)) = K0 at *
  generalize hov : decide (9223372036854775808 ≤ numFold 0 d) = ov at *
  generalize hdj : decide (j < s.length) = dj at *
  generalize hlj : isLetter (s.getD j 0) = lj at *
  clear hnv hov hdj hlj
  generalize (((0 : Nat) : Int) + (d.length : Int)) = yw at *
  cbv
  refine GenH.loop' G ?_
  change LoopP Tryd.prog (Lx.tab real) 75 c19 _ _ _
  refine LoopP.relax (LoopP.weak (env' := envNu s z 0 0 false) (.cons rfl (.cons rfl (.cons rfl (.cons rfl (.cons rfl (.cons rfl (.nil _))))))) ?_)
  refine hloop _ fun y v hy hv hv0 hv1 => ?_
  obtain ⟨g1, g2, g3⟩ := hml y hy
  have hL := hL y hy
  have h3 := fun a b => h3 a b y hy
  have hc := fun h => hconv v hv (hsm h)
  generalize z + y = zy at *
  cases ov with
  | true => have h1 := h1 rfl; cbv; exact h1 _
  | false =>
    have h2 := h2 rfl
    have h3 := h3 rfl
    have hc := hc rfl
    cbv
    refine GenH.need' G rfl (GenH.need' G rfl ?_)
    rw [g1, g2]
    cases dj with
    | false =>
      have h3 := h3 rfl
      cbv
      rw [hc]
      exact h3 _
    | true =>
      have g3 := g3 rfl
      cbv
      refine GenH.need' G rfl ?_
      rw [g1]
      refine GenH.need' G g3 (GenH.call' G (hL _ _ ?_))
      cases lj with
      | true => have h2 := h2 rfl; cbv; exact h2 _
      | false =>
        have h3 := h3 rfl
        cbv
        rw [hc]
        exact h3 _
end Go.AM
