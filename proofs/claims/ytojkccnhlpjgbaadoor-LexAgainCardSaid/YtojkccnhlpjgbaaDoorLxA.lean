/- The contracts of the scanner, first part: blanks, words, the builder, texts. -/
import Derived.Test.YtojkccnhlpjgbaaDoorAmC
import Derived.Test.YtojkccnhlpjgbaaDoorChecked
import Derived.Test.YtojkccnhlpjgbaaDoorShelf
import Derived.Lib.Builder
import Derived.Lib.Walk
import Derived.Lib.UnsafeStr
import Derived.Shelf.Strings.Builder1
namespace Go.AM
open Go.Proofs
def Lx.tree : TyTree :=
 (.node 55 (.slice 5) 24
  (.node 26 .func 8
   (.node 13 (.struct [(0, 1), (1, 1)] [.s, .i .u64]) 24
    (.node 7 (.struct [(0, 1), (1, 1), (2, 1), (3, 1)] [.i .i64, .i .i64, .b, .i .u8]) 24
     (.node 4 .bool 1
      (.node 2 (.int .i64) 8
       (.node 1 .func 8 .leaf .leaf)
       (.node 3 (.int .i64) 8 .leaf .leaf))
      (.node 6 (.int .u8) 1
       (.node 5 (.int .u8) 1 .leaf .leaf)
       .leaf))
     (.node 10 .str 16
      (.node 9 .str 16
       (.node 8 (.struct [(0, 1), (1, 1), (2, 1), (3, 1)] [.i .i64, .i .i64, .b, .i .u8]) 24 .leaf .leaf)
       .leaf)
      (.node 12 (.int .u64) 8
       (.node 11 .str 16 .leaf .leaf)
       .leaf)))
    (.node 19 (.struct [(0, 1)] [.p]) 8
     (.node 16 .ptr 8
      (.node 15 .ptr 8
       (.node 14 (.struct [(0, 1), (1, 1)] [.s, .i .u64]) 24 .leaf .leaf)
       .leaf)
      (.node 18 (.struct [(0, 1)] [.p]) 8
       (.node 17 .ptr 8 .leaf .leaf)
       .leaf))
     (.node 22 (.slice 32) 24
      (.node 21 (.int .i32) 4
       (.node 20 .iface 16 .leaf .leaf)
       .leaf)
      (.node 25 .func 8
       (.node 23 .str 16 .leaf .leaf)
       .leaf))))
   (.node 40 .func 8
    (.node 33 .func 8
     (.node 30 (.int .i64) 8
      (.node 28 .func 8
       (.node 27 .func 8 .leaf .leaf)
       (.node 29 .func 8 .leaf .leaf))
      (.node 32 (.struct [(0, 1), (1, 1), (2, 1), (3, 1)] [.i .i64, .s, .i .i64, .i .i64]) 40
       (.node 31 (.struct [(0, 1), (1, 1), (2, 1), (3, 1)] [.i .i64, .s, .i .i64, .i .i64]) 40 .leaf .leaf)
       .leaf))
     (.node 36 (.struct [(0, 1), (1, 1)] [.s, .i .i64]) 24
      (.node 35 .ptr 8
       (.node 34 .func 8 .leaf .leaf)
       .leaf)
      (.node 39 .func 8
       (.node 37 (.struct [(0, 1), (1, 1)] [.s, .i .i64]) 24 .leaf .leaf)
       .leaf)))
    (.node 47 .func 8
     (.node 44 .func 8
      (.node 43 .func 8
       (.node 41 .func 8 .leaf .leaf)
       .leaf)
      (.node 46 .func 8
       (.node 45 .func 8 .leaf .leaf)
       .leaf))
     (.node 51 .func 8
      (.node 49 .iface 16
       (.node 48 .iface 16 .leaf .leaf)
       .leaf)
      (.node 54 (.array 16 9 [.s, .s, .s, .s, .s, .s, .s, .s, .s, .s, .s, .s, .s, .s, .s, .s]) 256
       (.node 53 .func 8 .leaf .leaf)
       .leaf)))))
  (.node 83 .func 8
   (.node 69 (.int .i64) 8
    (.node 62 (.struct [(0, 1), (1, 1)] [.p, .l]) 32
     (.node 59 .func 8
      (.node 57 (.slice 9) 24
       (.node 56 (.int .u64) 8 .leaf .leaf)
       (.node 58 .func 8 .leaf .leaf))
      (.node 61 (.struct [(0, 1), (1, 1)] [.p, .l]) 32
       (.node 60 .ptr 8 .leaf .leaf)
       .leaf))
     (.node 66 .func 8
      (.node 65 .func 8
       (.node 64 .func 8 .leaf .leaf)
       .leaf)
      (.node 68 .func 8
       (.node 67 .func 8 .leaf .leaf)
       .leaf)))
    (.node 76 .ptr 8
     (.node 73 .ptr 8
      (.node 72 (.int .u64) 8
       (.node 71 .func 8 .leaf .leaf)
       .leaf)
      (.node 75 .func 8
       (.node 74 .func 8 .leaf .leaf)
       .leaf))
     (.node 79 .func 8
      (.node 78 (.struct [(0, 1), (1, 1), (2, 1)] [.s, .s, .n]) 48
       (.node 77 (.struct [(0, 1), (1, 1), (2, 1)] [.s, .s, .n]) 48 .leaf .leaf)
       .leaf)
      (.node 82 .func 8
       (.node 80 .func 8 .leaf .leaf)
       .leaf))))
   (.node 100 .func 8
    (.node 92 .func 8
     (.node 87 (.int .u32) 4
      (.node 85 (.struct [(0, 1)] [.s]) 16
       (.node 84 .ptr 8 .leaf .leaf)
       (.node 86 (.struct [(0, 1)] [.s]) 16 .leaf .leaf))
      (.node 90 .func 8
       (.node 89 .func 8 .leaf .leaf)
       .leaf))
     (.node 96 .func 8
      (.node 95 .func 8
       (.node 93 .func 8 .leaf .leaf)
       .leaf)
      (.node 99 .func 8
       (.node 97 (.array 20 56 [.i .u64, .i .u64, .i .u64, .i .u64, .i .u64, .i .u64, .i .u64, .i .u64, .i .u64, .i .u64, .i .u64, .i .u64, .i .u64, .i .u64, .i .u64, .i .u64, .i .u64, .i .u64, .i .u64, .i .u64]) 160 .leaf .leaf)
       .leaf)))
    (.node 110 (.int .u8) 1
     (.node 105 (.struct [(0, 1), (1, 1), (2, 1), (3, 1)] [.p, .p, .p, .s]) 40
      (.node 104 (.struct [(0, 1), (1, 1), (2, 1), (3, 1)] [.p, .p, .p, .s]) 40
       (.node 101 .func 8 .leaf .leaf)
       .leaf)
      (.node 109 (.int .u8) 1
       (.node 106 (.array 0 16 []) 0 .leaf .leaf)
       .leaf))
     (.node 113 (.int .i32) 4
      (.node 112 (.int .i32) 4
       (.node 111 .func 8 .leaf .leaf)
       .leaf)
      (.node 115 (.struct [(0, 1), (1, 1), (2, 1), (3, 1), (4, 1), (5, 1), (6, 1), (7, 1), (8, 1), (9, 1), (10, 1)] [.i .u64, .i .u64, .i .u32, .i .u8, .i .u8, .i .u8, .i .u8, .f, .p, .i .i32, .i .i32]) 48
       (.node 114 (.struct [(0, 1), (1, 1), (2, 1), (3, 1), (4, 1), (5, 1), (6, 1), (7, 1), (8, 1), (9, 1), (10, 1)] [.i .u64, .i .u64, .i .u32, .i .u8, .i .u8, .i .u8, .i .u8, .f, .p, .i .i32, .i .i32]) 48 .leaf .leaf)
       .leaf))))))
def a3 : List (Nat × Ann) := []
def a4 : List (Nat × Ann) := [(19, ⟨[0, 1, 2, 3, 4, 5], []⟩)]
def a5 : List (Nat × Ann) := [(20, ⟨[0, 1, 2, 3, 4, 5, 6, 7, 8, 9, 10, 11, 12, 13, 15, 16, 17, 18, 14, 19, 20], [(14, [16])]⟩), (26, ⟨[0, 1, 2, 3, 4, 5, 6], [(3, [1])]⟩)]
def a6 : List (Nat × Ann) := [(16, ⟨[0, 1, 2, 3, 4, 5], []⟩)]
def a7 : List (Nat × Ann) := []
def a8 : List (Nat × Ann) := []
def a9 : List (Nat × Ann) := [(6, ⟨[0, 1, 2, 3, 4, 5, 6, 7, 8], []⟩)]
def a10 : List (Nat × Ann) := []
def a11 : List (Nat × Ann) := []
def a12 : List (Nat × Ann) := []
def a13 : List (Nat × Ann) := [(1, ⟨[0, 1, 2, 3, 4, 5, 6, 7, 8, 9, 10], []⟩)]
def a14 : List (Nat × Ann) := [(2, ⟨[0, 1, 2, 3, 4, 5, 6, 7, 8, 9], []⟩), (22, ⟨[0, 1, 2, 3, 4, 5, 6, 7, 8, 9, 10, 11, 12, 13, 14, 15, 16, 17, 18, 19, 20, 21, 22], []⟩), (7, ⟨[0, 1, 2, 3, 4, 5, 6, 7, 8, 9, 10], []⟩)]
def a15 : List (Nat × Ann) := []
def a16 : List (Nat × Ann) := []
def a17 : List (Nat × Ann) := []
def a18 : List (Nat × Ann) := []
def a19 : List (Nat × Ann) := []
def a20 : List (Nat × Ann) := []
def a21 : List (Nat × Ann) := [(6, ⟨[0, 1, 2, 3, 4, 5, 6, 7, 8, 9, 10, 11, 12, 13, 14, 15, 16, 17, 18], []⟩)]
def a22 : List (Nat × Ann) := []
def a23 : List (Nat × Ann) := []
def a24 : List (Nat × Ann) := [(2, ⟨[0, 1, 2, 3, 4, 5, 6, 7, 8, 9, 10, 11, 12, 13, 14, 15, 16, 17, 18, 19, 20, 21, 22], []⟩), (4, ⟨[0, 1, 2, 3, 4, 5, 6, 7, 8, 9, 10], []⟩)]
def a25 : List (Nat × Ann) := []
def a26 : List (Nat × Ann) := []
def a27 : List (Nat × Ann) := []
def a28 : List (Nat × Ann) := []
def a29 : List (Nat × Ann) := []
def a30 : List (Nat × Ann) := []
def a31 : List (Nat × Ann) := []
def a32 : List (Nat × Ann) := []
def a33 : List (Nat × Ann) := []
def a34 : List (Nat × Ann) := [(11, ⟨[0, 1, 2, 3, 4, 5, 6, 7, 8, 9], []⟩), (14, ⟨[0, 1, 2, 3, 4, 5, 6, 7, 8, 9, 10, 11, 12, 13, 14, 15, 16, 17, 18, 19, 20, 21], []⟩)]
def a35 : List (Nat × Ann) := []
def a36 : List (Nat × Ann) := []
def a37 : List (Nat × Ann) := []
def a38 : List (Nat × Ann) := []
def a39 : List (Nat × Ann) := []
def a40 : List (Nat × Ann) := []
def a41 : List (Nat × Ann) := []
def a42 : List (Nat × Ann) := []
def a43 : List (Nat × Ann) := []
def a44 : List (Nat × Ann) := []
def a45 : List (Nat × Ann) := [(1, ⟨[0, 1, 2, 3, 5, 6, 7, 8, 9, 4, 10, 11], [(4, [8])]⟩)]
def a46 : List (Nat × Ann) := []
def a48 : List (Nat × Ann) := []
def a49 : List (Nat × Ann) := [(1, ⟨[0, 1, 3, 2, 4, 5, 6], [(2, [3])]⟩)]
def a50 : List (Nat × Ann) := [(1, ⟨[0, 1, 3, 2, 4, 5, 6], [(2, [3])]⟩)]
def a53 : List (Nat × Ann) := []

def Lx.treeF (_ : Unit) : TyTree := Lx.tree
def Lx.signs : List (List UInt8) := [[60, 61], [62, 61], [60, 62], [124, 124], [40], [41], [44], [46], [59], [61], [60], [62], [43], [45], [42], [47]]
/-- What is known of the variables: the signs; some number; some error. -/
def Lx.glob : Nat → Option (TypeId × AV)
  | 0 => some (54, .agg [.str [60, 61], .str [62, 61], .str [60, 62], .str [124, 124], .str [40], .str [41], .str [44], .str [46], .str [59], .str [61], .str [60], .str [62], .str [43], .str [45], .str [42], .str [47]])
  | 1 => some (3, .anyInt .i64)
  | 3 => some (49, .iface 84 .undef)
  | _ => none
def Lx.tab (X : Sg) : Tab := { X := X, tree := Lx.treeF, eqs := [32], glob := Lx.glob }
set_option maxRecDepth 100000
theorem Lx.treeOk : treeOk Tryd.prog Lx.tree = true := by kernel_rfl
theorem Lx.eqs : eqsOk Tryd.prog (Lx.tab real) = true := by kernel_rfl
theorem Lx.tabOk : TabOk Tryd.prog (Lx.tab real) := ⟨Lx.treeOk, rfl, eqsOk_of Lx.eqs⟩
theorem Lx.mixed : Tryd.prog.follows .mixedOrders = true := by kernel_rfl
theorem Lx.fn24 : FnOk Tryd.prog 24 (fni Tryd.f24 a24) := ⟨⟨Tryd.f24, Tryd.func24, rfl, rfl, rfl, by kernel_rfl⟩, by kernel_rfl⟩
noncomputable def c24 : Code := (fni Tryd.f24 a24).loop 0
theorem Lx.c24 : codeOk 50 a24 c24 = true := by kernel_rfl
end Go.AM

namespace Go.AM
open Go.Proofs
set_option maxRecDepth 100000
noncomputable def Lx.fns : FuncId → Option FnI
  | 29 => some (fni Tryd.f29 a29)
  | 32 => some (fni Tryd.f32 a32)
  | 16 => some (fni Tryd.f16 a16)
  | 17 => some (fni Tryd.f17 a17)
  | _ => none
theorem Lx.fn29 : FnOk Tryd.prog 29 (fni Tryd.f29 a29) := ⟨⟨Tryd.f29, Tryd.func29, rfl, rfl, rfl, by kernel_rfl⟩, by kernel_rfl⟩
theorem Lx.fn32 : FnOk Tryd.prog 32 (fni Tryd.f32 a32) := ⟨⟨Tryd.f32, Tryd.func32, rfl, rfl, rfl, by kernel_rfl⟩, by kernel_rfl⟩
theorem Lx.fn16 : FnOk Tryd.prog 16 (fni Tryd.f16 a16) := ⟨⟨Tryd.f16, Tryd.func16, rfl, rfl, rfl, by kernel_rfl⟩, by kernel_rfl⟩
theorem Lx.fn17 : FnOk Tryd.prog 17 (fni Tryd.f17 a17) := ⟨⟨Tryd.f17, Tryd.func17, rfl, rfl, rfl, by kernel_rfl⟩, by kernel_rfl⟩
theorem Lx.fn28 : FnOk Tryd.prog 28 (fni Tryd.f28 a28) := ⟨⟨Tryd.f28, Tryd.func28, rfl, rfl, rfl, by kernel_rfl⟩, by kernel_rfl⟩
theorem Lx.fn31 : FnOk Tryd.prog 31 (fni Tryd.f31 a31) := ⟨⟨Tryd.f31, Tryd.func31, rfl, rfl, rfl, by kernel_rfl⟩, by kernel_rfl⟩
theorem Lx.fn41 : FnOk Tryd.prog 41 (fni Tryd.f41 a41) := ⟨⟨Tryd.f41, Tryd.func41, rfl, rfl, rfl, by kernel_rfl⟩, by kernel_rfl⟩
theorem Lx.fnsOk : ∀ f fi, Lx.fns f = some fi → FnOk Tryd.prog f fi := by
  intro f fi h
  unfold Lx.fns at h
  split at h
  · cases h; exact Lx.fn29
  · cases h; exact Lx.fn32
  · cases h; exact Lx.fn16
  · cases h; exact Lx.fn17
  · cases h

def isLetter (b : UInt8) : Bool := (97 ≤ b && b ≤ 122) || (65 ≤ b && b ≤ 90) || b == 95
def isDigit (b : UInt8) : Bool := 48 ≤ b && b ≤ 57

theorem run28 : byteRun (Lx.tab real) Lx.fns (fni Tryd.f28 a28) (fun b => b != 10) = true := by kernel_rfl
theorem run29 : byteRun (Lx.tab real) Lx.fns (fni Tryd.f29 a29) isLetter = true := by kernel_rfl
theorem run32 : byteRun (Lx.tab real) Lx.fns (fni Tryd.f32 a32) isDigit = true := by kernel_rfl
theorem run16 : byteRun (Lx.tab real) Lx.fns (fni Tryd.f16 a16) isLetter = true := by kernel_rfl
theorem run17 : byteRun (Lx.tab real) Lx.fns (fni Tryd.f17 a17) isDigit = true := by kernel_rfl
theorem run31 : byteRun (Lx.tab real) Lx.fns (fni Tryd.f31 a31) (fun b => isLetter b || isDigit b) = true := by kernel_rfl
theorem run41 : byteRun (Lx.tab real) Lx.fns (fni Tryd.f41 a41) (fun b => b != 39) = true := by kernel_rfl

theorem asks28 : Asks Tryd.prog (Lx.tab real) 28 (fun b => b != 10) := asks_of_run Lx.tabOk Lx.mixed Lx.fnsOk Lx.fn28 (by decide) run28
theorem asks29 : Asks Tryd.prog (Lx.tab real) 29 isLetter := asks_of_run Lx.tabOk Lx.mixed Lx.fnsOk Lx.fn29 (by decide) run29
theorem asks32 : Asks Tryd.prog (Lx.tab real) 32 isDigit := asks_of_run Lx.tabOk Lx.mixed Lx.fnsOk Lx.fn32 (by decide) run32
theorem asks16 : Asks Tryd.prog (Lx.tab real) 16 isLetter := asks_of_run Lx.tabOk Lx.mixed Lx.fnsOk Lx.fn16 (by decide) run16
theorem asks17 : Asks Tryd.prog (Lx.tab real) 17 isDigit := asks_of_run Lx.tabOk Lx.mixed Lx.fnsOk Lx.fn17 (by decide) run17
theorem asks31 : Asks Tryd.prog (Lx.tab real) 31 (fun b => isLetter b || isDigit b) := asks_of_run Lx.tabOk Lx.mixed Lx.fnsOk Lx.fn31 (by decide) run31
theorem asks41 : Asks Tryd.prog (Lx.tab real) 41 (fun b => b != 39) := asks_of_run Lx.tabOk Lx.mixed Lx.fnsOk Lx.fn41 (by decide) run41
end Go.AM

namespace Go.AM
open Go.Proofs
set_option maxRecDepth 10000
set_option linter.unusedVariables false
def S1 (s : List UInt8) (i : Int) : St := ⟨[(0, [.str s, .int .i64 i])], 1, []⟩
theorem step24 (K : Ex → Env → St → Prop) (env : Env) (S : St) (h : xcode (pAlg Tryd.prog (Lx.tab real) 50) (Lx.tab real) a24 0 c24 (andThen (LoopP Tryd.prog (Lx.tab real) 50 c24 K) K) env S) : LoopP Tryd.prog (Lx.tab real) 50 c24 K env S :=
  loopP_step Lx.tabOk Lx.mixed Lx.c24 h

def scan (q : UInt8 → Bool) (s : List UInt8) (i : Nat) : Nat := i + ((s.drop i).takeWhile q).length

def envW (fid : FuncId) (j : Int) : Env := [(0, .ptr 0 0), (1, .func fid [] []), (5, .int .i64 j)]

theorem wrap_i64 (n : Int) (h1 : -9223372036854775808 ≤ n) (h2 : n < 9223372036854775808) : IntKind.i64.wrap n = n := by
  rw [IntKind.wrap_i64]; omega

theorem while_loop (fid : FuncId) (q : UInt8 → Bool) (hq : Asks Tryd.prog (Lx.tab real) fid q) (s : List UInt8) (hs : s.length ≤ 1000000000000) (j : Int) (K : Ex → Env → St → Prop) (n : Nat) :
    ∀ (i : Nat) (z : Int), z = i → i + n = s.length → (∀ y : Int, y = scan q s i → K (.exit 0) (envW fid j) (S1 s y)) → LoopP Tryd.prog (Lx.tab real) 50 c24 (Less K) (envW fid j) (S1 s z) := by
  induction n with
  | zero =>
    intro i z hz hi hK
    apply step24
    apply gen_code (mk := Lx.tab)
    intro fail need same call loop len slen arith shift cmp conv eqS ltS cat app elt byt subS subL strOf isB fit inb cut room not and eqB avs G
    have hb : cmp BinOp.lss z (slen s) = false := by
      rw [G.cmp', G.slen', hz]; simp [intRel]; omega
    generalize LoopP Tryd.prog (Lx.tab real) 50 c24 (Less K) = L at *
    generalize hK' : Less K = K' at *
    cbv
    refine GenH.need' G rfl ?_
    rw [hb]
    cbv
    rw [← hK']
    refine ⟨envW fid j, ?_, ?_⟩
    · exact .cons rfl (.cons rfl (.cons rfl (.nil _)))
    · have : scan q s i = i := by simp [scan, List.drop_eq_nil_of_le (show s.length ≤ i by omega)]
      exact hK z (by rw [this]; exact hz)
  | succ n ih =>
    intro i z hz hi hK
    apply step24
    apply gen_code (mk := Lx.tab)
    intro fail need same call loop len slen arith shift cmp conv eqS ltS cat app elt byt subS subL strOf isB fit inb cut room not and eqB avs G
    have hb : cmp BinOp.lss z (slen s) = true := by
      rw [G.cmp', G.slen', hz]; simp [intRel]; omega
    have hin : inb z (slen s) = true := by
      rw [G.inb', G.slen', hz]; simp; omega
    have hlt : i < s.length := by omega
    have hbyt : byt s z = (s[i].toNat : Int) := by
      rw [G.byt', hz]; simp [List.getD_eq_getElem?_getD, hlt]
    have hnext : arith BinOp.add IntKind.i64 z 1 = ((i + 1 : Nat) : Int) := by
      rw [G.arith']
      rw [hz]
      exact wrap_i64 _ (by omega) (by omega)
    generalize hL : LoopP Tryd.prog (Lx.tab real) 50 c24 (Less K) = L at *
    generalize hK' : Less K = K' at *
    cbv
    refine GenH.need' G rfl ?_
    rw [hb]
    cbv
    refine GenH.need' G hin (GenH.call' G ?_)
    rw [hbyt]
    refine hq s[i] _ _ ?_
    have hdrop : s.drop i = s[i] :: s.drop (i + 1) := List.drop_eq_getElem_cons hlt
    cases hqv : q s[i] with
    | false =>
      cbv
      rw [← hK']
      refine ⟨envW fid j, ?_, ?_⟩
      · exact .cons rfl (.cons rfl (.cons rfl (.nil _)))
      · have : scan q s i = i := by unfold scan; rw [hdrop, List.takeWhile_cons, hqv]; simp
        exact hK z (by rw [this]; exact hz)
    | true =>
      cbv
      refine GenH.need' G rfl ?_
      rw [hnext, ← hL]
      have hsc : scan q s (i + 1) = scan q s i := by
        unfold scan; rw [hdrop, List.takeWhile_cons, hqv]; simp; omega
      have := ih (i + 1) ((i + 1 : Nat) : Int) rfl (by omega) (fun y hy => hK y (by rw [hy, hsc]))
      rw [← hL] at this
      exact LoopP.weak (.cons rfl (.cons rfl (.cons rfl (.nil _)))) this

theorem while_spec (fid : FuncId) (q : UInt8 → Bool) (hq : Asks Tryd.prog (Lx.tab real) fid q) (s : List UInt8) (hs : s.length ≤ 1000000000000) (i : Nat) (z : Int) (hz : z = i) (hi : i ≤ s.length) (K : Out → St → Prop)
    (hK : ∀ y : Int, y = scan q s i → K (.ret (.str ((s.drop i).takeWhile q))) (S1 s y)) : CallP Tryd.prog (Lx.tab real) 24 [.ptr 0 0, .func fid [] []] (S1 s z) K := by
  apply body_calls (un := 0) Lx.tabOk Lx.mixed Lx.fn24 (Nat.le_of_ble_eq_true rfl)
  apply gen_body (mk := Lx.tab)
  intro fail need same call loop len slen arith shift cmp conv eqS ltS cat app elt byt subS subL strOf isB fit inb cut room not and eqB avs G
  have hsl : ∀ y : Int, y = scan q s i → subS s z y = (s.drop i).takeWhile q := by
    intro y hy
    rw [G.subS', hy, hz]
    unfold scan
    simp only [Int.toNat_natCast]
    rw [show ((i + ((s.drop i).takeWhile q).length : Nat) : Int) - (i : Int) = (((s.drop i).takeWhile q).length : Int) by omega, Int.toNat_natCast]
    exact (List.prefix_iff_eq_take.1 (List.takeWhile_prefix q)).symm
  have hcut : ∀ y : Int, y = scan q s i → cut z y (slen s) = true := by
    intro y hy
    rw [G.cut', G.slen', hy, hz]
    have : ((s.drop i).takeWhile q).length ≤ (s.drop i).length := (List.takeWhile_prefix q).length_le
    simp [scan] at this ⊢
    omega
  cbv
  refine GenH.loop' G ?_
  change LoopP Tryd.prog (Lx.tab real) 50 c24 _ _ _
  refine LoopP.relax (LoopP.weak (env' := envW fid z) (.cons rfl (.cons rfl (.cons rfl (.nil _)))) ?_)
  refine while_loop fid q hq s hs z _ (s.length - i) i z hz (by omega) ?_
  intro y hy
  have h1 := hsl y hy
  have h2 := hcut y hy
  have h3 := hK y hy
  cbv
  refine GenH.need' G h2 ?_
  rw [h1]
  exact h3

/-- 'while', of a scanner among any objects. -/
theorem while_at (fid : FuncId) (q : UInt8 → Bool) (hq : Asks Tryd.prog (Lx.tab real) fid q) (s : List UInt8) (hs : s.length ≤ 1000000000000) (i : Nat) (z : Int) (hz : z = i) (hi : i ≤ s.length) (S : St) (o : Nat) (ho : o < S.next)
    (hrow : S.row o = [.str s, .int .i64 z]) (K : Out → St → Prop) (hK : ∀ y : Int, y = scan q s i → K (.ret (.str ((s.drop i).takeWhile q))) (S.set o [.str s, .int .i64 y])) :
    CallP Tryd.prog (Lx.tab real) 24 [.ptr o 0, .func fid [] []] S K := by
  have hptr : one o 0 o = some 0 := one_iff.2 ⟨rfl, rfl⟩
  refine frame1 (K0 := fun out S' => ∃ y : Int, y = scan q s i ∧ out = .ret (.str ((s.drop i).takeWhile q)) ∧ S' = S1 s y) ho (by rw [hrow]; simp) ?_ ?_
  · rw [hrow]
    simp only [renL, AV.ren, hptr]
    exact while_spec fid q hq s hs i z hz hi _ fun y hy => ⟨y, hy, rfl, rfl⟩
  · rintro out S' ⟨y, hy, rfl, rfl⟩
    exact ⟨Nat.le_refl _, hK y hy⟩
end Go.AM

namespace Go.AM
open Go.Proofs
set_option maxRecDepth 100000
set_option linter.unusedVariables false

theorem args2 {T : Tab} {w : World} {g : Ghost} {a b : AV} {vs : List Value} (h : ArgsRel T w g [a, b] vs) : ∃ x y, vs = [x, y] ∧ Rep T w g a x ∧ Rep T w g b y := by
  obtain ⟨hl, hR⟩ := h
  match vs, hl with
  | [x, y], _ => exact ⟨x, y, rfl, by simpa [nth] using hR 0 (by simp), by simpa [nth] using hR 1 (by simp)⟩

theorem enters_of {P : Program} {f : FuncId} {fn : Func} (hf : P.funcs[f]? = some fn) (hb : fn.body.isNone = false) (hn : (fn.name == "runtime.NumGoroutine") = false) : Enters P f := by
  intro args w
  have hn' : ¬ fn.name = "runtime.NumGoroutine" := by simpa using hn
  cases hc : fn.body with
  | none => rw [hc] at hb; cases hb
  | some c => simp [callFunc, hf, hn', hc]

theorem Lx.enters26 : Enters Tryd.prog 26 := enters_of Tryd.func26 (by kernel_rfl) (by kernel_rfl)

theorem indexByte_spec (s : List UInt8) (b : UInt8) (S : St) (K : Out → St → Prop) (hK : K (.ret (.int .i64 (Lib.indexByte s b))) S) : CallP Tryd.prog (Lx.tab real) 26 [.str s, .int .u8 b.toNat] S K := by
  refine callP_grow (v := .int .i64 (Lib.indexByte s b)) hK fun g w vs r ha => .inl ⟨Lx.enters26, ?_⟩
  obtain ⟨x, y, rfl, hx, hy⟩ := args2 ha
  cases hx
  cases hy
  refine Calls.mono (Tryd.strings_IndexByte _ _ _) ?_
  rintro e w' ⟨rfl, rfl⟩
  refine ⟨_, g, rfl, .refl _ _, ?_⟩
  have : ((b.toNat : Int).toNat).toUInt8 = b := by simp
  rw [this]
  exact .int ..

def isBlank (b : UInt8) : Bool := b == 9 || b == 10 || b == 13 || b == 32

theorem blank_eq (b : UInt8) : decide (Lib.indexByte [9, 10, 13, 32] b ≥ 0) = isBlank b := by
  unfold isBlank
  simp only [Lib.indexByte]
  by_cases h1 : b = 9
  · subst h1; decide
  · by_cases h2 : b = 10
    · subst h2; decide
    · by_cases h3 : b = 13
      · subst h3; decide
      · by_cases h4 : b = 32
        · subst h4; decide
        · have e1 : (9 == b) = false := by simpa using Ne.symm h1
          have e2 : (10 == b) = false := by simpa using Ne.symm h2
          have e3 : (13 == b) = false := by simpa using Ne.symm h3
          have e4 : (32 == b) = false := by simpa using Ne.symm h4
          simp [e1, e2, e3, e4, h1, h2, h3, h4]

theorem Lx.fn25 : FnOk Tryd.prog 25 (fni Tryd.f25 a25) := ⟨⟨Tryd.f25, Tryd.func25, rfl, rfl, rfl, by kernel_rfl⟩, by kernel_rfl⟩

theorem asks25 : Asks Tryd.prog (Lx.tab real) 25 isBlank := by
  intro b S K hK
  refine CallP.lift (K0 := fun o _ => o = .ret (.bool (isBlank b))) rfl ?_ (by rintro o S0 rfl; exact hK)
  generalize hz : (b.toNat : Int) = z
  apply body_calls (un := 0) Lx.tabOk Lx.mixed Lx.fn25 (Nat.le_of_ble_eq_true rfl)
  apply gen_body (mk := Lx.tab)
  intro fail need same call loop len slen arith shift cmp conv eqS ltS cat app elt byt subS subL strOf isB fit inb cut room not and eqB avs G
  generalize hK' : (fun (o : Out) (_ : St) => o = .ret (.bool (isBlank b))) = K'
  cbv
  refine GenH.call' G ?_
  rw [← hz]
  refine indexByte_spec _ b _ _ ?_
  generalize hy : Lib.indexByte [9, 10, 13, 32] b = y
  have hc : cmp BinOp.geq y 0 = isBlank b := by rw [G.cmp', ← blank_eq, hy]; rfl
  cbv
  refine GenH.need' G rfl ?_
  rw [hc, ← hK']
  rfl
end Go.AM

namespace Go.AM
open Go.Proofs
set_option maxRecDepth 100000
set_option linter.unusedVariables false
theorem Lx.fn38 : FnOk Tryd.prog 38 (fni Tryd.f38 a38) := ⟨⟨Tryd.f38, Tryd.func38, rfl, rfl, rfl, by kernel_rfl⟩, by kernel_rfl⟩
theorem Lx.fn27 : FnOk Tryd.prog 27 (fni Tryd.f27 a27) := ⟨⟨Tryd.f27, Tryd.func27, rfl, rfl, rfl, by kernel_rfl⟩, by kernel_rfl⟩

theorem prefix_eq (s p : List UInt8) : p.isPrefixOf s = (s.take p.length == p) := by
  rw [Bool.eq_iff_iff]
  simp only [List.isPrefixOf_iff_prefix, beq_iff_eq]
  exact ⟨fun h => (List.prefix_iff_eq_take.1 h).symm, fun h => List.prefix_iff_eq_take.2 h.symm⟩

theorem hasPrefix38 (s p : List UInt8) (S : St) (K : Out → St → Prop) (hK : K (.ret (.bool (p.isPrefixOf s))) S) : CallP Tryd.prog (Lx.tab real) 38 [.str s, .str p] S K := by
  refine CallP.lift (K0 := fun o _ => o = .ret (.bool (p.isPrefixOf s))) rfl ?_ (by rintro o S0 rfl; exact hK)
  apply body_calls (un := 0) Lx.tabOk Lx.mixed Lx.fn38 (Nat.le_of_ble_eq_true rfl)
  apply gen_body (mk := Lx.tab)
  intro fail need same call loop len slen arith shift cmp conv eqS ltS cat app elt byt subS subL strOf isB fit inb cut room not and eqB avs G
  generalize hK' : (fun (o : Out) (_ : St) => o = .ret (.bool (p.isPrefixOf s))) = K'
  have hsub : eqS (subS s 0 (slen p)) p = p.isPrefixOf s := by
    rw [G.eqS', G.subS', G.slen', prefix_eq]; simp
  cbv
  refine GenH.need' G rfl ?_
  cases hb : cmp BinOp.geq (slen s) (slen p) with
  | false =>
    cbv
    rw [← hK']
    have hlt : s.length < p.length := by
      rw [G.cmp', G.slen'] at hb; simp [intRel] at hb; omega
    have : p.isPrefixOf s = false := by
      rw [prefix_eq]
      simp only [beq_eq_false_iff_ne]
      intro e
      have := congrArg List.length e
      simp at this; omega
    rw [this]
    rfl
  | true =>
    have hle : p.length ≤ s.length := by
      rw [G.cmp', G.slen'] at hb; simp [intRel] at hb; omega
    have hcut : cut 0 (slen p) (slen s) = true := by rw [G.cut', G.slen']; simp; omega
    cbv
    refine GenH.need' G hcut ?_
    rw [hsub, ← hK']
    rfl

theorem hasPrefix_spec (s p : List UInt8) (S : St) (K : Out → St → Prop) (hK : K (.ret (.bool (p.isPrefixOf s))) S) : CallP Tryd.prog (Lx.tab real) 27 [.str s, .str p] S K := by
  refine CallP.lift (K0 := fun o _ => o = .ret (.bool (p.isPrefixOf s))) rfl ?_ (by rintro o S0 rfl; exact hK)
  apply body_calls (un := 0) Lx.tabOk Lx.mixed Lx.fn27 (Nat.le_of_ble_eq_true rfl)
  apply gen_body (mk := Lx.tab)
  intro fail need same call loop len slen arith shift cmp conv eqS ltS cat app elt byt subS subL strOf isB fit inb cut room not and eqB avs G
  generalize hK' : (fun (o : Out) (_ : St) => o = .ret (.bool (p.isPrefixOf s))) = K'
  cbv
  refine GenH.call' G (hasPrefix38 s p _ _ ?_)
  generalize hr : p.isPrefixOf s = r at hK'
  cbv
  rw [← hK']
  rfl
end Go.AM

namespace Go.AM
open Go.Proofs
set_option maxRecDepth 100000
set_option linter.unusedVariables false
theorem Lx.fn13 : FnOk Tryd.prog 13 (fni Tryd.f13 a13) := ⟨⟨Tryd.f13, Tryd.func13, rfl, rfl, rfl, by kernel_rfl⟩, by kernel_rfl⟩
noncomputable def c13 : Code := (fni Tryd.f13 a13).loop 0
theorem Lx.c13 : codeOk 17 a13 c13 = true := by kernel_rfl
theorem step13 (K : Ex → Env → St → Prop) (env : Env) (S : St) (h : xcode (pAlg Tryd.prog (Lx.tab real) 17) (Lx.tab real) a13 0 c13 (andThen (LoopP Tryd.prog (Lx.tab real) 17 c13 K) K) env S) : LoopP Tryd.prog (Lx.tab real) 17 c13 K env S :=
  loopP_step Lx.tabOk Lx.mixed Lx.c13 h

theorem scan_le (q : UInt8 → Bool) (s : List UInt8) (i : Nat) (hi : i ≤ s.length) : i ≤ scan q s i ∧ scan q s i ≤ s.length := by
  have : ((s.drop i).takeWhile q).length ≤ (s.drop i).length := (List.takeWhile_prefix q).length_le
  simp at this
  unfold scan
  omega

def notEnd (b : UInt8) : Bool := b != 10

/-- Where blanks and comments end. -/
def skipN (s : List UInt8) : Nat → Nat → Nat
  | 0, i => i
  | n + 1, i => match [45, 45].isPrefixOf (s.drop (scan isBlank s i)) with
    | true => skipN s n (scan notEnd s (scan isBlank s i))
    | false => scan isBlank s i

theorem comment_on (s : List UInt8) (i : Nat) (h : [45, 45].isPrefixOf (s.drop i) = true) : i + 2 ≤ scan notEnd s i := by
  have hp : [45, 45] <+: s.drop i := List.isPrefixOf_iff_prefix.1 h
  obtain ⟨t, ht⟩ := hp
  unfold scan
  rw [← ht]
  have : List.takeWhile notEnd ([45, 45] ++ t) = 45 :: 45 :: List.takeWhile notEnd t := by
    simp [List.takeWhile_cons, notEnd]
  rw [this]
  simp

theorem skip_loop (s : List UInt8) (hs : s.length ≤ 1000000000000) (K : Ex → Env → St → Prop) (n : Nat) :
    ∀ (i : Nat) (z : Int), z = i → i ≤ s.length → s.length - i < n → (∀ y : Int, y = skipN s n i → K .ret [(0, .ptr 0 0)] (S1 s y)) → LoopP Tryd.prog (Lx.tab real) 17 c13 (Less K) [(0, .ptr 0 0)] (S1 s z) := by
  induction n with
  | zero => intro i z hz hi hn; omega
  | succ n ih =>
    intro i z hz hi hn hK
    apply step13
    apply gen_code (mk := Lx.tab)
    intro fail need same call loop len slen arith shift cmp conv eqS ltS cat app elt byt subS subL strOf isB fit inb cut room not and eqB avs G
    generalize hL : LoopP Tryd.prog (Lx.tab real) 17 c13 (Less K) = L at *
    generalize hK' : Less K = K' at *
    cbv
    refine GenH.call' G (while_spec 25 isBlank asks25 s hs i z hz hi _ fun y hy => ?_)
    obtain ⟨j, hj⟩ : ∃ j, scan isBlank s i = j := ⟨_, rfl⟩
    have hb := scan_le isBlank s i hi
    rw [hj] at hb hy
    have hcut : cut y (slen s) (slen s) = true := by rw [G.cut', G.slen', hy]; simp; omega
    have hsub : subS s y (slen s) = s.drop j := by
      rw [G.subS', G.slen', hy]
      simp only [Int.toNat_natCast]
      rw [List.take_of_length_le]
      simp
    cbv
    refine GenH.need' G hcut (GenH.call' G ?_)
    rw [hsub]
    refine hasPrefix_spec _ _ _ _ ?_
    cases hp : [45, 45].isPrefixOf (s.drop j) with
    | false =>
      have hnot : not false = true := by rw [G.not']; rfl
      cbv
      rw [hnot]
      cbv
      rw [← hK']
      refine ⟨[(0, .ptr 0 0)], .cons rfl (.nil _), hK y ?_⟩
      rw [hy]
      simp only [skipN, hj, hp]
    | true =>
      have hnot : not true = false := by rw [G.not']; rfl
      cbv
      rw [hnot]
      cbv
      refine GenH.call' G (while_spec 28 notEnd asks28 s hs j y hy hb.2 _ fun x hx => ?_)
      have h1 := comment_on s j hp
      have h2 := scan_le notEnd s j hb.2
      cbv
      have := ih (scan notEnd s j) x hx h2.2 (by omega) (fun v hv => hK v (by rw [hv]; simp only [skipN, hj, hp]))
      rw [← hL] at this ⊢
      exact LoopP.weak (.cons rfl (.nil _)) this

theorem skip_spec (s : List UInt8) (hs : s.length ≤ 1000000000000) (i : Nat) (z : Int) (hz : z = i) (hi : i ≤ s.length) (K : Out → St → Prop)
    (hK : ∀ y : Int, y = skipN s (s.length + 1) i → K (.ret (.tup [])) (S1 s y)) : CallP Tryd.prog (Lx.tab real) 13 [.ptr 0 0] (S1 s z) K := by
  apply body_calls (un := 0) Lx.tabOk Lx.mixed Lx.fn13 (Nat.le_of_ble_eq_true rfl)
  apply gen_body (mk := Lx.tab)
  intro fail need same call loop len slen arith shift cmp conv eqS ltS cat app elt byt subS subL strOf isB fit inb cut room not and eqB avs G
  cbv
  refine GenH.loop' G ?_
  change LoopP Tryd.prog (Lx.tab real) 17 c13 _ _ _
  refine LoopP.relax (skip_loop s hs _ (s.length + 1) i z hz hi (by omega) ?_)
  intro y hy
  exact hK y hy

theorem skip_at (s : List UInt8) (hs : s.length ≤ 1000000000000) (i : Nat) (z : Int) (hz : z = i) (hi : i ≤ s.length) (S : St) (o : Nat) (ho : o < S.next) (hrow : S.row o = [.str s, .int .i64 z]) (K : Out → St → Prop)
    (hK : ∀ y : Int, y = skipN s (s.length + 1) i → K (.ret (.tup [])) (S.set o [.str s, .int .i64 y])) : CallP Tryd.prog (Lx.tab real) 13 [.ptr o 0] S K := by
  have hptr : one o 0 o = some 0 := one_iff.2 ⟨rfl, rfl⟩
  refine frame1 (K0 := fun out S' => ∃ y : Int, y = skipN s (s.length + 1) i ∧ out = .ret (.tup []) ∧ S' = S1 s y) ho (by rw [hrow]; simp) ?_ ?_
  · rw [hrow]
    simp only [renL, AV.ren, hptr]
    exact skip_spec s hs i z hz hi _ fun y hy => ⟨y, hy, rfl, rfl⟩
  · rintro out S' ⟨y, hy, rfl, rfl⟩
    exact ⟨Nat.le_refl _, hK y hy⟩
end Go.AM

namespace Go.AM
open Go.Proofs
set_option maxRecDepth 100000
set_option linter.unusedVariables false
theorem Lx.fn15 : FnOk Tryd.prog 15 (fni Tryd.f15 a15) := ⟨⟨Tryd.f15, Tryd.func15, rfl, rfl, rfl, by kernel_rfl⟩, by kernel_rfl⟩
noncomputable def c15 : Code := (fni Tryd.f15 a15).loop 0
theorem Lx.c15 : codeOk 57 a15 c15 = true := by kernel_rfl
theorem step15 (K : Ex → Env → St → Prop) (env : Env) (S : St) (h : xcode (pAlg Tryd.prog (Lx.tab real) 57) (Lx.tab real) a15 0 c15 (andThen (LoopP Tryd.prog (Lx.tab real) 57 c15 K) K) env S) : LoopP Tryd.prog (Lx.tab real) 57 c15 K env S :=
  loopP_step Lx.tabOk Lx.mixed Lx.c15 h

def env15 (s : List UInt8) (z y : Int) : Env := [(0, .str s), (1, .int .i64 z), (6, .int .i64 y)]

theorem blank_loop (s : List UInt8) (hs : s.length ≤ 1000000000000) (i : Nat) (z : Int) (hz : z = i) (K : Ex → Env → St → Prop) (m : Nat) :
    ∀ (n : Nat) (y : Int), y = n → i + n + m = s.length → (∀ x : Int, x = scan notEnd s (i + n) - i → K (.exit 0) (env15 s z x) St.nil) → LoopP Tryd.prog (Lx.tab real) 57 c15 (Less K) (env15 s z y) St.nil := by
  induction m with
  | zero =>
    intro n y hy hm hK
    have hfin : K (.exit 0) (env15 s z y) St.nil := hK y (by
      have h1 : scan notEnd s (i + n) = i + n := by simp [scan, List.drop_eq_nil_of_le (show s.length ≤ i + n by omega)]
      rw [h1]; omega)
    apply step15
    apply gen_code (mk := Lx.tab)
    intro fail need same call loop len slen arith shift cmp conv eqS ltS cat app elt byt subS subL strOf isB fit inb cut room not and eqB avs G
    generalize hL : LoopP Tryd.prog (Lx.tab real) 57 c15 (Less K) = L
    generalize hK' : Less K = K'
    have hadd : arith BinOp.add IntKind.i64 z y = z + y := by rw [G.arith']; exact wrap_i64 _ (by omega) (by omega)
    have hb : cmp BinOp.lss (z + y) (slen s) = false := by rw [G.cmp', G.slen']; simp [intRel]; omega
    cbv
    refine GenH.need' G rfl (GenH.need' G rfl ?_)
    rw [hadd, hb]
    cbv
    rw [← hK']
    exact ⟨env15 s z y, .cons rfl (.cons rfl (.cons rfl (.nil _))), hfin⟩
  | succ m ih =>
    intro n y hy hm hK
    have hlt : i + n < s.length := by omega
    have hdrop : s.drop (i + n) = s[i + n] :: s.drop (i + n + 1) := List.drop_eq_getElem_cons hlt
    have hfin : notEnd s[i + n] = false → K (.exit 0) (env15 s z y) St.nil := fun hq => hK y (by
      have h3 : scan notEnd s (i + n) = i + n := by unfold scan; rw [hdrop, List.takeWhile_cons, hq]; simp
      rw [h3]; omega)
    have hgo : notEnd s[i + n] = true → LoopP Tryd.prog (Lx.tab real) 57 c15 (Less K) (env15 s z (y + 1)) St.nil := fun hq => by
      have h3 : scan notEnd s (i + (n + 1)) = scan notEnd s (i + n) := by
        unfold scan; rw [hdrop, List.takeWhile_cons, hq, ← Nat.add_assoc]; simp; omega
      exact ih (n + 1) (y + 1) (by omega) (by omega) (fun x hx => hK x (by rw [hx, h3]))
    apply step15
    apply gen_code (mk := Lx.tab)
    intro fail need same call loop len slen arith shift cmp conv eqS ltS cat app elt byt subS subL strOf isB fit inb cut room not and eqB avs G
    generalize hL : LoopP Tryd.prog (Lx.tab real) 57 c15 (Less K) = L at hgo ⊢
    generalize hK' : Less K = K' at hL ⊢
    have hadd : arith BinOp.add IntKind.i64 z y = z + y := by rw [G.arith']; exact wrap_i64 _ (by omega) (by omega)
    have hone : arith BinOp.add IntKind.i64 y 1 = y + 1 := by rw [G.arith']; exact wrap_i64 _ (by omega) (by omega)
    have hb : cmp BinOp.lss (z + y) (slen s) = true := by rw [G.cmp', G.slen']; simp [intRel]; omega
    have hin : inb (z + y) (slen s) = true := by rw [G.inb', G.slen']; simp; omega
    have hbyt : byt s (z + y) = (s[i + n].toNat : Int) := by
      rw [G.byt', hz, hy]; simp only []; rw [show ((i : Int) + (n : Int)).toNat = i + n by omega]; simp [List.getD_eq_getElem?_getD, hlt]
    have hne : cmp BinOp.neq (byt s (z + y)) 10 = notEnd s[i + n] := by
      rw [G.cmp', hbyt]
      simp only [intRel, notEnd, bne]
      congr 1
      rw [Bool.eq_iff_iff]
      simp only [beq_iff_eq]
      constructor
      · intro h; exact UInt8.toNat_inj.1 (by simpa using (by omega : s[i + n].toNat = 10))
      · intro h; rw [h]; rfl
    cbv
    refine GenH.need' G rfl (GenH.need' G rfl ?_)
    rw [hadd, hb]
    cbv
    refine GenH.need' G rfl ?_
    rw [hadd]
    refine GenH.need' G hin ?_
    cases hq : notEnd s[i + n] with
    | false =>
      rw [hne, hq]
      cbv
      refine GenH.need' G rfl ?_
      cbv
      rw [← hK']
      exact ⟨env15 s z y, .cons rfl (.cons rfl (.cons rfl (.nil _))), hfin hq⟩
    | true =>
      rw [hne, hq]
      cbv
      refine GenH.need' G rfl ?_
      cbv
      refine GenH.need' G rfl ?_
      rw [hone]
      have := hgo hq
      rw [← hL] at this ⊢
      exact LoopP.weak (.cons rfl (.cons rfl (.cons rfl (.nil _)))) this
end Go.AM

namespace Go.AM
open Go.Proofs
set_option maxRecDepth 100000
set_option linter.unusedVariables false

theorem eqb (b k : UInt8) : intRel .eql b.toNat k.toNat = (b == k) := by
  simp only [intRel]
  rw [Bool.eq_iff_iff]
  simp only [beq_iff_eq]
  exact ⟨fun h => UInt8.toNat_inj.1 (by omega), fun h => by rw [h]⟩

theorem neb (b k : UInt8) : intRel .neq b.toNat k.toNat = (b != k) := by
  have := eqb b k
  simp only [intRel, bne] at this ⊢
  rw [this]

theorem pre2 (b : UInt8) (l : List UInt8) : [45, 45].isPrefixOf (b :: l) = (b == 45 && [45].isPrefixOf l) := by
  rw [List.isPrefixOf_cons_cons, BEq.comm]

theorem pre1 (b : UInt8) (l : List UInt8) : [45].isPrefixOf (b :: l) = (b == 45) := by
  rw [List.isPrefixOf_cons_cons, BEq.comm]; simp

theorem blank0 (b : UInt8) (h9 : (b == 9) = false) (h10 : (b == 10) = false) (h13 : (b == 13) = false) (h32 : (b == 32) = false) : isBlank b = false := by
  unfold isBlank; rw [h9, h10, h13, h32]; rfl

/-- How many bytes of blanks or of a comment stand at a place. -/
def blankN (s : List UInt8) (i : Nat) : Nat :=
  match isBlank (s.getD i 0) with
  | true => 1
  | false => match [45, 45].isPrefixOf (s.drop i) with
    | true => scan notEnd s (i + 2) - i
    | false => 0

theorem blank_spec (s : List UInt8) (hs : s.length ≤ 1000000000000) (i : Nat) (z : Int) (hz : z = i) (hi : i < s.length) (S : St) (K : Out → St → Prop) (hK : ∀ y : Int, y = blankN s i → K (.ret (.int .i64 y)) S) :
    CallP Tryd.prog (Lx.tab real) 15 [.str s, .int .i64 z] S K := by
  refine CallP.lift (K0 := fun o _ => ∃ y : Int, y = blankN s i ∧ o = .ret (.int .i64 y)) rfl ?_ (by rintro o S0 ⟨y, hy, rfl⟩; exact hK y hy)
  apply body_calls (un := 0) Lx.tabOk Lx.mixed Lx.fn15 (Nat.le_of_ble_eq_true rfl)
  apply gen_body (mk := Lx.tab)
  intro fail need same call loop len slen arith shift cmp conv eqS ltS cat app elt byt subS subL strOf isB fit inb cut room not and eqB avs G
  have hb : byt s z = (s[i].toNat : Int) := by rw [G.byt', hz]; simp [List.getD_eq_getElem?_getD, hi]
  have hget : s.getD i 0 = s[i] := by simp [List.getD_eq_getElem?_getD, hi]
  have hin : inb z (slen s) = true := by rw [G.inb', G.slen']; simp; omega
  have c9 : cmp BinOp.eql (byt s z) 9 = (s[i] == 9) := by rw [G.cmp', hb]; exact eqb s[i] 9
  have c10 : cmp BinOp.eql (byt s z) 10 = (s[i] == 10) := by rw [G.cmp', hb]; exact eqb s[i] 10
  have c13 : cmp BinOp.eql (byt s z) 13 = (s[i] == 13) := by rw [G.cmp', hb]; exact eqb s[i] 13
  have c32 : cmp BinOp.eql (byt s z) 32 = (s[i] == 32) := by rw [G.cmp', hb]; exact eqb s[i] 32
  have c45 : cmp BinOp.neq (byt s z) 45 = (s[i] != 45) := by rw [G.cmp', hb]; exact neb s[i] 45
  have h1 : isBlank s[i] = true → (1 : Int) = blankN s i := fun h => by unfold blankN; rw [hget, h]; rfl
  generalize hK' : (fun (o : Out) (_ : St) => ∃ y : Int, y = blankN s i ∧ o = .ret (.int .i64 y)) = K'
  have fin1 : isBlank s[i] = true → K' (.ret (.int .i64 1)) St.nil := fun h => by rw [← hK']; exact ⟨1, h1 h, rfl⟩
  have e1 : isBlank s[i] = (s[i] == 9 || s[i] == 10 || s[i] == 13 || s[i] == 32) := rfl
  have hadd : arith BinOp.add IntKind.i64 z 1 = z + 1 := by rw [G.arith']; exact wrap_i64 _ (by omega) (by omega)
  have hdrop : s.drop i = s[i] :: s.drop (i + 1) := List.drop_eq_getElem_cons hi
  have pre : [45, 45].isPrefixOf (s.drop i) = (s[i] == 45 && [45].isPrefixOf (s.drop (i + 1))) := by
    rw [hdrop, pre2]
  have fin0 : isBlank s[i] = false → [45, 45].isPrefixOf (s.drop i) = false → K' (.ret (.int .i64 0)) St.nil := fun h p => by
    rw [← hK']; exact ⟨0, by unfold blankN; rw [hget, h, p]; rfl, rfl⟩
  have fin2 : isBlank s[i] = false → [45, 45].isPrefixOf (s.drop i) = true → ∀ x : Int, x = scan notEnd s (i + 2) - i → K' (.ret (.int .i64 x)) St.nil := fun h p x hx => by
    rw [← hK']
    refine ⟨x, ?_, rfl⟩
    unfold blankN
    rw [hget, h, p]
    show x = ((scan notEnd s (i + 2) - i : Nat) : Int)
    have h2 : i + 2 ≤ scan notEnd s (i + 2) := by unfold scan; omega
    omega
  have two : (i + 1 < s.length) ∨ ¬ (i + 1 < s.length) := Decidable.em _
  have g0 : ¬ (i + 1 < s.length) → cmp BinOp.geq (z + 1) (slen s) = true := fun h => by rw [G.cmp', G.slen']; simp [intRel]; omega
  have g1 : i + 1 < s.length → cmp BinOp.geq (z + 1) (slen s) = false := fun h => by rw [G.cmp', G.slen']; simp [intRel]; omega
  have g2 : i + 1 < s.length → inb (z + 1) (slen s) = true := fun h => by rw [G.inb', G.slen']; simp; omega
  have g3 : ∀ h : i + 1 < s.length, cmp BinOp.neq (byt s (z + 1)) 45 = (s[i + 1] != 45) := fun h => by
    have : byt s (z + 1) = (s[i + 1].toNat : Int) := by
      rw [G.byt']; simp only []; rw [show (z + 1).toNat = i + 1 by omega]; simp [List.getD_eq_getElem?_getD, h]
    rw [G.cmp', this]; exact neb s[i + 1] 45
  have p0 : ¬ (i + 1 < s.length) → [45, 45].isPrefixOf (s.drop i) = false := fun h => by
    rw [pre, List.drop_eq_nil_of_le (by omega)]; exact Bool.and_false _
  have p1 : ∀ h : i + 1 < s.length, [45, 45].isPrefixOf (s.drop i) = (s[i] == 45 && s[i + 1] == 45) := fun h => by
    rw [pre, List.drop_eq_getElem_cons h, pre1]
  have loopG : i + 1 < s.length → ∀ Kx : Ex → Env → St → Prop, (∀ x : Int, x = scan notEnd s (i + 2) - i → Kx (.exit 0) (env15 s z x) St.nil) → LoopP Tryd.prog (Lx.tab real) 57 c15 (Less Kx) (env15 s z 2) St.nil := fun h Kx hKx =>
    blank_loop s hs i z hz Kx (s.length - i - 2) 2 2 rfl (by omega) hKx
  cbv
  refine GenH.need' G hin (GenH.need' G rfl ?_)
  rw [c9]
  cases h9 : (s[i] == 9) with
  | true => cbv; exact fin1 (by rw [e1, h9]; rfl)
  | false =>
    cbv
    refine GenH.need' G rfl ?_
    rw [c10]
    cases h10 : (s[i] == 10) with
    | true => cbv; exact fin1 (by rw [e1, h9, h10]; rfl)
    | false =>
      cbv
      refine GenH.need' G rfl ?_
      rw [c13]
      cases h13 : (s[i] == 13) with
      | true => cbv; exact fin1 (by rw [e1, h9, h10, h13]; rfl)
      | false =>
        cbv
        refine GenH.need' G rfl ?_
        rw [c32]
        cases h32 : (s[i] == 32) with
        | true => cbv; exact fin1 (by rw [e1, h9, h10, h13, h32]; rfl)
        | false =>
          cbv
          refine GenH.need' G rfl ?_
          rw [c45]
          have hbl := blank0 s[i] h9 h10 h13 h32
          cases h45 : (s[i] != 45) with
          | true =>
            cbv
            refine fin0 hbl ?_
            have : (s[i] == 45) = false := by simpa [bne] using h45
            rw [pre, this]; rfl
          | false =>
            have h45' : (s[i] == 45) = true := by simpa [bne] using h45
            cbv
            refine GenH.need' G rfl (GenH.need' G rfl ?_)
            rw [hadd]
            rcases two with hl | hl
            · rw [g1 hl]
              cbv
              refine GenH.need' G rfl ?_
              rw [hadd]
              refine GenH.need' G (g2 hl) (GenH.need' G rfl ?_)
              rw [g3 hl]
              cases h46 : (s[i + 1] != 45) with
              | true =>
                cbv
                refine fin0 hbl ?_
                have : (s[i + 1] == 45) = false := by simpa [bne] using h46
                rw [p1 hl, this]; simp
              | false =>
                have h46' : (s[i + 1] == 45) = true := by simpa [bne] using h46
                have hpre : [45, 45].isPrefixOf (s.drop i) = true := by rw [p1 hl, h45', h46']; rfl
                cbv
                refine GenH.loop' G ?_
                change LoopP Tryd.prog (Lx.tab real) 57 c15 _ _ _
                refine LoopP.relax (LoopP.weak (env' := env15 s z 2) (.cons rfl (.cons rfl (.cons rfl (.nil _)))) ?_)
                refine loopG hl _ fun x hx => ?_
                have := fin2 hbl hpre x hx
                cbv
                exact this
            · rw [g0 hl]
              cbv
              exact fin0 hbl (p0 hl)
end Go.AM

namespace Go.Proofs
open Go.RowKit
set_option maxHeartbeats 1000000
set_option maxRecDepth 100000
theorem Tryd.copy_used (b : Nat) (w : World) (h0 : w.cell? ⟨b, 0, none⟩ = some (.pointer (some ⟨b, 0, none⟩))) :
    Calls Tryd.prog 53 #[.pointer (some ⟨b, 0, none⟩)] w fun e w' => e = .returned (.tuple #[]) ∧ w' = w := by
  obtain ⟨j, hj, _⟩ : ∃ j, Tryd.prog.info? 62 = some j ∧ j.size = 2 := Option.map_eq_some_iff.1 (show (Tryd.prog.info? 62).map (·.size) = some 2 by kernel_rfl)
  go_enter Tryd.func53, Tryd.ntmps53
  go_wp2
  rw [Lib.run_neq_ptr_same w _ (by kernel_rfl) hj]
  go_wp2
  go_end0
  exact ⟨rfl, rfl⟩
theorem Tryd.copy_fresh (b : Nat) (w : World) (h0 : w.cell? ⟨b, 0, none⟩ = some (.pointer none)) (hsh : w.shape? b = some (62, 2)) (hfz : w.frozen? ⟨b, 0, none⟩ = false) :
    Calls Tryd.prog 53 #[.pointer (some ⟨b, 0, none⟩)] w fun e w' => e = .returned (.tuple #[]) ∧ w' = w.setCell ⟨b, 0, none⟩ (.pointer (some ⟨b, 0, none⟩)) := by
  obtain ⟨j, hj, hjs⟩ : ∃ j, Tryd.prog.info? 62 = some j ∧ j.size = 2 := Option.map_eq_some_iff.1 (show (Tryd.prog.info? 62).map (·.size) = some 2 by kernel_rfl)
  go_enter Tryd.func53, Tryd.ntmps53
  go_wp2
  rw [Lib.run_to_unsafe w ⟨b, 0, none⟩ (by kernel_rfl) (by kernel_rfl) hj (by rw [hjs]; decide) hsh (Nat.zero_lt_succ 1)]
  simp only [Result.andThen]
  rw [Oper.upon_value]
  go_wp2
  rw [run_callFunc_extern Tryd.func60 (by kernel_rfl) (by kernel_rfl) (by kernel_rfl) (e := Extern.AbiNoEscape.same) (by kernel_rfl)]
  rw [Lib.run_noEscape]
  simp only [Result.andThen]
  rw [Oper.upon_value]
  go_wp2
  rw [Lib.run_from_unsafe w ⟨b, 0, none⟩ (by kernel_rfl) (by kernel_rfl) hj hsh (by kernel_rfl)]
  simp only [Result.andThen]
  rw [Oper.upon_value]
  go_wp2
  go_end0
  exact ⟨rfl, rfl⟩
end Go.Proofs

namespace Go.AM
open Go.Proofs
set_option maxRecDepth 100000
set_option linter.unusedVariables false

theorem setCell_row {w : World} {b : Nat} {c : Array Value} {t : TypeId} (hb : w.heap[b]? = some (.cells c t (0, 0))) (v : Value) : w.setCell ⟨b, 0, none⟩ v = w.setRow b (c.setIfInBounds 0 v) := by
  unfold World.setCell World.setRow
  congr 1
  apply Array.ext_getElem?
  intro k
  rw [Array.getElem?_modify, Array.getElem?_modify]
  by_cases hk : b = k
  · subst hk; simp [hb]
  · simp [hk]

theorem Lx.enters53 : Enters Tryd.prog 53 := enters_of Tryd.func53 (by kernel_rfl) (by kernel_rfl)

/-- A contract by hand: from objects to what the model says, and back. -/
theorem inv_of {T : Tab} {g : Ghost} {S : St} {w : World} (r : WRel T g S w) (hg : GlobOk T g w) : Inv T { n := 0, w0 := w, g0 := g, next := S.next, touch := touchOf g } g [] S { tmps := #[], defers := [] } w :=
  ⟨fun _ => .undef _ _, rfl, rfl, r, .refl _ _ _, fun o b q => .inl (.inl ⟨o, q⟩), fun k tk b q q' => .inl (.inr ⟨k, tk, q, q'⟩), hg, fun o b q => .inl q, Nat.le_refl _⟩

theorem post_of {T : Tab} {g g' : Ghost} {S S' : St} {w w' : World} {K : Out → St → Prop} {v : AV} {x : Value} (h : Inv T { n := 0, w0 := w, g0 := g, next := S.next, touch := touchOf g } g' [] S' { tmps := #[], defers := [] } w')
    (hk : K (.ret v) S') (hv : Rep T w' g' v x) : callPost T g S w K (.returned x) w' := by
  refine ⟨.ret v, S', g', hk, hv, h.rel, h.ext, ?_, h.nm, h.next⟩
  rintro b (⟨o, q⟩ | ⟨k, tk, q, q'⟩)
  · exact h.ob o b q
  · exact h.tb k tk b q q'

theorem copy_spec (o : Nat) (p x : AV) (S : St) (hrow : S.row o = [p, x]) (hp : p = .tnil o 62 ∨ p = .ptr o 0) (K : Out → St → Prop) (hK : K (.ret (.tup [])) (S.set o [.ptr o 0, x])) : CallP Tryd.prog (Lx.tab real) 53 [.ptr o 0] S K := by
  intro g w vs r hglob hA
  obtain ⟨hl, hR⟩ := hA
  obtain ⟨u, rfl⟩ : ∃ u, vs = [u] := by
    match vs, hl with
    | [u], _ => exact ⟨u, rfl⟩
  have hu : Rep (Lx.tab real) w g (.ptr o 0) u := by simpa [nth] using hR 0 (by simp)
  cases hu with
  | ptr _ _ _ b hb =>
    obtain ⟨c, t, hc, hs, h1, hRo⟩ := r.obj o b hb
    rw [hrow] at hs hRo
    have h0 := hRo 0 (by simp)
    simp only [nth] at h0
    have hcs : ∃ c0 c1, c = #[c0, c1] := by
      have hcl : c.toList.length = 2 := by simpa using hs
      match hq : c.toList, hcl with
      | [c0, c1], _ => exact ⟨c0, c1, by rw [← Array.toArray_toList (xs := c), hq]⟩
    obtain ⟨c0, c1, rfl⟩ := hcs
    simp only [List.getD_eq_getElem?_getD] at h0
    have h0' : Rep (Lx.tab real) w g p c0 := by simpa using h0
    have hcell : w.cell? ⟨b, 0, none⟩ = some c0 := by simp [World.cell?, hc]
    have hI := inv_of r hglob
    have fin : ∀ w', w' = w.setCell ⟨b, 0, none⟩ (.pointer (some ⟨b, 0, none⟩)) → callPost (Lx.tab real) g S w K (.returned (.tuple #[])) w' := by
      rintro w' rfl
      have hw := hI.write (off := 0) (vs := [.ptr o 0]) (xs := [.pointer (some ⟨b, 0, none⟩)]) hb hc rfl (by rw [hrow]; simp) (by rw [hrow]; simp) (by intro v hv; simp at hv; subst hv; rfl)
        (by intro j hj; have : j = 0 := by simpa using hj
            subst this; exact .ptr _ _ _ _ hb)
      rw [hrow] at hw
      rw [setCell_row hc]
      exact post_of hw hK (.tup _ _ [] rfl (by simp))
    rcases hp with rfl | rfl
    · cases h0' with
      | tnil _ _ _ b' c' fr hb' hc' =>
        have : b' = b := by have := hb'.symm.trans hb; simpa using this
        subst this
        have ht : t = 62 := by
          have := hc.symm.trans hc'
          simp only [Option.some.injEq, Obj.cells.injEq] at this
          exact this.2.1
        subst ht
        refine .inl ⟨Lx.enters53, Calls.mono (Tryd.copy_fresh b' w hcell (by simp [World.shape?, hc]) (by simp [World.frozen?, hc])) ?_⟩
        rintro e w' ⟨rfl, hw'⟩
        exact fin w' hw'
    · cases h0' with
      | ptr _ _ _ b' hb' =>
        have : b' = b := by have := hb'.symm.trans hb; simpa using this
        subst this
        refine .inl ⟨Lx.enters53, Calls.mono (Tryd.copy_used b' w hcell) ?_⟩
        rintro e w' ⟨rfl, hw'⟩
        refine fin w' ?_
        rw [hw', setCell_row hc]
        have key : ∀ f : Obj → Obj, (∀ y, w.heap[b']? = some y → f y = y) → w.heap.modify b' f = w.heap := fun f hf => by
          apply Array.ext_getElem?
          intro k
          rw [Array.getElem?_modify]
          by_cases hk : b' = k
          · subst hk
            cases hy : w.heap[b']? with
            | none => simp
            | some y => simp [hf y hy]
          · simp [hk]
        unfold World.setRow
        rw [key]
        intro y hy
        have := hy.symm.trans hc
        simp only [Option.some.injEq] at this
        subst this
        simp
end Go.AM

namespace Go.Proofs
open Go.RowKit
set_option maxHeartbeats 2000000
set_option maxRecDepth 100000
set_option linter.unusedVariables false

theorem Tryd.string_row (b g cap : Nat) (cur : Array Value) (l : List UInt8) (w : World) (h0 : l ≠ []) (c1 : w.drew.cell? ⟨b, 1, none⟩ = some (.slice (some ⟨g, 0, none⟩) l.length cap))
    (hg : w.heap[g]? = some (.cells cur 5 (0, 0))) (hcap : l.length ≤ cap) (hmax : cap ≤ maxLen) (hsz : l.length ≤ cur.size) (hc : ∀ j x, l[j]? = some x → w.cell? ⟨g, j, none⟩ = some (.int .u8 x.toNat)) :
    Calls Tryd.prog 45 #[.pointer (some ⟨b, 0, none⟩)] w fun e w' => e = .returned (.string ⟨l.toArray⟩) ∧ w' = w.drew.freeze ⟨g, 0, none⟩ l.length := by
  have hl0 : l.length ≠ 0 := by simpa using h0
  have hSD : (Builtin.unsafeSliceData_ #[55] 76 #[.slice (some ⟨g, 0, none⟩) l.length cap]).run Tryd.prog w.drew = .ok (.pointer (some ⟨g, 0, none⟩)) w.drew :=
    Lib.run_unsafeSliceData_row _ _ _ _ _ _ (by omega)
  have hUS : (Builtin.unsafeString_ #[76, 3] 9 #[.pointer (some ⟨g, 0, none⟩), .int .i64 l.length]).run Tryd.prog w.drew = .ok (.string ⟨l.toArray⟩) (w.drew.freeze ⟨g, 0, none⟩ l.length) := by
    refine Lib.run_unsafeString_row w.drew 76 3 9 5 (by kernel_rfl) (by kernel_rfl) g cur.size (by have hg' : w.drew.heap[g]? = some (.cells cur 5 (0, 0)) := hg; simp [World.shape?, hg']) l h0 (by omega) (by unfold maxLen at hmax; omega) ?_
    intro j x hx
    have := hc j x hx
    have hadd : (⟨g, 0, none⟩ : Addr).add j = ⟨g, j, none⟩ := by unfold Addr.add; split <;> simp_all
    rw [hadd]
    exact this
  have mixed : Tryd.prog.follows Departure.mixedOrders = true := AM.Lx.mixed
  go_enter Tryd.func45, Tryd.ntmps45
  go_wp2
  go_region_o
  all_goals (go_wp2; go_ret; exact ⟨rfl, rfl⟩)

theorem Tryd.string_nil (b : Nat) (w : World) (c1 : w.drew.cell? ⟨b, 1, none⟩ = some (.slice none 0 0)) :
    Calls Tryd.prog 45 #[.pointer (some ⟨b, 0, none⟩)] w fun e w' => e = .returned (.string ⟨#[]⟩) ∧ w' = w.drew := by
  have hUS : ∀ (W : World) (q : Option Addr), (Builtin.unsafeString_ #[76, 3] 9 #[.pointer q, .int .i64 0]).run Tryd.prog W = .ok (.string .empty) W := fun W q => Lib.run_unsafeString_none W _ _ _ q
  have hSD : (Builtin.unsafeSliceData_ #[55] 76 #[.slice none 0 0]).run Tryd.prog w.drew = .ok (.pointer none) w.drew := rfl
  have mixed : Tryd.prog.follows Departure.mixedOrders = true := AM.Lx.mixed
  go_enter Tryd.func45, Tryd.ntmps45
  go_wp2
  go_region_o
  all_goals (go_wp2; go_ret; exact ⟨rfl, rfl⟩)

theorem Tryd.string_room (b g cap : Nat) (w : World) (hc0 : cap ≠ 0) (c1 : w.drew.cell? ⟨b, 1, none⟩ = some (.slice (some ⟨g, 0, none⟩) 0 cap)) :
    Calls Tryd.prog 45 #[.pointer (some ⟨b, 0, none⟩)] w fun e w' => e = .returned (.string ⟨#[]⟩) ∧ w' = w.drew := by
  have hUS : ∀ (W : World) (q : Option Addr), (Builtin.unsafeString_ #[76, 3] 9 #[.pointer q, .int .i64 0]).run Tryd.prog W = .ok (.string .empty) W := fun W q => Lib.run_unsafeString_none W _ _ _ q
  have hSD : (Builtin.unsafeSliceData_ #[55] 76 #[.slice (some ⟨g, 0, none⟩) 0 cap]).run Tryd.prog w.drew = .ok (.pointer (some ⟨g, 0, none⟩)) w.drew :=
    Lib.run_unsafeSliceData_row _ _ _ _ _ _ hc0
  clear hc0
  have mixed : Tryd.prog.follows Departure.mixedOrders = true := AM.Lx.mixed
  go_enter Tryd.func45, Tryd.ntmps45
  go_wp2
  go_region_o
  all_goals (go_wp2; go_ret; exact ⟨rfl, rfl⟩)

theorem Tryd.string_noroom (b g : Nat) (c : Array Value) (t : TypeId) (v : Value) (w : World) (hbk : w.heap[b]? = some (.cells #[v, .slice (some ⟨g, 0, none⟩) 0 0] t (0, 0))) (cur : Array Value) (hg : w.heap[g]? = some (.cells cur 5 (0, 0))) :
    Calls Tryd.prog 45 #[.pointer (some ⟨b, 0, none⟩)] w fun e w' => e = .returned (.string ⟨#[]⟩) ∧ w' = (w.drew.alloc (.view ⟨g, 0, none⟩ 5)) := by
  have hUS : ∀ (W : World) (q : Option Addr), (Builtin.unsafeString_ #[76, 3] 9 #[.pointer q, .int .i64 0]).run Tryd.prog W = .ok (.string .empty) W := fun W q => Lib.run_unsafeString_none W _ _ _ q
  have hlt : b < w.heap.size := by
    rcases Nat.lt_or_ge b w.heap.size with h' | h'
    · exact h'
    · simp [Array.getElem?_eq_none h'] at hbk
  have c1 : w.drew.cell? ⟨b, 1, none⟩ = some (.slice (some ⟨g, 0, none⟩) 0 0) := by
    have : w.drew.heap[b]? = some (.cells #[v, .slice (some ⟨g, 0, none⟩) 0 0] t (0, 0)) := hbk
    rw [Lib.cell_of_heap this]; rfl
  have hSD : (Builtin.unsafeSliceData_ #[55] 76 #[.slice (some ⟨g, 0, none⟩) 0 0]).run Tryd.prog w.drew = .ok (.pointer (some ⟨w.drew.heap.size, 0, none⟩)) (w.drew.alloc (.view ⟨g, 0, none⟩ 5)) :=
    Lib.run_unsafeSliceData_zero w.drew _ _ 5 (by kernel_rfl) ⟨g, 0, none⟩ 0 (5, cur.size) (by have hg' : w.drew.heap[g]? = some (.cells cur 5 (0, 0)) := hg; simp [World.shape?, hg'])
  have c2 : (w.drew.alloc (.view ⟨g, 0, none⟩ 5)).cell? ⟨b, 1, none⟩ = some (.slice (some ⟨g, 0, none⟩) 0 0) := by
    have : (w.drew.alloc (.view ⟨g, 0, none⟩ 5)).heap[b]? = _ := (Lib.alloc_old w.drew _ b hlt).trans hbk
    rw [Lib.cell_of_heap this]; rfl
  have c3 : (w.alloc (.view ⟨g, 0, none⟩ 5)).drew.cell? ⟨b, 1, none⟩ = some (.slice (some ⟨g, 0, none⟩) 0 0) := c2
  have c0 : w.cell? ⟨b, 1, none⟩ = some (.slice (some ⟨g, 0, none⟩) 0 0) := c1
  have mixed : Tryd.prog.follows Departure.mixedOrders = true := AM.Lx.mixed
  go_enter Tryd.func45, Tryd.ntmps45
  go_wp2
  go_region_o
  all_goals (go_wp2; go_ret; exact ⟨rfl, rfl⟩)
end Go.Proofs

namespace Go.AM
open Go.Proofs
set_option maxRecDepth 100000
set_option linter.unusedVariables false

/-- A world that differs in nothing that is told or owned. -/
theorem WRel.beside {T : Tab} {g : Ghost} {S : St} {w w' : World} (r : WRel T g S w) {row : Option Nat} (hg : w.grownBy w' row) (hk : Keeps g w g w')
    (ho : ∀ o b, g.ρ o = some b → row ≠ some b) (ht : ∀ k tk b, g.τ k = some tk → tk.v.ownBlock = some b → row ≠ some b) : WRel T g S w' := by
  refine ⟨?_, r.inj, r.dom, r.apart, fun b off hD => Nat.lt_of_lt_of_le (r.live b off hD) hg.size, ?_, r.tinj⟩
  · intro o b e
    obtain ⟨c, t, hc, hs, h1, hR⟩ := r.obj o b e
    exact ⟨c, t, (hg.block b (heap_lt hc) (ho o b e).symm).trans hc, hs, h1, fun j hj => (hR j hj).keeps hk⟩
  · intro k tk e
    obtain ⟨h1, h2, xs, h3, h4⟩ := r.tok k tk e
    refine ⟨h1, h2, xs, h3.kept hg ?_, h4⟩
    cases hv : tk.v.ownBlock with
    | none => exact .inl rfl
    | some b => exact .inr (ht k tk b e hv).symm

theorem freeze_heap {w : World} {g n : Nat} (i : Nat) (hi : i ≠ g) : (w.freeze ⟨g, 0, none⟩ n).heap[i]? = w.heap[i]? := by
  unfold World.freeze
  split
  · rfl
  · simp only [Array.getElem?_modify]
    rw [if_neg (Ne.symm hi)]

theorem freeze_row {w : World} {g n : Nat} {c : Array Value} {t : TypeId} {fr : Nat × Nat} (h : w.heap[g]? = some (.cells c t fr)) : ∃ fr', (w.freeze ⟨g, 0, none⟩ n).heap[g]? = some (.cells c t fr') := by
  unfold World.freeze
  split
  · exact ⟨fr, h⟩
  · simp only [Array.getElem?_modify, if_true, h]
    obtain ⟨lo, hi⟩ := fr
    exact ⟨_, rfl⟩

theorem freeze_same (w : World) (g n : Nat) : (w.freeze ⟨g, 0, none⟩ n).os = w.os ∧ (w.freeze ⟨g, 0, none⟩ n).tape = w.tape ∧ (w.freeze ⟨g, 0, none⟩ n).output = w.output ∧ (w.freeze ⟨g, 0, none⟩ n).heap.size = w.heap.size := by
  unfold World.freeze
  split
  · exact ⟨rfl, rfl, rfl, rfl⟩
  · exact ⟨rfl, rfl, rfl, by simp⟩

def avl (b : List UInt8) : List AV := b.map fun x => .int .u8 (x.toNat : Int)

theorem Lx.enters45 : Enters Tryd.prog 45 := enters_of Tryd.func45 (by kernel_rfl) (by kernel_rfl)

theorem string_spec (o k : Nat) (p : AV) (l : List UInt8) (S : St) (hrow : S.row o = [p, .slice 5 (avl l) (.own k)]) (hcap : capAt S.caps k = (l.length : Int)) (K : Out → St → Prop)
    (hK : K (.ret (.str l)) { S with caps := capSet S.caps k (maxLen + 1 : Nat) }) : CallP Tryd.prog (Lx.tab real) 45 [.ptr o 0] S K := by
  intro g w vs r hglob hA
  obtain ⟨hl, hR⟩ := hA
  obtain ⟨u, rfl⟩ : ∃ u, vs = [u] := by
    match vs, hl with
    | [u], _ => exact ⟨u, rfl⟩
  have hu : Rep (Lx.tab real) w g (.ptr o 0) u := by simpa [nth] using hR 0 (by simp)
  cases hu with
  | ptr _ _ _ b hb =>
    obtain ⟨c, t, hc, hs, h1, hRo⟩ := r.obj o b hb
    rw [hrow] at hs hRo
    have hcs : ∃ c0 c1, c = #[c0, c1] := by
      have hcl : c.toList.length = 2 := by simpa using hs
      match hq : c.toList, hcl with
      | [c0, c1], _ => exact ⟨c0, c1, by rw [← Array.toArray_toList (xs := c), hq]⟩
    obtain ⟨c0, c1, rfl⟩ := hcs
    have hsl : Rep (Lx.tab real) w g (.slice 5 (avl l) (.own k)) c1 := by simpa [nth, List.getD_eq_getElem?_getD] using hRo 1 (by simp)
    have hsz5 : (Lx.tab real).size 5 = 1 := by rfl
    have hlen : (avl l).length = l.length := by simp [avl]
    have hnth : ∀ i (h : i < l.length), nth (avl l) i = .int .u8 (l[i].toNat : Int) := fun i h => by rw [nth_eq]; simp [avl, List.getD_eq_getElem?_getD, h]
    cases hsl with
    | slice _ _ _ _ ad cap bb base xs hcapl hmax hm hown ha hf hcl h1l hD hRl =>
      obtain ⟨tk, htk, hte, hln, htv⟩ := hown k rfl
      obtain ⟨hkl, hkc, xs', hOwn, hblk⟩ := r.tok k tk htk
      have htn : tk.n = l.length := by have := hkc.symm.trans hcap; omega
      have htv' := htv (by rw [hlen]; exact htn.symm)
      have hOwn' := hOwn.resolve_left (by rintro ⟨q, _⟩; omega)
      rw [hlen] at hcapl htv'
      -- the token is given up
      let tk' : Tok := { e := tk.e, v := .slice none 0 0, n := maxLen + 1 }
      have hkk : ∀ t0, g.τ k = some t0 → tk'.e = t0.e ∧ (tk' = t0 ∨ t0.n < tk'.n) := fun t0 e0 => by
        have : tk = t0 := by have := htk.symm.trans e0; simpa using this
        subst this
        exact ⟨rfl, .inr (by simp only [tk']; omega)⟩
      have r1 := r.setTok k tk' (capSet S.caps k (maxLen + 1 : Nat)) hkk ⟨by rw [len_set]; exact hkl, by rw [len_set]; exact Nat.le_refl _⟩ (fun i => by rw [capAt_set _ _ _ _ hkl])
        ⟨[], .inl ⟨Nat.lt_succ_self _, rfl⟩, fun b hb => by simp [tk', Value.ownBlock] at hb⟩ (fun i ti b _ _ _ hb => by simp [tk', Value.ownBlock] at hb)
      have hkt := setTok_keeps (w := w) hkk
      -- whatever the world has become
      have fin : ∀ w' : World, w.grownBy w' (tk.v.ownBlock) → w'.output = w.output → (∀ (i : Nat) (c : Array Value) (t : TypeId) (fr : Nat × Nat), w.heap[i]? = some (.cells c t fr) → ∃ fr', w'.heap[i]? = some (.cells c t fr')) → callPost (Lx.tab real) g S w K (.returned (.string ⟨l.toArray⟩)) w' := by
        intro w' hg hout hrows
        have hcell : ∀ b off, g.D b off → w'.cell? ⟨b, off, none⟩ = w.cell? ⟨b, off, none⟩ := fun b2 off hD2 => by
          by_cases hq : tk.v.ownBlock = some b2
          · rcases hOwn'.2 with ⟨hv, _⟩ | ⟨gb, cap', cur, hv, _, hcur, _⟩
            · rw [hv] at hq; simp [Value.ownBlock] at hq
            · have : gb = b2 := by rw [hv] at hq; simpa [Value.ownBlock] using hq
              subst this
              obtain ⟨fr', h'⟩ := hrows gb _ _ _ hcur
              simp [World.cell?, hcur, h']
          · exact cell_of_heap (hg.block b2 (r.live b2 off hD2) (Ne.symm hq))
        have hkeep : Keeps (setTok g k tk') w (setTok g k tk') w' := ⟨fun _ _ e => e, fun _ tk0 e => ⟨tk0, e, rfl, .inl rfl⟩, fun _ _ e => e, hcell, fun i c t fr e => by
          obtain ⟨fr', h'⟩ := hrows i c t fr e
          exact ⟨c, fr', h'⟩⟩
        have r2 := r1.beside hg hkeep (fun o2 b2 e q => by
            have := (hblk b2 q).2 o2
            exact this e) (fun k2 tk2 b2 e hb2 q => by
            by_cases hk2 : k2 = k
            · subst hk2
              simp only [setTok, if_true, Option.some.injEq] at e
              subst e
              simp [tk', Value.ownBlock] at hb2
            · simp only [setTok, if_neg hk2] at e
              exact hk2 (r.tinj k2 k tk2 tk b2 e htk hb2 q))
        refine ⟨.ret (.str l), _, setTok g k tk', hK, .str _ l, r2, ⟨hg.os, hg.tape, hout, hg.size, hkt.trans hkeep, fun b2 hb2 hn => hg.block b2 hb2 (fun q => hn (.inr ⟨k, tk, htk, q.symm⟩)), fun b2 off hD2 => .inl hD2⟩, ?_, fun o2 b2 e => .inl e, Nat.le_refl _⟩
        rintro b2 (⟨o2, q⟩ | ⟨k2, tk2, q, q'⟩)
        · exact .inl (.inl ⟨o2, q⟩)
        · by_cases hk2 : k2 = k
          · subst hk2
            simp only [setTok, if_true, Option.some.injEq] at q
            subst q
            simp [tk', Value.ownBlock] at q'
          · simp only [setTok, if_neg hk2] at q
            exact .inl (.inr ⟨k2, tk2, q, q'⟩)
      have hcell1 : w.drew.cell? ⟨b, 1, none⟩ = some (.slice ad (avl l).length cap) := by
        have : w.drew.heap[b]? = some (.cells #[c0, .slice ad (avl l).length cap] t (0, 0)) := hc
        rw [Lib.cell_of_heap this]; rfl
      rw [hlen] at hcell1
      have hdrew : w.grownBy w.drew tk.v.ownBlock := ⟨rfl, rfl, rfl, Nat.le_refl _, fun _ _ _ => rfl⟩
      rcases hOwn'.2 with ⟨hv, hn0⟩ | ⟨gb, cap', cur, hv, _, hcur, hnc, hcm, hcsz, htake⟩
      · have he := hv.symm.trans htv'
        simp only [Value.slice.injEq] at he
        obtain ⟨rfl, hl0, rfl⟩ := he
        have hnil : l = [] := List.eq_nil_of_length_eq_zero hl0.symm
        subst hnil
        refine .inl ⟨Lx.enters45, Calls.mono (Tryd.string_nil b w hcell1) ?_⟩
        rintro e w' ⟨rfl, rfl⟩
        exact fin _ hdrew rfl fun i c t fr h => ⟨fr, h⟩
      · have he := hv.symm.trans htv'
        simp only [Value.slice.injEq] at he
        obtain ⟨rfl, _, rfl⟩ := he
        rw [hte] at hcur hcsz
        by_cases hl0 : l = []
        · subst hl0
          by_cases hc0 : cap' = 0
          · subst hc0
            rw [hlen] at hc
            refine .inl ⟨Lx.enters45, Calls.mono (Tryd.string_noroom b gb #[] t c0 w hc cur hcur) ?_⟩
            rintro e w' ⟨rfl, rfl⟩
            refine fin _ ⟨rfl, rfl, rfl, by simp, fun i hi _ => heap_alloc_old w.drew _ hi⟩ rfl fun i c t fr h => ⟨fr, (heap_alloc_old w.drew _ (heap_lt h)).trans h⟩
          · refine .inl ⟨Lx.enters45, Calls.mono (Tryd.string_room b gb cap' w hc0 hcell1) ?_⟩
            rintro e w' ⟨rfl, rfl⟩
            exact fin _ hdrew rfl fun i c t fr h => ⟨fr, h⟩
        · have hne : avl l ≠ [] := by intro q; exact hl0 (by simpa [avl] using q)
          have had := ha hne
          simp only [Option.some.injEq, Addr.mk.injEq] at had
          obtain ⟨rfl, rfl, -⟩ := had
          refine .inl ⟨Lx.enters45, Calls.mono (Tryd.string_row b gb cap' cur l w hl0 hcell1 hcur hcapl hmax (by rw [hcsz, hsz5]; omega) ?_) ?_⟩
          · intro j x hj
            have hjl : j < l.length := (List.getElem?_eq_some_iff.1 hj).1
            have hx : l[j] = x := (List.getElem?_eq_some_iff.1 hj).2
            have h2 := hcl j 0 (by rw [hlen]; exact hjl) (by rw [hsz5]; omega)
            have h3 := hRl j 0 (by rw [hlen]; exact hjl) (by rw [hsz5]; omega)
            rw [hnth j hjl] at h3
            simp only [AV.cells, nth] at h3
            rw [hsz5] at h2
            simp only [Nat.mul_one, Nat.add_zero, Nat.zero_add] at h2
            rw [h2]
            generalize xs j 0 = q at h3
            cases h3
            rw [hx]
          · rintro e w' ⟨rfl, rfl⟩
            have hfz := freeze_same (w.drew) gb l.length
            refine fin _ ⟨hfz.1, hfz.2.1, hfz.2.2.1, Nat.le_of_eq hfz.2.2.2.symm, fun i hi hq => ?_⟩ hfz.2.2.1 fun i c t fr h => ?_
            · rw [hv] at hq
              exact freeze_heap (w := w.drew) i (by rintro rfl; exact hq rfl)
            · by_cases hi : i = gb
              · subst hi
                exact freeze_row (w := w.drew) h
              · exact ⟨fr, (freeze_heap (w := w.drew) i hi).trans h⟩
end Go.AM

namespace Go.AM
open Go.Proofs
set_option maxRecDepth 100000
set_option linter.unusedVariables false

def SE (e : TypeId) (s : List UInt8) (z : Int) (p : AV) (cs : List AV) (m : Mode) (caps : List Int) : St := ⟨[(1, [p, .slice e cs m]), (0, [.str s, .int .i64 z])], 2, caps⟩
/-- A scanner, and a builder. -/
def SB (s : List UInt8) (z : Int) (p : AV) (cs : List AV) (m : Mode) (caps : List Int) : St := ⟨[(1, [p, .slice 5 cs m]), (0, [.str s, .int .i64 z])], 2, caps⟩

theorem Lx.fn42 : FnOk Tryd.prog 42 (fni Tryd.f42 a42) := ⟨⟨Tryd.f42, Tryd.func42, rfl, rfl, rfl, by kernel_rfl⟩, by kernel_rfl⟩
theorem Lx.fn43 : FnOk Tryd.prog 43 (fni Tryd.f43 a43) := ⟨⟨Tryd.f43, Tryd.func43, rfl, rfl, rfl, by kernel_rfl⟩, by kernel_rfl⟩
theorem Lx.fn44 : FnOk Tryd.prog 44 (fni Tryd.f44 a44) := ⟨⟨Tryd.f44, Tryd.func44, rfl, rfl, rfl, by kernel_rfl⟩, by kernel_rfl⟩

theorem write_fresh (s t : List UInt8) (z : Int) (ht : t.length ≤ 1000000000) (K : Out → St → Prop)
    (hK : ∀ n : Int, n = t.length → K (.ret (.tup [.int .i64 n, .nili])) (SB s z (.ptr 1 0) (avl t) (.own 0) [n])) : CallP Tryd.prog (Lx.tab real) 42 [.ptr 1 0, .str t] (SE 0 s z (.tnil 1 62) [] .exact []) K := by
  apply body_calls (un := 0) Lx.tabOk Lx.mixed Lx.fn42 (Nat.le_of_ble_eq_true rfl)
  apply gen_body (mk := Lx.tab)
  intro fail need same call loop len slen arith shift cmp conv eqS ltS cat app elt byt subS subL strOf isB fit inb cut room not and eqB avs G
  have happ : app [] (avs t) = avl t := by rw [G.app', G.avs']; rfl
  have hlen : len (avl t) = (t.length : Int) := by rw [G.len']; simp [avl]
  have hslen : slen t = (t.length : Int) := by rw [G.slen']
  have hroom : room (len (avl t)) 1 = true := by rw [hlen, G.room']; simp; omega
  have hk := hK _ rfl
  generalize (t.length : Int) = n at *
  cbv
  refine GenH.call' G (copy_spec 1 (.tnil 1 62) _ _ rfl (.inl rfl) _ ?_)
  cbv
  rw [happ]
  refine GenH.need' G hroom ?_
  rw [hlen, hslen]
  exact hk

theorem write_used (s t b : List UInt8) (z : Int) (ht : t.length ≤ 1000000000) (hb : b.length ≤ 1000000000) (m : Int) (hm : m = b.length) (K : Out → St → Prop)
    (hK : ∀ n k : Int, n = t.length → k = (b ++ t).length → K (.ret (.tup [.int .i64 n, .nili])) (SB s z (.ptr 1 0) (avl (b ++ t)) (.own 0) [k])) : CallP Tryd.prog (Lx.tab real) 42 [.ptr 1 0, .str t] (SB s z (.ptr 1 0) (avl b) (.own 0) [m]) K := by
  apply body_calls (un := 0) Lx.tabOk Lx.mixed Lx.fn42 (Nat.le_of_ble_eq_true rfl)
  apply gen_body (mk := Lx.tab)
  intro fail need same call loop len slen arith shift cmp conv eqS ltS cat app elt byt subS subL strOf isB fit inb cut room not and eqB avs G
  have happ : app (avl b) (avs t) = avl (b ++ t) := by rw [G.app', G.avs']; simp [avl]
  have hlen : len (avl (b ++ t)) = ((b ++ t).length : Int) := by rw [G.len']; simp [avl]
  have hlen2 : cmp BinOp.eql m (len (avl b)) = true := by rw [G.cmp', G.len', hm]; simp [intRel, avl]
  have hslen : slen t = (t.length : Int) := by rw [G.slen']
  have hroom : room (len (avl (b ++ t))) 1 = true := by rw [hlen, G.room']; simp; omega
  have hk := hK _ _ rfl rfl
  generalize (t.length : Int) = n at *
  generalize ((b ++ t).length : Int) = n2 at *
  generalize avl b = cb at *
  generalize avl (b ++ t) = cbt at *
  cbv
  refine GenH.call' G (copy_spec 1 (.ptr 1 0) _ _ rfl (.inr rfl) _ ?_)
  cbv
  rw [happ]
  refine GenH.need' G hroom ?_
  refine GenH.need' G hlen2 ?_
  rw [hlen, hslen]
  exact hk

theorem byte_used (s b : List UInt8) (z : Int) (x : UInt8) (y : Int) (hy : y = x.toNat) (hb : b.length ≤ 1000000000) (m : Int) (hm : m = b.length) (K : Out → St → Prop)
    (hK : ∀ k : Int, k = (b ++ [x]).length → K (.ret .nili) (SB s z (.ptr 1 0) (avl (b ++ [x])) (.own 0) [k])) : CallP Tryd.prog (Lx.tab real) 43 [.ptr 1 0, .int .u8 y] (SB s z (.ptr 1 0) (avl b) (.own 0) [m]) K := by
  apply body_calls (un := 0) Lx.tabOk Lx.mixed Lx.fn43 (Nat.le_of_ble_eq_true rfl)
  apply gen_body (mk := Lx.tab)
  intro fail need same call loop len slen arith shift cmp conv eqS ltS cat app elt byt subS subL strOf isB fit inb cut room not and eqB avs G
  have happ : app (avl b) [.int .u8 y] = avl (b ++ [x]) := by rw [G.app', hy]; simp [avl]
  have hlen : len (avl (b ++ [x])) = ((b ++ [x]).length : Int) := by rw [G.len']; simp [avl]
  have hlen2 : cmp BinOp.eql m (len (avl b)) = true := by rw [G.cmp', G.len', hm]; simp [intRel, avl]
  have hroom : room (len (avl (b ++ [x]))) 1 = true := by rw [hlen, G.room']; simp; omega
  have hk := hK _ rfl
  generalize ((b ++ [x]).length : Int) = n2 at *
  generalize avl b = cb at *
  generalize avl (b ++ [x]) = cbt at *
  cbv
  refine GenH.call' G (copy_spec 1 (.ptr 1 0) _ _ rfl (.inr rfl) _ ?_)
  cbv
  rw [happ]
  refine GenH.need' G rfl (GenH.need' G hroom (GenH.need' G hlen2 ?_))
  rw [hlen]
  exact hk

theorem len_spec (s b : List UInt8) (z : Int) (p : AV) (m : Mode) (caps : List Int) (K : Out → St → Prop)
    (hK : ∀ k : Int, k = b.length → K (.ret (.int .i64 k)) (SB s z p (avl b) m caps)) : CallP Tryd.prog (Lx.tab real) 44 [.ptr 1 0] (SB s z p (avl b) m caps) K := by
  apply body_calls (un := 0) Lx.tabOk Lx.mixed Lx.fn44 (Nat.le_of_ble_eq_true rfl)
  apply gen_body (mk := Lx.tab)
  intro fail need same call loop len slen arith shift cmp conv eqS ltS cat app elt byt subS subL strOf isB fit inb cut room not and eqB avs G
  have hlen : len (avl b) = (b.length : Int) := by rw [G.len']; simp [avl]
  have hk := hK _ rfl
  generalize (b.length : Int) = n at *
  generalize avl b = cb at *
  cbv
  rw [hlen]
  exact hk
end Go.AM

namespace Go.AM
open Go.Proofs
set_option maxRecDepth 100000
set_option linter.unusedVariables false
theorem Lx.fn34 : FnOk Tryd.prog 34 (fni Tryd.f34 a34) := ⟨⟨Tryd.f34, Tryd.func34, rfl, rfl, rfl, by kernel_rfl⟩, by kernel_rfl⟩
noncomputable def c34 : Code := (fni Tryd.f34 a34).loop 0
noncomputable def c34b : Code := (fni Tryd.f34 a34).loop 1
theorem Lx.c34 : codeOk 83 a34 c34 = true := by kernel_rfl
theorem Lx.c34b : codeOk 83 a34 c34b = true := by kernel_rfl
theorem step34 (K : Ex → Env → St → Prop) (env : Env) (S : St) (h : xcode (pAlg Tryd.prog (Lx.tab real) 83) (Lx.tab real) a34 0 c34 (andThen (LoopP Tryd.prog (Lx.tab real) 83 c34 K) K) env S) : LoopP Tryd.prog (Lx.tab real) 83 c34 K env S :=
  loopP_step Lx.tabOk Lx.mixed Lx.c34 h
theorem step34b (K : Ex → Env → St → Prop) (env : Env) (S : St) (h : xcode (pAlg Tryd.prog (Lx.tab real) 83) (Lx.tab real) a34 0 c34b (andThen (LoopP Tryd.prog (Lx.tab real) 83 c34b K) K) env S) : LoopP Tryd.prog (Lx.tab real) 83 c34b K env S :=
  loopP_step Lx.tabOk Lx.mixed Lx.c34b h

def sDone : List UInt8 := [48, 48, 48, 48, 48]
def sSyntax : List UInt8 := [52, 50, 54, 48, 49]
def goodB (c : UInt8) : Bool := !(decide (c.toNat < 32) || decide (126 < c.toNat))
def stOf (ok : Bool) : List UInt8 := match ok with | true => sDone | false => sSyntax

def envT (part : List UInt8) (ok : Bool) : Env := [(0, .ptr 0 0), (4, .ptr 1 0), (5, .str (stOf ok)), (6, .str part)]
def envT2 (part : List UInt8) (ok : Bool) (n k : Int) : Env := [(0, .ptr 0 0), (4, .ptr 1 0), (5, .str (stOf ok)), (6, .str part), (11, .int .i64 n), (12, .int .i64 k)]

theorem text_inner (part : List UInt8) (hs : part.length ≤ 1000000000) (S : St) (z : Int) (hz : z = part.length) (K : Ex → Env → St → Prop) (n : Nat) :
    ∀ (k : Nat) (y : Int) (ok : Bool), y = k → k + n = part.length → (∀ ok', ok' = (ok && (part.drop k).all goodB) → K (.exit 2) (envT part ok') S) →
      LoopP Tryd.prog (Lx.tab real) 83 c34b (Less K) (envT2 part ok z y) S := by
  induction n with
  | zero =>
    intro k y ok hy hk hK
    have hfin := hK ok (by rw [List.drop_eq_nil_of_le (by omega)]; simp)
    apply step34b
    apply gen_code (mk := Lx.tab)
    intro fail need same call loop len slen arith shift cmp conv eqS ltS cat app elt byt subS subL strOf isB fit inb cut room not and eqB avs G
    have hb : cmp BinOp.lss y z = false := by rw [G.cmp', hz]; simp [intRel]; omega
    generalize LoopP Tryd.prog (Lx.tab real) 83 c34b (Less K) = L at *
    generalize hK' : Less K = K' at *
    generalize hst : stOf ok = st at *
    simp only [envT2, hst]
    cbv
    refine GenH.need' G rfl ?_
    rw [hb]
    cbv
    rw [← hK']
    refine ⟨envT part ok, ?_, hfin⟩
    unfold envT
    rw [hst]
    exact .cons rfl (.cons rfl (.cons rfl (.cons rfl (.nil _))))
  | succ n ih =>
    intro k y ok hy hk hK
    have hlt : k < part.length := by omega
    have hdrop : part.drop k = part[k] :: part.drop (k + 1) := List.drop_eq_getElem_cons hlt
    have hgo : LoopP Tryd.prog (Lx.tab real) 83 c34b (Less K) (envT2 part (ok && goodB part[k]) z (y + 1)) S :=
      ih (k + 1) (y + 1) _ (by omega) (by omega) (fun ok' h => hK ok' (by rw [h, hdrop, List.all_cons, Bool.and_assoc]))
    apply step34b
    apply gen_code (mk := Lx.tab)
    intro fail need same call loop len slen arith shift cmp conv eqS ltS cat app elt byt subS subL strOf isB fit inb cut room not and eqB avs G
    have hb : cmp BinOp.lss y z = true := by rw [G.cmp', hz]; simp [intRel]; omega
    have hin : inb y (slen part) = true := by rw [G.inb', G.slen']; simp; omega
    have hbyt : byt part y = (part[k].toNat : Int) := by rw [G.byt', hy]; simp [List.getD_eq_getElem?_getD, hlt]
    have hone : arith BinOp.add IntKind.i64 y 1 = y + 1 := by rw [G.arith']; exact wrap_i64 _ (by omega) (by omega)
    have h32 : cmp BinOp.lss (byt part y) 32 = decide (part[k].toNat < 32) := by
      rw [G.cmp', hbyt]; simp only [intRel]; rw [Bool.eq_iff_iff]; simp only [decide_eq_true_eq]; omega
    have h126 : cmp BinOp.gtr (byt part y) 126 = decide (126 < part[k].toNat) := by
      rw [G.cmp', hbyt]; simp only [intRel]; rw [Bool.eq_iff_iff]; simp only [decide_eq_true_eq]; omega
    have hg : goodB part[k] = !(decide (part[k].toNat < 32) || decide (126 < part[k].toNat)) := rfl
    generalize hL : LoopP Tryd.prog (Lx.tab real) 83 c34b (Less K) = L at hgo ⊢
    generalize hK' : Less K = K' at hL ⊢
    generalize hst : stOf ok = st
    simp only [envT2, hst]
    cbv
    refine GenH.need' G rfl ?_
    rw [hb]
    cbv
    refine GenH.need' G hin (GenH.need' G rfl ?_)
    rw [h32]
    have hbad : goodB part[k] = false → L (envT2 part false z (y + 1)) S := fun h => by
      have := hgo; rw [h, Bool.and_false] at this; exact this
    have hgood : goodB part[k] = true → L (envT2 part ok z (y + 1)) S := fun h => by
      have := hgo; rw [h, Bool.and_true] at this; exact this
    cases hq : decide (part[k].toNat < 32) with
    | true =>
      have hf := hbad (by rw [hg, hq]; rfl)
      cbv
      refine GenH.need' G rfl ?_
      rw [hone]
      rw [← hL] at hf ⊢
      exact LoopP.weak (.cons rfl (.cons rfl (.cons rfl (.cons rfl (.cons rfl (.cons rfl (.nil _))))))) hf
    | false =>
      cbv
      refine GenH.need' G hin (GenH.need' G rfl ?_)
      rw [h126]
      cases hp : decide (126 < part[k].toNat) with
      | true =>
        have hf := hbad (by rw [hg, hq, hp]; rfl)
        cbv
        refine GenH.need' G rfl ?_
        rw [hone]
        rw [← hL] at hf ⊢
        exact LoopP.weak (.cons rfl (.cons rfl (.cons rfl (.cons rfl (.cons rfl (.cons rfl (.nil _))))))) hf
      | false =>
        have hf := hgood (by rw [hg, hq, hp]; rfl)
        unfold envT2 at hf
        rw [hst] at hf
        cbv
        refine GenH.need' G rfl ?_
        rw [hone]
        rw [← hL] at hf ⊢
        exact LoopP.weak (.cons rfl (.cons rfl (.cons rfl (.cons rfl (.cons rfl (.cons rfl (.nil _))))))) hf
end Go.AM

namespace Go.AM
open Go.Proofs
set_option maxRecDepth 100000
set_option linter.unusedVariables false

theorem EnvLe.refl (env : Env) : EnvLe env env := fun _ => .inr rfl

def notQ (b : UInt8) : Bool := b != 39

def Writable (b : List UInt8) (e : TypeId) (p : AV) (cs : List AV) (m : Mode) (caps : List Int) : Prop :=
  ∀ (s : List UInt8) (z : Int) (t : List UInt8), t.length ≤ 1000000000 → ∀ K : Out → St → Prop,
    (∀ n k : Int, n = t.length → k = (b ++ t).length → K (.ret (.tup [.int .i64 n, .nili])) (SB s z (.ptr 1 0) (avl (b ++ t)) (.own 0) [k])) →
    CallP Tryd.prog (Lx.tab real) 42 [.ptr 1 0, .str t] (SE e s z p cs m caps) K

theorem writable_fresh : Writable [] 0 (.tnil 1 62) [] .exact [] := fun s z t ht K hK =>
  write_fresh s t z ht K fun n hn => hK n n hn (by rw [hn]; rfl)

theorem writable_used (b : List UInt8) (hb : b.length ≤ 1000000000) (m : Int) (hm : m = b.length) : Writable b 5 (.ptr 1 0) (avl b) (.own 0) [m] := fun s z t ht K hK =>
  write_used s t b z ht hb m hm K hK

/-- A text's bytes, from behind its sign on: nothing if it does not end. -/
def txtN (s : List UInt8) : Nat → Nat → List UInt8 → Bool → Option (List UInt8 × Bool × Nat)
  | 0, _, _, _ => none
  | n + 1, i, b, ok => match decide (scan notQ s i = s.length) with
    | true => none
    | false => match decide (scan notQ s i + 1 = s.length) || s.getD (scan notQ s i + 1) 0 != 39 with
      | true => some (b ++ (s.drop i).takeWhile notQ, ok && ((s.drop i).takeWhile notQ).all goodB, scan notQ s i + 1)
      | false => txtN s n (scan notQ s i + 2) (b ++ (s.drop i).takeWhile notQ ++ [39]) (ok && ((s.drop i).takeWhile notQ).all goodB)

def envX (ok : Bool) : Env := [(0, .ptr 0 0), (4, .ptr 1 0), (5, .str (stOf ok))]
def envR : Env := [(2, .str []), (3, .str sSyntax)]

theorem text_loop (s : List UInt8) (hs : s.length ≤ 1000000) (K : Ex → Env → St → Prop) (n : Nat) :
    ∀ (i : Nat) (z : Int) (b : List UInt8) (ok : Bool) (e : TypeId) (p : AV) (cs : List AV) (m : Mode) (caps : List Int), z = i → i ≤ s.length → s.length - i < n → b.length ≤ 2 * i → Writable b e p cs m caps →
      (∀ b' ok' (i' : Nat) (z' k' : Int), txtN s n i b ok = some (b', ok', i') → z' = i' → k' = b'.length → K (.exit 0) (envX ok') (SB s z' (.ptr 1 0) (avl b') (.own 0) [k'])) →
      (∀ (z' : Int) p' cs' m' caps', txtN s n i b ok = none → z' = s.length → K .ret envR (SB s z' p' cs' m' caps')) →
      LoopP Tryd.prog (Lx.tab real) 83 c34 (Less K) (envX ok) (SE e s z p cs m caps) := by
  induction n with
  | zero => intro i z b ok e p cs m caps hz hi hn; omega
  | succ n ih =>
    intro i z b ok e p cs m caps hz hi hn hb2 hw hK1 hK2
    obtain ⟨j, hj⟩ : ∃ j, scan notQ s i = j := ⟨_, rfl⟩
    obtain ⟨part, hpart⟩ : ∃ part, (s.drop i).takeWhile notQ = part := ⟨_, rfl⟩
    have hjb := scan_le notQ s i hi
    have hjp : j = i + part.length := by rw [← hj, ← hpart]; rfl
    rw [hj] at hjb
    simp only [txtN, hj, hpart] at hK1 hK2
    have hpl : part.length ≤ 1000000 := by omega
    have hrec : ∀ (x : Int) (ok' : Bool) (k : Int), j + 1 < s.length → (decide (j = s.length)) = false → (decide (j + 1 = s.length) || s.getD (j + 1) 0 != 39) = false → ok' = (ok && part.all goodB) → x = j + 2 → k = (b ++ part ++ [39]).length →
        LoopP Tryd.prog (Lx.tab real) 83 c34 (Less K) (envX ok') (SB s x (.ptr 1 0) (avl (b ++ part ++ [39])) (.own 0) [k]) := by
      intro x ok' k h1 h2 h3 h4 hx hk
      rw [h2, h3] at hK1 hK2
      subst h4
      refine ih (j + 2) x _ _ 5 _ _ _ _ hx (by omega) (by omega) ?_ (writable_used _ ?_ _ hk) hK1 hK2
      · simp; omega
      · simp; omega
    have hend : ∀ (x : Int), j = s.length → x = j → ∀ p' cs' m' caps', K .ret envR (SB s x p' cs' m' caps') := fun x h1 hx p' cs' m' caps' =>
      hK2 x p' cs' m' caps' (by rw [decide_eq_true h1]) (by rw [hx, h1])
    have hout : ∀ (ok' : Bool) (x k : Int), j < s.length → (decide (j + 1 = s.length) || s.getD (j + 1) 0 != 39) = true → ok' = (ok && part.all goodB) → x = j + 1 → k = (b ++ part).length →
        K (.exit 0) (envX ok') (SB s x (.ptr 1 0) (avl (b ++ part)) (.own 0) [k]) := by
      intro ok' x k h1 h3 h4 hx hk
      have h2 : decide (j = s.length) = false := by simp; omega
      refine hK1 _ _ (j + 1) x k ?_ (by omega) hk
      rw [h2, h3, h4]
    apply step34
    apply gen_code (mk := Lx.tab)
    intro fail need same call loop len slen arith shift cmp conv eqS ltS cat app elt byt subS subL strOf isB fit inb cut room not and eqB avs G
    generalize hL : LoopP Tryd.prog (Lx.tab real) 83 c34 (Less K) = L at *
    generalize hK' : Less K = K' at *
    have hslp : slen part = (part.length : Int) := by rw [G.slen']
    obtain ⟨pl, hpl'⟩ : ∃ pl : Int, pl = part.length := ⟨_, rfl⟩
    rw [← hpl'] at hslp
    have hsls : slen s = (s.length : Int) := by rw [G.slen']
    obtain ⟨sl, hsl'⟩ : ∃ sl : Int, sl = s.length := ⟨_, rfl⟩
    rw [← hsl'] at hsls
    -- what is asked behind the part
    have hmore : ∀ y : Int, y = j → cmp BinOp.eql y sl = decide (j = s.length) := fun y hy => by
      rw [G.cmp']; simp only [intRel]; rw [Bool.eq_iff_iff]; simp only [beq_iff_eq, decide_eq_true_eq]; omega
    have hadd : ∀ y : Int, y = j → arith BinOp.add IntKind.i64 y 1 = y + 1 := fun y hy => by rw [G.arith']; exact wrap_i64 _ (by omega) (by omega)
    have hadd2 : ∀ y : Int, y = j → arith BinOp.add IntKind.i64 (y + 1) 1 = y + 2 := fun y hy => by rw [G.arith', show y + 2 = y + 1 + 1 by omega]; exact wrap_i64 _ (by omega) (by omega)
    have hmore2 : ∀ y : Int, y = j → cmp BinOp.eql (y + 1) sl = decide (j + 1 = s.length) := fun y hy => by
      rw [G.cmp']; simp only [intRel]; rw [Bool.eq_iff_iff]; simp only [beq_iff_eq, decide_eq_true_eq]; omega
    have hin : ∀ y : Int, y = j → j + 1 < s.length → inb (y + 1) sl = true := fun y hy h => by rw [G.inb']; simp; omega
    have hq : ∀ y : Int, y = j → j + 1 < s.length → cmp BinOp.neq (byt s (y + 1)) 39 = (s.getD (j + 1) 0 != 39) := fun y hy h => by
      have : byt s (y + 1) = ((s.getD (j + 1) 0).toNat : Int) := by rw [G.byt']; simp only []; rw [show (y + 1).toNat = j + 1 by omega]
      rw [G.cmp', this]
      exact neb _ 39
    simp only [envX]
    generalize hst : stOf ok = st
    cbv
    refine GenH.call' G (while_at 41 notQ asks41 s (by omega) i z hz hi _ 0 (Nat.zero_lt_succ 1) rfl _ fun y hy => ?_)
    rw [hj] at hy
    rw [hpart]
    cbv
    rw [hslp]
    refine GenH.loop' G ?_
    change LoopP Tryd.prog (Lx.tab real) 83 c34b _ _ _
    refine LoopP.relax (LoopP.weak (env' := [(0, .ptr 0 0), (4, .ptr 1 0), (5, .str st), (6, .str part), (11, .int .i64 pl), (12, .int .i64 0)]) (.cons rfl (.cons rfl (.cons rfl (.cons rfl (.cons rfl (.cons rfl (.nil _))))))) ?_)
    have hinner := fun Kx h => text_inner part (by omega) (SE e s y p cs m caps) pl hpl' Kx part.length 0 0 ok rfl (by omega) h
    unfold envT2 at hinner
    rw [hst] at hinner
    refine hinner _ fun ok' hok' => ?_
    rw [List.drop_zero] at hok'
    have hY := hmore y hy
    have hA := hadd y hy
    have hA2 := hadd2 y hy
    have hM2 := hmore2 y hy
    have hE := hend y
    generalize hst' : stOf ok' = st'
    simp only [envT, hst']
    cbv
    refine GenH.call' G (hw s y part (by omega) _ fun n1 k1 hn1 hk1 => ?_)
    have hn39 : (39 : Int) = ((39 : UInt8).toNat : Int) := rfl
    have hbl : (b ++ part).length ≤ 1000000000 := by simp; omega
    have hex : decide (j = s.length) = false → (decide (j + 1 = s.length) || s.getD (j + 1) 0 != 39) = true → K (.exit 0) [(0, .ptr 0 0), (4, .ptr 1 0), (5, .str st')] (SB s (y + 1) (.ptr 1 0) (avl (b ++ part)) (.own 0) [k1]) := fun h1 h2 => by
      have := hout ok' (y + 1) k1 (by have := of_decide_eq_false h1; omega) h2 hok' (by omega) hk1
      unfold envX at this
      rw [hst'] at this
      exact this
    have hgo : decide (j = s.length) = false → decide (j + 1 = s.length) = false → (s.getD (j + 1) 0 != 39) = false → ∀ k2 : Int, k2 = (b ++ part ++ [39]).length →
        L [(0, .ptr 0 0), (4, .ptr 1 0), (5, .str st')] (SB s (y + 2) (.ptr 1 0) (avl (b ++ part ++ [39])) (.own 0) [k2]) := fun h1 h2 h3 k2 hk2 => by
      have h1' := of_decide_eq_false h1
      have h2' := of_decide_eq_false h2
      have := hrec (y + 2) ok' k2 (by omega) h1 (by rw [h2, h3]; rfl) hok' (by omega) hk2
      unfold envX at this
      rw [hst'] at this
      exact this
    have hI : decide (j = s.length) = false → decide (j + 1 = s.length) = false → inb (y + 1) sl = true := fun h1 h2 => by
      have h1' := of_decide_eq_false h1
      have h2' := of_decide_eq_false h2
      exact hin y hy (by omega)
    have hQ : decide (j = s.length) = false → decide (j + 1 = s.length) = false → cmp BinOp.neq (byt s (y + 1)) 39 = (s.getD (j + 1) 0 != 39) := fun h1 h2 => by
      have h1' := of_decide_eq_false h1
      have h2' := of_decide_eq_false h2
      exact hq y hy (by omega)
    clear hmore hadd hadd2 hmore2 hin hq hend hout hrec hK1 hK2 ih
    generalize hdj : decide (j = s.length) = dj at *
    generalize hdj2 : decide (j + 1 = s.length) = dj2 at *
    generalize hdq : (s.getD (j + 1) 0 != 39) = dq at *
    have hE' : dj = true → K .ret [(2, .str []), (3, .str [52, 50, 54, 48, 49])] (SB s y (.ptr 1 0) (avl (b ++ part)) (.own 0) [k1]) := fun h => hE (of_decide_eq_true (hdj.trans h)) hy _ _ _ _
    have hwb : ∀ Kx : Out → St → Prop, (∀ k2 : Int, k2 = (b ++ part ++ [39]).length → Kx (.ret .nili) (SB s (y + 1) (.ptr 1 0) (avl (b ++ part ++ [39])) (.own 0) [k2])) →
        CallP Tryd.prog (Lx.tab real) 43 [.ptr 1 0, .int .u8 39] (SB s (y + 1) (.ptr 1 0) (avl (b ++ part)) (.own 0) [k1]) Kx := fun Kx h => byte_used s (b ++ part) (y + 1) 39 39 rfl hbl k1 hk1 Kx h
    generalize avl (b ++ part ++ [39]) = cbq at *
    generalize avl (b ++ part) = cbp at *
    generalize hy1 : y + 1 = y1 at *
    generalize hy2 : y + 2 = y2 at *
    cbv
    refine GenH.need' G rfl ?_
    rw [hsls, hY]
    cases dj with
    | true =>
      have := hE' rfl
      cbv
      rw [← hK']
      exact ⟨[(2, .str []), (3, .str [52, 50, 54, 48, 49])], .cons rfl (.cons rfl (.nil _)), this⟩
    | false =>
      have hI := hI rfl
      have hQ := hQ rfl
      have hex := hex rfl
      have hgo := hgo rfl
      cbv
      refine GenH.need' G rfl ?_
      rw [hA]
      refine GenH.need' G rfl ?_
      rw [hsls, hM2]
      cases dj2 with
      | true =>
        have := hex rfl
        cbv
        rw [← hK']
        exact ⟨[(0, .ptr 0 0), (4, .ptr 1 0), (5, .str st')], .cons rfl (.cons rfl (.cons rfl (.nil _))), this⟩
      | false =>
        have hI := hI rfl
        have hQ := hQ rfl
        have hgo := hgo rfl
        cbv
        rw [hsls]
        refine GenH.need' G hI (GenH.need' G rfl ?_)
        rw [hQ]
        cases dq with
        | true =>
          have := hex rfl
          cbv
          rw [← hK']
          exact ⟨[(0, .ptr 0 0), (4, .ptr 1 0), (5, .str st')], .cons rfl (.cons rfl (.cons rfl (.nil _))), this⟩
        | false =>
          have hgo := hgo rfl
          cbv
          refine GenH.call' G (hwb _ fun k2 hk2 => ?_)
          have hgo := hgo k2 hk2
          cbv
          refine GenH.need' G rfl ?_
          rw [hA2]
          rw [← hL] at hgo ⊢
          exact LoopP.weak (env' := [(0, .ptr 0 0), (4, .ptr 1 0), (5, .str st')]) (.cons rfl (.cons rfl (.cons rfl (.nil _)))) hgo
end Go.AM

namespace Go.AM
open Go.Proofs
set_option maxRecDepth 100000
set_option linter.unusedVariables false

def sTooLong : List UInt8 := [50, 50, 48, 48, 49]

def textSt (b : List UInt8) (ok : Bool) : List UInt8 := match ok with
  | true => match decide (400 < b.length) with
    | true => sTooLong
    | false => sDone
  | false => sSyntax

/-- A text: its bytes, how it went, where it ends. -/
def textR (s : List UInt8) (i : Nat) : List UInt8 × List UInt8 × Nat := match txtN s (s.length + 1) i [] true with
  | none => ([], sSyntax, s.length)
  | some (b, ok, j) => (b, textSt b ok, j)

def TextOut (s : List UInt8) (i : Nat) (out : Out) (S' : St) : Prop :=
  ∃ y : Int, y = (textR s i).2.2 ∧ out = .ret (.tup [.str (textR s i).1, .str (textR s i).2.1]) ∧ 1 ≤ S'.next ∧ S'.row 0 = [.str s, .int .i64 y]

theorem txtN_len (s : List UInt8) (n : Nat) : ∀ (i : Nat) (b : List UInt8) (ok : Bool) (b' : List UInt8) (ok' : Bool) (j : Nat), i ≤ s.length → b.length ≤ 2 * i → txtN s n i b ok = some (b', ok', j) → b'.length ≤ 2 * j ∧ j ≤ s.length ∧ i < j := by
  induction n with
  | zero => intro i b ok b' ok' j _ _ h; cases h
  | succ n ih =>
    intro i b ok b' ok' j hi hb h
    have hjb := scan_le notQ s i hi
    have hjp : scan notQ s i = i + ((s.drop i).takeWhile notQ).length := rfl
    unfold txtN at h
    cases h1 : decide (scan notQ s i = s.length) with
    | true => rw [h1] at h; cases h
    | false =>
      rw [h1] at h
      have h1' := of_decide_eq_false h1
      cases h2 : (decide (scan notQ s i + 1 = s.length) || s.getD (scan notQ s i + 1) 0 != 39) with
      | true =>
        rw [h2] at h
        simp only [Option.some.injEq, Prod.mk.injEq] at h
        obtain ⟨rfl, rfl, rfl⟩ := h
        refine ⟨?_, by omega, by omega⟩
        simp; omega
      | false =>
        rw [h2] at h
        simp only [Bool.or_eq_false_iff] at h2
        have h3 := of_decide_eq_false h2.1
        have := ih (scan notQ s i + 2) _ _ b' ok' j (by omega) (by simp; omega) h
        omega

theorem text_spec (s : List UInt8) (hs : s.length ≤ 1000000) (i : Nat) (z : Int) (hz : z = i) (hi : i ≤ s.length) : CallP Tryd.prog (Lx.tab real) 34 [.ptr 0 0] (S1 s z) (TextOut s i) := by
  apply body_calls (un := 0) Lx.tabOk Lx.mixed Lx.fn34 (Nat.le_of_ble_eq_true rfl)
  apply gen_body (mk := Lx.tab)
  intro fail need same call loop len slen arith shift cmp conv eqS ltS cat app elt byt subS subL strOf isB fit inb cut room not and eqB avs G
  have hloop := fun K => text_loop s hs K (s.length + 1) i z [] true 0 (.tnil 1 62) [] .exact [] hz hi (by omega) (by simp) writable_fresh
  have hnone : txtN s (s.length + 1) i [] true = none → ∀ (z' : Int) S', z' = s.length → 1 ≤ S'.next → S'.row 0 = [.str s, .int .i64 z'] → TextOut s i (.ret (.tup [.str [], .str sSyntax])) S' := fun h z' S' hz' h1 h2 => by
    unfold TextOut textR
    rw [h]
    exact ⟨z', hz', rfl, h1, h2⟩
  have hsome : ∀ b ok (j : Nat), txtN s (s.length + 1) i [] true = some (b, ok, j) → ∀ (z' : Int) S', z' = j → 1 ≤ S'.next → S'.row 0 = [.str s, .int .i64 z'] → TextOut s i (.ret (.tup [.str b, .str (textSt b ok)])) S' := fun b ok j h z' S' hz' h1 h2 => by
    unfold TextOut textR
    rw [h]
    exact ⟨z', hz', rfl, h1, h2⟩
  have hD : eqS sDone [48, 48, 48, 48, 48] = true := by rw [G.eqS']; rfl
  have hX : eqS sSyntax [48, 48, 48, 48, 48] = false := by rw [G.eqS']; rfl
  have hgt : ∀ (b : List UInt8) (k : Int), k = b.length → cmp BinOp.gtr k 400 = decide (400 < b.length) := fun b k hk => by
    rw [G.cmp']; simp only [intRel]; rw [Bool.eq_iff_iff]; simp only [decide_eq_true_eq]; omega
  generalize TextOut s i = TO at *
  generalize htx : txtN s (s.length + 1) i [] true = tx at *
  cbv
  refine GenH.loop' G ?_
  change LoopP Tryd.prog (Lx.tab real) 83 c34 _ _ _
  refine LoopP.relax (LoopP.weak (env' := [(0, .ptr 0 0), (4, .ptr 1 0), (5, .str sDone)]) (.cons rfl (.cons rfl (.cons rfl (.nil _)))) ?_)
  refine hloop _ ?_ ?_
  · intro b' ok' i' z' k' h hz0 hk0
    have hz' : z' = (i' : Int) := hz0
    have hk' : k' = (b'.length : Int) := hk0
    clear hz0 hk0
    have hs2 := hsome b' ok' i' h z'
    have hg2 := hgt b' k' hk'
    have hstr := fun K => string_spec 1 0 (.ptr 1 0) b' (SB s z' (.ptr 1 0) (avl b') (.own 0) [k']) rfl hk' K
    have hlen : ∀ K : Out → St → Prop, K (.ret (.int .i64 k')) (SB s z' (.ptr 1 0) (avl b') (.own 0) [k']) → CallP Tryd.prog (Lx.tab real) 44 [.ptr 1 0] (SB s z' (.ptr 1 0) (avl b') (.own 0) [k']) K :=
      fun K h => len_spec s b' z' (.ptr 1 0) (.own 0) [k'] K fun k hk => by rw [hk, ← hk']; exact h
    generalize avl b' = cb at *
    cases ok' with
    | false =>
      have hfin := fun S' => hs2 S' hz'
      have he : textSt b' false = sSyntax := rfl
      rw [he] at hfin
      simp only [envX, stOf]
      generalize hS : sSyntax = SS at *
      cbv
      rw [hX]
      cbv
      refine GenH.call' G (hstr _ ?_)
      cbv
      exact hfin _ (Nat.le_of_ble_eq_true rfl) rfl
    | true =>
      have hfin := fun S' => hs2 S' hz'
      have he : textSt b' true = match decide (400 < b'.length) with
        | true => sTooLong
        | false => sDone := rfl
      rw [he] at hfin
      simp only [envX, stOf]
      generalize hdl : decide (400 < b'.length) = dl at *
      generalize hS : sDone = SS at *
      cbv
      rw [hD]
      cbv
      refine GenH.call' G (hlen _ ?_)
      cbv
      refine GenH.need' G rfl ?_
      rw [hg2]
      cases dl with
      | true =>
        cbv
        refine GenH.call' G (hstr _ ?_)
        cbv
        exact hfin _ (Nat.le_of_ble_eq_true rfl) rfl
      | false =>
        cbv
        refine GenH.call' G (hstr _ ?_)
        cbv
        exact hfin _ (Nat.le_of_ble_eq_true rfl) rfl
  · intro z' p' cs' m' caps' h hz'
    have hn := fun S' => hnone h z' S' hz'
    cbv
    exact hn _ (Nat.le_of_ble_eq_true rfl) rfl

theorem text_at (s : List UInt8) (hs : s.length ≤ 1000000) (i : Nat) (z : Int) (hz : z = i) (hi : i ≤ s.length) (S : St) (o : Nat) (ho : o < S.next) (hrow : S.row o = [.str s, .int .i64 z]) (K : Out → St → Prop)
    (hK : ∀ y : Int, y = (textR s i).2.2 → K (.ret (.tup [.str (textR s i).1, .str (textR s i).2.1])) (S.set o [.str s, .int .i64 y])) : CallP Tryd.prog (Lx.tab real) 34 [.ptr o 0] S K := by
  have hptr : one o 0 o = some 0 := one_iff.2 ⟨rfl, rfl⟩
  refine frame1 (K0 := TextOut s i) ho (by rw [hrow]; simp) ?_ ?_
  · rw [hrow]
    simp only [renL, AV.ren, hptr]
    exact text_spec s hs i z hz hi
  · rintro out S' ⟨y, hy, rfl, h1, h2⟩
    refine ⟨h1, ?_⟩
    rw [h2]
    exact hK y hy
end Go.AM
