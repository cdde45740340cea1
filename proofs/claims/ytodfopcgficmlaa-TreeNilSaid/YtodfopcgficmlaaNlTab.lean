/- The program's tables; two rows do not overlap; lists; a code is cut. -/
import Derived.Test.YtodfopcgficmlaaAmD
import Derived.Test.YtodfopcgficmlaaChecked
import Derived.Lib.Overlaps
set_option maxRecDepth 100000
set_option linter.unusedVariables false
namespace Go.AM
open Go.Proofs
def Tr.tree : TyTree :=
 (.node 55 (.struct [(0, 1), (1, 1), (2, 1)] [.p, .i .i64, .i .i64]) 24
  (.node 26 (.int .i64) 8
   (.node 13 (.struct [(0, 1), (1, 1)] [.s, .i .u64]) 24
    (.node 7 (.struct [(0, 1), (1, 1), (2, 1), (3, 1)] [.i .i64, .i .i64, .b, .i .u8]) 24
     (.node 4 .bool 1
      (.node 2 (.int .i64) 8
       (.node 1 .func 8 .leaf .leaf)
       (.node 3 (.int .i64) 8 .leaf .leaf))
      (.node 6 (.int .u8) 1
       (.node 5 (.int .u8) 1 .leaf .leaf)
       .leaf))
     (.node 10 .str 16
      (.node 9 .str 16
       (.node 8 (.struct [(0, 1), (1, 1), (2, 1), (3, 1)] [.i .i64, .i .i64, .b, .i .u8]) 24 .leaf .leaf)
       .leaf)
      (.node 12 (.int .u64) 8
       (.node 11 .str 16 .leaf .leaf)
       .leaf)))
    (.node 20 .iface 16
     (.node 17 .ptr 8
      (.node 15 .ptr 8
       (.node 14 (.struct [(0, 1), (1, 1)] [.s, .i .u64]) 24 .leaf .leaf)
       (.node 16 .ptr 8 .leaf .leaf))
      (.node 19 (.struct [(0, 1)] [.p]) 8
       (.node 18 (.struct [(0, 1)] [.p]) 8 .leaf .leaf)
       .leaf))
     (.node 23 .ptr 8
      (.node 22 (.slice 9) 24
       (.node 21 (.int .i32) 4 .leaf .leaf)
       .leaf)
      (.node 25 .func 8
       (.node 24 .func 8 .leaf .leaf)
       .leaf))))
   (.node 42 (.struct [(0, 1)] [.l]) 24
    (.node 36 .func 8
     (.node 32 .func 8
      (.node 29 .func 8
       (.node 27 .func 8 .leaf .leaf)
       (.node 31 .func 8 .leaf .leaf))
      (.node 35 .func 8
       (.node 33 .func 8 .leaf .leaf)
       .leaf))
     (.node 39 .ptr 8
      (.node 38 (.slice 45) 24
       (.node 37 .func 8 .leaf .leaf)
       .leaf)
      (.node 41 (.struct [(0, 1)] [.l]) 24
       (.node 40 (.slice 68) 24 .leaf .leaf)
       .leaf)))
    (.node 49 .ptr 8
     (.node 46 .func 8
      (.node 44 (.struct [(0, 1), (1, 1), (2, 1), (3, 1), (4, 1)] [.i .i64, .i .i64, .s, .b, .b]) 40
       (.node 43 .func 8 .leaf .leaf)
       (.node 45 (.struct [(0, 1), (1, 1), (2, 1), (3, 1), (4, 1)] [.i .i64, .i .i64, .s, .b, .b]) 40 .leaf .leaf))
      (.node 48 .func 8
       (.node 47 .func 8 .leaf .leaf)
       .leaf))
     (.node 52 (.struct [(0, 1), (1, 1), (2, 1)] [.l, .l, .l]) 72
      (.node 51 (.slice 49) 24
       (.node 50 (.slice 59) 24 .leaf .leaf)
       .leaf)
      (.node 54 (.struct [(0, 1), (1, 1), (2, 1)] [.p, .i .i64, .i .i64]) 24
       (.node 53 (.struct [(0, 1), (1, 1), (2, 1)] [.l, .l, .l]) 72 .leaf .leaf)
       .leaf)))))
  (.node 83 .func 8
   (.node 70 .func 8
    (.node 64 .func 8
     (.node 59 (.struct [(0, 1), (1, 1), (2, 1)] [.s, .i .i64, .b]) 32
      (.node 57 .func 8
       (.node 56 .ptr 8 .leaf .leaf)
       (.node 58 (.struct [(0, 1), (1, 1), (2, 1)] [.s, .i .i64, .b]) 32 .leaf .leaf))
      (.node 63 .func 8
       (.node 61 .func 8 .leaf .leaf)
       .leaf))
     (.node 67 (.struct [(0, 1), (1, 1), (2, 1)] [.s, .i .i64, .b]) 32
      (.node 66 .func 8
       (.node 65 .func 8 .leaf .leaf)
       .leaf)
      (.node 69 (.slice 5) 24
       (.node 68 (.struct [(0, 1), (1, 1), (2, 1)] [.s, .i .i64, .b]) 32 .leaf .leaf)
       .leaf)))
    (.node 77 .ptr 8
     (.node 74 .func 8
      (.node 72 .func 8
       (.node 71 .func 8 .leaf .leaf)
       (.node 73 .func 8 .leaf .leaf))
      (.node 76 .func 8
       (.node 75 .func 8 .leaf .leaf)
       .leaf))
     (.node 80 .func 8
      (.node 79 .func 8
       (.node 78 .func 8 .leaf .leaf)
       .leaf)
      (.node 82 .func 8
       (.node 81 .func 8 .leaf .leaf)
       .leaf))))
   (.node 96 (.struct [(0, 1), (1, 1), (2, 1), (3, 1)] [.p, .p, .p, .s]) 40
    (.node 90 .func 8
     (.node 87 .func 8
      (.node 85 .func 8
       (.node 84 .func 8 .leaf .leaf)
       (.node 86 .func 8 .leaf .leaf))
      (.node 89 (.int .u64) 8
       (.node 88 .func 8 .leaf .leaf)
       .leaf))
     (.node 93 .func 8
      (.node 92 .func 8
       (.node 91 .func 8 .leaf .leaf)
       .leaf)
      (.node 95 .func 8
       (.node 94 .func 8 .leaf .leaf)
       .leaf)))
    (.node 104 .func 8
     (.node 101 (.int .u32) 4
      (.node 98 (.array 0 16 []) 0
       (.node 97 (.struct [(0, 1), (1, 1), (2, 1), (3, 1)] [.p, .p, .p, .s]) 40 .leaf .leaf)
       .leaf)
      (.node 103 (.int .u8) 1
       (.node 102 (.int .u8) 1 .leaf .leaf)
       .leaf))
     (.node 107 (.int .i32) 4
      (.node 106 (.int .i32) 4
       (.node 105 .ptr 8 .leaf .leaf)
       .leaf)
      (.node 109 (.struct [(0, 1), (1, 1), (2, 1), (3, 1), (4, 1), (5, 1), (6, 1), (7, 1), (8, 1), (9, 1), (10, 1)] [.i .u64, .i .u64, .i .u32, .i .u8, .i .u8, .i .u8, .i .u8, .f, .p, .i .i32, .i .i32]) 48
       (.node 108 (.struct [(0, 1), (1, 1), (2, 1), (3, 1), (4, 1), (5, 1), (6, 1), (7, 1), (8, 1), (9, 1), (10, 1)] [.i .u64, .i .u64, .i .u32, .i .u8, .i .u8, .i .u8, .i .u8, .f, .p, .i .i32, .i .i32]) 48 .leaf .leaf)
       .leaf))))))
def Tr.a3 : List (Nat × Ann) := [(8, ⟨[0, 1, 2, 3, 4, 5, 6, 7, 8, 9, 10], []⟩), (12, ⟨[0, 1, 2, 3, 4, 5, 6, 7, 8, 9, 10], []⟩)]
def Tr.a4 : List (Nat × Ann) := []
def Tr.a5 : List (Nat × Ann) := []
def Tr.a6 : List (Nat × Ann) := []
def Tr.a7 : List (Nat × Ann) := []
def Tr.a8 : List (Nat × Ann) := []
def Tr.a9 : List (Nat × Ann) := []
def Tr.a10 : List (Nat × Ann) := []
def Tr.a11 : List (Nat × Ann) := [(11, ⟨[0, 1, 2, 3, 4, 5, 6, 7, 8, 9], []⟩)]
def Tr.a12 : List (Nat × Ann) := [(3, ⟨[0, 1, 2, 3, 4, 5, 6, 7, 8, 9], []⟩)]
def Tr.a13 : List (Nat × Ann) := []
def Tr.a14 : List (Nat × Ann) := []
def Tr.a15 : List (Nat × Ann) := [(6, ⟨[0, 1, 2, 3, 4, 5, 6, 7, 8, 9, 10], []⟩)]
def Tr.a16 : List (Nat × Ann) := []
def Tr.a17 : List (Nat × Ann) := []
def Tr.a18 : List (Nat × Ann) := [(3, ⟨[0, 1, 2, 3, 4, 5, 6, 7, 8, 9, 10, 11, 12, 13, 14, 15], [(11, [3])]⟩), (6, ⟨[0, 1, 2, 3, 5, 6, 7, 8, 4, 9, 10, 11], [(4, [8])]⟩)]
def Tr.a19 : List (Nat × Ann) := []
def Tr.a20 : List (Nat × Ann) := []
def Tr.a21 : List (Nat × Ann) := [(3, ⟨[0, 1, 2, 3, 4, 5, 6, 7, 8, 9], [(6, [3])]⟩)]
def Tr.a22 : List (Nat × Ann) := [(3, ⟨[0, 1, 2, 3, 4, 5, 6, 7, 8, 9, 10, 11], []⟩), (5, ⟨[0, 1, 2, 3, 4, 5, 6, 7, 8, 9, 10, 11, 12, 13], []⟩)]
def Tr.a23 : List (Nat × Ann) := []
def Tr.a24 : List (Nat × Ann) := [(2, ⟨[0, 1, 2, 3, 4, 5, 6, 7, 8, 9, 10, 11, 12, 13, 14, 15, 16, 17, 18, 19, 20, 21], []⟩)]
def Tr.a25 : List (Nat × Ann) := []
def Tr.a26 : List (Nat × Ann) := [(8, ⟨[0, 1, 2, 3, 4, 5, 6, 7, 8, 9, 10, 11, 12, 13, 14, 15, 16, 17, 18, 19, 20, 21, 22], []⟩), (12, ⟨[0, 1, 2, 3, 4, 5, 6, 7, 8, 9, 10, 11, 12, 13, 14, 15, 16, 17, 18, 19, 20, 21, 22, 23, 24, 25, 26, 27], []⟩), (18, ⟨[0, 1, 2, 3], []⟩), (24, ⟨[0, 1, 2, 3, 4, 5, 6, 7, 8, 9, 10, 11, 12, 13, 14, 15, 16, 17, 18, 19, 20, 21, 22, 23, 24, 25, 26, 27, 28, 29, 30, 31, 32, 33, 34, 35, 36, 37, 38, 39, 40, 41, 42, 43, 44, 45, 46, 47, 48, 49, 50, 51, 52, 53], []⟩)]
def Tr.a27 : List (Nat × Ann) := []
def Tr.a28 : List (Nat × Ann) := []
def Tr.a29 : List (Nat × Ann) := []
def Tr.a30 : List (Nat × Ann) := []
def Tr.a31 : List (Nat × Ann) := [(4, ⟨[0, 1, 2, 3, 4, 5, 6, 7, 8, 9, 10, 11, 12, 13, 14, 15, 16, 17, 18], []⟩)]
def Tr.a32 : List (Nat × Ann) := [(6, ⟨[0, 1, 2, 3, 4, 5, 6, 7, 8, 9, 10, 11, 12, 13, 14, 15, 16, 17, 18, 19, 20, 21, 22, 23, 24, 25, 26, 27], []⟩)]
def Tr.a33 : List (Nat × Ann) := []
def Tr.a34 : List (Nat × Ann) := [(11, ⟨[0, 1, 2, 3, 4, 5, 6, 7, 8], []⟩), (15, ⟨[0, 1, 2, 3, 4, 5, 6, 7, 8], []⟩)]
def Tr.a37 : List (Nat × Ann) := [(1, ⟨[0, 1, 2, 3, 4, 5, 6, 7, 8, 9, 10, 11], []⟩)]
def Tr.a38 : List (Nat × Ann) := [(4, ⟨[0, 1, 2, 3, 4, 5, 6, 7, 8, 9], []⟩), (5, ⟨[0, 1, 2, 3, 4, 6, 7, 8, 9, 10, 5, 11, 12, 13, 14], [(5, [9])]⟩), (7, ⟨[0, 1, 2, 3, 4, 5, 6, 8, 9, 10, 11, 12, 7, 13, 14, 15, 16, 17, 18, 19], [(7, [11])]⟩)]
def Tr.a39 : List (Nat × Ann) := []
def Tr.a40 : List (Nat × Ann) := [(1, ⟨[0, 1, 2, 3, 4, 5, 6, 7, 8, 9, 10], []⟩)]
def Tr.a41 : List (Nat × Ann) := [(1, ⟨[0, 1, 2, 3, 4, 5, 6, 7, 8, 9], []⟩)]
def Tr.a42 : List (Nat × Ann) := []
def Tr.a44 : List (Nat × Ann) := [(1, ⟨[0, 1, 2, 3, 4, 5, 6, 7, 8, 9, 10, 11, 12, 13, 14, 15, 16], []⟩), (10, ⟨[0, 1, 2, 3, 4, 5, 6, 7, 8, 9, 10, 11, 12, 13, 14, 15, 16], []⟩), (12, ⟨[0, 1, 2, 3, 4, 5, 6, 7, 8, 9, 10, 11, 12, 13], []⟩), (15, ⟨[0, 1, 2, 3, 4, 5, 6, 7, 8, 9, 10, 11, 12, 13, 14, 15, 16], []⟩), (16, ⟨[0, 1, 2, 3, 4, 5, 6, 7, 8, 9, 10, 11, 12, 13, 14, 15, 16], []⟩), (17, ⟨[0, 1, 2, 3, 4, 5, 6, 7, 8, 9, 10, 11, 12, 13, 14], []⟩), (18, ⟨[0, 1, 2, 3, 4, 5, 6, 7, 8, 9, 10, 11, 12, 13, 14, 15, 16, 17, 18, 19, 20], []⟩), (20, ⟨[0, 1, 2, 3, 4, 5, 6, 7, 8, 9, 10, 11, 12, 13, 14, 15], []⟩), (22, ⟨[0, 1, 2, 3, 4, 5, 6, 7, 8, 9, 10, 11, 12, 13], []⟩), (24, ⟨[0, 1, 2, 3, 4, 5, 6, 7, 8, 9, 10, 11, 12, 13, 14, 15], []⟩), (25, ⟨[0, 1, 2, 3, 4, 5, 6, 7, 8, 9, 10, 11, 12, 13, 14, 15, 16], []⟩), (26, ⟨[0, 1, 2, 3, 4, 5, 6, 7, 8, 9, 10, 11, 12], []⟩), (27, ⟨[0, 1, 2, 3, 4, 5, 7, 8, 9, 10, 6, 11, 12, 13, 14, 15, 16, 17], [(6, [10])]⟩), (2, ⟨[0, 1, 2, 3, 4, 5, 6, 7, 8, 9, 10, 11, 12], []⟩), (4, ⟨[0, 1, 2, 3, 4, 5, 6, 7, 8, 9, 10, 11, 12, 14, 15, 16, 17, 13, 18, 19, 20, 21], [(13, [17])]⟩), (5, ⟨[0, 1, 2, 3, 4, 5, 6, 7, 8, 9, 10, 11, 12], []⟩)]
def Tr.a45 : List (Nat × Ann) := [(4, ⟨[0, 1, 2, 3, 4, 5, 6, 7, 8, 9, 10, 11, 12, 13, 14, 15, 16, 17, 18, 19, 20, 21], []⟩)]
def Tr.a47 : List (Nat × Ann) := []
def Tr.a49 : List (Nat × Ann) := []
def Tr.a51 : List (Nat × Ann) := []
def Tr.a57 : List (Nat × Ann) := []
def Tr.a58 : List (Nat × Ann) := []
def Tr.a59 : List (Nat × Ann) := []
def Tr.a60 : List (Nat × Ann) := [(3, ⟨[0, 1, 2, 3, 4, 5, 6, 7, 8, 9, 10, 11, 12, 13, 14, 15], []⟩)]
def Tr.a61 : List (Nat × Ann) := [(3, ⟨[0, 1, 2, 3, 4, 5, 6, 7, 8, 9, 10, 11, 12, 13, 14, 15], []⟩)]
def Tr.a62 : List (Nat × Ann) := [(3, ⟨[0, 1, 2, 3, 4, 5, 6, 7, 8, 9, 10, 11, 12, 13, 14, 15], []⟩)]
def Tr.treeF (_ : Unit) : TyTree := Tr.tree
def Tr.tab (X : Sg) : Tab := { X := X, tree := Tr.treeF, eqs := [], glob := fun _ => none, vecs := [59, 9, 49, 68] }
theorem Tr.treeOk : treeOk Try.prog Tr.tree = true := by kernel_rfl
theorem Tr.eqs : eqsOk Try.prog (Tr.tab real) = true := by kernel_rfl
theorem Tr.tabOk : TabOk Try.prog (Tr.tab real) := ⟨Tr.treeOk, rfl, eqsOk_of Tr.eqs⟩
theorem Tr.mixed : Try.prog.follows .mixedOrders = true := by kernel_rfl
theorem Tr.fn3 : FnOk Try.prog 3 (fni Try.f3 Tr.a3) := ⟨⟨Try.f3, Try.func3, rfl, rfl, rfl, by kernel_rfl⟩, by kernel_rfl⟩
theorem Tr.fn4 : FnOk Try.prog 4 (fni Try.f4 Tr.a4) := ⟨⟨Try.f4, Try.func4, rfl, rfl, rfl, by kernel_rfl⟩, by kernel_rfl⟩
theorem Tr.fn5 : FnOk Try.prog 5 (fni Try.f5 Tr.a5) := ⟨⟨Try.f5, Try.func5, rfl, rfl, rfl, by kernel_rfl⟩, by kernel_rfl⟩
theorem Tr.fn6 : FnOk Try.prog 6 (fni Try.f6 Tr.a6) := ⟨⟨Try.f6, Try.func6, rfl, rfl, rfl, by kernel_rfl⟩, by kernel_rfl⟩
theorem Tr.fn7 : FnOk Try.prog 7 (fni Try.f7 Tr.a7) := ⟨⟨Try.f7, Try.func7, rfl, rfl, rfl, by kernel_rfl⟩, by kernel_rfl⟩
theorem Tr.fn8 : FnOk Try.prog 8 (fni Try.f8 Tr.a8) := ⟨⟨Try.f8, Try.func8, rfl, rfl, rfl, by kernel_rfl⟩, by kernel_rfl⟩
theorem Tr.fn9 : FnOk Try.prog 9 (fni Try.f9 Tr.a9) := ⟨⟨Try.f9, Try.func9, rfl, rfl, rfl, by kernel_rfl⟩, by kernel_rfl⟩
theorem Tr.fn10 : FnOk Try.prog 10 (fni Try.f10 Tr.a10) := ⟨⟨Try.f10, Try.func10, rfl, rfl, rfl, by kernel_rfl⟩, by kernel_rfl⟩
theorem Tr.fn11 : FnOk Try.prog 11 (fni Try.f11 Tr.a11) := ⟨⟨Try.f11, Try.func11, rfl, rfl, rfl, by kernel_rfl⟩, by kernel_rfl⟩
theorem Tr.fn12 : FnOk Try.prog 12 (fni Try.f12 Tr.a12) := ⟨⟨Try.f12, Try.func12, rfl, rfl, rfl, by kernel_rfl⟩, by kernel_rfl⟩
theorem Tr.fn13 : FnOk Try.prog 13 (fni Try.f13 Tr.a13) := ⟨⟨Try.f13, Try.func13, rfl, rfl, rfl, by kernel_rfl⟩, by kernel_rfl⟩
theorem Tr.fn14 : FnOk Try.prog 14 (fni Try.f14 Tr.a14) := ⟨⟨Try.f14, Try.func14, rfl, rfl, rfl, by kernel_rfl⟩, by kernel_rfl⟩
theorem Tr.fn15 : FnOk Try.prog 15 (fni Try.f15 Tr.a15) := ⟨⟨Try.f15, Try.func15, rfl, rfl, rfl, by kernel_rfl⟩, by kernel_rfl⟩
theorem Tr.fn16 : FnOk Try.prog 16 (fni Try.f16 Tr.a16) := ⟨⟨Try.f16, Try.func16, rfl, rfl, rfl, by kernel_rfl⟩, by kernel_rfl⟩
theorem Tr.fn17 : FnOk Try.prog 17 (fni Try.f17 Tr.a17) := ⟨⟨Try.f17, Try.func17, rfl, rfl, rfl, by kernel_rfl⟩, by kernel_rfl⟩
theorem Tr.fn18 : FnOk Try.prog 18 (fni Try.f18 Tr.a18) := ⟨⟨Try.f18, Try.func18, rfl, rfl, rfl, by kernel_rfl⟩, by kernel_rfl⟩
theorem Tr.fn19 : FnOk Try.prog 19 (fni Try.f19 Tr.a19) := ⟨⟨Try.f19, Try.func19, rfl, rfl, rfl, by kernel_rfl⟩, by kernel_rfl⟩
theorem Tr.fn20 : FnOk Try.prog 20 (fni Try.f20 Tr.a20) := ⟨⟨Try.f20, Try.func20, rfl, rfl, rfl, by kernel_rfl⟩, by kernel_rfl⟩
theorem Tr.fn21 : FnOk Try.prog 21 (fni Try.f21 Tr.a21) := ⟨⟨Try.f21, Try.func21, rfl, rfl, rfl, by kernel_rfl⟩, by kernel_rfl⟩
theorem Tr.fn22 : FnOk Try.prog 22 (fni Try.f22 Tr.a22) := ⟨⟨Try.f22, Try.func22, rfl, rfl, rfl, by kernel_rfl⟩, by kernel_rfl⟩
theorem Tr.fn23 : FnOk Try.prog 23 (fni Try.f23 Tr.a23) := ⟨⟨Try.f23, Try.func23, rfl, rfl, rfl, by kernel_rfl⟩, by kernel_rfl⟩
theorem Tr.fn24 : FnOk Try.prog 24 (fni Try.f24 Tr.a24) := ⟨⟨Try.f24, Try.func24, rfl, rfl, rfl, by kernel_rfl⟩, by kernel_rfl⟩
theorem Tr.fn25 : FnOk Try.prog 25 (fni Try.f25 Tr.a25) := ⟨⟨Try.f25, Try.func25, rfl, rfl, rfl, by kernel_rfl⟩, by kernel_rfl⟩
theorem Tr.fn26 : FnOk Try.prog 26 (fni Try.f26 Tr.a26) := ⟨⟨Try.f26, Try.func26, rfl, rfl, rfl, by kernel_rfl⟩, by kernel_rfl⟩
theorem Tr.fn27 : FnOk Try.prog 27 (fni Try.f27 Tr.a27) := ⟨⟨Try.f27, Try.func27, rfl, rfl, rfl, by kernel_rfl⟩, by kernel_rfl⟩
theorem Tr.fn28 : FnOk Try.prog 28 (fni Try.f28 Tr.a28) := ⟨⟨Try.f28, Try.func28, rfl, rfl, rfl, by kernel_rfl⟩, by kernel_rfl⟩
theorem Tr.fn29 : FnOk Try.prog 29 (fni Try.f29 Tr.a29) := ⟨⟨Try.f29, Try.func29, rfl, rfl, rfl, by kernel_rfl⟩, by kernel_rfl⟩
theorem Tr.fn30 : FnOk Try.prog 30 (fni Try.f30 Tr.a30) := ⟨⟨Try.f30, Try.func30, rfl, rfl, rfl, by kernel_rfl⟩, by kernel_rfl⟩
theorem Tr.fn31 : FnOk Try.prog 31 (fni Try.f31 Tr.a31) := ⟨⟨Try.f31, Try.func31, rfl, rfl, rfl, by kernel_rfl⟩, by kernel_rfl⟩
theorem Tr.fn32 : FnOk Try.prog 32 (fni Try.f32 Tr.a32) := ⟨⟨Try.f32, Try.func32, rfl, rfl, rfl, by kernel_rfl⟩, by kernel_rfl⟩
theorem Tr.fn33 : FnOk Try.prog 33 (fni Try.f33 Tr.a33) := ⟨⟨Try.f33, Try.func33, rfl, rfl, rfl, by kernel_rfl⟩, by kernel_rfl⟩
theorem Tr.fn34 : FnOk Try.prog 34 (fni Try.f34 Tr.a34) := ⟨⟨Try.f34, Try.func34, rfl, rfl, rfl, by kernel_rfl⟩, by kernel_rfl⟩
theorem Tr.fn37 : FnOk Try.prog 37 (fni Try.f37 Tr.a37) := ⟨⟨Try.f37, Try.func37, rfl, rfl, rfl, by kernel_rfl⟩, by kernel_rfl⟩
theorem Tr.fn38 : FnOk Try.prog 38 (fni Try.f38 Tr.a38) := ⟨⟨Try.f38, Try.func38, rfl, rfl, rfl, by kernel_rfl⟩, by kernel_rfl⟩
theorem Tr.fn39 : FnOk Try.prog 39 (fni Try.f39 Tr.a39) := ⟨⟨Try.f39, Try.func39, rfl, rfl, rfl, by kernel_rfl⟩, by kernel_rfl⟩
theorem Tr.fn40 : FnOk Try.prog 40 (fni Try.f40 Tr.a40) := ⟨⟨Try.f40, Try.func40, rfl, rfl, rfl, by kernel_rfl⟩, by kernel_rfl⟩
theorem Tr.fn41 : FnOk Try.prog 41 (fni Try.f41 Tr.a41) := ⟨⟨Try.f41, Try.func41, rfl, rfl, rfl, by kernel_rfl⟩, by kernel_rfl⟩
theorem Tr.fn42 : FnOk Try.prog 42 (fni Try.f42 Tr.a42) := ⟨⟨Try.f42, Try.func42, rfl, rfl, rfl, by kernel_rfl⟩, by kernel_rfl⟩
theorem Tr.fn44 : FnOk Try.prog 44 (fni Try.f44 Tr.a44) := ⟨⟨Try.f44, Try.func44, rfl, rfl, rfl, by kernel_rfl⟩, by kernel_rfl⟩
theorem Tr.fn45 : FnOk Try.prog 45 (fni Try.f45 Tr.a45) := ⟨⟨Try.f45, Try.func45, rfl, rfl, rfl, by kernel_rfl⟩, by kernel_rfl⟩
theorem Tr.fn47 : FnOk Try.prog 47 (fni Try.f47 Tr.a47) := ⟨⟨Try.f47, Try.func47, rfl, rfl, rfl, by kernel_rfl⟩, by kernel_rfl⟩
theorem Tr.fn49 : FnOk Try.prog 49 (fni Try.f49 Tr.a49) := ⟨⟨Try.f49, Try.func49, rfl, rfl, rfl, by kernel_rfl⟩, by kernel_rfl⟩
theorem Tr.fn51 : FnOk Try.prog 51 (fni Try.f51 Tr.a51) := ⟨⟨Try.f51, Try.func51, rfl, rfl, rfl, by kernel_rfl⟩, by kernel_rfl⟩
theorem Tr.fn57 : FnOk Try.prog 57 (fni Try.f57 Tr.a57) := ⟨⟨Try.f57, Try.func57, rfl, rfl, rfl, by kernel_rfl⟩, by kernel_rfl⟩
theorem Tr.fn58 : FnOk Try.prog 58 (fni Try.f58 Tr.a58) := ⟨⟨Try.f58, Try.func58, rfl, rfl, rfl, by kernel_rfl⟩, by kernel_rfl⟩
theorem Tr.fn59 : FnOk Try.prog 59 (fni Try.f59 Tr.a59) := ⟨⟨Try.f59, Try.func59, rfl, rfl, rfl, by kernel_rfl⟩, by kernel_rfl⟩
theorem Tr.fn60 : FnOk Try.prog 60 (fni Try.f60 Tr.a60) := ⟨⟨Try.f60, Try.func60, rfl, rfl, rfl, by kernel_rfl⟩, by kernel_rfl⟩
theorem Tr.fn61 : FnOk Try.prog 61 (fni Try.f61 Tr.a61) := ⟨⟨Try.f61, Try.func61, rfl, rfl, rfl, by kernel_rfl⟩, by kernel_rfl⟩
theorem Tr.fn62 : FnOk Try.prog 62 (fni Try.f62 Tr.a62) := ⟨⟨Try.f62, Try.func62, rfl, rfl, rfl, by kernel_rfl⟩, by kernel_rfl⟩
end Go.AM
namespace Go.AM
open Go.Proofs
theorem rep_row {T : Tab} {g : Ghost} {S : St} {w : World} (r : WRel T g S w) {A : AV} {x : Value} (hr : Rep T w g A x) {e : TypeId} {o v : Nat} {i n : Int} (hp : rowOf A = some (e, o, v, i, n)) {fc : Bool × List AV} (hvec : S.vec e o v = some fc) (hn : 0 < n) :
  ∃ tk b c cap, g.α o = some tk ∧ tk.b = some b ∧ x = .slice (some ⟨b, i.toNat * T.size e, none⟩) n.toNat cap ∧ w.heap[b]? = some (.cells c e (0, 0)) ∧ 0 < c.size ∧ 1 ≤ T.size e := by
 obtain ⟨full, cs⟩ := fc
 unfold rowOf at hp
 split at hp
 · simp only [Option.some.injEq, Prod.mk.injEq] at hp
   obtain ⟨rfl, rfl, rfl, rfl, rfl⟩ := hp
   cases hr with
   | msf _ _ _ _ _ _ _ ad tk hα he hv hn' hst hc =>
    obtain ⟨hte, htv, b, c, hb, hcl, hnn, hfull, hmx, hsz, hcc, hcs, hone, hfit, hR0⟩ := r.vecAt hα hvec
    obtain ⟨q0, q1, q2, q3, q4⟩ := hc htv.symm
    refine ⟨tk, b, c, _, hα, hb, by rw [q4 b hb (by omega)], hcc, ?_, hsz⟩
    rw [hcs]; exact Nat.mul_pos hmx.1 hsz
 · simp only [Option.some.injEq, Prod.mk.injEq] at hp
   obtain ⟨rfl, rfl, rfl, rfl, rfl⟩ := hp
   cases hr with
   | msl _ _ _ _ _ _ ad cap tk hα he hv hn' hcn hmax hst hc =>
    obtain ⟨hte, htv, b, c, hb, hcl, hnn, hfull, hmx, hsz, hcc, hcs, hone, hfit, hR0⟩ := r.vecAt hα hvec
    obtain ⟨q0, q1, ⟨q2, q3⟩, q4⟩ := hc htv.symm
    refine ⟨tk, b, c, _, hα, hb, by rw [q4 b hb (by omega)], hcc, ?_, hsz⟩
    rw [hcs]; exact Nat.mul_pos hmx.1 hsz
 · cases hp
theorem overlaps_apart {P : Program} {T : Tab} (hT : TabOk P T) {f : FuncId} {fn : Func} {tS tR e : TypeId} (hf : P.funcs[f]? = some fn) (hname : (fn.name == "runtime.NumGoroutine") = false) (hb : fn.body.isNone = true) (hn : Extern.findNext fn = none)
  (he : Extern.find fn = some (Extern.SlicesOverlaps.overlaps #[tS, tS] #[tR])) (ht : T.ty tS = .slice e) (hh : T.has e = true) {A B : AV} {o o2 v v2 : Nat} {i i2 n n2 : Int} {S : St} {K : Out → St → Prop} {fc fc2 : Bool × List AV}
  (hA : rowOf A = some (e, o, v, i, n)) (hB : rowOf B = some (e, o2, v2, i2, n2)) (hva : S.vec e o v = some fc) (hvb : S.vec e o2 v2 = some fc2) (hne : o ≠ o2) (h1 : 0 < n) (h2 : 0 < n2) (hK : K (.ret (.bool false)) S) : CallP P T f [A, B] S K := by
 refine callP_grow hK fun g w vs r hargs => .inr ?_
 obtain ⟨hl, hR⟩ := hargs
 have ra := hR 0 (by simp)
 have rb := hR 1 (by simp)
 obtain ⟨x, y, rfl⟩ : ∃ x y, vs = [x, y] := by
  match vs, hl with
  | [x, y], _ => exact ⟨x, y, rfl⟩
 obtain ⟨tk, b, c, cap, hα, htb, hx, hcc, hcp, hsz⟩ := rep_row r (show Rep T w g A x from ra) hA hva h1
 obtain ⟨tk2, b2, c2, cap2, hα2, htb2, hy, hcc2, hcp2, _⟩ := rep_row r (show Rep T w g B y from rb) hB hvb h2
 have hbb : b ≠ b2 := fun q => hne (r.vec.inj o o2 tk tk2 b hα hα2 htb (by rw [q]; exact htb2))
 obtain ⟨i0, z, d, hi, hd, hsi, hz, hzs, hb0, hsh, ha⟩ := (row_of hT.tree ht (by simp)).row
 have := shape_slice hsh; subst this
 have hso := fun w => (row_size hT hh w).1
 have hrun := Lib.run_overlaps_apart (P := P) w tS tR e hd (T.size e) hso ⟨b, i.toNat * T.size e, none⟩ ⟨b2, i2.toNat * T.size e, none⟩ n.toNat cap n2.toNat cap2 hbb e e c.size c2.size
  (by simp [World.shape?, hcc]) (by simp [World.shape?, hcc2]) (by omega) (by simp [World.frozen?, hcc]) (by simp [World.frozen?, hcc])
 subst hx; subst hy
 refine ⟨.bool false, w, ?_, .bool false, g, rfl, .refl _ _, .bool _ _⟩
 rw [run_callFunc_extern hf hname hb hn he]
 rw [hrun]
 rfl
theorem Tr.overlaps46 {A B : AV} {o o2 v v2 : Nat} {i i2 n n2 : Int} {S : St} {K : Out → St → Prop} {fc fc2 : Bool × List AV}
  (hA : rowOf A = some (59, o, v, i, n)) (hB : rowOf B = some (59, o2, v2, i2, n2)) (hva : S.vec 59 o v = some fc) (hvb : S.vec 59 o2 v2 = some fc2) (hne : o ≠ o2) (h1 : 0 < n) (h2 : 0 < n2) (hK : K (.ret (.bool false)) S) : CallP Try.prog (Tr.tab real) 46 [A, B] S K :=
 overlaps_apart Tr.tabOk (tS := 50) (tR := 4) Try.func46 (by kernel_rfl) (by kernel_rfl) (by kernel_rfl) (by kernel_rfl) rfl rfl hA hB hva hvb hne h1 h2 hK
end Go.AM
namespace Go.AM
open Go.Proofs
def Code.one : Code → Code
 | .seq a _ => a
 | c => c
end Go.AM
namespace Go.AM
open Go.Proofs
theorem W64 (m : Int) (h1 : -9223372036854775808 ≤ m) (h2 : m < 9223372036854775808) : IntKind.i64.wrap m = m := wrap_in h1 h2
variable {α : Type}
theorem split3 (full : List α) (N i : Nat) (hi : i ≤ N) (h : N + 1 ≤ full.length) : ∃ A B y D, full = A ++ (B ++ y :: D) ∧ i = A.length ∧ N = A.length + B.length := by
 refine ⟨full.take i, (full.take N).drop i, full[N], full.drop (N + 1), ?_, by simp; omega, by simp; omega⟩
 have h1 : full = full.take N ++ full.drop N := (List.take_append_drop N full).symm
 have h2 : full.drop N = full[N] :: full.drop (N + 1) := List.drop_eq_getElem_cons (by omega)
 have h3 : full.take N = full.take i ++ (full.take N).drop i := by
  have := (List.take_append_drop i (full.take N)).symm
  rwa [List.take_take, Nat.min_eq_left hi] at this
 rw [← List.append_assoc, ← h3, ← h2]
 exact h1
theorem insB_list (full : List α) (x : α) (N i : Nat) (hi : i ≤ N) (h : N + 1 ≤ full.length) (W : List α) (hW : W = full.take (i+1) ++ (((full.drop i).take (N+1-i)).take (N-i) ++ (full.drop (N+1)).take (full.length - (N+1)))) :
  W.take i ++ ([x] ++ (W.drop (i+1)).take (W.length - (i+1))) = full.take i ++ x :: ((full.take N).drop i ++ full.drop (N+1)) := by
 obtain ⟨A, B, y, D, rfl, rfl, rfl⟩ := split3 full N i hi h
 have e1 : (A ++ (B ++ y :: D)).drop A.length = B ++ y :: D := by simp
 have e2 : A.length + B.length + 1 - A.length = (B ++ [y]).length := by simp; omega
 have e3 : A.length + B.length - A.length = B.length := by omega
 have e4 : (A ++ (B ++ y :: D)).drop (A.length + B.length + 1) = D := by
  have : A ++ (B ++ y :: D) = (A ++ B ++ [y]) ++ D := by simp
  rw [this]
  have : A.length + B.length + 1 = (A ++ B ++ [y]).length := by simp; omega
  rw [this, List.drop_left]
 have e5 : (A ++ (B ++ y :: D)).take (A.length + B.length) = A ++ B := by
  have : A ++ (B ++ y :: D) = (A ++ B) ++ y :: D := by simp
  rw [this]
  have : A.length + B.length = (A ++ B).length := by simp
  rw [this, List.take_left]
 have e6 : (A ++ (B ++ y :: D)).length - (A.length + B.length + 1) = D.length := by simp; omega
 have e7 : ∃ u, (A ++ (B ++ y :: D)).take (A.length + 1) = A ++ [u] := by
  cases B with
  | nil => exact ⟨y, by
    have : A ++ ([] ++ y :: D) = (A ++ [y]) ++ D := by simp
    rw [this]
    have : A.length + 1 = (A ++ [y]).length := by simp
    rw [this, List.take_left]⟩
  | cons b B => exact ⟨b, by
    have : A ++ (b :: B ++ y :: D) = (A ++ [b]) ++ (B ++ y :: D) := by simp
    rw [this]
    have : A.length + 1 = (A ++ [b]).length := by simp
    rw [this, List.take_left]⟩
 obtain ⟨u, e7⟩ := e7
 have e8 : (B ++ y :: D).take (B ++ [y]).length = B ++ [y] := by
  have : B ++ y :: D = (B ++ [y]) ++ D := by simp
  rw [this, List.take_left]
 rw [e1, e2, e3, e4, e6, e7, e8, List.take_left, List.take_length] at hW
 subst hW
 rw [e4, e5]
 have f1 : (A ++ [u] ++ (B ++ D)).take A.length = A := by rw [List.append_assoc, List.take_left]
 have f2 : (A ++ [u] ++ (B ++ D)).drop (A.length + 1) = B ++ D := by
  have : A.length + 1 = (A ++ [u]).length := by simp
  rw [this, List.drop_left]
 have f3 : (A ++ [u] ++ (B ++ D)).length - (A.length + 1) = (B ++ D).length := by simp; omega
 rw [f1, f2, f3, List.take_length, List.take_left, List.drop_left]
 rfl
theorem insA_list (full : List α) (x : α) (N : Nat) (h : N + 1 ≤ full.length) :
  (full.take N) ++ ([x] ++ (full.drop (N+1)).take (full.length - (N+1))) = full.take N ++ x :: ((full.take N).drop N ++ full.drop (N+1)) := by
 have : (full.take N).drop N = [] := by simp
 rw [this]
 have : (full.drop (N+1)).take (full.length - (N+1)) = full.drop (N + 1) := by
  have : full.length - (N + 1) = (full.drop (N + 1)).length := by simp
  rw [this, List.take_length]
 rw [this]; rfl
theorem insD_list (full : List α) (x z : α) (N i : Nat) (hi : i ≤ N) (h : full.length = N) (V U : List α) (hV : V = full.take i ++ List.replicate (N+1-i) z) (hU : U = V.take i ++ ([x] ++ (V.drop (i+1)).take (N+1-(i+1)))) :
  U.take (i+1) ++ (((full.drop i).take (N-i)).take (N-i) ++ (U.drop (N+1)).take (U.length - (N+1))) = full.take i ++ x :: (full.take N).drop i := by
 obtain ⟨A, B, rfl, rfl, rfl⟩ : ∃ A B, full = A ++ B ∧ i = A.length ∧ N = A.length + B.length :=
  ⟨full.take i, full.drop i, by simp, by simp; omega, by simp; omega⟩
 have e1 : A.length + B.length + 1 - A.length = B.length + 1 := by omega
 have e2 : A.length + B.length + 1 - (A.length + 1) = B.length := by omega
 have e3 : A.length + B.length - A.length = B.length := by omega
 rw [e1, List.take_left, List.replicate_succ] at hV
 have v1 : V.take A.length = A := by rw [hV, List.take_left]
 have v2 : V.drop (A.length + 1) = List.replicate B.length z := by
  have : V = (A ++ [z]) ++ List.replicate B.length z := by rw [hV]; simp
  rw [this]
  have : A.length + 1 = (A ++ [z]).length := by simp
  rw [this, List.drop_left]
 rw [v1, v2, e2] at hU
 have hU2 : U = (A ++ [x]) ++ List.replicate B.length z := by rw [hU]; simp
 have u1 : U.take (A.length + 1) = A ++ [x] := by
  rw [hU2]
  have : A.length + 1 = (A ++ [x]).length := by simp
  rw [this, List.take_left]
 have u2 : U.drop (A.length + B.length + 1) = [] := by
  apply List.drop_eq_nil_of_le
  rw [hU2]; simp; omega
 rw [u1, u2, e3, List.take_left, List.drop_left]
 have : (A ++ B).take (A.length + B.length) = A ++ B := by
  have : A.length + B.length = (A ++ B).length := by simp
  rw [this, List.take_length]
 rw [this, List.drop_left]
 simp
theorem insC_list (full : List α) (x : α) (N : Nat) : full.take N ++ [x] = full.take N ++ x :: (full.take N).drop N := by
 have : (full.take N).drop N = [] := by simp
 rw [this]
end Go.AM
