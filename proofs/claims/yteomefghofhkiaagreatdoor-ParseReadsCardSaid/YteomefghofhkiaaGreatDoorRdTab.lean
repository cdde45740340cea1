/- The program's tables, the library's answers, and closed runs. -/
import Derived.Test.YteomefghofhkiaaGreatDoorAmD
import Derived.Test.YteomefghofhkiaaGreatDoorChecked
import Derived.Test.YteomefghofhkiaaGreatDoorShelf
import Derived.Lib.ConvBytes
import Derived.Deep.LoopGhost
import Derived.WalkKit
set_option maxRecDepth 100000
set_option linter.unusedVariables false
set_option maxHeartbeats 2000000
namespace Go.AM
open Go.Proofs
def Pr.tree:TyTree:=
 (.node 78 (.slice 5) 24
  (.node 38 .func 8
   (.node 18 (.struct [(0,1)] [.p]) 8
    (.node 9 .str 16
     (.node 5 (.int .u8) 1
      (.node 3 (.int .i64) 8
       (.node 2 (.int .i64) 8
        (.node 1 .func 8 .leaf .leaf)
        .leaf)
       (.node 4 .bool 1 .leaf .leaf))
      (.node 7 (.struct [(0,1),(1,1),(2,1),(3,1)] [.i .i64,.i .i64,.b,.i .u8]) 24
       (.node 6 (.int .u8) 1 .leaf .leaf)
       (.node 8 (.struct [(0,1),(1,1),(2,1),(3,1)] [.i .i64,.i .i64,.b,.i .u8]) 24 .leaf .leaf)))
     (.node 14 (.struct [(0,1),(1,1)] [.s,.i .u64]) 24
      (.node 12 (.int .u64) 8
       (.node 11 .str 16
        (.node 10 .str 16 .leaf .leaf)
        .leaf)
       (.node 13 (.struct [(0,1),(1,1)] [.s,.i .u64]) 24 .leaf .leaf))
      (.node 16 .ptr 8
       (.node 15 .ptr 8 .leaf .leaf)
       (.node 17 .ptr 8 .leaf .leaf))))
    (.node 28 .func 8
     (.node 23 (.struct [(0,1),(1,1),(2,1),(3,1)] [.s,.s,.i .i64,.l]) 64
      (.node 21 (.int .i32) 4
       (.node 20 .iface 16
        (.node 19 (.struct [(0,1)] [.p]) 8 .leaf .leaf)
        .leaf)
       (.node 22 (.slice 24) 24 .leaf .leaf))
      (.node 25 .str 16
       (.node 24 (.struct [(0,1),(1,1),(2,1),(3,1)] [.s,.s,.i .i64,.l]) 64 .leaf .leaf)
       (.node 27 .func 8 .leaf .leaf)))
     (.node 33 (.slice 41) 24
      (.node 31 .func 8
       (.node 30 .func 8
        (.node 29 .func 8 .leaf .leaf)
        .leaf)
       (.node 32 (.slice 3) 24 .leaf .leaf))
      (.node 36 (.slice 9) 24
       (.node 35 .func 8 .leaf .leaf)
       (.node 37 .func 8 .leaf .leaf)))))
   (.node 58 .func 8
    (.node 49 .ptr 8
     (.node 44 .func 8
      (.node 41 (.struct [(0,1),(1,1),(2,1),(3,1)] [.i .i64,.s,.i .i64,.i .i64]) 40
       (.node 40 (.struct [(0,1),(1,1),(2,1),(3,1)] [.i .i64,.s,.i .i64,.i .i64]) 40
        (.node 39 (.int .i64) 8 .leaf .leaf)
        .leaf)
       (.node 42 .func 8 .leaf .leaf))
      (.node 46 (.struct [] []) 0
       (.node 45 .func 8 .leaf .leaf)
       (.node 47 (.struct [] []) 0 .leaf .leaf)))
     (.node 54 .ptr 8
      (.node 52 .func 8
       (.node 51 (.struct [(0,1),(1,1)] [.l,.i .i64]) 32
        (.node 50 (.struct [(0,1),(1,1)] [.l,.i .i64]) 32 .leaf .leaf)
        .leaf)
       (.node 53 .func 8 .leaf .leaf))
      (.node 56 (.struct [(0,1),(1,1),(2,1)] [.l,.i .i64,.b]) 40
       (.node 55 (.struct [(0,1),(1,1),(2,1)] [.l,.i .i64,.b]) 40 .leaf .leaf)
       (.node 57 .func 8 .leaf .leaf))))
    (.node 69 .func 8
     (.node 64 (.struct [(0,1),(1,1)] [.s,.i .i64]) 24
      (.node 62 .func 8
       (.node 61 .func 8
        (.node 60 .func 8 .leaf .leaf)
        .leaf)
       (.node 63 .ptr 8 .leaf .leaf))
      (.node 67 .func 8
       (.node 65 (.struct [(0,1),(1,1)] [.s,.i .i64]) 24 .leaf .leaf)
       (.node 68 .func 8 .leaf .leaf)))
     (.node 74 .func 8
      (.node 72 .func 8
       (.node 71 .func 8
        (.node 70 .func 8 .leaf .leaf)
        .leaf)
       (.node 73 .func 8 .leaf .leaf))
      (.node 76 .func 8
       (.node 75 .func 8 .leaf .leaf)
       (.node 77 .func 8 .leaf .leaf))))))
  (.node 118 .func 8
   (.node 98 (.struct [(0,1),(1,1)] [.p,.l]) 32
    (.node 88 .func 8
     (.node 83 .func 8
      (.node 81 .func 8
       (.node 80 .func 8
        (.node 79 (.int .u64) 8 .leaf .leaf)
        .leaf)
       (.node 82 .func 8 .leaf .leaf))
      (.node 85 .iface 16
       (.node 84 .func 8 .leaf .leaf)
       (.node 86 .iface 16 .leaf .leaf)))
     (.node 94 .func 8
      (.node 92 .func 8
       (.node 91 (.array 16 9 [.s,.s,.s,.s,.s,.s,.s,.s,.s,.s,.s,.s,.s,.s,.s,.s]) 256
        (.node 90 .func 8 .leaf .leaf)
        .leaf)
       (.node 93 .func 8 .leaf .leaf))
      (.node 96 .func 8
       (.node 95 .func 8 .leaf .leaf)
       (.node 97 .ptr 8 .leaf .leaf))))
    (.node 108 (.int .i64) 8
     (.node 104 .func 8
      (.node 102 .func 8
       (.node 101 .func 8
        (.node 99 (.struct [(0,1),(1,1)] [.p,.l]) 32 .leaf .leaf)
        .leaf)
       (.node 103 .func 8 .leaf .leaf))
      (.node 106 .func 8
       (.node 105 .func 8 .leaf .leaf)
       (.node 107 .func 8 .leaf .leaf)))
     (.node 114 .func 8
      (.node 112 .ptr 8
       (.node 111 (.int .u64) 8
        (.node 110 .func 8 .leaf .leaf)
        .leaf)
       (.node 113 .func 8 .leaf .leaf))
      (.node 116 .func 8
       (.node 115 .ptr 8 .leaf .leaf)
       (.node 117 .func 8 .leaf .leaf)))))
   (.node 139 .func 8
    (.node 128 (.struct [(0,1)] [.s]) 16
     (.node 124 .func 8
      (.node 121 .func 8
       (.node 120 (.struct [(0,1),(1,1),(2,1)] [.s,.s,.n]) 48
        (.node 119 (.struct [(0,1),(1,1),(2,1)] [.s,.s,.n]) 48 .leaf .leaf)
        .leaf)
       (.node 122 .func 8 .leaf .leaf))
      (.node 126 .ptr 8
       (.node 125 .func 8 .leaf .leaf)
       (.node 127 (.struct [(0,1)] [.s]) 16 .leaf .leaf)))
     (.node 133 .func 8
      (.node 131 .func 8
       (.node 130 .func 8
        (.node 129 .func 8 .leaf .leaf)
        .leaf)
       (.node 132 .func 8 .leaf .leaf))
      (.node 136 .func 8
       (.node 134 .ptr 8 .leaf .leaf)
       (.node 137 .func 8 .leaf .leaf))))
    (.node 152 (.array 0 16 []) 0
     (.node 146 .func 8
      (.node 143 .func 8
       (.node 142 .func 8
        (.node 140 (.int .u32) 4 .leaf .leaf)
        .leaf)
       (.node 144 (.array 20 79 [.i .u64,.i .u64,.i .u64,.i .u64,.i .u64,.i .u64,.i .u64,.i .u64,.i .u64,.i .u64,.i .u64,.i .u64,.i .u64,.i .u64,.i .u64,.i .u64,.i .u64,.i .u64,.i .u64,.i .u64]) 160 .leaf .leaf))
      (.node 150 (.struct [(0,1),(1,1),(2,1),(3,1)] [.p,.p,.p,.s]) 40
       (.node 147 .func 8 .leaf .leaf)
       (.node 151 (.struct [(0,1),(1,1),(2,1),(3,1)] [.p,.p,.p,.s]) 40 .leaf .leaf)))
     (.node 158 (.int .i32) 4
      (.node 156 (.int .u8) 1
       (.node 155 (.int .u8) 1 .leaf .leaf)
       (.node 157 .func 8 .leaf .leaf))
      (.node 160 (.struct [(0,1),(1,1),(2,1),(3,1),(4,1),(5,1),(6,1),(7,1),(8,1),(9,1),(10,1)] [.i .u64,.i .u64,.i .u32,.i .u8,.i .u8,.i .u8,.i .u8,.f,.p,.i .i32,.i .i32]) 48
       (.node 159 (.int .i32) 4 .leaf .leaf)
       (.node 161 (.struct [(0,1),(1,1),(2,1),(3,1),(4,1),(5,1),(6,1),(7,1),(8,1),(9,1),(10,1)] [.i .u64,.i .u64,.i .u32,.i .u8,.i .u8,.i .u8,.i .u8,.f,.p,.i .i32,.i .i32]) 48 .leaf .leaf)))))))
def Pr.a3:List (Nat × Ann):=[(4,⟨[0,1,2,3,4,5,6,7,8,9,10,12,11,13,14,15,16],[(11,[12])]⟩)]
def Pr.a4:List (Nat × Ann):=[]
def Pr.a5:List (Nat × Ann):=[]
def Pr.a6:List (Nat × Ann):=[]
def Pr.a7:List (Nat × Ann):=[]
def Pr.a8:List (Nat × Ann):=[(3,⟨[0,1,2,3],[(2,[1])]⟩)]
def Pr.a9:List (Nat × Ann):=[(7,⟨[0,1,2,3,4,5,6,7,8,9,10,11,12,13,14,15],[]⟩)]
def Pr.a10:List (Nat × Ann):=[(6,⟨[0,1,2,3,4,5,6,7,8,9,10,11],[]⟩)]
def Pr.a11:List (Nat × Ann):=[]
def Pr.a12:List (Nat × Ann):=[]
def Pr.a13:List (Nat × Ann):=[]
def Pr.a14:List (Nat × Ann):=[]
def Pr.a15:List (Nat × Ann):=[]
def Pr.a16:List (Nat × Ann):=[]
def Pr.a17:List (Nat × Ann):=[]
def Pr.a18:List (Nat × Ann):=[]
def Pr.a19:List (Nat × Ann):=[]
def Pr.a20:List (Nat × Ann):=[]
def Pr.a21:List (Nat × Ann):=[(42,⟨[0,2,3,1,4,5],[(1,[2])]⟩)]
def Pr.a22:List (Nat × Ann):=[]
def Pr.a23:List (Nat × Ann):=[(8,⟨[0,1,2,3,4,5,6,7,8,9,10,11],[]⟩)]
def Pr.a24:List (Nat × Ann):=[]
def Pr.a25:List (Nat × Ann):=[]
def Pr.a26:List (Nat × Ann):=[]
def Pr.a27:List (Nat × Ann):=[]
def Pr.a28:List (Nat × Ann):=[]
def Pr.a29:List (Nat × Ann):=[]
def Pr.a30:List (Nat × Ann):=[]
def Pr.a31:List (Nat × Ann):=[(6,⟨[0,1,2,3,4,5,6,7,8,9,10,11,12,13,14,15,16,17,18],[]⟩)]
def Pr.a32:List (Nat × Ann):=[]
def Pr.a33:List (Nat × Ann):=[]
def Pr.a34:List (Nat × Ann):=[(1,⟨[0,1,2,3,4,5,6,7,8,9,10],[]⟩)]
def Pr.a35:List (Nat × Ann):=[(2,⟨[0,1,2,3,4,5,6,7,8,9],[]⟩),(22,⟨[0,1,2,3,4,5,6,7,8,9,10,11,12,13,14,15,16,17,18,19,20,21,22],[]⟩),(7,⟨[0,1,2,3,4,5,6,7,8,9,10],[]⟩)]
def Pr.a36:List (Nat × Ann):=[]
def Pr.a37:List (Nat × Ann):=[]
def Pr.a38:List (Nat × Ann):=[(11,⟨[0,4,1,2,3,5,6,7,8],[(1,[4]),(2,[4])]⟩)]
def Pr.a39:List (Nat × Ann):=[]
def Pr.a40:List (Nat × Ann):=[(4,⟨[0,1,2,3,4,5,6,7,8,9,10,11,12],[]⟩)]
def Pr.a41:List (Nat × Ann):=[]
def Pr.a42:List (Nat × Ann):=[(7,⟨[0,1,2,3,4,5,6,7],[(3,[0]),(4,[0])]⟩),(8,⟨[0,1,2,3,4,5],[(2,[0])]⟩)]
def Pr.a43:List (Nat × Ann):=[]
def Pr.a44:List (Nat × Ann):=[]
def Pr.a45:List (Nat × Ann):=[]
def Pr.a46:List (Nat × Ann):=[]
def Pr.a47:List (Nat × Ann):=[]
def Pr.a48:List (Nat × Ann):=[(15,⟨[0,1,2,3,4,5],[(2,[0])]⟩)]
def Pr.a49:List (Nat × Ann):=[]
def Pr.a50:List (Nat × Ann):=[]
def Pr.a51:List (Nat × Ann):=[(10,⟨[0,1,2,3,4,5],[(2,[0])]⟩)]
def Pr.a52:List (Nat × Ann):=[(1,⟨[0,1,2,3,4,5,6,7,8,9,10,11,12,13,14,15,16,17,18,19,20,21,22,23,24,25,26,27,28,29,30,31,32],[]⟩)]
def Pr.a53:List (Nat × Ann):=[(18,⟨[0,1,2,3,4,5,6,7,8],[(5,[2])]⟩)]
def Pr.a54:List (Nat × Ann):=[]
def Pr.a55:List (Nat × Ann):=[(6,⟨[0,1,2,3,4,5,6,7,8,9,10,11,12],[]⟩)]
def Pr.a56:List (Nat × Ann):=[]
def Pr.a57:List (Nat × Ann):=[(10,⟨[0,1,2,3,4,5,6],[(3,[1])]⟩),(16,⟨[0,1,2,3,4,5,6],[(3,[1])]⟩)]
def Pr.a58:List (Nat × Ann):=[]
def Pr.a59:List (Nat × Ann):=[]
def Pr.a60:List (Nat × Ann):=[]
def Pr.a61:List (Nat × Ann):=[]
def Pr.a62:List (Nat × Ann):=[(2,⟨[0,1,2,3,4,5,6,7,8,9,10,11,12,13,14,15,16,17,18,19,20,21,22],[]⟩),(4,⟨[0,1,2,3,4,5,6,7,8,9,10],[]⟩)]
def Pr.a63:List (Nat × Ann):=[]
def Pr.a64:List (Nat × Ann):=[]
def Pr.a65:List (Nat × Ann):=[]
def Pr.a66:List (Nat × Ann):=[]
def Pr.a67:List (Nat × Ann):=[]
def Pr.a68:List (Nat × Ann):=[]
def Pr.a69:List (Nat × Ann):=[]
def Pr.a70:List (Nat × Ann):=[]
def Pr.a71:List (Nat × Ann):=[]
def Pr.a72:List (Nat × Ann):=[(11,⟨[0,1,2,3,4,5,6,7,8,9],[]⟩),(14,⟨[0,1,2,3,4,5,6,7,8,9,10,11,12,13,14,15,16,17,18,19,20,21],[]⟩)]
def Pr.a73:List (Nat × Ann):=[]
def Pr.a74:List (Nat × Ann):=[]
def Pr.a75:List (Nat × Ann):=[]
def Pr.a76:List (Nat × Ann):=[]
def Pr.a77:List (Nat × Ann):=[(14,⟨[0,1,2,3,4,5,6],[(2,[1])]⟩),(16,⟨[0,1,2,3,4,5,6],[(2,[1])]⟩),(18,⟨[0,1,2,3,4,5,6],[(2,[1])]⟩),(20,⟨[0,1,2,3,4,5,6,7,8,9,10,11],[(5,[1]),(7,[1])]⟩),(22,⟨[0,1,2,3,4,5,6,7,8],[(3,[1]),(4,[1])]⟩)]
def Pr.a78:List (Nat × Ann):=[]
def Pr.a79:List (Nat × Ann):=[]
def Pr.a80:List (Nat × Ann):=[]
def Pr.a81:List (Nat × Ann):=[]
def Pr.a82:List (Nat × Ann):=[]
def Pr.a83:List (Nat × Ann):=[]
def Pr.a84:List (Nat × Ann):=[]
def Pr.a85:List (Nat × Ann):=[(4,⟨[0,1,2,3,4,5,6,7,8,9,10,11,12],[]⟩)]
def Pr.a86:List (Nat × Ann):=[(6,⟨[0,1,2,3,4,5,6],[(3,[1])]⟩),(9,⟨[0,1,2,3,4,5,6],[(3,[1])]⟩)]
def Pr.a87:List (Nat × Ann):=[]
def Pr.a88:List (Nat × Ann):=[]
def Pr.a89:List (Nat × Ann):=[]
def Pr.a90:List (Nat × Ann):=[]
def Pr.a91:List (Nat × Ann):=[]
def Pr.a92:List (Nat × Ann):=[]
def Pr.a93:List (Nat × Ann):=[(5,⟨[0,1,2,3,4,5],[(2,[0])]⟩)]
def Pr.a94:List (Nat × Ann):=[]
def Pr.a95:List (Nat × Ann):=[(15,⟨[0,1,2,3,4,5,6,7],[(4,[2])]⟩)]
def Pr.a96:List (Nat × Ann):=[]
def Pr.a97:List (Nat × Ann):=[]
def Pr.a98:List (Nat × Ann):=[]
def Pr.a99:List (Nat × Ann):=[]
def Pr.a100:List (Nat × Ann):=[]
def Pr.a101:List (Nat × Ann):=[]
def Pr.a102:List (Nat × Ann):=[]
def Pr.a103:List (Nat × Ann):=[]
def Pr.a104:List (Nat × Ann):=[]
def Pr.a105:List (Nat × Ann):=[(1,⟨[0,1,2,3,5,6,7,8,9,4,10,11],[(4,[8])]⟩)]
def Pr.a106:List (Nat × Ann):=[(8,⟨[0,1,2,3,4,5],[(2,[0])]⟩)]
def Pr.a107:List (Nat × Ann):=[]
def Pr.a108:List (Nat × Ann):=[]
def Pr.a109:List (Nat × Ann):=[(1,⟨[0,1,2,3,4,5,6,7,8,9,10,11,12,13,14,15,16,17,18,19,20,21,22,23,24,25],[]⟩)]
def Pr.a110:List (Nat × Ann):=[]
def Pr.a111:List (Nat × Ann):=[]
def Pr.a112:List (Nat × Ann):=[]
def Pr.a113:List (Nat × Ann):=[]
def Pr.a114:List (Nat × Ann):=[]
def Pr.a115:List (Nat × Ann):=[]
def Pr.a116:List (Nat × Ann):=[(2,⟨[0,1,2,3,4,5,6,7,8,9,10,11,12,13,14,15,16,17,18,19,20,21,22,23,24,25,26,27,28,29,30,31,32,33,34,35,36,37],[]⟩),(3,⟨[0,1,2,3,4,5,6,7,8,9,10,11],[]⟩),(7,⟨[0,1,2,3,4,5,6,7,8],[(5,[1])]⟩)]
def Pr.a117:List (Nat × Ann):=[(6,⟨[0,1,2,3,4,5,6],[(3,[1])]⟩)]
def Pr.a118:List (Nat × Ann):=[]
def Pr.a119:List (Nat × Ann):=[(6,⟨[0,1,2,3,4,5,6,7,8,9,10,11,12],[]⟩)]
def Pr.a120:List (Nat × Ann):=[]
def Pr.a121:List (Nat × Ann):=[]
def Pr.a122:List (Nat × Ann):=[]
def Pr.a123:List (Nat × Ann):=[]
def Pr.a124:List (Nat × Ann):=[]
def Pr.a125:List (Nat × Ann):=[(5,⟨[0,1,2,3,4,5],[(2,[0])]⟩)]
def Pr.a127:List (Nat × Ann):=[]
def Pr.a128:List (Nat × Ann):=[(1,⟨[0,1,3,2,4,5,6],[(2,[3])]⟩)]
def Pr.a129:List (Nat × Ann):=[(1,⟨[0,1,3,2,4,5,6],[(2,[3])]⟩)]
def Pr.a130:List (Nat × Ann):=[]
def Pr.a131:List (Nat × Ann):=[]
def Pr.a132:List (Nat × Ann):=[]
def Pr.a133:List (Nat × Ann):=[(8,⟨[0,2,3,1,4,5],[(1,[2])]⟩)]
def Pr.a134:List (Nat × Ann):=[(10,⟨[0,1,2,3,4,5,6],[(3,[1])]⟩),(17,⟨[0,1,2,3,4,5,6,7],[(4,[1,2])]⟩)]
def Pr.a135:List (Nat × Ann):=[]
def Pr.a136:List (Nat × Ann):=[]
def Pr.a137:List (Nat × Ann):=[]
def Pr.a138:List (Nat × Ann):=[]
def Pr.a139:List (Nat × Ann):=[(36,⟨[0,1,3,5,6,7,2,4,8,9,10],[(2,[5,6,7]),(4,[5,6,7])]⟩)]
def Pr.a140:List (Nat × Ann):=[]
def Pr.a141:List (Nat × Ann):=[]
def Pr.a142:List (Nat × Ann):=[]
def Pr.a143:List (Nat × Ann):=[]
def Pr.a144:List (Nat × Ann):=[]
def Pr.a145:List (Nat × Ann):=[]
def Pr.a147:List (Nat × Ann):=[]
def Pr.a148:List (Nat × Ann):=[(4,⟨[0,2,3,1,4,5],[(1,[2])]⟩)]
def Pr.a149:List (Nat × Ann):=[]
def Pr.a150:List (Nat × Ann):=[(6,⟨[0,1,2,3,4,5,6,7,8],[(5,[1])]⟩),(9,⟨[0,1,2,3,4,5,6,7,8],[(5,[1])]⟩),(10,⟨[0,1,2,3,4,5,6],[(3,[1])]⟩),(21,⟨[0,1,2,3,4,5,6,7,8],[(4,[1,2])]⟩),(23,⟨[0,1,2,3,4,5,6,7],[(3,[1])]⟩),(26,⟨[0,1,2,3,4,5,6,7,8,9],[(5,[1])]⟩),(27,⟨[0,1,2,3,4,5,6,7,8,9,10],[(6,[1])]⟩)]
def Pr.a151:List (Nat × Ann):=[(5,⟨[0,1,2,3,4,5,6,7,8,9,10,11,12,13],[]⟩)]
def Pr.a152:List (Nat × Ann):=[(11,⟨[0,2,3,1,4,5],[(1,[2])]⟩)]
def Pr.a153:List (Nat × Ann):=[(5,⟨[0,1,2,3,4,5],[(2,[0])]⟩),(24,⟨[0,1,2,3,4,5,6,7],[(4,[1,2])]⟩)]
def Pr.a154:List (Nat × Ann):=[(7,⟨[0,1,2,3,4,5,6,7],[]⟩),(15,⟨[0,1,2,3,4,5,6,7,8,9],[]⟩),(25,⟨[0,1,2,3,4,5,6,7],[(3,[1])]⟩)]
def Pr.a155:List (Nat × Ann):=[]
def Pr.a156:List (Nat × Ann):=[]
def Pr.a157:List (Nat × Ann):=[]
def Pr.a158:List (Nat × Ann):=[(12,⟨[0,1,2,3,4,5,6],[]⟩),(14,⟨[0,1,2,3,4,5,6,7,8,9,10],[(4,[1,2]),(6,[1])]⟩)]
def Pr.a159:List (Nat × Ann):=[(3,⟨[0,2,1,3,4,5],[(1,[2])]⟩)]
def Pr.a160:List (Nat × Ann):=[(3,⟨[0,1,2,3,4,5],[(2,[0])]⟩)]
def Pr.a161:List (Nat × Ann):=[]
def Pr.a162:List (Nat × Ann):=[]
def Pr.a163:List (Nat × Ann):=[(7,⟨[0,2,3,1,4,5],[(1,[2])]⟩)]
def Pr.a164:List (Nat × Ann):=[(11,⟨[0,1,2,3,4,5,6],[(3,[1])]⟩)]
def Pr.a165:List (Nat × Ann):=[(2,⟨[0,1,2,3,4,5,6],[(3,[1])]⟩),(8,⟨[0,1,2,3,4,5,6,7],[(4,[2])]⟩)]
def Pr.a166:List (Nat × Ann):=[]
def Pr.a167:List (Nat × Ann):=[(3,⟨[0,1,2,3,4,5],[(2,[0])]⟩),(5,⟨[0,1,2,3,4,5],[(3,[0])]⟩)]
def Pr.a168:List (Nat × Ann):=[]
def Pr.a170:List (Nat × Ann):=[]
def Pr.a171:List (Nat × Ann):=[]
def Pr.a172:List (Nat × Ann):=[(8,⟨[0,1,2,3,4,5,6],[(3,[1])]⟩)]
def Pr.a173:List (Nat × Ann):=[]
def Pr.a174:List (Nat × Ann):=[]
def Pr.a175:List (Nat × Ann):=[]
def Pr.a176:List (Nat × Ann):=[(7,⟨[0,1,2,3,4,5,6,7,8,9,10,11,12,13,14],[]⟩),(8,⟨[0,1,2,3,4,5,6,7,8,9,10,11,12,13,14],[]⟩),(9,⟨[0,1,2,3,4,5,6,7,8,9,10,11,12,13,14],[]⟩),(10,⟨[0,1,2,3,4,5,6,7,8,9,10,11,12,13,14],[]⟩),(17,⟨[0,1,2,3,4,5,6,7,8,9,10,11,12,13,14],[]⟩),(18,⟨[0,1,2,3,4,5,6,7,8,9,10,11,12,13,14],[]⟩),(23,⟨[0,1,2,3,4,5,6,7,8,9,10,11,12,13,14],[]⟩)]
def Pr.a177:List (Nat × Ann):=[]
def Pr.a178:List (Nat × Ann):=[]
def Pr.a179:List (Nat × Ann):=[]
def Pr.a180:List (Nat × Ann):=[]
def Pr.a181:List (Nat × Ann):=[]
def Pr.a182:List (Nat × Ann):=[]
def Pr.a183:List (Nat × Ann):=[]
def Pr.a184:List (Nat × Ann):=[]
def Pr.a185:List (Nat × Ann):=[(5,⟨[0,1,2,3,4,5,6,7,8,9,10,11,12,13],[]⟩)]
def Pr.a186:List (Nat × Ann):=[]
def Pr.a187:List (Nat × Ann):=[]
def Pr.a188:List (Nat × Ann):=[(12,⟨[0,1,2,3,4,5,6,7,8],[(3,[1])]⟩)]
def Pr.a189:List (Nat × Ann):=[]
def Pr.a190:List (Nat × Ann):=[]
def Pr.ann:Nat→List (Nat × Ann)
 | 3=>Pr.a3
 | 4=>Pr.a4
 | 5=>Pr.a5
 | 6=>Pr.a6
 | 7=>Pr.a7
 | 8=>Pr.a8
 | 9=>Pr.a9
 | 10=>Pr.a10
 | 11=>Pr.a11
 | 12=>Pr.a12
 | 13=>Pr.a13
 | 14=>Pr.a14
 | 15=>Pr.a15
 | 16=>Pr.a16
 | 17=>Pr.a17
 | 18=>Pr.a18
 | 19=>Pr.a19
 | 20=>Pr.a20
 | 21=>Pr.a21
 | 22=>Pr.a22
 | 23=>Pr.a23
 | 24=>Pr.a24
 | 25=>Pr.a25
 | 26=>Pr.a26
 | 27=>Pr.a27
 | 28=>Pr.a28
 | 29=>Pr.a29
 | 30=>Pr.a30
 | 31=>Pr.a31
 | 32=>Pr.a32
 | 33=>Pr.a33
 | 34=>Pr.a34
 | 35=>Pr.a35
 | 36=>Pr.a36
 | 37=>Pr.a37
 | 38=>Pr.a38
 | 39=>Pr.a39
 | 40=>Pr.a40
 | 41=>Pr.a41
 | 42=>Pr.a42
 | 43=>Pr.a43
 | 44=>Pr.a44
 | 45=>Pr.a45
 | 46=>Pr.a46
 | 47=>Pr.a47
 | 48=>Pr.a48
 | 49=>Pr.a49
 | 50=>Pr.a50
 | 51=>Pr.a51
 | 52=>Pr.a52
 | 53=>Pr.a53
 | 54=>Pr.a54
 | 55=>Pr.a55
 | 56=>Pr.a56
 | 57=>Pr.a57
 | 58=>Pr.a58
 | 59=>Pr.a59
 | 60=>Pr.a60
 | 61=>Pr.a61
 | 62=>Pr.a62
 | 63=>Pr.a63
 | 64=>Pr.a64
 | 65=>Pr.a65
 | 66=>Pr.a66
 | 67=>Pr.a67
 | 68=>Pr.a68
 | 69=>Pr.a69
 | 70=>Pr.a70
 | 71=>Pr.a71
 | 72=>Pr.a72
 | 73=>Pr.a73
 | 74=>Pr.a74
 | 75=>Pr.a75
 | 76=>Pr.a76
 | 77=>Pr.a77
 | 78=>Pr.a78
 | 79=>Pr.a79
 | 80=>Pr.a80
 | 81=>Pr.a81
 | 82=>Pr.a82
 | 83=>Pr.a83
 | 84=>Pr.a84
 | 85=>Pr.a85
 | 86=>Pr.a86
 | 87=>Pr.a87
 | 88=>Pr.a88
 | 89=>Pr.a89
 | 90=>Pr.a90
 | 91=>Pr.a91
 | 92=>Pr.a92
 | 93=>Pr.a93
 | 94=>Pr.a94
 | 95=>Pr.a95
 | 96=>Pr.a96
 | 97=>Pr.a97
 | 98=>Pr.a98
 | 99=>Pr.a99
 | 100=>Pr.a100
 | 101=>Pr.a101
 | 102=>Pr.a102
 | 103=>Pr.a103
 | 104=>Pr.a104
 | 105=>Pr.a105
 | 106=>Pr.a106
 | 107=>Pr.a107
 | 108=>Pr.a108
 | 109=>Pr.a109
 | 110=>Pr.a110
 | 111=>Pr.a111
 | 112=>Pr.a112
 | 113=>Pr.a113
 | 114=>Pr.a114
 | 115=>Pr.a115
 | 116=>Pr.a116
 | 117=>Pr.a117
 | 118=>Pr.a118
 | 119=>Pr.a119
 | 120=>Pr.a120
 | 121=>Pr.a121
 | 122=>Pr.a122
 | 123=>Pr.a123
 | 124=>Pr.a124
 | 125=>Pr.a125
 | 127=>Pr.a127
 | 128=>Pr.a128
 | 129=>Pr.a129
 | 130=>Pr.a130
 | 131=>Pr.a131
 | 132=>Pr.a132
 | 133=>Pr.a133
 | 134=>Pr.a134
 | 135=>Pr.a135
 | 136=>Pr.a136
 | 137=>Pr.a137
 | 138=>Pr.a138
 | 139=>Pr.a139
 | 140=>Pr.a140
 | 141=>Pr.a141
 | 142=>Pr.a142
 | 143=>Pr.a143
 | 144=>Pr.a144
 | 145=>Pr.a145
 | 147=>Pr.a147
 | 148=>Pr.a148
 | 149=>Pr.a149
 | 150=>Pr.a150
 | 151=>Pr.a151
 | 152=>Pr.a152
 | 153=>Pr.a153
 | 154=>Pr.a154
 | 155=>Pr.a155
 | 156=>Pr.a156
 | 157=>Pr.a157
 | 158=>Pr.a158
 | 159=>Pr.a159
 | 160=>Pr.a160
 | 161=>Pr.a161
 | 162=>Pr.a162
 | 163=>Pr.a163
 | 164=>Pr.a164
 | 165=>Pr.a165
 | 166=>Pr.a166
 | 167=>Pr.a167
 | 168=>Pr.a168
 | 170=>Pr.a170
 | 171=>Pr.a171
 | 172=>Pr.a172
 | 173=>Pr.a173
 | 174=>Pr.a174
 | 175=>Pr.a175
 | 176=>Pr.a176
 | 177=>Pr.a177
 | 178=>Pr.a178
 | 179=>Pr.a179
 | 180=>Pr.a180
 | 181=>Pr.a181
 | 182=>Pr.a182
 | 183=>Pr.a183
 | 184=>Pr.a184
 | 185=>Pr.a185
 | 186=>Pr.a186
 | 187=>Pr.a187
 | 188=>Pr.a188
 | 189=>Pr.a189
 | 190=>Pr.a190
 |_=>[]
def Pr.treeF(_:Unit):TyTree:=Pr.tree
def Pr.signs:List (List UInt8):=[[60,61],[62,61],[60,62],[124,124],[40],[41],[44],[46],[59],[61],[60],[62],[43],[45],[42],[47]]
def Pr.glob:Nat→Option (TypeId × AV)
 | 0=>some (91,.agg [.str [60,61],.str [62,61],.str [60,62],.str [124,124],.str [40],.str [41],.str [44],.str [46],.str [59],.str [61],.str [60],.str [62],.str [43],.str [45],.str [42],.str [47]])
 | 1=>some (3,.anyInt .i64)
 | 3=>some (86,.iface 126 .undef)
 |_=>none
def Pr.tab(X:Sg):Tab:={ X:=X,tree:=Pr.treeF,eqs:=[41],glob:=Pr.glob }
theorem Pr.treeOk:treeOk Tryz.prog Pr.tree=true:=by kernel_rfl
theorem Pr.eqs:qew Tryz.prog (Pr.tab real)=true:=by kernel_rfl
theorem Pr.tabOk:TabOk Tryz.prog (Pr.tab real):=⟨Pr.treeOk,rfl,vd8 Pr.eqs⟩
theorem Pr.mixed:Tryz.prog.follows .mixedOrders=true:=by kernel_rfl
end Go.AM
namespace Go.AM
open Go.Proofs
theorem jeo{T:Tab}{w:World}{g:Ghost}{a b:AV}{vs:List Value}(h:zk T w g [a,b] vs):∃ x y,vs=[x,y]∧Rep T w g a x∧Rep T w g b y:=by
 obtain⟨hl,hR⟩:=h
 match vs,hl with
 | [x,y],_=>exact⟨x,y,rfl,by simpa[nth] using hR 0 (by simp),by simpa[nth] using hR 1 (by simp)⟩
theorem enters_of{P:Program}{f:FuncId}{fn:Func}(hf:P.funcs[f]? =some fn)(hb:fn.body.isNone=false)(hn:(fn.name == "runtime.NumGoroutine")=false):Enters P f:=by
 intro args w
 have hn':¬ fn.name= "runtime.NumGoroutine" :=by simpa using hn
 cases hc:fn.body with
 |none=>rw[hc] at hb;cases hb
 |some c=>simp[callFunc,hf,hn',hc]
theorem Pr.enters64:Enters Tryz.prog 64:=enters_of Tryz.func64 (by kernel_rfl) (by kernel_rfl)
theorem zbo(s:List UInt8)(c:Int)(S:St)(K:Out→St→Prop)(hK:K (.ret (.int .i64 (Lib.indexByte s c.toNat.toUInt8))) S):jb Tryz.prog (Pr.tab real) 64 [.str s,.int .u8 c] S K:=by
 refine zam (v:= .int .i64 (Lib.indexByte s c.toNat.toUInt8)) hK fun g w vs r ha=> .inl ⟨Pr.enters64,?_⟩
 obtain⟨x,y,rfl,hx,hy⟩:=jeo ha
 cases hx
 cases hy
 refine Calls.mono (Tryz.strings_IndexByte _ _ _) ?_
 rintro e w' ⟨rfl,rfl⟩
 exact⟨_,g,rfl,.refl _ _,.int ..⟩
end Go.AM
namespace Go.Proofs
open Go.RowKit
def low(c:UInt8):UInt8:=if 65≤c.toNat∧c.toNat≤90 then c+32 else c
def ya5(l:List UInt8)(j m:Nat):UInt8:=if m<j then low (l.getD m 0) else l.getD m 0
def xam(l:List UInt8)(w:World)(j:Nat)(wr:World):Prop:=
 Below w.heap.size w wr∧(∀ m,m<l.length→wr.cell? ⟨w.heap.size,m,none⟩=some (.int .u8 ((ya5 l j m).toNat:Int)))∧∀ m,m<l.length→wr.frozen? ⟨w.heap.size,m,none⟩=false
theorem Tryz.lower(l:List UInt8)(w:World)(hl:l.length≤1000000000) :
 Calls Tryz.prog 68 #[.string ⟨l.toArray⟩] w fun e w'=>e= .returned (.string ⟨(l.map low).toArray⟩)∧Below w.heap.size w w':=by
 have hsz:(⟨l.toArray⟩:ByteArray).size=l.length:=by simp[ByteArray.size]
 obtain⟨n,hn⟩:∃ n,n=l.length:=⟨_,rfl⟩
 obtain⟨s,hs⟩:∃ s:ByteArray,s=⟨l.toArray⟩:=⟨_,rfl⟩
 rw[← hs] at hsz ⊢
 obtain⟨cap,hcap⟩:∃ cap,cap=grownCap w s.size 0 5:=⟨_,rfl⟩
 obtain⟨w1,hw1⟩:∃ w1,w1=Lib.bytesWorld w 5 s:=⟨_,rfl⟩
 have hconv:(convert 9 78 (.string s)).run Tryz.prog w= .ok (.slice (some ⟨w.heap.size,0,none⟩) n cap) w1:=by
  have:=Lib.run_convert_string_bytes (P:=Tryz.prog) w 9 78 5 s (u:= .string) (by kernel_rfl) (by kernel_rfl) (by kernel_rfl)
  rw[this,hcap,hw1,hsz,hn]
 have hrow0:xam l w 0 w1:=by
  have hnew:=Lib.bytesWorld_at_new w 5 s
  refine⟨?_,fun m hm=>?_,fun m hm=>?_⟩
  ·rw[hw1]
   refine⟨?_,?_,?_,?_,fun k hk=>Lib.bytesWorld_at_old w 5 s k hk⟩
   ·unfold Lib.bytesWorld World.freeze;split<;>rfl
   ·unfold Lib.bytesWorld World.freeze;split<;>rfl
   ·unfold Lib.bytesWorld World.freeze;split<;>rfl
   ·rw[Lib.bytesWorld_size];omega
  ·rw[hw1,Lib.bytesWorld_cell w 5 s m (by omega),hs]
   simp[ya5]
  ·rw[hw1]
   have hlen:s.size≤(Lib.bytesCells w 5 s).size:=by
    unfold Lib.bytesCells
    rw[Array.size_append,Array.size_map]
    show s.size≤s.data.size+_
    have:s.data.size=s.size:=rfl
    omega
   simp[World.frozen?,hnew]
   omega
 have hA:Aside (xam l w 0 w1):=hrow0
 clear hrow0
 have hB:Aside (n=l.length∧s=⟨l.toArray⟩∧s.size=l.length):=⟨hn,hs,hsz⟩
 clear hcap hw1 hn hsz hs
 have step:∀(j:Nat) (wr:World),j<l.length→xam l w j wr→low (l.getD j 0)=l.getD j 0→xam l w (j+1) wr:=by
  rintro j wr hj ⟨h1,h2,h3⟩ he
  refine⟨h1,fun m hm=>?_,h3⟩
  rw[h2 m hm]
  have:ya5 l (j+1) m=ya5 l j m:=by
   unfold ya5
   by_cases h:m<j
   ·rw[if_pos (by omega),if_pos h]
   ·rw[if_neg h]
    by_cases h':m=j
    ·subst h';rw[if_pos (by omega)];exact he
    ·rw[if_neg (by omega)]
  rw[this]
 have step2:∀(j:Nat) (wr:World) (v:Int),j<l.length→xam l w j wr→v=((low (l.getD j 0)).toNat:Int)→xam l w (j+1) (wr.setCell ⟨w.heap.size,j,none⟩ (.int .u8 v)):=by
  rintro j wr v hj ⟨h1,h2,h3⟩ he
  refine⟨h1.setCell (Nat.le_refl _) _,fun m hm=>?_,fun m hm=>by rw[World.frozen?_setCell];exact h3 m hm⟩
  by_cases h':m=j
  ·subst h'
   rw[World.cell?_setCell_same _ _ _ (h2 m hm),he]
   simp[ya5]
  ·rw[World.cell?_setCell_other _ _ _ _ (by intro q;injection q with q1 q2;exact h' q2.symm),h2 m hm]
   have:ya5 l (j+1) m=ya5 l j m:=by
    unfold ya5
    by_cases h:m<j
    ·rw[if_pos (by omega),if_pos h]
    ·rw[if_neg h,if_neg (by omega)]
   rw[this]
 have hstep:Aside ((∀(j:Nat) (wr:World),j<l.length→xam l w j wr→low (l.getD j 0)=l.getD j 0→xam l w (j+1) wr) ∧
  (∀(j:Nat) (wr:World) (v:Int),j<l.length→xam l w j wr→v=((low (l.getD j 0)).toNat:Int)→xam l w (j+1) (wr.setCell ⟨w.heap.size,j,none⟩ (.int .u8 v)))):=⟨step,step2⟩
 clear step step2
 go_enter Tryz.func68,Tryz.ntmps68
 go_wp2
 go_loopg [10] n (fun k i wr=>∃ j:Nat,j+k=n∧i= .int .i64 j∧Aside (xam l w j wr))
 case atStart=>exact⟨0,by omega,rfl,hA⟩
 case round=>
  obtain⟨j,hjk,rfl,hR⟩:=hrel
  have hR':=hR.out
  have hB':=hB.out
  by_cases hlt:j<n
  ·have hjl:j<l.length:=by omega
   have hc:=hR'.2.1 j hjl
   have hf:=hR'.2.2 j hjl
   have hlat:ya5 l j j=l.getD j 0:=by simp[ya5]
   rw[hlat] at hc
   have hlow:((low (l.getD j 0)).toNat:Int)=if 65≤((l.getD j 0).toNat:Int)∧((l.getD j 0).toNat:Int)≤90 then ((l.getD j 0).toNat:Int)+32 else ((l.getD j 0).toNat:Int):=by
    unfold low
    have hb:=(l.getD j 0).toNat_lt
    by_cases h:65≤(l.getD j 0).toNat∧(l.getD j 0).toNat≤90
    ·rw[if_pos h,if_pos (by omega),UInt8.toNat_add]
     have:(32:UInt8).toNat=32:=rfl
     rw[this]
     omega
    ·rw[if_neg h,if_neg (by omega)]
   have hx256:((l.getD j 0).toNat:Int)<256:=by have:=(l.getD j 0).toNat_lt;omega
   have hx0:(0:Int)≤((l.getD j 0).toNat:Int):=by omega
   have hs1:=hstep.out.1 j wr hjl hR'
   have hs2:=fun v=>hstep.out.2 j wr v hjl hR'
   have hsame:((low (l.getD j 0)).toNat:Int)=((l.getD j 0).toNat:Int)→low (l.getD j 0)=l.getD j 0:=fun h=>UInt8.toNat_inj.1 (by omega)
   generalize ((l.getD j 0).toNat:Int)=x at *
   generalize ((low (l.getD j 0)).toNat:Int)=y at *
   have hK:Aside ((x<65∨90<x→xam l w (j+1) wr)∧(65≤x→x≤90→xam l w (j+1) (wr.setCell ⟨w.heap.size,j,none⟩ (.int .u8 (x+97-65))))):=
    ⟨fun h=>hs1 (hsame (by rw[hlow,if_neg (by omega)])),fun h1 h2=>hs2 _ (by rw[hlow,if_pos ⟨h1,h2⟩];omega)⟩
   clear hs1 hs2 hsame hlow hlat hR' hB'
   by_cases h65:65≤x
   ·by_cases h90:x≤90
    ·go_wp2
     go_roundg (gk-1)
     case measure=>omega
     case rel=>exact⟨j+1,by omega,by go_num,hK.out.2 h65 h90⟩
    ·go_wp2
     go_roundg (gk-1)
     case measure=>omega
     case rel=>exact⟨j+1,by omega,by go_num,hK.out.1 (by omega)⟩
   ·go_wp2
    go_roundg (gk-1)
    case measure=>omega
    case rel=>exact⟨j+1,by omega,by go_num,hK.out.1 (by omega)⟩
  ·have hjn:j=n:=by omega
   have hback:(convert 78 9 (.slice (some ⟨w.heap.size,0,none⟩) n cap)).run Tryz.prog wr= .ok (.string ⟨(l.map low).toArray⟩) wr:=by
    have hln:n=(l.map low).length:=by simp[hB'.1]
    rw[hln]
    refine run_convert_bytes_back wr 78 9 5 _ cap (l.map low) (by kernel_rfl) (by kernel_rfl) (by kernel_rfl) ?_
    intro m hm
    have hm':m<l.length:=by simpa using hm
    have hadd:(⟨w.heap.size,0,none⟩:Addr).add m=⟨w.heap.size,m,none⟩:=by unfold Addr.add;split<;>simp_all
    rw[hadd,hR'.2.1 m hm']
    have:ya5 l j m=low l[m]:=by unfold ya5;rw[if_pos (by omega)];simp[List.getD_eq_getElem?_getD,hm']
    rw[this]
    simp
   have hbel:Below w.heap.size w wr:=hR'.1
   clear hR' hB'
   have hbel':Aside (Below w.heap.size w wr):=hbel
   clear hbel
   go_wp2
   go_ret
   exact⟨rfl,hbel'.out⟩
end Go.Proofs
namespace Go.AM
open Go.Proofs
theorem Pr.enters68:Enters Tryz.prog 68:=enters_of Tryz.func68 (by kernel_rfl) (by kernel_rfl)
theorem jae(g:Ghost){w w':World}(h:RowKit.Below w.heap.size w w'):Grow g w g w':=
 ⟨rfl,rfl,fun _ _ h=>h,fun _ _ h=> .inl h,h.block,h.size,h.os,h.tape,h.output⟩
theorem qbs(l:List UInt8)(hl:l.length≤1000000000)(S:St)(K:Out→St→Prop)(hK:K (.ret (.str (l.map low))) S):jb Tryz.prog (Pr.tab real) 68 [.str l] S K:=by
 refine zam (v:= .str (l.map low)) hK fun g w vs r ha=> .inl ⟨Pr.enters68,?_⟩
 obtain⟨x,rfl,hx⟩:∃ x,vs=[x]∧Rep (Pr.tab real) w g (.str l) x:=by
  obtain⟨hl,hR⟩:=ha
  match vs,hl with
  | [x],_=>exact⟨x,rfl,by simpa[nth] using hR 0 (by simp)⟩
 cases hx
 refine Calls.mono (Tryz.lower l w hl) ?_
 rintro e w' ⟨rfl,hb⟩
 exact⟨_,g,rfl,jae g hb,.str _ _⟩
end Go.AM
namespace Go.AM
open Go.Proofs
def jc(b:UInt8):Bool:=48≤b && b≤57
def xf(acc:Nat)(l:List UInt8):Nat:=l.foldl (fun a c=>a * 10+(c.toNat-48)) acc
theorem zc4(l:List UInt8):∀ acc,acc≤xf acc l:=by
 induction l with
 |nil=>intro acc;exact Nat.le_refl _
 |cons c r ih=>intro acc;exact Nat.le_trans (by omega) (ih (acc * 10+(c.toNat-48)))
theorem za3(c:UInt8)(h:jc c=true):48≤c.toNat∧c.toNat≤57:=by
 unfold jc at h
 simp only[Bool.and_eq_true,decide_eq_true_eq] at h
 exact⟨UInt8.le_iff_toNat_le.1 h.1,UInt8.le_iff_toNat_le.1 h.2⟩
theorem qet(l:List UInt8):∀ acc,acc≤18446744073709551615→l.all jc=true →
 Lib.parseUintM 18446744073709551615 acc l=if xf acc l≤18446744073709551615 then .ok (xf acc l) else .range:=by
 induction l with
 |nil=>intro acc ha _;have e:xf acc []=acc:=rfl;rw[e,if_pos ha];rfl
 |cons c r ih=>
  intro acc ha hd
  rw[List.all_cons,Bool.and_eq_true] at hd
  have hc:=za3 c hd.1
  have hge:=zc4 r (acc * 10+(c.toNat-48))
  have hcons:xf acc (c::r)=xf (acc * 10+(c.toNat-48)) r:=rfl
  unfold Lib.parseUintM
  rw[if_pos hc,hcons]
  by_cases h1:1844674407370955162≤acc
  ·rw[if_pos h1,if_neg (by omega)]
  ·rw[if_neg h1]
   by_cases h2:18446744073709551615<acc * 10+(c.toNat-48)
   ·rw[if_pos h2,if_neg (by omega)]
   ·rw[if_neg h2]
    exact ih _ (by omega) hd.2
theorem qee(l:List UInt8)(h0:l≠[])(hd:l.all jc=true) :
 Lib.parseIntB 64 l=if xf 0 l<9223372036854775808 then .ok (xf 0 l:Int) else .range:=by
 cases l with
 |nil=>exact absurd rfl h0
 |cons c r=>
  have hc:=za3 c (by rw[List.all_cons,Bool.and_eq_true] at hd;exact hd.1)
  have hp:=qet (c::r) 0 (by omega) hd
  unfold Lib.parseIntB
  simp only
  rw[if_neg (show ¬ (c.toNat=43∨c.toNat=45) by omega)]
  unfold Lib.parseUintB
  rw[if_neg (by simp),show 2 ^ 64-1=18446744073709551615 from rfl,hp]
  have h45:¬ c.toNat=45:=by omega
  by_cases h1:xf 0 (c::r)≤18446744073709551615
  ·rw[if_pos h1]
   simp only[h45,not_false_eq_true,true_and,false_and,if_false]
   by_cases h2:xf 0 (c::r)<9223372036854775808
   ·rw[if_pos h2,if_neg (by omega)]
   ·rw[if_neg h2,if_pos (by omega)]
  ·rw[if_neg h1,if_neg (by omega)]
theorem ybk(w:World)(t:ByteArray):RowKit.Below w.heap.size w (Lib.bytesWorld w 5 t):=by
 refine⟨?_,?_,?_,?_,fun k hk=>Lib.bytesWorld_at_old w 5 t k hk⟩
 ·unfold Lib.bytesWorld World.freeze;split<;>rfl
 ·unfold Lib.bytesWorld World.freeze;split<;>rfl
 ·unfold Lib.bytesWorld World.freeze;split<;>rfl
 ·rw[Lib.bytesWorld_size];omega
theorem Pr.enters71:Enters Tryz.prog 71:=enters_of Tryz.func71 (by kernel_rfl) (by kernel_rfl)
theorem zeo{T:Tab}{w:World}{g:Ghost}{a b c:AV}{vs:List Value}(h:zk T w g [a,b,c] vs):∃ x y z,vs=[x,y,z]∧Rep T w g a x∧Rep T w g b y∧Rep T w g c z:=by
 obtain⟨hl,hR⟩:=h
 match vs,hl with
 | [x,y,z],_=>exact⟨x,y,z,rfl,by simpa[nth] using hR 0 (by simp),by simpa[nth] using hR 1 (by simp),by simpa[nth] using hR 2 (by simp)⟩
def bigN:Int:=9223372036854775807
theorem jc3(l:List UInt8)(h0:l≠[])(hd:l.all jc=true)(hl:l.length≤1000000000)(hr:xf 0 l<9223372036854775808)(S:St)(K:Out→St→Prop)
 (hK1:K (.ret (.tup [.int .i64 (xf 0 l:Int),.nili])) S):jb Tryz.prog (Pr.tab real) 71 [.str l,.int .i64 10,.int .i64 64] S K:=by
 have hp:=qee l h0 hd
 have hsz:(⟨l.toArray⟩:ByteArray).size=l.length:=by simp[ByteArray.size]
 rw[if_pos hr] at hp
 refine zam (v:= .tup [.int .i64 (xf 0 l:Int),.nili]) hK1 fun g w vs r ha=> .inl ⟨Pr.enters71,?_⟩
 obtain⟨x,y,z,rfl,hx,hy,hz⟩:=zeo ha
 cases hx;cases hy;cases hz
 refine Calls.mono (Tryz.strconv_ParseInt_10_at64_ok ⟨l.toArray⟩ (by omega) _ (by simpa using hp) w) ?_
 rintro e w' ⟨rfl,hw⟩
 refine⟨_,g,rfl,?_,?_⟩
 ·rcases hw with rfl|⟨t,rfl⟩
  ·exact .refl _ _
  ·exact jae g (ybk w t)
 ·refine .tup _ _ [_,_] rfl fun j hj=>?_
  match j,hj with
  | 0,_=>exact .int ..
  | 1,_=>exact .nili _
theorem Pr.enters136:Enters Tryz.prog 136:=enters_of Tryz.func136 (by kernel_rfl) (by kernel_rfl)
theorem vao(s p:List UInt8)(hs:s.length<4294967281)(S:St)(K:Out→St→Prop)(hK:K (.ret (.bool (Lib.contains s p))) S):jb Tryz.prog (Pr.tab real) 136 [.str s,.str p] S K:=by
 refine vbk (v:= .bool (Lib.contains s p)) hK fun g w vs r hg ha=> .inl ⟨Pr.enters136,?_⟩
 obtain⟨x,y,rfl,hx,hy⟩:=jeo ha
 cases hx;cases hy
 have hgl:=hg 1 3 (.anyInt .i64) rfl
 obtain⟨m,hm⟩:∃ m,w.cell? ⟨1,0,none⟩=some (.int .i64 m):=by
  cases hgl with
  |eptr _ _ _ _ _ base xs hf hc h1 hD hR=>
   have h2:=hc 0 (by simp[AV.cells])
   have h3:=hR 0 (by simp[AV.cells])
   simp only[AV.cells,nth] at h3
   generalize hq:xs 0=q at h2 h3
   cases h3
   rename_i m
   exact⟨m,by simpa using h2⟩
 refine Calls.mono (Tryz.strings_Contains ⟨s.toArray⟩ ⟨p.toArray⟩ m w (by simpa[ByteArray.size] using hs) hm) ?_
 rintro e w' ⟨rfl,rfl⟩
 exact⟨_,g,rfl,.refl _ _,.bool ..⟩
def Pr.prim1:List AV→Option AV
 | [.str s]=>match Nat.ble s.length 1000000000 with
  |true=>some (.str (s.map low))
  |false=>none
 |_=>none
def Pr.prim2:List AV→Option AV
 | [.str s,.int .u8 c]=>some (.int .i64 (Lib.indexByte s c.toNat.toUInt8))
 |_=>none
noncomputable def Pr.prim3:List AV→Option AV
 | [.str l,.int .i64 b,.int .i64 c]=>match decide (b=10) && decide (c=64) && !l.isEmpty && l.all jc && Nat.ble l.length 1000000000 && Nat.blt (xf 0 l) 9223372036854775808 with
  |true=>some (.tup [.int .i64 (xf 0 l:Int),.nili])
  |false=>none
 |_=>none
def Pr.prim4:List AV→Option AV
 | [.str s,.str p]=>match Nat.blt s.length 4294967281 with
  |true=>some (.bool (Lib.contains s p))
  |false=>none
 |_=>none
noncomputable def Pr.prim(f:FuncId)(l:List AV):Option AV:=
 match Nat.beq f 68 with
 |true=>Pr.prim1 l
 |false=>match Nat.beq f 64 with
  |true=>Pr.prim2 l
  |false=>match Nat.beq f 71 with
   |true=>Pr.prim3 l
   |false=>match Nat.beq f 136 with
    |true=>Pr.prim4 l
    |false=>none
theorem Pr.primOk:∀ f args v,Pr.prim f args=some v→∀(S:St) (K:Out→St→Prop),K (.ret v) S→jb Tryz.prog (Pr.tab real) f args S K:=by
 intro f args v h S K hK
 unfold Pr.prim at h
 cases h1:Nat.beq f 68 with
 |true=>
  obtain rfl:=Nat.eq_of_beq_eq_true h1
  rw[h1] at h
  simp only[Pr.prim1] at h
  split at h
  ·rename_i s
   split at h
   ·rename_i hl
    cases h
    exact qbs s (nb hl) S K hK
   ·cases h
  ·cases h
 |false=>
  rw[h1] at h
  cases h2:Nat.beq f 64 with
  |true=>
   obtain rfl:=Nat.eq_of_beq_eq_true h2
   rw[h2] at h
   simp only[Pr.prim2] at h
   split at h
   ·cases h
    exact zbo _ _ S K hK
   ·cases h
  |false=>
   rw[h2] at h
   cases h3:Nat.beq f 71 with
   |true=>
    obtain rfl:=Nat.eq_of_beq_eq_true h3
    rw[h3] at h
    simp only[Pr.prim3] at h
    split at h
    ·rename_i l b c
     split at h
     ·rename_i hc
      cases h
      simp only[Bool.and_eq_true,decide_eq_true_eq,Bool.not_eq_true',List.isEmpty_eq_false_iff] at hc
      obtain⟨⟨⟨⟨⟨rfl,rfl⟩,h4⟩,h5⟩,h6⟩,h7⟩:=hc
      exact jc3 l h4 h5 (nb h6) (nb h7) S K hK
     ·cases h
    ·cases h
   |false=>
    rw[h3] at h
    cases h4:Nat.beq f 136 with
    |true=>
     obtain rfl:=Nat.eq_of_beq_eq_true h4
     rw[h4] at h
     simp only[Pr.prim4] at h
     split at h
     ·rename_i s p
      split at h
      ·rename_i hl
       cases h
       exact vao s p (nb hl) S K hK
      ·cases h
     ·cases h
    |false=>rw[h4] at h;cases h
end Go.AM
namespace Go.AM
open Go.Proofs
theorem Pr.fn11:FnOk Tryz.prog 11 (fni Tryz.f11 Pr.a11):=⟨⟨Tryz.f11,Tryz.func11,rfl,rfl,rfl,by kernel_rfl⟩,by kernel_rfl⟩
theorem Pr.fn12:FnOk Tryz.prog 12 (fni Tryz.f12 Pr.a12):=⟨⟨Tryz.f12,Tryz.func12,rfl,rfl,rfl,by kernel_rfl⟩,by kernel_rfl⟩
theorem Pr.fn15:FnOk Tryz.prog 15 (fni Tryz.f15 Pr.a15):=⟨⟨Tryz.f15,Tryz.func15,rfl,rfl,rfl,by kernel_rfl⟩,by kernel_rfl⟩
theorem Pr.fn17:FnOk Tryz.prog 17 (fni Tryz.f17 Pr.a17):=⟨⟨Tryz.f17,Tryz.func17,rfl,rfl,rfl,by kernel_rfl⟩,by kernel_rfl⟩
theorem Pr.fn19:FnOk Tryz.prog 19 (fni Tryz.f19 Pr.a19):=⟨⟨Tryz.f19,Tryz.func19,rfl,rfl,rfl,by kernel_rfl⟩,by kernel_rfl⟩
theorem Pr.fn21:FnOk Tryz.prog 21 (fni Tryz.f21 Pr.a21):=⟨⟨Tryz.f21,Tryz.func21,rfl,rfl,rfl,by kernel_rfl⟩,by kernel_rfl⟩
theorem Pr.fn22:FnOk Tryz.prog 22 (fni Tryz.f22 Pr.a22):=⟨⟨Tryz.f22,Tryz.func22,rfl,rfl,rfl,by kernel_rfl⟩,by kernel_rfl⟩
theorem Pr.fn34:FnOk Tryz.prog 34 (fni Tryz.f34 Pr.a34):=⟨⟨Tryz.f34,Tryz.func34,rfl,rfl,rfl,by kernel_rfl⟩,by kernel_rfl⟩
theorem Pr.fn35:FnOk Tryz.prog 35 (fni Tryz.f35 Pr.a35):=⟨⟨Tryz.f35,Tryz.func35,rfl,rfl,rfl,by kernel_rfl⟩,by kernel_rfl⟩
theorem Pr.fn36:FnOk Tryz.prog 36 (fni Tryz.f36 Pr.a36):=⟨⟨Tryz.f36,Tryz.func36,rfl,rfl,rfl,by kernel_rfl⟩,by kernel_rfl⟩
theorem Pr.fn37:FnOk Tryz.prog 37 (fni Tryz.f37 Pr.a37):=⟨⟨Tryz.f37,Tryz.func37,rfl,rfl,rfl,by kernel_rfl⟩,by kernel_rfl⟩
theorem Pr.fn39:FnOk Tryz.prog 39 (fni Tryz.f39 Pr.a39):=⟨⟨Tryz.f39,Tryz.func39,rfl,rfl,rfl,by kernel_rfl⟩,by kernel_rfl⟩
theorem Pr.fn40:FnOk Tryz.prog 40 (fni Tryz.f40 Pr.a40):=⟨⟨Tryz.f40,Tryz.func40,rfl,rfl,rfl,by kernel_rfl⟩,by kernel_rfl⟩
theorem Pr.fn41:FnOk Tryz.prog 41 (fni Tryz.f41 Pr.a41):=⟨⟨Tryz.f41,Tryz.func41,rfl,rfl,rfl,by kernel_rfl⟩,by kernel_rfl⟩
theorem Pr.fn43:FnOk Tryz.prog 43 (fni Tryz.f43 Pr.a43):=⟨⟨Tryz.f43,Tryz.func43,rfl,rfl,rfl,by kernel_rfl⟩,by kernel_rfl⟩
theorem Pr.fn46:FnOk Tryz.prog 46 (fni Tryz.f46 Pr.a46):=⟨⟨Tryz.f46,Tryz.func46,rfl,rfl,rfl,by kernel_rfl⟩,by kernel_rfl⟩
theorem Pr.fn62:FnOk Tryz.prog 62 (fni Tryz.f62 Pr.a62):=⟨⟨Tryz.f62,Tryz.func62,rfl,rfl,rfl,by kernel_rfl⟩,by kernel_rfl⟩
theorem Pr.fn63:FnOk Tryz.prog 63 (fni Tryz.f63 Pr.a63):=⟨⟨Tryz.f63,Tryz.func63,rfl,rfl,rfl,by kernel_rfl⟩,by kernel_rfl⟩
theorem Pr.fn65:FnOk Tryz.prog 65 (fni Tryz.f65 Pr.a65):=⟨⟨Tryz.f65,Tryz.func65,rfl,rfl,rfl,by kernel_rfl⟩,by kernel_rfl⟩
theorem Pr.fn66:FnOk Tryz.prog 66 (fni Tryz.f66 Pr.a66):=⟨⟨Tryz.f66,Tryz.func66,rfl,rfl,rfl,by kernel_rfl⟩,by kernel_rfl⟩
theorem Pr.fn67:FnOk Tryz.prog 67 (fni Tryz.f67 Pr.a67):=⟨⟨Tryz.f67,Tryz.func67,rfl,rfl,rfl,by kernel_rfl⟩,by kernel_rfl⟩
theorem Pr.fn69:FnOk Tryz.prog 69 (fni Tryz.f69 Pr.a69):=⟨⟨Tryz.f69,Tryz.func69,rfl,rfl,rfl,by kernel_rfl⟩,by kernel_rfl⟩
theorem Pr.fn70:FnOk Tryz.prog 70 (fni Tryz.f70 Pr.a70):=⟨⟨Tryz.f70,Tryz.func70,rfl,rfl,rfl,by kernel_rfl⟩,by kernel_rfl⟩
theorem Pr.fn73:FnOk Tryz.prog 73 (fni Tryz.f73 Pr.a73):=⟨⟨Tryz.f73,Tryz.func73,rfl,rfl,rfl,by kernel_rfl⟩,by kernel_rfl⟩
theorem Pr.fn79:FnOk Tryz.prog 79 (fni Tryz.f79 Pr.a79):=⟨⟨Tryz.f79,Tryz.func79,rfl,rfl,rfl,by kernel_rfl⟩,by kernel_rfl⟩
theorem Pr.fn80:FnOk Tryz.prog 80 (fni Tryz.f80 Pr.a80):=⟨⟨Tryz.f80,Tryz.func80,rfl,rfl,rfl,by kernel_rfl⟩,by kernel_rfl⟩
theorem Pr.fn83:FnOk Tryz.prog 83 (fni Tryz.f83 Pr.a83):=⟨⟨Tryz.f83,Tryz.func83,rfl,rfl,rfl,by kernel_rfl⟩,by kernel_rfl⟩
theorem Pr.fn84:FnOk Tryz.prog 84 (fni Tryz.f84 Pr.a84):=⟨⟨Tryz.f84,Tryz.func84,rfl,rfl,rfl,by kernel_rfl⟩,by kernel_rfl⟩
theorem Pr.fn85:FnOk Tryz.prog 85 (fni Tryz.f85 Pr.a85):=⟨⟨Tryz.f85,Tryz.func85,rfl,rfl,rfl,by kernel_rfl⟩,by kernel_rfl⟩
theorem Pr.fn98:FnOk Tryz.prog 98 (fni Tryz.f98 Pr.a98):=⟨⟨Tryz.f98,Tryz.func98,rfl,rfl,rfl,by kernel_rfl⟩,by kernel_rfl⟩
theorem Pr.fn106:FnOk Tryz.prog 106 (fni Tryz.f106 Pr.a106):=⟨⟨Tryz.f106,Tryz.func106,rfl,rfl,rfl,by kernel_rfl⟩,by kernel_rfl⟩
theorem Pr.fn107:FnOk Tryz.prog 107 (fni Tryz.f107 Pr.a107):=⟨⟨Tryz.f107,Tryz.func107,rfl,rfl,rfl,by kernel_rfl⟩,by kernel_rfl⟩
theorem Pr.fn108:FnOk Tryz.prog 108 (fni Tryz.f108 Pr.a108):=⟨⟨Tryz.f108,Tryz.func108,rfl,rfl,rfl,by kernel_rfl⟩,by kernel_rfl⟩
theorem Pr.fn109:FnOk Tryz.prog 109 (fni Tryz.f109 Pr.a109):=⟨⟨Tryz.f109,Tryz.func109,rfl,rfl,rfl,by kernel_rfl⟩,by kernel_rfl⟩
theorem Pr.fn110:FnOk Tryz.prog 110 (fni Tryz.f110 Pr.a110):=⟨⟨Tryz.f110,Tryz.func110,rfl,rfl,rfl,by kernel_rfl⟩,by kernel_rfl⟩
theorem Pr.fn115:FnOk Tryz.prog 115 (fni Tryz.f115 Pr.a115):=⟨⟨Tryz.f115,Tryz.func115,rfl,rfl,rfl,by kernel_rfl⟩,by kernel_rfl⟩
theorem Pr.fn116:FnOk Tryz.prog 116 (fni Tryz.f116 Pr.a116):=⟨⟨Tryz.f116,Tryz.func116,rfl,rfl,rfl,by kernel_rfl⟩,by kernel_rfl⟩
theorem Pr.fn133:FnOk Tryz.prog 133 (fni Tryz.f133 Pr.a133):=⟨⟨Tryz.f133,Tryz.func133,rfl,rfl,rfl,by kernel_rfl⟩,by kernel_rfl⟩
theorem Pr.fn134:FnOk Tryz.prog 134 (fni Tryz.f134 Pr.a134):=⟨⟨Tryz.f134,Tryz.func134,rfl,rfl,rfl,by kernel_rfl⟩,by kernel_rfl⟩
theorem Pr.fn137:FnOk Tryz.prog 137 (fni Tryz.f137 Pr.a137):=⟨⟨Tryz.f137,Tryz.func137,rfl,rfl,rfl,by kernel_rfl⟩,by kernel_rfl⟩
theorem Pr.fn138:FnOk Tryz.prog 138 (fni Tryz.f138 Pr.a138):=⟨⟨Tryz.f138,Tryz.func138,rfl,rfl,rfl,by kernel_rfl⟩,by kernel_rfl⟩
theorem Pr.fn147:FnOk Tryz.prog 147 (fni Tryz.f147 Pr.a147):=⟨⟨Tryz.f147,Tryz.func147,rfl,rfl,rfl,by kernel_rfl⟩,by kernel_rfl⟩
theorem Pr.fn148:FnOk Tryz.prog 148 (fni Tryz.f148 Pr.a148):=⟨⟨Tryz.f148,Tryz.func148,rfl,rfl,rfl,by kernel_rfl⟩,by kernel_rfl⟩
theorem Pr.fn150:FnOk Tryz.prog 150 (fni Tryz.f150 Pr.a150):=⟨⟨Tryz.f150,Tryz.func150,rfl,rfl,rfl,by kernel_rfl⟩,by kernel_rfl⟩
theorem Pr.fn151:FnOk Tryz.prog 151 (fni Tryz.f151 Pr.a151):=⟨⟨Tryz.f151,Tryz.func151,rfl,rfl,rfl,by kernel_rfl⟩,by kernel_rfl⟩
noncomputable def Pr.fns:FuncId→Option FnI
 | 11=>some (fni Tryz.f11 Pr.a11)
 | 12=>some (fni Tryz.f12 Pr.a12)
 | 15=>some (fni Tryz.f15 Pr.a15)
 | 17=>some (fni Tryz.f17 Pr.a17)
 | 19=>some (fni Tryz.f19 Pr.a19)
 | 21=>some (fni Tryz.f21 Pr.a21)
 | 22=>some (fni Tryz.f22 Pr.a22)
 | 34=>some (fni Tryz.f34 Pr.a34)
 | 35=>some (fni Tryz.f35 Pr.a35)
 | 36=>some (fni Tryz.f36 Pr.a36)
 | 37=>some (fni Tryz.f37 Pr.a37)
 | 39=>some (fni Tryz.f39 Pr.a39)
 | 40=>some (fni Tryz.f40 Pr.a40)
 | 41=>some (fni Tryz.f41 Pr.a41)
 | 43=>some (fni Tryz.f43 Pr.a43)
 | 46=>some (fni Tryz.f46 Pr.a46)
 | 62=>some (fni Tryz.f62 Pr.a62)
 | 63=>some (fni Tryz.f63 Pr.a63)
 | 65=>some (fni Tryz.f65 Pr.a65)
 | 66=>some (fni Tryz.f66 Pr.a66)
 | 67=>some (fni Tryz.f67 Pr.a67)
 | 69=>some (fni Tryz.f69 Pr.a69)
 | 70=>some (fni Tryz.f70 Pr.a70)
 | 73=>some (fni Tryz.f73 Pr.a73)
 | 79=>some (fni Tryz.f79 Pr.a79)
 | 80=>some (fni Tryz.f80 Pr.a80)
 | 83=>some (fni Tryz.f83 Pr.a83)
 | 84=>some (fni Tryz.f84 Pr.a84)
 | 85=>some (fni Tryz.f85 Pr.a85)
 | 98=>some (fni Tryz.f98 Pr.a98)
 | 106=>some (fni Tryz.f106 Pr.a106)
 | 107=>some (fni Tryz.f107 Pr.a107)
 | 108=>some (fni Tryz.f108 Pr.a108)
 | 109=>some (fni Tryz.f109 Pr.a109)
 | 110=>some (fni Tryz.f110 Pr.a110)
 | 115=>some (fni Tryz.f115 Pr.a115)
 | 116=>some (fni Tryz.f116 Pr.a116)
 | 133=>some (fni Tryz.f133 Pr.a133)
 | 134=>some (fni Tryz.f134 Pr.a134)
 | 137=>some (fni Tryz.f137 Pr.a137)
 | 138=>some (fni Tryz.f138 Pr.a138)
 | 147=>some (fni Tryz.f147 Pr.a147)
 | 148=>some (fni Tryz.f148 Pr.a148)
 | 150=>some (fni Tryz.f150 Pr.a150)
 | 151=>some (fni Tryz.f151 Pr.a151)
 |_=>none
theorem Pr.fnsOk:∀ f fi,Pr.fns f=some fi→FnOk Tryz.prog f fi:=by
 intro f fi h
 unfold Pr.fns at h
 split at h
 ·cases h;exact Pr.fn11
 ·cases h;exact Pr.fn12
 ·cases h;exact Pr.fn15
 ·cases h;exact Pr.fn17
 ·cases h;exact Pr.fn19
 ·cases h;exact Pr.fn21
 ·cases h;exact Pr.fn22
 ·cases h;exact Pr.fn34
 ·cases h;exact Pr.fn35
 ·cases h;exact Pr.fn36
 ·cases h;exact Pr.fn37
 ·cases h;exact Pr.fn39
 ·cases h;exact Pr.fn40
 ·cases h;exact Pr.fn41
 ·cases h;exact Pr.fn43
 ·cases h;exact Pr.fn46
 ·cases h;exact Pr.fn62
 ·cases h;exact Pr.fn63
 ·cases h;exact Pr.fn65
 ·cases h;exact Pr.fn66
 ·cases h;exact Pr.fn67
 ·cases h;exact Pr.fn69
 ·cases h;exact Pr.fn70
 ·cases h;exact Pr.fn73
 ·cases h;exact Pr.fn79
 ·cases h;exact Pr.fn80
 ·cases h;exact Pr.fn83
 ·cases h;exact Pr.fn84
 ·cases h;exact Pr.fn85
 ·cases h;exact Pr.fn98
 ·cases h;exact Pr.fn106
 ·cases h;exact Pr.fn107
 ·cases h;exact Pr.fn108
 ·cases h;exact Pr.fn109
 ·cases h;exact Pr.fn110
 ·cases h;exact Pr.fn115
 ·cases h;exact Pr.fn116
 ·cases h;exact Pr.fn133
 ·cases h;exact Pr.fn134
 ·cases h;exact Pr.fn137
 ·cases h;exact Pr.fn138
 ·cases h;exact Pr.fn147
 ·cases h;exact Pr.fn148
 ·cases h;exact Pr.fn150
 ·cases h;exact Pr.fn151
 ·cases h
noncomputable def Pr.D8:DfI:=
 { fi:=fni Tryz.f8 Pr.a8,pre:=(vw (fni Tryz.f8 Pr.a8).body).take 4,post:=(vw (fni Tryz.f8 Pr.a8).body).drop 5,t:=15,cid:=20,cap:=[.tmp 2,.tmp 3],ci:=fni Tryz.f20 Pr.a20,tr:=5,ts:=2,rest:=(vw (fni Tryz.f20 Pr.a20).body).drop 1 }
noncomputable def Pr.dfs:FuncId→Option DfI
 | 8=>some Pr.D8
 |_=>none
theorem Pr.d8:DfOk Tryz.prog 8 Pr.D8 where
 fn:=⟨Tryz.f8,_,4,_,_,Tryz.func8,rfl,rfl,rfl,by kernel_rfl,rfl,rfl,rfl,rfl,rfl,rfl,_,rfl⟩
 lt:=nb rfl
 pre:=by kernel_rfl
 post:=by kernel_rfl
 cf:=⟨Tryz.f20,_,0,_,_,Tryz.func20,rfl,rfl,rfl,by kernel_rfl,rfl,rfl,rfl,rfl,rfl,⟨_,rfl⟩,rfl⟩
 trlt:=nb rfl
 tslt:=nb rfl
 caplt:=nb rfl
 rest:=by kernel_rfl
theorem Pr.dfsOk:∀ f D,Pr.dfs f=some D→DfOk Tryz.prog f D:=by
 intro f D h
 unfold Pr.dfs at h
 split at h
 ·cases h;exact Pr.d8
 ·cases h
noncomputable def Pr.R:Alg Bool:=cAlg (Pr.tab real) Pr.fns Pr.dfs Pr.prim 400 100
theorem Pr.run{f:FuncId}{args:List AV}{S:St}{q:Out→St→Bool}(h:Pr.R.call f args S q=true):jb Tryz.prog (Pr.tab real) f args S fun o S'=>q o S'=true:=
 xdu Pr.tabOk Pr.mixed Pr.fnsOk Pr.dfsOk Pr.primOk 400 100 h
end Go.AM
