/- The live question and the law, closed runs over the abstract machine. -/
import Derived.Test.YtodfopcgficmlaaNlFrame
import Derived.Test.YtodfopcgficmlaaNlInsA
import Derived.Test.YtodfopcgficmlaaNlInsB
import Derived.Test.YtodfopcgficmlaaNlInsD
set_option maxRecDepth 100000
set_option linter.unusedVariables false
set_option linter.unusedSimpArgs false
set_option linter.unusedSectionVars false
namespace Go.AM
open Go.Proofs
theorem Tr.insFull34 : InsFull Try.prog (Tr.tab real) 34 59 := by
 intro v v2 full x n z c N i k hn hz hc hi hN hM hl K0 h1 h0
 rcases Nat.eq_zero_or_pos k with hk | hk
 · rcases Nat.lt_or_ge i N with hlt | hge
   · exact Ins59_D v v2 full x n z c N i k hn hz hc hk hlt hN hM hl K0 (h0 hk)
   · exact Ins59_C v v2 full x n z c N i k hn hz hc hk (by omega) hN hM hl K0 (h0 hk)
 · rcases Nat.lt_or_ge i N with hlt | hge
   · exact Ins59_B v v2 full x n z c N i k hn hz hc hk hlt hN hM hl K0 (h1 hk)
   · exact Ins59_A v v2 full x n z c N i k hn hz hc hk (by omega) hN hM hl K0 (h1 hk)
def fw1 (o : Nat) : Nat → Option Nat := fun p => if p = o then some 0 else none
def bw1 (o : Nat) : Nat → Option Nat
 | 0 => some o
 | _ => none
theorem insert_nil {P : Program} {T : Tab} {fid e : Nat} (hI : ∀ (v2 : Nat) (x : AV) (K0 : Out → St → Prop), K0 (.ret (.msl e 1 0 0 1)) ⟨[(1, [.mrow e 0 false [x]]), (0, [.mrow e v2 false [x]])], 2, []⟩ →
      CallP P T fid [.slice 0 [] .exact, .int .i64 0, .msl e 0 v2 0 1] ⟨[(0, [.mrow e v2 false [x]])], 1, []⟩ K0) {S : St} {o2 v2 : Nat} {x : AV} {K : Out → St → Prop}
  (hv2 : S.vec e o2 v2 = some (false, [x])) (hx : Flt x) (hk : K (.ret (.msl e S.next 0 0 1)) (S.push [.mrow e 0 false [x]])) :
  CallP P T fid [.slice 0 [] .exact, .int .i64 0, .msl e o2 v2 0 1] S K := by
 have hlo2 := vec_lt hv2
 have hr2 := vec_row hv2
 have V : View (fw1 o2) (bw1 o2) nw nw S ⟨[(0, [.mrow e v2 false [x]])], 1, []⟩ := by
  refine ⟨fun p i => ?_, fun _ _ => ⟨fun h => (by cases h), fun h => (by cases h)⟩, fun p i h => ?_, fun p i h => ?_, fun _ _ h => (by cases h)⟩
  · unfold fw1
    constructor
    · intro h
      split at h
      · rename_i hp; cases h; subst hp; rfl
      · cases h
    · intro h
      match i, h with
      | 0, h => cases h; simp
  · unfold fw1 at h
    split at h
    · rename_i hp; cases h; subst hp; exact ⟨hlo2, (show 0 < 1 by decide)⟩
    · cases h
  · unfold fw1 at h
    split at h
    · rename_i hp; cases h; subst hp
      rw [hr2]
      show [AV.mrow e v2 false [x]] = _
      simp only [renL, AV.ren, hx _ _]
    · cases h
 refine frame (S0 := ⟨[(0, [.mrow e v2 false [x]])], 1, []⟩) (args0 := [.slice 0 [] .exact, .int .i64 0, .msl e 0 v2 0 1])
  (K0 := fun out0 S0' => ∃ n' S', Lift (fw1 o2) (bw1 o2) nw nw S ⟨[(0, [.mrow e v2 false [x]])], 1, []⟩ S0' S' n' ∧ K (out0.ren (back (bw1 o2) S.next 1 n') nw) S') V ?_ ?_ (fun _ _ h => h)
 · simp [renL, AV.ren, fw1, renM]
 · refine hI v2 x _ ?_
   have hb : back (bw1 o2) S.next 1 1 1 = some S.next := (back_new2 (by omega)).2 ⟨by omega, by omega⟩
   refine ⟨1, S.push [.mrow e 0 false [x]], ⟨Nat.le_refl _, rfl, fun p hp1 hp => ?_, fun i p h => ?_, rfl, fun _ => rfl⟩, ?_⟩
   · rw [row_push, if_neg (by omega)]
   · match i, h with
     | 0, h =>
      have : some o2 = some p := h
      cases this
      rw [row_push, if_neg (by omega), hr2]
      show _ = renL _ _ [AV.mrow e v2 false [x]]
      simp only [renL, AV.ren, hx _ _]
     | i + 1, h =>
      have := (back_new2 (fi := bw1 o2) (big := S.next) (small := 1) (n := 1) (show 1 ≤ i + 1 by omega)).1 h
      have hp : p = S.next := by omega
      have hi : i = 0 := by omega
      subst hp; subst hi
      rw [row_push, if_pos rfl]
      show _ = renL _ _ [AV.mrow e 0 false [x]]
      simp only [renL, AV.ren, hx _ _]
   · show K (Out.ret (AV.ren _ _ (.msl e 1 0 0 1))) _
     simp only [AV.ren, hb]
     exact hk
end Go.AM
namespace Go.AM
open Go.Proofs
def insPrim (e : Nat) (args : List AV) (S : St) : Option (AV × St) :=
 match args with
 | [.msl e1 o v i n, .int .i64 z, .msl e2 o2 v2 i2 m] =>
  match S.vec e o v, S.vec e o2 v2 with
  | some (false, cs), some (false, [x]) =>
   match Nat.beq e1 e && (Nat.beq e2 e && (!(Nat.beq o o2) && (decide (i = 0) && (decide (i2 = 0) && (decide (m = 1) && (decide (n = cs.length ∧ 0 ≤ z ∧ z ≤ n ∧ n ≤ 100000000000) && (flatBs cs && flatB x))))))) with
   | true => some (.msl e o (v + 1) 0 (n + 1), (S.set o [.mrow e (v + 1) false (cs.take z.toNat ++ x :: cs.drop z.toNat)]).push [.undef])
   | false => none
  | _, _ => none
 | [.slice e1 [] .exact, .int .i64 z, .msl e2 o2 v2 i2 m] =>
  match S.vec e o2 v2 with
  | some (false, [x]) => match Nat.beq e1 0 && (Nat.beq e2 e && (decide (z = 0) && (decide (i2 = 0) && (decide (m = 1) && flatB x)))) with
   | true => some (.msl e S.next 0 0 1, S.push [.mrow e 0 false [x]])
   | false => none
  | _ => none
 | _ => none
theorem insPrim_ok {P : Program} {T : Tab} {fid e : Nat} (hI : InsFull P T fid e) (hE : ∀ (v2 : Nat) (x : AV) (K0 : Out → St → Prop), K0 (.ret (.msl e 1 0 0 1)) ⟨[(1, [.mrow e 0 false [x]]), (0, [.mrow e v2 false [x]])], 2, []⟩ →
      CallP P T fid [.slice 0 [] .exact, .int .i64 0, .msl e 0 v2 0 1] ⟨[(0, [.mrow e v2 false [x]])], 1, []⟩ K0) (hh : T.has e = true) {args : List AV} {S S' : St} {v : AV} (h : insPrim e args S = some (v, S')) (K : Out → St → Prop) (hk : K (.ret v) S') : CallP P T fid args S K := by
 unfold insPrim at h
 split at h
 · split at h
   · rename_i hv hv2
     split at h
     · rename_i hg
       simp only [Bool.and_eq_true, decide_eq_true_eq, Bool.not_eq_true'] at hg
       obtain ⟨g1, g2, g3, g4, g5, g6, ⟨g7, g8, g9, g10⟩, g11, g12⟩ := hg
       have g1 := Nat.eq_of_beq_eq_true g1
       have g2 := Nat.eq_of_beq_eq_true g2
       have g3 := Nat.ne_of_beq_eq_false g3
       subst g1; subst g2; subst g4; subst g5; subst g6
       simp only [Option.some.injEq, Prod.mk.injEq] at h
       obtain ⟨rfl, rfl⟩ := h
       exact insert_any hI hh hv hv2 g3 g7 g8 g9 g10 (flatBs_mem _ g11) (flatB_flt _ g12) hk
     · cases h
   · cases h
 · split at h
   · rename_i hv2
     split at h
     · rename_i hg
       simp only [Bool.and_eq_true, decide_eq_true_eq] at hg
       obtain ⟨g1, g2, g3, g4, g5, g6⟩ := hg
       have g1 := Nat.eq_of_beq_eq_true g1
       have g2 := Nat.eq_of_beq_eq_true g2
       subst g1; subst g2; subst g3; subst g4; subst g5
       simp only [Option.some.injEq, Prod.mk.injEq] at h
       obtain ⟨rfl, rfl⟩ := h
       exact insert_nil hE hv2 (flatB_flt _ g6) hk
     · cases h
   · cases h
 · cases h
def Tr.prim (f : FuncId) (args : List AV) (S : St) : Option (AV × St) :=
 match Nat.beq f 34 with
 | true => insPrim 59 args S
 | false => none
theorem Tr.prim_ok (f : FuncId) (args : List AV) (S : St) (v : AV) (S' : St) (h : Tr.prim f args S = some (v, S')) (K : Out → St → Prop) (hk : K (.ret v) S') : CallP Try.prog (Tr.tab real) f args S K := by
 unfold Tr.prim at h
 split at h
 · rename_i hf
   have := Nat.eq_of_beq_eq_true hf
   subst this
   exact insPrim_ok Tr.insFull34 Ins59_E rfl h K hk
 · cases h
noncomputable def Tr.fns : FuncId → Option FnI
 | 3 => some (fni Try.f3 Tr.a3)
 | 4 => some (fni Try.f4 Tr.a4)
 | 5 => some (fni Try.f5 Tr.a5)
 | 6 => some (fni Try.f6 Tr.a6)
 | 7 => some (fni Try.f7 Tr.a7)
 | 8 => some (fni Try.f8 Tr.a8)
 | 9 => some (fni Try.f9 Tr.a9)
 | 10 => some (fni Try.f10 Tr.a10)
 | 11 => some (fni Try.f11 Tr.a11)
 | 12 => some (fni Try.f12 Tr.a12)
 | 13 => some (fni Try.f13 Tr.a13)
 | 14 => some (fni Try.f14 Tr.a14)
 | 15 => some (fni Try.f15 Tr.a15)
 | 16 => some (fni Try.f16 Tr.a16)
 | 17 => some (fni Try.f17 Tr.a17)
 | 18 => some (fni Try.f18 Tr.a18)
 | 19 => some (fni Try.f19 Tr.a19)
 | 20 => some (fni Try.f20 Tr.a20)
 | 21 => some (fni Try.f21 Tr.a21)
 | 22 => some (fni Try.f22 Tr.a22)
 | 23 => some (fni Try.f23 Tr.a23)
 | 24 => some (fni Try.f24 Tr.a24)
 | 25 => some (fni Try.f25 Tr.a25)
 | 26 => some (fni Try.f26 Tr.a26)
 | 27 => some (fni Try.f27 Tr.a27)
 | 28 => some (fni Try.f28 Tr.a28)
 | 29 => some (fni Try.f29 Tr.a29)
 | 30 => some (fni Try.f30 Tr.a30)
 | 31 => some (fni Try.f31 Tr.a31)
 | 32 => some (fni Try.f32 Tr.a32)
 | 33 => some (fni Try.f33 Tr.a33)
 | 37 => some (fni Try.f37 Tr.a37)
 | 38 => some (fni Try.f38 Tr.a38)
 | 39 => some (fni Try.f39 Tr.a39)
 | 40 => some (fni Try.f40 Tr.a40)
 | 41 => some (fni Try.f41 Tr.a41)
 | 42 => some (fni Try.f42 Tr.a42)
 | 44 => some (fni Try.f44 Tr.a44)
 | 45 => some (fni Try.f45 Tr.a45)
 | 47 => some (fni Try.f47 Tr.a47)
 | 49 => some (fni Try.f49 Tr.a49)
 | 51 => some (fni Try.f51 Tr.a51)
 | 57 => some (fni Try.f57 Tr.a57)
 | 58 => some (fni Try.f58 Tr.a58)
 | 59 => some (fni Try.f59 Tr.a59)
 | 60 => some (fni Try.f60 Tr.a60)
 | 61 => some (fni Try.f61 Tr.a61)
 | 62 => some (fni Try.f62 Tr.a62)
 | _ => none
theorem Tr.fns_ok (f : FuncId) (fi : FnI) (h : Tr.fns f = some fi) : FnOk Try.prog f fi := by
 unfold Tr.fns at h
 split at h
 · injection h with h; subst h; exact Tr.fn3
 · injection h with h; subst h; exact Tr.fn4
 · injection h with h; subst h; exact Tr.fn5
 · injection h with h; subst h; exact Tr.fn6
 · injection h with h; subst h; exact Tr.fn7
 · injection h with h; subst h; exact Tr.fn8
 · injection h with h; subst h; exact Tr.fn9
 · injection h with h; subst h; exact Tr.fn10
 · injection h with h; subst h; exact Tr.fn11
 · injection h with h; subst h; exact Tr.fn12
 · injection h with h; subst h; exact Tr.fn13
 · injection h with h; subst h; exact Tr.fn14
 · injection h with h; subst h; exact Tr.fn15
 · injection h with h; subst h; exact Tr.fn16
 · injection h with h; subst h; exact Tr.fn17
 · injection h with h; subst h; exact Tr.fn18
 · injection h with h; subst h; exact Tr.fn19
 · injection h with h; subst h; exact Tr.fn20
 · injection h with h; subst h; exact Tr.fn21
 · injection h with h; subst h; exact Tr.fn22
 · injection h with h; subst h; exact Tr.fn23
 · injection h with h; subst h; exact Tr.fn24
 · injection h with h; subst h; exact Tr.fn25
 · injection h with h; subst h; exact Tr.fn26
 · injection h with h; subst h; exact Tr.fn27
 · injection h with h; subst h; exact Tr.fn28
 · injection h with h; subst h; exact Tr.fn29
 · injection h with h; subst h; exact Tr.fn30
 · injection h with h; subst h; exact Tr.fn31
 · injection h with h; subst h; exact Tr.fn32
 · injection h with h; subst h; exact Tr.fn33
 · injection h with h; subst h; exact Tr.fn37
 · injection h with h; subst h; exact Tr.fn38
 · injection h with h; subst h; exact Tr.fn39
 · injection h with h; subst h; exact Tr.fn40
 · injection h with h; subst h; exact Tr.fn41
 · injection h with h; subst h; exact Tr.fn42
 · injection h with h; subst h; exact Tr.fn44
 · injection h with h; subst h; exact Tr.fn45
 · injection h with h; subst h; exact Tr.fn47
 · injection h with h; subst h; exact Tr.fn49
 · injection h with h; subst h; exact Tr.fn51
 · injection h with h; subst h; exact Tr.fn57
 · injection h with h; subst h; exact Tr.fn58
 · injection h with h; subst h; exact Tr.fn59
 · injection h with h; subst h; exact Tr.fn60
 · injection h with h; subst h; exact Tr.fn61
 · injection h with h; subst h; exact Tr.fn62
 · cases h
end Go.AM
namespace Go.AM
open Go.Proofs
theorem Tr.nil_true (s : List UInt8) : CallP Try.prog (Tr.tab real) 7 [.str s] St.nil fun o _ => o = .ret (.bool true) := by
 have := callP_run Tr.tabOk Tr.mixed Tr.fns_ok (dfs := fun _ => none) (fun _ _ h => by cases h) Tr.prim_ok 40 40 (f := 7) (args := [.str s]) (S := St.nil)
  (q := fun o _ => match o with | .ret (.bool true) => true | _ => false) (by kernel_rfl)
 refine CallP.mono this fun o S' h => ?_
 split at h
 · rfl
 · cases h
end Go.AM
