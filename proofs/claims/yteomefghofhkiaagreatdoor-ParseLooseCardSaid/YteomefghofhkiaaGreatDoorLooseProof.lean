/- ParseLoose: the statement and its card, for every text, every choice of letters and every list of blanks. -/
import Derived.Test.YteomefghofhkiaaGreatDoorLsS
import Derived.Test.YteomefghofhkiaaGreatDoorLsFrame
import Derived.Carry
import Derived.ChangeSlices
set_option linter.unusedVariables false
set_option linter.unusedSimpArgs false
set_option maxRecDepth 100000
namespace Go.Proofs.YteomefghofhkiaaGreatDoor
open Go.ChangeShapes Go.WideShapes Go.ChangeAt Go.RowKit
open Go.ChangeMaps (open_string shut_string)
theorem enters4 : AM.Enters Tryz.prog 4 := AM.enters_of Tryz.func4 (by kernel_rfl) (by kernel_rfl)
theorem Pr_laidOut : laidOutB Tryz.prog = true := by kernel_rfl
theorem rep_ints {H : Type} {enc : TypeId × Value → H} {W : World} {r : Reach} {b0 : Nat} {v : Value} {d : DataW H} {ps : List MemPlace} (hval : Value.okWide Tryz.prog W r b0 32 v) (hd : DataW.Trod enc Tryz.prog W 0 (fun _ => true) true 32 v d ps) :
  ∃ zs : List Int, AM.Rep (AM.Pr.tab AM.real) W (AM.g0 W) (.slice 3 (zs.map (.int .i64)) .no) v ∧ zs.length ≤ 9223372036854775807 ∧ ∀ c ∈ zs, -9223372036854775808 ≤ c ∧ c < 9223372036854775808 := by
 have lt_of : ∀ (b off : Nat) (v : Value), W.cell? ⟨b, off, none⟩ = some v → b < W.heap.size := fun b off v hc => by
  rcases Nat.lt_or_ge b W.heap.size with h' | h'
  · exact h'
  · simp [World.cell?, Array.getElem?_eq_none h'] at hc
 have hmx : maxLen = 9223372036854775807 := by decide
 obtain ⟨a, len, cap, rfl⟩ := okWide_slice Tryz.underlying32 hval
 obtain ⟨fuel, hf⟩ := hd
 rcases open_ints Tryz.underlying32 Tryz.underlying3 (by kernel_rfl) hf with ⟨h1, h2⟩ | ⟨a', len', cap', zs, h1, hb, hl, hm, hz, hx, hcell, hw⟩
 · have h1 : [Value.slice a len cap] = [.slice none 0 0] := h1
   simp only [List.cons.injEq, Value.slice.injEq, and_true] at h1
   obtain ⟨rfl, rfl, rfl⟩ := h1
   exact ⟨[], AM.Rep.slice _ 3 [] .no none 0 0 0 (fun _ _ => .bool false) (Nat.le_refl _) (Nat.zero_le _) (fun h => by cases h) (fun _ h => by cases h) (fun h => absurd rfl h)
    (fun i hi => by simp at hi) (fun i j hi => by simp at hi) (fun i j hi => by simp at hi) (fun i j hi => by simp at hi) (fun i j hi => by simp at hi), by simp, by simp⟩
 · have h1 : [Value.slice a len cap] = [.slice (some a') len' cap'] := h1
   simp only [List.cons.injEq, Value.slice.injEq, and_true] at h1
   obtain ⟨rfl, rfl, rfl⟩ := h1
   simp only [if_true] at hz
   have hwf : ∀ c ∈ zs, -9223372036854775808 ≤ c ∧ c < 9223372036854775808 := fun c hc => by
    have := bounds_i64 (hw c hc)
    omega
   have hlen : (zs.take len).length = len := by simp; omega
   have hml : ((zs.take len).map (AM.AV.int .i64)).length = len := by rw [List.length_map, hlen]
   refine ⟨zs.take len, ?_, by omega, fun c hc => hwf c (List.mem_of_mem_take hc)⟩
   have fits : ∀ i, i < ((zs.take len).map (AM.AV.int .i64)).length → AM.Fit (AM.Pr.tab AM.real) 3 (AM.nth ((zs.take len).map (AM.AV.int .i64)) i) ∧ AM.nth ((zs.take len).map (AM.AV.int .i64)) i = .int .i64 (zs.getD i 0) := fun i hi => by
    have e : AM.nth ((zs.take len).map (AM.AV.int .i64)) i = .int .i64 (zs.getD i 0) := by
     rw [hml] at hi
     rw [AM.nth_eq]
     simp [List.getD_eq_getElem?_getD, List.getElem?_take, hi, show i < zs.length by omega]
    exact ⟨by rw [e]; exact .inr ⟨rfl, rfl, rfl⟩, e⟩
   have hsz : (AM.Pr.tab AM.real).size 3 = 1 := rfl
   rcases Nat.eq_zero_or_pos zs.length with h0 | hpos
   · have hz0 : zs = [] := List.length_eq_zero_iff.1 h0
     have hl0 : len = 0 := by omega
     subst hz0 hl0
     have := AM.Rep.slice (T := AM.Pr.tab AM.real) (w := W) (AM.g0 W) 3 [] .no (some a') cap 0 0 (fun _ _ => .bool false) (Nat.zero_le _) hm (fun h => by cases h) (fun _ h => by cases h) (fun h => absurd rfl h)
      (fun i hi => by simp at hi) (fun i j hi => by simp at hi) (fun i j hi => by simp at hi) (fun i j hi => by simp at hi) (fun i j hi => by simp at hi)
     exact this
   · obtain ⟨b, off, rfl, hc⟩ := ints_at hcell hpos
     have := AM.Rep.slice (T := AM.Pr.tab AM.real) (w := W) (AM.g0 W) 3 ((zs.take len).map (AM.AV.int .i64)) .no (some ⟨b, off, none⟩) cap b off (fun i _ => .int .i64 (zs.getD i 0)) (by rw [hml]; exact hl) hm (fun h => by cases h) (fun _ h => by cases h) (fun _ => rfl)
      (fun i hi => (fits i hi).1)
      (fun i j hi hj => by
        rw [hsz] at hj ⊢
        rw [hml] at hi
        obtain rfl : j = 0 := by omega
        rw [Nat.mul_one, Nat.add_zero]
        exact hc i (by omega))
      (fun i j hi hj => rfl)
      (fun i j hi hj => by
        rw [hml] at hi
        exact lt_of b _ _ (hc i (by omega)))
      (fun i j hi hj => by
        rw [hsz] at hj
        obtain rfl : j = 0 := by omega
        rw [(fits i hi).2]
        exact AM.Rep.int _ _ _)
     rw [hml] at this
     exact this
theorem loose_walk (a0 : ByteArray) (b1 : Bool) (zs : List Int) (v2 : Value) (hzl : zs.length ≤ 9223372036854775807) (hzb : ∀ c ∈ zs, -9223372036854775808 ≤ c ∧ c < 9223372036854775808) (W : World) (hrep : AM.Rep (AM.Pr.tab AM.real) W (AM.g0 W) (.slice 3 (zs.map (.int .i64)) .no) v2) (hL : laidMetH Tryz.prog theLaid W) (hM : ∃ m, W.cell? ⟨1, 0, none⟩ = some (.int .i64 m)) :
  Calls Tryz.prog 4 #[.string a0, .bool b1, v2] W fun e w' => e = .returned (.bool true) ∧ Below W.heap.size W w' :=
 AM.law_true (vs := [.string a0, .bool b1, v2]) (AM.Ps.loose_walk a0.data.toList b1 zs hzl hzb) enters4 (glob_ok hL hM) (AM.args_cons (AM.rep_string _ _ _ a0) (AM.args_cons (AM.Rep.bool _ b1) (AM.args_cons hrep (AM.args_nil _ _ _))))
theorem loose_contract (H : Type) (enc : TypeId × Value → H) (W : World) (base : Nat) (args : Array Value) (ds gs : List (DataW H)) (before : List MemPlace)
  (hval : ∀ (j : Nat) t v, Tryz.f4.params[j]? = some t → args[j]? = some v → Value.okWide Tryz.prog W .any base t v)
  (hW : DataW.Whole enc Tryz.prog Tryz.f4.params.toList Rows.parseLooseSpec.vars false W args.toList ds gs before) (hL : laidMetH Tryz.prog theLaid W) (hS : W.ShapedOpen Tryz.prog) :
  Calls Tryz.prog 4 args W fun e W' => ∃ v, e = .returned v ∧ Rows.parseLooseSpec.post enc Tryz.prog Tryz.f4 false true false false W args v W' := by
 have hW' := hW
 obtain ⟨p, q, hA0, hV, rfl, hfz, hnd⟩ := hW
 have hA : DataW.TrodAll enc Tryz.prog W 0 (fun _ => true) true Tryz.f4.params.toList args.toList ds p := hA0
 rw [Tryz.params4] at hA hval
 obtain ⟨v0, vs0, d0, ds0, p0, q0, hargs, rfl, rfl, h0, r0⟩ := trodAll_cons hA
 obtain ⟨v1, vs1, d1, ds1, p1, q1, rfl, rfl, rfl, h1, r1⟩ := trodAll_cons r0
 obtain ⟨v2, vs2, d2, ds2, p2, q2, rfl, rfl, rfl, h2, r2⟩ := trodAll_cons r1
 obtain ⟨rfl, rfl, rfl⟩ := trodAll_nil r2
 obtain rfl : args = #[v0, v1, v2] := by cases args; simp_all
 obtain ⟨rfl, rfl⟩ := trodVars_none hV
 obtain ⟨a0, rfl, rfl, rfl, w0⟩ := open_string Tryz.underlying9 (hval 0 9 v0 rfl rfl) h0
 obtain ⟨b1, rfl, rfl, rfl⟩ := open_bool Tryz.underlying4 (hval 1 4 v1 rfl rfl) h1
 obtain ⟨zs, hrep, hzl, hzb⟩ := rep_ints (hval 2 32 v2 rfl rfl) h2
 have hlt : ∀ x ∈ p2, x.block < W.heap.size := fun x hx => by simpa using hW'.lt x (by simpa using hx)
 clear hA0
 refine (loose_walk a0 b1 zs v2 hzl hzb W hrep hL (Tryz.laysM144.s1_3 W hS)).mono fun e W' ⟨he, hg⟩ => ?_
 subst he
 have h2' := Below.trod Pr_laidOut (by kernel_rfl) (of_decide_eq_true (by kernel_rfl)) h2 hg hlt
 exact ⟨_, rfl, [_, _, _], [], _, [], _, [], hW', trodAll_cons_mk (shut_bool Tryz.underlying4 _) trodAll_mk0, trodAll_cons_mk (shut_string Tryz.underlying9 w0) (trodAll_cons_mk (shut_bool Tryz.underlying4 _) (trodAll_cons_mk h2' trodAll_mk0)), rfl, hg.frame _, fun h => by cases h⟩
theorem loose_reads (os : Os) {H : Type} (enc : TypeId × Value → H) : ∃ places, DataW.whole enc Tryz.prog ((startWorld os).forCall (fun _ _ => 0) ⟨#[], #[.string ByteArray.empty, .bool false, .slice none 0 0], []⟩).memory Tryz.f4.params.toList Rows.parseLooseSpec.vars false #[Value.string ByteArray.empty, .bool false, .slice none 0 0].toList 8 = some ([.lit (.string []), .lit (.bool false), .nil], [], places) :=
 ⟨[], by kernel_rfl⟩
theorem loose_lifted (os : Os) (started : os.Started) (H : Type) (enc : TypeId × Value → H) (F : Stop.Interp) :
  ReturnsInHanded {} Tryz.checked os 4 .any ((OpenSpec.ofChange Rows.parseLooseSpec).preRow enc Tryz.prog Tryz.f4 Rows.parseLooseRow.domain false Rows.parseLooseRow.laid) (((OpenSpec.ofChange Rows.parseLooseSpec).at F).post enc Tryz.prog Tryz.f4 false true false false) := by
 obtain ⟨places, hx⟩ := loose_reads os enc
 refine returnsInHanded_of_row (C := Tryz.checked) (s := OpenSpec.ofChange Rows.parseLooseSpec) own started (by kernel_rfl) Tryz.func4
  (witness_row_atRef (enc := enc) (C := Tryz.checked) false (startWorld os) #[.string ByteArray.empty, .bool false, .slice none 0 0] rfl (by kernel_rfl) (by kernel_rfl) (by kernel_rfl)
    (OpenSpec.preRow_of_cond 8 hx (by kernel_rfl) (fun k hk => by cases hk) (by kernel_rfl) (laid_met os _))) ?_
 intro W base args ds gs before hval hW _ _ _ hL hS _
 exact loose_contract H enc W base args ds gs before hval hW hL hS
theorem loose_said : Rows.ParseLooseSaid :=
 OpenClaim.holds_of_cond 4 Tryz.f4 rfl rfl rfl rfl rfl rfl rfl ⟨rfl, rfl, rfl, rfl, rfl⟩ rfl rfl rfl rfl rfl (by kernel_rfl) Tryz.func4 (by kernel_rfl)
  (of_decide_eq_true (by kernel_rfl)) (by unfold Func.isWrapper; first | (rw [if_pos (by decide +kernel)]; kernel_rfl) | (rw [if_neg (by decide +kernel)]; exact ⟨rfl, rfl⟩))
  (fun os started H enc _ F => by rw [OpenClaim.pre_eq_preRow]; exact loose_lifted os started H enc F)
theorem loose_plain (f : FuncId) (fn : Func) (hf : Tryz.pinned.checked.prog.funcNamed "stile/stilelaw14.ParseLoose" = some f) (hfn : Tryz.pinned.checked.prog.funcs[f]? = some fn) :
  true = Tryz.pinned.checked.prog.looks [] ∧ ∀ (j : Nat) t, fn.params[j]? = some t → Tryz.pinned.checked.prog.wantsStandIn t = false := by
 obtain rfl : f = 4 := Option.some.inj ((show Tryz.prog.funcNamed "stile/stilelaw14.ParseLoose" = some 4 by kernel_rfl).symm.trans hf) |>.symm
 obtain rfl : fn = Tryz.f4 := (Option.some.inj (Tryz.func4.symm.trans hfn)).symm
 refine ⟨by kernel_rfl, fun j t ht => ?_⟩
 rw [Tryz.params4] at ht
 have hm : t = 9 ∨ t = 4 ∨ t = 32 := by simpa using Array.mem_of_getElem? ht
 rcases hm with rfl | rfl | rfl
 · exact (show Tryz.prog.wantsStandIn 9 = false by kernel_rfl)
 · exact (show Tryz.prog.wantsStandIn 4 = false by kernel_rfl)
 · exact (show Tryz.prog.wantsStandIn 32 = false by kernel_rfl)
theorem loose_card : Rows.ParseLooseCardSaid :=
 Claim7.holds_tied_plain_at .later [] _ _ _ _ loose_said (fun _ h => by cases h) (by kernel_rfl) (fun _ h => by cases h) parseLoose_row_tie rfl ⟨rfl, rfl⟩ (by kernel_rfl) rfl loose_plain (by kernel_rfl)
#print axioms loose_card
end Go.Proofs.YteomefghofhkiaaGreatDoor
