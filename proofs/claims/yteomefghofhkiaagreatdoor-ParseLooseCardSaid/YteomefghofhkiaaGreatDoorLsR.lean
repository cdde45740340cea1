/- ParseLoose over the abstract machine: its loop. -/
import Derived.Test.YteomefghofhkiaaGreatDoorLsQ
import Derived.Test.YteomefghofhkiaaGreatDoorLsP
import Derived.Test.YteomefghofhkiaaGreatDoorLsL
import Derived.Test.YteomefghofhkiaaGreatDoorLsAlive
set_option maxRecDepth 100000
set_option maxHeartbeats 40000000
set_option linter.unusedVariables false
set_option linter.unusedSimpArgs false
namespace Go.AM.Ps
open Go.Proofs W
theorem Ps.fn4 : FnOk Tryz.prog 4 (fni Tryz.f4 Pr.a4) := ⟨⟨Tryz.f4, Tryz.func4, rfl, rfl, rfl, by kernel_rfl⟩, by kernel_rfl⟩
noncomputable def c4 : Code := (fni Tryz.f4 Pr.a4).loop 0
theorem Ps.c4 : codeOk 115 Pr.a4 c4 = true := by kernel_rfl
theorem step4 (K : Ex → Env → St → Prop) (env : Env) (S : St) (h : xcode (pAlg Tryz.prog (Pr.tab real) 115) (Pr.tab real) Pr.a4 0 c4 (andThen (LoopP Tryz.prog (Pr.tab real) 115 c4 K) K) env S) : LoopP Tryz.prog (Pr.tab real) 115 c4 K env S :=
 loopP_step Pr.tabOk Pr.mixed Ps.c4 h
def gapAt (bs : List Int) (i : Nat) : List UInt8 := match bs[i]? with
 | some c => gaps.getD (pick5 c) [32]
 | none => [32]
theorem gapAt_in (bs : List Int) (i : Nat) : gapAt bs i ∈ gaps := by
 unfold gapAt
 cases bs[i]? with
 | none => decide
 | some c =>
  have h : pick5 c < 5 := Nat.mod_lt _ (by decide)
  show gaps.getD (pick5 c) [32] ∈ gaps
  exact (by decide : ∀ k, k < 5 → gaps.getD k [32] ∈ gaps) _ h
theorem gapAt_len (bs : List Int) (i : Nat) : (gapAt bs i).length ≤ 7 :=
 (by decide : ∀ g ∈ gaps, g.length ≤ 7) _ (gapAt_in bs i)
theorem loose_loop (odd : Bool) (bs : List Int) (hbl : bs.length ≤ 9223372036854775807) (hbs : ∀ c ∈ bs, -9223372036854775808 ≤ c ∧ c < 9223372036854775808) (st : List UInt8) (l : List Tk) (hl : l.length ≤ 600) (hg : ∀ t ∈ l, Good t) (K : Ex → Env → St → Prop) (S : St)
  (hK : K (.exit 0) [(7, .ptr 0 0), (8, .str st), (9, tokV l), (11, .str (looseAll odd (gapAt bs) 0 l))] S) (r : List Tk) :
  ∀ (pre : List Tk) (y : Int), l = pre ++ r → y = pre.length → (looseAll odd (gapAt bs) 0 pre).length ≤ 2000 * pre.length →
   LoopP Tryz.prog (Pr.tab real) 115 c4 (Less K) [(1, .bool odd), (2, .slice 3 (bs.map (.int .i64)) .no), (7, .ptr 0 0), (8, .str st), (9, tokV l), (11, .str (looseAll odd (gapAt bs) 0 pre)), (12, .int .i64 y)] S := by
 induction r with
 | nil =>
  intro pre y hpre hy _
  have hpl : pre = l := by rw [hpre]; simp
  obtain ⟨e3, c3, m3, he3, hc3, _⟩ := tokV_len l
  rw [hpl] at hy
  rw [he3] at hK
  rw [he3, hpl]
  apply step4
  apply gen_code (mk := Pr.tab)
  intro fail need same call loop len slen arith shift cmp conv eqS ltS cat app elt byt subS subL strOf isB fit inb cut room not and eqB avs G
  have hb : cmp BinOp.lss y (len c3) = false := by rw [G.cmp', G.len', hc3]; simp [intRel]; omega
  generalize LoopP Tryz.prog (Pr.tab real) 115 c4 (Less K) = L at *
  generalize hK' : Less K = K' at *
  generalize looseAll odd (gapAt bs) 0 l = sp at *
  generalize bs.map (AV.int .i64) = bv at *
  clear hg hbs
  cbv
  refine GenH.need' G rfl ?_
  rw [hb]
  cbv
  rw [← hK']
  exact ⟨_, .cons rfl (.cons rfl (.cons rfl (.cons rfl (.nil _)))), hK⟩
 | cons t r ih =>
  intro pre y hpre hy hsz
  have hgt := hg t (by rw [hpre]; simp)
  have hsl := spellG_len odd hgt
  have hget : l[pre.length]? = some t := by rw [hpre]; simp
  have hylen : pre.length < l.length := by rw [hpre]; simp
  have happ := looseAll_app odd (gapAt bs) t pre 0
  rw [Nat.zero_add] at happ
  have hgl := gapAt_len bs pre.length
  have hgo := ih (pre ++ [t]) (y + 1) (by rw [hpre]; simp) (by simp; omega) (by rw [happ]; simp only [List.length_append, List.length_singleton]; omega)
  clear ih hK
  have hspec := fun S K hK => spelled_spec odd t hgt.nums (by have := hgt.size; omega) S K hK
  obtain ⟨e3, c3, m3, he3, hc3, h3⟩ := tokV_len l
  have h33 := h3 (by intro h; rw [h] at hpre; simp at hpre)
  subst h33
  rw [he3] at hgo ⊢
  rw [happ] at hgo
  generalize hac : looseAll odd (gapAt bs) 0 pre = acc at *
  generalize hspt : spellG odd t = sp at *
  obtain ⟨k, tt, n, a⟩ := t
  simp only [Tk.av] at hspec
  obtain ⟨bv, hbv⟩ : ∃ bv, bs.map (AV.int .i64) = bv := ⟨_, rfl⟩
  rw [hbv] at hgo ⊢
  have hno : decide (pre.length < bs.length) = false → gapAt bs pre.length = [32] := fun h => by
   unfold gapAt
   rw [List.getElem?_eq_none (by have := of_decide_eq_false h; omega)]
  obtain ⟨c, hc⟩ : ∃ c, (bs[pre.length]?).getD 0 = c := ⟨_, rfl⟩
  have hyes : decide (pre.length < bs.length) = true → gapAt bs pre.length = gaps.getD (pick5 c) [32] ∧ nth bv pre.length = .int .i64 c ∧ (-9223372036854775808 ≤ c ∧ c < 9223372036854775808) := fun h => by
   have h := of_decide_eq_true h
   have e : bs[pre.length]? = some c := by rw [← hc, List.getElem?_eq_getElem h]; rfl
   refine ⟨by unfold gapAt; rw [e], ?_, hbs c (List.mem_of_getElem? e)⟩
   rw [← hbv, nth_eq, List.getD_eq_getElem?_getD, List.getElem?_map, e]
   rfl
  have hpick : decide (pre.length < bs.length) = true → ∀ (S : St) (K : Out → St → Prop), K (.ret (.int .i64 (pick5 c : Int))) S → CallP Tryz.prog (Pr.tab real) 15 [.int .i64 c, .int .i64 5] S K := fun h S K hK => by
   have h := (hyes h).2.2
   exact pick5_spec c h.1 h.2 S K (by rintro z rfl; exact hK)
  have hp5 : pick5 c < 5 := Nat.mod_lt _ (by decide)
  apply step4
  apply gen_code (mk := Pr.tab)
  intro fail need same call loop len slen arith shift cmp conv eqS ltS cat app elt byt subS subL strOf isB fit inb cut room not and eqB avs G
  have hb : cmp BinOp.lss y (len c3) = true := by rw [G.cmp', G.len', hc3]; simp [intRel]; omega
  have hin : inb y (len c3) = true := by rw [G.inb', G.len', hc3]; simp; omega
  have helt : elt c3 y = .agg [.int .i64 k, .str tt, .int .i64 n, .int .i64 a] := by
   rw [G.elt', hc3, hy]
   simp only [Int.toNat_natCast, List.getD_eq_getElem?_getD, List.getElem?_map, hget]
   rfl
  have hone : arith BinOp.add IntKind.i64 y 1 = y + 1 := by rw [G.arith']; exact wrap_i64 _ (by omega) (by omega)
  have hbvl : bv.length = bs.length := by rw [← hbv]; simp
  have hbb : cmp BinOp.lss y (len bv) = decide (pre.length < bs.length) := by rw [G.cmp', G.len']; simp only [intRel, hbvl]; rw [Bool.eq_iff_iff]; simp only [decide_eq_true_eq]; omega
  have hbin : decide (pre.length < bs.length) = true → inb y (len bv) = true := fun h => by have h := of_decide_eq_true h; rw [G.inb', G.len']; simp [hbvl]; omega
  have hbel : decide (pre.length < bs.length) = true → elt bv y = .int .i64 c := fun h => by
   rw [← (hyes h).2.1, G.elt', nth_eq, hy]
   simp only [Int.toNat_natCast]
  have hpin : inb (pick5 c : Int) (len [.str [32], .str [10], .str [9, 32], .str [32, 45, 45, 120, 32, 121, 10], .str [32, 13, 10, 32]]) = true := by rw [G.inb', G.len']; simp; omega
  have hpel : elt [.str [32], .str [10], .str [9, 32], .str [32, 45, 45, 120, 32, 121, 10], .str [32, 13, 10, 32]] (pick5 c : Int) = .str (gaps.getD (pick5 c) [32]) := by
   rw [G.elt']
   simp only [Int.toNat_natCast]
   rcases (show pick5 c = 0 ∨ pick5 c = 1 ∨ pick5 c = 2 ∨ pick5 c = 3 ∨ pick5 c = 4 by omega) with h | h | h | h | h <;> rw [h] <;> rfl
  have hc1 : cat acc sp = acc ++ sp := by rw [G.cat']
  have hf1 : fit acc sp = true := by rw [G.fit']; simp; omega
  have hc2 : ∀ u, cat (acc ++ sp) u = acc ++ sp ++ u := fun u => by rw [G.cat']
  have hf2 : ∀ u : List UInt8, u.length ≤ 7 → fit (acc ++ sp) u = true := fun u hu => by rw [G.fit']; simp; omega
  have hf3 := hf2 _ hgl
  have hf4 := hf2 [32] (by decide)
  have hyes := fun h => (hyes h).1
  have hpi : ∀ z : Int, z = (pick5 c : Int) → z = z := fun _ _ => rfl
  generalize hpc : ((pick5 c : Nat) : Int) = pz at *
  generalize gaps.getD (pick5 c) [32] = gs at *
  generalize gapAt bs pre.length = gp at *
  generalize hdb : decide (pre.length < bs.length) = db at *
  clear hc3 he3 hget hylen hsz hsl hpre hy happ hgt hg hl hspt hbs hbl hac hgl hf2 hc hp5 hpc hpi hbv hbvl hdb
  generalize acc ++ sp = acc2 at *
  generalize y + 1 = y1 at *
  generalize hL : LoopP Tryz.prog (Pr.tab real) 115 c4 (Less K) = L at hgo ⊢
  generalize hK' : Less K = K' at hL ⊢
  cbv
  refine GenH.need' G rfl ?_
  rw [hb]
  cbv
  refine GenH.need' G rfl ?_
  rw [hbb]
  cases db with
  | false =>
   have hno := hno rfl
   subst hno
   clear hyes hpick hbin hbel hpel hpin
   generalize hacc3 : acc2 ++ [32] = acc3 at *
   cbv
   refine GenH.need' G hin ?_
   rw [helt]
   refine GenH.call' G (hspec _ _ ?_)
   cbv
   refine GenH.need' G hf1 ?_
   rw [hc1]
   refine GenH.need' G hf4 (GenH.need' G rfl ?_)
   rw [hc2, hone, hacc3]
   rw [← hL] at hgo ⊢
   exact LoopP.weak (.cons rfl (.cons rfl (.cons rfl (.cons rfl (.cons rfl (.cons rfl (.cons rfl (.nil _)))))))) hgo
  | true =>
   have hyes := hyes rfl
   have hpick := hpick rfl
   have hbin := hbin rfl
   have hbel := hbel rfl
   subst hyes
   clear hno hf4
   generalize hacc3 : acc2 ++ gp = acc3 at *
   cbv
   refine GenH.need' G rfl (GenH.need' G hbin ?_)
   rw [hbel]
   refine GenH.call' G (hpick _ _ ?_)
   cbv
   refine GenH.need' G hpin ?_
   rw [hpel]
   cbv
   refine GenH.need' G hin ?_
   rw [helt]
   refine GenH.call' G (hspec _ _ ?_)
   cbv
   refine GenH.need' G hf1 ?_
   rw [hc1]
   refine GenH.need' G hf3 (GenH.need' G rfl ?_)
   rw [hc2, hone, hacc3]
   rw [← hL] at hgo ⊢
   exact LoopP.weak (.cons rfl (.cons rfl (.cons rfl (.cons rfl (.cons rfl (.cons rfl (.cons rfl (.nil _)))))))) hgo
end Go.AM.Ps
