/- ParseNames over the abstract machine, first part. -/
import Derived.Test.YteomefghofhkiaaGreatDoorNpN
import Derived.Test.YteomefghofhkiaaGreatDoorNpO
import Derived.Test.YteomefghofhkiaaGreatDoorNpAlive
set_option linter.unusedSimpArgs false
set_option linter.unusedVariables false
set_option linter.unusedSectionVars false
namespace Go.AM.Ps
open Go.Proofs W
set_option maxRecDepth 100000
set_option maxHeartbeats 40000000
set_option linter.unusedVariables false
set_option linter.unusedSimpArgs false
theorem Ps.fn7 : FnOk Tryz.prog 7 (fni Tryz.f7 Pr.a7) := ⟨⟨Tryz.f7, Tryz.func7, rfl, rfl, rfl, by kernel_rfl⟩, by kernel_rfl⟩
noncomputable def c7 : Code := (fni Tryz.f7 Pr.a7).loop 0
theorem c7_ok : codeOk 154 Pr.a7 c7 = true := by kernel_rfl
theorem step7 (K : Ex → Env → St → Prop) (env : Env) (S : St) (h : xcode (pAlg Tryz.prog (Pr.tab real) 154) (Pr.tab real) Pr.a7 0 c7 (andThen (LoopP Tryz.prog (Pr.tab real) 154 c7 K) K) env S) : LoopP Tryz.prog (Pr.tab real) 154 c7 K env S :=
  loopP_step Pr.tabOk Pr.mixed c7_ok h

theorem chars7 (K : Ex → Env → St → Prop) (S : St) (w : List UInt8) (hw : w.length ≤ 20) (hK1 : Low w → K (.exit 0) [(0, .str w)] S) (hK2 : K .ret [(2, .bool true)] S) (m : Nat) :
    ∀ (i : Nat) (y : Int), y = i → i + m = w.length → (∀ c ∈ w.take i, 97 ≤ c.toNat ∧ c.toNat ≤ 122) → LoopP Tryz.prog (Pr.tab real) 154 c7 (Less K) [(0, .str w), (3, .int .i64 y)] S := by
  induction m with
  | zero =>
    intro i y hy hi hl
    have hK1 := hK1 (by rw [List.take_of_length_le (by omega)] at hl; exact hl)
    apply step7
    apply gen_code (mk := Pr.tab)
    intro fail need same call loop len slen arith shift cmp conv eqS ltS cat app elt byt subS subL strOf isB fit inb cut room not and eqB avs G
    have hb : cmp BinOp.lss y (slen w) = false := by rw [G.cmp', G.slen']; simp [intRel]; omega
    generalize hL : LoopP Tryz.prog (Pr.tab real) 154 c7 (Less K) = L
    generalize hK' : Less K = K'
    clear hy hi hl
    cbv
    refine GenH.need' G rfl ?_
    rw [hb]
    cbv
    rw [← hK']
    exact ⟨[(0, .str w)], .cons rfl (.nil _), hK1⟩
  | succ m ih =>
    intro i y hy hi hl
    have hlt : i < w.length := by omega
    obtain ⟨c, hc⟩ : ∃ c, w[i] = c := ⟨_, rfl⟩
    have hgo : 97 ≤ c.toNat → c.toNat ≤ 122 → LoopP Tryz.prog (Pr.tab real) 154 c7 (Less K) [(0, .str w), (3, .int .i64 (y + 1))] S := fun h1 h2 => by
      refine ih (i + 1) (y + 1) (by omega) (by omega) fun d hd => ?_
      rw [List.take_succ_eq_append_getElem hlt] at hd
      rcases List.mem_append.1 hd with hd | hd
      · exact hl d hd
      · simp only [List.mem_singleton] at hd
        rw [hd, hc]
        exact ⟨h1, h2⟩
    clear ih
    have hal := fun S K hK => alive_true S K hK
    apply step7
    apply gen_code (mk := Pr.tab)
    intro fail need same call loop len slen arith shift cmp conv eqS ltS cat app elt byt subS subL strOf isB fit inb cut room not and eqB avs G
    have hb : cmp BinOp.lss y (slen w) = true := by rw [G.cmp', G.slen']; simp [intRel]; omega
    have hin : inb y (slen w) = true := by rw [G.inb', G.slen']; simp; omega
    obtain ⟨cz, hcz⟩ : ∃ cz : Int, cz = c.toNat := ⟨_, rfl⟩
    have hbyt : byt w y = cz := by rw [G.byt', hcz, ← hc, hy]; simp [List.getD_eq_getElem?_getD, hlt]
    have h1 : cmp BinOp.lss cz 97 = !decide (97 ≤ c.toNat) := by rw [G.cmp', hcz]; simp only [intRel]; rw [Bool.eq_iff_iff]; simp only [decide_eq_true_eq, Bool.not_eq_true', decide_eq_false_iff_not]; omega
    have h2 : cmp BinOp.gtr cz 122 = !decide (c.toNat ≤ 122) := by rw [G.cmp', hcz]; simp only [intRel]; rw [Bool.eq_iff_iff]; simp only [decide_eq_true_eq, Bool.not_eq_true', decide_eq_false_iff_not]; omega
    have hone : arith BinOp.add IntKind.i64 y 1 = y + 1 := by rw [G.arith']; exact wrap_i64 _ (by omega) (by omega)
    have hgo : decide (97 ≤ c.toNat) = true → decide (c.toNat ≤ 122) = true → LoopP Tryz.prog (Pr.tab real) 154 c7 (Less K) [(0, .str w), (3, .int .i64 (y + 1))] S := fun h1 h2 => hgo (by simpa using h1) (by simpa using h2)
    generalize hL : LoopP Tryz.prog (Pr.tab real) 154 c7 (Less K) = L at hgo ⊢
    generalize hK' : Less K = K' at hL ⊢
    generalize y + 1 = y1 at *
    generalize decide (97 ≤ c.toNat) = d1 at *
    generalize decide (c.toNat ≤ 122) = d2 at *
    clear hy hi hlt hc hcz hl
    cbv
    refine GenH.need' G rfl ?_
    rw [hb]
    cbv
    refine GenH.need' G hin (GenH.need' G rfl ?_)
    rw [hbyt, h1]
    cases d1 with
    | false =>
      cbv
      refine GenH.call' G (hal _ _ ?_)
      cbv
      rw [← hK']
      exact ⟨[(2, .bool true)], .cons rfl (.nil _), hK2⟩
    | true =>
      cbv
      refine GenH.need' G hin (GenH.need' G rfl ?_)
      rw [hbyt, h2]
      cases d2 with
      | false =>
        cbv
        refine GenH.call' G (hal _ _ ?_)
        cbv
        rw [← hK']
        exact ⟨[(2, .bool true)], .cons rfl (.nil _), hK2⟩
      | true =>
        have go := hgo rfl rfl
        cbv
        refine GenH.need' G rfl ?_
        rw [hone]
        rw [← hL] at go ⊢
        exact LoopP.weak (.cons rfl (.cons rfl (.nil _))) go
end Go.AM.Ps
