/- ParseNames over the abstract machine: it answers true at any text. -/
import Derived.Test.YteomefghofhkiaaGreatDoorNpP
set_option linter.unusedSimpArgs false
set_option linter.unusedVariables false
set_option linter.unusedSectionVars false
namespace Go.AM.Ps
open Go.Proofs W
set_option maxRecDepth 100000
set_option maxHeartbeats 40000000
set_option linter.unusedVariables false
set_option linter.unusedSimpArgs false


theorem names_law (w : List UInt8) : CallP Tryz.prog (Pr.tab real) 7 [.str w] St.nil (fun o _ => o = .ret (.bool true)) := by
  have hal := fun S K hK => alive_true S K hK
  -- what is answered
  have hstat : ∀ {s : List UInt8} {a : Nd} {sh : AV}, parseS rounds s = (match reservedB w with | true => (zeroNd, sSyntax) | false => (a, sDone)) → ∃ v1 v2 v3 v4, ∀ S (K : Out → St → Prop), K (.ret (.tup [.agg [.str v1, .str v2, .int .i64 v3, .slice 24 v4 .no], .str (match reservedB w with | true => sSyntax | false => sDone)])) S → CallP Tryz.prog (Pr.tab real) 8 [.str s] S K := by
    intro s a sh h
    obtain ⟨o, s1, k, l, hn⟩ : ∃ o s1 k l, (parseS rounds s).1 = Nd.mk o s1 k l := by
      cases (parseS rounds s).1 with | mk o s1 k l => exact ⟨_, _, _, _, rfl⟩
    refine ⟨o, s1, k, avL l, fun S K hK => parse_at s S K ?_⟩
    rw [hn]
    have : (parseS rounds s).2 = match reservedB w with | true => sSyntax | false => sDone := by rw [h]; cases reservedB w <;> rfl
    rw [this]
    exact hK
  have hcall : w ≠ [] → w.length ≤ 20 → Low w → (∃ a1 a2 a3 a4 b1 b2 b3 b4 c1 c2 c3 c4 d1 d2 d3 d4 e1 e2 e3 e4 sc,
      (∀ S (K : Out → St → Prop), K (.ret (.tup [.agg [.str a1, .str a2, .int .i64 a3, .slice 24 a4 .no], .str (match reservedB w with | true => sSyntax | false => sDone)])) S → CallP Tryz.prog (Pr.tab real) 8 [.str (k_savepoint ++ [32] ++ w)] S K) ∧
      (∀ S (K : Out → St → Prop), K (.ret (.tup [.agg [.str b1, .str b2, .int .i64 b3, .slice 24 b4 .no], .str (match reservedB w with | true => sSyntax | false => sDone)])) S → CallP Tryz.prog (Pr.tab real) 8 [.str (k_close ++ [32] ++ w)] S K) ∧
      (∀ S (K : Out → St → Prop), K (.ret (.tup [.agg [.str c1, .str c2, .int .i64 c3, .slice 24 c4 .no], .str sc])) S → CallP Tryz.prog (Pr.tab real) 8 [.str (k_create ++ [32] ++ k_table ++ [32, 116, 32, 40] ++ w ++ ([32] ++ k_int ++ [41]))] S K) ∧
      (∀ S (K : Out → St → Prop), K (.ret (.tup [.agg [.str d1, .str d2, .int .i64 d3, .slice 24 d4 .no], .str (match reservedB w with | true => sSyntax | false => sDone)])) S → CallP Tryz.prog (Pr.tab real) 8 [.str (k_select ++ [32, 120, 46] ++ w ++ ([32] ++ k_from ++ [32, 116, 32, 120]))] S K) ∧
      (∀ S (K : Out → St → Prop), K (.ret (.tup [.agg [.str e1, .str e2, .int .i64 e3, .slice 24 e4 .no], .str (match reservedB w with | true => sSyntax | false => sDone)])) S → CallP Tryz.prog (Pr.tab real) 8 [.str (k_select ++ [32, 97, 32] ++ k_as ++ [32] ++ w ++ ([32] ++ k_from ++ [32, 116]))] S K) ∧
      (∀ S (K : Out → St → Prop), (∀ op l, K (.ret (.tup [.agg [.str op, .str (match reservedB w with | true => [] | false => w), .int .i64 0, .slice 24 l .no], .str (match reservedB w with | true => sSyntax | false => sDone)])) S) → CallP Tryz.prog (Pr.tab real) 8 [.str (k_drop ++ [32] ++ k_table ++ [32] ++ w)] S K) ∧
      ((w == k_primary) = false → (w == k_unique) = false → (w == k_check) = false → (w == k_foreign) = false → sc = match reservedB w with | true => sSyntax | false => sDone)) := by
    intro h0 h20 hw
    obtain ⟨a1, a2, a3, a4, ha⟩ := hstat (sh := .bool true) (parse_savepoint hw h0 h20 rounds)
    obtain ⟨b1, b2, b3, b4, hb⟩ := hstat (sh := .bool true) (parse_close hw h0 h20 rounds)
    obtain ⟨d1, d2, d3, d4, hd⟩ := hstat (sh := .bool true) (parse_col hw h0 h20 99987)
    obtain ⟨e1, e2, e3, e4, he⟩ := hstat (sh := .bool true) (parse_alias hw h0 h20 99987)
    have hf := parse_drop hw h0 h20 rounds
    obtain ⟨c1, c2, c3, c4, hcn⟩ : ∃ o s1 k l, (parseS rounds (k_create ++ [32] ++ k_table ++ [32, 116, 32, 40] ++ w ++ ([32] ++ k_int ++ [41]))).1 = Nd.mk o s1 k l := by
      cases (parseS rounds (k_create ++ [32] ++ k_table ++ [32, 116, 32, 40] ++ w ++ ([32] ++ k_int ++ [41]))).1 with | mk o s1 k l => exact ⟨_, _, _, _, rfl⟩
    refine ⟨a1, a2, a3, a4, b1, b2, b3, b4, c1, c2, c3, avL c4, d1, d2, d3, d4, e1, e2, e3, e4, (parseS rounds (k_create ++ [32] ++ k_table ++ [32, 116, 32, 40] ++ w ++ ([32] ++ k_int ++ [41]))).2, ha, hb, fun S K hK => parse_at _ S K (by rw [hcn]; exact hK), hd, he, fun S K hK => parse_at _ S K ?_, fun h1 h2 h3 h4 => ?_⟩
    · rw [hf]
      cases hr : reservedB w with
      | true => rw [hr] at hK; exact hK _ _
      | false => rw [hr] at hK; exact hK _ _
    · have := parse_create hw h0 h20 99999 h1 h2 h3 h4
      have e : 99999 + 1 = rounds := rfl
      rw [e] at this
      rw [this]
      cases reservedB w <;> rfl
  have hres : w ≠ [] → w.length ≤ 20 → Low w → ∀ S (K : Out → St → Prop), K (.ret (.bool (reservedB w))) S → CallP Tryz.prog (Pr.tab real) 18 [.str w] S K := fun h0 h20 hw S K hK =>
    at_reservedR w (by omega) h0 (fun c hc e => by have := hw c hc; rw [e] at this; revert this; decide) S K hK
  apply body_calls (un := 0) Pr.tabOk Pr.mixed Ps.fn7 (Nat.le_of_ble_eq_true rfl)
  apply gen_body (mk := Pr.tab)
  intro fail need same call loop len slen arith shift cmp conv eqS ltS cat app elt byt subS subL strOf isB fit inb cut room not and eqB avs G
  generalize hK' : (fun (o : Out) (_ : St) => o = .ret (.bool true)) = K0
  have hfin : ∀ S, K0 (.ret (.bool true)) S := fun S => by rw [← hK']
  clear hK' hstat
  have hl0 : cmp BinOp.eql (slen w) 0 = decide (w = []) := by rw [G.cmp', G.slen']; simp only [intRel]; rw [Bool.eq_iff_iff]; simp only [decide_eq_true_eq, beq_iff_eq]; cases w with | nil => simp | cons a l => simp; omega
  have hl20 : cmp BinOp.gtr (slen w) 20 = !decide (w.length ≤ 20) := by rw [G.cmp', G.slen']; simp only [intRel]; rw [Bool.eq_iff_iff]; simp only [decide_eq_true_eq, Bool.not_eq_true', decide_eq_false_iff_not]; omega
  obtain ⟨b0, hb0⟩ : ∃ b, decide (w = []) = b := ⟨_, rfl⟩
  obtain ⟨b20, hb20⟩ : ∃ b, decide (w.length ≤ 20) = b := ⟨_, rfl⟩
  rw [hb0] at hl0
  rw [hb20] at hl20
  cbv
  refine GenH.need' G rfl ?_
  rw [hl0]
  cases b0 with
  | true =>
    clear hcall hres hl0
    cbv
    refine GenH.call' G (hal _ _ ?_)
    cbv
    exact hfin _
  | false =>
    have h0 := of_decide_eq_false hb0
    have hcall := hcall h0
    have hres := hres h0
    clear hb0 hl0
    cbv
    refine GenH.need' G rfl ?_
    rw [hl20]
    cases b20 with
    | false =>
      clear hcall hres
      cbv
      refine GenH.call' G (hal _ _ ?_)
      cbv
      exact hfin _
    | true =>
      have h20 := of_decide_eq_true hb20
      have hcall := hcall h20
      have hres := hres h20
      have hf1 : ∀ a : List UInt8, a.length ≤ 100 → fit a w = true := fun a ha => by rw [G.fit']; simp; omega
      have hf2 : ∀ a b : List UInt8, a.length ≤ 100 → b.length ≤ 100 → fit (cat a w) b = true := fun a b ha hb => by rw [G.fit', G.cat']; simp; omega
      have hcat : ∀ a b : List UInt8, cat a b = a ++ b := fun a b => by rw [G.cat']
      have hww : eqS w w = true := by rw [G.eqS']; exact beq_self_eq_true w
      have hd1 : eqS [48, 48, 48, 48, 48] [48, 48, 48, 48, 48] = true := by rw [G.eqS']; rfl
      have hd2 : eqS [52, 50, 54, 48, 49] [48, 48, 48, 48, 48] = false := by rw [G.eqS']; rfl
      have hnot : ∀ b, not b = !b := fun b => by rw [G.not']
      have heqB : ∀ a b, eqB a b = (a == b) := fun a b => by rw [G.eqB']
      clear hl20 hb20
      cbv
      refine GenH.loop' G ?_
      change LoopP Tryz.prog (Pr.tab real) 154 c7 _ _ _
      refine LoopP.relax (LoopP.weak (env' := [(0, .str w), (3, .int .i64 0)]) (.cons rfl (.cons rfl (.nil _))) ?_)
      refine chars7 _ _ w h20 (fun hw => ?_) ?_ w.length 0 0 rfl (by omega) (by simp)
      · obtain ⟨a1, a2, a3, a4, b1, b2, b3, b4, c1, c2, c3, c4, d1, d2, d3, d4, e1, e2, e3, e4, sc, ha, hb, hc, hd, he, hf, hkey⟩ := hcall hw
        have hres := hres hw
        generalize reservedB w = rb at *
        clear hcall
        have hp1 : eqS w [112, 114, 105, 109, 97, 114, 121] = (w == k_primary) := by rw [G.eqS']
        have hp2 : eqS w [117, 110, 105, 113, 117, 101] = (w == k_unique) := by rw [G.eqS']
        have hp3 : eqS w [99, 104, 101, 99, 107] = (w == k_check) := by rw [G.eqS']
        have hp4 : eqS w [102, 111, 114, 101, 105, 103, 110] = (w == k_foreign) := by rw [G.eqS']
        obtain ⟨qc, hqc⟩ : ∃ qc, eqS sc [48, 48, 48, 48, 48] = qc := ⟨_, rfl⟩
        have hkey2 : (w == k_primary) = false → (w == k_unique) = false → (w == k_check) = false → (w == k_foreign) = false → qc = !rb := fun h1 h2 h3 h4 => by
          rw [← hqc, hkey h1 h2 h3 h4]
          cases rb
          · exact hd1
          · exact hd2
        clear hkey hw
        generalize (w == k_primary) = q1 at *
        generalize (w == k_unique) = q2 at *
        generalize (w == k_check) = q3 at *
        generalize (w == k_foreign) = q4 at *
        cbv
        refine GenH.call' G (hres _ _ ?_)
        cbv
        refine GenH.need' G (hf1 _ (by decide)) (GenH.call' G ?_)
        rw [hcat]
        refine ha _ _ ?_
        clear ha
        cbv
        refine GenH.need' G (hf1 _ (by decide)) (GenH.call' G ?_)
        rw [hcat]
        refine hb _ _ ?_
        clear hb
        cbv
        refine GenH.need' G (hf1 _ (by decide)) (GenH.need' G (hf2 _ _ (by decide) (by decide)) (GenH.call' G ?_))
        simp only [hcat]
        refine hc _ _ ?_
        clear hc
        cbv
        refine GenH.need' G (hf1 _ (by decide)) (GenH.need' G (hf2 _ _ (by decide) (by decide)) (GenH.call' G ?_))
        simp only [hcat]
        refine hd _ _ ?_
        clear hd
        cbv
        refine GenH.need' G (hf1 _ (by decide)) (GenH.need' G (hf2 _ _ (by decide) (by decide)) (GenH.call' G ?_))
        simp only [hcat]
        refine he _ _ ?_
        clear he
        cbv
        refine GenH.need' G (hf1 _ (by decide)) (GenH.call' G ?_)
        rw [hcat]
        refine hf _ _ fun op l => ?_
        clear hf
        cases rb <;> cases q1 <;> cases q2 <;> cases q3 <;> cases q4 <;>
          first
          | (have := hkey2 rfl rfl rfl rfl; subst this
             cbv
             repeat' (first | exact hfin _ | refine GenH.call' G (hal _ _ ?_) | refine GenH.need' G rfl ?_ | (rw [hd1]; try cbv) | (rw [hd2]; try cbv) | (rw [hww]; try cbv) | (rw [hp1]; try cbv) | (rw [hp2]; try cbv) | (rw [hp3]; try cbv) | (rw [hp4]; try cbv) | (rw [hqc]; try cbv) | (rw [hnot]; try cbv) | (rw [heqB]; try cbv) | cbv | fail))
          | (cases qc <;>
             (cbv
              repeat' (first | exact hfin _ | refine GenH.call' G (hal _ _ ?_) | refine GenH.need' G rfl ?_ | (rw [hd1]; try cbv) | (rw [hd2]; try cbv) | (rw [hww]; try cbv) | (rw [hp1]; try cbv) | (rw [hp2]; try cbv) | (rw [hp3]; try cbv) | (rw [hp4]; try cbv) | (rw [hqc]; try cbv) | (rw [hnot]; try cbv) | (rw [heqB]; try cbv) | cbv | fail)))
      · cbv
        exact hfin _
end Go.AM.Ps
