/- ParseLoose over the abstract machine: it answers true at any text. -/
import Derived.Test.YteomefghofhkiaaGreatDoorLsR
set_option maxRecDepth 100000
set_option maxHeartbeats 40000000
set_option linter.unusedVariables false
set_option linter.unusedSimpArgs false
namespace Go.AM.Ps
open Go.Proofs W
theorem parse_small1 (s : List UInt8) : Small (parseS rounds s).1 := by
 have hz : Small zeroNd := by unfold zeroNd; simp [Small, SmallL]
 have ht := toks_lex s
 have hr : Res (lexScan s).1 0 SmallA (statement reservedB (lexScan s).1 rounds 0) := res_statement (by have := ht.len; show _ ≤ 100000; omega) (Nat.le_of_ble_eq_true rfl)
 unfold parseS
 cases hb : ((lexScan s).2 == sDone) with
 | false => exact hz
 | true =>
  simp only []
  cases hst : statement reservedB (lexScan s).1 rounds 0 with
  | fuel => exact absurd hst hr.1
  | wrong => exact hz
  | ok a z =>
   have hsm := (hr.2 a z hst).2.2
   show Small (parseEnd (lexScan s).1 a z).1
   unfold parseEnd
   split
   · exact hz
   · split
     · exact hz
     · exact hsm
theorem good_semi {t : Tk} (h : Good t) : ((t.k == 0 || t.k == 3) && t.t == g_semi) = ((t.k == 3) && (t.t == [59])) := by
 cases h with
 | word w a h0 c r hc hl h32 =>
  have : (w == [59]) = false := by
   rw [beq_eq_false_iff_ne]
   rintro rfl
   have : c = 59 := by injection hc with h1; exact h1.symm
   rw [this] at hl
   revert hl
   decide
  show ((true || _) && w == [59]) = ((0 : Int) == 3 && w == [59])
  rw [this]
  simp
 | num v a hv => rfl
 | text b a hg h4 => rfl
 | sign x a hx => rfl
theorem loose_walk (s : List UInt8) (odd : Bool) (bs : List Int) (hbl : bs.length ≤ 9223372036854775807) (hbs : ∀ c ∈ bs, -9223372036854775808 ≤ c ∧ c < 9223372036854775808) :
  CallP Tryz.prog (Pr.tab real) 4 [.str s, .bool odd, .slice 3 (bs.map (.int .i64)) .no] St.nil (fun o _ => o = .ret (.bool true)) := by
 have hal := fun S K hK => alive_true S K hK
 obtain ⟨on, sn, kn, ln, e, hA⟩ : ∃ o s1 k l t, parseS rounds s = (Nd.mk o s1 k l, t) := by
  cases parseS rounds s with | mk n t => cases n with | mk o s1 k l => exact ⟨o, s1, k, l, t, rfl⟩
 have pA : ∀ S (K : Out → St → Prop), K (.ret (.tup [.agg [.str on, .str sn, .int .i64 kn, .slice 24 (avL ln) .no], .str e])) S → CallP Tryz.prog (Pr.tab real) 8 [.str s] S K := fun S K hK => parse_at _ S K (by rw [hA]; exact hK)
 have hsm : Small (.mk on sn kn ln) := by have := parse_small1 s; rw [hA] at this; exact this
 have hsame : ∀ S (K : Out → St → Prop), K (.ret (.bool true)) S → CallP Tryz.prog (Pr.tab real) 10 [.agg [.str on, .str sn, .int .i64 kn, .slice 24 (avL ln) .no], .agg [.str on, .str sn, .int .i64 kn, .slice 24 (avL ln) .no]] S K := same_ok _ hsm
 have w2 := fun S K => refScan_spec s S K
 rw [← lex_ref] at w2
 have hch := lex_chain s
 have hlaw := fun h => loose_law (s := s) (n := rounds) (Nat.le_of_ble_eq_true rfl) (Nat.le_of_ble_eq_true rfl) odd (gapAt bs) (gapAt_in bs) h
 obtain ⟨l, hl⟩ : ∃ l, (lexScan s).1 = l := ⟨_, rfl⟩
 obtain ⟨f, hf⟩ : ∃ f, (lexScan s).2 = f := ⟨_, rfl⟩
 have hbad : (f == sDone) = false → e = f := fun h => by
  unfold parseS at hA
  rw [hf, h] at hA
  have := congrArg Prod.snd hA
  exact this.symm
 rw [hl, hf] at w2 hch hlaw
 rw [hA] at hlaw
 have hl6 : (f == sDone) = true → l.length ≤ 600 ∧ ∀ t ∈ l, Good t := fun h => by
  obtain ⟨_, h2, h3⟩ := hch (by simpa using h)
  exact ⟨h2, chain_good h3⟩
 have hloop : (f == sDone) = true → ∀ (K : Ex → Env → St → Prop) S, K (.exit 0) [(7, .ptr 0 0), (8, .str e), (9, tokV l), (11, .str (looseAll odd (gapAt bs) 0 l))] S →
   LoopP Tryz.prog (Pr.tab real) 115 c4 (Less K) [(1, .bool odd), (2, .slice 3 (bs.map (.int .i64)) .no), (7, .ptr 0 0), (8, .str e), (9, tokV l), (11, .str []), (12, .int .i64 0)] S := fun h K S hK =>
  loose_loop odd bs hbl hbs e l (hl6 h).1 (hl6 h).2 K S hK l [] 0 rfl rfl (by simp [looseAll])
 have hlenA : (f == sDone) = true → (looseAll odd (gapAt bs) 0 l).length ≤ 2000 * 600 := fun h => by
  have key : ∀ (r : List Tk) (i : Nat), (∀ t ∈ r, Good t) → (looseAll odd (gapAt bs) i r).length ≤ 2000 * r.length := by
   intro r
   induction r with
   | nil => intro i _; simp [looseAll]
   | cons t r ih =>
    intro i hr
    have h1 := ih (i + 1) fun x hx => hr x (by simp [hx])
    have h2 := spellG_len odd (hr t (by simp))
    have h3 := gapAt_len bs i
    simp only [looseAll, List.length_append, List.length_cons]
    omega
  have := key l 0 (hl6 h).2
  have := (hl6 h).1
  omega
 obtain ⟨⟨lk, lt, lnn, la⟩, hlast⟩ : ∃ t, (l[l.length - 1]?).getD ⟨0, [], 0, 0⟩ = t := ⟨_, rfl⟩
 have hadds : (f == sDone) = true → adds l = (decide (0 < l.length) && (!((lk == 3) && (lt == [59])) && decide (l.length < 600))) := fun h => by
  unfold adds sees
  by_cases h0 : 0 < l.length
  · have hx : l[l.length - 1]? = some ⟨lk, lt, lnn, la⟩ := by
     rw [← hlast, List.getElem?_eq_getElem (by omega)]; rfl
    rw [hx]
    have := good_semi ((hl6 h).2 ⟨lk, lt, lnn, la⟩ (List.mem_of_getElem? hx))
    simp only at this ⊢
    rw [this]
  · rw [decide_eq_false h0, Bool.false_and, Bool.false_and]
 obtain ⟨sp, hsp⟩ : ∃ sp, looseAll odd (gapAt bs) 0 l = sp := ⟨_, rfl⟩
 have hp : ∀ u, (f == sDone) = true → u = loose odd (gapAt bs) l → decide (2000 < u.length) = false → ∀ S (K : Out → St → Prop), K (.ret (.tup [.agg [.str on, .str sn, .int .i64 kn, .slice 24 (avL ln) .no], .str e])) S → CallP Tryz.prog (Pr.tab real) 8 [.str u] S K := fun u h hu hd S K hK => by
  have hd := of_decide_eq_false hd
  refine parse_at u S K ?_
  rw [hu, hlaw (by simpa using h) (by rw [← hu]; omega)]
  exact hK
 have hp0 := fun (h : (f == sDone) = true) (ha : (decide (0 < l.length) && (!((lk == 3) && (lt == [59])) && decide (l.length < 600))) = false) => hp sp h (by unfold loose; rw [hadds h, ha, hsp])
 have hp1 := fun (h : (f == sDone) = true) (ha : (decide (0 < l.length) && (!((lk == 3) && (lt == [59])) && decide (l.length < 600))) = true) => hp (sp ++ [59, 32]) h (by unfold loose; rw [hadds h, ha, hsp])
 rw [hsp] at hloop hlenA
 clear hp hadds hlaw hsp
 apply body_calls (un := 0) Pr.tabOk Pr.mixed Ps.fn4 (Nat.le_of_ble_eq_true rfl)
 apply gen_body (mk := Pr.tab)
 intro fail need same call loop len slen arith shift cmp conv eqS ltS cat app elt byt subS subL strOf isB fit inb cut room not and eqB avs G
 have nf : not (eqS f [48, 48, 48, 48, 48]) = !(f == sDone) := by rw [G.not', G.eqS']; rfl
 have hee : eqS e e = true := by rw [G.eqS']; exact beq_self_eq_true e
 have hef : (f == sDone) = false → eqS e f = true := fun h => by rw [hbad h, G.eqS']; exact beq_self_eq_true f
 obtain ⟨e3, c3, m3, he3, hc3, h3⟩ := tokV_len l
 have g0 : cmp BinOp.gtr (len c3) 0 = decide (0 < l.length) := by rw [G.cmp', G.len', hc3]; simp only [intRel]; rw [Bool.eq_iff_iff]; simp
 have g6 : (f == sDone) = true → cmp BinOp.lss (len c3) 600 = decide (l.length < 600) := fun h => by rw [G.cmp', G.len', hc3]; simp only [intRel]; rw [Bool.eq_iff_iff]; simp; omega
 obtain ⟨lz, hlz⟩ : ∃ lz : Int, lz = (l.length : Int) - 1 := ⟨_, rfl⟩
 have hsub : (f == sDone) = true → arith BinOp.sub IntKind.i64 (len c3) 1 = lz := fun h => by
  have := (hl6 h).1
  rw [G.arith', G.len', hc3, hlz]
  simp only [intBin, List.length_map]
  exact wrap_i64 _ (by omega) (by omega)
 have hin : decide (0 < l.length) = true → inb lz (len c3) = true := fun h => by
  have := of_decide_eq_true h
  rw [G.inb', G.len', hc3]; simp; omega
 have hel : decide (0 < l.length) = true → elt c3 lz = .agg [.int .i64 lk, .str lt, .int .i64 lnn, .int .i64 la] := fun h => by
  have h0 := of_decide_eq_true h
  have hx : l[l.length - 1]? = some ⟨lk, lt, lnn, la⟩ := by
   rw [← hlast, List.getElem?_eq_getElem (by omega)]; rfl
  rw [G.elt', hc3, hlz]
  show (List.map Tk.av l).getD ((l.length : Int) - 1).toNat AV.undef = _
  rw [show ((l.length : Int) - 1).toNat = l.length - 1 by omega]
  simp only [List.getD_eq_getElem?_getD, List.getElem?_map, hx]
  rfl
 have he33 : decide (0 < l.length) = true → e3 = 41 := fun h => h3 (by rintro rfl; simp at h)
 have hk3 : cmp BinOp.eql lk 3 = (lk == 3) := by rw [G.cmp']; rfl
 have hs3 : eqS lt [59] = (lt == [59]) := by rw [G.eqS']
 have hnt : ∀ b, not b = !b := fun b => by rw [G.not']
 have gt0 : cmp BinOp.gtr (slen sp) 2000 = decide (2000 < sp.length) := by rw [G.cmp', G.slen']; simp only [intRel]; rw [Bool.eq_iff_iff]; simp only [decide_eq_true_eq]; omega
 have gt1 : cmp BinOp.gtr (slen (sp ++ [59, 32])) 2000 = decide (2000 < (sp ++ [59, 32]).length) := by rw [G.cmp', G.slen']; simp only [intRel]; rw [Bool.eq_iff_iff]; simp only [decide_eq_true_eq]; omega
 have hcat : cat sp [59, 32] = sp ++ [59, 32] := by rw [G.cat']
 have hfit : (f == sDone) = true → fit sp [59, 32] = true := fun h => by have := hlenA h; rw [G.fit']; simp; omega
 rw [he3] at w2 hloop
 generalize hK' : (fun (o : Out) (_ : St) => o = .ret (.bool true)) = K0
 have hfin : ∀ S, K0 (.ret (.bool true)) S := fun S => by rw [← hK']
 generalize (f == sDone) = bf at *
 generalize decide (2000 < sp.length) = d0 at *
 generalize decide (2000 < (sp ++ [59, 32]).length) = d1 at *
 generalize decide (0 < l.length) = b1 at *
 generalize (lk == 3) = b2 at *
 generalize (lt == [59]) = b3 at *
 generalize decide (l.length < 600) = b4 at *
 generalize sp ++ [59, 32] = sq at *
 generalize avL ln = vn at *
 generalize bs.map (AV.int .i64) = bv at *
 clear hK' hlenA hlz hlast hl6 hch hsm hA hl hf hbs hc3 he3 h3 hbad
 cbv
 refine GenH.call' G (pA _ _ ?_)
 clear pA
 cbv
 refine GenH.call' G (w2 _ _ ?_)
 clear w2
 cbv
 rw [nf]
 cases bf with
 | false =>
  have hef := hef rfl
  clear hloop hp0 hp1
  cbv
  repeat' (first | exact hfin _ | refine GenH.call' G (hal _ _ ?_) | (rw [hef]; try cbv) | refine GenH.need' G rfl ?_ | refine GenH.same' G rfl ?_ | cbv | fail)
 | true =>
  have hp0 := hp0 rfl
  have hp1 := hp1 rfl
  have g6 := g6 rfl
  have hsub := hsub rfl
  have hfit := hfit rfl
  have hloop := hloop rfl
  clear hef nf
  cbv
  refine GenH.loop' G ?_
  change LoopP Tryz.prog (Pr.tab real) 115 c4 _ _ _
  refine LoopP.relax (LoopP.weak (env' := [(1, .bool odd), (2, .slice 3 bv .no), (7, .ptr 0 0), (8, .str e), (9, .slice e3 c3 m3), (11, .str []), (12, .int .i64 0)]) (.cons rfl (.cons rfl (.cons rfl (.cons rfl (.cons rfl (.cons rfl (.cons rfl (.nil _)))))))) ?_)
  refine hloop _ _ ?_
  clear hloop
  cases b1 with
  | false =>
   have hp0 := hp0 rfl
   clear hp1 he33 hin hel
   cbv
   repeat' (first | exact hfin _ | refine GenH.call' G (hal _ _ ?_) | refine GenH.call' G (hp0 rfl _ _ ?_) | refine GenH.call' G (hsame _ _ ?_) | (rw [g0]; try cbv) | (rw [gt0]; cases d0 <;> try cbv) | (rw [hee]; try cbv) | refine GenH.need' G rfl ?_ | refine GenH.same' G rfl ?_ | cbv | fail)
  | true =>
   obtain rfl := he33 rfl
   have hin := hin rfl
   have hel := hel rfl
   cases b2 <;> cases b3 <;> cases b4 <;> (first | have hpu := hp0 rfl | have hpu := hp1 rfl) <;> clear hp0 hp1 <;>
    (cbv
     repeat' (first | exact hfin _ | refine GenH.call' G (hal _ _ ?_) | refine GenH.call' G (hpu rfl _ _ ?_) | refine GenH.call' G (hsame _ _ ?_) | refine GenH.need' G hin ?_ | refine GenH.need' G hfit ?_ | (rw [g0]; try cbv) | (rw [hsub]; try cbv) | (rw [hel]; try cbv) | (rw [hk3]; try cbv) | (rw [hs3]; try cbv) | (rw [g6]; try cbv) | (rw [hcat]; try cbv) | (rw [gt0]; cases d0 <;> try cbv) | (rw [gt1]; cases d1 <;> try cbv) | (rw [hee]; try cbv) | (rw [hnt]; try cbv) | refine GenH.need' G rfl ?_ | refine GenH.same' G rfl ?_ | cbv | fail))
end Go.AM.Ps
