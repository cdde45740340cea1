/- ParseWithin over the abstract machine: it answers true at any text. -/
import Derived.Test.YteomefghofhkiaaGreatDoorWnR
import Derived.Test.YteomefghofhkiaaGreatDoorWnQ
import Derived.Test.YteomefghofhkiaaGreatDoorWnL
import Derived.Test.YteomefghofhkiaaGreatDoorWnN
import Derived.Test.YteomefghofhkiaaGreatDoorWnAlive
set_option maxRecDepth 100000
set_option maxHeartbeats 40000000
set_option linter.unusedVariables false
set_option linter.unusedSimpArgs false
namespace Go.AM.Ps
open Go.Proofs W
theorem Ps.fn5 : FnOk Tryz.prog 5 (fni Tryz.f5 Pr.a5) := ⟨⟨Tryz.f5, Tryz.func5, rfl, rfl, rfl, by kernel_rfl⟩, by kernel_rfl⟩
theorem cond_shape {q x : Nd} (h : condOf q = some x) : ∃ s k s2 k2 m0 m1 o3 s3 k3 o4 s4 k4 g o5 s5 k5 v o6 s6 k6 o, q = .mk o_query s k [.mk k_select s2 k2 [m0, m1, .mk o3 s3 k3 [x], .mk o4 s4 k4 g, .mk o5 s5 k5 v], .mk o6 s6 k6 o] := by
 unfold condOf at h
 split at h
 · rename_i op s k o2 s2 k2 m0 m1 o3 s3 k3 x' m3 m4 b
   split at h
   · rename_i hb
     simp only [Bool.and_eq_true, beq_iff_eq] at hb
     obtain ⟨o4, s4, k4, g⟩ := m3
     obtain ⟨o5, s5, k5, v⟩ := m4
     obtain ⟨o6, s6, k6, o⟩ := b
     obtain rfl := Option.some.inj h
     rw [hb.1, hb.2]
     exact ⟨_, _, _, _, _, _, _, _, _, _, _, _, _, _, _, _, _, _, _, _, _, rfl⟩
   · cases h
 · cases h
theorem small_cond {q x : Nd} (h : condOf q = some x) (hs : Small q) : Small x := by
 obtain ⟨s, k, s2, k2, m0, m1, o3, s3, k3, o4, s4, k4, g, o5, s5, k5, v, o6, s6, k6, o, rfl⟩ := cond_shape h
 simp only [Small, SmallL] at hs
 exact hs.2.1.2.2.2.1.2.1
theorem parse_small {s : List UInt8} {q : Nd} (h : parseS rounds s = (q, sDone)) : Small q := by
 obtain ⟨hd, hp⟩ := parse_done h
 have ht := toks_lex s
 have hr : Res (lexScan s).1 0 SmallA (statement reservedB (lexScan s).1 rounds 0) := res_statement (by have := ht.len; show _ ≤ 100000; omega) (Nat.le_of_ble_eq_true rfl)
 unfold parseMid at hp
 cases hst : statement reservedB (lexScan s).1 rounds 0 with
 | fuel => exact absurd hst hr.1
 | wrong => rw [hst] at hp; simp [sSyntax, sDone] at hp
 | ok a z =>
  rw [hst] at hp
  have hp : parseEnd (lexScan s).1 a z = (q, sDone) := hp
  have hsm := (hr.2 a z hst).2.2
  unfold parseEnd at hp
  split at hp
  · simp [sSyntax, sDone] at hp
  · split at hp
    · simp [sComplex, sDone] at hp
    · simp only [Prod.mk.injEq, and_true] at hp
      rw [← hp]; exact hsm
theorem within_law (e : List UInt8) (he : e.length ≤ 140737488355328) : CallP Tryz.prog (Pr.tab real) 5 [.str e] St.nil (fun o _ => o = .ret (.bool true)) := by
 have hal := fun S K hK => alive_true S K hK
 obtain ⟨oa, sa, ka, la, ta, ha⟩ : ∃ o s k l t, parseS rounds (textA e) = (Nd.mk o s k l, t) := by
  cases parseS rounds (textA e) with | mk n t => cases n with | mk o s k l => exact ⟨o, s, k, l, t, rfl⟩
 have pa : ∀ S (K : Out → St → Prop), K (.ret (.tup [.agg [.str oa, .str sa, .int .i64 ka, .slice 24 (avL la) .no], .str ta])) S → CallP Tryz.prog (Pr.tab real) 8 [.str (textA e)] S K := fun S K hK => parse_at _ S K (by rw [ha]; exact hK)
 obtain ⟨ob, sb, kb, lb, tb, hb⟩ : ∃ o s k l t, parseS rounds (textB e) = (Nd.mk o s k l, t) := by
  cases parseS rounds (textB e) with | mk n t => cases n with | mk o s k l => exact ⟨o, s, k, l, t, rfl⟩
 have pb : ∀ S (K : Out → St → Prop), K (.ret (.tup [.agg [.str ob, .str sb, .int .i64 kb, .slice 24 (avL lb) .no], .str tb])) S → CallP Tryz.prog (Pr.tab real) 8 [.str (textB e)] S K := fun S K hK => parse_at _ S K (by rw [hb]; exact hK)
 obtain ⟨oc, sc, kc, lc, tc, hc⟩ : ∃ o s k l t, parseS rounds (textC e) = (Nd.mk o s k l, t) := by
  cases parseS rounds (textC e) with | mk n t => cases n with | mk o s k l => exact ⟨o, s, k, l, t, rfl⟩
 have pc : ∀ S (K : Out → St → Prop), K (.ret (.tup [.agg [.str oc, .str sc, .int .i64 kc, .slice 24 (avL lc) .no], .str tc])) S → CallP Tryz.prog (Pr.tab real) 8 [.str (textC e)] S K := fun S K hK => parse_at _ S K (by rw [hc]; exact hK)
 obtain ⟨od, sd, kd, ld, td, hd⟩ : ∃ o s k l t, parseS rounds ([115, 101, 108, 101, 99, 116, 32, 40] ++ e ++ [10, 41, 32, 102, 114, 111, 109, 32, 116]) = (Nd.mk o s k l, t) := by
  cases parseS rounds ([115, 101, 108, 101, 99, 116, 32, 40] ++ e ++ [10, 41, 32, 102, 114, 111, 109, 32, 116]) with | mk n t => cases n with | mk o s k l => exact ⟨o, s, k, l, t, rfl⟩
 have pd : ∀ S (K : Out → St → Prop), K (.ret (.tup [.agg [.str od, .str sd, .int .i64 kd, .slice 24 (avL ld) .no], .str td])) S → CallP Tryz.prog (Pr.tab real) 8 [.str ([115, 101, 108, 101, 99, 116, 32, 40] ++ e ++ [10, 41, 32, 102, 114, 111, 109, 32, 116])] S K := fun S K hK => parse_at _ S K (by rw [hd]; exact hK)
 have ca : ∀ S (K : Out → St → Prop), K (.ret (condA (condOf (.mk oa sa ka la)))) S → CallP Tryz.prog (Pr.tab real) 17 [.agg [.str oa, .str sa, .int .i64 ka, .slice 24 (avL la) .no]] S K := fun S K hK => at_condition _ S K hK
 have cb : ∀ S (K : Out → St → Prop), K (.ret (condA (condOf (.mk ob sb kb lb)))) S → CallP Tryz.prog (Pr.tab real) 17 [.agg [.str ob, .str sb, .int .i64 kb, .slice 24 (avL lb) .no]] S K := fun S K hK => at_condition _ S K hK
 have cc : ∀ S (K : Out → St → Prop), K (.ret (condA (condOf (.mk oc sc kc lc)))) S → CallP Tryz.prog (Pr.tab real) 17 [.agg [.str oc, .str sc, .int .i64 kc, .slice 24 (avL lc) .no]] S K := fun S K hK => at_condition _ S K hK
 have hkey : ta = sDone → tb = sDone → tc = sDone → ∀ x y z, condOf (.mk oa sa ka la) = some x → condOf (.mk ob sb kb lb) = some y → condOf (.mk oc sc kc lc) = some z → SameOk x ∧ (alone (.mk oa sa ka la) = true → y = x ∧ z = x) := by
  rintro rfl rfl rfl x y z hx hy hz
  exact ⟨same_ok x (small_cond hx (parse_small ha)), fun h => within_text (m := 99987) (Nat.le_of_ble_eq_true rfl) (Nat.le_of_ble_eq_true rfl) ha hb hc hx hy hz h⟩
 clear ha hb hc hd
 apply body_calls (un := 0) Pr.tabOk Pr.mixed Ps.fn5 (Nat.le_of_ble_eq_true rfl)
 apply gen_body (mk := Pr.tab)
 intro fail need same call loop len slen arith shift cmp conv eqS ltS cat app elt byt subS subL strOf isB fit inb cut room not and eqB avs G
 generalize hK' : (fun (o : Out) (_ : St) => o = .ret (.bool true)) = K0
 have hfin : ∀ S, K0 (.ret (.bool true)) S := fun S => by rw [← hK']
 clear hK'
 have hf1 : ∀ a : List UInt8, a.length ≤ 100 → fit a e = true := fun a ha => by rw [G.fit']; simp; omega
 have hf2 : ∀ a b : List UInt8, a.length ≤ 100 → b.length ≤ 100 → fit (cat a e) b = true := fun a b ha hb => by rw [G.fit', G.cat']; simp; omega
 have t1 : cat [115, 101, 108, 101, 99, 116, 32, 120, 32, 102, 114, 111, 109, 32, 116, 32, 119, 104, 101, 114, 101, 32] e = textA e := by rw [G.cat']; rfl
 have t2 : cat (cat [115, 101, 108, 101, 99, 116, 32, 120, 32, 102, 114, 111, 109, 32, 116, 32, 119, 104, 101, 114, 101, 32, 40] e) [10, 41] = textB e := by rw [G.cat']; rfl
 have t3 : cat (cat [115, 101, 108, 101, 99, 116, 32, 120, 32, 102, 114, 111, 109, 32, 116, 32, 119, 104, 101, 114, 101, 32, 40, 32, 40] e) [10, 41, 32, 41, 32] = textC e := by rw [G.cat']; rfl
 have t4 : cat (cat [115, 101, 108, 101, 99, 116, 32, 40] e) [10, 41, 32, 102, 114, 111, 109, 32, 116] = [115, 101, 108, 101, 99, 116, 32, 40] ++ e ++ [10, 41, 32, 102, 114, 111, 109, 32, 116] := by rw [G.cat']
 generalize textA e = eA at *
 generalize textB e = eB at *
 generalize textC e = eC at *
 generalize [115, 101, 108, 101, 99, 116, 32, 40] ++ e ++ [10, 41, 32, 102, 114, 111, 109, 32, 116] = eD at *
 have da : not (eqS ta [48, 48, 48, 48, 48]) = !(ta == sDone) := by rw [G.not', G.eqS'] <;> rfl
 obtain ⟨va, hva⟩ : ∃ v, avL la = v := ⟨_, rfl⟩
 rw [hva] at pa ca
 obtain ⟨ya, hya⟩ : ∃ y, (ta == sDone) = y := ⟨_, rfl⟩
 rw [hya] at da
 have db : not (eqS tb [48, 48, 48, 48, 48]) = !(tb == sDone) := by rw [G.not', G.eqS'] <;> rfl
 obtain ⟨vb, hvb⟩ : ∃ v, avL lb = v := ⟨_, rfl⟩
 rw [hvb] at pb cb
 obtain ⟨yb, hyb⟩ : ∃ y, (tb == sDone) = y := ⟨_, rfl⟩
 rw [hyb] at db
 have dc : not (eqS tc [48, 48, 48, 48, 48]) = !(tc == sDone) := by rw [G.not', G.eqS'] <;> rfl
 obtain ⟨vc, hvc⟩ : ∃ v, avL lc = v := ⟨_, rfl⟩
 rw [hvc] at pc cc
 obtain ⟨yc, hyc⟩ : ∃ y, (tc == sDone) = y := ⟨_, rfl⟩
 rw [hyc] at dc
 have dd : not (eqS td [48, 48, 48, 48, 48]) = !(td == sDone) := by rw [G.not', G.eqS'] <;> rfl
 obtain ⟨vd, hvd⟩ : ∃ v, avL ld = v := ⟨_, rfl⟩
 rw [hvd] at pd
 obtain ⟨yd, hyd⟩ : ∃ y, (td == sDone) = y := ⟨_, rfl⟩
 rw [hyd] at dd
 have hnt : not true = false := by rw [G.not']; rfl
 have hnf : not false = true := by rw [G.not']; rfl
 have i20 : ∀ v w, inb 0 (len [v, w]) = true := fun v w => by rw [G.inb', G.len']; rfl
 have e20 : ∀ v w, elt [v, w] 0 = v := fun v w => by rw [G.elt']; rfl
 have i21 : ∀ v w, inb 1 (len [v, w]) = true := fun v w => by rw [G.inb', G.len']; rfl
 have e21 : ∀ v w, elt [v, w] 1 = w := fun v w => by rw [G.elt']; rfl
 have i53 : ∀ v0 v1 v2 v3 v4, inb 3 (len [v0, v1, v2, v3, v4]) = true := fun v0 v1 v2 v3 v4 => by rw [G.inb', G.len']; rfl
 have e53 : ∀ v0 v1 v2 v3 v4, elt [v0, v1, v2, v3, v4] 3 = v3 := fun v0 v1 v2 v3 v4 => by rw [G.elt']; rfl
 have i54 : ∀ v0 v1 v2 v3 v4, inb 4 (len [v0, v1, v2, v3, v4]) = true := fun v0 v1 v2 v3 v4 => by rw [G.inb', G.len']; rfl
 have e54 : ∀ v0 v1 v2 v3 v4, elt [v0, v1, v2, v3, v4] 4 = v4 := fun v0 v1 v2 v3 v4 => by rw [G.elt']; rfl
 have hgt : ∀ l : List Nd, cmp BinOp.gtr (len (avL l)) 0 = !l.isEmpty := fun l => by
  rw [G.cmp', G.len', avL_map]
  cases l with
  | nil => rfl
  | cons a r => simp only [intRel, List.map_cons, List.length_cons, List.isEmpty_cons, Bool.not_false, decide_eq_true_eq]; omega
 cbv
 refine GenH.need' G (hf1 _ (by decide)) (GenH.call' G ?_)
 rw [t1]
 refine pa _ _ ?_
 clear pa t1
 cbv
 refine GenH.need' G (hf1 _ (by decide)) (GenH.need' G (hf2 _ _ (by decide) (by decide)) (GenH.call' G ?_))
 rw [t2]
 refine pb _ _ ?_
 clear pb t2
 cbv
 refine GenH.need' G (hf1 _ (by decide)) (GenH.need' G (hf2 _ _ (by decide) (by decide)) (GenH.call' G ?_))
 rw [t3]
 refine pc _ _ ?_
 clear pc t3
 cbv
 refine GenH.need' G (hf1 _ (by decide)) (GenH.need' G (hf2 _ _ (by decide) (by decide)) (GenH.call' G ?_))
 rw [t4]
 refine pd _ _ ?_
 clear pd t4 hf1 hf2
 cbv
 rw [da]
 cases ya with
 | false => cbv; refine GenH.call' G (hal _ _ ?_); cbv; exact hfin _
 | true =>
 cbv
 rw [db]
 cases yb with
 | false => cbv; refine GenH.call' G (hal _ _ ?_); cbv; exact hfin _
 | true =>
 cbv
 rw [dc]
 cases yc with
 | false => cbv; refine GenH.call' G (hal _ _ ?_); cbv; exact hfin _
 | true =>
 cbv
 rw [dd]
 cases yd with
 | false => cbv; refine GenH.call' G (hal _ _ ?_); cbv; exact hfin _
 | true =>
 cbv
 have hkey := hkey (by simpa using hya) (by simpa using hyb) (by simpa using hyc)
 clear hya hyb hyc hyd da db dc dd
 cases hxa : condOf (.mk oa sa ka la) with
 | none =>
  rw [hxa] at ca
  have ca : ∀ S (K : Out → St → Prop), K (.ret (.tup [.agg [.str [], .str [], .int .i64 0, .slice 0 [] .exact], .bool false])) S → CallP Tryz.prog (Pr.tab real) 17 [.agg [.str oa, .str sa, .int .i64 ka, .slice 24 va .no]] S K := ca
  cases hxb : condOf (.mk ob sb kb lb) with
  | none =>
   rw [hxb] at cb
   have cb : ∀ S (K : Out → St → Prop), K (.ret (.tup [.agg [.str [], .str [], .int .i64 0, .slice 0 [] .exact], .bool false])) S → CallP Tryz.prog (Pr.tab real) 17 [.agg [.str ob, .str sb, .int .i64 kb, .slice 24 vb .no]] S K := cb
   cases hxc : condOf (.mk oc sc kc lc) with
   | none =>
    rw [hxc] at cc
    have cc : ∀ S (K : Out → St → Prop), K (.ret (.tup [.agg [.str [], .str [], .int .i64 0, .slice 0 [] .exact], .bool false])) S → CallP Tryz.prog (Pr.tab real) 17 [.agg [.str oc, .str sc, .int .i64 kc, .slice 24 vc .no]] S K := cc
    clear hkey
    refine GenH.call' G (ca _ _ ?_)
    cbv
    refine GenH.call' G (cb _ _ ?_)
    cbv
    refine GenH.call' G (cc _ _ ?_)
    cbv
    rw [hnf]
    cbv
    refine GenH.call' G (hal _ _ ?_)
    cbv
    exact hfin _
   | some xc =>
    obtain ⟨xco, xcs, xck, xcl⟩ := xc
    rw [hxc] at cc
    obtain ⟨wc, hwc⟩ : ∃ w, avL xcl = w := ⟨_, rfl⟩
    have cc : ∀ S (K : Out → St → Prop), K (.ret (.tup [.agg [.str xco, .str xcs, .int .i64 xck, .slice 24 wc .no], .bool true])) S → CallP Tryz.prog (Pr.tab real) 17 [.agg [.str oc, .str sc, .int .i64 kc, .slice 24 vc .no]] S K := fun S K hK => cc S K (by rw [← hwc] at hK; exact hK)
    clear hkey
    refine GenH.call' G (ca _ _ ?_)
    cbv
    refine GenH.call' G (cb _ _ ?_)
    cbv
    refine GenH.call' G (cc _ _ ?_)
    cbv
    rw [hnf]
    cbv
    refine GenH.call' G (hal _ _ ?_)
    cbv
    exact hfin _
  | some xb =>
   obtain ⟨xbo, xbs, xbk, xbl⟩ := xb
   rw [hxb] at cb
   obtain ⟨wb, hwb⟩ : ∃ w, avL xbl = w := ⟨_, rfl⟩
   have cb : ∀ S (K : Out → St → Prop), K (.ret (.tup [.agg [.str xbo, .str xbs, .int .i64 xbk, .slice 24 wb .no], .bool true])) S → CallP Tryz.prog (Pr.tab real) 17 [.agg [.str ob, .str sb, .int .i64 kb, .slice 24 vb .no]] S K := fun S K hK => cb S K (by rw [← hwb] at hK; exact hK)
   cases hxc : condOf (.mk oc sc kc lc) with
   | none =>
    rw [hxc] at cc
    have cc : ∀ S (K : Out → St → Prop), K (.ret (.tup [.agg [.str [], .str [], .int .i64 0, .slice 0 [] .exact], .bool false])) S → CallP Tryz.prog (Pr.tab real) 17 [.agg [.str oc, .str sc, .int .i64 kc, .slice 24 vc .no]] S K := cc
    clear hkey
    refine GenH.call' G (ca _ _ ?_)
    cbv
    refine GenH.call' G (cb _ _ ?_)
    cbv
    refine GenH.call' G (cc _ _ ?_)
    cbv
    rw [hnf]
    cbv
    refine GenH.call' G (hal _ _ ?_)
    cbv
    exact hfin _
   | some xc =>
    obtain ⟨xco, xcs, xck, xcl⟩ := xc
    rw [hxc] at cc
    obtain ⟨wc, hwc⟩ : ∃ w, avL xcl = w := ⟨_, rfl⟩
    have cc : ∀ S (K : Out → St → Prop), K (.ret (.tup [.agg [.str xco, .str xcs, .int .i64 xck, .slice 24 wc .no], .bool true])) S → CallP Tryz.prog (Pr.tab real) 17 [.agg [.str oc, .str sc, .int .i64 kc, .slice 24 vc .no]] S K := fun S K hK => cc S K (by rw [← hwc] at hK; exact hK)
    clear hkey
    refine GenH.call' G (ca _ _ ?_)
    cbv
    refine GenH.call' G (cb _ _ ?_)
    cbv
    refine GenH.call' G (cc _ _ ?_)
    cbv
    rw [hnf]
    cbv
    refine GenH.call' G (hal _ _ ?_)
    cbv
    exact hfin _
 | some xa =>
  obtain ⟨xao, xas, xak, xal⟩ := xa
  rw [hxa] at ca
  obtain ⟨wa, hwa⟩ : ∃ w, avL xal = w := ⟨_, rfl⟩
  have ca : ∀ S (K : Out → St → Prop), K (.ret (.tup [.agg [.str xao, .str xas, .int .i64 xak, .slice 24 wa .no], .bool true])) S → CallP Tryz.prog (Pr.tab real) 17 [.agg [.str oa, .str sa, .int .i64 ka, .slice 24 va .no]] S K := fun S K hK => ca S K (by rw [← hwa] at hK; exact hK)
  cases hxb : condOf (.mk ob sb kb lb) with
  | none =>
   rw [hxb] at cb
   have cb : ∀ S (K : Out → St → Prop), K (.ret (.tup [.agg [.str [], .str [], .int .i64 0, .slice 0 [] .exact], .bool false])) S → CallP Tryz.prog (Pr.tab real) 17 [.agg [.str ob, .str sb, .int .i64 kb, .slice 24 vb .no]] S K := cb
   cases hxc : condOf (.mk oc sc kc lc) with
   | none =>
    rw [hxc] at cc
    have cc : ∀ S (K : Out → St → Prop), K (.ret (.tup [.agg [.str [], .str [], .int .i64 0, .slice 0 [] .exact], .bool false])) S → CallP Tryz.prog (Pr.tab real) 17 [.agg [.str oc, .str sc, .int .i64 kc, .slice 24 vc .no]] S K := cc
    clear hkey
    refine GenH.call' G (ca _ _ ?_)
    cbv
    refine GenH.call' G (cb _ _ ?_)
    cbv
    refine GenH.call' G (cc _ _ ?_)
    cbv
    rw [hnt]
    cbv
    rw [hnf]
    cbv
    refine GenH.call' G (hal _ _ ?_)
    cbv
    exact hfin _
   | some xc =>
    obtain ⟨xco, xcs, xck, xcl⟩ := xc
    rw [hxc] at cc
    obtain ⟨wc, hwc⟩ : ∃ w, avL xcl = w := ⟨_, rfl⟩
    have cc : ∀ S (K : Out → St → Prop), K (.ret (.tup [.agg [.str xco, .str xcs, .int .i64 xck, .slice 24 wc .no], .bool true])) S → CallP Tryz.prog (Pr.tab real) 17 [.agg [.str oc, .str sc, .int .i64 kc, .slice 24 vc .no]] S K := fun S K hK => cc S K (by rw [← hwc] at hK; exact hK)
    clear hkey
    refine GenH.call' G (ca _ _ ?_)
    cbv
    refine GenH.call' G (cb _ _ ?_)
    cbv
    refine GenH.call' G (cc _ _ ?_)
    cbv
    rw [hnt]
    cbv
    rw [hnf]
    cbv
    refine GenH.call' G (hal _ _ ?_)
    cbv
    exact hfin _
  | some xb =>
   obtain ⟨xbo, xbs, xbk, xbl⟩ := xb
   rw [hxb] at cb
   obtain ⟨wb, hwb⟩ : ∃ w, avL xbl = w := ⟨_, rfl⟩
   have cb : ∀ S (K : Out → St → Prop), K (.ret (.tup [.agg [.str xbo, .str xbs, .int .i64 xbk, .slice 24 wb .no], .bool true])) S → CallP Tryz.prog (Pr.tab real) 17 [.agg [.str ob, .str sb, .int .i64 kb, .slice 24 vb .no]] S K := fun S K hK => cb S K (by rw [← hwb] at hK; exact hK)
   cases hxc : condOf (.mk oc sc kc lc) with
   | none =>
    rw [hxc] at cc
    have cc : ∀ S (K : Out → St → Prop), K (.ret (.tup [.agg [.str [], .str [], .int .i64 0, .slice 0 [] .exact], .bool false])) S → CallP Tryz.prog (Pr.tab real) 17 [.agg [.str oc, .str sc, .int .i64 kc, .slice 24 vc .no]] S K := cc
    clear hkey
    refine GenH.call' G (ca _ _ ?_)
    cbv
    refine GenH.call' G (cb _ _ ?_)
    cbv
    refine GenH.call' G (cc _ _ ?_)
    cbv
    rw [hnt]
    cbv
    rw [hnt]
    cbv
    rw [hnf]
    cbv
    refine GenH.call' G (hal _ _ ?_)
    cbv
    exact hfin _
   | some xc =>
    obtain ⟨xco, xcs, xck, xcl⟩ := xc
    rw [hxc] at cc
    obtain ⟨wc, hwc⟩ : ∃ w, avL xcl = w := ⟨_, rfl⟩
    have cc : ∀ S (K : Out → St → Prop), K (.ret (.tup [.agg [.str xco, .str xcs, .int .i64 xck, .slice 24 wc .no], .bool true])) S → CallP Tryz.prog (Pr.tab real) 17 [.agg [.str oc, .str sc, .int .i64 kc, .slice 24 vc .no]] S K := fun S K hK => cc S K (by rw [← hwc] at hK; exact hK)
    have hkey := hkey _ _ _ hxa hxb hxc
    obtain ⟨s1, k1, s2, k2, m0, m1, o3, s3, k3, o4, s4, k4, g, o5, s5, k5, v, o6, s6, k6, o, hsh⟩ := cond_shape hxa
    rw [hsh] at hkey
    have hkey2 : g.isEmpty = true → v.isEmpty = true → o.isEmpty = true → _ := fun h1 h2 h3 => hkey.2 (by show (g.isEmpty && v.isEmpty && o.isEmpty) = true; rw [h1, h2, h3]; rfl)
    have hla : va = [.agg [.str k_select, .str s2, .int .i64 k2, .slice 24 [m0.av, m1.av, .agg [.str o3, .str s3, .int .i64 k3, .slice 24 [.agg [.str xao, .str xas, .int .i64 xak, .slice 24 wa .no]] .no], .agg [.str o4, .str s4, .int .i64 k4, .slice 24 (avL g) .no], .agg [.str o5, .str s5, .int .i64 k5, .slice 24 (avL v) .no]] .no], .agg [.str o6, .str s6, .int .i64 k6, .slice 24 (avL o) .no]] := by
     rw [← hva, ← hwa]
     simp only [Nd.mk.injEq] at hsh
     rw [hsh.2.2.2]
     rfl
    have hsame : ∀ S (K : Out → St → Prop), K (.ret (.bool true)) S → CallP Tryz.prog (Pr.tab real) 10 [.agg [.str xao, .str xas, .int .i64 xak, .slice 24 wa .no], .agg [.str xao, .str xas, .int .i64 xak, .slice 24 wa .no]] S K := by rw [← hwa]; exact hkey.1
    have hg1 := hgt g
    have hg2 := hgt v
    have hg3 := hgt o
    generalize m0.av = w0 at *
    generalize m1.av = w1 at *
    generalize avL g = vg at *
    generalize avL v = vv at *
    generalize avL o = vo at *
    obtain ⟨e1, he1⟩ : ∃ e, g.isEmpty = e := ⟨_, rfl⟩
    obtain ⟨e2, he2⟩ : ∃ e, v.isEmpty = e := ⟨_, rfl⟩
    obtain ⟨e3, he3⟩ : ∃ e, o.isEmpty = e := ⟨_, rfl⟩
    rw [he1] at hg1 hkey2
    rw [he2] at hg2 hkey2
    rw [he3] at hg3 hkey2
    subst hla
    clear hkey hgt hva hxa hxb hxc hsh hvb hvc hvd he1 he2 he3
    refine GenH.call' G (ca _ _ ?_)
    cbv
    refine GenH.call' G (cb _ _ ?_)
    cbv
    refine GenH.call' G (cc _ _ ?_)
    cbv
    rw [hnt]
    cbv
    rw [hnt]
    cbv
    rw [hnt]
    cbv
    refine GenH.need' G (i20 _ _) ?_
    rw [e20]
    cbv
    refine GenH.need' G (i53 _ _ _ _ _) ?_
    rw [e53]
    cbv
    refine GenH.need' G rfl ?_
    rw [hg1]
    cases e1 with
    | false => cbv; refine GenH.call' G (hal _ _ ?_); cbv; exact hfin _
    | true =>
    cbv
    refine GenH.need' G (i20 _ _) ?_
    rw [e20]
    cbv
    refine GenH.need' G (i54 _ _ _ _ _) ?_
    rw [e54]
    cbv
    refine GenH.need' G rfl ?_
    rw [hg2]
    cases e2 with
    | false => cbv; refine GenH.call' G (hal _ _ ?_); cbv; exact hfin _
    | true =>
    cbv
    refine GenH.need' G (i21 _ _) ?_
    rw [e21]
    cbv
    refine GenH.need' G rfl ?_
    rw [hg3]
    cases e3 with
    | false => cbv; refine GenH.call' G (hal _ _ ?_); cbv; exact hfin _
    | true =>
    have hxx := hkey2 rfl rfl rfl
    simp only [Nd.mk.injEq] at hxx
    obtain ⟨⟨rfl, rfl, rfl, rfl⟩, ⟨rfl, rfl, rfl, rfl⟩⟩ := hxx
    obtain rfl : wb = wa := by rw [← hwb, ← hwa]
    obtain rfl : wc = wb := by rw [← hwc, ← hwb]
    clear hkey2 hwa hwb hwc
    cbv
    refine GenH.call' G (hsame _ _ ?_)
    cbv
    refine GenH.call' G (hsame _ _ ?_)
    cbv
    refine GenH.call' G (hal _ _ ?_)
    cbv
    exact hfin _
end Go.AM.Ps
