/- The contracts of the functions that write a token anew. -/
import Derived.Test.YteomefghofhkiaaGreatDoorLsP
set_option maxRecDepth 100000
set_option maxHeartbeats 4000000
set_option linter.unusedVariables false
set_option linter.unusedSimpArgs false
namespace Go.AM.Ps
open Go.Proofs W
theorem Ps.fn61 : FnOk Tryz.prog 61 (fni Tryz.f61 Pr.a61) := ⟨⟨Tryz.f61, Tryz.func61, rfl, rfl, rfl, by kernel_rfl⟩, by kernel_rfl⟩
theorem Ps.fn32 : FnOk Tryz.prog 32 (fni Tryz.f32 Pr.a32) := ⟨⟨Tryz.f32, Tryz.func32, rfl, rfl, rfl, by kernel_rfl⟩, by kernel_rfl⟩
noncomputable def c61 : Code := (fni Tryz.f61 Pr.a61).loop 0
theorem Ps.c61 : codeOk 23 Pr.a61 c61 = true := by kernel_rfl
theorem step61 (K : Ex → Env → St → Prop) (env : Env) (S : St) (h : xcode (pAlg Tryz.prog (Pr.tab real) 23) (Pr.tab real) Pr.a61 0 c61 (andThen (LoopP Tryz.prog (Pr.tab real) 23 c61 K) K) env S) : LoopP Tryz.prog (Pr.tab real) 23 c61 K env S :=
 loopP_step Pr.tabOk Pr.mixed Ps.c61 h
theorem figures_loop (K : Ex → Env → St → Prop) (S : St) (n : Nat) :
  ∀ (m : Nat) (acc : List UInt8) (z : Int), z = -(m : Int) → m < 9223372036854775808 → m < 10 ^ n → acc.length + n ≤ 30 → n ≠ 0 →
   (K .ret [(4, .str (digs n m acc))] S) →
   LoopP Tryz.prog (Pr.tab real) 23 c61 (Less K) [(0, .int .i64 z), (1, .str []), (5, .str acc)] S := by
 induction n with
 | zero =>
  intro m acc z hz hm h1 ha hn
  omega
 | succ n ih =>
  intro m acc z hz hm h1 ha _ hK
  apply step61
  apply gen_code (mk := Pr.tab)
  intro fail need same call loop len slen arith shift cmp conv eqS ltS cat app elt byt subS subL strOf isB fit inb cut room not and eqB avs G
  obtain ⟨d, hd⟩ : ∃ d : Int, d = ((m % 10 : Nat) : Int) := ⟨_, rfl⟩
  obtain ⟨z2, hz2⟩ : ∃ z2 : Int, z2 = -((m / 10 : Nat) : Int) := ⟨_, rfl⟩
  have hd10 : m % 10 < 10 := Nat.mod_lt _ (by omega)
  have hrem : arith BinOp.rem IntKind.i64 z 10 = -d := by
   rw [G.arith', hz, hd]
   simp only [intBin]
   rw [Int.neg_tmod, Int.tmod_eq_emod_of_nonneg (by omega)]
   omega
  have hquo : arith BinOp.quo IntKind.i64 z 10 = z2 := by
   rw [G.arith', hz, hz2]
   simp only [intBin]
   rw [Int.neg_tdiv, Int.tdiv_eq_ediv_of_nonneg (by omega)]
   rw [wrap_i64 _ (by omega) (by omega)]
   omega
  have hneg : arith BinOp.sub IntKind.i64 0 (-d) = d := by
   rw [G.arith']
   simp only [intBin]
   rw [wrap_i64 _ (by omega) (by omega)]
   omega
  have hadd : arith BinOp.add IntKind.i64 d 1 = d + 1 := by rw [G.arith']; exact wrap_i64 _ (by omega) (by omega)
  have hcut : cut d (d + 1) (slen [48, 49, 50, 51, 52, 53, 54, 55, 56, 57]) = true := by
   rw [G.cut', G.slen']
   simp
   omega
  have hsub : subS [48, 49, 50, 51, 52, 53, 54, 55, 56, 57] d (d + 1) = [UInt8.ofNat (48 + m % 10)] := by
   rw [G.subS', hd]
   simp only [Int.toNat_natCast]
   rw [show (((m % 10 : Nat) : Int) + 1 - ((m % 10 : Nat) : Int)).toNat = 1 by omega]
   have : ∀ k, k < 10 → List.take 1 (List.drop k [48, 49, 50, 51, 52, 53, 54, 55, 56, 57]) = [UInt8.ofNat (48 + k)] := by decide
   exact this _ hd10
  have hfit : fit [UInt8.ofNat (48 + m % 10)] acc = true := by rw [G.fit']; simp; omega
  have hcat : cat [UInt8.ofNat (48 + m % 10)] acc = UInt8.ofNat (48 + m % 10) :: acc := by rw [G.cat']; rfl
  have heq : cmp BinOp.eql z2 0 = decide (m / 10 = 0) := by
   rw [G.cmp', hz2]; simp only [intRel]; rw [Bool.eq_iff_iff]; simp only [decide_eq_true_eq, beq_iff_eq]; omega
  have hten : and true (not (cmp BinOp.eql 10 0)) = true := by rw [G.and', G.not', G.cmp']; rfl
  obtain ⟨c, hc⟩ : ∃ c, UInt8.ofNat (48 + m % 10) = c := ⟨_, rfl⟩
  rw [hc] at hsub hfit hcat
  unfold digs at hK
  rw [hc] at hK
  have hfit2 : fit [] (c :: acc) = true := by rw [G.fit']; simp; omega
  have hcat2 : cat [] (c :: acc) = c :: acc := by rw [G.cat']; rfl
  have hrest : decide (m / 10 = 0) = false → LoopP Tryz.prog (Pr.tab real) 23 c61 (Less K) [(0, .int .i64 z2), (1, .str []), (5, .str (c :: acc))] S := fun h => by
   have h' := of_decide_eq_false h
   rw [h] at hK
   refine ih (m / 10) (c :: acc) z2 hz2 (by omega) ?_ (by simp; omega) ?_ hK
   · rw [Nat.pow_succ] at h1; omega
   · intro h0
     rw [h0] at h1
     simp at h1
     omega
  generalize hL : LoopP Tryz.prog (Pr.tab real) 23 c61 (Less K) = L at hrest ⊢
  generalize hK' : Less K = K'
  generalize decide (m / 10 = 0) = db at *
  generalize c :: acc = acc2 at *
  clear ih hz hm h1 ha hd hz2 hd10 hc
  cbv
  refine GenH.need' G hten (GenH.need' G hten (GenH.need' G rfl (GenH.need' G ?_ ?_)))
  · rw [hrem, hneg, hadd]; exact hcut
  · rw [hrem, hneg, hadd, hsub]
    refine GenH.need' G hfit ?_
    rw [hcat]
    refine GenH.need' G hten ?_
    refine GenH.need' G rfl ?_
    rw [hquo, heq]
    cases db with
    | true =>
     cbv
     refine GenH.need' G hfit2 ?_
     rw [hcat2, ← hK']
     exact ⟨[(4, .str acc2)], .cons rfl (.nil _), hK⟩
    | false =>
     cbv
     have go := hrest rfl
     rw [← hL] at go ⊢
     exact LoopP.weak (env' := [(0, .int .i64 z2), (1, .str []), (5, .str acc2)]) (.cons rfl (.cons rfl (.cons rfl (.nil _)))) go
theorem figures_spec (m : Nat) (z : Int) (hz : z = -(m : Int)) (hm : m < 9223372036854775808) (S : St) (K : Out → St → Prop) (hK : K (.ret (.str (figs m))) S) :
  CallP Tryz.prog (Pr.tab real) 61 [.int .i64 z, .str []] S K := by
 refine CallP.lift (K0 := fun o _ => o = .ret (.str (figs m))) rfl ?_ (by rintro o S0 rfl; exact hK)
 have hloop := fun K hK => figures_loop K ⟨[], 0, []⟩ 20 m [] z hz hm (by omega) (by simp) (by omega) hK
 apply body_calls (un := 0) Pr.tabOk Pr.mixed Ps.fn61 (Nat.le_of_ble_eq_true rfl)
 apply gen_body (mk := Pr.tab)
 intro fail need same call loop len slen arith shift cmp conv eqS ltS cat app elt byt subS subL strOf isB fit inb cut room not and eqB avs G
 generalize hK' : (fun (o : Out) (_ : St) => o = .ret (.str (figs m))) = K0
 have hfin : ∀ S, K0 (.ret (.str (figs m))) S := fun S => by rw [← hK']
 unfold figs at *
 generalize digs 20 m [] = q at *
 clear hK hz hm
 cbv
 refine GenH.loop' G ?_
 change LoopP Tryz.prog (Pr.tab real) 23 c61 _ _ _
 refine LoopP.relax (LoopP.weak (env' := [(0, .int .i64 z), (1, .str []), (5, .str [])]) (.cons rfl (.cons rfl (.cons rfl (.nil _)))) ?_)
 refine hloop _ ?_
 exact hfin _
theorem digits_spec (m : Nat) (z : Int) (hz : z = m) (hm : m < 9223372036854775808) (S : St) (K : Out → St → Prop) (hK : K (.ret (.str (figs m))) S) :
  CallP Tryz.prog (Pr.tab real) 32 [.int .i64 z] S K := by
 refine CallP.lift (K0 := fun o _ => o = .ret (.str (figs m))) rfl ?_ (by rintro o S0 rfl; exact hK)
 have hfig := fun z hz S K hK => figures_spec m z hz hm S K hK
 apply body_calls (un := 0) Pr.tabOk Pr.mixed Ps.fn32 (Nat.le_of_ble_eq_true rfl)
 apply gen_body (mk := Pr.tab)
 intro fail need same call loop len slen arith shift cmp conv eqS ltS cat app elt byt subS subL strOf isB fit inb cut room not and eqB avs G
 obtain ⟨z1, hz1⟩ : ∃ z1 : Int, z1 = -(m : Int) := ⟨_, rfl⟩
 have hge : cmp BinOp.geq z 0 = true := by rw [G.cmp', hz]; simp [intRel]
 have h1 : arith BinOp.sub IntKind.i64 0 z = z1 := by rw [G.arith', hz]; simp only [intBin]; rw [wrap_i64 _ (by omega) (by omega)]; omega
 have h2 : arith BinOp.sub IntKind.i64 z1 1 = z1 - 1 := by rw [G.arith']; exact wrap_i64 _ (by omega) (by omega)
 have h3 : arith BinOp.add IntKind.i64 (z1 - 1) 1 = z1 := by rw [G.arith']; simp only [intBin]; rw [wrap_i64 _ (by omega) (by omega)]; omega
 have hfig := hfig z1 hz1
 generalize hK' : (fun (o : Out) (_ : St) => o = .ret (.str (figs m))) = K0
 have hfin : ∀ S, K0 (.ret (.str (figs m))) S := fun S => by rw [← hK']
 generalize figs m = q at *
 generalize z1 - 1 = z2 at *
 clear hK hz hm hz1
 cbv
 refine GenH.need' G rfl ?_
 rw [hge]
 cbv
 refine GenH.need' G rfl (GenH.need' G rfl ?_)
 rw [h1, h2]
 cbv
 refine GenH.call' G ?_
 rw [h3]
 refine hfig _ _ ?_
 cbv
 iterate 2 (first | refine GenH.need' G rfl ?_ | skip)
 exact hfin _
theorem Ps.fn33 : FnOk Tryz.prog 33 (fni Tryz.f33 Pr.a33) := ⟨⟨Tryz.f33, Tryz.func33, rfl, rfl, rfl, by kernel_rfl⟩, by kernel_rfl⟩
noncomputable def c33 : Code := (fni Tryz.f33 Pr.a33).loop 0
theorem Ps.c33 : codeOk 38 Pr.a33 c33 = true := by kernel_rfl
theorem step33 (K : Ex → Env → St → Prop) (env : Env) (S : St) (h : xcode (pAlg Tryz.prog (Pr.tab real) 38) (Pr.tab real) Pr.a33 0 c33 (andThen (LoopP Tryz.prog (Pr.tab real) 38 c33 K) K) env S) : LoopP Tryz.prog (Pr.tab real) 38 c33 K env S :=
 loopP_step Pr.tabOk Pr.mixed Ps.c33 h
theorem great_loop (odd : Bool) (w : List UInt8) (hw : w.length ≤ 1000000) (K : Ex → Env → St → Prop) (S : St) (m : Nat) :
  ∀ (i : Nat) (y : Int) (part : List UInt8) (ev : Bool), y = i → i + m = w.length → part.length = i → ev = (i % 2 == 0) →
   K (.exit 0) [(5, .str (part ++ great odd ev (w.drop i)))] S →
   LoopP Tryz.prog (Pr.tab real) 38 c33 (Less K) [(0, .str w), (1, .bool odd), (5, .str part), (6, .int .i64 y)] S := by
 induction m with
 | zero =>
  intro i y part ev hy hi hp hev hK
  have hd : w.drop i = [] := List.drop_eq_nil_of_le (by omega)
  rw [hd] at hK
  simp only [great, List.append_nil] at hK
  apply step33
  apply gen_code (mk := Pr.tab)
  intro fail need same call loop len slen arith shift cmp conv eqS ltS cat app elt byt subS subL strOf isB fit inb cut room not and eqB avs G
  have hb : cmp BinOp.lss y (slen w) = false := by rw [G.cmp', G.slen']; simp [intRel]; omega
  generalize hL : LoopP Tryz.prog (Pr.tab real) 38 c33 (Less K) = L
  generalize hK' : Less K = K'
  clear hy hi hd hp hev
  cbv
  refine GenH.need' G rfl ?_
  rw [hb]
  cbv
  rw [← hK']
  exact ⟨_, .cons rfl (.nil _), hK⟩
 | succ m ih =>
  intro i y part ev hy hi hp hev hK
  have hlt : i < w.length := by omega
  have hdrop : w.drop i = w[i] :: w.drop (i + 1) := List.drop_eq_getElem_cons hlt
  obtain ⟨c, hc⟩ : ∃ c, w[i] = c := ⟨_, rfl⟩
  rw [hc] at hdrop
  obtain ⟨cz, hcz⟩ : ∃ cz : Int, cz = c.toNat := ⟨_, rfl⟩
  obtain ⟨u, hu⟩ : ∃ u, up1 (ev == odd) c = u := ⟨_, rfl⟩
  have hgo : LoopP Tryz.prog (Pr.tab real) 38 c33 (Less K) [(0, .str w), (1, .bool odd), (5, .str (part ++ [u])), (6, .int .i64 (y + 1))] S := by
   refine ih (i + 1) (y + 1) _ (!ev) (by omega) (by omega) (by simp; omega) (by rw [hev]; rw [Bool.eq_iff_iff]; simp; omega) ?_
   rw [hdrop] at hK
   unfold great at hK
   rw [hu] at hK
   simpa using hK
  clear ih hK
  apply step33
  apply gen_code (mk := Pr.tab)
  intro fail need same call loop len slen arith shift cmp conv eqS ltS cat app elt byt subS subL strOf isB fit inb cut room not and eqB avs G
  have hlt8 := c.toNat_lt
  have hb : cmp BinOp.lss y (slen w) = true := by rw [G.cmp', G.slen']; simp [intRel]; omega
  have hin : inb y (slen w) = true := by rw [G.inb', G.slen']; simp; omega
  have hbyt : byt w y = cz := by
   rw [G.byt', hcz, ← hc, hy]
   simp [List.getD_eq_getElem?_getD, hlt]
  have h1 : cmp BinOp.geq cz 97 = decide (97 ≤ c.toNat) := by rw [G.cmp', hcz]; simp only [intRel]; rw [Bool.eq_iff_iff]; simp only [decide_eq_true_eq]; omega
  have h2 : cmp BinOp.leq cz 122 = decide (c.toNat ≤ 122) := by rw [G.cmp', hcz]; simp only [intRel]; rw [Bool.eq_iff_iff]; simp only [decide_eq_true_eq]; omega
  have hrem : arith BinOp.rem IntKind.i64 y 2 = ((i % 2 : Nat) : Int) := by
   rw [G.arith', hy]
   simp only [intBin]
   rw [Int.tmod_eq_emod_of_nonneg (by omega)]
   omega
  have hz : and true (not (cmp BinOp.eql 2 0)) = true := by rw [G.and', G.not', G.cmp']; rfl
  have h3 : cmp BinOp.eql ((i % 2 : Nat) : Int) 0 = ev := by rw [G.cmp', hev]; simp only [intRel]; rw [Bool.eq_iff_iff]; simp only [beq_iff_eq]; omega
  have h4 : eqB ev odd = (ev == odd) := by rw [G.eqB']
  have hone : arith BinOp.add IntKind.i64 y 1 = y + 1 := by rw [G.arith']; exact wrap_i64 _ (by omega) (by omega)
  obtain ⟨uz, huz⟩ : ∃ uz : Int, uz = u.toNat := ⟨_, rfl⟩
  have hup : decide (97 ≤ c.toNat) = true → decide (c.toNat ≤ 122) = true → (ev == odd) = true → arith BinOp.sub IntKind.u8 cz 32 = uz := fun e1 e2 e3 => by
   have hu := hu
   unfold up1 at hu
   rw [e1, e2, e3] at hu
   simp only [Bool.and_self] at hu
   have e1 := of_decide_eq_true e1
   have e2 := of_decide_eq_true e2
   rw [G.arith', huz, ← hu, hcz]
   simp only [intBin, IntKind.wrap_u8]
   rw [UInt8.toNat_sub_of_le c 32 (by rw [UInt8.le_iff_toNat_le]; show 32 ≤ c.toNat; omega)]
   show ((c.toNat : Int) - 32) % 256 = ((c.toNat - 32 : Nat) : Int)
   omega
  have hno : (decide (97 ≤ c.toNat) = false ∨ decide (c.toNat ≤ 122) = false ∨ (ev == odd) = false) → cz = uz := fun e => by
   have hu := hu
   unfold up1 at hu
   have : (decide (97 ≤ c.toNat) && (decide (c.toNat ≤ 122) && (ev == odd))) = false := by
    rcases e with e | e | e <;> rw [e] <;> simp
   rw [this] at hu
   simp only at hu
   rw [huz, ← hu, hcz]
  have hlo : 0 ≤ uz ∧ uz < 256 := by have := u.toNat_lt; omega
  have hstr : strOf [.int .u8 uz] = [u] := by
   rw [G.strOf', huz]
   simp [byteOf]
  have hisb : isB [.int .u8 uz] = true := by
   rw [G.isB']
   first | rfl | (simp; done) | (simp; omega)
  have hfit : fit part [u] = true := by rw [G.fit']; simp; omega
  have hcat : cat part [u] = part ++ [u] := by rw [G.cat']
  generalize hE : ((i % 2 : Nat) : Int) = md at *
  clear hdrop hcz hc hy hi hp hev hlt hE huz hlo hu
  generalize part ++ [u] = p2 at *
  generalize hL : LoopP Tryz.prog (Pr.tab real) 38 c33 (Less K) = L at hgo ⊢
  generalize hK' : Less K = K' at hL ⊢
  generalize (ev == odd) = q3 at *
  generalize decide (97 ≤ c.toNat) = q1 at *
  generalize decide (c.toNat ≤ 122) = q2 at *
  generalize y + 1 = y1 at *
  cbv
  refine GenH.need' G rfl ?_
  rw [hb]
  cbv
  refine GenH.need' G hin (GenH.need' G rfl ?_)
  rw [hbyt, h1]
  cases q1 <;> cases q2 <;> cases q3 <;>
   (first | have hcu := hup rfl rfl rfl | have hcu := hno (.inl rfl) | have hcu := hno (.inr (.inl rfl)) | have hcu := hno (.inr (.inr rfl))) <;> clear hup hno <;>
   (cbv
    repeat' (first | (rw [← hL] at hgo ⊢; exact LoopP.weak (env' := [(0, .str w), (1, .bool odd), (5, .str p2), (6, .int .i64 y1)]) (.cons rfl (.cons rfl (.cons rfl (.cons rfl (.nil _))))) hgo) | (rw [hrem]; try cbv) | (rw [h2]; try cbv) | (rw [h3]; try cbv) | (rw [h4]; try cbv) | (rw [hcu]; try cbv) | refine GenH.need' G hz ?_ | refine GenH.need' G hisb ?_ | (rw [hstr]; try cbv) | refine GenH.need' G hfit ?_ | (rw [hcat]; try cbv) | (rw [hone]; try cbv) | refine GenH.need' G rfl ?_ | cbv | fail))
theorem great_spec (odd : Bool) (w : List UInt8) (hw : w.length ≤ 1000000) (S : St) (K : Out → St → Prop) (hK : K (.ret (.str (great odd true w))) S) : CallP Tryz.prog (Pr.tab real) 33 [.str w, .bool odd] S K := by
 refine CallP.lift (K0 := fun o _ => o = .ret (.str (great odd true w))) rfl ?_ (by rintro o S0 rfl; exact hK)
 have hloop := fun K hK => great_loop odd w hw K ⟨[], 0, []⟩ w.length 0 0 [] true rfl (by omega) rfl rfl hK
 apply body_calls (un := 0) Pr.tabOk Pr.mixed Ps.fn33 (Nat.le_of_ble_eq_true rfl)
 apply gen_body (mk := Pr.tab)
 intro fail need same call loop len slen arith shift cmp conv eqS ltS cat app elt byt subS subL strOf isB fit inb cut room not and eqB avs G
 generalize hK' : (fun (o : Out) (_ : St) => o = .ret (.str (great odd true w))) = K0
 have hfin : ∀ S, K0 (.ret (.str (great odd true w))) S := fun S => by rw [← hK']
 simp only [List.drop_zero, List.nil_append] at hloop
 generalize great odd true w = q at *
 clear hK hw
 cbv
 refine GenH.loop' G ?_
 change LoopP Tryz.prog (Pr.tab real) 38 c33 _ _ _
 refine LoopP.relax (LoopP.weak (env' := [(0, .str w), (1, .bool odd), (5, .str []), (6, .int .i64 0)]) (.cons rfl (.cons rfl (.cons rfl (.cons rfl (.nil _))))) ?_)
 refine hloop _ ?_
 cbv
 exact hfin _
theorem Ps.fn15 : FnOk Tryz.prog 15 (fni Tryz.f15 Pr.a15) := ⟨⟨Tryz.f15, Tryz.func15, rfl, rfl, rfl, by kernel_rfl⟩, by kernel_rfl⟩
def pick5 (a : Int) : Nat := (if a < 0 then -(a + 1) else a).toNat % 5
theorem pick5_spec (a : Int) (h1 : -9223372036854775808 ≤ a) (h2 : a < 9223372036854775808) (S : St) (K : Out → St → Prop) (hK : ∀ z : Int, z = pick5 a → K (.ret (.int .i64 z)) S) :
  CallP Tryz.prog (Pr.tab real) 15 [.int .i64 a, .int .i64 5] S K := by
 refine CallP.lift (K0 := fun o _ => o = .ret (.int .i64 (pick5 a : Int))) rfl ?_ (by rintro o S0 rfl; exact hK _ rfl)
 apply body_calls (un := 0) Pr.tabOk Pr.mixed Ps.fn15 (Nat.le_of_ble_eq_true rfl)
 apply gen_body (mk := Pr.tab)
 intro fail need same call loop len slen arith shift cmp conv eqS ltS cat app elt byt subS subL strOf isB fit inb cut room not and eqB avs G
 have hlt : cmp BinOp.lss a 0 = decide (a < 0) := by rw [G.cmp']; rfl
 obtain ⟨c, hc⟩ : ∃ c : Int, c = if a < 0 then -(a + 1) else a := ⟨_, rfl⟩
 have hq : ((pick5 a : Nat) : Int) = c.tmod 5 := by
  unfold pick5
  rw [← hc]
  have h0 : 0 ≤ c := by rw [hc]; split <;> omega
  rw [Int.tmod_eq_emod_of_nonneg h0]
  obtain ⟨k, hk⟩ : ∃ k : Nat, c = k := ⟨c.toNat, by omega⟩
  rw [hk]
  simp
 have hadd : decide (a < 0) = true → arith BinOp.sub IntKind.i64 0 (arith BinOp.add IntKind.i64 a 1) = c := fun h => by
  have h := of_decide_eq_true h
  rw [if_pos h] at hc
  have e1 : arith BinOp.add IntKind.i64 a 1 = a + 1 := by rw [G.arith']; exact wrap_i64 _ (by omega) (by omega)
  rw [e1, G.arith']
  simp only [intBin]
  rw [wrap_i64 _ (by omega) (by omega)]
  omega
 have hid : decide (a < 0) = false → a = c := fun h => by
  have h := of_decide_eq_false h
  rw [if_neg h] at hc
  exact hc.symm
 have hrem : arith BinOp.rem IntKind.i64 c 5 = ((pick5 a : Nat) : Int) := by rw [G.arith', hq]; rfl
 have hz : and true (not (cmp BinOp.eql 5 0)) = true := by rw [G.and', G.not', G.cmp']; rfl
 generalize hK' : (fun (o : Out) (_ : St) => o = .ret (.int .i64 ((pick5 a : Nat) : Int))) = K0
 have hfin : ∀ S, K0 (.ret (.int .i64 ((pick5 a : Nat) : Int))) S := fun S => by rw [← hK']
 generalize ((pick5 a : Nat) : Int) = q at *
 generalize decide (a < 0) = d at *
 clear hK hc h1 h2 hq
 cbv
 refine GenH.need' G rfl ?_
 rw [hlt]
 cases d with
 | true =>
  cbv
  refine GenH.need' G rfl (GenH.need' G hz ?_)
  rw [hadd rfl, hrem]
  exact hfin _
 | false =>
  have hid := hid rfl
  subst hid
  cbv
  refine GenH.need' G hz ?_
  rw [hrem]
  exact hfin _
theorem Ps.fn16 : FnOk Tryz.prog 16 (fni Tryz.f16 Pr.a16) := ⟨⟨Tryz.f16, Tryz.func16, rfl, rfl, rfl, by kernel_rfl⟩, by kernel_rfl⟩
noncomputable def c16 : Code := (fni Tryz.f16 Pr.a16).loop 0
theorem Ps.c16 : codeOk 49 Pr.a16 c16 = true := by kernel_rfl
theorem step16 (K : Ex → Env → St → Prop) (env : Env) (S : St) (h : xcode (pAlg Tryz.prog (Pr.tab real) 49) (Pr.tab real) Pr.a16 0 c16 (andThen (LoopP Tryz.prog (Pr.tab real) 49 c16 K) K) env S) : LoopP Tryz.prog (Pr.tab real) 49 c16 K env S :=
 loopP_step Pr.tabOk Pr.mixed Ps.c16 h
def S16 (k : Int) (t : List UInt8) (n a : Int) : St := ⟨[(0, [.int .i64 k, .str t, .int .i64 n, .int .i64 a])], 1, []⟩
theorem spelled_loop (k n a : Int) (t : List UInt8) (ht : t.length ≤ 1000000) (K : Ex → Env → St → Prop) (m : Nat) :
  ∀ (i : Nat) (y : Int) (part : List UInt8), y = i → i + m = t.length → part.length ≤ 2 * i + 1 →
   K (.exit 1) [(2, .ptr 0 0), (5, .str (part ++ dbl (t.drop i)))] (S16 k t n a) →
   LoopP Tryz.prog (Pr.tab real) 49 c16 (Less K) [(2, .ptr 0 0), (5, .str part), (6, .int .i64 y)] (S16 k t n a) := by
 induction m with
 | zero =>
  intro i y part hy hi hp hK
  have hd : t.drop i = [] := List.drop_eq_nil_of_le (by omega)
  rw [hd] at hK
  simp only [dbl, List.append_nil] at hK
  apply step16
  apply gen_code (mk := Pr.tab)
  intro fail need same call loop len slen arith shift cmp conv eqS ltS cat app elt byt subS subL strOf isB fit inb cut room not and eqB avs G
  have hb : cmp BinOp.lss y (slen t) = false := by rw [G.cmp', G.slen']; simp [intRel]; omega
  generalize hL : LoopP Tryz.prog (Pr.tab real) 49 c16 (Less K) = L
  generalize hK' : Less K = K'
  clear hy hi hd
  cbv
  refine GenH.need' G rfl ?_
  rw [hb]
  cbv
  rw [← hK']
  exact ⟨_, .cons rfl (.cons rfl (.nil _)), hK⟩
 | succ m ih =>
  intro i y part hy hi hp hK
  have hlt : i < t.length := by omega
  have hdrop : t.drop i = t[i] :: t.drop (i + 1) := List.drop_eq_getElem_cons hlt
  obtain ⟨c, hc⟩ : ∃ c, t[i] = c := ⟨_, rfl⟩
  rw [hc] at hdrop
  obtain ⟨cz, hcz⟩ : ∃ cz : Int, cz = c.toNat := ⟨_, rfl⟩
  have hgo1 : (c == 39) = true → LoopP Tryz.prog (Pr.tab real) 49 c16 (Less K) [(2, .ptr 0 0), (5, .str (part ++ [39] ++ [c])), (6, .int .i64 (y + 1))] (S16 k t n a) := fun h => by
   refine ih (i + 1) (y + 1) _ (by omega) (by omega) (by simp; omega) ?_
   have h' : c = 39 := by simpa using h
   rw [hdrop, dbl, h] at hK
   rw [h']
   simpa using hK
  have hgo2 : (c == 39) = false → LoopP Tryz.prog (Pr.tab real) 49 c16 (Less K) [(2, .ptr 0 0), (5, .str (part ++ [c])), (6, .int .i64 (y + 1))] (S16 k t n a) := fun h => by
   refine ih (i + 1) (y + 1) _ (by omega) (by omega) (by simp; omega) ?_
   rw [hdrop, dbl, h] at hK
   simpa using hK
  clear ih hK
  apply step16
  apply gen_code (mk := Pr.tab)
  intro fail need same call loop len slen arith shift cmp conv eqS ltS cat app elt byt subS subL strOf isB fit inb cut room not and eqB avs G
  have hb : cmp BinOp.lss y (slen t) = true := by rw [G.cmp', G.slen']; simp [intRel]; omega
  have hin : inb y (slen t) = true := by rw [G.inb', G.slen']; simp; omega
  have hbyt : byt t y = cz := by
   rw [G.byt', hcz, ← hc, hy]
   simp [List.getD_eq_getElem?_getD, hlt]
  have heq : cmp BinOp.eql cz 39 = (c == 39) := by
   rw [G.cmp', hcz]; simp only [intRel]
   rw [Bool.eq_iff_iff]; simp only [beq_iff_eq, ← UInt8.toNat_inj]
   show (c.toNat : Int) = 39 ↔ c.toNat = 39
   omega
  have hone : arith BinOp.add IntKind.i64 y 1 = y + 1 := by rw [G.arith']; exact wrap_i64 _ (by omega) (by omega)
  have hcut : cut y (y + 1) (slen t) = true := by rw [G.cut', G.slen']; simp; omega
  have hsub : subS t y (y + 1) = [c] := by
   rw [G.subS', hy]
   simp only [Int.toNat_natCast]
   rw [show ((i : Int) + 1 - (i : Int)).toNat = 1 by omega, hdrop]
   rfl
  have hc1 : cat part [39] = part ++ [39] := by rw [G.cat']
  have hc2 : cat (part ++ [39]) [c] = part ++ [39] ++ [c] := by rw [G.cat']
  have hc3 : cat part [c] = part ++ [c] := by rw [G.cat']
  have hf1 : fit part [39] = true := by rw [G.fit']; simp; omega
  have hf2 : fit (part ++ [39]) [c] = true := by rw [G.fit']; simp; omega
  have hf3 : fit part [c] = true := by rw [G.fit']; simp; omega
  clear hdrop hcz hc
  generalize part ++ [39] ++ [c] = p3 at *
  generalize part ++ [39] = p1 at *
  generalize part ++ [c] = p2 at *
  generalize hL : LoopP Tryz.prog (Pr.tab real) 49 c16 (Less K) = L at hgo1 hgo2 ⊢
  generalize hK' : Less K = K' at hL ⊢
  generalize (c == 39) = q at *
  generalize y + 1 = y1 at *
  unfold S16 at *
  cbv
  refine GenH.need' G rfl ?_
  rw [hb]
  cbv
  refine GenH.need' G hin (GenH.need' G rfl ?_)
  rw [hbyt, heq]
  cases q with
  | true =>
   cbv
   refine GenH.need' G hf1 ?_
   rw [hc1]
   iterate 3 (first | (rw [hone]; cbv) | refine GenH.need' G rfl ?_ | refine GenH.need' G hcut ?_ | skip)
   rw [hsub]
   refine GenH.need' G hf2 ?_
   rw [hc2]
   iterate 2 (first | refine GenH.need' G rfl ?_ | skip)
   have go := hgo1 rfl
   rw [← hL] at go ⊢
   exact LoopP.weak (env' := [(2, .ptr 0 0), (5, .str p3), (6, .int .i64 y1)]) (.cons rfl (.cons rfl (.cons rfl (.nil _)))) go
  | false =>
   cbv
   iterate 3 (first | (rw [hone]; cbv) | refine GenH.need' G rfl ?_ | refine GenH.need' G hcut ?_ | skip)
   rw [hsub]
   refine GenH.need' G hf3 ?_
   rw [hc3]
   iterate 2 (first | refine GenH.need' G rfl ?_ | skip)
   have go := hgo2 rfl
   rw [← hL] at go ⊢
   exact LoopP.weak (env' := [(2, .ptr 0 0), (5, .str p2), (6, .int .i64 y1)]) (.cons rfl (.cons rfl (.cons rfl (.nil _)))) go
theorem spelled_spec (odd : Bool) (x : Tk) (hn : x.k = 1 → 0 ≤ x.n ∧ x.n < 9223372036854775808) (ht : x.t.length ≤ 1000000) (S : St) (K : Out → St → Prop) (hK : K (.ret (.str (spellG odd x))) S) :
  CallP Tryz.prog (Pr.tab real) 16 [x.av, .bool odd] S K := by
 refine CallP.lift (K0 := fun o _ => o = .ret (.str (spellG odd x))) rfl ?_ (by rintro o S0 rfl; exact hK)
 obtain ⟨k, t, n, a⟩ := x
 simp only at hn ht
 have hdig : (k == 1) = true → ∀ (S : St) (K : Out → St → Prop), K (.ret (.str (figs n.toNat))) S → CallP Tryz.prog (Pr.tab real) 32 [.int .i64 n] S K := fun h => by
  have := hn (by simpa using h)
  exact digits_spec n.toNat n (by omega) (by omega)
 have hflen : (k == 1) = true → (figs n.toNat).length ≤ 20 := fun h => by
  have := hn (by simpa using h)
  exact (figs_ok n.toNat (by omega)).2.2.2
 have hgr := fun S K hK => great_spec odd t ht S K hK
 have hloop := fun K hK => spelled_loop k n a t ht K t.length 0 0 [39] rfl (by omega) (by simp) hK
 have hdl := dbl_len t
 simp only [List.drop_zero] at hloop
 unfold S16 at hloop
 show CallP Tryz.prog (Pr.tab real) 16 [.agg [.int .i64 k, .str t, .int .i64 n, .int .i64 a], .bool odd] _ _
 apply body_calls (un := 0) Pr.tabOk Pr.mixed Ps.fn16 (Nat.le_of_ble_eq_true rfl)
 apply gen_body (mk := Pr.tab)
 intro fail need same call loop len slen arith shift cmp conv eqS ltS cat app elt byt subS subL strOf isB fit inb cut room not and eqB avs G
 have h1 : cmp BinOp.eql k 1 = (k == 1) := by rw [G.cmp']; rfl
 have h2 : cmp BinOp.eql k 2 = (k == 2) := by rw [G.cmp']; rfl
 have h3 : cmp BinOp.eql k 0 = (k == 0) := by rw [G.cmp']; rfl
 have hf : fit ([39] ++ dbl t) [39] = true := by rw [G.fit']; simp; omega
 have hc : cat ([39] ++ dbl t) [39] = 39 :: dbl t ++ [39] := by rw [G.cat']; rfl
 have hf2 : (k == 1) = true → fit [48, 48] (figs n.toNat) = true := fun h => by have := hflen h; rw [G.fit']; simp; omega
 have hc2 : cat [48, 48] (figs n.toNat) = 48 :: 48 :: figs n.toNat := by rw [G.cat']; rfl
 unfold spellG
 simp only
 generalize hK' : (fun (o : Out) (_ : St) => o = .ret (.str (match k == 1 with
  | true => 48 :: 48 :: figs n.toNat
  | false => match k == 2 with
   | true => 39 :: dbl t ++ [39]
   | false => match k == 0 with
    | true => great odd true t
    | false => t))) = K0
 have hfin1 : (k == 1) = true → ∀ S, K0 (.ret (.str (48 :: 48 :: figs n.toNat))) S := fun h S => by rw [← hK', h]
 have hfin2 : (k == 1) = false → (k == 2) = true → ∀ S, K0 (.ret (.str (39 :: dbl t ++ [39]))) S := fun h h' S => by rw [← hK', h, h']
 have hfin3 : (k == 1) = false → (k == 2) = false → (k == 0) = true → ∀ S, K0 (.ret (.str (great odd true t))) S := fun h h' h'' S => by rw [← hK', h, h', h'']
 have hfin4 : (k == 1) = false → (k == 2) = false → (k == 0) = false → ∀ S, K0 (.ret (.str t)) S := fun h h' h'' S => by rw [← hK', h, h', h'']
 clear hK' hK hn ht hdl hflen
 generalize (k == 1) = q1 at *
 generalize (k == 2) = q2 at *
 generalize (k == 0) = q0 at *
 generalize 48 :: 48 :: figs n.toNat = fh at *
 generalize figs n.toNat = fg at *
 generalize 39 :: dbl t ++ [39] = sp at *
 generalize [39] ++ dbl t = sq at *
 generalize great odd true t = gt at *
 cbv
 refine GenH.need' G rfl ?_
 rw [h1]
 cases q1 with
 | true =>
  have hf2 := hf2 rfl
  cbv
  refine GenH.call' G (hdig rfl _ _ ?_)
  cbv
  refine GenH.need' G hf2 ?_
  rw [hc2]
  exact hfin1 rfl _
 | false =>
  cbv
  refine GenH.need' G rfl ?_
  rw [h2]
  cases q2 with
  | false =>
   cbv
   refine GenH.need' G rfl ?_
   rw [h3]
   cases q0 with
   | false =>
    cbv
    exact hfin4 rfl rfl rfl _
   | true =>
    cbv
    refine GenH.call' G (hgr _ _ ?_)
    cbv
    exact hfin3 rfl rfl rfl _
  | true =>
   cbv
   refine GenH.loop' G ?_
   change LoopP Tryz.prog (Pr.tab real) 49 c16 _ _ _
   refine LoopP.relax (LoopP.weak (env' := [(2, .ptr 0 0), (5, .str [39]), (6, .int .i64 0)]) (.cons rfl (.cons rfl (.cons rfl (.nil _)))) ?_)
   refine hloop _ ?_
   cbv
   refine GenH.need' G hf ?_
   rw [hc]
   exact hfin2 rfl rfl _
end Go.AM.Ps
