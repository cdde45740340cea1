/- What the law's own function condition answers. -/
import Derived.Test.YteomefghofhkiaaGreatDoorWnP
import Derived.Test.YteomefghofhkiaaGreatDoorWnL
set_option maxRecDepth 100000
set_option maxHeartbeats 4000000
set_option linter.unusedVariables false
set_option linter.unusedSimpArgs false
namespace Go.AM.Ps
open Go.Proofs W
theorem Ps.fn17 : FnOk Tryz.prog 17 (fni Tryz.f17 Pr.a17) := ⟨⟨Tryz.f17, Tryz.func17, rfl, rfl, rfl, by kernel_rfl⟩, by kernel_rfl⟩
def condZ : AV := .agg [.str [], .str [], .int .i64 0, .slice 0 [] .exact]
def condA : Option Nd → AV
 | some x => .tup [x.av, .bool true]
 | none => .tup [condZ, .bool false]
def CondOk (q : Nd) : Prop := ∀ (S : St) (K : Out → St → Prop), K (.ret (condA (condOf q))) S → CallP Tryz.prog (Pr.tab real) 17 [q.av] S K
theorem condA_ren (r : Option Nd) : (condA r).ren (fun _ => none) (fun _ => none) = condA r := by
 cases r with
 | none => rfl
 | some x =>
  have : (x.av).ren (fun _ => none) (fun _ => none) = x.av := av_ren _ _ _
  simp only [condA, AV.ren, renL, this]
theorem cond_1 (op s : List UInt8) (k : Int) (l : List Nd) (h : l.length ≠ 2) : CondOk (.mk op s k l) := by
 intro S K hK
 refine CallP.lift (K0 := fun o _ => o = .ret (condA (condOf (.mk op s k l)))) rfl ?_ (by
  rintro o S0 rfl
  simp only [Out.ren, condA_ren]
  exact hK)
 have hfin : ∀ S : St, (fun (o : Out) (_ : St) => o = .ret (condA (condOf (.mk op s k l)))) (.ret (.tup [.agg [.str [], .str [], .int .i64 0, .slice 0 [] .exact], .bool false])) S := fun S => by
  have : condOf (.mk op s k l) = none := by
   unfold condOf
   split
   · rename_i heq; simp only [Nd.mk.injEq] at heq; rw [heq.2.2.2] at h; exact absurd rfl h
   · rfl
  show _ = _
  rw [this]; rfl
 rw [show (Nd.mk op s k l).av = .agg [.str op, .str s, .int .i64 k, .slice 24 (avL l) .no] from rfl]
 apply body_calls (un := 0) Pr.tabOk Pr.mixed Ps.fn17 (Nat.le_of_ble_eq_true rfl)
 apply gen_body (mk := Pr.tab)
 intro fail need same call loop len slen arith shift cmp conv eqS ltS cat app elt byt subS subL strOf isB fit inb cut room not and eqB avs G
 have hop : not (eqS op [113, 117, 101, 114, 121]) = !(op == o_query) := by rw [G.not', G.eqS'] <;> rfl
 have hn2 : cmp BinOp.neq (len (avL l)) 2 = true := by rw [G.cmp', G.len', avL_map]; simp [intRel]; omega
 generalize avL l = cs at *
 generalize (fun (o : Out) (_ : St) => o = .ret (condA (condOf (.mk op s k l)))) = K0 at *
 clear hK
 generalize (op == o_query) = b1 at *
 cases b1 with
 | false => cbv; repeat' (first | exact hfin _ | (rw [hop]; try cbv) | (rw [hn2]; try cbv) | refine GenH.need' G rfl ?_ | refine GenH.same' G rfl ?_ | cbv | fail)
 | true => cbv; repeat' (first | exact hfin _ | (rw [hop]; try cbv) | (rw [hn2]; try cbv) | refine GenH.need' G rfl ?_ | refine GenH.same' G rfl ?_ | cbv | fail)
theorem cond_2 (op s : List UInt8) (k : Int) (o2 s2 : List UInt8) (k2 : Int) (m : List Nd) (b : Nd) (h : m.length ≠ 5) : CondOk (.mk op s k [.mk o2 s2 k2 m, b]) := by
 intro S K hK
 refine CallP.lift (K0 := fun o _ => o = .ret (condA (condOf (.mk op s k [.mk o2 s2 k2 m, b])))) rfl ?_ (by
  rintro o S0 rfl
  simp only [Out.ren, condA_ren]
  exact hK)
 have hfin : ∀ S : St, (fun (o : Out) (_ : St) => o = .ret (condA (condOf (.mk op s k [.mk o2 s2 k2 m, b])))) (.ret (.tup [.agg [.str [], .str [], .int .i64 0, .slice 0 [] .exact], .bool false])) S := fun S => by
  have : condOf (.mk op s k [.mk o2 s2 k2 m, b]) = none := by
   unfold condOf
   split
   · rename_i heq; simp only [Nd.mk.injEq, List.cons.injEq] at heq; rw [heq.2.2.2.1.2.2.2] at h; exact absurd rfl h
   · rfl
  show _ = _
  rw [this]; rfl
 rw [show (Nd.mk op s k [.mk o2 s2 k2 m, b]).av = .agg [.str op, .str s, .int .i64 k, .slice 24 [.agg [.str o2, .str s2, .int .i64 k2, .slice 24 (avL m) .no], b.av] .no] from rfl]
 apply body_calls (un := 0) Pr.tabOk Pr.mixed Ps.fn17 (Nat.le_of_ble_eq_true rfl)
 apply gen_body (mk := Pr.tab)
 intro fail need same call loop len slen arith shift cmp conv eqS ltS cat app elt byt subS subL strOf isB fit inb cut room not and eqB avs G
 have hop : not (eqS op [113, 117, 101, 114, 121]) = !(op == o_query) := by rw [G.not', G.eqS'] <;> rfl
 have ho2 : not (eqS o2 [115, 101, 108, 101, 99, 116]) = !(o2 == k_select) := by rw [G.not', G.eqS'] <;> rfl
 have hn2 : ∀ v w, cmp BinOp.neq (len [v, w]) 2 = false := fun v w => by rw [G.cmp', G.len']; rfl
 have i20 : ∀ v w, inb 0 (len [v, w]) = true := fun v w => by rw [G.inb', G.len']; rfl
 have e20 : ∀ v w, elt [v, w] 0 = v := fun v w => by rw [G.elt']; rfl
 have hn5 : cmp BinOp.neq (len (avL m)) 5 = true := by rw [G.cmp', G.len', avL_map]; simp [intRel]; omega
 generalize avL m = cs at *
 generalize b.av = bv at *
 generalize (o2 == k_select) = b2 at *
 generalize (fun (o : Out) (_ : St) => o = .ret (condA (condOf (.mk op s k [.mk o2 s2 k2 m, b])))) = K0 at *
 clear hK
 generalize (op == o_query) = b1 at *
 cases b1 <;> cases b2 <;> (cbv; repeat' (first | exact hfin _ | (rw [hop]; try cbv) | (rw [hn2]; try cbv) | (rw [ho2]; try cbv) | (rw [hn5]; try cbv) | (rw [i20]; try cbv) | (rw [e20]; try cbv) | refine GenH.need' G (i20 _ _) ?_ | refine GenH.need' G rfl ?_ | refine GenH.same' G rfl ?_ | cbv | fail))
theorem cond_3 (op s : List UInt8) (k : Int) (o2 s2 : List UInt8) (k2 : Int) (m0 m1 : Nd) (o3 s3 : List UInt8) (k3 : Int) (w : List Nd) (m3 m4 b : Nd) (h : w.length ≠ 1) : CondOk (.mk op s k [.mk o2 s2 k2 [m0, m1, .mk o3 s3 k3 w, m3, m4], b]) := by
 intro S K hK
 refine CallP.lift (K0 := fun o _ => o = .ret (condA (condOf (.mk op s k [.mk o2 s2 k2 [m0, m1, .mk o3 s3 k3 w, m3, m4], b])))) rfl ?_ (by
  rintro o S0 rfl
  simp only [Out.ren, condA_ren]
  exact hK)
 have hfin : ∀ S : St, (fun (o : Out) (_ : St) => o = .ret (condA (condOf (.mk op s k [.mk o2 s2 k2 [m0, m1, .mk o3 s3 k3 w, m3, m4], b])))) (.ret (.tup [.agg [.str [], .str [], .int .i64 0, .slice 0 [] .exact], .bool false])) S := fun S => by
  have : condOf (.mk op s k [.mk o2 s2 k2 [m0, m1, .mk o3 s3 k3 w, m3, m4], b]) = none := by
   unfold condOf
   split
   · rename_i heq; simp only [Nd.mk.injEq, List.cons.injEq] at heq; rw [heq.2.2.2.1.2.2.2.2.2.1.2.2.2] at h; exact absurd rfl h
   · rfl
  show _ = _
  rw [this]; rfl
 rw [show (Nd.mk op s k [.mk o2 s2 k2 [m0, m1, .mk o3 s3 k3 w, m3, m4], b]).av = .agg [.str op, .str s, .int .i64 k, .slice 24 [.agg [.str o2, .str s2, .int .i64 k2, .slice 24 [m0.av, m1.av, .agg [.str o3, .str s3, .int .i64 k3, .slice 24 (avL w) .no], m3.av, m4.av] .no], b.av] .no] from rfl]
 apply body_calls (un := 0) Pr.tabOk Pr.mixed Ps.fn17 (Nat.le_of_ble_eq_true rfl)
 apply gen_body (mk := Pr.tab)
 intro fail need same call loop len slen arith shift cmp conv eqS ltS cat app elt byt subS subL strOf isB fit inb cut room not and eqB avs G
 have hop : not (eqS op [113, 117, 101, 114, 121]) = !(op == o_query) := by rw [G.not', G.eqS'] <;> rfl
 have ho2 : not (eqS o2 [115, 101, 108, 101, 99, 116]) = !(o2 == k_select) := by rw [G.not', G.eqS'] <;> rfl
 have hn2 : ∀ v w, cmp BinOp.neq (len [v, w]) 2 = false := fun v w => by rw [G.cmp', G.len']; rfl
 have i20 : ∀ v w, inb 0 (len [v, w]) = true := fun v w => by rw [G.inb', G.len']; rfl
 have e20 : ∀ v w, elt [v, w] 0 = v := fun v w => by rw [G.elt']; rfl
 have hn5 : ∀ v0 v1 v2 v3 v4, cmp BinOp.neq (len [v0, v1, v2, v3, v4]) 5 = false := fun v0 v1 v2 v3 v4 => by rw [G.cmp', G.len']; rfl
 have i52 : ∀ v0 v1 v2 v3 v4, inb 2 (len [v0, v1, v2, v3, v4]) = true := fun v0 v1 v2 v3 v4 => by rw [G.inb', G.len']; rfl
 have e52 : ∀ v0 v1 v2 v3 v4, elt [v0, v1, v2, v3, v4] 2 = v2 := fun v0 v1 v2 v3 v4 => by rw [G.elt']; rfl
 have hn1 : cmp BinOp.neq (len (avL w)) 1 = true := by rw [G.cmp', G.len', avL_map]; simp [intRel]; omega
 generalize avL w = cs at *
 generalize b.av = bv at *
 generalize m0.av = v0 at *
 generalize m1.av = v1 at *
 generalize m3.av = v3 at *
 generalize m4.av = v4 at *
 generalize (o2 == k_select) = b2 at *
 generalize (fun (o : Out) (_ : St) => o = .ret (condA (condOf (.mk op s k [.mk o2 s2 k2 [m0, m1, .mk o3 s3 k3 w, m3, m4], b])))) = K0 at *
 clear hK
 generalize (op == o_query) = b1 at *
 cases b1 <;> cases b2 <;> (cbv; repeat' (first | exact hfin _ | (rw [hop]; try cbv) | (rw [hn2]; try cbv) | (rw [ho2]; try cbv) | (rw [hn5]; try cbv) | (rw [hn1]; try cbv) | (rw [i20]; try cbv) | (rw [e20]; try cbv) | (rw [i52]; try cbv) | (rw [e52]; try cbv) | refine GenH.need' G (i20 _ _) ?_ | refine GenH.need' G (i52 _ _ _ _ _) ?_ | refine GenH.need' G rfl ?_ | refine GenH.same' G rfl ?_ | cbv | fail))
theorem cond_4 (op s : List UInt8) (k : Int) (o2 s2 : List UInt8) (k2 : Int) (m0 m1 : Nd) (o3 s3 : List UInt8) (k3 : Int) (x : Nd) (m3 m4 b : Nd) : CondOk (.mk op s k [.mk o2 s2 k2 [m0, m1, .mk o3 s3 k3 [x], m3, m4], b]) := by
 intro S K hK
 refine CallP.lift (K0 := fun o _ => o = .ret (condA (condOf (.mk op s k [.mk o2 s2 k2 [m0, m1, .mk o3 s3 k3 [x], m3, m4], b])))) rfl ?_ (by
  rintro o S0 rfl
  simp only [Out.ren, condA_ren]
  exact hK)
 obtain ⟨xo, xs, xk, xl⟩ := x
 have hq : condOf (.mk op s k [.mk o2 s2 k2 [m0, m1, .mk o3 s3 k3 [.mk xo xs xk xl], m3, m4], b]) = match op == o_query && o2 == k_select with | true => some (.mk xo xs xk xl) | false => none := rfl
 rw [show (Nd.mk op s k [.mk o2 s2 k2 [m0, m1, .mk o3 s3 k3 [.mk xo xs xk xl], m3, m4], b]).av = .agg [.str op, .str s, .int .i64 k, .slice 24 [.agg [.str o2, .str s2, .int .i64 k2, .slice 24 [m0.av, m1.av, .agg [.str o3, .str s3, .int .i64 k3, .slice 24 [.agg [.str xo, .str xs, .int .i64 xk, .slice 24 (avL xl) .no]] .no], m3.av, m4.av] .no], b.av] .no] from rfl]
 have hf1 : (op == o_query && o2 == k_select) = true → ∀ S : St, (fun (o : Out) (_ : St) => o = .ret (condA (condOf (.mk op s k [.mk o2 s2 k2 [m0, m1, .mk o3 s3 k3 [.mk xo xs xk xl], m3, m4], b])))) (.ret (.tup [.agg [.str xo, .str xs, .int .i64 xk, .slice 24 (avL xl) .no], .bool true])) S := fun h S => by
  show _ = _
  rw [hq, h]; rfl
 have hf0 : (op == o_query && o2 == k_select) = false → ∀ S : St, (fun (o : Out) (_ : St) => o = .ret (condA (condOf (.mk op s k [.mk o2 s2 k2 [m0, m1, .mk o3 s3 k3 [.mk xo xs xk xl], m3, m4], b])))) (.ret (.tup [.agg [.str [], .str [], .int .i64 0, .slice 0 [] .exact], .bool false])) S := fun h S => by
  show _ = _
  rw [hq, h]; rfl
 clear hq
 apply body_calls (un := 0) Pr.tabOk Pr.mixed Ps.fn17 (Nat.le_of_ble_eq_true rfl)
 apply gen_body (mk := Pr.tab)
 intro fail need same call loop len slen arith shift cmp conv eqS ltS cat app elt byt subS subL strOf isB fit inb cut room not and eqB avs G
 have hop : not (eqS op [113, 117, 101, 114, 121]) = !(op == o_query) := by rw [G.not', G.eqS'] <;> rfl
 have ho2 : not (eqS o2 [115, 101, 108, 101, 99, 116]) = !(o2 == k_select) := by rw [G.not', G.eqS'] <;> rfl
 have hn2 : ∀ v w, cmp BinOp.neq (len [v, w]) 2 = false := fun v w => by rw [G.cmp', G.len']; rfl
 have i20 : ∀ v w, inb 0 (len [v, w]) = true := fun v w => by rw [G.inb', G.len']; rfl
 have e20 : ∀ v w, elt [v, w] 0 = v := fun v w => by rw [G.elt']; rfl
 have hn5 : ∀ v0 v1 v2 v3 v4, cmp BinOp.neq (len [v0, v1, v2, v3, v4]) 5 = false := fun v0 v1 v2 v3 v4 => by rw [G.cmp', G.len']; rfl
 have i52 : ∀ v0 v1 v2 v3 v4, inb 2 (len [v0, v1, v2, v3, v4]) = true := fun v0 v1 v2 v3 v4 => by rw [G.inb', G.len']; rfl
 have e52 : ∀ v0 v1 v2 v3 v4, elt [v0, v1, v2, v3, v4] 2 = v2 := fun v0 v1 v2 v3 v4 => by rw [G.elt']; rfl
 have hn1 : ∀ v, cmp BinOp.neq (len [v]) 1 = false := fun v => by rw [G.cmp', G.len']; rfl
 have i10 : ∀ v, inb 0 (len [v]) = true := fun v => by rw [G.inb', G.len']; rfl
 have e10 : ∀ v, elt [v] 0 = v := fun v => by rw [G.elt']; rfl
 generalize avL xl = cs at *
 generalize b.av = bv at *
 generalize m0.av = v0 at *
 generalize m1.av = v1 at *
 generalize m3.av = v3 at *
 generalize m4.av = v4 at *
 generalize (o2 == k_select) = b2 at *
 generalize (fun (o : Out) (_ : St) => o = .ret (condA (condOf (.mk op s k [.mk o2 s2 k2 [m0, m1, .mk o3 s3 k3 [.mk xo xs xk xl], m3, m4], b])))) = K0 at *
 clear hK
 generalize (op == o_query) = b1 at *
 cases b1 <;> cases b2 <;> (first | have hfin := hf1 rfl | have hfin := hf0 rfl) <;> clear hf1 hf0 <;> (cbv; repeat' (first | exact hfin _ | (rw [hop]; try cbv) | (rw [hn2]; try cbv) | (rw [ho2]; try cbv) | (rw [hn5]; try cbv) | (rw [hn1]; try cbv) | (rw [i20]; try cbv) | (rw [e20]; try cbv) | (rw [i52]; try cbv) | (rw [e52]; try cbv) | (rw [i10]; try cbv) | (rw [e10]; try cbv) | refine GenH.need' G (i20 _ _) ?_ | refine GenH.need' G (i52 _ _ _ _ _) ?_ | refine GenH.need' G (i10 _) ?_ | refine GenH.need' G rfl ?_ | refine GenH.same' G rfl ?_ | cbv | fail))
theorem at_condition : ∀ q : Nd, CondOk q
 | .mk op s k [] => cond_1 op s k _ (by simp)
 | .mk op s k [_] => cond_1 op s k _ (by simp)
 | .mk op s k (_ :: _ :: _ :: _) => cond_1 op s k _ (by simp)
 | .mk op s k [.mk o2 s2 k2 [], b] => cond_2 op s k o2 s2 k2 _ b (by simp)
 | .mk op s k [.mk o2 s2 k2 [_], b] => cond_2 op s k o2 s2 k2 _ b (by simp)
 | .mk op s k [.mk o2 s2 k2 [_, _], b] => cond_2 op s k o2 s2 k2 _ b (by simp)
 | .mk op s k [.mk o2 s2 k2 [_, _, _], b] => cond_2 op s k o2 s2 k2 _ b (by simp)
 | .mk op s k [.mk o2 s2 k2 [_, _, _, _], b] => cond_2 op s k o2 s2 k2 _ b (by simp)
 | .mk op s k [.mk o2 s2 k2 (_ :: _ :: _ :: _ :: _ :: _ :: _), b] => cond_2 op s k o2 s2 k2 _ b (by simp)
 | .mk op s k [.mk o2 s2 k2 [m0, m1, .mk o3 s3 k3 [], m3, m4], b] => cond_3 op s k o2 s2 k2 m0 m1 o3 s3 k3 _ m3 m4 b (by simp)
 | .mk op s k [.mk o2 s2 k2 [m0, m1, .mk o3 s3 k3 (_ :: _ :: _), m3, m4], b] => cond_3 op s k o2 s2 k2 m0 m1 o3 s3 k3 _ m3 m4 b (by simp)
 | .mk op s k [.mk o2 s2 k2 [m0, m1, .mk o3 s3 k3 [x], m3, m4], b] => cond_4 op s k o2 s2 k2 m0 m1 o3 s3 k3 x m3 m4 b
end Go.AM.Ps
