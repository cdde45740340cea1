/- ParseJoined over the abstract machine: it answers true at any two numbers. -/
import Derived.Test.YteomefghofhkiaaGreatDoorRunLaw
import Derived.Test.YteomefghofhkiaaGreatDoorRunsC
import Derived.Test.YteomefghofhkiaaGreatDoorRunsA
import Derived.Test.YteomefghofhkiaaGreatDoorRunsB
import Derived.Test.YteomefghofhkiaaGreatDoorRunsD
import Derived.Test.YteomefghofhkiaaGreatDoorRunsE
import Derived.Test.YteomefghofhkiaaGreatDoorRunsF
namespace Go.AM
open Go.Proofs
set_option maxRecDepth 100000
set_option maxHeartbeats 4000000
set_option linter.unusedVariables false

theorem joined_00 (a b : Int) (ha1 : -9223372036854775808 ≤ a) (ha2 : a < 9223372036854775808) (hb1 : -9223372036854775808 ≤ b) (hb2 : b < 9223372036854775808) (hka : pickN a 4 = 0) (hkb : pickN b 4 = 0) :
    CallP Tryz.prog (Pr.tab real) 6 [.int .i64 a, .int .i64 b] St.nil fun o _ => o = .ret (.bool true) := by
  have pa4 : ∀ S K, K (.ret (.int .i64 0)) S → CallP Tryz.prog (Pr.tab real) 15 [.int .i64 a, .int .i64 4] S K := fun S K hK => pick_spec a ha1 ha2 4 (.inr rfl) 4 rfl S K fun z hz => by rw [hz, hka]; exact hK
  have pb4 : ∀ S K, K (.ret (.int .i64 0)) S → CallP Tryz.prog (Pr.tab real) 15 [.int .i64 b, .int .i64 4] S K := fun S K hK => pick_spec b hb1 hb2 4 (.inr rfl) 4 rfl S K fun z hz => by rw [hz, hkb]; exact hK
  have pa2 : ∀ S K, K (.ret (.int .i64 0)) S → CallP Tryz.prog (Pr.tab real) 15 [.int .i64 a, .int .i64 2] S K := fun S K hK => pick_spec a ha1 ha2 2 (.inl rfl) 2 rfl S K fun z hz => by rw [hz, pick_half, hka]; exact hK
  have pb2 : ∀ S K, K (.ret (.int .i64 0)) S → CallP Tryz.prog (Pr.tab real) 15 [.int .i64 b, .int .i64 2] S K := fun S K hK => pick_spec b hb1 hb2 2 (.inl rfl) 2 rfl S K fun z hz => by rw [hz, pick_half, hkb]; exact hK
  have wc := fun S K hK => Pr.parse_c00 S K hK
  have ws := fun S K hK => Pr.parse_s00 S K hK
  have kc := fun S K hK => Pr.cond_c00 S K hK
  have ks := fun S K hK => Pr.cond_s00 S K hK
  unfold Pr.t_c00 Pr.v_c00 at wc
  unfold Pr.t_s00 Pr.v_s00 at ws
  unfold Pr.n_c00 Pr.u_c00 at kc
  unfold Pr.n_s00 Pr.u_s00 at ks
  clear hka hkb ha1 ha2 hb1 hb2
  apply body_calls (un := 0) Pr.tabOk Pr.mixed Pr.fn6 (Nat.le_of_ble_eq_true rfl)
  apply gen_body (mk := Pr.tab)
  intro fail need same call loop len slen arith shift cmp conv eqS ltS cat app elt byt subS subL strOf isB fit inb cut room not and eqB avs G
  generalize hK' : (fun (o : Out) (_ : St) => o = .ret (.bool true)) = K0
  have hfin : ∀ S, K0 (.ret (.bool true)) S := fun S => by rw [← hK']
  clear hK'
  have e := G.X
  simp only [real, Sg.mk.injEq] at e
  obtain ⟨rfl, rfl, rfl, rfl, rfl, rfl, rfl, rfl, rfl, rfl, rfl, rfl, rfl, rfl, rfl, rfl, rfl, rfl, rfl, rfl, rfl, rfl, rfl, rfl⟩ := e
  cbv
  refine GenH.need' G rfl ?_
  refine GenH.call' G (pa2 _ _ ?_)
  cbv
  refine GenH.need' G rfl ?_
  refine GenH.call' G (pb2 _ _ ?_)
  cbv
  iterate 5 refine GenH.need' G rfl ?_
  refine GenH.call' G (wc _ _ ?_)
  cbv
  refine GenH.call' G (kc _ _ ?_)
  clear wc kc
  cbv
  iterate 40 (first | refine GenH.need' G rfl ?_ | skip)
  refine GenH.call' G (pa4 _ _ ?_)
  cbv
  iterate 5 (first | refine GenH.need' G rfl ?_ | skip)
  refine GenH.call' G (pb4 _ _ ?_)
  cbv
  iterate 10 (first | refine GenH.need' G rfl ?_ | skip)
  refine GenH.call' G (ws _ _ ?_)
  cbv
  refine GenH.call' G (ks _ _ ?_)
  clear ws ks
  cbv
  iterate 60 (first | refine GenH.need' G rfl ?_ | skip)
  refine GenH.call' G (alive_true _ _ ?_)
  cbv
  exact hfin _

theorem joined_01 (a b : Int) (ha1 : -9223372036854775808 ≤ a) (ha2 : a < 9223372036854775808) (hb1 : -9223372036854775808 ≤ b) (hb2 : b < 9223372036854775808) (hka : pickN a 4 = 0) (hkb : pickN b 4 = 1) :
    CallP Tryz.prog (Pr.tab real) 6 [.int .i64 a, .int .i64 b] St.nil fun o _ => o = .ret (.bool true) := by
  have pa4 : ∀ S K, K (.ret (.int .i64 0)) S → CallP Tryz.prog (Pr.tab real) 15 [.int .i64 a, .int .i64 4] S K := fun S K hK => pick_spec a ha1 ha2 4 (.inr rfl) 4 rfl S K fun z hz => by rw [hz, hka]; exact hK
  have pb4 : ∀ S K, K (.ret (.int .i64 1)) S → CallP Tryz.prog (Pr.tab real) 15 [.int .i64 b, .int .i64 4] S K := fun S K hK => pick_spec b hb1 hb2 4 (.inr rfl) 4 rfl S K fun z hz => by rw [hz, hkb]; exact hK
  have pa2 : ∀ S K, K (.ret (.int .i64 0)) S → CallP Tryz.prog (Pr.tab real) 15 [.int .i64 a, .int .i64 2] S K := fun S K hK => pick_spec a ha1 ha2 2 (.inl rfl) 2 rfl S K fun z hz => by rw [hz, pick_half, hka]; exact hK
  have pb2 : ∀ S K, K (.ret (.int .i64 1)) S → CallP Tryz.prog (Pr.tab real) 15 [.int .i64 b, .int .i64 2] S K := fun S K hK => pick_spec b hb1 hb2 2 (.inl rfl) 2 rfl S K fun z hz => by rw [hz, pick_half, hkb]; exact hK
  have wc := fun S K hK => Pr.parse_c01 S K hK
  have ws := fun S K hK => Pr.parse_s01 S K hK
  have kc := fun S K hK => Pr.cond_c01 S K hK
  have ks := fun S K hK => Pr.cond_s01 S K hK
  unfold Pr.t_c01 Pr.v_c01 at wc
  unfold Pr.t_s01 Pr.v_s01 at ws
  unfold Pr.n_c01 Pr.u_c01 at kc
  unfold Pr.n_s01 Pr.u_s01 at ks
  clear hka hkb ha1 ha2 hb1 hb2
  apply body_calls (un := 0) Pr.tabOk Pr.mixed Pr.fn6 (Nat.le_of_ble_eq_true rfl)
  apply gen_body (mk := Pr.tab)
  intro fail need same call loop len slen arith shift cmp conv eqS ltS cat app elt byt subS subL strOf isB fit inb cut room not and eqB avs G
  generalize hK' : (fun (o : Out) (_ : St) => o = .ret (.bool true)) = K0
  have hfin : ∀ S, K0 (.ret (.bool true)) S := fun S => by rw [← hK']
  clear hK'
  have e := G.X
  simp only [real, Sg.mk.injEq] at e
  obtain ⟨rfl, rfl, rfl, rfl, rfl, rfl, rfl, rfl, rfl, rfl, rfl, rfl, rfl, rfl, rfl, rfl, rfl, rfl, rfl, rfl, rfl, rfl, rfl, rfl⟩ := e
  cbv
  refine GenH.need' G rfl ?_
  refine GenH.call' G (pa2 _ _ ?_)
  cbv
  refine GenH.need' G rfl ?_
  refine GenH.call' G (pb2 _ _ ?_)
  cbv
  iterate 5 refine GenH.need' G rfl ?_
  refine GenH.call' G (wc _ _ ?_)
  cbv
  refine GenH.call' G (kc _ _ ?_)
  clear wc kc
  cbv
  iterate 40 (first | refine GenH.need' G rfl ?_ | skip)
  refine GenH.call' G (pa4 _ _ ?_)
  cbv
  iterate 5 (first | refine GenH.need' G rfl ?_ | skip)
  refine GenH.call' G (pb4 _ _ ?_)
  cbv
  iterate 10 (first | refine GenH.need' G rfl ?_ | skip)
  refine GenH.call' G (ws _ _ ?_)
  cbv
  refine GenH.call' G (ks _ _ ?_)
  clear ws ks
  cbv
  iterate 60 (first | refine GenH.need' G rfl ?_ | skip)
  refine GenH.call' G (alive_true _ _ ?_)
  cbv
  exact hfin _

theorem joined_02 (a b : Int) (ha1 : -9223372036854775808 ≤ a) (ha2 : a < 9223372036854775808) (hb1 : -9223372036854775808 ≤ b) (hb2 : b < 9223372036854775808) (hka : pickN a 4 = 0) (hkb : pickN b 4 = 2) :
    CallP Tryz.prog (Pr.tab real) 6 [.int .i64 a, .int .i64 b] St.nil fun o _ => o = .ret (.bool true) := by
  have pa4 : ∀ S K, K (.ret (.int .i64 0)) S → CallP Tryz.prog (Pr.tab real) 15 [.int .i64 a, .int .i64 4] S K := fun S K hK => pick_spec a ha1 ha2 4 (.inr rfl) 4 rfl S K fun z hz => by rw [hz, hka]; exact hK
  have pb4 : ∀ S K, K (.ret (.int .i64 2)) S → CallP Tryz.prog (Pr.tab real) 15 [.int .i64 b, .int .i64 4] S K := fun S K hK => pick_spec b hb1 hb2 4 (.inr rfl) 4 rfl S K fun z hz => by rw [hz, hkb]; exact hK
  have pa2 : ∀ S K, K (.ret (.int .i64 0)) S → CallP Tryz.prog (Pr.tab real) 15 [.int .i64 a, .int .i64 2] S K := fun S K hK => pick_spec a ha1 ha2 2 (.inl rfl) 2 rfl S K fun z hz => by rw [hz, pick_half, hka]; exact hK
  have pb2 : ∀ S K, K (.ret (.int .i64 0)) S → CallP Tryz.prog (Pr.tab real) 15 [.int .i64 b, .int .i64 2] S K := fun S K hK => pick_spec b hb1 hb2 2 (.inl rfl) 2 rfl S K fun z hz => by rw [hz, pick_half, hkb]; exact hK
  have wc := fun S K hK => Pr.parse_c00 S K hK
  have ws := fun S K hK => Pr.parse_s02 S K hK
  have kc := fun S K hK => Pr.cond_c00 S K hK
  have ks := fun S K hK => Pr.cond_s02 S K hK
  unfold Pr.t_c00 Pr.v_c00 at wc
  unfold Pr.t_s02 Pr.v_s02 at ws
  unfold Pr.n_c00 Pr.u_c00 at kc
  unfold Pr.n_s02 Pr.u_s02 at ks
  clear hka hkb ha1 ha2 hb1 hb2
  apply body_calls (un := 0) Pr.tabOk Pr.mixed Pr.fn6 (Nat.le_of_ble_eq_true rfl)
  apply gen_body (mk := Pr.tab)
  intro fail need same call loop len slen arith shift cmp conv eqS ltS cat app elt byt subS subL strOf isB fit inb cut room not and eqB avs G
  generalize hK' : (fun (o : Out) (_ : St) => o = .ret (.bool true)) = K0
  have hfin : ∀ S, K0 (.ret (.bool true)) S := fun S => by rw [← hK']
  clear hK'
  have e := G.X
  simp only [real, Sg.mk.injEq] at e
  obtain ⟨rfl, rfl, rfl, rfl, rfl, rfl, rfl, rfl, rfl, rfl, rfl, rfl, rfl, rfl, rfl, rfl, rfl, rfl, rfl, rfl, rfl, rfl, rfl, rfl⟩ := e
  cbv
  refine GenH.need' G rfl ?_
  refine GenH.call' G (pa2 _ _ ?_)
  cbv
  refine GenH.need' G rfl ?_
  refine GenH.call' G (pb2 _ _ ?_)
  cbv
  iterate 5 refine GenH.need' G rfl ?_
  refine GenH.call' G (wc _ _ ?_)
  cbv
  refine GenH.call' G (kc _ _ ?_)
  clear wc kc
  cbv
  iterate 40 (first | refine GenH.need' G rfl ?_ | skip)
  refine GenH.call' G (pa4 _ _ ?_)
  cbv
  iterate 5 (first | refine GenH.need' G rfl ?_ | skip)
  refine GenH.call' G (pb4 _ _ ?_)
  cbv
  iterate 10 (first | refine GenH.need' G rfl ?_ | skip)
  refine GenH.call' G (ws _ _ ?_)
  cbv
  refine GenH.call' G (ks _ _ ?_)
  clear ws ks
  cbv
  iterate 60 (first | refine GenH.need' G rfl ?_ | skip)
  refine GenH.call' G (alive_true _ _ ?_)
  cbv
  exact hfin _

theorem joined_03 (a b : Int) (ha1 : -9223372036854775808 ≤ a) (ha2 : a < 9223372036854775808) (hb1 : -9223372036854775808 ≤ b) (hb2 : b < 9223372036854775808) (hka : pickN a 4 = 0) (hkb : pickN b 4 = 3) :
    CallP Tryz.prog (Pr.tab real) 6 [.int .i64 a, .int .i64 b] St.nil fun o _ => o = .ret (.bool true) := by
  have pa4 : ∀ S K, K (.ret (.int .i64 0)) S → CallP Tryz.prog (Pr.tab real) 15 [.int .i64 a, .int .i64 4] S K := fun S K hK => pick_spec a ha1 ha2 4 (.inr rfl) 4 rfl S K fun z hz => by rw [hz, hka]; exact hK
  have pb4 : ∀ S K, K (.ret (.int .i64 3)) S → CallP Tryz.prog (Pr.tab real) 15 [.int .i64 b, .int .i64 4] S K := fun S K hK => pick_spec b hb1 hb2 4 (.inr rfl) 4 rfl S K fun z hz => by rw [hz, hkb]; exact hK
  have pa2 : ∀ S K, K (.ret (.int .i64 0)) S → CallP Tryz.prog (Pr.tab real) 15 [.int .i64 a, .int .i64 2] S K := fun S K hK => pick_spec a ha1 ha2 2 (.inl rfl) 2 rfl S K fun z hz => by rw [hz, pick_half, hka]; exact hK
  have pb2 : ∀ S K, K (.ret (.int .i64 1)) S → CallP Tryz.prog (Pr.tab real) 15 [.int .i64 b, .int .i64 2] S K := fun S K hK => pick_spec b hb1 hb2 2 (.inl rfl) 2 rfl S K fun z hz => by rw [hz, pick_half, hkb]; exact hK
  have wc := fun S K hK => Pr.parse_c01 S K hK
  have ws := fun S K hK => Pr.parse_s03 S K hK
  have kc := fun S K hK => Pr.cond_c01 S K hK
  have ks := fun S K hK => Pr.cond_s03 S K hK
  unfold Pr.t_c01 Pr.v_c01 at wc
  unfold Pr.t_s03 Pr.v_s03 at ws
  unfold Pr.n_c01 Pr.u_c01 at kc
  unfold Pr.n_s03 Pr.u_s03 at ks
  clear hka hkb ha1 ha2 hb1 hb2
  apply body_calls (un := 0) Pr.tabOk Pr.mixed Pr.fn6 (Nat.le_of_ble_eq_true rfl)
  apply gen_body (mk := Pr.tab)
  intro fail need same call loop len slen arith shift cmp conv eqS ltS cat app elt byt subS subL strOf isB fit inb cut room not and eqB avs G
  generalize hK' : (fun (o : Out) (_ : St) => o = .ret (.bool true)) = K0
  have hfin : ∀ S, K0 (.ret (.bool true)) S := fun S => by rw [← hK']
  clear hK'
  have e := G.X
  simp only [real, Sg.mk.injEq] at e
  obtain ⟨rfl, rfl, rfl, rfl, rfl, rfl, rfl, rfl, rfl, rfl, rfl, rfl, rfl, rfl, rfl, rfl, rfl, rfl, rfl, rfl, rfl, rfl, rfl, rfl⟩ := e
  cbv
  refine GenH.need' G rfl ?_
  refine GenH.call' G (pa2 _ _ ?_)
  cbv
  refine GenH.need' G rfl ?_
  refine GenH.call' G (pb2 _ _ ?_)
  cbv
  iterate 5 refine GenH.need' G rfl ?_
  refine GenH.call' G (wc _ _ ?_)
  cbv
  refine GenH.call' G (kc _ _ ?_)
  clear wc kc
  cbv
  iterate 40 (first | refine GenH.need' G rfl ?_ | skip)
  refine GenH.call' G (pa4 _ _ ?_)
  cbv
  iterate 5 (first | refine GenH.need' G rfl ?_ | skip)
  refine GenH.call' G (pb4 _ _ ?_)
  cbv
  iterate 10 (first | refine GenH.need' G rfl ?_ | skip)
  refine GenH.call' G (ws _ _ ?_)
  cbv
  refine GenH.call' G (ks _ _ ?_)
  clear ws ks
  cbv
  iterate 60 (first | refine GenH.need' G rfl ?_ | skip)
  refine GenH.call' G (alive_true _ _ ?_)
  cbv
  exact hfin _

theorem joined_10 (a b : Int) (ha1 : -9223372036854775808 ≤ a) (ha2 : a < 9223372036854775808) (hb1 : -9223372036854775808 ≤ b) (hb2 : b < 9223372036854775808) (hka : pickN a 4 = 1) (hkb : pickN b 4 = 0) :
    CallP Tryz.prog (Pr.tab real) 6 [.int .i64 a, .int .i64 b] St.nil fun o _ => o = .ret (.bool true) := by
  have pa4 : ∀ S K, K (.ret (.int .i64 1)) S → CallP Tryz.prog (Pr.tab real) 15 [.int .i64 a, .int .i64 4] S K := fun S K hK => pick_spec a ha1 ha2 4 (.inr rfl) 4 rfl S K fun z hz => by rw [hz, hka]; exact hK
  have pb4 : ∀ S K, K (.ret (.int .i64 0)) S → CallP Tryz.prog (Pr.tab real) 15 [.int .i64 b, .int .i64 4] S K := fun S K hK => pick_spec b hb1 hb2 4 (.inr rfl) 4 rfl S K fun z hz => by rw [hz, hkb]; exact hK
  have pa2 : ∀ S K, K (.ret (.int .i64 1)) S → CallP Tryz.prog (Pr.tab real) 15 [.int .i64 a, .int .i64 2] S K := fun S K hK => pick_spec a ha1 ha2 2 (.inl rfl) 2 rfl S K fun z hz => by rw [hz, pick_half, hka]; exact hK
  have pb2 : ∀ S K, K (.ret (.int .i64 0)) S → CallP Tryz.prog (Pr.tab real) 15 [.int .i64 b, .int .i64 2] S K := fun S K hK => pick_spec b hb1 hb2 2 (.inl rfl) 2 rfl S K fun z hz => by rw [hz, pick_half, hkb]; exact hK
  have wc := fun S K hK => Pr.parse_c10 S K hK
  have ws := fun S K hK => Pr.parse_s10 S K hK
  have kc := fun S K hK => Pr.cond_c10 S K hK
  have ks := fun S K hK => Pr.cond_s10 S K hK
  unfold Pr.t_c10 Pr.v_c10 at wc
  unfold Pr.t_s10 Pr.v_s10 at ws
  unfold Pr.n_c10 Pr.u_c10 at kc
  unfold Pr.n_s10 Pr.u_s10 at ks
  clear hka hkb ha1 ha2 hb1 hb2
  apply body_calls (un := 0) Pr.tabOk Pr.mixed Pr.fn6 (Nat.le_of_ble_eq_true rfl)
  apply gen_body (mk := Pr.tab)
  intro fail need same call loop len slen arith shift cmp conv eqS ltS cat app elt byt subS subL strOf isB fit inb cut room not and eqB avs G
  generalize hK' : (fun (o : Out) (_ : St) => o = .ret (.bool true)) = K0
  have hfin : ∀ S, K0 (.ret (.bool true)) S := fun S => by rw [← hK']
  clear hK'
  have e := G.X
  simp only [real, Sg.mk.injEq] at e
  obtain ⟨rfl, rfl, rfl, rfl, rfl, rfl, rfl, rfl, rfl, rfl, rfl, rfl, rfl, rfl, rfl, rfl, rfl, rfl, rfl, rfl, rfl, rfl, rfl, rfl⟩ := e
  cbv
  refine GenH.need' G rfl ?_
  refine GenH.call' G (pa2 _ _ ?_)
  cbv
  refine GenH.need' G rfl ?_
  refine GenH.call' G (pb2 _ _ ?_)
  cbv
  iterate 5 refine GenH.need' G rfl ?_
  refine GenH.call' G (wc _ _ ?_)
  cbv
  refine GenH.call' G (kc _ _ ?_)
  clear wc kc
  cbv
  iterate 40 (first | refine GenH.need' G rfl ?_ | skip)
  refine GenH.call' G (pa4 _ _ ?_)
  cbv
  iterate 5 (first | refine GenH.need' G rfl ?_ | skip)
  refine GenH.call' G (pb4 _ _ ?_)
  cbv
  iterate 10 (first | refine GenH.need' G rfl ?_ | skip)
  refine GenH.call' G (ws _ _ ?_)
  cbv
  refine GenH.call' G (ks _ _ ?_)
  clear ws ks
  cbv
  iterate 60 (first | refine GenH.need' G rfl ?_ | skip)
  refine GenH.call' G (alive_true _ _ ?_)
  cbv
  exact hfin _

theorem joined_11 (a b : Int) (ha1 : -9223372036854775808 ≤ a) (ha2 : a < 9223372036854775808) (hb1 : -9223372036854775808 ≤ b) (hb2 : b < 9223372036854775808) (hka : pickN a 4 = 1) (hkb : pickN b 4 = 1) :
    CallP Tryz.prog (Pr.tab real) 6 [.int .i64 a, .int .i64 b] St.nil fun o _ => o = .ret (.bool true) := by
  have pa4 : ∀ S K, K (.ret (.int .i64 1)) S → CallP Tryz.prog (Pr.tab real) 15 [.int .i64 a, .int .i64 4] S K := fun S K hK => pick_spec a ha1 ha2 4 (.inr rfl) 4 rfl S K fun z hz => by rw [hz, hka]; exact hK
  have pb4 : ∀ S K, K (.ret (.int .i64 1)) S → CallP Tryz.prog (Pr.tab real) 15 [.int .i64 b, .int .i64 4] S K := fun S K hK => pick_spec b hb1 hb2 4 (.inr rfl) 4 rfl S K fun z hz => by rw [hz, hkb]; exact hK
  have pa2 : ∀ S K, K (.ret (.int .i64 1)) S → CallP Tryz.prog (Pr.tab real) 15 [.int .i64 a, .int .i64 2] S K := fun S K hK => pick_spec a ha1 ha2 2 (.inl rfl) 2 rfl S K fun z hz => by rw [hz, pick_half, hka]; exact hK
  have pb2 : ∀ S K, K (.ret (.int .i64 1)) S → CallP Tryz.prog (Pr.tab real) 15 [.int .i64 b, .int .i64 2] S K := fun S K hK => pick_spec b hb1 hb2 2 (.inl rfl) 2 rfl S K fun z hz => by rw [hz, pick_half, hkb]; exact hK
  have wc := fun S K hK => Pr.parse_c11 S K hK
  have ws := fun S K hK => Pr.parse_s11 S K hK
  have kc := fun S K hK => Pr.cond_c11 S K hK
  have ks := fun S K hK => Pr.cond_s11 S K hK
  unfold Pr.t_c11 Pr.v_c11 at wc
  unfold Pr.t_s11 Pr.v_s11 at ws
  unfold Pr.n_c11 Pr.u_c11 at kc
  unfold Pr.n_s11 Pr.u_s11 at ks
  clear hka hkb ha1 ha2 hb1 hb2
  apply body_calls (un := 0) Pr.tabOk Pr.mixed Pr.fn6 (Nat.le_of_ble_eq_true rfl)
  apply gen_body (mk := Pr.tab)
  intro fail need same call loop len slen arith shift cmp conv eqS ltS cat app elt byt subS subL strOf isB fit inb cut room not and eqB avs G
  generalize hK' : (fun (o : Out) (_ : St) => o = .ret (.bool true)) = K0
  have hfin : ∀ S, K0 (.ret (.bool true)) S := fun S => by rw [← hK']
  clear hK'
  have e := G.X
  simp only [real, Sg.mk.injEq] at e
  obtain ⟨rfl, rfl, rfl, rfl, rfl, rfl, rfl, rfl, rfl, rfl, rfl, rfl, rfl, rfl, rfl, rfl, rfl, rfl, rfl, rfl, rfl, rfl, rfl, rfl⟩ := e
  cbv
  refine GenH.need' G rfl ?_
  refine GenH.call' G (pa2 _ _ ?_)
  cbv
  refine GenH.need' G rfl ?_
  refine GenH.call' G (pb2 _ _ ?_)
  cbv
  iterate 5 refine GenH.need' G rfl ?_
  refine GenH.call' G (wc _ _ ?_)
  cbv
  refine GenH.call' G (kc _ _ ?_)
  clear wc kc
  cbv
  iterate 40 (first | refine GenH.need' G rfl ?_ | skip)
  refine GenH.call' G (pa4 _ _ ?_)
  cbv
  iterate 5 (first | refine GenH.need' G rfl ?_ | skip)
  refine GenH.call' G (pb4 _ _ ?_)
  cbv
  iterate 10 (first | refine GenH.need' G rfl ?_ | skip)
  refine GenH.call' G (ws _ _ ?_)
  cbv
  refine GenH.call' G (ks _ _ ?_)
  clear ws ks
  cbv
  iterate 60 (first | refine GenH.need' G rfl ?_ | skip)
  refine GenH.call' G (alive_true _ _ ?_)
  cbv
  exact hfin _

theorem joined_12 (a b : Int) (ha1 : -9223372036854775808 ≤ a) (ha2 : a < 9223372036854775808) (hb1 : -9223372036854775808 ≤ b) (hb2 : b < 9223372036854775808) (hka : pickN a 4 = 1) (hkb : pickN b 4 = 2) :
    CallP Tryz.prog (Pr.tab real) 6 [.int .i64 a, .int .i64 b] St.nil fun o _ => o = .ret (.bool true) := by
  have pa4 : ∀ S K, K (.ret (.int .i64 1)) S → CallP Tryz.prog (Pr.tab real) 15 [.int .i64 a, .int .i64 4] S K := fun S K hK => pick_spec a ha1 ha2 4 (.inr rfl) 4 rfl S K fun z hz => by rw [hz, hka]; exact hK
  have pb4 : ∀ S K, K (.ret (.int .i64 2)) S → CallP Tryz.prog (Pr.tab real) 15 [.int .i64 b, .int .i64 4] S K := fun S K hK => pick_spec b hb1 hb2 4 (.inr rfl) 4 rfl S K fun z hz => by rw [hz, hkb]; exact hK
  have pa2 : ∀ S K, K (.ret (.int .i64 1)) S → CallP Tryz.prog (Pr.tab real) 15 [.int .i64 a, .int .i64 2] S K := fun S K hK => pick_spec a ha1 ha2 2 (.inl rfl) 2 rfl S K fun z hz => by rw [hz, pick_half, hka]; exact hK
  have pb2 : ∀ S K, K (.ret (.int .i64 0)) S → CallP Tryz.prog (Pr.tab real) 15 [.int .i64 b, .int .i64 2] S K := fun S K hK => pick_spec b hb1 hb2 2 (.inl rfl) 2 rfl S K fun z hz => by rw [hz, pick_half, hkb]; exact hK
  have wc := fun S K hK => Pr.parse_c10 S K hK
  have ws := fun S K hK => Pr.parse_s12 S K hK
  have kc := fun S K hK => Pr.cond_c10 S K hK
  have ks := fun S K hK => Pr.cond_s12 S K hK
  unfold Pr.t_c10 Pr.v_c10 at wc
  unfold Pr.t_s12 Pr.v_s12 at ws
  unfold Pr.n_c10 Pr.u_c10 at kc
  unfold Pr.n_s12 Pr.u_s12 at ks
  clear hka hkb ha1 ha2 hb1 hb2
  apply body_calls (un := 0) Pr.tabOk Pr.mixed Pr.fn6 (Nat.le_of_ble_eq_true rfl)
  apply gen_body (mk := Pr.tab)
  intro fail need same call loop len slen arith shift cmp conv eqS ltS cat app elt byt subS subL strOf isB fit inb cut room not and eqB avs G
  generalize hK' : (fun (o : Out) (_ : St) => o = .ret (.bool true)) = K0
  have hfin : ∀ S, K0 (.ret (.bool true)) S := fun S => by rw [← hK']
  clear hK'
  have e := G.X
  simp only [real, Sg.mk.injEq] at e
  obtain ⟨rfl, rfl, rfl, rfl, rfl, rfl, rfl, rfl, rfl, rfl, rfl, rfl, rfl, rfl, rfl, rfl, rfl, rfl, rfl, rfl, rfl, rfl, rfl, rfl⟩ := e
  cbv
  refine GenH.need' G rfl ?_
  refine GenH.call' G (pa2 _ _ ?_)
  cbv
  refine GenH.need' G rfl ?_
  refine GenH.call' G (pb2 _ _ ?_)
  cbv
  iterate 5 refine GenH.need' G rfl ?_
  refine GenH.call' G (wc _ _ ?_)
  cbv
  refine GenH.call' G (kc _ _ ?_)
  clear wc kc
  cbv
  iterate 40 (first | refine GenH.need' G rfl ?_ | skip)
  refine GenH.call' G (pa4 _ _ ?_)
  cbv
  iterate 5 (first | refine GenH.need' G rfl ?_ | skip)
  refine GenH.call' G (pb4 _ _ ?_)
  cbv
  iterate 10 (first | refine GenH.need' G rfl ?_ | skip)
  refine GenH.call' G (ws _ _ ?_)
  cbv
  refine GenH.call' G (ks _ _ ?_)
  clear ws ks
  cbv
  iterate 60 (first | refine GenH.need' G rfl ?_ | skip)
  refine GenH.call' G (alive_true _ _ ?_)
  cbv
  exact hfin _

theorem joined_13 (a b : Int) (ha1 : -9223372036854775808 ≤ a) (ha2 : a < 9223372036854775808) (hb1 : -9223372036854775808 ≤ b) (hb2 : b < 9223372036854775808) (hka : pickN a 4 = 1) (hkb : pickN b 4 = 3) :
    CallP Tryz.prog (Pr.tab real) 6 [.int .i64 a, .int .i64 b] St.nil fun o _ => o = .ret (.bool true) := by
  have pa4 : ∀ S K, K (.ret (.int .i64 1)) S → CallP Tryz.prog (Pr.tab real) 15 [.int .i64 a, .int .i64 4] S K := fun S K hK => pick_spec a ha1 ha2 4 (.inr rfl) 4 rfl S K fun z hz => by rw [hz, hka]; exact hK
  have pb4 : ∀ S K, K (.ret (.int .i64 3)) S → CallP Tryz.prog (Pr.tab real) 15 [.int .i64 b, .int .i64 4] S K := fun S K hK => pick_spec b hb1 hb2 4 (.inr rfl) 4 rfl S K fun z hz => by rw [hz, hkb]; exact hK
  have pa2 : ∀ S K, K (.ret (.int .i64 1)) S → CallP Tryz.prog (Pr.tab real) 15 [.int .i64 a, .int .i64 2] S K := fun S K hK => pick_spec a ha1 ha2 2 (.inl rfl) 2 rfl S K fun z hz => by rw [hz, pick_half, hka]; exact hK
  have pb2 : ∀ S K, K (.ret (.int .i64 1)) S → CallP Tryz.prog (Pr.tab real) 15 [.int .i64 b, .int .i64 2] S K := fun S K hK => pick_spec b hb1 hb2 2 (.inl rfl) 2 rfl S K fun z hz => by rw [hz, pick_half, hkb]; exact hK
  have wc := fun S K hK => Pr.parse_c11 S K hK
  have ws := fun S K hK => Pr.parse_s13 S K hK
  have kc := fun S K hK => Pr.cond_c11 S K hK
  have ks := fun S K hK => Pr.cond_s13 S K hK
  unfold Pr.t_c11 Pr.v_c11 at wc
  unfold Pr.t_s13 Pr.v_s13 at ws
  unfold Pr.n_c11 Pr.u_c11 at kc
  unfold Pr.n_s13 Pr.u_s13 at ks
  clear hka hkb ha1 ha2 hb1 hb2
  apply body_calls (un := 0) Pr.tabOk Pr.mixed Pr.fn6 (Nat.le_of_ble_eq_true rfl)
  apply gen_body (mk := Pr.tab)
  intro fail need same call loop len slen arith shift cmp conv eqS ltS cat app elt byt subS subL strOf isB fit inb cut room not and eqB avs G
  generalize hK' : (fun (o : Out) (_ : St) => o = .ret (.bool true)) = K0
  have hfin : ∀ S, K0 (.ret (.bool true)) S := fun S => by rw [← hK']
  clear hK'
  have e := G.X
  simp only [real, Sg.mk.injEq] at e
  obtain ⟨rfl, rfl, rfl, rfl, rfl, rfl, rfl, rfl, rfl, rfl, rfl, rfl, rfl, rfl, rfl, rfl, rfl, rfl, rfl, rfl, rfl, rfl, rfl, rfl⟩ := e
  cbv
  refine GenH.need' G rfl ?_
  refine GenH.call' G (pa2 _ _ ?_)
  cbv
  refine GenH.need' G rfl ?_
  refine GenH.call' G (pb2 _ _ ?_)
  cbv
  iterate 5 refine GenH.need' G rfl ?_
  refine GenH.call' G (wc _ _ ?_)
  cbv
  refine GenH.call' G (kc _ _ ?_)
  clear wc kc
  cbv
  iterate 40 (first | refine GenH.need' G rfl ?_ | skip)
  refine GenH.call' G (pa4 _ _ ?_)
  cbv
  iterate 5 (first | refine GenH.need' G rfl ?_ | skip)
  refine GenH.call' G (pb4 _ _ ?_)
  cbv
  iterate 10 (first | refine GenH.need' G rfl ?_ | skip)
  refine GenH.call' G (ws _ _ ?_)
  cbv
  refine GenH.call' G (ks _ _ ?_)
  clear ws ks
  cbv
  iterate 60 (first | refine GenH.need' G rfl ?_ | skip)
  refine GenH.call' G (alive_true _ _ ?_)
  cbv
  exact hfin _

theorem joined_20 (a b : Int) (ha1 : -9223372036854775808 ≤ a) (ha2 : a < 9223372036854775808) (hb1 : -9223372036854775808 ≤ b) (hb2 : b < 9223372036854775808) (hka : pickN a 4 = 2) (hkb : pickN b 4 = 0) :
    CallP Tryz.prog (Pr.tab real) 6 [.int .i64 a, .int .i64 b] St.nil fun o _ => o = .ret (.bool true) := by
  have pa4 : ∀ S K, K (.ret (.int .i64 2)) S → CallP Tryz.prog (Pr.tab real) 15 [.int .i64 a, .int .i64 4] S K := fun S K hK => pick_spec a ha1 ha2 4 (.inr rfl) 4 rfl S K fun z hz => by rw [hz, hka]; exact hK
  have pb4 : ∀ S K, K (.ret (.int .i64 0)) S → CallP Tryz.prog (Pr.tab real) 15 [.int .i64 b, .int .i64 4] S K := fun S K hK => pick_spec b hb1 hb2 4 (.inr rfl) 4 rfl S K fun z hz => by rw [hz, hkb]; exact hK
  have pa2 : ∀ S K, K (.ret (.int .i64 0)) S → CallP Tryz.prog (Pr.tab real) 15 [.int .i64 a, .int .i64 2] S K := fun S K hK => pick_spec a ha1 ha2 2 (.inl rfl) 2 rfl S K fun z hz => by rw [hz, pick_half, hka]; exact hK
  have pb2 : ∀ S K, K (.ret (.int .i64 0)) S → CallP Tryz.prog (Pr.tab real) 15 [.int .i64 b, .int .i64 2] S K := fun S K hK => pick_spec b hb1 hb2 2 (.inl rfl) 2 rfl S K fun z hz => by rw [hz, pick_half, hkb]; exact hK
  have wc := fun S K hK => Pr.parse_c00 S K hK
  have ws := fun S K hK => Pr.parse_s20 S K hK
  have kc := fun S K hK => Pr.cond_c00 S K hK
  have ks := fun S K hK => Pr.cond_s20 S K hK
  unfold Pr.t_c00 Pr.v_c00 at wc
  unfold Pr.t_s20 Pr.v_s20 at ws
  unfold Pr.n_c00 Pr.u_c00 at kc
  unfold Pr.n_s20 Pr.u_s20 at ks
  clear hka hkb ha1 ha2 hb1 hb2
  apply body_calls (un := 0) Pr.tabOk Pr.mixed Pr.fn6 (Nat.le_of_ble_eq_true rfl)
  apply gen_body (mk := Pr.tab)
  intro fail need same call loop len slen arith shift cmp conv eqS ltS cat app elt byt subS subL strOf isB fit inb cut room not and eqB avs G
  generalize hK' : (fun (o : Out) (_ : St) => o = .ret (.bool true)) = K0
  have hfin : ∀ S, K0 (.ret (.bool true)) S := fun S => by rw [← hK']
  clear hK'
  have e := G.X
  simp only [real, Sg.mk.injEq] at e
  obtain ⟨rfl, rfl, rfl, rfl, rfl, rfl, rfl, rfl, rfl, rfl, rfl, rfl, rfl, rfl, rfl, rfl, rfl, rfl, rfl, rfl, rfl, rfl, rfl, rfl⟩ := e
  cbv
  refine GenH.need' G rfl ?_
  refine GenH.call' G (pa2 _ _ ?_)
  cbv
  refine GenH.need' G rfl ?_
  refine GenH.call' G (pb2 _ _ ?_)
  cbv
  iterate 5 refine GenH.need' G rfl ?_
  refine GenH.call' G (wc _ _ ?_)
  cbv
  refine GenH.call' G (kc _ _ ?_)
  clear wc kc
  cbv
  iterate 40 (first | refine GenH.need' G rfl ?_ | skip)
  refine GenH.call' G (pa4 _ _ ?_)
  cbv
  iterate 5 (first | refine GenH.need' G rfl ?_ | skip)
  refine GenH.call' G (pb4 _ _ ?_)
  cbv
  iterate 10 (first | refine GenH.need' G rfl ?_ | skip)
  refine GenH.call' G (ws _ _ ?_)
  cbv
  refine GenH.call' G (ks _ _ ?_)
  clear ws ks
  cbv
  iterate 60 (first | refine GenH.need' G rfl ?_ | skip)
  refine GenH.call' G (alive_true _ _ ?_)
  cbv
  exact hfin _

theorem joined_21 (a b : Int) (ha1 : -9223372036854775808 ≤ a) (ha2 : a < 9223372036854775808) (hb1 : -9223372036854775808 ≤ b) (hb2 : b < 9223372036854775808) (hka : pickN a 4 = 2) (hkb : pickN b 4 = 1) :
    CallP Tryz.prog (Pr.tab real) 6 [.int .i64 a, .int .i64 b] St.nil fun o _ => o = .ret (.bool true) := by
  have pa4 : ∀ S K, K (.ret (.int .i64 2)) S → CallP Tryz.prog (Pr.tab real) 15 [.int .i64 a, .int .i64 4] S K := fun S K hK => pick_spec a ha1 ha2 4 (.inr rfl) 4 rfl S K fun z hz => by rw [hz, hka]; exact hK
  have pb4 : ∀ S K, K (.ret (.int .i64 1)) S → CallP Tryz.prog (Pr.tab real) 15 [.int .i64 b, .int .i64 4] S K := fun S K hK => pick_spec b hb1 hb2 4 (.inr rfl) 4 rfl S K fun z hz => by rw [hz, hkb]; exact hK
  have pa2 : ∀ S K, K (.ret (.int .i64 0)) S → CallP Tryz.prog (Pr.tab real) 15 [.int .i64 a, .int .i64 2] S K := fun S K hK => pick_spec a ha1 ha2 2 (.inl rfl) 2 rfl S K fun z hz => by rw [hz, pick_half, hka]; exact hK
  have pb2 : ∀ S K, K (.ret (.int .i64 1)) S → CallP Tryz.prog (Pr.tab real) 15 [.int .i64 b, .int .i64 2] S K := fun S K hK => pick_spec b hb1 hb2 2 (.inl rfl) 2 rfl S K fun z hz => by rw [hz, pick_half, hkb]; exact hK
  have wc := fun S K hK => Pr.parse_c01 S K hK
  have ws := fun S K hK => Pr.parse_s21 S K hK
  have kc := fun S K hK => Pr.cond_c01 S K hK
  have ks := fun S K hK => Pr.cond_s21 S K hK
  unfold Pr.t_c01 Pr.v_c01 at wc
  unfold Pr.t_s21 Pr.v_s21 at ws
  unfold Pr.n_c01 Pr.u_c01 at kc
  unfold Pr.n_s21 Pr.u_s21 at ks
  clear hka hkb ha1 ha2 hb1 hb2
  apply body_calls (un := 0) Pr.tabOk Pr.mixed Pr.fn6 (Nat.le_of_ble_eq_true rfl)
  apply gen_body (mk := Pr.tab)
  intro fail need same call loop len slen arith shift cmp conv eqS ltS cat app elt byt subS subL strOf isB fit inb cut room not and eqB avs G
  generalize hK' : (fun (o : Out) (_ : St) => o = .ret (.bool true)) = K0
  have hfin : ∀ S, K0 (.ret (.bool true)) S := fun S => by rw [← hK']
  clear hK'
  have e := G.X
  simp only [real, Sg.mk.injEq] at e
  obtain ⟨rfl, rfl, rfl, rfl, rfl, rfl, rfl, rfl, rfl, rfl, rfl, rfl, rfl, rfl, rfl, rfl, rfl, rfl, rfl, rfl, rfl, rfl, rfl, rfl⟩ := e
  cbv
  refine GenH.need' G rfl ?_
  refine GenH.call' G (pa2 _ _ ?_)
  cbv
  refine GenH.need' G rfl ?_
  refine GenH.call' G (pb2 _ _ ?_)
  cbv
  iterate 5 refine GenH.need' G rfl ?_
  refine GenH.call' G (wc _ _ ?_)
  cbv
  refine GenH.call' G (kc _ _ ?_)
  clear wc kc
  cbv
  iterate 40 (first | refine GenH.need' G rfl ?_ | skip)
  refine GenH.call' G (pa4 _ _ ?_)
  cbv
  iterate 5 (first | refine GenH.need' G rfl ?_ | skip)
  refine GenH.call' G (pb4 _ _ ?_)
  cbv
  iterate 10 (first | refine GenH.need' G rfl ?_ | skip)
  refine GenH.call' G (ws _ _ ?_)
  cbv
  refine GenH.call' G (ks _ _ ?_)
  clear ws ks
  cbv
  iterate 60 (first | refine GenH.need' G rfl ?_ | skip)
  refine GenH.call' G (alive_true _ _ ?_)
  cbv
  exact hfin _

theorem joined_22 (a b : Int) (ha1 : -9223372036854775808 ≤ a) (ha2 : a < 9223372036854775808) (hb1 : -9223372036854775808 ≤ b) (hb2 : b < 9223372036854775808) (hka : pickN a 4 = 2) (hkb : pickN b 4 = 2) :
    CallP Tryz.prog (Pr.tab real) 6 [.int .i64 a, .int .i64 b] St.nil fun o _ => o = .ret (.bool true) := by
  have pa4 : ∀ S K, K (.ret (.int .i64 2)) S → CallP Tryz.prog (Pr.tab real) 15 [.int .i64 a, .int .i64 4] S K := fun S K hK => pick_spec a ha1 ha2 4 (.inr rfl) 4 rfl S K fun z hz => by rw [hz, hka]; exact hK
  have pb4 : ∀ S K, K (.ret (.int .i64 2)) S → CallP Tryz.prog (Pr.tab real) 15 [.int .i64 b, .int .i64 4] S K := fun S K hK => pick_spec b hb1 hb2 4 (.inr rfl) 4 rfl S K fun z hz => by rw [hz, hkb]; exact hK
  have pa2 : ∀ S K, K (.ret (.int .i64 0)) S → CallP Tryz.prog (Pr.tab real) 15 [.int .i64 a, .int .i64 2] S K := fun S K hK => pick_spec a ha1 ha2 2 (.inl rfl) 2 rfl S K fun z hz => by rw [hz, pick_half, hka]; exact hK
  have pb2 : ∀ S K, K (.ret (.int .i64 0)) S → CallP Tryz.prog (Pr.tab real) 15 [.int .i64 b, .int .i64 2] S K := fun S K hK => pick_spec b hb1 hb2 2 (.inl rfl) 2 rfl S K fun z hz => by rw [hz, pick_half, hkb]; exact hK
  have wc := fun S K hK => Pr.parse_c00 S K hK
  have ws := fun S K hK => Pr.parse_s22 S K hK
  have kc := fun S K hK => Pr.cond_c00 S K hK
  have ks := fun S K hK => Pr.cond_s22 S K hK
  unfold Pr.t_c00 Pr.v_c00 at wc
  unfold Pr.t_s22 Pr.v_s22 at ws
  unfold Pr.n_c00 Pr.u_c00 at kc
  unfold Pr.n_s22 Pr.u_s22 at ks
  clear hka hkb ha1 ha2 hb1 hb2
  apply body_calls (un := 0) Pr.tabOk Pr.mixed Pr.fn6 (Nat.le_of_ble_eq_true rfl)
  apply gen_body (mk := Pr.tab)
  intro fail need same call loop len slen arith shift cmp conv eqS ltS cat app elt byt subS subL strOf isB fit inb cut room not and eqB avs G
  generalize hK' : (fun (o : Out) (_ : St) => o = .ret (.bool true)) = K0
  have hfin : ∀ S, K0 (.ret (.bool true)) S := fun S => by rw [← hK']
  clear hK'
  have e := G.X
  simp only [real, Sg.mk.injEq] at e
  obtain ⟨rfl, rfl, rfl, rfl, rfl, rfl, rfl, rfl, rfl, rfl, rfl, rfl, rfl, rfl, rfl, rfl, rfl, rfl, rfl, rfl, rfl, rfl, rfl, rfl⟩ := e
  cbv
  refine GenH.need' G rfl ?_
  refine GenH.call' G (pa2 _ _ ?_)
  cbv
  refine GenH.need' G rfl ?_
  refine GenH.call' G (pb2 _ _ ?_)
  cbv
  iterate 5 refine GenH.need' G rfl ?_
  refine GenH.call' G (wc _ _ ?_)
  cbv
  refine GenH.call' G (kc _ _ ?_)
  clear wc kc
  cbv
  iterate 40 (first | refine GenH.need' G rfl ?_ | skip)
  refine GenH.call' G (pa4 _ _ ?_)
  cbv
  iterate 5 (first | refine GenH.need' G rfl ?_ | skip)
  refine GenH.call' G (pb4 _ _ ?_)
  cbv
  iterate 10 (first | refine GenH.need' G rfl ?_ | skip)
  refine GenH.call' G (ws _ _ ?_)
  cbv
  refine GenH.call' G (ks _ _ ?_)
  clear ws ks
  cbv
  iterate 60 (first | refine GenH.need' G rfl ?_ | skip)
  refine GenH.call' G (alive_true _ _ ?_)
  cbv
  exact hfin _

theorem joined_23 (a b : Int) (ha1 : -9223372036854775808 ≤ a) (ha2 : a < 9223372036854775808) (hb1 : -9223372036854775808 ≤ b) (hb2 : b < 9223372036854775808) (hka : pickN a 4 = 2) (hkb : pickN b 4 = 3) :
    CallP Tryz.prog (Pr.tab real) 6 [.int .i64 a, .int .i64 b] St.nil fun o _ => o = .ret (.bool true) := by
  have pa4 : ∀ S K, K (.ret (.int .i64 2)) S → CallP Tryz.prog (Pr.tab real) 15 [.int .i64 a, .int .i64 4] S K := fun S K hK => pick_spec a ha1 ha2 4 (.inr rfl) 4 rfl S K fun z hz => by rw [hz, hka]; exact hK
  have pb4 : ∀ S K, K (.ret (.int .i64 3)) S → CallP Tryz.prog (Pr.tab real) 15 [.int .i64 b, .int .i64 4] S K := fun S K hK => pick_spec b hb1 hb2 4 (.inr rfl) 4 rfl S K fun z hz => by rw [hz, hkb]; exact hK
  have pa2 : ∀ S K, K (.ret (.int .i64 0)) S → CallP Tryz.prog (Pr.tab real) 15 [.int .i64 a, .int .i64 2] S K := fun S K hK => pick_spec a ha1 ha2 2 (.inl rfl) 2 rfl S K fun z hz => by rw [hz, pick_half, hka]; exact hK
  have pb2 : ∀ S K, K (.ret (.int .i64 1)) S → CallP Tryz.prog (Pr.tab real) 15 [.int .i64 b, .int .i64 2] S K := fun S K hK => pick_spec b hb1 hb2 2 (.inl rfl) 2 rfl S K fun z hz => by rw [hz, pick_half, hkb]; exact hK
  have wc := fun S K hK => Pr.parse_c01 S K hK
  have ws := fun S K hK => Pr.parse_s23 S K hK
  have kc := fun S K hK => Pr.cond_c01 S K hK
  have ks := fun S K hK => Pr.cond_s23 S K hK
  unfold Pr.t_c01 Pr.v_c01 at wc
  unfold Pr.t_s23 Pr.v_s23 at ws
  unfold Pr.n_c01 Pr.u_c01 at kc
  unfold Pr.n_s23 Pr.u_s23 at ks
  clear hka hkb ha1 ha2 hb1 hb2
  apply body_calls (un := 0) Pr.tabOk Pr.mixed Pr.fn6 (Nat.le_of_ble_eq_true rfl)
  apply gen_body (mk := Pr.tab)
  intro fail need same call loop len slen arith shift cmp conv eqS ltS cat app elt byt subS subL strOf isB fit inb cut room not and eqB avs G
  generalize hK' : (fun (o : Out) (_ : St) => o = .ret (.bool true)) = K0
  have hfin : ∀ S, K0 (.ret (.bool true)) S := fun S => by rw [← hK']
  clear hK'
  have e := G.X
  simp only [real, Sg.mk.injEq] at e
  obtain ⟨rfl, rfl, rfl, rfl, rfl, rfl, rfl, rfl, rfl, rfl, rfl, rfl, rfl, rfl, rfl, rfl, rfl, rfl, rfl, rfl, rfl, rfl, rfl, rfl⟩ := e
  cbv
  refine GenH.need' G rfl ?_
  refine GenH.call' G (pa2 _ _ ?_)
  cbv
  refine GenH.need' G rfl ?_
  refine GenH.call' G (pb2 _ _ ?_)
  cbv
  iterate 5 refine GenH.need' G rfl ?_
  refine GenH.call' G (wc _ _ ?_)
  cbv
  refine GenH.call' G (kc _ _ ?_)
  clear wc kc
  cbv
  iterate 40 (first | refine GenH.need' G rfl ?_ | skip)
  refine GenH.call' G (pa4 _ _ ?_)
  cbv
  iterate 5 (first | refine GenH.need' G rfl ?_ | skip)
  refine GenH.call' G (pb4 _ _ ?_)
  cbv
  iterate 10 (first | refine GenH.need' G rfl ?_ | skip)
  refine GenH.call' G (ws _ _ ?_)
  cbv
  refine GenH.call' G (ks _ _ ?_)
  clear ws ks
  cbv
  iterate 60 (first | refine GenH.need' G rfl ?_ | skip)
  refine GenH.call' G (alive_true _ _ ?_)
  cbv
  exact hfin _

theorem joined_30 (a b : Int) (ha1 : -9223372036854775808 ≤ a) (ha2 : a < 9223372036854775808) (hb1 : -9223372036854775808 ≤ b) (hb2 : b < 9223372036854775808) (hka : pickN a 4 = 3) (hkb : pickN b 4 = 0) :
    CallP Tryz.prog (Pr.tab real) 6 [.int .i64 a, .int .i64 b] St.nil fun o _ => o = .ret (.bool true) := by
  have pa4 : ∀ S K, K (.ret (.int .i64 3)) S → CallP Tryz.prog (Pr.tab real) 15 [.int .i64 a, .int .i64 4] S K := fun S K hK => pick_spec a ha1 ha2 4 (.inr rfl) 4 rfl S K fun z hz => by rw [hz, hka]; exact hK
  have pb4 : ∀ S K, K (.ret (.int .i64 0)) S → CallP Tryz.prog (Pr.tab real) 15 [.int .i64 b, .int .i64 4] S K := fun S K hK => pick_spec b hb1 hb2 4 (.inr rfl) 4 rfl S K fun z hz => by rw [hz, hkb]; exact hK
  have pa2 : ∀ S K, K (.ret (.int .i64 1)) S → CallP Tryz.prog (Pr.tab real) 15 [.int .i64 a, .int .i64 2] S K := fun S K hK => pick_spec a ha1 ha2 2 (.inl rfl) 2 rfl S K fun z hz => by rw [hz, pick_half, hka]; exact hK
  have pb2 : ∀ S K, K (.ret (.int .i64 0)) S → CallP Tryz.prog (Pr.tab real) 15 [.int .i64 b, .int .i64 2] S K := fun S K hK => pick_spec b hb1 hb2 2 (.inl rfl) 2 rfl S K fun z hz => by rw [hz, pick_half, hkb]; exact hK
  have wc := fun S K hK => Pr.parse_c10 S K hK
  have ws := fun S K hK => Pr.parse_s30 S K hK
  have kc := fun S K hK => Pr.cond_c10 S K hK
  have ks := fun S K hK => Pr.cond_s30 S K hK
  unfold Pr.t_c10 Pr.v_c10 at wc
  unfold Pr.t_s30 Pr.v_s30 at ws
  unfold Pr.n_c10 Pr.u_c10 at kc
  unfold Pr.n_s30 Pr.u_s30 at ks
  clear hka hkb ha1 ha2 hb1 hb2
  apply body_calls (un := 0) Pr.tabOk Pr.mixed Pr.fn6 (Nat.le_of_ble_eq_true rfl)
  apply gen_body (mk := Pr.tab)
  intro fail need same call loop len slen arith shift cmp conv eqS ltS cat app elt byt subS subL strOf isB fit inb cut room not and eqB avs G
  generalize hK' : (fun (o : Out) (_ : St) => o = .ret (.bool true)) = K0
  have hfin : ∀ S, K0 (.ret (.bool true)) S := fun S => by rw [← hK']
  clear hK'
  have e := G.X
  simp only [real, Sg.mk.injEq] at e
  obtain ⟨rfl, rfl, rfl, rfl, rfl, rfl, rfl, rfl, rfl, rfl, rfl, rfl, rfl, rfl, rfl, rfl, rfl, rfl, rfl, rfl, rfl, rfl, rfl, rfl⟩ := e
  cbv
  refine GenH.need' G rfl ?_
  refine GenH.call' G (pa2 _ _ ?_)
  cbv
  refine GenH.need' G rfl ?_
  refine GenH.call' G (pb2 _ _ ?_)
  cbv
  iterate 5 refine GenH.need' G rfl ?_
  refine GenH.call' G (wc _ _ ?_)
  cbv
  refine GenH.call' G (kc _ _ ?_)
  clear wc kc
  cbv
  iterate 40 (first | refine GenH.need' G rfl ?_ | skip)
  refine GenH.call' G (pa4 _ _ ?_)
  cbv
  iterate 5 (first | refine GenH.need' G rfl ?_ | skip)
  refine GenH.call' G (pb4 _ _ ?_)
  cbv
  iterate 10 (first | refine GenH.need' G rfl ?_ | skip)
  refine GenH.call' G (ws _ _ ?_)
  cbv
  refine GenH.call' G (ks _ _ ?_)
  clear ws ks
  cbv
  iterate 60 (first | refine GenH.need' G rfl ?_ | skip)
  refine GenH.call' G (alive_true _ _ ?_)
  cbv
  exact hfin _

theorem joined_31 (a b : Int) (ha1 : -9223372036854775808 ≤ a) (ha2 : a < 9223372036854775808) (hb1 : -9223372036854775808 ≤ b) (hb2 : b < 9223372036854775808) (hka : pickN a 4 = 3) (hkb : pickN b 4 = 1) :
    CallP Tryz.prog (Pr.tab real) 6 [.int .i64 a, .int .i64 b] St.nil fun o _ => o = .ret (.bool true) := by
  have pa4 : ∀ S K, K (.ret (.int .i64 3)) S → CallP Tryz.prog (Pr.tab real) 15 [.int .i64 a, .int .i64 4] S K := fun S K hK => pick_spec a ha1 ha2 4 (.inr rfl) 4 rfl S K fun z hz => by rw [hz, hka]; exact hK
  have pb4 : ∀ S K, K (.ret (.int .i64 1)) S → CallP Tryz.prog (Pr.tab real) 15 [.int .i64 b, .int .i64 4] S K := fun S K hK => pick_spec b hb1 hb2 4 (.inr rfl) 4 rfl S K fun z hz => by rw [hz, hkb]; exact hK
  have pa2 : ∀ S K, K (.ret (.int .i64 1)) S → CallP Tryz.prog (Pr.tab real) 15 [.int .i64 a, .int .i64 2] S K := fun S K hK => pick_spec a ha1 ha2 2 (.inl rfl) 2 rfl S K fun z hz => by rw [hz, pick_half, hka]; exact hK
  have pb2 : ∀ S K, K (.ret (.int .i64 1)) S → CallP Tryz.prog (Pr.tab real) 15 [.int .i64 b, .int .i64 2] S K := fun S K hK => pick_spec b hb1 hb2 2 (.inl rfl) 2 rfl S K fun z hz => by rw [hz, pick_half, hkb]; exact hK
  have wc := fun S K hK => Pr.parse_c11 S K hK
  have ws := fun S K hK => Pr.parse_s31 S K hK
  have kc := fun S K hK => Pr.cond_c11 S K hK
  have ks := fun S K hK => Pr.cond_s31 S K hK
  unfold Pr.t_c11 Pr.v_c11 at wc
  unfold Pr.t_s31 Pr.v_s31 at ws
  unfold Pr.n_c11 Pr.u_c11 at kc
  unfold Pr.n_s31 Pr.u_s31 at ks
  clear hka hkb ha1 ha2 hb1 hb2
  apply body_calls (un := 0) Pr.tabOk Pr.mixed Pr.fn6 (Nat.le_of_ble_eq_true rfl)
  apply gen_body (mk := Pr.tab)
  intro fail need same call loop len slen arith shift cmp conv eqS ltS cat app elt byt subS subL strOf isB fit inb cut room not and eqB avs G
  generalize hK' : (fun (o : Out) (_ : St) => o = .ret (.bool true)) = K0
  have hfin : ∀ S, K0 (.ret (.bool true)) S := fun S => by rw [← hK']
  clear hK'
  have e := G.X
  simp only [real, Sg.mk.injEq] at e
  obtain ⟨rfl, rfl, rfl, rfl, rfl, rfl, rfl, rfl, rfl, rfl, rfl, rfl, rfl, rfl, rfl, rfl, rfl, rfl, rfl, rfl, rfl, rfl, rfl, rfl⟩ := e
  cbv
  refine GenH.need' G rfl ?_
  refine GenH.call' G (pa2 _ _ ?_)
  cbv
  refine GenH.need' G rfl ?_
  refine GenH.call' G (pb2 _ _ ?_)
  cbv
  iterate 5 refine GenH.need' G rfl ?_
  refine GenH.call' G (wc _ _ ?_)
  cbv
  refine GenH.call' G (kc _ _ ?_)
  clear wc kc
  cbv
  iterate 40 (first | refine GenH.need' G rfl ?_ | skip)
  refine GenH.call' G (pa4 _ _ ?_)
  cbv
  iterate 5 (first | refine GenH.need' G rfl ?_ | skip)
  refine GenH.call' G (pb4 _ _ ?_)
  cbv
  iterate 10 (first | refine GenH.need' G rfl ?_ | skip)
  refine GenH.call' G (ws _ _ ?_)
  cbv
  refine GenH.call' G (ks _ _ ?_)
  clear ws ks
  cbv
  iterate 60 (first | refine GenH.need' G rfl ?_ | skip)
  refine GenH.call' G (alive_true _ _ ?_)
  cbv
  exact hfin _

theorem joined_32 (a b : Int) (ha1 : -9223372036854775808 ≤ a) (ha2 : a < 9223372036854775808) (hb1 : -9223372036854775808 ≤ b) (hb2 : b < 9223372036854775808) (hka : pickN a 4 = 3) (hkb : pickN b 4 = 2) :
    CallP Tryz.prog (Pr.tab real) 6 [.int .i64 a, .int .i64 b] St.nil fun o _ => o = .ret (.bool true) := by
  have pa4 : ∀ S K, K (.ret (.int .i64 3)) S → CallP Tryz.prog (Pr.tab real) 15 [.int .i64 a, .int .i64 4] S K := fun S K hK => pick_spec a ha1 ha2 4 (.inr rfl) 4 rfl S K fun z hz => by rw [hz, hka]; exact hK
  have pb4 : ∀ S K, K (.ret (.int .i64 2)) S → CallP Tryz.prog (Pr.tab real) 15 [.int .i64 b, .int .i64 4] S K := fun S K hK => pick_spec b hb1 hb2 4 (.inr rfl) 4 rfl S K fun z hz => by rw [hz, hkb]; exact hK
  have pa2 : ∀ S K, K (.ret (.int .i64 1)) S → CallP Tryz.prog (Pr.tab real) 15 [.int .i64 a, .int .i64 2] S K := fun S K hK => pick_spec a ha1 ha2 2 (.inl rfl) 2 rfl S K fun z hz => by rw [hz, pick_half, hka]; exact hK
  have pb2 : ∀ S K, K (.ret (.int .i64 0)) S → CallP Tryz.prog (Pr.tab real) 15 [.int .i64 b, .int .i64 2] S K := fun S K hK => pick_spec b hb1 hb2 2 (.inl rfl) 2 rfl S K fun z hz => by rw [hz, pick_half, hkb]; exact hK
  have wc := fun S K hK => Pr.parse_c10 S K hK
  have ws := fun S K hK => Pr.parse_s32 S K hK
  have kc := fun S K hK => Pr.cond_c10 S K hK
  have ks := fun S K hK => Pr.cond_s32 S K hK
  unfold Pr.t_c10 Pr.v_c10 at wc
  unfold Pr.t_s32 Pr.v_s32 at ws
  unfold Pr.n_c10 Pr.u_c10 at kc
  unfold Pr.n_s32 Pr.u_s32 at ks
  clear hka hkb ha1 ha2 hb1 hb2
  apply body_calls (un := 0) Pr.tabOk Pr.mixed Pr.fn6 (Nat.le_of_ble_eq_true rfl)
  apply gen_body (mk := Pr.tab)
  intro fail need same call loop len slen arith shift cmp conv eqS ltS cat app elt byt subS subL strOf isB fit inb cut room not and eqB avs G
  generalize hK' : (fun (o : Out) (_ : St) => o = .ret (.bool true)) = K0
  have hfin : ∀ S, K0 (.ret (.bool true)) S := fun S => by rw [← hK']
  clear hK'
  have e := G.X
  simp only [real, Sg.mk.injEq] at e
  obtain ⟨rfl, rfl, rfl, rfl, rfl, rfl, rfl, rfl, rfl, rfl, rfl, rfl, rfl, rfl, rfl, rfl, rfl, rfl, rfl, rfl, rfl, rfl, rfl, rfl⟩ := e
  cbv
  refine GenH.need' G rfl ?_
  refine GenH.call' G (pa2 _ _ ?_)
  cbv
  refine GenH.need' G rfl ?_
  refine GenH.call' G (pb2 _ _ ?_)
  cbv
  iterate 5 refine GenH.need' G rfl ?_
  refine GenH.call' G (wc _ _ ?_)
  cbv
  refine GenH.call' G (kc _ _ ?_)
  clear wc kc
  cbv
  iterate 40 (first | refine GenH.need' G rfl ?_ | skip)
  refine GenH.call' G (pa4 _ _ ?_)
  cbv
  iterate 5 (first | refine GenH.need' G rfl ?_ | skip)
  refine GenH.call' G (pb4 _ _ ?_)
  cbv
  iterate 10 (first | refine GenH.need' G rfl ?_ | skip)
  refine GenH.call' G (ws _ _ ?_)
  cbv
  refine GenH.call' G (ks _ _ ?_)
  clear ws ks
  cbv
  iterate 60 (first | refine GenH.need' G rfl ?_ | skip)
  refine GenH.call' G (alive_true _ _ ?_)
  cbv
  exact hfin _

theorem joined_33 (a b : Int) (ha1 : -9223372036854775808 ≤ a) (ha2 : a < 9223372036854775808) (hb1 : -9223372036854775808 ≤ b) (hb2 : b < 9223372036854775808) (hka : pickN a 4 = 3) (hkb : pickN b 4 = 3) :
    CallP Tryz.prog (Pr.tab real) 6 [.int .i64 a, .int .i64 b] St.nil fun o _ => o = .ret (.bool true) := by
  have pa4 : ∀ S K, K (.ret (.int .i64 3)) S → CallP Tryz.prog (Pr.tab real) 15 [.int .i64 a, .int .i64 4] S K := fun S K hK => pick_spec a ha1 ha2 4 (.inr rfl) 4 rfl S K fun z hz => by rw [hz, hka]; exact hK
  have pb4 : ∀ S K, K (.ret (.int .i64 3)) S → CallP Tryz.prog (Pr.tab real) 15 [.int .i64 b, .int .i64 4] S K := fun S K hK => pick_spec b hb1 hb2 4 (.inr rfl) 4 rfl S K fun z hz => by rw [hz, hkb]; exact hK
  have pa2 : ∀ S K, K (.ret (.int .i64 1)) S → CallP Tryz.prog (Pr.tab real) 15 [.int .i64 a, .int .i64 2] S K := fun S K hK => pick_spec a ha1 ha2 2 (.inl rfl) 2 rfl S K fun z hz => by rw [hz, pick_half, hka]; exact hK
  have pb2 : ∀ S K, K (.ret (.int .i64 1)) S → CallP Tryz.prog (Pr.tab real) 15 [.int .i64 b, .int .i64 2] S K := fun S K hK => pick_spec b hb1 hb2 2 (.inl rfl) 2 rfl S K fun z hz => by rw [hz, pick_half, hkb]; exact hK
  have wc := fun S K hK => Pr.parse_c11 S K hK
  have ws := fun S K hK => Pr.parse_s33 S K hK
  have kc := fun S K hK => Pr.cond_c11 S K hK
  have ks := fun S K hK => Pr.cond_s33 S K hK
  unfold Pr.t_c11 Pr.v_c11 at wc
  unfold Pr.t_s33 Pr.v_s33 at ws
  unfold Pr.n_c11 Pr.u_c11 at kc
  unfold Pr.n_s33 Pr.u_s33 at ks
  clear hka hkb ha1 ha2 hb1 hb2
  apply body_calls (un := 0) Pr.tabOk Pr.mixed Pr.fn6 (Nat.le_of_ble_eq_true rfl)
  apply gen_body (mk := Pr.tab)
  intro fail need same call loop len slen arith shift cmp conv eqS ltS cat app elt byt subS subL strOf isB fit inb cut room not and eqB avs G
  generalize hK' : (fun (o : Out) (_ : St) => o = .ret (.bool true)) = K0
  have hfin : ∀ S, K0 (.ret (.bool true)) S := fun S => by rw [← hK']
  clear hK'
  have e := G.X
  simp only [real, Sg.mk.injEq] at e
  obtain ⟨rfl, rfl, rfl, rfl, rfl, rfl, rfl, rfl, rfl, rfl, rfl, rfl, rfl, rfl, rfl, rfl, rfl, rfl, rfl, rfl, rfl, rfl, rfl, rfl⟩ := e
  cbv
  refine GenH.need' G rfl ?_
  refine GenH.call' G (pa2 _ _ ?_)
  cbv
  refine GenH.need' G rfl ?_
  refine GenH.call' G (pb2 _ _ ?_)
  cbv
  iterate 5 refine GenH.need' G rfl ?_
  refine GenH.call' G (wc _ _ ?_)
  cbv
  refine GenH.call' G (kc _ _ ?_)
  clear wc kc
  cbv
  iterate 40 (first | refine GenH.need' G rfl ?_ | skip)
  refine GenH.call' G (pa4 _ _ ?_)
  cbv
  iterate 5 (first | refine GenH.need' G rfl ?_ | skip)
  refine GenH.call' G (pb4 _ _ ?_)
  cbv
  iterate 10 (first | refine GenH.need' G rfl ?_ | skip)
  refine GenH.call' G (ws _ _ ?_)
  cbv
  refine GenH.call' G (ks _ _ ?_)
  clear ws ks
  cbv
  iterate 60 (first | refine GenH.need' G rfl ?_ | skip)
  refine GenH.call' G (alive_true _ _ ?_)
  cbv
  exact hfin _

theorem joined_pick (a b : Int) (ha1 : -9223372036854775808 ≤ a) (ha2 : a < 9223372036854775808) (hb1 : -9223372036854775808 ≤ b) (hb2 : b < 9223372036854775808) :
    CallP Tryz.prog (Pr.tab real) 6 [.int .i64 a, .int .i64 b] St.nil fun o _ => o = .ret (.bool true) := by
  have ha : pickN a 4 = 0 ∨ pickN a 4 = 1 ∨ pickN a 4 = 2 ∨ pickN a 4 = 3 := by unfold pickN; omega
  have hb : pickN b 4 = 0 ∨ pickN b 4 = 1 ∨ pickN b 4 = 2 ∨ pickN b 4 = 3 := by unfold pickN; omega
  rcases ha with ha | ha | ha | ha <;> rcases hb with hb | hb | hb | hb
  · exact joined_00 a b ha1 ha2 hb1 hb2 ha hb
  · exact joined_01 a b ha1 ha2 hb1 hb2 ha hb
  · exact joined_02 a b ha1 ha2 hb1 hb2 ha hb
  · exact joined_03 a b ha1 ha2 hb1 hb2 ha hb
  · exact joined_10 a b ha1 ha2 hb1 hb2 ha hb
  · exact joined_11 a b ha1 ha2 hb1 hb2 ha hb
  · exact joined_12 a b ha1 ha2 hb1 hb2 ha hb
  · exact joined_13 a b ha1 ha2 hb1 hb2 ha hb
  · exact joined_20 a b ha1 ha2 hb1 hb2 ha hb
  · exact joined_21 a b ha1 ha2 hb1 hb2 ha hb
  · exact joined_22 a b ha1 ha2 hb1 hb2 ha hb
  · exact joined_23 a b ha1 ha2 hb1 hb2 ha hb
  · exact joined_30 a b ha1 ha2 hb1 hb2 ha hb
  · exact joined_31 a b ha1 ha2 hb1 hb2 ha hb
  · exact joined_32 a b ha1 ha2 hb1 hb2 ha hb
  · exact joined_33 a b ha1 ha2 hb1 hb2 ha hb
end Go.AM
