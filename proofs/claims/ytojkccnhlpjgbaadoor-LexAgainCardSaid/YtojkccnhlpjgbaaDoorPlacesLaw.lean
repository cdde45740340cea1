/- The plain law of LexPlaces, spelled tokens, and the walk of LexPlaces. -/
import Derived.Test.YtojkccnhlpjgbaaDoorJoinedLaw
namespace Go.AM
open Go.Proofs
set_option maxRecDepth 100000
set_option linter.unusedVariables false

/-! ### Between two tokens -/
theorem tw_take (q : UInt8 → Bool) : ∀ (l : List UInt8) (m : Nat), (l.take m).takeWhile q = (l.takeWhile q).take m
  | [], m => by simp
  | x :: l, 0 => by simp
  | x :: l, m + 1 => by
    simp only [List.take_succ_cons, List.takeWhile_cons]
    cases hx : q x with
    | false => simp
    | true => simp [tw_take q l m]

theorem scan_take (q : UInt8 → Bool) (u : List UInt8) (e i : Nat) (hi : i ≤ e) (h : scan q u i ≤ e) : scan q (u.take e) i = scan q u i := by
  unfold scan at h ⊢
  rw [List.drop_take, tw_take]
  simp only [List.length_take]
  omega

theorem scan_take_max (q : UInt8 → Bool) (u : List UInt8) (e i : Nat) (hi : i ≤ e) (h : e ≤ scan q u i) : scan q (u.take e) i = e := by
  unfold scan at h ⊢
  rw [List.drop_take, tw_take]
  simp only [List.length_take]
  omega

theorem skipN_take (u : List UInt8) (n : Nat) : ∀ i, i ≤ u.length → u.length - i < n → skipN (u.take (skipN u n i)) n i = skipN u n i := by
  induction n with
  | zero => intro i hi hn; omega
  | succ n ih =>
    intro i hi hn
    have hj := scan_le isBlank u i hi
    cases hp : [45, 45].isPrefixOf (u.drop (scan isBlank u i)) with
    | false =>
      have e1 : skipN u (n + 1) i = scan isBlank u i := by unfold skipN; rw [hp]
      rw [e1]
      unfold skipN
      rw [scan_take isBlank u _ i hj.1 (Nat.le_refl _), List.drop_take]
      simp
    | true =>
      have e1 : skipN u (n + 1) i = skipN u n (scan notEnd u (scan isBlank u i)) := by
        conv => lhs; unfold skipN
        rw [hp]
      have h2 := comment_on u _ hp
      have h3 := scan_le notEnd u (scan isBlank u i) hj.2
      have h4 := skipN_le u n _ h3.2
      rw [e1]
      conv => lhs; unfold skipN
      rw [scan_take isBlank u _ i (by omega) (by omega), List.drop_take]
      have hp2 : [45, 45].isPrefixOf ((u.drop (scan isBlank u i)).take (skipN u n (scan notEnd u (scan isBlank u i)) - scan isBlank u i)) = true := by
        rw [List.isPrefixOf_iff_prefix] at hp ⊢
        obtain ⟨t, ht⟩ := hp
        rw [← ht]
        exact ⟨t.take (skipN u n (scan notEnd u (scan isBlank u i)) - scan isBlank u i - 2), by
          obtain ⟨d, hd⟩ : ∃ d, skipN u n (scan notEnd u (scan isBlank u i)) - scan isBlank u i = d + 2 := ⟨skipN u n (scan notEnd u (scan isBlank u i)) - scan isBlank u i - 2, by omega⟩
          rw [hd]; simp⟩
      rw [hp2]
      simp only
      rw [scan_take notEnd u _ _ (by omega) (by omega)]
      exact ih _ h3.2 (by omega)

theorem skip_take (u : List UInt8) : skip (u.take (skip u 0)) 0 = skip u 0 := by
  have h := skipN_take u (u.length + 1) 0 (by omega) (by omega)
  have hk := skip_le u 0 (by omega)
  unfold skip at hk ⊢
  rw [skipN_fuel (u.take (skipN u (u.length + 1) 0)) _ (u.length + 1) 0 (by omega) (by omega) (by simp only [List.length_take]; omega)]
  exact h

/-- What lies between two tokens has none. -/
theorem gap_scan (s : List UInt8) (p : Nat) (hp : p ≤ s.length) (hs : s.length ≤ 2000) (hlt : skip s p < s.length) :
    lexScan ((s.drop p).take (skip s p - p) ++ [10]) = ([], sDone) := by
  have hk := skip_le s p hp
  have e1 : skip s p - p = skip (s.drop p) 0 := by
    have := skip_drop s p 0 (by omega)
    simp only [Nat.add_zero] at this
    omega
  have h0 : lexScan [] = ([], sDone) := rfl
  obtain ⟨g, hg⟩ : ∃ g, (s.drop p).take (skip s p - p) = g := ⟨_, rfl⟩
  have hglen : g.length = skip s p - p := by rw [← hg]; simp; omega
  have hskip : skip g 0 = g.length := by
    rw [hglen, e1, ← hg, e1]
    exact skip_take _
  rw [hg]
  have hd : (lexScan g).2 = sDone := (lexScan_done g).1.2 ⟨by omega, [], by rw [hskip, run_end], by simp⟩
  have hl : (lexScan g).1 = [] := by
    have := (lexScan_done g).2.1 hd
    rw [hskip, run_end] at this
    simpa using this.symm
  have := joint_good g [] hd (by rw [h0]) (by rw [hl, h0]; simp) (by simp; omega)
  rw [hl, h0] at this
  simp only [List.map_nil, List.append_nil] at this
  show lexScan (joint g []) = _
  exact Prod.ext this.2 this.1

/-! ### A token's own bytes -/
def dbl : List UInt8 → List UInt8
  | [] => []
  | c :: r => match c == 39 with
    | true => 39 :: 39 :: dbl r
    | false => c :: dbl r

theorem dbl_app (a b : List UInt8) : dbl (a ++ b) = dbl a ++ dbl b := by
  induction a with
  | nil => rfl
  | cons c r ih =>
    simp only [List.cons_append, dbl]
    cases c == 39 <;> simp [ih]

theorem dbl_notQ : ∀ l : List UInt8, (∀ c ∈ l, notQ c = true) → dbl l = l
  | [], _ => rfl
  | c :: r, h => by
    have h1 := h c (by simp)
    have : (c == 39) = false := by unfold notQ at h1; simpa using h1
    simp only [dbl, this]
    rw [dbl_notQ r fun x hx => h x (by simp [hx])]

theorem tw_mem (q : UInt8 → Bool) : ∀ (l : List UInt8) (c : UInt8), c ∈ l.takeWhile q → q c = true
  | [], c, h => by simp at h
  | x :: l, c, h => by
    rw [List.takeWhile_cons] at h
    cases hx : q x with
    | false => rw [hx] at h; simp at h
    | true =>
      rw [hx] at h
      simp only [if_true, List.mem_cons] at h
      rcases h with rfl | h
      · exact hx
      · exact tw_mem q l c h

theorem txtN_dbl (s : List UInt8) (n : Nat) : ∀ i b ok b' ok' j, i ≤ s.length → txtN s n i b ok = some (b', ok', j) → (dbl b').length = (dbl b).length + (j - 1 - i) ∧ i + 1 ≤ j := by
  induction n with
  | zero => intro i b ok b' ok' j _ h; cases h
  | succ n ih =>
    intro i b ok b' ok' j hi h
    have hle := scan_le notQ s i hi
    have hq : dbl ((s.drop i).takeWhile notQ) = (s.drop i).takeWhile notQ := dbl_notQ _ fun c hc => tw_mem notQ _ c hc
    have hsc : scan notQ s i = i + ((s.drop i).takeWhile notQ).length := rfl
    unfold txtN at h
    by_cases hend : scan notQ s i = s.length
    · rw [decide_eq_true hend] at h; cases h
    · rw [decide_eq_false hend] at h
      simp only at h
      cases hx : (decide (scan notQ s i + 1 = s.length) || s.getD (scan notQ s i + 1) 0 != 39) with
      | true =>
        rw [hx] at h
        simp only [Option.some.injEq, Prod.mk.injEq] at h
        obtain ⟨rfl, _, rfl⟩ := h
        rw [dbl_app, hq, List.length_append]
        omega
      | false =>
        rw [hx] at h
        have hne : scan notQ s i + 1 ≠ s.length := by
          intro he; rw [decide_eq_true he] at hx; simp at hx
        have := ih _ _ _ _ _ _ (by omega) h
        rw [dbl_app, dbl_app, hq, List.length_append, List.length_append] at this
        have h2 : (dbl [39]).length = 2 := rfl
        omega

/-- What a token is, by its kind; where it ends. -/
inductive TokIs (s : List UInt8) (i : Nat) : Tk → Nat → Prop
  | word (w : List UInt8) (hw : w = (s.drop i).takeWhile isWord) (hl : isLetter (s.getD i 0) = true) (h32 : w.length ≤ 32) : TokIs s i ⟨0, w.map low, 0, i⟩ (i + w.length)
  | num (hd : isDigit (s.getD i 0) = true) (v : Nat) (hv : v < 9223372036854775808) : TokIs s i ⟨1, [], v, i⟩ (scan isDigit s i)
  | text (b : List UInt8) (j : Nat) (hb : txtN s (s.length + 1) (i + 1) [] true = some (b, true, j)) (h4 : b.length ≤ 400) : TokIs s i ⟨2, b, 0, i⟩ j
  | sign (x : List UInt8) (hx : x ∈ Lx.signs) (hp : x.isPrefixOf (s.drop i) = true) : TokIs s i ⟨3, x, 0, i⟩ (i + x.length)

theorem tok_is (s : List UInt8) (i : Nat) (hi : i < s.length) (h : (nextR s i).2.1 = sDone) : TokIs s i (nextR s i).1 (nextR s i).2.2 := by
  unfold nextR at h ⊢
  cases h1 : isLetter (s.getD i 0) with
  | true =>
    rw [h1] at h
    simp only at h ⊢
    unfold wordR at h ⊢
    cases h3 : decide (32 < ((s.drop i).takeWhile isWord).length) with
    | true => rw [h3] at h; simp [sSyntax, sDone] at h
    | false => exact .word _ rfl h1 (by have := of_decide_eq_false h3; omega)
  | false =>
    rw [h1] at h
    cases h2 : isDigit (s.getD i 0) with
    | true =>
      rw [h2] at h
      simp only at h ⊢
      unfold numR at h ⊢
      cases h3 : decide (numFold 0 ((s.drop i).takeWhile isDigit) < 9223372036854775808) with
      | false => rw [h3] at h; simp [sRange, sDone] at h
      | true => exact .num h2 _ (of_decide_eq_true h3)
    | false =>
      rw [h2] at h
      cases h3 : (s.getD i 0 == 39) with
      | true =>
        rw [h3] at h
        simp only at h ⊢
        unfold textR at h ⊢
        cases ht : txtN s (s.length + 1) (i + 1) [] true with
        | none => rw [ht] at h; simp [sSyntax, sDone] at h
        | some r =>
          obtain ⟨b, ok, j⟩ := r
          rw [ht] at h
          simp only at h ⊢
          cases ok with
          | false => simp [textSt, sSyntax, sDone] at h
          | true =>
            simp only [textSt] at h
            cases h4 : decide (400 < b.length) with
            | true => rw [h4] at h; simp [sTooLong, sDone] at h
            | false => exact .text b j ht (by have := of_decide_eq_false h4; omega)
      | false =>
        rw [h3] at h
        simp only at h ⊢
        cases ho : signIn s i Lx.signs with
        | none => rw [ho] at h; simp [signR, sSyntax, sDone] at h
        | some x =>
          have hp := List.find?_some ho
          exact .sign x (List.mem_of_find?_eq_some ho) hp

/-- All tokens from a place on, one behind the other. -/
inductive Chain (s : List UInt8) : Nat → List Tk → Prop
  | nil (p : Nat) : Chain s p []
  | cons (p : Nat) (t : Tk) (l : List Tk) (j : Nat) (hlt : skip s p < s.length) (ht : TokIs s (skip s p) t j) (hj : skip s p < j) (hle : j ≤ s.length) (h : Chain s j l) : Chain s p (t :: l)

theorem chain_of (s : List UInt8) (n : Nat) : ∀ p l, p ≤ s.length → s.length - p < n → run s (skip s p) = some l → Chain s p l := by
  induction n with
  | zero => intro p l hp hn; omega
  | succ n ih =>
    intro p l hp hn h
    have hk := skip_le s p hp
    by_cases hlt : skip s p < s.length
    · rw [run_step s _ hlt] at h
      cases hs : ((nextR s (skip s p)).2.1 == sDone) with
      | false => rw [hs] at h; cases h
      | true =>
        rw [hs] at h
        have hsd : (nextR s (skip s p)).2.1 = sDone := by simpa using hs
        have hl := next_le s _ hlt hsd
        simp only [Option.map_eq_some_iff] at h
        obtain ⟨l', h1, rfl⟩ := h
        exact .cons p _ l' _ hlt (tok_is s _ hlt hsd) hl.1 hl.2 (ih _ _ hl.2 (by omega) h1)
    · have : skip s p = s.length := by omega
      rw [this, run_end] at h
      simp only [Option.some.injEq] at h
      subst h
      exact .nil p

theorem lex_chain (s : List UInt8) (h : (lexScan s).2 = sDone) : s.length ≤ 2000 ∧ (lexScan s).1.length ≤ 600 ∧ Chain s 0 (lexScan s).1 := by
  obtain ⟨h1, h2, _⟩ := lexScan_done s
  exact ⟨(h1.1 h).1, lexScan_len s, chain_of s (s.length + 1) 0 _ (by omega) (by omega) (h2 h)⟩
end Go.AM

namespace Go.AM
open Go.Proofs
set_option maxRecDepth 100000
set_option maxHeartbeats 1000000
set_option linter.unusedVariables false
theorem Lx.fn12 : FnOk Tryd.prog 12 (fni Tryd.f12 a12) := ⟨⟨Tryd.f12, Tryd.func12, rfl, rfl, rfl, by kernel_rfl⟩, by kernel_rfl⟩
theorem Lx.fn36 : FnOk Tryd.prog 36 (fni Tryd.f36 a36) := ⟨⟨Tryd.f36, Tryd.func36, rfl, rfl, rfl, by kernel_rfl⟩, by kernel_rfl⟩
theorem Lx.fn23 : FnOk Tryd.prog 23 (fni Tryd.f23 a23) := ⟨⟨Tryd.f23, Tryd.func23, rfl, rfl, rfl, by kernel_rfl⟩, by kernel_rfl⟩

theorem small_spec (c : UInt8) (cz : Int) (hc : cz = c.toNat) (S : St) (K : Out → St → Prop) (hK : ∀ d : Int, d = (low c).toNat → K (.ret (.int .u8 d)) S) : CallP Tryd.prog (Lx.tab real) 12 [.int .u8 cz] S K := by
  refine CallP.lift (K0 := fun o _ => o = .ret (.int .u8 ((low c).toNat : Int))) rfl ?_ (by rintro o S0 rfl; exact hK _ rfl)
  apply body_calls (un := 0) Lx.tabOk Lx.mixed Lx.fn12 (Nat.le_of_ble_eq_true rfl)
  apply gen_body (mk := Lx.tab)
  intro fail need same call loop len slen arith shift cmp conv eqS ltS cat app elt byt subS subL strOf isB fit inb cut room not and eqB avs G
  have h1 : cmp BinOp.geq cz 65 = decide (65 ≤ c.toNat) := by rw [G.cmp', hc]; simp only [intRel]; rw [Bool.eq_iff_iff]; simp only [decide_eq_true_eq]; omega
  have h2 : cmp BinOp.leq cz 90 = decide (c.toNat ≤ 90) := by rw [G.cmp', hc]; simp only [intRel]; rw [Bool.eq_iff_iff]; simp only [decide_eq_true_eq]; omega
  have hlt : c.toNat < 256 := c.toNat_lt
  have h3 : decide (65 ≤ c.toNat) = true → decide (c.toNat ≤ 90) = true → arith BinOp.add IntKind.u8 cz 32 = ((low c).toNat : Int) := fun e1 e2 => by
    have e1 := of_decide_eq_true e1
    have e2 := of_decide_eq_true e2
    have : (low c).toNat = c.toNat + 32 := by
      unfold low
      rw [if_pos ⟨e1, e2⟩, UInt8.toNat_add]
      show (c.toNat + 32) % 256 = _
      omega
    rw [G.arith', this, hc]
    simp only [intBin, IntKind.wrap_u8]
    omega
  have h4 : (decide (65 ≤ c.toNat) = false ∨ decide (c.toNat ≤ 90) = false) → cz = ((low c).toNat : Int) := fun e => by
    have : low c = c := by
      unfold low
      rw [if_neg]
      intro ⟨e1, e2⟩
      rw [decide_eq_true e1, decide_eq_true e2] at e
      simp at e
    rw [this, hc]
  generalize hK' : (fun (o : Out) (_ : St) => o = .ret (.int .u8 ((low c).toNat : Int))) = K0
  have hfin : ∀ S, K0 (.ret (.int .u8 ((low c).toNat : Int))) S := fun S => by rw [← hK']
  generalize decide (65 ≤ c.toNat) = d1 at *
  generalize decide (c.toNat ≤ 90) = d2 at *
  generalize ((low c).toNat : Int) = q at *
  clear hc hlt hK
  cbv
  refine GenH.need' G rfl ?_
  rw [h1]
  cases d1 with
  | false =>
    cbv
    rw [h4 (.inl rfl)]
    exact hfin _
  | true =>
    cbv
    refine GenH.need' G rfl ?_
    rw [h2]
    cases d2 with
    | false =>
      cbv
      rw [h4 (.inr rfl)]
      exact hfin _
    | true =>
      cbv
      refine GenH.need' G rfl ?_
      rw [h3 rfl rfl]
      exact hfin _

/-! ### Numbers in figures -/
def digs : Nat → Nat → List UInt8 → List UInt8
  | 0, _, acc => acc
  | n + 1, m, acc => match decide (m / 10 = 0) with
    | true => UInt8.ofNat (48 + m % 10) :: acc
    | false => digs n (m / 10) (UInt8.ofNat (48 + m % 10) :: acc)
def figs (m : Nat) : List UInt8 := digs 20 m []

noncomputable def c36 : Code := (fni Tryd.f36 a36).loop 0
theorem Lx.c36 : codeOk 23 a36 c36 = true := by kernel_rfl
theorem step36 (K : Ex → Env → St → Prop) (env : Env) (S : St) (h : xcode (pAlg Tryd.prog (Lx.tab real) 23) (Lx.tab real) a36 0 c36 (andThen (LoopP Tryd.prog (Lx.tab real) 23 c36 K) K) env S) : LoopP Tryd.prog (Lx.tab real) 23 c36 K env S :=
  loopP_step Lx.tabOk Lx.mixed Lx.c36 h

theorem figures_loop (K : Ex → Env → St → Prop) (S : St) (n : Nat) :
    ∀ (m : Nat) (acc : List UInt8) (z : Int), z = -(m : Int) → m < 9223372036854775808 → m < 10 ^ n → acc.length + n ≤ 30 → n ≠ 0 →
      (K .ret [(4, .str (digs n m acc))] S) →
      LoopP Tryd.prog (Lx.tab real) 23 c36 (Less K) [(0, .int .i64 z), (1, .str []), (5, .str acc)] S := by
  induction n with
  | zero =>
    intro m acc z hz hm h1 ha hn
    omega
  | succ n ih =>
    intro m acc z hz hm h1 ha _ hK
    apply step36
    apply gen_code (mk := Lx.tab)
    intro fail need same call loop len slen arith shift cmp conv eqS ltS cat app elt byt subS subL strOf isB fit inb cut room not and eqB avs G
    obtain ⟨d, hd⟩ : ∃ d : Int, d = ((m % 10 : Nat) : Int) := ⟨_, rfl⟩
    obtain ⟨z2, hz2⟩ : ∃ z2 : Int, z2 = -((m / 10 : Nat) : Int) := ⟨_, rfl⟩
    have hd10 : m % 10 < 10 := Nat.mod_lt _ (by omega)
    have hrem : arith BinOp.rem IntKind.i64 z 10 = -d := by
      rw [G.arith', hz, hd]
      simp only [intBin]
      rw [Int.neg_tmod, Int.tmod_eq_emod_of_nonneg (by omega)]
      omega
    have hquo : arith BinOp.quo IntKind.i64 z 10 = z2 := by
      rw [G.arith', hz, hz2]
      simp only [intBin]
      rw [Int.neg_tdiv, Int.tdiv_eq_ediv_of_nonneg (by omega)]
      rw [wrap_i64 _ (by omega) (by omega)]
      omega
    have hneg : arith BinOp.sub IntKind.i64 0 (-d) = d := by
      rw [G.arith']
      simp only [intBin]
      rw [wrap_i64 _ (by omega) (by omega)]
      omega
    have hadd : arith BinOp.add IntKind.i64 d 1 = d + 1 := by rw [G.arith']; exact wrap_i64 _ (by omega) (by omega)
    have hcut : cut d (d + 1) (slen [48, 49, 50, 51, 52, 53, 54, 55, 56, 57]) = true := by
      rw [G.cut', G.slen']
      simp
      omega
    have hsub : subS [48, 49, 50, 51, 52, 53, 54, 55, 56, 57] d (d + 1) = [UInt8.ofNat (48 + m % 10)] := by
      rw [G.subS', hd]
      simp only [Int.toNat_natCast]
      rw [show (((m % 10 : Nat) : Int) + 1 - ((m % 10 : Nat) : Int)).toNat = 1 by omega]
      have : ∀ k, k < 10 → List.take 1 (List.drop k [48, 49, 50, 51, 52, 53, 54, 55, 56, 57]) = [UInt8.ofNat (48 + k)] := by decide
      exact this _ hd10
    have hfit : fit [UInt8.ofNat (48 + m % 10)] acc = true := by rw [G.fit']; simp; omega
    have hcat : cat [UInt8.ofNat (48 + m % 10)] acc = UInt8.ofNat (48 + m % 10) :: acc := by rw [G.cat']; rfl
    have heq : cmp BinOp.eql z2 0 = decide (m / 10 = 0) := by
      rw [G.cmp', hz2]; simp only [intRel]; rw [Bool.eq_iff_iff]; simp only [decide_eq_true_eq, beq_iff_eq]; omega
    have hten : and true (not (cmp BinOp.eql 10 0)) = true := by rw [G.and', G.not', G.cmp']; rfl
    obtain ⟨c, hc⟩ : ∃ c, UInt8.ofNat (48 + m % 10) = c := ⟨_, rfl⟩
    rw [hc] at hsub hfit hcat
    unfold digs at hK
    rw [hc] at hK
    have hfit2 : fit [] (c :: acc) = true := by rw [G.fit']; simp; omega
    have hcat2 : cat [] (c :: acc) = c :: acc := by rw [G.cat']; rfl
    have hrest : decide (m / 10 = 0) = false → LoopP Tryd.prog (Lx.tab real) 23 c36 (Less K) [(0, .int .i64 z2), (1, .str []), (5, .str (c :: acc))] S := fun h => by
      have h' := of_decide_eq_false h
      rw [h] at hK
      refine ih (m / 10) (c :: acc) z2 hz2 (by omega) ?_ (by simp; omega) ?_ hK
      · rw [Nat.pow_succ] at h1; omega
      · intro h0
        rw [h0] at h1
        simp at h1
        omega
    generalize hL : LoopP Tryd.prog (Lx.tab real) 23 c36 (Less K) = L at hrest ⊢
    generalize hK' : Less K = K'
    generalize decide (m / 10 = 0) = db at *
    generalize c :: acc = acc2 at *
    clear ih hz hm h1 ha hd hz2 hd10 hc
    cbv
    refine GenH.need' G hten (GenH.need' G hten (GenH.need' G rfl (GenH.need' G ?_ ?_)))
    · rw [hrem, hneg, hadd]; exact hcut
    · rw [hrem, hneg, hadd, hsub]
      refine GenH.need' G hfit ?_
      rw [hcat]
      refine GenH.need' G hten ?_
      refine GenH.need' G rfl ?_
      rw [hquo, heq]
      cases db with
      | true =>
        cbv
        refine GenH.need' G hfit2 ?_
        rw [hcat2, ← hK']
        exact ⟨[(4, .str acc2)], .cons rfl (.nil _), hK⟩
      | false =>
        cbv
        have go := hrest rfl
        rw [← hL] at go ⊢
        exact LoopP.weak (env' := [(0, .int .i64 z2), (1, .str []), (5, .str acc2)]) (.cons rfl (.cons rfl (.cons rfl (.nil _)))) go

theorem figures_spec (m : Nat) (z : Int) (hz : z = -(m : Int)) (hm : m < 9223372036854775808) (S : St) (K : Out → St → Prop) (hK : K (.ret (.str (figs m))) S) :
    CallP Tryd.prog (Lx.tab real) 36 [.int .i64 z, .str []] S K := by
  refine CallP.lift (K0 := fun o _ => o = .ret (.str (figs m))) rfl ?_ (by rintro o S0 rfl; exact hK)
  have hloop := fun K hK => figures_loop K ⟨[], 0, []⟩ 20 m [] z hz hm (by omega) (by simp) (by omega) hK
  apply body_calls (un := 0) Lx.tabOk Lx.mixed Lx.fn36 (Nat.le_of_ble_eq_true rfl)
  apply gen_body (mk := Lx.tab)
  intro fail need same call loop len slen arith shift cmp conv eqS ltS cat app elt byt subS subL strOf isB fit inb cut room not and eqB avs G
  generalize hK' : (fun (o : Out) (_ : St) => o = .ret (.str (figs m))) = K0
  have hfin : ∀ S, K0 (.ret (.str (figs m))) S := fun S => by rw [← hK']
  unfold figs at *
  generalize digs 20 m [] = q at *
  clear hK hz hm
  cbv
  refine GenH.loop' G ?_
  change LoopP Tryd.prog (Lx.tab real) 23 c36 _ _ _
  refine LoopP.relax (LoopP.weak (env' := [(0, .int .i64 z), (1, .str []), (5, .str [])]) (.cons rfl (.cons rfl (.cons rfl (.nil _)))) ?_)
  refine hloop _ ?_
  exact hfin _

theorem digits_spec (m : Nat) (z : Int) (hz : z = m) (hm : m < 9223372036854775808) (S : St) (K : Out → St → Prop) (hK : K (.ret (.str (figs m))) S) :
    CallP Tryd.prog (Lx.tab real) 23 [.int .i64 z] S K := by
  refine CallP.lift (K0 := fun o _ => o = .ret (.str (figs m))) rfl ?_ (by rintro o S0 rfl; exact hK)
  have hfig := fun z hz S K hK => figures_spec m z hz hm S K hK
  apply body_calls (un := 0) Lx.tabOk Lx.mixed Lx.fn23 (Nat.le_of_ble_eq_true rfl)
  apply gen_body (mk := Lx.tab)
  intro fail need same call loop len slen arith shift cmp conv eqS ltS cat app elt byt subS subL strOf isB fit inb cut room not and eqB avs G
  obtain ⟨z1, hz1⟩ : ∃ z1 : Int, z1 = -(m : Int) := ⟨_, rfl⟩
  have hge : cmp BinOp.geq z 0 = true := by rw [G.cmp', hz]; simp [intRel]
  have h1 : arith BinOp.sub IntKind.i64 0 z = z1 := by rw [G.arith', hz]; simp only [intBin]; rw [wrap_i64 _ (by omega) (by omega)]; omega
  have h2 : arith BinOp.sub IntKind.i64 z1 1 = z1 - 1 := by rw [G.arith']; exact wrap_i64 _ (by omega) (by omega)
  have h3 : arith BinOp.add IntKind.i64 (z1 - 1) 1 = z1 := by rw [G.arith']; simp only [intBin]; rw [wrap_i64 _ (by omega) (by omega)]; omega
  have hfig := hfig z1 hz1
  generalize hK' : (fun (o : Out) (_ : St) => o = .ret (.str (figs m))) = K0
  have hfin : ∀ S, K0 (.ret (.str (figs m))) S := fun S => by rw [← hK']
  generalize figs m = q at *
  generalize z1 - 1 = z2 at *
  clear hK hz hm hz1
  cbv
  refine GenH.need' G rfl ?_
  rw [hge]
  cbv
  refine GenH.need' G rfl (GenH.need' G rfl ?_)
  rw [h1, h2]
  cbv
  refine GenH.call' G ?_
  rw [h3]
  refine hfig _ _ ?_
  cbv
  iterate 2 (first | refine GenH.need' G rfl ?_ | skip)
  exact hfin _
end Go.AM

namespace Go.AM
open Go.Proofs
set_option maxRecDepth 100000
set_option maxHeartbeats 1000000
set_option linter.unusedVariables false
theorem Lx.fn11 : FnOk Tryd.prog 11 (fni Tryd.f11 a11) := ⟨⟨Tryd.f11, Tryd.func11, rfl, rfl, rfl, by kernel_rfl⟩, by kernel_rfl⟩
noncomputable def c11 : Code := (fni Tryd.f11 a11).loop 0
theorem Lx.c11 : codeOk 40 a11 c11 = true := by kernel_rfl
theorem step11 (K : Ex → Env → St → Prop) (env : Env) (S : St) (h : xcode (pAlg Tryd.prog (Lx.tab real) 40) (Lx.tab real) a11 0 c11 (andThen (LoopP Tryd.prog (Lx.tab real) 40 c11 K) K) env S) : LoopP Tryd.prog (Lx.tab real) 40 c11 K env S :=
  loopP_step Lx.tabOk Lx.mixed Lx.c11 h

def S11 (k : Int) (t : List UInt8) (n a : Int) : St := ⟨[(0, [.int .i64 k, .str t, .int .i64 n, .int .i64 a])], 1, []⟩

theorem dbl_len (l : List UInt8) : (dbl l).length ≤ 2 * l.length := by
  induction l with
  | nil => simp [dbl]
  | cons c r ih => unfold dbl; cases c == 39 <;> simp <;> omega

theorem spelled_loop (k n a : Int) (t : List UInt8) (ht : t.length ≤ 1000000) (K : Ex → Env → St → Prop) (m : Nat) :
    ∀ (i : Nat) (y : Int) (part : List UInt8), y = i → i + m = t.length → part.length ≤ 2 * i + 1 →
      K (.exit 1) [(1, .ptr 0 0), (3, .str (part ++ dbl (t.drop i)))] (S11 k t n a) →
      LoopP Tryd.prog (Lx.tab real) 40 c11 (Less K) [(1, .ptr 0 0), (3, .str part), (4, .int .i64 y)] (S11 k t n a) := by
  induction m with
  | zero =>
    intro i y part hy hi hp hK
    have hd : t.drop i = [] := List.drop_eq_nil_of_le (by omega)
    rw [hd] at hK
    simp only [dbl, List.append_nil] at hK
    apply step11
    apply gen_code (mk := Lx.tab)
    intro fail need same call loop len slen arith shift cmp conv eqS ltS cat app elt byt subS subL strOf isB fit inb cut room not and eqB avs G
    have hb : cmp BinOp.lss y (slen t) = false := by rw [G.cmp', G.slen']; simp [intRel]; omega
    generalize hL : LoopP Tryd.prog (Lx.tab real) 40 c11 (Less K) = L
    generalize hK' : Less K = K'
    clear hy hi hd
    cbv
    refine GenH.need' G rfl ?_
    rw [hb]
    cbv
    rw [← hK']
    exact ⟨_, .cons rfl (.cons rfl (.nil _)), hK⟩
  | succ m ih =>
    intro i y part hy hi hp hK
    have hlt : i < t.length := by omega
    have hdrop : t.drop i = t[i] :: t.drop (i + 1) := List.drop_eq_getElem_cons hlt
    obtain ⟨c, hc⟩ : ∃ c, t[i] = c := ⟨_, rfl⟩
    rw [hc] at hdrop
    obtain ⟨cz, hcz⟩ : ∃ cz : Int, cz = c.toNat := ⟨_, rfl⟩
    have hgo1 : (c == 39) = true → LoopP Tryd.prog (Lx.tab real) 40 c11 (Less K) [(1, .ptr 0 0), (3, .str (part ++ [39] ++ [c])), (4, .int .i64 (y + 1))] (S11 k t n a) := fun h => by
      refine ih (i + 1) (y + 1) _ (by omega) (by omega) (by simp; omega) ?_
      have h' : c = 39 := by simpa using h
      rw [hdrop, dbl, h] at hK
      rw [h']
      simpa using hK
    have hgo2 : (c == 39) = false → LoopP Tryd.prog (Lx.tab real) 40 c11 (Less K) [(1, .ptr 0 0), (3, .str (part ++ [c])), (4, .int .i64 (y + 1))] (S11 k t n a) := fun h => by
      refine ih (i + 1) (y + 1) _ (by omega) (by omega) (by simp; omega) ?_
      rw [hdrop, dbl, h] at hK
      simpa using hK
    clear ih hK
    apply step11
    apply gen_code (mk := Lx.tab)
    intro fail need same call loop len slen arith shift cmp conv eqS ltS cat app elt byt subS subL strOf isB fit inb cut room not and eqB avs G
    have hb : cmp BinOp.lss y (slen t) = true := by rw [G.cmp', G.slen']; simp [intRel]; omega
    have hin : inb y (slen t) = true := by rw [G.inb', G.slen']; simp; omega
    have hbyt : byt t y = cz := by
      rw [G.byt', hcz, ← hc, hy]
      simp [List.getD_eq_getElem?_getD, hlt]
    have heq : cmp BinOp.eql cz 39 = (c == 39) := by
      rw [G.cmp', hcz]; simp only [intRel]
      rw [Bool.eq_iff_iff]; simp only [beq_iff_eq, ← UInt8.toNat_inj]
      show (c.toNat : Int) = 39 ↔ c.toNat = 39
      omega
    have hone : arith BinOp.add IntKind.i64 y 1 = y + 1 := by rw [G.arith']; exact wrap_i64 _ (by omega) (by omega)
    have hcut : cut y (y + 1) (slen t) = true := by rw [G.cut', G.slen']; simp; omega
    have hsub : subS t y (y + 1) = [c] := by
      rw [G.subS', hy]
      simp only [Int.toNat_natCast]
      rw [show ((i : Int) + 1 - (i : Int)).toNat = 1 by omega, hdrop]
      rfl
    have hc1 : cat part [39] = part ++ [39] := by rw [G.cat']
    have hc2 : cat (part ++ [39]) [c] = part ++ [39] ++ [c] := by rw [G.cat']
    have hc3 : cat part [c] = part ++ [c] := by rw [G.cat']
    have hf1 : fit part [39] = true := by rw [G.fit']; simp; omega
    have hf2 : fit (part ++ [39]) [c] = true := by rw [G.fit']; simp; omega
    have hf3 : fit part [c] = true := by rw [G.fit']; simp; omega
    clear hdrop hcz hc
    generalize part ++ [39] ++ [c] = p3 at *
    generalize part ++ [39] = p1 at *
    generalize part ++ [c] = p2 at *
    generalize hL : LoopP Tryd.prog (Lx.tab real) 40 c11 (Less K) = L at hgo1 hgo2 ⊢
    generalize hK' : Less K = K' at hL ⊢
    generalize (c == 39) = q at *
    generalize y + 1 = y1 at *
    unfold S11 at *
    cbv
    refine GenH.need' G rfl ?_
    rw [hb]
    cbv
    refine GenH.need' G hin (GenH.need' G rfl ?_)
    rw [hbyt, heq]
    cases q with
    | true =>
      cbv
      refine GenH.need' G hf1 ?_
      rw [hc1]
      iterate 3 (first | (rw [hone]; cbv) | refine GenH.need' G rfl ?_ | refine GenH.need' G hcut ?_ | skip)
      rw [hsub]
      refine GenH.need' G hf2 ?_
      rw [hc2]
      iterate 2 (first | refine GenH.need' G rfl ?_ | skip)
      have go := hgo1 rfl
      rw [← hL] at go ⊢
      exact LoopP.weak (env' := [(1, .ptr 0 0), (3, .str p3), (4, .int .i64 y1)]) (.cons rfl (.cons rfl (.cons rfl (.nil _)))) go
    | false =>
      cbv
      iterate 3 (first | (rw [hone]; cbv) | refine GenH.need' G rfl ?_ | refine GenH.need' G hcut ?_ | skip)
      rw [hsub]
      refine GenH.need' G hf3 ?_
      rw [hc3]
      iterate 2 (first | refine GenH.need' G rfl ?_ | skip)
      have go := hgo2 rfl
      rw [← hL] at go ⊢
      exact LoopP.weak (env' := [(1, .ptr 0 0), (3, .str p2), (4, .int .i64 y1)]) (.cons rfl (.cons rfl (.cons rfl (.nil _)))) go

/-- A token as it may be written. -/
def spell (x : Tk) : List UInt8 := match x.k == 1 with
  | true => figs x.n.toNat
  | false => match x.k == 2 with
    | true => 39 :: dbl x.t ++ [39]
    | false => x.t

theorem spelled_spec (x : Tk) (hn : x.k = 1 → 0 ≤ x.n ∧ x.n < 9223372036854775808) (ht : x.t.length ≤ 1000000) (S : St) (K : Out → St → Prop) (hK : K (.ret (.str (spell x))) S) :
    CallP Tryd.prog (Lx.tab real) 11 [x.av] S K := by
  refine CallP.lift (K0 := fun o _ => o = .ret (.str (spell x))) rfl ?_ (by rintro o S0 rfl; exact hK)
  obtain ⟨k, t, n, a⟩ := x
  simp only at hn ht
  have hdig : (k == 1) = true → ∀ (S : St) (K : Out → St → Prop), K (.ret (.str (figs n.toNat))) S → CallP Tryd.prog (Lx.tab real) 23 [.int .i64 n] S K := fun h => by
    have := hn (by simpa using h)
    exact digits_spec n.toNat n (by omega) (by omega)
  have hloop := fun K hK => spelled_loop k n a t ht K t.length 0 0 [39] rfl (by omega) (by simp) hK
  have hdl := dbl_len t
  simp only [List.drop_zero] at hloop
  unfold S11 at hloop
  show CallP Tryd.prog (Lx.tab real) 11 [.agg [.int .i64 k, .str t, .int .i64 n, .int .i64 a]] _ _
  apply body_calls (un := 0) Lx.tabOk Lx.mixed Lx.fn11 (Nat.le_of_ble_eq_true rfl)
  apply gen_body (mk := Lx.tab)
  intro fail need same call loop len slen arith shift cmp conv eqS ltS cat app elt byt subS subL strOf isB fit inb cut room not and eqB avs G
  have h1 : cmp BinOp.eql k 1 = (k == 1) := by rw [G.cmp']; rfl
  have h2 : cmp BinOp.eql k 2 = (k == 2) := by rw [G.cmp']; rfl
  have hf : fit ([39] ++ dbl t) [39] = true := by rw [G.fit']; simp; omega
  have hc : cat ([39] ++ dbl t) [39] = 39 :: dbl t ++ [39] := by rw [G.cat']; rfl
  unfold spell
  simp only
  generalize hK' : (fun (o : Out) (_ : St) => o = .ret (.str (match k == 1 with
    | true => figs n.toNat
    | false => match k == 2 with
      | true => 39 :: dbl t ++ [39]
      | false => t))) = K0
  have hfin1 : (k == 1) = true → ∀ S, K0 (.ret (.str (figs n.toNat))) S := fun h S => by rw [← hK', h]
  have hfin2 : (k == 1) = false → (k == 2) = true → ∀ S, K0 (.ret (.str (39 :: dbl t ++ [39]))) S := fun h h' S => by rw [← hK', h, h']
  have hfin3 : (k == 1) = false → (k == 2) = false → ∀ S, K0 (.ret (.str t)) S := fun h h' S => by rw [← hK', h, h']
  clear hK' hK hn ht hdl
  generalize (k == 1) = q1 at *
  generalize (k == 2) = q2 at *
  generalize figs n.toNat = fg at *
  generalize 39 :: dbl t ++ [39] = sp at *
  generalize [39] ++ dbl t = sq at *
  cbv
  refine GenH.need' G rfl ?_
  rw [h1]
  cases q1 with
  | true =>
    cbv
    refine GenH.call' G (hdig rfl _ _ ?_)
    exact hfin1 rfl _
  | false =>
    cbv
    refine GenH.need' G rfl ?_
    rw [h2]
    cases q2 with
    | false =>
      cbv
      exact hfin3 rfl rfl _
    | true =>
      cbv
      refine GenH.loop' G ?_
      change LoopP Tryd.prog (Lx.tab real) 40 c11 _ _ _
      refine LoopP.relax (LoopP.weak (env' := [(1, .ptr 0 0), (3, .str [39]), (4, .int .i64 0)]) (.cons rfl (.cons rfl (.cons rfl (.nil _)))) ?_)
      refine hloop _ ?_
      cbv
      refine GenH.need' G hf ?_
      rw [hc]
      exact hfin2 rfl rfl _
end Go.AM

namespace Go.AM
open Go.Proofs
set_option maxRecDepth 100000
set_option maxHeartbeats 1000000
set_option linter.unusedVariables false
theorem Lx.fn5 : FnOk Tryd.prog 5 (fni Tryd.f5 a5) := ⟨⟨Tryd.f5, Tryd.func5, rfl, rfl, rfl, by kernel_rfl⟩, by kernel_rfl⟩
noncomputable def c5 : Code := (fni Tryd.f5 a5).loop 0
noncomputable def c5b : Code := (fni Tryd.f5 a5).loop 1
noncomputable def c5c : Code := (fni Tryd.f5 a5).loop 2
theorem Lx.c5 : codeOk 143 a5 c5 = true := by kernel_rfl
theorem Lx.c5b : codeOk 143 a5 c5b = true := by kernel_rfl
theorem Lx.c5c : codeOk 143 a5 c5c = true := by kernel_rfl
theorem step5 (K : Ex → Env → St → Prop) (env : Env) (S : St) (h : xcode (pAlg Tryd.prog (Lx.tab real) 143) (Lx.tab real) a5 0 c5 (andThen (LoopP Tryd.prog (Lx.tab real) 143 c5 K) K) env S) : LoopP Tryd.prog (Lx.tab real) 143 c5 K env S :=
  loopP_step Lx.tabOk Lx.mixed Lx.c5 h
theorem step5b (K : Ex → Env → St → Prop) (env : Env) (S : St) (h : xcode (pAlg Tryd.prog (Lx.tab real) 143) (Lx.tab real) a5 0 c5b (andThen (LoopP Tryd.prog (Lx.tab real) 143 c5b K) K) env S) : LoopP Tryd.prog (Lx.tab real) 143 c5b K env S :=
  loopP_step Lx.tabOk Lx.mixed Lx.c5b h
theorem step5c (K : Ex → Env → St → Prop) (env : Env) (S : St) (h : xcode (pAlg Tryd.prog (Lx.tab real) 143) (Lx.tab real) a5 0 c5c (andThen (LoopP Tryd.prog (Lx.tab real) 143 c5c K) K) env S) : LoopP Tryd.prog (Lx.tab real) 143 c5c K env S :=
  loopP_step Lx.tabOk Lx.mixed Lx.c5c h

def env5 (s : List UInt8) (v : AV) (z y : Int) (mm : Nat) : Env := [(0, .str s), (3, v), (5, .int .i64 z), (6, .int .i64 y), (7, .ptr mm 0)]
def env5b (s : List UInt8) (v : AV) (z y : Int) (mm : Nat) (x : Int) : Env := [(0, .str s), (3, v), (5, .int .i64 z), (6, .int .i64 y), (7, .ptr mm 0), (10, .int .i64 x)]

theorem places_word (s : List UInt8) (hs : s.length ≤ 2000) (v : AV) (z y : Int) (mm : Nat) (k : Int) (t : List UInt8) (nn a : Int) (ia : Nat) (ha : a = ia) (hia : ia + t.length ≤ s.length) (hlow : ∀ x, x < t.length → low (s.getD (ia + x) 0) = t.getD x 0)
    (O : List (Nat × List AV)) (caps : List Int) (K : Ex → Env → St → Prop) (hK : K (.exit 2) (env5 s v z y mm) ⟨(mm, [.int .i64 k, .str t, .int .i64 nn, .int .i64 a]) :: O, mm + 1, caps⟩) (n : Nat) :
    ∀ (i : Nat) (x : Int), x = i → i + n = t.length →
      LoopP Tryd.prog (Lx.tab real) 143 c5b (Less K) (env5b s v z y mm x) ⟨(mm, [.int .i64 k, .str t, .int .i64 nn, .int .i64 a]) :: O, mm + 1, caps⟩ := by
  induction n with
  | zero =>
    intro i x hx hi
    apply step5b
    apply gen_code (mk := Lx.tab)
    intro fail need same call loop len slen arith shift cmp conv eqS ltS cat app elt byt subS subL strOf isB fit inb cut room not and eqB avs G
    have hb : cmp BinOp.lss x (slen t) = false := by rw [G.cmp', G.slen']; simp [intRel]; omega
    have hnn : Nat.beq mm mm = true := Nat.beq_refl mm
    have hbb : Nat.ble mm mm = true := Nat.ble_eq_true_of_le (Nat.le_refl mm)
    generalize hL : LoopP Tryd.prog (Lx.tab real) 143 c5b (Less K) = L
    generalize hK' : Less K = K'
    unfold env5b
    clear hx hi hlow ha hia
    cbv at hnn hbb
    cbv
    iterate 6 (first | (rw [hnn]; cbv) | (rw [hbb]; cbv) | skip)
    refine GenH.need' G rfl ?_
    rw [hb]
    cbv
    rw [← hK']
    exact ⟨_, .cons rfl (.cons rfl (.cons rfl (.cons rfl (.cons rfl (.nil _))))), hK⟩
  | succ n ih =>
    intro i x hx hi
    have hgo := ih (i + 1) (x + 1) (by omega) (by omega)
    clear ih
    obtain ⟨b, hb0⟩ : ∃ b, s.getD (ia + i) 0 = b := ⟨_, rfl⟩
    have hlb := hlow i (by omega)
    rw [hb0] at hlb
    obtain ⟨bz, hbz⟩ : ∃ bz : Int, bz = b.toNat := ⟨_, rfl⟩
    have hsm := fun S K hK => small_spec b bz hbz S K hK
    apply step5b
    apply gen_code (mk := Lx.tab)
    intro fail need same call loop len slen arith shift cmp conv eqS ltS cat app elt byt subS subL strOf isB fit inb cut room not and eqB avs G
    have hb : cmp BinOp.lss x (slen t) = true := by rw [G.cmp', G.slen']; simp [intRel]; omega
    obtain ⟨p, hp⟩ : ∃ p : Int, p = a + x := ⟨_, rfl⟩
    have hadd : arith BinOp.add IntKind.i64 a x = p := by rw [G.arith', hp]; exact wrap_i64 _ (by omega) (by omega)
    have hge : cmp BinOp.geq p (slen s) = false := by rw [G.cmp', G.slen']; simp [intRel]; omega
    have hin1 : inb p (slen s) = true := by rw [G.inb', G.slen']; simp; omega
    have hin2 : inb x (slen t) = true := by rw [G.inb', G.slen']; simp; omega
    have hb1 : byt s p = bz := by rw [G.byt', hbz, ← hb0]; simp only []; rw [show p.toNat = ia + i by omega]
    have hb2 : byt t x = ((low b).toNat : Int) := by rw [G.byt', hlb]; simp only []; rw [show x.toNat = i by omega]
    have hne : ∀ d : Int, d = ((low b).toNat : Int) → cmp BinOp.neq d ((low b).toNat : Int) = false := fun d h => by rw [G.cmp', h]; simp [intRel]
    have hone : arith BinOp.add IntKind.i64 x 1 = x + 1 := by rw [G.arith']; exact wrap_i64 _ (by omega) (by omega)
    have hnn : Nat.beq mm mm = true := Nat.beq_refl mm
    have hbb : Nat.ble mm mm = true := Nat.ble_eq_true_of_le (Nat.le_refl mm)
    clear hx hi hlow ha hia hK hp hb0 hlb hbz
    generalize hL : LoopP Tryd.prog (Lx.tab real) 143 c5b (Less K) = L at hgo ⊢
    generalize hK' : Less K = K' at hL ⊢
    generalize x + 1 = x1 at *
    generalize ((low b).toNat : Int) = lb at *
    unfold env5b at *
    cbv at hnn hbb
    cbv
    iterate 6 (first | (rw [hnn]; cbv) | (rw [hbb]; cbv) | skip)
    refine GenH.need' G rfl ?_
    rw [hb]
    cbv
    iterate 6 (first | (rw [hnn]; cbv) | (rw [hbb]; cbv) | skip)
    refine GenH.need' G rfl (GenH.need' G rfl ?_)
    rw [hadd, hge]
    cbv
    iterate 8 (first | (rw [hnn]; cbv) | (rw [hbb]; cbv) | refine GenH.need' G rfl ?_ | rw [hadd] | skip)
    refine GenH.need' G hin1 ?_
    cbv
    iterate 4 (first | (rw [hnn]; cbv) | (rw [hbb]; cbv) | skip)
    refine GenH.need' G hin2 (GenH.call' G ?_)
    rw [hb1]
    refine hsm _ _ fun d hd => ?_
    cbv
    iterate 4 (first | (rw [hnn]; cbv) | (rw [hbb]; cbv) | skip)
    refine GenH.same' G rfl (GenH.need' G rfl ?_)
    rw [hb2, hne d hd]
    cbv
    iterate 4 (first | refine GenH.need' G rfl ?_ | rw [hone] | skip)
    rw [← hL] at hgo ⊢
    exact LoopP.weak (.cons rfl (.cons rfl (.cons rfl (.cons rfl (.cons rfl (.cons rfl (.nil _))))))) hgo

theorem places_digit (s : List UInt8) (hs : s.length ≤ 2000) (v : AV) (y : Int) (mm : Nat) (S : St) (K : Ex → Env → St → Prop) (n : Nat) :
    ∀ (q : Nat) (z : Int), z = q → q + n = s.length → (∀ z' : Int, z' = scan isDigit s q → K (.exit 4) (env5 s v z' y mm) S) →
      LoopP Tryd.prog (Lx.tab real) 143 c5c (Less K) (env5 s v z y mm) S := by
  induction n with
  | zero =>
    intro q z hz hq hK
    have hK := hK z (by unfold scan; rw [List.drop_eq_nil_of_le (by omega)]; simpa using hz)
    apply step5c
    apply gen_code (mk := Lx.tab)
    intro fail need same call loop len slen arith shift cmp conv eqS ltS cat app elt byt subS subL strOf isB fit inb cut room not and eqB avs G
    have hb : cmp BinOp.lss z (slen s) = false := by rw [G.cmp', G.slen']; simp [intRel]; omega
    generalize hL : LoopP Tryd.prog (Lx.tab real) 143 c5c (Less K) = L
    generalize hK' : Less K = K'
    unfold env5 at *
    clear hz hq
    cbv
    refine GenH.need' G rfl ?_
    rw [hb]
    cbv
    rw [← hK']
    exact ⟨_, .cons rfl (.cons rfl (.cons rfl (.cons rfl (.cons rfl (.nil _))))), hK⟩
  | succ n ih =>
    intro q z hz hq hK
    have hlt : q < s.length := by omega
    have hdrop : s.drop q = s[q] :: s.drop (q + 1) := List.drop_eq_getElem_cons hlt
    obtain ⟨c, hc⟩ : ∃ c, s[q] = c := ⟨_, rfl⟩
    rw [hc] at hdrop
    obtain ⟨cz, hcz⟩ : ∃ cz : Int, cz = c.toNat := ⟨_, rfl⟩
    have hgo : isDigit c = true → LoopP Tryd.prog (Lx.tab real) 143 c5c (Less K) (env5 s v (z + 1) y mm) S := fun h => by
      refine ih (q + 1) (z + 1) (by omega) (by omega) fun z' hz' => hK z' ?_
      unfold scan at hz' ⊢
      rw [hdrop, List.takeWhile_cons, h]
      simp only [if_true, List.length_cons]
      omega
    have hstop : isDigit c = false → K (.exit 4) (env5 s v z y mm) S := fun h => hK z (by
      unfold scan
      rw [hdrop, List.takeWhile_cons, h]
      simpa using hz)
    have hdig : isDigit c = (decide (48 ≤ c.toNat) && decide (c.toNat ≤ 57)) := rfl
    clear ih hK
    apply step5c
    apply gen_code (mk := Lx.tab)
    intro fail need same call loop len slen arith shift cmp conv eqS ltS cat app elt byt subS subL strOf isB fit inb cut room not and eqB avs G
    have hb : cmp BinOp.lss z (slen s) = true := by rw [G.cmp', G.slen']; simp [intRel]; omega
    have hin : inb z (slen s) = true := by rw [G.inb', G.slen']; simp; omega
    have hb1 : byt s z = cz := by rw [G.byt', hcz, ← hc, hz]; simp [List.getD_eq_getElem?_getD, hlt]
    have h1 : cmp BinOp.geq cz 48 = decide (48 ≤ c.toNat) := by rw [G.cmp', hcz]; simp only [intRel]; rw [Bool.eq_iff_iff]; simp only [decide_eq_true_eq]; omega
    have h2 : cmp BinOp.leq cz 57 = decide (c.toNat ≤ 57) := by rw [G.cmp', hcz]; simp only [intRel]; rw [Bool.eq_iff_iff]; simp only [decide_eq_true_eq]; omega
    have hone : arith BinOp.add IntKind.i64 z 1 = z + 1 := by rw [G.arith']; exact wrap_i64 _ (by omega) (by omega)
    rw [hdig] at hgo hstop
    generalize decide (48 ≤ c.toNat) = d1 at *
    generalize decide (c.toNat ≤ 57) = d2 at *
    clear hz hq hdrop hc hcz hdig hlt
    generalize hL : LoopP Tryd.prog (Lx.tab real) 143 c5c (Less K) = L at hgo ⊢
    generalize hK' : Less K = K' at hL ⊢
    generalize z + 1 = z1 at *
    unfold env5 at *
    cbv
    refine GenH.need' G rfl ?_
    rw [hb]
    cbv
    refine GenH.need' G hin (GenH.need' G rfl ?_)
    rw [hb1, h1]
    cases d1 with
    | false =>
      cbv
      rw [← hK']
      exact ⟨_, .cons rfl (.cons rfl (.cons rfl (.cons rfl (.cons rfl (.nil _))))), hstop rfl⟩
    | true =>
      cbv
      refine GenH.need' G hin (GenH.need' G rfl ?_)
      rw [hb1, h2]
      cases d2 with
      | false =>
        cbv
        rw [← hK']
        exact ⟨_, .cons rfl (.cons rfl (.cons rfl (.cons rfl (.cons rfl (.nil _))))), hstop rfl⟩
      | true =>
        cbv
        refine GenH.need' G rfl ?_
        rw [hone]
        have go := hgo rfl
        rw [← hL] at go ⊢
        exact LoopP.weak (.cons rfl (.cons rfl (.cons rfl (.cons rfl (.cons rfl (.nil _)))))) go
end Go.AM

namespace Go.AM
open Go.Proofs
set_option maxRecDepth 100000
set_option maxHeartbeats 1000000
set_option linter.unusedVariables false

theorem tw_get (q : UInt8 → Bool) : ∀ (l : List UInt8) (x : Nat), x < (l.takeWhile q).length → (l.takeWhile q).getD x 0 = l.getD x 0
  | [], x, h => by simp at h
  | c :: l, x, h => by
    rw [List.takeWhile_cons] at h ⊢
    cases hc : q c with
    | false => rw [hc] at h; simp at h
    | true =>
      rw [hc] at h
      simp only [if_true, List.length_cons] at h ⊢
      cases x with
      | zero => rfl
      | succ x => simpa using tw_get q l x (by omega)

theorem pre_get (x l : List UInt8) (h : x.isPrefixOf l = true) (m : Nat) (hm : m < x.length) : l.getD m 0 = x.getD m 0 := by
  rw [List.isPrefixOf_iff_prefix] at h
  obtain ⟨r, rfl⟩ := h
  simp [List.getD_eq_getElem?_getD, List.getElem?_append, hm]

section
variable {s : List UInt8} {i j : Nat} {t : Tk}

theorem TokIs.place (h : TokIs s i t j) : t.a = i := by cases h <;> rfl
theorem TokIs.kind (h : TokIs s i t j) : t.k = 0 ∨ t.k = 1 ∨ t.k = 2 ∨ t.k = 3 := by cases h <;> simp
theorem TokIs.nums (h : TokIs s i t j) : t.k = 1 → 0 ≤ t.n ∧ t.n < 9223372036854775808 := by
  intro hk
  cases h with
  | word => simp at hk
  | num hd v hv => simp only; omega
  | text => simp at hk
  | sign => simp at hk
theorem TokIs.size (h : TokIs s i t j) : t.t.length ≤ 400 := by
  cases h with
  | word w hw hl h32 => simp only [List.length_map]; omega
  | num => simp
  | text b j hb h4 => exact h4
  | sign x hx hp =>
    have : ∀ x ∈ Lx.signs, x.length ≤ 400 := by decide
    exact this x hx

theorem TokIs.bytes (h : TokIs s i t j) (hk : t.k = 0 ∨ t.k = 3) : i + t.t.length = j ∧ ∀ x, x < t.t.length → low (s.getD (i + x) 0) = t.t.getD x 0 := by
  cases h with
  | word w hw hl h32 =>
    refine ⟨by simp, fun x hx => ?_⟩
    simp only [List.length_map] at hx
    have h1 : w.getD x 0 = s.getD (i + x) 0 := by
      rw [hw] at hx ⊢
      rw [tw_get isWord _ x hx, getD_drop]
    rw [← h1]
    simp [List.getD_eq_getElem?_getD, hx]
  | num => simp at hk
  | text => simp at hk
  | sign x hx hp =>
    refine ⟨rfl, fun m hm => ?_⟩
    rw [← getD_drop, pre_get x _ hp m hm]
    have h1 : ∀ x ∈ Lx.signs, ∀ c ∈ x, low c = c := by decide
    refine h1 x hx _ ?_
    simp only at hm
    rw [List.getD_eq_getElem?_getD, List.getElem?_eq_getElem hm]
    exact List.getElem_mem hm

theorem TokIs.digits (h : TokIs s i t j) (hi : i < s.length) (hk : t.k = 1) : scan isDigit s (i + 1) = j := by
  cases h with
  | word => simp at hk
  | num hd v hv =>
    have hdrop : s.drop i = s.getD i 0 :: s.drop (i + 1) := by
      rw [List.drop_eq_getElem_cons hi]; simp [List.getD_eq_getElem?_getD, hi]
    unfold scan
    rw [hdrop, List.takeWhile_cons, hd]
    simp only [if_true, List.length_cons]
    omega
  | text => simp at hk
  | sign => simp at hk

theorem TokIs.spelt (h : TokIs s i t j) (hi : i < s.length) (hk : t.k = 2) : i + (spell t).length = j := by
  cases h with
  | word => simp at hk
  | num => simp at hk
  | text b j hb h4 =>
    have := txtN_dbl s _ _ _ _ _ _ _ (by omega) hb
    have h0 : (dbl []).length = 0 := rfl
    show i + (39 :: dbl b ++ [39]).length = j
    simp only [List.cons_append, List.length_cons, List.length_append, List.length_nil]
    omega
  | sign => simp at hk
end

theorem places_loop (s : List UInt8) (hs : s.length ≤ 2000) (l : List Tk) (hl : l.length ≤ 600) (K : Ex → Env → St → Prop) (hK : ∀ S', K (.exit 0) [(0, .str s), (3, tokV l)] S') (r : List Tk) :
    ∀ (pre : List Tk) (p : Nat) (z y : Int) (S : St), l = pre ++ r → z = p → p ≤ s.length → y = pre.length → Chain s p r →
      LoopP Tryd.prog (Lx.tab real) 143 c5 (Less K) [(0, .str s), (3, tokV l), (5, .int .i64 z), (6, .int .i64 y)] S := by
  induction r with
  | nil =>
    intro pre p z y S hpre hz hp hy hch
    have hlen : l.length = pre.length := by rw [hpre]; simp
    obtain ⟨e3, c3, m3, he3, hc3, _⟩ := tokV_len l
    rw [he3] at hK ⊢
    apply step5
    apply gen_code (mk := Lx.tab)
    intro fail need same call loop len slen arith shift cmp conv eqS ltS cat app elt byt subS subL strOf isB fit inb cut room not and eqB avs G
    have hb : cmp BinOp.lss y (len c3) = false := by rw [G.cmp', G.len', hc3]; simp [intRel]; omega
    generalize LoopP Tryd.prog (Lx.tab real) 143 c5 (Less K) = L at *
    generalize hK' : Less K = K' at *
    cbv
    refine GenH.need' G rfl ?_
    rw [hb]
    cbv
    rw [← hK']
    exact ⟨_, .cons rfl (.cons rfl (.nil _)), hK _⟩
  | cons t r ih =>
    intro pre p z y S hpre hz hp hy hch
    cases hch with
    | cons _ _ _ j hlt htok hj hle hrest =>
    have hk := skip_le s p hp
    have hgo := fun S' => ih (pre ++ [t]) j j (y + 1) S' (by rw [hpre]; simp) rfl hle (by simp; omega) hrest
    clear ih
    obtain ⟨jz, hjz⟩ : ∃ jz : Int, jz = j := ⟨_, rfl⟩
    rw [← hjz] at hgo
    obtain ⟨O, mm, caps⟩ := S
    obtain ⟨e3, c3, m3, he3, hc3, h3⟩ := tokV_len l
    have h33 := h3 (by intro h; rw [h] at hpre; simp at hpre)
    subst h33
    rw [he3] at hgo ⊢
    have hgap := gap_scan s p hp hs hlt
    have ha := htok.place
    have hkind := htok.kind
    have hnums := htok.nums
    have hsize := htok.size
    have hbytes := htok.bytes
    have hdigs := htok.digits hlt
    have hspelt := htok.spelt hlt
    obtain ⟨i, hi⟩ : ∃ i, skip s p = i := ⟨_, rfl⟩
    rw [hi] at hlt htok hj hk hgap ha hbytes hdigs hspelt
    have hspec := fun S K hK => spelled_spec t hnums (by omega) S K hK
    have hget : l[pre.length]? = some t := by rw [hpre]; simp
    have hylen : pre.length < l.length := by rw [hpre]; simp
    obtain ⟨k, tt, n, a⟩ := t
    simp only at ha hkind hnums hsize hbytes hdigs hspelt
    obtain ⟨sp, hsp⟩ : ∃ sp, spell ⟨k, tt, n, a⟩ = sp := ⟨_, rfl⟩
    rw [hsp] at hspec hspelt
    have hword : (k = 0 ∨ k = 3) → ∀ K hK, LoopP Tryd.prog (Lx.tab real) 143 c5b (Less K) (env5b s (.slice 32 c3 m3) jz y mm 0) ⟨(mm, [.int .i64 k, .str tt, .int .i64 n, .int .i64 a]) :: O, mm + 1, caps⟩ := fun h K hK =>
      places_word s hs (.slice 32 c3 m3) jz y mm k tt n a i ha (by have := (hbytes h).1; omega) (hbytes h).2 O caps K hK tt.length 0 0 rfl (by omega)
    have hdig : k = 1 → ∀ (z0 : Int) S0 K, z0 = i + 1 → (K (.exit 4) (env5 s (.slice 32 c3 m3) jz y mm) S0) → LoopP Tryd.prog (Lx.tab real) 143 c5c (Less K) (env5 s (.slice 32 c3 m3) z0 y mm) S0 := fun h z0 S0 K hz0 hK =>
      places_digit s hs (.slice 32 c3 m3) y mm S0 K (s.length - (i + 1)) (i + 1) z0 (by omega) (by omega) fun z' hz' => by
        have : z' = jz := by rw [hz', hjz, hdigs h]
        rw [this]; exact hK
    have w1 := fun S K => scan_spec ((s.drop p).take (i - p) ++ [10]) S K
    rw [hgap] at w1
    obtain ⟨g, hg⟩ : ∃ g, (s.drop p).take (i - p) = g := ⟨_, rfl⟩
    have hglen : g.length ≤ 2000 := by rw [← hg]; simp; omega
    rw [hg] at w1
    apply step5
    apply gen_code (mk := Lx.tab)
    intro fail need same call loop len slen arith shift cmp conv eqS ltS cat app elt byt subS subL strOf isB fit inb cut room not and eqB avs G
    have hb : cmp BinOp.lss y (len c3) = true := by rw [G.cmp', G.len', hc3]; simp [intRel]; omega
    have hin : inb y (len c3) = true := by rw [G.inb', G.len', hc3]; simp; omega
    have helt : elt c3 y = .agg [.int .i64 k, .str tt, .int .i64 n, .int .i64 a] := by
      rw [G.elt', hc3, hy]
      simp only [Int.toNat_natCast, List.getD_eq_getElem?_getD, List.getElem?_map, hget]
      rfl
    have hlss : cmp BinOp.lss a z = false := by rw [G.cmp']; simp [intRel]; omega
    have hgeq : cmp BinOp.geq a (slen s) = false := by rw [G.cmp', G.slen']; simp [intRel]; omega
    have hcut : cut z a (slen s) = true := by rw [G.cut', G.slen']; simp; omega
    have hsub : subS s z a = g := by
      rw [G.subS', hz, ha, ← hg]
      simp only [Int.toNat_natCast]
      rw [show ((i : Int) - (p : Int)).toNat = i - p by omega]
    have hcat : cat g [10] = g ++ [10] := by rw [G.cat']
    have hfit : fit g [10] = true := by rw [G.fit']; simp; omega
    have hne : not (eqS sDone [48, 48, 48, 48, 48]) = false := by rw [G.not', G.eqS']; rfl
    have hn0 : cmp BinOp.neq (len []) 0 = false := by rw [G.cmp', G.len']; rfl
    obtain ⟨a1, ha1⟩ : ∃ a1 : Int, a1 = i + 1 := ⟨_, rfl⟩
    have hone : arith BinOp.add IntKind.i64 a 1 = a1 := by rw [G.arith', ha, ha1]; exact wrap_i64 _ (by omega) (by omega)
    have h0 : cmp BinOp.eql k 0 = decide (k = 0) := by rw [G.cmp']; rfl
    have h1 : cmp BinOp.eql k 1 = decide (k = 1) := by rw [G.cmp']; rfl
    have h2 : cmp BinOp.eql k 2 = decide (k = 2) := by rw [G.cmp']; rfl
    have h3 : cmp BinOp.eql k 3 = decide (k = 3) := by rw [G.cmp']; rfl
    have hW : decide (k = 0) = true ∨ decide (k = 3) = true → decide (k = 1) = false ∧ decide (k = 2) = false ∧ arith BinOp.add IntKind.i64 a (slen tt) = jz ∧
        ∀ K, (K (.exit 2) (env5 s (.slice 32 c3 m3) jz y mm) ⟨(mm, [.int .i64 k, .str tt, .int .i64 n, .int .i64 a]) :: O, mm + 1, caps⟩) → LoopP Tryd.prog (Lx.tab real) 143 c5b (Less K) (env5b s (.slice 32 c3 m3) jz y mm 0) ⟨(mm, [.int .i64 k, .str tt, .int .i64 n, .int .i64 a]) :: O, mm + 1, caps⟩ := fun h => by
      have h' : k = 0 ∨ k = 3 := by simpa using h
      refine ⟨by simp; omega, by simp; omega, ?_, fun K hK => hword h' K hK⟩
      have := (hbytes h').1
      rw [G.arith', G.slen', hjz, ← this, ha]
      exact wrap_i64 ((i : Int) + (tt.length : Int)) (by omega) (by omega)
    have hN : decide (k = 1) = true → decide (k = 2) = false ∧ ∀ S0 K, (K (.exit 4) (env5 s (.slice 32 c3 m3) jz y mm) S0) → LoopP Tryd.prog (Lx.tab real) 143 c5c (Less K) (env5 s (.slice 32 c3 m3) a1 y mm) S0 := fun h => by
      have h' : k = 1 := by simpa using h
      exact ⟨by simp; omega, fun S0 K hK => hdig h' a1 S0 K ha1 hK⟩
    have hT : decide (k = 2) = true → arith BinOp.add IntKind.i64 a (slen sp) = jz := fun h => by
      have := hspelt (by simpa using h)
      rw [G.arith', G.slen', hjz, ← this, ha]
      exact wrap_i64 ((i : Int) + (sp.length : Int)) (by omega) (by omega)
    have hsome : decide (k = 0) = false → decide (k = 3) = false → decide (k = 1) = false → decide (k = 2) = true := fun e1 e2 e3 => by
      simp at e1 e2 e3 ⊢; omega
    have hyone : arith BinOp.add IntKind.i64 y 1 = y + 1 := by rw [G.arith']; exact wrap_i64 _ (by omega) (by omega)
    have hnn : Nat.beq mm mm = true := Nat.beq_refl mm
    have hbb : Nat.ble mm mm = true := Nat.ble_eq_true_of_le (Nat.le_refl mm)
    simp only [Tk.av] at hspec
    clear hword hdig hdigs hspelt hbytes hnums hkind hsize ha ha1 hi hlt htok hj hk hgap hpre hz hp hy hrest hle hjz hc3 he3 hget hylen hg hglen hs hl hsp
    generalize decide (k = 0) = d0 at *
    generalize decide (k = 1) = d1 at *
    generalize decide (k = 2) = d2 at *
    generalize decide (k = 3) = d3 at *
    generalize g ++ [10] = g2 at *
    generalize sDone = sd at *
    generalize y + 1 = y1 at *
    generalize hL : LoopP Tryd.prog (Lx.tab real) 143 c5 (Less K) = L at hgo ⊢
    generalize hK' : Less K = K' at hL ⊢
    cbv at hnn hbb
    cbv
    refine GenH.need' G rfl ?_
    rw [hb]
    cbv
    refine GenH.need' G hin ?_
    rw [helt]
    cbv
    iterate 6 (first | (rw [hnn]; cbv) | (rw [hbb]; cbv) | skip)
    refine GenH.need' G rfl ?_
    rw [hlss]
    cbv
    iterate 6 (first | (rw [hnn]; cbv) | (rw [hbb]; cbv) | skip)
    refine GenH.need' G rfl ?_
    rw [hgeq]
    cbv
    iterate 6 (first | (rw [hnn]; cbv) | (rw [hbb]; cbv) | skip)
    refine GenH.need' G hcut ?_
    rw [hsub]
    refine GenH.need' G hfit (GenH.call' G ?_)
    rw [hcat]
    refine w1 _ _ ?_
    cbv
    rw [hne]
    cbv
    refine GenH.need' G rfl ?_
    rw [hn0]
    cbv
    iterate 6 (first | (rw [hnn]; cbv) | (rw [hbb]; cbv) | skip)
    refine GenH.need' G rfl ?_
    cbv
    iterate 6 (first | (rw [hnn]; cbv) | (rw [hbb]; cbv) | skip)
    refine GenH.need' G rfl ?_
    rw [h0, hone]
    cases d0 with
    | true =>
      obtain ⟨e1, e2, hadd, hlp⟩ := hW (by simp)
      subst e1
      subst e2
      cbv
      iterate 6 (first | (rw [hnn]; cbv) | (rw [hbb]; cbv) | skip)
      refine GenH.need' G rfl ?_
      rw [hadd]
      cbv
      iterate 6 (first | (rw [hnn]; cbv) | (rw [hbb]; cbv) | skip)
      refine GenH.loop' G ?_
      change LoopP Tryd.prog (Lx.tab real) 143 c5b _ _ _
      refine LoopP.relax (LoopP.weak (env' := env5b s (.slice 32 c3 m3) jz y mm 0) (.cons rfl (.cons rfl (.cons rfl (.cons rfl (.cons rfl (.cons rfl (.nil _))))))) ?_)
      refine hlp _ ?_
      unfold env5
      cbv
      iterate 6 (first | (rw [hnn]; cbv) | (rw [hbb]; cbv) | skip)
      refine GenH.need' G rfl ?_
      rw [h1]
      cbv
      iterate 6 (first | (rw [hnn]; cbv) | (rw [hbb]; cbv) | skip)
      refine GenH.need' G rfl ?_
      rw [h2]
      cbv
      refine GenH.need' G rfl ?_
      rw [hyone]
      have go := fun S' => hgo S'
      rw [← hL] at go ⊢
      exact LoopP.weak (env' := [(0, .str s), (3, .slice 32 c3 m3), (5, .int .i64 jz), (6, .int .i64 y1)]) (.cons rfl (.cons rfl (.cons rfl (.cons rfl (.nil _))))) (go _)

    | false =>
      cbv
      iterate 6 (first | (rw [hnn]; cbv) | (rw [hbb]; cbv) | skip)
      refine GenH.need' G rfl ?_
      rw [h3]
      cases d3 with
      | true =>
        obtain ⟨e1, e2, hadd, hlp⟩ := hW (by simp)
        subst e1
        subst e2
        cbv
        iterate 6 (first | (rw [hnn]; cbv) | (rw [hbb]; cbv) | skip)
        refine GenH.need' G rfl ?_
        rw [hadd]
        cbv
        iterate 6 (first | (rw [hnn]; cbv) | (rw [hbb]; cbv) | skip)
        refine GenH.loop' G ?_
        change LoopP Tryd.prog (Lx.tab real) 143 c5b _ _ _
        refine LoopP.relax (LoopP.weak (env' := env5b s (.slice 32 c3 m3) jz y mm 0) (.cons rfl (.cons rfl (.cons rfl (.cons rfl (.cons rfl (.cons rfl (.nil _))))))) ?_)
        refine hlp _ ?_
        unfold env5
        cbv
        iterate 6 (first | (rw [hnn]; cbv) | (rw [hbb]; cbv) | skip)
        refine GenH.need' G rfl ?_
        rw [h1]
        cbv
        iterate 6 (first | (rw [hnn]; cbv) | (rw [hbb]; cbv) | skip)
        refine GenH.need' G rfl ?_
        rw [h2]
        cbv
        refine GenH.need' G rfl ?_
        rw [hyone]
        have go := fun S' => hgo S'
        rw [← hL] at go ⊢
        exact LoopP.weak (env' := [(0, .str s), (3, .slice 32 c3 m3), (5, .int .i64 jz), (6, .int .i64 y1)]) (.cons rfl (.cons rfl (.cons rfl (.cons rfl (.nil _))))) (go _)

      | false =>
        cbv
        iterate 6 (first | (rw [hnn]; cbv) | (rw [hbb]; cbv) | skip)
        refine GenH.need' G rfl ?_
        rw [h1]
        cases d1 with
        | true =>
          obtain ⟨e2, hlp⟩ := hN rfl
          subst e2
          cbv
          refine GenH.loop' G ?_
          change LoopP Tryd.prog (Lx.tab real) 143 c5c _ _ _
          refine LoopP.relax (LoopP.weak (env' := env5 s (.slice 32 c3 m3) a1 y mm) (.cons rfl (.cons rfl (.cons rfl (.cons rfl (.cons rfl (.nil _)))))) ?_)
          refine hlp _ _ ?_
          unfold env5
          cbv
          iterate 6 (first | (rw [hnn]; cbv) | (rw [hbb]; cbv) | skip)
          refine GenH.need' G rfl ?_
          rw [h2]
          cbv
          refine GenH.need' G rfl ?_
          rw [hyone]
          have go := fun S' => hgo S'
          rw [← hL] at go ⊢
          exact LoopP.weak (env' := [(0, .str s), (3, .slice 32 c3 m3), (5, .int .i64 jz), (6, .int .i64 y1)]) (.cons rfl (.cons rfl (.cons rfl (.cons rfl (.nil _))))) (go _)
        | false =>
          have e2 := hsome rfl rfl rfl
          subst e2
          cbv
          iterate 6 (first | (rw [hnn]; cbv) | (rw [hbb]; cbv) | skip)
          refine GenH.need' G rfl ?_
          rw [h2]
          cbv
          iterate 6 (first | (rw [hnn]; cbv) | (rw [hbb]; cbv) | skip)
          refine GenH.call' G (hspec _ _ ?_)
          cbv
          iterate 6 (first | (rw [hnn]; cbv) | (rw [hbb]; cbv) | skip)
          refine GenH.same' G rfl (GenH.need' G rfl (GenH.need' G rfl ?_))
          rw [hT rfl, hyone]
          have go := fun S' => hgo S'
          rw [← hL] at go ⊢
          exact LoopP.weak (env' := [(0, .str s), (3, .slice 32 c3 m3), (5, .int .i64 jz), (6, .int .i64 y1)]) (.cons rfl (.cons rfl (.cons rfl (.cons rfl (.nil _))))) (go _)

theorem places_law (s : List UInt8) : CallP Tryd.prog (Lx.tab real) 5 [.str s] St.nil fun o _ => o = .ret (.bool true) := by
  apply body_calls (un := 0) Lx.tabOk Lx.mixed Lx.fn5 (Nat.le_of_ble_eq_true rfl)
  apply gen_body (mk := Lx.tab)
  intro fail need same call loop len slen arith shift cmp conv eqS ltS cat app elt byt subS subL strOf isB fit inb cut room not and eqB avs G
  have w1 := fun S K => scan_spec s S K
  have hch := lex_chain s
  have hbad := (lexScan_done s).2.2
  obtain ⟨l, hl⟩ : ∃ l, (lexScan s).1 = l := ⟨_, rfl⟩
  obtain ⟨e, he⟩ : ∃ e, (lexScan s).2 = e := ⟨_, rfl⟩
  rw [hl, he] at w1 hch hbad
  have nee : not (eqS e [48, 48, 48, 48, 48]) = !(e == sDone) := by rw [G.not', G.eqS']; rfl
  have hloop : (e == sDone) = true → ∀ K (hK : ∀ S', K (.exit 0) [(0, .str s), (3, tokV l)] S'), LoopP Tryd.prog (Lx.tab real) 143 c5 (Less K) [(0, .str s), (3, tokV l), (5, .int .i64 0), (6, .int .i64 0)] ⟨[], 0, []⟩ := fun h K hK => by
    obtain ⟨h1, h2, h3⟩ := hch (by simpa using h)
    exact places_loop s h1 l h2 K hK l [] 0 0 0 _ rfl rfl (Nat.zero_le _) rfl h3
  obtain ⟨t1, c1, m1, he1, hc1, _⟩ := tokV_len l
  have hleq : (e == sDone) = true → cmp BinOp.leq (len c1) 600 = true := fun h => by
    obtain ⟨_, h2, _⟩ := hch (by simpa using h)
    rw [G.cmp', G.len', hc1]; simp [intRel]; omega
  have hzero : (e == sDone) = false → cmp BinOp.eql (len c1) 0 = true := fun h => by
    rw [G.cmp', G.len', hc1, hbad (by simpa using h)]; rfl
  rw [he1] at w1 hloop
  generalize hK' : (fun (o : Out) (_ : St) => o = .ret (.bool true)) = K0
  have hfin : ∀ S, K0 (.ret (.bool true)) S := fun S => by rw [← hK']
  generalize hse : (e == sDone) = se at *
  clear hl he hch hbad hc1 he1 hse
  cbv
  refine GenH.call' G (w1 _ _ ?_)
  cbv
  rw [nee]
  cases se with
  | false =>
    cbv
    refine GenH.call' G (alive_spec _ _ ?_)
    cbv
    refine GenH.need' G rfl ?_
    rw [hzero rfl]
    exact hfin _
  | true =>
    cbv
    refine GenH.loop' G ?_
    change LoopP Tryd.prog (Lx.tab real) 143 c5 _ _ _
    refine LoopP.relax (LoopP.weak (env' := [(0, .str s), (3, .slice t1 c1 m1), (5, .int .i64 0), (6, .int .i64 0)]) (.cons rfl (.cons rfl (.cons rfl (.cons rfl (.nil _))))) ?_)
    refine hloop rfl _ fun S' => ?_
    cbv
    refine GenH.call' G (alive_spec _ _ ?_)
    cbv
    refine GenH.need' G rfl ?_
    rw [hleq rfl]
    exact hfin _
end Go.AM
