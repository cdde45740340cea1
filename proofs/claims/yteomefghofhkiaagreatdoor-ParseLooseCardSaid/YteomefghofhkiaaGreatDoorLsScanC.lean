/- The document's scanner. -/
import Derived.Test.YteomefghofhkiaaGreatDoorLsScanB
set_option maxRecDepth 100000
set_option maxHeartbeats 2000000
set_option linter.unusedVariables false
namespace Go.AM
open Go.Proofs
theorem Pl.fn28 : FnOk Tryz.prog 28 (fni Tryz.f28 Pr.a28) := ⟨⟨Tryz.f28, Tryz.func28, rfl, rfl, rfl, by kernel_rfl⟩, by kernel_rfl⟩
noncomputable def c18 : Code := (fni Tryz.f28 Pr.a28).loop 0
theorem Pl.c18 : codeOk 55 Pr.a28 c18 = true := by kernel_rfl
theorem step18 (K : Ex → Env → St → Prop) (env : Env) (S : St) (h : xcode (pAlg Tryz.prog (Pr.tab real) 55) (Pr.tab real) Pr.a28 0 c18 (andThen (LoopP Tryz.prog (Pr.tab real) 55 c18 K) K) env S) : LoopP Tryz.prog (Pr.tab real) 55 c18 K env S :=
 loopP_step Pr.tabOk Pr.mixed Pl.c18 h
def envWd (s : List UInt8) (z y : Int) (l : List UInt8) : Env := [(0, .str s), (1, .int .i64 z), (4, .ptr 0 0), (7, .int .i64 y), (8, .str l)]
theorem low_toNat (c : UInt8) : ((low c).toNat : Int) = if 65 ≤ c.toNat ∧ c.toNat ≤ 90 then (c.toNat : Int) + 32 else c.toNat := by
 unfold low
 have hb := c.toNat_lt
 by_cases h : 65 ≤ c.toNat ∧ c.toNat ≤ 90
 · rw [if_pos h, if_pos h, UInt8.toNat_add]
   have : (32 : UInt8).toNat = 32 := rfl
   rw [this]
   omega
 · rw [if_neg h, if_neg h]
theorem word_loop (s : List UInt8) (hs : s.length ≤ 1000000) (i : Nat) (z : Int) (hz : z = i) (S : St) (K : Ex → Env → St → Prop) (m : Nat) :
  ∀ (n : Nat) (y : Int) (l : List UInt8), y = n → i + n + m = s.length → l.length = n →
   (∀ (y' : Int), y' = n + ((s.drop (i + n)).takeWhile isWord).length → K (.exit 0) (envWd s z y' (l ++ ((s.drop (i + n)).takeWhile isWord).map low)) S) →
   LoopP Tryz.prog (Pr.tab real) 55 c18 (Less K) (envWd s z y l) S := by
 induction m with
 | zero =>
  intro n y l hy hm hl hK
  have hfin : K (.exit 0) (envWd s z y l) S := by
   have := hK y (by rw [List.drop_eq_nil_of_le (by omega)]; simpa using hy)
   rw [List.drop_eq_nil_of_le (by omega)] at this
   simpa using this
  apply step18
  apply gen_code (mk := Pr.tab)
  intro fail need same call loop len slen arith shift cmp conv eqS ltS cat app elt byt subS subL strOf isB fit inb cut room not and eqB avs G
  generalize hL : LoopP Tryz.prog (Pr.tab real) 55 c18 (Less K) = L
  generalize hK' : Less K = K'
  have hadd : arith BinOp.add IntKind.i64 z y = z + y := by rw [G.arith']; exact wrap_i64 _ (by omega) (by omega)
  have hb : cmp BinOp.lss (z + y) (slen s) = false := by rw [G.cmp', G.slen']; simp [intRel]; omega
  cbv
  refine GenH.need' G rfl (GenH.need' G rfl ?_)
  rw [hadd, hb]
  cbv
  rw [← hK']
  exact ⟨envWd s z y l, .cons rfl (.cons rfl (.cons rfl (.cons rfl (.cons rfl (.nil _))))), hfin⟩
 | succ m ih =>
  intro n y l hy hm hl hK
  have hlt : i + n < s.length := by omega
  have hdrop : s.drop (i + n) = s[i + n] :: s.drop (i + n + 1) := List.drop_eq_getElem_cons hlt
  obtain ⟨c, hc⟩ : ∃ c, s[i + n] = c := ⟨_, rfl⟩
  rw [hc] at hdrop
  have hfin : isLetter c = false → isDigit c = false → K (.exit 0) (envWd s z y l) S := fun h1 h2 => by
   have hw : isWord c = false := by unfold isWord; rw [h1, h2]; rfl
   have h3 : (s.drop (i + n)).takeWhile isWord = [] := by rw [hdrop, List.takeWhile_cons, hw]; simp
   have := hK y (by rw [h3]; simpa using hy)
   rw [h3] at this
   simpa using this
  have hgo : (isLetter c = true ∨ isDigit c = true) → LoopP Tryz.prog (Pr.tab real) 55 c18 (Less K) (envWd s z (y + 1) (l ++ [low c])) S := fun h1 => by
   have hw : isWord c = true := by unfold isWord; rcases h1 with h | h <;> simp [h]
   have h3 : (s.drop (i + n)).takeWhile isWord = c :: (s.drop (i + (n + 1))).takeWhile isWord := by rw [hdrop, List.takeWhile_cons, hw, ← Nat.add_assoc]; simp
   refine ih (n + 1) (y + 1) (l ++ [low c]) (by omega) (by omega) (by simp [hl]) fun y' hy' => ?_
   have := hK y' (by rw [h3, hy']; simp only [List.length_cons]; omega)
   rw [h3] at this
   simpa using this
  clear ih hK
  obtain ⟨cz, hcz⟩ : ∃ cz : Int, cz = c.toNat := ⟨_, rfl⟩
  obtain ⟨lz, hlz⟩ : ∃ lz : Int, lz = (low c).toNat := ⟨_, rfl⟩
  have hlz' : lz = if 65 ≤ c.toNat ∧ c.toNat ≤ 90 then cz + 32 else cz := by rw [hlz, hcz]; exact low_toNat c
  apply step18
  apply gen_code (mk := Pr.tab)
  intro fail need same call loop len slen arith shift cmp conv eqS ltS cat app elt byt subS subL strOf isB fit inb cut room not and eqB avs G
  have hadd : arith BinOp.add IntKind.i64 z y = z + y := by rw [G.arith']; exact wrap_i64 _ (by omega) (by omega)
  have hone : arith BinOp.add IntKind.i64 y 1 = y + 1 := by rw [G.arith']; exact wrap_i64 _ (by omega) (by omega)
  have hb : cmp BinOp.lss (z + y) (slen s) = true := by rw [G.cmp', G.slen']; simp [intRel]; omega
  have hin : inb (z + y) (slen s) = true := by rw [G.inb', G.slen']; simp; omega
  have hbyt : byt s (z + y) = cz := by
   rw [G.byt', hz, hy, hcz, ← hc]; simp only []; rw [show ((i : Int) + (n : Int)).toNat = i + n by omega]; simp [List.getD_eq_getElem?_getD, hlt]
  have hA : ∀ S K, K (.ret (.bool (isLetter c))) S → CallP Tryz.prog (Pr.tab real) 26 [.int .u8 cz] S K := fun S K h => by rw [hcz]; exact asks16 c S K h
  have hD : ∀ S K, K (.ret (.bool (isDigit c))) S → CallP Tryz.prog (Pr.tab real) 27 [.int .u8 cz] S K := fun S K h => by rw [hcz]; exact asks17 c S K h
  have h65 : cmp BinOp.geq cz 65 = decide (65 ≤ c.toNat) := by rw [G.cmp', hcz]; simp only [intRel]; rw [Bool.eq_iff_iff]; simp only [decide_eq_true_eq]; omega
  have h90 : cmp BinOp.leq cz 90 = decide (c.toNat ≤ 90) := by rw [G.cmp', hcz]; simp only [intRel]; rw [Bool.eq_iff_iff]; simp only [decide_eq_true_eq]; omega
  have hup : decide (65 ≤ c.toNat) = true → decide (c.toNat ≤ 90) = true → arith BinOp.add IntKind.u8 cz 32 = lz := fun h1 h2 => by
   have h1' := of_decide_eq_true h1
   have h2' := of_decide_eq_true h2
   rw [hlz', if_pos ⟨h1', h2'⟩, G.arith']
   simp only [intBin]
   rw [IntKind.wrap_u8]
   omega
  have hsame : decide (65 ≤ c.toNat) = false ∨ decide (c.toNat ≤ 90) = false → cz = lz := fun h => by
   rw [hlz', if_neg]
   rintro ⟨h1, h2⟩
   rcases h with h | h
   · exact of_decide_eq_false h h1
   · exact of_decide_eq_false h h2
  have hisB : isB [.int .u8 lz] = true := by rw [G.isB']; rfl
  have hstr : strOf [.int .u8 lz] = [low c] := by rw [G.strOf', hlz]; simp [byteOf]
  have hfit : fit l [low c] = true := by rw [G.fit']; simp; omega
  have hcat : cat l [low c] = l ++ [low c] := by rw [G.cat']
  have hn1 : not true = false := by rw [G.not']; rfl
  have hn0 : not false = true := by rw [G.not']; rfl
  generalize hL : LoopP Tryz.prog (Pr.tab real) 55 c18 (Less K) = L at hgo ⊢
  generalize hK' : Less K = K' at hL ⊢
  generalize hll : l ++ [low c] = l2 at *
  generalize [low c] = lc1 at *
  generalize hq1 : isLetter c = q1 at *
  generalize hq2 : isDigit c = q2 at *
  generalize hd1 : decide (65 ≤ c.toNat) = d1 at *
  generalize hd2 : decide (c.toNat ≤ 90) = d2 at *
  generalize hy1 : y + 1 = y1 at *
  generalize hzy : z + y = zy at *
  clear hlz' hlz hcz hll hq1 hq2 hd1 hd2
  have rest : (q1 = true ∨ q2 = true) → L (envWd s z y1 l2) S := hgo
  cbv
  refine GenH.need' G rfl (GenH.need' G rfl ?_)
  rw [hadd, hb]
  cbv
  refine GenH.need' G rfl ?_
  rw [hadd]
  refine GenH.need' G hin ?_
  rw [hbyt]
  refine GenH.call' G (hA _ _ ?_)
  cbv
  refine GenH.call' G (hD _ _ ?_)
  cbv
  cases q1 with
  | false =>
   rw [hn0]
   cbv
   cases q2 with
   | false =>
    rw [hn0]
    cbv
    rw [← hK']
    exact ⟨envWd s z y l, .cons rfl (.cons rfl (.cons rfl (.cons rfl (.cons rfl (.nil _))))), hfin rfl rfl⟩
   | true =>
    have rest := rest (.inr rfl)
    rw [hn1]
    cbv
    refine GenH.need' G rfl ?_
    rw [h65]
    cases d1 with
    | false =>
     have he := hsame (.inl rfl)
     cbv
     rw [he]
     refine GenH.need' G rfl (GenH.need' G hisB ?_)
     rw [hstr]
     refine GenH.need' G hfit ?_
     rw [hcat]
     refine GenH.need' G rfl ?_
     rw [hone]
     rw [← hL] at rest ⊢
     exact LoopP.weak (env' := envWd s z y1 l2) (.cons rfl (.cons rfl (.cons rfl (.cons rfl (.cons rfl (.nil _)))))) rest
    | true =>
     cbv
     refine GenH.need' G rfl ?_
     rw [h90]
     cases d2 with
     | false =>
      have he := hsame (.inr rfl)
      cbv
      rw [he]
      refine GenH.need' G rfl (GenH.need' G hisB ?_)
      rw [hstr]
      refine GenH.need' G hfit ?_
      rw [hcat]
      refine GenH.need' G rfl ?_
      rw [hone]
      rw [← hL] at rest ⊢
      exact LoopP.weak (env' := envWd s z y1 l2) (.cons rfl (.cons rfl (.cons rfl (.cons rfl (.cons rfl (.nil _)))))) rest
     | true =>
      have he := hup rfl rfl
      cbv
      refine GenH.need' G rfl ?_
      rw [he]
      refine GenH.need' G rfl (GenH.need' G hisB ?_)
      rw [hstr]
      refine GenH.need' G hfit ?_
      rw [hcat]
      refine GenH.need' G rfl ?_
      rw [hone]
      rw [← hL] at rest ⊢
      exact LoopP.weak (env' := envWd s z y1 l2) (.cons rfl (.cons rfl (.cons rfl (.cons rfl (.cons rfl (.nil _)))))) rest
  | true =>
   have rest := rest (.inl rfl)
   rw [hn1]
   cbv
   refine GenH.need' G rfl ?_
   rw [h65]
   cases d1 with
   | false =>
    have he := hsame (.inl rfl)
    cbv
    rw [he]
    refine GenH.need' G rfl (GenH.need' G hisB ?_)
    rw [hstr]
    refine GenH.need' G hfit ?_
    rw [hcat]
    refine GenH.need' G rfl ?_
    rw [hone]
    rw [← hL] at rest ⊢
    exact LoopP.weak (env' := envWd s z y1 l2) (.cons rfl (.cons rfl (.cons rfl (.cons rfl (.cons rfl (.nil _)))))) rest
   | true =>
    cbv
    refine GenH.need' G rfl ?_
    rw [h90]
    cases d2 with
    | false =>
     have he := hsame (.inr rfl)
     cbv
     rw [he]
     refine GenH.need' G rfl (GenH.need' G hisB ?_)
     rw [hstr]
     refine GenH.need' G hfit ?_
     rw [hcat]
     refine GenH.need' G rfl ?_
     rw [hone]
     rw [← hL] at rest ⊢
     exact LoopP.weak (env' := envWd s z y1 l2) (.cons rfl (.cons rfl (.cons rfl (.cons rfl (.cons rfl (.nil _)))))) rest
    | true =>
     have he := hup rfl rfl
     cbv
     refine GenH.need' G rfl ?_
     rw [he]
     refine GenH.need' G rfl (GenH.need' G hisB ?_)
     rw [hstr]
     refine GenH.need' G hfit ?_
     rw [hcat]
     refine GenH.need' G rfl ?_
     rw [hone]
     rw [← hL] at rest ⊢
     exact LoopP.weak (env' := envWd s z y1 l2) (.cons rfl (.cons rfl (.cons rfl (.cons rfl (.cons rfl (.nil _)))))) rest
def refWord (w : List UInt8) (i : Nat) : AV := match decide (32 < w.length) with
 | true => .tup [.agg [.int .i64 0, .str [], .int .i64 0, .int .i64 0], .int .i64 0, .str sSyntax]
 | false => .tup [.agg [.int .i64 0, .str (w.map low), .int .i64 0, .int .i64 i], .int .i64 w.length, .str sDone]
theorem word_spec (s : List UInt8) (hs : s.length ≤ 1000000) (i : Nat) (z : Int) (hz : z = i) (hi : i ≤ s.length) (S : St) (K : Out → St → Prop) (hK : K (.ret (refWord ((s.drop i).takeWhile isWord) i)) S) :
  CallP Tryz.prog (Pr.tab real) 28 [.str s, .int .i64 z] S K := by
 refine CallP.lift (K0 := fun o _ => o = .ret (refWord ((s.drop i).takeWhile isWord) i)) rfl ?_ (by
  rintro o S0 rfl
  unfold refWord at hK ⊢
  generalize decide (32 < ((s.drop i).takeWhile isWord).length) = d at *
  cases d <;> exact hK)
 apply body_calls (un := 0) Pr.tabOk Pr.mixed Pl.fn28 (Nat.le_of_ble_eq_true rfl)
 apply gen_body (mk := Pr.tab)
 intro fail need same call loop len slen arith shift cmp conv eqS ltS cat app elt byt subS subL strOf isB fit inb cut room not and eqB avs G
 obtain ⟨w, hw⟩ : ∃ w, (s.drop i).takeWhile isWord = w := ⟨_, rfl⟩
 have hwl := (List.takeWhile_prefix isWord (l := s.drop i)).length_le
 rw [hw] at hwl
 simp at hwl
 have hloop := fun K h => word_loop s hs i z hz ⟨[(0, [.int .i64 0, .str [], .int .i64 0, .int .i64 0])], 1, []⟩ K (s.length - i) 0 0 [] rfl (by omega) rfl h
 rw [Nat.add_zero, hw] at hloop
 rw [hw]
 have hgt : ∀ y : Int, y = ((0 : Nat) : Int) + w.length → cmp BinOp.gtr y 32 = decide (32 < w.length) := fun y hy => by
  rw [G.cmp', hy]; simp only [intRel]; rw [Bool.eq_iff_iff]; simp only [decide_eq_true_eq]; omega
 have h1 : decide (32 < w.length) = true → ∀ S : St, (fun (o : Out) (_ : St) => o = .ret (refWord w i)) (.ret (.tup [.agg [.int .i64 0, .str [], .int .i64 0, .int .i64 0], .int .i64 0, .str sSyntax])) S := fun h S => by
  show _ = _
  unfold refWord; rw [h]
 have h2 : decide (32 < w.length) = false → ∀ y : Int, y = ((0 : Nat) : Int) + w.length → ∀ S : St, (fun (o : Out) (_ : St) => o = .ret (refWord w i)) (.ret (.tup [.agg [.int .i64 0, .str (w.map low), .int .i64 0, .int .i64 z], .int .i64 y, .str sDone])) S := fun h y hy S => by
  show _ = _
  unfold refWord; rw [h, hz, hy]; simp
 generalize (fun (o : Out) (_ : St) => o = .ret (refWord w i)) = K0 at *
 generalize decide (32 < w.length) = dw at *
 generalize hwm : ([] : List UInt8) ++ w.map low = wm at *
 rw [List.nil_append] at hwm
 rw [hwm] at h2
 generalize (((0 : Nat) : Int) + (w.length : Int)) = yw at *
 cbv
 refine GenH.loop' G ?_
 change LoopP Tryz.prog (Pr.tab real) 55 c18 _ _ _
 refine LoopP.relax (LoopP.weak (env' := envWd s z 0 []) (.cons rfl (.cons rfl (.cons rfl (.cons rfl (.cons rfl (.nil _)))))) ?_)
 refine hloop _ fun y hy => ?_
 have hg := hgt y hy
 have h2 := fun h => h2 h y hy
 cbv
 refine GenH.need' G rfl ?_
 rw [hg]
 cases dw with
 | true => have h1 := h1 rfl; cbv; exact h1 _
 | false => have h2 := h2 rfl; cbv; exact h2 _
end Go.AM
namespace Go.AM
open Go.Proofs
theorem Pl.fn29 : FnOk Tryz.prog 29 (fni Tryz.f29 Pr.a29) := ⟨⟨Tryz.f29, Tryz.func29, rfl, rfl, rfl, by kernel_rfl⟩, by kernel_rfl⟩
noncomputable def c19 : Code := (fni Tryz.f29 Pr.a29).loop 0
theorem Pl.c19 : codeOk 75 Pr.a29 c19 = true := by kernel_rfl
theorem step19 (K : Ex → Env → St → Prop) (env : Env) (S : St) (h : xcode (pAlg Tryz.prog (Pr.tab real) 75) (Pr.tab real) Pr.a29 0 c19 (andThen (LoopP Tryz.prog (Pr.tab real) 75 c19 K) K) env S) : LoopP Tryz.prog (Pr.tab real) 75 c19 K env S :=
 loopP_step Pr.tabOk Pr.mixed Pl.c19 h
def envNu (s : List UInt8) (z y v : Int) (ov : Bool) : Env := [(0, .str s), (1, .int .i64 z), (4, .ptr 0 0), (7, .int .i64 y), (8, .int .u64 v), (9, .bool ov)]
theorem number_loop (s : List UInt8) (hs : s.length ≤ 1000000) (i : Nat) (z : Int) (hz : z = i) (S : St) (K : Ex → Env → St → Prop) (m : Nat) :
  ∀ (n acc : Nat) (y v : Int), y = n → i + n + m = s.length → 0 ≤ v → v < 18446744073709551616 → (acc < 9223372036854775808 → v = acc) →
   (∀ (y' v' : Int), y' = n + ((s.drop (i + n)).takeWhile isDigit).length → (numFold acc ((s.drop (i + n)).takeWhile isDigit) < 9223372036854775808 → v' = numFold acc ((s.drop (i + n)).takeWhile isDigit)) → 0 ≤ v' → v' < 18446744073709551616 →
     K (.exit 0) (envNu s z y' v' (decide (9223372036854775808 ≤ numFold acc ((s.drop (i + n)).takeWhile isDigit)))) S) →
   LoopP Tryz.prog (Pr.tab real) 75 c19 (Less K) (envNu s z y v (decide (9223372036854775808 ≤ acc))) S := by
 induction m with
 | zero =>
  intro n acc y v hy hm hv0 hv1 hv hK
  have hfin : K (.exit 0) (envNu s z y v (decide (9223372036854775808 ≤ acc))) S := by
   have h0 : (s.drop (i + n)).takeWhile isDigit = [] := by rw [List.drop_eq_nil_of_le (by omega)]; rfl
   have := hK y v (by rw [h0]; simpa using hy) (by rw [h0]; exact hv) hv0 hv1
   rw [h0] at this
   exact this
  apply step19
  apply gen_code (mk := Pr.tab)
  intro fail need same call loop len slen arith shift cmp conv eqS ltS cat app elt byt subS subL strOf isB fit inb cut room not and eqB avs G
  generalize hL : LoopP Tryz.prog (Pr.tab real) 75 c19 (Less K) = L
  generalize hK' : Less K = K'
  generalize hov : decide (9223372036854775808 ≤ acc) = ov at *
  have hadd : arith BinOp.add IntKind.i64 z y = z + y := by rw [G.arith']; exact wrap_i64 _ (by omega) (by omega)
  have hb : cmp BinOp.lss (z + y) (slen s) = false := by rw [G.cmp', G.slen']; simp [intRel]; omega
  cbv
  refine GenH.need' G rfl (GenH.need' G rfl ?_)
  rw [hadd, hb]
  cbv
  rw [← hK']
  exact ⟨envNu s z y v ov, .cons rfl (.cons rfl (.cons rfl (.cons rfl (.cons rfl (.cons rfl (.nil _)))))), hfin⟩
 | succ m ih =>
  intro n acc y v hy hm hv0 hv1 hv hK
  have hlt : i + n < s.length := by omega
  have hdrop : s.drop (i + n) = s[i + n] :: s.drop (i + n + 1) := List.drop_eq_getElem_cons hlt
  obtain ⟨c, hc⟩ : ∃ c, s[i + n] = c := ⟨_, rfl⟩
  rw [hc] at hdrop
  have hfin : isDigit c = false → K (.exit 0) (envNu s z y v (decide (9223372036854775808 ≤ acc))) S := fun h2 => by
   have h3 : (s.drop (i + n)).takeWhile isDigit = [] := by rw [hdrop, List.takeWhile_cons, h2]; simp
   have := hK y v (by rw [h3]; simpa using hy) (by rw [h3]; exact hv) hv0 hv1
   rw [h3] at this
   exact this
  obtain ⟨cz, hcz⟩ : ∃ cz : Int, cz = c.toNat := ⟨_, rfl⟩
  have hgo : isDigit c = true → ∀ v2 : Int, 0 ≤ v2 → v2 < 18446744073709551616 → (acc * 10 + (c.toNat - 48) < 9223372036854775808 → v2 = ((acc * 10 + (c.toNat - 48) : Nat) : Int)) →
    LoopP Tryz.prog (Pr.tab real) 75 c19 (Less K) (envNu s z (y + 1) v2 (decide (9223372036854775808 ≤ acc * 10 + (c.toNat - 48)))) S := fun h1 v2 h20 h21 hv2 => by
   have h3 : (s.drop (i + n)).takeWhile isDigit = c :: (s.drop (i + (n + 1))).takeWhile isDigit := by rw [hdrop, List.takeWhile_cons, h1, ← Nat.add_assoc]; simp
   refine ih (n + 1) (acc * 10 + (c.toNat - 48)) (y + 1) v2 (by omega) (by omega) h20 h21 hv2 fun y' v' hy' hv' h30 h31 => ?_
   have := hK y' v' (by rw [h3, hy']; simp only [List.length_cons]; omega) (by rw [h3]; exact hv') h30 h31
   rw [h3] at this
   exact this
  clear ih hK
  obtain ⟨v2, hv2⟩ : ∃ v2 : Int, v2 = 10 * v + (cz - 48) := ⟨_, rfl⟩
  have hdig : isDigit c = true → 48 ≤ c.toNat ∧ c.toNat ≤ 57 := digit_iff c
  have rest1 : isDigit c = true → (decide (9223372036854775808 ≤ acc) = true ∨ decide (922337203685477580 < v) = true ∨ (decide (v = 922337203685477580) = true ∧ decide (55 < cz) = true)) →
    LoopP Tryz.prog (Pr.tab real) 75 c19 (Less K) (envNu s z (y + 1) v true) S := fun h1 h => by
   have hd := hdig h1
   have hbig : 9223372036854775808 ≤ acc * 10 + (c.toNat - 48) := by
    simp only [decide_eq_true_eq] at h
    by_cases hq : acc < 9223372036854775808
    · have := hv hq
      rcases h with h | h | ⟨h, h'⟩ <;> omega
    · omega
   have := hgo h1 v hv0 hv1 (fun hq => by omega)
   rw [decide_eq_true hbig] at this
   exact this
  have rest2 : isDigit c = true → decide (9223372036854775808 ≤ acc) = false → decide (922337203685477580 < v) = false → (decide (v = 922337203685477580) = false ∨ decide (55 < cz) = false) →
    LoopP Tryz.prog (Pr.tab real) 75 c19 (Less K) (envNu s z (y + 1) v2 false) S := fun h1 h2 h3 h4 => by
   have hd := hdig h1
   simp only [decide_eq_false_iff_not] at h2 h3 h4
   have hva := hv (by omega)
   have hsm : acc * 10 + (c.toNat - 48) < 9223372036854775808 := by rcases h4 with h4 | h4 <;> omega
   have := hgo h1 v2 (by omega) (by omega) (fun _ => by omega)
   rw [decide_eq_false (by omega)] at this
   exact this
  have hsmall : isDigit c = true → decide (9223372036854775808 ≤ acc) = false → decide (922337203685477580 < v) = false → 48 ≤ cz ∧ cz ≤ 57 ∧ 0 ≤ v ∧ v ≤ 922337203685477580 := fun h1 h2 h3 => by
   have hd := hdig h1
   simp only [decide_eq_false_iff_not] at h2 h3
   omega
  clear hgo
  apply step19
  apply gen_code (mk := Pr.tab)
  intro fail need same call loop len slen arith shift cmp conv eqS ltS cat app elt byt subS subL strOf isB fit inb cut room not and eqB avs G
  have hadd : arith BinOp.add IntKind.i64 z y = z + y := by rw [G.arith']; exact wrap_i64 _ (by omega) (by omega)
  have hone : arith BinOp.add IntKind.i64 y 1 = y + 1 := by rw [G.arith']; exact wrap_i64 _ (by omega) (by omega)
  have hb : cmp BinOp.lss (z + y) (slen s) = true := by rw [G.cmp', G.slen']; simp [intRel]; omega
  have hin : inb (z + y) (slen s) = true := by rw [G.inb', G.slen']; simp; omega
  have hbyt : byt s (z + y) = cz := by
   rw [G.byt', hz, hy, hcz, ← hc]; simp only []; rw [show ((i : Int) + (n : Int)).toNat = i + n by omega]; simp [List.getD_eq_getElem?_getD, hlt]
  have hD : ∀ S K, K (.ret (.bool (isDigit c))) S → CallP Tryz.prog (Pr.tab real) 27 [.int .u8 cz] S K := fun S K h => by rw [hcz]; exact asks17 c S K h
  have hgt : cmp BinOp.gtr v 922337203685477580 = decide (922337203685477580 < v) := by rw [G.cmp']; rfl
  have heq : cmp BinOp.eql v 922337203685477580 = decide (v = 922337203685477580) := by rw [G.cmp']; simp only [intRel]; rw [Bool.eq_iff_iff]; simp
  have h55 : cmp BinOp.gtr cz 55 = decide (55 < cz) := by rw [G.cmp']; rfl
  have hval : isDigit c = true → decide (9223372036854775808 ≤ acc) = false → decide (922337203685477580 < v) = false →
    arith BinOp.add IntKind.u64 (arith BinOp.mul IntKind.u64 10 v) (conv IntKind.u64 (arith BinOp.sub IntKind.u8 cz 48)) = v2 := fun h1 h2 h3 => by
   obtain ⟨g1, g2, g3, g4⟩ := hsmall h1 h2 h3
   rw [G.arith', G.conv']
   simp only [intBin, IntKind.wrap_u64, IntKind.wrap_u8]
   omega
  have hn1 : not true = false := by rw [G.not']; rfl
  have hn0 : not false = true := by rw [G.not']; rfl
  generalize hL : LoopP Tryz.prog (Pr.tab real) 75 c19 (Less K) = L at rest1 rest2 ⊢
  generalize hK' : Less K = K' at hL ⊢
  generalize hq2 : isDigit c = q2 at *
  generalize hov : decide (9223372036854775808 ≤ acc) = ov at *
  generalize hb1 : decide (922337203685477580 < v) = b1 at *
  generalize hb2 : decide (v = 922337203685477580) = b2 at *
  generalize hb3 : decide (55 < cz) = b3 at *
  generalize hy1 : y + 1 = y1 at *
  generalize hzy : z + y = zy at *
  clear hv2 hcz hq2 hov hb1 hb2 hb3 hsmall hdig hv hv0 hv1
  cbv
  refine GenH.need' G rfl (GenH.need' G rfl ?_)
  rw [hadd, hb]
  cbv
  refine GenH.need' G rfl ?_
  rw [hadd]
  refine GenH.need' G hin ?_
  rw [hbyt]
  refine GenH.call' G (hD _ _ ?_)
  cbv
  cases q2 with
  | false =>
   rw [hn0]
   cbv
   rw [← hK']
   exact ⟨envNu s z y v ov, .cons rfl (.cons rfl (.cons rfl (.cons rfl (.cons rfl (.cons rfl (.nil _)))))), hfin rfl⟩
  | true =>
   have rest1 := rest1 rfl
   have rest2 := rest2 rfl
   have hval := hval rfl
   rw [hn1]
   cbv
   refine GenH.need' G rfl ?_
   rw [hgt]
   cases b1 with
   | true =>
    have go := rest1 (.inr (.inl rfl))
    cbv
    rw [hn1]
    cbv
    refine GenH.need' G rfl ?_
    rw [hone]
    rw [← hL] at go ⊢
    exact LoopP.weak (env' := envNu s z y1 v true) (.cons rfl (.cons rfl (.cons rfl (.cons rfl (.cons rfl (.cons rfl (.nil _))))))) go
   | false =>
    cbv
    refine GenH.need' G rfl ?_
    rw [heq]
    cases b2 with
    | false =>
     cbv
     cases ov with
     | true =>
      have go := rest1 (.inl rfl)
      cbv
      rw [hn1]
      cbv
      refine GenH.need' G rfl ?_
      rw [hone]
      rw [← hL] at go ⊢
      exact LoopP.weak (env' := envNu s z y1 v true) (.cons rfl (.cons rfl (.cons rfl (.cons rfl (.cons rfl (.cons rfl (.nil _))))))) go
     | false =>
      have go := rest2 rfl rfl (.inl rfl)
      have hval := hval rfl rfl
      cbv
      rw [hn0]
      cbv
      refine GenH.need' G rfl (GenH.need' G rfl ?_)
      rw [hadd]
      refine GenH.need' G hin (GenH.need' G rfl (GenH.need' G rfl ?_))
      rw [hbyt, hval]
      refine GenH.need' G rfl ?_
      rw [hone]
      rw [← hL] at go ⊢
      exact LoopP.weak (env' := envNu s z y1 v2 false) (.cons rfl (.cons rfl (.cons rfl (.cons rfl (.cons rfl (.cons rfl (.nil _))))))) go
    | true =>
     cbv
     refine GenH.need' G rfl ?_
     rw [hadd]
     refine GenH.need' G hin (GenH.need' G rfl ?_)
     rw [hbyt, h55]
     cases b3 with
     | true =>
      have go := rest1 (.inr (.inr ⟨rfl, rfl⟩))
      cbv
      rw [hn1]
      cbv
      refine GenH.need' G rfl ?_
      rw [hone]
      rw [← hL] at go ⊢
      exact LoopP.weak (env' := envNu s z y1 v true) (.cons rfl (.cons rfl (.cons rfl (.cons rfl (.cons rfl (.cons rfl (.nil _))))))) go
     | false =>
      cbv
      cases ov with
      | true =>
       have go := rest1 (.inl rfl)
       cbv
       rw [hn1]
       cbv
       refine GenH.need' G rfl ?_
       rw [hone]
       rw [← hL] at go ⊢
       exact LoopP.weak (env' := envNu s z y1 v true) (.cons rfl (.cons rfl (.cons rfl (.cons rfl (.cons rfl (.cons rfl (.nil _))))))) go
      | false =>
       have go := rest2 rfl rfl (.inr rfl)
       have hval := hval rfl rfl
       cbv
       rw [hn0]
       cbv
       refine GenH.need' G rfl (GenH.need' G rfl ?_)
       rw [hadd]
       refine GenH.need' G hin (GenH.need' G rfl (GenH.need' G rfl ?_))
       rw [hbyt, hval]
       refine GenH.need' G rfl ?_
       rw [hone]
       rw [← hL] at go ⊢
       exact LoopP.weak (env' := envNu s z y1 v2 false) (.cons rfl (.cons rfl (.cons rfl (.cons rfl (.cons rfl (.cons rfl (.nil _))))))) go
end Go.AM
namespace Go.AM
open Go.Proofs
def zeroTok : AV := .agg [.int .i64 0, .str [], .int .i64 0, .int .i64 0]
def refNum (s d : List UInt8) (i j : Nat) : AV := match decide (9223372036854775808 ≤ numFold 0 d) with
 | true => .tup [zeroTok, .int .i64 0, .str sRange]
 | false => match decide (j < s.length) && isLetter (s.getD j 0) with
  | true => .tup [zeroTok, .int .i64 0, .str sSyntax]
  | false => .tup [.agg [.int .i64 1, .str [], .int .i64 (numFold 0 d), .int .i64 i], .int .i64 d.length, .str sDone]
theorem number_spec (s : List UInt8) (hs : s.length ≤ 1000000) (i : Nat) (z : Int) (hz : z = i) (hi : i ≤ s.length) (S : St) (K : Out → St → Prop) (hK : K (.ret (refNum s ((s.drop i).takeWhile isDigit) i (scan isDigit s i))) S) :
  CallP Tryz.prog (Pr.tab real) 29 [.str s, .int .i64 z] S K := by
 refine CallP.lift (K0 := fun o _ => o = .ret (refNum s ((s.drop i).takeWhile isDigit) i (scan isDigit s i))) rfl ?_ (by
  rintro o S0 rfl
  unfold refNum at hK ⊢
  generalize decide (9223372036854775808 ≤ numFold 0 ((s.drop i).takeWhile isDigit)) = d at *
  generalize (decide (scan isDigit s i < s.length) && isLetter (s.getD (scan isDigit s i) 0)) = e at *
  cases d <;> cases e <;> exact hK)
 apply body_calls (un := 0) Pr.tabOk Pr.mixed Pl.fn29 (Nat.le_of_ble_eq_true rfl)
 apply gen_body (mk := Pr.tab)
 intro fail need same call loop len slen arith shift cmp conv eqS ltS cat app elt byt subS subL strOf isB fit inb cut room not and eqB avs G
 obtain ⟨j, hj⟩ : ∃ j, scan isDigit s i = j := ⟨_, rfl⟩
 have hjb := scan_le isDigit s i hi
 obtain ⟨d, hd⟩ : ∃ d, (s.drop i).takeWhile isDigit = d := ⟨_, rfl⟩
 have hjd : j = i + d.length := by rw [← hj, ← hd]; rfl
 rw [hj] at hjb ⊢
 have hloop := fun K h => number_loop s hs i z hz ⟨[(0, [.int .i64 0, .str [], .int .i64 0, .int .i64 0])], 1, []⟩ K (s.length - i) 0 0 0 0 rfl (by omega) (by omega) (by omega) (fun _ => rfl) h
 rw [Nat.add_zero, hd] at hloop
 rw [hd]
 have hml : ∀ y : Int, y = ((0 : Nat) : Int) + d.length → arith BinOp.add IntKind.i64 z y = z + y ∧ cmp BinOp.lss (z + y) (slen s) = decide (j < s.length) ∧ (decide (j < s.length) = true → inb (z + y) (slen s) = true) := fun y hy => by
  refine ⟨?_, ?_, fun h => ?_⟩
  · rw [G.arith']; exact wrap_i64 _ (by omega) (by omega)
  · rw [G.cmp', G.slen']; simp only [intRel]; rw [Bool.eq_iff_iff]; simp only [decide_eq_true_eq]; omega
  · have := of_decide_eq_true h
    rw [G.inb', G.slen']; simp; omega
 have hL : ∀ y : Int, y = ((0 : Nat) : Int) + d.length → ∀ S K, K (.ret (.bool (isLetter (s.getD j 0)))) S → CallP Tryz.prog (Pr.tab real) 26 [.int .u8 (byt s (z + y))] S K := fun y hy S K h => by
  have : byt s (z + y) = ((s.getD j 0).toNat : Int) := by rw [G.byt']; simp only []; rw [show (z + y).toNat = j by omega]
  rw [this]; exact asks16 _ S K h
 have hconv : ∀ v : Int, (numFold 0 d < 9223372036854775808 → v = numFold 0 d) → numFold 0 d < 9223372036854775808 → conv IntKind.i64 v = numFold 0 d := fun v h h' => by
  rw [G.conv', h h']
  exact wrap_i64 _ (by omega) (by omega)
 obtain ⟨nv, hnv⟩ : ∃ nv : Int, nv = (numFold 0 d : Nat) := ⟨_, rfl⟩
 have hconv := fun v h h' => (hconv v h h').trans hnv.symm
 have h1 : decide (9223372036854775808 ≤ numFold 0 d) = true → ∀ S : St, (fun (o : Out) (_ : St) => o = .ret (refNum s d i j)) (.ret (.tup [.agg [.int .i64 0, .str [], .int .i64 0, .int .i64 0], .int .i64 0, .str sRange])) S := fun h S => by
  show _ = _
  unfold refNum; rw [h]; rfl
 have h2 : decide (9223372036854775808 ≤ numFold 0 d) = false → (decide (j < s.length) && isLetter (s.getD j 0)) = true → ∀ S : St, (fun (o : Out) (_ : St) => o = .ret (refNum s d i j)) (.ret (.tup [.agg [.int .i64 0, .str [], .int .i64 0, .int .i64 0], .int .i64 0, .str sSyntax])) S := fun h h' S => by
  show _ = _
  unfold refNum; rw [h, h']; rfl
 have h3 : decide (9223372036854775808 ≤ numFold 0 d) = false → (decide (j < s.length) && isLetter (s.getD j 0)) = false → ∀ y : Int, y = ((0 : Nat) : Int) + d.length → ∀ S : St, (fun (o : Out) (_ : St) => o = .ret (refNum s d i j)) (.ret (.tup [.agg [.int .i64 1, .str [], .int .i64 nv, .int .i64 z], .int .i64 y, .str sDone])) S := fun h h' y hy S => by
  show _ = _
  unfold refNum; rw [h, h', hz, hy, hnv]; simp
 have hsm : decide (9223372036854775808 ≤ numFold 0 d) = false → numFold 0 d < 9223372036854775808 := fun h => by have := of_decide_eq_false h; omega
 generalize (fun (o : Out) (_ : St) => o = .ret (refNum s d i j)) = K0 at *
 generalize hov : decide (9223372036854775808 ≤ numFold 0 d) = ov at *
 generalize hdj : decide (j < s.length) = dj at *
 generalize hlj : isLetter (s.getD j 0) = lj at *
 clear hnv hov hdj hlj
 generalize (((0 : Nat) : Int) + (d.length : Int)) = yw at *
 cbv
 refine GenH.loop' G ?_
 change LoopP Tryz.prog (Pr.tab real) 75 c19 _ _ _
 refine LoopP.relax (LoopP.weak (env' := envNu s z 0 0 false) (.cons rfl (.cons rfl (.cons rfl (.cons rfl (.cons rfl (.cons rfl (.nil _))))))) ?_)
 refine hloop _ fun y v hy hv hv0 hv1 => ?_
 obtain ⟨g1, g2, g3⟩ := hml y hy
 have hL := hL y hy
 have h3 := fun a b => h3 a b y hy
 have hc := fun h => hconv v hv (hsm h)
 generalize z + y = zy at *
 cases ov with
 | true => have h1 := h1 rfl; cbv; exact h1 _
 | false =>
  have h2 := h2 rfl
  have h3 := h3 rfl
  have hc := hc rfl
  cbv
  refine GenH.need' G rfl (GenH.need' G rfl ?_)
  rw [g1, g2]
  cases dj with
  | false =>
   have h3 := h3 rfl
   cbv
   rw [hc]
   exact h3 _
  | true =>
   have g3 := g3 rfl
   cbv
   refine GenH.need' G rfl ?_
   rw [g1]
   refine GenH.need' G g3 (GenH.call' G (hL _ _ ?_))
   cases lj with
   | true => have h2 := h2 rfl; cbv; exact h2 _
   | false =>
    have h3 := h3 rfl
    cbv
    rw [hc]
    exact h3 _
end Go.AM
namespace Go.AM
open Go.Proofs
theorem Pl.fn30 : FnOk Tryz.prog 30 (fni Tryz.f30 Pr.a30) := ⟨⟨Tryz.f30, Tryz.func30, rfl, rfl, rfl, by kernel_rfl⟩, by kernel_rfl⟩
noncomputable def c20 : Code := (fni Tryz.f30 Pr.a30).loop 0
theorem Pl.c20 : codeOk 74 Pr.a30 c20 = true := by kernel_rfl
theorem step20 (K : Ex → Env → St → Prop) (env : Env) (S : St) (h : xcode (pAlg Tryz.prog (Pr.tab real) 74) (Pr.tab real) Pr.a30 0 c20 (andThen (LoopP Tryz.prog (Pr.tab real) 74 c20 K) K) env S) : LoopP Tryz.prog (Pr.tab real) 74 c20 K env S :=
 loopP_step Pr.tabOk Pr.mixed Pl.c20 h
def refTxt (s : List UInt8) : Nat → Nat → List UInt8 → Bool → Option (List UInt8 × Bool × Nat)
 | 0, _, _, _ => none
 | n + 1, k, b, ok => match decide (k < s.length) with
  | false => none
  | true => match s.getD k 0 == 39 with
   | true => match decide (k + 1 < s.length) && s.getD (k + 1) 0 == 39 with
    | true => refTxt s n (k + 2) (b ++ [39]) ok
    | false => some (b, ok, k)
   | false => refTxt s n (k + 1) (b ++ [s.getD k 0]) (ok && goodB (s.getD k 0))
def bV : List UInt8 → AV
 | [] => .slice 0 [] .exact
 | x :: r => .slice 5 (avl (x :: r)) (.own 0)
def bCaps : List UInt8 → List Int
 | [] => []
 | x :: r => [((x :: r).length : Int)]
theorem bV_app (b : List UInt8) (c : UInt8) : bV (b ++ [c]) = .slice 5 (avl (b ++ [c])) (.own 0) ∧ bCaps (b ++ [c]) = [((b ++ [c]).length : Int)] := by
 cases b <;> exact ⟨rfl, rfl⟩
def ST (row : List AV) (caps : List Int) : St := ⟨[(0, row)], 1, caps⟩
def row0 : List AV := [.int .i64 0, .str [], .int .i64 0, .int .i64 0]
def envTx (s : List UInt8) (z k : Int) (b : List UInt8) (ok : Bool) : Env := [(0, .str s), (1, .int .i64 z), (4, .ptr 0 0), (7, bV b), (8, .bool ok), (9, .int .i64 k)]
def refTxtV (i : Nat) (b : List UInt8) (ok : Bool) (k : Nat) : List AV × Int × List UInt8 := match ok with
 | false => (row0, 0, sSyntax)
 | true => match decide (400 < b.length) with
  | true => (row0, 0, sTooLong)
  | false => ([.int .i64 2, .str b, .int .i64 0, .int .i64 i], (k : Int) + 1 - i, sDone)
theorem refText_loop (s : List UInt8) (hs : s.length ≤ 1000000) (i : Nat) (z : Int) (hz : z = i) (K : Ex → Env → St → Prop) (n : Nat) :
  ∀ (k : Nat) (y : Int) (b : List UInt8) (ok : Bool), y = k → i ≤ k → b.length ≤ 1 * k → k ≤ s.length + 1 → s.length + 1 - k < n →
   (refTxt s n k b ok = none → ∀ caps, K (.exit 0) [(4, .ptr 0 0)] (ST row0 caps)) →
   (∀ b' ok' k', refTxt s n k b ok = some (b', ok', k') → ∀ caps, K .ret [(4, .ptr 0 0), (5, .int .i64 (refTxtV i b' ok' k').2.1), (6, .str (refTxtV i b' ok' k').2.2)] (ST (refTxtV i b' ok' k').1 caps)) →
   LoopP Tryz.prog (Pr.tab real) 74 c20 (Less K) (envTx s z y b ok) (ST row0 (bCaps b)) := by
 induction n with
 | zero => intro k y b ok hy hik hb hk hn; omega
 | succ n ih =>
  intro k y b ok hy hik hb hk hn hK1 hK2
  unfold refTxt at hK1 hK2
  obtain ⟨c, hc⟩ : ∃ c, s.getD k 0 = c := ⟨_, rfl⟩
  obtain ⟨c2, hc2⟩ : ∃ c2, s.getD (k + 1) 0 = c2 := ⟨_, rfl⟩
  rw [hc, hc2] at hK1 hK2
  obtain ⟨cz, hcz⟩ : ∃ cz : Int, cz = c.toNat := ⟨_, rfl⟩
  have hend : decide (k < s.length) = false → K (.exit 0) [(4, .ptr 0 0)] (ST row0 (bCaps b)) := fun h => hK1 (by rw [h]) _
  have hdone : decide (k < s.length) = true → (c == 39) = true → (decide (k + 1 < s.length) && c2 == 39) = false → ∀ caps, K .ret [(4, .ptr 0 0), (5, .int .i64 (refTxtV i b ok k).2.1), (6, .str (refTxtV i b ok k).2.2)] (ST (refTxtV i b ok k).1 caps) :=
   fun h1 h2 h3 => hK2 b ok k (by rw [h1, h2, h3])
  have hesc : decide (k < s.length) = true → (c == 39) = true → (decide (k + 1 < s.length) && c2 == 39) = true → LoopP Tryz.prog (Pr.tab real) 74 c20 (Less K) (envTx s z (y + 2) (b ++ [39]) ok) (ST row0 (bCaps (b ++ [39]))) :=
   fun h1 h2 h3 => by
    have h1' := of_decide_eq_true h1
    have h3' : k + 1 < s.length := by simp only [Bool.and_eq_true, decide_eq_true_eq] at h3; exact h3.1
    exact ih (k + 2) (y + 2) _ ok (by omega) (by omega) (by simp; omega) (by omega) (by omega) (fun h => hK1 (by rw [h1, h2, h3]; exact h)) (fun b' ok' k' h => hK2 b' ok' k' (by rw [h1, h2, h3]; exact h))
  have hgo : decide (k < s.length) = true → (c == 39) = false → LoopP Tryz.prog (Pr.tab real) 74 c20 (Less K) (envTx s z (y + 1) (b ++ [c]) (ok && goodB c)) (ST row0 (bCaps (b ++ [c]))) :=
   fun h1 h2 => by
    have h1' := of_decide_eq_true h1
    exact ih (k + 1) (y + 1) _ _ (by omega) (by omega) (by simp; omega) (by omega) (by omega) (fun h => hK1 (by rw [h1, h2]; exact h)) (fun b' ok' k' h => hK2 b' ok' k' (by rw [h1, h2]; exact h))
  clear ih hK1 hK2
  have hg : goodB c = !(decide (c.toNat < 32) || decide (126 < c.toNat)) := rfl
  rw [hg] at hgo
  have hbl : b.length ≤ 1000001 := by omega
  obtain ⟨e39, he39⟩ := bV_app b 39
  obtain ⟨ec, hec⟩ := bV_app b c
  simp only [envTx] at hgo hesc ⊢
  rw [e39, he39] at hesc
  rw [ec, hec] at hgo
  have hcase : (bV b = .slice 0 [] .exact ∧ bCaps b = [] ∧ avl b = [] ∧ b = []) ∨ (bV b = .slice 5 (avl b) (.own 0) ∧ bCaps b = [(b.length : Int)]) := by
   cases b with
   | nil => exact .inl ⟨rfl, rfl, rfl, rfl⟩
   | cons => exact .inr ⟨rfl, rfl⟩
  apply step20
  apply gen_code (mk := Pr.tab)
  intro fail need same call loop len slen arith shift cmp conv eqS ltS cat app elt byt subS subL strOf isB fit inb cut room not and eqB avs G
  have hlss : cmp BinOp.lss y (slen s) = decide (k < s.length) := by rw [G.cmp', G.slen']; simp only [intRel]; rw [Bool.eq_iff_iff]; simp only [decide_eq_true_eq]; omega
  have hin : decide (k < s.length) = true → inb y (slen s) = true := fun h => by have := of_decide_eq_true h; rw [G.inb', G.slen']; simp; omega
  have hbyt : byt s y = cz := by rw [G.byt', hy, hcz, ← hc]; rfl
  have h39 : cmp BinOp.eql cz 39 = (c == 39) := by rw [G.cmp', hcz]; exact eqb c 39
  have hone : arith BinOp.add IntKind.i64 y 1 = y + 1 := by rw [G.arith']; exact wrap_i64 _ (by omega) (by omega)
  have hone2 : arith BinOp.add IntKind.i64 (y + 1) 1 = y + 2 := by rw [G.arith', show y + 2 = y + 1 + 1 by omega]; exact wrap_i64 _ (by omega) (by omega)
  have hsub : arith BinOp.sub IntKind.i64 (y + 1) z = y + 1 - z := by rw [G.arith']; exact wrap_i64 _ (by omega) (by omega)
  have hlss2 : cmp BinOp.lss (y + 1) (slen s) = decide (k + 1 < s.length) := by rw [G.cmp', G.slen']; simp only [intRel]; rw [Bool.eq_iff_iff]; simp only [decide_eq_true_eq]; omega
  have hin2 : decide (k + 1 < s.length) = true → inb (y + 1) (slen s) = true := fun h => by have := of_decide_eq_true h; rw [G.inb', G.slen']; simp; omega
  have hq2 : cmp BinOp.eql (byt s (y + 1)) 39 = (c2 == 39) := by
   have : byt s (y + 1) = (c2.toNat : Int) := by rw [G.byt', ← hc2]; simp only []; rw [show (y + 1).toNat = k + 1 by omega]
   rw [G.cmp', this]; exact eqb c2 39
  have h32 : cmp BinOp.geq cz 32 = !decide (c.toNat < 32) := by rw [G.cmp', hcz]; simp only [intRel]; rw [Bool.eq_iff_iff]; simp; omega
  have h126 : cmp BinOp.leq cz 126 = !decide (126 < c.toNat) := by rw [G.cmp', hcz]; simp only [intRel]; rw [Bool.eq_iff_iff]; simp; omega
  have h400 : cmp BinOp.gtr (len (avl b)) 400 = decide (400 < b.length) := by rw [G.cmp', G.len']; simp only [intRel, avl, List.length_map]; rw [Bool.eq_iff_iff]; simp only [decide_eq_true_eq]; omega
  have a39 : app (avl b) [.int .u8 39] = avl (b ++ [39]) := by rw [G.app']; simp [avl]
  have ac : app (avl b) [.int .u8 cz] = avl (b ++ [c]) := by rw [G.app', hcz]; simp [avl]
  have r39 : room (len (avl (b ++ [39]))) 1 = true := by rw [G.room', G.len']; simp [avl]; omega
  have rc : room (len (avl (b ++ [c]))) 1 = true := by rw [G.room', G.len']; simp [avl]; omega
  have l39 : len (avl (b ++ [39])) = ((b ++ [39]).length : Int) := by rw [G.len']; simp [avl]
  have lc : len (avl (b ++ [c])) = ((b ++ [c]).length : Int) := by rw [G.len']; simp [avl]
  have hown : cmp BinOp.eql (b.length : Int) (len (avl b)) = true := by rw [G.cmp', G.len']; simp [intRel, avl]
  have hisB : isB (avl b) = true := by rw [G.isB']; simp [avl, isByte]
  have hstr : strOf (avl b) = b := by rw [G.strOf']; simp [avl, byteOf, Function.comp_def]
  have hn1 : not true = false := by rw [G.not']; rfl
  have hn0 : not false = true := by rw [G.not']; rfl
  generalize hL : LoopP Tryz.prog (Pr.tab real) 74 c20 (Less K) = L at hgo hesc ⊢
  generalize hK' : Less K = K' at hL ⊢
  have hdoneF : ok = false → decide (k < s.length) = true → (c == 39) = true → (decide (k + 1 < s.length) && c2 == 39) = false → ∀ caps, K .ret [(4, .ptr 0 0), (5, .int .i64 0), (6, .str sSyntax)] (ST row0 caps) := fun h0 h1 h2 h3 caps => by
   have := hdone h1 h2 h3 caps
   rw [h0] at this
   exact this
  have hdoneL : ok = true → decide (400 < b.length) = true → decide (k < s.length) = true → (c == 39) = true → (decide (k + 1 < s.length) && c2 == 39) = false → ∀ caps, K .ret [(4, .ptr 0 0), (5, .int .i64 0), (6, .str sTooLong)] (ST row0 caps) := fun h0 hl h1 h2 h3 caps => by
   have := hdone h1 h2 h3 caps
   unfold refTxtV at this
   rw [h0, hl] at this
   exact this
  have hdoneT : ok = true → decide (400 < b.length) = false → decide (k < s.length) = true → (c == 39) = true → (decide (k + 1 < s.length) && c2 == 39) = false → ∀ caps, K .ret [(4, .ptr 0 0), (5, .int .i64 (y + 1 - z)), (6, .str sDone)] (ST [.int .i64 2, .str b, .int .i64 0, .int .i64 z] caps) := fun h0 hl h1 h2 h3 caps => by
   have := hdone h1 h2 h3 caps
   unfold refTxtV at this
   rw [h0, hl] at this
   rw [hz, hy]
   exact this
  clear hdone
  obtain ⟨bv, hbv⟩ : ∃ bv, bV b = bv := ⟨_, rfl⟩
  obtain ⟨bc, hbc⟩ : ∃ bc, bCaps b = bc := ⟨_, rfl⟩
  rw [hbv, hbc] at hcase
  rw [hbc] at hend ⊢
  rw [hbv]
  generalize ((b ++ [39]).length : Int) = n39 at *
  generalize ((b ++ [c]).length : Int) = nc at *
  generalize avl (b ++ [39]) = b39 at *
  generalize avl (b ++ [c]) = bcc at *
  generalize hbn : (b.length : Int) = bn at *
  generalize habl : avl b = ab at *
  generalize hd1 : decide (k < s.length) = d1 at *
  generalize hd2 : decide (k + 1 < s.length) = d2 at *
  generalize hd4 : decide (400 < b.length) = d4 at *
  generalize hg1 : decide (c.toNat < 32) = g1 at *
  generalize hg2 : decide (126 < c.toNat) = g2 at *
  generalize hq1 : (c == 39) = q1 at *
  generalize hqq : (c2 == 39) = q2 at *
  generalize hy1 : y + 1 = y1 at *
  generalize hy2 : y + 2 = y2 at *
  generalize hyz : y1 - z = yz at *
  clear hc hc2 hcz hg hbl hbn habl hd1 hd2 hd4 hg1 hg2 hq1 hqq hyz e39 he39 ec hec hbv hbc
  cbv
  refine GenH.need' G rfl ?_
  rw [hlss]
  cases d1 with
  | false =>
   have hend := hend rfl
   cbv
   rw [← hK']
   exact ⟨[(4, .ptr 0 0)], .cons rfl (.nil _), hend⟩
  | true =>
   have hin := hin rfl
   have hgo := hgo rfl
   have hesc := hesc rfl
   have hdoneF := fun h => hdoneF h rfl
   have hdoneL := fun h h' => hdoneL h h' rfl
   have hdoneT := fun h h' => hdoneT h h' rfl
   cbv
   refine GenH.need' G hin (GenH.need' G rfl ?_)
   rw [hbyt, h39]
   cases q1 with
   | true =>
    have hesc := hesc rfl
    have hdoneF := fun h => hdoneF h rfl
    have hdoneL := fun h h' => hdoneL h h' rfl
    have hdoneT := fun h h' => hdoneT h h' rfl
    cbv
    refine GenH.need' G rfl (GenH.need' G rfl ?_)
    rw [hone, hlss2]
    cases d2 with
    | false =>
     cbv
     cases ok with
     | false =>
      have hf := hdoneF rfl rfl
      cbv
      rw [hn0]
      cbv
      rw [← hK']
      exact ⟨[(4, .ptr 0 0), (5, .int .i64 0), (6, .str [52, 50, 54, 48, 49])], .cons rfl (.cons rfl (.cons rfl (.nil _))), hf _⟩
     | true =>
      have hl := hdoneL rfl
      have ht := hdoneT rfl
      cbv
      rw [hn1]
      rcases hcase with ⟨rfl, rfl, rfl, rfl⟩ | ⟨rfl, rfl⟩
      · cbv
        refine GenH.need' G rfl ?_
        rw [h400]
        cases d4 with
        | true =>
         have hl := hl rfl rfl
         cbv
         rw [← hK']
         exact ⟨[(4, .ptr 0 0), (5, .int .i64 0), (6, .str [50, 50, 48, 48, 49])], .cons rfl (.cons rfl (.cons rfl (.nil _))), hl _⟩
        | false =>
         have ht := ht rfl rfl
         cbv
         refine GenH.need' G rfl (GenH.need' G rfl ?_)
         rw [hone, hsub]
         rw [← hK']
         exact ⟨[(4, .ptr 0 0), (5, .int .i64 yz), (6, .str [48, 48, 48, 48, 48])], .cons rfl (.cons rfl (.cons rfl (.nil _))), ht _⟩
      · cbv
        refine GenH.need' G rfl ?_
        rw [h400]
        cases d4 with
        | true =>
         have hl := hl rfl rfl
         cbv
         rw [← hK']
         exact ⟨[(4, .ptr 0 0), (5, .int .i64 0), (6, .str [50, 50, 48, 48, 49])], .cons rfl (.cons rfl (.cons rfl (.nil _))), hl _⟩
        | false =>
         have ht := ht rfl rfl
         cbv
         refine GenH.need' G hisB ?_
         rw [hstr]
         refine GenH.need' G rfl (GenH.need' G rfl ?_)
         rw [hone, hsub]
         rw [← hK']
         exact ⟨[(4, .ptr 0 0), (5, .int .i64 yz), (6, .str [48, 48, 48, 48, 48])], .cons rfl (.cons rfl (.cons rfl (.nil _))), ht _⟩
    | true =>
     have hin2 := hin2 rfl
     cbv
     refine GenH.need' G rfl ?_
     rw [hone]
     refine GenH.need' G hin2 (GenH.need' G rfl ?_)
     rw [hq2]
     cases q2 with
     | false =>
      cbv
      cases ok with
      | false =>
       have hf := hdoneF rfl rfl
       cbv
       rw [hn0]
       cbv
       rw [← hK']
       exact ⟨[(4, .ptr 0 0), (5, .int .i64 0), (6, .str [52, 50, 54, 48, 49])], .cons rfl (.cons rfl (.cons rfl (.nil _))), hf _⟩
      | true =>
       have hl := hdoneL rfl
       have ht := hdoneT rfl
       cbv
       rw [hn1]
       rcases hcase with ⟨rfl, rfl, rfl, rfl⟩ | ⟨rfl, rfl⟩
       · cbv
         refine GenH.need' G rfl ?_
         rw [h400]
         cases d4 with
         | true =>
          have hl := hl rfl rfl
          cbv
          rw [← hK']
          exact ⟨[(4, .ptr 0 0), (5, .int .i64 0), (6, .str [50, 50, 48, 48, 49])], .cons rfl (.cons rfl (.cons rfl (.nil _))), hl _⟩
         | false =>
          have ht := ht rfl rfl
          cbv
          refine GenH.need' G rfl (GenH.need' G rfl ?_)
          rw [hone, hsub]
          rw [← hK']
          exact ⟨[(4, .ptr 0 0), (5, .int .i64 yz), (6, .str [48, 48, 48, 48, 48])], .cons rfl (.cons rfl (.cons rfl (.nil _))), ht _⟩
       · cbv
         refine GenH.need' G rfl ?_
         rw [h400]
         cases d4 with
         | true =>
          have hl := hl rfl rfl
          cbv
          rw [← hK']
          exact ⟨[(4, .ptr 0 0), (5, .int .i64 0), (6, .str [50, 50, 48, 48, 49])], .cons rfl (.cons rfl (.cons rfl (.nil _))), hl _⟩
         | false =>
          have ht := ht rfl rfl
          cbv
          refine GenH.need' G hisB ?_
          rw [hstr]
          refine GenH.need' G rfl (GenH.need' G rfl ?_)
          rw [hone, hsub]
          rw [← hK']
          exact ⟨[(4, .ptr 0 0), (5, .int .i64 yz), (6, .str [48, 48, 48, 48, 48])], .cons rfl (.cons rfl (.cons rfl (.nil _))), ht _⟩
     | true =>
      have go := hesc rfl
      rcases hcase with ⟨rfl, rfl, rfl, rfl⟩ | ⟨rfl, rfl⟩
      · cbv
        rw [a39]
        refine GenH.need' G rfl (GenH.need' G r39 ?_)
        rw [l39]
        refine GenH.need' G rfl (GenH.need' G rfl ?_)
        rw [hone, hone2]
        rw [← hL] at go ⊢
        exact LoopP.weak (env' := [(0, .str s), (1, .int .i64 z), (4, .ptr 0 0), (7, .slice 5 b39 (.own 0)), (8, .bool ok), (9, .int .i64 y2)]) (.cons rfl (.cons rfl (.cons rfl (.cons rfl (.cons rfl (.cons rfl (.nil _))))))) go
      · cbv
        rw [a39]
        refine GenH.need' G rfl (GenH.need' G r39 (GenH.need' G hown ?_))
        rw [l39]
        refine GenH.need' G rfl (GenH.need' G rfl ?_)
        rw [hone, hone2]
        rw [← hL] at go ⊢
        exact LoopP.weak (env' := [(0, .str s), (1, .int .i64 z), (4, .ptr 0 0), (7, .slice 5 b39 (.own 0)), (8, .bool ok), (9, .int .i64 y2)]) (.cons rfl (.cons rfl (.cons rfl (.cons rfl (.cons rfl (.cons rfl (.nil _))))))) go
   | false =>
    have go := hgo rfl
    cases ok with
    | false =>
     rcases hcase with ⟨rfl, rfl, rfl, rfl⟩ | ⟨rfl, rfl⟩
     · cbv
       refine GenH.need' G hin (GenH.need' G rfl ?_)
       try rw [hbyt]
       cbv
       rw [ac]
       refine GenH.need' G rc ?_
       rw [lc]
       refine GenH.need' G rfl ?_
       rw [hone]
       rw [← hL] at go ⊢
       exact LoopP.weak (env' := [(0, .str s), (1, .int .i64 z), (4, .ptr 0 0), (7, .slice 5 bcc (.own 0)), (8, .bool false), (9, .int .i64 y1)]) (.cons rfl (.cons rfl (.cons rfl (.cons rfl (.cons rfl (.cons rfl (.nil _))))))) go
     · cbv
       refine GenH.need' G hin (GenH.need' G rfl ?_)
       try rw [hbyt]
       cbv
       rw [ac]
       refine GenH.need' G rc (GenH.need' G hown ?_)
       rw [lc]
       refine GenH.need' G rfl ?_
       rw [hone]
       rw [← hL] at go ⊢
       exact LoopP.weak (env' := [(0, .str s), (1, .int .i64 z), (4, .ptr 0 0), (7, .slice 5 bcc (.own 0)), (8, .bool false), (9, .int .i64 y1)]) (.cons rfl (.cons rfl (.cons rfl (.cons rfl (.cons rfl (.cons rfl (.nil _))))))) go
    | true =>
     cbv
     refine GenH.need' G hin (GenH.need' G rfl ?_)
     rw [hbyt, h32]
     cases g1 with
     | true =>
      rcases hcase with ⟨rfl, rfl, rfl, rfl⟩ | ⟨rfl, rfl⟩
      · cbv
        refine GenH.need' G hin (GenH.need' G rfl ?_)
        try rw [hbyt]
        cbv
        rw [ac]
        refine GenH.need' G rc ?_
        rw [lc]
        refine GenH.need' G rfl ?_
        rw [hone]
        rw [← hL] at go ⊢
        exact LoopP.weak (env' := [(0, .str s), (1, .int .i64 z), (4, .ptr 0 0), (7, .slice 5 bcc (.own 0)), (8, .bool false), (9, .int .i64 y1)]) (.cons rfl (.cons rfl (.cons rfl (.cons rfl (.cons rfl (.cons rfl (.nil _))))))) go
      · cbv
        refine GenH.need' G hin (GenH.need' G rfl ?_)
        try rw [hbyt]
        cbv
        rw [ac]
        refine GenH.need' G rc (GenH.need' G hown ?_)
        rw [lc]
        refine GenH.need' G rfl ?_
        rw [hone]
        rw [← hL] at go ⊢
        exact LoopP.weak (env' := [(0, .str s), (1, .int .i64 z), (4, .ptr 0 0), (7, .slice 5 bcc (.own 0)), (8, .bool false), (9, .int .i64 y1)]) (.cons rfl (.cons rfl (.cons rfl (.cons rfl (.cons rfl (.cons rfl (.nil _))))))) go
     | false =>
      cbv
      refine GenH.need' G hin (GenH.need' G rfl ?_)
      rw [hbyt, h126]
      cases g2 with
      | true =>
       rcases hcase with ⟨rfl, rfl, rfl, rfl⟩ | ⟨rfl, rfl⟩
       · cbv
         refine GenH.need' G hin (GenH.need' G rfl ?_)
         try rw [hbyt]
         cbv
         rw [ac]
         refine GenH.need' G rc ?_
         rw [lc]
         refine GenH.need' G rfl ?_
         rw [hone]
         rw [← hL] at go ⊢
         exact LoopP.weak (env' := [(0, .str s), (1, .int .i64 z), (4, .ptr 0 0), (7, .slice 5 bcc (.own 0)), (8, .bool false), (9, .int .i64 y1)]) (.cons rfl (.cons rfl (.cons rfl (.cons rfl (.cons rfl (.cons rfl (.nil _))))))) go
       · cbv
         refine GenH.need' G hin (GenH.need' G rfl ?_)
         try rw [hbyt]
         cbv
         rw [ac]
         refine GenH.need' G rc (GenH.need' G hown ?_)
         rw [lc]
         refine GenH.need' G rfl ?_
         rw [hone]
         rw [← hL] at go ⊢
         exact LoopP.weak (env' := [(0, .str s), (1, .int .i64 z), (4, .ptr 0 0), (7, .slice 5 bcc (.own 0)), (8, .bool false), (9, .int .i64 y1)]) (.cons rfl (.cons rfl (.cons rfl (.cons rfl (.cons rfl (.cons rfl (.nil _))))))) go
      | false =>
       rcases hcase with ⟨rfl, rfl, rfl, rfl⟩ | ⟨rfl, rfl⟩
       · cbv
         refine GenH.need' G hin (GenH.need' G rfl ?_)
         try rw [hbyt]
         cbv
         rw [ac]
         refine GenH.need' G rc ?_
         rw [lc]
         refine GenH.need' G rfl ?_
         rw [hone]
         rw [← hL] at go ⊢
         exact LoopP.weak (env' := [(0, .str s), (1, .int .i64 z), (4, .ptr 0 0), (7, .slice 5 bcc (.own 0)), (8, .bool true), (9, .int .i64 y1)]) (.cons rfl (.cons rfl (.cons rfl (.cons rfl (.cons rfl (.cons rfl (.nil _))))))) go
       · cbv
         refine GenH.need' G hin (GenH.need' G rfl ?_)
         try rw [hbyt]
         cbv
         rw [ac]
         refine GenH.need' G rc (GenH.need' G hown ?_)
         rw [lc]
         refine GenH.need' G rfl ?_
         rw [hone]
         rw [← hL] at go ⊢
         exact LoopP.weak (env' := [(0, .str s), (1, .int .i64 z), (4, .ptr 0 0), (7, .slice 5 bcc (.own 0)), (8, .bool true), (9, .int .i64 y1)]) (.cons rfl (.cons rfl (.cons rfl (.cons rfl (.cons rfl (.cons rfl (.nil _))))))) go
end Go.AM
namespace Go.AM
open Go.Proofs
def refText (s : List UInt8) (i : Nat) : AV := match refTxt s (s.length + 1) (i + 1) [] true with
 | none => .tup [zeroTok, .int .i64 0, .str sSyntax]
 | some (b, ok, k) => .tup [.agg (refTxtV i b ok k).1, .int .i64 (refTxtV i b ok k).2.1, .str (refTxtV i b ok k).2.2]
theorem refTxtV_ren (f h : Nat → Option Nat) (i : Nat) (b : List UInt8) (ok : Bool) (k : Nat) : renL f h (refTxtV i b ok k).1 = (refTxtV i b ok k).1 := by
 unfold refTxtV
 cases ok with
 | false => rfl
 | true => cases decide (400 < b.length) <;> rfl
theorem refText_ren (f h : Nat → Option Nat) (s : List UInt8) (i : Nat) : (refText s i).ren f h = refText s i := by
 unfold refText
 cases refTxt s (s.length + 1) (i + 1) [] true with
 | none => rfl
 | some r =>
  obtain ⟨b, ok, k⟩ := r
  simp only [AV.ren, renL, refTxtV_ren]
theorem refText_spec (s : List UInt8) (hs : s.length ≤ 1000000) (i : Nat) (z : Int) (hz : z = i) (hi : i < s.length) (S : St) (K : Out → St → Prop) (hK : K (.ret (refText s i)) S) : CallP Tryz.prog (Pr.tab real) 30 [.str s, .int .i64 z] S K := by
 refine CallP.lift (K0 := fun o _ => o = .ret (refText s i)) rfl ?_ (by
  rintro o S0 rfl
  show K (.ret ((refText s i).ren _ _)) S
  rw [refText_ren]; exact hK)
 apply body_calls (un := 0) Pr.tabOk Pr.mixed Pl.fn30 (Nat.le_of_ble_eq_true rfl)
 apply gen_body (mk := Pr.tab)
 intro fail need same call loop len slen arith shift cmp conv eqS ltS cat app elt byt subS subL strOf isB fit inb cut room not and eqB avs G
 have hloop := fun K => refText_loop s hs i z hz K (s.length + 1) (i + 1) (z + 1) [] true (by omega) (by omega) (by simp) (by omega) (by omega)
 have hone : arith BinOp.add IntKind.i64 z 1 = z + 1 := by rw [G.arith']; exact wrap_i64 _ (by omega) (by omega)
 have h1 : refTxt s (s.length + 1) (i + 1) [] true = none → ∀ S : St, (fun (o : Out) (_ : St) => o = .ret (refText s i)) (.ret (.tup [.agg [.int .i64 0, .str [], .int .i64 0, .int .i64 0], .int .i64 0, .str sSyntax])) S := fun h S => by
  show _ = _
  unfold refText; rw [h]; rfl
 have h2 : ∀ b ok k, refTxt s (s.length + 1) (i + 1) [] true = some (b, ok, k) → ∀ S : St, (fun (o : Out) (_ : St) => o = .ret (refText s i)) (.ret (.tup [.agg (refTxtV i b ok k).1, .int .i64 (refTxtV i b ok k).2.1, .str (refTxtV i b ok k).2.2])) S := fun b ok k h S => by
  show _ = _
  unfold refText; rw [h]
 have hrow : ∀ b ok k, ∃ a1 a2 a3 a4, (refTxtV i b ok k).1 = [a1, a2, a3, a4] := fun b ok k => by
  unfold refTxtV
  cases ok with
  | false => exact ⟨_, _, _, _, rfl⟩
  | true => cases decide (400 < b.length) <;> exact ⟨_, _, _, _, rfl⟩
 generalize (fun (o : Out) (_ : St) => o = .ret (refText s i)) = K0 at *
 generalize refTxt s (s.length + 1) (i + 1) [] true = r at *
 generalize z + 1 = z1 at *
 cbv
 refine GenH.need' G rfl ?_
 rw [hone]
 refine GenH.loop' G ?_
 change LoopP Tryz.prog (Pr.tab real) 74 c20 _ _ _
 refine LoopP.relax (LoopP.weak (env' := envTx s z z1 [] true) (.cons rfl (.cons rfl (.cons rfl (.cons rfl (.cons rfl (.cons rfl (.nil _))))))) ?_)
 refine hloop _ (fun h caps => ?_) fun b ok k h caps => ?_
 · have h1 := h1 h
   cbv
   exact h1 _
 · have h2 := h2 b ok k h
   obtain ⟨a1, a2, a3, a4, ha⟩ := hrow b ok k
   rw [ha] at h2 ⊢
   generalize (refTxtV i b ok k).2.1 = q1 at *
   generalize (refTxtV i b ok k).2.2 = q2 at *
   cbv
   exact h2 _
theorem Pl.fn31 : FnOk Tryz.prog 31 (fni Tryz.f31 Pr.a31) := ⟨⟨Tryz.f31, Tryz.func31, rfl, rfl, rfl, by kernel_rfl⟩, by kernel_rfl⟩
noncomputable def c21 : Code := (fni Tryz.f31 Pr.a31).loop 0
theorem Pl.c21 : codeOk 49 Pr.a31 c21 = true := by kernel_rfl
theorem step21 (K : Ex → Env → St → Prop) (env : Env) (S : St) (h : xcode (pAlg Tryz.prog (Pr.tab real) 49) (Pr.tab real) Pr.a31 0 c21 (andThen (LoopP Tryz.prog (Pr.tab real) 49 c21 K) K) env S) : LoopP Tryz.prog (Pr.tab real) 49 c21 K env S :=
 loopP_step Pr.tabOk Pr.mixed Pl.c21 h
def signsL : AV := .slice 9 [.str [60, 61], .str [62, 61], .str [60, 62], .str [124, 124], .str [40], .str [41], .str [44], .str [46], .str [59], .str [61], .str [60], .str [62], .str [43], .str [45], .str [42], .str [47]] .exact
def envSg (s : List UInt8) (z y : Int) : Env := [(0, .str s), (1, .int .i64 z), (4, .ptr 0 0), (7, signsL), (8, .int .i64 y)]
theorem pre_eq (x s : List UInt8) (i : Nat) : x.isPrefixOf (s.drop i) = (decide (i + x.length ≤ s.length ∨ x.length = 0) && ((s.drop i).take x.length == x)) := by
 rw [Bool.eq_iff_iff, List.isPrefixOf_iff_prefix, List.prefix_iff_eq_take]
 simp only [Bool.and_eq_true, decide_eq_true_eq, beq_iff_eq]
 constructor
 · intro h
   refine ⟨?_, h.symm⟩
   have := congrArg List.length h
   simp at this
   omega
 · rintro ⟨_, h⟩
   exact h.symm
theorem refSign_loop (s : List UInt8) (hs : s.length ≤ 1000000) (i : Nat) (hi : i ≤ s.length) (z : Int) (hz : z = i) (K : Ex → Env → St → Prop) (n : Nat) :
  ∀ (k : Nat) (y : Int), y = k → k + n = 16 →
   (∀ x, signIn s i (Pr.signs.drop k) = some x → ∀ m : Int, m = x.length → K .ret [(4, .ptr 0 0), (5, .int .i64 m), (6, .str sDone)] (ST [.int .i64 3, .str x, .int .i64 0, .int .i64 z] [])) →
   (signIn s i (Pr.signs.drop k) = none → K (.exit 0) [(4, .ptr 0 0)] (ST row0 [])) →
   LoopP Tryz.prog (Pr.tab real) 49 c21 (Less K) (envSg s z y) (ST row0 []) := by
 induction n with
 | zero =>
  intro k y hy hk hK1 hK2
  have hfin := hK2 (by have : k = 16 := by omega
                       subst this; rfl)
  apply step21
  apply gen_code (mk := Pr.tab)
  intro fail need same call loop len slen arith shift cmp conv eqS ltS cat app elt byt subS subL strOf isB fit inb cut room not and eqB avs G
  obtain ⟨SL, hSL⟩ : ∃ SL, SL = [.str [60, 61], .str [62, 61], .str [60, 62], .str [124, 124], .str [40], .str [41], .str [44], .str [46], .str [59], .str [61], .str [60], .str [62], .str [43], .str [45], .str [42], AV.str [47]] := ⟨_, rfl⟩
  have hb : cmp BinOp.lss y (len SL) = false := by rw [G.cmp', G.len', hSL]; simp [intRel]; omega
  unfold envSg signsL
  rw [← hSL]
  generalize LoopP Tryz.prog (Pr.tab real) 49 c21 (Less K) = L at *
  generalize hK' : Less K = K' at *
  clear hSL
  cbv
  refine GenH.need' G rfl ?_
  rw [hb]
  cbv
  rw [← hK']
  exact ⟨[(4, .ptr 0 0)], .cons rfl (.nil _), hfin⟩
 | succ n ih =>
  intro k y hy hk hK1 hK2
  have hlt : k < Pr.signs.length := by show k < 16; omega
  have hdrop : Pr.signs.drop k = Pr.signs[k] :: Pr.signs.drop (k + 1) := List.drop_eq_getElem_cons hlt
  obtain ⟨sg, hsg⟩ : ∃ sg, Pr.signs[k] = sg := ⟨_, rfl⟩
  rw [hsg] at hdrop
  have hsl : sg.length ≤ 2 ∧ sg.length ≠ 0 := by
   have : ∀ x ∈ Pr.signs, x.length ≤ 2 ∧ x.length ≠ 0 := by decide
   exact this sg (hsg ▸ List.getElem_mem hlt)
  have hstep : signIn s i (Pr.signs.drop k) = match sg.isPrefixOf (s.drop i) with
   | true => some sg
   | false => signIn s i (Pr.signs.drop (k + 1)) := by
   rw [hdrop]; unfold signIn; rw [List.find?_cons]
   cases sg.isPrefixOf (s.drop i) <;> rfl
  rw [hstep] at hK1 hK2
  have hpe := pre_eq sg s i
  rw [show decide (i + sg.length ≤ s.length ∨ sg.length = 0) = decide (i + sg.length ≤ s.length) by rw [Bool.eq_iff_iff]; simp only [decide_eq_true_eq]; omega] at hpe
  have hyes : sg.isPrefixOf (s.drop i) = true → ∀ m : Int, m = sg.length → K .ret [(4, .ptr 0 0), (5, .int .i64 m), (6, .str sDone)] (ST [.int .i64 3, .str sg, .int .i64 0, .int .i64 z] []) := fun h => hK1 sg (by rw [h])
  have hno : sg.isPrefixOf (s.drop i) = false → LoopP Tryz.prog (Pr.tab real) 49 c21 (Less K) (envSg s z (y + 1)) (ST row0 []) := fun h => by
   rw [h] at hK1 hK2
   exact ih (k + 1) (y + 1) (by omega) (by omega) hK1 hK2
  rw [hpe] at hyes hno
  clear ih hK1 hK2 hstep hpe
  apply step21
  apply gen_code (mk := Pr.tab)
  intro fail need same call loop len slen arith shift cmp conv eqS ltS cat app elt byt subS subL strOf isB fit inb cut room not and eqB avs G
  obtain ⟨SL, hSL⟩ : ∃ SL, SL = [.str [60, 61], .str [62, 61], .str [60, 62], .str [124, 124], .str [40], .str [41], .str [44], .str [46], .str [59], .str [61], .str [60], .str [62], .str [43], .str [45], .str [42], AV.str [47]] := ⟨_, rfl⟩
  have hb : cmp BinOp.lss y (len SL) = true := by rw [G.cmp', G.len', hSL]; simp [intRel]; omega
  have hin : inb y (len SL) = true := by rw [G.inb', G.len', hSL]; simp; omega
  have helt : elt SL y = .str sg := by
   rw [G.elt', hSL]
   show (Pr.signs.map AV.str).getD y.toNat AV.undef = _
   rw [hy, ← hsg]
   simp [List.getD_eq_getElem?_getD, hlt]
  have hsgl : slen sg = (sg.length : Int) := by rw [G.slen']
  have hadd : arith BinOp.add IntKind.i64 z (slen sg) = z + slen sg := by rw [hsgl, G.arith']; exact wrap_i64 _ (by omega) (by omega)
  have hleq : cmp BinOp.leq (z + slen sg) (slen s) = decide (i + sg.length ≤ s.length) := by
   rw [hsgl, G.cmp', G.slen']; simp only [intRel]; rw [Bool.eq_iff_iff]; simp only [decide_eq_true_eq]; omega
  have hcut : decide (i + sg.length ≤ s.length) = true → cut z (z + slen sg) (slen s) = true := fun h => by have := of_decide_eq_true h; rw [hsgl, G.cut', G.slen']; simp; omega
  have hsub : subS s z (z + slen sg) = (s.drop i).take sg.length := by
   rw [hsgl, G.subS', hz]
   simp only [Int.toNat_natCast]
   rw [show ((i : Int) + (sg.length : Int) - (i : Int)).toNat = sg.length by omega]
  have hone : arith BinOp.add IntKind.i64 y 1 = y + 1 := by rw [G.arith']; exact wrap_i64 _ (by omega) (by omega)
  have heq : eqS ((s.drop i).take sg.length) sg = ((s.drop i).take sg.length == sg) := by rw [G.eqS']
  have hyes := fun h => hyes h (slen sg) hsgl
  unfold envSg signsL at hno ⊢
  rw [← hSL] at hno ⊢
  generalize hL : LoopP Tryz.prog (Pr.tab real) 49 c21 (Less K) = L at *
  generalize hK' : Less K = K' at *
  generalize y + 1 = y1 at *
  obtain ⟨gl, hgl⟩ : ∃ gl, slen sg = gl := ⟨_, rfl⟩
  rw [hgl] at hsgl hadd hleq hcut hsub hyes
  generalize z + gl = zg at *
  generalize decide (i + sg.length ≤ s.length) = dl at *
  generalize ((s.drop i).take sg.length == sg) = de at *
  generalize (s.drop i).take sg.length = tk at *
  clear hSL
  cbv
  refine GenH.need' G rfl ?_
  rw [hb]
  cbv
  refine GenH.need' G hin ?_
  rw [helt]
  cbv
  refine GenH.need' G rfl (GenH.need' G rfl ?_)
  rw [hgl, hadd, hleq]
  cases dl with
  | false =>
   have go := hno rfl
   cbv
   refine GenH.need' G rfl ?_
   rw [hone]
   rw [← hL] at go ⊢
   exact LoopP.weak (env' := [(0, .str s), (1, .int .i64 z), (4, .ptr 0 0), (7, .slice 9 SL .exact), (8, .int .i64 y1)]) (.cons rfl (.cons rfl (.cons rfl (.cons rfl (.cons rfl (.nil _)))))) go
  | true =>
   have hcut := hcut rfl
   cbv
   refine GenH.need' G rfl ?_
   rw [hadd]
   refine GenH.need' G hcut (GenH.need' G hin ?_)
   rw [hsub, helt]
   cbv
   rw [heq]
   cases de with
   | false =>
    have go := hno rfl
    cbv
    refine GenH.need' G rfl ?_
    rw [hone]
    rw [← hL] at go ⊢
    exact LoopP.weak (env' := [(0, .str s), (1, .int .i64 z), (4, .ptr 0 0), (7, .slice 9 SL .exact), (8, .int .i64 y1)]) (.cons rfl (.cons rfl (.cons rfl (.cons rfl (.cons rfl (.nil _)))))) go
   | true =>
    have hyes := hyes rfl
    cbv
    refine GenH.need' G hin ?_
    rw [helt]
    cbv
    rw [← hK']
    exact ⟨[(4, .ptr 0 0), (5, .int .i64 gl), (6, .str [48, 48, 48, 48, 48])], .cons rfl (.cons rfl (.cons rfl (.nil _))), hyes⟩
def refSign (s : List UInt8) (i : Nat) : AV := match signIn s i Pr.signs with
 | none => .tup [zeroTok, .int .i64 0, .str sSyntax]
 | some x => .tup [.agg [.int .i64 3, .str x, .int .i64 0, .int .i64 i], .int .i64 x.length, .str sDone]
theorem refSign_spec (s : List UInt8) (hs : s.length ≤ 1000000) (i : Nat) (z : Int) (hz : z = i) (hi : i < s.length) (S : St) (K : Out → St → Prop) (hK : K (.ret (refSign s i)) S) : CallP Tryz.prog (Pr.tab real) 31 [.str s, .int .i64 z] S K := by
 refine CallP.lift (K0 := fun o _ => o = .ret (refSign s i)) rfl ?_ (by
  rintro o S0 rfl
  unfold refSign at hK ⊢
  generalize signIn s i Pr.signs = r at *
  cases r <;> exact hK)
 apply body_calls (un := 0) Pr.tabOk Pr.mixed Pl.fn31 (Nat.le_of_ble_eq_true rfl)
 apply gen_body (mk := Pr.tab)
 intro fail need same call loop len slen arith shift cmp conv eqS ltS cat app elt byt subS subL strOf isB fit inb cut room not and eqB avs G
 have hloop := fun K => refSign_loop s hs i (by omega) z hz K 16 0 0 rfl rfl
 rw [List.drop_zero] at hloop
 have h1 : signIn s i Pr.signs = none → ∀ S : St, (fun (o : Out) (_ : St) => o = .ret (refSign s i)) (.ret (.tup [.agg [.int .i64 0, .str [], .int .i64 0, .int .i64 0], .int .i64 0, .str sSyntax])) S := fun h S => by
  show _ = _
  unfold refSign; rw [h]; rfl
 have h2 : ∀ x, signIn s i Pr.signs = some x → ∀ m : Int, m = x.length → ∀ S : St, (fun (o : Out) (_ : St) => o = .ret (refSign s i)) (.ret (.tup [.agg [.int .i64 3, .str x, .int .i64 0, .int .i64 z], .int .i64 m, .str sDone])) S := fun x h m hm S => by
  show _ = _
  unfold refSign; rw [h, hm, hz]
 generalize (fun (o : Out) (_ : St) => o = .ret (refSign s i)) = K0 at *
 generalize signIn s i Pr.signs = r at *
 cbv
 refine GenH.need' G rfl ?_
 refine GenH.loop' G ?_
 change LoopP Tryz.prog (Pr.tab real) 49 c21 _ _ _
 refine LoopP.relax (LoopP.weak (env' := envSg s z 0) (.cons rfl (.cons rfl (.cons rfl (.cons rfl (.cons rfl (.nil _)))))) ?_)
 refine hloop _ (fun x h m hm => ?_) fun h => ?_
 · have h2 := h2 x h m hm
   cbv
   exact h2 _
 · have h1 := h1 h
   cbv
   exact h1 _
end Go.AM
namespace Go.AM
open Go.Proofs
def zeroTk : Tk := ⟨0, [], 0, 0⟩
def refV (r : Tk × Nat × List UInt8) : AV := .tup [r.1.av, .int .i64 r.2.1, .str r.2.2]
def refWordR (w : List UInt8) (i : Nat) : Tk × Nat × List UInt8 := match decide (32 < w.length) with
 | true => (zeroTk, 0, sSyntax)
 | false => (⟨0, w.map low, 0, i⟩, w.length, sDone)
def refNumR (s d : List UInt8) (i j : Nat) : Tk × Nat × List UInt8 := match decide (9223372036854775808 ≤ numFold 0 d) with
 | true => (zeroTk, 0, sRange)
 | false => match decide (j < s.length) && isLetter (s.getD j 0) with
  | true => (zeroTk, 0, sSyntax)
  | false => (⟨1, [], numFold 0 d, i⟩, d.length, sDone)
def refTextR (s : List UInt8) (i : Nat) : Tk × Nat × List UInt8 := match refTxt s (s.length + 1) (i + 1) [] true with
 | none => (zeroTk, 0, sSyntax)
 | some (b, ok, k) => match ok with
  | false => (zeroTk, 0, sSyntax)
  | true => match decide (400 < b.length) with
   | true => (zeroTk, 0, sTooLong)
   | false => (⟨2, b, 0, i⟩, k + 1 - i, sDone)
def refSignR (s : List UInt8) (i : Nat) : Tk × Nat × List UInt8 := match signIn s i Pr.signs with
 | none => (zeroTk, 0, sSyntax)
 | some x => (⟨3, x, 0, i⟩, x.length, sDone)
def refNext (s : List UInt8) (i : Nat) : Tk × Nat × List UInt8 := match isLetter (s.getD i 0) with
 | true => refWordR ((s.drop i).takeWhile isWord) i
 | false => match isDigit (s.getD i 0) with
  | true => refNumR s ((s.drop i).takeWhile isDigit) i (scan isDigit s i)
  | false => match s.getD i 0 == 39 with
   | true => refTextR s i
   | false => refSignR s i
theorem refWord_eq (w : List UInt8) (i : Nat) : refWord w i = refV (refWordR w i) := by
 unfold refWord refWordR refV; cases decide (32 < w.length) <;> rfl
theorem refNum_eq (s d : List UInt8) (i j : Nat) : refNum s d i j = refV (refNumR s d i j) := by
 unfold refNum refNumR refV
 cases decide (9223372036854775808 ≤ numFold 0 d) with
 | true => rfl
 | false => cases (decide (j < s.length) && isLetter (s.getD j 0)) <;> rfl
theorem refTxt_ge (s : List UInt8) (n : Nat) : ∀ (k : Nat) (b : List UInt8) (ok : Bool) (b' : List UInt8) (ok' : Bool) (k' : Nat), refTxt s n k b ok = some (b', ok', k') → k ≤ k' ∧ k' < s.length := by
 induction n with
 | zero => intro k b ok b' ok' k' h; cases h
 | succ n ih =>
  intro k b ok b' ok' k' h
  unfold refTxt at h
  cases h1 : decide (k < s.length) with
  | false => rw [h1] at h; cases h
  | true =>
   rw [h1] at h
   have h1' := of_decide_eq_true h1
   cases h2 : (s.getD k 0 == 39) with
   | false => rw [h2] at h; have := ih _ _ _ _ _ _ h; omega
   | true =>
    rw [h2] at h
    cases h3 : (decide (k + 1 < s.length) && s.getD (k + 1) 0 == 39) with
    | true => rw [h3] at h; have := ih _ _ _ _ _ _ h; omega
    | false =>
     rw [h3] at h
     simp only [Option.some.injEq, Prod.mk.injEq] at h
     omega
theorem refText_eq (s : List UInt8) (i : Nat) : refText s i = refV (refTextR s i) := by
 unfold refText refTextR refV
 cases hr : refTxt s (s.length + 1) (i + 1) [] true with
 | none => rfl
 | some r =>
  obtain ⟨b, ok, k⟩ := r
  have hk := refTxt_ge s _ _ _ _ _ _ _ hr
  unfold refTxtV
  cases ok with
  | false => rfl
  | true =>
   dsimp only
   cases decide (400 < b.length) with
   | true => rfl
   | false =>
    show AV.tup [.agg [.int .i64 2, .str b, .int .i64 0, .int .i64 i], .int .i64 ((k : Int) + 1 - i), .str sDone] = _
    rw [show (k : Int) + 1 - i = ((k + 1 - i : Nat) : Int) by omega]
    rfl
theorem refSign_eq (s : List UInt8) (i : Nat) : refSign s i = refV (refSignR s i) := by
 unfold refSign refSignR refV; cases signIn s i Pr.signs <;> rfl
theorem refNext_le (s : List UInt8) (i : Nat) (hi : i < s.length) (h : (refNext s i).2.2 = sDone) : 0 < (refNext s i).2.1 ∧ i + (refNext s i).2.1 ≤ s.length := by
 unfold refNext at h ⊢
 cases h1 : isLetter (s.getD i 0) with
 | true =>
  rw [h1] at h
  have h2 := scan_lt isWord s i hi (by unfold isWord; rw [h1]; rfl)
  have h3 := scan_le isWord s i (by omega)
  have h4 : scan isWord s i = i + ((s.drop i).takeWhile isWord).length := rfl
  simp only at h ⊢
  unfold refWordR at h ⊢
  cases hd : decide (32 < ((s.drop i).takeWhile isWord).length) with
  | true => rw [hd] at h; simp [sSyntax, sDone] at h
  | false => simp only; omega
 | false =>
  rw [h1] at h
  cases h2 : isDigit (s.getD i 0) with
  | true =>
   rw [h2] at h
   have h2 := scan_lt isDigit s i hi h2
   have h3 := scan_le isDigit s i (by omega)
   have h4 : scan isDigit s i = i + ((s.drop i).takeWhile isDigit).length := rfl
   simp only at h ⊢
   unfold refNumR at h ⊢
   cases hd : decide (9223372036854775808 ≤ numFold 0 ((s.drop i).takeWhile isDigit)) with
   | true => rw [hd] at h; simp [sRange, sDone] at h
   | false =>
    rw [hd] at h
    cases he : (decide (scan isDigit s i < s.length) && isLetter (s.getD (scan isDigit s i) 0)) with
    | true => rw [he] at h; simp [sSyntax, sDone] at h
    | false => simp only; omega
  | false =>
   rw [h2] at h
   cases h3 : (s.getD i 0 == 39) with
   | true =>
    rw [h3] at h
    simp only at h ⊢
    unfold refTextR at h ⊢
    cases ht : refTxt s (s.length + 1) (i + 1) [] true with
    | none => rw [ht] at h; simp [sSyntax, sDone] at h
    | some r =>
     obtain ⟨b, ok, k⟩ := r
     have hk := refTxt_ge s _ _ _ _ _ _ _ ht
     rw [ht] at h
     cases ok with
     | false => simp [sSyntax, sDone] at h
     | true =>
      cases hd : decide (400 < b.length) with
      | true => simp only [hd] at h; simp [sTooLong, sDone] at h
      | false => simp only [hd]; omega
   | false =>
    rw [h3] at h
    simp only at h ⊢
    unfold refSignR at h ⊢
    cases ho : signIn s i Pr.signs with
    | none => rw [ho] at h; simp [sSyntax, sDone] at h
    | some x =>
     have hm := List.mem_of_find?_eq_some ho
     have hp := List.find?_some ho
     have hpos : ∀ y ∈ Pr.signs, 1 ≤ y.length := by decide
     have h1 := hpos x hm
     have hpre : x <+: s.drop i := List.isPrefixOf_iff_prefix.1 hp
     have hl := hpre.length_le
     simp at hl
     simp only
     omega
theorem blankN_le (s : List UInt8) (i : Nat) (hi : i < s.length) : i + blankN s i ≤ s.length := by
 unfold blankN
 cases isBlank (s.getD i 0) with
 | true => simp only; omega
 | false =>
  cases hp : [45, 45].isPrefixOf (s.drop i) with
  | false => simp only; omega
  | true =>
   have hpre : [45, 45] <+: s.drop i := List.isPrefixOf_iff_prefix.1 hp
   have hl := hpre.length_le
   simp at hl
   have := scan_le notEnd s (i + 2) (by omega)
   simp only
   omega
def refN (s : List UInt8) : Nat → Nat → List Tk → List Tk ⊕ List UInt8
 | 0, _, _ => .inr []
 | n + 1, p, acc => match decide (p < s.length) with
  | false => .inl acc
  | true => match decide (0 < blankN s p) with
   | true => refN s n (p + blankN s p) acc
   | false => match (refNext s p).2.2 == sDone with
    | false => .inr (refNext s p).2.2
    | true => match decide (600 ≤ acc.length) with
     | true => .inr sLarge
     | false => refN s n (p + (refNext s p).2.1) (acc ++ [(refNext s p).1])
end Go.AM
namespace Go.AM
open Go.Proofs
theorem Pl.fn14 : FnOk Tryz.prog 14 (fni Tryz.f14 Pr.a14) := ⟨⟨Tryz.f14, Tryz.func14, rfl, rfl, rfl, by kernel_rfl⟩, by kernel_rfl⟩
noncomputable def c8 : Code := (fni Tryz.f14 Pr.a14).loop 0
theorem Pl.c8 : codeOk 85 Pr.a14 c8 = true := by kernel_rfl
theorem step8 (K : Ex → Env → St → Prop) (env : Env) (S : St) (h : xcode (pAlg Tryz.prog (Pr.tab real) 85) (Pr.tab real) Pr.a14 0 c8 (andThen (LoopP Tryz.prog (Pr.tab real) 85 c8 K) K) env S) : LoopP Tryz.prog (Pr.tab real) 85 c8 K env S :=
 loopP_step Pr.tabOk Pr.mixed Pl.c8 h
theorem ref_loop (s : List UInt8) (hs : s.length ≤ 2000) (K : Ex → Env → St → Prop) (n : Nat) :
  ∀ (p : Nat) (z : Int) (acc : List Tk) (S : St), z = p → p ≤ s.length → s.length - p < n → acc.length ≤ 2000 → S.caps = accCaps acc →
   (∀ acc' S', refN s n p acc = .inl acc' → K (.exit 0) [(4, accV acc')] S') →
   (∀ st S', refN s n p acc = .inr st → K .ret [(2, .slice 0 [] .exact), (3, .str st)] S') →
   LoopP Tryz.prog (Pr.tab real) 85 c8 (Less K) [(0, .str s), (4, accV acc), (5, .int .i64 z)] S := by
 induction n with
 | zero => intro p z acc S hz hp hn; omega
 | succ n ih =>
  intro p z acc S hz hp hn hacc hcaps hK1 hK2
  unfold refN at hK1 hK2
  obtain ⟨r, hr⟩ : ∃ r, refNext s p = r := ⟨_, rfl⟩
  obtain ⟨bn, hbn⟩ : ∃ bn, blankN s p = bn := ⟨_, rfl⟩
  rw [hr, hbn] at hK1 hK2
  have hle : p < s.length → r.2.2 = sDone → 0 < r.2.1 ∧ p + r.2.1 ≤ s.length := fun h1 h2 => by
   have := refNext_le s p h1 (by rw [hr]; exact h2)
   rw [hr] at this; exact this
  have hble : p < s.length → p + bn ≤ s.length := fun h => by rw [← hbn]; exact blankN_le s p h
  have hskip : decide (p < s.length) = true → decide (0 < bn) = true → ∀ (S' : St) (y : Int), y = z + bn → S'.caps = S.caps → LoopP Tryz.prog (Pr.tab real) 85 c8 (Less K) [(0, .str s), (4, accV acc), (5, .int .i64 y)] S' := fun h1 h2 S' y hy hc => by
   have h1' := of_decide_eq_true h1
   have h2' := of_decide_eq_true h2
   have hb := hble h1'
   exact ih (p + bn) y acc S' (by omega) hb (by omega) hacc (hc.trans hcaps) (fun a S'' h => hK1 a S'' (by rw [h1, h2]; exact h)) (fun a S'' h => hK2 a S'' (by rw [h1, h2]; exact h))
  have hround : decide (p < s.length) = true → decide (0 < bn) = false → (r.2.2 == sDone) = true → decide (600 ≤ acc.length) = false → ∀ (S' : St) (y : Int), y = z + r.2.1 → S'.caps = accCaps (acc ++ [r.1]) →
    LoopP Tryz.prog (Pr.tab real) 85 c8 (Less K) [(0, .str s), (4, accV (acc ++ [r.1])), (5, .int .i64 y)] S' := fun h1 h2 h3 h4 S' y hy hc => by
   have h1' := of_decide_eq_true h1
   have h4' := of_decide_eq_false h4
   have hb := hle h1' (by simpa using h3)
   exact ih (p + r.2.1) y _ S' (by omega) hb.2 (by omega) (by simp; omega) hc (fun a S'' h => hK1 a S'' (by rw [h1, h2, h3, h4]; exact h)) (fun a S'' h => hK2 a S'' (by rw [h1, h2, h3, h4]; exact h))
  have hend : decide (p < s.length) = false → ∀ S', K (.exit 0) [(4, accV acc)] S' := fun h S' => hK1 acc S' (by rw [h])
  have herr : decide (p < s.length) = true → decide (0 < bn) = false → (r.2.2 == sDone) = false → ∀ S', K .ret [(2, .slice 0 [] .exact), (3, .str r.2.2)] S' := fun h1 h2 h3 S' => hK2 _ S' (by rw [h1, h2, h3])
  have hbig : decide (p < s.length) = true → decide (0 < bn) = false → (r.2.2 == sDone) = true → decide (600 ≤ acc.length) = true → ∀ S', K .ret [(2, .slice 0 [] .exact), (3, .str sLarge)] S' := fun h1 h2 h3 h4 S' => hK2 sLarge S' (by rw [h1, h2, h3, h4])
  clear ih hK1 hK2
  obtain ⟨O, m, caps⟩ := S
  have hcaps : caps = accCaps acc := hcaps
  obtain ⟨c, hc⟩ : ∃ c, s.getD p 0 = c := ⟨_, rfl⟩
  obtain ⟨cz, hcz⟩ : ∃ cz : Int, cz = c.toNat := ⟨_, rfl⟩
  have wB : decide (p < s.length) = true → ∀ S K, (∀ y : Int, y = bn → K (.ret (.int .i64 y)) S) → CallP Tryz.prog (Pr.tab real) 25 [.str s, .int .i64 z] S K := fun h S K hk =>
   blank_spec s (by omega) p z hz (of_decide_eq_true h) S K (by rw [hbn]; exact hk)
  have hnx : ∀ v : AV, v = refV r → v = .tup [r.1.av, .int .i64 r.2.1, .str r.2.2] := fun v h => h
  have wW : isLetter c = true → ∀ S K, (∀ y : Int, y = r.2.1 → K (.ret (.tup [r.1.av, .int .i64 y, .str r.2.2])) S) → CallP Tryz.prog (Pr.tab real) 28 [.str s, .int .i64 z] S K := fun h S K hk => by
   refine word_spec s (by omega) p z hz hp S K ?_
   rw [refWord_eq]
   have : refWordR ((s.drop p).takeWhile isWord) p = r := by rw [← hr]; unfold refNext; rw [hc, h]
   rw [this]; exact hk _ rfl
  have wN : isLetter c = false → isDigit c = true → ∀ S K, (∀ y : Int, y = r.2.1 → K (.ret (.tup [r.1.av, .int .i64 y, .str r.2.2])) S) → CallP Tryz.prog (Pr.tab real) 29 [.str s, .int .i64 z] S K := fun h h' S K hk => by
   refine number_spec s (by omega) p z hz hp S K ?_
   rw [refNum_eq]
   have : refNumR s ((s.drop p).takeWhile isDigit) p (scan isDigit s p) = r := by rw [← hr]; unfold refNext; rw [hc, h, h']
   rw [this]; exact hk _ rfl
  have wT : decide (p < s.length) = true → isLetter c = false → isDigit c = false → (c == 39) = true → ∀ S K, (∀ y : Int, y = r.2.1 → K (.ret (.tup [r.1.av, .int .i64 y, .str r.2.2])) S) → CallP Tryz.prog (Pr.tab real) 30 [.str s, .int .i64 z] S K := fun h0 h h' h3 S K hk => by
   refine refText_spec s (by omega) p z hz (of_decide_eq_true h0) S K ?_
   rw [refText_eq]
   have : refTextR s p = r := by rw [← hr]; unfold refNext; rw [hc, h, h', h3]
   rw [this]; exact hk _ rfl
  have wS : decide (p < s.length) = true → isLetter c = false → isDigit c = false → (c == 39) = false → ∀ S K, (∀ y : Int, y = r.2.1 → K (.ret (.tup [r.1.av, .int .i64 y, .str r.2.2])) S) → CallP Tryz.prog (Pr.tab real) 31 [.str s, .int .i64 z] S K := fun h0 h h' h3 S K hk => by
   refine refSign_spec s (by omega) p z hz (of_decide_eq_true h0) S K ?_
   rw [refSign_eq]
   have : refSignR s p = r := by rw [← hr]; unfold refNext; rw [hc, h, h', h3]
   rw [this]; exact hk _ rfl
  have hA : ∀ S K, K (.ret (.bool (isLetter c))) S → CallP Tryz.prog (Pr.tab real) 26 [.int .u8 cz] S K := fun S K h => by rw [hcz]; exact asks16 c S K h
  have hD : ∀ S K, K (.ret (.bool (isDigit c))) S → CallP Tryz.prog (Pr.tab real) 27 [.int .u8 cz] S K := fun S K h => by rw [hcz]; exact asks17 c S K h
  apply step8
  apply gen_code (mk := Pr.tab)
  intro fail need same call loop len slen arith shift cmp conv eqS ltS cat app elt byt subS subL strOf isB fit inb cut room not and eqB avs G
  have hlss : cmp BinOp.lss z (slen s) = decide (p < s.length) := by
   rw [G.cmp', G.slen']; simp only [intRel]; rw [Bool.eq_iff_iff]; simp only [decide_eq_true_eq]; omega
  have hin : decide (p < s.length) = true → inb z (slen s) = true := fun h => by have := of_decide_eq_true h; rw [G.inb', G.slen']; simp; omega
  have hbyt : byt s z = cz := by rw [G.byt', hz, hcz, ← hc]; rfl
  have h39 : cmp BinOp.eql cz 39 = (c == 39) := by rw [G.cmp', hcz]; exact eqb c 39
  have hgt : ∀ y : Int, y = bn → cmp BinOp.gtr y 0 = decide (0 < bn) := fun y hy => by
   rw [G.cmp', hy]; simp only [intRel]; rw [Bool.eq_iff_iff]; simp only [decide_eq_true_eq]; omega
  have haddb : decide (p < s.length) = true → ∀ y : Int, y = bn → arith BinOp.add IntKind.i64 z y = z + bn := fun h y hy => by
   have := hble (of_decide_eq_true h)
   rw [hy, G.arith']; exact wrap_i64 _ (by omega) (by omega)
  have haddr : decide (p < s.length) = true → (r.2.2 == sDone) = true → ∀ y : Int, y = r.2.1 → arith BinOp.add IntKind.i64 z y = z + r.2.1 := fun h h' y hy => by
   have := hle (of_decide_eq_true h) (by simpa using h')
   rw [hy, G.arith']; exact wrap_i64 _ (by omega) (by omega)
  have hne : not (eqS r.2.2 [48, 48, 48, 48, 48]) = !(r.2.2 == sDone) := by rw [G.not', G.eqS']; rfl
  have hlen : cmp BinOp.geq (len (acc.map Tk.av)) 600 = decide (600 ≤ acc.length) := by
   rw [G.cmp', G.len']; simp only [intRel, List.length_map]; rw [Bool.eq_iff_iff]; simp only [decide_eq_true_eq]; omega
  have happ : app (acc.map Tk.av) [r.1.av] = (acc ++ [r.1]).map Tk.av := by rw [G.app']; simp
  have hroom : room (len ((acc ++ [r.1]).map Tk.av)) 40 = true := by rw [G.room', G.len']; simp; omega
  have hlen2 : len ((acc ++ [r.1]).map Tk.av) = ((acc ++ [r.1]).length : Int) := by rw [G.len']; simp
  have hvapp : accV (acc ++ [r.1]) = .slice 41 ((acc ++ [r.1]).map Tk.av) (.own 0) ∧ accCaps (acc ++ [r.1]) = [((acc ++ [r.1]).length : Int)] := by
   cases acc <;> exact ⟨rfl, rfl⟩
  have hcase : (accV acc = .slice 0 [] .exact ∧ caps = [] ∧ acc.map Tk.av = []) ∨ (accV acc = .slice 41 (acc.map Tk.av) (.own 0) ∧ caps = [(acc.length : Int)]) := by
   rw [hcaps]
   cases acc with
   | nil => exact .inl ⟨rfl, rfl, rfl⟩
   | cons => exact .inr ⟨rfl, rfl⟩
  have hown : cmp BinOp.eql (acc.length : Int) (len (acc.map Tk.av)) = true := by rw [G.cmp', G.len']; simp [intRel]
  rw [hvapp.1, hvapp.2] at hround
  have hskip : decide (p < s.length) = true → decide (0 < bn) = true → ∀ (O' : List (Nat × List AV)) (m' : Nat), LoopP Tryz.prog (Pr.tab real) 85 c8 (Less K) [(0, .str s), (4, accV acc), (5, .int .i64 (z + bn))] ⟨O', m', caps⟩ := fun h h' O' m' => hskip h h' _ _ rfl rfl
  have hround : decide (p < s.length) = true → decide (0 < bn) = false → (r.2.2 == sDone) = true → decide (600 ≤ acc.length) = false → ∀ (O' : List (Nat × List AV)) (m' : Nat),
    LoopP Tryz.prog (Pr.tab real) 85 c8 (Less K) [(0, .str s), (4, .slice 41 ((acc ++ [r.1]).map Tk.av) (.own 0)), (5, .int .i64 (z + r.2.1))] ⟨O', m', [((acc ++ [r.1]).length : Int)]⟩ := fun h1 h2 h3 h4 O' m' => hround h1 h2 h3 h4 _ _ rfl rfl
  have hnn : Nat.beq m m = true := Nat.beq_refl m
  have hbb : Nat.ble m m = true := Nat.ble_eq_true_of_le (Nat.le_refl m)
  have hn1 : not true = false := by rw [G.not']; rfl
  clear hvapp hcaps hle hble hr hbn hnx hc hcz
  obtain ⟨⟨k1, t1, n1, p1⟩, cnt, st⟩ := r
  rw [show (Tk.av (⟨k1, t1, n1, p1⟩, cnt, st).1) = .agg [.int .i64 k1, .str t1, .int .i64 n1, .int .i64 p1] from rfl] at happ wW wN wT wS
  simp only at happ hroom hlen2 hround wW wN wT wS herr hbig haddr hne
  generalize hL : LoopP Tryz.prog (Pr.tab real) 85 c8 (Less K) = L at hround hskip ⊢
  generalize hK' : Less K = K' at hL ⊢
  generalize accV acc = av at *
  generalize ((acc ++ [(⟨k1, t1, n1, p1⟩ : Tk)]).length : Int) = n2 at *
  generalize (acc ++ [(⟨k1, t1, n1, p1⟩ : Tk)]).map Tk.av = cs2 at *
  generalize (acc.length : Int) = nl at *
  generalize acc.map Tk.av = cs at *
  generalize decide (p < s.length) = dp at *
  generalize hdb : decide (0 < bn) = db at *
  generalize (st == sDone) = ds at *
  generalize decide (600 ≤ acc.length) = da at *
  generalize z + (bn : Int) = zb at *
  generalize z + (cnt : Int) = zc at *
  generalize isLetter c = lc at *
  generalize isDigit c = dc at *
  generalize (c == 39) = qc at *
  clear hdb
  cbv at hnn hbb
  cbv
  refine GenH.need' G rfl ?_
  rw [hlss]
  cases dp with
  | false =>
   have hend := hend rfl
   cbv
   rw [← hK']
   exact ⟨[(4, av)], .cons rfl (.nil _), hend _⟩
  | true =>
   have hin := hin rfl
   have hskip := hskip rfl
   have hround := hround rfl
   have herr := herr rfl
   have hbig := hbig rfl
   have haddb := haddb rfl
   have haddr := haddr rfl
   have wT := wT rfl
   have wS := wS rfl
   cbv
   refine GenH.call' G (wB rfl _ _ fun y hy => ?_)
   have hgt := hgt y hy
   have haddb := haddb y hy
   cbv
   refine GenH.need' G rfl ?_
   rw [hgt]
   cases db with
   | true =>
    have hskip := hskip rfl
    cbv
    refine GenH.need' G rfl ?_
    rw [haddb]
    rw [← hL] at hskip ⊢
    exact LoopP.weak (env' := [(0, .str s), (4, av), (5, .int .i64 zb)]) (.cons rfl (.cons rfl (.cons rfl (.nil _)))) (hskip _ _)
   | false =>
    have hround := hround rfl
    have herr := herr rfl
    have hbig := hbig rfl
    cbv
    refine GenH.need' G hin ?_
    rw [hbyt]
    refine GenH.call' G (hA _ _ ?_)
    cbv
    refine GenH.need' G hin ?_
    try rw [hbyt]
    refine GenH.call' G (hD _ _ ?_)
    cases lc with
    | true =>
     cbv
     refine GenH.call' G (wW rfl _ _ fun y2 hy2 => ?_)
     have haddr := fun h => haddr h y2 hy2
     cbv
     iterate 4 (first | (rw [hnn]; cbv) | (rw [hbb]; cbv) | skip)
     rw [hne]
     cases ds with
     | false =>
      have herr := herr rfl
      cbv
      rw [← hK']
      exact ⟨[(2, .slice 0 [] .exact), (3, .str st)], .cons rfl (.cons rfl (.nil _)), herr _⟩
     | true =>
      have hround := hround rfl
      have hbig := hbig rfl
      have haddr := haddr rfl
      rcases hcase with ⟨rfl, rfl, rfl⟩ | ⟨rfl, rfl⟩
      · cbv
        refine GenH.need' G rfl ?_
        rw [hlen]
        cases da with
        | true =>
         have hbig := hbig rfl
         cbv
         rw [← hK']
         exact ⟨[(2, .slice 0 [] .exact), (3, .str [53, 52, 48, 48, 48])], .cons rfl (.cons rfl (.nil _)), hbig _⟩
        | false =>
         have hround := hround rfl
         cbv
         iterate 4 (first | (rw [hbb]; cbv) | (rw [hnn]; cbv) | skip)
         rw [happ]
         refine GenH.need' G rfl (GenH.need' G hroom (GenH.need' G rfl ?_))
         rw [hlen2, haddr]
         rw [← hL] at hround ⊢
         exact LoopP.weak (env' := [(0, .str s), (4, .slice 41 cs2 (.own 0)), (5, .int .i64 zc)]) (.cons rfl (.cons rfl (.cons rfl (.nil _)))) (hround _ _)
      · cbv
        refine GenH.need' G rfl ?_
        rw [hlen]
        cases da with
        | true =>
         have hbig := hbig rfl
         cbv
         rw [← hK']
         exact ⟨[(2, .slice 0 [] .exact), (3, .str [53, 52, 48, 48, 48])], .cons rfl (.cons rfl (.nil _)), hbig _⟩
        | false =>
         have hround := hround rfl
         cbv
         iterate 4 (first | (rw [hbb]; cbv) | (rw [hnn]; cbv) | skip)
         rw [happ]
         refine GenH.need' G rfl (GenH.need' G hroom (GenH.need' G hown (GenH.need' G rfl ?_)))
         rw [hlen2, haddr]
         rw [← hL] at hround ⊢
         exact LoopP.weak (env' := [(0, .str s), (4, .slice 41 cs2 (.own 0)), (5, .int .i64 zc)]) (.cons rfl (.cons rfl (.cons rfl (.nil _)))) (hround _ _)
    | false =>
     cases dc with
     | true =>
      cbv
      refine GenH.call' G (wN rfl rfl _ _ fun y2 hy2 => ?_)
      have haddr := fun h => haddr h y2 hy2
      cbv
      iterate 4 (first | (rw [hnn]; cbv) | (rw [hbb]; cbv) | skip)
      rw [hne]
      cases ds with
      | false =>
       have herr := herr rfl
       cbv
       rw [← hK']
       exact ⟨[(2, .slice 0 [] .exact), (3, .str st)], .cons rfl (.cons rfl (.nil _)), herr _⟩
      | true =>
       have hround := hround rfl
       have hbig := hbig rfl
       have haddr := haddr rfl
       rcases hcase with ⟨rfl, rfl, rfl⟩ | ⟨rfl, rfl⟩
       · cbv
         refine GenH.need' G rfl ?_
         rw [hlen]
         cases da with
         | true =>
          have hbig := hbig rfl
          cbv
          rw [← hK']
          exact ⟨[(2, .slice 0 [] .exact), (3, .str [53, 52, 48, 48, 48])], .cons rfl (.cons rfl (.nil _)), hbig _⟩
         | false =>
          have hround := hround rfl
          cbv
          iterate 4 (first | (rw [hbb]; cbv) | (rw [hnn]; cbv) | skip)
          rw [happ]
          refine GenH.need' G rfl (GenH.need' G hroom (GenH.need' G rfl ?_))
          rw [hlen2, haddr]
          rw [← hL] at hround ⊢
          exact LoopP.weak (env' := [(0, .str s), (4, .slice 41 cs2 (.own 0)), (5, .int .i64 zc)]) (.cons rfl (.cons rfl (.cons rfl (.nil _)))) (hround _ _)
       · cbv
         refine GenH.need' G rfl ?_
         rw [hlen]
         cases da with
         | true =>
          have hbig := hbig rfl
          cbv
          rw [← hK']
          exact ⟨[(2, .slice 0 [] .exact), (3, .str [53, 52, 48, 48, 48])], .cons rfl (.cons rfl (.nil _)), hbig _⟩
         | false =>
          have hround := hround rfl
          cbv
          iterate 4 (first | (rw [hbb]; cbv) | (rw [hnn]; cbv) | skip)
          rw [happ]
          refine GenH.need' G rfl (GenH.need' G hroom (GenH.need' G hown (GenH.need' G rfl ?_)))
          rw [hlen2, haddr]
          rw [← hL] at hround ⊢
          exact LoopP.weak (env' := [(0, .str s), (4, .slice 41 cs2 (.own 0)), (5, .int .i64 zc)]) (.cons rfl (.cons rfl (.cons rfl (.nil _)))) (hround _ _)
     | false =>
      cbv
      refine GenH.need' G hin (GenH.need' G rfl ?_)
      try rw [hbyt]
      rw [h39]
      cases qc with
      | true =>
       cbv
       refine GenH.call' G (wT rfl rfl rfl _ _ fun y2 hy2 => ?_)
       have haddr := fun h => haddr h y2 hy2
       cbv
       iterate 4 (first | (rw [hnn]; cbv) | (rw [hbb]; cbv) | skip)
       rw [hne]
       cases ds with
       | false =>
        have herr := herr rfl
        cbv
        rw [← hK']
        exact ⟨[(2, .slice 0 [] .exact), (3, .str st)], .cons rfl (.cons rfl (.nil _)), herr _⟩
       | true =>
        have hround := hround rfl
        have hbig := hbig rfl
        have haddr := haddr rfl
        rcases hcase with ⟨rfl, rfl, rfl⟩ | ⟨rfl, rfl⟩
        · cbv
          refine GenH.need' G rfl ?_
          rw [hlen]
          cases da with
          | true =>
           have hbig := hbig rfl
           cbv
           rw [← hK']
           exact ⟨[(2, .slice 0 [] .exact), (3, .str [53, 52, 48, 48, 48])], .cons rfl (.cons rfl (.nil _)), hbig _⟩
          | false =>
           have hround := hround rfl
           cbv
           iterate 4 (first | (rw [hbb]; cbv) | (rw [hnn]; cbv) | skip)
           rw [happ]
           refine GenH.need' G rfl (GenH.need' G hroom (GenH.need' G rfl ?_))
           rw [hlen2, haddr]
           rw [← hL] at hround ⊢
           exact LoopP.weak (env' := [(0, .str s), (4, .slice 41 cs2 (.own 0)), (5, .int .i64 zc)]) (.cons rfl (.cons rfl (.cons rfl (.nil _)))) (hround _ _)
        · cbv
          refine GenH.need' G rfl ?_
          rw [hlen]
          cases da with
          | true =>
           have hbig := hbig rfl
           cbv
           rw [← hK']
           exact ⟨[(2, .slice 0 [] .exact), (3, .str [53, 52, 48, 48, 48])], .cons rfl (.cons rfl (.nil _)), hbig _⟩
          | false =>
           have hround := hround rfl
           cbv
           iterate 4 (first | (rw [hbb]; cbv) | (rw [hnn]; cbv) | skip)
           rw [happ]
           refine GenH.need' G rfl (GenH.need' G hroom (GenH.need' G hown (GenH.need' G rfl ?_)))
           rw [hlen2, haddr]
           rw [← hL] at hround ⊢
           exact LoopP.weak (env' := [(0, .str s), (4, .slice 41 cs2 (.own 0)), (5, .int .i64 zc)]) (.cons rfl (.cons rfl (.cons rfl (.nil _)))) (hround _ _)
      | false =>
       cbv
       refine GenH.call' G (wS rfl rfl rfl _ _ fun y2 hy2 => ?_)
       have haddr := fun h => haddr h y2 hy2
       cbv
       iterate 4 (first | (rw [hnn]; cbv) | (rw [hbb]; cbv) | skip)
       rw [hne]
       cases ds with
       | false =>
        have herr := herr rfl
        cbv
        rw [← hK']
        exact ⟨[(2, .slice 0 [] .exact), (3, .str st)], .cons rfl (.cons rfl (.nil _)), herr _⟩
       | true =>
        have hround := hround rfl
        have hbig := hbig rfl
        have haddr := haddr rfl
        rcases hcase with ⟨rfl, rfl, rfl⟩ | ⟨rfl, rfl⟩
        · cbv
          refine GenH.need' G rfl ?_
          rw [hlen]
          cases da with
          | true =>
           have hbig := hbig rfl
           cbv
           rw [← hK']
           exact ⟨[(2, .slice 0 [] .exact), (3, .str [53, 52, 48, 48, 48])], .cons rfl (.cons rfl (.nil _)), hbig _⟩
          | false =>
           have hround := hround rfl
           cbv
           iterate 4 (first | (rw [hbb]; cbv) | (rw [hnn]; cbv) | skip)
           rw [happ]
           refine GenH.need' G rfl (GenH.need' G hroom (GenH.need' G rfl ?_))
           rw [hlen2, haddr]
           rw [← hL] at hround ⊢
           exact LoopP.weak (env' := [(0, .str s), (4, .slice 41 cs2 (.own 0)), (5, .int .i64 zc)]) (.cons rfl (.cons rfl (.cons rfl (.nil _)))) (hround _ _)
        · cbv
          refine GenH.need' G rfl ?_
          rw [hlen]
          cases da with
          | true =>
           have hbig := hbig rfl
           cbv
           rw [← hK']
           exact ⟨[(2, .slice 0 [] .exact), (3, .str [53, 52, 48, 48, 48])], .cons rfl (.cons rfl (.nil _)), hbig _⟩
          | false =>
           have hround := hround rfl
           cbv
           iterate 4 (first | (rw [hbb]; cbv) | (rw [hnn]; cbv) | skip)
           rw [happ]
           refine GenH.need' G rfl (GenH.need' G hroom (GenH.need' G hown (GenH.need' G rfl ?_)))
           rw [hlen2, haddr]
           rw [← hL] at hround ⊢
           exact LoopP.weak (env' := [(0, .str s), (4, .slice 41 cs2 (.own 0)), (5, .int .i64 zc)]) (.cons rfl (.cons rfl (.cons rfl (.nil _)))) (hround _ _)
end Go.AM
namespace Go.AM
open Go.Proofs
def refScan (s : List UInt8) : List Tk × List UInt8 := match decide (2000 < s.length) with
 | true => ([], sLarge)
 | false => match refN s (s.length + 1) 0 [] with
  | .inl l => (l, sDone)
  | .inr st => ([], st)
theorem refScan_spec (s : List UInt8) (S : St) (K : Out → St → Prop) (hK : K (.ret (.tup [tokV (refScan s).1, .str (refScan s).2])) S) : CallP Tryz.prog (Pr.tab real) 14 [.str s] S K := by
 refine CallP.lift (K0 := fun o _ => o = .ret (.tup [accV (refScan s).1, .str (refScan s).2])) rfl ?_ (by
  rintro o S0 rfl
  generalize refScan s = r at *
  obtain ⟨l, st⟩ := r
  cases l <;> exact hK)
 apply body_calls (un := 0) Pr.tabOk Pr.mixed Pl.fn14 (Nat.le_of_ble_eq_true rfl)
 apply gen_body (mk := Pr.tab)
 intro fail need same call loop len slen arith shift cmp conv eqS ltS cat app elt byt subS subL strOf isB fit inb cut room not and eqB avs G
 have hgt : cmp BinOp.gtr (slen s) 2000 = decide (2000 < s.length) := by
  rw [G.cmp', G.slen']; simp only [intRel]; rw [Bool.eq_iff_iff]; simp only [decide_eq_true_eq]; omega
 have hbig : decide (2000 < s.length) = true → ∀ S : St, (fun (o : Out) (_ : St) => o = .ret (.tup [accV (refScan s).1, .str (refScan s).2])) (.ret (.tup [.slice 0 [] .exact, .str sLarge])) S := fun h S => by
  show _ = _
  unfold refScan
  rw [h]; rfl
 have hloop : decide (2000 < s.length) = false → ∀ K : Ex → Env → St → Prop, (∀ acc' S', refN s (s.length + 1) 0 [] = .inl acc' → K (.exit 0) [(4, accV acc')] S') →
   (∀ st S', refN s (s.length + 1) 0 [] = .inr st → K .ret [(2, .slice 0 [] .exact), (3, .str st)] S') → LoopP Tryz.prog (Pr.tab real) 85 c8 (Less K) [(0, .str s), (4, accV []), (5, .int .i64 0)] ⟨[], 0, []⟩ := fun h K h1 h2 => by
  have h' := of_decide_eq_false h
  exact ref_loop s (by omega) K (s.length + 1) 0 0 [] _ rfl (by omega) (by omega) (by simp) rfl h1 h2
 have hl : decide (2000 < s.length) = false → ∀ l, refN s (s.length + 1) 0 [] = .inl l → ∀ S : St, (fun (o : Out) (_ : St) => o = .ret (.tup [accV (refScan s).1, .str (refScan s).2])) (.ret (.tup [accV l, .str sDone])) S := fun h l hl S => by
  show _ = _
  unfold refScan
  rw [h, hl]
 have hr : decide (2000 < s.length) = false → ∀ st, refN s (s.length + 1) 0 [] = .inr st → ∀ S : St, (fun (o : Out) (_ : St) => o = .ret (.tup [accV (refScan s).1, .str (refScan s).2])) (.ret (.tup [.slice 0 [] .exact, .str st])) S := fun h st hl S => by
  show _ = _
  unfold refScan
  rw [h, hl]
  rfl
 generalize (fun (o : Out) (_ : St) => o = .ret (.tup [accV (refScan s).1, .str (refScan s).2])) = K0 at *
 generalize refN s (s.length + 1) 0 [] = sc at *
 generalize decide (2000 < s.length) = db at *
 cbv
 refine GenH.need' G rfl ?_
 rw [hgt]
 cases db with
 | true =>
  have hbig := hbig rfl
  cbv
  exact hbig _
 | false =>
  have hloop := hloop rfl
  have hl := hl rfl
  have hr := hr rfl
  cbv
  refine GenH.loop' G ?_
  change LoopP Tryz.prog (Pr.tab real) 85 c8 _ _ _
  refine LoopP.relax (LoopP.weak (env' := [(0, .str s), (4, accV []), (5, .int .i64 0)]) (.cons rfl (.cons rfl (.cons rfl (.nil _)))) ?_)
  refine hloop _ (fun l S' h => ?_) fun st S' h => ?_
  · have hl := hl l h
    generalize accV l = v at *
    cbv
    exact hl _
  · have hr := hr st h
    cbv
    exact hr _
end Go.AM
