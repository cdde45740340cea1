/- The contracts of the scanner, third part: the document in whole, and the plain law that both give the same tokens. -/
import Derived.Test.YtojkccnhlpjgbaaDoorLxB
namespace Go.AM
open Go.Proofs
set_option maxRecDepth 100000
set_option maxHeartbeats 1000000
set_option linter.unusedVariables false
theorem Lx.fn20 : FnOk Tryd.prog 20 (fni Tryd.f20 a20) := ⟨⟨Tryd.f20, Tryd.func20, rfl, rfl, rfl, by kernel_rfl⟩, by kernel_rfl⟩
noncomputable def c20 : Code := (fni Tryd.f20 a20).loop 0
theorem Lx.c20 : codeOk 74 a20 c20 = true := by kernel_rfl
theorem step20 (K : Ex → Env → St → Prop) (env : Env) (S : St) (h : xcode (pAlg Tryd.prog (Lx.tab real) 74) (Lx.tab real) a20 0 c20 (andThen (LoopP Tryd.prog (Lx.tab real) 74 c20 K) K) env S) : LoopP Tryd.prog (Lx.tab real) 74 c20 K env S :=
  loopP_step Lx.tabOk Lx.mixed Lx.c20 h

/-- The document's text, byte by byte. -/
def refTxt (s : List UInt8) : Nat → Nat → List UInt8 → Bool → Option (List UInt8 × Bool × Nat)
  | 0, _, _, _ => none
  | n + 1, k, b, ok => match decide (k < s.length) with
    | false => none
    | true => match s.getD k 0 == 39 with
      | true => match decide (k + 1 < s.length) && s.getD (k + 1) 0 == 39 with
        | true => refTxt s n (k + 2) (b ++ [39]) ok
        | false => some (b, ok, k)
      | false => refTxt s n (k + 1) (b ++ [s.getD k 0]) (ok && goodB (s.getD k 0))

def bV : List UInt8 → AV
  | [] => .slice 0 [] .exact
  | x :: r => .slice 5 (avl (x :: r)) (.own 0)
def bCaps : List UInt8 → List Int
  | [] => []
  | x :: r => [((x :: r).length : Int)]

theorem bV_app (b : List UInt8) (c : UInt8) : bV (b ++ [c]) = .slice 5 (avl (b ++ [c])) (.own 0) ∧ bCaps (b ++ [c]) = [((b ++ [c]).length : Int)] := by
  cases b <;> exact ⟨rfl, rfl⟩

def ST (row : List AV) (caps : List Int) : St := ⟨[(0, row)], 1, caps⟩
def row0 : List AV := [.int .i64 0, .str [], .int .i64 0, .int .i64 0]
def envTx (s : List UInt8) (z k : Int) (b : List UInt8) (ok : Bool) : Env := [(0, .str s), (1, .int .i64 z), (4, .ptr 0 0), (7, bV b), (8, .bool ok), (9, .int .i64 k)]

/-- What the document says of a text that ends. -/
def refTxtV (i : Nat) (b : List UInt8) (ok : Bool) (k : Nat) : List AV × Int × List UInt8 := match ok with
  | false => (row0, 0, sSyntax)
  | true => match decide (400 < b.length) with
    | true => (row0, 0, sTooLong)
    | false => ([.int .i64 2, .str b, .int .i64 0, .int .i64 i], (k : Int) + 1 - i, sDone)

theorem refText_loop (s : List UInt8) (hs : s.length ≤ 1000000) (i : Nat) (z : Int) (hz : z = i) (K : Ex → Env → St → Prop) (n : Nat) :
    ∀ (k : Nat) (y : Int) (b : List UInt8) (ok : Bool), y = k → i ≤ k → b.length ≤ 1 * k → k ≤ s.length + 1 → s.length + 1 - k < n →
      (refTxt s n k b ok = none → ∀ caps, K (.exit 0) [(4, .ptr 0 0)] (ST row0 caps)) →
      (∀ b' ok' k', refTxt s n k b ok = some (b', ok', k') → ∀ caps, K .ret [(4, .ptr 0 0), (5, .int .i64 (refTxtV i b' ok' k').2.1), (6, .str (refTxtV i b' ok' k').2.2)] (ST (refTxtV i b' ok' k').1 caps)) →
      LoopP Tryd.prog (Lx.tab real) 74 c20 (Less K) (envTx s z y b ok) (ST row0 (bCaps b)) := by
  induction n with
  | zero => intro k y b ok hy hik hb hk hn; omega
  | succ n ih =>
    intro k y b ok hy hik hb hk hn hK1 hK2
    unfold refTxt at hK1 hK2
    obtain ⟨c, hc⟩ : ∃ c, s.getD k 0 = c := ⟨_, rfl⟩
    obtain ⟨c2, hc2⟩ : ∃ c2, s.getD (k + 1) 0 = c2 := ⟨_, rfl⟩
    rw [hc, hc2] at hK1 hK2
    obtain ⟨cz, hcz⟩ : ∃ cz : Int, cz = c.toNat := ⟨_, rfl⟩
    have hend : decide (k < s.length) = false → K (.exit 0) [(4, .ptr 0 0)] (ST row0 (bCaps b)) := fun h => hK1 (by rw [h]) _
    have hdone : decide (k < s.length) = true → (c == 39) = true → (decide (k + 1 < s.length) && c2 == 39) = false → ∀ caps, K .ret [(4, .ptr 0 0), (5, .int .i64 (refTxtV i b ok k).2.1), (6, .str (refTxtV i b ok k).2.2)] (ST (refTxtV i b ok k).1 caps) :=
      fun h1 h2 h3 => hK2 b ok k (by rw [h1, h2, h3])
    have hesc : decide (k < s.length) = true → (c == 39) = true → (decide (k + 1 < s.length) && c2 == 39) = true → LoopP Tryd.prog (Lx.tab real) 74 c20 (Less K) (envTx s z (y + 2) (b ++ [39]) ok) (ST row0 (bCaps (b ++ [39]))) :=
      fun h1 h2 h3 => by
        have h1' := of_decide_eq_true h1
        have h3' : k + 1 < s.length := by simp only [Bool.and_eq_true, decide_eq_true_eq] at h3; exact h3.1
        exact ih (k + 2) (y + 2) _ ok (by omega) (by omega) (by simp; omega) (by omega) (by omega) (fun h => hK1 (by rw [h1, h2, h3]; exact h)) (fun b' ok' k' h => hK2 b' ok' k' (by rw [h1, h2, h3]; exact h))
    have hgo : decide (k < s.length) = true → (c == 39) = false → LoopP Tryd.prog (Lx.tab real) 74 c20 (Less K) (envTx s z (y + 1) (b ++ [c]) (ok && goodB c)) (ST row0 (bCaps (b ++ [c]))) :=
      fun h1 h2 => by
        have h1' := of_decide_eq_true h1
        exact ih (k + 1) (y + 1) _ _ (by omega) (by omega) (by simp; omega) (by omega) (by omega) (fun h => hK1 (by rw [h1, h2]; exact h)) (fun b' ok' k' h => hK2 b' ok' k' (by rw [h1, h2]; exact h))
    clear ih hK1 hK2
    have hg : goodB c = !(decide (c.toNat < 32) || decide (126 < c.toNat)) := rfl
    rw [hg] at hgo
    have hbl : b.length ≤ 1000001 := by omega
    obtain ⟨e39, he39⟩ := bV_app b 39
    obtain ⟨ec, hec⟩ := bV_app b c
    simp only [envTx] at hgo hesc ⊢
    rw [e39, he39] at hesc
    rw [ec, hec] at hgo
    have hcase : (bV b = .slice 0 [] .exact ∧ bCaps b = [] ∧ avl b = [] ∧ b = []) ∨ (bV b = .slice 5 (avl b) (.own 0) ∧ bCaps b = [(b.length : Int)]) := by
      cases b with
      | nil => exact .inl ⟨rfl, rfl, rfl, rfl⟩
      | cons => exact .inr ⟨rfl, rfl⟩
    apply step20
    apply gen_code (mk := Lx.tab)
    intro fail need same call loop len slen arith shift cmp conv eqS ltS cat app elt byt subS subL strOf isB fit inb cut room not and eqB avs G
    have hlss : cmp BinOp.lss y (slen s) = decide (k < s.length) := by rw [G.cmp', G.slen']; simp only [intRel]; rw [Bool.eq_iff_iff]; simp only [decide_eq_true_eq]; omega
    have hin : decide (k < s.length) = true → inb y (slen s) = true := fun h => by have := of_decide_eq_true h; rw [G.inb', G.slen']; simp; omega
    have hbyt : byt s y = cz := by rw [G.byt', hy, hcz, ← hc]; rfl
    have h39 : cmp BinOp.eql cz 39 = (c == 39) := by rw [G.cmp', hcz]; exact eqb c 39
    have hone : arith BinOp.add IntKind.i64 y 1 = y + 1 := by rw [G.arith']; exact wrap_i64 _ (by omega) (by omega)
    have hone2 : arith BinOp.add IntKind.i64 (y + 1) 1 = y + 2 := by rw [G.arith', show y + 2 = y + 1 + 1 by omega]; exact wrap_i64 _ (by omega) (by omega)
    have hsub : arith BinOp.sub IntKind.i64 (y + 1) z = y + 1 - z := by rw [G.arith']; exact wrap_i64 _ (by omega) (by omega)
    have hlss2 : cmp BinOp.lss (y + 1) (slen s) = decide (k + 1 < s.length) := by rw [G.cmp', G.slen']; simp only [intRel]; rw [Bool.eq_iff_iff]; simp only [decide_eq_true_eq]; omega
    have hin2 : decide (k + 1 < s.length) = true → inb (y + 1) (slen s) = true := fun h => by have := of_decide_eq_true h; rw [G.inb', G.slen']; simp; omega
    have hq2 : cmp BinOp.eql (byt s (y + 1)) 39 = (c2 == 39) := by
      have : byt s (y + 1) = (c2.toNat : Int) := by rw [G.byt', ← hc2]; simp only []; rw [show (y + 1).toNat = k + 1 by omega]
      rw [G.cmp', this]; exact eqb c2 39
    have h32 : cmp BinOp.geq cz 32 = !decide (c.toNat < 32) := by rw [G.cmp', hcz]; simp only [intRel]; rw [Bool.eq_iff_iff]; simp; omega
    have h126 : cmp BinOp.leq cz 126 = !decide (126 < c.toNat) := by rw [G.cmp', hcz]; simp only [intRel]; rw [Bool.eq_iff_iff]; simp; omega
    have h400 : cmp BinOp.gtr (len (avl b)) 400 = decide (400 < b.length) := by rw [G.cmp', G.len']; simp only [intRel, avl, List.length_map]; rw [Bool.eq_iff_iff]; simp only [decide_eq_true_eq]; omega
    have a39 : app (avl b) [.int .u8 39] = avl (b ++ [39]) := by rw [G.app']; simp [avl]
    have ac : app (avl b) [.int .u8 cz] = avl (b ++ [c]) := by rw [G.app', hcz]; simp [avl]
    have r39 : room (len (avl (b ++ [39]))) 1 = true := by rw [G.room', G.len']; simp [avl]; omega
    have rc : room (len (avl (b ++ [c]))) 1 = true := by rw [G.room', G.len']; simp [avl]; omega
    have l39 : len (avl (b ++ [39])) = ((b ++ [39]).length : Int) := by rw [G.len']; simp [avl]
    have lc : len (avl (b ++ [c])) = ((b ++ [c]).length : Int) := by rw [G.len']; simp [avl]
    have hown : cmp BinOp.eql (b.length : Int) (len (avl b)) = true := by rw [G.cmp', G.len']; simp [intRel, avl]
    have hisB : isB (avl b) = true := by rw [G.isB']; simp [avl, isByte]
    have hstr : strOf (avl b) = b := by rw [G.strOf']; simp [avl, byteOf, Function.comp_def]
    have hn1 : not true = false := by rw [G.not']; rfl
    have hn0 : not false = true := by rw [G.not']; rfl
    generalize hL : LoopP Tryd.prog (Lx.tab real) 74 c20 (Less K) = L at hgo hesc ⊢
    generalize hK' : Less K = K' at hL ⊢
    -- how it ends
    have hdoneF : ok = false → decide (k < s.length) = true → (c == 39) = true → (decide (k + 1 < s.length) && c2 == 39) = false → ∀ caps, K .ret [(4, .ptr 0 0), (5, .int .i64 0), (6, .str sSyntax)] (ST row0 caps) := fun h0 h1 h2 h3 caps => by
      have := hdone h1 h2 h3 caps
      rw [h0] at this
      exact this
    have hdoneL : ok = true → decide (400 < b.length) = true → decide (k < s.length) = true → (c == 39) = true → (decide (k + 1 < s.length) && c2 == 39) = false → ∀ caps, K .ret [(4, .ptr 0 0), (5, .int .i64 0), (6, .str sTooLong)] (ST row0 caps) := fun h0 hl h1 h2 h3 caps => by
      have := hdone h1 h2 h3 caps
      unfold refTxtV at this
      rw [h0, hl] at this
      exact this
    have hdoneT : ok = true → decide (400 < b.length) = false → decide (k < s.length) = true → (c == 39) = true → (decide (k + 1 < s.length) && c2 == 39) = false → ∀ caps, K .ret [(4, .ptr 0 0), (5, .int .i64 (y + 1 - z)), (6, .str sDone)] (ST [.int .i64 2, .str b, .int .i64 0, .int .i64 z] caps) := fun h0 hl h1 h2 h3 caps => by
      have := hdone h1 h2 h3 caps
      unfold refTxtV at this
      rw [h0, hl] at this
      rw [hz, hy]
      exact this
    clear hdone
    obtain ⟨bv, hbv⟩ : ∃ bv, bV b = bv := ⟨_, rfl⟩
    obtain ⟨bc, hbc⟩ : ∃ bc, bCaps b = bc := ⟨_, rfl⟩
    rw [hbv, hbc] at hcase
    rw [hbc] at hend ⊢
    rw [hbv]
    generalize ((b ++ [39]).length : Int) = n39 at *
    generalize ((b ++ [c]).length : Int) = nc at *
    generalize avl (b ++ [39]) = b39 at *
    generalize avl (b ++ [c]) = bcc at *
    generalize hbn : (b.length : Int) = bn at *
    generalize habl : avl b = ab at *
    generalize hd1 : decide (k < s.length) = d1 at *
    generalize hd2 : decide (k + 1 < s.length) = d2 at *
    generalize hd4 : decide (400 < b.length) = d4 at *
    generalize hg1 : decide (c.toNat < 32) = g1 at *
    generalize hg2 : decide (126 < c.toNat) = g2 at *
    generalize hq1 : (c == 39) = q1 at *
    generalize hqq : (c2 == 39) = q2 at *
    generalize hy1 : y + 1 = y1 at *
    generalize hy2 : y + 2 = y2 at *
    generalize hyz : y1 - z = yz at *
    clear hc hc2 hcz hg hbl hbn habl hd1 hd2 hd4 hg1 hg2 hq1 hqq hyz e39 he39 ec hec hbv hbc
    cbv
    refine GenH.need' G rfl ?_
    rw [hlss]
    cases d1 with
    | false =>
      have hend := hend rfl
      cbv
      rw [← hK']
      exact ⟨[(4, .ptr 0 0)], .cons rfl (.nil _), hend⟩
    | true =>
      have hin := hin rfl
      have hgo := hgo rfl
      have hesc := hesc rfl
      have hdoneF := fun h => hdoneF h rfl
      have hdoneL := fun h h' => hdoneL h h' rfl
      have hdoneT := fun h h' => hdoneT h h' rfl
      cbv
      refine GenH.need' G hin (GenH.need' G rfl ?_)
      rw [hbyt, h39]
      cases q1 with
      | true =>
        have hesc := hesc rfl
        have hdoneF := fun h => hdoneF h rfl
        have hdoneL := fun h h' => hdoneL h h' rfl
        have hdoneT := fun h h' => hdoneT h h' rfl
        cbv
        refine GenH.need' G rfl (GenH.need' G rfl ?_)
        rw [hone, hlss2]
        cases d2 with
        | false =>
          cbv
          cases ok with
          | false =>
            have hf := hdoneF rfl rfl
            cbv
            rw [hn0]
            cbv
            rw [← hK']
            exact ⟨[(4, .ptr 0 0), (5, .int .i64 0), (6, .str [52, 50, 54, 48, 49])], .cons rfl (.cons rfl (.cons rfl (.nil _))), hf _⟩
          | true =>
            have hl := hdoneL rfl
            have ht := hdoneT rfl
            cbv
            rw [hn1]
            rcases hcase with ⟨rfl, rfl, rfl, rfl⟩ | ⟨rfl, rfl⟩
            · cbv
              refine GenH.need' G rfl ?_
              rw [h400]
              cases d4 with
              | true =>
                have hl := hl rfl rfl
                cbv
                rw [← hK']
                exact ⟨[(4, .ptr 0 0), (5, .int .i64 0), (6, .str [50, 50, 48, 48, 49])], .cons rfl (.cons rfl (.cons rfl (.nil _))), hl _⟩
              | false =>
                have ht := ht rfl rfl
                cbv
                refine GenH.need' G rfl (GenH.need' G rfl ?_)
                rw [hone, hsub]
                rw [← hK']
                exact ⟨[(4, .ptr 0 0), (5, .int .i64 yz), (6, .str [48, 48, 48, 48, 48])], .cons rfl (.cons rfl (.cons rfl (.nil _))), ht _⟩
            · cbv
              refine GenH.need' G rfl ?_
              rw [h400]
              cases d4 with
              | true =>
                have hl := hl rfl rfl
                cbv
                rw [← hK']
                exact ⟨[(4, .ptr 0 0), (5, .int .i64 0), (6, .str [50, 50, 48, 48, 49])], .cons rfl (.cons rfl (.cons rfl (.nil _))), hl _⟩
              | false =>
                have ht := ht rfl rfl
                cbv
                refine GenH.need' G hisB ?_
                rw [hstr]
                refine GenH.need' G rfl (GenH.need' G rfl ?_)
                rw [hone, hsub]
                rw [← hK']
                exact ⟨[(4, .ptr 0 0), (5, .int .i64 yz), (6, .str [48, 48, 48, 48, 48])], .cons rfl (.cons rfl (.cons rfl (.nil _))), ht _⟩
        | true =>
          have hin2 := hin2 rfl
          cbv
          refine GenH.need' G rfl ?_
          rw [hone]
          refine GenH.need' G hin2 (GenH.need' G rfl ?_)
          rw [hq2]
          cases q2 with
          | false =>
            cbv
            cases ok with
            | false =>
              have hf := hdoneF rfl rfl
              cbv
              rw [hn0]
              cbv
              rw [← hK']
              exact ⟨[(4, .ptr 0 0), (5, .int .i64 0), (6, .str [52, 50, 54, 48, 49])], .cons rfl (.cons rfl (.cons rfl (.nil _))), hf _⟩
            | true =>
              have hl := hdoneL rfl
              have ht := hdoneT rfl
              cbv
              rw [hn1]
              rcases hcase with ⟨rfl, rfl, rfl, rfl⟩ | ⟨rfl, rfl⟩
              · cbv
                refine GenH.need' G rfl ?_
                rw [h400]
                cases d4 with
                | true =>
                  have hl := hl rfl rfl
                  cbv
                  rw [← hK']
                  exact ⟨[(4, .ptr 0 0), (5, .int .i64 0), (6, .str [50, 50, 48, 48, 49])], .cons rfl (.cons rfl (.cons rfl (.nil _))), hl _⟩
                | false =>
                  have ht := ht rfl rfl
                  cbv
                  refine GenH.need' G rfl (GenH.need' G rfl ?_)
                  rw [hone, hsub]
                  rw [← hK']
                  exact ⟨[(4, .ptr 0 0), (5, .int .i64 yz), (6, .str [48, 48, 48, 48, 48])], .cons rfl (.cons rfl (.cons rfl (.nil _))), ht _⟩
              · cbv
                refine GenH.need' G rfl ?_
                rw [h400]
                cases d4 with
                | true =>
                  have hl := hl rfl rfl
                  cbv
                  rw [← hK']
                  exact ⟨[(4, .ptr 0 0), (5, .int .i64 0), (6, .str [50, 50, 48, 48, 49])], .cons rfl (.cons rfl (.cons rfl (.nil _))), hl _⟩
                | false =>
                  have ht := ht rfl rfl
                  cbv
                  refine GenH.need' G hisB ?_
                  rw [hstr]
                  refine GenH.need' G rfl (GenH.need' G rfl ?_)
                  rw [hone, hsub]
                  rw [← hK']
                  exact ⟨[(4, .ptr 0 0), (5, .int .i64 yz), (6, .str [48, 48, 48, 48, 48])], .cons rfl (.cons rfl (.cons rfl (.nil _))), ht _⟩
          | true =>
            have go := hesc rfl
            rcases hcase with ⟨rfl, rfl, rfl, rfl⟩ | ⟨rfl, rfl⟩
            · cbv
              rw [a39]
              refine GenH.need' G rfl (GenH.need' G r39 ?_)
              rw [l39]
              refine GenH.need' G rfl (GenH.need' G rfl ?_)
              rw [hone, hone2]
              rw [← hL] at go ⊢
              exact LoopP.weak (env' := [(0, .str s), (1, .int .i64 z), (4, .ptr 0 0), (7, .slice 5 b39 (.own 0)), (8, .bool ok), (9, .int .i64 y2)]) (.cons rfl (.cons rfl (.cons rfl (.cons rfl (.cons rfl (.cons rfl (.nil _))))))) go
            · cbv
              rw [a39]
              refine GenH.need' G rfl (GenH.need' G r39 (GenH.need' G hown ?_))
              rw [l39]
              refine GenH.need' G rfl (GenH.need' G rfl ?_)
              rw [hone, hone2]
              rw [← hL] at go ⊢
              exact LoopP.weak (env' := [(0, .str s), (1, .int .i64 z), (4, .ptr 0 0), (7, .slice 5 b39 (.own 0)), (8, .bool ok), (9, .int .i64 y2)]) (.cons rfl (.cons rfl (.cons rfl (.cons rfl (.cons rfl (.cons rfl (.nil _))))))) go
      | false =>
        have go := hgo rfl
        cases ok with
        | false =>
          rcases hcase with ⟨rfl, rfl, rfl, rfl⟩ | ⟨rfl, rfl⟩
          · cbv
            refine GenH.need' G hin (GenH.need' G rfl ?_)
            try rw [hbyt]
            cbv
            rw [ac]
            refine GenH.need' G rc ?_
            rw [lc]
            refine GenH.need' G rfl ?_
            rw [hone]
            rw [← hL] at go ⊢
            exact LoopP.weak (env' := [(0, .str s), (1, .int .i64 z), (4, .ptr 0 0), (7, .slice 5 bcc (.own 0)), (8, .bool false), (9, .int .i64 y1)]) (.cons rfl (.cons rfl (.cons rfl (.cons rfl (.cons rfl (.cons rfl (.nil _))))))) go
          · cbv
            refine GenH.need' G hin (GenH.need' G rfl ?_)
            try rw [hbyt]
            cbv
            rw [ac]
            refine GenH.need' G rc (GenH.need' G hown ?_)
            rw [lc]
            refine GenH.need' G rfl ?_
            rw [hone]
            rw [← hL] at go ⊢
            exact LoopP.weak (env' := [(0, .str s), (1, .int .i64 z), (4, .ptr 0 0), (7, .slice 5 bcc (.own 0)), (8, .bool false), (9, .int .i64 y1)]) (.cons rfl (.cons rfl (.cons rfl (.cons rfl (.cons rfl (.cons rfl (.nil _))))))) go
        | true =>
          cbv
          refine GenH.need' G hin (GenH.need' G rfl ?_)
          rw [hbyt, h32]
          cases g1 with
          | true =>
            rcases hcase with ⟨rfl, rfl, rfl, rfl⟩ | ⟨rfl, rfl⟩
            · cbv
              refine GenH.need' G hin (GenH.need' G rfl ?_)
              try rw [hbyt]
              cbv
              rw [ac]
              refine GenH.need' G rc ?_
              rw [lc]
              refine GenH.need' G rfl ?_
              rw [hone]
              rw [← hL] at go ⊢
              exact LoopP.weak (env' := [(0, .str s), (1, .int .i64 z), (4, .ptr 0 0), (7, .slice 5 bcc (.own 0)), (8, .bool false), (9, .int .i64 y1)]) (.cons rfl (.cons rfl (.cons rfl (.cons rfl (.cons rfl (.cons rfl (.nil _))))))) go
            · cbv
              refine GenH.need' G hin (GenH.need' G rfl ?_)
              try rw [hbyt]
              cbv
              rw [ac]
              refine GenH.need' G rc (GenH.need' G hown ?_)
              rw [lc]
              refine GenH.need' G rfl ?_
              rw [hone]
              rw [← hL] at go ⊢
              exact LoopP.weak (env' := [(0, .str s), (1, .int .i64 z), (4, .ptr 0 0), (7, .slice 5 bcc (.own 0)), (8, .bool false), (9, .int .i64 y1)]) (.cons rfl (.cons rfl (.cons rfl (.cons rfl (.cons rfl (.cons rfl (.nil _))))))) go
          | false =>
            cbv
            refine GenH.need' G hin (GenH.need' G rfl ?_)
            rw [hbyt, h126]
            cases g2 with
            | true =>
              rcases hcase with ⟨rfl, rfl, rfl, rfl⟩ | ⟨rfl, rfl⟩
              · cbv
                refine GenH.need' G hin (GenH.need' G rfl ?_)
                try rw [hbyt]
                cbv
                rw [ac]
                refine GenH.need' G rc ?_
                rw [lc]
                refine GenH.need' G rfl ?_
                rw [hone]
                rw [← hL] at go ⊢
                exact LoopP.weak (env' := [(0, .str s), (1, .int .i64 z), (4, .ptr 0 0), (7, .slice 5 bcc (.own 0)), (8, .bool false), (9, .int .i64 y1)]) (.cons rfl (.cons rfl (.cons rfl (.cons rfl (.cons rfl (.cons rfl (.nil _))))))) go
              · cbv
                refine GenH.need' G hin (GenH.need' G rfl ?_)
                try rw [hbyt]
                cbv
                rw [ac]
                refine GenH.need' G rc (GenH.need' G hown ?_)
                rw [lc]
                refine GenH.need' G rfl ?_
                rw [hone]
                rw [← hL] at go ⊢
                exact LoopP.weak (env' := [(0, .str s), (1, .int .i64 z), (4, .ptr 0 0), (7, .slice 5 bcc (.own 0)), (8, .bool false), (9, .int .i64 y1)]) (.cons rfl (.cons rfl (.cons rfl (.cons rfl (.cons rfl (.cons rfl (.nil _))))))) go
            | false =>
              rcases hcase with ⟨rfl, rfl, rfl, rfl⟩ | ⟨rfl, rfl⟩
              · cbv
                refine GenH.need' G hin (GenH.need' G rfl ?_)
                try rw [hbyt]
                cbv
                rw [ac]
                refine GenH.need' G rc ?_
                rw [lc]
                refine GenH.need' G rfl ?_
                rw [hone]
                rw [← hL] at go ⊢
                exact LoopP.weak (env' := [(0, .str s), (1, .int .i64 z), (4, .ptr 0 0), (7, .slice 5 bcc (.own 0)), (8, .bool true), (9, .int .i64 y1)]) (.cons rfl (.cons rfl (.cons rfl (.cons rfl (.cons rfl (.cons rfl (.nil _))))))) go
              · cbv
                refine GenH.need' G hin (GenH.need' G rfl ?_)
                try rw [hbyt]
                cbv
                rw [ac]
                refine GenH.need' G rc (GenH.need' G hown ?_)
                rw [lc]
                refine GenH.need' G rfl ?_
                rw [hone]
                rw [← hL] at go ⊢
                exact LoopP.weak (env' := [(0, .str s), (1, .int .i64 z), (4, .ptr 0 0), (7, .slice 5 bcc (.own 0)), (8, .bool true), (9, .int .i64 y1)]) (.cons rfl (.cons rfl (.cons rfl (.cons rfl (.cons rfl (.cons rfl (.nil _))))))) go
end Go.AM

namespace Go.AM
open Go.Proofs
set_option maxRecDepth 100000
set_option maxHeartbeats 1000000
set_option linter.unusedVariables false

def refText (s : List UInt8) (i : Nat) : AV := match refTxt s (s.length + 1) (i + 1) [] true with
  | none => .tup [zeroTok, .int .i64 0, .str sSyntax]
  | some (b, ok, k) => .tup [.agg (refTxtV i b ok k).1, .int .i64 (refTxtV i b ok k).2.1, .str (refTxtV i b ok k).2.2]

theorem refTxtV_ren (f h : Nat → Option Nat) (i : Nat) (b : List UInt8) (ok : Bool) (k : Nat) : renL f h (refTxtV i b ok k).1 = (refTxtV i b ok k).1 := by
  unfold refTxtV
  cases ok with
  | false => rfl
  | true => cases decide (400 < b.length) <;> rfl

theorem refText_ren (f h : Nat → Option Nat) (s : List UInt8) (i : Nat) : (refText s i).ren f h = refText s i := by
  unfold refText
  cases refTxt s (s.length + 1) (i + 1) [] true with
  | none => rfl
  | some r =>
    obtain ⟨b, ok, k⟩ := r
    simp only [AV.ren, renL, refTxtV_ren]

theorem refText_spec (s : List UInt8) (hs : s.length ≤ 1000000) (i : Nat) (z : Int) (hz : z = i) (hi : i < s.length) (S : St) (K : Out → St → Prop) (hK : K (.ret (refText s i)) S) : CallP Tryd.prog (Lx.tab real) 20 [.str s, .int .i64 z] S K := by
  refine CallP.lift (K0 := fun o _ => o = .ret (refText s i)) rfl ?_ (by
    rintro o S0 rfl
    show K (.ret ((refText s i).ren _ _)) S
    rw [refText_ren]; exact hK)
  apply body_calls (un := 0) Lx.tabOk Lx.mixed Lx.fn20 (Nat.le_of_ble_eq_true rfl)
  apply gen_body (mk := Lx.tab)
  intro fail need same call loop len slen arith shift cmp conv eqS ltS cat app elt byt subS subL strOf isB fit inb cut room not and eqB avs G
  have hloop := fun K => refText_loop s hs i z hz K (s.length + 1) (i + 1) (z + 1) [] true (by omega) (by omega) (by simp) (by omega) (by omega)
  have hone : arith BinOp.add IntKind.i64 z 1 = z + 1 := by rw [G.arith']; exact wrap_i64 _ (by omega) (by omega)
  have h1 : refTxt s (s.length + 1) (i + 1) [] true = none → ∀ S : St, (fun (o : Out) (_ : St) => o = .ret (refText s i)) (.ret (.tup [.agg [.int .i64 0, .str [], .int .i64 0, .int .i64 0], .int .i64 0, .str sSyntax])) S := fun h S => by
    show _ = _
    unfold refText; rw [h]; rfl
  have h2 : ∀ b ok k, refTxt s (s.length + 1) (i + 1) [] true = some (b, ok, k) → ∀ S : St, (fun (o : Out) (_ : St) => o = .ret (refText s i)) (.ret (.tup [.agg (refTxtV i b ok k).1, .int .i64 (refTxtV i b ok k).2.1, .str (refTxtV i b ok k).2.2])) S := fun b ok k h S => by
    show _ = _
    unfold refText; rw [h]
  have hrow : ∀ b ok k, ∃ a1 a2 a3 a4, (refTxtV i b ok k).1 = [a1, a2, a3, a4] := fun b ok k => by
    unfold refTxtV
    cases ok with
    | false => exact ⟨_, _, _, _, rfl⟩
    | true => cases decide (400 < b.length) <;> exact ⟨_, _, _, _, rfl⟩
  generalize (fun (o : Out) (_ : St) => o = .ret (refText s i)) = K0 at *
  generalize refTxt s (s.length + 1) (i + 1) [] true = r at *
  generalize z + 1 = z1 at *
  cbv
  refine GenH.need' G rfl ?_
  rw [hone]
  refine GenH.loop' G ?_
  change LoopP Tryd.prog (Lx.tab real) 74 c20 _ _ _
  refine LoopP.relax (LoopP.weak (env' := envTx s z z1 [] true) (.cons rfl (.cons rfl (.cons rfl (.cons rfl (.cons rfl (.cons rfl (.nil _))))))) ?_)
  refine hloop _ (fun h caps => ?_) fun b ok k h caps => ?_
  · have h1 := h1 h
    cbv
    exact h1 _
  · have h2 := h2 b ok k h
    obtain ⟨a1, a2, a3, a4, ha⟩ := hrow b ok k
    rw [ha] at h2 ⊢
    generalize (refTxtV i b ok k).2.1 = q1 at *
    generalize (refTxtV i b ok k).2.2 = q2 at *
    cbv
    exact h2 _

theorem Lx.fn21 : FnOk Tryd.prog 21 (fni Tryd.f21 a21) := ⟨⟨Tryd.f21, Tryd.func21, rfl, rfl, rfl, by kernel_rfl⟩, by kernel_rfl⟩
noncomputable def c21 : Code := (fni Tryd.f21 a21).loop 0
theorem Lx.c21 : codeOk 49 a21 c21 = true := by kernel_rfl
theorem step21 (K : Ex → Env → St → Prop) (env : Env) (S : St) (h : xcode (pAlg Tryd.prog (Lx.tab real) 49) (Lx.tab real) a21 0 c21 (andThen (LoopP Tryd.prog (Lx.tab real) 49 c21 K) K) env S) : LoopP Tryd.prog (Lx.tab real) 49 c21 K env S :=
  loopP_step Lx.tabOk Lx.mixed Lx.c21 h

def signsL : AV := .slice 9 [.str [60, 61], .str [62, 61], .str [60, 62], .str [124, 124], .str [40], .str [41], .str [44], .str [46], .str [59], .str [61], .str [60], .str [62], .str [43], .str [45], .str [42], .str [47]] .exact
def envSg (s : List UInt8) (z y : Int) : Env := [(0, .str s), (1, .int .i64 z), (4, .ptr 0 0), (7, signsL), (8, .int .i64 y)]

theorem pre_eq (x s : List UInt8) (i : Nat) : x.isPrefixOf (s.drop i) = (decide (i + x.length ≤ s.length ∨ x.length = 0) && ((s.drop i).take x.length == x)) := by
  rw [Bool.eq_iff_iff, List.isPrefixOf_iff_prefix, List.prefix_iff_eq_take]
  simp only [Bool.and_eq_true, decide_eq_true_eq, beq_iff_eq]
  constructor
  · intro h
    refine ⟨?_, h.symm⟩
    have := congrArg List.length h
    simp at this
    omega
  · rintro ⟨_, h⟩
    exact h.symm

theorem refSign_loop (s : List UInt8) (hs : s.length ≤ 1000000) (i : Nat) (hi : i ≤ s.length) (z : Int) (hz : z = i) (K : Ex → Env → St → Prop) (n : Nat) :
    ∀ (k : Nat) (y : Int), y = k → k + n = 16 →
      (∀ x, signIn s i (Lx.signs.drop k) = some x → ∀ m : Int, m = x.length → K .ret [(4, .ptr 0 0), (5, .int .i64 m), (6, .str sDone)] (ST [.int .i64 3, .str x, .int .i64 0, .int .i64 z] [])) →
      (signIn s i (Lx.signs.drop k) = none → K (.exit 0) [(4, .ptr 0 0)] (ST row0 [])) →
      LoopP Tryd.prog (Lx.tab real) 49 c21 (Less K) (envSg s z y) (ST row0 []) := by
  induction n with
  | zero =>
    intro k y hy hk hK1 hK2
    have hfin := hK2 (by have : k = 16 := by omega
                         subst this; rfl)
    apply step21
    apply gen_code (mk := Lx.tab)
    intro fail need same call loop len slen arith shift cmp conv eqS ltS cat app elt byt subS subL strOf isB fit inb cut room not and eqB avs G
    obtain ⟨SL, hSL⟩ : ∃ SL, SL = [.str [60, 61], .str [62, 61], .str [60, 62], .str [124, 124], .str [40], .str [41], .str [44], .str [46], .str [59], .str [61], .str [60], .str [62], .str [43], .str [45], .str [42], AV.str [47]] := ⟨_, rfl⟩
    have hb : cmp BinOp.lss y (len SL) = false := by rw [G.cmp', G.len', hSL]; simp [intRel]; omega
    unfold envSg signsL
    rw [← hSL]
    generalize LoopP Tryd.prog (Lx.tab real) 49 c21 (Less K) = L at *
    generalize hK' : Less K = K' at *
    clear hSL
    cbv
    refine GenH.need' G rfl ?_
    rw [hb]
    cbv
    rw [← hK']
    exact ⟨[(4, .ptr 0 0)], .cons rfl (.nil _), hfin⟩
  | succ n ih =>
    intro k y hy hk hK1 hK2
    have hlt : k < Lx.signs.length := by show k < 16; omega
    have hdrop : Lx.signs.drop k = Lx.signs[k] :: Lx.signs.drop (k + 1) := List.drop_eq_getElem_cons hlt
    obtain ⟨sg, hsg⟩ : ∃ sg, Lx.signs[k] = sg := ⟨_, rfl⟩
    rw [hsg] at hdrop
    have hsl : sg.length ≤ 2 ∧ sg.length ≠ 0 := by
      have : ∀ x ∈ Lx.signs, x.length ≤ 2 ∧ x.length ≠ 0 := by decide
      exact this sg (hsg ▸ List.getElem_mem hlt)
    have hstep : signIn s i (Lx.signs.drop k) = match sg.isPrefixOf (s.drop i) with
      | true => some sg
      | false => signIn s i (Lx.signs.drop (k + 1)) := by
      rw [hdrop]; unfold signIn; rw [List.find?_cons]
      cases sg.isPrefixOf (s.drop i) <;> rfl
    rw [hstep] at hK1 hK2
    have hpe := pre_eq sg s i
    rw [show decide (i + sg.length ≤ s.length ∨ sg.length = 0) = decide (i + sg.length ≤ s.length) by rw [Bool.eq_iff_iff]; simp only [decide_eq_true_eq]; omega] at hpe
    have hyes : sg.isPrefixOf (s.drop i) = true → ∀ m : Int, m = sg.length → K .ret [(4, .ptr 0 0), (5, .int .i64 m), (6, .str sDone)] (ST [.int .i64 3, .str sg, .int .i64 0, .int .i64 z] []) := fun h => hK1 sg (by rw [h])
    have hno : sg.isPrefixOf (s.drop i) = false → LoopP Tryd.prog (Lx.tab real) 49 c21 (Less K) (envSg s z (y + 1)) (ST row0 []) := fun h => by
      rw [h] at hK1 hK2
      exact ih (k + 1) (y + 1) (by omega) (by omega) hK1 hK2
    rw [hpe] at hyes hno
    clear ih hK1 hK2 hstep hpe
    apply step21
    apply gen_code (mk := Lx.tab)
    intro fail need same call loop len slen arith shift cmp conv eqS ltS cat app elt byt subS subL strOf isB fit inb cut room not and eqB avs G
    obtain ⟨SL, hSL⟩ : ∃ SL, SL = [.str [60, 61], .str [62, 61], .str [60, 62], .str [124, 124], .str [40], .str [41], .str [44], .str [46], .str [59], .str [61], .str [60], .str [62], .str [43], .str [45], .str [42], AV.str [47]] := ⟨_, rfl⟩
    have hb : cmp BinOp.lss y (len SL) = true := by rw [G.cmp', G.len', hSL]; simp [intRel]; omega
    have hin : inb y (len SL) = true := by rw [G.inb', G.len', hSL]; simp; omega
    have helt : elt SL y = .str sg := by
      rw [G.elt', hSL]
      show (Lx.signs.map AV.str).getD y.toNat AV.undef = _
      rw [hy, ← hsg]
      simp [List.getD_eq_getElem?_getD, hlt]
    have hsgl : slen sg = (sg.length : Int) := by rw [G.slen']
    have hadd : arith BinOp.add IntKind.i64 z (slen sg) = z + slen sg := by rw [hsgl, G.arith']; exact wrap_i64 _ (by omega) (by omega)
    have hleq : cmp BinOp.leq (z + slen sg) (slen s) = decide (i + sg.length ≤ s.length) := by
      rw [hsgl, G.cmp', G.slen']; simp only [intRel]; rw [Bool.eq_iff_iff]; simp only [decide_eq_true_eq]; omega
    have hcut : decide (i + sg.length ≤ s.length) = true → cut z (z + slen sg) (slen s) = true := fun h => by have := of_decide_eq_true h; rw [hsgl, G.cut', G.slen']; simp; omega
    have hsub : subS s z (z + slen sg) = (s.drop i).take sg.length := by
      rw [hsgl, G.subS', hz]
      simp only [Int.toNat_natCast]
      rw [show ((i : Int) + (sg.length : Int) - (i : Int)).toNat = sg.length by omega]
    have hone : arith BinOp.add IntKind.i64 y 1 = y + 1 := by rw [G.arith']; exact wrap_i64 _ (by omega) (by omega)
    have heq : eqS ((s.drop i).take sg.length) sg = ((s.drop i).take sg.length == sg) := by rw [G.eqS']
    have hyes := fun h => hyes h (slen sg) hsgl
    unfold envSg signsL at hno ⊢
    rw [← hSL] at hno ⊢
    generalize hL : LoopP Tryd.prog (Lx.tab real) 49 c21 (Less K) = L at *
    generalize hK' : Less K = K' at *
    generalize y + 1 = y1 at *
    obtain ⟨gl, hgl⟩ : ∃ gl, slen sg = gl := ⟨_, rfl⟩
    rw [hgl] at hsgl hadd hleq hcut hsub hyes
    generalize z + gl = zg at *
    generalize decide (i + sg.length ≤ s.length) = dl at *
    generalize ((s.drop i).take sg.length == sg) = de at *
    generalize (s.drop i).take sg.length = tk at *
    clear hSL
    cbv
    refine GenH.need' G rfl ?_
    rw [hb]
    cbv
    refine GenH.need' G hin ?_
    rw [helt]
    cbv
    refine GenH.need' G rfl (GenH.need' G rfl ?_)
    rw [hgl, hadd, hleq]
    cases dl with
    | false =>
      have go := hno rfl
      cbv
      refine GenH.need' G rfl ?_
      rw [hone]
      rw [← hL] at go ⊢
      exact LoopP.weak (env' := [(0, .str s), (1, .int .i64 z), (4, .ptr 0 0), (7, .slice 9 SL .exact), (8, .int .i64 y1)]) (.cons rfl (.cons rfl (.cons rfl (.cons rfl (.cons rfl (.nil _)))))) go
    | true =>
      have hcut := hcut rfl
      cbv
      refine GenH.need' G rfl ?_
      rw [hadd]
      refine GenH.need' G hcut (GenH.need' G hin ?_)
      rw [hsub, helt]
      cbv
      rw [heq]
      cases de with
      | false =>
        have go := hno rfl
        cbv
        refine GenH.need' G rfl ?_
        rw [hone]
        rw [← hL] at go ⊢
        exact LoopP.weak (env' := [(0, .str s), (1, .int .i64 z), (4, .ptr 0 0), (7, .slice 9 SL .exact), (8, .int .i64 y1)]) (.cons rfl (.cons rfl (.cons rfl (.cons rfl (.cons rfl (.nil _)))))) go
      | true =>
        have hyes := hyes rfl
        cbv
        refine GenH.need' G hin ?_
        rw [helt]
        cbv
        rw [← hK']
        exact ⟨[(4, .ptr 0 0), (5, .int .i64 gl), (6, .str [48, 48, 48, 48, 48])], .cons rfl (.cons rfl (.cons rfl (.nil _))), hyes⟩

def refSign (s : List UInt8) (i : Nat) : AV := match signIn s i Lx.signs with
  | none => .tup [zeroTok, .int .i64 0, .str sSyntax]
  | some x => .tup [.agg [.int .i64 3, .str x, .int .i64 0, .int .i64 i], .int .i64 x.length, .str sDone]

theorem refSign_spec (s : List UInt8) (hs : s.length ≤ 1000000) (i : Nat) (z : Int) (hz : z = i) (hi : i < s.length) (S : St) (K : Out → St → Prop) (hK : K (.ret (refSign s i)) S) : CallP Tryd.prog (Lx.tab real) 21 [.str s, .int .i64 z] S K := by
  refine CallP.lift (K0 := fun o _ => o = .ret (refSign s i)) rfl ?_ (by
    rintro o S0 rfl
    unfold refSign at hK ⊢
    generalize signIn s i Lx.signs = r at *
    cases r <;> exact hK)
  apply body_calls (un := 0) Lx.tabOk Lx.mixed Lx.fn21 (Nat.le_of_ble_eq_true rfl)
  apply gen_body (mk := Lx.tab)
  intro fail need same call loop len slen arith shift cmp conv eqS ltS cat app elt byt subS subL strOf isB fit inb cut room not and eqB avs G
  have hloop := fun K => refSign_loop s hs i (by omega) z hz K 16 0 0 rfl rfl
  rw [List.drop_zero] at hloop
  have h1 : signIn s i Lx.signs = none → ∀ S : St, (fun (o : Out) (_ : St) => o = .ret (refSign s i)) (.ret (.tup [.agg [.int .i64 0, .str [], .int .i64 0, .int .i64 0], .int .i64 0, .str sSyntax])) S := fun h S => by
    show _ = _
    unfold refSign; rw [h]; rfl
  have h2 : ∀ x, signIn s i Lx.signs = some x → ∀ m : Int, m = x.length → ∀ S : St, (fun (o : Out) (_ : St) => o = .ret (refSign s i)) (.ret (.tup [.agg [.int .i64 3, .str x, .int .i64 0, .int .i64 z], .int .i64 m, .str sDone])) S := fun x h m hm S => by
    show _ = _
    unfold refSign; rw [h, hm, hz]
  generalize (fun (o : Out) (_ : St) => o = .ret (refSign s i)) = K0 at *
  generalize signIn s i Lx.signs = r at *
  cbv
  refine GenH.need' G rfl ?_
  refine GenH.loop' G ?_
  change LoopP Tryd.prog (Lx.tab real) 49 c21 _ _ _
  refine LoopP.relax (LoopP.weak (env' := envSg s z 0) (.cons rfl (.cons rfl (.cons rfl (.cons rfl (.cons rfl (.nil _)))))) ?_)
  refine hloop _ (fun x h m hm => ?_) fun h => ?_
  · have h2 := h2 x h m hm
    cbv
    exact h2 _
  · have h1 := h1 h
    cbv
    exact h1 _
end Go.AM

namespace Go.AM
open Go.Proofs
set_option maxRecDepth 100000
set_option linter.unusedVariables false

def zeroTk : Tk := ⟨0, [], 0, 0⟩
def refV (r : Tk × Nat × List UInt8) : AV := .tup [r.1.av, .int .i64 r.2.1, .str r.2.2]

def refWordR (w : List UInt8) (i : Nat) : Tk × Nat × List UInt8 := match decide (32 < w.length) with
  | true => (zeroTk, 0, sSyntax)
  | false => (⟨0, w.map low, 0, i⟩, w.length, sDone)
def refNumR (s d : List UInt8) (i j : Nat) : Tk × Nat × List UInt8 := match decide (9223372036854775808 ≤ numFold 0 d) with
  | true => (zeroTk, 0, sRange)
  | false => match decide (j < s.length) && isLetter (s.getD j 0) with
    | true => (zeroTk, 0, sSyntax)
    | false => (⟨1, [], numFold 0 d, i⟩, d.length, sDone)
def refTextR (s : List UInt8) (i : Nat) : Tk × Nat × List UInt8 := match refTxt s (s.length + 1) (i + 1) [] true with
  | none => (zeroTk, 0, sSyntax)
  | some (b, ok, k) => match ok with
    | false => (zeroTk, 0, sSyntax)
    | true => match decide (400 < b.length) with
      | true => (zeroTk, 0, sTooLong)
      | false => (⟨2, b, 0, i⟩, k + 1 - i, sDone)
def refSignR (s : List UInt8) (i : Nat) : Tk × Nat × List UInt8 := match signIn s i Lx.signs with
  | none => (zeroTk, 0, sSyntax)
  | some x => (⟨3, x, 0, i⟩, x.length, sDone)

/-- The document's next token: the token, its bytes' number, how it went. -/
def refNext (s : List UInt8) (i : Nat) : Tk × Nat × List UInt8 := match isLetter (s.getD i 0) with
  | true => refWordR ((s.drop i).takeWhile isWord) i
  | false => match isDigit (s.getD i 0) with
    | true => refNumR s ((s.drop i).takeWhile isDigit) i (scan isDigit s i)
    | false => match s.getD i 0 == 39 with
      | true => refTextR s i
      | false => refSignR s i

theorem refWord_eq (w : List UInt8) (i : Nat) : refWord w i = refV (refWordR w i) := by
  unfold refWord refWordR refV; cases decide (32 < w.length) <;> rfl
theorem refNum_eq (s d : List UInt8) (i j : Nat) : refNum s d i j = refV (refNumR s d i j) := by
  unfold refNum refNumR refV
  cases decide (9223372036854775808 ≤ numFold 0 d) with
  | true => rfl
  | false => cases (decide (j < s.length) && isLetter (s.getD j 0)) <;> rfl

theorem refTxt_ge (s : List UInt8) (n : Nat) : ∀ (k : Nat) (b : List UInt8) (ok : Bool) (b' : List UInt8) (ok' : Bool) (k' : Nat), refTxt s n k b ok = some (b', ok', k') → k ≤ k' ∧ k' < s.length := by
  induction n with
  | zero => intro k b ok b' ok' k' h; cases h
  | succ n ih =>
    intro k b ok b' ok' k' h
    unfold refTxt at h
    cases h1 : decide (k < s.length) with
    | false => rw [h1] at h; cases h
    | true =>
      rw [h1] at h
      have h1' := of_decide_eq_true h1
      cases h2 : (s.getD k 0 == 39) with
      | false => rw [h2] at h; have := ih _ _ _ _ _ _ h; omega
      | true =>
        rw [h2] at h
        cases h3 : (decide (k + 1 < s.length) && s.getD (k + 1) 0 == 39) with
        | true => rw [h3] at h; have := ih _ _ _ _ _ _ h; omega
        | false =>
          rw [h3] at h
          simp only [Option.some.injEq, Prod.mk.injEq] at h
          omega

theorem refText_eq (s : List UInt8) (i : Nat) : refText s i = refV (refTextR s i) := by
  unfold refText refTextR refV
  cases hr : refTxt s (s.length + 1) (i + 1) [] true with
  | none => rfl
  | some r =>
    obtain ⟨b, ok, k⟩ := r
    have hk := refTxt_ge s _ _ _ _ _ _ _ hr
    unfold refTxtV
    cases ok with
    | false => rfl
    | true =>
      dsimp only
      cases decide (400 < b.length) with
      | true => rfl
      | false =>
        show AV.tup [.agg [.int .i64 2, .str b, .int .i64 0, .int .i64 i], .int .i64 ((k : Int) + 1 - i), .str sDone] = _
        rw [show (k : Int) + 1 - i = ((k + 1 - i : Nat) : Int) by omega]
        rfl

theorem refSign_eq (s : List UInt8) (i : Nat) : refSign s i = refV (refSignR s i) := by
  unfold refSign refSignR refV; cases signIn s i Lx.signs <;> rfl

theorem refNext_le (s : List UInt8) (i : Nat) (hi : i < s.length) (h : (refNext s i).2.2 = sDone) : 0 < (refNext s i).2.1 ∧ i + (refNext s i).2.1 ≤ s.length := by
  unfold refNext at h ⊢
  cases h1 : isLetter (s.getD i 0) with
  | true =>
    rw [h1] at h
    have h2 := scan_lt isWord s i hi (by unfold isWord; rw [h1]; rfl)
    have h3 := scan_le isWord s i (by omega)
    have h4 : scan isWord s i = i + ((s.drop i).takeWhile isWord).length := rfl
    simp only at h ⊢
    unfold refWordR at h ⊢
    cases hd : decide (32 < ((s.drop i).takeWhile isWord).length) with
    | true => rw [hd] at h; simp [sSyntax, sDone] at h
    | false => simp only; omega
  | false =>
    rw [h1] at h
    cases h2 : isDigit (s.getD i 0) with
    | true =>
      rw [h2] at h
      have h2 := scan_lt isDigit s i hi h2
      have h3 := scan_le isDigit s i (by omega)
      have h4 : scan isDigit s i = i + ((s.drop i).takeWhile isDigit).length := rfl
      simp only at h ⊢
      unfold refNumR at h ⊢
      cases hd : decide (9223372036854775808 ≤ numFold 0 ((s.drop i).takeWhile isDigit)) with
      | true => rw [hd] at h; simp [sRange, sDone] at h
      | false =>
        rw [hd] at h
        cases he : (decide (scan isDigit s i < s.length) && isLetter (s.getD (scan isDigit s i) 0)) with
        | true => rw [he] at h; simp [sSyntax, sDone] at h
        | false => simp only; omega
    | false =>
      rw [h2] at h
      cases h3 : (s.getD i 0 == 39) with
      | true =>
        rw [h3] at h
        simp only at h ⊢
        unfold refTextR at h ⊢
        cases ht : refTxt s (s.length + 1) (i + 1) [] true with
        | none => rw [ht] at h; simp [sSyntax, sDone] at h
        | some r =>
          obtain ⟨b, ok, k⟩ := r
          have hk := refTxt_ge s _ _ _ _ _ _ _ ht
          rw [ht] at h
          cases ok with
          | false => simp [sSyntax, sDone] at h
          | true =>
            cases hd : decide (400 < b.length) with
            | true => simp only [hd] at h; simp [sTooLong, sDone] at h
            | false => simp only [hd]; omega
      | false =>
        rw [h3] at h
        simp only at h ⊢
        unfold refSignR at h ⊢
        cases ho : signIn s i Lx.signs with
        | none => rw [ho] at h; simp [sSyntax, sDone] at h
        | some x =>
          have hm := List.mem_of_find?_eq_some ho
          have hp := List.find?_some ho
          have hpos : ∀ y ∈ Lx.signs, 1 ≤ y.length := by decide
          have h1 := hpos x hm
          have hpre : x <+: s.drop i := List.isPrefixOf_iff_prefix.1 hp
          have hl := hpre.length_le
          simp at hl
          simp only
          omega

theorem blankN_le (s : List UInt8) (i : Nat) (hi : i < s.length) : i + blankN s i ≤ s.length := by
  unfold blankN
  cases isBlank (s.getD i 0) with
  | true => simp only; omega
  | false =>
    cases hp : [45, 45].isPrefixOf (s.drop i) with
    | false => simp only; omega
    | true =>
      have hpre : [45, 45] <+: s.drop i := List.isPrefixOf_iff_prefix.1 hp
      have hl := hpre.length_le
      simp at hl
      have := scan_le notEnd s (i + 2) (by omega)
      simp only
      omega

/-- The document's tokens from a place on, behind others; or how it went wrong. -/
def refN (s : List UInt8) : Nat → Nat → List Tk → List Tk ⊕ List UInt8
  | 0, _, _ => .inr []
  | n + 1, p, acc => match decide (p < s.length) with
    | false => .inl acc
    | true => match decide (0 < blankN s p) with
      | true => refN s n (p + blankN s p) acc
      | false => match (refNext s p).2.2 == sDone with
        | false => .inr (refNext s p).2.2
        | true => match decide (600 ≤ acc.length) with
          | true => .inr sLarge
          | false => refN s n (p + (refNext s p).2.1) (acc ++ [(refNext s p).1])
end Go.AM

namespace Go.AM
open Go.Proofs
set_option maxRecDepth 100000
set_option maxHeartbeats 2000000
set_option linter.unusedVariables false
theorem Lx.fn8 : FnOk Tryd.prog 8 (fni Tryd.f8 a8) := ⟨⟨Tryd.f8, Tryd.func8, rfl, rfl, rfl, by kernel_rfl⟩, by kernel_rfl⟩
noncomputable def c8 : Code := (fni Tryd.f8 a8).loop 0
theorem Lx.c8 : codeOk 85 a8 c8 = true := by kernel_rfl
theorem step8 (K : Ex → Env → St → Prop) (env : Env) (S : St) (h : xcode (pAlg Tryd.prog (Lx.tab real) 85) (Lx.tab real) a8 0 c8 (andThen (LoopP Tryd.prog (Lx.tab real) 85 c8 K) K) env S) : LoopP Tryd.prog (Lx.tab real) 85 c8 K env S :=
  loopP_step Lx.tabOk Lx.mixed Lx.c8 h

theorem ref_loop (s : List UInt8) (hs : s.length ≤ 2000) (K : Ex → Env → St → Prop) (n : Nat) :
    ∀ (p : Nat) (z : Int) (acc : List Tk) (S : St), z = p → p ≤ s.length → s.length - p < n → acc.length ≤ 2000 → S.caps = accCaps acc →
      (∀ acc' S', refN s n p acc = .inl acc' → K (.exit 0) [(4, accV acc')] S') →
      (∀ st S', refN s n p acc = .inr st → K .ret [(2, .slice 0 [] .exact), (3, .str st)] S') →
      LoopP Tryd.prog (Lx.tab real) 85 c8 (Less K) [(0, .str s), (4, accV acc), (5, .int .i64 z)] S := by
  induction n with
  | zero => intro p z acc S hz hp hn; omega
  | succ n ih =>
    intro p z acc S hz hp hn hacc hcaps hK1 hK2
    unfold refN at hK1 hK2
    obtain ⟨r, hr⟩ : ∃ r, refNext s p = r := ⟨_, rfl⟩
    obtain ⟨bn, hbn⟩ : ∃ bn, blankN s p = bn := ⟨_, rfl⟩
    rw [hr, hbn] at hK1 hK2
    have hle : p < s.length → r.2.2 = sDone → 0 < r.2.1 ∧ p + r.2.1 ≤ s.length := fun h1 h2 => by
      have := refNext_le s p h1 (by rw [hr]; exact h2)
      rw [hr] at this; exact this
    have hble : p < s.length → p + bn ≤ s.length := fun h => by rw [← hbn]; exact blankN_le s p h
    have hskip : decide (p < s.length) = true → decide (0 < bn) = true → ∀ (S' : St) (y : Int), y = z + bn → S'.caps = S.caps → LoopP Tryd.prog (Lx.tab real) 85 c8 (Less K) [(0, .str s), (4, accV acc), (5, .int .i64 y)] S' := fun h1 h2 S' y hy hc => by
      have h1' := of_decide_eq_true h1
      have h2' := of_decide_eq_true h2
      have hb := hble h1'
      exact ih (p + bn) y acc S' (by omega) hb (by omega) hacc (hc.trans hcaps) (fun a S'' h => hK1 a S'' (by rw [h1, h2]; exact h)) (fun a S'' h => hK2 a S'' (by rw [h1, h2]; exact h))
    have hround : decide (p < s.length) = true → decide (0 < bn) = false → (r.2.2 == sDone) = true → decide (600 ≤ acc.length) = false → ∀ (S' : St) (y : Int), y = z + r.2.1 → S'.caps = accCaps (acc ++ [r.1]) →
        LoopP Tryd.prog (Lx.tab real) 85 c8 (Less K) [(0, .str s), (4, accV (acc ++ [r.1])), (5, .int .i64 y)] S' := fun h1 h2 h3 h4 S' y hy hc => by
      have h1' := of_decide_eq_true h1
      have h4' := of_decide_eq_false h4
      have hb := hle h1' (by simpa using h3)
      exact ih (p + r.2.1) y _ S' (by omega) hb.2 (by omega) (by simp; omega) hc (fun a S'' h => hK1 a S'' (by rw [h1, h2, h3, h4]; exact h)) (fun a S'' h => hK2 a S'' (by rw [h1, h2, h3, h4]; exact h))
    have hend : decide (p < s.length) = false → ∀ S', K (.exit 0) [(4, accV acc)] S' := fun h S' => hK1 acc S' (by rw [h])
    have herr : decide (p < s.length) = true → decide (0 < bn) = false → (r.2.2 == sDone) = false → ∀ S', K .ret [(2, .slice 0 [] .exact), (3, .str r.2.2)] S' := fun h1 h2 h3 S' => hK2 _ S' (by rw [h1, h2, h3])
    have hbig : decide (p < s.length) = true → decide (0 < bn) = false → (r.2.2 == sDone) = true → decide (600 ≤ acc.length) = true → ∀ S', K .ret [(2, .slice 0 [] .exact), (3, .str sLarge)] S' := fun h1 h2 h3 h4 S' => hK2 sLarge S' (by rw [h1, h2, h3, h4])
    clear ih hK1 hK2
    obtain ⟨O, m, caps⟩ := S
    have hcaps : caps = accCaps acc := hcaps
    obtain ⟨c, hc⟩ : ∃ c, s.getD p 0 = c := ⟨_, rfl⟩
    obtain ⟨cz, hcz⟩ : ∃ cz : Int, cz = c.toNat := ⟨_, rfl⟩
    have wB : decide (p < s.length) = true → ∀ S K, (∀ y : Int, y = bn → K (.ret (.int .i64 y)) S) → CallP Tryd.prog (Lx.tab real) 15 [.str s, .int .i64 z] S K := fun h S K hk =>
      blank_spec s (by omega) p z hz (of_decide_eq_true h) S K (by rw [hbn]; exact hk)
    have hnx : ∀ v : AV, v = refV r → v = .tup [r.1.av, .int .i64 r.2.1, .str r.2.2] := fun v h => h
    have wW : isLetter c = true → ∀ S K, (∀ y : Int, y = r.2.1 → K (.ret (.tup [r.1.av, .int .i64 y, .str r.2.2])) S) → CallP Tryd.prog (Lx.tab real) 18 [.str s, .int .i64 z] S K := fun h S K hk => by
      refine word_spec s (by omega) p z hz hp S K ?_
      rw [refWord_eq]
      have : refWordR ((s.drop p).takeWhile isWord) p = r := by rw [← hr]; unfold refNext; rw [hc, h]
      rw [this]; exact hk _ rfl
    have wN : isLetter c = false → isDigit c = true → ∀ S K, (∀ y : Int, y = r.2.1 → K (.ret (.tup [r.1.av, .int .i64 y, .str r.2.2])) S) → CallP Tryd.prog (Lx.tab real) 19 [.str s, .int .i64 z] S K := fun h h' S K hk => by
      refine number_spec s (by omega) p z hz hp S K ?_
      rw [refNum_eq]
      have : refNumR s ((s.drop p).takeWhile isDigit) p (scan isDigit s p) = r := by rw [← hr]; unfold refNext; rw [hc, h, h']
      rw [this]; exact hk _ rfl
    have wT : decide (p < s.length) = true → isLetter c = false → isDigit c = false → (c == 39) = true → ∀ S K, (∀ y : Int, y = r.2.1 → K (.ret (.tup [r.1.av, .int .i64 y, .str r.2.2])) S) → CallP Tryd.prog (Lx.tab real) 20 [.str s, .int .i64 z] S K := fun h0 h h' h3 S K hk => by
      refine refText_spec s (by omega) p z hz (of_decide_eq_true h0) S K ?_
      rw [refText_eq]
      have : refTextR s p = r := by rw [← hr]; unfold refNext; rw [hc, h, h', h3]
      rw [this]; exact hk _ rfl
    have wS : decide (p < s.length) = true → isLetter c = false → isDigit c = false → (c == 39) = false → ∀ S K, (∀ y : Int, y = r.2.1 → K (.ret (.tup [r.1.av, .int .i64 y, .str r.2.2])) S) → CallP Tryd.prog (Lx.tab real) 21 [.str s, .int .i64 z] S K := fun h0 h h' h3 S K hk => by
      refine refSign_spec s (by omega) p z hz (of_decide_eq_true h0) S K ?_
      rw [refSign_eq]
      have : refSignR s p = r := by rw [← hr]; unfold refNext; rw [hc, h, h', h3]
      rw [this]; exact hk _ rfl
    have hA : ∀ S K, K (.ret (.bool (isLetter c))) S → CallP Tryd.prog (Lx.tab real) 16 [.int .u8 cz] S K := fun S K h => by rw [hcz]; exact asks16 c S K h
    have hD : ∀ S K, K (.ret (.bool (isDigit c))) S → CallP Tryd.prog (Lx.tab real) 17 [.int .u8 cz] S K := fun S K h => by rw [hcz]; exact asks17 c S K h
    apply step8
    apply gen_code (mk := Lx.tab)
    intro fail need same call loop len slen arith shift cmp conv eqS ltS cat app elt byt subS subL strOf isB fit inb cut room not and eqB avs G
    have hlss : cmp BinOp.lss z (slen s) = decide (p < s.length) := by
      rw [G.cmp', G.slen']; simp only [intRel]; rw [Bool.eq_iff_iff]; simp only [decide_eq_true_eq]; omega
    have hin : decide (p < s.length) = true → inb z (slen s) = true := fun h => by have := of_decide_eq_true h; rw [G.inb', G.slen']; simp; omega
    have hbyt : byt s z = cz := by rw [G.byt', hz, hcz, ← hc]; rfl
    have h39 : cmp BinOp.eql cz 39 = (c == 39) := by rw [G.cmp', hcz]; exact eqb c 39
    have hgt : ∀ y : Int, y = bn → cmp BinOp.gtr y 0 = decide (0 < bn) := fun y hy => by
      rw [G.cmp', hy]; simp only [intRel]; rw [Bool.eq_iff_iff]; simp only [decide_eq_true_eq]; omega
    have haddb : decide (p < s.length) = true → ∀ y : Int, y = bn → arith BinOp.add IntKind.i64 z y = z + bn := fun h y hy => by
      have := hble (of_decide_eq_true h)
      rw [hy, G.arith']; exact wrap_i64 _ (by omega) (by omega)
    have haddr : decide (p < s.length) = true → (r.2.2 == sDone) = true → ∀ y : Int, y = r.2.1 → arith BinOp.add IntKind.i64 z y = z + r.2.1 := fun h h' y hy => by
      have := hle (of_decide_eq_true h) (by simpa using h')
      rw [hy, G.arith']; exact wrap_i64 _ (by omega) (by omega)
    have hne : not (eqS r.2.2 [48, 48, 48, 48, 48]) = !(r.2.2 == sDone) := by rw [G.not', G.eqS']; rfl
    have hlen : cmp BinOp.geq (len (acc.map Tk.av)) 600 = decide (600 ≤ acc.length) := by
      rw [G.cmp', G.len']; simp only [intRel, List.length_map]; rw [Bool.eq_iff_iff]; simp only [decide_eq_true_eq]; omega
    have happ : app (acc.map Tk.av) [r.1.av] = (acc ++ [r.1]).map Tk.av := by rw [G.app']; simp
    have hroom : room (len ((acc ++ [r.1]).map Tk.av)) 40 = true := by rw [G.room', G.len']; simp; omega
    have hlen2 : len ((acc ++ [r.1]).map Tk.av) = ((acc ++ [r.1]).length : Int) := by rw [G.len']; simp
    have hvapp : accV (acc ++ [r.1]) = .slice 32 ((acc ++ [r.1]).map Tk.av) (.own 0) ∧ accCaps (acc ++ [r.1]) = [((acc ++ [r.1]).length : Int)] := by
      cases acc <;> exact ⟨rfl, rfl⟩
    have hcase : (accV acc = .slice 0 [] .exact ∧ caps = [] ∧ acc.map Tk.av = []) ∨ (accV acc = .slice 32 (acc.map Tk.av) (.own 0) ∧ caps = [(acc.length : Int)]) := by
      rw [hcaps]
      cases acc with
      | nil => exact .inl ⟨rfl, rfl, rfl⟩
      | cons => exact .inr ⟨rfl, rfl⟩
    have hown : cmp BinOp.eql (acc.length : Int) (len (acc.map Tk.av)) = true := by rw [G.cmp', G.len']; simp [intRel]
    rw [hvapp.1, hvapp.2] at hround
    have hskip : decide (p < s.length) = true → decide (0 < bn) = true → ∀ (O' : List (Nat × List AV)) (m' : Nat), LoopP Tryd.prog (Lx.tab real) 85 c8 (Less K) [(0, .str s), (4, accV acc), (5, .int .i64 (z + bn))] ⟨O', m', caps⟩ := fun h h' O' m' => hskip h h' _ _ rfl rfl
    have hround : decide (p < s.length) = true → decide (0 < bn) = false → (r.2.2 == sDone) = true → decide (600 ≤ acc.length) = false → ∀ (O' : List (Nat × List AV)) (m' : Nat),
        LoopP Tryd.prog (Lx.tab real) 85 c8 (Less K) [(0, .str s), (4, .slice 32 ((acc ++ [r.1]).map Tk.av) (.own 0)), (5, .int .i64 (z + r.2.1))] ⟨O', m', [((acc ++ [r.1]).length : Int)]⟩ := fun h1 h2 h3 h4 O' m' => hround h1 h2 h3 h4 _ _ rfl rfl
    have hnn : Nat.beq m m = true := Nat.beq_refl m
    have hbb : Nat.ble m m = true := Nat.ble_eq_true_of_le (Nat.le_refl m)
    have hn1 : not true = false := by rw [G.not']; rfl
    clear hvapp hcaps hle hble hr hbn hnx hc hcz
    obtain ⟨⟨k1, t1, n1, p1⟩, cnt, st⟩ := r
    rw [show (Tk.av (⟨k1, t1, n1, p1⟩, cnt, st).1) = .agg [.int .i64 k1, .str t1, .int .i64 n1, .int .i64 p1] from rfl] at happ wW wN wT wS
    simp only at happ hroom hlen2 hround wW wN wT wS herr hbig haddr hne
    generalize hL : LoopP Tryd.prog (Lx.tab real) 85 c8 (Less K) = L at hround hskip ⊢
    generalize hK' : Less K = K' at hL ⊢
    generalize accV acc = av at *
    generalize ((acc ++ [(⟨k1, t1, n1, p1⟩ : Tk)]).length : Int) = n2 at *
    generalize (acc ++ [(⟨k1, t1, n1, p1⟩ : Tk)]).map Tk.av = cs2 at *
    generalize (acc.length : Int) = nl at *
    generalize acc.map Tk.av = cs at *
    generalize decide (p < s.length) = dp at *
    generalize hdb : decide (0 < bn) = db at *
    generalize (st == sDone) = ds at *
    generalize decide (600 ≤ acc.length) = da at *
    generalize z + (bn : Int) = zb at *
    generalize z + (cnt : Int) = zc at *
    generalize isLetter c = lc at *
    generalize isDigit c = dc at *
    generalize (c == 39) = qc at *
    clear hdb
    cbv at hnn hbb
    cbv
    refine GenH.need' G rfl ?_
    rw [hlss]
    cases dp with
    | false =>
      have hend := hend rfl
      cbv
      rw [← hK']
      exact ⟨[(4, av)], .cons rfl (.nil _), hend _⟩
    | true =>
      have hin := hin rfl
      have hskip := hskip rfl
      have hround := hround rfl
      have herr := herr rfl
      have hbig := hbig rfl
      have haddb := haddb rfl
      have haddr := haddr rfl
      have wT := wT rfl
      have wS := wS rfl
      cbv
      refine GenH.call' G (wB rfl _ _ fun y hy => ?_)
      have hgt := hgt y hy
      have haddb := haddb y hy
      cbv
      refine GenH.need' G rfl ?_
      rw [hgt]
      cases db with
      | true =>
        have hskip := hskip rfl
        cbv
        refine GenH.need' G rfl ?_
        rw [haddb]
        rw [← hL] at hskip ⊢
        exact LoopP.weak (env' := [(0, .str s), (4, av), (5, .int .i64 zb)]) (.cons rfl (.cons rfl (.cons rfl (.nil _)))) (hskip _ _)
      | false =>
        have hround := hround rfl
        have herr := herr rfl
        have hbig := hbig rfl
        cbv
        refine GenH.need' G hin ?_
        rw [hbyt]
        refine GenH.call' G (hA _ _ ?_)
        cbv
        refine GenH.need' G hin ?_
        try rw [hbyt]
        refine GenH.call' G (hD _ _ ?_)
        cases lc with
        | true =>
          cbv
          refine GenH.call' G (wW rfl _ _ fun y2 hy2 => ?_)
          have haddr := fun h => haddr h y2 hy2
          cbv
          iterate 4 (first | (rw [hnn]; cbv) | (rw [hbb]; cbv) | skip)
          rw [hne]
          cases ds with
          | false =>
            have herr := herr rfl
            cbv
            rw [← hK']
            exact ⟨[(2, .slice 0 [] .exact), (3, .str st)], .cons rfl (.cons rfl (.nil _)), herr _⟩
          | true =>
            have hround := hround rfl
            have hbig := hbig rfl
            have haddr := haddr rfl
            rcases hcase with ⟨rfl, rfl, rfl⟩ | ⟨rfl, rfl⟩
            · cbv
              refine GenH.need' G rfl ?_
              rw [hlen]
              cases da with
              | true =>
                have hbig := hbig rfl
                cbv
                rw [← hK']
                exact ⟨[(2, .slice 0 [] .exact), (3, .str [53, 52, 48, 48, 48])], .cons rfl (.cons rfl (.nil _)), hbig _⟩
              | false =>
                have hround := hround rfl
                cbv
                iterate 4 (first | (rw [hbb]; cbv) | (rw [hnn]; cbv) | skip)
                rw [happ]
                refine GenH.need' G rfl (GenH.need' G hroom (GenH.need' G rfl ?_))
                rw [hlen2, haddr]
                rw [← hL] at hround ⊢
                exact LoopP.weak (env' := [(0, .str s), (4, .slice 32 cs2 (.own 0)), (5, .int .i64 zc)]) (.cons rfl (.cons rfl (.cons rfl (.nil _)))) (hround _ _)
            · cbv
              refine GenH.need' G rfl ?_
              rw [hlen]
              cases da with
              | true =>
                have hbig := hbig rfl
                cbv
                rw [← hK']
                exact ⟨[(2, .slice 0 [] .exact), (3, .str [53, 52, 48, 48, 48])], .cons rfl (.cons rfl (.nil _)), hbig _⟩
              | false =>
                have hround := hround rfl
                cbv
                iterate 4 (first | (rw [hbb]; cbv) | (rw [hnn]; cbv) | skip)
                rw [happ]
                refine GenH.need' G rfl (GenH.need' G hroom (GenH.need' G hown (GenH.need' G rfl ?_)))
                rw [hlen2, haddr]
                rw [← hL] at hround ⊢
                exact LoopP.weak (env' := [(0, .str s), (4, .slice 32 cs2 (.own 0)), (5, .int .i64 zc)]) (.cons rfl (.cons rfl (.cons rfl (.nil _)))) (hround _ _)
        | false =>
          cases dc with
          | true =>
            cbv
            refine GenH.call' G (wN rfl rfl _ _ fun y2 hy2 => ?_)
            have haddr := fun h => haddr h y2 hy2
            cbv
            iterate 4 (first | (rw [hnn]; cbv) | (rw [hbb]; cbv) | skip)
            rw [hne]
            cases ds with
            | false =>
              have herr := herr rfl
              cbv
              rw [← hK']
              exact ⟨[(2, .slice 0 [] .exact), (3, .str st)], .cons rfl (.cons rfl (.nil _)), herr _⟩
            | true =>
              have hround := hround rfl
              have hbig := hbig rfl
              have haddr := haddr rfl
              rcases hcase with ⟨rfl, rfl, rfl⟩ | ⟨rfl, rfl⟩
              · cbv
                refine GenH.need' G rfl ?_
                rw [hlen]
                cases da with
                | true =>
                  have hbig := hbig rfl
                  cbv
                  rw [← hK']
                  exact ⟨[(2, .slice 0 [] .exact), (3, .str [53, 52, 48, 48, 48])], .cons rfl (.cons rfl (.nil _)), hbig _⟩
                | false =>
                  have hround := hround rfl
                  cbv
                  iterate 4 (first | (rw [hbb]; cbv) | (rw [hnn]; cbv) | skip)
                  rw [happ]
                  refine GenH.need' G rfl (GenH.need' G hroom (GenH.need' G rfl ?_))
                  rw [hlen2, haddr]
                  rw [← hL] at hround ⊢
                  exact LoopP.weak (env' := [(0, .str s), (4, .slice 32 cs2 (.own 0)), (5, .int .i64 zc)]) (.cons rfl (.cons rfl (.cons rfl (.nil _)))) (hround _ _)
              · cbv
                refine GenH.need' G rfl ?_
                rw [hlen]
                cases da with
                | true =>
                  have hbig := hbig rfl
                  cbv
                  rw [← hK']
                  exact ⟨[(2, .slice 0 [] .exact), (3, .str [53, 52, 48, 48, 48])], .cons rfl (.cons rfl (.nil _)), hbig _⟩
                | false =>
                  have hround := hround rfl
                  cbv
                  iterate 4 (first | (rw [hbb]; cbv) | (rw [hnn]; cbv) | skip)
                  rw [happ]
                  refine GenH.need' G rfl (GenH.need' G hroom (GenH.need' G hown (GenH.need' G rfl ?_)))
                  rw [hlen2, haddr]
                  rw [← hL] at hround ⊢
                  exact LoopP.weak (env' := [(0, .str s), (4, .slice 32 cs2 (.own 0)), (5, .int .i64 zc)]) (.cons rfl (.cons rfl (.cons rfl (.nil _)))) (hround _ _)
          | false =>
            cbv
            refine GenH.need' G hin (GenH.need' G rfl ?_)
            try rw [hbyt]
            rw [h39]
            cases qc with
            | true =>
              cbv
              refine GenH.call' G (wT rfl rfl rfl _ _ fun y2 hy2 => ?_)
              have haddr := fun h => haddr h y2 hy2
              cbv
              iterate 4 (first | (rw [hnn]; cbv) | (rw [hbb]; cbv) | skip)
              rw [hne]
              cases ds with
              | false =>
                have herr := herr rfl
                cbv
                rw [← hK']
                exact ⟨[(2, .slice 0 [] .exact), (3, .str st)], .cons rfl (.cons rfl (.nil _)), herr _⟩
              | true =>
                have hround := hround rfl
                have hbig := hbig rfl
                have haddr := haddr rfl
                rcases hcase with ⟨rfl, rfl, rfl⟩ | ⟨rfl, rfl⟩
                · cbv
                  refine GenH.need' G rfl ?_
                  rw [hlen]
                  cases da with
                  | true =>
                    have hbig := hbig rfl
                    cbv
                    rw [← hK']
                    exact ⟨[(2, .slice 0 [] .exact), (3, .str [53, 52, 48, 48, 48])], .cons rfl (.cons rfl (.nil _)), hbig _⟩
                  | false =>
                    have hround := hround rfl
                    cbv
                    iterate 4 (first | (rw [hbb]; cbv) | (rw [hnn]; cbv) | skip)
                    rw [happ]
                    refine GenH.need' G rfl (GenH.need' G hroom (GenH.need' G rfl ?_))
                    rw [hlen2, haddr]
                    rw [← hL] at hround ⊢
                    exact LoopP.weak (env' := [(0, .str s), (4, .slice 32 cs2 (.own 0)), (5, .int .i64 zc)]) (.cons rfl (.cons rfl (.cons rfl (.nil _)))) (hround _ _)
                · cbv
                  refine GenH.need' G rfl ?_
                  rw [hlen]
                  cases da with
                  | true =>
                    have hbig := hbig rfl
                    cbv
                    rw [← hK']
                    exact ⟨[(2, .slice 0 [] .exact), (3, .str [53, 52, 48, 48, 48])], .cons rfl (.cons rfl (.nil _)), hbig _⟩
                  | false =>
                    have hround := hround rfl
                    cbv
                    iterate 4 (first | (rw [hbb]; cbv) | (rw [hnn]; cbv) | skip)
                    rw [happ]
                    refine GenH.need' G rfl (GenH.need' G hroom (GenH.need' G hown (GenH.need' G rfl ?_)))
                    rw [hlen2, haddr]
                    rw [← hL] at hround ⊢
                    exact LoopP.weak (env' := [(0, .str s), (4, .slice 32 cs2 (.own 0)), (5, .int .i64 zc)]) (.cons rfl (.cons rfl (.cons rfl (.nil _)))) (hround _ _)
            | false =>
              cbv
              refine GenH.call' G (wS rfl rfl rfl _ _ fun y2 hy2 => ?_)
              have haddr := fun h => haddr h y2 hy2
              cbv
              iterate 4 (first | (rw [hnn]; cbv) | (rw [hbb]; cbv) | skip)
              rw [hne]
              cases ds with
              | false =>
                have herr := herr rfl
                cbv
                rw [← hK']
                exact ⟨[(2, .slice 0 [] .exact), (3, .str st)], .cons rfl (.cons rfl (.nil _)), herr _⟩
              | true =>
                have hround := hround rfl
                have hbig := hbig rfl
                have haddr := haddr rfl
                rcases hcase with ⟨rfl, rfl, rfl⟩ | ⟨rfl, rfl⟩
                · cbv
                  refine GenH.need' G rfl ?_
                  rw [hlen]
                  cases da with
                  | true =>
                    have hbig := hbig rfl
                    cbv
                    rw [← hK']
                    exact ⟨[(2, .slice 0 [] .exact), (3, .str [53, 52, 48, 48, 48])], .cons rfl (.cons rfl (.nil _)), hbig _⟩
                  | false =>
                    have hround := hround rfl
                    cbv
                    iterate 4 (first | (rw [hbb]; cbv) | (rw [hnn]; cbv) | skip)
                    rw [happ]
                    refine GenH.need' G rfl (GenH.need' G hroom (GenH.need' G rfl ?_))
                    rw [hlen2, haddr]
                    rw [← hL] at hround ⊢
                    exact LoopP.weak (env' := [(0, .str s), (4, .slice 32 cs2 (.own 0)), (5, .int .i64 zc)]) (.cons rfl (.cons rfl (.cons rfl (.nil _)))) (hround _ _)
                · cbv
                  refine GenH.need' G rfl ?_
                  rw [hlen]
                  cases da with
                  | true =>
                    have hbig := hbig rfl
                    cbv
                    rw [← hK']
                    exact ⟨[(2, .slice 0 [] .exact), (3, .str [53, 52, 48, 48, 48])], .cons rfl (.cons rfl (.nil _)), hbig _⟩
                  | false =>
                    have hround := hround rfl
                    cbv
                    iterate 4 (first | (rw [hbb]; cbv) | (rw [hnn]; cbv) | skip)
                    rw [happ]
                    refine GenH.need' G rfl (GenH.need' G hroom (GenH.need' G hown (GenH.need' G rfl ?_)))
                    rw [hlen2, haddr]
                    rw [← hL] at hround ⊢
                    exact LoopP.weak (env' := [(0, .str s), (4, .slice 32 cs2 (.own 0)), (5, .int .i64 zc)]) (.cons rfl (.cons rfl (.cons rfl (.nil _)))) (hround _ _)
end Go.AM

namespace Go.AM
open Go.Proofs
set_option maxRecDepth 100000
set_option maxHeartbeats 1000000
set_option linter.unusedVariables false

/-- What the document's Scan answers. -/
def refScan (s : List UInt8) : List Tk × List UInt8 := match decide (2000 < s.length) with
  | true => ([], sLarge)
  | false => match refN s (s.length + 1) 0 [] with
    | .inl l => (l, sDone)
    | .inr st => ([], st)

theorem refScan_spec (s : List UInt8) (S : St) (K : Out → St → Prop) (hK : K (.ret (.tup [tokV (refScan s).1, .str (refScan s).2])) S) : CallP Tryd.prog (Lx.tab real) 8 [.str s] S K := by
  refine CallP.lift (K0 := fun o _ => o = .ret (.tup [accV (refScan s).1, .str (refScan s).2])) rfl ?_ (by
    rintro o S0 rfl
    generalize refScan s = r at *
    obtain ⟨l, st⟩ := r
    cases l <;> exact hK)
  apply body_calls (un := 0) Lx.tabOk Lx.mixed Lx.fn8 (Nat.le_of_ble_eq_true rfl)
  apply gen_body (mk := Lx.tab)
  intro fail need same call loop len slen arith shift cmp conv eqS ltS cat app elt byt subS subL strOf isB fit inb cut room not and eqB avs G
  have hgt : cmp BinOp.gtr (slen s) 2000 = decide (2000 < s.length) := by
    rw [G.cmp', G.slen']; simp only [intRel]; rw [Bool.eq_iff_iff]; simp only [decide_eq_true_eq]; omega
  have hbig : decide (2000 < s.length) = true → ∀ S : St, (fun (o : Out) (_ : St) => o = .ret (.tup [accV (refScan s).1, .str (refScan s).2])) (.ret (.tup [.slice 0 [] .exact, .str sLarge])) S := fun h S => by
    show _ = _
    unfold refScan
    rw [h]; rfl
  have hloop : decide (2000 < s.length) = false → ∀ K : Ex → Env → St → Prop, (∀ acc' S', refN s (s.length + 1) 0 [] = .inl acc' → K (.exit 0) [(4, accV acc')] S') →
      (∀ st S', refN s (s.length + 1) 0 [] = .inr st → K .ret [(2, .slice 0 [] .exact), (3, .str st)] S') → LoopP Tryd.prog (Lx.tab real) 85 c8 (Less K) [(0, .str s), (4, accV []), (5, .int .i64 0)] ⟨[], 0, []⟩ := fun h K h1 h2 => by
    have h' := of_decide_eq_false h
    exact ref_loop s (by omega) K (s.length + 1) 0 0 [] _ rfl (by omega) (by omega) (by simp) rfl h1 h2
  have hl : decide (2000 < s.length) = false → ∀ l, refN s (s.length + 1) 0 [] = .inl l → ∀ S : St, (fun (o : Out) (_ : St) => o = .ret (.tup [accV (refScan s).1, .str (refScan s).2])) (.ret (.tup [accV l, .str sDone])) S := fun h l hl S => by
    show _ = _
    unfold refScan
    rw [h, hl]
  have hr : decide (2000 < s.length) = false → ∀ st, refN s (s.length + 1) 0 [] = .inr st → ∀ S : St, (fun (o : Out) (_ : St) => o = .ret (.tup [accV (refScan s).1, .str (refScan s).2])) (.ret (.tup [.slice 0 [] .exact, .str st])) S := fun h st hl S => by
    show _ = _
    unfold refScan
    rw [h, hl]
    rfl
  generalize (fun (o : Out) (_ : St) => o = .ret (.tup [accV (refScan s).1, .str (refScan s).2])) = K0 at *
  generalize refN s (s.length + 1) 0 [] = sc at *
  generalize decide (2000 < s.length) = db at *
  cbv
  refine GenH.need' G rfl ?_
  rw [hgt]
  cases db with
  | true =>
    have hbig := hbig rfl
    cbv
    exact hbig _
  | false =>
    have hloop := hloop rfl
    have hl := hl rfl
    have hr := hr rfl
    cbv
    refine GenH.loop' G ?_
    change LoopP Tryd.prog (Lx.tab real) 85 c8 _ _ _
    refine LoopP.relax (LoopP.weak (env' := [(0, .str s), (4, accV []), (5, .int .i64 0)]) (.cons rfl (.cons rfl (.cons rfl (.nil _)))) ?_)
    refine hloop _ (fun l S' h => ?_) fun st S' h => ?_
    · have hl := hl l h
      generalize accV l = v at *
      cbv
      exact hl _
    · have hr := hr st h
      cbv
      exact hr _

/-! ### Same -/
theorem Lx.fn9 : FnOk Tryd.prog 9 (fni Tryd.f9 a9) := ⟨⟨Tryd.f9, Tryd.func9, rfl, rfl, rfl, by kernel_rfl⟩, by kernel_rfl⟩
noncomputable def c9 : Code := (fni Tryd.f9 a9).loop 0
theorem Lx.c9 : codeOk 26 a9 c9 = true := by kernel_rfl
theorem step9 (K : Ex → Env → St → Prop) (env : Env) (S : St) (h : xcode (pAlg Tryd.prog (Lx.tab real) 26) (Lx.tab real) a9 0 c9 (andThen (LoopP Tryd.prog (Lx.tab real) 26 c9 K) K) env S) : LoopP Tryd.prog (Lx.tab real) 26 c9 K env S :=
  loopP_step Lx.tabOk Lx.mixed Lx.c9 h

theorem tokV_len (l : List Tk) : ∃ e cs m, tokV l = .slice e cs m ∧ cs = l.map Tk.av ∧ (l ≠ [] → e = 32) := by
  cases l with
  | nil => exact ⟨0, [], .exact, rfl, rfl, fun h => absurd rfl h⟩
  | cons x r => exact ⟨32, (x :: r).map Tk.av, .no, rfl, rfl, fun _ => rfl⟩

theorem same_loop (l : List Tk) (hl : l.length ≤ 1000000) (K : Ex → Env → St → Prop) (n : Nat) :
    ∀ (k : Nat) (y : Int), y = k → k + n = l.length → K (.exit 0) [] St.nil → LoopP Tryd.prog (Lx.tab real) 26 c9 (Less K) [(0, tokV l), (1, tokV l), (5, .int .i64 y)] St.nil := by
  induction n with
  | zero =>
    intro k y hy hk hK
    obtain ⟨e, cs, m, he, hcs, _⟩ := tokV_len l
    rw [he]
    apply step9
    apply gen_code (mk := Lx.tab)
    intro fail need same call loop len slen arith shift cmp conv eqS ltS cat app elt byt subS subL strOf isB fit inb cut room not and eqB avs G
    have hb : cmp BinOp.lss y (len cs) = false := by rw [G.cmp', G.len', hcs]; simp [intRel]; omega
    generalize LoopP Tryd.prog (Lx.tab real) 26 c9 (Less K) = L at *
    generalize hK' : Less K = K' at *
    cbv
    refine GenH.need' G rfl ?_
    rw [hb]
    cbv
    rw [← hK']
    exact ⟨[], .nil _, hK⟩
  | succ n ih =>
    intro k y hy hk hK
    have hgo := ih (k + 1) (y + 1) (by omega) (by omega) hK
    have hlt : k < l.length := by omega
    obtain ⟨e, cs, m, he, hcs, h32⟩ := tokV_len l
    have he32 := h32 (by rintro rfl; simp at hlt)
    subst he32
    rw [he] at hgo ⊢
    obtain ⟨tk, htk⟩ : ∃ tk, l[k] = tk := ⟨_, rfl⟩
    obtain ⟨k1, t1, n1, p1⟩ := tk
    apply step9
    apply gen_code (mk := Lx.tab)
    intro fail need same call loop len slen arith shift cmp conv eqS ltS cat app elt byt subS subL strOf isB fit inb cut room not and eqB avs G
    have hb : cmp BinOp.lss y (len cs) = true := by rw [G.cmp', G.len', hcs]; simp [intRel]; omega
    have hin : inb y (len cs) = true := by rw [G.inb', G.len', hcs]; simp; omega
    have helt : elt cs y = .agg [.int .i64 k1, .str t1, .int .i64 n1, .int .i64 p1] := by
      rw [G.elt', hcs, hy]
      simp [List.getD_eq_getElem?_getD, hlt, htk, Tk.av]
    have hone : arith BinOp.add IntKind.i64 y 1 = y + 1 := by rw [G.arith']; exact wrap_i64 _ (by omega) (by omega)
    have heq : not (and (cmp BinOp.eql k1 k1) (and (eqS t1 t1) (and (cmp BinOp.eql n1 n1) (and (cmp BinOp.eql p1 p1) true)))) = false := by
      rw [G.not', G.and', G.cmp', G.eqS']; simp [intRel]
    generalize hL : LoopP Tryd.prog (Lx.tab real) 26 c9 (Less K) = L at hgo ⊢
    generalize hK' : Less K = K' at *
    generalize y + 1 = y1 at *
    cbv
    refine GenH.need' G rfl ?_
    rw [hb]
    cbv
    refine GenH.need' G hin (GenH.need' G hin ?_)
    rw [helt]
    cbv
    rw [heq]
    cbv
    refine GenH.need' G rfl ?_
    rw [hone]
    rw [← hL] at hgo ⊢
    exact LoopP.weak (env' := [(0, .slice 32 cs m), (1, .slice 32 cs m), (5, .int .i64 y1)]) (.cons rfl (.cons rfl (.cons rfl (.nil _)))) hgo

theorem tokV_ren (f h : Nat → Option Nat) (l : List Tk) : (tokV l).ren f h = tokV l := by cases l <;> rfl

theorem same_spec (l : List Tk) (hl : l.length ≤ 1000000) (S : St) (K : Out → St → Prop) (hK : K (.ret (.bool true)) S) : CallP Tryd.prog (Lx.tab real) 9 [tokV l, tokV l] S K := by
  refine CallP.lift (K0 := fun o _ => o = .ret (.bool true)) (by simp only [renL, tokV_ren]) ?_ (by rintro o S0 rfl; exact hK)
  have hloop := fun K h => same_loop l hl K l.length 0 0 rfl (by omega) h
  obtain ⟨e, cs, m, he, hcs, _⟩ := tokV_len l
  rw [he] at hloop ⊢
  apply body_calls (un := 0) Lx.tabOk Lx.mixed Lx.fn9 (Nat.le_of_ble_eq_true rfl)
  apply gen_body (mk := Lx.tab)
  intro fail need same call loop len slen arith shift cmp conv eqS ltS cat app elt byt subS subL strOf isB fit inb cut room not and eqB avs G
  have hne : cmp BinOp.neq (len cs) (len cs) = false := by rw [G.cmp']; simp [intRel]
  generalize hK' : (fun (o : Out) (_ : St) => o = .ret (.bool true)) = K0
  have hfin : ∀ S, K0 (.ret (.bool true)) S := fun S => by rw [← hK']
  cbv
  refine GenH.need' G rfl ?_
  rw [hne]
  cbv
  refine GenH.loop' G ?_
  change LoopP Tryd.prog (Lx.tab real) 26 c9 _ _ _
  refine LoopP.relax (LoopP.weak (env' := [(0, .slice e cs m), (1, .slice e cs m), (5, .int .i64 0)]) (.cons rfl (.cons rfl (.cons rfl (.nil _)))) ?_)
  refine hloop _ ?_
  cbv
  exact hfin _
end Go.AM

namespace Go.AM
open Go.Proofs
set_option maxRecDepth 100000
set_option maxHeartbeats 1000000
set_option linter.unusedVariables false
theorem Lx.enters35 : Enters Tryd.prog 35 := enters_of Tryd.func35 (by kernel_rfl) (by kernel_rfl)

theorem contains_spec (s p : List UInt8) (hs : s.length < 4294967281) (S : St) (K : Out → St → Prop) (hK : K (.ret (.bool (Lib.contains s p))) S) : CallP Tryd.prog (Lx.tab real) 35 [.str s, .str p] S K := by
  refine callP_growG (v := .bool (Lib.contains s p)) hK fun g w vs r hg ha => .inl ⟨Lx.enters35, ?_⟩
  obtain ⟨x, y, rfl, hx, hy⟩ := args2 ha
  cases hx; cases hy
  have hgl := hg 1 3 (.anyInt .i64) rfl
  obtain ⟨m, hm⟩ : ∃ m, w.cell? ⟨1, 0, none⟩ = some (.int .i64 m) := by
    cases hgl with
    | eptr _ _ _ _ _ base xs hf hc h1 hD hR =>
      have h2 := hc 0 (by simp [AV.cells])
      have h3 := hR 0 (by simp [AV.cells])
      simp only [AV.cells, nth] at h3
      generalize hq : xs 0 = q at h2 h3
      cases h3
      rename_i m
      exact ⟨m, by simpa using h2⟩
  refine Calls.mono (Tryd.strings_Contains ⟨s.toArray⟩ ⟨p.toArray⟩ m w (by simpa [ByteArray.size] using hs) hm) ?_
  rintro e w' ⟨rfl, rfl⟩
  exact ⟨_, g, rfl, .refl _ _, .bool ..⟩

theorem Lx.fn22 : FnOk Tryd.prog 22 (fni Tryd.f22 a22) := ⟨⟨Tryd.f22, Tryd.func22, rfl, rfl, rfl, by kernel_rfl⟩, by kernel_rfl⟩

theorem reserved_select (S : St) (K : Out → St → Prop) (hK : K (.ret (.bool true)) S) : CallP Tryd.prog (Lx.tab real) 22 [.str [115, 101, 108, 101, 99, 116]] S K := by
  refine CallP.lift (K0 := fun o _ => o = .ret (.bool true)) rfl ?_ (by rintro o S0 rfl; exact hK)
  apply body_calls (un := 0) Lx.tabOk Lx.mixed Lx.fn22 (Nat.le_of_ble_eq_true rfl)
  apply gen_body (mk := Lx.tab)
  intro fail need same call loop len slen arith shift cmp conv eqS ltS cat app elt byt subS subL strOf isB fit inb cut room not and eqB avs G
  have h0 : not (eqS [115, 101, 108, 101, 99, 116] []) = true := by rw [G.not', G.eqS']; rfl
  have h1 : not (Lib.contains [115, 101, 108, 101, 99, 116] [32]) = true := by rw [G.not']; rfl
  have hc : cat (cat [32] [115, 101, 108, 101, 99, 116]) [32] = [32, 115, 101, 108, 101, 99, 116, 32] := by rw [G.cat']; rfl
  have hf1 : fit [32] [115, 101, 108, 101, 99, 116] = true := by rw [G.fit']; rfl
  have hf2 : fit (cat [32] [115, 101, 108, 101, 99, 116]) [32] = true := by rw [G.fit', G.cat']; rfl
  generalize hK' : (fun (o : Out) (_ : St) => o = .ret (.bool true)) = K0
  have hfin : ∀ S, K0 (.ret (.bool true)) S := fun S => by rw [← hK']
  generalize hw : ([115, 101, 108, 101, 99, 116] : List UInt8) = w at *
  cbv
  rw [h0]
  cbv
  refine GenH.call' G (contains_spec _ _ (by rw [← hw]; decide) _ _ ?_)
  generalize hq : Lib.contains w [32] = q at *
  cbv
  rw [h1]
  cbv
  refine GenH.need' G hf1 (GenH.need' G hf2 (GenH.call' G ?_))
  rw [hc]
  refine contains_spec _ _ (by decide) _ _ ?_
  generalize hr : Lib.contains _ [32, 115, 101, 108, 101, 99, 116, 32] = r
  have hr2 : r = true := by rw [← hr]; kernel_rfl
  subst hr2
  cbv
  exact hfin _
theorem reserved_a (S : St) (K : Out → St → Prop) (hK : K (.ret (.bool false)) S) : CallP Tryd.prog (Lx.tab real) 22 [.str [97]] S K := by
  refine CallP.lift (K0 := fun o _ => o = .ret (.bool false)) rfl ?_ (by rintro o S0 rfl; exact hK)
  apply body_calls (un := 0) Lx.tabOk Lx.mixed Lx.fn22 (Nat.le_of_ble_eq_true rfl)
  apply gen_body (mk := Lx.tab)
  intro fail need same call loop len slen arith shift cmp conv eqS ltS cat app elt byt subS subL strOf isB fit inb cut room not and eqB avs G
  have h0 : not (eqS [97] []) = true := by rw [G.not', G.eqS']; rfl
  have h1 : not (Lib.contains [97] [32]) = true := by rw [G.not']; rfl
  have hc : cat (cat [32] [97]) [32] = [32, 97, 32] := by rw [G.cat']; rfl
  have hf1 : fit [32] [97] = true := by rw [G.fit']; rfl
  have hf2 : fit (cat [32] [97]) [32] = true := by rw [G.fit', G.cat']; rfl
  generalize hK' : (fun (o : Out) (_ : St) => o = .ret (.bool false)) = K0
  have hfin : ∀ S, K0 (.ret (.bool false)) S := fun S => by rw [← hK']
  generalize hw : ([97] : List UInt8) = w at *
  cbv
  rw [h0]
  cbv
  refine GenH.call' G (contains_spec _ _ (by rw [← hw]; decide) _ _ ?_)
  generalize hq : Lib.contains w [32] = q at *
  cbv
  rw [h1]
  cbv
  refine GenH.need' G hf1 (GenH.need' G hf2 (GenH.call' G ?_))
  rw [hc]
  refine contains_spec _ _ (by decide) _ _ ?_
  generalize hr : Lib.contains _ [32, 97, 32] = r
  have hr2 : r = false := by rw [← hr]; kernel_rfl
  subst hr2
  cbv
  exact hfin _

theorem Lx.fn10 : FnOk Tryd.prog 10 (fni Tryd.f10 a10) := ⟨⟨Tryd.f10, Tryd.func10, rfl, rfl, rfl, by kernel_rfl⟩, by kernel_rfl⟩

theorem scan_q1 : lexScan [83, 101, 108, 101, 99, 116, 32, 39, 105, 116, 39, 39, 115, 39, 45, 45, 32, 120] = ([⟨0, [115, 101, 108, 101, 99, 116], 0, 0⟩, ⟨2, [105, 116, 39, 115], 0, 7⟩], sDone) := by kernel_rfl
theorem scan_q2 : lexScan [49, 97] = ([], sSyntax) := by kernel_rfl

theorem alive_spec (S : St) (K : Out → St → Prop) (hK : K (.ret (.bool true)) S) : CallP Tryd.prog (Lx.tab real) 10 [] S K := by
  refine CallP.lift (K0 := fun o _ => o = .ret (.bool true)) rfl ?_ (by rintro o S0 rfl; exact hK)
  apply body_calls (un := 0) Lx.tabOk Lx.mixed Lx.fn10 (Nat.le_of_ble_eq_true rfl)
  apply gen_body (mk := Lx.tab)
  intro fail need same call loop len slen arith shift cmp conv eqS ltS cat app elt byt subS subL strOf isB fit inb cut room not and eqB avs G
  have w1 : ∀ S (K : Out → St → Prop), K (.ret (.tup [.slice 32 [.agg [.int .i64 0, .str [115, 101, 108, 101, 99, 116], .int .i64 0, .int .i64 0], .agg [.int .i64 2, .str [105, 116, 39, 115], .int .i64 0, .int .i64 7]] .no, .str sDone])) S →
      CallP Tryd.prog (Lx.tab real) 7 [.str [83, 101, 108, 101, 99, 116, 32, 39, 105, 116, 39, 39, 115, 39, 45, 45, 32, 120]] S K := fun S K h => by
    refine scan_spec _ S K ?_
    rw [scan_q1]; exact h
  have w2 : ∀ S (K : Out → St → Prop), K (.ret (.tup [.slice 0 [] .exact, .str sSyntax])) S → CallP Tryd.prog (Lx.tab real) 7 [.str [49, 97]] S K := fun S K h => by
    refine scan_spec _ S K ?_
    rw [scan_q2]; exact h
  have e := G.X
  simp only [real, Sg.mk.injEq] at e
  obtain ⟨rfl, rfl, rfl, rfl, rfl, rfl, rfl, rfl, rfl, rfl, rfl, rfl, rfl, rfl, rfl, rfl, rfl, rfl, rfl, rfl, rfl, rfl, rfl, rfl⟩ := e
  generalize hK' : (fun (o : Out) (_ : St) => o = .ret (.bool true)) = K0
  have hfin : ∀ S, K0 (.ret (.bool true)) S := fun S => by rw [← hK']
  cbv
  refine GenH.call' G (w1 _ _ ?_)
  cbv
  refine GenH.call' G (w2 _ _ ?_)
  cbv
  refine GenH.need' G rfl (GenH.need' G rfl (GenH.need' G rfl (GenH.call' G (reserved_select _ _ ?_))))
  cbv
  refine GenH.call' G (reserved_a _ _ ?_)
  cbv
  exact hfin _

theorem Lx.fn3 : FnOk Tryd.prog 3 (fni Tryd.f3 a3) := ⟨⟨Tryd.f3, Tryd.func3, rfl, rfl, rfl, by kernel_rfl⟩, by kernel_rfl⟩

theorem scans_law (s : List UInt8) (h : lexScan s = refScan s) (hl : (refScan s).1.length ≤ 1000000) : CallP Tryd.prog (Lx.tab real) 3 [.str s] St.nil fun o _ => o = .ret (.bool true) := by
  apply body_calls (un := 0) Lx.tabOk Lx.mixed Lx.fn3 (Nat.le_of_ble_eq_true rfl)
  apply gen_body (mk := Lx.tab)
  intro fail need same call loop len slen arith shift cmp conv eqS ltS cat app elt byt subS subL strOf isB fit inb cut room not and eqB avs G
  have w1 := fun S K => scan_spec s S K
  have w2 := fun S K => refScan_spec s S K
  have w3 := fun S K => same_spec (refScan s).1 hl S K
  rw [h] at w1
  have he : eqS (refScan s).2 (refScan s).2 = true := by rw [G.eqS']; simp
  generalize hK' : (fun (o : Out) (_ : St) => o = .ret (.bool true)) = K0
  have hfin : ∀ S, K0 (.ret (.bool true)) S := fun S => by rw [← hK']
  generalize tokV (refScan s).1 = tv at *
  generalize (refScan s).2 = st at *
  cbv
  refine GenH.call' G (w1 _ _ ?_)
  cbv
  refine GenH.call' G (w2 _ _ ?_)
  cbv
  refine GenH.call' G (w3 _ _ ?_)
  cbv
  refine GenH.call' G (alive_spec _ _ ?_)
  cbv
  rw [he]
  exact hfin _
end Go.AM

namespace Go.AM
open Go.Proofs
set_option maxRecDepth 100000
set_option linter.unusedVariables false

theorem drop_getD (s : List UInt8) (i : Nat) (h : i < s.length) : s.drop i = s.getD i 0 :: s.drop (i + 1) := by
  rw [List.drop_eq_getElem_cons h]; simp [List.getD_eq_getElem?_getD, h]

theorem scan_stop (q : UInt8 → Bool) (s : List UInt8) (i : Nat) (h : i < s.length) (hq : q (s.getD i 0) = false) : scan q s i = i := by
  unfold scan; rw [drop_getD s i h, List.takeWhile_cons, hq]; simp

theorem scan_end (q : UInt8 → Bool) (s : List UInt8) (i : Nat) (h : s.length ≤ i) : scan q s i = i := by
  unfold scan; rw [List.drop_eq_nil_of_le h]; simp

theorem scan_step (q : UInt8 → Bool) (s : List UInt8) (i : Nat) (h : i < s.length) (hq : q (s.getD i 0) = true) : scan q s i = scan q s (i + 1) := by
  unfold scan; rw [drop_getD s i h, List.takeWhile_cons, hq]; simp; omega

/-- Where a scan has stopped. -/
theorem scan_at (q : UInt8 → Bool) (s : List UInt8) : ∀ (n i : Nat), i + n = s.length → scan q s i < s.length → q (s.getD (scan q s i) 0) = false := by
  intro n
  induction n with
  | zero => intro i hi h; rw [scan_end q s i (by omega)] at h; omega
  | succ n ih =>
    intro i hi h
    have hlt : i < s.length := by omega
    cases hq : q (s.getD i 0) with
    | false => rw [scan_stop q s i hlt hq]; exact hq
    | true => rw [scan_step q s i hlt hq] at h ⊢; exact ih (i + 1) (by omega) h

/-- A run of bytes that are no sign. -/
theorem refTxt_run (s : List UInt8) (n : Nat) : ∀ (i m : Nat) (b : List UInt8) (ok : Bool), i + n = s.length → refTxt s (m + ((s.drop i).takeWhile notQ).length) i b ok =
    refTxt s m (scan notQ s i) (b ++ (s.drop i).takeWhile notQ) (ok && ((s.drop i).takeWhile notQ).all goodB) := by
  induction n with
  | zero =>
    intro i m b ok hi
    rw [scan_end notQ s i (by omega), List.drop_eq_nil_of_le (by omega)]
    simp
  | succ n ih =>
    intro i m b ok hi
    have hlt : i < s.length := by omega
    cases hq : notQ (s.getD i 0) with
    | false =>
      rw [scan_stop notQ s i hlt hq, drop_getD s i hlt, List.takeWhile_cons, hq]
      simp
    | true =>
      rw [scan_step notQ s i hlt hq, drop_getD s i hlt, List.takeWhile_cons, hq]
      simp only [if_true, List.length_cons, List.all_cons]
      have h39 : (s.getD i 0 == 39) = false := by simpa [notQ, bne] using hq
      rw [← Nat.add_assoc]
      rw [refTxt, decide_eq_true hlt, h39]
      simp only
      rw [ih (i + 1) m _ _ (by omega)]
      simp [Bool.and_assoc]

def up : List UInt8 × Bool × Nat → List UInt8 × Bool × Nat := fun r => (r.1, r.2.1, r.2.2 + 1)

theorem txt_ref (s : List UInt8) (n : Nat) : ∀ (i m : Nat) (b : List UInt8) (ok : Bool), i ≤ s.length → s.length - i < n → s.length - i < m → txtN s n i b ok = (refTxt s m i b ok).map up := by
  induction n with
  | zero => intro i m b ok hi hn; omega
  | succ n ih =>
    intro i m b ok hi hn hm
    have hjb := scan_le notQ s i hi
    have hjp : scan notQ s i = i + ((s.drop i).takeWhile notQ).length := rfl
    obtain ⟨m', hm'⟩ : ∃ m', m = m' + 1 + ((s.drop i).takeWhile notQ).length := ⟨m - 1 - ((s.drop i).takeWhile notQ).length, by omega⟩
    rw [hm', refTxt_run s (s.length - i) i (m' + 1) b ok (by omega)]
    unfold txtN
    rw [refTxt]
    generalize hpart : (s.drop i).takeWhile notQ = part at *
    generalize hj : scan notQ s i = j at *
    by_cases hend : j = s.length
    · have e : decide (j < s.length) = false := decide_eq_false (by omega)
      rw [decide_eq_true hend, e]; rfl
    · have hlt : j < s.length := by omega
      rw [decide_eq_false hend, decide_eq_true hlt]
      have hq := scan_at notQ s (s.length - i) i (by omega) (by rw [hj]; exact hlt)
      rw [hj] at hq
      have h39 : (s.getD j 0 == 39) = true := by simpa [notQ, bne] using hq
      rw [h39]
      simp only
      have hc : (decide (j + 1 = s.length) || s.getD (j + 1) 0 != 39) = !(decide (j + 1 < s.length) && s.getD (j + 1) 0 == 39) := by
        by_cases h1 : j + 1 = s.length
        · rw [decide_eq_true h1, decide_eq_false (by omega)]; rfl
        · rw [decide_eq_false h1, decide_eq_true (by omega)]; simp [bne]
      rw [hc]
      cases hd : (decide (j + 1 < s.length) && s.getD (j + 1) 0 == 39) with
      | false => rfl
      | true =>
        have h2 : j + 1 < s.length := by simp only [Bool.and_eq_true, decide_eq_true_eq] at hd; exact hd.1
        exact ih (j + 2) m' _ _ (by omega) (by omega) (by omega)

theorem next_ref (s : List UInt8) (i : Nat) (hi : i < s.length) : (nextR s i).2.1 = (refNext s i).2.2 ∧ ((nextR s i).2.1 = sDone → (nextR s i).1 = (refNext s i).1 ∧ (nextR s i).2.2 = i + (refNext s i).2.1) := by
  unfold nextR refNext
  cases h1 : isLetter (s.getD i 0) with
  | true =>
    simp only
    unfold wordR refWordR
    cases decide (32 < ((s.drop i).takeWhile isWord).length) with
    | true => exact ⟨rfl, fun h => by simp [sSyntax, sDone] at h⟩
    | false => exact ⟨rfl, fun _ => ⟨rfl, rfl⟩⟩
  | false =>
    simp only
    cases h2 : isDigit (s.getD i 0) with
    | true =>
      simp only
      unfold numR refNumR
      by_cases hd : numFold 0 ((s.drop i).takeWhile isDigit) < 9223372036854775808
      · have e : decide (9223372036854775808 ≤ numFold 0 ((s.drop i).takeWhile isDigit)) = false := decide_eq_false (by omega)
        rw [decide_eq_true hd, e]
        simp only
        cases (decide (scan isDigit s i < s.length) && isLetter (s.getD (scan isDigit s i) 0)) with
        | true => exact ⟨rfl, fun h => by simp [sSyntax, sDone] at h⟩
        | false => exact ⟨rfl, fun _ => ⟨rfl, rfl⟩⟩
      · have e : decide (9223372036854775808 ≤ numFold 0 ((s.drop i).takeWhile isDigit)) = true := decide_eq_true (by omega)
        rw [decide_eq_false hd, e]
        exact ⟨rfl, fun h => by simp [sRange, sDone] at h⟩
    | false =>
      simp only
      cases h3 : (s.getD i 0 == 39) with
      | true =>
        simp only
        unfold textR refTextR
        rw [txt_ref s (s.length + 1) (i + 1) (s.length + 1) [] true (by omega) (by omega) (by omega)]
        cases hr : refTxt s (s.length + 1) (i + 1) [] true with
        | none => exact ⟨rfl, fun h => by simp [sSyntax, sDone] at h⟩
        | some r =>
          obtain ⟨b, ok, k⟩ := r
          have hk := refTxt_ge s _ _ _ _ _ _ _ hr
          simp only [Option.map_some, up, textSt]
          cases ok with
          | false => exact ⟨rfl, fun h => by simp [sSyntax, sDone] at h⟩
          | true =>
            simp only
            cases decide (400 < b.length) with
            | true => exact ⟨rfl, fun h => by simp [sTooLong, sDone] at h⟩
            | false => exact ⟨rfl, fun _ => ⟨rfl, by simp only; omega⟩⟩
      | false =>
        simp only
        unfold refSignR
        cases signIn s i Lx.signs with
        | none => exact ⟨rfl, fun h => by simp [signR, sSyntax, sDone] at h⟩
        | some x => exact ⟨rfl, fun _ => ⟨rfl, rfl⟩⟩

theorem skipN_fuel (s : List UInt8) (n : Nat) : ∀ (m i : Nat), i ≤ s.length → s.length - i < n → s.length - i < m → skipN s n i = skipN s m i := by
  induction n with
  | zero => intro m i hi hn; omega
  | succ n ih =>
    intro m i hi hn hm
    obtain ⟨m', rfl⟩ : ∃ m', m = m' + 1 := ⟨m - 1, by omega⟩
    unfold skipN
    have h1 := scan_le isBlank s i hi
    cases hp : [45, 45].isPrefixOf (s.drop (scan isBlank s i)) with
    | false => rfl
    | true =>
      have h2 := comment_on s _ hp
      have h3 := scan_le notEnd s (scan isBlank s i) h1.2
      exact ih m' _ h3.2 (by omega) (by omega)

theorem skip_end (s : List UInt8) (n : Nat) : skipN s (n + 1) s.length = s.length := by
  unfold skipN
  rw [scan_end isBlank s _ (Nat.le_refl _)]
  rw [List.drop_eq_nil_of_le (Nat.le_refl _)]
  rfl

theorem skip_stay (s : List UInt8) (n i : Nat) (hi : i < s.length) (h : blankN s i = 0) : skipN s (n + 1) i = i := by
  unfold blankN at h
  cases hb : isBlank (s.getD i 0) with
  | true => rw [hb] at h; cases h
  | false =>
    rw [hb] at h
    unfold skipN
    rw [scan_stop isBlank s i hi hb]
    cases hp : [45, 45].isPrefixOf (s.drop i) with
    | false => rfl
    | true =>
      rw [hp] at h
      have := comment_on s i hp
      have h0 : i + 2 ≤ s.length := by
        have hpre : [45, 45] <+: s.drop i := List.isPrefixOf_iff_prefix.1 hp
        have hl := hpre.length_le
        simp at hl
        omega
      have := scan_le notEnd s (i + 2) h0
      simp only at h
      omega

theorem notEnd_dash : notEnd 45 = true := rfl

theorem dashes (s : List UInt8) (i : Nat) (h : [45, 45].isPrefixOf (s.drop i) = true) : i + 2 ≤ s.length ∧ s.getD i 0 = 45 ∧ s.getD (i + 1) 0 = 45 := by
  have hpre : [45, 45] <+: s.drop i := List.isPrefixOf_iff_prefix.1 h
  have hl := hpre.length_le
  simp at hl
  have h0 : i < s.length := by omega
  have h1 : i + 1 < s.length := by omega
  rw [drop_getD s i h0, drop_getD s (i + 1) h1] at hpre
  obtain ⟨t, ht⟩ := hpre
  simp only [List.cons_append, List.nil_append, List.cons.injEq] at ht
  exact ⟨by omega, ht.1.symm, ht.2.1.symm⟩

theorem skip_on (s : List UInt8) (i : Nat) (hi : i < s.length) (h : 0 < blankN s i) : skipN s (s.length + 1) i = skipN s (s.length + 1) (i + blankN s i) := by
  have hle := blankN_le s i hi
  unfold blankN at h hle ⊢
  cases hb : isBlank (s.getD i 0) with
  | true =>
    simp only
    unfold skipN
    rw [scan_step isBlank s i hi hb]
  | false =>
    rw [hb] at h hle
    cases hp : [45, 45].isPrefixOf (s.drop i) with
    | false => rw [hp] at h; simp at h
    | true =>
      rw [hp] at h hle
      simp only at h hle ⊢
      obtain ⟨h0, h1, h2⟩ := dashes s i hp
      have e1 : scan notEnd s i = scan notEnd s (i + 2) := by
        rw [scan_step notEnd s i hi (by rw [h1]; rfl), scan_step notEnd s (i + 1) (by omega) (by rw [h2]; rfl)]
      have h3 := scan_le notEnd s (i + 2) h0
      rw [show i + (scan notEnd s (i + 2) - i) = scan notEnd s (i + 2) by omega]
      conv => lhs; unfold skipN
      rw [scan_stop isBlank s i hi hb, hp]
      simp only
      rw [e1]
      exact skipN_fuel s _ _ _ h3.2 (by omega) (by omega)

theorem scans_eq (s : List UInt8) (d : Nat) : ∀ (p n m : Nat) (acc : List Tk), p ≤ s.length → s.length - p < d → s.length - p < n → s.length - p < m → acc.length ≤ 600 → refN s m p acc = scanN s n (skipN s (s.length + 1) p) acc := by
  induction d with
  | zero => intro p n m acc hp hd; omega
  | succ d ih =>
    intro p n m acc hp hd hn hm hacc
    obtain ⟨n', rfl⟩ : ∃ n', n = n' + 1 := ⟨n - 1, by omega⟩
    obtain ⟨m', rfl⟩ : ∃ m', m = m' + 1 := ⟨m - 1, by omega⟩
    by_cases hend : p = s.length
    · subst hend
      have e : decide (s.length < s.length) = false := decide_eq_false (by omega)
      rw [skip_end, refN, scanN, e]
    · have hlt : p < s.length := by omega
      by_cases hb : 0 < blankN s p
      · have hle := blankN_le s p hlt
        rw [skip_on s p hlt hb]
        rw [refN, decide_eq_true hlt, decide_eq_true hb]
        simp only
        exact ih _ (n' + 1) m' acc hle (by omega) (by omega) (by omega) hacc
      · rw [skip_stay s s.length p hlt (by omega)]
        rw [refN, scanN, decide_eq_true hlt, decide_eq_false hb]
        obtain ⟨e1, e2⟩ := next_ref s p hlt
        have hle := refNext_le s p hlt
        rw [e1] at e2 ⊢
        simp only
        cases hs : ((refNext s p).2.2 == sDone) with
        | false => rfl
        | true =>
          have hsd : (refNext s p).2.2 = sDone := by simpa using hs
          obtain ⟨e3, e4⟩ := e2 hsd
          have hle := hle hsd
          simp only
          by_cases h6 : acc.length = 600
          · have e : decide (600 ≤ acc.length) = true := decide_eq_true (by omega)
            rw [decide_eq_true h6, e]
          · have e : decide (600 ≤ acc.length) = false := decide_eq_false (by omega)
            rw [decide_eq_false h6, e]
            simp only
            rw [e3, e4]
            exact ih _ n' m' _ hle.2 (by omega) (by omega) (by omega) (by simp; omega)

theorem lex_ref (s : List UInt8) : lexScan s = refScan s := by
  unfold lexScan refScan
  cases decide (2000 < s.length) with
  | true => rfl
  | false =>
    simp only
    rw [scans_eq s (s.length + 1) 0 (s.length + 1) (s.length + 1) [] (by omega) (by omega) (by omega) (by omega) (by simp)]
    rfl

theorem scanN_len (s : List UInt8) (n : Nat) : ∀ (p : Nat) (acc l : List Tk), acc.length ≤ 600 → scanN s n p acc = .inl l → l.length ≤ 600 := by
  induction n with
  | zero => intro p acc l _ h; cases h
  | succ n ih =>
    intro p acc l hacc h
    unfold scanN at h
    cases h1 : decide (p < s.length) with
    | false => rw [h1] at h; simp only [Sum.inl.injEq] at h; rw [← h]; exact hacc
    | true =>
      rw [h1] at h
      cases h2 : ((nextR s p).2.1 == sDone) with
      | false => rw [h2] at h; cases h
      | true =>
        rw [h2] at h
        cases h3 : decide (acc.length = 600) with
        | true => rw [h3] at h; cases h
        | false =>
          rw [h3] at h
          have := of_decide_eq_false h3
          exact ih _ _ l (by simp; omega) h

theorem lexScan_len (s : List UInt8) : (lexScan s).1.length ≤ 600 := by
  unfold lexScan
  cases decide (2000 < s.length) with
  | true => simp
  | false =>
    simp only
    cases h : scanN s (s.length + 1) (skipN s (s.length + 1) 0) [] with
    | inl l => exact scanN_len s _ _ _ l (by simp) h
    | inr st => simp

/-- LexScans, of values. -/
theorem lexScans (s : List UInt8) : CallP Tryd.prog (Lx.tab real) 3 [.str s] St.nil fun o _ => o = .ret (.bool true) :=
  scans_law s (lex_ref s) (by have := lexScan_len s; rw [lex_ref] at this; omega)
end Go.AM
