/- An expression in parentheses has its tree: of texts. -/
import Derived.Test.YteomefghofhkiaaGreatDoorWnN
import Derived.Test.YteomefghofhkiaaGreatDoorWnP
set_option maxRecDepth 100000
set_option maxHeartbeats 4000000
set_option linter.unusedVariables false
set_option linter.unusedSimpArgs false
namespace Go.AM.Ps
open Go.Proofs W
def rd (s : List UInt8) : Option (List Tk) := run s (skip s 0)
theorem rd_blank (c : UInt8) (hc : isBlank c = true) (r : List UInt8) : rd (c :: r) = (rd r).map fun l => l.map (shiftTk 1) := by
 unfold rd
 rw [skip_blank r c hc, run_drop (c :: r) 1 ((c :: r).length + 1) _ (by have := skip_le r 0 (Nat.zero_le _); simp; omega) (by omega)]
 rfl
theorem rd_tok {s r : List UInt8} {x : Tk} {k : Nat} (h0 : skip s 0 = 0) (hlt : 0 < s.length) (hn : nextR s 0 = (x, sDone, k)) (hk : k ≤ s.length) (hd : s.drop k = r) : rd s = (rd r).map fun l => x :: l.map (shiftTk k) := by
 unfold rd
 rw [h0, run_step s 0 hlt, hn]
 simp only [beq_self_eq_true]
 have hs := skip_drop s k 0 (by omega)
 simp only [Nat.add_zero] at hs
 have hsl := skip_le s k hk
 rw [hs, run_drop s k (s.length + 1) _ (by omega) (by omega), hd, Option.map_map]
 rfl
theorem rd_word {w r : List UInt8} (hw : Low w) (h0 : w ≠ []) (h32 : w.length ≤ 32) (hr : r.takeWhile isWord = []) : rd (w ++ r) = (rd r).map fun l => ⟨0, w, 0, 0⟩ :: l.map (shiftTk w.length) := by
 have htw : (w ++ r).takeWhile isWord = w := by
  rw [tw_all isWord r w (by rw [low_word hw]), hr, List.append_nil]
 cases hw0 : w with
 | nil => exact absurd hw0 h0
 | cons c w' =>
  have hc := hw c (by rw [hw0]; simp)
  rw [← hw0]
  refine rd_tok (x := ⟨0, w, 0, 0⟩) (k := w.length) ?_ (by rw [hw0]; simp) ?_ (by simp) (by simp)
  · rw [hw0]
    exact skip_here c (w' ++ r) (low_plain hc).1 (low_plain hc).2
  · unfold nextR
    have e0 : (w ++ r).getD 0 0 = c := by rw [hw0]; rfl
    have es : scan isWord (w ++ r) 0 = w.length := by unfold scan; rw [List.drop_zero, htw]; omega
    rw [e0, low_letter hc, List.drop_zero, htw, es]
    unfold wordR
    rw [low_map hw, decide_eq_false (by omega)]
    rfl
theorem rd_sign {g : UInt8} {r : List UInt8} (hg : nextR (g :: r) 0 = (⟨3, [g], 0, 0⟩, sDone, 1)) (h1 : isBlank g = false) (h2 : (45 == g) = false) : rd (g :: r) = (rd r).map fun l => ⟨3, [g], 0, 0⟩ :: l.map (shiftTk 1) :=
 rd_tok (skip_here g r h1 h2) (by simp) hg (by simp) rfl
theorem lex_rd {s : List UInt8} (h : (lexScan s).2 = sDone) : rd s = some (lexScan s).1 ∧ s.length ≤ 2000 ∧ (lexScan s).1.length ≤ 600 := by
 obtain ⟨h1, h2, _⟩ := lexScan_done s
 exact ⟨h2 h, (h1.1 h).1, lexScan_len s⟩
def preW (e : List UInt8) : List UInt8 := k_select ++ 32 :: ([120] ++ 32 :: (k_from ++ 32 :: ([116] ++ 32 :: (k_where ++ 32 :: e))))
theorem rd_preW (e : List UInt8) : rd (preW e) = (rd e).map fun l => ⟨0, k_select, 0, 0⟩ :: ⟨0, [120], 0, 7⟩ :: ⟨0, k_from, 0, 9⟩ :: ⟨0, [116], 0, 14⟩ :: ⟨0, k_where, 0, 16⟩ :: l.map (shiftTk 22) := by
 have comp : ∀ (a b : Nat) (l : List Tk), (l.map (shiftTk a)).map (shiftTk b) = l.map (shiftTk (a + b)) := fun a b l => by
  rw [List.map_map]
  congr 1
  funext t
  unfold shiftTk Function.comp
  simp only [Int.natCast_add, Int.add_assoc]
 unfold preW
 rw [rd_word (w := k_select) (by decide) (by decide) (by decide) (by rfl), rd_blank 32 rfl, rd_word (w := [120]) (by decide) (by decide) (by decide) (by rfl), rd_blank 32 rfl, rd_word (w := k_from) (by decide) (by decide) (by decide) (by rfl), rd_blank 32 rfl,
  rd_word (w := [116]) (by decide) (by decide) (by decide) (by rfl), rd_blank 32 rfl, rd_word (w := k_where) (by decide) (by decide) (by decide) (by rfl), rd_blank 32 rfl]
 simp only [Option.map_map]
 congr 1
 funext l
 simp only [Function.comp, List.map_cons, comp]
 rfl
end Go.AM.Ps
namespace Go.AM.Ps
open Go.Proofs W
theorem parse_done {n : Nat} {s : List UInt8} {q : Nd} (h : parseS n s = (q, sDone)) : (lexScan s).2 = sDone ∧ parseMid (lexScan s).1 (statement reservedB (lexScan s).1 n 0) = (q, sDone) := by
 unfold parseS at h
 cases hb : ((lexScan s).2 == sDone) with
 | false =>
  rw [hb] at h
  have : (lexScan s).2 = sDone := congrArg Prod.snd h
  rw [this] at hb
  simp at hb
 | true =>
  rw [hb] at h
  exact ⟨by simpa using hb, h⟩
def five (l : List Tk) : List Tk := ⟨0, k_select, 0, 0⟩ :: ⟨0, [120], 0, 7⟩ :: ⟨0, k_from, 0, 9⟩ :: ⟨0, [116], 0, 14⟩ :: ⟨0, k_where, 0, 16⟩ :: l
theorem five_whr (l : List Tk) : Whr (five l) := ⟨⟨_, rfl⟩, ⟨_, rfl⟩, ⟨_, rfl⟩, ⟨_, rfl⟩, ⟨_, rfl⟩⟩
theorem five_at (l : List Tk) (z : Nat) : (five l)[z + 5]? = l[z]? := rfl
def Alike (l m : List Tk) : Prop := l.map (fun t => (t.k, t.t, t.n)) = m.map (fun t => (t.k, t.t, t.n))
theorem alike_at {l m : List Tk} (h : Alike l m) {z : Nat} {x : Tk} (hx : l[z]? = some x) : ∃ y, m[z]? = some y ∧ y.k = x.k ∧ y.t = x.t ∧ y.n = x.n := by
 have h1 := congrArg (·[z]?) h
 simp only [List.getElem?_map, hx, Option.map_some] at h1
 cases hy : m[z]? with
 | none => rw [hy] at h1; cases h1
 | some y =>
  rw [hy] at h1
  simp only [Option.map_some, Option.some.injEq, Prod.mk.injEq] at h1
  exact ⟨y, rfl, h1.1.symm, h1.2.1.symm, h1.2.2.symm⟩
theorem alike_len {l m : List Tk} (h : Alike l m) : l.length = m.length := by
 have := congrArg List.length h
 simpa using this
theorem sm_five {l m : List Tk} {g : Tk} {r : Tk} (h : Alike l m) (hr : r.k = 3 ∧ r.t = g_rap) : Sm (five l) (five (g :: (m ++ [r]))) 5 1 true := by
 have hlen := alike_len h
 refine ⟨fun z x hz hx => ?_, fun z hz => ?_⟩
 · obtain ⟨z, rfl⟩ : ∃ k, z = k + 5 := ⟨z - 5, by omega⟩
   rw [five_at] at hx
   obtain ⟨y, h1, h2⟩ := alike_at h hx
   refine ⟨y, ?_, h2⟩
   rw [show z + 5 + 1 = (z + 1) + 5 by omega, five_at, List.getElem?_cons_succ, List.getElem?_append_left (by
    rcases Nat.lt_or_ge z m.length with w | w
    · exact w
    · rw [List.getElem?_eq_none w] at h1; cases h1)]
   exact h1
 · have hge := List.getElem?_eq_none_iff.1 hz
   have hl5 : (five l).length = l.length + 5 := rfl
   rw [hl5] at hge
   obtain ⟨z, rfl⟩ : ∃ k, z = k + 5 := ⟨z - 5, by omega⟩
   rw [show z + 5 + 1 = (z + 1) + 5 by omega, five_at, List.getElem?_cons_succ, List.getElem?_append_right (by omega)]
   cases hz2 : z - m.length with
   | zero => exact .inr ⟨r, rfl, hr.1, .inr ⟨rfl, hr.2⟩⟩
   | succ k => exact .inl rfl
end Go.AM.Ps
namespace Go.AM.Ps
open Go.Proofs W
theorem rd_preF (e : List UInt8) : rd (preW e) = (rd e).map fun l => five (l.map (shiftTk 22)) := rd_preW e
theorem rd_par (r : List UInt8) : rd (40 :: r) = (rd r).map fun l => ⟨3, [40], 0, 0⟩ :: l.map (shiftTk 1) := rd_sign rfl rfl rfl
theorem rd_rap1 : rd [41] = some [⟨3, [41], 0, 0⟩] := by kernel_rfl
theorem rd_rap2 : rd [41, 32, 41, 32] = some [⟨3, [41], 0, 0⟩, ⟨3, [41], 0, 2⟩] := by kernel_rfl
theorem rd_joint {e : List UInt8} {T : List Tk} (h : rd e = some T) (b : List UInt8) : rd (e ++ 10 :: b) = (rd b).map fun m => T ++ m.map (shiftTk (e.length + 1)) :=
 joint_run e b (e.length + 1) 0 (by omega) (by omega) T h
def textA (e : List UInt8) : List UInt8 := preW e
def textB (e : List UInt8) : List UInt8 := preW (40 :: (e ++ 10 :: [41]))
def textC (e : List UInt8) : List UInt8 := preW (40 :: 32 :: 40 :: (e ++ 10 :: [41, 32, 41, 32]))
theorem toks_of {s : List UInt8} {l : List Tk} (h : (lexScan s).2 = sDone) (hr : rd s = some l) : (lexScan s).1 = l := by
 have := (lex_rd h).1
 rw [hr] at this
 exact (Option.some.inj this).symm
theorem within_text {e : List UInt8} {m : Nat} {qa qb qc x y z : Nd} (hm : 20000 ≤ m) (hm2 : m ≤ 900000000) (ha : parseS (m + 13) (textA e) = (qa, sDone)) (hb : parseS (m + 13) (textB e) = (qb, sDone)) (hc : parseS (m + 13) (textC e) = (qc, sDone))
  (ca : condOf qa = some x) (cb : condOf qb = some y) (cc : condOf qc = some z) (hal : alone qa = true) : y = x ∧ z = x := by
 obtain ⟨da, pa⟩ := parse_done ha
 obtain ⟨db, pb⟩ := parse_done hb
 obtain ⟨dc, pc⟩ := parse_done hc
 obtain ⟨T, hT⟩ : ∃ T, rd e = some T := by
  have := (lex_rd da).1
  unfold textA at this
  rw [rd_preF] at this
  cases hq : rd e with
  | none => rw [hq] at this; cases this
  | some T => exact ⟨T, rfl⟩
 have ta : (lexScan (textA e)).1 = five (T.map (shiftTk 22)) := toks_of da (by unfold textA; rw [rd_preF, hT]; rfl)
 have h0 : rd (textB e) = some (five (((⟨3, [40], 0, 0⟩ : Tk) :: ((T ++ [shiftTk (e.length + 1) ⟨3, [41], 0, 0⟩]).map (shiftTk 1))).map (shiftTk 22))) := by
  unfold textB
  rw [rd_preF, rd_par, rd_joint hT, rd_rap1]
  rfl
 have tb := toks_of db h0
 have h1 : rd (textC e) = some (five (((⟨3, [40], 0, 0⟩ : Tk) :: ((((⟨3, [40], 0, 0⟩ : Tk) :: ((T ++ [shiftTk (e.length + 1) ⟨3, [41], 0, 0⟩, shiftTk (e.length + 1) ⟨3, [41], 0, 2⟩]).map (shiftTk 1))).map (shiftTk 1)).map (shiftTk 1))).map (shiftTk 22))) := by
  unfold textC
  rw [rd_preF, rd_par, rd_blank 32 rfl, rd_par, rd_joint hT, rd_rap2]
  rfl
 have tc := toks_of dc h1
 simp only [List.map_cons, List.map_append, List.map_nil] at tb tc
 rw [ta] at pa
 rw [tb] at pb
 rw [tc] at pc
 have la := (lex_rd da).2.2
 have lb := (lex_rd db).2.2
 rw [ta] at la
 rw [tb] at lb
 have hAB : Alike (T.map (shiftTk 22)) ((T.map (shiftTk 1)).map (shiftTk 22)) := by unfold Alike; simp only [List.map_map]; rfl
 have sab := sm_five (g := shiftTk 22 ⟨3, [40], 0, 0⟩) (r := shiftTk 22 (shiftTk 1 (shiftTk (e.length + 1) ⟨3, [41], 0, 0⟩))) hAB ⟨rfl, rfl⟩
 have hw := within_tokens (five_whr _) (five_whr _) sab (by show 5 ≤ (five _).length; unfold five; simp) la hm hm2 (by unfold five; simp) rfl pa pb ca hal cb
 refine ⟨hw.1, ?_⟩
 have hBC : Alike (shiftTk 22 ⟨3, [40], 0, 0⟩ :: ((T.map (shiftTk 1)).map (shiftTk 22) ++ [shiftTk 22 (shiftTk 1 (shiftTk (e.length + 1) ⟨3, [41], 0, 0⟩))]))
   (shiftTk 22 (shiftTk 1 (shiftTk 1 ⟨3, [40], 0, 0⟩)) :: ((((T.map (shiftTk 1)).map (shiftTk 1)).map (shiftTk 1)).map (shiftTk 22) ++ [shiftTk 22 (shiftTk 1 (shiftTk 1 (shiftTk 1 (shiftTk (e.length + 1) ⟨3, [41], 0, 0⟩))))])) := by
  unfold Alike
  simp only [List.map_map, List.map_cons, List.map_append, List.map_nil]
  rfl
 have sbc := sm_five (g := shiftTk 22 ⟨3, [40], 0, 0⟩) (r := shiftTk 22 (shiftTk 1 (shiftTk 1 (shiftTk 1 (shiftTk (e.length + 1) ⟨3, [41], 0, 2⟩))))) hBC ⟨rfl, rfl⟩
 rw [← hw.1]
 refine within_again (five_whr _) sbc (by show 5 ≤ (five _).length; unfold five; simp) lb hm hm2 (by unfold five; simp) rfl hw.2 ?_ cc
 simpa using pc
end Go.AM.Ps
