/- The abstract machine, third part: drawn regions, loops, functions. -/
import Derived.Test.YtodfopcgficmlaaAmB
import Derived.Scope
set_option linter.unusedSectionVars false
set_option linter.unusedVariables false
set_option linter.unusedSimpArgs false
namespace Go.AM
def Agrees (T : Tab) (env env' : Env) (op : Op) : Prop := ∀ x, x ∈ op.operands.toList → ev T env x = ev T env' x
theorem evs_congr {T : Tab} {env env' : Env} : ∀ {l : List Operand}, (∀ x, x ∈ l → ev T env x = ev T env' x) → evs T env l = evs T env' l
 | [], _ => rfl
 | x :: l, h => by simp only [evs, h x (by simp), evs_congr (l := l) fun y hy => h y (by simp [hy])]
theorem elems_congr {T : Tab} {env env' : Env} : ∀ {l : List (Nat × Operand)}, (∀ x, x ∈ l.map (·.2) → ev T env x = ev T env' x) → elems T env l = elems T env' l
 | [], _ => rfl
 | (i, x) :: l, h => by simp only [elems, h x (by simp), elems_congr (l := l) fun y hy => h y (by simp [hy])]
theorem fillIn_congr {T : Tab} {env env' : Env} {fs : List (Nat × Nat)} : ∀ {l : List (Nat × Operand)} {cs : List AV}, (∀ x, x ∈ l.map (·.2) → ev T env x = ev T env' x) →
  fillIn T env fs l cs = fillIn T env' fs l cs
 | [], cs, _ => rfl
 | (i, x) :: l, cs, h => by
  have hl := fun cs => fillIn_congr (T := T) (fs := fs) (l := l) (cs := cs) fun y hy => h y (by simp [hy])
  simp only [fillIn, h x (by simp), hl]
theorem xpure_congr {T : Tab} {env env' : Env} {S : St} {op : Op} (h : Agrees T env env' op) : xpure T env S op = xpure T env' S op := by
 cases op with
 | move x => simp only [xpure, h x (by simp [Op.operands])]
 | assign x => simp only [xpure, h x (by simp [Op.operands])]
 | pick c x y => simp only [xpure, h c (by simp [Op.operands]), h x (by simp [Op.operands]), h y (by simp [Op.operands])]
 | alloc t => rfl
 | box t x => simp only [xpure, h x (by simp [Op.operands])]
 | build t ps =>
  have h2 : ∀ (cs : List AV) (fs : List (Nat × Nat)), fillIn T env fs ps.toList cs = fillIn T env' fs ps.toList cs := fun cs fs => fillIn_congr fun x hx => h x (by simpa [Op.operands] using hx)
  simp only [xpure, h2]
 | buildSlice t n ps =>
  have h2 : elems T env ps.toList = elems T env' ps.toList := elems_congr fun x hx => h x (by simpa [Op.operands] using hx)
  simp only [xpure, h2]
 | load t x => simp only [xpure, h x (by simp [Op.operands])]
 | nilCheck x => simp only [xpure, h x (by simp [Op.operands])]
 | binOp op t x y t' => simp only [xpure, h x (by simp [Op.operands]), h y (by simp [Op.operands])]
 | unOp op t x => simp only [xpure, h x (by simp [Op.operands])]
 | convert s d x => simp only [xpure, h x (by simp [Op.operands])]
 | makeInterface t x => simp only [xpure, h x (by simp [Op.operands])]
 | typeAssert x xt t ok => simp only [xpure, h x (by simp [Op.operands])]
 | makeFunc f x y =>
  have h1 : evs T env x.toList = evs T env' x.toList := evs_congr fun z hz => h z (by simp [Op.operands] at hz ⊢; exact .inl hz)
  have h2 : evs T env y.toList = evs T env' y.toList := evs_congr fun z hz => h z (by simp [Op.operands] at hz ⊢; exact .inr hz)
  cases f <;> simp only [xpure, h1, h2]
 | slice t x lo hi mx =>
  have hx := h x (by simp [Op.operands])
  cases lo with
  | none => cases hi with
   | none => cases mx <;> simp only [xpure, hx]
   | some b =>
    have hb := h b (by simp [Op.operands])
    cases mx <;> simp only [xpure, hx, hb]
  | some c =>
   have hc := h c (by simp [Op.operands])
   cases hi with
   | none => cases mx <;> simp only [xpure, hx, hc]
   | some b =>
    have hb := h b (by simp [Op.operands])
    cases mx with
    | none => simp only [xpure, hx, hc, hb]
    | some mx =>
     have hm := h mx (by simp [Op.operands])
     simp only [xpure, hx, hc, hb, hm]
 | fieldAddr t x f => simp only [xpure, h x (by simp [Op.operands])]
 | indexAddr t x i => simp only [xpure, h x (by simp [Op.operands]), h i (by simp [Op.operands])]
 | index t x i => simp only [xpure, h x (by simp [Op.operands]), h i (by simp [Op.operands])]
 | extract x i => simp only [xpure, h x (by simp [Op.operands])]
 | call c =>
  have ha : ∀ x, x ∈ c.args.toList → ev T env x = ev T env' x := fun x hx => h x (by simp [Op.operands, Call.operands] at hx ⊢; exact .inr hx)
  simp only [xpure]
  split
  · split
    · rename_i x t hargs _
      rw [hargs] at ha
      simp only [ha x (by simp)]
    · rfl
  · split
    · rename_i x y hargs
      rw [hargs] at ha
      simp only [ha x (by simp), ha y (by simp)]
    · rfl
  · split
    · rename_i x y hargs
      rw [hargs] at ha
      simp only [ha x (by simp), ha y (by simp)]
    · rfl
  · split
    · rename_i x t hargs _
      rw [hargs] at ha
      simp only [ha x (by simp)]
    · rfl
  · rfl
 | _ => rfl
section
variable {R : Type}
theorem xeff_congr {A : Alg R} {T : Tab} {env env' : Env} {S : St} {op : Op} {Pa K : AV → St → R} (h : Agrees T env env' op) : xeff A T env S op Pa K = xeff A T env' S op Pa K := by
 cases op with
 | store t x v => simp only [xeff, h x (by simp [Op.operands]), h v (by simp [Op.operands])]
 | panic x => simp only [xeff, h x (by simp [Op.operands])]
 | call c =>
  have ha : ∀ x, x ∈ c.args.toList → ev T env x = ev T env' x := fun x hx => h x (by simp [Op.operands, Call.operands] at hx ⊢; exact .inr hx)
  have h1 : evs T env c.args.toList = evs T env' c.args.toList := evs_congr ha
  cases hc : c.callee with
  | builtin b =>
   cases b <;> try (simp only [xeff, hc])
   · split
     · rename_i x y t u hargs _
       rw [hargs] at ha
       simp only [ha x (by simp), ha y (by simp)]
     · rfl
   · split
     · rename_i x t hargs _
       rw [hargs] at ha
       simp only [ha x (by simp)]
     · rfl
   · split
     · rename_i x y t u hargs _
       rw [hargs] at ha
       simp only [ha x (by simp), ha y (by simp)]
     · rfl
  | value f =>
   have hf := h f (by simp [Op.operands, Call.operands, hc])
   simp only [xeff, hc, hf, h1]
  | invoke r n => simp only [xeff, hc]
 | _ => rfl
theorem xop_congr {A : Alg R} {T : Tab} {env env' : Env} {S : St} {op : Op} {Pa K : AV → St → R} (h : Agrees T env env' op) : xop A T env S op Pa K = xop A T env' S op Pa K := by
 simp only [xop, xpure_congr h, xeff_congr h]
end
theorem opAt_eq : ∀ (l : List Oper) (n : Nat), opAt l n = l[n]?
 | [], n => rfl
 | o :: l, 0 => rfl
 | o :: l, n + 1 => by simp [opAt, opAt_eq l n]
section
variable {P : Program} {T : Tab} {C : Ctx} {g : Ghost} {env : Env} {S : St} {a : Act} {w : World}
theorem yielded_of (h : Inv T C g env S a w) {ops : Array Oper} {j : Nat} {b : Bool} (hy : yieldOf ops.toList env j = .bool b) : yielded ops a.tmps j = some b := by
 simp only [yieldOf, opAt_eq, Array.getElem?_toList] at hy
 unfold yielded
 cases ho : ops[j]? with
 | none => simp [ho] at hy
 | some o =>
  simp only [ho] at hy
  cases hd : o.dst with
  | none => simp [hd] at hy
  | some d =>
   simp only [hd] at hy
   have := h.tmp d
   rw [hy] at this
   generalize hx : a.tmps.getD d undef = x at this
   cases this
   have hlt : d < a.tmps.size := by
    rcases Nat.lt_or_ge d a.tmps.size with hh | hh
    · exact hh
    · simp [Array.getD, Nat.not_lt.2 hh, undef] at hx
   simp [hd, hlt]
   simp [Array.getD, hlt] at hx
   rw [hx]
theorem yielded_gone (h : Inv T C g env S a w) {ops : Array Oper} {j : Nat} (hy : yieldOf ops.toList env j = .tup []) : yielded ops a.tmps j = none := by
 simp only [yieldOf, opAt_eq, Array.getElem?_toList] at hy
 unfold yielded
 cases ho : ops[j]? with
 | none => rfl
 | some o =>
  simp only [ho] at hy
  cases hd : o.dst with
  | none => simp [hd]
  | some d =>
   simp only [hd] at hy
   have := h.tmp d
   rw [hy] at this
   generalize hx : a.tmps.getD d undef = x at this
   cases this with
   | tup _ _ xs hl hR =>
    by_cases hlt : d < a.tmps.size
    · simp [Array.getD, hlt] at hx
      simp [hd, hlt, hx]
    · simp [hd, hlt]
def NotW (v : AV) (want : Bool) : Prop := v = .tup [] ∨ v = .bool (!want)
theorem wanted_not (h : Inv T C g env S a w) {ops : Array Oper} {o : Oper} {j : Nat} {want : Bool} {v : AV} (hg : o.guard = some (j, want)) (hy : yieldOf ops.toList env j = v) (hn : NotW v want) : Region.wanted o (yielded ops a.tmps) = false := by
 rcases hn with rfl | rfl
 · simp [Region.wanted, hg, yielded_gone h hy]
 · simp [Region.wanted, hg, yielded_of h hy]
theorem rep_gone (T : Tab) (w : World) (g : Ghost) : Rep T w g (.tup []) Go.undef := .tup g [] [] rfl (by simp)
def opsFit (N : Nat) : List Oper → Bool
 | [] => true
 | o :: l => (match o.dst with | some d => Nat.blt d N | none => true) && opsFit N l
theorem opsFit_spec {N : Nat} {l : List Oper} (h : opsFit N l = true) (o : Oper) (ho : o ∈ l) (t : Nat) (ht : o.dst = some t) : t < N := by
 induction l with
 | nil => cases ho
 | cons p l ih =>
  simp only [opsFit, Bool.and_eq_true] at h
  rcases List.mem_cons.1 ho with rfl | hp
  · rw [ht] at h
    exact Nat.le_of_ble_eq_true h.1
  · exact ih h.2 hp
def regPost (T : Tab) (C : Ctx) (Pa : AV → St → Prop) (K : Env → St → Prop) (Q : Exit → Act → World → Prop) : Prop :=
 (∀ env S g a w, K env S → Inv T C g env S a w → Q .normal a w) ∧
 ∀ v S g a w env x, Pa v S → Inv T C g env S a w → Rep T w g v x → Q (.panic [{ v := x, recovered := false }]) a w
def regPostE (T : Tab) (C : Ctx) (Pa : Env → AV → St → Prop) (K : Env → St → Prop) (Q : Exit → Act → World → Prop) : Prop :=
 (∀ env S g a w, K env S → Inv T C g env S a w → Q .normal a w) ∧
 ∀ v S g a w env x, Pa env v S → Inv T C g env S a w → Rep T w g v x → Q (.panic [{ v := x, recovered := false }]) a w
theorem xops_seq (hT : TabOk P T) {ops : Array Oper} (hfit : opsFit C.n ops.toList = true) {N : Nat} {Pa : Env → AV → St → Prop} {K : Env → St → Prop} {Q : Exit → Act → World → Prop} (hQ : regPostE T C Pa K Q) :
  ∀ (l : List (Nat × Oper)) (env : Env) (S : St) (g : Ghost) (a : Act) (w : World), (∀ i o, (i, o) ∈ l → ops[i]? = some o) → Inv T C g env S a w →
   xopsE (pAlg P T N) T ops.toList Pa K l env S → wpOps P ops Q (l.map (·.1)) a w := by
 intro l
 induction l with
 | nil => intro env S g a w _ h hx; exact hQ.1 env S g a w hx h
 | cons p l ih0 =>
  intro env S g a w hl h hx
  obtain ⟨i, o⟩ := p
  have hi := hl i o (by simp)
  have hd : ∀ t, o.dst = some t → t < C.n := opsFit_spec hfit o (by
   rw [← Array.getElem?_toList] at hi
   exact List.mem_of_getElem? hi)
  have ih := fun env S g a w => ih0 env S g a w (fun i o h => hl i o (by simp [h]))
  have hrun : (xop (pAlg P T N) T env S o.op (Pa env) fun v S' => xopsE (pAlg P T N) T ops.toList Pa K l (putDst env o.dst v) S') →
    o.wp P a w (wpOps P ops Q (l.map (·.1))) Q := fun hx =>
   xop_sound hT h N o hx _ _ (fun v S' x g' w' hk hI hv => ih _ _ g' _ w' (hI.put hv o.dst hd) hk) (fun v S' x g' w' hp hI hv => hQ.2 v S' g' a w' env x hp hI hv)
  simp only [List.map_cons, wpOps, hi]
  simp only [xopsE] at hx
  cases hg : o.guard with
  | none =>
   simp only [hg] at hx
   rw [if_pos (by simp [Region.wanted, hg])]
   exact .inl (hrun hx)
  | some jw =>
   obtain ⟨j, want⟩ := jw
   simp only [hg] at hx
   split at hx
   · rename_i b hb
     have hy := yielded_of (ops := ops) h hb
     have hskip : xopsE (pAlg P T N) T ops.toList Pa K l (putDst env o.dst (.tup [])) S → wpOps P ops Q (l.map (·.1)) (a.put o.dst undef) w := fun hx =>
      ih _ _ g _ w (h.put (rep_gone _ _ _) o.dst hd) hx
     cases b <;> cases want <;> simp only at hx
     · rw [if_pos (by simp [Region.wanted, hg, hy])]; exact .inl (hrun hx)
     · rw [if_neg (by simp [Region.wanted, hg, hy])]; exact hskip hx
     · rw [if_neg (by simp [Region.wanted, hg, hy])]; exact hskip hx
     · rw [if_pos (by simp [Region.wanted, hg, hy])]; exact .inl (hrun hx)
   · rename_i hb
     rw [if_neg (by rw [wanted_not h hg hb (.inl rfl)]; simp)]
     exact ih _ _ g _ w (h.put (rep_gone _ _ _) o.dst hd) hx
   · exact hx.elim
theorem number_fst : ∀ (l : List Oper) (n : Nat), (number n l).map (·.1) = List.range' n l.length
 | [], n => rfl
 | o :: l, n => by simp [number, number_fst l (n + 1), List.range'_succ]
theorem number_mem : ∀ (l : List Oper) (n i : Nat) (o : Oper), (i, o) ∈ number n l → n ≤ i ∧ l[i - n]? = some o
 | [], n, i, o, h => by simp [number] at h
 | p :: l, n, i, o, h => by
  simp only [number, List.mem_cons, Prod.mk.injEq] at h
  rcases h with ⟨rfl, rfl⟩ | h
  · simp
  · obtain ⟨h1, h2⟩ := number_mem l (n + 1) i o h
    refine ⟨by omega, ?_⟩
    have : i - n = (i - (n + 1)) + 1 := by omega
    rw [this]
    simpa using h2
theorem region_seq (hT : TabOk P T) {ops : Array Oper} (hfit : opsFit C.n ops.toList = true) {N id : Nat} {Pa : Env → AV → St → Prop} {K : Env → St → Prop} {Q : Exit → Act → World → Prop} (hQ : regPostE T C Pa K Q)
  (h : Inv T C g env S a w) (hx : xopsE (pAlg P T N) T ops.toList Pa K (number 0 ops.toList) env S) : (Code.region id ops false).wp P Q a w := by
 refine wp_region ?_
 have := xops_seq hT hfit hQ (number 0 ops.toList) env S g a w (fun i o hm => by
  obtain ⟨_, h2⟩ := number_mem _ _ _ _ hm
  simpa using h2) h hx
 rw [number_fst] at this
 simpa [List.range_eq_range'] using this
end
end Go.AM
namespace Go.AM
def isEff : Op → Bool
 | .store .. => true
 | .panic _ => true
 | .call c => match c.callee with
  | .builtin .len => false
  | _ => true
 | _ => false
def still : Op → Bool
 | .load .. => false
 | .alloc _ => false
 | .box .. => false
 | .buildSlice .. => false
 | _ => true
def edgesOf (o : Oper) : List Nat := o.after.toList.filterMap fun e => match Region.binds .any e with | true => some e.on | false => none
def bitAt : List Nat → Nat → Nat → Bool
 | [], _, _ => false
 | m :: _, 0, q => m.testBit q
 | _ :: l, i + 1, q => bitAt l i q
def orAll (acc : List Nat) : List Nat → Nat
 | [] => 0
 | e :: l => 2 ^ e ||| acc.getD e 0 ||| orAll acc l
def masks : List Oper → List Nat → List Nat
 | [], acc => acc
 | o :: l, acc => masks l (acc ++ [orAll acc (edgesOf o)])
def maskOk (ops : List Oper) (m : List Nat) (i q : Nat) : Bool :=
 !bitAt m i q || match ops[i]? with
  | some o => (edgesOf o).any fun e => Nat.beq e q || (Nat.blt e i && bitAt m e q)
  | none => false
def dstIs (o : Oper) (t : Tmp) : Bool := match o.dst with
 | some d => Nat.beq d t
 | none => false
def guardTmp (ops : List Oper) (o : Oper) : List Tmp := match o.guard with
 | some (j, _) => match ops[j]? with
  | some p => match p.dst with
   | some d => [d]
   | none => []
  | none => []
 | none => []
def opTmps (o : Oper) : List Tmp := o.op.operands.toList.filterMap fun | .tmp t => some t | _ => none
def looks (ops : List Oper) (o : Oper) : List Tmp := opTmps o ++ guardTmp ops o
def readFirst (ops : List Oper) (d : Tmp) : List Oper → Bool
 | [] => false
 | p :: l => match dstIs p d with
  | true => false
  | false => match (looks ops p).any fun t => Nat.beq t d with
   | true => true
   | false => readFirst ops d l
def isStop (ops : List Oper) (o : Oper) : Bool := match isEff o.op with
 | true => true
 | false => match o.op with
  | .assign _ => match o.dst with
   | some d => readFirst ops d ops
   | none => false
  | _ => false
theorem isStop_no {ops : List Oper} {o : Oper} (h : isStop ops o = false) : isEff o.op = false := by
 unfold isStop at h
 cases he : isEff o.op with
 | false => rfl
 | true => rw [he] at h; cases h
def effAt (ops : List Oper) (e : Nat) : Bool := match ops[e]? with
 | some o => isStop ops o
 | none => false
def stepOk (ops : List Oper) (fl : List (Nat × List Nat)) (m : List Nat) (pre : List Nat) (i : Nat) (post : List Nat) : Bool :=
 match ops[i]? with
 | none => false
 | some o =>
  !pre.contains i &&
  ((edgesOf o).all fun e => pre.contains e) &&
  ((looks ops o).all fun t => !dstIs o t && (List.range ops.length).all fun q => match ops[q]? with
    | some p => !dstIs p t || bitAt m i q || (post.contains q && (((post.takeWhile fun x => !Nat.beq x q).any fun e => effAt ops e && bitAt m e i) || (isStop ops p && bitAt m q i)))
    | none => true) &&
  (match o.dst with
    | some d => (List.range ops.length).all fun q => Nat.beq q i || match ops[q]? with
     | some p => !dstIs p d
     | none => true
    | none => true) &&
  (pre.all fun q => match ops[q]? with
    | some p => ((looks ops p).all fun t => !dstIs o t) || (pre.any fun e => effAt ops e && bitAt m e q) || (isStop ops o && bitAt m i q)
    | none => false) &&
  match isStop ops o with
  | true => (post.all fun j => bitAt m j i) && pre.all fun q => match ops[q]? with
   | some p => isStop ops p || bitAt m i q || still p.op || (floatsOf fl i).contains q
   | none => false
  | false => (floatsOf fl i).isEmpty
def drawGo (ops : List Oper) (fl : List (Nat × List Nat)) (m : List Nat) : List Nat → List Nat → Bool
 | _, [] => true
 | pre, i :: post => stepOk ops fl m pre i post && drawGo ops fl m (pre ++ [i]) post
def drawOk (ops : List Oper) (an : Ann) : Bool :=
 let m := masks ops []
 ((List.range ops.length).all fun i => an.order.contains i && (List.range ops.length).all fun q => maskOk ops m i q) &&
 (m.all fun x => Nat.blt x (2 ^ ops.length)) &&
 drawGo ops an.floats m [] an.order
structure StepOk (ops : List Oper) (fl : List (Nat × List Nat)) (m : List Nat) (pre : List Nat) (i : Nat) (post : List Nat) (o : Oper) : Prop where
 op : ops[i]? = some o
 new : i ∉ pre
 lin : ∀ e, e ∈ edgesOf o → e ∈ pre
 own : ∀ t, t ∈ looks ops o → o.dst ≠ some t
 wr : ∀ t, t ∈ looks ops o → ∀ q p, ops[q]? = some p → p.dst = some t → bitAt m i q = true ∨ (∃ e X Y, post = X ++ q :: Y ∧ e ∈ X ∧ (∃ oe, ops[e]? = some oe ∧ isStop ops oe = true) ∧ bitAt m e i = true) ∨ (q ∈ post ∧ isStop ops p = true ∧ bitAt m q i = true)
 dst : ∀ d, o.dst = some d → ∀ q p, q ≠ i → ops[q]? = some p → p.dst ≠ some d
 old : ∀ q p, q ∈ pre → ops[q]? = some p → (∀ t, t ∈ looks ops p → o.dst ≠ some t) ∨ (∃ e oe, e ∈ pre ∧ ops[e]? = some oe ∧ isStop ops oe = true ∧ bitAt m e q = true) ∨ (isStop ops o = true ∧ bitAt m i q = true)
 eff : isStop ops o = true → (∀ j, j ∈ post → bitAt m j i = true) ∧
  ∀ q p, q ∈ pre → ops[q]? = some p → isStop ops p = false → bitAt m i q = false → still p.op = false → q ∈ floatsOf fl i
 pure : isStop ops o = false → floatsOf fl i = []
structure DrawOk (ops : List Oper) (order : List Nat) (fl : List (Nat × List Nat)) (m : List Nat) : Prop where
 all : ∀ i, i < ops.length → i ∈ order
 mask : ∀ i q, bitAt m i q = true → ∃ o e, ops[i]? = some o ∧ e ∈ edgesOf o ∧ (e = q ∨ (e < i ∧ bitAt m e q = true))
 step : ∀ pre i post, order = pre ++ i :: post → ∃ o, StepOk ops fl m pre i post o
theorem dstIs_iff {o : Oper} {t : Tmp} : dstIs o t = true ↔ o.dst = some t := by
 unfold dstIs
 cases o.dst with
 | none => simp
 | some d =>
  constructor
  · intro h; rw [Nat.eq_of_beq_eq_true h]
  · intro h; cases h; exact Nat.beq_refl _
theorem effAt_spec {ops : List Oper} {e : Nat} (h : effAt ops e = true) : ∃ oe, ops[e]? = some oe ∧ isStop ops oe = true := by
 unfold effAt at h
 cases ho : ops[e]? with
 | none => rw [ho] at h; cases h
 | some oe => rw [ho] at h; exact ⟨oe, rfl, h⟩
theorem takeWhile_split : ∀ (l : List Nat) (q : Nat), q ∈ l → ∃ X Y, l = X ++ q :: Y ∧ (l.takeWhile fun x => !Nat.beq x q) = X
 | x :: l, q, h => by
  by_cases hx : x = q
  · subst hx
    exact ⟨[], l, rfl, by simp [List.takeWhile_cons, Nat.beq_refl]⟩
  · obtain ⟨X, Y, h1, h2⟩ := takeWhile_split l q (by
     rcases List.mem_cons.1 h with h | h
     · exact absurd h.symm hx
     · exact h)
    refine ⟨x :: X, Y, by rw [h1]; rfl, ?_⟩
    have : Nat.beq x q = false := by
     cases hb : Nat.beq x q with
     | false => rfl
     | true => exact absurd (Nat.eq_of_beq_eq_true hb) hx
    rw [List.takeWhile_cons, this]
    simp only [Bool.not_false, if_true]
    rw [h2]
theorem stepOk_spec {ops : List Oper} {fl : List (Nat × List Nat)} {m pre : List Nat} {i : Nat} {post : List Nat} (h : stepOk ops fl m pre i post = true) : ∃ o, StepOk ops fl m pre i post o := by
 unfold stepOk at h
 cases ho : ops[i]? with
 | none => simp [ho] at h
 | some o =>
  simp only [ho, Bool.and_eq_true] at h
  obtain ⟨⟨⟨⟨⟨h1, h2⟩, h3⟩, h4⟩, h5⟩, h6⟩ := h
  have lt : ∀ q p, ops[q]? = some p → q < ops.length := fun q p hq => (List.getElem?_eq_some_iff.1 hq).1
  refine ⟨o, ⟨ho, by simpa using h1, ?_, ?_, ?_, ?_, ?_, ?_, ?_⟩⟩
  · intro e he
    have := List.all_eq_true.1 h2 e he
    simpa using this
  · intro t ht hd
    have := List.all_eq_true.1 h3 t ht
    simp only [Bool.and_eq_true, Bool.not_eq_true'] at this
    rw [dstIs_iff.2 hd] at this
    cases this.1
  · intro t ht q p hq hp
    have := List.all_eq_true.1 h3 t ht
    simp only [Bool.and_eq_true] at this
    have := List.all_eq_true.1 this.2 q (List.mem_range.2 (lt q p hq))
    simp only [hq, dstIs_iff.2 hp, Bool.not_true, Bool.false_or, Bool.or_eq_true, Bool.and_eq_true] at this
    rcases this with hb | ⟨hq1, hq2 | hq2⟩
    · exact .inl hb
    rotate_left
    · exact .inr (.inr ⟨by simpa using hq1, hq2.1, hq2.2⟩)
    · obtain ⟨e, he1, he2⟩ := List.any_eq_true.1 hq2
      rw [Bool.and_eq_true] at he2
      obtain ⟨oe, hoe⟩ := effAt_spec he2.1
      obtain ⟨X, Y, hXY, hX⟩ := takeWhile_split post q (by simpa using hq1)
      exact .inr (.inl ⟨e, X, Y, hXY, hX ▸ he1, ⟨oe, hoe⟩, he2.2⟩)
  · intro d hd q p hne hq hp
    rw [hd] at h4
    have := List.all_eq_true.1 h4 q (List.mem_range.2 (lt q p hq))
    simp only [hq, dstIs_iff.2 hp, Bool.not_true, Bool.or_false] at this
    exact hne (Nat.eq_of_beq_eq_true this)
  · intro q p hqp hq
    have := List.all_eq_true.1 h5 q hqp
    simp only [hq, Bool.or_eq_true] at this
    rcases this with (this | this) | this
    rotate_left 2
    · rw [Bool.and_eq_true] at this
      exact .inr (.inr this)
    · refine .inl fun t ht hd => ?_
      have := List.all_eq_true.1 this t ht
      simp [dstIs_iff.2 hd] at this
    · obtain ⟨e, he1, he2⟩ := List.any_eq_true.1 this
      rw [Bool.and_eq_true] at he2
      obtain ⟨oe, hoe⟩ := effAt_spec he2.1
      exact .inr (.inl ⟨e, oe, he1, hoe.1, hoe.2, he2.2⟩)
  · intro he
    simp only [he, Bool.and_eq_true] at h6
    refine ⟨fun j hj => List.all_eq_true.1 h6.1 j hj, fun q p hqp hq hp hb hs => ?_⟩
    have := List.all_eq_true.1 h6.2 q hqp
    simp only [hq, hp, hb, hs, Bool.false_or] at this
    simpa using this
  · intro he
    simp only [he] at h6
    simpa using h6
theorem drawGo_spec {ops : List Oper} {fl : List (Nat × List Nat)} {m : List Nat} : ∀ (rest pre0 : List Nat), drawGo ops fl m pre0 rest = true →
  ∀ pre i post, rest = pre ++ i :: post → ∃ o, StepOk ops fl m (pre0 ++ pre) i post o := by
 intro rest
 induction rest with
 | nil => intro pre0 _ pre i post he; simp at he
 | cons k rest ih =>
  intro pre0 h pre i post he
  simp only [drawGo, Bool.and_eq_true] at h
  cases pre with
  | nil =>
   simp only [List.nil_append, List.cons.injEq] at he
   obtain ⟨rfl, rfl⟩ := he
   simpa using stepOk_spec h.1
  | cons k' pre =>
   simp only [List.cons_append, List.cons.injEq] at he
   obtain ⟨rfl, rfl⟩ := he
   have := ih (pre0 ++ [k]) h.2 pre i post rfl
   simpa using this
theorem bitAt_eq : ∀ (m : List Nat) (i q : Nat), bitAt m i q = (m.getD i 0).testBit q
 | [], i, q => by simp [bitAt]
 | x :: m, 0, q => by simp [bitAt]
 | x :: m, i + 1, q => by simp [bitAt, bitAt_eq m i q]
theorem masks_len : ∀ (l : List Oper) (acc : List Nat), (masks l acc).length = acc.length + l.length
 | [], acc => rfl
 | o :: l, acc => by simp only [masks]; rw [masks_len l]; simp; omega
theorem drawOk_spec {ops : List Oper} {an : Ann} (h : drawOk ops an = true) : DrawOk ops an.order an.floats (masks ops []) := by
 simp only [drawOk, Bool.and_eq_true] at h
 obtain ⟨⟨h1, h2⟩, h3⟩ := h
 have h1' : ∀ i, i < ops.length → i ∈ an.order ∧ ∀ q, q < ops.length → maskOk ops (masks ops []) i q = true := by
  intro i hi
  have := List.all_eq_true.1 h1 i (List.mem_range.2 hi)
  simp only [Bool.and_eq_true] at this
  exact ⟨by simpa using this.1, fun q hq => List.all_eq_true.1 this.2 q (List.mem_range.2 hq)⟩
 refine ⟨fun i hi => (h1' i hi).1, ?_, fun pre i post he => by simpa using drawGo_spec an.order [] h3 pre i post he⟩
 intro i q hb
 have hb' := hb
 rw [bitAt_eq] at hb
 have hi : i < ops.length := by
  rcases Nat.lt_or_ge i ops.length with h | h
  · exact h
  · have : (masks ops []).length ≤ i := by rw [masks_len]; simpa using h
    simp [List.getD, List.getElem?_eq_none this] at hb
 have hq : q < ops.length := by
  rcases Nat.lt_or_ge q ops.length with h | h
  · exact h
  · have hil : i < (masks ops []).length := by rw [masks_len]; simpa using hi
    have hx := List.all_eq_true.1 h2 _ (List.getElem_mem hil)
    have hx' : (masks ops [])[i] < 2 ^ ops.length := Nat.le_of_ble_eq_true hx
    have : (masks ops [])[i] < 2 ^ q := Nat.lt_of_lt_of_le hx' (Nat.pow_le_pow_right (by omega) h)
    have hf := Nat.testBit_lt_two_pow this
    simp [List.getD, List.getElem?_eq_getElem hil, hf] at hb
 have := (h1' i hi).2 q hq
 unfold maskOk at this
 rw [hb', Bool.not_true, Bool.false_or] at this
 cases ho : ops[i]? with
 | none => simp [ho] at this
 | some o =>
  simp only [ho] at this
  obtain ⟨e, he, h⟩ := List.any_eq_true.1 this
  refine ⟨o, e, rfl, he, ?_⟩
  rw [Bool.or_eq_true] at h
  rcases h with h | h
  · exact .inl (Nat.eq_of_beq_eq_true h)
  · simp only [Bool.and_eq_true] at h
    exact .inr ⟨Nat.le_of_ble_eq_true h.1, h.2⟩
theorem DrawOk.before {ops : List Oper} {order : List Nat} {fl : List (Nat × List Nat)} {m : List Nat} (h : DrawOk ops order fl m) {done : Nat → Prop}
  (hc : ∀ i o, ops[i]? = some o → done i → ∀ e, e ∈ edgesOf o → done e) : ∀ i o, ops[i]? = some o → (∀ e, e ∈ edgesOf o → done e) → ∀ q, bitAt m i q = true → done q := by
 intro i
 induction i using Nat.strongRecOn with
 | _ i ih =>
  intro o ho hr q hb
  obtain ⟨o', e, ho', he, hor⟩ := h.mask i q hb
  have : o' = o := by have := ho'.symm.trans ho; simpa using this
  subst this
  rcases hor with rfl | ⟨hlt, hb'⟩
  · exact hr e he
  · obtain ⟨o2, e2, ho2, _⟩ := h.mask e q hb'
    exact ih e hlt o2 ho2 (fun e' he' => hc e o2 ho2 (hr e he) e' he') q hb'
theorem mem_edgesOf {o : Oper} {e : Nat} : e ∈ edgesOf o ↔ ∃ x, x ∈ o.after ∧ Region.binds .any x = true ∧ x.on = e := by
 unfold edgesOf
 rw [List.mem_filterMap]
 constructor
 · rintro ⟨x, hx, h⟩
   cases hb : Region.binds .any x with
   | true => simp only [hb, Option.some.injEq] at h; exact ⟨x, Array.mem_toList_iff.1 hx, hb, h⟩
   | false => simp [hb] at h
 · rintro ⟨x, hx, hb, rfl⟩
   exact ⟨x, Array.mem_toList_iff.2 hx, by simp [hb]⟩
end Go.AM
namespace Go.AM
theorem ble_succ {o n : Nat} (h : Nat.ble (o + 1) n = true) : o < n := Nat.le_of_ble_eq_true h
theorem vec_push {X : Sg} {S : St} {row : List AV} {e : TypeId} {o v : Nat} {fc : Bool × List AV} (h : St.vecX X S e o v = some fc) : St.vecX X (S.push row) e o v = some fc := by
 have hlt : o < S.next := by
  unfold St.vecX at h
  split at h
  · rename_i hb; exact Nat.le_of_ble_eq_true hb
  · cases h
 have h1 : Nat.ble (o + 1) (S.push row).next = true := Nat.ble_eq_true_of_le (Nat.le_succ_of_le hlt)
 have h2 : (S.push row).row o = S.row o := by rw [row_push, if_neg (by omega)]
 have h3 : Nat.ble (o + 1) S.next = true := Nat.ble_eq_true_of_le hlt
 unfold St.vecX at h ⊢
 rw [h1, h2]
 rw [h3] at h
 exact h
theorem xpure_push {T : Tab} {env : Env} {S : St} {op : Op} {row : List AV} (h : xpure T env S op ≠ .no) : xpure T env (S.push row) op = xpure T env S op := by
 cases op with
 | load t x =>
  simp only [xpure] at h ⊢
  split
  · rename_i hh
    simp only [hh] at h
    split
    · rename_i o off hp
      simp only [hp] at h
      split at h
      · rename_i hlt
        have hlt' := ble_succ hlt
        have h1 : Nat.ble (o + 1) (S.push row).next = true := Nat.ble_eq_true_of_le (Nat.le_succ_of_le hlt')
        have h2 : (S.push row).row o = S.row o := by rw [row_push, if_neg (by omega)]
        simp only [h1, hlt, h2]
      · exact absurd rfl h
    · rfl
    · rename_i e o v i d hp
      simp only [hp] at h
      cases hv : St.vecX T.X S e o v with
      | none => rw [hv] at h; exact absurd rfl h
      | some fc => rw [vec_push hv]
    · rfl
  · rfl
 | makeFunc f x y => cases f <;> rfl
 | slice t x lo hi mx => cases lo <;> cases hi <;> cases mx <;> rfl
 | _ => rfl
theorem xpure_still {T : Tab} {env : Env} {S S' : St} {op : Op} (h : still op = true ∨ op matches .alloc _ ∨ op matches .box .. ∨ op matches .buildSlice ..) : xpure T env S op = xpure T env S' op := by
 cases op with
 | load t x => simp [still] at h
 | makeFunc f x y => cases f <;> rfl
 | slice t x lo hi mx => cases lo <;> cases hi <;> cases mx <;> rfl
 | _ => rfl
theorem isEff_no {P : Program} {T : Tab} {N : Nat} {env : Env} {S : St} {op : Op} {Pa K : AV → St → Prop} (he : isEff op = false) (h : xop (pAlg P T N) T env S op Pa K) : xpure T env S op ≠ .no := by
 intro hp
 unfold xop at h
 rw [hp] at h
 cases op with
 | store => simp [isEff] at he
 | panic => simp [isEff] at he
 | call c =>
  cases hc : c.callee with
  | builtin b =>
   cases b <;> simp [isEff, hc] at he
   simp only [xeff, hc] at h
   exact h
  | value f => simp [isEff, hc] at he
  | invoke r n => simp [isEff, hc] at he
 | _ => exact h
def RunOk (T : Tab) (C : Ctx) (env : Env) (S : St) (g : Ghost) (ob : Option Nat) (o : Oper) : Prop :=
 match xpure T env S o.op with
 | .ok v => ∀ d, o.dst = some d → env.get d = v
 | .need b v => b = true ∧ ∀ d, o.dst = some d → env.get d = v
 | .new row => ∃ n, ob = some n ∧ (∀ d, o.dst = some d → env.get d = .ptr n 0) ∧ S.row n = row ∧ n < S.next ∧ g.ρ n = none ∧ g.α n = none ∧ C.next ≤ n
 | .vec e cs => ∃ n, ob = some n ∧ (∀ d, o.dst = some d → env.get d = .msl e n 0 0 (T.X.len cs)) ∧ S.row n = [.mrow e 0 false cs] ∧ n < S.next ∧ g.ρ n = none ∧ g.α n = none ∧ C.next ≤ n
 | .no => False
def Owed (T : Tab) (C : Ctx) (all : List Oper) (env : Env) (S : St) (g : Ghost) (ob : Option Nat) (o : Oper) : Prop :=
 isStop all o = false ∧
 ((∃ j want b, o.guard = some (j, want) ∧ yieldOf all env j = b ∧ NotW b want ∧ ∀ d, o.dst = some d → env.get d = .tup []) ∨
  ((o.guard = none ∨ ∃ j want, o.guard = some (j, want) ∧ yieldOf all env j = .bool want) ∧ RunOk T C env S g ob o))
def isNew : Op → Bool
 | .alloc _ => true
 | .box .. => true
 | _ => false
def isBuild : Op → Bool
 | .buildSlice .. => true
 | _ => false
theorem boolOp_new {X : Sg} {op : BinOp} {b : Bool} {row : List AV} (h : boolOp X op b = .new row) : False := by
 unfold boolOp at h
 split at h <;> cases h
theorem binV_new {X : Sg} {eqs : List TypeId} {sz : Nat} {t : TypeId} {ty : Ty} {c : Bool} {op : BinOp} {x y : AV} {row : List AV} (h : binV X eqs sz t ty c op x y = .new row) : False := by
 unfold binV at h
 repeat' split at h
 all_goals first | exact boolOp_new h | cases h
theorem boolOp_vec {X : Sg} {op : BinOp} {b : Bool} {e : TypeId} {cs : List AV} (h : boolOp X op b = .vec e cs) : False := by
 unfold boolOp at h
 split at h <;> cases h
theorem binV_vec {X : Sg} {eqs : List TypeId} {sz : Nat} {t : TypeId} {ty : Ty} {c : Bool} {op : BinOp} {x y : AV} {e : TypeId} {cs : List AV} (h : binV X eqs sz t ty c op x y = .vec e cs) : False := by
 unfold binV at h
 repeat' split at h
 all_goals first | exact boolOp_vec h | cases h
theorem vec_isBuild {T : Tab} {env : Env} {S : St} {op : Op} {e : TypeId} {cs : List AV} (h : xpure T env S op = .vec e cs) : isBuild op = true := by
 cases op with
 | buildSlice => rfl
 | binOp op t x y t' => exact (binV_vec (sz := T.size t) h).elim
 | makeFunc f x y => cases f <;> cases h
 | slice t x lo hi mx =>
  cases lo <;> cases hi <;> cases mx <;> simp only [xpure] at h <;> (repeat' split at h) <;> cases h
 | _ => (try simp only [xpure] at h) <;> (repeat' split at h) <;> cases h
theorem new_isNew {T : Tab} {env : Env} {S : St} {op : Op} {row : List AV} (h : xpure T env S op = .new row) : isNew op = true := by
 cases op with
 | alloc => rfl
 | box => rfl
 | binOp op t x y t' => exact (binV_new (sz := T.size t) h).elim
 | makeFunc f x y => cases f <;> cases h
 | slice t x lo hi mx =>
  cases lo <;> cases hi <;> cases mx <;> simp only [xpure] at h <;> (repeat' split at h) <;> cases h
 | _ => (try simp only [xpure] at h) <;> (repeat' split at h) <;> cases h
end Go.AM
namespace Go.AM
theorem Inv.weak {T : Tab} {C : Ctx} {g : Ghost} {env env' : Env} {S : St} {a : Act} {w : World} (h : Inv T C g env S a w) (he : ∀ t, env'.get t = .undef ∨ env'.get t = env.get t) : Inv T C g env' S a w :=
 ⟨fun t => by
   rcases he t with e | e
   · rw [e]; exact .undef _ _
   · rw [e]; exact h.tmp t, h.size, h.defers, h.rel, h.ext, h.ob, h.tb, h.glob, h.nm, h.next, h.vb, h.vn⟩
def rebase (C : Ctx) (g : Ghost) (S : St) (w : World) : Ctx := { n := C.n, w0 := w, g0 := g, next := S.next, touch := fun b => C.touch b ∨ C.w0.heap.size ≤ b, defers := C.defers }
theorem Inv.rebase {T : Tab} {C : Ctx} {g : Ghost} {env : Env} {S : St} {a : Act} {w : World} (h : Inv T C g env S a w) : Inv T (rebase C g S w) g env S a w :=
 ⟨h.tmp, h.size, h.defers, h.rel, .refl _ _ _, fun o b q => .inl (h.ob o b q), fun k tk b q q' => .inl (h.tb k tk b q q'), h.glob, fun o b q => .inl q, Nat.le_refl _, fun o tk b q q' => .inl (h.vb o tk b q q'), fun o tk q => .inl (by show g.α o ≠ none; rw [q]; simp)⟩
theorem Inv.unbase {T : Tab} {C : Ctx} {g g' : Ghost} {env env' : Env} {S S' : St} {a a' : Act} {w w' : World} (h0 : Inv T C g env S a w) (h : Inv T (AM.rebase C g S w) g' env' S' a' w') :
  Inv T C g' env' S' a' w' ∧ (∀ o b, g'.ρ o = some b → g.ρ o = some b ∨ S.next ≤ o) ∧ S.next ≤ S'.next ∧ ∀ o tk, g'.α o = some tk → g.α o ≠ none ∨ S.next ≤ o := by
 have ht : ∀ b, ((C.touch b ∨ C.w0.heap.size ≤ b) ∨ w.heap.size ≤ b) → C.touch b ∨ C.w0.heap.size ≤ b := by
  rintro b (q | q)
  · exact q
  · exact .inr (Nat.le_trans h0.ext.size q)
 refine ⟨⟨h.tmp, h.size, h.defers, h.rel, h0.ext.trans h.ext, fun o b q => ht b (h.ob o b q), fun k tk b q q' => ht b (h.tb k tk b q q'), h.glob, fun o b q => ?_, Nat.le_trans h0.next h.next, fun o tk b q q' => ht b (h.vb o tk b q q'), fun o tk q => ?_⟩, h.nm, h.next, h.vn⟩
 · rcases h.nm o b q with q | q
   · exact h0.nm o b q
   · exact .inr (Nat.le_trans h0.next q)
 · rcases h.vn o tk q with q | q
   · cases hq : g.α o with
     | none => exact absurd hq q
     | some t0 => exact h0.vn o t0 hq
   · exact .inr (Nat.le_trans h0.next q)
theorem putDst_get (env : Env) (d : Option Tmp) (v : AV) (t : Tmp) : (putDst env d v).get t = if d = some t then v else env.get t := by
 cases d with
 | none => simp [putDst]
 | some d =>
  simp only [putDst, get_cons, Option.some.injEq]
theorem againAll_spec {P : Program} {T : Tab} {N : Nat} {all : List Oper} {env : Env} {S : St} : ∀ {l : List Nat} {k : Prop}, againAll (pAlg P T N) T all env S l k →
  k ∧ ∀ i, i ∈ l → ∃ o, all[i]? = some o ∧ ((∃ j want b, o.guard = some (j, want) ∧ yieldOf all env j = b ∧ NotW b want) ∨ ∃ d, o.dst = some d ∧ match xpure T env S o.op with
   | .ok v => v = env.get d
   | .need b v => b = true ∧ v = env.get d
   | .new row => ∃ ob off, env.get d = .ptr ob off ∧ S.row ob = row
   | .vec e cs => ∃ ob, env.get d = .msl e ob 0 0 (T.X.len cs) ∧ S.row ob = [.mrow e 0 false cs]
   | .no => False)
 | [], k, h => ⟨h, by simp⟩
 | i :: l, k, h => by
  simp only [againAll] at h
  cases ho : opAt all i with
  | none => rw [ho] at h; exact h.elim
  | some o =>
   rw [ho] at h
   have ho' : all[i]? = some o := by rw [← opAt_eq]; exact ho
   have fin : ∀ k' : Prop, k' = againAll (pAlg P T N) T all env S l k → ((∃ j want b, o.guard = some (j, want) ∧ yieldOf all env j = b ∧ NotW b want) ∨ ∃ d, o.dst = some d ∧ match xpure T env S o.op with
     | .ok v => v = env.get d
     | .need b v => b = true ∧ v = env.get d
     | .new row => ∃ ob off, env.get d = .ptr ob off ∧ S.row ob = row
     | .vec e cs => ∃ ob, env.get d = .msl e ob 0 0 (T.X.len cs) ∧ S.row ob = [.mrow e 0 false cs]
     | .no => False) → k' → k ∧ ∀ p, p ∈ i :: l → ∃ o, all[p]? = some o ∧ ((∃ j want b, o.guard = some (j, want) ∧ yieldOf all env j = b ∧ NotW b want) ∨ ∃ d, o.dst = some d ∧ match xpure T env S o.op with
     | .ok v => v = env.get d
     | .need b v => b = true ∧ v = env.get d
     | .new row => ∃ ob off, env.get d = .ptr ob off ∧ S.row ob = row
     | .vec e cs => ∃ ob, env.get d = .msl e ob 0 0 (T.X.len cs) ∧ S.row ob = [.mrow e 0 false cs]
     | .no => False) := by
    rintro k' rfl hc hk
    obtain ⟨h1, h2⟩ := againAll_spec hk
    refine ⟨h1, fun p hp => ?_⟩
    rcases List.mem_cons.1 hp with rfl | hp
    · exact ⟨o, ho', hc⟩
    · exact h2 p hp
   have run : againRun (pAlg P T N) T env S o (againAll (pAlg P T N) T all env S l k) → k ∧ ∀ p, p ∈ i :: l → ∃ o, all[p]? = some o ∧ ((∃ j want b, o.guard = some (j, want) ∧ yieldOf all env j = b ∧ NotW b want) ∨ ∃ d, o.dst = some d ∧ match xpure T env S o.op with
     | .ok v => v = env.get d
     | .need b v => b = true ∧ v = env.get d
     | .new row => ∃ ob off, env.get d = .ptr ob off ∧ S.row ob = row
     | .vec e cs => ∃ ob, env.get d = .msl e ob 0 0 (T.X.len cs) ∧ S.row ob = [.mrow e 0 false cs]
     | .no => False) := by
    intro h
    unfold againRun at h
    cases hd : o.dst with
    | none => rw [hd] at h; exact h.elim
    | some d =>
     rw [hd] at h
     simp only at h
     cases hp : xpure T env S o.op with
     | ok v => rw [hp] at h; exact fin _ rfl (.inr ⟨d, hd, by rw [hp]; exact h.1⟩) h.2
     | need b v => rw [hp] at h; exact fin _ rfl (.inr ⟨d, hd, by rw [hp]; exact ⟨h.1, h.2.1⟩⟩) h.2.2
     | new row =>
      rw [hp] at h
      simp only at h
      split at h
      · rename_i ob off hv
        exact fin _ rfl (.inr ⟨d, hd, by rw [hp]; exact ⟨ob, off, hv, by have := h.1; simpa using this⟩⟩) h.2
      · exact h.elim
     | vec e cs =>
      rw [hp] at h
      simp only at h
      split at h
      · rename_i e' ob v i n hv
        have h1 : [AV.mrow e 0 false cs] = S.row ob := by have := h.1; simpa using this.symm
        exact fin _ rfl (.inr ⟨d, hd, by rw [hp]; exact ⟨ob, hv.trans h.2.1, h1.symm⟩⟩) h.2.2
      · exact h.elim
     | no => rw [hp] at h; exact h.elim
   simp only [again] at h
   cases hg : o.guard with
   | none => rw [hg] at h; exact run h
   | some jw =>
    obtain ⟨j, want⟩ := jw
    rw [hg] at h
    simp only at h
    split at h
    · rename_i b hb
      cases b <;> cases want
      · exact run h
      · exact fin _ rfl (.inl ⟨j, true, .bool false, hg, hb, .inr rfl⟩) h
      · exact fin _ rfl (.inl ⟨j, false, .bool true, hg, hb, .inr rfl⟩) h
      · exact run h
    · rename_i hb
      exact fin _ rfl (.inl ⟨j, want, .tup [], hg, hb, .inl rfl⟩) h
    · exact h.elim
section
variable {P : Program} {T : Tab} {C : Ctx} {N : Nat} {ops : Array Oper} {order : List Nat} {fl : List (Nat × List Nat)} {m : List Nat} {Pa : AV → St → Prop} {K : Env → St → Prop} {Q : Exit → Act → World → Prop}
theorem xopD_xop {T : Tab} {env : Env} {S : St} {op : Op} {Pa K : AV → St → Prop} (h : xopD (pAlg P T N) T env S op Pa K) : xop (pAlg P T N) T env S op Pa K := h
def Listed (listed : Array Bool) (i : Nat) : Prop := listed.getD i false = true
structure Sim (P : Program) (T : Tab) (C : Ctx) (N : Nat) (ops : Array Oper) (order : List Nat) (fl : List (Nat × List Nat)) (Pa : AV → St → Prop) (K : Env → St → Prop)
  (pre rest : List Nat) (env menv : Env) (S : St) (g : Ghost) (nm : Nat → Option Nat) (listed : Array Bool) (a : Act) (w : World) : Prop where
 split : order = pre ++ rest
 hx : xops (pAlg P T N) T ops.toList fl Pa K (pickOps ops.toList rest) env S
 size : listed.size = ops.size
 later : ∀ i, i ∈ rest → ¬ Listed listed i
 closed : ∀ i o, ops.toList[i]? = some o → Listed listed i → ∀ e, e ∈ edgesOf o → Listed listed e
 inv : Inv T C g menv S a w
 agree : ∀ t, (∀ p o, p ∈ pre → ¬ Listed listed p → ops.toList[p]? = some o → o.dst ≠ some t) → menv.get t = env.get t
 owed : ∀ p o, p ∈ pre → ¬ Listed listed p → ops.toList[p]? = some o → Owed T C ops.toList env S g (nm p) o
 inj : ∀ p q n, nm p = some n → nm q = some n → p = q
 lt : ∀ p n, nm p = some n → n < S.next
theorem ev_tmp {T : Tab} {env env' : Env} (x : Operand) (h : ∀ t, x = .tmp t → env.get t = env'.get t) : ev T env x = ev T env' x := by
 cases x with
 | tmp t => exact h t rfl
 | _ => rfl
theorem agrees_of {T : Tab} {env env' : Env} {all : List Oper} {o : Oper} (h : ∀ t, t ∈ looks all o → env.get t = env'.get t) : Agrees T env env' o.op := by
 intro x hx
 refine ev_tmp x fun t ht => h t ?_
 subst ht
 exact List.mem_append_left _ (List.mem_filterMap.2 ⟨.tmp t, hx, rfl⟩)
theorem yieldOf_of {env env' : Env} {all : List Oper} {o : Oper} {j : Nat} {want : Bool} (hg : o.guard = some (j, want)) (h : ∀ t, t ∈ looks all o → env.get t = env'.get t) : yieldOf all env j = yieldOf all env' j := by
 unfold yieldOf
 rw [opAt_eq]
 cases hj : all[j]? with
 | none => rfl
 | some p =>
  cases hd : p.dst with
  | none => simp [hd]
  | some d =>
   simp only [hd]
   exact h d (List.mem_append_right _ (by simp [guardTmp, hg, hj, hd]))
theorem Owed.keep {T : Tab} {C : Ctx} {all : List Oper} {env env' : Env} {S S' : St} {g g' : Ghost} {ob : Option Nat} {o : Oper} (h : Owed T C all env S g ob o) (he : ∀ t, t ∈ looks all o → env'.get t = env.get t)
  (hd : ∀ d, o.dst = some d → env'.get d = env.get d) (hS : RunOk T C env S g ob o → RunOk T C env S' g' ob o) : Owed T C all env' S' g' ob o := by
 obtain ⟨h1, h2⟩ := h
 refine ⟨h1, ?_⟩
 rcases h2 with ⟨j, want, b, hg, hy, hne, hu⟩ | ⟨hg, hr⟩
 · exact .inl ⟨j, want, b, hg, by rw [yieldOf_of hg he]; exact hy, hne, fun d q => by rw [hd d q]; exact hu d q⟩
 · refine .inr ⟨?_, ?_⟩
   · rcases hg with hg | ⟨j, want, hg, hy⟩
     · exact .inl hg
     · exact .inr ⟨j, want, hg, by rw [yieldOf_of hg he]; exact hy⟩
   · have := hS hr
     unfold RunOk at this ⊢
     rw [xpure_congr (agrees_of he)]
     generalize xpure T env S' o.op = r at this ⊢
     cases r with
     | ok v => exact fun d q => by rw [hd d q]; exact this d q
     | need b v => exact ⟨this.1, fun d q => by rw [hd d q]; exact this.2 d q⟩
     | new row =>
      obtain ⟨n, hn, h1, h2⟩ := this
      exact ⟨n, hn, fun d q => by rw [hd d q]; exact h1 d q, h2⟩
     | vec e cs =>
      obtain ⟨n, hn, h1, h2⟩ := this
      exact ⟨n, hn, fun d q => by rw [hd d q]; exact h1 d q, h2⟩
     | no => exact this.elim
theorem pickOps_cons {all : List Oper} {i : Nat} {l : List Nat} {o : Oper} (h : all[i]? = some o) : pickOps all (i :: l) = (i, o) :: pickOps all l := by
 simp [pickOps, opAt_eq, h]
theorem Sim.fenced {pre rest : List Nat} {env menv : Env} {S : St} {g : Ghost} {nm : Nat → Option Nat} {listed : Array Bool} {a : Act} {w : World} (h : Sim P T C N ops order fl Pa K pre rest env menv S g nm listed a w) (hD : DrawOk ops.toList order fl m) {e q : Nat} {oe : Oper} (he1 : e ∈ pre) (he2 : ops.toList[e]? = some oe) (he3 : isStop ops.toList oe = true) (he4 : bitAt m e q = true) : Listed listed q := by
 have hle : Listed listed e := by
  by_cases hl : Listed listed e
  · exact hl
  · have := (h.owed e oe he1 hl he2).1
    rw [he3] at this
    cases this
 exact hD.before h.closed e oe he2 (h.closed e oe he2 hle) q he4
theorem Sim.advance (hD : DrawOk ops.toList order fl m) : ∀ (rest pre : List Nat) (env menv : Env) (S : St) (g : Ghost) (nm : Nat → Option Nat) (listed : Array Bool) (a : Act) (w : World),
  Sim P T C N ops order fl Pa K pre rest env menv S g nm listed a w →
  ∃ pre' rest' env' menv' S' nm', Sim P T C N ops order fl Pa K pre' rest' env' menv' S' g nm' listed a w ∧ (rest' = [] ∨ ∃ i o l, rest' = i :: l ∧ ops.toList[i]? = some o ∧ isStop ops.toList o = true) := by
 intro rest
 induction rest with
 | nil => intro pre env menv S g nm listed a w h; exact ⟨pre, [], env, menv, S, nm, h, .inl rfl⟩
 | cons i rest ih =>
  intro pre env menv S g nm listed a w h
  obtain ⟨o, st⟩ := hD.step pre i rest h.split
  cases he : isStop ops.toList o with
  | true => exact ⟨pre, i :: rest, env, menv, S, nm, h, .inr ⟨i, o, rest, rfl, st.op, he⟩⟩
  | false =>
   have hfl := st.pure he
   have hx := h.hx
   rw [pickOps_cons st.op] at hx
   have hsplit : order = (pre ++ [i]) ++ rest := by rw [h.split]; simp
   have hni : ∀ p, p ∈ pre → p ≠ i := fun p hp e => st.new (e ▸ hp)
   have hmask : ∀ env' : Env, Inv T C g (putDst menv o.dst .undef) S a w := fun _ => h.inv.weak fun t => by
    rw [putDst_get]
    by_cases hd : o.dst = some t
    · rw [if_pos hd]; exact .inl rfl
    · rw [if_neg hd]; exact .inr rfl
   have go : ∀ (v : AV) (S' : St) (nm' : Nat → Option Nat), Inv T C g (putDst menv o.dst .undef) S' a w → xops (pAlg P T N) T ops.toList fl Pa K (pickOps ops.toList rest) (putDst env o.dst v) S' →
     (∀ p o', p ∈ pre → ops.toList[p]? = some o' → nm' p = nm p ∧ ∀ ob, RunOk T C env S g ob o' → RunOk T C env S' g ob o') →
     Owed T C ops.toList (putDst env o.dst v) S' g (nm' i) o →
     (∀ p q n, nm' p = some n → nm' q = some n → p = q) → (∀ p n, nm' p = some n → n < S'.next) →
     Sim P T C N ops order fl Pa K (pre ++ [i]) rest (putDst env o.dst v) (putDst menv o.dst .undef) S' g nm' listed a w := by
    intro v S' nm' hI hk hpre how hinj hlt
    refine ⟨hsplit, hk, h.size, fun j hj => h.later j (List.mem_cons_of_mem _ hj), h.closed, hI, ?_, ?_, hinj, hlt⟩
    · intro t ht
      have h1 : o.dst ≠ some t := ht i o (by simp) (h.later i (by simp)) st.op
      rw [putDst_get, if_neg h1, putDst_get, if_neg h1]
      exact h.agree t fun p o' hp hl ho' => ht p o' (by simp [hp]) hl ho'
    · intro p o' hp hl ho'
      rcases List.mem_append.1 hp with hp | hp
      · obtain ⟨e1, e2⟩ := hpre p o' hp ho'
        rw [e1]
        refine (h.owed p o' hp hl ho').keep (fun t ht => ?_) (fun d hd => ?_) (e2 _)
        · rw [putDst_get, if_neg ?_]
          rcases st.old p o' hp ho' with q | ⟨e, oe, he1, he2, he3, he4⟩ | ⟨q, _⟩
          · exact q t ht
          · exact absurd (h.fenced hD he1 he2 he3 he4) hl
          · rw [he] at q; cases q
        · rw [putDst_get, if_neg fun e => st.dst d e p o' (hni p hp) ho' hd]
      · have : p = i := by simpa using hp
        subst this
        have : o' = o := by have := ho'.symm.trans st.op; simpa using this
        subst this
        exact how
   have own : ∀ (v : AV) t, t ∈ looks ops.toList o → (putDst env o.dst v).get t = env.get t := fun v t ht => by rw [putDst_get, if_neg (st.own t ht)]
   have own_d : ∀ (v : AV) d, o.dst = some d → (putDst env o.dst v).get d = v := fun v d hd => by rw [putDst_get, if_pos hd]
   have run : xopD (pAlg P T N) T env S o.op Pa (fun v S' => againAll (pAlg P T N) T ops.toList env S' (floatsOf fl i) (xops (pAlg P T N) T ops.toList fl Pa K (pickOps ops.toList rest) (putDst env o.dst v) S')) →
     (o.guard = none ∨ ∃ j want, o.guard = some (j, want) ∧ yieldOf ops.toList env j = .bool want) →
     ∃ v S' nm', Sim P T C N ops order fl Pa K (pre ++ [i]) rest (putDst env o.dst v) (putDst menv o.dst .undef) S' g nm' listed a w := by
    intro hx hg
    have hx := xopD_xop hx
    have hno := isEff_no (isStop_no he) hx
    have hg' : ∀ v, o.guard = none ∨ ∃ j want, o.guard = some (j, want) ∧ yieldOf ops.toList (putDst env o.dst v) j = .bool want := fun v => by
     rcases hg with hg | ⟨j, want, hg, hy⟩
     · exact .inl hg
     · exact .inr ⟨j, want, hg, by rw [yieldOf_of hg (own v)]; exact hy⟩
    unfold xop at hx
    rw [hfl] at hx
    cases hp : xpure T env S o.op with
    | no => exact absurd hp hno
    | ok v =>
     rw [hp] at hx
     refine ⟨v, S, nm, go v S nm (hmask env) hx (fun _ _ _ _ => ⟨rfl, fun _ h => h⟩) ⟨he, .inr ⟨hg' v, ?_⟩⟩ h.inj h.lt⟩
     unfold RunOk
     rw [xpure_congr (agrees_of (own v)), hp]
     exact own_d v
    | need b v =>
     rw [hp] at hx
     refine ⟨v, S, nm, go v S nm (hmask env) hx.2 (fun _ _ _ _ => ⟨rfl, fun _ h => h⟩) ⟨he, .inr ⟨hg' v, ?_⟩⟩ h.inj h.lt⟩
     unfold RunOk
     rw [xpure_congr (agrees_of (own v)), hp]
     exact ⟨hx.1, own_d v⟩
    | new row =>
     rw [hp] at hx
     have hrow : (S.push row).row S.next = row := by rw [row_push, if_pos rfl]
     refine ⟨.ptr S.next 0, S.push row, fun q => if q = i then some S.next else nm q, go _ _ _ ((hmask env).push row) hx (fun p o' hp' ho' => ⟨if_neg (hni p hp'), fun ob hr => ?_⟩) ⟨he, .inr ⟨hg' _, ?_⟩⟩ ?_ ?_⟩
     · unfold RunOk at hr ⊢
       have hne : xpure T env S o'.op ≠ .no := fun e => by rw [e] at hr; exact hr
       rw [xpure_push hne]
       cases hq : xpure T env S o'.op with
       | ok v => rw [hq] at hr; exact hr
       | need b v => rw [hq] at hr; exact hr
       | no => exact absurd hq hne
       | vec e' cs' =>
        rw [hq] at hr
        obtain ⟨n, r0, r1, r2, r3, r4, r5⟩ := hr
        exact ⟨n, r0, r1, by rw [row_push, if_neg (by omega)]; exact r2, Nat.lt_succ_of_lt r3, r4, r5⟩
       | new row' =>
        rw [hq] at hr
        obtain ⟨n, r0, r1, r2, r3, r4, r5⟩ := hr
        exact ⟨n, r0, r1, by rw [row_push, if_neg (by omega)]; exact r2, Nat.lt_succ_of_lt r3, r4, r5⟩
     · unfold RunOk
       rw [xpure_congr (agrees_of (own _)), xpure_push (by rw [hp]; simp), hp]
       simp only [if_true]
       refine ⟨S.next, rfl, own_d _, hrow, Nat.lt_succ_self _, ?_, ?_, h.inv.next⟩
       · cases hq : g.ρ S.next with
         | none => rfl
         | some b => exact absurd (h.inv.rel.dom _ _ hq) (Nat.lt_irrefl _)
       · cases hq : g.α S.next with
         | none => rfl
         | some tk => exact absurd (h.inv.rel.vec.ok _ _ hq).1 (Nat.lt_irrefl _)
     · intro p q n hp1 hq1
       by_cases e1 : p = i <;> by_cases e2 : q = i
       · rw [e1, e2]
       · rw [if_pos e1, Option.some.injEq] at hp1
         rw [if_neg e2] at hq1
         have := h.lt q n hq1
         omega
       · rw [if_neg e1] at hp1
         rw [if_pos e2, Option.some.injEq] at hq1
         have := h.lt p n hp1
         omega
       · rw [if_neg e1] at hp1
         rw [if_neg e2] at hq1
         exact h.inj p q n hp1 hq1
     · intro p n hp1
       by_cases e1 : p = i
       · rw [if_pos e1, Option.some.injEq] at hp1
         rw [next_push]; omega
       · rw [if_neg e1] at hp1
         have := h.lt p n hp1
         rw [next_push]; omega
    | vec e cs =>
     rw [hp] at hx
     have hrow : (S.push [.mrow e 0 false cs]).row S.next = [.mrow e 0 false cs] := by rw [row_push, if_pos rfl]
     refine ⟨.msl e S.next 0 0 (T.X.len cs), S.push [.mrow e 0 false cs], fun q => if q = i then some S.next else nm q, go _ _ _ ((hmask env).push _) hx (fun p o' hp' ho' => ⟨if_neg (hni p hp'), fun ob hr => ?_⟩) ⟨he, .inr ⟨hg' _, ?_⟩⟩ ?_ ?_⟩
     · unfold RunOk at hr ⊢
       have hne : xpure T env S o'.op ≠ .no := fun e => by rw [e] at hr; exact hr
       rw [xpure_push hne]
       cases hq : xpure T env S o'.op with
       | ok v => rw [hq] at hr; exact hr
       | need b v => rw [hq] at hr; exact hr
       | no => exact absurd hq hne
       | vec e' cs' =>
        rw [hq] at hr
        obtain ⟨n, r0, r1, r2, r3, r4, r5⟩ := hr
        exact ⟨n, r0, r1, by rw [row_push, if_neg (by omega)]; exact r2, Nat.lt_succ_of_lt r3, r4, r5⟩
       | new row' =>
        rw [hq] at hr
        obtain ⟨n, r0, r1, r2, r3, r4, r5⟩ := hr
        exact ⟨n, r0, r1, by rw [row_push, if_neg (by omega)]; exact r2, Nat.lt_succ_of_lt r3, r4, r5⟩
     · unfold RunOk
       rw [xpure_congr (agrees_of (own _)), xpure_push (by rw [hp]; simp), hp]
       simp only [if_true]
       refine ⟨S.next, rfl, own_d _, hrow, Nat.lt_succ_self _, ?_, ?_, h.inv.next⟩
       · cases hq : g.ρ S.next with
         | none => rfl
         | some b => exact absurd (h.inv.rel.dom _ _ hq) (Nat.lt_irrefl _)
       · cases hq : g.α S.next with
         | none => rfl
         | some tk => exact absurd (h.inv.rel.vec.ok _ _ hq).1 (Nat.lt_irrefl _)
     · intro p q n hp1 hq1
       by_cases e1 : p = i <;> by_cases e2 : q = i
       · rw [e1, e2]
       · rw [if_pos e1, Option.some.injEq] at hp1
         rw [if_neg e2] at hq1
         have := h.lt q n hq1
         omega
       · rw [if_neg e1] at hp1
         rw [if_pos e2, Option.some.injEq] at hq1
         have := h.lt p n hp1
         omega
       · rw [if_neg e1] at hp1
         rw [if_neg e2] at hq1
         exact h.inj p q n hp1 hq1
     · intro p n hp1
       by_cases e1 : p = i
       · rw [if_pos e1, Option.some.injEq] at hp1
         rw [next_push]; omega
       · rw [if_neg e1] at hp1
         have := h.lt p n hp1
         rw [next_push]; omega
   simp only [xops] at hx
   cases hg : o.guard with
   | none =>
    rw [hg] at hx
    obtain ⟨v, S', nm', hs⟩ := run hx (.inl hg)
    exact ih _ _ _ _ _ _ _ _ _ hs
   | some jw =>
    obtain ⟨j, want⟩ := jw
    rw [hg] at hx
    simp only at hx
    split at hx
    · rename_i b hb
      have skip : ∀ b, yieldOf ops.toList env j = b → NotW b want → xops (pAlg P T N) T ops.toList fl Pa K (pickOps ops.toList rest) (putDst env o.dst (.tup [])) S →
        ∃ pre' rest' env' menv' S' nm', Sim P T C N ops order fl Pa K pre' rest' env' menv' S' g nm' listed a w ∧ (rest' = [] ∨ ∃ i o l, rest' = i :: l ∧ ops.toList[i]? = some o ∧ isStop ops.toList o = true) := fun b hb hne hx =>
       ih _ _ _ _ _ _ _ _ _ (go (.tup []) S nm (hmask env) hx (fun _ _ _ _ => ⟨rfl, fun _ h => h⟩) ⟨he, .inl ⟨j, want, b, hg, by rw [yieldOf_of hg (own (.tup []))]; exact hb, hne, own_d _⟩⟩ h.inj h.lt)
      have go2 : b = want → (xopD (pAlg P T N) T env S o.op Pa (fun v S' => againAll (pAlg P T N) T ops.toList env S' (floatsOf fl i) (xops (pAlg P T N) T ops.toList fl Pa K (pickOps ops.toList rest) (putDst env o.dst v) S'))) →
        ∃ pre' rest' env' menv' S' nm', Sim P T C N ops order fl Pa K pre' rest' env' menv' S' g nm' listed a w ∧ (rest' = [] ∨ ∃ i o l, rest' = i :: l ∧ ops.toList[i]? = some o ∧ isStop ops.toList o = true) := fun e (hx : xopD (pAlg P T N) T env S o.op Pa (fun v S' => againAll (pAlg P T N) T ops.toList env S' (floatsOf fl i) (xops (pAlg P T N) T ops.toList fl Pa K (pickOps ops.toList rest) (putDst env o.dst v) S'))) => by
       obtain ⟨v, S', nm', hs⟩ := run hx (.inr ⟨j, want, hg, by rw [← e]; exact hb⟩)
       exact ih _ _ _ _ _ _ _ _ _ hs
      cases b <;> cases want
      · exact go2 rfl hx
      · exact skip _ hb (.inr rfl) hx
      · exact skip _ hb (.inr rfl) hx
      · exact go2 rfl hx
    · rename_i hb
      exact ih _ _ _ _ _ _ _ _ _ (go (.tup []) S nm (hmask env) hx (fun _ _ _ _ => ⟨rfl, fun _ h => h⟩) ⟨he, .inl ⟨j, want, .tup [], hg, by rw [yieldOf_of hg (own (.tup []))]; exact hb, .inl rfl, own_d _⟩⟩ h.inj h.lt)
    · exact hx.elim
end
end Go.AM
namespace Go.AM
section
variable {P : Program} {T : Tab} {C : Ctx} {N : Nat} {ops : Array Oper} {order : List Nat} {fl : List (Nat × List Nat)} {m : List Nat} {Pa : AV → St → Prop} {K : Env → St → Prop} {Q : Exit → Act → World → Prop}
variable {pre rest : List Nat} {env menv : Env} {S : St} {g : Ghost} {nm : Nat → Option Nat} {listed : Array Bool} {a : Act} {w : World}
def SimE (P : Program) (T : Tab) (C : Ctx) (N : Nat) (ops : Array Oper) (order : List Nat) (fl : List (Nat × List Nat)) (Pa : AV → St → Prop) (K : Env → St → Prop) (listed : Array Bool) (a : Act) (w : World) : Prop :=
 ∃ pre rest env menv S g nm, Sim P T C N ops order fl Pa K pre rest env menv S g nm listed a w
theorem listed_set {i j : Nat} (hi : i < listed.size) : Listed (listed.setIfInBounds i true) j ↔ Listed listed j ∨ j = i := by
 unfold Listed
 by_cases h : i = j
 · subst h
   simp [hi]
 · simp [Array.getElem?_setIfInBounds_ne h, Ne.symm h]
theorem ready_spec {i : Nat} (h : i ∈ Region.ready .any ops listed) : ¬ Listed listed i ∧ ∃ o, ops.toList[i]? = some o ∧ ∀ e, e ∈ edgesOf o → Listed listed e := by
 obtain ⟨h0, o, ho, he⟩ := mem_ready.1 h
 refine ⟨fun hl => ?_, o, by simpa using ho, fun e hm => ?_⟩
 · unfold Listed at hl
   rcases Nat.lt_or_ge i listed.size with h' | h'
   · simp [h'] at h0 hl; rw [h0] at hl; cases hl
   · simp [Array.getElem?_eq_none h'] at hl
 · obtain ⟨x, hx, hb, rfl⟩ := mem_edgesOf.1 hm
   exact he x hx hb
theorem same_front : ∀ {X U Y Z : List Nat} {q : Nat}, (X ++ q :: Y).Nodup → X ++ q :: Y = U ++ q :: Z → X = U
 | [], [], _, _, _, _, _ => rfl
 | [], u :: U, Y, Z, q, hn, h => by
  simp only [List.nil_append, List.cons_append, List.cons.injEq] at h
  obtain ⟨rfl, h⟩ := h
  rw [h] at hn
  simp at hn
 | x :: X, [], Y, Z, q, hn, h => by
  simp only [List.nil_append, List.cons_append, List.cons.injEq] at h
  obtain ⟨rfl, h⟩ := h
  simp at hn
 | x :: X, u :: U, Y, Z, q, hn, h => by
  simp only [List.cons_append, List.cons.injEq] at h
  obtain ⟨rfl, h⟩ := h
  rw [same_front (by simp only [List.cons_append, List.nodup_cons] at hn; exact hn.2) h]
theorem in_front {order pre rest X Y : List Nat} {q : Nat} (hn : order.Nodup) (h1 : order = X ++ q :: Y) (h2 : order = pre ++ rest) (hq : q ∈ pre) (x : Nat) (hx : x ∈ X) : x ∈ pre := by
 obtain ⟨U, V, rfl⟩ := List.append_of_mem hq
 have : X = U := by
  refine same_front (Y := Y) (Z := V ++ rest) (q := q) (by rw [← h1]; exact hn) ?_
  rw [← h1, h2]
  simp
 rw [← this]
 simp [hx]
theorem Sim.look (h : Sim P T C N ops order fl Pa K pre rest env menv S g nm listed a w) (hD : DrawOk ops.toList order fl m) {i : Nat} {o : Oper} {p1 p2 : List Nat} (st : StepOk ops.toList fl m p1 i p2 o)
  (hr : ∀ e, e ∈ edgesOf o → Listed listed e) (hn : order.Nodup) (hsp : order = p1 ++ i :: p2) (hnl : ¬ Listed listed i) : ∀ t, t ∈ looks ops.toList o → menv.get t = env.get t := by
 intro t ht
 refine h.agree t fun p o' hp hl ho' hd => ?_
 rcases st.wr t ht p o' ho' hd with hb | ⟨e, X, Y, hXY, heX, ⟨oe, he2, he3⟩, he4⟩ | ⟨_, hs, _⟩
 · exact hl (hD.before h.closed i o st.op hr p hb)
 · refine hnl (h.fenced hD ?_ he2 he3 he4)
   refine in_front hn (X := p1 ++ i :: X) (Y := Y) (by rw [hsp, hXY]; simp) h.split hp e (by simp [heX])
 · have := (h.owed p o' hp hl ho').1
   rw [hs] at this; cases this
theorem wanted_of (h : Inv T C g menv S a w) {o : Oper} {j : Nat} {want b : Bool} (hg : o.guard = some (j, want)) (hy : yieldOf ops.toList menv j = .bool b) : Region.wanted o (yielded ops a.tmps) = (b == want) := by
 have := yielded_of (ops := ops) h hy
 simp [Region.wanted, hg, this]
theorem Sim.owe (hT : TabOk P T) (hfit : opsFit C.n ops.toList = true) (hD : DrawOk ops.toList order fl m) (hn : order.Nodup) (h : Sim P T C N ops order fl Pa K pre rest env menv S g nm listed a w) {i : Nat} (hi : i ∈ pre) (hr : i ∈ Region.ready .any ops listed) :
  wpOp P ops Q i (SimE P T C N ops order fl Pa K (listed.setIfInBounds i true)) a w := by
 obtain ⟨hnl, o, ho, hedge⟩ := ready_spec hr
 obtain ⟨p1, p2, hp⟩ := List.append_of_mem hi
 have hsp : order = p1 ++ i :: (p2 ++ rest) := by rw [h.split, hp]; simp
 obtain ⟨o', st⟩ := hD.step _ _ _ hsp
 have : o' = o := by have := st.op.symm.trans ho; simpa using this
 subst this
 have hlook := h.look hD st hedge hn hsp hnl
 have hsize : i < listed.size := by
  rw [h.size]
  have := (List.getElem?_eq_some_iff.1 ho).1
  simpa using this
 have ho2 : ops[i]? = some o' := by simpa using ho
 have hd : ∀ t, o'.dst = some t → t < C.n := opsFit_spec hfit o' (List.mem_of_getElem? ho)
 obtain ⟨heff, how⟩ := h.owed i o' hi hnl ho
 have hlaterne : ∀ j, j ∈ rest → j ≠ i := by
  intro j hj e
  subst e
  rw [h.split] at hn
  exact (List.nodup_append.1 hn).2.2 j hi j hj rfl
 have go : ∀ (x : Value) (g' : Ghost) (w' : World), Inv T C g' menv S a w' → (∀ d, o'.dst = some d → Rep T w' g' (env.get d) x) → (∀ p n, p ≠ i → nm p = some n → g'.ρ n = g.ρ n ∧ g'.α n = g.α n) →
   SimE P T C N ops order fl Pa K (listed.setIfInBounds i true) (a.put o'.dst x) w' := by
  intro x g' w' hI hv hρ
  have hput : ∃ menv', Inv T C g' menv' S (a.put o'.dst x) w' ∧ ∀ t, menv'.get t = if o'.dst = some t then env.get t else menv.get t := by
   cases hdd : o'.dst with
   | none => exact ⟨menv, by simpa [hdd, Act.put] using hI, fun t => by simp⟩
   | some d =>
    have := hI.put (hv d hdd) (some d) (by rw [← hdd]; exact hd)
    refine ⟨_, this, fun t => ?_⟩
    rw [putDst_get]
    by_cases e : some d = some t
    · rw [if_pos e, if_pos e]; simp only [Option.some.injEq] at e; rw [e]
    · rw [if_neg e, if_neg e]
  obtain ⟨menv', hI', hget⟩ := hput
  refine ⟨pre, rest, env, menv', S, g', nm, h.split, h.hx, by simpa using h.size, ?_, ?_, hI', ?_, ?_, h.inj, h.lt⟩
  · intro j hj hl
    rcases (listed_set hsize).1 hl with hl | e
    · exact h.later j hj hl
    · exact hlaterne j hj e
  · intro j oj hoj hl e hee
    refine (listed_set hsize).2 (.inl ?_)
    rcases (listed_set hsize).1 hl with hl | rfl
    · exact h.closed j oj hoj hl e hee
    · have : oj = o' := by have := hoj.symm.trans ho; simpa using this
      subst this
      exact hedge e hee
  · intro t ht
    rw [hget]
    by_cases e : o'.dst = some t
    · rw [if_pos e]
    · rw [if_neg e]
      refine h.agree t fun p op hp hl hop => ?_
      by_cases hpi : p = i
      · subst hpi
        have : op = o' := by have := hop.symm.trans ho; simpa using this
        subst this
        exact e
      · exact ht p op hp (fun q => by
         rcases (listed_set hsize).1 q with q | q
         · exact hl q
         · exact hpi q) hop
  · intro p op hp hl hop
    have hl0 : ¬ Listed listed p := fun q => hl ((listed_set hsize).2 (.inl q))
    have hpi : p ≠ i := fun q => hl ((listed_set hsize).2 (.inr q))
    refine (h.owed p op hp hl0 hop).keep (fun _ _ => rfl) (fun _ _ => rfl) fun hr => ?_
    unfold RunOk at hr ⊢
    generalize xpure T env S op.op = r at hr ⊢
    cases r with
    | ok v => exact hr
    | need b v => exact hr
    | no => exact hr
    | vec e cs =>
     obtain ⟨n, r0, r1, r2, r3, r4, r5, r6⟩ := hr
     exact ⟨n, r0, r1, r2, r3, by rw [(hρ p n hpi r0).1]; exact r4, by rw [(hρ p n hpi r0).2]; exact r5, r6⟩
    | new row =>
     obtain ⟨n, r0, r1, r2, r3, r4, r5, r6⟩ := hr
     exact ⟨n, r0, r1, r2, r3, by rw [(hρ p n hpi r0).1]; exact r4, by rw [(hρ p n hpi r0).2]; exact r5, r6⟩
 unfold wpOp
 simp only [ho2]
 rcases how with ⟨j, want, b, hg, hy, hne, hu⟩ | ⟨hg, hrun⟩
 · have hw := wanted_not (ops := ops) h.inv hg (by rw [yieldOf_of hg hlook]; exact hy) hne
   rw [if_neg (by rw [hw]; simp)]
   exact go undef g w h.inv (fun d hdd => by rw [hu d hdd]; exact rep_gone _ _ _) (fun _ _ _ _ => ⟨rfl, rfl⟩)
 · have hw : Region.wanted o' (yielded ops a.tmps) = true := by
    rcases hg with hg | ⟨j, want, hg, hy⟩
    · simp [Region.wanted, hg]
    · rw [wanted_of (ops := ops) h.inv hg (b := want) (by rw [yieldOf_of hg hlook]; exact hy)]; simp
   rw [if_pos hw]
   refine .inl ?_
   have hs := xpure_sound hT h.inv o'
   rw [xpure_congr (agrees_of hlook)] at hs
   unfold RunOk at hrun
   unfold Oper.wp
   cases hp : xpure T env S o'.op with
   | ok v =>
    rw [hp] at hs hrun
    obtain ⟨x, w', g', hr, hgr, hv⟩ := hs
    rw [hr]
    exact go x g' w' (h.inv.grow hgr) (fun d hdd => by rw [hrun d hdd]; exact hv) (fun _ _ _ _ => by rw [hgr.ρ, hgr.α]; exact ⟨rfl, rfl⟩)
   | need b v =>
    rw [hp] at hs hrun
    obtain ⟨x, w', g', hr, hgr, hv⟩ := hs hrun.1
    rw [hr]
    exact go x g' w' (h.inv.grow hgr) (fun d hdd => by rw [hrun.2 d hdd]; exact hv) (fun _ _ _ _ => by rw [hgr.ρ, hgr.α]; exact ⟨rfl, rfl⟩)
   | new row =>
    rw [hp] at hs hrun
    obtain ⟨c, t, hr, hs, h1, hR⟩ := hs
    obtain ⟨n, r0, r1, r2, r3, r4, r5, r6⟩ := hrun
    rw [hr]
    obtain ⟨g', hI, hk, hv, hoth, hα⟩ := h.inv.name (ob := n) (t := t) r3 r4 r5 r6 (by rw [r2]; exact hs) h1 (by rw [r2]; exact hR)
    exact go _ g' _ hI (fun d hdd => by rw [r1 d hdd]; exact hv) (fun p n' hpi hnp => ⟨hoth n' fun e => hpi (h.inj p i n' hnp (by rw [e]; exact r0)), by rw [hα]⟩)
   | vec e cs =>
    rw [hp] at hs hrun
    obtain ⟨ys, hr, hsz, ⟨hpos, hmax⟩, hys, h1, hf, hR⟩ := hs
    obtain ⟨n, r0, r1, r2, r3, r4, r5, r6⟩ := hrun
    rw [hr]
    obtain ⟨g', hI, hv, hk, tk', hg'⟩ := vec_newC hT h.inv (e := e) (cs := cs) (L := ys.toList) ⟨by simpa using hys, h1, hf, hR⟩ hpos hsz #[] (by simp) cs.length (Nat.le_refl _) hmax (by simpa using hys) (o := n) (v := 0) (S' := S)
     (fun tk q => by rw [r5] at q; cases q) r3 (Nat.le_refl _) r4 r2 (fun p _ hp => rfl) rfl (.inr r6) (.inr rfl)
    have e1 : (ys.toList.toArray ++ #[]) = ys := by simp
    rw [e1] at hI hv
    exact go _ g' _ hI (fun d hdd => by rw [r1 d hdd, hT.X]; exact hv) (fun p n' hpi hnp => by
     have hne : n' ≠ n := fun e => hpi (h.inj p i n' hnp (by rw [e]; exact r0))
     rw [hg']
     exact ⟨rfl, by simp [setVec, hne]⟩)
   | no => rw [hp] at hrun; exact hrun.elim
theorem Sim.eff (hT : TabOk P T) (hfit : opsFit C.n ops.toList = true) (hD : DrawOk ops.toList order fl m) (hn : order.Nodup) (hQ : regPost T C Pa K Q) {i : Nat} {l : List Nat}
  (h : Sim P T C N ops order fl Pa K pre (i :: l) env menv S g nm listed a w) (hr : i ∈ Region.ready .any ops listed) {o : Oper} (ho : ops.toList[i]? = some o) (he : isStop ops.toList o = true) :
  wpOp P ops Q i (SimE P T C N ops order fl Pa K (listed.setIfInBounds i true)) a w := by
 obtain ⟨hnl, o2, ho', hedge⟩ := ready_spec hr
 have : o2 = o := by have := ho'.symm.trans ho; simpa using this
 subst this
 obtain ⟨o', st⟩ := hD.step _ _ _ h.split
 have : o' = o2 := by have := st.op.symm.trans ho; simpa using this
 subst this
 have hlook := h.look hD st hedge hn h.split hnl
 have hsize : i < listed.size := by
  rw [h.size]
  have := (List.getElem?_eq_some_iff.1 ho).1
  simpa using this
 have ho2 : ops[i]? = some o' := by simpa using ho
 have hd : ∀ t, o'.dst = some t → t < C.n := opsFit_spec hfit o' (List.mem_of_getElem? ho)
 have hx := h.hx
 rw [pickOps_cons ho] at hx
 have hni : ∀ p, p ∈ pre → p ≠ i := fun p hp e => st.new (e ▸ hp)
 have hil : i ∉ l := by
  rw [h.split] at hn
  exact (List.nodup_cons.1 (List.nodup_append.1 hn).2.1).1
 have hbef : ∀ p, bitAt m i p = true → Listed listed p := fun p => hD.before h.closed i o' ho hedge p
 have go : ∀ (v : AV) (S' : St) (x : Value) (g' : Ghost) (w' : World), xops (pAlg P T N) T ops.toList fl Pa K (pickOps ops.toList l) (putDst env o'.dst v) S' → Inv T C g' menv S' a w' → Rep T w' g' v x →
   (∀ n b, g'.ρ n = some b → g.ρ n = some b ∨ S.next ≤ n) → S.next ≤ S'.next →
   (∀ p op, p ∈ pre → ¬ Listed listed p → ops.toList[p]? = some op → RunOk T C env S g (nm p) op → (∃ j want b, op.guard = some (j, want) ∧ yieldOf ops.toList env j = b ∧ NotW b want) ∨ RunOk T C env S' g' (nm p) op) →
   SimE P T C N ops order fl Pa K (listed.setIfInBounds i true) (a.put o'.dst x) w' := by
  intro v S' x g' w' hk hI hv hρ hnx hrun
  refine ⟨pre ++ [i], l, putDst env o'.dst v, putDst menv o'.dst v, S', g', nm, by rw [h.split]; simp, hk, by simpa using h.size, ?_, ?_, hI.put hv o'.dst hd, ?_, ?_, h.inj, fun p n q => Nat.lt_of_lt_of_le (h.lt p n q) hnx⟩
  · intro j hj hl
    rcases (listed_set hsize).1 hl with hl | e
    · exact h.later j (List.mem_cons_of_mem _ hj) hl
    · subst e; exact hil hj
  · intro j oj hoj hl e hee
    refine (listed_set hsize).2 (.inl ?_)
    rcases (listed_set hsize).1 hl with hl | rfl
    · exact h.closed j oj hoj hl e hee
    · have : oj = o' := by have := hoj.symm.trans ho; simpa using this
      subst this
      exact hedge e hee
  · intro t ht
    rw [putDst_get, putDst_get]
    by_cases e : o'.dst = some t
    · rw [if_pos e, if_pos e]
    · rw [if_neg e, if_neg e]
      exact h.agree t fun p op hp hl hop => ht p op (by simp [hp]) (fun q => by
        rcases (listed_set hsize).1 q with q | q
        · exact hl q
        · exact hni p hp q) hop
  · intro p op hp hl hop
    have hl0 : ¬ Listed listed p := fun q => hl ((listed_set hsize).2 (.inl q))
    have hpi : p ≠ i := fun q => hl ((listed_set hsize).2 (.inr q))
    have hp' : p ∈ pre := by
     rcases List.mem_append.1 hp with q | q
     · exact q
     · exact absurd (by simpa using q) hpi
    have hO := h.owed p op hp' hl0 hop
    have hk1 : ∀ t, t ∈ looks ops.toList op → (putDst env o'.dst v).get t = env.get t := fun t ht => by
     rw [putDst_get, if_neg ?_]
     rcases st.old p op hp' hop with q | ⟨e, oe, he1, he2, he3, he4⟩ | ⟨_, q⟩
     · exact q t ht
     · exact absurd (h.fenced hD he1 he2 he3 he4) hl0
     · exact absurd (hbef p q) hl0
    have hk2 : ∀ d, op.dst = some d → (putDst env o'.dst v).get d = env.get d := fun d hdd => by rw [putDst_get, if_neg fun e => st.dst d e p op hpi hop hdd]
    obtain ⟨hO1, hO2⟩ := hO
    rcases hO2 with hO2 | ⟨hO2, hO3⟩
    · obtain ⟨j, want, b, hg, hy, hne, hu⟩ := hO2
      exact ⟨hO1, .inl ⟨j, want, b, hg, by rw [yieldOf_of hg hk1]; exact hy, hne, fun d q => by rw [hk2 d q]; exact hu d q⟩⟩
    · exact Owed.keep ⟨hO1, .inr ⟨hO2, hO3⟩⟩ hk1 hk2 (fun hr => by
       rcases hrun p op hp' hl0 hop hr with ⟨j, want, b, q1, q2, q3⟩ | q
       · rcases hO2 with hO2 | ⟨j2, want2, hO2, hO4⟩
         · rw [hO2] at q1; cases q1
         · rw [hO2] at q1
           simp only [Option.some.injEq, Prod.mk.injEq] at q1
           obtain ⟨rfl, rfl⟩ := q1
           rw [hO4] at q2
           rcases q3 with q3 | q3
           · rw [q3] at q2; cases q2
           · rw [q3] at q2
             simp at q2
       · exact q)
 have hkeep : ∀ (k' : Prop) (S' : St) (g' : Ghost), againAll (pAlg P T N) T ops.toList env S' (floatsOf fl i) k' → (∀ n b, g'.ρ n = some b → g.ρ n = some b ∨ S.next ≤ n) → S.next ≤ S'.next → (∀ n tk, g'.α n = some tk → g.α n ≠ none ∨ S.next ≤ n) →
   k' ∧ ∀ p op, p ∈ pre → ¬ Listed listed p → ops.toList[p]? = some op → RunOk T C env S g (nm p) op → (∃ j want b, op.guard = some (j, want) ∧ yieldOf ops.toList env j = b ∧ NotW b want) ∨ RunOk T C env S' g' (nm p) op := by
  intro k' S' g' hag hρ hnx hα
  obtain ⟨h1, h2⟩ := againAll_spec hag
  refine ⟨h1, fun p op hp hl hop hr => ?_⟩
  have hρn : ∀ n, n < S.next → g.ρ n = none → g'.ρ n = none := fun n hn h0 => by
   cases hq : g'.ρ n with
   | none => rfl
   | some b =>
    rcases hρ n b hq with q | q
    · rw [h0] at q; cases q
    · omega
  have hαn : ∀ n, n < S.next → g.α n = none → g'.α n = none := fun n hn h0 => by
   cases hq : g'.α n with
   | none => rfl
   | some tk =>
    rcases hα n tk hq with q | q
    · exact absurd h0 q
    · omega
  by_cases hs : still op.op = true
  · refine .inr ?_
    unfold RunOk at hr ⊢
    rw [← xpure_still (S := S) (.inl hs)]
    cases hp2 : xpure T env S op.op with
    | ok v => rw [hp2] at hr; exact hr
    | need b v => rw [hp2] at hr; exact hr
    | no => rw [hp2] at hr; exact hr
    | vec e cs =>
     have := vec_isBuild hp2
     cases hq : op.op <;> rw [hq] at this hs <;> simp [isBuild, still] at this hs
    | new row =>
     have := new_isNew hp2
     cases hq : op.op <;> rw [hq] at this hs <;> simp [isNew, still] at this hs
  · have hin : p ∈ floatsOf fl i := (st.eff he).2 p op hp hop (h.owed p op hp hl hop).1 (by
     cases hb : bitAt m i p with
     | false => rfl
     | true => exact absurd (hbef p hb) hl) (by simpa using hs)
    obtain ⟨op', hop', hc⟩ := h2 p hin
    have : op' = op := by have := hop'.symm.trans hop; simpa using this
    subst this
    rcases hc with hc | ⟨d, hdd, hc⟩
    · exact .inl hc
    · refine .inr ?_
      unfold RunOk
      cases hp2 : xpure T env S' op'.op with
      | ok v =>
       rw [hp2] at hc
       exact fun d' hd' => by
        have : d' = d := by have := hd'.symm.trans hdd; simpa using this
        subst this
        exact hc.symm
      | need b v =>
       rw [hp2] at hc
       exact ⟨hc.1, fun d' hd' => by
        have : d' = d := by have := hd'.symm.trans hdd; simpa using this
        subst this
        exact hc.2.symm⟩
      | no => rw [hp2] at hc; exact hc
      | vec e cs =>
       rw [hp2] at hc
       obtain ⟨ob, hv, hrow⟩ := hc
       have hnew := vec_isBuild hp2
       have hsame : xpure T env S op'.op = .vec e cs := by
        rw [← hp2]
        refine xpure_still ?_
        cases hq : op'.op <;> rw [hq] at hnew <;> simp [isBuild] at hnew
        exact .inr (.inr (.inr rfl))
       unfold RunOk at hr
       rw [hsame] at hr
       obtain ⟨n, r0, r1, r2, r3, r4, r5, r6⟩ := hr
       have hobn : ob = n := by
        have := hv.symm.trans (r1 d hdd)
        simpa using this
       subst hobn
       exact ⟨ob, r0, r1, hrow, Nat.lt_of_lt_of_le r3 hnx, hρn ob r3 r4, hαn ob r3 r5, r6⟩
      | new row =>
       rw [hp2] at hc
       obtain ⟨ob, off, hv, hrow⟩ := hc
       have hnew := new_isNew hp2
       have hsame : xpure T env S op'.op = .new row := by
        rw [← hp2]
        refine xpure_still ?_
        cases hq : op'.op <;> rw [hq] at hnew <;> simp [isNew] at hnew
        · exact .inr (.inl rfl)
        · exact .inr (.inr (.inl rfl))
       unfold RunOk at hr
       rw [hsame] at hr
       obtain ⟨n, r0, r1, r2, r3, r4, r5, r6⟩ := hr
       have hobn : ob = n := by
        have := hv.symm.trans (r1 d hdd)
        simp only [AV.ptr.injEq] at this
        exact this.1
       subst hobn
       exact ⟨ob, r0, r1, hrow, Nat.lt_of_lt_of_le r3 hnx, hρn ob r3 r4, hαn ob r3 r5, r6⟩
 have run : xopD (pAlg P T N) T env S o'.op Pa (fun v S' => againAll (pAlg P T N) T ops.toList env S' (floatsOf fl i) (xops (pAlg P T N) T ops.toList fl Pa K (pickOps ops.toList l) (putDst env o'.dst v) S')) →
   o'.wp P a w (SimE P T C N ops order fl Pa K (listed.setIfInBounds i true)) Q := by
  intro hx
  have hx := xopD_xop hx
  rw [← xop_congr (agrees_of hlook)] at hx
  refine xop_sound hT h.inv.rebase N o' hx _ _ ?_ ?_
  · intro v S' x g' w' hk hI hv
    obtain ⟨hI', hρ, hnx, hα⟩ := h.inv.unbase hI
    obtain ⟨hk1, hk2⟩ := hkeep _ S' g' hk hρ hnx hα
    exact go v S' x g' w' hk1 hI' hv hρ hnx hk2
  · intro v S' x g' w' hp hI hv
    exact hQ.2 v S' g' a w' menv x hp (h.inv.unbase hI).1 hv
 unfold wpOp
 simp only [ho2]
 simp only [xops] at hx
 cases hg : o'.guard with
 | none =>
  simp only [hg] at hx
  rw [if_pos (by simp [Region.wanted, hg])]
  exact .inl (run hx)
 | some jw =>
  obtain ⟨j, want⟩ := jw
  simp only [hg] at hx
  split at hx
  · rename_i b hb
    have hw := wanted_of (ops := ops) h.inv hg (b := b) (by rw [yieldOf_of hg hlook]; exact hb)
    have skip : xops (pAlg P T N) T ops.toList fl Pa K (pickOps ops.toList l) (putDst env o'.dst (.tup [])) S → SimE P T C N ops order fl Pa K (listed.setIfInBounds i true) (a.put o'.dst undef) w := fun hx =>
     go (.tup []) S undef g w hx h.inv (rep_gone _ _ _) (fun _ _ q => .inl q) (Nat.le_refl _) (fun _ _ _ _ _ q => .inr q)
    cases b <;> cases want <;> simp only at hx
    · rw [if_pos (by rw [hw]; rfl)]; exact .inl (run hx)
    · rw [if_neg (by rw [hw]; simp)]; exact skip hx
    · rw [if_neg (by rw [hw]; simp)]; exact skip hx
    · rw [if_pos (by rw [hw]; rfl)]; exact .inl (run hx)
  · rename_i hb
    rw [if_neg (by rw [wanted_not (ops := ops) h.inv hg (by rw [yieldOf_of hg hlook]; exact hb) (.inl rfl)]; simp)]
    exact go (.tup []) S undef g w hx h.inv (rep_gone _ _ _) (fun _ _ q => .inl q) (Nat.le_refl _) (fun _ _ _ _ _ q => .inr q)
  · exact hx.elim
theorem region_end (hD : DrawOk ops.toList order fl m) (hall : ∀ i, i ∈ order → i < ops.size) (h : Sim P T C N ops order fl Pa K pre rest env menv S g nm listed a w) (hQ : regPost T C Pa K Q)
  (hr : Region.ready .any ops listed = []) : Q .normal a w ∧ ∀ i, i ∈ order → Listed listed i := by
 have one : ∀ (p q : List Nat) (i : Nat), order = p ++ i :: q → (∀ j, j ∈ p → Listed listed j) → Listed listed i := by
  intro p q i hsp hp
  obtain ⟨o, st⟩ := hD.step p i q hsp
  by_cases hli : Listed listed i
  · exact hli
  · exfalso
    have : i ∈ Region.ready .any ops listed := by
     refine mem_ready.2 ⟨?_, o, by simpa using st.op, fun e he hb => hp e.on (st.lin e.on (mem_edgesOf.2 ⟨e, he, hb, rfl⟩))⟩
     unfold Listed at hli
     have hlt : i < listed.size := by
      rw [h.size]
      exact hall i (by rw [hsp]; simp)
     simpa [hlt] using hli
    rw [hr] at this
    cases this
 have hl : ∀ (q p : List Nat), order = p ++ q → (∀ j, j ∈ p → Listed listed j) → ∀ i, i ∈ q → Listed listed i := by
  intro q
  induction q with
  | nil => intro p _ _ i hi; cases hi
  | cons k q ih =>
   intro p hsp hp i hi
   have hk := one p q k hsp hp
   rcases List.mem_cons.1 hi with rfl | hi
   · exact hk
   · exact ih (p ++ [k]) (by rw [hsp]; simp) (fun j hj => by
      rcases List.mem_append.1 hj with hj | hj
      · exact hp j hj
      · have : j = k := by simpa using hj
        rw [this]; exact hk) i hi
 have hl' : ∀ i, i ∈ order → Listed listed i := hl order [] (by simp) (by simp)
 refine ⟨?_, hl'⟩
 have hrest : rest = [] := by
  cases hc : rest with
  | nil => rfl
  | cons k l => exact absurd (hl' k (by rw [h.split, hc]; simp)) (h.later k (by rw [hc]; simp))
 have hx := h.hx
 rw [hrest] at hx
 refine hQ.1 env S g a w hx (h.inv.weak fun t => .inr ?_)
 exact (h.agree t fun p o hp hnl => absurd (hl' p (by rw [h.split]; simp [hp])) hnl).symm
theorem count_set (hall : ∀ i, i ∈ order → i < ops.size) (hsz : listed.size = ops.size) {i : Nat} (hi : i ∈ order) (hnl : ¬ Listed listed i) :
  order.countP (fun j => !listed.getD j false) = order.countP (fun j => !listed.getD j false) ∧ order.countP (fun j => !(listed.setIfInBounds i true).getD j false) < order.countP (fun j => !listed.getD j false) := by
 refine ⟨rfl, ?_⟩
 have key : ∀ l : List Nat, i ∈ l → l.countP (fun j => !(listed.setIfInBounds i true).getD j false) < l.countP (fun j => !listed.getD j false) ∧ True := by
  have le : ∀ l : List Nat, l.countP (fun j => !(listed.setIfInBounds i true).getD j false) ≤ l.countP (fun j => !listed.getD j false) := fun l =>
   List.countP_mono_left fun j _ hj => by
    by_cases e : i = j
    · subst e
      have : i < listed.size := by rw [hsz]; exact hall i hi
      simp [this] at hj
    · rw [getD_set_ne false e] at hj; exact hj
  intro l
  induction l with
  | nil => intro h; cases h
  | cons k l ih =>
   intro h
   refine ⟨?_, trivial⟩
   rw [List.countP_cons, List.countP_cons]
   by_cases e : k = i
   · subst e
     have hlt : k < listed.size := by rw [hsz]; exact hall k hi
     have h1 : (!(listed.setIfInBounds k true).getD k false) = false := by simp [hlt]
     have h2 : (!listed.getD k false) = true := by unfold Listed at hnl; simpa using hnl
     rw [h1, h2]
     have := le l
     rw [if_neg (by simp), if_pos rfl]
     omega
   · have hil : i ∈ l := by
      rcases List.mem_cons.1 h with h | h
      · exact absurd h.symm e
      · exact h
     have := (ih hil).1
     rw [getD_set_ne false (Ne.symm e)]
     omega
 exact (key order hi).1
theorem any_sound (hT : TabOk P T) (hfit : opsFit C.n ops.toList = true) (hD : DrawOk ops.toList order fl m) (hn : order.Nodup) (hall : ∀ i, i ∈ order → i < ops.size) (hQ : regPost T C Pa K Q) :
  ∀ (fuel : Nat) (listed : Array Bool) (a : Act) (w : World), SimE P T C N ops order fl Pa K listed a w → order.countP (fun j => !listed.getD j false) ≤ fuel → wpAny P .any ops Q fuel listed a w := by
 intro fuel
 induction fuel with
 | zero =>
  rintro listed a w ⟨pre, rest, env, menv, S, g, nm, h⟩ hc
  have hr : Region.ready .any ops listed = [] := by
   cases hq : Region.ready .any ops listed with
   | nil => rfl
   | cons k l =>
    have hk : k ∈ Region.ready .any ops listed := by rw [hq]; simp
    obtain ⟨hnl, o, ho, _⟩ := ready_spec hk
    have hin : k ∈ order := hD.all k (List.getElem?_eq_some_iff.1 ho).1
    have hpos : 0 < order.countP (fun j => !listed.getD j false) := List.countP_pos_iff.2 ⟨k, hin, by unfold Listed at hnl; simpa using hnl⟩
    omega
  exact ⟨hr, (region_end hD hall h hQ hr).1⟩
 | succ fuel ih =>
  rintro listed a w ⟨pre, rest, env, menv, S, g, nm, h⟩ hc
  refine ⟨fun hr => (region_end hD hall h hQ hr).1, fun i hi => ?_⟩
  obtain ⟨pre', rest', env', menv', S', nm', h', hor⟩ := h.advance hD
  obtain ⟨hnl, o, ho, hedge⟩ := ready_spec hi
  have hin : i ∈ order := hD.all i (List.getElem?_eq_some_iff.1 ho).1
  have hless : order.countP (fun j => !(listed.setIfInBounds i true).getD j false) ≤ fuel := by
   have := (count_set hall h.size hin hnl).2
   omega
  have hstep : wpOp P ops Q i (SimE P T C N ops order fl Pa K (listed.setIfInBounds i true)) a w := by
   rw [h'.split] at hin
   rcases List.mem_append.1 hin with hin | hin
   · exact h'.owe hT hfit hD hn hin hi
   · rcases hor with rfl | ⟨k, ok, l, rfl, hok, hek⟩
     · cases hin
     · by_cases hik : i = k
       · subst hik
         exact h'.eff hT hfit hD hn hQ hi hok hek
       · exfalso
         have hil : i ∈ l := by
          rcases List.mem_cons.1 hin with q | q
          · exact absurd q hik
          · exact q
         obtain ⟨ok', st⟩ := hD.step _ _ _ h'.split
         have : ok' = ok := by have := st.op.symm.trans hok; simpa using this
         subst this
         exact h'.later k (by simp) (hD.before h'.closed i o ho hedge k ((st.eff hek).1 i hil))
  exact wpOp_mono (fun a' w' hs => ih _ a' w' hs hless) hstep
theorem region_draw (hT : TabOk P T) (hm : P.follows .mixedOrders = true) (hfit : opsFit C.n ops.toList = true) {an : Ann} (hd : drawOk ops.toList an = true) (hn : an.order.Nodup) (hall : ∀ i, i ∈ an.order → i < ops.size)
  (hlen : an.order.length ≤ ops.size) (hQ : regPost T C Pa K Q) {id : Nat} (h : Inv T C g env S a w) (hx : xops (pAlg P T N) T ops.toList an.floats Pa K (pickOps ops.toList an.order) env S) : (Code.region id ops true).wp P Q a w := by
 refine wp_region_any hm (any_sound (m := masks ops.toList []) hT hfit (drawOk_spec hd) hn hall hQ _ _ _ _ ⟨[], an.order, env, env, S, g, fun _ => none, rfl, hx, by simp, ?_, ?_, h.grow (Grow.drew g w), fun _ _ => rfl, ?_, ?_, ?_⟩ ?_)
 · intro i hi hl
   unfold Listed at hl
   by_cases hlt : i < ops.size <;> simp [hlt] at hl
 · intro i o ho hl
   unfold Listed at hl
   by_cases hlt : i < ops.size <;> simp [hlt] at hl
 · intro p o hp; cases hp
 · intro p q n h; cases h
 · intro p n h; cases h
 · exact Nat.le_trans List.countP_le_length hlen
end
end Go.AM
namespace Go.AM
def nodupB : List Nat → Bool
 | [] => true
 | x :: l => !l.contains x && nodupB l
theorem nodupB_spec : ∀ {l : List Nat}, nodupB l = true → l.Nodup
 | [], _ => List.nodup_nil
 | x :: l, h => by
  simp only [nodupB, Bool.and_eq_true] at h
  exact List.nodup_cons.2 ⟨by simpa using h.1, nodupB_spec h.2⟩
def codeOk (N : Nat) (ann : List (Nat × Ann)) : Code → Bool
 | .region id ops draw => opsFit N ops.toList && match draw, annOf ann id with
  | true, some an => an.order.isEmpty || drawOk ops.toList an && nodupB an.order && (an.order.all fun i => Nat.blt i ops.toList.length) && Nat.ble an.order.length ops.toList.length
  | false, none => true
  | _, _ => false
 | .seq a b => codeOk N ann a && codeOk N ann b
 | .cond _ a b => codeOk N ann a && codeOk N ann b
 | .block _ a => codeOk N ann a
 | .loop a => codeOk N ann a
 | .scope a => codeOk N ann a
 | _ => true
section
variable {P : Program} {T : Tab} {N : Nat} {ann : List (Nat × Ann)}
theorem loopGo_of {c : Code} {Q : Exit → Act → World → Prop} {a : Act} {w : World} (h : c.wp P (Exit.then (LoopGo P c Q) Q) a w) : LoopGo P c Q a w := by
 intro b k cs
 obtain ⟨e, a₁, w₁, hq, harr⟩ := h b (.inLoop c :: k) cs
 cases e with
 | normal =>
  obtain ⟨e₂, a₂, w₂, hq₂, harr₂⟩ := hq b k cs
  exact ⟨e₂, a₂, w₂, hq₂, .of_steps (Steps.trans harr (.one step_inLoop)) harr₂⟩
 | exit id => exact ⟨_, a₁, w₁, hq, .pass (x := .inLoop c) rfl (fun _ _ => .inl (by simp)) harr⟩
 | goto l => exact ⟨_, a₁, w₁, hq, .pass (x := .inLoop c) rfl (fun _ _ => .inl (by simp)) harr⟩
 | ret => exact ⟨_, a₁, w₁, hq, .pass (x := .inLoop c) rfl (fun _ _ => .inl (by simp)) harr⟩
 | panic ch => exact ⟨_, a₁, w₁, hq, .pass (x := .inLoop c) rfl (fun _ _ => .inl (by simp)) harr⟩
 | outgrown => exact ⟨_, a₁, w₁, hq, .pass (x := .inLoop c) rfl (fun _ _ => .inl (by simp)) harr⟩
theorem wp_of_loopGo {c : Code} {Q : Exit → Act → World → Prop} {a : Act} {w : World} (h : LoopGo P c Q a w) : (Code.loop c).wp P Q a w := by
 intro b k cs
 obtain ⟨e, a', w', hq, harr⟩ := h b k cs
 exact ⟨e, a', w', hq, .of_steps (.one step_loop) harr⟩
def andThen (K1 : Env → St → Prop) (K : Ex → Env → St → Prop) : Ex → Env → St → Prop
 | .normal, env, S => K1 env S
 | .exit i, env, S => K (.exit i) env S
 | .ret, env, S => K .ret env S
 | .panic v, env, S => K (.panic v) env S
theorem post_then {C : Ctx} {K1 : Env → St → Prop} {K : Ex → Env → St → Prop} {next : Act → World → Prop} (hn : ∀ env S g a w, K1 env S → Inv T C g env S a w → next a w) :
  ∀ e a w, Post T C (andThen K1 K) e a w → Exit.then next (Post T C K) e a w := by
 rintro e a w ⟨ex, env, S, g, hk, hr, hI⟩
 cases e with
 | normal => cases ex <;> first | exact hn env S g a w hk hI | exact hr.elim
 | exit i => cases ex <;> first | exact ⟨_, env, S, g, hk, hr, hI⟩ | exact hr.elim
 | ret => cases ex <;> first | exact ⟨_, env, S, g, hk, hr, hI⟩ | exact hr.elim
 | panic ch => cases ex <;> first | exact ⟨_, env, S, g, hk, hr, hI⟩ | exact hr.elim
 | goto l => cases ex <;> exact hr.elim
 | outgrown => cases ex <;> exact hr.elim
theorem soleNew_spec {T : Tab} {l : List Oper} {d : Tmp} {t : TypeId} (h : soleNew T l = some (d, t)) : ∃ o, l = [o] ∧ o.guard = none ∧ o.op = .alloc t ∧ o.dst = some d ∧ ∃ fs, T.ty t = .struct fs [.p, .l] := by
 unfold soleNew at h
 split at h
 · rename_i o
   split at h
   · rename_i hg
     split at h
     · rename_i t' ho
       split at h
       · rename_i d' hd
         split at h
         · rename_i ht
           simp only [Option.some.injEq, Prod.mk.injEq] at h
           obtain ⟨rfl, rfl⟩ := h
           refine ⟨o, rfl, hg, ho, hd, ?_⟩
           unfold tagged at ht
           split at ht
           · rename_i fs zs hty
             split at ht
             · exact ⟨fs, hty⟩
             · cases ht
           · cases ht
         · cases h
       · cases h
     · cases h
   · cases h
 · cases h
theorem region_sole (hT : TabOk P T) {C : Ctx} {g : Ghost} {env : Env} {S : St} {a : Act} {w : World} {ops : Array Oper} (hfit : opsFit C.n ops.toList = true) {id : Nat} {Pa : Env → AV → St → Prop} {K : Env → St → Prop} {Q : Exit → Act → World → Prop} (hQ : regPostE T C Pa K Q)
  (h : Inv T C g env S a w) {d : Tmp} {t : TypeId} (hs : soleNew T ops.toList = some (d, t)) (hx : K ((d, .ptr S.next 0) :: env) (S.push [.tnil S.next t, .slice 0 [] .exact])) : (Code.region id ops false).wp P Q a w := by
 obtain ⟨o, hl, hg, ho, hd, fs, hty⟩ := soleNew_spec hs
 have hops : ops = #[o] := by rw [← Array.toArray_toList (xs := ops), hl]
 have hhas : T.has t = true := by unfold Tab.has; rw [hty]
 obtain ⟨i, z, td, hi, htd, hsz, hz, hzs, hb, hsh, ha⟩ := (has_row hT hhas).row
 rw [hty] at hzs
 have hzs' : z.cells.toList = [.pointer none, .slice none 0 0] := by rw [hzs]; rfl
 have hrun : (execOp a.eval o).run P w = .ok (.value (.pointer (some ⟨w.heap.size, 0, none⟩))) (w.alloc (.cells z.cells t)) := by
  simp [execOp, ho, Instr.alloc, zeroValue, run_typeInfo w hi, hz, newVar, newRow]
 have hrow0 : ∀ j, j < [AV.nilp, AV.slice 0 [] .exact].length → Rep T w g (nth [AV.nilp, AV.slice 0 [] .exact] j) (z.cells.toList.getD j undef) := by
  intro j hj
  rw [hzs']
  match j, hj with
  | 0, _ => exact .nilp _
  | 1, _ => exact Rep.nilslice T w g 0
 obtain ⟨g', hI, hk, hv⟩ := h.new (c := z.cells) (t := t) (row := [.nilp, .slice 0 [] .exact]) (by rw [← Array.length_toList, hzs']; rfl) (by rw [hzs']; intro u hu; simp at hu; rcases hu with rfl | rfl <;> rfl) hrow0
 have hρ : g'.ρ S.next = some w.heap.size := by cases hv with | ptr _ _ _ _ hh => exact hh
 have hrow : (S.push [AV.nilp, AV.slice 0 [] .exact]).row S.next = [AV.nilp, AV.slice 0 [] .exact] := by rw [row_push, if_pos rfl]
 have hI2 := hI.retell (o := S.next) (row := [.tnil S.next t, .slice 0 [] .exact]) (by rw [hrow]; simp) (hI.rel.vec.one _ _ hρ) (by rw [hrow]; rfl) (by
  intro j hj x hx
  rw [hrow] at hx
  match j, hj with
  | 0, _ =>
   have : x = .pointer none := by cases hx; rfl
   subst this
   exact .tnil _ S.next t w.heap.size z.cells (0, 0) hρ (heap_alloc_new w _)
  | 1, _ => exact hx)
 have hset : (S.push [AV.nilp, AV.slice 0 [] .exact]).set S.next [.tnil S.next t, .slice 0 [] .exact] = S.push [.tnil S.next t, .slice 0 [] .exact] := by
  simp [St.push, St.set, setIn]
 rw [hset] at hI2
 have hdl : ∀ u, o.dst = some u → u < C.n := opsFit_spec hfit o (by rw [hl]; simp)
 have hI3 := hI2.put hv o.dst hdl
 rw [hd] at hI3
 refine wp_region ?_
 have hex : o.wp P a w (wpOps P ops Q []) Q := by
  unfold Oper.wp
  rw [hrun]
  show wpOps P ops Q [] (a.put o.dst _) _
  rw [hd]
  exact hQ.1 _ _ g' _ _ hx hI3
 subst hops
 simp [List.range_succ, wpOps, Region.wanted, hg]
 exact .inl hex
theorem xcode_sound (hT : TabOk P T) (hm : P.follows .mixedOrders = true) (un : Nat) : ∀ (c : Code), codeOk N ann c = true → ∀ (C : Ctx), C.n = N → ∀ (K : Ex → Env → St → Prop) (env : Env) (S : St),
  xcode (pAlg P T N) T ann un c K env S → WpA P T C c K env S := by
 intro c
 induction c with
 | skip => intro _ C _ K env S hx g a w h; exact wp_skip ⟨.normal, env, S, g, hx, trivial, h⟩
 | region id ops draw =>
  intro hc C hC K env S hx g a w h
  have hQE : regPostE T C (fun env v S => K (.panic v) env S) (K .normal) (Post T C K) :=
   ⟨fun env S g a w hk hI => ⟨.normal, env, S, g, hk, trivial, hI⟩, fun v S g a w env x hp hI hv => ⟨.panic v, env, S, g, hp, ⟨x, rfl, hv⟩, hI⟩⟩
  have hQ : regPost T C (fun v S => K (.panic v) [] S) (K .normal) (Post T C K) :=
   ⟨fun env S g a w hk hI => ⟨.normal, env, S, g, hk, trivial, hI⟩, fun v S g a w env x hp hI hv => ⟨.panic v, [], S, g, hp, ⟨x, rfl, hv⟩, hI.less⟩⟩
  simp only [codeOk, Bool.and_eq_true] at hc
  obtain ⟨hfit, hc⟩ := hc
  rw [← hC] at hfit
  simp only [xcode, xregion] at hx
  cases draw with
  | false =>
   cases ha : annOf ann id with
   | some an => simp [ha] at hc
   | none =>
    rw [ha] at hx
    simp only at hx
    cases hs : soleNew T ops.toList with
    | none => rw [hs] at hx; exact region_seq hT hfit hQE h hx
    | some dt => obtain ⟨d, t⟩ := dt; rw [hs] at hx; exact region_sole hT hfit hQE h hs hx
  | true =>
   cases ha : annOf ann id with
   | none => simp [ha] at hc
   | some an =>
    rw [ha] at hx
    cases ho : an.order with
    | nil => simp only [ho] at hx; exact hx.elim
    | cons i0 l0 =>
    simp only [ho] at hx
    rw [← ho] at hx
    have hne : an.order.isEmpty = false := by rw [ho]; rfl
    simp only [ha, hne, Bool.false_or, Bool.and_eq_true] at hc
    obtain ⟨⟨⟨hd, hn⟩, hall⟩, hlen⟩ := hc
    exact region_draw hT hm hfit hd (nodupB_spec hn) (fun i hi => by
     have : i + 1 ≤ ops.toList.length := Nat.le_of_ble_eq_true (List.all_eq_true.1 hall i hi)
     rw [Array.length_toList] at this
     exact this) (by simpa using Nat.le_of_ble_eq_true hlen) hQ h hx
 | seq x y ihx ihy =>
  intro hc C hC K env S hx g a w h
  simp only [codeOk, Bool.and_eq_true] at hc
  simp only [xcode] at hx
  refine wp_seq (wp_mono (ihx hc.1 C hC (andThen (fun env S => xcode (pAlg P T N) T ann un y K env S) K) env S ?_ g a w h) (post_then fun env S g a w hk hI => ihy hc.2 C hC K env S hk g a w hI))
  have he : andThen (fun env S => xcode (pAlg P T N) T ann un y K env S) K = fun e env S => match e with
    | .normal => xcode (pAlg P T N) T ann un y K env S
    | .exit i => K (.exit i) env S
    | .ret => K .ret env S
    | .panic v => K (.panic v) env S := by
   funext e env S; cases e <;> rfl
  rw [he]
  exact hx
 | cond c x y ihx ihy =>
  intro hc C hC K env S hx g a w h
  simp only [codeOk, Bool.and_eq_true] at hc
  simp only [xcode] at hx
  split at hx
  · rename_i t ht
    have hv := h.ev c
    rw [ht] at hv
    generalize hxx : a.eval c = u at hv
    cases hv
    split at hx
    · exact wp_cond_true hxx (ihx hc.1 C hC K env S hx g a w h)
    · exact wp_cond_false hxx (ihy hc.2 C hC K env S hx g a w h)
  · exact hx.elim
 | block id x ih =>
  intro hc C hC K env S hx g a w h
  simp only [codeOk] at hc
  simp only [xcode] at hx
  refine wp_block (wp_mono (ih hc C hC _ env S hx g a w h) ?_)
  rintro e a w ⟨ex, env, S, g, hk, hr, hI⟩
  cases e with
  | normal => cases ex <;> first | exact ⟨_, env, S, g, hk, hr, hI⟩ | exact hr.elim
  | exit i =>
   cases ex with
   | exit j =>
    have hij : j = i := hr
    subst hij
    simp only at hk
    simp only [Exit.inBlock]
    cases hb : Nat.beq j id with
    | true =>
     have := Nat.eq_of_beq_eq_true hb
     rw [hb] at hk
     rw [if_pos this]
     exact ⟨.normal, env, S, g, hk, trivial, hI⟩
    | false =>
     have := Nat.ne_of_beq_eq_false hb
     rw [hb] at hk
     rw [if_neg this]
     exact ⟨.exit j, env, S, g, hk, rfl, hI⟩
   | _ => exact hr.elim
  | ret => cases ex <;> first | exact ⟨_, env, S, g, hk, hr, hI⟩ | exact hr.elim
  | panic ch => cases ex <;> first | exact ⟨_, env, S, g, hk, hr, hI⟩ | exact hr.elim
  | goto l => cases ex <;> exact hr.elim
  | outgrown => cases ex <;> exact hr.elim
 | loop x ih =>
  intro hc C hC K env S hx g a w h
  simp only [codeOk] at hc
  refine wp_of_loopGo ?_
  cases un with
  | zero => exact hx C hC g a w h
  | succ n =>
   simp only [xcode] at hx
   have key : ∀ (k : Nat) (env : Env) (S : St) (g : Ghost) (a : Act) (w : World), Inv T C g env S a w → xloop (xcode (pAlg P T N) T ann (n + 1) x) (pAlg P T N).fail K k env S → LoopGo P x (Post T C K) a w := by
    intro k
    induction k with
    | zero => intro env S g a w _ hx; exact hx.elim
    | succ k ihk =>
     intro env S g a w h hx
     simp only [xloop] at hx
     have he : andThen (fun env S => xloop (xcode (pAlg P T N) T ann (n + 1) x) (pAlg P T N).fail K k env S) K = fun e env S => match e with
       | .normal => xloop (xcode (pAlg P T N) T ann (n + 1) x) (pAlg P T N).fail K k env S
       | .exit i => K (.exit i) env S
       | .ret => K .ret env S
       | .panic v => K (.panic v) env S := by
      funext e env S; cases e <;> rfl
     refine loopGo_of (wp_mono (ih hc C hC (andThen (fun env S => xloop (xcode (pAlg P T N) T ann (n + 1) x) (pAlg P T N).fail K k env S) K) env S ?_ g a w h) (post_then fun env S g a w hk hI => ihk env S g a w hI hk))
     rw [he]
     exact hx
   exact key _ env S g a w h hx
 | exit i => intro _ C _ K env S hx g a w h; exact wp_exit ⟨.exit i, env, S, g, hx, rfl, h⟩
 | ret => intro _ C _ K env S hx g a w h; exact wp_ret ⟨.ret, env, S, g, hx, trivial, h⟩
 | label l => intro _ C _ K env S hx g a w h; exact wp_label ⟨.normal, env, S, g, hx, trivial, h⟩
 | scope x ih =>
  intro hc C hC K env S hx g a w h
  simp only [codeOk] at hc
  simp only [xcode] at hx
  refine wp_scope_straight (wp_mono (ih hc C hC K env S hx g a w h) ?_)
  rintro e a w ⟨ex, env, S, g, hk, hr, hI⟩
  cases e with
  | goto l => cases ex <;> exact hr.elim
  | _ => exact ⟨ex, env, S, g, hk, hr, hI⟩
 | _ => intro _ C _ K env S hx g a w h; exact hx.elim
end
end Go.AM
namespace Go.AM
structure FnOk (P : Program) (f : FuncId) (fi : FnI) : Prop where
 fn : ∃ fn, P.funcs[f]? = some fn ∧ fn.body = some fi.body ∧ fn.ntmps = fi.n ∧ fn.results.toList = fi.results ∧ (fn.name == "runtime.NumGoroutine") = false
 ok : codeOk fi.n fi.ann fi.body = true
section
variable {P : Program} {T : Tab} {C : Ctx} {g : Ghost} {env : Env} {S : St} {a : Act} {w : World}
theorem FnOk.enters {f : FuncId} {fi : FnI} (h : FnOk P f fi) : Enters P f := by
 obtain ⟨fn, hf, hb, _, _, hn⟩ := h.fn
 intro args w
 have hn' : ¬ fn.name = "runtime.NumGoroutine" := by simpa using hn
 simp [callFunc, hf, hn', hb]
theorem argEnv_get : ∀ (l : List AV) (n t : Nat), (argEnv n l).get t = if n ≤ t then nth l (t - n) else .undef
 | [], n, t => by simp [argEnv, Env.get, nth]
 | v :: l, n, t => by
  simp only [argEnv, get_cons]
  rw [argEnv_get l (n + 1) t]
  by_cases h : n = t
  · subst h; simp [nth]
  · rw [if_neg h]
    by_cases h2 : n ≤ t
    · rw [if_pos (by omega), if_pos h2]
      have : t - n = (t - (n + 1)) + 1 := by omega
      rw [this]; rfl
    · rw [if_neg (by omega), if_neg h2]
def resSem (tmps : Array Value) : ResultVar → Sem Value
 | .tmp t => pure (tmps.getD t undef)
 | .cell ad t => do loadVar t (← asAddr (tmps.getD ad undef))
theorem results_eq (fn : Func) (tmps : Array Value) : results fn tmps = (do
  let vs ← fn.results.mapM (resSem tmps)
  pure (if h : vs.size = 1 then vs[0] else .tuple vs)) := by
 unfold results
 have : (fun r => match r with
  | ResultVar.tmp t => pure (tmps.getD t undef)
  | ResultVar.cell a t => do loadVar t (← asAddr (tmps.getD a undef))) = resSem tmps := by
  funext r; cases r <;> rfl
 rw [← this]
 rfl
theorem resVar_sound (hT : TabOk P T) (h : Inv T C g env S a w) {r : ResultVar} {v : AV} (hr : resVar T env S r = some v) :
  ∃ x, (resSem a.tmps r).run P w = .ok x w ∧ Rep T w g v x := by
 cases r with
 | tmp t =>
  simp only [resVar, Option.some.injEq] at hr
  subst hr
  exact ⟨_, rfl, h.tmp t⟩
 | cell ad t =>
  simp only [resVar] at hr
  split at hr
  · rename_i hh
    split at hr
    · rename_i ob off hp
      split at hr
      · rename_i hle
        simp only [Option.some.injEq] at hr
        subst hr
        have hle' := ble_le hle
        rw [lenN_eq] at hle'
        have hc := h.tmp ad
        rw [hp] at hc
        generalize hx : a.tmps.getD ad undef = xc at hc
        cases hc with
        | ptr _ _ _ b hb =>
         obtain ⟨c, tt, hcc, hsz, h1, hR⟩ := h.rel.obj ob b hb
         obtain ⟨v, hl, hv⟩ := run_part (P := P) hT (g := g) (w := w) hh (S.row ob) b 0 off (fun j => c.toList.getD j undef) hle'
          (fun j hj => by
            have : j < c.size := by omega
            simp [World.cell?, hcc, this, List.getD_eq_getElem?_getD])
          (fun j hj => h1 _ (by
            have : j < c.toList.length := by simpa [hsz] using hj
            rw [List.getD_eq_getElem?_getD, List.getElem?_eq_getElem this]; exact List.getElem_mem _))
          (fun j hj => hR j hj)
         refine ⟨v, ?_, hv⟩
         simp only [resSem, hx, asAddr, Sem.run_bind, Sem.run_pure, Result.andThen_ok]
         simpa using hl
      · cases hr
    · cases hr
  · cases hr
theorem resAll_sound (hT : TabOk P T) (h : Inv T C g env S a w) : ∀ {rs : List ResultVar} {l : List AV}, resAll T env S rs = some l →
  ∃ xs : List Value, (rs.mapM (resSem a.tmps)).run P w = .ok xs w ∧ ArgsRel T w g l xs
 | [], l, hr => by
  simp only [resAll, Option.some.injEq] at hr
  subst hr
  exact ⟨[], rfl, rfl, by simp⟩
 | r :: rs, l, hr => by
  simp only [resAll] at hr
  cases h1 : resVar T env S r with
  | none => rw [h1] at hr; cases hr
  | some v =>
   rw [h1] at hr
   simp only at hr
   cases h2 : resAll T env S rs with
   | none => rw [h2] at hr; cases hr
   | some vs =>
    rw [h2] at hr
    simp only [Option.some.injEq] at hr
    subst hr
    obtain ⟨x, hx, hv⟩ := resVar_sound hT h h1
    obtain ⟨xs, hxs, hl, hR⟩ := resAll_sound hT h h2
    refine ⟨x :: xs, ?_, by simp [hl], ?_⟩
    · rw [List.mapM_cons, Sem.run_bind, hx, Result.andThen_ok, Sem.run_bind, hxs, Result.andThen_ok]; rfl
    · intro j hj
      cases j with
      | zero => simpa [nth] using hv
      | succ j => simpa [nth] using hR j (by simpa using hj)
theorem body_calls (hT : TabOk P T) (hm : P.follows .mixedOrders = true) {un : Nat} {f : FuncId} {fi : FnI} (hf : FnOk P f fi) {args : List AV} {K : Out → St → Prop} (hlen : args.length ≤ fi.n)
  (hx : xbody (pAlg P T fi.n) T un fi args S K) : CallP P T f args S K := by
 intro g w vs hrel hglob hargs
 obtain ⟨fn, hfn, hb, hn, hrs, hname⟩ := hf.fn
 refine .inl ⟨hf.enters, calls_of_wp hfn hb ?_⟩
 let C : Ctx := { n := fi.n, w0 := w, g0 := g, next := S.next, touch := touchOf g }
 let a0 : Act := { tmps := vs.toArray ++ Array.replicate (fn.ntmps - vs.toArray.size) undef, defers := [] }
 have hI : Inv T C g (argEnv 0 args) S a0 w := by
  refine ⟨fun t => ?_, ?_, rfl, hrel, .refl _ _ _, fun o b q => .inl (.inl ⟨o, q⟩), fun k tk b q q' => .inl (.inr (.inl ⟨k, tk, q, q'⟩)), hglob, fun o b q => .inl q, Nat.le_refl _, fun o tk b q q' => .inl (.inr (.inr ⟨o, tk, q, q'⟩)), fun o tk q => .inl (by show g.α o ≠ none; rw [q]; simp)⟩
  · rw [argEnv_get, if_pos (Nat.zero_le _), Nat.sub_zero]
    by_cases ht : t < args.length
    · have := hargs.2 t ht
      have hlt : t < vs.length := by rw [hargs.1]; exact ht
      have he : a0.tmps.getD t undef = vs.getD t undef := by
       simp [a0, Array.getD_eq_getD_getElem?, List.getD_eq_getElem?_getD, Array.getElem?_append, hlt]
      rw [he]; exact this
    · rw [nth_out (by omega)]
      exact .undef _ _
  · simp only [a0, Array.size_append, Array.size_replicate, List.size_toArray, hn, hargs.1]
    show args.length + (fi.n - args.length) = fi.n
    omega
 refine wp_mono (xcode_sound hT hm un fi.body hf.ok C rfl _ _ S hx g a0 w hI) ?_
 have fin : ∀ env S' g' a w', xret (pAlg P T fi.n) T fi.results env S' K → Inv T C g' env S' a w' → a.defers = [] ∧ ∃ v, (results fn a.tmps).run P w' = .ok v w' ∧ callPost T g S w K (.returned v) w' := by
  intro env S' g' a w' hk hI'
  refine ⟨hI'.defers, ?_⟩
  unfold xret at hk
  split at hk
  · rename_i l hl
    obtain ⟨xs, hxs, hl1, hl2⟩ := resAll_sound hT hI' hl
    have hrun : (results fn a.tmps).run P w' = .ok (if h : xs.toArray.size = 1 then xs.toArray[0] else .tuple xs.toArray) w' := by
     have hxs' : (fn.results.mapM (resSem a.tmps)).run P w' = .ok xs.toArray w' := by
      rw [← hrs] at hxs
      rw [Array.mapM_eq_mapM_toList, map_eq_pure_bind, Sem.run_bind, hxs, Result.andThen_ok]
      rfl
     rw [results_eq, Sem.run_bind, hxs', Result.andThen_ok]
     rfl
    refine ⟨_, hrun, .ret (oneOf l), S', g', hk, ?_, hI'.rel, hI'.ext, ?_, hI'.nm, hI'.next, hI'.vn⟩
    · show Rep T w' g' (oneOf l) _
      cases l with
      | nil =>
       have : xs = [] := List.eq_nil_of_length_eq_zero (by simpa using hl1)
       subst this
       exact .tup _ _ _ rfl (by simp)
      | cons v l =>
       cases l with
       | nil =>
        cases xs with
        | nil => simp at hl1
        | cons x xs =>
         have : xs = [] := List.eq_nil_of_length_eq_zero (by simpa using hl1)
         subst this
         simpa [oneOf, nth] using hl2 0 (by simp)
       | cons v2 l =>
        have : ¬ xs.toArray.size = 1 := by simp [hl1]
        rw [dif_neg this]
        exact .tup _ _ _ hl1 hl2
    · rintro b (⟨o, q⟩ | ⟨k, tk, q, q'⟩ | ⟨k, tk, q, q'⟩)
      · exact hI'.ob o b q
      · exact hI'.tb k tk b q q'
      · exact hI'.vb k tk b q q'
  · exact hk.elim
 rintro e a w' ⟨ex, env, S', g', hk, hr, hI'⟩
 cases e with
 | normal => cases ex <;> first | exact fin env S' g' a w' hk hI' | exact hr.elim
 | ret => cases ex <;> first | exact fin env S' g' a w' hk hI' | exact hr.elim
 | panic ch =>
  cases ex with
  | panic v =>
   refine ⟨hI'.defers, .panic v, S', g', hk, hr, hI'.rel, hI'.ext, ?_, hI'.nm, hI'.next, hI'.vn⟩
   rintro b (⟨o, q⟩ | ⟨k, tk, q, q'⟩ | ⟨k, tk, q, q'⟩)
   · exact hI'.ob o b q
   · exact hI'.tb k tk b q q'
   · exact hI'.vb k tk b q q'
  | _ => exact hr.elim
 | exit i => cases ex <;> first | exact hk.elim | exact hr.elim
 | goto l => cases ex <;> exact hr.elim
 | outgrown => cases ex <;> exact hr.elim
end
end Go.AM
namespace Go.AM
structure Hom {R : Type} (A : Alg R) (B : Alg Prop) (h : R → Prop) : Prop where
 fail : ¬ h A.fail
 need : ∀ b r (q : Prop), h (A.need b r) → (h r → q) → B.need b q
 same : ∀ a b r (q : Prop), h (A.same a b r) → (h r → q) → B.same a b q
 call : ∀ f args S K (K' : Out → St → Prop), h (A.call f args S K) → (∀ o S, h (K o S) → K' o S) → B.call f args S K'
 loop : ∀ c K env S (K' : Ex → Env → St → Prop), h (A.loop c K env S) → (∀ e env S, h (K e env S) → K' e env S) → B.loop c K' env S
section
variable {R : Type} {A : Alg R} {B : Alg Prop} {h : R → Prop} (H : Hom A B h) {T : Tab}
include H
theorem xappend_hom {t : TypeId} {x y : AV} {S : St} {K : AV → St → R} {K' : AV → St → Prop} (hk : ∀ v S, h (K v S) → K' v S) (hx : h (xappend A T t x y S K)) : xappend B T t x y S K' := by
 unfold xappend at hx ⊢
 split
 · rename_i e ht
   simp only [ht] at hx
   cases hh : T.has e with
   | false => rw [hh] at hx; exact (H.fail hx).elim
   | true =>
    rw [hh] at hx
    simp only at hx ⊢
    cases h1 : Nat.ble 1 (T.size e) with
    | false => rw [h1] at hx; exact (H.fail hx).elim
    | true =>
     cases h2 : Nat.ble 1 (T.bytes e) with
     | false => rw [h1, h2] at hx; exact (H.fail hx).elim
     | true =>
      rw [h1, h2] at hx
      simp only at hx ⊢
      cases x with
      | slice e1 cs m =>
       cases y with
       | slice e2 ys m2 =>
        dsimp only at hx ⊢
        cases h3 : Nat.beq e2 e with
        | false => rw [h3] at hx; exact (H.fail hx).elim
        | true =>
         rw [h3] at hx
         dsimp only at hx ⊢
         refine H.need _ _ _ hx fun hx => ?_
         cases m with
         | no => exact (H.fail hx).elim
         | exact =>
          cases cs with
          | nil =>
           dsimp only at hx ⊢
           cases h5 : memN T.vecs e with
           | true => rw [h5] at hx; exact H.need _ _ _ hx fun hx => hk _ _ hx
           | false => rw [h5] at hx; exact hk _ _ hx
          | cons v l =>
           dsimp only at hx ⊢
           cases h4 : Nat.beq e1 e with
           | false => rw [h4] at hx; exact (H.fail hx).elim
           | true => rw [h4] at hx; exact H.need _ _ _ hx fun hx => hk _ _ hx
         | empty =>
          cases cs with
          | nil =>
           dsimp only at hx ⊢
           cases h5 : memN T.vecs e with
           | true => rw [h5] at hx; exact H.need _ _ _ hx fun hx => hk _ _ hx
           | false => rw [h5] at hx; exact (H.fail hx).elim
          | cons v l => exact (H.fail hx).elim
         | own k =>
          dsimp only at hx ⊢
          cases h4 : Nat.beq e1 e with
          | false => rw [h4] at hx; exact (H.fail hx).elim
          | true => rw [h4] at hx; exact H.need _ _ _ hx fun hx => hk _ _ hx
       | msl e2 o v i n =>
        dsimp only at hx ⊢
        cases cs with
        | cons => exact (H.fail hx).elim
        | nil =>
         cases h8 : nilish m with
         | false => rw [h8] at hx; exact (H.fail hx).elim
         | true =>
          cases h5 : memN T.vecs e with
          | false => rw [h8, h5] at hx; exact (H.fail hx).elim
          | true =>
           rw [h8, h5] at hx
           dsimp only at hx ⊢
           cases h6 : shown T.X S (.msl e2 o v i n) with
           | none => rw [h6] at hx; exact (H.fail hx).elim
           | some p =>
            obtain ⟨e3, ys⟩ := p
            rw [h6] at hx
            dsimp only at hx ⊢
            cases h3 : Nat.beq e2 e with
            | false => rw [h3] at hx; exact (H.fail hx).elim
            | true => rw [h3] at hx; exact H.need _ _ _ hx fun hx => H.need _ _ _ hx fun hx => hk _ _ hx
       | _ => exact (H.fail hx).elim
      | msl e1 o v i n =>
       have hx : h (match Nat.beq e1 e with
        | true => match shown T.X S y with
         | some (e2, ys) => match Nat.beq e2 e with
          | true => match St.vecX T.X S e o v with
           | some (_, cs) => A.need (T.X.cmp .eql i 0) (A.need (T.X.room (T.X.len (T.X.app (T.X.subL cs 0 n) ys)) (T.bytes e))
             (K (.msl e o (v + 1) 0 (T.X.len (T.X.app (T.X.subL cs 0 n) ys))) (S.set o [.mrow e (v + 1) false (T.X.app (T.X.subL cs 0 n) ys)])))
           | none => A.fail
          | false => A.fail
         | none => A.fail
        | false => A.fail) := by cases y <;> exact hx
       suffices hg : (match Nat.beq e1 e with
        | true => match shown T.X S y with
         | some (e2, ys) => match Nat.beq e2 e with
          | true => match St.vecX T.X S e o v with
           | some (_, cs) => B.need (T.X.cmp .eql i 0) (B.need (T.X.room (T.X.len (T.X.app (T.X.subL cs 0 n) ys)) (T.bytes e))
             (K' (.msl e o (v + 1) 0 (T.X.len (T.X.app (T.X.subL cs 0 n) ys))) (S.set o [.mrow e (v + 1) false (T.X.app (T.X.subL cs 0 n) ys)])))
           | none => B.fail
          | false => B.fail
         | none => B.fail
        | false => B.fail) by cases y <;> exact hg
       cases h4 : Nat.beq e1 e with
       | false => rw [h4] at hx; exact (H.fail hx).elim
       | true =>
        rw [h4] at hx
        dsimp only at hx ⊢
        cases h6 : shown T.X S y with
        | none => rw [h6] at hx; exact (H.fail hx).elim
        | some p =>
         obtain ⟨e3, ys⟩ := p
         rw [h6] at hx
         dsimp only at hx ⊢
         cases h3 : Nat.beq e3 e with
         | false => rw [h3] at hx; exact (H.fail hx).elim
         | true =>
          rw [h3] at hx
          dsimp only at hx ⊢
          cases h7 : St.vecX T.X S e o v with
          | none => rw [h7] at hx; exact (H.fail hx).elim
          | some p =>
           obtain ⟨full, cs⟩ := p
           rw [h7] at hx
           exact H.need _ _ _ hx fun hx => H.need _ _ _ hx fun hx => hk _ _ hx
      | _ => exact (H.fail hx).elim
 · rename_i hne
   split at hx
   · rename_i e ht
     exact (hne e ht).elim
   · exact (H.fail hx).elim
theorem xappF_hom {t u e : TypeId} {o v : Nat} {i n c : Int} {y : AV} {S : St} {K : AV → St → R} {K' : AV → St → Prop} (hk : ∀ v S, h (K v S) → K' v S) (hx : h (xappF A T t u e o v i n c y S K)) : xappF B T t u e o v i n c y S K' := by
 unfold xappF at hx ⊢
 cases h1 : T.ty t with
 | slice e' =>
  rw [h1] at hx
  dsimp only at hx ⊢
  cases h2 : Nat.beq e e' with
  | false => rw [h2] at hx; exact (H.fail hx).elim
  | true =>
   rw [h2] at hx
   dsimp only at hx ⊢
   cases h3 : T.has e with
   | false => rw [h3] at hx; exact (H.fail hx).elim
   | true =>
    cases h4 : Nat.ble 1 (T.bytes e) with
    | false => rw [h3, h4] at hx; exact (H.fail hx).elim
    | true =>
     rw [h3, h4] at hx
     dsimp only at hx ⊢
     cases h5 : srcF T S t u y with
     | none => rw [h5] at hx; exact (H.fail hx).elim
     | some q =>
      obtain ⟨ok, e2, ys⟩ := q
      rw [h5] at hx
      dsimp only at hx ⊢
      cases h6 : Nat.beq e2 e with
      | false => rw [h6] at hx; exact (H.fail hx).elim
      | true =>
       rw [h6] at hx
       dsimp only at hx ⊢
       cases h7 : St.vecX T.X S e o v with
       | none => rw [h7] at hx; exact (H.fail hx).elim
       | some q =>
        obtain ⟨full, cs⟩ := q
        rw [h7] at hx
        cases full with
        | false => exact (H.fail hx).elim
        | true =>
         dsimp only at hx ⊢
         refine H.need _ _ _ hx fun hx => H.need _ _ _ hx fun hx => ?_
         cases h8 : T.X.cmp .leq (T.X.len ys) (T.X.arith .sub .i64 c n) with
         | true => rw [h8] at hx; exact hk _ _ hx
         | false => rw [h8] at hx; exact H.need _ _ _ hx fun hx => hk _ _ hx
 | _ => rw [h1] at hx; exact (H.fail hx).elim
theorem xcopy_hom {t e : TypeId} {o v : Nat} {i n : Int} {y : AV} {S : St} {K : AV → St → R} {K' : AV → St → Prop} (hk : ∀ v S, h (K v S) → K' v S) (hx : h (xcopy A T t e o v i n y S K)) : xcopy B T t e o v i n y S K' := by
 unfold xcopy at hx ⊢
 cases h1 : T.ty t with
 | slice e' =>
  rw [h1] at hx
  dsimp only at hx ⊢
  cases h2 : Nat.beq e e' with
  | false => rw [h2] at hx; exact (H.fail hx).elim
  | true =>
   rw [h2] at hx
   dsimp only at hx ⊢
   cases h3 : T.has e with
   | false => rw [h3] at hx; exact (H.fail hx).elim
   | true =>
    rw [h3] at hx
    dsimp only at hx ⊢
    cases h5 : shown T.X S y with
    | none => rw [h5] at hx; exact (H.fail hx).elim
    | some q =>
     obtain ⟨e2, ys⟩ := q
     rw [h5] at hx
     dsimp only at hx ⊢
     cases h6 : Nat.beq e2 e with
     | false => rw [h6] at hx; exact (H.fail hx).elim
     | true =>
      rw [h6] at hx
      dsimp only at hx ⊢
      cases h7 : St.vecX T.X S e o v with
      | none => rw [h7] at hx; exact (H.fail hx).elim
      | some q =>
       obtain ⟨full, cs⟩ := q
       rw [h7] at hx
       dsimp only at hx ⊢
       cases h8 : T.X.cmp .lss (T.X.len ys) n with
       | true => rw [h8] at hx; exact hk _ _ hx
       | false => rw [h8] at hx; exact hk _ _ hx
 | _ => rw [h1] at hx; exact (H.fail hx).elim
theorem xclear_hom {t e : TypeId} {o v : Nat} {i n : Int} {S : St} {K : AV → St → R} {K' : AV → St → Prop} (hk : ∀ v S, h (K v S) → K' v S) (hx : h (xclear A T t e o v i n S K)) : xclear B T t e o v i n S K' := by
 unfold xclear at hx ⊢
 cases h1 : T.ty t with
 | slice e' =>
  rw [h1] at hx
  dsimp only at hx ⊢
  cases h2 : Nat.beq e e' with
  | false => rw [h2] at hx; exact (H.fail hx).elim
  | true =>
   rw [h2] at hx
   dsimp only at hx ⊢
   cases h3 : T.has e with
   | false => rw [h3] at hx; exact (H.fail hx).elim
   | true =>
    rw [h3] at hx
    dsimp only at hx ⊢
    cases h7 : St.vecX T.X S e o v with
    | none => rw [h7] at hx; exact (H.fail hx).elim
    | some q =>
     obtain ⟨full, cs⟩ := q
     rw [h7] at hx
     exact hk _ _ hx
 | _ => rw [h1] at hx; exact (H.fail hx).elim
theorem xeff_hom {env : Env} {S : St} {op : Op} {Pa K : AV → St → R} {Pa' K' : AV → St → Prop} (hp : ∀ v S, h (Pa v S) → Pa' v S) (hk : ∀ v S, h (K v S) → K' v S) (hx : h (xeff A T env S op Pa K)) :
  xeff B T env S op Pa' K' := by
 cases op with
 | store t a v =>
  simp only [xeff] at hx ⊢
  cases h1 : ev T env a with
  | ptr o off =>
   rw [h1] at hx
   simp only at hx ⊢
   cases h2 : (ev T env v).known with
   | false => rw [h2] at hx; exact (H.fail hx).elim
   | true =>
    rw [h2] at hx
    simp only at hx ⊢
    cases h3 : Nat.beq (lenN (ev T env v).cells) (T.size t) with
    | false => rw [h3] at hx; exact (H.fail hx).elim
    | true =>
     rw [h3] at hx
     simp only at hx ⊢
     cases h4 : Nat.ble (off + T.size t) (lenN (S.row o)) with
     | false => rw [h4] at hx; exact (H.fail hx).elim
     | true =>
      rw [h4] at hx
      simp only at hx ⊢
      cases h5 : Nat.ble 1 (T.size t) with
      | true => rw [h5] at hx; exact hk _ _ hx
      | false =>
       rw [h5] at hx
       simp only at hx ⊢
       cases h6 : (ev T env v).cells with
       | nil =>
        rw [h6] at hx
        simp only at hx ⊢
        cases h7 : T.has t with
        | true => rw [h7] at hx; exact hk _ _ hx
        | false => rw [h7] at hx; exact (H.fail hx).elim
       | cons => rw [h6] at hx; exact (H.fail hx).elim
  | mpt e o vv i d =>
   rw [h1] at hx
   dsimp only at hx ⊢
   cases h7 : St.vecX T.X S e o vv with
   | none => rw [h7] at hx; exact (H.fail hx).elim
   | some p =>
    obtain ⟨full, cs⟩ := p
    rw [h7] at hx
    dsimp only at hx ⊢
    cases h2 : fitsH T t (ev T env v) with
    | false => rw [h2] at hx; exact (H.fail hx).elim
    | true =>
     rw [h2] at hx
     dsimp only at hx ⊢
     cases h3 : Nat.beq t e with
     | true =>
      rw [h3] at hx
      cases d with
      | zero => exact H.need _ _ _ hx fun hx => hk _ _ hx
      | succ d => exact (H.fail hx).elim
     | false =>
      rw [h3] at hx
      dsimp only at hx ⊢
      cases h4 : T.agg e with
      | false => rw [h4] at hx; exact (H.fail hx).elim
      | true =>
       rw [h4] at hx
       dsimp only at hx ⊢
       cases h5 : Nat.ble (d + T.size t) (T.size e) with
       | false => rw [h5] at hx; exact (H.fail hx).elim
       | true => rw [h5] at hx; exact H.need _ _ _ hx fun hx => hk _ _ hx
  | _ => rw [h1] at hx; exact (H.fail hx).elim
 | panic x =>
  simp only [xeff] at hx ⊢
  cases h1 : ev T env x with
  | iface t v => rw [h1] at hx; exact hp _ _ hx
  | _ => rw [h1] at hx; exact (H.fail hx).elim
 | call c =>
  cases hc : c.callee with
  | builtin b =>
   by_cases hb : b = .append
   · subst hb
     simp only [xeff, hc] at hx ⊢
     split
     · rename_i x y t u ha ht
       simp only [ha, ht] at hx
       cases h0 : msfOf (ev T env x) with
       | some q =>
        obtain ⟨e, o, v, i, n, cc⟩ := q
        rw [h0] at hx
        exact xappF_hom H hk hx
       | none =>
       rw [h0] at hx
       dsimp only at hx ⊢
       cases h1 : Nat.beq t u with
       | true => rw [h1] at hx; exact xappend_hom H hk hx
       | false =>
        rw [h1] at hx
        simp only at hx ⊢
        split
        · rename_i q1 q2 s q3 q4
          simp only [q3, q4] at hx
          split
          · rename_i e q5
            simp only [q5] at hx
            split
            · rename_i q6
              simp only [q6] at hx
              exact xappend_hom H hk hx
            · rename_i q6
              split at hx
              · rename_i q7
                exact (q6 q7).elim
              · exact (H.fail hx).elim
          · rename_i q6
            split at hx
            · rename_i q7
              exact (q6 _ q7).elim
            · exact (H.fail hx).elim
        · rename_i q6
          split at hx
          · rename_i s q7 q8
            exact (q6 _ q7 q8).elim
          · exact (H.fail hx).elim
     · rename_i hne
       split at hx
       · rename_i x y t u ha ht
         exact (hne _ _ _ _ ha ht).elim
       · exact (H.fail hx).elim
   · by_cases hb2 : b = .copy
     · subst hb2
       simp only [xeff, hc] at hx ⊢
       split
       · rename_i x y t u ha ht
         simp only [ha, ht] at hx
         cases h1 : Nat.beq t u with
         | false => rw [h1] at hx; exact (H.fail hx).elim
         | true =>
          rw [h1] at hx
          dsimp only at hx ⊢
          cases h0 : rowOf (ev T env x) with
          | none => rw [h0] at hx; exact (H.fail hx).elim
          | some q =>
           obtain ⟨e, o, v, i, n⟩ := q
           rw [h0] at hx
           exact xcopy_hom H hk hx
       · rename_i hne
         split at hx
         · rename_i x y t u ha ht
           exact (hne _ _ _ _ ha ht).elim
         · exact (H.fail hx).elim
     · by_cases hb3 : b = .clear
       · subst hb3
         simp only [xeff, hc] at hx ⊢
         split
         · rename_i x t ha ht
           simp only [ha, ht] at hx
           cases h0 : rowOf (ev T env x) with
           | none => rw [h0] at hx; exact (H.fail hx).elim
           | some q =>
            obtain ⟨e, o, v, i, n⟩ := q
            rw [h0] at hx
            exact xclear_hom H hk hx
         · rename_i hne
           split at hx
           · rename_i x t ha ht
             exact (hne _ _ ha ht).elim
           · exact (H.fail hx).elim
       · simp only [xeff, hc] at hx ⊢
         cases b <;> first | exact absurd rfl hb | exact absurd rfl hb2 | exact absurd rfl hb3 | exact (H.fail hx).elim
  | value f =>
   simp only [xeff, hc] at hx ⊢
   cases h1 : ev T env f with
   | func fid p q =>
    rw [h1] at hx
    refine H.call _ _ _ _ _ hx fun o S hx => ?_
    cases o with
    | ret v => exact hk _ _ hx
    | panic v => exact hp _ _ hx
   | _ => rw [h1] at hx; exact (H.fail hx).elim
  | invoke r n => simp only [xeff, hc] at hx; exact (H.fail hx).elim
 | _ => exact (H.fail hx).elim
theorem xop_hom {env : Env} {S : St} {op : Op} {Pa K : AV → St → R} {Pa' K' : AV → St → Prop} (hp : ∀ v S, h (Pa v S) → Pa' v S) (hk : ∀ v S, h (K v S) → K' v S) (hx : h (xop A T env S op Pa K)) :
  xop B T env S op Pa' K' := by
 unfold xop at hx ⊢
 generalize xpure T env S op = r at hx ⊢
 cases r with
 | ok v => exact hk _ _ hx
 | need b v => exact H.need _ _ _ hx fun hx => hk _ _ hx
 | new row => exact hk _ _ hx
 | vec e cs => exact hk _ _ hx
 | no => exact xeff_hom H hp hk hx
theorem xopD_hom {env : Env} {S : St} {op : Op} {Pa K : AV → St → R} {Pa' K' : AV → St → Prop} (hp : ∀ v S, h (Pa v S) → Pa' v S) (hk : ∀ v S, h (K v S) → K' v S) (hx : h (xopD A T env S op Pa K)) :
  xopD B T env S op Pa' K' := by
 exact xop_hom H hp hk hx
theorem againRun_hom {env : Env} {S : St} {o : Oper} {k : R} {k' : Prop} (hk : h k → k') (hx : h (againRun A T env S o k)) : againRun B T env S o k' := by
 unfold againRun at hx ⊢
 generalize o.dst = dd at hx ⊢
 cases dd with
 | none => exact (H.fail hx).elim
 | some d =>
  simp only at hx ⊢
  generalize xpure T env S o.op = r at hx ⊢
  cases r with
  | ok w => exact H.same _ _ _ _ hx hk
  | need b w => exact H.need _ _ _ hx fun hx => H.same _ _ _ _ hx hk
  | new row =>
   simp only at hx ⊢
   cases hv : env.get d with
   | ptr ob off => rw [hv] at hx; exact H.same _ _ _ _ hx hk
   | _ => rw [hv] at hx; exact (H.fail hx).elim
  | vec e cs =>
   simp only at hx ⊢
   cases hv : env.get d with
   | msl e' ob v i n => rw [hv] at hx; exact H.same _ _ _ _ hx fun hx => H.same _ _ _ _ hx hk
   | _ => rw [hv] at hx; exact (H.fail hx).elim
  | no => exact (H.fail hx).elim
theorem again_hom {all : List Oper} {env : Env} {S : St} {o : Oper} {k : R} {k' : Prop} (hk : h k → k') (hx : h (again A T all env S o k)) : again B T all env S o k' := by
 unfold again at hx ⊢
 generalize o.guard = gd at hx ⊢
 cases gd with
 | none => exact againRun_hom H hk hx
 | some jw =>
  obtain ⟨j, want⟩ := jw
  simp only at hx ⊢
  cases hy : yieldOf all env j with
  | bool b =>
   rw [hy] at hx
   cases b <;> cases want
   · exact againRun_hom H hk hx
   · exact hk hx
   · exact hk hx
   · exact againRun_hom H hk hx
  | tup vs =>
   rw [hy] at hx
   cases vs with
   | nil => exact hk hx
   | cons => exact (H.fail hx).elim
  | _ => rw [hy] at hx; exact (H.fail hx).elim
theorem againAll_hom {all : List Oper} {env : Env} {S : St} {k : R} {k' : Prop} (hk : h k → k') : ∀ {l : List Nat}, h (againAll A T all env S l k) → againAll B T all env S l k' := by
 intro l
 induction l with
 | nil => exact hk
 | cons i l ih =>
  intro hx
  simp only [againAll] at hx ⊢
  cases ho : opAt all i with
  | none => rw [ho] at hx; exact (H.fail hx).elim
  | some o => rw [ho] at hx; exact again_hom H ih hx
theorem xops_hom {all : List Oper} {fl : List (Nat × List Nat)} {Pa : AV → St → R} {Pa' : AV → St → Prop} {K : Env → St → R} {K' : Env → St → Prop} (hp : ∀ v S, h (Pa v S) → Pa' v S) (hk : ∀ env S, h (K env S) → K' env S) :
  ∀ {l : List (Nat × Oper)} {env : Env} {S : St}, h (xops A T all fl Pa K l env S) → xops B T all fl Pa' K' l env S := by
 intro l
 induction l with
 | nil => intro env S hx; exact hk _ _ hx
 | cons p l ih =>
  intro env S hx
  obtain ⟨i, o⟩ := p
  simp only [xops] at hx ⊢
  cases hg : o.guard with
  | none => rw [hg] at hx; exact xopD_hom H hp (fun v S hx => againAll_hom H ih hx) hx
  | some jw =>
   obtain ⟨j, want⟩ := jw
   rw [hg] at hx
   simp only at hx ⊢
   cases hy : yieldOf all env j with
   | bool b =>
    rw [hy] at hx
    cases b <;> cases want
    · exact xopD_hom H hp (fun v S hx => againAll_hom H ih hx) hx
    · exact ih hx
    · exact ih hx
    · exact xopD_hom H hp (fun v S hx => againAll_hom H ih hx) hx
   | tup vs =>
    rw [hy] at hx
    cases vs with
    | nil => exact ih hx
    | cons => exact (H.fail hx).elim
   | _ => rw [hy] at hx; exact (H.fail hx).elim
theorem xopsE_hom {all : List Oper} {Pa : Env → AV → St → R} {Pa' : Env → AV → St → Prop} {K : Env → St → R} {K' : Env → St → Prop} (hp : ∀ env v S, h (Pa env v S) → Pa' env v S) (hk : ∀ env S, h (K env S) → K' env S) :
  ∀ {l : List (Nat × Oper)} {env : Env} {S : St}, h (xopsE A T all Pa K l env S) → xopsE B T all Pa' K' l env S := by
 intro l
 induction l with
 | nil => intro env S hx; exact hk _ _ hx
 | cons p l ih =>
  intro env S hx
  obtain ⟨i, o⟩ := p
  simp only [xopsE] at hx ⊢
  cases hg : o.guard with
  | none => rw [hg] at hx; exact xop_hom H (hp env) (fun v S hx => ih hx) hx
  | some jw =>
   obtain ⟨j, want⟩ := jw
   rw [hg] at hx
   simp only at hx ⊢
   cases hy : yieldOf all env j with
   | bool b =>
    rw [hy] at hx
    cases b <;> cases want
    · exact xop_hom H (hp env) (fun v S hx => ih hx) hx
    · exact ih hx
    · exact ih hx
    · exact xop_hom H (hp env) (fun v S hx => ih hx) hx
   | tup vs =>
    rw [hy] at hx
    cases vs with
    | nil => exact ih hx
    | cons => exact (H.fail hx).elim
   | _ => rw [hy] at hx; exact (H.fail hx).elim
theorem xcode_hom {ann : List (Nat × Ann)} {un : Nat} : ∀ {c : Code} {K : Ex → Env → St → R} {K' : Ex → Env → St → Prop} {env : Env} {S : St}, (∀ e env S, h (K e env S) → K' e env S) → h (xcode A T ann un c K env S) →
  xcode B T ann un c K' env S := by
 intro c
 induction c with
 | skip => intro K K' env S hk hx; exact hk _ _ _ hx
 | region id ops draw =>
  intro K K' env S hk hx
  simp only [xcode, xregion] at hx ⊢
  cases ha : annOf ann id with
  | none =>
   rw [ha] at hx
   simp only at hx ⊢
   cases hs : soleNew T ops.toList with
   | none => rw [hs] at hx; exact xopsE_hom H (fun env v S hx => hk _ _ _ hx) (fun env S hx => hk _ _ _ hx) hx
   | some dt => obtain ⟨d, t⟩ := dt; rw [hs] at hx; exact hk _ _ _ hx
  | some a =>
   rw [ha] at hx
   dsimp only at hx ⊢
   cases ho : a.order with
   | nil => rw [ho] at hx; exact (H.fail hx).elim
   | cons i0 l0 => rw [ho] at hx; exact xops_hom H (fun v S hx => hk _ _ _ hx) (fun env S hx => hk _ _ _ hx) hx
 | seq x y ihx ihy =>
  intro K K' env S hk hx
  simp only [xcode] at hx ⊢
  refine ihx (fun e env S hx => ?_) hx
  cases e with
  | normal => exact ihy hk hx
  | _ => exact hk _ _ _ hx
 | cond c x y ihx ihy =>
  intro K K' env S hk hx
  simp only [xcode] at hx ⊢
  cases hc : ev T env c with
  | bool t =>
   rw [hc] at hx
   cases t
   · exact ihy hk hx
   · exact ihx hk hx
  | _ => rw [hc] at hx; exact (H.fail hx).elim
 | block id x ih =>
  intro K K' env S hk hx
  simp only [xcode] at hx ⊢
  refine ih (fun e env S hx => ?_) hx
  cases e with
  | normal => exact hk _ _ _ hx
  | exit i =>
   simp only at hx ⊢
   cases hb : Nat.beq i id with
   | true => rw [hb] at hx; exact hk _ _ _ hx
   | false => rw [hb] at hx; exact hk _ _ _ hx
  | _ => exact hk _ _ _ hx
 | loop x ih =>
  intro K K' env S hk hx
  cases un with
  | zero => exact H.loop _ _ _ _ _ hx hk
  | succ n =>
   simp only [xcode] at hx ⊢
   have key : ∀ (k : Nat) (env : Env) (S : St), h (xloop (xcode A T ann (n + 1) x) A.fail K k env S) → xloop (xcode B T ann (n + 1) x) B.fail K' k env S := by
    intro k
    induction k with
    | zero => intro env S hx; exact (H.fail hx).elim
    | succ k ihk =>
     intro env S hx
     simp only [xloop] at hx ⊢
     refine ih (fun e env S hx => ?_) hx
     cases e with
     | normal => exact ihk _ _ hx
     | _ => exact hk _ _ _ hx
   exact key _ _ _ hx
 | exit i => intro K K' env S hk hx; exact hk _ _ _ hx
 | ret => intro K K' env S hk hx; exact hk _ _ _ hx
 | label l => intro K K' env S hk hx; exact hk _ _ _ hx
 | scope x ih => intro K K' env S hk hx; exact ih hk hx
 | _ => intro K K' env S hk hx; exact (H.fail hx).elim
theorem xbody_hom {un : Nat} {fi : FnI} {args : List AV} {S : St} {K : Out → St → R} {K' : Out → St → Prop} (hk : ∀ o S, h (K o S) → K' o S) (hx : h (xbody A T un fi args S K)) : xbody B T un fi args S K' := by
 have hret : ∀ env S, h (xret A T fi.results env S K) → xret B T fi.results env S K' := by
  intro env S hx
  unfold xret at hx ⊢
  cases hr : resAll T env S fi.results with
  | none => rw [hr] at hx; exact (H.fail hx).elim
  | some l => rw [hr] at hx; exact hk _ _ hx
 unfold xbody at hx ⊢
 refine xcode_hom H (fun e env S hx => ?_) hx
 cases e with
 | normal => exact hret _ _ hx
 | ret => exact hret _ _ hx
 | panic v => exact hk _ _ hx
 | exit i => exact (H.fail hx).elim
end
def modeEq : Mode → Mode → Bool
 | .no, .no => true
 | .exact, .exact => true
 | .own j, .own k => Nat.beq j k
 | _, _ => false
mutual
def avEq : AV → AV → Bool
 | .int k n, .int k' n' => decide (k = k') && decide (n = n')
 | .bool b, .bool b' => b == b'
 | .str s, .str s' => s == s'
 | .ptr o f, .ptr o' f' => Nat.beq o o' && Nat.beq f f'
 | .mpt e o v i d, .mpt e' o' v' i' d' => Nat.beq e e' && Nat.beq o o' && Nat.beq v v' && decide (i = i') && Nat.beq d d'
 | .msl e o v i n, .msl e' o' v' i' n' => Nat.beq e e' && Nat.beq o o' && Nat.beq v v' && decide (i = i') && decide (n = n')
 | .nilp, .nilp => true
 | .nilf, .nilf => true
 | .nili, .nili => true
 | .slice e cs m, .slice e' cs' m' => Nat.beq e e' && modeEq m m' && avEqL cs cs'
 | .func f a b, .func f' a' b' => Nat.beq f f' && avEqL a a' && avEqL b b'
 | .iface t v, .iface t' v' => Nat.beq t t' && avEq v v'
 | .agg l, .agg m => avEqL l m
 | .tup l, .tup m => avEqL l m
 | .undef, .undef => true
 | _, _ => false
def avEqL : List AV → List AV → Bool
 | [], [] => true
 | a :: l, b :: m => avEq a b && avEqL l m
 | _, _ => false
end
theorem modeEq_eq {a b : Mode} (h : modeEq a b = true) : a = b := by
 cases a <;> cases b <;> simp only [modeEq] at h <;> first | rfl | cases h | rw [Nat.eq_of_beq_eq_true h]
mutual
theorem avEq_eq : ∀ {a b : AV}, avEq a b = true → a = b := by
 intro a b h
 cases a <;> cases b <;> simp only [avEq, Bool.and_eq_true, decide_eq_true_eq, beq_iff_eq] at h <;> first | rfl | (cases h; done) | skip
 · obtain ⟨rfl, rfl⟩ := h; rfl
 · subst h; rfl
 · subst h; rfl
 · rw [Nat.eq_of_beq_eq_true h.1, Nat.eq_of_beq_eq_true h.2]
 all_goals first
  | (obtain ⟨⟨⟨⟨h1, h2⟩, h3⟩, h4⟩, h5⟩ := h; rw [Nat.eq_of_beq_eq_true h1, Nat.eq_of_beq_eq_true h2, Nat.eq_of_beq_eq_true h3, h4]; first | rw [Nat.eq_of_beq_eq_true h5] | rw [h5]; done)
  | skip
 · rw [Nat.eq_of_beq_eq_true h.1.1, modeEq_eq h.1.2, avEqL_eq h.2]
 · rw [Nat.eq_of_beq_eq_true h.1.1, avEqL_eq h.1.2, avEqL_eq h.2]
 · rw [Nat.eq_of_beq_eq_true h.1, avEq_eq h.2]
 · rw [avEqL_eq h]
 · rw [avEqL_eq h]
theorem avEqL_eq : ∀ {l m : List AV}, avEqL l m = true → l = m
 | [], [], _ => rfl
 | a :: l, b :: m, h => by
  simp only [avEqL, Bool.and_eq_true] at h
  rw [avEq_eq h.1, avEqL_eq h.2]
 | [], _ :: _, h => by simp [avEqL] at h
 | _ :: _, [], h => by simp [avEqL] at h
end
section
variable {P : Program} {T : Tab} (hT : TabOk P T) (hm : P.follows .mixedOrders = true) {fns : FuncId → Option FnI} (hf : ∀ f fi, fns f = some fi → FnOk P f fi)
include hT hm hf
end
end Go.AM
namespace Go.AM
def eqFieldsOk (P : Program) : Nat → List Field → List Z → Bool
 | _, [], [] => true
 | n, f :: fs, z :: zs => Nat.beq f.offset n && decide (f.name ≠ "_") && (match P.underlying f.type, z with
   | some (.int _), .i _ => true
   | some .string, .s => true
   | some .bool, .b => true
   | _, _ => false) && eqFieldsOk P (n + 1) fs zs
 | _, _, _ => false
def eqOkB (P : Program) (T : Tab) (t : TypeId) : Bool :=
 (match P.underlying t, T.ty t with
   | some (.struct fs), .struct _ zs => eqFieldsOk P 0 fs.toList zs
   | _, _ => false) && !P.stoodInHeld t && !P.eqGuardType P.depth t
def eqsOk (P : Program) (T : Tab) : Bool := T.eqs.all (eqOkB P T)
section
variable {P : Program} {T : Tab} {g : Ghost} {w : World}
theorem isAgg_base {t : TypeId} {d : TypeDesc} (hd : P.underlying t = some d) (h : isAggD d = false) : (isAgg t).run P w = .ok false w := by
 cases d <;> simp [isAgg, run_underlying hd, isAggD] at h ⊢
theorem part_base {t : TypeId} {d : TypeDesc} (hd : P.underlying t = some d) (h : isAggD d = false) {cs : Array Value} {n : Nat} {v : Value} (hv : cs[n]? = some v) : (Go.part t cs n).run P w = .ok v w := by
 unfold Go.part
 simp [isAgg_base hd h, hv]
theorem eqFields_run (d : Nat) (a b : List AV) (xs ys : List Value) (hxa : xs.length = a.length) (hyb : ys.length = b.length) (hA : ∀ j, j < a.length → Rep T w g (nth a j) (xs.getD j undef))
  (hB : ∀ j, j < b.length → Rep T w g (nth b j) (ys.getD j undef)) : ∀ (fs : List Field) (zs : List Z) (n : Nat) (r : Bool), eqFieldsOk P n fs zs = true → eqCells real zs (a.drop n) (b.drop n) = some r →
  (Op.eqFields (d + 1) xs.toArray ys.toArray fs).run P w = .ok r w := by
 intro fs
 induction fs with
 | nil =>
  intro zs n r hok hr
  cases zs with
  | cons => simp [eqFieldsOk] at hok
  | nil =>
   generalize a.drop n = p at hr
   generalize b.drop n = q at hr
   cases p <;> cases q <;> simp [eqCells] at hr
   subst hr
   rfl
 | cons f fs ih =>
  intro zs n r hok hr
  cases zs with
  | nil => simp [eqFieldsOk] at hok
  | cons z zs =>
   simp only [eqFieldsOk, Bool.and_eq_true, decide_eq_true_eq] at hok
   obtain ⟨⟨⟨h1, h2⟩, h3⟩, h5⟩ := hok
   have h1' : f.offset = n := Nat.eq_of_beq_eq_true h1
   have hna : n < a.length := by
    rcases Nat.lt_or_ge n a.length with h | h
    · exact h
    · rw [List.drop_eq_nil_of_le h] at hr; simp [eqCells] at hr
   have hnb : n < b.length := by
    rcases Nat.lt_or_ge n b.length with h | h
    · exact h
    · rw [List.drop_eq_nil_of_le h] at hr
      generalize a.drop n = p at hr
      cases p <;> simp [eqCells] at hr
   have hRa := hA n hna
   have hRb := hB n hnb
   rw [List.drop_eq_getElem_cons hna, List.drop_eq_getElem_cons hnb] at hr
   have ea : nth a n = a[n] := by rw [nth_eq]; simp [List.getD_eq_getElem?_getD, hna]
   have eb : nth b n = b[n] := by rw [nth_eq]; simp [List.getD_eq_getElem?_getD, hnb]
   rw [ea] at hRa
   rw [eb] at hRb
   have hxn : xs.toArray[n]? = some (xs.getD n undef) := by
    have : n < xs.length := by omega
    simp [List.getD_eq_getElem?_getD, this]
   have hyn : ys.toArray[n]? = some (ys.getD n undef) := by
    have : n < ys.length := by omega
    simp [List.getD_eq_getElem?_getD, this]
   generalize xs.getD n undef = xv at hRa hxn
   generalize ys.getD n undef = yv at hRb hyn
   have go : ∀ (dd : TypeDesc) (c r' : Bool), P.underlying f.type = some dd → isAggD dd = false → (Op.equalIn (d + 1) f.type xv yv).run P w = .ok c w → eqCells real zs (a.drop (n + 1)) (b.drop (n + 1)) = some r' → (c && r') = r →
     (Op.eqFields (d + 1) xs.toArray ys.toArray (f :: fs)).run P w = .ok r w := by
    intro dd c r' hdd hag heq hr' hcr
    simp only [Op.eqFields, if_pos h2, h1', Sem.run_bind, part_base hdd hag hxn, part_base hdd hag hyn, Result.andThen_ok, heq]
    cases c
    · simp at hcr ⊢; exact hcr
    · simp at hcr ⊢; rw [← hcr]; exact ih zs (n + 1) r' h5 hr'
   generalize a[n] = u at hRa hr
   generalize b[n] = v at hRb hr
   cases hu : P.underlying f.type with
   | none => simp [hu] at h3
   | some dd =>
    cases z with
    | i k0 =>
     cases u with
     | int j x =>
      cases v with
      | int k y =>
       simp only [eqCells] at hr
       split at hr
       · rename_i hjk
         have hjk' : j = k := of_decide_eq_true hjk
         subst hjk'
         split at hr
         · rename_i r' hr'
           simp only [Option.some.injEq] at hr
           cases hRa; cases hRb
           have hdd : ∃ k', dd = .int k' := by
            rw [hu] at h3
            cases dd <;> simp at h3
            exact ⟨_, rfl⟩
           obtain ⟨k', rfl⟩ := hdd
           exact go _ (x == y) r' hu rfl (run_equalIn_int w d f.type j k' x y hu) hr' hr
         · cases hr
       · cases hr
      | _ => simp [eqCells] at hr
     | _ => simp [eqCells] at hr
    | s =>
     cases u with
     | str x =>
      cases v with
      | str y =>
       simp only [eqCells] at hr
       split at hr
       · rename_i r' hr'
         simp only [Option.some.injEq] at hr
         cases hRa; cases hRb
         have hdd : dd = .string := by
          rw [hu] at h3
          cases dd <;> simp at h3
          rfl
         subst hdd
         refine go _ (x == y) r' hu rfl ?_ hr' hr
         rw [run_equalIn_string w d f.type _ _ hu]
         simp [ByteArray.toList_eq]
       · cases hr
      | _ => simp [eqCells] at hr
     | _ => simp [eqCells] at hr
    | b =>
     cases u with
     | bool x =>
      cases v with
      | bool y =>
       simp only [eqCells] at hr
       split at hr
       · rename_i r' hr'
         simp only [Option.some.injEq] at hr
         cases hRa; cases hRb
         have hdd : dd = .bool := by
          rw [hu] at h3
          cases dd <;> simp at h3
          rfl
         subst hdd
         exact go _ (x == y) r' hu rfl (run_equalIn_bool' w d f.type x y hu) hr' hr
       · cases hr
      | _ => simp [eqCells] at hr
     | _ => simp [eqCells] at hr
    | _ => simp [eqCells] at hr
theorem eqOk_of {t : TypeId} (h : eqOkB P T t = true) : EqOk P T t := by
 intro op xo yo w g fs zs a b x y r hty hx hy hr
 simp only [eqOkB, Bool.and_eq_true, Bool.not_eq_true'] at h
 obtain ⟨⟨h1, h2⟩, h3⟩ := h
 rw [hty] at h1
 cases hu : P.underlying t with
 | none => simp [hu] at h1
 | some d =>
  rw [hu] at h1
  cases d <;> simp only at h1 <;> try (cases h1; done)
  rename_i fields
  cases hx with
  | agg _ _ xs hl hone hR =>
   cases hy with
   | agg _ _ ys hl' hone' hR' =>
    refine ⟨run_eqGuard_agg w op t xo yo _ _ h3, ?_⟩
    have hf : P.fieldsOf t = fields := by simp [Program.fieldsOf, hu]
    have := run_equalIn_struct (P := P) w 9999 t xs.toArray ys.toArray (by rw [hf]; exact hu) h2
    unfold Op.equal
    show (Op.equalIn 10000 t _ _).run P w = _
    rw [this, hf]
    exact eqFields_run 9998 a b xs ys hl hl' hR hR' fields.toList zs 0 r h1 (by simpa using hr)
theorem eqsOk_of (h : eqsOk P T = true) (t : TypeId) (ht : memN T.eqs t = true) : EqOk P T t := by
 have key : ∀ l : List TypeId, l.all (eqOkB P T) = true → memN l t = true → eqOkB P T t = true := by
  intro l
  induction l with
  | nil => intro _ h; cases h
  | cons x l ih =>
   intro ha hm
   simp only [List.all_cons, Bool.and_eq_true] at ha
   simp only [memN] at hm
   cases hb : Nat.beq x t with
   | true => rw [← Nat.eq_of_beq_eq_true hb]; exact ha.1
   | false => rw [hb] at hm; exact ih ha.2 hm
 exact eqOk_of (key _ h ht)
end
end Go.AM
namespace Go.AM
def renM (h : Nat → Option Nat) : Mode → Mode
 | .own k => match h k with
  | some k' => .own k'
  | none => .no
 | m => m
mutual
def AV.ren (f h : Nat → Option Nat) : AV → AV
 | .ptr o off => match f o with
  | some o' => .ptr o' off
  | none => .undef
 | .slice e cs m => .slice e cs (renM h m)
 | .func fid a b => .func fid (renL f h a) (renL f h b)
 | .iface t v => .iface t (AV.ren f h v)
 | .agg cs => .agg (renL f h cs)
 | .tup vs => .tup (renL f h vs)
 | .int k n => .int k n
 | .bool b => .bool b
 | .str s => .str s
 | .eptr t e off => .eptr t e off
 | .nilp => .nilp
 | .anyInt k => .anyInt k
 | .tnil o t => match f o with
  | some o' => .tnil o' t
  | none => .nilp
 | .nilf => .nilf
 | .nili => .nili
 | .undef => .undef
 | .msl e o v i n => match f o with
  | some o' => .msl e o' v i n
  | none => .undef
 | .msf e o v i n c => match f o with
  | some o' => .msf e o' v i n c
  | none => .undef
 | .mpt e o v i d => match f o with
  | some o' => .mpt e o' v i d
  | none => .undef
 | .mrow e v full cs => .mrow e v full (renL f h cs)
def renL (f h : Nat → Option Nat) : List AV → List AV
 | [] => []
 | v :: l => AV.ren f h v :: renL f h l
end
theorem renL_len (f h : Nat → Option Nat) : ∀ l : List AV, (renL f h l).length = l.length
 | [] => rfl
 | v :: l => by simp [renL, renL_len f h l]
theorem renL_nth (f h : Nat → Option Nat) : ∀ (l : List AV) (j : Nat), j < l.length → nth (renL f h l) j = (nth l j).ren f h
 | [], j, hj => by simp at hj
 | v :: l, 0, _ => rfl
 | v :: l, j + 1, hj => by simpa [renL, nth] using renL_nth f h l j (by simpa using hj)
def Out.ren (f h : Nat → Option Nat) : Out → Out
 | .ret v => .ret (v.ren f h)
 | .panic v => .panic (v.ren f h)
theorem Rep.ren {T : Tab} {w : World} {f h : Nat → Option Nat} {g : Ghost} {v : AV} {x : Value} (hr : Rep T w g v x) : ∀ {g' : Ghost}, (∀ o b o', g.ρ o = some b → f o = some o' → g'.ρ o' = some b) →
  (∀ k tk k', g.τ k = some tk → h k = some k' → g'.τ k' = some tk) → (∀ b off, g.D b off → g'.D b off) → (∀ o tk o', g.α o = some tk → f o = some o' → g'.α o' = some tk) → Rep T w g' (v.ren f h) x := by
 have flatK : ∀ (g g' : Ghost), (∀ b off, g.D b off → g'.D b off) → Keeps g.flat w g'.flat w := fun g g' hD =>
  ⟨fun _ _ e => by simp [Ghost.flat] at e, fun _ _ e => by simp [Ghost.flat] at e, hD, fun _ _ _ => rfl, fun _ c _ fr h => ⟨c, fr, h⟩, fun _ _ e => by simp [Ghost.flat] at e⟩
 induction hr with
 | int g k n => intro g' _ _ _ _; exact .int ..
 | bool g b => intro g' _ _ _ _; exact .bool ..
 | str g s => intro g' _ _ _ _; exact .str ..
 | ptr g o off b hb =>
  intro g' h1 _ _ _
  simp only [AV.ren]
  cases hf : f o with
  | none => exact .undef _ _
  | some o' => exact .ptr _ _ _ _ (h1 o b o' hb hf)
 | eptr g t e off b base xs hf hc h1 hD hR ih =>
  intro g' _ _ h3 _
  exact .eptr g' t e off b base xs hf hc h1 (fun j hj => h3 _ _ (hD j hj)) (fun j hj => (hR j hj).keeps (flatK g g' h3))
 | nilp g => intro g' _ _ _ _; exact .nilp _
 | anyInt g k m => intro g' _ _ _ _; exact .anyInt ..
 | tnil g o t b c fr hb hc =>
  intro g' h1 _ _ _
  simp only [AV.ren]
  cases hf : f o with
  | none => exact .nilp _
  | some o' => exact .tnil _ o' t b c fr (h1 o b o' hb hf) hc
 | slice g e cs m a cap b base xs hcap hmax hm ho ha hf hc h1 hD hR ih =>
  intro g' _ h2 h3 _
  simp only [AV.ren]
  refine .slice g' e cs (renM h m) a cap b base xs hcap hmax ?_ ?_ ha hf hc h1 (fun i j hi hj => h3 _ _ (hD i j hi hj)) (fun i j hi hj => (hR i j hi hj).keeps (flatK g g' h3))
  · cases m with
    | own k => simp only [renM]; split <;> simp
    | no => simp [renM]
    | exact => exact hm
    | empty => exact hm
  · intro k hk
    cases m with
    | no => cases hk
    | exact => cases hk
    | empty => cases hk
    | own k0 =>
     simp only [renM] at hk
     cases hh : h k0 with
     | none => rw [hh] at hk; cases hk
     | some k' =>
      rw [hh] at hk
      simp only [Mode.own.injEq] at hk
      subst hk
      obtain ⟨tk, ht, rest⟩ := ho k0 rfl
      exact ⟨tk, h2 k0 tk _ ht hh, rest⟩
 | func g fid first cap fs cs h1 h2 hf hc ih1 ih2 =>
  intro g' q1 q2 q3 q4
  simp only [AV.ren]
  refine .func g' fid _ _ fs cs (by rw [renL_len]; exact h1) (by rw [renL_len]; exact h2) ?_ ?_
  · intro j hj
    rw [renL_len] at hj
    rw [renL_nth _ _ _ _ hj]
    exact ih1 j hj q1 q2 q3 q4
  · intro j hj
    rw [renL_len] at hj
    rw [renL_nth _ _ _ _ hj]
    exact ih2 j hj q1 q2 q3 q4
 | nilf g => intro g' _ _ _ _; exact .nilf _
 | iface g t v x _ ih => intro g' q1 q2 q3 q4; exact .iface _ _ _ _ (ih q1 q2 q3 q4)
 | nili g => intro g' _ _ _ _; exact .nili _
 | agg g cs xs hl h1 _ ih =>
  intro g' q1 q2 q3 q4
  simp only [AV.ren]
  refine .agg _ _ _ (by rw [renL_len]; exact hl) h1 fun j hj => ?_
  rw [renL_len] at hj
  rw [renL_nth _ _ _ _ hj]
  exact ih j hj q1 q2 q3 q4
 | tup g cs xs hl _ ih =>
  intro g' q1 q2 q3 q4
  simp only [AV.ren]
  refine .tup _ _ _ (by rw [renL_len]; exact hl) fun j hj => ?_
  rw [renL_len] at hj
  rw [renL_nth _ _ _ _ hj]
  exact ih j hj q1 q2 q3 q4
 | undef g x => intro g' _ _ _ _; exact .undef _ _
 | msl g e o v i n a cap tk ht he hv hn hcn hmax hst hc =>
  intro g' _ _ _ h4
  simp only [AV.ren]
  cases hf : f o with
  | none => exact .undef _ _
  | some o' => exact .msl _ e o' v i n a cap tk (h4 o tk o' ht hf) he hv hn hcn hmax hst hc
 | msf g e o v i n c a tk ht he hv hn hst hc =>
  intro g' _ _ _ h4
  simp only [AV.ren]
  cases hf : f o with
  | none => exact .undef _ _
  | some o' => exact .msf _ e o' v i n c a tk (h4 o tk o' ht hf) he hv hn hst hc
 | mpt g e o v i d b0 p0 tk ht he hv hc =>
  intro g' _ _ _ h4
  simp only [AV.ren]
  cases hf : f o with
  | none => exact .undef _ _
  | some o' => exact .mpt _ e o' v i d b0 p0 tk (h4 o tk o' ht hf) he hv hc
theorem ren_cells (f h : Nat → Option Nat) (v : AV) : (v.ren f h).cells = renL f h v.cells := by
 cases v with
 | ptr o off => show (AV.ren f h (.ptr o off)).cells = [AV.ren f h (.ptr o off)]; simp only [AV.ren]; cases f o <;> rfl
 | tnil o t => show (AV.ren f h (.tnil o t)).cells = [AV.ren f h (.tnil o t)]; simp only [AV.ren]; cases f o <;> rfl
 | msl e o v i n => show (AV.ren f h (.msl e o v i n)).cells = [AV.ren f h (.msl e o v i n)]; simp only [AV.ren]; cases f o <;> rfl
 | msf e o v i n c => show (AV.ren f h (.msf e o v i n c)).cells = [AV.ren f h (.msf e o v i n c)]; simp only [AV.ren]; cases f o <;> rfl
 | mpt e o v i n => show (AV.ren f h (.mpt e o v i n)).cells = [AV.ren f h (.mpt e o v i n)]; simp only [AV.ren]; cases f o <;> rfl
 | _ => rfl
theorem Fit.ren {T : Tab} {t : TypeId} {v : AV} (hf : Fit T t v) (f h : Nat → Option Nat) : Fit T t (v.ren f h) := by
 rcases hf with ⟨h1, cs, rfl, h2⟩ | ⟨h1, h2, h3⟩
 · exact .inl ⟨h1, _, rfl, by rw [renL_len]; exact h2⟩
 · refine .inr ⟨h1, h2, ?_⟩
   rw [ren_cells, h3]; rfl
theorem VecOk.ren {T : Tab} {w : World} {f h : Nat → Option Nat} {g g' : Ghost} {row : List AV} {tk : VTok} (hv : VecOk T w g row tk) (h1 : ∀ o b o', g.ρ o = some b → f o = some o' → g'.ρ o' = some b)
  (h2 : ∀ k tk k', g.τ k = some tk → h k = some k' → g'.τ k' = some tk) (h3 : ∀ b off, g.D b off → g'.D b off) (h4 : ∀ o tk o', g.α o = some tk → f o = some o' → g'.α o' = some tk) : VecOk T w g' (renL f h row) tk := by
 intro b hb
 obtain ⟨full, cs, c, q1, q2, q3, q4, q5, q6, q7, q8, q9, q10, q11⟩ := hv b hb
 refine ⟨full, renL f h cs, c, by rw [q1]; rfl, by rw [renL_len]; exact q2, q3, q4, q5, q6, q7, q8, q9, fun i hi => ?_, fun i j hi hj => ?_⟩
 · rw [renL_len] at hi
   rw [renL_nth _ _ _ _ hi]
   exact (q10 i hi).ren f h
 · rw [renL_len] at hi
   rw [renL_nth _ _ _ _ hi, ren_cells]
   have hl : j < (nth cs i).cells.length := by
    rcases q10 i hi with ⟨_, cs', e, hl⟩ | ⟨_, hs, e⟩
    · rw [e]; show j < cs'.length; omega
    · rw [e]; simp; omega
   rw [renL_nth _ _ _ _ hl]
   exact (q11 i j hi hj).ren h1 h2 h3 h4
theorem renL_mrow {f h : Nat → Option Nat} {row : List AV} {e : TypeId} {v : Nat} {full : Bool} {cs : List AV} (hr : renL f h row = [.mrow e v full cs]) : ∃ cs', row = [.mrow e v full cs'] := by
 cases row with
 | nil => cases hr
 | cons x l =>
  cases l with
  | cons y l => simp [renL] at hr
  | nil =>
   simp only [renL, List.cons.injEq, and_true] at hr
   cases x <;> simp only [AV.ren] at hr <;> (try split at hr) <;> first | (cases hr; exact ⟨_, rfl⟩) | cases hr
structure View (f fi h hi : Nat → Option Nat) (S S0 : St) : Prop where
 inv : ∀ o i, f o = some i ↔ fi i = some o
 tinv : ∀ k l, h k = some l ↔ hi l = some k
 lt : ∀ o i, f o = some i → o < S.next ∧ i < S0.next
 row : ∀ o i, f o = some i → S0.row i = renL f h (S.row o)
 tok : ∀ k l, h k = some l → k < S.caps.length ∧ l < S0.caps.length ∧ capAt S0.caps l = capAt S.caps k
def back (fi : Nat → Option Nat) (big small n : Nat) : Nat → Option Nat := fun i =>
 match Nat.ble small i with
 | false => fi i
 | true => match Nat.blt i (small + n) with
  | true => some (big + (i - small))
  | false => none
structure Lift (f fi h hi : Nat → Option Nat) (S S0 S0' S' : St) (n : Nat) : Prop where
 le : S0.next + n ≤ S0'.next
 next : S'.next = S.next + n
 other : ∀ o, o < S.next → f o = none → S'.row o = S.row o
 row : ∀ i o, back fi S.next S0.next n i = some o → S'.row o = renL (back fi S.next S0.next n) hi (S0'.row i)
 clen : S'.caps.length = S.caps.length
 cap : ∀ k, capAt S'.caps k = match h k with | some l => capAt S0'.caps l | none => capAt S.caps k
section
variable {P : Program} {T : Tab} {f fi h hi : Nat → Option Nat} {S S0 : St}
def small (fi hi : Nat → Option Nat) (g : Ghost) : Ghost := { ρ := fun i => (fi i).bind g.ρ, τ := fun l => (hi l).bind g.τ, D := g.D, α := fun i => (fi i).bind g.α }
theorem small_ρ {g : Ghost} {i b : Nat} (e : (small fi hi g).ρ i = some b) : ∃ o, fi i = some o ∧ g.ρ o = some b := by
 simp only [small] at e
 cases hq : fi i with
 | none => rw [hq] at e; cases e
 | some o => rw [hq] at e; exact ⟨o, rfl, e⟩
theorem small_α {g : Ghost} {i : Nat} {tk : VTok} (e : (small fi hi g).α i = some tk) : ∃ o, fi i = some o ∧ g.α o = some tk := by
 simp only [small] at e
 cases hq : fi i with
 | none => rw [hq] at e; cases e
 | some o => rw [hq] at e; exact ⟨o, rfl, e⟩
theorem small_τ {g : Ghost} {l : Nat} {tk : Tok} (e : (small fi hi g).τ l = some tk) : ∃ k, hi l = some k ∧ g.τ k = some tk := by
 simp only [small] at e
 cases hq : hi l with
 | none => rw [hq] at e; cases e
 | some o => rw [hq] at e; exact ⟨o, rfl, e⟩
theorem View.rep (V : View f fi h hi S S0) {w : World} {g : Ghost} {v : AV} {x : Value} (hr : Rep T w g v x) : Rep T w (small fi hi g) (v.ren f h) x :=
 hr.ren (fun o b o' e1 e2 => by simp [small, (V.inv o o').1 e2, e1]) (fun k tk k' e1 e2 => by simp [small, (V.tinv k k').1 e2, e1]) (fun _ _ q => q) (fun o tk o' e1 e2 => by simp [small, (V.inv o o').1 e2, e1])
theorem View.rel (V : View f fi h hi S S0) {w : World} {g : Ghost} (r : WRel T g S w) : WRel T (small fi hi g) S0 w := by
 refine ⟨?_, ?_, ?_, ?_, r.live, ?_, ?_, ?_⟩
 rotate_right
 · refine ⟨fun i tk e => ?_, fun i tk e hd => ?_, fun i i' tk tk' b e e' q q' => ?_, fun i tk b e q p hp => ?_, fun i tk b e q => ?_, fun i tk b e q l tt el => ?_, fun i b e => ?_⟩
   · obtain ⟨o, h1, h2⟩ := small_α e
     have hf := (V.inv o i).2 h1
     refine ⟨(V.lt o i hf).2, ?_⟩
     rw [V.row o i hf]
     exact (r.vec.ok o tk h2).2.ren (fun o b o' e1 e2 => by simp [small, (V.inv o o').1 e2, e1]) (fun k tk k' e1 e2 => by simp [small, (V.tinv k k').1 e2, e1]) (fun _ _ q => q) (fun o tk o' e1 e2 => by simp [small, (V.inv o o').1 e2, e1])
   · obtain ⟨o, h1, h2⟩ := small_α e
     have hf := (V.inv o i).2 h1
     intro e0 v full cs hr
     rw [V.row o i hf] at hr
     obtain ⟨cs', hr'⟩ := renL_mrow hr
     exact r.vec.dead o tk h2 hd _ _ _ _ hr'
   · obtain ⟨o, h1, h2⟩ := small_α e
     obtain ⟨o', h1', h2'⟩ := small_α e'
     have := r.vec.inj o o' tk tk' b h2 h2' q q'
     subst this
     have h3 := (V.inv o i).2 h1
     have h4 := (V.inv o i').2 h1'
     rw [h3] at h4
     simpa using h4
   · obtain ⟨o, h1, h2⟩ := small_α e
     obtain ⟨o', h1', h2'⟩ := small_ρ hp
     exact r.vec.ρ o tk b h2 q o' h2'
   · obtain ⟨o, h1, h2⟩ := small_α e
     exact r.vec.D o tk b h2 q
   · obtain ⟨o, h1, h2⟩ := small_α e
     obtain ⟨k, h1', h2'⟩ := small_τ el
     exact r.vec.τ o tk b h2 q k tt h2'
   · obtain ⟨o, h1, h2⟩ := small_ρ e
     simp [small, h1, r.vec.one o b h2]
 · intro i b e
   obtain ⟨o, h1, h2⟩ := small_ρ e
   have hf := (V.inv o i).2 h1
   obtain ⟨c, t, hc, hs, h3, hR⟩ := r.obj o b h2
   refine ⟨c, t, hc, by rw [V.row o i hf, renL_len]; exact hs, h3, fun j hj => ?_⟩
   rw [V.row o i hf, renL_len] at hj
   rw [V.row o i hf, renL_nth _ _ _ _ hj]
   exact V.rep (hR j hj)
 · intro i i' b e e'
   obtain ⟨o, h1, h2⟩ := small_ρ e
   obtain ⟨o', h1', h2'⟩ := small_ρ e'
   have := r.inj o o' b h2 h2'
   subst this
   have h3 := (V.inv o i).2 h1
   have h4 := (V.inv o i').2 h1'
   rw [h3] at h4
   simpa using h4
 · intro i b e
   obtain ⟨o, h1, h2⟩ := small_ρ e
   exact (V.lt o i ((V.inv o i).2 h1)).2
 · intro i b off e
   obtain ⟨o, h1, h2⟩ := small_ρ e
   exact r.apart o b off h2
 · intro l tk e
   obtain ⟨k, h1, h2⟩ := small_τ e
   obtain ⟨q1, q2, q3⟩ := V.tok k l ((V.tinv k l).2 h1)
   obtain ⟨p1, p2, xs, p3, p4⟩ := r.tok k tk h2
   refine ⟨q2, q3.trans p2, xs, p3, fun b hb => ⟨(p4 b hb).1, fun i e' => ?_⟩⟩
   obtain ⟨o, _, h4⟩ := small_ρ e'
   exact (p4 b hb).2 o h4
 · intro l l' tk tk' b e e' hb hb'
   obtain ⟨k, h1, h2⟩ := small_τ e
   obtain ⟨k', h1', h2'⟩ := small_τ e'
   have := r.tinj k k' tk tk' b h2 h2' hb hb'
   subst this
   have h3 := (V.tinv k l).2 h1
   have h4 := (V.tinv k l').2 h1'
   rw [h3] at h4
   simpa using h4
theorem small_touch {g : Ghost} {b : Nat} (ht : touchOf (small fi hi g) b) : touchOf g b := by
 rcases ht with ⟨i, e⟩ | ⟨l, tk, e, hb⟩ | ⟨i, tk, e, hb⟩
 · obtain ⟨o, _, h2⟩ := small_ρ e
   exact .inl ⟨o, h2⟩
 · obtain ⟨k, _, h2⟩ := small_τ e
   exact .inr (.inl ⟨k, tk, h2, hb⟩)
 · obtain ⟨o, _, h2⟩ := small_α e
   exact .inr (.inr ⟨o, tk, h2, hb⟩)
theorem back_old {n i : Nat} (hi' : i < S0.next) : back fi S.next S0.next n i = fi i := by
 unfold back
 cases hb : Nat.ble S0.next i with
 | false => rfl
 | true => have := Nat.le_of_ble_eq_true hb; omega
theorem back_new {n i o : Nat} (hi' : S0.next ≤ i) : back fi S.next S0.next n i = some o ↔ i < S0.next + n ∧ o = S.next + (i - S0.next) := by
 unfold back
 rw [Nat.ble_eq_true_of_le hi']
 simp only
 cases hb : Nat.blt i (S0.next + n) with
 | false =>
  simp only
  constructor
  · intro h; cases h
  · rintro ⟨h1, _⟩
    have : Nat.blt i (S0.next + n) = true := Nat.ble_eq_true_of_le h1
    rw [hb] at this; cases this
 | true =>
  have : i + 1 ≤ S0.next + n := Nat.le_of_ble_eq_true hb
  simp only [Option.some.injEq]
  exact ⟨fun h => ⟨this, h.symm⟩, fun h => h.2.symm⟩
end
end Go.AM
