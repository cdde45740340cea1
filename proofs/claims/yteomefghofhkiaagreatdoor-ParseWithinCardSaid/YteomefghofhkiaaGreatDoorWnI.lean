/- The parser's functions: lists that are kept, statements, first part. -/
import Derived.Test.YteomefghofhkiaaGreatDoorWnH
import Derived.Test.YteomefghofhkiaaGreatDoorWnPlain
set_option maxRecDepth 100000
set_option maxHeartbeats 40000000
set_option linter.unusedVariables false
set_option linter.unusedSimpArgs false
namespace Go.AM
theorem CallP.ext {P : Program} {T : Tab} {f : FuncId} {args : List AV} {S S' : St} {K : Out → St → Prop} (hr : ∀ o, S'.row o = S.row o) (hn : S'.next = S.next) (hc : S'.caps = S.caps) (h : CallP P T f args S' K) : CallP P T f args S K := by
 intro g w vs r hg ha
 have r' : WRel T g S' w := ⟨fun o b e => by rw [hr]; exact r.obj o b e, r.inj, fun o b e => by rw [hn]; exact r.dom o b e, r.apart, r.live, fun k tk e => by rw [hc]; exact r.tok k tk e, r.tinj⟩
 have key : ∀ e w', callPost T g S' w K e w' → callPost T g S w K e w' := by
  intro e w' h
  unfold callPost at h ⊢
  rw [hn] at h
  exact h
 rcases h g w vs r' hg ha with ⟨h1, h2⟩ | ⟨x, w', h1, h2⟩
 · exact .inl ⟨h1, Calls.mono h2 fun e w' q => key e w' q⟩
 · exact .inr ⟨x, w', h1, key _ _ h2⟩
end Go.AM
namespace Go.AM.Ps
open Go.Proofs W
def env43C (fid : FuncId) (cs : List AV) (m : Mode) : Env := [(0, .ptr 0 0), (1, .func fid [] [.ptr 1 0]), (5, .slice 24 cs m)]
theorem list_loopOM {t : List Tk} (ht : Toks t) {fid : FuncId} {part : Nat → Rs Nd} (hp : Fn t fid [] part) (O : List (Nat × List AV)) (nx : Nat) (K : Ex → Env → St → Prop) (n : Nat) :
  ∀ (acc : List Nd) (cs : List AV) (m : Mode) (caps : List Int) (z : Nat) (r : List AV), cs = avL acc → Grows m cs caps → acc.length + n ≤ 2000000000 → At t z r → (listMore t part n acc z = .fuel → False) →
   (∀ l cl m' caps' z' r', listMore t part n acc z = .ok l z' → cl = avL l → Grows m' cl caps' → cl.length ≤ 2000000001 → At t z' r' → K (.exit 0) [(5, .slice 24 cl m')] ⟨(0, r') :: O, nx + 1, caps'⟩) →
   (∀ z' r' caps', listMore t part n acc z = .wrong → At t z' r' → K (.panic wrongV) [] ⟨(0, r') :: O, nx + 1, caps'⟩) →
   LoopP Tryz.prog (Pr.tab real) 18 c43 (Less K) (env43 fid cs m) ⟨(0, r) :: O, nx + 1, caps⟩ := by
 induction n with
 | zero => intro acc cs m caps z r _ _ _ _ hf; exact (hf rfl).elim
 | succ n ih =>
  intro acc cs m caps z r hcs hg hal h hf hK1 hK2
  have hlm : listMore t part (n + 1) acc z = match sees t z g_comma with
   | true => (part (z + 1)).bind fun x z => listMore t part n (acc ++ [x]) z
   | false => .ok acc z := rfl
  rw [hlm] at hf hK1 hK2
  have hask := fun K a b => at_take ht (s := g_comma) (S := ⟨(0, r) :: O, nx + 1, caps⟩) (o := 0) h (Nat.succ_pos _) (K := K) a b
  cases hb : sees t z g_comma with
  | false =>
   rw [hb] at hK1 hask
   have hfin := fun r' hr' => hK1 acc cs m caps z r' rfl hcs hg (by rw [hcs, avL_map, List.length_map]; omega) hr'
   apply step43
   apply gen_code (mk := Pr.tab)
   intro fail need same call loop len slen arith shift cmp conv eqS ltS cat app elt byt subS subL strOf isB fit inb cut room not and eqB avs G
   generalize LoopP Tryz.prog (Pr.tab real) 18 c43 (Less K) = L at *
   generalize hK' : Less K = K' at *
   clear hK1 hK2 ih
   unfold env43 at *
   cbv
   refine GenH.need' G rfl (GenH.call' G (hask _ (fun r' hs hr' => nomatch hs) (fun r' hs hr' => ?_)))
   have hgo := hfin r' hr'
   cbv
   rw [← hK']
   exact ⟨[(5, .slice 24 cs m)], .cons rfl (.nil _), hgo⟩
  | true =>
   rw [hb] at hK1 hK2 hf hask
   have hpart := fun (S : St) (o : Nat) K hz ho a b => hp (z + 1) S o K hz ho (fun q => hf (by show (part (z + 1)).bind _ = _; rw [q]; rfl)) a b
   have hnext : ∀ op s k l z' r' cs' m' caps', part (z + 1) = .ok (.mk op s k l) z' → cs' = avL (acc ++ [.mk op s k l]) → Grows m' cs' caps' → At t z' r' → LoopP Tryz.prog (Pr.tab real) 18 c43 (Less K) (env43 fid cs' m') ⟨(0, r') :: O, nx + 1, caps'⟩ := by
    intro op s k l z' r' cs' m' caps' hq hcs' hg' hr'
    rw [hq] at hK1 hK2 hf
    refine ih (acc ++ [Nd.mk op s k l]) cs' m' caps' z' r' hcs' hg' (by simp; omega) hr' hf hK1 hK2
   have hbad : ∀ z' r' caps', part (z + 1) = .wrong → At t z' r' → K (.panic wrongV) [] ⟨(0, r') :: O, nx + 1, caps'⟩ := by
    intro z' r' caps' hq hr'
    rw [hq] at hK2
    exact hK2 z' r' caps' rfl hr'
   have hlen : cs.length ≤ 2000000000 := by rw [hcs, avL_map, List.length_map]; omega
   have happ' : ∀ op s k l cl, cl = avL l → cs ++ [.agg [.str op, .str s, .int .i64 k, .slice 24 cl .no]] = avL (acc ++ [.mk op s k l]) := by
    intro op s k l cl hcl
    rw [hcs, hcl, avL_map acc, avL_map (acc ++ _), List.map_append]; rfl
   apply step43
   apply gen_code (mk := Pr.tab)
   intro fail need same call loop len slen arith shift cmp conv eqS ltS cat app elt byt subS subL strOf isB fit inb cut room not and eqB avs G
   have hX : ∀ op s k l cl, cl = avL l → ∃ (cc : List AV) (nn : Int), app cs [.agg [.str op, .str s, .int .i64 k, .slice 24 cl .no]] = cc ∧ room (len cc) 64 = true ∧ len cc = nn ∧ cc = avL (acc ++ [.mk op s k l]) ∧ Grows (.own 0) cc [nn] := by
    intro op s k l cl hcl
    refine ⟨_, _, rfl, ?_, rfl, ?_, ?_⟩
    · rw [G.app', G.room', G.len']; simp; omega
    · rw [G.app']; exact happ' op s k l cl hcl
    · rw [G.app', G.len']; exact .own _ _ rfl
   have h01 : ∀ x, cmp BinOp.lss 0 (len [x]) = true := fun x => by rw [G.cmp', G.len']; rfl
   have heqc : ∀ n2 : Int, n2 = cs.length → cmp BinOp.eql n2 (len cs) = true := fun n2 h => by rw [G.cmp', G.len', h]; simp [intRel]
   generalize hL : LoopP Tryz.prog (Pr.tab real) 18 c43 (Less K) = L at *
   generalize hK' : Less K = K' at *
   clear hK1 hK2 ih hlm
   unfold env43 at *
   cases hg with
   | fresh v =>
    cbv
    refine GenH.need' G rfl (GenH.call' G (hask _ (fun r' hs hr' => ?_) (fun r' hs hr' => nomatch hs)))
    cbv
    refine GenH.call' G (hpart _ 0 _ hr' (Nat.succ_pos _) (fun op s k l cl z' r2 hq hcl hr2 => ?_) (fun z' r2 hq hr2 => ?_))
    · obtain ⟨cc, nn, h1, h2, h3, h4, h5⟩ := hX op s k l cl hcl
      have hgo := hnext op s k l z' r2 _ _ _ hq h4 h5 hr2
      have h6 := h01 (AV.agg [.str op, .str s, .int .i64 k, .slice 24 cl .no])
      clear hX hnext hbad hpart hask
      cbv
      refine GenH.need' G rfl ?_
      rw [h1]
      refine GenH.need' G h2 (GenH.need' G h6 ?_)
      rw [h3, ← hL] at *
      exact LoopP.weak (.cons rfl (.cons rfl (.cons rfl (.nil _)))) hgo
    · have hgo := fun c => hbad z' r2 c hq hr2
      cbv
      rw [← hK']
      exact ⟨[], .nil _, hgo _⟩
   | own cs n2 hn2 =>
    have hq2 := heqc n2 hn2
    cbv
    refine GenH.need' G rfl (GenH.call' G (hask _ (fun r' hs hr' => ?_) (fun r' hs hr' => nomatch hs)))
    cbv
    refine GenH.call' G (hpart _ 0 _ hr' (Nat.succ_pos _) (fun op s k l cl z' r2 hq hcl hr2 => ?_) (fun z' r2 hq hr2 => ?_))
    · obtain ⟨cc, nn, h1, h2, h3, h4, h5⟩ := hX op s k l cl hcl
      have hgo := hnext op s k l z' r2 _ _ _ hq h4 h5 hr2
      have h6 := h01 (AV.agg [.str op, .str s, .int .i64 k, .slice 24 cl .no])
      clear hX hnext hbad hpart hask
      cbv
      refine GenH.need' G rfl ?_
      rw [h1]
      refine GenH.need' G h2 (GenH.need' G hq2 ?_)
      rw [h3, ← hL] at *
      exact LoopP.weak (.cons rfl (.cons rfl (.cons rfl (.nil _)))) hgo
    · have hgo := fun c => hbad z' r2 c hq hr2
      cbv
      rw [← hK']
      exact ⟨[], .nil _, hgo _⟩
theorem list_loopOC {t : List Tk} (ht : Toks t) {fid : FuncId} {part : Nat → Rs Nd} (hp : FnC t fid part) (O : List (Nat × List AV)) (nx : Nat) (hO : rowIn O 1 = [.ptr 0 0]) (K : Ex → Env → St → Prop) (n : Nat) :
  ∀ (acc : List Nd) (cs : List AV) (m : Mode) (caps : List Int) (z : Nat) (r : List AV), cs = avL acc → Grows m cs caps → acc.length + n ≤ 2000000000 → At t z r → (listMore t part n acc z = .fuel → False) →
   (∀ l cl m' caps' z' r', listMore t part n acc z = .ok l z' → cl = avL l → Grows m' cl caps' → cl.length ≤ 2000000001 → At t z' r' → K (.exit 0) [(5, .slice 24 cl m')] ⟨(0, r') :: O, nx + 2, caps'⟩) →
   (∀ z' r' caps', listMore t part n acc z = .wrong → At t z' r' → K (.panic wrongV) [] ⟨(0, r') :: O, nx + 2, caps'⟩) →
   LoopP Tryz.prog (Pr.tab real) 18 c43 (Less K) (env43C fid cs m) ⟨(0, r) :: O, nx + 2, caps⟩ := by
 induction n with
 | zero => intro acc cs m caps z r _ _ _ _ hf; exact (hf rfl).elim
 | succ n ih =>
  intro acc cs m caps z r hcs hg hal h hf hK1 hK2
  have hlm : listMore t part (n + 1) acc z = match sees t z g_comma with
   | true => (part (z + 1)).bind fun x z => listMore t part n (acc ++ [x]) z
   | false => .ok acc z := rfl
  rw [hlm] at hf hK1 hK2
  have hask := fun K a b => at_take ht (s := g_comma) (S := ⟨(0, r) :: O, nx + 2, caps⟩) (o := 0) h (Nat.succ_pos _) (K := K) a b
  cases hb : sees t z g_comma with
  | false =>
   rw [hb] at hK1 hask
   have hfin := fun r' hr' => hK1 acc cs m caps z r' rfl hcs hg (by rw [hcs, avL_map, List.length_map]; omega) hr'
   apply step43
   apply gen_code (mk := Pr.tab)
   intro fail need same call loop len slen arith shift cmp conv eqS ltS cat app elt byt subS subL strOf isB fit inb cut room not and eqB avs G
   generalize LoopP Tryz.prog (Pr.tab real) 18 c43 (Less K) = L at *
   generalize hK' : Less K = K' at *
   clear hK1 hK2 ih
   unfold env43C at *
   cbv
   refine GenH.need' G rfl (GenH.call' G (hask _ (fun r' hs hr' => nomatch hs) (fun r' hs hr' => ?_)))
   have hgo := hfin r' hr'
   cbv
   rw [← hK']
   exact ⟨[(5, .slice 24 cs m)], .cons rfl (.nil _), hgo⟩
  | true =>
   rw [hb] at hK1 hK2 hf hask
   have hpart := fun (S : St) K hz (ho : 0 < S.next) (hb : S.row 1 = [.ptr 0 0]) (ho1 : 1 < S.next) a b => hp (z + 1) S 0 1 K (by decide) hz ho hb ho1 (fun q => hf (by show (part (z + 1)).bind _ = _; rw [q]; rfl)) a b
   have hnext : ∀ op s k l z' r' cs' m' caps', part (z + 1) = .ok (.mk op s k l) z' → cs' = avL (acc ++ [.mk op s k l]) → Grows m' cs' caps' → At t z' r' → LoopP Tryz.prog (Pr.tab real) 18 c43 (Less K) (env43C fid cs' m') ⟨(0, r') :: O, nx + 2, caps'⟩ := by
    intro op s k l z' r' cs' m' caps' hq hcs' hg' hr'
    rw [hq] at hK1 hK2 hf
    refine ih (acc ++ [Nd.mk op s k l]) cs' m' caps' z' r' hcs' hg' (by simp; omega) hr' hf hK1 hK2
   have hbad : ∀ z' r' caps', part (z + 1) = .wrong → At t z' r' → K (.panic wrongV) [] ⟨(0, r') :: O, nx + 2, caps'⟩ := by
    intro z' r' caps' hq hr'
    rw [hq] at hK2
    exact hK2 z' r' caps' rfl hr'
   have hlen : cs.length ≤ 2000000000 := by rw [hcs, avL_map, List.length_map]; omega
   have happ' : ∀ op s k l cl, cl = avL l → cs ++ [.agg [.str op, .str s, .int .i64 k, .slice 24 cl .no]] = avL (acc ++ [.mk op s k l]) := by
    intro op s k l cl hcl
    rw [hcs, hcl, avL_map acc, avL_map (acc ++ _), List.map_append]; rfl
   apply step43
   apply gen_code (mk := Pr.tab)
   intro fail need same call loop len slen arith shift cmp conv eqS ltS cat app elt byt subS subL strOf isB fit inb cut room not and eqB avs G
   have hX : ∀ op s k l cl, cl = avL l → ∃ (cc : List AV) (nn : Int), app cs [.agg [.str op, .str s, .int .i64 k, .slice 24 cl .no]] = cc ∧ room (len cc) 64 = true ∧ len cc = nn ∧ cc = avL (acc ++ [.mk op s k l]) ∧ Grows (.own 0) cc [nn] := by
    intro op s k l cl hcl
    refine ⟨_, _, rfl, ?_, rfl, ?_, ?_⟩
    · rw [G.app', G.room', G.len']; simp; omega
    · rw [G.app']; exact happ' op s k l cl hcl
    · rw [G.app', G.len']; exact .own _ _ rfl
   have h01 : ∀ x, cmp BinOp.lss 0 (len [x]) = true := fun x => by rw [G.cmp', G.len']; rfl
   have heqc : ∀ n2 : Int, n2 = cs.length → cmp BinOp.eql n2 (len cs) = true := fun n2 h => by rw [G.cmp', G.len', h]; simp [intRel]
   generalize hL : LoopP Tryz.prog (Pr.tab real) 18 c43 (Less K) = L at *
   generalize hK' : Less K = K' at *
   clear hK1 hK2 ih hlm
   unfold env43C at *
   cases hg with
   | fresh v =>
    cbv
    refine GenH.need' G rfl (GenH.call' G (hask _ (fun r' hs hr' => ?_) (fun r' hs hr' => nomatch hs)))
    cbv
    refine GenH.call' G (hpart _ _ hr' (Nat.succ_pos _) hO (Nat.succ_lt_succ (Nat.succ_pos _)) (fun op s k l cl z' r2 hq hcl hr2 => ?_) (fun z' r2 hq hr2 => ?_))
    · obtain ⟨cc, nn, h1, h2, h3, h4, h5⟩ := hX op s k l cl hcl
      have hgo := hnext op s k l z' r2 _ _ _ hq h4 h5 hr2
      have h6 := h01 (AV.agg [.str op, .str s, .int .i64 k, .slice 24 cl .no])
      clear hX hnext hbad hpart hask
      cbv
      refine GenH.need' G rfl ?_
      rw [h1]
      refine GenH.need' G h2 (GenH.need' G h6 ?_)
      rw [h3, ← hL] at *
      exact LoopP.weak (.cons rfl (.cons rfl (.cons rfl (.nil _)))) hgo
    · have hgo := fun c => hbad z' r2 c hq hr2
      cbv
      rw [← hK']
      exact ⟨[], .nil _, hgo _⟩
   | own cs n2 hn2 =>
    have hq2 := heqc n2 hn2
    cbv
    refine GenH.need' G rfl (GenH.call' G (hask _ (fun r' hs hr' => ?_) (fun r' hs hr' => nomatch hs)))
    cbv
    refine GenH.call' G (hpart _ _ hr' (Nat.succ_pos _) hO (Nat.succ_lt_succ (Nat.succ_pos _)) (fun op s k l cl z' r2 hq hcl hr2 => ?_) (fun z' r2 hq hr2 => ?_))
    · obtain ⟨cc, nn, h1, h2, h3, h4, h5⟩ := hX op s k l cl hcl
      have hgo := hnext op s k l z' r2 _ _ _ hq h4 h5 hr2
      have h6 := h01 (AV.agg [.str op, .str s, .int .i64 k, .slice 24 cl .no])
      clear hX hnext hbad hpart hask
      cbv
      refine GenH.need' G rfl ?_
      rw [h1]
      refine GenH.need' G h2 (GenH.need' G hq2 ?_)
      rw [h3, ← hL] at *
      exact LoopP.weak (.cons rfl (.cons rfl (.cons rfl (.nil _)))) hgo
    · have hgo := fun c => hbad z' r2 c hq hr2
      cbv
      rw [← hK']
      exact ⟨[], .nil _, hgo _⟩
end Go.AM.Ps
namespace Go.AM.Ps
open Go.Proofs W
theorem Ps.fn21 : FnOk Tryz.prog 21 (fni Tryz.f21 Pr.a21) := ⟨⟨Tryz.f21, Tryz.func21, rfl, rfl, rfl, by kernel_rfl⟩, by kernel_rfl⟩
theorem Ps.fn37 : FnOk Tryz.prog 37 (fni Tryz.f37 Pr.a37) := ⟨⟨Tryz.f37, Tryz.func37, rfl, rfl, rfl, by kernel_rfl⟩, by kernel_rfl⟩
theorem Ps.fn38 : FnOk Tryz.prog 38 (fni Tryz.f38 Pr.a38) := ⟨⟨Tryz.f38, Tryz.func38, rfl, rfl, rfl, by kernel_rfl⟩, by kernel_rfl⟩
theorem Ps.fn42 : FnOk Tryz.prog 42 (fni Tryz.f42 Pr.a42) := ⟨⟨Tryz.f42, Tryz.func42, rfl, rfl, rfl, by kernel_rfl⟩, by kernel_rfl⟩
theorem Ps.fn44 : FnOk Tryz.prog 44 (fni Tryz.f44 Pr.a44) := ⟨⟨Tryz.f44, Tryz.func44, rfl, rfl, rfl, by kernel_rfl⟩, by kernel_rfl⟩
theorem Ps.fn45 : FnOk Tryz.prog 45 (fni Tryz.f45 Pr.a45) := ⟨⟨Tryz.f45, Tryz.func45, rfl, rfl, rfl, by kernel_rfl⟩, by kernel_rfl⟩
theorem Ps.fn47 : FnOk Tryz.prog 47 (fni Tryz.f47 Pr.a47) := ⟨⟨Tryz.f47, Tryz.func47, rfl, rfl, rfl, by kernel_rfl⟩, by kernel_rfl⟩
theorem Ps.fn48 : FnOk Tryz.prog 48 (fni Tryz.f48 Pr.a48) := ⟨⟨Tryz.f48, Tryz.func48, rfl, rfl, rfl, by kernel_rfl⟩, by kernel_rfl⟩
theorem Ps.fn49 : FnOk Tryz.prog 49 (fni Tryz.f49 Pr.a49) := ⟨⟨Tryz.f49, Tryz.func49, rfl, rfl, rfl, by kernel_rfl⟩, by kernel_rfl⟩
theorem Ps.fn74 : FnOk Tryz.prog 74 (fni Tryz.f74 Pr.a74) := ⟨⟨Tryz.f74, Tryz.func74, rfl, rfl, rfl, by kernel_rfl⟩, by kernel_rfl⟩
theorem Ps.fn76 : FnOk Tryz.prog 76 (fni Tryz.f76 Pr.a76) := ⟨⟨Tryz.f76, Tryz.func76, rfl, rfl, rfl, by kernel_rfl⟩, by kernel_rfl⟩
theorem Ps.fn77 : FnOk Tryz.prog 77 (fni Tryz.f77 Pr.a77) := ⟨⟨Tryz.f77, Tryz.func77, rfl, rfl, rfl, by kernel_rfl⟩, by kernel_rfl⟩
theorem Ps.fn81 : FnOk Tryz.prog 81 (fni Tryz.f81 Pr.a81) := ⟨⟨Tryz.f81, Tryz.func81, rfl, rfl, rfl, by kernel_rfl⟩, by kernel_rfl⟩
theorem NA.nil (op s : List UInt8) (k : Int) (e : TypeId) (m : Mode) : NA (.agg [.str op, .str s, .int .i64 k, .slice e [] m]) (.mk op s k []) := .mk op s k e [] m [] rfl (.inr rfl)
theorem at_named2 {op s : List UInt8} {cs : List AV} {m : Mode} {l : List Nd} (hcs : NL cs l) {S : St} {K : Out → St → Prop} (hK : ∀ cl, cl = avL l → K (.ret (.agg [.str op, .str s, .int .i64 0, .slice 24 cl .no])) S) :
  CallP Tryz.prog (Pr.tab real) 39 [.str op, .str s, .slice 24 cs m] S K := by
 refine lift_any (K0 := fun o _ => o = .ret (.agg [.str op, .str s, .int .i64 0, .slice 24 (avL l) .no])) ?_ (by rintro o S0 rfl; exact hK _ rfl)
 have hr : renL (fun _ => none) (fun _ => none) [AV.str op, .str s, .slice 24 cs m] = [AV.str op, .str s, .slice 24 cs (renM (fun _ => none) m)] := rfl
 rw [hr]
 exact CallP.sub (named_raw op s 24 cs _ (by cases m <;> rfl) St.nil _ ⟨_, .ret _ _ (sub_tree op s 0 _ hcs), rfl⟩)
theorem lit_names1 {t : List Tk} (ht : Toks t) (n : Nat) (hn : n ≤ 1000000000) (P : Parser t n) (z : Nat) (r : List AV) (h : At t z r) (hf : listOf t n (aName reservedB t) z = .fuel → False) :
  CallP Tryz.prog (Pr.tab real) 113 [.ptr 1 0] (P2 r) (PostC t 2 (listOf t n (aName reservedB t) z) lav) := by
 have hfin := fun e cs m l z' S' => finLC t 2 (listOf t n (aName reservedB t) z) e cs m l z' S'
 have hbad := fun z' S' => finBadC t 2 (listOf t n (aName reservedB t) z) lav z' S'
 generalize PostC t 2 (listOf t n (aName reservedB t) z) lav = K0 at hfin hbad ⊢
 apply body_calls (un := 0) Pr.tabOk Pr.mixed Ps.fn113 (Nat.le_of_ble_eq_true rfl)
 apply gen_body (mk := Pr.tab)
 intro fail need same call loop len slen arith shift cmp conv eqS ltS cat app elt byt subS subL strOf isB fit inb cut room not and eqB avs G
 have heqS : ∀ a b, eqS a b = (a == b) := fun a b => by rw [G.eqS']
 have hnot : ∀ b, not b = !b := fun b => by rw [G.not']
 unfold P2
 cbv
 repeat'
  (first
    | refine GenH.need' G rfl ?_
    | refine GenH.same' G rfl ?_
    | ((refine GenH.call' G (at_list ht (at_aName ht) hn (by assumption) (Nat.le_of_ble_eq_true rfl) (fun q => hf (by first | (simp only [Ps.need, Rs.bind, Ps.need, Ps.take, Ps.needs, Bool.or_true, Bool.or_false, Bool.true_or, Bool.false_or, Bool.and_true, Bool.and_false, Bool.true_and, Bool.false_and, *]; done) | (simp only [Ps.need, Rs.bind, Ps.need, Ps.take, Ps.needs, Bool.or_true, Bool.or_false, Bool.true_or, Bool.false_or, Bool.and_true, Bool.and_false, Bool.true_and, Bool.false_and, *]; exact rfl))) (fun l cl z' r' hs hcl hr' => ?_) (fun z' r' hs hr' => ?_))) <;> (try cbv))
    | (rw [hnot]; (try cbv))
    | fail)
 all_goals first
  | exact hbad _ _ (by first | (simp only [Ps.need, Rs.bind, Ps.need, Ps.take, Ps.needs, Bool.or_true, Bool.or_false, Bool.true_or, Bool.false_or, Bool.and_true, Bool.and_false, Bool.true_and, Bool.false_and, *]; done) | (simp only [Ps.need, Rs.bind, Ps.need, Ps.take, Ps.needs, Bool.or_true, Bool.or_false, Bool.true_or, Bool.false_or, Bool.and_true, Bool.and_false, Bool.true_and, Bool.false_and, *]; exact rfl)) (by assumption) (Nat.le_of_ble_eq_true rfl) rfl
  | exact hfin _ _ _ _ _ _ (by first | (simp only [Ps.need, Rs.bind, Ps.need, Ps.take, Ps.needs, Bool.or_true, Bool.or_false, Bool.true_or, Bool.false_or, Bool.and_true, Bool.and_false, Bool.true_and, Bool.false_and, *]; done) | (simp only [Ps.need, Rs.bind, Ps.need, Ps.take, Ps.needs, Bool.or_true, Bool.or_false, Bool.true_or, Bool.false_or, Bool.and_true, Bool.and_false, Bool.true_and, Bool.false_and, *]; exact rfl)) (by subst_vars; exact rfl) (by first | exact .inl rfl | exact .inr rfl) (by assumption) (Nat.le_of_ble_eq_true rfl) rfl
theorem at_names1 {t : List Tk} (ht : Toks t) (n : Nat) (hn : n ≤ 1000000000) (P : Parser t n) : FnCL t 113 (listOf t n (aName reservedB t)) := fnCL_of fun z r h hf => lit_names1 ht n hn P z r h hf
theorem lit_names {t : List Tk} (ht : Toks t) (n : Nat) (hn : n ≤ 1000000000) (P : Parser t n) (z : Nat) (r : List AV) (h : At t z r) (hf : names reservedB t n z = .fuel → False) :
  CallP Tryz.prog (Pr.tab real) 78 [.ptr 0 0] (P0 r) (Post t (names reservedB t n z) lav) := by
 have hfin := fun e cs m l z' S' => finL t (names reservedB t n z) e cs m l z' S'
 have hbad := fun z' S' => finBad t (names reservedB t n z) lav z' S'
 generalize Post t (names reservedB t n z) lav = K0 at hfin hbad ⊢
 apply body_calls (un := 0) Pr.tabOk Pr.mixed Ps.fn78 (Nat.le_of_ble_eq_true rfl)
 apply gen_body (mk := Pr.tab)
 intro fail need same call loop len slen arith shift cmp conv eqS ltS cat app elt byt subS subL strOf isB fit inb cut room not and eqB avs G
 have heqS : ∀ a b, eqS a b = (a == b) := fun a b => by rw [G.eqS']
 have hnot : ∀ b, not b = !b := fun b => by rw [G.not']
 unfold P0
 cbv
 repeat'
  (first
    | refine GenH.need' G rfl ?_
    | refine GenH.same' G rfl ?_
    | ((refine GenH.call' G (at_withinCL ht (at_names1 ht n hn P) (by decide) (by assumption) (Nat.le_of_ble_eq_true rfl) rfl (Nat.le_of_ble_eq_true rfl) (fun q => hf (by first | (simp only [names, Rs.bind, Ps.need, Ps.take, Ps.needs, Bool.or_true, Bool.or_false, Bool.true_or, Bool.false_or, Bool.and_true, Bool.and_false, Bool.true_and, Bool.false_and, *]; done) | (simp only [names, Rs.bind, Ps.need, Ps.take, Ps.needs, Bool.or_true, Bool.or_false, Bool.true_or, Bool.false_or, Bool.and_true, Bool.and_false, Bool.true_and, Bool.false_and, *]; exact rfl))) (fun l cl z' r' hs hcl hr' => ?_) (fun z' r' hs hr' => ?_))) <;> (try cbv))
    | (rw [hnot]; (try cbv))
    | fail)
 all_goals first
  | exact hbad _ _ (by first | (simp only [names, Rs.bind, Ps.need, Ps.take, Ps.needs, Bool.or_true, Bool.or_false, Bool.true_or, Bool.false_or, Bool.and_true, Bool.and_false, Bool.true_and, Bool.false_and, *]; done) | (simp only [names, Rs.bind, Ps.need, Ps.take, Ps.needs, Bool.or_true, Bool.or_false, Bool.true_or, Bool.false_or, Bool.and_true, Bool.and_false, Bool.true_and, Bool.false_and, *]; exact rfl)) (by assumption) (Nat.le_of_ble_eq_true rfl)
  | exact hfin _ _ _ _ _ _ (by first | (simp only [names, Rs.bind, Ps.need, Ps.take, Ps.needs, Bool.or_true, Bool.or_false, Bool.true_or, Bool.false_or, Bool.and_true, Bool.and_false, Bool.true_and, Bool.false_and, *]; done) | (simp only [names, Rs.bind, Ps.need, Ps.take, Ps.needs, Bool.or_true, Bool.or_false, Bool.true_or, Bool.false_or, Bool.and_true, Bool.and_false, Bool.true_and, Bool.false_and, *]; exact rfl)) (by subst_vars; exact rfl) (by first | exact .inl rfl | exact .inr rfl) (by assumption) (Nat.le_of_ble_eq_true rfl)
theorem at_names {t : List Tk} (ht : Toks t) (n : Nat) (hn : n ≤ 1000000000) (P : Parser t n) : FnL t 78 [] (names reservedB t n) := fnL_of (fun _ => rfl) fun z r h hf => lit_names ht n hn P z r h hf
theorem lit_keyP {t : List Tk} (ht : Toks t) (n : Nat) (hn : n ≤ 1000000000) (P : Parser t n) (z : Nat) (r : List AV) (h : At t z r) (hf : keyP reservedB t z = .fuel → False) :
  CallP Tryz.prog (Pr.tab real) 74 [.ptr 0 0] (P0 r) (Post t (keyP reservedB t z) Nd.av) := by
 have hfin := fun op s k e cs m l z' S' => finOk t (keyP reservedB t z) op s k e cs m l z' S'
 have hbad := fun z' S' => finBad t (keyP reservedB t z) Nd.av z' S'
 generalize Post t (keyP reservedB t z) Nd.av = K0 at hfin hbad ⊢
 apply body_calls (un := 0) Pr.tabOk Pr.mixed Ps.fn74 (Nat.le_of_ble_eq_true rfl)
 apply gen_body (mk := Pr.tab)
 intro fail need same call loop len slen arith shift cmp conv eqS ltS cat app elt byt subS subL strOf isB fit inb cut room not and eqB avs G
 have heqS : ∀ a b, eqS a b = (a == b) := fun a b => by rw [G.eqS']
 have hnot : ∀ b, not b = !b := fun b => by rw [G.not']
 unfold P0
 cbv
 repeat'
  (first
    | refine GenH.need' G rfl ?_
    | refine GenH.same' G rfl ?_
    | (rw [heqS]; (try rw [hnot]); split <;> ((first | contradiction | (rename_i hq; (try simp only [Bool.not_eq_true', Bool.not_eq_false'] at hq); rw [hq]) | (rename_i hq _; rw [hq]) | skip); try cbv))
    | ((refine GenH.call' G (is_kind ht (by assumption) (Nat.le_of_ble_eq_true rfl) (fun hs => ?_) (fun hs => ?_))) <;> (try cbv))
    | ((refine GenH.call' G (at_number ht (by assumption) (Nat.le_of_ble_eq_true rfl) (fun a z' r' hs hr' => ?_) (fun z' r' hs hr' => ?_))) <;> (try cbv))
    | ((refine GenH.call' G (at_column ht _ _ 0 _ (by assumption) (Nat.le_of_ble_eq_true rfl) (fun q => hf (by first | (simp only [keyP, Rs.bind, Ps.need, Ps.take, Ps.needs, Bool.or_true, Bool.or_false, Bool.true_or, Bool.false_or, Bool.and_true, Bool.and_false, Bool.true_and, Bool.false_and, Ps.named, Ps.node, *]; done) | (simp only [keyP, Rs.bind, Ps.need, Ps.take, Ps.needs, Bool.or_true, Bool.or_false, Bool.true_or, Bool.false_or, Bool.and_true, Bool.and_false, Bool.true_and, Bool.false_and, Ps.named, Ps.node, *]; exact rfl))) (fun op s k l cl z' r' hs hcl hr' => ?_) (fun z' r' hs hr' => ?_))) <;> (try cbv))
    | ((refine GenH.call' G (at_one ht [_, _] (by decide) (by assumption) (Nat.le_of_ble_eq_true rfl) (fun a z' r' hs hr' => ?_))) <;> (try cbv))
    | ((refine GenH.call' G (at_named [] (by subst_vars; exact rfl) (by first | exact .inl rfl | exact .inr rfl) rfl (fun cl hcl => ?_))) <;> (try cbv))
    | ((refine GenH.call' G (at_named [.mk _ _ _ _] (by subst_vars; exact rfl) (by first | exact .inl rfl | exact .inr rfl) rfl (fun cl hcl => ?_))) <;> (try cbv))
    | ((refine GenH.call' G (at_named [.mk _ _ _ _, .mk _ _ _ _] (by subst_vars; exact rfl) (by first | exact .inl rfl | exact .inr rfl) rfl (fun cl hcl => ?_))) <;> (try cbv))
    | ((refine GenH.call' G (at_named [.mk _ _ _ _, .mk _ _ _ _, .mk _ _ _ _] (by subst_vars; exact rfl) (by first | exact .inl rfl | exact .inr rfl) rfl (fun cl hcl => ?_))) <;> (try cbv))
    | ((refine GenH.call' G (at_named [.mk _ _ _ _, .mk _ _ _ _, .mk _ _ _ _, .mk _ _ _ _, .mk _ _ _ _] (by subst_vars; exact rfl) (by first | exact .inl rfl | exact .inr rfl) rfl (fun cl hcl => ?_))) <;> (try cbv))
    | ((refine GenH.call' G (at_named (.mk _ _ _ _ :: _) (by subst_vars; exact rfl) (by first | exact .inl rfl | exact .inr rfl) rfl (fun cl hcl => ?_))) <;> (try cbv))
    | ((refine GenH.call' G (at_named _ (by subst_vars; exact rfl) (by first | exact .inl rfl | exact .inr rfl) rfl (fun cl hcl => ?_))) <;> (try cbv))
    | ((refine GenH.call' G (at_named2 (.cons (by first | exact NA.nil _ _ _ _ _ | exact NA.mk _ _ _ _ _ _ _ (by subst_vars; exact rfl) (.inl rfl)) .nil) (fun cl hcl => ?_))) <;> (try cbv))
    | ((refine GenH.call' G (at_named2 (.cons (by first | exact NA.nil _ _ _ _ _ | exact NA.mk _ _ _ _ _ _ _ (by subst_vars; exact rfl) (.inl rfl)) (.cons (by first | exact NA.nil _ _ _ _ _ | exact NA.mk _ _ _ _ _ _ _ (by subst_vars; exact rfl) (.inl rfl)) .nil)) (fun cl hcl => ?_))) <;> (try cbv))
    | (rw [hnot]; (try cbv))
    | fail)
 all_goals first
  | exact hbad _ _ (by first | (simp only [keyP, Rs.bind, Ps.need, Ps.take, Ps.needs, Bool.or_true, Bool.or_false, Bool.true_or, Bool.false_or, Bool.and_true, Bool.and_false, Bool.true_and, Bool.false_and, Ps.named, Ps.node, *]; done) | (simp only [keyP, Rs.bind, Ps.need, Ps.take, Ps.needs, Bool.or_true, Bool.or_false, Bool.true_or, Bool.false_or, Bool.and_true, Bool.and_false, Bool.true_and, Bool.false_and, Ps.named, Ps.node, *]; exact rfl)) (by assumption) (Nat.le_of_ble_eq_true rfl)
  | exact hfin _ _ _ _ _ _ _ _ _ (by first | (simp only [keyP, Rs.bind, Ps.need, Ps.take, Ps.needs, Bool.or_true, Bool.or_false, Bool.true_or, Bool.false_or, Bool.and_true, Bool.and_false, Bool.true_and, Bool.false_and, Ps.named, Ps.node, *]; done) | (simp only [keyP, Rs.bind, Ps.need, Ps.take, Ps.needs, Bool.or_true, Bool.or_false, Bool.true_or, Bool.false_or, Bool.and_true, Bool.and_false, Bool.true_and, Bool.false_and, Ps.named, Ps.node, *]; exact rfl)) (by subst_vars; exact rfl) (by first | exact .inl rfl | exact .inr rfl) (by assumption) (Nat.le_of_ble_eq_true rfl)
theorem at_keyP {t : List Tk} (ht : Toks t) (n : Nat) (hn : n ≤ 1000000000) (P : Parser t n) : Fn t 74 [] (keyP reservedB t) := fn_of (fun _ => rfl) fun z r h hf => lit_keyP ht n hn P z r h hf
theorem lit_query {t : List Tk} (ht : Toks t) (n : Nat) (hn : n ≤ 1000000000) (P : Parser t n) (z : Nat) (r : List AV) (h : At t z r) (hf : query reservedB t n z = .fuel → False) :
  CallP Tryz.prog (Pr.tab real) 37 [.ptr 0 0] (P0 r) (Post t (query reservedB t n z) Nd.av) := by
 have hfin := fun op s k e cs m l z' S' => finOk t (query reservedB t n z) op s k e cs m l z' S'
 have hbad := fun z' S' => finBad t (query reservedB t n z) Nd.av z' S'
 generalize Post t (query reservedB t n z) Nd.av = K0 at hfin hbad ⊢
 apply body_calls (un := 0) Pr.tabOk Pr.mixed Ps.fn37 (Nat.le_of_ble_eq_true rfl)
 apply gen_body (mk := Pr.tab)
 intro fail need same call loop len slen arith shift cmp conv eqS ltS cat app elt byt subS subL strOf isB fit inb cut room not and eqB avs G
 have heqS : ∀ a b, eqS a b = (a == b) := fun a b => by rw [G.eqS']
 have hnot : ∀ b, not b = !b := fun b => by rw [G.not']
 unfold P0
 cbv
 repeat'
  (first
    | refine GenH.need' G rfl ?_
    | refine GenH.same' G rfl ?_
    | (rw [heqS]; (try rw [hnot]); split <;> ((first | contradiction | (rename_i hq; (try simp only [Bool.not_eq_true', Bool.not_eq_false'] at hq); rw [hq]) | (rename_i hq _; rw [hq]) | skip); try cbv))
    | ((refine GenH.call' G (P.body _ _ 0 _ (by assumption) (Nat.le_of_ble_eq_true rfl) (fun q => hf (by first | (simp only [query, Rs.bind, Ps.need, Ps.take, Ps.needs, Bool.or_true, Bool.or_false, Bool.true_or, Bool.false_or, Bool.and_true, Bool.and_false, Bool.true_and, Bool.false_and, Ps.named, Ps.node, *]; done) | (simp only [query, Rs.bind, Ps.need, Ps.take, Ps.needs, Bool.or_true, Bool.or_false, Bool.true_or, Bool.false_or, Bool.and_true, Bool.and_false, Bool.true_and, Bool.false_and, Ps.named, Ps.node, *]; exact rfl))) (fun op s k l cl z' r' hs hcl hr' => ?_) (fun z' r' hs hr' => ?_))) <;> (try cbv))
    | ((refine GenH.call' G (at_take2 ht (by assumption) (Nat.le_of_ble_eq_true rfl) (fun r' hs hs2 hr' => ?_) (fun r' hs hr' => ?_) (fun z' r' hs hs2 hr' => ?_))) <;> (try cbv))
    | ((refine GenH.call' G (at_list ht (at_keyP ht n hn P) hn (by assumption) (Nat.le_of_ble_eq_true rfl) (fun q => hf (by first | (simp only [query, Rs.bind, Ps.need, Ps.take, Ps.needs, Bool.or_true, Bool.or_false, Bool.true_or, Bool.false_or, Bool.and_true, Bool.and_false, Bool.true_and, Bool.false_and, Ps.named, Ps.node, *]; done) | (simp only [query, Rs.bind, Ps.need, Ps.take, Ps.needs, Bool.or_true, Bool.or_false, Bool.true_or, Bool.false_or, Bool.and_true, Bool.and_false, Bool.true_and, Bool.false_and, Ps.named, Ps.node, *]; exact rfl))) (fun l cl z' r' hs hcl hr' => ?_) (fun z' r' hs hr' => ?_))) <;> (try cbv))
    | ((refine GenH.call' G (at_node [] (by subst_vars; exact rfl) (by first | exact .inl rfl | exact .inr rfl) rfl (fun cl hcl => ?_))) <;> (try cbv))
    | ((refine GenH.call' G (at_node [.mk _ _ _ _] (by subst_vars; exact rfl) (by first | exact .inl rfl | exact .inr rfl) rfl (fun cl hcl => ?_))) <;> (try cbv))
    | ((refine GenH.call' G (at_node [.mk _ _ _ _, .mk _ _ _ _] (by subst_vars; exact rfl) (by first | exact .inl rfl | exact .inr rfl) rfl (fun cl hcl => ?_))) <;> (try cbv))
    | ((refine GenH.call' G (at_node [.mk _ _ _ _, .mk _ _ _ _, .mk _ _ _ _] (by subst_vars; exact rfl) (by first | exact .inl rfl | exact .inr rfl) rfl (fun cl hcl => ?_))) <;> (try cbv))
    | ((refine GenH.call' G (at_node [.mk _ _ _ _, .mk _ _ _ _, .mk _ _ _ _, .mk _ _ _ _, .mk _ _ _ _] (by subst_vars; exact rfl) (by first | exact .inl rfl | exact .inr rfl) rfl (fun cl hcl => ?_))) <;> (try cbv))
    | ((refine GenH.call' G (at_node (.mk _ _ _ _ :: _) (by subst_vars; exact rfl) (by first | exact .inl rfl | exact .inr rfl) rfl (fun cl hcl => ?_))) <;> (try cbv))
    | ((refine GenH.call' G (at_node _ (by subst_vars; exact rfl) (by first | exact .inl rfl | exact .inr rfl) rfl (fun cl hcl => ?_))) <;> (try cbv))
    | (rw [hnot]; (try cbv))
    | fail)
 all_goals first
  | exact hbad _ _ (by first | (simp only [query, Rs.bind, Ps.need, Ps.take, Ps.needs, Bool.or_true, Bool.or_false, Bool.true_or, Bool.false_or, Bool.and_true, Bool.and_false, Bool.true_and, Bool.false_and, Ps.named, Ps.node, *]; done) | (simp only [query, Rs.bind, Ps.need, Ps.take, Ps.needs, Bool.or_true, Bool.or_false, Bool.true_or, Bool.false_or, Bool.and_true, Bool.and_false, Bool.true_and, Bool.false_and, Ps.named, Ps.node, *]; exact rfl)) (by assumption) (Nat.le_of_ble_eq_true rfl)
  | exact hfin _ _ _ _ _ _ _ _ _ (by first | (simp only [query, Rs.bind, Ps.need, Ps.take, Ps.needs, Bool.or_true, Bool.or_false, Bool.true_or, Bool.false_or, Bool.and_true, Bool.and_false, Bool.true_and, Bool.false_and, Ps.named, Ps.node, *]; done) | (simp only [query, Rs.bind, Ps.need, Ps.take, Ps.needs, Bool.or_true, Bool.or_false, Bool.true_or, Bool.false_or, Bool.and_true, Bool.and_false, Bool.true_and, Bool.false_and, Ps.named, Ps.node, *]; exact rfl)) (by subst_vars; exact rfl) (by first | exact .inl rfl | exact .inr rfl) (by assumption) (Nat.le_of_ble_eq_true rfl)
theorem at_query {t : List Tk} (ht : Toks t) (n : Nat) (hn : n ≤ 1000000000) (P : Parser t n) : Fn t 37 [] (query reservedB t n) := fn_of (fun _ => rfl) fun z r h hf => lit_query ht n hn P z r h hf
theorem lit_whose {t : List Tk} (ht : Toks t) (n : Nat) (hn : n ≤ 1000000000) (P : Parser t n) (z : Nat) (r : List AV) (h : At t z r) (hf : whose reservedB t n z = .fuel → False) :
  CallP Tryz.prog (Pr.tab real) 45 [.ptr 0 0] (P0 r) (Post t (whose reservedB t n z) Nd.av) := by
 have hfin := fun op s k e cs m l z' S' => finOk t (whose reservedB t n z) op s k e cs m l z' S'
 have hbad := fun z' S' => finBad t (whose reservedB t n z) Nd.av z' S'
 generalize Post t (whose reservedB t n z) Nd.av = K0 at hfin hbad ⊢
 apply body_calls (un := 0) Pr.tabOk Pr.mixed Ps.fn45 (Nat.le_of_ble_eq_true rfl)
 apply gen_body (mk := Pr.tab)
 intro fail need same call loop len slen arith shift cmp conv eqS ltS cat app elt byt subS subL strOf isB fit inb cut room not and eqB avs G
 have heqS : ∀ a b, eqS a b = (a == b) := fun a b => by rw [G.eqS']
 have hnot : ∀ b, not b = !b := fun b => by rw [G.not']
 unfold P0
 cbv
 repeat'
  (first
    | refine GenH.need' G rfl ?_
    | refine GenH.same' G rfl ?_
    | (rw [heqS]; (try rw [hnot]); split <;> ((first | contradiction | (rename_i hq; (try simp only [Bool.not_eq_true', Bool.not_eq_false'] at hq); rw [hq]) | (rename_i hq _; rw [hq]) | skip); try cbv))
    | ((refine GenH.call' G (at_take ht (by assumption) (Nat.le_of_ble_eq_true rfl) (fun r' hs hr' => ?_) (fun r' hs hr' => ?_))) <;> (try cbv))
    | ((refine GenH.call' G (at_take2 ht (by assumption) (Nat.le_of_ble_eq_true rfl) (fun r' hs hs2 hr' => ?_) (fun r' hs hr' => ?_) (fun z' r' hs hs2 hr' => ?_))) <;> (try cbv))
    | ((refine GenH.call' G (at_name ht (by assumption) (Nat.le_of_ble_eq_true rfl) (fun a z' r' hs hr' => ?_) (fun z' r' hs hr' => ?_))) <;> (try cbv))
    | ((refine GenH.call' G (P.expr _ _ 0 _ (by assumption) (Nat.le_of_ble_eq_true rfl) (fun q => hf (by first | (simp only [whose, Rs.bind, Ps.need, Ps.take, Ps.needs, Bool.or_true, Bool.or_false, Bool.true_or, Bool.false_or, Bool.and_true, Bool.and_false, Bool.true_and, Bool.false_and, Ps.named, Ps.node, *]; done) | (simp only [whose, Rs.bind, Ps.need, Ps.take, Ps.needs, Bool.or_true, Bool.or_false, Bool.true_or, Bool.false_or, Bool.and_true, Bool.and_false, Bool.true_and, Bool.false_and, Ps.named, Ps.node, *]; exact rfl))) (fun op s k l cl z' r' hs hcl hr' => ?_) (fun z' r' hs hr' => ?_))) <;> (try cbv))
    | ((refine GenH.call' G (at_named [] (by subst_vars; exact rfl) (by first | exact .inl rfl | exact .inr rfl) rfl (fun cl hcl => ?_))) <;> (try cbv))
    | ((refine GenH.call' G (at_named [.mk _ _ _ _] (by subst_vars; exact rfl) (by first | exact .inl rfl | exact .inr rfl) rfl (fun cl hcl => ?_))) <;> (try cbv))
    | ((refine GenH.call' G (at_named [.mk _ _ _ _, .mk _ _ _ _] (by subst_vars; exact rfl) (by first | exact .inl rfl | exact .inr rfl) rfl (fun cl hcl => ?_))) <;> (try cbv))
    | ((refine GenH.call' G (at_named [.mk _ _ _ _, .mk _ _ _ _, .mk _ _ _ _] (by subst_vars; exact rfl) (by first | exact .inl rfl | exact .inr rfl) rfl (fun cl hcl => ?_))) <;> (try cbv))
    | ((refine GenH.call' G (at_named [.mk _ _ _ _, .mk _ _ _ _, .mk _ _ _ _, .mk _ _ _ _, .mk _ _ _ _] (by subst_vars; exact rfl) (by first | exact .inl rfl | exact .inr rfl) rfl (fun cl hcl => ?_))) <;> (try cbv))
    | ((refine GenH.call' G (at_named (.mk _ _ _ _ :: _) (by subst_vars; exact rfl) (by first | exact .inl rfl | exact .inr rfl) rfl (fun cl hcl => ?_))) <;> (try cbv))
    | ((refine GenH.call' G (at_named _ (by subst_vars; exact rfl) (by first | exact .inl rfl | exact .inr rfl) rfl (fun cl hcl => ?_))) <;> (try cbv))
    | ((refine GenH.call' G (at_node [] (by subst_vars; exact rfl) (by first | exact .inl rfl | exact .inr rfl) rfl (fun cl hcl => ?_))) <;> (try cbv))
    | ((refine GenH.call' G (at_node [.mk _ _ _ _] (by subst_vars; exact rfl) (by first | exact .inl rfl | exact .inr rfl) rfl (fun cl hcl => ?_))) <;> (try cbv))
    | ((refine GenH.call' G (at_node [.mk _ _ _ _, .mk _ _ _ _] (by subst_vars; exact rfl) (by first | exact .inl rfl | exact .inr rfl) rfl (fun cl hcl => ?_))) <;> (try cbv))
    | ((refine GenH.call' G (at_node [.mk _ _ _ _, .mk _ _ _ _, .mk _ _ _ _] (by subst_vars; exact rfl) (by first | exact .inl rfl | exact .inr rfl) rfl (fun cl hcl => ?_))) <;> (try cbv))
    | ((refine GenH.call' G (at_node [.mk _ _ _ _, .mk _ _ _ _, .mk _ _ _ _, .mk _ _ _ _, .mk _ _ _ _] (by subst_vars; exact rfl) (by first | exact .inl rfl | exact .inr rfl) rfl (fun cl hcl => ?_))) <;> (try cbv))
    | ((refine GenH.call' G (at_node (.mk _ _ _ _ :: _) (by subst_vars; exact rfl) (by first | exact .inl rfl | exact .inr rfl) rfl (fun cl hcl => ?_))) <;> (try cbv))
    | ((refine GenH.call' G (at_node _ (by subst_vars; exact rfl) (by first | exact .inl rfl | exact .inr rfl) rfl (fun cl hcl => ?_))) <;> (try cbv))
    | (rw [hnot]; (try cbv))
    | fail)
 all_goals first
  | exact hbad _ _ (by first | (simp only [whose, Rs.bind, Ps.need, Ps.take, Ps.needs, Bool.or_true, Bool.or_false, Bool.true_or, Bool.false_or, Bool.and_true, Bool.and_false, Bool.true_and, Bool.false_and, Ps.named, Ps.node, *]; done) | (simp only [whose, Rs.bind, Ps.need, Ps.take, Ps.needs, Bool.or_true, Bool.or_false, Bool.true_or, Bool.false_or, Bool.and_true, Bool.and_false, Bool.true_and, Bool.false_and, Ps.named, Ps.node, *]; exact rfl)) (by assumption) (Nat.le_of_ble_eq_true rfl)
  | exact hfin _ _ _ _ _ _ _ _ _ (by first | (simp only [whose, Rs.bind, Ps.need, Ps.take, Ps.needs, Bool.or_true, Bool.or_false, Bool.true_or, Bool.false_or, Bool.and_true, Bool.and_false, Bool.true_and, Bool.false_and, Ps.named, Ps.node, *]; done) | (simp only [whose, Rs.bind, Ps.need, Ps.take, Ps.needs, Bool.or_true, Bool.or_false, Bool.true_or, Bool.false_or, Bool.and_true, Bool.and_false, Bool.true_and, Bool.false_and, Ps.named, Ps.node, *]; exact rfl)) (by subst_vars; exact rfl) (by first | exact .inl rfl | exact .inr rfl) (by assumption) (Nat.le_of_ble_eq_true rfl)
theorem at_whose {t : List Tk} (ht : Toks t) (n : Nat) (hn : n ≤ 1000000000) (P : Parser t n) : Fn t 45 [] (whose reservedB t n) := fn_of (fun _ => rfl) fun z r h hf => lit_whose ht n hn P z r h hf
theorem lit_setE {t : List Tk} (ht : Toks t) (n : Nat) (hn : n ≤ 1000000000) (P : Parser t n) (z : Nat) (r : List AV) (h : At t z r) (hf : setE reservedB t n z = .fuel → False) :
  CallP Tryz.prog (Pr.tab real) 44 [.ptr 0 0] (P0 r) (Post t (setE reservedB t n z) Nd.av) := by
 have hfin := fun op s k e cs m l z' S' => finOk t (setE reservedB t n z) op s k e cs m l z' S'
 have hbad := fun z' S' => finBad t (setE reservedB t n z) Nd.av z' S'
 generalize Post t (setE reservedB t n z) Nd.av = K0 at hfin hbad ⊢
 apply body_calls (un := 0) Pr.tabOk Pr.mixed Ps.fn44 (Nat.le_of_ble_eq_true rfl)
 apply gen_body (mk := Pr.tab)
 intro fail need same call loop len slen arith shift cmp conv eqS ltS cat app elt byt subS subL strOf isB fit inb cut room not and eqB avs G
 have heqS : ∀ a b, eqS a b = (a == b) := fun a b => by rw [G.eqS']
 have hnot : ∀ b, not b = !b := fun b => by rw [G.not']
 unfold P0
 cbv
 repeat'
  (first
    | refine GenH.need' G rfl ?_
    | refine GenH.same' G rfl ?_
    | (rw [heqS]; (try rw [hnot]); split <;> ((first | contradiction | (rename_i hq; (try simp only [Bool.not_eq_true', Bool.not_eq_false'] at hq); rw [hq]) | (rename_i hq _; rw [hq]) | skip); try cbv))
    | ((refine GenH.call' G (at_name ht (by assumption) (Nat.le_of_ble_eq_true rfl) (fun a z' r' hs hr' => ?_) (fun z' r' hs hr' => ?_))) <;> (try cbv))
    | ((refine GenH.call' G (at_need ht (by assumption) (Nat.le_of_ble_eq_true rfl) (fun r' hs hr' => ?_) (fun z' r' hs hr' => ?_))) <;> (try cbv))
    | ((refine GenH.call' G (P.expr _ _ 0 _ (by assumption) (Nat.le_of_ble_eq_true rfl) (fun q => hf (by first | (simp only [setE, Rs.bind, Ps.need, Ps.take, Ps.needs, Bool.or_true, Bool.or_false, Bool.true_or, Bool.false_or, Bool.and_true, Bool.and_false, Bool.true_and, Bool.false_and, Ps.named, Ps.node, *]; done) | (simp only [setE, Rs.bind, Ps.need, Ps.take, Ps.needs, Bool.or_true, Bool.or_false, Bool.true_or, Bool.false_or, Bool.and_true, Bool.and_false, Bool.true_and, Bool.false_and, Ps.named, Ps.node, *]; exact rfl))) (fun op s k l cl z' r' hs hcl hr' => ?_) (fun z' r' hs hr' => ?_))) <;> (try cbv))
    | ((refine GenH.call' G (at_named [] (by subst_vars; exact rfl) (by first | exact .inl rfl | exact .inr rfl) rfl (fun cl hcl => ?_))) <;> (try cbv))
    | ((refine GenH.call' G (at_named [.mk _ _ _ _] (by subst_vars; exact rfl) (by first | exact .inl rfl | exact .inr rfl) rfl (fun cl hcl => ?_))) <;> (try cbv))
    | ((refine GenH.call' G (at_named [.mk _ _ _ _, .mk _ _ _ _] (by subst_vars; exact rfl) (by first | exact .inl rfl | exact .inr rfl) rfl (fun cl hcl => ?_))) <;> (try cbv))
    | ((refine GenH.call' G (at_named [.mk _ _ _ _, .mk _ _ _ _, .mk _ _ _ _] (by subst_vars; exact rfl) (by first | exact .inl rfl | exact .inr rfl) rfl (fun cl hcl => ?_))) <;> (try cbv))
    | ((refine GenH.call' G (at_named [.mk _ _ _ _, .mk _ _ _ _, .mk _ _ _ _, .mk _ _ _ _, .mk _ _ _ _] (by subst_vars; exact rfl) (by first | exact .inl rfl | exact .inr rfl) rfl (fun cl hcl => ?_))) <;> (try cbv))
    | ((refine GenH.call' G (at_named (.mk _ _ _ _ :: _) (by subst_vars; exact rfl) (by first | exact .inl rfl | exact .inr rfl) rfl (fun cl hcl => ?_))) <;> (try cbv))
    | ((refine GenH.call' G (at_named _ (by subst_vars; exact rfl) (by first | exact .inl rfl | exact .inr rfl) rfl (fun cl hcl => ?_))) <;> (try cbv))
    | (rw [hnot]; (try cbv))
    | fail)
 all_goals first
  | exact hbad _ _ (by first | (simp only [setE, Rs.bind, Ps.need, Ps.take, Ps.needs, Bool.or_true, Bool.or_false, Bool.true_or, Bool.false_or, Bool.and_true, Bool.and_false, Bool.true_and, Bool.false_and, Ps.named, Ps.node, *]; done) | (simp only [setE, Rs.bind, Ps.need, Ps.take, Ps.needs, Bool.or_true, Bool.or_false, Bool.true_or, Bool.false_or, Bool.and_true, Bool.and_false, Bool.true_and, Bool.false_and, Ps.named, Ps.node, *]; exact rfl)) (by assumption) (Nat.le_of_ble_eq_true rfl)
  | exact hfin _ _ _ _ _ _ _ _ _ (by first | (simp only [setE, Rs.bind, Ps.need, Ps.take, Ps.needs, Bool.or_true, Bool.or_false, Bool.true_or, Bool.false_or, Bool.and_true, Bool.and_false, Bool.true_and, Bool.false_and, Ps.named, Ps.node, *]; done) | (simp only [setE, Rs.bind, Ps.need, Ps.take, Ps.needs, Bool.or_true, Bool.or_false, Bool.true_or, Bool.false_or, Bool.and_true, Bool.and_false, Bool.true_and, Bool.false_and, Ps.named, Ps.node, *]; exact rfl)) (by subst_vars; exact rfl) (by first | exact .inl rfl | exact .inr rfl) (by assumption) (Nat.le_of_ble_eq_true rfl)
theorem at_setE {t : List Tk} (ht : Toks t) (n : Nat) (hn : n ≤ 1000000000) (P : Parser t n) : Fn t 44 [] (setE reservedB t n) := fn_of (fun _ => rfl) fun z r h hf => lit_setE ht n hn P z r h hf
theorem lit_rowP {t : List Tk} (ht : Toks t) (n : Nat) (hn : n ≤ 1000000000) (P : Parser t n) (z : Nat) (r : List AV) (h : At t z r) (hf : rowP reservedB t n z = .fuel → False) :
  CallP Tryz.prog (Pr.tab real) 81 [.ptr 1 0] (P2 r) (PostC t 2 (rowP reservedB t n z) Nd.av) := by
 have hfin := fun op s k e cs m l z' S' => finOkC t 2 (rowP reservedB t n z) op s k e cs m l z' S'
 have hbad := fun z' S' => finBadC t 2 (rowP reservedB t n z) Nd.av z' S'
 generalize PostC t 2 (rowP reservedB t n z) Nd.av = K0 at hfin hbad ⊢
 apply body_calls (un := 0) Pr.tabOk Pr.mixed Ps.fn81 (Nat.le_of_ble_eq_true rfl)
 apply gen_body (mk := Pr.tab)
 intro fail need same call loop len slen arith shift cmp conv eqS ltS cat app elt byt subS subL strOf isB fit inb cut room not and eqB avs G
 have heqS : ∀ a b, eqS a b = (a == b) := fun a b => by rw [G.eqS']
 have hnot : ∀ b, not b = !b := fun b => by rw [G.not']
 unfold P2
 cbv
 repeat'
  (first
    | refine GenH.need' G rfl ?_
    | refine GenH.same' G rfl ?_
    | ((refine GenH.call' G (at_withinL ht P.exprs (by assumption) (Nat.le_of_ble_eq_true rfl) (fun q => hf (by first | (simp only [rowP, Rs.bind, Ps.need, Ps.take, Ps.needs, Bool.or_true, Bool.or_false, Bool.true_or, Bool.false_or, Bool.and_true, Bool.and_false, Bool.true_and, Bool.false_and, Ps.named, Ps.node, *]; done) | (simp only [rowP, Rs.bind, Ps.need, Ps.take, Ps.needs, Bool.or_true, Bool.or_false, Bool.true_or, Bool.false_or, Bool.and_true, Bool.and_false, Bool.true_and, Bool.false_and, Ps.named, Ps.node, *]; exact rfl))) (fun l cl z' r' hs hcl hr' => ?_) (fun z' r' hs hr' => ?_))) <;> (try cbv))
    | ((refine GenH.call' G (at_node [] (by subst_vars; exact rfl) (by first | exact .inl rfl | exact .inr rfl) rfl (fun cl hcl => ?_))) <;> (try cbv))
    | ((refine GenH.call' G (at_node [.mk _ _ _ _] (by subst_vars; exact rfl) (by first | exact .inl rfl | exact .inr rfl) rfl (fun cl hcl => ?_))) <;> (try cbv))
    | ((refine GenH.call' G (at_node [.mk _ _ _ _, .mk _ _ _ _] (by subst_vars; exact rfl) (by first | exact .inl rfl | exact .inr rfl) rfl (fun cl hcl => ?_))) <;> (try cbv))
    | ((refine GenH.call' G (at_node [.mk _ _ _ _, .mk _ _ _ _, .mk _ _ _ _] (by subst_vars; exact rfl) (by first | exact .inl rfl | exact .inr rfl) rfl (fun cl hcl => ?_))) <;> (try cbv))
    | ((refine GenH.call' G (at_node [.mk _ _ _ _, .mk _ _ _ _, .mk _ _ _ _, .mk _ _ _ _, .mk _ _ _ _] (by subst_vars; exact rfl) (by first | exact .inl rfl | exact .inr rfl) rfl (fun cl hcl => ?_))) <;> (try cbv))
    | ((refine GenH.call' G (at_node (.mk _ _ _ _ :: _) (by subst_vars; exact rfl) (by first | exact .inl rfl | exact .inr rfl) rfl (fun cl hcl => ?_))) <;> (try cbv))
    | ((refine GenH.call' G (at_node _ (by subst_vars; exact rfl) (by first | exact .inl rfl | exact .inr rfl) rfl (fun cl hcl => ?_))) <;> (try cbv))
    | (rw [hnot]; (try cbv))
    | fail)
 all_goals first
  | exact hbad _ _ (by first | (simp only [rowP, Rs.bind, Ps.need, Ps.take, Ps.needs, Bool.or_true, Bool.or_false, Bool.true_or, Bool.false_or, Bool.and_true, Bool.and_false, Bool.true_and, Bool.false_and, Ps.named, Ps.node, *]; done) | (simp only [rowP, Rs.bind, Ps.need, Ps.take, Ps.needs, Bool.or_true, Bool.or_false, Bool.true_or, Bool.false_or, Bool.and_true, Bool.and_false, Bool.true_and, Bool.false_and, Ps.named, Ps.node, *]; exact rfl)) (by assumption) (Nat.le_of_ble_eq_true rfl) rfl
  | exact hfin _ _ _ _ _ _ _ _ _ (by first | (simp only [rowP, Rs.bind, Ps.need, Ps.take, Ps.needs, Bool.or_true, Bool.or_false, Bool.true_or, Bool.false_or, Bool.and_true, Bool.and_false, Bool.true_and, Bool.false_and, Ps.named, Ps.node, *]; done) | (simp only [rowP, Rs.bind, Ps.need, Ps.take, Ps.needs, Bool.or_true, Bool.or_false, Bool.true_or, Bool.false_or, Bool.and_true, Bool.and_false, Bool.true_and, Bool.false_and, Ps.named, Ps.node, *]; exact rfl)) (by subst_vars; exact rfl) (by first | exact .inl rfl | exact .inr rfl) (by assumption) (Nat.le_of_ble_eq_true rfl) rfl
theorem at_rowP {t : List Tk} (ht : Toks t) (n : Nat) (hn : n ≤ 1000000000) (P : Parser t n) : FnC t 81 (rowP reservedB t n) := fnC_of fun z r h hf => lit_rowP ht n hn P z r h hf
theorem lit_level {t : List Tk} (ht : Toks t) (n : Nat) (hn : n ≤ 1000000000) (P : Parser t n) (z : Nat) (r : List AV) (h : At t z r) (hf : level t z = .fuel → False) :
  CallP Tryz.prog (Pr.tab real) 47 [.ptr 0 0] (P0 r) (Post t (level t z) (AV.int .i64)) := by
 have hfin := fun a z' S' => finI t (level t z) a z' S'
 have hbad := fun z' S' => finBad t (level t z) (AV.int .i64) z' S'
 generalize Post t (level t z) (AV.int .i64) = K0 at hfin hbad ⊢
 apply body_calls (un := 0) Pr.tabOk Pr.mixed Ps.fn47 (Nat.le_of_ble_eq_true rfl)
 apply gen_body (mk := Pr.tab)
 intro fail need same call loop len slen arith shift cmp conv eqS ltS cat app elt byt subS subL strOf isB fit inb cut room not and eqB avs G
 have heqS : ∀ a b, eqS a b = (a == b) := fun a b => by rw [G.eqS']
 have hnot : ∀ b, not b = !b := fun b => by rw [G.not']
 unfold P0
 cbv
 repeat'
  (first
    | refine GenH.need' G rfl ?_
    | refine GenH.same' G rfl ?_
    | (rw [heqS]; (try rw [hnot]); split <;> ((first | contradiction | (rename_i hq; (try simp only [Bool.not_eq_true', Bool.not_eq_false'] at hq); rw [hq]) | (rename_i hq _; rw [hq]) | skip); try cbv))
    | ((refine GenH.call' G (at_one ht [_, _, _] (by decide) (by assumption) (Nat.le_of_ble_eq_true rfl) (fun a z' r' hs hr' => ?_))) <;> (try cbv))
    | ((refine GenH.call' G (at_take ht (by assumption) (Nat.le_of_ble_eq_true rfl) (fun r' hs hr' => ?_) (fun r' hs hr' => ?_))) <;> (try cbv))
    | ((refine GenH.call' G (at_need ht (by assumption) (Nat.le_of_ble_eq_true rfl) (fun r' hs hr' => ?_) (fun z' r' hs hr' => ?_))) <;> (try cbv))
    | (rw [hnot]; (try cbv))
    | fail)
 all_goals first
  | exact hbad _ _ (by first | (simp only [level, Rs.bind, Ps.need, Ps.take, Ps.needs, Bool.or_true, Bool.or_false, Bool.true_or, Bool.false_or, Bool.and_true, Bool.and_false, Bool.true_and, Bool.false_and, *]; done) | (simp only [level, Rs.bind, Ps.need, Ps.take, Ps.needs, Bool.or_true, Bool.or_false, Bool.true_or, Bool.false_or, Bool.and_true, Bool.and_false, Bool.true_and, Bool.false_and, *]; exact rfl)) (by assumption) (Nat.le_of_ble_eq_true rfl)
  | exact hfin _ _ _ (by first | (simp only [level, Rs.bind, Ps.need, Ps.take, Ps.needs, Bool.or_true, Bool.or_false, Bool.true_or, Bool.false_or, Bool.and_true, Bool.and_false, Bool.true_and, Bool.false_and, *]; done) | (simp only [level, Rs.bind, Ps.need, Ps.take, Ps.needs, Bool.or_true, Bool.or_false, Bool.true_or, Bool.false_or, Bool.and_true, Bool.and_false, Bool.true_and, Bool.false_and, *]; exact rfl)) (by assumption) (Nat.le_of_ble_eq_true rfl)
theorem level_fuel (t : List Tk) (z : Nat) : level t z = .fuel → False := by
 intro h
 unfold level at h
 have ho : ∀ l z, one t l z ≠ .fuel := by
  intro l
  induction l with
  | nil => intro z; simp [one]
  | cons a l ih => intro z; unfold one; split <;> simp [ih]
 have htk : ∀ s z, take t s [] z ≠ .fuel := by
  intro s z
  unfold Ps.take; split <;> simp [Ps.needs, Rs.bind]
 refine bind_fuel h (ho _ _) fun a z h => ?_
 split at h
 · refine bind_fuel h (htk _ _) fun a z h => ?_
   split at h
   · cases h
   · exact bind_fuel h (need_fuel _ _ _) fun _ _ h => nomatch h
 · split at h
   · exact bind_fuel h (need_fuel _ _ _) fun _ _ h => nomatch h
   · split at h <;> cases h
theorem at_level {t : List Tk} (ht : Toks t) (n : Nat) (hn : n ≤ 1000000000) (P : Parser t n) {z : Nat} {S : St} {o : Nat} (h : At t z (S.row o)) (ho : o < S.next) {K : Out → St → Prop}
  (hok : ∀ a z' r', level t z = .ok a z' → At t z' r' → K (.ret (.int .i64 a)) (S.set o r')) (hwr : ∀ z' r', level t z = .wrong → At t z' r' → K (.panic wrongV) (S.set o r')) :
  CallP Tryz.prog (Pr.tab real) 47 [.ptr o 0] S K :=
 lift_fn (renP rfl) int_ren h ho (lit_level ht n hn P z _ h (level_fuel t z)) hok hwr
theorem lit_declareP {t : List Tk} (ht : Toks t) (n : Nat) (hn : n ≤ 1000000000) (P : Parser t n) (z : Nat) (r : List AV) (h : At t z r) (hf : declareP reservedB t n z = .fuel → False) :
  CallP Tryz.prog (Pr.tab real) 48 [.ptr 0 0] (P0 r) (Post t (declareP reservedB t n z) Nd.av) := by
 have hfin := fun op s k e cs m l z' S' => finOk t (declareP reservedB t n z) op s k e cs m l z' S'
 have hbad := fun z' S' => finBad t (declareP reservedB t n z) Nd.av z' S'
 have hfin2 := fun op s k cs m l z' S' => finOk2 t (declareP reservedB t n z) op s k cs m l z' S'
 generalize Post t (declareP reservedB t n z) Nd.av = K0 at hfin hbad hfin2 ⊢
 apply body_calls (un := 0) Pr.tabOk Pr.mixed Ps.fn48 (Nat.le_of_ble_eq_true rfl)
 apply gen_body (mk := Pr.tab)
 intro fail need same call loop len slen arith shift cmp conv eqS ltS cat app elt byt subS subL strOf isB fit inb cut room not and eqB avs G
 have heqS : ∀ a b, eqS a b = (a == b) := fun a b => by rw [G.eqS']
 have hnot : ∀ b, not b = !b := fun b => by rw [G.not']
 unfold P0
 cbv
 repeat'
  (first
    | refine GenH.need' G rfl ?_
    | refine GenH.same' G rfl ?_
    | (rw [heqS]; (try rw [hnot]); split <;> ((first | contradiction | (rename_i hq; (try simp only [Bool.not_eq_true', Bool.not_eq_false'] at hq); rw [hq]) | (rename_i hq _; rw [hq]) | skip); try cbv))
    | ((refine GenH.call' G (at_name ht (by assumption) (Nat.le_of_ble_eq_true rfl) (fun a z' r' hs hr' => ?_) (fun z' r' hs hr' => ?_))) <;> (try cbv))
    | ((refine GenH.call' G (at_take ht (by assumption) (Nat.le_of_ble_eq_true rfl) (fun r' hs hr' => ?_) (fun r' hs hr' => ?_))) <;> (try cbv))
    | ((refine GenH.call' G (at_need ht (by assumption) (Nat.le_of_ble_eq_true rfl) (fun r' hs hr' => ?_) (fun z' r' hs hr' => ?_))) <;> (try cbv))
    | ((refine GenH.call' G ((at_query ht n hn P) _ _ 0 _ (by assumption) (Nat.le_of_ble_eq_true rfl) (fun q => hf (by first | (simp only [declareP, forP, Rs.bind, Ps.need, Ps.take, Ps.needs, Bool.or_true, Bool.or_false, Bool.true_or, Bool.false_or, Bool.and_true, Bool.and_false, Bool.true_and, Bool.false_and, Ps.named, Ps.node, *]; done) | (simp only [declareP, forP, Rs.bind, Ps.need, Ps.take, Ps.needs, Bool.or_true, Bool.or_false, Bool.true_or, Bool.false_or, Bool.and_true, Bool.and_false, Bool.true_and, Bool.false_and, Ps.named, Ps.node, *]; exact rfl))) (fun op s k l cl z' r' hs hcl hr' => ?_) (fun z' r' hs hr' => ?_))) <;> (try cbv))
    | ((refine GenH.call' G (at_one ht [_, _] (by decide) (by assumption) (Nat.le_of_ble_eq_true rfl) (fun a z' r' hs hr' => ?_))) <;> (try cbv))
    | ((refine GenH.call' G (at_named [] (by subst_vars; exact rfl) (by first | exact .inl rfl | exact .inr rfl) rfl (fun cl hcl => ?_))) <;> (try cbv))
    | ((refine GenH.call' G (at_named [.mk _ _ _ _] (by subst_vars; exact rfl) (by first | exact .inl rfl | exact .inr rfl) rfl (fun cl hcl => ?_))) <;> (try cbv))
    | ((refine GenH.call' G (at_named [.mk _ _ _ _, .mk _ _ _ _] (by subst_vars; exact rfl) (by first | exact .inl rfl | exact .inr rfl) rfl (fun cl hcl => ?_))) <;> (try cbv))
    | ((refine GenH.call' G (at_named [.mk _ _ _ _, .mk _ _ _ _, .mk _ _ _ _] (by subst_vars; exact rfl) (by first | exact .inl rfl | exact .inr rfl) rfl (fun cl hcl => ?_))) <;> (try cbv))
    | ((refine GenH.call' G (at_named [.mk _ _ _ _, .mk _ _ _ _, .mk _ _ _ _, .mk _ _ _ _, .mk _ _ _ _] (by subst_vars; exact rfl) (by first | exact .inl rfl | exact .inr rfl) rfl (fun cl hcl => ?_))) <;> (try cbv))
    | ((refine GenH.call' G (at_named (.mk _ _ _ _ :: _) (by subst_vars; exact rfl) (by first | exact .inl rfl | exact .inr rfl) rfl (fun cl hcl => ?_))) <;> (try cbv))
    | ((refine GenH.call' G (at_named _ (by subst_vars; exact rfl) (by first | exact .inl rfl | exact .inr rfl) rfl (fun cl hcl => ?_))) <;> (try cbv))
    | (rw [hnot]; (try cbv))
    | fail)
 all_goals first
  | exact hbad _ _ (by first | (simp only [declareP, forP, Rs.bind, Ps.need, Ps.take, Ps.needs, Bool.or_true, Bool.or_false, Bool.true_or, Bool.false_or, Bool.and_true, Bool.and_false, Bool.true_and, Bool.false_and, Ps.named, Ps.node, *]; done) | (simp only [declareP, forP, Rs.bind, Ps.need, Ps.take, Ps.needs, Bool.or_true, Bool.or_false, Bool.true_or, Bool.false_or, Bool.and_true, Bool.and_false, Bool.true_and, Bool.false_and, Ps.named, Ps.node, *]; exact rfl)) (by assumption) (Nat.le_of_ble_eq_true rfl)
  | exact hfin _ _ _ _ _ _ _ _ _ (by first | (simp only [declareP, forP, Rs.bind, Ps.need, Ps.take, Ps.needs, Bool.or_true, Bool.or_false, Bool.true_or, Bool.false_or, Bool.and_true, Bool.and_false, Bool.true_and, Bool.false_and, Ps.named, Ps.node, *]; done) | (simp only [declareP, forP, Rs.bind, Ps.need, Ps.take, Ps.needs, Bool.or_true, Bool.or_false, Bool.true_or, Bool.false_or, Bool.and_true, Bool.and_false, Bool.true_and, Bool.false_and, Ps.named, Ps.node, *]; exact rfl)) (by subst_vars; exact rfl) (by first | exact .inl rfl | exact .inr rfl) (by assumption) (Nat.le_of_ble_eq_true rfl)
  | exact hfin2 _ _ _ _ _ _ _ _ (by first | (simp only [declareP, forP, Rs.bind, Ps.need, Ps.take, Ps.needs, Bool.or_true, Bool.or_false, Bool.true_or, Bool.false_or, Bool.and_true, Bool.and_false, Bool.true_and, Bool.false_and, Ps.named, Ps.node, *]; done) | (simp only [declareP, forP, Rs.bind, Ps.need, Ps.take, Ps.needs, Bool.or_true, Bool.or_false, Bool.true_or, Bool.false_or, Bool.and_true, Bool.and_false, Bool.true_and, Bool.false_and, Ps.named, Ps.node, *]; exact rfl)) (.cons (NA.mk _ _ _ _ _ _ _ (by subst_vars; exact rfl) (by first | exact .inl rfl | exact .inr rfl)) (.cons (NA.mk _ _ _ _ _ _ _ (by subst_vars; exact rfl) (by first | exact .inl rfl | exact .inr rfl)) .nil)) (by assumption) (Nat.le_of_ble_eq_true rfl)
theorem at_declareP {t : List Tk} (ht : Toks t) (n : Nat) (hn : n ≤ 1000000000) (P : Parser t n) : Fn t 48 [] (declareP reservedB t n) := fn_of (fun _ => rfl) fun z r h hf => lit_declareP ht n hn P z r h hf
theorem lit_way {t : List Tk} (ht : Toks t) (n : Nat) (hn : n ≤ 1000000000) (P : Parser t n) (z : Nat) (r : List AV) (h : At t z r) (hf : way t z = .fuel → False) :
  CallP Tryz.prog (Pr.tab real) 49 [.ptr 0 0] (P0 r) (Post t (way t z) Nd.av) := by
 have hfin := fun op s k e cs m l z' S' => finOk t (way t z) op s k e cs m l z' S'
 have hbad := fun z' S' => finBad t (way t z) Nd.av z' S'
 generalize Post t (way t z) Nd.av = K0 at hfin hbad ⊢
 apply body_calls (un := 0) Pr.tabOk Pr.mixed Ps.fn49 (Nat.le_of_ble_eq_true rfl)
 apply gen_body (mk := Pr.tab)
 intro fail need same call loop len slen arith shift cmp conv eqS ltS cat app elt byt subS subL strOf isB fit inb cut room not and eqB avs G
 have heqS : ∀ a b, eqS a b = (a == b) := fun a b => by rw [G.eqS']
 have hnot : ∀ b, not b = !b := fun b => by rw [G.not']
 have hneg : ∀ a z1 z2, number t z1 = .ok a z2 → arith BinOp.sub IntKind.i64 0 a = -a := by
  intro a z1 z2 hq
  have hb : 0 ≤ a ∧ a < 9223372036854775808 := by
   unfold Ps.number at hq
   split at hq
   · cases hq
     unfold numAt
     cases hx : t[z1]? with
     | none => simp
     | some x => exact ht.nn x (List.mem_of_getElem? hx)
   · cases hq
  rw [G.arith']
  show IntKind.i64.wrap (0 - a) = -a
  rw [show (0 : Int) - a = -a by omega]
  exact wrap_i64 _ (by omega) (by omega)
 unfold P0
 cbv
 repeat'
  (first
    | refine GenH.need' G rfl ?_
    | refine GenH.same' G rfl ?_
    | (rw [heqS]; (try rw [hnot]); split <;> ((first | contradiction | (rename_i hq; (try simp only [Bool.not_eq_true', Bool.not_eq_false'] at hq); rw [hq]) | (rename_i hq _; rw [hq]) | skip); try cbv))
    | ((refine GenH.call' G (at_one ht [_, _, _, _, _, _] (by decide) (by assumption) (Nat.le_of_ble_eq_true rfl) (fun a z' r' hs hr' => ?_))) <;> (try cbv))
    | ((refine GenH.call' G (at_take ht (by assumption) (Nat.le_of_ble_eq_true rfl) (fun r' hs hr' => ?_) (fun r' hs hr' => ?_))) <;> (try cbv))
    | ((refine GenH.call' G (at_number ht (by assumption) (Nat.le_of_ble_eq_true rfl) (fun a z' r' hs hr' => ?_) (fun z' r' hs hr' => ?_))) <;> (try cbv))
    | ((refine GenH.call' G (at_node [] (by subst_vars; exact rfl) (by first | exact .inl rfl | exact .inr rfl) rfl (fun cl hcl => ?_))) <;> (try cbv))
    | ((refine GenH.call' G (at_node [.mk _ _ _ _] (by subst_vars; exact rfl) (by first | exact .inl rfl | exact .inr rfl) rfl (fun cl hcl => ?_))) <;> (try cbv))
    | ((refine GenH.call' G (at_node [.mk _ _ _ _, .mk _ _ _ _] (by subst_vars; exact rfl) (by first | exact .inl rfl | exact .inr rfl) rfl (fun cl hcl => ?_))) <;> (try cbv))
    | ((refine GenH.call' G (at_node [.mk _ _ _ _, .mk _ _ _ _, .mk _ _ _ _] (by subst_vars; exact rfl) (by first | exact .inl rfl | exact .inr rfl) rfl (fun cl hcl => ?_))) <;> (try cbv))
    | ((refine GenH.call' G (at_node [.mk _ _ _ _, .mk _ _ _ _, .mk _ _ _ _, .mk _ _ _ _, .mk _ _ _ _] (by subst_vars; exact rfl) (by first | exact .inl rfl | exact .inr rfl) rfl (fun cl hcl => ?_))) <;> (try cbv))
    | ((refine GenH.call' G (at_node (.mk _ _ _ _ :: _) (by subst_vars; exact rfl) (by first | exact .inl rfl | exact .inr rfl) rfl (fun cl hcl => ?_))) <;> (try cbv))
    | ((refine GenH.call' G (at_node _ (by subst_vars; exact rfl) (by first | exact .inl rfl | exact .inr rfl) rfl (fun cl hcl => ?_))) <;> (try cbv))
    | (((rw [hneg _ _ _ (by assumption)])) <;> (try cbv))
    | (rw [hnot]; (try cbv))
    | fail)
 all_goals first
  | exact hbad _ _ (by first | (simp only [way, Rs.bind, Ps.need, Ps.take, Ps.needs, Bool.or_true, Bool.or_false, Bool.true_or, Bool.false_or, Bool.and_true, Bool.and_false, Bool.true_and, Bool.false_and, Ps.named, Ps.node, *]; done) | (simp only [way, Rs.bind, Ps.need, Ps.take, Ps.needs, Bool.or_true, Bool.or_false, Bool.true_or, Bool.false_or, Bool.and_true, Bool.and_false, Bool.true_and, Bool.false_and, Ps.named, Ps.node, *]; exact rfl)) (by assumption) (Nat.le_of_ble_eq_true rfl)
  | exact hfin _ _ _ _ _ _ _ _ _ (by first | (simp only [way, Rs.bind, Ps.need, Ps.take, Ps.needs, Bool.or_true, Bool.or_false, Bool.true_or, Bool.false_or, Bool.and_true, Bool.and_false, Bool.true_and, Bool.false_and, Ps.named, Ps.node, *]; done) | (simp only [way, Rs.bind, Ps.need, Ps.take, Ps.needs, Bool.or_true, Bool.or_false, Bool.true_or, Bool.false_or, Bool.and_true, Bool.and_false, Bool.true_and, Bool.false_and, Ps.named, Ps.node, *]; exact rfl)) (by subst_vars; exact rfl) (by first | exact .inl rfl | exact .inr rfl) (by assumption) (Nat.le_of_ble_eq_true rfl)
theorem at_way {t : List Tk} (ht : Toks t) (n : Nat) (hn : n ≤ 1000000000) (P : Parser t n) : Fn t 49 [] (way t) := fn_of (fun _ => rfl) fun z r h hf => lit_way ht n hn P z r h hf
end Go.AM.Ps
