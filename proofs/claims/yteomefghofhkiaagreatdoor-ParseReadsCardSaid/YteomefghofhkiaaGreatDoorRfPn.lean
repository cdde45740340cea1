/- ParseReads over the abstract machine: it answers true at any text. -/
import Derived.Test.YteomefghofhkiaaGreatDoorRfPm
import Derived.Test.YteomefghofhkiaaGreatDoorRdL
import Derived.Test.YteomefghofhkiaaGreatDoorRdAlive
set_option maxRecDepth 100000
set_option maxHeartbeats 4000000
set_option linter.unusedVariables false
set_option linter.unusedSimpArgs false
namespace Go.AM.Rf
open Go.Proofs Go.AM.Ps Go.AM.W
theorem vak:Small jab:=by simp[jab,Small,ym]
theorem xb7(s:List UInt8):Small (zl qn s).1:=by
 have ht:=xbv s
 have htl:=ht.len
 have hr:Res (ze s).1 0 xe (statement qa (ze s).1 qn 0):=zan (by unfold qn;omega) (by unfold qn;omega)
 unfold zl
 split
 ·exact vak
 ·unfold xu
  cases hst:statement qa (ze s).1 qn 0 with
  |fuel=>exact vak
  |wrong=>exact vak
  |ok a z=>
   have hsm:=(hr.2 a z hst).2.2
   show Small (xan (ze s).1 a z).1
   unfold xan
   split
   ·exact vak
   ·split
    ·exact vak
    ·exact hsm
theorem Rf.fn3:FnOk Tryz.prog 3 (fni Tryz.f3 Pr.a3):=⟨⟨Tryz.f3,Tryz.func3,rfl,rfl,rfl,by kernel_rfl⟩,by kernel_rfl⟩
theorem reads_law(s:List UInt8):jb Tryz.prog (Pr.tab real) 3 [.str s] St.nil (fun o _=>o= .ret (.bool true)):=by
 have hal:=fun S K hK=>vda S K hK
 have hsm:=xb7 s
 have h8:=fun S K hK=>zd3 s S K hK
 have h9:=fun S K hK=>ves s S K hK
 generalize zl qn s=ps at *
 obtain⟨⟨op,sx,k,l⟩,code⟩:=ps
 have h10:=qdi _ hsm
 have h12:=qb0 _ hsm
 have h13:=zbk _ hsm
 obtain⟨cl,hcl⟩:∃ cl,cl=avL l:=⟨_,rfl⟩
 have hav:(Nd.mk op sx k l).av= .agg [.str op,.str sx,.int .i64 k,.slice 24 cl .no]:=by rw[hcl];rfl
 have h8:∀ S (K:Out→St→Prop),K (.ret (.tup [.agg [.str op,.str sx,.int .i64 k,.slice 24 cl .no],.str code])) S→jb Tryz.prog (Pr.tab real) 8 [.str s] S K:=fun S K hK=>h8 S K (by rw[hav];exact hK)
 have h9:∀ S (K:Out→St→Prop),K (.ret (.tup [.agg [.str op,.str sx,.int .i64 k,.slice 24 cl .no],.str code])) S→jb Tryz.prog (Pr.tab real) 9 [.str s] S K:=fun S K hK=>h9 S K (by rw[hav];exact hK)
 have h10:∀ S (K:Out→St→Prop),K (.ret (.bool true)) S→jb Tryz.prog (Pr.tab real) 10 [.agg [.str op,.str sx,.int .i64 k,.slice 24 cl .no],.agg [.str op,.str sx,.int .i64 k,.slice 24 cl .no]] S K:=fun S K hK=>by rw[← hav];exact h10 S K hK
 have h12:∀ S (K:Out→St→Prop),K (.ret (.int .i64 (depth (.mk op sx k l)))) S→jb Tryz.prog (Pr.tab real) 12 [.agg [.str op,.str sx,.int .i64 k,.slice 24 cl .no]] S K:=fun S K hK=>by rw[← hav];exact h12 S K hK
 have h13:∀ S (K:Out→St→Prop),K (.ret (.int .i64 (depth (.mk op sx k l)))) S→jb Tryz.prog (Pr.tab real) 13 [.agg [.str op,.str sx,.int .i64 k,.slice 24 cl .no]] S K:=fun S K hK=>by rw[← hav];exact h13 S K hK
 generalize depth (.mk op sx k l)=dp at *
 clear hav hcl hsm
 apply ja (un:=0) Pr.tabOk Pr.mixed Rf.fn3 (nb rfl)
 apply qb (mk:=Pr.tab)
 intro _ _ _ _ _ _ _ _ _ cmp _ eqS _ _ _ _ _ _ _ _ _ _ _ _ _ _ _ _ _ G
 generalize hK':(fun(o:Out) (_:St)=>o= .ret (.bool true))=K0
 have hfin:∀ S,K0 (.ret (.bool true)) S:=fun S=>by rw[← hK']
 clear hK'
 have heq:eqS code code=true:=by rw[G.eqS'];simp
 have hde:cmp BinOp.eql dp dp=true:=by rw[G.cmp'];simp[vb]
 cbv
 refine G.c' (h8 _ _ ?_)
 cbv
 refine G.c' (h9 _ _ ?_)
 cbv
 refine G.c' (h10 _ _ ?_)
 cbv
 refine G.c' (hal _ _ ?_)
 cbv
 iterate 6 (first|refine G.n' rfl ?_|refine G.s' rfl ?_|(rw[heq];try cbv)|cbv|skip)
 refine G.c' (h12 _ _ ?_)
 cbv
 iterate 6 (first|refine G.n' rfl ?_|refine G.s' rfl ?_|cbv|skip)
 refine G.c' (h13 _ _ ?_)
 cbv
 iterate 6 (first|refine G.n' rfl ?_|refine G.s' rfl ?_|(rw[hde];try cbv)|cbv|skip)
 exact hfin _
end Go.AM.Rf
