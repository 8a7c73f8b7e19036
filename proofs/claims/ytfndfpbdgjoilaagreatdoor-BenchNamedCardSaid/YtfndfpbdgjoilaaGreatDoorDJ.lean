/- Benches: Best, Count. -/
import Derived.Test.YtfndfpbdgjoilaaGreatDoorDI
import Derived.Test.YtfndfpbdgjoilaaGreatDoorDE
set_option linter.all false
set_option maxRecDepth 100000
namespace Go.Pi.L.Ben
open Go Go.Pi Go.Pi.L Go.Pi.E Go.Pi.Ben BM

theorem c51 {H:Heap}{r:BeR}{b:Bench}(hb:BeOk H r b)(hd:SmB r)(hB:isBench b=true) :
  ∀H',Grow H H'→Fam H'→R (.func 51) [.agg #[.int .i64 r.app,.slice r.ba r.bl r.bk,.slice r.sa r.sl r.sk]] H'=some ⟨.ok (.tuple #[.int .i64 ((bests b).length:Nat),.int .i64 0]),H',H'.length⟩:=by
 intro H' hg hF
 refine run_k (pr 51) P51 (by simp [p51]) rfl ?_
 have k1:=c74 hb hd H' hg
 rw [hB] at k1
 have hf:=fine_of hB
 have l1:=hb.br.isLoc r.bk
 have l2:=hb.st.isLoc r.sk
 obtain ⟨o,ho,bb,off,m,H1,lo,xs,rfl,u1,hlo,s1,h1,h2,h3,h4⟩:=c92 hb hf H' hg hF
 have hl:(bests b).length=xs.length:=by rw [←h1,List.length_map]
 rw [hl]
 have l3:=s1.isLoc m
 simp (maxDischargeDepth:=8) only [↓SD,SU,SV,SW,simprocAttr,Int.cast_ofNat_Int,small,resV, B51,R51,N51,b51, l1,l2,l3,k1,ho,R51,N51]
 rw [gc_ite (by omega)]; simp [flat]
def QBest (b:Bench)(H:Heap)(o:Out):Prop:=∃bb m H1 lo q,o=⟨.ok (.tuple #[.slice (some ⟨bb,0,none⟩) q.length m,.int .i64 (tk b q),.int .i64 0]),H1,lo⟩∧Up H H1∧H.length≤lo∧Ints H1 (some ⟨bb,0,none⟩) q.length q∧(bests b)[0]?=some q
theorem c50 {H:Heap}{r:BeR}{b:Bench}(hb:BeOk H r b)(hd:SmB r)(hB:isBench b=true) :
  ∀H',Grow H H'→Fam H'→Yes (R (.func 50) [.agg #[.int .i64 r.app,.slice r.ba r.bl r.bk,.slice r.sa r.sl r.sk]] H') (QBest b H'):=by
 intro H' hg hF
 refine run_y (pr 50) P50 (by simp [p50]) rfl ?_
 have k1:=c74 hb hd H' hg
 rw [hB] at k1
 have hf:=fine_of hB
 have l1:=hb.br.isLoc r.bk
 have l2:=hb.st.isLoc r.sk
 obtain ⟨o,ho,bb,off,m,H1,lo,xs,rfl,u1,hlo,s1,h1,h2,h3,h4⟩:=c92 hb hf H' hg hF
 have l3:=s1.isLoc m
 obtain ⟨b',o',x,e1,hx,hat⟩:=s1.at eT_len (by decide) h2
 cases e1
 obtain ⟨cb,x1,x2,x3,x4,x5,x6⟩:=h4 x (List.mem_of_getElem? hx)
 have f0:rdO (hcells H1 bb) (off+0*2) none=some (.slice x.a x.l x.m):=At.v0 hat H1 (Grow.refl _)
 have f1:rdO (hcells H1 bb) (off+0*2+1) none=some (.int .i64 x.t):=At.v1 hat H1 (Grow.refl _)
 have ia0:vv (.ia 2) [.slice (some ⟨bb,off,none⟩) xs.length m,.int .i64 0]=some (.pointer (some ⟨bb,off+0*2,none⟩)):=vv_iaN 2 bb off 0 _ _ _ h2
 rw [Nat.zero_mul,Nat.add_zero] at f0 f1 ia0
 have hq:(bests b)[0]?=some x.p:=by rw [←h1,List.getElem?_map,hx]; rfl
 have lx:isLoc (.slice x.a x.l x.m)=false:=by rw [x1]; rfl
 have hlo':H'.length≤lo:=hlo
 have ul:=u1.len
 simp (maxDischargeDepth:=8) only [↓SD,SU,SV,SW,simprocAttr,Int.cast_ofNat_Int,small,resV, B50,R50,N50,b50, l1,l2,l3,lx,k1,ho,ia0,f0,f1,R50,N50]
 rw [yes_some,gc_keep (by rw [x1]; simp [flat])]
 rw [x1,x2,x6]
 rw [x1,x2] at x5
 exact ⟨cb,x.m,H1,_,x.p,rfl,u1,by omega,x5,hq⟩
end Go.Pi.L.Ben
set_option maxRecDepth 100000
namespace Go.Pi.L.Ben
open Go Go.Pi Go.Pi.L Go.Pi.E Go.Pi.Ben BM

end Go.Pi.L.Ben
