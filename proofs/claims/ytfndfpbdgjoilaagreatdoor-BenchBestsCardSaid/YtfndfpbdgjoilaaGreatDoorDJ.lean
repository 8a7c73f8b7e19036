/- Benches: Best, Count. -/
import Derived.Test.YtfndfpbdgjoilaaGreatDoorDI
import Derived.Test.YtfndfpbdgjoilaaGreatDoorDE
set_option linter.all false
set_option maxRecDepth 100000
namespace Go.Pi.L.Ben
open Go Go.Pi Go.Pi.L Go.Pi.E Go.Pi.Ben BM

theorem e50 {H:Heap}{r:BeR}{b:Bench}(hb:BeOk H r b)(hd:SmB r)(h:isBench b=false) :
  ∀H',Grow H H'→R (.func 50) [.agg #[.int .i64 r.app,.slice r.ba r.bl r.bk,.slice r.sa r.sl r.sk]] H'=some ⟨.ok (.tuple #[.slice none 0 0,.int .i64 0,.int .i64 2]),H',H'.length⟩:=by
 intro H' hg
 refine run_k (pr 50) P50 (by simp [p50]) rfl ?_
 have k1:=c74 hb hd H' hg
 rw [h] at k1
 have l1:=hb.br.isLoc r.bk
 have l2:=hb.st.isLoc r.sk
 simp (maxDischargeDepth:=8) only [↓SD,SU,SV,SW,simprocAttr,Int.cast_ofNat_Int,small,resV, B50,R50,N50,b50, l1,l2,k1,R50,N50]
theorem e51 {H:Heap}{r:BeR}{b:Bench}(hb:BeOk H r b)(hd:SmB r)(h:isBench b=false) :
  ∀H',Grow H H'→R (.func 51) [.agg #[.int .i64 r.app,.slice r.ba r.bl r.bk,.slice r.sa r.sl r.sk]] H'=some ⟨.ok (.tuple #[.int .i64 0,.int .i64 2]),H',H'.length⟩:=by
 intro H' hg
 refine run_k (pr 51) P51 (by simp [p51]) rfl ?_
 have k1:=c74 hb hd H' hg
 rw [h] at k1
 have l1:=hb.br.isLoc r.bk
 have l2:=hb.st.isLoc r.sk
 simp (maxDischargeDepth:=8) only [↓SD,SU,SV,SW,simprocAttr,Int.cast_ofNat_Int,small,resV, B51,R51,N51,b51, l1,l2,k1,R51,N51]
theorem c51 {H:Heap}{r:BeR}{b:Bench}(hb:BeOk H r b)(hd:SmB r)(hB:isBench b=true) :
  ∀H',Grow H H'→Fam H'→R (.func 51) [.agg #[.int .i64 r.app,.slice r.ba r.bl r.bk,.slice r.sa r.sl r.sk]] H'=some ⟨.ok (.tuple #[.int .i64 ((bests b).length:Nat),.int .i64 0]),H',H'.length⟩:=by
 intro H' hg hF
 refine run_k (pr 51) P51 (by simp [p51]) rfl ?_
 have k1:=c74 hb hd H' hg
 rw [hB] at k1
 have hf:=fine_of hB
 have l1:=hb.br.isLoc r.bk
 have l2:=hb.st.isLoc r.sk
 obtain ⟨o,ho,bb,off,m,H1,lo,xs,rfl,u1,hlo,s1,h1,h2,h3,h4⟩:=c92 hb hf H' hg hF
 have hl:(bests b).length=xs.length:=by rw [←h1,List.length_map]
 rw [hl]
 have l3:=s1.isLoc m
 simp (maxDischargeDepth:=8) only [↓SD,SU,SV,SW,simprocAttr,Int.cast_ofNat_Int,small,resV, B51,R51,N51,b51, l1,l2,l3,k1,ho,R51,N51]
 rw [gc_ite (by omega)]; simp [flat]
def QBest (b:Bench)(H:Heap)(o:Out):Prop:=∃bb m H1 lo q,o=⟨.ok (.tuple #[.slice (some ⟨bb,0,none⟩) q.length m,.int .i64 (tk b q),.int .i64 0]),H1,lo⟩∧Up H H1∧H.length≤lo∧Ints H1 (some ⟨bb,0,none⟩) q.length q∧(bests b)[0]?=some q
theorem c50 {H:Heap}{r:BeR}{b:Bench}(hb:BeOk H r b)(hd:SmB r)(hB:isBench b=true) :
  ∀H',Grow H H'→Fam H'→Yes (R (.func 50) [.agg #[.int .i64 r.app,.slice r.ba r.bl r.bk,.slice r.sa r.sl r.sk]] H') (QBest b H'):=by
 intro H' hg hF
 refine run_y (pr 50) P50 (by simp [p50]) rfl ?_
 have k1:=c74 hb hd H' hg
 rw [hB] at k1
 have hf:=fine_of hB
 have l1:=hb.br.isLoc r.bk
 have l2:=hb.st.isLoc r.sk
 obtain ⟨o,ho,bb,off,m,H1,lo,xs,rfl,u1,hlo,s1,h1,h2,h3,h4⟩:=c92 hb hf H' hg hF
 have l3:=s1.isLoc m
 obtain ⟨b',o',x,e1,hx,hat⟩:=s1.at eT_len (by decide) h2
 cases e1
 obtain ⟨cb,x1,x2,x3,x4,x5,x6⟩:=h4 x (List.mem_of_getElem? hx)
 have f0:rdO (hcells H1 bb) (off+0*2) none=some (.slice x.a x.l x.m):=At.v0 hat H1 (Grow.refl _)
 have f1:rdO (hcells H1 bb) (off+0*2+1) none=some (.int .i64 x.t):=At.v1 hat H1 (Grow.refl _)
 have ia0:vv (.ia 2) [.slice (some ⟨bb,off,none⟩) xs.length m,.int .i64 0]=some (.pointer (some ⟨bb,off+0*2,none⟩)):=vv_iaN 2 bb off 0 _ _ _ h2
 rw [Nat.zero_mul,Nat.add_zero] at f0 f1 ia0
 have hq:(bests b)[0]?=some x.p:=by rw [←h1,List.getElem?_map,hx]; rfl
 have lx:isLoc (.slice x.a x.l x.m)=false:=by rw [x1]; rfl
 have hlo':H'.length≤lo:=hlo
 have ul:=u1.len
 simp (maxDischargeDepth:=8) only [↓SD,SU,SV,SW,simprocAttr,Int.cast_ofNat_Int,small,resV, B50,R50,N50,b50, l1,l2,l3,lx,k1,ho,ia0,f0,f1,R50,N50]
 rw [yes_some,gc_keep (by rw [x1]; simp [flat])]
 rw [x1,x2,x6]
 rw [x1,x2] at x5
 exact ⟨cb,x.m,H1,_,x.p,rfl,u1,by omega,x5,hq⟩
end Go.Pi.L.Ben
set_option maxRecDepth 100000
namespace Go.Pi.L.Ben
open Go Go.Pi Go.Pi.L Go.Pi.E Go.Pi.Ben BM

theorem c9 {H:Heap}{r:BeR}{b:Bench}(hb:BeOk H r b)(hF:Fam H):R (.func 9) [.agg #[.int .i64 r.app,.slice r.ba r.bl r.bk,.slice r.sa r.sl r.sk]] H=some ⟨.ok (.bool true),H,H.length⟩:=by
 refine run_k (pr 9) P9 (by simp [p9]) rfl ?_
 have l1:=hb.br.isLoc r.bk
 have l2:=hb.st.isLoc r.sk
 have k31:=c31 hb H (Grow.refl _)
 cases q1:shortB r.xs r with
 | false=>rw [q1] at k31; simp (maxDischargeDepth:=8) only [↓SD,SU,SV,SW,simprocAttr,Int.cast_ofNat_Int,small,resV, B9,R9,N9,b9, l1,l2,k31,c25,R9,N9]
 | true =>
 rw [q1] at k31
 have hd:=short_sm hb q1
 cases hB:isBench b with
 | false =>
  have k50:=e50 hb hd hB H (Grow.refl _)
  have k51:=e51 hb hd hB H (Grow.refl _)
  have k34:=c34 hb hd H (Grow.refl _)
  rw [hB] at k34
  simp (maxDischargeDepth:=8) only [↓SD,SU,SV,SW,simprocAttr,Int.cast_ofNat_Int,small,resV, B9,R9,N9,b9, l1,l2,k31,k50,k51,k34,c25,R9,N9]
 | true =>
 have hf:=fine_of hB
 obtain ⟨o,ho,bb,m,H1,lo1,q,rfl,u1,hlo1,s1,hq⟩:=c50 hb hd hB H (Grow.refl _) hF
 have hF1:Fam H1:=famR ho hF
 have k51:=c51 hb hd hB H1 u1.grow hF1
 have k34:=c34 hb hd H1 u1.grow
 rw [hB] at k34
 obtain ⟨o,ho2,a2,m2,H2,lo2,vs,rfl,u2,hlo2,s2,v2⟩:=c52 hb hd hf H1 u1.grow hF1
 have hF2:Fam H2:=famR ho2 hF1
 have hpos:0 < (bests b).length:=(List.getElem?_eq_some_iff.1 hq).1
 obtain ⟨vb,vo,v,hva,hvk,fv⟩:=s2.at encV_len (by decide) hpos
 have hqv:=v2.inn 0 v q hvk hq
 have fv0:rdO (hcells H2 vb) (vo+0*1) none=some (.slice v.1 v.2.1 v.2.2):=At.v0 fv H2 (Grow.refl _)
 have ia0:vv (.ia 1) [.slice a2 (bests b).length m2,.int .i64 0]=some (.pointer (some ⟨vb,vo+0*1,none⟩)):=by rw [hva]; exact vv_iaN 1 vb vo 0 _ _ _ hpos
 rw [Nat.zero_mul,Nat.add_zero] at fv0 ia0
 have hqm:q∈plans b:=(List.mem_filter.1 (List.mem_of_getElem? hq)).1
 have hql:=plan_pos hf hqm
 have n6:=hf.n6
 have k37:=c37 (m1:=m) (m2:=v.2.2) (s1.grow u2.grow) hqv (by omega) H2 (Grow.refl _)
 have k53:=c53 (kk:=v.2.2) (hb.grow (u1.grow.trans u2.grow)) hd hqv hf hql H2 (Grow.refl _) hF2
 rw [show takesN b (en b q true)=tk b q from tk_eq b q] at k53
 simp only [decide_true] at k37
 have l3:=s1.isLoc m
 have l4:=s2.isLoc m2
 have l5:=hqv.isLoc v.2.2
 have h1:=u1.len
 have h2:=u2.len
 simp (maxDischargeDepth:=8) only [↓SD,SU,SV,SW,simprocAttr,Int.cast_ofNat_Int,small,resV, B9,R9,N9,b9, l1,l2,l3,l4,l5,k31,ho,k51,k34,ho2,ia0,fv0,k37,k53,c25,R9,N9]
 first | (rw [gc_ite (by omega)]; simp [flat]; done) | (simp [gcR,flat]; omega)
end Go.Pi.L.Ben
