/- Letters: in how many rows a name fits. -/
import Derived.Test.YtjgmlngcknehhaaGreatTH
set_option linter.all false
set_option maxRecDepth 100000
namespace Go.Pi.L.Top
open Go Go.Pi Go.Pi.L Go.Pi.Top LM

def QS3 (H:Heap)(s:Sheet)(o:Out):Prop :=
 ∃ea el ek st H1 lo,o=⟨.ok (.tuple #[.agg #[.slice none 0 0,.slice ea el ek],.int .i64 st,.int .i64 (if fitP s=[] then 5 else 0)]),H1,lo⟩∧Up H H1∧H.length≤lo∧isLoc (.slice ea el ek)=false
theorem c30 {H:Heap}{r:LeR}{s:Sheet}(hr:LeOk H r s)(hf:Fine s) :
  ∀H',Grow H H'→Fam H'→Yes (R (.func 30) [.agg #[.slice r.wa r.wl r.wk,.slice r.pa r.pl r.pk,.int .i64 s.other.1,.int .i64 s.other.2,.int .i64 s.gap.1,.int .i64 s.gap.2,.int .i64 s.hyphen,.slice r.na r.nl r.nk,.int .i64 s.wide,.int .i64 s.rows]] H') (QS3 H' s):=by
 intro H' hg hF
 have k26:=c26 hr hf H' hg
 obtain ⟨_,k27,mb,H1,lo1,rfl,u1,hlo1,fr1⟩:=c27 hr hf H' hg
 have hF1:Fam H1:=famR k27 hF
 obtain ⟨H2,hH2⟩:∃H2,H1++[({ obj:=.cells (frontC r s mb) }:Blk)]=H2:=⟨_,rfl⟩
 have u2:Up H1 H2:=by rw [←hH2]; exact (Up.refl _).app
 have hF2:Fam H2:=by rw [←hH2]; exact hF1.append (fun f h=>by cases h)
 have xb:hcells H2 H1.length=some (frontC r s mb):=by rw [←hH2]; exact hc_new _ _ _
 have fr2:=fr1.up u2
 obtain ⟨_,k70,a,m,ts,H3,lo3,rfl,u3,hlo3,hF3,sl3,ok3,hmap⟩:=c70 fr2 hf H2 (Up.refl _) hF2
 have l1:=u1.len
 have l2:=u2.len
 have l3:=u3.len
 have lA:=sl3.isLoc m
 have L1:=hr.wd.isLoc r.wk
 have L2:=hr.pr.isLoc r.pk
 have L3:=hr.ws.isLoc r.nk
 have Lm:isLoc (.map (some mb))=false:=rfl
 unfold frontC at hH2 xb
 refine run_y (pr 30) P30 (by simp [p30]) rfl ?_
 by_cases h0:ts=[]
 ·subst h0
  have hfit:fitP s=[]:=by rw [←hmap]; rfl
  have z:(((([]:List FS).length:Nat):Int)=0)↔True:=by simp
  have lA0:isLoc (.slice a 0 m)=false:=lA
  simp (maxDischargeDepth:=8) only [↓SD,SU,SV,SW,simprocAttr,Int.cast_ofNat_Int,small,resV, B30,R30,N30,b30, L1,L2,L3,Lm,lA0,k26,k27,app_get2,stH_ok,app_set1,hH2,xb,k70,List.length_nil,R30,N30]
  rw [yes_some,gc_ite (by omega),if_pos (by rfl)]
  exact ⟨none,0,0,0,H',H'.length,by rw [if_pos hfit],Up.refl _,Nat.le_refl _,rfl⟩
 ·have hfit:fitP s≠[]:=fun h=>h0 (by rw [←hmap] at h; exact List.map_eq_nil_iff.1 h)
  have hpos:0 < ts.length:=List.length_pos_iff.2 h0
  have z:(((ts.length:Nat):Int)=0)↔False:=by simp; exact h0
  have hlen:ts.length < 100000:=by
   have h1:ts.length=(fitP s).length:=by rw [←hmap,List.length_map]
   have h2:(fitP s).length≤(setsP s).length:=List.length_filter_le _ _
   have:=setsP_len hf
   omega
  have xb3:=u3.grow.hc xb
  obtain ⟨_,k71,y,hy,rfl⟩:=c71 (fb:=H1.length) (fr2.up u3) hf xb3 (m:=m) sl3 hpos hlen ok3
  obtain ⟨y1,y2⟩:=ok3 y hy
  obtain ⟨y3,_,y4⟩:=setsP_mem hf y1
  have k73:=c73 (fr2.up u3) hf (ek:=2) y2 y3 (by omega) H3 (Up.refl _)
  have lY:isLoc (.slice (some ⟨y.b,0,none⟩) y.p.length 2)=false:=rfl
  simp (maxDischargeDepth:=8) only [↓SD,SU,SV,SW,simprocAttr,Int.cast_ofNat_Int,small,resV, B30,R30,N30,b30, L1,L2,L3,Lm,lA,lY,k26,k27,app_get2,stH_ok,app_set1,hH2,xb,xb3,k70,z,k71,k73,R30,N30]
  rw [yes_some,gc_nf (by simp [flat])]
  exact ⟨_,_,_,_,H3,_,by rw [if_neg hfit],(u1.trans u2).trans u3,by omega,lY⟩
theorem c10 {H:Heap}{r:LeR}{s:Sheet}(hr:LeOk H r s)(hf:Fine s) :
  ∀H',Grow H H'→Fam H'→Yes (R (.func 10) [.agg #[.slice r.wa r.wl r.wk,.slice r.pa r.pl r.pk,.int .i64 s.other.1,.int .i64 s.other.2,.int .i64 s.gap.1,.int .i64 s.gap.2,.int .i64 s.hyphen,.slice r.na r.nl r.nk,.int .i64 s.wide,.int .i64 s.rows]] H') (fun o=>∃n:Nat,o=⟨.ok (.tuple #[.int .i64 n,.int .i64 (if fitP s=[] then 5 else 0)]),H',H'.length⟩):=by
 intro H' hg hF
 obtain ⟨_,k30,ea,el,ek,st,H1,lo,rfl,u1,hlo,lE⟩:=c30 hr hf H' hg hF
 have L1:=hr.wd.isLoc r.wk
 have L2:=hr.pr.isLoc r.pk
 have L3:=hr.ws.isLoc r.nk
 have l1:=u1.len
 refine run_y (pr 10) P10 (by simp [p10]) rfl ?_
 simp (maxDischargeDepth:=8) only [↓SD,SU,SV,SW,simprocAttr,Int.cast_ofNat_Int,small,resV, B10,R10,N10,b10, L1,L2,L3,lE,k30,R10,N10]
 rw [yes_some,gc_ite (by omega),if_pos (by rfl)]
 exact ⟨el,rfl⟩
end Go.Pi.L.Top
set_option maxRecDepth 100000
namespace Go.Pi.L.Top
open Go Go.Pi Go.Pi.L Go.Pi.Top LM

theorem sum_split (xs:List WR)(j:Nat):(xs.map fun x=>x.w.signs.length).sum=((xs.take j).map fun x=>x.w.signs.length).sum+((xs.drop j).map fun x=>x.w.signs.length).sum:=by
 rw [←List.sum_append,←List.map_append,List.take_append_drop]
theorem c9 {H:Heap}{r:LeR}{s:Sheet}(hr:LeOk H r s)(hf:Fine s) :
  ∀H',Grow H H'→Fam H'→Yes (R (.func 9) [.agg #[.slice r.wa r.wl r.wk,.slice r.pa r.pl r.pk,.int .i64 s.other.1,.int .i64 s.other.2,.int .i64 s.gap.1,.int .i64 s.gap.2,.int .i64 s.hyphen,.slice r.na r.nl r.nk,.int .i64 s.wide,.int .i64 s.rows]] H') (·=⟨.ok (.tuple #[.int .i64 (overP s:Nat),.int .i64 0]),H',H'.length⟩):=by
 intro H' hg hF
 have k26:=c26 hr hf H' hg
 have n4:=hf.n4
 rw [hr.len] at n4
 have hall:allN s=(r.xs.map fun x=>x.w.signs.length).sum:=by unfold allN; rw [hr.eq,List.map_map]; rfl
 have hb:=(all_pos hf).2
 have hwt:=hr.wt
 have hr0:=hr
 have one:∀m,0 < m→m≤allN s→∀H2,Up H' H2→Fam H2→∃(rq:LeR) (H3:Heap) (lo3:Nat),R (.func 28) [.agg #[.slice r.wa r.wl r.wk,.slice r.pa r.pl r.pk,.int .i64 s.other.1,.int .i64 s.other.2,.int .i64 s.gap.1,.int .i64 s.gap.2,.int .i64 s.hyphen,.slice r.na r.nl r.nk,.int .i64 s.wide,.int .i64 s.rows],.int .i64 (m:Nat)] H2=some ⟨.ok (.agg #[.slice rq.wa rq.wl rq.wk,.slice rq.pa rq.pl rq.pk,.int .i64 s.other.1,.int .i64 s.other.2,.int .i64 s.gap.1,.int .i64 s.gap.2,.int .i64 s.hyphen,.slice rq.na rq.nl rq.nk,.int .i64 s.wide,.int .i64 s.rows]),H3,lo3⟩∧Up H2 H3∧H2.length≤lo3∧isLoc (.slice rq.wa rq.wl rq.wk)=false∧isLoc (.slice rq.pa rq.pl rq.pk)=false∧isLoc (.slice rq.na rq.nl rq.nk)=false ∧
   ∃mb H4 lo4,R (.func 27) [.agg #[.slice rq.wa rq.wl rq.wk,.slice rq.pa rq.pl rq.pk,.int .i64 s.other.1,.int .i64 s.other.2,.int .i64 s.gap.1,.int .i64 s.gap.2,.int .i64 s.hyphen,.slice rq.na rq.nl rq.nk,.int .i64 s.wide,.int .i64 s.rows]] H3=some ⟨.ok (.agg #[.slice rq.wa rq.wl rq.wk,.slice rq.pa rq.pl rq.pk,.int .i64 s.other.1,.int .i64 s.other.2,.int .i64 s.gap.1,.int .i64 s.gap.2,.int .i64 s.hyphen,.slice rq.na rq.nl rq.nk,.int .i64 s.wide,.int .i64 s.rows,.map (some mb)]),H4,lo4⟩∧Up H3 H4∧H3.length≤lo4 ∧
   ∃H5 lo5,R (.func 29) [.agg #[.slice rq.wa rq.wl rq.wk,.slice rq.pa rq.pl rq.pk,.int .i64 s.other.1,.int .i64 s.other.2,.int .i64 s.gap.1,.int .i64 s.gap.2,.int .i64 s.hyphen,.slice rq.na rq.nl rq.nk,.int .i64 s.wide,.int .i64 s.rows,.map (some mb)],.slice none 0 0] H4=some ⟨.ok (.bool (LM.canP (shortS s m))),H5,lo5⟩∧Up H4 H5∧H4.length≤lo5∧Fam H5:=by
  intro m hm hm2 H2 hu hF2
  obtain ⟨_,k28,rq,H3,lo3,rfl,ok3,u3,hlo3,hF3⟩:=c28 hr hf m (by omega) H2 (hg.trans hu.grow) hF2
  have hf':=short_fine hf hm
  obtain ⟨_,k27,mb,H4,lo4,rfl,u4,hlo4,fr4⟩:=c27 ok3 hf' H3 (Grow.refl _)
  have hF4:Fam H4:=famR k27 hF3
  obtain ⟨H5,lo5,k29,u5,hlo5⟩:=c29 fr4 hf' H4 (Up.refl _) hF4
  exact ⟨rq,H3,lo3,k28,u3,hlo3,ok3.wd.isLoc _,ok3.pr.isLoc _,ok3.ws.isLoc _,mb,H4,lo4,k27,u4,hlo4,H5,lo5,k29,u5,hlo5,famR k29 hF4⟩
 refine run_y (pr 9) P9 (by simp [p9]) rfl ?_
 obtain ⟨wa,wl,wk,pa,pl,pk,na,nl,nk,xs⟩:=r
 have hW:Ints H wa wl s.widths:=hr.wd
 have hP:Sl H 4 eP pa pl s.pairs:=hr.pr
 have hN:Sl H 3 eW na nl xs:=hr.ws
 have l1:=hW.isLoc wk
 have l2:=hP.isLoc pk
 have l3:=hN.isLoc nk
 simp only at n4 hall hwt one k26 ⊢
 simp (maxDischargeDepth:=8) only [↓SD,SU,SV,SW,simprocAttr,Int.cast_ofNat_Int,small,resV, B9,R9,N9,b9, l1,l2,l3,k26]
 refine loop_ind (G:=(Yes · _)) (fun j σ=>∃T S,σ=⟨T,S,[],H',(H').length,38,false⟩∧get T 1=.pointer (some ⟨1,0,some 1⟩)∧get T 4=.int .i64 (((xs.take j).map fun x=>x.w.signs.length).sum:Nat)∧get T 12=.slice na nl nk∧get T 13=.int .i64 nl∧get T 14=.int .i64 (j:Nat)∧sget S 1=(1,.cells [.slice wa wl wk,.slice pa pl pk,.int .i64 s.other.1,.int .i64 s.other.2,.int .i64 s.gap.1,.int .i64 s.gap.2,.int .i64 s.hyphen,.slice na nl nk,.int .i64 s.wide,.int .i64 s.rows])∧(True)) (nl) ?_ ?_ 0 _ (Nat.zero_le _) ⟨_,_,rfl,rfl,rfl,rfl,rfl,rfl,rfl,by simp⟩
 ·rintro c' j s hj ⟨T,S,rfl,t1,t4,t12,t13,t14,s0,hp⟩ ih
  obtain ⟨b1,o1,x,hxa,hx,e1⟩:=hN.w3 hj
  have e1:=e1.all H' hg
  have l4:=(hwt x (mem_drop hx)).sg.isLoc x.sk
  have l5:=(hwt x (mem_drop hx)).ct.isLoc x.ck
  have ia:=ia_of (kk:=nk) (k:=3) hxa hj
  have hw:=wrap_succ j (by omega)
  have hs:=(hwt x (mem_drop hx)).sg.len
  have h1:((xs.take (j+1)).map fun x=>x.w.signs.length).sum=((xs.take j).map fun x=>x.w.signs.length).sum+x.sl:=by
   rw [take_get hx,List.map_append,List.sum_append,←hs]; simp
  have h2:((xs.take (j+1)).map fun x=>x.w.signs.length).sum≤24:=by
   have:=sum_split xs (j+1)
   omega
  have hw2:IntKind.wrap .i64 (((((xs.take j).map fun x=>x.w.signs.length).sum:Nat):Int)+(x.sl:Int))=(((xs.take (j+1)).map fun x=>x.w.signs.length).sum:Nat):=by rw [wrap_id _ (by omega) (by omega)]; omega
  simp (maxDischargeDepth:=8) only [↓SD,SU,SV,SW,simprocAttr,Int.cast_ofNat_Int,small,resV, q9x1,t1,t4,t12,t13,t14,s0, lt_nat,hj,l1,l2,l3,l4,l5,ia,e1,hw,hw2]
  exact ih _ ⟨_,_,rfl,(by simp [get_set,t1] <;> omega),(by simp [get_set,t4] <;> omega),(by simp [get_set,t12] <;> omega),(by simp [get_set,t13] <;> omega),(by simp [get_set,t14] <;> omega),by simp [sget_sset,s0],trivial⟩
 ·rintro c' s ⟨T,S,rfl,t1,t4,t12,t13,t14,s0,hp⟩
  have hle:xs.take nl=xs:=List.take_of_length_le (by rw [hN.len]; exact Nat.le_refl _)
  rw [hle,←hall] at t4
  simp (maxDischargeDepth:=8) only [↓SD,SU,SV,SW,simprocAttr,Int.cast_ofNat_Int,small,resV, q9x1,t1,t4,t12,t13,t14,s0, lt_nat,Nat.lt_irrefl,l1,l2,l3]
  refine loop_ind (G:=(Yes · _)) (fun j σ=>∃T S H3 lim,σ=⟨T,S,[],H3,lim,38,false⟩∧get T 1=.pointer (some ⟨1,0,some 1⟩)∧get T 4=.int .i64 (allN s:Nat)∧get T 24=.int .i64 (allN s:Nat)∧get T 25=.int .i64 (j:Nat)∧sget S 1=(1,.cells [.slice wa wl wk,.slice pa pl pk,.int .i64 s.other.1,.int .i64 s.other.2,.int .i64 s.gap.1,.int .i64 s.gap.2,.int .i64 s.hyphen,.slice na nl nk,.int .i64 s.wide,.int .i64 s.rows])∧(Up H' H3∧H'.length≤lim∧Fam H3∧overP s=overF s j (allN s - j))) ((allN s)) ?_ ?_ 0 _ (Nat.zero_le _) ⟨_,_,_,_,rfl,(by first | rfl | simp [get_set,t1,t4]),(by first | rfl | simp [get_set,t1,t4]),(by first | rfl | simp [get_set,t1,t4]),(by first | rfl | simp [get_set,t1,t4]),(by first | rfl | exact s0),⟨Up.refl _,Nat.le_refl _,hF,rfl⟩⟩
  ·rintro c' j s hj ⟨T,S,H3,lim,rfl,t1,t4,t24,t25,s0,hp⟩ ih
   obtain ⟨hu,hlim,hF3,hov⟩:=hp
   have hul:=hu.len
   have hw:=wrap_succ j (by omega)
   have wm:IntKind.wrap .i64 (((allN s:Nat):Int) - (j:Nat))=((allN s - j:Nat):Int):=by rw [wrap_id _ (by omega) (by omega)]; omega
   obtain ⟨rq,H4,lo4,k28,u4,hlo4,j1,j2,j3,mb,H5,lo5,k27,u5,hlo5,H6,lo6,k29,u6,hlo6,hF6⟩:=one (allN s - j) (by omega) (by omega) H3 hu hF3
   have lm:isLoc (.map (some mb))=false:=rfl
   have l4:=u4.len
   have l5:=u5.len
   have l6:=u6.len
   obtain ⟨k,hk⟩:∃k,allN s - j=k+1:=⟨allN s - j - 1,by omega⟩
   rw [hk] at hov
   rw [overF] at hov
   cases hc:LM.canP (shortS s (allN s - j)) with
   | true =>
    rw [hc] at k29 hov
    rw [if_pos rfl] at hov
    simp (maxDischargeDepth:=8) only [↓SD,SU,SV,SW,simprocAttr,Int.cast_ofNat_Int,small,resV, q9x0,t1,t4,t24,t25,s0, lt_nat,hj,l1,l2,l3,j1,j2,j3,lm,wm,k28,k27,k29,hw,R9,N9]
    rw [yes_some,gc_ite (by omega),if_pos (by rfl),hov]
   | false =>
    rw [hc] at k29 hov
    rw [if_neg (by simp)] at hov
    simp (maxDischargeDepth:=8) only [↓SD,SU,SV,SW,simprocAttr,Int.cast_ofNat_Int,small,resV, q9x0,t1,t4,t24,t25,s0, lt_nat,hj,l1,l2,l3,j1,j2,j3,lm,wm,k28,k27,k29,hw]
    exact ih _ ⟨_,_,(H6),(_),rfl,(by simp [get_set,t1] <;> omega),(by simp [get_set,t4] <;> omega),(by simp [get_set,t24] <;> omega),(by simp [get_set,t25] <;> omega),by simp [sget_sset,s0],⟨(hu.trans u4).trans (u5.trans u6),by omega,hF6,by rw [hov]; congr 1; omega⟩⟩
  ·rintro c' s ⟨T,S,H3,lim,rfl,t1,t4,t24,t25,s0,hp⟩
   obtain ⟨hu,hlim,hF3,hov⟩:=hp
   rw [Nat.sub_self,overF] at hov
   simp (maxDischargeDepth:=8) only [↓SD,SU,SV,SW,simprocAttr,Int.cast_ofNat_Int,small,resV, q9x0,t1,t4,t24,t25,s0, lt_nat,Nat.lt_irrefl,l1,l2,l3,R9,N9]
   rw [yes_some,gc_ite (by omega),if_pos (by rfl),hov]
end Go.Pi.L.Top
set_option maxRecDepth 100000
namespace Go.Pi.L.Top
open Go Go.Pi Go.Pi.L Go.Pi.Top LM

def eB (x:Int):List Value:=[.int .i64 x,.int .i64 0,.int .i64 0,.int .i64 0,.int .i64 0]
theorem eB_len (x:Int):(eB x).length=5:=rfl
def eT (t:Int×Int):List Value:=[.int .i64 1,.int .i64 t.1,.int .i64 1,.int .i64 t.2,.bool true]
theorem eT_len (t:Int×Int):(eT t).length=5:=rfl
theorem _root_.Go.Pi.L.Sl.b5 {H:Heap}{a:Option Addr}{l:Nat}{xs:List Int}(h:Sl H 5 eB a l xs){j:Nat}(hj:j < l) :
  ∃b off x,a=some ⟨b,off,none⟩∧xs[j]?=some x∧(∀H',Grow H H'→rdO (hcells H' b) (off+j*5) (some 5)=some (.agg #[.int .i64 x,.int .i64 0,.int .i64 0,.int .i64 0,.int .i64 0]))∧(∀H',Grow H H'→rdO (hcells H' b) (off+j*5+2) none=some (.int .i64 0))∧(∀H',Grow H H'→rdO (hcells H' b) (off+j*5+2+1) none=some (.int .i64 0)):=by
 obtain ⟨b,off,x,h1,h2,h3⟩:=h.at eB_len (by decide) hj
 exact ⟨b,off,x,h1,h2,h3.all,At.v2 h3,At.v3 h3⟩
theorem _root_.Go.Pi.L.Sl.t5 {H:Heap}{a:Option Addr}{l:Nat}{xs:List (Int×Int)}(h:Sl H 5 eT a l xs){j:Nat}(hj:j < l) :
  ∃b off x,a=some ⟨b,off,none⟩∧xs[j]?=some x∧(∀H',Grow H H'→rdO (hcells H' b) (off+j*5) (some 5)=some (.agg #[.int .i64 1,.int .i64 x.1,.int .i64 1,.int .i64 x.2,.bool true])):=by
 obtain ⟨b,off,x,h1,h2,h3⟩:=h.at eT_len (by decide) hj
 exact ⟨b,off,x,h1,h2,h3.all⟩
theorem c149 {g:FuncId}{caps:List Value}{H:Heap}{a:Option Addr}{l kk:Nat}{xs:List Int}(hs:Sl H 5 eB a l xs)(hl:l < 1000000)(hc:(caps.all fun v=>!isLoc v)=true)
  (hf:∀x∈xs,∀H',Grow H H'→R (.func g) (.agg #[.int .i64 x,.int .i64 0,.int .i64 0,.int .i64 0,.int .i64 0] :: caps) H'=some ⟨.ok (.bool false),H',H'.length⟩) :
  ∀H',Grow H H'→R (.func 149) [.slice a l kk,.func (.func g) #[] caps.toArray] H'=some ⟨.ok (.int .i64 (-1)),H',H'.length⟩:=by
 intro H' hg
 refine run_k (pr 149) P149 (by simp [p149]) rfl ?_
 have lo:=hs.isLoc kk
 simp (maxDischargeDepth:=8) only [↓SD,SU,SV,SW,simprocAttr,Int.cast_ofNat_Int,small,resV, B149,R149,N149,b149, lo]
 refine loop_ind (G:=(·=_)) (fun j σ=>∃T,σ=⟨T,[],[],H',(H').length,19,false⟩∧get T 0=.slice a l kk∧get T 1=.func (.func g) #[] caps.toArray∧get T 7=.int .i64 l∧get T 8=.int .i64 (j:Nat)∧(True)) (l) ?_ ?_ 0 _ (Nat.zero_le _) ⟨_,rfl,rfl,rfl,rfl,rfl,by simp⟩
 ·rintro c' j s hj ⟨T,rfl,t0,t1,t7,t8,hp⟩ ih
  obtain ⟨b,off,x,rfl,hx,e1,_⟩:=hs.b5 hj
  have e2:=hf x (mem_drop hx) H' hg
  simp (maxDischargeDepth:=8) only [↓SD,SU,SV,SW,simprocAttr,Int.cast_ofNat_Int,small,resV, q149x0,t0,t1,t7,t8, lt_nat,hj,lo,e1,hg,e2,hc,R149,N149,wrap_succ j (by omega)]
  exact ih _ ⟨_,rfl,(by simp [get_set,t0] <;> omega),(by simp [get_set,t1] <;> omega),(by simp [get_set,t7] <;> omega),(by simp [get_set,t8] <;> omega),trivial⟩
 ·rintro c' s ⟨T,rfl,t0,t1,t7,t8,hp⟩
  simp (maxDischargeDepth:=8) only [↓SD,SU,SV,SW,simprocAttr,Int.cast_ofNat_Int,small,resV, q149x0,t0,t1,t7,t8, lt_nat,Nat.lt_irrefl,R149,N149]
theorem c114 {g:FuncId}{caps:List Value}{H:Heap}{a:Option Addr}{l kk:Nat}{xs:List Int}(hs:Sl H 5 eB a l xs)(hl:l < 1000000)(hc:(caps.all fun v=>!isLoc v)=true)
  (hf:∀x∈xs,∀H',Grow H H'→R (.func g) (.agg #[.int .i64 x,.int .i64 0,.int .i64 0,.int .i64 0,.int .i64 0] :: caps) H'=some ⟨.ok (.bool false),H',H'.length⟩) :
  ∀H',Grow H H'→R (.func 114) [.slice a l kk,.func (.func g) #[] caps.toArray] H'=some ⟨.ok (.bool false),H',H'.length⟩:=by
 intro H' hg
 refine run_k (pr 114) P114 (by simp [p114]) rfl ?_
 have lo:=hs.isLoc kk
 have z:¬(0:Int)≤-1:=by omega
 simp (maxDischargeDepth:=8) only [↓SD,SU,SV,SW,simprocAttr,Int.cast_ofNat_Int,small,resV, B114,R114,N114,b114, lo,loc_func,c149 hs hl hc hf,hg,z]
theorem c150 {g:FuncId}{caps:List Value}{H:Heap}{a:Option Addr}{l kk:Nat}{xs:List (Int×Int)}(hs:Sl H 5 eT a l xs)(hl:l < 1000000)(hc:(caps.all fun v=>!isLoc v)=true)
  (hf:∀x∈xs,∀H',Grow H H'→R (.func g) (.agg #[.int .i64 1,.int .i64 x.1,.int .i64 1,.int .i64 x.2,.bool true] :: caps) H'=some ⟨.ok (.bool false),H',H'.length⟩) :
  ∀H',Grow H H'→R (.func 150) [.slice a l kk,.func (.func g) #[] caps.toArray] H'=some ⟨.ok (.int .i64 (-1)),H',H'.length⟩:=by
 intro H' hg
 refine run_k (pr 150) P150 (by simp [p150]) rfl ?_
 have lo:=hs.isLoc kk
 simp (maxDischargeDepth:=8) only [↓SD,SU,SV,SW,simprocAttr,Int.cast_ofNat_Int,small,resV, B150,R150,N150,b150, lo]
 refine loop_ind (G:=(·=_)) (fun j σ=>∃T,σ=⟨T,[],[],H',(H').length,19,false⟩∧get T 0=.slice a l kk∧get T 1=.func (.func g) #[] caps.toArray∧get T 7=.int .i64 l∧get T 8=.int .i64 (j:Nat)∧(True)) (l) ?_ ?_ 0 _ (Nat.zero_le _) ⟨_,rfl,rfl,rfl,rfl,rfl,by simp⟩
 ·rintro c' j s hj ⟨T,rfl,t0,t1,t7,t8,hp⟩ ih
  obtain ⟨b,off,x,rfl,hx,e1⟩:=hs.t5 hj
  have e2:=hf x (mem_drop hx) H' hg
  simp (maxDischargeDepth:=8) only [↓SD,SU,SV,SW,simprocAttr,Int.cast_ofNat_Int,small,resV, q150x0,t0,t1,t7,t8, lt_nat,hj,lo,e1,hg,e2,hc,R150,N150,wrap_succ j (by omega)]
  exact ih _ ⟨_,rfl,(by simp [get_set,t0] <;> omega),(by simp [get_set,t1] <;> omega),(by simp [get_set,t7] <;> omega),(by simp [get_set,t8] <;> omega),trivial⟩
 ·rintro c' s ⟨T,rfl,t0,t1,t7,t8,hp⟩
  simp (maxDischargeDepth:=8) only [↓SD,SU,SV,SW,simprocAttr,Int.cast_ofNat_Int,small,resV, q150x0,t0,t1,t7,t8, lt_nat,Nat.lt_irrefl,R150,N150]
theorem c117 {g:FuncId}{caps:List Value}{H:Heap}{a:Option Addr}{l kk:Nat}{xs:List (Int×Int)}(hs:Sl H 5 eT a l xs)(hl:l < 1000000)(hc:(caps.all fun v=>!isLoc v)=true)
  (hf:∀x∈xs,∀H',Grow H H'→R (.func g) (.agg #[.int .i64 1,.int .i64 x.1,.int .i64 1,.int .i64 x.2,.bool true] :: caps) H'=some ⟨.ok (.bool false),H',H'.length⟩) :
  ∀H',Grow H H'→R (.func 117) [.slice a l kk,.func (.func g) #[] caps.toArray] H'=some ⟨.ok (.bool false),H',H'.length⟩:=by
 intro H' hg
 refine run_k (pr 117) P117 (by simp [p117]) rfl ?_
 have lo:=hs.isLoc kk
 have z:¬(0:Int)≤-1:=by omega
 simp (maxDischargeDepth:=8) only [↓SD,SU,SV,SW,simprocAttr,Int.cast_ofNat_Int,small,resV, B117,R117,N117,b117, lo,loc_func,c150 hs hl hc hf,hg,z]
theorem c113 (x:Int)(H:Heap):R (.func 113) [.int .i64 x] H=some ⟨.ok (.bool (!inL x 0 100)),H,H.length⟩:=by
 refine run_k (pr 113) P113 (by simp [p113]) rfl ?_
 simp (maxDischargeDepth:=8) only [↓SD,SU,SV,SW,simprocAttr,Int.cast_ofNat_Int,small,resV, B113,R113,N113,b113, c75]
theorem c119 (t:Int×Int)(h1:0≤t.1∧t.1≤500)(h2:1≤t.2∧t.2≤4)(H:Heap):R (.func 119) [.agg #[.int .i64 1,.int .i64 t.1,.int .i64 1,.int .i64 t.2,.bool true]] H=some ⟨.ok (.bool true),H,H.length⟩:=by
 have q1:inL t.1 0 500=true:=inL_t h1.1 h1.2
 have q2:inL 1 1 12=true:=by decide
 refine run_k (pr 119) P119 (by simp [p119]) rfl ?_
 simp (maxDischargeDepth:=8) only [↓SD,SU,SV,SW,simprocAttr,Int.cast_ofNat_Int,small,resV, B119,R119,N119,b119, c75,q1,q2,h2.1,h2.2]
theorem c118 (t:Int×Int)(h1:0≤t.1∧t.1≤500)(h2:1≤t.2∧t.2≤4)(H:Heap):R (.func 118) [.agg #[.int .i64 1,.int .i64 t.1,.int .i64 1,.int .i64 t.2,.bool true]] H=some ⟨.ok (.bool false),H,H.length⟩:=by
 have k:=c119 t h1 h2 H
 refine run_k (pr 118) P118 (by simp [p118]) rfl ?_
 simp (maxDischargeDepth:=8) only [↓SD,SU,SV,SW,simprocAttr,Int.cast_ofNat_Int,small,resV, B118,R118,N118,b118, k]
structure PrOk (H:Heap)(oa ba ta:Option Addr)(xs:List Int)(t:Int×Int):Prop where
 of:Ints H oa 1 [0]
 bd:Sl H 5 eB ba xs.length xs
 tr:Sl H 5 eT ta 1 [t]
 xi:∀x∈xs,0≤x∧x≤60
 n1:1≤xs.length
 n4:xs.length≤4
 t1:0≤t.1∧t.1≤500
 t2:1≤t.2∧t.2≤4
theorem PrOk.grow {H H':Heap}{oa ba ta:Option Addr}{xs:List Int}{t:Int×Int}(h:PrOk H oa ba ta xs t)(g:Grow H H'):PrOk H' oa ba ta xs t:=⟨h.of.grow g,h.bd.grow g,h.tr.grow g,h.xi,h.n1,h.n4,h.t1,h.t2⟩
theorem c116 {H:Heap}{oa ba ta:Option Addr}{ok bk tk:Nat}{xs:List Int}{t:Int×Int}(h:PrOk H oa ba ta xs t){x:Int}(hx:x∈xs)(H':Heap) :
  R (.func 116) [.agg #[.slice oa 1 ok,.slice ba xs.length bk,.slice ta 1 tk],.agg #[.int .i64 x,.int .i64 0,.int .i64 0,.int .i64 0,.int .i64 0]] H'=some ⟨.ok (.bool true),H',H'.length⟩:=by
 have q1:inL x 0 60=true:=inL_t (h.xi x hx).1 (h.xi x hx).2
 have q2:inL 0 0 40=true:=by decide
 have q3:inL 0 0 0=true:=by decide
 have l1:=h.of.isLoc ok
 have l2:=h.bd.isLoc bk
 have l3:=h.tr.isLoc tk
 have w1:IntKind.wrap .i64 ((1:Int) - 1)=0:=by decide
 have w0:IntKind.wrap .i64 ((0:Int) - 0)=0:=by decide
 refine run_k (pr 116) P116 (by simp [p116]) rfl ?_
 simp (maxDischargeDepth:=8) only [↓SD,SU,SV,SW,simprocAttr,Int.cast_ofNat_Int,small,resV, B116,R116,N116,b116, l1,l2,l3,c75,q1,q2,q3,w0,w1]
theorem c115 {H:Heap}{oa ba ta:Option Addr}{ok bk tk:Nat}{xs:List Int}{t:Int×Int}(h:PrOk H oa ba ta xs t){x:Int}(hx:x∈xs){pb:Nat}{H':Heap}(hp:hcells H' pb=some [.slice oa 1 ok,.slice ba xs.length bk,.slice ta 1 tk]) :
  R (.func 115) [.agg #[.int .i64 x,.int .i64 0,.int .i64 0,.int .i64 0,.int .i64 0],.pointer (some ⟨pb,0,none⟩)] H'=some ⟨.ok (.bool false),H',H'.length⟩:=by
 have k:=c116 (ok:=ok) (bk:=bk) (tk:=tk) h hx H'
 have l1:=h.of.isLoc ok
 have l2:=h.bd.isLoc bk
 have l3:=h.tr.isLoc tk
 refine run_k (pr 115) P115 (by simp [p115]) rfl ?_
 simp (maxDischargeDepth:=8) only [↓SD,SU,SV,SW,simprocAttr,Int.cast_ofNat_Int,small,resV, B115,R115,N115,b115, l1,l2,l3,hp,k]
theorem c74 {H:Heap}{oa ba ta:Option Addr}{ok bk tk:Nat}{xs:List Int}{t:Int×Int}(h:PrOk H oa ba ta xs t) :
  ∀H',Grow H H'→R (.func 74) [.agg #[.slice oa 1 ok,.slice ba xs.length bk,.slice ta 1 tk]] H'=some ⟨.ok (.bool true),H',H'.length⟩:=by
 intro H' hg
 obtain ⟨H2,hH2⟩:∃H2,H'++[({ obj:=.cells [.slice oa 1 ok,.slice ba xs.length bk,.slice ta 1 tk] }:Blk)]=H2:=⟨_,rfl⟩
 have hb:hcells H2 H'.length=some [.slice oa 1 ok,.slice ba xs.length bk,.slice ta 1 tk]:=by rw [←hH2]; exact hc_new _ _ _
 have hg2:Grow H H2:=hg.trans (by rw [←hH2]; exact (Up.refl _).app.grow)
 have hlen:H'.length≤H2.length:=by rw [←hH2]; simp
 have hmn:min H'.length H2.length=H'.length:=Nat.min_eq_left hlen
 have n4:=h.n4
 have n1:=h.n1
 have k1:=c60 (g:=113) (caps:=[]) (kk:=ok) (h.of.grow hg2) (by omega) rfl (fun x hx H3 _=>by rw [c113]; simp at hx; subst hx; rfl) _ (Grow.refl _)
 have k2:=c114 (g:=115) (caps:=[.pointer (some ⟨H'.length,0,none⟩)]) (kk:=bk) (h.bd.grow hg2) (by omega) rfl (fun x hx H3 hg3=>c115 (h.grow hg2) hx (hg3.hc hb)) _ (Grow.refl _)
 have k3:=c117 (g:=118) (caps:=[]) (kk:=tk) (h.tr.grow hg2) (by omega) rfl (fun x hx H3 _=>by simp at hx; subst hx; exact c118 _ h.t1 h.t2 H3) _ (Grow.refl _)
 have l1:=h.of.isLoc ok
 have l2:=h.bd.isLoc bk
 have l3:=h.tr.isLoc tk
 have q1:inL 1 1 3=true:=by decide
 have q2:inL (xs.length:Nat) 1 4=true:=inL_t (by omega) (by omega)
 refine run_k (pr 74) P74 (by simp [p74]) rfl ?_
 simp (maxDischargeDepth:=8) only [↓SD,SU,SV,SW,simprocAttr,Int.cast_ofNat_Int,small,resV, B74,R74,N74,b74, l1,l2,l3,hH2,hb,c75,q1,q2,k1,k2,k3,hmn,hlen]
theorem c31 {H:Heap}{oa ba ta:Option Addr}{ok bk tk:Nat}{xs:List Int}{t:Int×Int}(h:PrOk H oa ba ta xs t) :
  ∀H',Grow H H'→R (.func 31) [.agg #[.slice oa 1 ok,.slice ba xs.length bk,.slice ta 1 tk],.int .i64 0] H'=some ⟨.ok (.bool true),H',H'.length⟩:=by
 intro H' hg
 have k:=c74 (ok:=ok) (bk:=bk) (tk:=tk) h H' hg
 have l1:=h.of.isLoc ok
 have l2:=h.bd.isLoc bk
 have l3:=h.tr.isLoc tk
 have w1:IntKind.wrap .i64 ((1:Int) - 1)=0:=by decide
 have q3:inL 0 0 0=true:=by decide
 refine run_k (pr 31) P31 (by simp [p31]) rfl ?_
 simp (maxDischargeDepth:=8) only [↓SD,SU,SV,SW,simprocAttr,Int.cast_ofNat_Int,small,resV, B31,R31,N31,b31, l1,l2,l3,k,w1,c75,q3]
theorem c32 {H:Heap}{oa ba ta ha:Option Addr}{ok bk tk hk:Nat}{xs:List Int}{t:Int×Int}(h:PrOk H oa ba ta xs t)(hh:Ints H ha xs.length (xs.map fun _=>0)) :
  ∀H',Grow H H'→R (.func 32) [.agg #[.slice oa 1 ok,.slice ba xs.length bk,.slice ta 1 tk],.slice ha xs.length hk] H'=some ⟨.ok (.bool true),H',H'.length⟩:=by
 intro H' hg
 have l1:=h.of.isLoc ok
 have l2:=h.bd.isLoc bk
 have l3:=h.tr.isLoc tk
 have l4:=hh.isLoc hk
 have n4:=h.n4
 have q3:inL 0 0 0=true:=by decide
 refine run_k (pr 32) P32 (by simp [p32]) rfl ?_
 simp (maxDischargeDepth:=8) only [↓SD,SU,SV,SW,simprocAttr,Int.cast_ofNat_Int,small,resV, B32,R32,N32,b32, l1,l2,l3,l4]
 refine loop_ind (G:=(·=_)) (fun j σ=>∃T S,σ=⟨T,S,[],H',(H').length,45,false⟩∧get T 1=.slice ha xs.length hk∧get T 2=.pointer (some ⟨2,0,some 1⟩)∧get T 7=.slice ha xs.length hk∧get T 8=.int .i64 (xs.length:Nat)∧get T 9=.int .i64 (j:Nat)∧sget S 2=(1,.cells [.slice oa 1 ok,.slice ba xs.length bk,.slice ta 1 tk])∧(True)) (xs.length) ?_ ?_ 0 _ (Nat.zero_le _) ⟨_,_,rfl,rfl,rfl,rfl,rfl,rfl,rfl,by simp⟩
 ·rintro c' j s hj ⟨T,S,rfl,t1,t2,t7,t8,t9,s0,hp⟩ ih
  obtain ⟨b,off,y,hya,hy,e1⟩:=hh.i1 hj
  have hy0:y=0:=by
   rw [List.getElem?_map] at hy
   cases hx:xs[j]? with
   | none=>rw [hx] at hy; cases hy
   | some x=>rw [hx] at hy; cases hy; rfl
  subst hy0
  have e1:=e1 H' hg
  obtain ⟨b2,off2,x,hxa,hx,_,f2,f3⟩:=h.bd.b5 hj
  have f2:=f2 H' hg
  have f3:=f3 H' hg
  have ia:=ia_of (kk:=hk) (k:=1) hya hj
  have ia2:=ia_of (kk:=bk) (k:=5) hxa hj
  have hw:=wrap_succ j (by omega)
  have hnj:¬xs.length≤j:=by omega
  simp (maxDischargeDepth:=8) only [↓SD,SU,SV,SW,simprocAttr,Int.cast_ofNat_Int,small,resV, q32x0,t1,t2,t7,t8,t9,s0, lt_nat,le_nat,hj,hnj,l1,l2,l3,l4,ia,ia2,e1,f2,f3,c75,q3,hw]
  exact ih _ ⟨_,_,rfl,(by simp [get_set,t1] <;> omega),(by simp [get_set,t2] <;> omega),(by simp [get_set,t7] <;> omega),(by simp [get_set,t8] <;> omega),(by simp [get_set,t9] <;> omega),by simp [sget_sset,s0],trivial⟩
 ·rintro c' s ⟨T,S,rfl,t1,t2,t7,t8,t9,s0,hp⟩
  have hq:((xs.length:Nat):Int)=((xs.length:Nat):Int)↔True:=by simp
  simp (maxDischargeDepth:=8) only [↓SD,SU,SV,SW,simprocAttr,Int.cast_ofNat_Int,small,resV, q32x0,t1,t2,t7,t8,t9,s0, lt_nat,Nat.lt_irrefl,l1,l2,l3,l4,hq,R32,N32]
end Go.Pi.L.Top
