/- Benches: Least: a plan that is in time. -/
import Derived.Test.YtjgmlngcknehhaaGreatVG
set_option linter.all false
set_option maxRecDepth 100000
namespace Go.Pi.L.Ch
open Go Go.Pi Go.Pi.L Go.Pi.E Go.Pi.Top BM

set_option maxHeartbeats 1000000 in
theorem CJ.stop {X:LX}(hX:LXOk X){A:Nat→Prop}{H:Heap}{p:List Int}{b:Nat}(hpl:p.length=X.b.strokes.length)
  (hI:CJ X 0 0 .ready none A H) (hA:Lt A H) (hF:Fam H) (hs:Sl H 1 encN (some ⟨b,0,none⟩) p.length p) (hno:tk X.b p≤X.now) :
  ∃H' lo,R (.yield X.l) [.slice (some ⟨b,0,none⟩) p.length 1] H=some ⟨.ok (.bool false),H',lo⟩∧X.H0.length≤lo∧lo≤X.l∧H.length≤H'.length∧(∀i,i < H.length→i≠X.l→i≠X.r4→i≠X.r5→H'[i]?=H[i]?)∧CJ X X.n 0 .done (some .ret) A H':=by
 have hlt:=lt_of_get hI.lp
 have gl:=hX.gl
 obtain ⟨H1,hH1⟩:∃H1,H.set X.l { obj:=.loop 32 X.T [23] as17 bd17 X.d .busy none }=H1:=⟨_,rfl⟩
 have old1:∀i,i≠X.l→H1[i]?=H[i]?:=fun i hi=>by rw [←hH1,List.getElem?_set_ne (fun e=>hi e.symm)]
 have l1:H1[X.l]?=some (lpB 32 X.T [23] as17 bd17 X.d .busy none):=by rw [←hH1,List.getElem?_set_self hlt]; rfl
 have len1:H1.length=H.length:=by rw [←hH1]; simp
 have u1:Up X.H0 H1:=by rw [←hH1]; exact hI.up.set gl
 have hlp:=hI.lp
 have g1:∀{i:Nat} {c:List Value},hcells H i=some c→hcells H1 i=some c:=fun {i c} h=>by
  rw [hc_kept (old1 i (fun e=>by subst e; simp [hcells,hlp,lpB] at h))]; exact h
 have hF1:Fam H1:=by rw [←hH1]; exact hF.set hI.lp rfl
 have hs1:Ints H1 (some ⟨b,0,none⟩) p.length p:=Sl.mv hs fun c hc=>g1 hc
 have hbe1:BeOk H1 X.r X.b:=hX.be.grow u1.grow
 have k50:=c50 (kk:=1) hbe1 hs1 H1 (Grow.refl _)
 obtain ⟨H2,hH2⟩:∃H2,H1++[({ obj:=.map mSh [] }:Blk)]=H2:=⟨_,rfl⟩
 have u2:Up H1 H2:=by rw [←hH2]; exact (Up.refl _).app
 have len2:H2.length=H1.length+1:=by rw [←hH2]; simp
 have hw:WkOk H2 (⟨X.r,some ⟨b,0,none⟩,p.length,1,H1.length,-1,0⟩:WkR) X.b p:=⟨hbe1.grow u2.grow,hs1.grow u2.grow,hX.fi,hpl,by simp,by simp⟩
 have hm2:Mp (vE X.b p (-1) 0) H2 H1.length:=by rw [←hH2]; exact mp_new _ _
 obtain ⟨o,ho,H3,lo3,rfl,ch3,hm3,hlo3⟩:=c51 hw H2 (Grow.refl _) hm2
 have hlo3:H1.length≤lo3:=hlo3
 have hkp:=kept_of ch3 hm2 hm3
 rw [tk_eq] at ho
 rw [hH2] at k50
 have hF2:Fam H2:=by rw [←hH2]; exact hF1.append (fun f h=>by cases h)
 have hF3:Fam H3:=famR ho hF2
 have old3:∀i,i < H1.length→H3[i]?=H1[i]?:=fun i hi=>by
  rw [ch3.old i (by omega) (fun e=>by have:i=H1.length:=e; omega),u2.old i hi]
 have len3:H2.length≤H3.length:=ch3.len
 have hi3:∀{i:Nat} {bk:Blk},H[i]?=some bk→i≠X.l→H3[i]?=some bk:=fun {i bk} h hi=>by
  rw [old3 i (by rw [len1]; exact lt_of_get h),old1 i hi]; exact h
 have l3:H3[X.l]?=some ⟨.loop 32 X.T [23] as17 bd17 X.d .busy none,true,true,none⟩:=by rw [old3 _ (by omega)]; exact l1
 have x1:hcells H1 X.xb=some [.int .i64 X.r.app,.slice X.r.ba X.r.bl X.r.bk,.slice X.r.sa X.r.sl X.r.sk]:=g1 (by simp [hcells,hI.xc,benB,benC])
 have n3:hcells H3 X.nb=some [.int .i64 X.now]:=bx_hc (hi3 hI.cn hX.ln)
 have lp':H[X.l]?=some ⟨.loop 32 X.T [23] as17 bd17 X.d .ready none,true,true,none⟩:=hI.lp
 have t2:=hX.t2
 have t3:=hX.t3
 have j1:=hbe1.br.isLoc X.r.bk
 have j2:=hbe1.st.isLoc X.r.sk
 have z1:(tk X.b p≤X.now)=True:=eq_true hno
 have t4:=hX.t4
 have t5:=hX.t5
 have t6:=hX.t6
 have n6:hcells H3 X.b6=some [.int .i64 X.n]:=bx_hc (hi3 hI.c6 hX.l6)
 have b4:H3[X.r4]?=some ⟨.cells [.int .i64 0],true,true,none⟩:=hi3 hI.c4 hX.l4
 obtain ⟨H4,hH4⟩:∃H4,H3.set X.r4 { obj:=.cells [.int .i64 X.n] }=H4:=⟨_,rfl⟩
 have old4:∀i,i≠X.r4→H4[i]?=H3[i]?:=fun i hi=>by rw [←hH4,List.getElem?_set_ne (fun e=>hi e.symm)]
 have b5:H4[X.r5]?=some ⟨.cells [.int .i64 0],true,true,none⟩:=by rw [old4 _ (fun e=>hX.e45 e.symm)]; exact hi3 hI.c5 hX.l5
 obtain ⟨H5,hH5⟩:∃H5,H4.set X.r5 { obj:=.cells [.int .i64 0] }=H5:=⟨_,rfl⟩
 have old5:∀i,i≠X.r5→H5[i]?=H4[i]?:=fun i hi=>by rw [←hH5,List.getElem?_set_ne (fun e=>hi e.symm)]
 have l5:H5[X.l]?=some ⟨.loop 32 X.T [23] as17 bd17 X.d .busy none,true,true,none⟩:=by rw [old5 _ (fun e=>hX.l5 e.symm),old4 _ (fun e=>hX.l4 e.symm)]; exact l3
 have len5:H5.length=H3.length:=by rw [←hH5,List.length_set,←hH4,List.length_set]
 have g4:=hX.g4
 have g5:=hX.g5
 have lt4:=lt_of_get b4
 have lt5:=lt_of_get b5
 have key:Yes (R (.yield X.l) [.slice (some ⟨b,0,none⟩) p.length 1] H) (fun o=>∃lo,o=⟨.ok (.bool false),H5.set X.l { obj:=.loop 32 X.T [23] as17 bd17 X.d .done (some .ret) },lo⟩∧X.H0.length≤lo∧lo≤X.l):=by
  refine run_yl lp' rfl rfl ?_
  simp (maxDischargeDepth:=8) only [↓SD,SU,SV,SW,simprocAttr,Int.cast_ofNat_Int,small,resV,k_as17,setParams,yA_n lp',hH1,k_bd17,t2,t3,x1,j1,j2,loc_m,k50,ho,rD_kept,hkp,n3,z1,t4,t5,t6,n6,b4,stH_ok,hH4,b5,hH5,yE_r l5,k_fixb]
  rw [yes_some]
  exact ⟨_,rfl,by omega,by omega⟩
 obtain ⟨o,hoy,lo,rfl,w1,w2⟩:=key
 obtain ⟨H6,hH6⟩:∃H6,H5.set X.l { obj:=.loop 32 X.T [23] as17 bd17 X.d .done (some .ret) }=H6:=⟨_,rfl⟩
 rw [hH6] at hoy
 have len6:H6.length=H3.length:=by rw [←hH6,List.length_set]; exact len5
 have old6:∀i,i < H.length→i≠X.l→i≠X.r4→i≠X.r5→H6[i]?=H[i]?:=fun i h1 h2 h3 h4=>by rw [←hH6,List.getElem?_set_ne (fun e=>h2 e.symm),old5 i h4,old4 i h3,old3 i (by omega),old1 i h2]
 have pl:∀{i:Nat} {bk:Blk},H[i]?=some bk→i≠X.l→i≠X.r4→i≠X.r5→H6[i]?=some bk:=fun {i bk} h h2 h3 h4=>by rw [old6 i (lt_of_get h) h2 h3 h4]; exact h
 refine ⟨H6,lo,hoy,w1,w2,by omega,old6,?_⟩
 exact {
  c4:=by rw [←hH6,List.getElem?_set_ne (fun e=>hX.l4 e.symm),old5 _ hX.e45,←hH4,List.getElem?_set_self lt4]; rfl
  n4:=hI.n4
  c5:=by rw [←hH6,List.getElem?_set_ne (fun e=>hX.l5 e.symm),←hH5,List.getElem?_set_self lt5]; rfl
  n5:=hI.n5
  c6:=pl hI.c6 hX.l6 hX.e46 hX.e56
  n6:=hI.n6
  cn:=pl hI.cn hX.ln hX.e4n hX.e5n
  nn:=hI.nn
  lp:=by rw [←hH6,List.getElem?_set_self (by omega)]; rfl
  nl:=hI.nl
  df:=pl hI.df hX.ld hX.e4d hX.e5d
  nd:=hI.nd
  xc:=pl hI.xc hX.lx hX.e4x hX.e5x
  nx:=hI.nx
  yc:=pl hI.yc hX.ly hX.e4y hX.e5y
  ny:=hI.ny
  up:=⟨by have:=hI.up.len; omega,fun i hi=>by rw [old6 i (Nat.lt_of_lt_of_le hi hI.up.len) (by omega) (by omega) (by omega)]; exact hI.up.old i hi⟩
  lo:=hI.lo }
end Go.Pi.L.Ch
set_option maxRecDepth 100000
namespace Go.Pi.L.Ch
open Go Go.Pi Go.Pi.L Go.Pi.E Go.Pi.Top BM

def DK (D:List Nat)(A:Nat→Prop)(H:Heap):Prop:=∀r∈D,H[r]?=some ⟨.dfr false,true,true,none⟩∧¬A r
theorem DK.own {D:List Nat}{A:Nat→Prop}{H H':Heap}(h:DK D A H)(c:Chg A H H'):DK D (And' A H H') H':=fun r hr=>by
 obtain ⟨h1,h2⟩:=h r hr
 exact ⟨by rw [c.old _ (lt_of_get h1) h2]; exact h1,not_and h2 (lt_of_get h1)⟩
theorem consLst {X:LX}(hX:LXOk X){D:List Nat}(hD:∀r∈D,r≠X.l∧r≠X.r4∧r≠X.r5):ConsB PP primsL X.l X.H0.length (fun i=>i < X.H0.length∨i=X.yb) (Ok (witB X.b X.n)) (fun acc A H=>CJ X 0 0 .ready none A H∧DK D A H∧∀q∈acc,X.now < tk X.b q) (fun acc A H=>CJ X X.n 0 .done (some .ret) A H∧DK D A H∧∃q∈acc,tk X.b q≤X.now) where
 own:=fun acc A H H' ⟨h,hk,h2⟩ c=>⟨h.own c,hk.own c,h2⟩
 less:=fun acc A B H ⟨h,hk,h2⟩ hab=>⟨h.less hab,fun r hr=>⟨(hk r hr).1,fun q=>(hk r hr).2 (hab _ q)⟩,h2⟩
 step:=fun acc A H p b hok ⟨h,hk,h2⟩ hA hF hs hb=>by
  have hp:p∈plans (witB X.b X.n):=hok.1 p (by simp)
  have hpl:p.length=X.b.strokes.length:=by
   unfold plans at hp
   rw [mem_plansL] at hp
   rw [hp.1]; simp [rounds]
  have gl:=hX.gl
  have g4:=hX.g4
  have g5:=hX.g5
  have far:∀i,A i∨(i < X.H0.length∨i=X.yb)→i < H.length∧i≠X.l∧i≠X.r4∧i≠X.r5:=fun i hi=>by
   rcases hi with hi | hi | hi
   ·exact ⟨hA i hi,fun e=>h.nl (e ▸ hi),fun e=>h.n4 (e ▸ hi),fun e=>h.n5 (e ▸ hi)⟩
   ·exact ⟨Nat.lt_of_lt_of_le hi h.up.len,by omega,by omega,by omega⟩
   ·subst hi; exact ⟨lt_of_get h.yc,hX.ly,hX.e4y,hX.e5y⟩
  rcases Int.lt_or_le X.now (tk X.b p) with hlt | hle
  ·obtain ⟨H',lo,q1,q2,q3,q4,q5,q6⟩:=CJ.step hX hpl h hA hF hs hlt
   refine ⟨true,H',lo,q1,q2,q3,q4,fun i hi=>q5 i (far i hi).1 (far i hi).2.1,fun _=>⟨q6,fun r hr=>⟨?_,(hk r hr).2⟩,fun q hq=>?_⟩,fun h=>(by cases h)⟩
   ·rw [q5 r (lt_of_get (hk r hr).1) (hD r hr).1]; exact (hk r hr).1
   ·rcases List.mem_append.1 hq with hq | hq
    ·exact h2 q hq
    ·rw [List.mem_singleton.1 hq]; exact hlt
  ·obtain ⟨H',lo,q1,q2,q3,q4,q5,q6⟩:=CJ.stop hX hpl h hA hF hs hle
   refine ⟨false,H',lo,q1,q2,q3,q4,fun i hi=>q5 i (far i hi).1 (far i hi).2.1 (far i hi).2.2.1 (far i hi).2.2.2,fun h=>(by cases h),fun _=>⟨q6,fun r hr=>⟨?_,(hk r hr).2⟩,p,by simp,hle⟩⟩
   rw [q5 r (lt_of_get (hk r hr).1) (hD r hr).1 (hD r hr).2.1 (hD r hr).2.2]; exact (hk r hr).1
end Go.Pi.L.Ch
set_option maxRecDepth 100000
namespace Go.Pi.L.Ch
open Go Go.Pi Go.Pi.L Go.Pi.E Go.Pi.Top BM

theorem CJ.none {X:LX}{v4 v5:Int}{st:LoopState}{pd:Option Ex}{A:Nat→Prop}{H:Heap}(h:CJ X v4 v5 st pd A H):CJ X v4 v5 st pd (fun _=>False) H:=h.less fun _ h=>h.elim
theorem rnd17 {X:LX}(hX:LXOk X){D:List Nat}(hD:∀r∈D,r≠X.l∧r≠X.r4∧r≠X.r5){Hl:Heap}(hI:CJ X 0 0 .ready none (fun _=>False) Hl)(hK:DK D (fun _=>False) Hl)(hF:Fam Hl)(hB:isBench (witB X.b X.n)=true) :
  ∃H1 lo1,R (.func 92) [.func (.yield X.l) #[] #[],.pointer (some ⟨X.yb,0,none⟩)] Hl=some ⟨.ok nothing,H1,lo1⟩∧X.H0.length≤lo1∧lo1≤X.l∧Hl.length≤H1.length∧Fam H1∧DK D (fun _=>False) H1 ∧
   ((X.now < mtW X.b X.n∧CJ X 0 0 .ready none (fun _=>False) H1)∨(mtW X.b X.n≤X.now∧CJ X X.n 0 .done (some .ret) (fun _=>False) H1)):=by
 have hf:=fine_of hB
 have hbe:=wit_ok (hX.be.grow hI.up.grow) X.n
 have yc:hcells Hl X.yb=some [.int .i64 X.n,.slice X.r.ba X.r.bl X.r.bk,.slice X.r.sa X.r.sl X.r.sk]:=by simp [hcells,hI.yc,benB,benC]
 obtain ⟨o,ho,H1,lo1,A1,rfl,w1,w2,w3,w4,w5,w6⟩:=c92 (r:=witR X.r X.n) (b:=witB X.b X.n) (xb:=X.yb) hf (consLst hX hD) (ok_all hf) hF ⟨hI,hK,fun q hq=>by cases hq⟩ (lt_of_get hI.lp) hX.gl (fun i hi=>by
  rcases hi with hi | hi
  ·exact Nat.lt_of_lt_of_le hi hI.up.len
  ·have e:i=X.yb:=hi
   subst e; exact lt_of_get hI.yc) (.inr rfl) yc hbe.st (fun h0 b off he=>.inl (Sl.inR hX.be.st h0 b off he)) hbe.eq hbe.app
 refine ⟨H1,lo1,ho,w1,w2,w3,w5,?_⟩
 rcases w6 with ⟨h1,h2,h3⟩ | ⟨L1,L2,hL,_,h1,h2,q,hq,h3⟩
 ·refine ⟨fun r hr=>⟨(h2 r hr).1,id⟩,.inl ⟨?_,h1.none⟩⟩
  obtain ⟨x,hx,e⟩:=minT_mem (tk (witB X.b X.n)) (plans_ne (witB X.b X.n))
  have:=h3 x hx
  have e2:tk X.b x=tk (witB X.b X.n) x:=rfl
  unfold mtW
  omega
 ·refine ⟨fun r hr=>⟨(h2 r hr).1,id⟩,.inr ⟨?_,h1.none⟩⟩
  have hm:=minT_le (tk (witB X.b X.n)) (show q∈plans (witB X.b X.n) by rw [hL]; exact List.mem_append_left _ hq)
  have e2:tk X.b q=tk (witB X.b X.n) q:=rfl
  unfold mtW
  omega
end Go.Pi.L.Ch
set_option maxRecDepth 100000
namespace Go.Pi.L
open Go Go.Pi
theorem get_deloc {T:List Value}{i:Nat}{v:Value}(h:get T i=v)(hl:isLoc v=false):get (T.map deloc) i=v:=by
 have e:∀(T:List Value) (i:Nat),get (T.map deloc) i=deloc (get T i):=by
  intro T
  induction T with
  | nil=>intro i; cases i <;> rfl
  | cons x T ih=>intro i; cases i with
   | zero=>rfl
   | succ i=>exact ih i
 rw [e,h]
 simp [deloc,hl]
end Go.Pi.L
set_option maxRecDepth 100000
namespace Go.Pi.L.Ch
open Go Go.Pi Go.Pi.L Go.Pi.E Go.Pi.Top BM

set_option maxHeartbeats 1000000 in
theorem e17 {H:Heap}{r:BeR}{b:Bench}(hb:BeOk H r b)(hd:SmB r)(now:Int)(h:(isBench b&&inL now 0 60)=false):∀H',Grow H H'→Fam H'→R (.func 17) [.agg #[.int .i64 r.app,.slice r.ba r.bl r.bk,.slice r.sa r.sl r.sk],.int .i64 now] H'=some ⟨.ok (.tuple #[.int .i64 0,.int .i64 2]),H',H'.length⟩:=by
 intro H' hg hF
 refine run_k (pr 17) P17 (by simp [p17]) rfl ?_
 have l1:=hb.br.isLoc r.bk
 have l2:=hb.st.isLoc r.sk
 obtain ⟨Ha,hHa⟩:∃Ha,H'++[({ obj:=.cells [.int .i64 r.app,.slice r.ba r.bl r.bk,.slice r.sa r.sl r.sk] }:Blk)]=Ha:=⟨_,rfl⟩
 obtain ⟨Hb,hHb⟩:∃Hb,Ha++[({ obj:=.cells [.int .i64 now] }:Blk)]=Hb:=⟨_,rfl⟩
 obtain ⟨Hc,hHc⟩:∃Hc,Hb++[({ obj:=.cells [.int .i64 0] }:Blk)]=Hc:=⟨_,rfl⟩
 obtain ⟨Hd,hHd⟩:∃Hd,Hc++[({ obj:=.cells [.int .i64 0] }:Blk)]=Hd:=⟨_,rfl⟩
 have la:Ha.length=H'.length+1:=by rw [←hHa]; simp
 have lb:Hb.length=H'.length+2:=by rw [←hHb]; simp [la]
 have lc:Hc.length=H'.length+3:=by rw [←hHc]; simp [lb]
 have ld:Hd.length=H'.length+4:=by rw [←hHd]; simp [lc]
 have ua:Up H' Ha:=by rw [←hHa]; exact (Up.refl _).app
 have ub:Up Ha Hb:=by rw [←hHb]; exact (Up.refl _).app
 have uc:Up Hb Hc:=by rw [←hHc]; exact (Up.refl _).app
 have ud:Up Hc Hd:=by rw [←hHd]; exact (Up.refl _).app
 have u:=((ua.trans ub).trans uc).trans ud
 have xa:Ha[H'.length]?=some (benB r):=by rw [←hHa]; exact app_get
 have xb:Hb[Ha.length]?=some (bx (.int .i64 now)):=by rw [←hHb]; exact app_get
 have xc:Hc[Hb.length]?=some (bx (.int .i64 0)):=by rw [←hHc]; exact app_get
 have xd:Hd[Hc.length]?=some (bx (.int .i64 0)):=by rw [←hHd]; exact app_get
 have x1:hcells Hd H'.length=some [.int .i64 r.app,.slice r.ba r.bl r.bk,.slice r.sa r.sl r.sk]:=by
  unfold hcells; rw [ud.old _ (by omega),uc.old _ (by omega),ub.old _ (by omega),xa]; rfl
 have n1:hcells Hd Ha.length=some [.int .i64 now]:=by
  unfold hcells; rw [ud.old _ (by omega),uc.old _ (by omega),xb]; rfl
 have b4:Hd[Hb.length]?=some ⟨.cells [.int .i64 0],true,true,none⟩:=by rw [ud.old _ (by omega)]; exact xc
 obtain ⟨He,hHe⟩:∃He,Hd.set Hb.length { obj:=.cells [.int .i64 0] }=He:=⟨_,rfl⟩
 have b5:He[Hc.length]?=some ⟨.cells [.int .i64 0],true,true,none⟩:=by rw [←hHe,List.getElem?_set_ne (by omega)]; exact xd
 obtain ⟨Hf,hHf⟩:∃Hf,He.set Hc.length { obj:=.cells [.int .i64 2] }=Hf:=⟨_,rfl⟩
 have f4:hcells Hf Hb.length=some [.int .i64 0]:=by
  unfold hcells; rw [←hHf,List.getElem?_set_ne (by omega),←hHe,List.getElem?_set_self (by omega)]
 have f5:hcells Hf Hc.length=some [.int .i64 2]:=by
  unfold hcells; rw [←hHf,List.getElem?_set_self (lt_of_get b5)]
 have k36:=c36 hb hd Hd (hg.trans u.grow)
 have k47:=c47 now 0 60 Hd
 cases q:isBench b with
 | false =>
  rw [q] at k36
  simp (maxDischargeDepth:=8) only [↓SD,SU,SV,SW,simprocAttr,Int.cast_ofNat_Int,small,resV, B17,R17,N17,b17, l1,l2,hHa,hHb,hHc,hHd,x1,n1,k36,b4,stH_ok,hHe,b5,hHf,f4,f5,R17,N17]
  first | (rw [gc_ite (by omega)]; simp [flat]; done) | (simp [gcR,flat]; omega)
 | true =>
  rw [q,Bool.true_and] at h
  rw [q] at k36
  rw [h] at k47
  simp (maxDischargeDepth:=8) only [↓SD,SU,SV,SW,simprocAttr,Int.cast_ofNat_Int,small,resV, B17,R17,N17,b17, l1,l2,hHa,hHb,hHc,hHd,x1,n1,k36,k47,b4,stH_ok,hHe,b5,hHf,f4,f5,R17,N17]
  first | (rw [gc_ite (by omega)]; simp [flat]; done) | (simp [gcR,flat]; omega)
end Go.Pi.L.Ch
set_option maxRecDepth 100000
namespace Go.Pi.L
open Go Go.Pi
def kolH:List Nat→Heap→Heap
 | [],H=>H
 | r :: D,H=>kolH D (H.set r { obj:=.dfr true })
def kolL:List Nat→Nat→Nat
 | [],lo=>lo
 | r :: D,lo=>kolL D (min lo r)
theorem kolL_le {n0:Nat}:∀{D:List Nat} {lo:Nat},n0≤lo→(∀r∈D,n0≤r)→n0≤kolL D lo
 | [],lo,h,_=>h
 | r :: D,lo,h,hd=>kolL_le (D:=D) (Nat.le_min.2 ⟨h,hd r (List.mem_cons_self ..)⟩) fun x hx=>hd x (List.mem_cons_of_mem _ hx)
theorem kolH_get:∀{D:List Nat} {H:Heap} {i:Nat},i ∉ D→(kolH D H)[i]?=H[i]?
 | [],H,i,_=>rfl
 | r :: D,H,i,h=>by
  rw [kolH,kolH_get (fun q=>h (List.mem_cons_of_mem _ q)),List.getElem?_set_ne (fun e=>h (by rw [←e]; exact List.mem_cons_self ..))]
theorem unw_kol {PP:FuncId→Option PFunc}{prims:Prims}{call:CallT}{pv:Option Value}{T:List Value}{S:List (Nat×PObj)}{D0:List PD}{n:Nat}{rnd:Bool}:∀(D:List Nat) (H:Heap) (lo:Nat),D.Nodup→(∀r∈D,H[r]?=some ⟨.dfr false,true,true,none⟩) →
  unwL PP prims call (D.map PD.coll) pv ⟨T,S,D0,H,lo,n,rnd⟩=some (pv,⟨T,S,D0,kolH D H,kolL D lo,n,rnd⟩)
 | [],H,lo,_,_=>by rw [List.map_nil,unw_nil]; rfl
 | r :: D,H,lo,hn,hd=>by
  obtain ⟨n1,n2⟩:=List.nodup_cons.1 hn
  have h1:=hd r (List.mem_cons_self ..)
  rw [List.map_cons,unw_coll _ _ _ _ _ _ _ _ _ _ h1]
  exact unw_kol D _ _ n2 fun x hx=>by
   rw [List.getElem?_set_ne (fun e=>n1 (by rw [e]; exact hx))]; exact hd x (List.mem_cons_of_mem _ hx)
theorem fE_any {PP:FuncId→Option PFunc}{prims:Prims}{call:CallT}(pf H pv T S D H1 lo n rnd):fE PP prims call pf H pv ⟨T,S,D,H1,lo,n,rnd⟩=fin pf H (unwL PP prims call D pv ⟨T,S,D,H1,lo,n,rnd⟩):=rfl
end Go.Pi.L
namespace Go.Pi.L.Ch
open Go Go.Pi Go.Pi.L Go.Pi.E Go.Pi.Top BM

structure LI (H':Heap)(r:BeR)(now:Int)(D:List Nat)(H:Heap):Prop where
 xb:H[H'.length]?=some (benB r)
 nb:H[H'.length+1]?=some (bx (.int .i64 now))
 r4:H[H'.length+2]?=some (bx (.int .i64 0))
 r5:H[H'.length+3]?=some (bx (.int .i64 0))
 up:Up H' H
 fam:Fam H
 nd:D.Nodup
 dk:DK D (fun _=>False) H
 rg:∀x∈D,H'.length+3 < x
theorem r60 {H' H3:Heap}{r:BeR}{b:Bench}{now:Int}{D:List Nat}{T:List Value}{j:Nat}(hb:BeOk H' r b)(hB:isBench b=true)(hj:j < 4)(hI:LI H' r now D H3)
  (t2:get T 2=.pointer (some ⟨H'.length,0,none⟩)) (t3:get T 3=.pointer (some ⟨H'.length+1,0,none⟩)) (t4:get T 4=.pointer (some ⟨H'.length+2,0,none⟩)) (t5:get T 5=.pointer (some ⟨H'.length+3,0,none⟩)) (t6:get T 6=.pointer (some ⟨H3.length,0,none⟩))
  {Ha Hb Hc Hl:Heap} (hHa:H3++[({ obj:=.cells [.int .i64 0] }:Blk)]=Ha) (hHb:Ha.set H3.length { obj:=.cells [.int .i64 (j:Nat)] }=Hb) (hHc:Hb++[({ obj:=.cells (benC (witR r (j:Int))) }:Blk)]=Hc)
  (hHl:Hc++[({ obj:=.dfr false }:Blk)]++[({ obj:=.loop 32 T [23] as17 bd17 Hc.length .ready none }:Blk)]=Hl) :
  Ha[H3.length]?=some ⟨.cells [.int .i64 0],true,true,none⟩∧hcells Hb H3.length=some [.int .i64 (j:Nat)]∧hcells Hb H'.length=some (benC r)∧Hb.length=H3.length+1∧Hc.length=H3.length+2∧H'.length≤H3.length ∧
  ∃H1 lo1,R (.func 92) [.func (.yield (Hc.length+1)) #[] #[],.pointer (some ⟨Hb.length,0,none⟩)] Hl=some ⟨.ok nothing,H1,lo1⟩∧H'.length≤lo1 ∧
   ((now < mtW b j∧H1[Hc.length+1]?=some ⟨.loop 32 T [23] as17 bd17 Hc.length .ready none,true,true,none⟩∧LI H' r now (Hc.length :: D) (H1.set (Hc.length+1) { obj:=.loop 32 T [23] as17 bd17 Hc.length .exhausted none })) ∨
    (mtW b j≤now∧H1[Hc.length+1]?=some ⟨.loop 32 T [23] as17 bd17 Hc.length .done (some .ret),true,true,none⟩∧(Hc.length :: D).Nodup∧(∀x∈Hc.length :: D,H'.length+3 < x) ∧
     ∃H5,H1.set (Hc.length+1) { obj:=.loop 32 T [23] as17 bd17 Hc.length .exhausted (some .ret) }=H5∧(∀x∈Hc.length :: D,H5[x]?=some ⟨.dfr false,true,true,none⟩)∧H5[H'.length+2]?=some (bx (.int .i64 (j:Nat)))∧H5[H'.length+3]?=some (bx (.int .i64 0)))):=by
 have b0:=lt_of_get hI.r5
 have la:Ha.length=H3.length+1:=by rw [←hHa]; simp
 have lb:Hb.length=H3.length+1:=by rw [←hHb,List.length_set]; exact la
 have lc:Hc.length=H3.length+2:=by rw [←hHc,List.length_append,lb]; rfl
 have ll:Hl.length=H3.length+4:=by rw [←hHl,List.length_append,List.length_append,lc]; rfl
 have oa:∀i,i < H3.length→Ha[i]?=H3[i]?:=fun i hi=>by rw [←hHa,List.getElem?_append_left hi]
 have ob:∀i,i≠H3.length→Hb[i]?=Ha[i]?:=fun i hi=>by rw [←hHb,List.getElem?_set_ne (fun e=>hi e.symm)]
 have oc:∀i,i < Hb.length→Hc[i]?=Hb[i]?:=fun i hi=>by rw [←hHc,List.getElem?_append_left hi]
 have ol:∀i,i < Hc.length→Hl[i]?=Hc[i]?:=fun i hi=>by rw [←hHl,List.append_assoc,List.getElem?_append_left hi]
 have old:∀i,i < H3.length→Hl[i]?=H3[i]?:=fun i hi=>by rw [ol i (by omega),oc i (by omega),ob i (by omega),oa i hi]
 have at6:Ha[H3.length]?=some ⟨.cells [.int .i64 0],true,true,none⟩:=by rw [←hHa]; exact app_get
 have bt6:Hb[H3.length]?=some (bx (.int .i64 (j:Nat))):=by rw [←hHb,List.getElem?_set_self (by omega)]; rfl
 have cty:Hc[Hb.length]?=some (benB (witR r (j:Int))):=by rw [←hHc]; exact app_get
 have bd:Hl[Hc.length]?=some ⟨.dfr false,true,true,none⟩:=by rw [←hHl,List.append_assoc,List.getElem?_append_right (Nat.le_refl _)]; simp
 have bl:Hl[Hc.length+1]?=some (lpB 32 T [23] as17 bd17 Hc.length .ready none):=by rw [←hHl,List.append_assoc,List.getElem?_append_right (by omega),Nat.add_sub_cancel_left]; rfl
 have kp:∀{i:Nat} {c:Blk},H3[i]?=some c→Hl[i]?=some c:=fun {i c} h=>by rw [old i (lt_of_get h)]; exact h
 have hu:Up H' Hl:=⟨by have:=hI.up.len; omega,fun i hi=>by rw [old i (by have:=hI.up.len; omega)]; exact hI.up.old i hi⟩
 have hFl:Fam Hl:=by
  rw [←hHl,←hHc]
  refine ((Fam.append (Fam.append (Fam.append ?_ ?_) ?_) ?_))
  ·rw [←hHb]
   refine Fam.set ?_ at6 rfl
   rw [←hHa]; exact hI.fam.append (fun f h=>by cases h)
  all_goals exact fun f h=>by cases h
 have up3:=hI.up.len
 have fa:H3[H'.length]?=some (benB r):=hI.xb
 refine ⟨at6,bx_hc bt6,by unfold hcells; rw [ob _ (by omega),oa _ (by omega),fa]; rfl,lb,lc,up3,?_⟩
 let X:LX:=⟨r,b,H',now,j,H'.length,H'.length+1,H'.length+2,H'.length+3,H3.length,Hc.length,Hc.length+1,Hb.length,T⟩
 have hX:LXOk X:={
  t2:=t2
  t3:=t3
  t4:=t4
  t5:=t5
  t6:=t6
  gl:=by show H'.length≤Hc.length+1; omega
  g4:=by show H'.length≤H'.length+2; omega
  g5:=by show H'.length≤H'.length+3; omega
  l4:=by show H'.length+2≠Hc.length+1; omega
  l5:=by show H'.length+3≠Hc.length+1; omega
  l6:=by show H3.length≠Hc.length+1; omega
  ln:=by show H'.length+1≠Hc.length+1; omega
  ld:=by show Hc.length≠Hc.length+1; omega
  lx:=by show H'.length≠Hc.length+1; omega
  ly:=by show Hb.length≠Hc.length+1; omega
  e45:=by show H'.length+2≠H'.length+3; omega
  e46:=by show H3.length≠H'.length+2; omega
  e4n:=by show H'.length+1≠H'.length+2; omega
  e4d:=by show Hc.length≠H'.length+2; omega
  e4x:=by show H'.length≠H'.length+2; omega
  e4y:=by show Hb.length≠H'.length+2; omega
  e56:=by show H3.length≠H'.length+3; omega
  e5n:=by show H'.length+1≠H'.length+3; omega
  e5d:=by show Hc.length≠H'.length+3; omega
  e5x:=by show H'.length≠H'.length+3; omega
  e5y:=by show Hb.length≠H'.length+3; omega
  be:=hb
  fi:=fine_of hB }
 have hC:CJ X 0 0 .ready none (fun _=>False) Hl:={
  c4:=kp hI.r4
  n4:=id
  c5:=kp hI.r5
  n5:=id
  c6:=by show Hl[H3.length]?=_; rw [ol _ (by omega),oc _ (by omega)]; exact bt6
  n6:=id
  cn:=kp hI.nb
  nn:=id
  lp:=bl
  nl:=id
  df:=bd
  nd:=id
  xc:=kp hI.xb
  nx:=id
  yc:=by show Hl[Hb.length]?=_; rw [ol _ (by omega)]; exact cty
  ny:=id
  up:=hu
  lo:=fun i hi=>hi.elim }
 have hD:∀x∈D,x≠X.l∧x≠X.r4∧x≠X.r5:=fun x hx=>by
  have h1:=hI.rg x hx
  have h2:=lt_of_get (hI.dk x hx).1
  exact ⟨by show x≠Hc.length+1; omega,by show x≠H'.length+2; omega,by show x≠H'.length+3; omega⟩
 have hK:DK D (fun _=>False) Hl:=fun x hx=>⟨kp (hI.dk x hx).1,id⟩
 obtain ⟨H1,lo1,q1,q2,q3,q4,q5,q6,q7⟩:=rnd17 hX hD hC hK hFl (wit_bench hB (n:=(j:Int)) (by omega) (by omega))
 have nd:(Hc.length :: D).Nodup:=List.nodup_cons.2 ⟨fun h=>by have:=lt_of_get (hI.dk _ h).1; omega,hI.nd⟩
 have rg:∀x∈Hc.length :: D,H'.length+3 < x:=fun x hx=>by
  rcases List.mem_cons.1 hx with h | h
  ·omega
  ·exact hI.rg x h
 refine ⟨H1,lo1,q1,q2,?_⟩
 rcases q7 with ⟨h1,h2⟩ | ⟨h1,h2⟩
 ·refine .inl ⟨h1,h2.lp,?_⟩
  obtain ⟨H5,hH5⟩:∃H5,H1.set (Hc.length+1) { obj:=.loop 32 T [23] as17 bd17 Hc.length .exhausted none }=H5:=⟨_,rfl⟩
  rw [hH5]
  have o5:∀i,i≠Hc.length+1→H5[i]?=H1[i]?:=fun i hi=>by rw [←hH5,List.getElem?_set_ne (fun e=>hi e.symm)]
  exact {
   xb:=by rw [o5 _ hX.lx]; exact h2.xc
   nb:=by rw [o5 _ hX.ln]; exact h2.cn
   r4:=by rw [o5 _ hX.l4]; exact h2.c4
   r5:=by rw [o5 _ hX.l5]; exact h2.c5
   up:=by rw [←hH5]; exact h2.up.set hX.gl
   fam:=by rw [←hH5]; exact q5.set h2.lp rfl
   nd:=nd
   dk:=fun x hx=>by
    rcases List.mem_cons.1 hx with h | h
    ·subst h; exact ⟨by rw [o5 _ hX.ld]; exact h2.df,id⟩
    ·exact ⟨by rw [o5 _ (hD x h).1]; exact (q6 x h).1,id⟩
   rg:=rg }
 ·obtain ⟨H5,hH5⟩:∃H5,H1.set (Hc.length+1) { obj:=.loop 32 T [23] as17 bd17 Hc.length .exhausted (some .ret) }=H5:=⟨_,rfl⟩
  have o5:∀i,i≠Hc.length+1→H5[i]?=H1[i]?:=fun i hi=>by rw [←hH5,List.getElem?_set_ne (fun e=>hi e.symm)]
  refine .inr ⟨h1,h2.lp,nd,rg,H5,hH5,fun x hx=>?_,?_,?_⟩
  ·rcases List.mem_cons.1 hx with h | h
   ·subst h; rw [o5 _ hX.ld]; exact h2.df
   ·rw [o5 _ (hD x h).1]; exact (q6 x h).1
  ·rw [o5 _ hX.l4]; exact h2.c4
  ·rw [o5 _ hX.l5]; exact h2.c5
end Go.Pi.L.Ch
