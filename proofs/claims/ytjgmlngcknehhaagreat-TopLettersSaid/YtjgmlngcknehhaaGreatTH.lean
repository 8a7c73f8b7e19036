/- Letters: the settings that fit are collected: what the program keeps. -/
import Derived.Test.YtjgmlngcknehhaaGreatTG
set_option linter.all false
set_option maxRecDepth 100000
namespace Go.Pi.L.Top
open Go Go.Pi Go.Pi.L Go.Pi.Top LM

def as70:PCode:=.reg [
    ⟨(some 6),.lalloc 85 (.agg #[(.slice none 0 0),(.slice none 0 0)]),none⟩,
    ⟨none,.st 2 (.tmp 6) (.tmp 10),none⟩]
def bd70:PCode:=.blk 1
    (.seq (.reg [
     ⟨(some 11),.ld (some 11) (.tmp 2),none⟩,
     ⟨(some 12),.ld (some 2) (.tmp 6),none⟩,
     ⟨(some 13),.call (.func 69) [.tmp 11,.tmp 12,.const (.int .i64 0)],none⟩])
    (.cond (.tmp 13)
     (.reg [
      ⟨(some 14),.ld none (.tmp 5),none⟩,
      ⟨(some 15),.ld (some 2) (.tmp 6),none⟩,
      ⟨(some 16),.lbs 85 2 [(.slice none 0 0),(.slice none 0 0)] 1 [(0,.tmp 15)],none⟩,
      ⟨(some 17),.app 85 2 (.tmp 14) (.tmp 16),none⟩,
      ⟨none,.st 1 (.tmp 5) (.tmp 17),none⟩])
     .skip))
theorem k_as70 {α:Type}{call:CallT}{F:Ex→St→Option α}{k:List It}{s:St}:mach call F (.code as70 :: k) none s=mach call F (.code (.reg [
    ⟨(some 6),.lalloc 85 (.agg #[(.slice none 0 0),(.slice none 0 0)]),none⟩,
    ⟨none,.st 2 (.tmp 6) (.tmp 10),none⟩]) :: k) none s:=rfl
theorem k_bd70 {α:Type}{call:CallT}{F:Ex→St→Option α}{k:List It}{s:St}:mach call F (.code bd70 :: k) none s=mach call F (.code (.blk 1
    (.seq (.reg [
     ⟨(some 11),.ld (some 11) (.tmp 2),none⟩,
     ⟨(some 12),.ld (some 2) (.tmp 6),none⟩,
     ⟨(some 13),.call (.func 69) [.tmp 11,.tmp 12,.const (.int .i64 0)],none⟩])
    (.cond (.tmp 13)
     (.reg [
      ⟨(some 14),.ld none (.tmp 5),none⟩,
      ⟨(some 15),.ld (some 2) (.tmp 6),none⟩,
      ⟨(some 16),.lbs 85 2 [(.slice none 0 0),(.slice none 0 0)] 1 [(0,.tmp 15)],none⟩,
      ⟨(some 17),.app 85 2 (.tmp 14) (.tmp 16),none⟩,
      ⟨none,.st 1 (.tmp 5) (.tmp 17),none⟩])
     .skip))) :: k) none s:=rfl
structure FS where
 b:Nat
 p:List LM.End
def encF (y:FS):List Value:=[.slice none 0 0,.slice (some ⟨y.b,0,none⟩) y.p.length 2]
theorem encF_len (y:FS):(encF y).length=2:=rfl
def cB (c:List Value):Blk:=⟨.cells c,true,true,none⟩
theorem cB_hc {H:Heap}{i:Nat}{c:List Value}(h:H[i]?=some (cB c)):hcells H i=some c:=by simp [hcells,h,cB]
theorem g_ne {H:Heap}{b b2:Nat}{xs:List (Int×Int)}{l:Nat}{a':Option Addr}{l' m':Nat}{c':List Value}(h:Sl H 2 encG (some ⟨b,0,none⟩) l xs)(h0:0 < xs.length)(h2:hcells H b2=some (.slice a' l' m' :: c')):b≠b2:=fun e=>by
 subst e
 obtain ⟨b',off,c,e1,e2,e3⟩:=h.rd 0 xs[0] (List.getElem?_eq_getElem h0)
 cases e1
 rw [h2] at e2; cases e2
 simp [encG] at e3
structure CK (X:CX)(acc:List (List LM.End))(A:Nat→Prop)(H:Heap)(a:Option Addr)(m:Nat)(ts:List FS):Prop where
 xc:H[X.x2]?=some (cB (frontC X.r X.s X.mb))
 nx:¬A X.x2
 rc:H[X.r5]?=some (bx (.slice a ts.length m))
 nr:¬A X.r5
 bc:H[X.xb]?=some (cB (frontC X.r X.s X.mb))
 nb:¬A X.xb
 oc:H[X.ob]?=some (cB [.slice none 0 0])
 no:¬A X.ob
 lp:H[X.l]?=some (lpB 19 X.T [10] as70 bd70 X.d .ready none)
 nl:¬A X.l
 df:H[X.d]?=some ⟨.dfr false,true,true,none⟩
 nd:¬A X.d
 up:Up X.H0 H
 lo:∀i,A i→X.H0.length≤i
 col:Col X.H0.length A H 2 a ts.length m (cells encF ts)
 eq:ts.map (·.p)=acc.filter (fitsP X.s 0)
 ok:∀y∈ts,¬A y.b∧0 < y.p.length∧Sl H 2 encG (some ⟨y.b,0,none⟩) y.p.length y.p
theorem CK.own {X:CX}{acc:List (List LM.End)}{A:Nat→Prop}{H H':Heap}{a:Option Addr}{m:Nat}{ts:List FS}(h:CK X acc A H a m ts)(c:Chg A H H'):CK X acc (And' A H H') H' a m ts:={
 xc:=by rw [c.old _ (lt_of_get h.xc) h.nx]; exact h.xc
 nx:=not_and h.nx (lt_of_get h.xc)
 rc:=by rw [c.old _ (lt_of_get h.rc) h.nr]; exact h.rc
 nr:=not_and h.nr (lt_of_get h.rc)
 bc:=by rw [c.old _ (lt_of_get h.bc) h.nb]; exact h.bc
 nb:=not_and h.nb (lt_of_get h.bc)
 oc:=by rw [c.old _ (lt_of_get h.oc) h.no]; exact h.oc
 no:=not_and h.no (lt_of_get h.oc)
 lp:=by rw [c.old _ (lt_of_get h.lp) h.nl]; exact h.lp
 nl:=not_and h.nl (lt_of_get h.lp)
 df:=by rw [c.old _ (lt_of_get h.df) h.nd]; exact h.df
 nd:=not_and h.nd (lt_of_get h.df)
 up:=c.up' h.up fun i hi ha=>by have:=h.lo i ha; omega
 lo:=fun i hi=>hi.elim (h.lo i) fun q=>by have:=h.up.len; omega
 col:=h.col.own c
 eq:=h.eq
 ok:=fun y hy=>by
  obtain ⟨h1,h2,h3⟩:=h.ok y hy
  have hlt:y.b < H.length:=by
   obtain ⟨b',off,cc,e1,e2,_⟩:=h3.rd 0 y.p[0] (List.getElem?_eq_getElem h2)
   cases e1; exact hc_lt e2
  exact ⟨not_and h1 hlt,h2,h3.chg c fun b off e=>by cases e; exact h1⟩ }
theorem CK.less {X:CX}{acc:List (List LM.End)}{A B:Nat→Prop}{H:Heap}{a:Option Addr}{m:Nat}{ts:List FS}(h:CK X acc A H a m ts)(hab:∀i,B i→A i):CK X acc B H a m ts :=
 { xc:=h.xc,nx:=fun q=>h.nx (hab _ q),rc:=h.rc,nr:=fun q=>h.nr (hab _ q),bc:=h.bc,nb:=fun q=>h.nb (hab _ q),oc:=h.oc,no:=fun q=>h.no (hab _ q),lp:=h.lp,nl:=fun q=>h.nl (hab _ q),df:=h.df,nd:=fun q=>h.nd (hab _ q),up:=h.up,lo:=fun i q=>h.lo i (hab i q),col:=h.col.less hab,eq:=h.eq,ok:=fun y hy=>⟨fun q=>(h.ok y hy).1 (hab _ q),(h.ok y hy).2⟩ }
theorem CK.put {X:CX}(hX:CXOk X){acc acc':List (List LM.End)}{A:Nat→Prop}{H H':Heap}{a a':Option Addr}{m m':Nat}{ts ts':List FS}(h:CK X acc A H a m ts)
  (hl:H'[X.l]?=some (lpB 19 X.T [10] as70 bd70 X.d .ready none)) (hr:H'[X.r5]?=some (bx (.slice a' ts'.length m')))
  (ho:∀(i:Nat) b,H[i]?=some b→b.fam=none→i≠X.l→i≠X.r5→H'[i]?=some b) (hup:Up X.H0 H') (hcol:Col X.H0.length A H' 2 a' ts'.length m' (cells encF ts')) (heq:ts'.map (·.p)=acc'.filter (fitsP X.s 0))
  (hok:∀y∈ts',¬A y.b∧0 < y.p.length∧Sl H' 2 encG (some ⟨y.b,0,none⟩) y.p.length y.p):CK X acc' A H' a' m' ts':={
 xc:=ho _ _ h.xc rfl hX.n5 hX.n4
 nx:=h.nx
 rc:=hr
 nr:=h.nr
 bc:=ho _ _ h.bc rfl hX.n7 hX.n6
 nb:=h.nb
 oc:=ho _ _ h.oc rfl hX.n9 hX.n8
 no:=h.no
 lp:=hl
 nl:=h.nl
 df:=ho _ _ h.df rfl hX.n2 (fun e=>hX.n3 e.symm)
 nd:=h.nd
 up:=hup
 lo:=h.lo
 col:=hcol
 eq:=heq
 ok:=hok }
theorem CK.step {X:CX}(hX:CXOk X){acc:List (List LM.End)}{A:Nat→Prop}{H:Heap}{p:List LM.End}{b:Nat}{a:Option Addr}{m:Nat}{ts:List FS}(hp:p∈setsP X.s)(hac:acc.length < 90000)
  (hI:CK X acc A H a m ts) (hA:Lt A H) (hN:NF A H) (hF:Fam H) (hs:Sl H 2 encG (some ⟨b,0,none⟩) p.length p) (hb:¬A b) :
  ∃H' lo a' m' ts',R (.yield X.l) [.agg #[.slice none 0 0,.slice (some ⟨b,0,none⟩) p.length 2]] H=some ⟨.ok (.bool true),H',lo⟩∧X.H0.length≤lo∧lo≤X.l∧H.length≤H'.length∧(∀i,A i∨RdC X i→H'[i]?=H[i]?)∧NF A H'∧CK X (acc++[p]) A H' a' m' ts':=by
 obtain ⟨hpo,hpn,hp3⟩:=setsP_mem hX.fi hp
 have hp0:0 < p.length:=List.length_pos_iff.2 hpn
 have hlt:=lt_of_get hI.lp
 have hrt:=lt_of_get hI.rc
 have gl:=hX.hl
 have gr:=hX.hr
 have hul:=hI.up.len
 have hts:ts.length≤acc.length:=by
  have:=congrArg List.length hI.eq
  rw [List.length_map] at this
  have:=List.length_filter_le (fitsP X.s 0) acc
  omega
 obtain ⟨H1,hH1⟩:∃H1,H.set X.l { obj:=.loop 19 X.T [10] as70 bd70 X.d .busy none }=H1:=⟨_,rfl⟩
 have old1:∀i,i≠X.l→H1[i]?=H[i]?:=fun i hi=>by rw [←hH1,List.getElem?_set_ne (fun e=>hi e.symm)]
 have l1:H1[X.l]?=some ⟨.loop 19 X.T [10] as70 bd70 X.d .busy none,true,true,none⟩:=by rw [←hH1,List.getElem?_set_self hlt]
 have len1:H1.length=H.length:=by rw [←hH1]; simp
 have u1:Up X.H0 H1:=by rw [←hH1]; exact hI.up.set gl
 have hlp:=hI.lp
 have lp':H[X.l]?=some ⟨.loop 19 X.T [10] as70 bd70 X.d .ready none,true,true,none⟩:=hI.lp
 have g1:∀{i:Nat} {c:List Value},hcells H i=some c→hcells H1 i=some c:=fun {i c} h=>by
  rw [hc_kept (old1 i (fun e=>by subst e; simp [hcells,hlp,lpB] at h))]; exact h
 have hs1:Sl H1 2 encG (some ⟨b,0,none⟩) p.length p:=Sl.mv hs fun c hc=>g1 hc
 have k69:=c69 (hX.fr.up u1) hX.fi (ek:=2) hs1 hpo (by omega) (st:=0) (Int.le_refl 0) (by omega) H1 (Up.refl _)
 have x1:=g1 (cB_hc hI.xc)
 unfold frontC at x1
 have hF1:Fam H1:=by rw [←hH1]; exact hF.set hI.lp rfl
 have hN1:NF A H1:=by rw [←hH1]; exact hN.setn
 have r0:=bx_hc hI.rc
 have r1:hcells H1 X.r5=some [.slice a ts.length m]:=g1 r0
 have t2:=hX.t2
 have t5:=hX.t5
 have j1:=hX.fr.le.wd.isLoc X.r.wk
 have j2:=hX.fr.le.pr.isLoc X.r.pk
 have j3:=hX.fr.le.ws.isLoc X.r.nk
 have jm:isLoc (.map (some X.mb))=false:=rfl
 have hnl:=hI.nl
 have hnr:=hI.nr
 cases hfit:fitsP X.s 0 p with
 | false =>
  rw [hfit] at k69
  obtain ⟨H2,hH2⟩:∃H2,H1.set X.l { obj:=.loop 19 X.T [10] as70 bd70 X.d .ready none }=H2:=⟨_,rfl⟩
  have key:Yes (R (.yield X.l) [.agg #[.slice none 0 0,.slice (some ⟨b,0,none⟩) p.length 2]] H) (fun o=>∃lo,o=⟨.ok (.bool true),H2,lo⟩∧X.H0.length≤lo∧lo≤X.l):=by
   refine run_yl lp' rfl rfl ?_
   simp (maxDischargeDepth:=8) only [↓SD,SU,SV,SW,simprocAttr,Int.cast_ofNat_Int,small,resV,k_as70,setParams,yA_n lp',hH1,k_bd70,t2,t5,x1,j1,j2,j3,jm,k69,yE_n l1,hH2]
   rw [yes_some]
   exact ⟨_,rfl,by omega,by omega⟩
  obtain ⟨o,hoy,lo,rfl,w1,w2⟩:=key
  have old2:∀i,i≠X.l→H2[i]?=H[i]?:=fun i hi=>by rw [←hH2,List.getElem?_set_ne (fun e=>hi e.symm),old1 i hi]
  have len2:H2.length=H.length:=by rw [←hH2,List.length_set,len1]
  have l2:H2[X.l]?=some (lpB 19 X.T [10] as70 bd70 X.d .ready none):=by rw [←hH2,List.getElem?_set_self (by rw [len1]; exact hlt)]; rfl
  have g2:∀{i:Nat} {c:List Value},hcells H i=some c→hcells H2 i=some c:=fun {i c} h=>by
   rw [hc_kept (old2 i (fun e=>by subst e; simp [hcells,hlp,lpB] at h))]; exact h
  have fl:∀(i:Nat) b f,H[i]?=some b→b.fam=some f→H2[i]?=some b:=fun i b f hi hf=>by
   rw [old2 i (fun e=>by subst e; rw [hlp] at hi; cases hi; cases hf)]; exact hi
  refine ⟨H2,lo,a,m,ts,hoy,w1,w2,by omega,fun i hi=>old2 i ?_,by rw [←hH2]; exact hN1.setn,hI.put hX l2 (by rw [old2 _ hX.n1]; exact hI.rc) (fun i b h _ h1 _=>by rw [old2 i h1]; exact h) ⟨by omega,fun i hi=>by rw [old2 i (by omega),hI.up.old i hi]⟩ (hI.col.same fl) (by rw [List.filter_append,hI.eq,List.filter_cons,if_neg (by rw [hfit]; simp)]; simp) fun y hy=>⟨(hI.ok y hy).1,(hI.ok y hy).2.1,Sl.mv (hI.ok y hy).2.2 fun c hc=>g2 hc⟩⟩
  rcases hi with hi | hi | hi | hi
  ·exact fun e=>hnl (e ▸ hi)
  ·omega
  ·rw [hi]; exact hX.n7
  ·rw [hi]; exact hX.n9
 | true =>
  rw [hfit] at k69
  have fl1:∀(i:Nat) b f,H[i]?=some b→b.fam=some f→H1[i]?=some b:=fun i b f hi hf=>by
   rw [old1 i (fun e=>by subst e; rw [hlp] at hi; cases hi; cases hf)]; exact hi
  have c1:=hI.col.same fl1
  obtain ⟨H4,q1,c4,g4,len4,a4,o4,f4,nf4,hF4⟩:=c1.app (hA.chg (by omega)) hN1 hF1 (by omega) (by decide) (by decide) (by omega) [.slice none 0 0,.slice (some ⟨b,0,none⟩) p.length 2] rfl
  have b4:H4[X.r5]?=some ⟨.cells [.slice a ts.length m],true,true,none⟩:=f4 _ _ (by rw [old1 _ hX.n1]; exact hI.rc) rfl
  obtain ⟨H5,hH5⟩:∃H5,H4.set X.r5 { obj:=.cells [.slice (some ⟨H1.length,0,none⟩) (ts.length+1) 2] }=H5:=⟨_,rfl⟩
  have l4:H4[X.l]?=some ⟨.loop 19 X.T [10] as70 bd70 X.d .busy none,true,true,none⟩:=f4 _ _ l1 rfl
  have l5:H5[X.l]?=some ⟨.loop 19 X.T [10] as70 bd70 X.d .busy none,true,true,none⟩:=by rw [←hH5,List.getElem?_set_ne hX.n1]; exact l4
  obtain ⟨H6,hH6⟩:∃H6,H5.set X.l { obj:=.loop 19 X.T [10] as70 bd70 X.d .ready none }=H6:=⟨_,rfl⟩
  have la:=c1.isLoc ts.length m
  have key:Yes (R (.yield X.l) [.agg #[.slice none 0 0,.slice (some ⟨b,0,none⟩) p.length 2]] H) (fun o=>∃lo,o=⟨.ok (.bool true),H6,lo⟩∧X.H0.length≤lo∧lo≤X.l):=by
   refine run_yl lp' rfl rfl ?_
   simp (maxDischargeDepth:=8) only [↓SD,SU,SV,SW,simprocAttr,Int.cast_ofNat_Int,small,resV,k_as70,setParams,yA_n lp',hH1,k_bd70,t2,t5,x1,r1,j1,j2,j3,jm,la,k69,q1,b4,stH_ok,hH5,yE_n l5,hH6]
   rw [yes_some]
   exact ⟨_,rfl,by omega,by omega⟩
  obtain ⟨o,hoy,lo,rfl,w1,w2⟩:=key
  have len6:H6.length=H.length+1:=by rw [←hH6,List.length_set,←hH5,List.length_set,len4,len1]
  have old6:∀i,i≠X.l→i≠X.r5→H6[i]?=H4[i]?:=fun i h1 h2=>by rw [←hH6,List.getElem?_set_ne (fun e=>h1 e.symm),←hH5,List.getElem?_set_ne (fun e=>h2 e.symm)]
  have l6:H6[X.l]?=some (lpB 19 X.T [10] as70 bd70 X.d .ready none):=by rw [←hH6,List.getElem?_set_self (by rw [←hH5,List.length_set]; omega)]; rfl
  have b6:H6[X.r5]?=some (bx (.slice (some ⟨H1.length,0,none⟩) (ts.length+1) 2)):=by rw [←hH6,List.getElem?_set_ne (fun e=>hX.n1 e.symm),←hH5,List.getElem?_set_self (by omega)]; rfl
  have ho:∀(i:Nat) b,H[i]?=some b→b.fam=none→i≠X.l→i≠X.r5→H6[i]?=some b:=fun i b h hf h1 h2=>by
   rw [old6 i h1 h2]; exact f4 _ _ (by rw [old1 i h1]; exact h) hf
  have hc6:∀{i:Nat} {c:List Value},hcells H i=some c→i≠X.r5→hcells H6 i=some c:=fun {i c} h hi=>by
   have hil:i≠X.l:=fun e=>by subst e; simp [hcells,hlp,lpB] at h
   rw [hc_kept (old6 i hil hi)]; exact g4.hc (g1 h)
  have fam6:∀(i:Nat) bk f,H4[i]?=some bk→bk.fam=some f→H6[i]?=some bk:=fun i bk f hi hf=>by
   rw [old6 i (fun e=>by subst e; rw [l4] at hi; cases hi; cases hf) (fun e=>by subst e; rw [b4] at hi; cases hi; cases hf)]; exact hi
  refine ⟨H6,lo,some ⟨H1.length,0,none⟩,2,ts++[⟨b,p⟩],hoy,w1,w2,by omega,fun i hi=>?_,by rw [←hH6,←hH5]; exact nf4.setn.setn,hI.put hX l6 (by rw [List.length_append,List.length_singleton]; exact b6) ho ⟨by omega,fun i hi=>by rw [old6 i (by omega) (by omega),o4 i hi,old1 i (by omega),hI.up.old i hi]⟩ (by rw [List.length_append,List.length_singleton,cells_app]; exact c4.same fam6) (by rw [List.map_append,List.filter_append,hI.eq,List.filter_cons,if_pos hfit]; rfl) fun y hy=>?_⟩
  ·have hne:i≠X.l∧i≠X.r5:=by
    rcases hi with hi | hi | hi | hi
    ·exact ⟨fun e=>hnl (e ▸ hi),fun e=>hnr (e ▸ hi)⟩
    ·exact ⟨by omega,by omega⟩
    ·rw [hi]; exact ⟨hX.n7,hX.n6⟩
    ·rw [hi]; exact ⟨hX.n9,hX.n8⟩
   rcases hi with hi | hi | hi | hi
   ·rw [old6 i hne.1 hne.2,a4 i hi,old1 i hne.1]
   ·rw [old6 i hne.1 hne.2,o4 i hi,old1 i hne.1]
   ·subst hi; rw [hI.bc]; exact ho _ _ hI.bc rfl hne.1 hne.2
   ·subst hi; rw [hI.oc]; exact ho _ _ hI.oc rfl hne.1 hne.2
  ·rcases List.mem_append.1 hy with hy | hy
   ·obtain ⟨h1,h2,h3⟩:=hI.ok y hy
    exact ⟨h1,h2,Sl.mv h3 fun c hc=>hc6 hc (by
     have:=g_ne h3 h2 r0
     exact this)⟩
   ·rw [List.mem_singleton.1 hy]
    exact ⟨hb,hp0,Sl.mv hs fun c hc=>hc6 hc (g_ne hs hp0 r0)⟩
theorem consF {X:CX}(hX:CXOk X):ConsS X.l X.H0.length (RdC X) (OkS X.s) (fun acc A H=>∃a m ts,CK X acc A H a m ts) (fun _ _ _=>False) where
 own:=fun acc A H H' ⟨a,m,ts,h⟩ c=>⟨a,m,ts,h.own c⟩
 less:=fun acc A B H ⟨a,m,ts,h⟩ hab=>⟨a,m,ts,h.less hab⟩
 step:=fun acc A H p b hok ⟨a,m,ts,h⟩ hA hN hF hs hb=>by
  obtain ⟨H',lo,a',m',ts',q1,q2,q3,q4,q5,q6,q7⟩:=CK.step hX hok.last (by have:=hok.len hX.fi; rw [List.length_append] at this; omega) h hA hN hF hs hb
  exact ⟨true,H',lo,q1,q2,q3,q4,q5,q6,fun _=>⟨a',m',ts',q7⟩,fun h=>by cases h⟩
end Go.Pi.L.Top
set_option maxRecDepth 100000
namespace Go.Pi.L.Top
open Go Go.Pi Go.Pi.L Go.Pi.Top LM

def QFt (H:Heap)(s:Sheet)(o:Out):Prop :=
 ∃a m ts H1 lo,o=⟨.ok (.slice a ts.length m),H1,lo⟩∧Up H H1∧H.length≤lo∧Fam H1∧Sl H1 2 encF a ts.length ts∧(∀y∈ts,y.p∈setsP s∧Sl H1 2 encG (some ⟨y.b,0,none⟩) y.p.length y.p)∧ts.map (·.p)=fitP s
set_option maxHeartbeats 1000000 in
theorem c70 {H:Heap}{r:LeR}{mb:Nat}{s:Sheet}(hr:FrOk H r mb s)(hf:Fine s) :
  ∀H',Up H H'→Fam H'→Yes (R (.func 70) [.agg #[.slice r.wa r.wl r.wk,.slice r.pa r.pl r.pk,.int .i64 s.other.1,.int .i64 s.other.2,.int .i64 s.gap.1,.int .i64 s.gap.2,.int .i64 s.hyphen,.slice r.na r.nl r.nk,.int .i64 s.wide,.int .i64 s.rows,.map (some mb)],.slice none 0 0] H') (QFt H' s):=by
 intro H' hu hF
 replace hr:=hr.up hu
 clear hu
 have l1:=hr.le.wd.isLoc r.wk
 have l2:=hr.le.pr.isLoc r.pk
 have l3:=hr.le.ws.isLoc r.nk
 have lm:isLoc (.map (some mb))=false:=rfl
 obtain ⟨Ha,hHa⟩:∃Ha,H'++[({ obj:=.cells (frontC r s mb) }:Blk)]=Ha:=⟨_,rfl⟩
 obtain ⟨Hb,hHb⟩:∃Hb,Ha++[({ obj:=.cells [.slice none 0 0] }:Blk)]=Hb:=⟨_,rfl⟩
 have la:Ha.length=H'.length+1:=by rw [←hHa]; simp
 have lb:Hb.length=H'.length+2:=by rw [←hHb]; simp [la]
 have ua:Up H' Ha:=by rw [←hHa]; exact (Up.refl _).app
 have ub:Up Ha Hb:=by rw [←hHb]; exact (Up.refl _).app
 have k68:=c68 (mb:=mb) hr.le Hb
 obtain ⟨Hc,hHc⟩:∃Hc,Hb++[({ obj:=.cells (frontC r s mb) }:Blk)]++[({ obj:=.cells [.slice none 0 0] }:Blk)]=Hc:=⟨_,rfl⟩
 rw [hHc] at k68
 have lc:Hc.length=H'.length+4:=by rw [←hHc]; simp [lb]
 have uc:Up Hb Hc:=by rw [←hHc]; exact (Up.refl _).app.app
 have xa:hcells Ha H'.length=some (frontC r s mb):=by rw [←hHa]; exact hc_new _ _ _
 have xa':Ha[H'.length]?=some (cB (frontC r s mb)):=by rw [←hHa]; exact app_get2
 have xc':Hc[Hb.length]?=some (cB (frontC r s mb)):=by rw [←hHc]; simp [cB]
 have xd':Hc[Hb.length+1]?=some (cB [.slice none 0 0]):=by rw [←hHc]; simp [cB]
 have xb:Hb[Ha.length]?=some (bx (.slice none 0 0)):=by rw [←hHb]; exact app_get2
 have xc:hcells Hc Hb.length=some (frontC r s mb):=by rw [←hHc]; simp [hcells]
 have xd:hcells Hc (Hb.length+1)=some [.slice none 0 0]:=by rw [←hHc]; simp [hcells]
 obtain ⟨T,hT⟩:∃T,List.map deloc [.agg #[.slice r.wa r.wl r.wk,.slice r.pa r.pl r.pk,.int .i64 s.other.1,.int .i64 s.other.2,.int .i64 s.gap.1,.int .i64 s.gap.2,.int .i64 s.hyphen,.slice r.na r.nl r.nk,.int .i64 s.wide,.int .i64 s.rows,.map (some mb)],.slice none 0 0,.pointer (some ⟨H'.length,0,none⟩),undef,.slice none 0 0,.pointer (some ⟨Ha.length,0,none⟩),undef,.agg #[.slice r.wa r.wl r.wk,.slice r.pa r.pl r.pk,.int .i64 s.other.1,.int .i64 s.other.2,.int .i64 s.gap.1,.int .i64 s.gap.2,.int .i64 s.hyphen,.slice r.na r.nl r.nk,.int .i64 s.wide,.int .i64 s.rows,.map (some mb)],.slice none 0 0,.func (.func 105) #[] #[.pointer (some ⟨Hb.length,0,none⟩),.pointer (some ⟨Hb.length+1,0,none⟩)]]=T:=⟨_,rfl⟩
 obtain ⟨Hl,hHl⟩:∃Hl,Hc++[({ obj:=.dfr false }:Blk)]++[({ obj:=.loop 19 T [10] as70 bd70 Hc.length .ready none }:Blk)]=Hl:=⟨_,rfl⟩
 have ll:Hl.length=Hc.length+2:=by rw [←hHl]; simp
 have ul:Up Hc Hl:=by rw [←hHl]; exact (Up.refl _).app.app
 have u:=((ua.trans ub).trans uc).trans ul
 have hFl:Fam Hl:=by
  rw [←hHl,←hHc,←hHb,←hHa]
  exact (((((hF.append (fun f h=>by cases h)).append (fun f h=>by cases h)).append (fun f h=>by cases h)).append (fun f h=>by cases h)).append (fun f h=>by cases h)).append (fun f h=>by cases h)
 have bd:Hl[Hc.length]?=some ⟨.dfr false,true,true,none⟩:=by rw [←hHl,List.append_assoc,List.getElem?_append_right (Nat.le_refl _)]; simp
 have bl:Hl[Hc.length+1]?=some (lpB 19 T [10] as70 bd70 Hc.length .ready none):=by rw [←hHl,List.append_assoc,List.getElem?_append_right (by omega),Nat.add_sub_cancel_left]; rfl
 let X:CX:=⟨H',r,s,mb,H'.length,Ha.length,Hb.length,Hb.length+1,Hc.length,Hc.length+1,T⟩
 have hX:CXOk X:=⟨by show get T 2=_; rw [←hT]; rfl,by show get T 5=_; rw [←hT]; rfl,Nat.le_refl _,by show H'.length≤Ha.length; omega,by show H'.length≤Hb.length; omega,by show H'.length≤Hb.length+1; omega,by show H'.length≤Hc.length; omega,by show H'.length≤Hc.length+1; omega,
  by show Ha.length≠Hc.length+1; omega,by show Hc.length≠Hc.length+1; omega,by show Ha.length≠Hc.length; omega,by show H'.length≠Ha.length; omega,by show H'.length≠Hc.length+1; omega,by show Hb.length≠Ha.length; omega,by show Hb.length≠Hc.length+1; omega,by show Hb.length+1≠Ha.length; omega,by show Hb.length+1≠Hc.length+1; omega,hr,hf⟩
 have hI:CK X [] (fun _=>False) Hl none 0 []:={
  xc:=by show Hl[H'.length]?=_; rw [ul.old _ (by omega),uc.old _ (by omega),ub.old _ (by omega)]; exact xa'
  nx:=id
  rc:=by show Hl[Ha.length]?=_; rw [ul.old _ (by omega),uc.old _ (by omega)]; exact xb
  nr:=id
  bc:=by show Hl[Hb.length]?=_; rw [ul.old _ (by omega)]; exact xc'
  nb:=id
  oc:=by show Hl[Hb.length+1]?=_; rw [ul.old _ (by omega)]; exact xd'
  no:=id
  lp:=bl
  nl:=id
  df:=bd
  nd:=id
  up:=u
  lo:=fun i hi=>hi.elim
  col:=Col.nil _ _ _ _
  eq:=rfl
  ok:=fun y hy=>by cases hy }
 obtain ⟨o,ho,H1,lo1,A1,rfl,w1,w2,w3,hF1,w5,w6⟩:=c105 (r:=r) (mb:=mb) (xb:=Hb.length) (ob:=Hb.length+1) (hr.le.grow u.grow) hf (consF hX) (fun L1 L2 h=>⟨L2,h⟩) hFl ⟨_,_,_,hI⟩ (by show Hc.length+1 < Hl.length; omega) hX.hl (fun i hi=>by
  rcases hi with hi | hi | hi
  ·exact Nat.lt_of_lt_of_le hi u.len
  ·have e:i=Hb.length:=hi
   omega
  ·have e:i=Hb.length+1:=hi
   omega) (.inr (.inl rfl)) (ul.grow.hc xc) (.inr (.inr rfl)) (ul.grow.hc xd)
 replace w1:H'.length≤lo1:=w1
 obtain ⟨a,m,ts,hJ⟩:=w6.resolve_right (fun ⟨_,_,_,_,_,h⟩=>h)
 replace ho:R (.func 105) [.func (.yield (Hc.length+1)) #[] #[],.pointer (some ⟨Hb.length,0,none⟩),.pointer (some ⟨Hb.length+1,0,none⟩)] Hl=some ⟨.ok nothing,H1,lo1⟩:=ho
 have hHl':=hHl
 unfold as70 bd70 at hHl'
 have xb1:hcells Hb H'.length=some (frontC r s mb):=ub.grow.hc xa
 have xb2:Hb[Ha.length]?=some ⟨.cells [.slice none 0 0],true,true,none⟩:=xb
 unfold frontC at xb1 hHa
 have df1:H1[Hc.length]?=some ⟨.dfr false,true,true,none⟩:=hJ.df
 have rc1:H1[Ha.length]?=some (bx (.slice a ts.length m)):=hJ.rc
 have lp1:H1[Hc.length+1]?=some ⟨.loop 19 T [10] as70 bd70 Hc.length .ready none,true,true,none⟩:=hJ.lp
 obtain ⟨H2,hH2⟩:∃H2,H1.set (Hc.length+1) { obj:=.loop 19 T [10] as70 bd70 Hc.length .exhausted none }=H2:=⟨_,rfl⟩
 have old2:∀i,i≠Hc.length+1→H2[i]?=H1[i]?:=fun i hi=>by rw [←hH2,List.getElem?_set_ne (fun e=>hi e.symm)]
 have df2:H2[Hc.length]?=some ⟨.dfr false,true,true,none⟩:=by rw [old2 _ (by omega)]; exact df1
 have cell2:hcells H2 Ha.length=some [.slice a ts.length m]:=by rw [hc_kept (old2 _ (by omega))]; exact bx_hc rc1
 obtain ⟨H4,hH4⟩:∃H4,H2.set Hc.length { obj:=.dfr true }=H4:=⟨_,rfl⟩
 have old4:∀i,i≠Hc.length+1→i≠Hc.length→H4[i]?=H1[i]?:=fun i h1 h2=>by rw [←hH4,List.getElem?_set_ne (fun e=>h2 e.symm),old2 i h1]
 have g4:∀{i:Nat} {c:List Value},hcells H1 i=some c→hcells H4 i=some c:=fun {i c} h=>by
  rw [hc_kept (old4 i (fun e=>by subst e; simp [hcells,lp1] at h) (fun e=>by subst e; simp [hcells,df1] at h))]; exact h
 have len4:H4.length=H1.length:=by rw [←hH4,←hH2]; simp
 have hup:=hJ.up
 have u4:Up H' H4:=⟨by rw [len4]; exact hup.len,fun i hi=>by rw [old4 i (by omega) (by omega)]; exact hup.old i hi⟩
 have hF4:Fam H4:=by
  rw [←hH4,←hH2]
  have hFx:=hF1.set (b:=({ obj:=.loop 19 T [10] as70 bd70 Hc.length .exhausted none }:Blk)) lp1 rfl
  exact hFx.set (b:=({ obj:=.dfr true }:Blk)) (i:=Hc.length) (b0:=⟨.dfr false,true,true,none⟩) (by rw [List.getElem?_set_ne (by omega)]; exact df1) rfl
 have sl4:Sl H4 2 encF a ts.length ts:=by
  rcases hJ.col.ok with ⟨h,h0,_⟩ | ⟨bb,f,h1,_,_,_,_,_,h7⟩
  ·have:ts=[]:=List.eq_nil_of_length_eq_zero h0
   subst this
   rw [h]; exact Sl.none
  ·rw [h1]
   exact Sl.of_cells encF_len (g4 (by simp [hcells,h7]))
 have lA:isLoc (.slice a ts.length m)=false:=sl4.isLoc m
 have hmap:ts.map (·.p)=fitP s:=hJ.eq
 have hts:∀y∈ts,y.p∈setsP s∧Sl H4 2 encG (some ⟨y.b,0,none⟩) y.p.length y.p:=fun y hy=>by
  refine ⟨?_,Sl.mv (hJ.ok y hy).2.2 fun c hc=>g4 hc⟩
  have:y.p∈fitP s:=by rw [←hmap]; exact List.mem_map.2 ⟨y,hy,rfl⟩
  exact (List.mem_filter.1 this).1
 have hset:Hb.set Ha.length ({ obj:=.cells [.slice none 0 0] }:Blk)=Hb:=by rw [←hHb]; exact app_set1 _ _ _
 refine run_y (pr 70) P70 (by simp [p70]) rfl ?_
 simp (maxDischargeDepth:=8) only [↓SD,SU,SV,SW,simprocAttr,Int.cast_ofNat_Int,small,resV, B70,R70,N70,b70, l1,l2,l3,lm,hHa,app_get2,stH_ok,app_set1,hHb,xb2,hset,xb1,k68,k_rf,rfA_some,fa_clo2,hT,hHl',ho,rfR_n _ _ _ _ _ _ _ _ _ _ lp1,hH2,cell2,x_blk,lA,R70,N70,unw_coll,df2,hH4]
 rw [yes_some]
 by_cases hfl:flat 4 (.slice a ts.length m)=true
 ·rw [gc_ite (by omega),if_pos hfl]
  obtain ⟨rfl,h0,rfl⟩:=flat_sl hfl
  have:ts=[]:=List.eq_nil_of_length_eq_zero h0
  subst this
  exact ⟨none,0,[],H',H'.length,rfl,Up.refl _,Nat.le_refl _,hF,Sl.none,fun y hy=>(by cases hy),hmap⟩
 ·rw [gc_nf (by simpa using hfl)]
  exact ⟨a,m,ts,H4,_,rfl,u4,by omega,hF4,sl4,hts,hmap⟩
end Go.Pi.L.Top
set_option maxRecDepth 100000
namespace Go.Pi.L.Top
open Go Go.Pi Go.Pi.L Go.Pi.Top LM

def strP (s:Sheet)(x:List LM.End):Nat→Int
 | 0=>-1
 | n+1=>if fitsP s (n:Nat) x=true then ((n:Nat):Int) else strP s x n
theorem c73 {H:Heap}{r:LeR}{mb:Nat}{s:Sheet}(hr:FrOk H r mb s)(hf:Fine s){ea:Option Addr}{el ek:Nat}{x:List LM.End}(hes:Sl H 2 encG ea el x)(hx:EOk s x)(hel:el≤1000) :
  ∀H',Up H H'→R (.func 73) [.agg #[.slice r.wa r.wl r.wk,.slice r.pa r.pl r.pk,.int .i64 s.other.1,.int .i64 s.other.2,.int .i64 s.gap.1,.int .i64 s.gap.2,.int .i64 s.hyphen,.slice r.na r.nl r.nk,.int .i64 s.wide,.int .i64 s.rows,.map (some mb)],.agg #[.slice none 0 0,.slice ea el ek]] H'=some ⟨.ok (.int .i64 (strP s x 11)),H',H'.length⟩:=by
 intro H' hu
 have k69:=fun (n:Nat) (hn:n≤10)=>c69 hr hf (ek:=ek) hes hx hel (st:=(n:Int)) (by omega) (by omega) H' hu
 have lE:=hes.isLoc ek
 have L1:=hr.le.wd.isLoc r.wk
 have L2:=hr.le.pr.isLoc r.pk
 have L3:=hr.le.ws.isLoc r.nk
 have Lm:isLoc (.map (some mb))=false:=rfl
 refine run_k (pr 73) P73 (by simp [p73]) rfl ?_
 simp (maxDischargeDepth:=8) only [↓SD,SU,SV,SW,simprocAttr,Int.cast_ofNat_Int,small,resV, B73,R73,N73,b73, L1,L2,L3,Lm,lE]
 refine loop_wf (G:=(·=_)) (fun (n:Nat) σ=>∃T S,σ=⟨T,S,[],H',H'.length,18,false⟩∧get T 2=.pointer (some ⟨2,0,some 1⟩)∧get T 3=.pointer (some ⟨3,0,some 1⟩)∧get T 5=.int .i64 ((n:Int) - 1)∧sget S 2=(1,.cells [.slice r.wa r.wl r.wk,.slice r.pa r.pl r.pk,.int .i64 s.other.1,.int .i64 s.other.2,.int .i64 s.gap.1,.int .i64 s.gap.2,.int .i64 s.hyphen,.slice r.na r.nl r.nk,.int .i64 s.wide,.int .i64 s.rows,.map (some mb)])∧sget S 3=(1,.cells [.slice none 0 0,.slice ea el ek])∧strP s x 11=strP s x n∧n≤11) (fun n=>n) ?_ 11 _ ⟨_,_,rfl,rfl,rfl,rfl,rfl,rfl,rfl,Nat.le_refl _⟩
 rintro c' n σ ⟨T,S,rfl,t2,t3,t5,s2,s3,hs,hn⟩ ih
 cases n with
 | zero =>
  have z:¬(0:Int)≤((0:Nat):Int) - 1:=by omega
  have hs':strP s x 11=-1:=by rw [hs]; rfl
  have z2:((0:Nat):Int) - 1=-1:=by omega
  rw [z2] at t5
  have z3:¬(0:Int)≤-1:=by omega
  simp (maxDischargeDepth:=8) only [↓SD,SU,SV,SW,simprocAttr,Int.cast_ofNat_Int,small,resV, q73x0,t2,t3,t5,s2,s3,z3,x_blk,R73,N73,hs']
 | succ n =>
  have z2:((n+1:Nat):Int) - 1=(n:Int):=by omega
  rw [z2] at t5
  have z:(0:Int)≤(n:Int):=by omega
  have k:=k69 n (by omega)
  have wm:IntKind.wrap .i64 ((n:Int) - 1)=(n:Int) - 1:=wrap_id _ (by omega) (by omega)
  rw [show strP s x (n+1)=if fitsP s (n:Nat) x=true then ((n:Nat):Int) else strP s x n from rfl] at hs
  cases hfit:fitsP s (n:Nat) x with
  | true =>
   rw [hfit] at k hs
   rw [if_pos rfl] at hs
   simp (maxDischargeDepth:=8) only [↓SD,SU,SV,SW,simprocAttr,Int.cast_ofNat_Int,small,resV, q73x0,t2,t3,t5,s2,s3,z,L1,L2,L3,Lm,lE,k,x_blk,R73,N73,hs]
  | false =>
   rw [hfit] at k hs
   rw [if_neg (by simp)] at hs
   simp (maxDischargeDepth:=8) only [↓SD,SU,SV,SW,simprocAttr,Int.cast_ofNat_Int,small,resV, q73x0,t2,t3,t5,s2,s3,z,L1,L2,L3,Lm,lE,k,wm,x_blk]
   exact ih n _ ⟨_,_,rfl,by simp [get_set,t2],by simp [get_set,t3],by simp [get_set],by simp [sget_sset,s2],by simp [sget_sset,s3],hs,by omega⟩ (Nat.lt_succ_self n)
def betterP (s:Sheet)(x y:List LM.End):Bool:=decide (x.length < y.length)||(decide (x.length=y.length)&&decide (strP s y 11 < strP s x 11))
theorem c72 {H:Heap}{r:LeR}{mb:Nat}{s:Sheet}(hr:FrOk H r mb s)(hf:Fine s){fb:Nat}(hfb:hcells H fb=some (frontC r s mb)){y z:FS}(hy:Sl H 2 encG (some ⟨y.b,0,none⟩) y.p.length y.p)(hz:Sl H 2 encG (some ⟨z.b,0,none⟩) z.p.length z.p)(hyp:y.p∈setsP s)(hzp:z.p∈setsP s) :
  ∀H',Up H H'→R (.func 72) [.agg #[.slice none 0 0,.slice (some ⟨y.b,0,none⟩) y.p.length 2],.agg #[.slice none 0 0,.slice (some ⟨z.b,0,none⟩) z.p.length 2],.pointer (some ⟨fb,0,none⟩)] H'=some ⟨.ok (.bool (betterP s y.p z.p)),H',H'.length⟩:=by
 intro H' hu
 obtain ⟨y1,_,y3⟩:=setsP_mem hf hyp
 obtain ⟨z1,_,z3⟩:=setsP_mem hf hzp
 have k1:=c73 hr hf (ek:=2) hy y1 (by omega) H' hu
 have k2:=c73 hr hf (ek:=2) hz z1 (by omega) H' hu
 have hfb':=hu.grow.hc hfb
 unfold frontC at hfb'
 have L1:=hr.le.wd.isLoc r.wk
 have L2:=hr.le.pr.isLoc r.pk
 have L3:=hr.le.ws.isLoc r.nk
 have Lm:isLoc (.map (some mb))=false:=rfl
 unfold betterP
 refine run_k (pr 72) P72 (by simp [p72]) rfl ?_
 by_cases h1:y.p.length < z.p.length
 ·simp (maxDischargeDepth:=8) only [↓SD,SU,SV,SW,simprocAttr,Int.cast_ofNat_Int,small,resV, B72,R72,N72,b72, h1,lt_nat,decide_true,Bool.true_or]
 ·by_cases h2:y.p.length=z.p.length
  ·have hi:((y.p.length:Nat):Int)=((z.p.length:Nat):Int)↔True:=by simp [h2]
   have hd:decide (y.p.length=z.p.length)=true:=by simpa using h2
   have hd1:decide (y.p.length < z.p.length)=false:=by simpa using h1
   simp (maxDischargeDepth:=8) only [↓SD,SU,SV,SW,simprocAttr,Int.cast_ofNat_Int,small,resV, B72,R72,N72,b72, h1,hi,lt_nat,hfb',L1,L2,L3,Lm,k1,k2,hd,hd1,Bool.false_or,Bool.true_and]
  ·have hi:((y.p.length:Nat):Int)=((z.p.length:Nat):Int)↔False:=by simp; omega
   have hd:decide (y.p.length=z.p.length)=false:=by simpa using h2
   have hd1:decide (y.p.length < z.p.length)=false:=by simpa using h1
   simp (maxDischargeDepth:=8) only [↓SD,SU,SV,SW,simprocAttr,Int.cast_ofNat_Int,small,resV, B72,R72,N72,b72, h1,hi,lt_nat,hd,hd1,Bool.false_or,Bool.false_and]
theorem _root_.Go.Pi.L.Sl.f2 {H:Heap}{a:Option Addr}{l:Nat}{xs:List FS}(h:Sl H 2 encF a l xs){j:Nat}(hj:j < l) :
  ∃b off x,a=some ⟨b,off,none⟩∧xs[j]?=some x∧(∀H',Grow H H'→rdO (hcells H' b) (off+j*2) (some 2)=some (.agg #[.slice none 0 0,.slice (some ⟨x.b,0,none⟩) x.p.length 2])):=by
 obtain ⟨b,off,x,h1,h2,h3⟩:=h.at encF_len (by decide) hj
 exact ⟨b,off,x,h1,h2,h3.all⟩
theorem c71 {H:Heap}{r:LeR}{mb:Nat}{s:Sheet}(hr:FrOk H r mb s)(hf:Fine s){fb:Nat}(hfb:hcells H fb=some (frontC r s mb)){a:Option Addr}{l m:Nat}{ts:List FS}(hs:Sl H 2 encF a l ts)(h0:0 < l)(hl:l < 100000)
  (hok:∀y∈ts,y.p∈setsP s∧Sl H 2 encG (some ⟨y.b,0,none⟩) y.p.length y.p) :
  Yes (R (.func 71) [.slice a l m,.func (.func 72) #[] #[.pointer (some ⟨fb,0,none⟩)]] H) (fun o=>∃y∈ts,o=⟨.ok (.agg #[.slice none 0 0,.slice (some ⟨y.b,0,none⟩) y.p.length 2]),H,H.length⟩):=by
 obtain ⟨b,off,y0,ha,hy0,e0⟩:=hs.f2 h0
 have e0:=e0 H (Grow.refl _)
 have ia0:=ia_of (kk:=m) (k:=2) ha h0
 simp only [Int.cast_ofNat_Int,Nat.zero_mul,Nat.add_zero] at ia0 e0
 obtain ⟨a',m',hsc,sC⟩:=hs.cut m 1 l h0 (Nat.le_refl _)
 simp only [Int.cast_ofNat_Int] at hsc
 have l1:=hs.isLoc m
 have l2:=sC.isLoc m'
 have k72:=fun y z hy hz=>c72 hr hf hfb (y:=y) (z:=z) (hok y hy).2 (hok z hz).2 (hok y hy).1 (hok z hz).1 H (Up.refl _)
 refine run_y (pr 71) P71 (by simp [p71]) rfl ?_
 simp (maxDischargeDepth:=8) only [↓SD,SU,SV,SW,simprocAttr,Int.cast_ofNat_Int,small,resV, B71,R71,N71,b71, l1,l2,ia0,e0,vv_sll',hsc,loc_func]
 refine loop_ind (G:=(Yes · _)) (fun j σ=>∃T S y,σ=⟨T,S,[],H,(H).length,25,false⟩∧get T 1=.func (.func 72) #[] #[.pointer (some ⟨fb,0,none⟩)]∧get T 4=.pointer (some ⟨4,0,some 1⟩)∧get T 5=.pointer (some ⟨5,0,some 1⟩)∧get T 12=.slice a' (l - 1) m'∧get T 13=.int .i64 (l - 1:Nat)∧get T 14=.int .i64 (j:Nat)∧sget S 4=(1,.cells [.slice none 0 0,.slice none 0 0])∧sget S 5=(1,.cells [.slice none 0 0,.slice (some ⟨y.b,0,none⟩) y.p.length 2])∧(y∈ts)) ((l - 1)) ?_ ?_ 0 _ (Nat.zero_le _) ⟨_,_,_,rfl,rfl,rfl,rfl,rfl,rfl,rfl,rfl,rfl,mem_drop hy0⟩
 ·rintro c' j s hj ⟨T,S,y,rfl,t1,t4,t5,t12,t13,t14,s0,s1,hp⟩ ih
  obtain ⟨b2,off2,x,hxa,hx,e1⟩:=sC.f2 hj
  have e1:=e1 H (Grow.refl _)
  have ia:=ia_of (kk:=m') (k:=2) hxa hj
  have hw:=wrap_succ j (by omega)
  have hxm:x∈ts:=List.mem_of_mem_drop (List.mem_of_mem_take (mem_drop hx))
  have k:=k72 x y hxm hp
  cases hb:betterP s x.p y.p with
  | true =>
   rw [hb] at k
   simp (maxDischargeDepth:=8) only [↓SD,SU,SV,SW,simprocAttr,Int.cast_ofNat_Int,small,resV, q71x0,t1,t4,t5,t12,t13,t14,s0,s1, lt_nat,hj,l2,ia,e1,k,hw]
   refine ih _ ⟨_,_,x,rfl,by simp [get_set,t1],by simp [get_set,t4],by simp [get_set,t5],by simp [get_set,t12],by simp [get_set,t13],by simp [get_set],by simp [sget_sset,s0],by simp [sget_sset,s1],hxm⟩
  | false =>
   rw [hb] at k
   simp (maxDischargeDepth:=8) only [↓SD,SU,SV,SW,simprocAttr,Int.cast_ofNat_Int,small,resV, q71x0,t1,t4,t5,t12,t13,t14,s0,s1, lt_nat,hj,l2,ia,e1,k,hw]
   exact ih _ ⟨_,_,(_),rfl,(by simp [get_set,t1] <;> omega),(by simp [get_set,t4] <;> omega),(by simp [get_set,t5] <;> omega),(by simp [get_set,t12] <;> omega),(by simp [get_set,t13] <;> omega),(by simp [get_set,t14] <;> omega),by simp [sget_sset,s0],by simp [sget_sset,s1],hp⟩
 ·rintro c' s ⟨T,S,y,rfl,t1,t4,t5,t12,t13,t14,s0,s1,hp⟩
  simp (maxDischargeDepth:=8) only [↓SD,SU,SV,SW,simprocAttr,Int.cast_ofNat_Int,small,resV, q71x0,t1,t4,t5,t12,t13,t14,s0,s1, lt_nat,Nat.lt_irrefl,l2,R71,N71]
  rw [yes_some,gc_nf (by simp [flat])]
  exact ⟨y,hp,rfl⟩
end Go.Pi.L.Top
