/- Letters: all settings, as they are handed to who takes them. -/
import Derived.Test.YtjgmlngcknehhaaGreatTF
set_option linter.all false
set_option maxRecDepth 100000
namespace Go.Pi.L.Top
open Go Go.Pi Go.Pi.L Go.Pi.Top LM

def QT (s:Sheet)(l n0:Nat)(Rd:Nat→Prop)(I Fin:List (List LM.End)→(Nat→Prop)→Heap→Prop)(H:Heap)(o:Out):Prop :=
 ∃H' lo A',o=⟨.ok nothing,H',lo⟩∧n0≤lo∧H.length≤H'.length∧(∀i,Rd i→H'[i]?=H[i]?)∧Fam H'∧(setsP s=[]∨lo≤l)∧(I (setsP s) A' H'∨(lo≤l∧∃L1 L2,setsP s=L1++L2∧L1≠[]∧Fin L1 A' H'))
set_option maxHeartbeats 1000000 in
theorem c105 {H:Heap}{s:Sheet}{r:LeR}{mb:Nat}{l n0:Nat}{Rd:Nat→Prop}{xb ob:Nat}(hr:LeOk H r s)(hf:Fine s){Ok:List (List LM.End)→Prop}{I Fin:List (List LM.End)→(Nat→Prop)→Heap→Prop}(cons:ConsS l n0 Rd Ok I Fin)(hO:∀L1 L2,setsP s=L1++L2→Ok L1)(hF:Fam H)(hI:I [] (fun _=>False) H)
  (ll:l < H.length) (n0l:n0≤l) (rdl:∀i,Rd i→i < H.length) (xR:Rd xb) (xC:hcells H xb=some (frontC r s mb)) (oR:Rd ob) (oC:hcells H ob=some [.slice none 0 0]) :
  Yes (R (.func 105) [.func (.yield l) #[] #[],.pointer (some ⟨xb,0,none⟩),.pointer (some ⟨ob,0,none⟩)] H) (QT s l n0 Rd I Fin H):=by
 obtain ⟨Ha,hHa⟩:∃Ha,H++[({ obj:=.cells [.func (.yield l) #[] #[]] }:Blk)]=Ha:=⟨_,rfl⟩
 have ua:Up H Ha:=by rw [←hHa]; exact (Up.refl _).app
 have hFa:Fam Ha:=by rw [←hHa]; exact hF.append (fun f h=>by cases h)
 obtain ⟨_,k106,aa,ak,H1,lo1,rfl,u1,hlo1,s1,fresh⟩:=c106 hr hf Ha ua.grow
 have hF1:Fam H1:=famR k106 hFa
 obtain ⟨Hc,hHc⟩:∃Hc,H1++[({ obj:=.cells [.slice aa (ends s).length ak] }:Blk)]=Hc:=⟨_,rfl⟩
 obtain ⟨Hd,hHd⟩:∃Hd,Hc++[({ obj:=.cells [.slice none 0 0] }:Blk)]=Hd:=⟨_,rfl⟩
 obtain ⟨He,hHe⟩:∃He,Hd++[({ obj:=.cells [.func (.func 107) #[] #[.pointer (some ⟨H1.length,0,none⟩),.pointer (some ⟨H.length,0,none⟩),.pointer (some ⟨ob,0,none⟩),.pointer (some ⟨Hc.length,0,none⟩),.pointer (some ⟨xb,0,none⟩),.pointer (some ⟨Hd.length,0,none⟩)]] }:Blk)]=He:=⟨_,rfl⟩
 have la:Ha.length=H.length+1:=by rw [←hHa]; simp
 have l1:=u1.len
 have lc:Hc.length=H1.length+1:=by rw [←hHc]; simp
 have ld:Hd.length=H1.length+2:=by rw [←hHd]; simp [lc]
 have le:He.length=H1.length+3:=by rw [←hHe]; simp [ld]
 have uc:Up H1 Hc:=by rw [←hHc]; exact (Up.refl _).app
 have ud:Up Hc Hd:=by rw [←hHd]; exact (Up.refl _).app
 have ue:Up Hd He:=by rw [←hHe]; exact (Up.refl _).app
 have u1e:Up H1 He:=(uc.trans ud).trans ue
 have uae:=u1.trans u1e
 have u:Up H He:=ua.trans uae
 have hFe:Fam He:=by
  rw [←hHe,←hHd,←hHc]
  exact ((hF1.append (fun f h=>by cases h)).append (fun f h=>by cases h)).append (fun f h=>by cases h)
 have gy:Ha[H.length]?=some (bx (.func (.yield l) #[] #[])):=by rw [←hHa]; exact app_get2
 have gb:Hc[H1.length]?=some (bx (.slice aa (ends s).length ak)):=by rw [←hHc]; exact app_get2
 have gn:Hd[Hc.length]?=some (bx (.slice none 0 0)):=by rw [←hHd]; exact app_get2
 have gf:He[Hd.length]?=some (bx (.func (.func 107) #[] #[.pointer (some ⟨H1.length,0,none⟩),.pointer (some ⟨H.length,0,none⟩),.pointer (some ⟨ob,0,none⟩),.pointer (some ⟨Hc.length,0,none⟩),.pointer (some ⟨xb,0,none⟩),.pointer (some ⟨Hd.length,0,none⟩)])):=by rw [←hHe]; exact app_get2
 let X:Ctx:=⟨s,r,mb,l,n0,Rd,fun i=>H.length≤i∧i < Hc.length,xb,ob,H1.length,aa,ak,Hc.length,H.length,Hd.length⟩
 let A0:Nat→Prop:=fun i=>Hc.length≤i∧i < He.length
 have rdc:∀i,RA X i→i < Hc.length:=fun i hi=>hi.elim (fun h=>by have:=rdl i h; omega) fun h=>h.2
 have e:Env X A0 He []:={
  lt:=fun i h=>h.2
  nf:=fun i b g hi hg ha=>⟨by have:=hFe i b g hi hg; have:=ha.1; omega,(List.getElem?_eq_some_iff.1 hi).1⟩
  nfu:=fun i b g hi hg ha=>by
   have h1:=hFe i b g hi hg
   have h2:=(List.getElem?_eq_some_iff.1 hi).1
   have h3:H.length≤g:=ha.elim (fun h=>by have:=h.1; omega) fun h=>h.1
   by_cases h4:i < Hc.length
   ·exact .inr ⟨by omega,h4⟩
   ·exact .inl ⟨by omega,h2⟩
  fam:=hFe
  lo:=fun i h=>by have:=h.1; show n0≤i; omega
  ll:=by show l < He.length; omega
  n0l:=n0l
  dis:=fun i hi=>⟨fun h=>by have:=rdc i hi; have:=h.1; omega,by have:=rdc i hi; omega⟩
  xR:=xR
  xC:=u.grow.hc xC
  oR:=oR
  oC:=u.grow.hc oC
  bR:=⟨by show H.length≤H1.length; omega,by show H1.length < Hc.length; omega⟩
  bC:=(ud.trans ue).grow.hc (bx_hc gb)
  al:=s1.grow u1e.grow
  alR:=fun h0 b off ha=>.inr ⟨by have:=fresh b off ha; omega,by have:=Sl.inR s1 h0 b off ha; omega⟩
  yR:=⟨Nat.le_refl _,by show H.length < Hc.length; omega⟩
  yC:=uae.grow.hc (bx_hc gy)
  nA:=⟨Nat.le_refl _,by show Hc.length < He.length; omega⟩
  now:=⟨none,0,by show He[Hc.length]?=_; rw [ue.old _ (by omega)]; exact gn,Pfx.nil _ _ _⟩
  fA:=⟨by show Hc.length≤Hd.length; omega,by show Hd.length < He.length; omega⟩
  fC:=gf }
 have hId:I [] (AU X A0) He:=cons.less _ _ _ _ (cons.own _ _ _ _ hI (u.chg (A:=fun _=>False))) fun i h=>.inr (h.elim (fun h=>⟨by have:=h.1; omega,h.2⟩) fun h=>⟨h.1,by have:=h.2; omega⟩)
 obtain ⟨o,ho,go,H',lo,A',rfl,w1,w2,w3,kp,w5,w6⟩:=c107 (X:=X) hf cons (ends s).length (ends s).length 0 [] (Nat.le_refl _) (Nat.zero_add _) (Nat.zero_le _) (fun h=>absurd h (by omega)) [] A0 He (fun L1 L2 h=>hO L1 L2 h) hId e
 replace w2:setsP s=[]∨lo≤l:=w2
 replace w1:n0≤lo:=w1
 have hF':Fam H':=famR ho hFe
 have kl:=kp.len
 have krd:∀i,Rd i→H'[i]?=H[i]?:=fun i hi=>by rw [kp.rd i (.inl hi),u.old i (rdl i hi)]
 have fin:∀lo',n0≤lo'→lo'≤lo→QT s l n0 Rd I Fin H (gcR H (.ok nothing) H' lo'):=fun lo' h1 h2=>by
  by_cases hg:H.length≤lo'
  ·rw [gc_ite hg,if_pos (by rfl)]
   have hnil:setsP s=[]:=w2.resolve_right (by omega)
   exact ⟨H,H.length,_,rfl,by omega,Nat.le_refl _,fun _ _=>rfl,hF,.inl hnil,.inl (by rw [hnil]; exact hI)⟩
  ·rw [gc_no hg]
   refine ⟨H',lo',AU X A',rfl,h1,by omega,krd,hF',w2.imp id (fun h=>by omega),?_⟩
   cases go with
   | true=>exact .inl (w5 rfl).1
   | false =>
    obtain ⟨y1,L1,L2,y2,y3,y4⟩:=w6 rfl
    have y1':lo≤l:=y1
    exact .inr ⟨by omega,L1,L2,y2,y3,y4⟩
 have hl:Ha.length≤lo1:=hlo1
 have l1':=hr.wd.isLoc r.wk
 have l2':=hr.pr.isLoc r.pk
 have l3':=hr.ws.isLoc r.nk
 have l4':=s1.isLoc ak
 have xa:hcells Ha xb=some (frontC r s mb):=ua.grow.hc xC
 have oa:hcells Ha ob=some [.slice none 0 0]:=ua.grow.hc oC
 unfold frontC at xa
 have fc:=bx_hc gf
 replace ho:R (.func 107) [.int .i64 0,.pointer (some ⟨H1.length,0,none⟩),.pointer (some ⟨H.length,0,none⟩),.pointer (some ⟨ob,0,none⟩),.pointer (some ⟨Hc.length,0,none⟩),.pointer (some ⟨xb,0,none⟩),.pointer (some ⟨Hd.length,0,none⟩)] He=some ⟨.ok (.bool go),H',lo⟩:=ho
 refine run_y (pr 105) P105 (by simp [p105]) rfl ?_
 simp (maxDischargeDepth:=8) only [↓SD,SU,SV,SW,simprocAttr,Int.cast_ofNat_Int,small,resV, B105,R105,N105,b105, hHa,xa,oa,l1',l2',l3',l4',k106,app_get2,stH_ok,app_set1,hHc,hHd,hHe,fc,ho,R105,N105]
 rw [yes_some]
 exact fin _ (by omega) (by omega)
theorem c68 {H:Heap}{r:LeR}{mb:Nat}{s:Sheet}(hr:LeOk H r s)(H':Heap):R (.func 68) [.agg #[.slice r.wa r.wl r.wk,.slice r.pa r.pl r.pk,.int .i64 s.other.1,.int .i64 s.other.2,.int .i64 s.gap.1,.int .i64 s.gap.2,.int .i64 s.hyphen,.slice r.na r.nl r.nk,.int .i64 s.wide,.int .i64 s.rows,.map (some mb)],.slice none 0 0] H'=some ⟨.ok (.func (.func 105) #[] #[.pointer (some ⟨H'.length,0,none⟩),.pointer (some ⟨H'.length+1,0,none⟩)]),H'++[({ obj:=.cells (frontC r s mb) }:Blk)]++[({ obj:=.cells [.slice none 0 0] }:Blk)],H'.length⟩:=by
 have l1':=hr.wd.isLoc r.wk
 have l2':=hr.pr.isLoc r.pk
 have l3':=hr.ws.isLoc r.nk
 have lm:isLoc (.map (some mb))=false:=rfl
 refine run_k (pr 68) P68 (by simp [p68]) rfl ?_
 unfold frontC
 simp (maxDischargeDepth:=8) only [↓SD,SU,SV,SW,simprocAttr,Int.cast_ofNat_Int,small,resV, B68,R68,N68,b68, l1',l2',l3',lm,List.length_append,List.length_singleton,R68,N68]
 rw [gc_ite (Nat.le_refl _),if_neg (by simp [flat])]
end Go.Pi.L.Top
set_option maxRecDepth 100000
namespace Go.Pi.L
open Go Go.Pi
section
variable {PP:FuncId→Option PFunc} {prims:Prims} {α:Type} {call:CallT} {F:Ex→St→Option α} {k:List It}
theorem rfA_some (g args ps a b T S D H lo n rnd):rfA call F (some (.func g,args)) ps a b k ⟨T,S,D,H,lo,n,rnd⟩=rfR call F (call (.func g) args (H++[{ obj:=.dfr false }]++[{ obj:=.loop n (T.map deloc) ps a b H.length .ready none }])) k ⟨T,S,D,H,lo,n,rnd⟩:=rfl
theorem rfR_n (v H' lo' T S D H lo n rnd){n' T' ps a b d}(h:H'[H.length+1]?=some ⟨.loop n' T' ps a b d .ready none,true,true,none⟩):rfR call F (some ⟨.ok v,H',lo'⟩) k ⟨T,S,D,H,lo,n,rnd⟩ =
  mach call F k none ⟨T,S,.coll H.length :: D,H'.set (H.length+1) { obj:=.loop n' T' ps a b d .exhausted none },min lo lo',n,rnd⟩:=by
 simp only [rfR,h,rfS]; rfl
theorem rfR_x (v H' lo' T S D H lo n rnd){n' T' ps a b d i}(h:H'[H.length+1]?=some ⟨.loop n' T' ps a b d .done (some (.exit i)),true,true,none⟩):rfR call F (some ⟨.ok v,H',lo'⟩) k ⟨T,S,D,H,lo,n,rnd⟩ =
  mach call F k (some i) ⟨T,S,.coll H.length :: D,H'.set (H.length+1) { obj:=.loop n' T' ps a b d .exhausted (some (.exit i)) },min lo lo',n,rnd⟩:=by
 simp only [rfR,h,rfS]; rfl
theorem unw_coll (r ds pv T S D H lo n rnd)(h:H[r]?=some ⟨.dfr false,true,true,none⟩):unwL PP prims call (.coll r :: ds) pv ⟨T,S,D,H,lo,n,rnd⟩=unwL PP prims call ds pv ⟨T,S,D,H.set r { obj:=.dfr true },min lo r,n,rnd⟩:=by
 simp only [unwL,h,setB]
theorem fa_clo2 (f v y z):fnArgs (.func (.func f) #[] #[y,z]) [v]=some (.func f,[v,y,z]):=rfl
end
def lpB (n:Nat)(T:List Value)(ps:List Tmp)(a b:PCode)(d:Nat)(st:LoopState)(pd:Option Ex):Blk:=⟨.loop n T ps a b d st pd,true,true,none⟩
theorem lt_of_get {H:Heap}{i:Nat}{b:Blk}(h:H[i]?=some b):i < H.length:=(List.getElem?_eq_some_iff.1 h).1
theorem not_and {A:Nat→Prop}{H H':Heap}{i:Nat}(h:¬A i)(hl:i < H.length):¬And' A H H' i:=fun q=>q.elim h fun q=>by omega
theorem Sl.mv {β:Type}{H H':Heap}{k:Nat}{enc:β→List Value}{b off l:Nat}{xs:List β}(h:Sl H k enc (some ⟨b,off,Option.none⟩) l xs)(hb:∀c,hcells H b=some c→hcells H' b=some c):Sl H' k enc (some ⟨b,off,Option.none⟩) l xs :=
 ⟨h.len,h.loc,fun j x hx=>by obtain ⟨b',off',c,h1,h2,h3⟩:=h.rd j x hx; cases h1; exact ⟨b,off,c,rfl,hb c h2,h3⟩⟩
theorem NF.setn {A:Nat→Prop}{H:Heap}{i:Nat}{o:PObj}(h:NF A H):NF A (H.set i { obj:=o }):=fun j b g hj hg ha=>by
 by_cases e:i=j
 ·subst e
  have hl:i < H.length:=by have:=(List.getElem?_eq_some_iff.1 hj).1; simpa using this
  rw [List.getElem?_set_self hl] at hj; cases hj; cases hg
 ·rw [List.getElem?_set_ne e] at hj; exact h j b g hj hg ha
end Go.Pi.L
namespace Go.Pi.L.Top
open Go Go.Pi Go.Pi.L Go.Pi.Top LM

def as29:PCode:=.reg [
    ⟨(some 6),.lalloc 85 (.agg #[(.slice none 0 0),(.slice none 0 0)]),none⟩,
    ⟨none,.st 2 (.tmp 6) (.tmp 10),none⟩]
def bd29:PCode:=.blk 1
    (.seq (.reg [
     ⟨(some 11),.ld (some 11) (.tmp 2),none⟩,
     ⟨(some 12),.ld (some 2) (.tmp 6),none⟩,
     ⟨(some 13),.call (.func 69) [.tmp 11,.tmp 12,.const (.int .i64 0)],none⟩])
    (.cond (.tmp 13)
     (.seq (.reg [
      ⟨none,.st 1 (.tmp 5) (.const (.bool true)),none⟩])
     (.exit 0))
     .skip))
theorem k_as29 {α:Type}{call:CallT}{F:Ex→St→Option α}{k:List It}{s:St}:mach call F (.code as29 :: k) none s=mach call F (.code (.reg [
    ⟨(some 6),.lalloc 85 (.agg #[(.slice none 0 0),(.slice none 0 0)]),none⟩,
    ⟨none,.st 2 (.tmp 6) (.tmp 10),none⟩]) :: k) none s:=rfl
theorem k_bd29 {α:Type}{call:CallT}{F:Ex→St→Option α}{k:List It}{s:St}:mach call F (.code bd29 :: k) none s=mach call F (.code (.blk 1
    (.seq (.reg [
     ⟨(some 11),.ld (some 11) (.tmp 2),none⟩,
     ⟨(some 12),.ld (some 2) (.tmp 6),none⟩,
     ⟨(some 13),.call (.func 69) [.tmp 11,.tmp 12,.const (.int .i64 0)],none⟩])
    (.cond (.tmp 13)
     (.seq (.reg [
      ⟨none,.st 1 (.tmp 5) (.const (.bool true)),none⟩])
     (.exit 0))
     .skip))) :: k) none s:=rfl
structure CX where
 H0:Heap
 r:LeR
 s:Sheet
 mb:Nat
 x2:Nat
 r5:Nat
 xb:Nat
 ob:Nat
 d:Nat
 l:Nat
 T:List Value
structure CXOk (X:CX):Prop where
 t2:get X.T 2=.pointer (some ⟨X.x2,0,none⟩)
 t5:get X.T 5=.pointer (some ⟨X.r5,0,none⟩)
 hx:X.H0.length≤X.x2
 hr:X.H0.length≤X.r5
 hb:X.H0.length≤X.xb
 ho:X.H0.length≤X.ob
 hd:X.H0.length≤X.d
 hl:X.H0.length≤X.l
 n1:X.r5≠X.l
 n2:X.d≠X.l
 n3:X.r5≠X.d
 n4:X.x2≠X.r5
 n5:X.x2≠X.l
 n6:X.xb≠X.r5
 n7:X.xb≠X.l
 n8:X.ob≠X.r5
 n9:X.ob≠X.l
 fr:FrOk X.H0 X.r X.mb X.s
 fi:Fine X.s
structure CJ (X:CX)(as_ bd:PCode)(n:Nat)(v:Value)(st:LoopState)(pd:Option Ex)(A:Nat→Prop)(H:Heap):Prop where
 xc:hcells H X.x2=some (frontC X.r X.s X.mb)
 nx:¬A X.x2
 rc:H[X.r5]?=some (bx v)
 nr:¬A X.r5
 bc:hcells H X.xb=some (frontC X.r X.s X.mb)
 nb:¬A X.xb
 oc:hcells H X.ob=some [.slice none 0 0]
 no:¬A X.ob
 lp:H[X.l]?=some (lpB n X.T [10] as_ bd X.d st pd)
 nl:¬A X.l
 df:H[X.d]?=some ⟨.dfr false,true,true,none⟩
 nd:¬A X.d
 up:Up X.H0 H
 lo:∀i,A i→X.H0.length≤i
theorem CJ.own {X:CX}{as_ bd:PCode}{n:Nat}{v:Value}{st:LoopState}{pd:Option Ex}{A:Nat→Prop}{H H':Heap}(h:CJ X as_ bd n v st pd A H)(c:Chg A H H'):CJ X as_ bd n v st pd (And' A H H') H':=by
 have hc:∀{i:Nat} {cs:List Value},hcells H i=some cs→¬A i→hcells H' i=some cs:=fun {i cs} h hi=>by rw [hc_kept (c.old i (hc_lt h) hi)]; exact h
 exact {
  xc:=hc h.xc h.nx
  nx:=not_and h.nx (hc_lt h.xc)
  rc:=by rw [c.old _ (lt_of_get h.rc) h.nr]; exact h.rc
  nr:=not_and h.nr (lt_of_get h.rc)
  bc:=hc h.bc h.nb
  nb:=not_and h.nb (hc_lt h.bc)
  oc:=hc h.oc h.no
  no:=not_and h.no (hc_lt h.oc)
  lp:=by rw [c.old _ (lt_of_get h.lp) h.nl]; exact h.lp
  nl:=not_and h.nl (lt_of_get h.lp)
  df:=by rw [c.old _ (lt_of_get h.df) h.nd]; exact h.df
  nd:=not_and h.nd (lt_of_get h.df)
  up:=c.up' h.up fun i hi ha=>by have:=h.lo i ha; omega
  lo:=fun i hi=>hi.elim (h.lo i) fun q=>by have:=h.up.len; omega }
theorem CJ.less {X:CX}{as_ bd:PCode}{n:Nat}{v:Value}{st:LoopState}{pd:Option Ex}{A B:Nat→Prop}{H:Heap}(h:CJ X as_ bd n v st pd A H)(hab:∀i,B i→A i):CJ X as_ bd n v st pd B H :=
 { xc:=h.xc,nx:=fun q=>h.nx (hab _ q),rc:=h.rc,nr:=fun q=>h.nr (hab _ q),bc:=h.bc,nb:=fun q=>h.nb (hab _ q),oc:=h.oc,no:=fun q=>h.no (hab _ q),lp:=h.lp,nl:=fun q=>h.nl (hab _ q),df:=h.df,nd:=fun q=>h.nd (hab _ q),up:=h.up,lo:=fun i q=>h.lo i (hab i q) }
def RdC (X:CX):Nat→Prop:=fun i=>i < X.H0.length∨i=X.xb∨i=X.ob
theorem CJ.put {X:CX}(hX:CXOk X){as_ bd:PCode}{n:Nat}{v:Value}{st:LoopState}{pd:Option Ex}{A:Nat→Prop}{H H':Heap}(h:CJ X as_ bd n v st pd A H){v':Value}{st':LoopState}{pd':Option Ex}
  (hl:H'[X.l]?=some (lpB n X.T [10] as_ bd X.d st' pd')) (hr:H'[X.r5]?=some (bx v')) (ho:∀i,i≠X.l→i≠X.r5→i < H.length→H'[i]?=H[i]?) (hlen:H.length≤H'.length) :
  CJ X as_ bd n v' st' pd' A H':=by
 have h0:=hX.hl
 have h1:=hX.hr
 have hc:∀{i:Nat} {cs:List Value},hcells H i=some cs→i≠X.l→i≠X.r5→hcells H' i=some cs:=fun {i cs} h h1 h2=>by rw [hc_kept (ho i h1 h2 (hc_lt h))]; exact h
 exact {
  xc:=hc h.xc hX.n5 hX.n4
  nx:=h.nx
  rc:=hr
  nr:=h.nr
  bc:=hc h.bc hX.n7 hX.n6
  nb:=h.nb
  oc:=hc h.oc hX.n9 hX.n8
  no:=h.no
  lp:=hl
  nl:=h.nl
  df:=by rw [ho _ hX.n2 (fun e=>hX.n3 e.symm) (lt_of_get h.df)]; exact h.df
  nd:=h.nd
  up:=⟨Nat.le_trans h.up.len hlen,fun i hi=>by have:=h.up.len; rw [ho i (by omega) (by omega) (by omega),h.up.old i hi]⟩
  lo:=h.lo }
theorem CJ.step {X:CX}(hX:CXOk X){A:Nat→Prop}{H:Heap}{p:List LM.End}{b:Nat}(hp:p∈setsP X.s)
  (hI:CJ X as29 bd29 15 (.bool false) .ready none A H) (hA:Lt A H) (hN:NF A H) (hF:Fam H) (hs:Sl H 2 encG (some ⟨b,0,none⟩) p.length p) :
  ∃go H' lo,R (.yield X.l) [.agg #[.slice none 0 0,.slice (some ⟨b,0,none⟩) p.length 2]] H=some ⟨.ok (.bool go),H',lo⟩∧X.H0.length≤lo∧lo≤X.l∧H.length≤H'.length∧(∀i,A i∨RdC X i→H'[i]?=H[i]?)∧NF A H' ∧
   (go=true→fitsP X.s 0 p=false∧CJ X as29 bd29 15 (.bool false) .ready none A H')∧(go=false→fitsP X.s 0 p=true∧CJ X as29 bd29 15 (.bool true) .done (some (.exit 0)) A H'):=by
 obtain ⟨hpo,hpn,hp3⟩:=setsP_mem hX.fi hp
 have hlt:=lt_of_get hI.lp
 have hrt:=lt_of_get hI.rc
 have gl:=hX.hl
 have gr:=hX.hr
 obtain ⟨H1,hH1⟩:∃H1,H.set X.l { obj:=.loop 15 X.T [10] as29 bd29 X.d .busy none }=H1:=⟨_,rfl⟩
 have old1:∀i,i≠X.l→H1[i]?=H[i]?:=fun i hi=>by rw [←hH1,List.getElem?_set_ne (fun e=>hi e.symm)]
 have l1:H1[X.l]?=some ⟨.loop 15 X.T [10] as29 bd29 X.d .busy none,true,true,none⟩:=by rw [←hH1,List.getElem?_set_self hlt]
 have len1:H1.length=H.length:=by rw [←hH1]; simp
 have u1:Up X.H0 H1:=by rw [←hH1]; exact hI.up.set gl
 have hlp:=hI.lp
 have lp':H[X.l]?=some ⟨.loop 15 X.T [10] as29 bd29 X.d .ready none,true,true,none⟩:=hI.lp
 have g1:∀{i:Nat} {c:List Value},hcells H i=some c→hcells H1 i=some c:=fun {i c} h=>by
  rw [hc_kept (old1 i (fun e=>by subst e; simp [hcells,hlp,lpB] at h))]; exact h
 have hs1:Sl H1 2 encG (some ⟨b,0,none⟩) p.length p:=Sl.mv hs fun c hc=>g1 hc
 have k69:=c69 (hX.fr.up u1) hX.fi (ek:=2) hs1 hpo (by omega) (st:=0) (Int.le_refl 0) (by omega) H1 (Up.refl _)
 have x1:=g1 hI.xc
 unfold frontC at x1
 have r1:H1[X.r5]?=some ⟨.cells [.bool false],true,true,none⟩:=by rw [old1 _ hX.n1]; exact hI.rc
 have t2:=hX.t2
 have t5:=hX.t5
 have j1:=hX.fr.le.wd.isLoc X.r.wk
 have j2:=hX.fr.le.pr.isLoc X.r.pk
 have j3:=hX.fr.le.ws.isLoc X.r.nk
 have jm:isLoc (.map (some X.mb))=false:=rfl
 have hnl:=hI.nl
 have hnr:=hI.nr
 cases hfit:fitsP X.s 0 p with
 | false =>
  rw [hfit] at k69
  obtain ⟨H2,hH2⟩:∃H2,H1.set X.l { obj:=.loop 15 X.T [10] as29 bd29 X.d .ready none }=H2:=⟨_,rfl⟩
  have key:Yes (R (.yield X.l) [.agg #[.slice none 0 0,.slice (some ⟨b,0,none⟩) p.length 2]] H) (fun o=>∃lo,o=⟨.ok (.bool true),H2,lo⟩∧X.H0.length≤lo∧lo≤X.l):=by
   refine run_yl lp' rfl rfl ?_
   simp (maxDischargeDepth:=8) only [↓SD,SU,SV,SW,simprocAttr,Int.cast_ofNat_Int,small,resV,k_as29,setParams,yA_n lp',hH1,k_bd29,t2,t5,x1,j1,j2,j3,jm,k69,yE_n l1,hH2]
   rw [yes_some]
   exact ⟨_,rfl,by omega,by omega⟩
  obtain ⟨o,hoy,lo,rfl,w1,w2⟩:=key
  have old2:∀i,i≠X.l→H2[i]?=H[i]?:=fun i hi=>by rw [←hH2,List.getElem?_set_ne (fun e=>hi e.symm),old1 i hi]
  refine ⟨true,H2,lo,hoy,w1,w2,by rw [←hH2,List.length_set,len1]; exact Nat.le_refl _,fun i hi=>old2 i ?_,by rw [←hH2,←hH1]; exact hN.setn.setn,fun _=>⟨rfl,hI.put hX (by rw [←hH2,List.getElem?_set_self (by rw [len1]; exact hlt)]; rfl) (by rw [old2 _ hX.n1]; exact hI.rc) (fun i h1 _ _=>old2 i h1) (by rw [←hH2,List.length_set,len1]; exact Nat.le_refl _)⟩,fun h=>by cases h⟩
  rcases hi with hi | hi | hi | hi
  ·exact fun e=>hnl (e ▸ hi)
  ·omega
  ·rw [hi]; exact hX.n7
  ·rw [hi]; exact hX.n9
 | true =>
  rw [hfit] at k69
  obtain ⟨H2,hH2⟩:∃H2,H1.set X.r5 { obj:=.cells [.bool true] }=H2:=⟨_,rfl⟩
  have l2:H2[X.l]?=some ⟨.loop 15 X.T [10] as29 bd29 X.d .busy none,true,true,none⟩:=by rw [←hH2,List.getElem?_set_ne hX.n1]; exact l1
  obtain ⟨H3,hH3⟩:∃H3,H2.set X.l { obj:=.loop 15 X.T [10] as29 bd29 X.d .done (some (.exit 0)) }=H3:=⟨_,rfl⟩
  have hb01:(0:Nat)≠1:=by decide
  have key:Yes (R (.yield X.l) [.agg #[.slice none 0 0,.slice (some ⟨b,0,none⟩) p.length 2]] H) (fun o=>∃lo,o=⟨.ok (.bool false),H3,lo⟩∧X.H0.length≤lo∧lo≤X.l):=by
   refine run_yl lp' rfl rfl ?_
   simp (maxDischargeDepth:=8) only [↓SD,SU,SV,SW,simprocAttr,Int.cast_ofNat_Int,small,resV,k_as29,setParams,yA_n lp',hH1,k_bd29,t2,t5,x1,j1,j2,j3,jm,k69,r1,stH_ok,hH2,hb01,x_blk',ne_eq,not_false_eq_true,x_nil,yE_x l2,hH3]
   rw [yes_some]
   exact ⟨_,rfl,by omega,by omega⟩
  obtain ⟨o,hoy,lo,rfl,w1,w2⟩:=key
  have len2:H2.length=H.length:=by rw [←hH2,List.length_set,len1]
  have old2:∀i,i≠X.l→i≠X.r5→H3[i]?=H[i]?:=fun i hi h2=>by rw [←hH3,List.getElem?_set_ne (fun e=>hi e.symm),←hH2,List.getElem?_set_ne (fun e=>h2 e.symm),old1 i hi]
  refine ⟨false,H3,lo,hoy,w1,w2,by rw [←hH3,List.length_set,len2]; exact Nat.le_refl _,fun i hi=>?_,by rw [←hH3,←hH2,←hH1]; exact hN.setn.setn.setn,fun h=>(by cases h),fun _=>⟨rfl,hI.put hX (by rw [←hH3,List.getElem?_set_self (by rw [len2]; exact hlt)]; rfl) (by rw [←hH3,List.getElem?_set_ne (fun e=>hX.n1 e.symm),←hH2,List.getElem?_set_self (by rw [len1]; exact hrt)]; rfl) (fun i h1 h2 _=>old2 i h1 h2) (by rw [←hH3,List.length_set,len2]; exact Nat.le_refl _)⟩⟩
  rcases hi with hi | hi | hi | hi
  ·exact old2 i (fun e=>hnl (e ▸ hi)) (fun e=>hnr (e ▸ hi))
  ·exact old2 i (by omega) (by omega)
  ·rw [hi]; exact old2 _ hX.n7 hX.n6
  ·rw [hi]; exact old2 _ hX.n9 hX.n8
end Go.Pi.L.Top
set_option maxRecDepth 100000
namespace Go.Pi.L.Top
open Go Go.Pi Go.Pi.L Go.Pi.Top LM

def OkS (s:Sheet)(L:List (List LM.End)):Prop:=∃L2,setsP s=L++L2
theorem OkS.last {s:Sheet}{acc:List (List LM.End)}{p:List LM.End}(h:OkS s (acc++[p])):p∈setsP s:=by
 obtain ⟨L2,h⟩:=h
 rw [h]; simp
theorem OkS.len {s:Sheet}(hf:Fine s){L:List (List LM.End)}(h:OkS s L):L.length≤15625:=by
 obtain ⟨L2,h⟩:=h
 have:=setsP_len hf
 rw [h,List.length_append] at this; omega
theorem consC {X:CX}(hX:CXOk X):ConsS X.l X.H0.length (RdC X) (OkS X.s) (fun acc A H=>CJ X as29 bd29 15 (.bool false) .ready none A H∧∀x∈acc,fitsP X.s 0 x=false) (fun acc A H=>CJ X as29 bd29 15 (.bool true) .done (some (.exit 0)) A H∧∃x∈acc,fitsP X.s 0 x=true) where
 own:=fun acc A H H' ⟨h,h2⟩ c=>⟨h.own c,h2⟩
 less:=fun acc A B H ⟨h,h2⟩ hab=>⟨h.less hab,h2⟩
 step:=fun acc A H p b hok ⟨h,h2⟩ hA hN hF hs hb=>by
  obtain ⟨go,H',lo,q1,q2,q3,q4,q5,q6,q7,q8⟩:=CJ.step hX hok.last h hA hN hF hs
  refine ⟨go,H',lo,q1,q2,q3,q4,q5,q6,fun hg=>⟨(q7 hg).2,fun x hx=>?_⟩,fun hg=>⟨(q8 hg).2,p,by simp,(q8 hg).1⟩⟩
  rcases List.mem_append.1 hx with hx | hx
  ·exact h2 x hx
  ·rw [List.mem_singleton.1 hx]; exact (q7 hg).1
set_option maxHeartbeats 1000000 in
theorem c29 {H:Heap}{r:LeR}{mb:Nat}{s:Sheet}(hr:FrOk H r mb s)(hf:Fine s) :
  ∀H',Up H H'→Fam H'→∃H1 lo,R (.func 29) [.agg #[.slice r.wa r.wl r.wk,.slice r.pa r.pl r.pk,.int .i64 s.other.1,.int .i64 s.other.2,.int .i64 s.gap.1,.int .i64 s.gap.2,.int .i64 s.hyphen,.slice r.na r.nl r.nk,.int .i64 s.wide,.int .i64 s.rows,.map (some mb)],.slice none 0 0] H'=some ⟨.ok (.bool (LM.canP s)),H1,lo⟩∧Up H' H1∧H'.length≤lo:=by
 intro H' hu hF
 replace hr:=hr.up hu
 clear hu
 have l1:=hr.le.wd.isLoc r.wk
 have l2:=hr.le.pr.isLoc r.pk
 have l3:=hr.le.ws.isLoc r.nk
 have lm:isLoc (.map (some mb))=false:=rfl
 obtain ⟨Ha,hHa⟩:∃Ha,H'++[({ obj:=.cells (frontC r s mb) }:Blk)]=Ha:=⟨_,rfl⟩
 obtain ⟨Hb,hHb⟩:∃Hb,Ha++[({ obj:=.cells [.bool false] }:Blk)]=Hb:=⟨_,rfl⟩
 have la:Ha.length=H'.length+1:=by rw [←hHa]; simp
 have lb:Hb.length=H'.length+2:=by rw [←hHb]; simp [la]
 have ua:Up H' Ha:=by rw [←hHa]; exact (Up.refl _).app
 have ub:Up Ha Hb:=by rw [←hHb]; exact (Up.refl _).app
 have k68:=c68 (mb:=mb) hr.le Hb
 obtain ⟨Hc,hHc⟩:∃Hc,Hb++[({ obj:=.cells (frontC r s mb) }:Blk)]++[({ obj:=.cells [.slice none 0 0] }:Blk)]=Hc:=⟨_,rfl⟩
 rw [hHc] at k68
 have lc:Hc.length=H'.length+4:=by rw [←hHc]; simp [lb]
 have uc:Up Hb Hc:=by rw [←hHc]; exact (Up.refl _).app.app
 have xa:hcells Ha H'.length=some (frontC r s mb):=by rw [←hHa]; exact hc_new _ _ _
 have xb:Hb[Ha.length]?=some (bx (.bool false)):=by rw [←hHb]; exact app_get2
 have xc:hcells Hc Hb.length=some (frontC r s mb):=by rw [←hHc]; simp [hcells]
 have xd:hcells Hc (Hb.length+1)=some [.slice none 0 0]:=by rw [←hHc]; simp [hcells]
 obtain ⟨T,hT⟩:∃T,List.map deloc [.agg #[.slice r.wa r.wl r.wk,.slice r.pa r.pl r.pk,.int .i64 s.other.1,.int .i64 s.other.2,.int .i64 s.gap.1,.int .i64 s.gap.2,.int .i64 s.hyphen,.slice r.na r.nl r.nk,.int .i64 s.wide,.int .i64 s.rows,.map (some mb)],.slice none 0 0,.pointer (some ⟨H'.length,0,none⟩),undef,.bool false,.pointer (some ⟨Ha.length,0,none⟩),undef,.agg #[.slice r.wa r.wl r.wk,.slice r.pa r.pl r.pk,.int .i64 s.other.1,.int .i64 s.other.2,.int .i64 s.gap.1,.int .i64 s.gap.2,.int .i64 s.hyphen,.slice r.na r.nl r.nk,.int .i64 s.wide,.int .i64 s.rows,.map (some mb)],.slice none 0 0,.func (.func 105) #[] #[.pointer (some ⟨Hb.length,0,none⟩),.pointer (some ⟨Hb.length+1,0,none⟩)]]=T:=⟨_,rfl⟩
 obtain ⟨Hl,hHl⟩:∃Hl,Hc++[({ obj:=.dfr false }:Blk)]++[({ obj:=.loop 15 T [10] as29 bd29 Hc.length .ready none }:Blk)]=Hl:=⟨_,rfl⟩
 have ll:Hl.length=Hc.length+2:=by rw [←hHl]; simp
 have ul:Up Hc Hl:=by rw [←hHl]; exact (Up.refl _).app.app
 have u:=((ua.trans ub).trans uc).trans ul
 have hFl:Fam Hl:=by
  rw [←hHl,←hHc,←hHb,←hHa]
  exact (((((hF.append (fun f h=>by cases h)).append (fun f h=>by cases h)).append (fun f h=>by cases h)).append (fun f h=>by cases h)).append (fun f h=>by cases h)).append (fun f h=>by cases h)
 have bd:Hl[Hc.length]?=some ⟨.dfr false,true,true,none⟩:=by rw [←hHl,List.append_assoc,List.getElem?_append_right (Nat.le_refl _)]; simp
 have bl:Hl[Hc.length+1]?=some (lpB 15 T [10] as29 bd29 Hc.length .ready none):=by rw [←hHl,List.append_assoc,List.getElem?_append_right (by omega),Nat.add_sub_cancel_left]; rfl
 let X:CX:=⟨H',r,s,mb,H'.length,Ha.length,Hb.length,Hb.length+1,Hc.length,Hc.length+1,T⟩
 have hX:CXOk X:=⟨by show get T 2=_; rw [←hT]; rfl,by show get T 5=_; rw [←hT]; rfl,Nat.le_refl _,by show H'.length≤Ha.length; omega,by show H'.length≤Hb.length; omega,by show H'.length≤Hb.length+1; omega,by show H'.length≤Hc.length; omega,by show H'.length≤Hc.length+1; omega,
  by show Ha.length≠Hc.length+1; omega,by show Hc.length≠Hc.length+1; omega,by show Ha.length≠Hc.length; omega,by show H'.length≠Ha.length; omega,by show H'.length≠Hc.length+1; omega,by show Hb.length≠Ha.length; omega,by show Hb.length≠Hc.length+1; omega,by show Hb.length+1≠Ha.length; omega,by show Hb.length+1≠Hc.length+1; omega,hr,hf⟩
 have hI:CJ X as29 bd29 15 (.bool false) .ready none (fun _=>False) Hl:={
  xc:=((ub.trans uc).trans ul).grow.hc xa
  nx:=id
  rc:=by show Hl[Ha.length]?=_; rw [ul.old _ (by omega),uc.old _ (by omega)]; exact xb
  nr:=id
  bc:=ul.grow.hc xc
  nb:=id
  oc:=ul.grow.hc xd
  no:=id
  lp:=bl
  nl:=id
  df:=bd
  nd:=id
  up:=u
  lo:=fun i hi=>hi.elim }
 obtain ⟨o,ho,H1,lo1,A1,rfl,w1,w2,w3,hF1,w5,w6⟩:=c105 (r:=r) (mb:=mb) (xb:=Hb.length) (ob:=Hb.length+1) (hr.le.grow u.grow) hf (consC hX) (fun L1 L2 h=>⟨L2,h⟩) hFl ⟨hI,fun x hx=>by cases hx⟩ (by show Hc.length+1 < Hl.length; omega) hX.hl (fun i hi=>by
  rcases hi with hi | hi | hi
  ·exact Nat.lt_of_lt_of_le hi u.len
  ·have e:i=Hb.length:=hi
   omega
  ·have e:i=Hb.length+1:=hi
   omega) (.inr (.inl rfl)) (ul.grow.hc xc) (.inr (.inr rfl)) (ul.grow.hc xd)
 replace w1:H'.length≤lo1:=w1
 replace ho:R (.func 105) [.func (.yield (Hc.length+1)) #[] #[],.pointer (some ⟨Hb.length,0,none⟩),.pointer (some ⟨Hb.length+1,0,none⟩)] Hl=some ⟨.ok nothing,H1,lo1⟩:=ho
 have fin:∀st pd,CJ X as29 bd29 15 (.bool (LM.canP s)) st pd A1 H1→∀H2,(∀i,i≠Hc.length+1→i≠Hc.length→H2[i]?=H1[i]?)→H1.length≤H2.length→Up H' H2:=fun st pd hJ H2 old hlen=>⟨Nat.le_trans hJ.up.len hlen,fun i hi=>by
  have hh:i < H'.length:=hi
  rw [old i (by omega) (by omega)]; exact hJ.up.old i hi⟩
 have hHl':=hHl
 unfold as29 bd29 at hHl'
 have xb1:hcells Hb H'.length=some (frontC r s mb):=ub.grow.hc xa
 have xb2:Hb[Ha.length]?=some ⟨.cells [.bool false],true,true,none⟩:=xb
 have hset:Hb.set Ha.length ({ obj:=.cells [.bool false] }:Blk)=Hb:=by rw [←hHb]; exact app_set1 _ _ _
 unfold frontC at xb1 hHa
 have hcan:(∃st pd,CJ X as29 bd29 15 (.bool (LM.canP s)) st pd A1 H1∧((st=.ready∧pd=none)∨(st=.done∧pd=some (.exit 0)))):=by
  rcases w6 with ⟨h1,h2⟩ | ⟨_,L1,L2,h1,h2,h3,x,hx,hfx⟩
  ·have:LM.canP s=false:=by
    unfold LM.canP
    rw [List.any_eq_false]
    intro x hx
    rw [h2 x hx]; simp
   exact ⟨.ready,none,by rw [this]; exact h1,.inl ⟨rfl,rfl⟩⟩
  ·have:LM.canP s=true:=by
    unfold LM.canP
    rw [List.any_eq_true]
    exact ⟨x,by rw [h1]; exact List.mem_append_left _ hx,hfx⟩
   exact ⟨.done,some (.exit 0),by rw [this]; exact h3,.inr ⟨rfl,rfl⟩⟩
 obtain ⟨st,pd,hJ,hst⟩:=hcan
 have df1:H1[Hc.length]?=some ⟨.dfr false,true,true,none⟩:=hJ.df
 have rc1:H1[Ha.length]?=some (bx (.bool (LM.canP s))):=hJ.rc
 rcases hst with ⟨rfl,rfl⟩ | ⟨rfl,rfl⟩
 ·have lp1:H1[Hc.length+1]?=some ⟨.loop 15 T [10] as29 bd29 Hc.length .ready none,true,true,none⟩:=hJ.lp
  obtain ⟨H2,hH2⟩:∃H2,H1.set (Hc.length+1) { obj:=.loop 15 T [10] as29 bd29 Hc.length .exhausted none }=H2:=⟨_,rfl⟩
  have old2:∀i,i≠Hc.length+1→H2[i]?=H1[i]?:=fun i hi=>by rw [←hH2,List.getElem?_set_ne (fun e=>hi e.symm)]
  have df2:H2[Hc.length]?=some ⟨.dfr false,true,true,none⟩:=by rw [old2 _ (by omega)]; exact df1
  have cell2:hcells H2 Ha.length=some [.bool (LM.canP s)]:=by rw [hc_kept (old2 _ (by omega))]; exact bx_hc rc1
  obtain ⟨H4,hH4⟩:∃H4,H2.set Hc.length { obj:=.dfr true }=H4:=⟨_,rfl⟩
  have u4:Up H' H4:=fin _ _ hJ H4 (fun i h1 h2=>by rw [←hH4,List.getElem?_set_ne (fun e=>h2 e.symm),old2 i h1]) (by rw [←hH4,←hH2]; simp)
  have key:Yes (R (.func 29) [.agg #[.slice r.wa r.wl r.wk,.slice r.pa r.pl r.pk,.int .i64 s.other.1,.int .i64 s.other.2,.int .i64 s.gap.1,.int .i64 s.gap.2,.int .i64 s.hyphen,.slice r.na r.nl r.nk,.int .i64 s.wide,.int .i64 s.rows,.map (some mb)],.slice none 0 0] H') (fun o=>∃H1 lo,o=⟨.ok (.bool (LM.canP s)),H1,lo⟩∧Up H' H1∧H'.length≤lo):=by
   refine run_y (pr 29) P29 (by simp [p29]) rfl ?_
   simp (maxDischargeDepth:=8) only [↓SD,SU,SV,SW,simprocAttr,Int.cast_ofNat_Int,small,resV, B29,R29,N29,b29, l1,l2,l3,lm,hHa,app_get2,stH_ok,app_set1,hHb,xb2,hset,xb1,k68,k_rf,rfA_some,fa_clo2,hT,hHl',ho,rfR_n _ _ _ _ _ _ _ _ _ _ lp1,hH2,cell2,x_blk,R29,N29,unw_coll,df2,hH4]
   rw [yes_some]
   rw [gc_ite (by omega),if_pos (by rfl)]
   exact ⟨_,_,rfl,Up.refl _,Nat.le_refl _⟩
  obtain ⟨_,k,H5,lo5,rfl,u5,hlo5⟩:=key
  exact ⟨H5,lo5,k,u5,hlo5⟩
 ·have lp1:H1[Hc.length+1]?=some ⟨.loop 15 T [10] as29 bd29 Hc.length .done (some (.exit 0)),true,true,none⟩:=hJ.lp
  obtain ⟨H2,hH2⟩:∃H2,H1.set (Hc.length+1) { obj:=.loop 15 T [10] as29 bd29 Hc.length .exhausted (some (.exit 0)) }=H2:=⟨_,rfl⟩
  have old2:∀i,i≠Hc.length+1→H2[i]?=H1[i]?:=fun i hi=>by rw [←hH2,List.getElem?_set_ne (fun e=>hi e.symm)]
  have df2:H2[Hc.length]?=some ⟨.dfr false,true,true,none⟩:=by rw [old2 _ (by omega)]; exact df1
  have cell2:hcells H2 Ha.length=some [.bool (LM.canP s)]:=by rw [hc_kept (old2 _ (by omega))]; exact bx_hc rc1
  obtain ⟨H4,hH4⟩:∃H4,H2.set Hc.length { obj:=.dfr true }=H4:=⟨_,rfl⟩
  have u4:Up H' H4:=fin _ _ hJ H4 (fun i h1 h2=>by rw [←hH4,List.getElem?_set_ne (fun e=>h2 e.symm),old2 i h1]) (by rw [←hH4,←hH2]; simp)
  have key:Yes (R (.func 29) [.agg #[.slice r.wa r.wl r.wk,.slice r.pa r.pl r.pk,.int .i64 s.other.1,.int .i64 s.other.2,.int .i64 s.gap.1,.int .i64 s.gap.2,.int .i64 s.hyphen,.slice r.na r.nl r.nk,.int .i64 s.wide,.int .i64 s.rows,.map (some mb)],.slice none 0 0] H') (fun o=>∃H1 lo,o=⟨.ok (.bool (LM.canP s)),H1,lo⟩∧Up H' H1∧H'.length≤lo):=by
   refine run_y (pr 29) P29 (by simp [p29]) rfl ?_
   simp (maxDischargeDepth:=8) only [↓SD,SU,SV,SW,simprocAttr,Int.cast_ofNat_Int,small,resV, B29,R29,N29,b29, l1,l2,l3,lm,hHa,app_get2,stH_ok,app_set1,hHb,xb2,hset,xb1,k68,k_rf,rfA_some,fa_clo2,hT,hHl',ho,rfR_x _ _ _ _ _ _ _ _ _ _ lp1,hH2,cell2,x_blk,R29,N29,unw_coll,df2,hH4]
   rw [yes_some]
   rw [gc_ite (by omega),if_pos (by rfl)]
   exact ⟨_,_,rfl,Up.refl _,Nat.le_refl _⟩
  obtain ⟨_,k,H5,lo5,rfl,u5,hlo5⟩:=key
  exact ⟨H5,lo5,k,u5,hlo5⟩
end Go.Pi.L.Top
