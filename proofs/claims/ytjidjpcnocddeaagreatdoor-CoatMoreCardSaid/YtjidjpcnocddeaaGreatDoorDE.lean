/- Coats: all plans, as they are handed to who takes them. -/
import Derived.Test.YtjidjpcnocddeaaGreatDoorDD
set_option linter.all false
set_option maxRecDepth 100000
namespace Go.Pi.L.Coa
open Go Go.Pi Go.Pi.L Go.Pi.Coa CM

def QT (s:Sheet)(l n0:Nat)(Rd:Nat→Prop)(I Fin:List (List Int)→(Nat→Prop)→Heap→Prop)(H:Heap)(o:Out):Prop :=
 ∃H' lo A',o=⟨.ok nothing,H',lo⟩∧n0≤lo∧H.length≤H'.length∧(∀i,Rd i→H'[i]?=H[i]?)∧(allP s=[]∨lo≤l)∧(I (allP s) A' H'∨(lo≤l∧∃L1 L2,allP s=L1++L2∧L1≠[]∧Fin L1 A' H'))
theorem c135 {H:Heap}{s:Sheet}{r:ShR}{p:SpR}{l n0:Nat}{Rd:Nat→Prop}{xb:Nat}{Ok:List (List Int)→Prop}{I Fin:List (List Int)→(Nat→Prop)→Heap→Prop}(hS:ShFine s)(cons:Cons PP primsL l n0 Rd Ok I Fin)(hO:∀L1 L2,allP s=L1++L2→Ok L1)(hF:Fam H)(hI:I [] (fun _=>False) H)
  (ll:l < H.length) (n0l:n0≤l) (rdl:∀i,Rd i→i < H.length) (xR:Rd xb) (xC:hcells H xb=some (shopC r p)) (sp:SpOk H r p s) (spR:InR Rd r.da r.dl∧InR Rd r.wa r.wl∧InR Rd r.ca r.cl∧InR Rd p.la p.ll∧InR Rd p.ha p.hl) :
  Yes (R (.func 135) [.func (.yield l) #[] #[],.pointer (some ⟨xb,0,none⟩)] H) (QT s l n0 Rd I Fin H):=by
 refine run_y (pr 135) P135 (by simp [p135]) rfl ?_
 obtain ⟨Ha,hHa⟩:∃Ha,H++[({ obj:=.cells [.func (.yield l) #[] #[]] }:Blk)]++[({ obj:=.map mSh [] }:Blk)]=Ha:=⟨_,rfl⟩
 obtain ⟨Hb,hHb⟩:∃Hb,Ha++[({ obj:=.cells [.map (some (H.length+1))] }:Blk)]=Hb:=⟨_,rfl⟩
 obtain ⟨Hc,hHc⟩:∃Hc,Hb++[({ obj:=.cells [.slice none 0 0] }:Blk)]=Hc:=⟨_,rfl⟩
 obtain ⟨Hd,hHd⟩:∃Hd,Hc++[({ obj:=.cells [.func (.func 136) #[] #[.pointer (some ⟨Hb.length,0,none⟩),.pointer (some ⟨xb,0,none⟩),.pointer (some ⟨H.length,0,none⟩),.pointer (some ⟨Ha.length,0,none⟩),.pointer (some ⟨Hc.length,0,none⟩)]] }:Blk)]=Hd:=⟨_,rfl⟩
 have la:Ha.length=H.length+2:=by rw [←hHa]; simp
 have lb:Hb.length=H.length+3:=by rw [←hHb]; simp [la]
 have lc:Hc.length=H.length+4:=by rw [←hHc]; simp [lb]
 have ld:Hd.length=H.length+5:=by rw [←hHd]; simp [lc]
 have eq:Hd=H++[bx (.func (.yield l) #[] #[]),{ obj:=.map mSh [] },bx (.map (some (H.length+1))),bx (.slice none 0 0),bx (.func (.func 136) #[] #[.pointer (some ⟨Hb.length,0,none⟩),.pointer (some ⟨xb,0,none⟩),.pointer (some ⟨H.length,0,none⟩),.pointer (some ⟨Ha.length,0,none⟩),.pointer (some ⟨Hc.length,0,none⟩)])]:=by
  rw [←hHd,←hHc,←hHb,←hHa]; simp [bx]
 have u:Up H Hd:=by rw [eq]; exact (Up.refl H).app
 have at_:∀k,Hd[H.length+k]?=([bx (.func (.yield l) #[] #[]),{ obj:=.map mSh [] },bx (.map (some (H.length+1))),bx (.slice none 0 0),bx (.func (.func 136) #[] #[.pointer (some ⟨Hb.length,0,none⟩),.pointer (some ⟨xb,0,none⟩),.pointer (some ⟨H.length,0,none⟩),.pointer (some ⟨Ha.length,0,none⟩),.pointer (some ⟨Hc.length,0,none⟩)])]:List Blk)[k]?:=fun k=>by
  rw [eq,List.getElem?_append_right (by omega),Nat.add_sub_cancel_left]
 have hFd:Fam Hd:=by
  rw [←hHd,←hHc,←hHb,←hHa]
  exact ((((hF.append (fun f h=>by cases h)).append (fun f h=>by cases h)).append (fun f h=>by cases h)).append (fun f h=>by cases h)).append (fun f h=>by cases h)
 let X:Ctx:=⟨s,r,p,l,n0,Rd,xb,Hb.length,H.length,Ha.length,Hc.length,H.length+1⟩
 have e:Env X (And' (fun _=>False) H Hd) Hd []:=by
  refine ⟨fun i hi=>hi.elim (fun h=>h.elim) (fun h=>h.2),fun i b g hi hg ha=>?_,hFd,fun i hi=>hi.elim (fun h=>h.elim) (fun h=>Nat.le_trans (Nat.le_trans n0l (Nat.le_of_lt ll)) h.1),Nat.lt_of_lt_of_le ll u.len,n0l,fun i hi=>⟨fun h=>h.elim (fun h=>h.elim) (fun h=>by have:=rdl i hi; omega),Nat.lt_of_lt_of_le (rdl i hi) u.len⟩,xR,u.grow.hc xC,sp.kept spR (fun i hi=>u.old i (rdl i hi)),spR,
   .inr ⟨by show H.length≤Hb.length; omega,by show Hb.length < Hd.length; omega⟩,⟨none,0,by show Hd[Hb.length]?=_; rw [lb]; exact at_ 3,Pfx.nil _ _ _⟩,.inr ⟨by show H.length≤H.length+1; omega,by show H.length+1 < Hd.length; omega⟩,⟨[],at_ 1,fun e he=>by cases he⟩,
   .inr ⟨Nat.le_refl _,by show H.length < Hd.length; omega⟩,at_ 0,.inr ⟨by show H.length≤Ha.length; omega,by show Ha.length < Hd.length; omega⟩,by show Hd[Ha.length]?=_; rw [la]; exact at_ 2,.inr ⟨by show H.length≤Hc.length; omega,by show Hc.length < Hd.length; omega⟩,by show Hd[Hc.length]?=_; rw [lc]; exact at_ 4⟩
  by_cases h:i < H.length
  ·rw [u.old i h] at hi
   have:=hF i b g hi hg
   rcases ha with ha | ha
   ·exact ha.elim
   ·omega
  ·exact .inr ⟨by omega,(List.getElem?_eq_some_iff.1 hi).1⟩
 have hId:=cons.own _ _ _ _ hI (u.chg (A:=fun _=>False))
 have els:(restN s s.coats.length []).map ([]++·)=allP s:=by rw [restN_all]; simp
 obtain ⟨o,ho,go,H',lo,A',rfl,w1,w2,w3,kp,w5,w6⟩:=c136 (X:=X) hS cons s.coats.length [] (by simp; rfl) (by simp) [] _ Hd (fun L1 L2 h=>hO L1 L2 (els.symm.trans h)) hId e
 rw [show X.s=s from rfl,els] at w2 w5 w6
 have fc:hcells Hd Hc.length=some [.func (.func 136) #[] #[.pointer (some ⟨Hb.length,0,none⟩),.pointer (some ⟨xb,0,none⟩),.pointer (some ⟨H.length,0,none⟩),.pointer (some ⟨Ha.length,0,none⟩),.pointer (some ⟨Hc.length,0,none⟩)]]:=by
  have h4:=at_ 4
  rw [←lc] at h4
  exact bx_hc h4
 replace ho:R (.func 136) [.pointer (some ⟨Hb.length,0,none⟩),.pointer (some ⟨xb,0,none⟩),.pointer (some ⟨H.length,0,none⟩),.pointer (some ⟨Ha.length,0,none⟩),.pointer (some ⟨Hc.length,0,none⟩)] Hd=some ⟨.ok (.bool go),H',lo⟩:=ho
 have kl:=kp.len
 have krd:∀i,Rd i→H'[i]?=H[i]?:=fun i hi=>by rw [kp.rd i hi,u.old i (rdl i hi)]
 have fin:∀lo',lo'=min (min (min H.length Ha.length) Hc.length) lo∨lo'=min (min H.length Hc.length) lo∨lo'=min H.length lo∨lo'=lo→QT s l n0 Rd I Fin H (gcR H (.ok nothing) H' lo'):=fun lo' hlo'=>by
  have w1':n0≤lo:=w1
  have w2':allP s=[]∨lo≤l:=w2
  by_cases hg:H.length≤lo'
  ·rw [gc_ite hg,if_pos (by rfl)]
   have hnil:allP s=[]:=w2'.resolve_right (by omega)
   exact ⟨H,H.length,_,rfl,by omega,Nat.le_refl _,fun _ _=>rfl,.inl hnil,.inl (by rw [hnil]; exact hI)⟩
  ·rw [gc_no hg]
   refine ⟨H',lo',A',rfl,by omega,by omega,krd,w2'.imp id (fun h=>by omega),?_⟩
   cases go with
   | true=>exact .inl (by have:=(w5 rfl).1; simpa using this)
   | false =>
    obtain ⟨y1,L1,L2,y2,y3,y4⟩:=w6 rfl
    have y1':lo≤l:=y1
    exact .inr ⟨by omega,L1,L2,y2,y3,by simpa using y4⟩
 simp (maxDischargeDepth:=8) only [↓SD,SU,SV,SW,simprocAttr,Int.cast_ofNat_Int,small,resV, B135,R135,N135,b135, hHa,hHb,hHc,hHd,app_get,stH_ok,app_set,g_mkm,fc,ho,R135,N135]
 rw [yes_some]
 exact fin _ (.inl rfl)
theorem c105 {H:Heap}{r:ShR}{p:SpR}{s:Sheet}(hp:SpOk H r p s)(H':Heap):R (.func 105) [.agg #[.slice r.da r.dl r.dk,.slice r.wa r.wl r.wk,.slice r.ca r.cl r.ck,.slice p.la p.ll p.lk,.slice p.ha p.hl p.hk]] H'=some ⟨.ok (.func (.func 135) #[] #[.pointer (some ⟨H'.length,0,none⟩)]),H'++[({ obj:=.cells (shopC r p) }:Blk)],H'.length⟩:=by
 refine run_k (pr 105) P105 (by simp [p105]) rfl ?_
 unfold shopC
 obtain ⟨da,dl,dk,wa,wl,wk,ca,cl,ck⟩:=r
 obtain ⟨la,ll,lk,ha,hl,hk⟩:=p
 have hD:Spans H da dl s.dry:=hp.sh.d
 have hW:Ints H wa wl s.work:=hp.sh.w
 have hC:Spans H ca cl s.coats:=hp.sh.c
 have hLo:Ints H la ll (ps (lows s) s.dry.length):=hp.lo
 have hHi:Ints H ha hl (ps (highs s) s.dry.length):=hp.hi
 have l1:=hD.isLoc dk
 have l2:=hW.isLoc wk
 have l3:=hC.isLoc ck
 have l4:=hLo.isLoc lk
 have l5:=hHi.isLoc hk
 simp (maxDischargeDepth:=8) only [↓SD,SU,SV,SW,simprocAttr,Int.cast_ofNat_Int,small,resV, B105,R105,N105,b105, l1,l2,l3,l4,l5,R105,N105]
 rw [gc_ite (Nat.le_refl _),if_neg (by simp [flat])]
end Go.Pi.L.Coa
set_option maxRecDepth 100000
namespace Go.Pi.L
open Go Go.Pi
structure LL (H:Heap)(a:Option Addr)(l:Nat)(xss:List (List Int)):Prop where
 len:xss.length=l
 loc:a=none∨∃b off,a=some ⟨b,off,none⟩
 rd:∀(j:Nat) xs,xss[j]?=some xs→∃b off c a' m,a=some ⟨b,off,none⟩∧hcells H b=some c∧c[off+j]?=some (.slice a' xs.length m)∧Sl H 1 encN a' xs.length xs
theorem LL.grow {H H':Heap}{a:Option Addr}{l:Nat}{xss:List (List Int)}(h:LL H a l xss)(g:Grow H H'):LL H' a l xss :=
 ⟨h.len,h.loc,fun j xs hj=>by obtain ⟨b,off,c,a',m,h1,h2,h3,h4⟩:=h.rd j xs hj; exact ⟨b,off,c,a',m,h1,g.hc h2,h3,h4.grow g⟩⟩
theorem LL.isLoc {H:Heap}{a:Option Addr}{l:Nat}{xss:List (List Int)}(h:LL H a l xss)(x y:Nat):Go.Pi.isLoc (.slice a x y)=false:=by
 rcases h.loc with rfl | ⟨b,off,rfl⟩ <;> rfl
theorem LL.none {H:Heap}:LL H none 0 []:=⟨rfl,.inl rfl,fun j x h=>by simp at h⟩
theorem LL.get {H:Heap}{a:Option Addr}{l:Nat}{xss:List (List Int)}(h:LL H a l xss){j:Nat}(hj:j < l) :
  ∃b off xs a' m,a=some ⟨b,off,Option.none⟩∧xss[j]?=some xs∧(∀H',Grow H H'→rdO (hcells H' b) (off+j*1) Option.none=some (.slice a' xs.length m))∧Sl H 1 encN a' xs.length xs:=by
 have hj':j < xss.length:=by rw [h.len]; exact hj
 obtain ⟨b,off,c,a',m,h1,h2,h3,h4⟩:=h.rd j xss[j] (List.getElem?_eq_getElem hj')
 refine ⟨b,off,xss[j],a',m,h1,List.getElem?_eq_getElem hj',fun H' g=>?_,h4⟩
 rw [g.hc h2,rdO_some,rd_one,Nat.mul_one]; exact h3
structure Col (n0:Nat)(A:Nat→Prop)(H:Heap)(k:Nat)(a:Option Addr)(l m:Nat)(c:List Value):Prop where
 len:c.length=l*k
 ok:(a=none∧l=0∧m=0)∨∃b f,a=some ⟨b,0,none⟩∧m=k∧n0≤f∧f≤b∧¬A b∧¬A f∧H[b]?=some ⟨.cells c,true,true,some f⟩
theorem Col.nil (n0:Nat)(A:Nat→Prop)(H:Heap)(k:Nat):Col n0 A H k none 0 0 []:=⟨by simp,.inl ⟨rfl,rfl,rfl⟩⟩
theorem Col.isLoc {n0:Nat}{A:Nat→Prop}{H:Heap}{k:Nat}{a:Option Addr}{l m:Nat}{c:List Value}(h:Col n0 A H k a l m c)(x y:Nat):Go.Pi.isLoc (.slice a x y)=false:=by
 rcases h.ok with ⟨rfl,_⟩ | ⟨b,f,rfl,_⟩ <;> rfl
theorem Col.own {n0:Nat}{A:Nat→Prop}{H H':Heap}{k:Nat}{a:Option Addr}{l m:Nat}{c:List Value}(h:Col n0 A H k a l m c)(g:Chg A H H'):Col n0 (And' A H H') H' k a l m c :=
 ⟨h.len,by
  rcases h.ok with h | ⟨b,f,h1,h2,h3,h4,h5,h6,h7⟩
  ·exact .inl h
  ·have hb:=(List.getElem?_eq_some_iff.1 h7).1
   exact .inr ⟨b,f,h1,h2,h3,h4,fun q=>q.elim h5 fun q=>by omega,fun q=>q.elim h6 fun q=>by omega,by rw [g.old b hb h5]; exact h7⟩⟩
theorem Col.less {n0:Nat}{A B:Nat→Prop}{H:Heap}{k:Nat}{a:Option Addr}{l m:Nat}{c:List Value}(h:Col n0 A H k a l m c)(hab:∀i,B i→A i):Col n0 B H k a l m c :=
 ⟨h.len,by
  rcases h.ok with h | ⟨b,f,h1,h2,h3,h4,h5,h6,h7⟩
  ·exact .inl h
  ·exact .inr ⟨b,f,h1,h2,h3,h4,fun q=>h5 (hab b q),fun q=>h6 (hab f q),h7⟩⟩
theorem Col.same {n0:Nat}{A:Nat→Prop}{H H':Heap}{k:Nat}{a:Option Addr}{l m:Nat}{c:List Value}(h:Col n0 A H k a l m c)(hs:∀(i:Nat) b f,H[i]?=some b→b.fam=some f→H'[i]?=some b):Col n0 A H' k a l m c :=
 ⟨h.len,by
  rcases h.ok with h | ⟨b,f,h1,h2,h3,h4,h5,h6,h7⟩
  ·exact .inl h
  ·exact .inr ⟨b,f,h1,h2,h3,h4,h5,h6,hs b _ f h7 rfl⟩⟩
theorem Col.app {n0:Nat}{A:Nat→Prop}{H:Heap}{k:Nat}{a:Option Addr}{l m:Nat}{c:List Value}(h:Col n0 A H k a l m c)(hA:Lt A H)(hN:NF A H)(hF:Fam H)(hn:n0≤H.length)(hk:0 < k)(hk2:k < 1000)(hl:l < 1000)(new:List Value)(hnew:new.length=k) :
  ∃H1,(∀{α:Type} (call:CallT) (F:Ex→St→Option α) d kk T S D lo n rnd,ap1 call F (some new) (.slice a l m) k d kk ⟨T,S,D,H,lo,n,rnd⟩=nxt call F (some (.slice (some ⟨H.length,0,none⟩) (l+1) k)) d kk ⟨T,S,D,H1,lo,n,rnd⟩) ∧
   Col n0 A H1 k (some ⟨H.length,0,none⟩) (l+1) k (c++new)∧Grow H H1∧H1.length=H.length+1∧(∀i,A i→H1[i]?=H[i]?)∧(∀i,i < n0→H1[i]?=H[i]?)∧(∀(i:Nat) b,H[i]?=some b→b.fam=none→H1[i]?=some b)∧NF A H1∧Fam H1:=by
 have he:new.isEmpty=false:=by cases new with | nil=>simp at hnew; omega | cons=>rfl
 have hlen:=h.len
 have hm:new.length % k=0:=by rw [hnew]; exact Nat.mod_self _
 have hd:new.length / k=1:=by rw [hnew]; exact Nat.div_self hk
 have hlk:l*k≤1000*1000:=Nat.mul_le_mul (by omega) (by omega)
 rcases h.ok with ⟨rfl,rfl,rfl⟩ | ⟨b,f,rfl,rfl,h3,h4,h5,h6,h7⟩
 ·have hc:c=[]:=by simpa using hlen
  subst hc
  refine ⟨H++[⟨.cells new,true,true,some H.length⟩],fun call F d kk T S D lo n rnd=>?_,⟨by simp [hnew],.inr ⟨_,H.length,rfl,rfl,hn,Nat.le_refl _,fun q=>by have:=hA _ q; omega,fun q=>by have:=hA _ q; omega,by simp⟩⟩,(Up.refl H).app.grow,by simp,fun i hi=>List.getElem?_append_left (hA i hi),fun i hi=>List.getElem?_append_left (by omega),fun i b hb _=>by rw [List.getElem?_append_left (List.getElem?_eq_some_iff.1 hb).1]; exact hb,fun i b g hi hg ha=>?_,Fam.app1 hF (Nat.le_refl _)⟩
  ·rw [apA_nil _ _ _ _ _ _ _ _ _ _ hm (by omega) he,hd]
  ·by_cases hlt:i < H.length
   ·rw [List.getElem?_append_left hlt] at hi; exact hN i b g hi hg ha
   ·have hi2:=(List.getElem?_eq_some_iff.1 hi).1
    simp at hi2
    obtain rfl:i=H.length:=by omega
    rw [app_get] at hi; cases hi; cases hg
    have:=hA _ ha; omega
 ·have hb:=(List.getElem?_eq_some_iff.1 h7).1
  have old:∀i,i < H.length→i≠b→(H.set b ⟨.cells c,true,false,some f⟩++[⟨.cells (c++new),true,true,some f⟩])[i]?=H[i]?:=fun i hi hne=>by
   rw [List.getElem?_append_left (by simpa using hi),List.getElem?_set_ne (fun e=>hne e.symm)]
  refine ⟨H.set b ⟨.cells c,true,false,some f⟩++[⟨.cells (c++new),true,true,some f⟩],fun call F d kk T S D lo n rnd=>?_,⟨by simp [hnew,hlen,Nat.add_mul],.inr ⟨_,f,rfl,rfl,h3,by omega,fun q=>by have:=hA _ q; omega,h6,by rw [List.getElem?_append_right (by simp)]; simp⟩⟩,grow_app (grow_tip h7),by simp,fun i hi=>old i (hA i hi) (fun e=>h5 (by rw [←e]; exact hi)),fun i hi=>old i (by omega) (by omega),fun i b0 hi hb0=>by
   rw [old i (List.getElem?_eq_some_iff.1 hi).1 (fun e=>by subst e; rw [h7] at hi; cases hi; cases hb0)]; exact hi,fun i b0 g hi hg ha=>?_,?_⟩
  ·rw [apA_tip]
   simp only [h7]
   rw [apB_ok _ _ _ _ _ _ _ _ _ _ _ _ _ _ hm (by omega) he hk hlen.symm,hd]
  ·by_cases hlt:i < H.length
   ·by_cases e:i=b
    ·subst e
     rw [List.getElem?_append_left (by simpa using hlt),List.getElem?_set_self hlt] at hi
     cases hi; cases hg; exact absurd ha h6
    ·rw [old i hlt e] at hi; exact hN i b0 g hi hg ha
   ·have hi2:=(List.getElem?_eq_some_iff.1 hi).1
    simp at hi2
    obtain rfl:i=H.length:=by omega
    rw [List.getElem?_append_right (by simp)] at hi
    simp at hi; subst hi; cases hg; exact absurd ha h6
  ·refine Fam.app1 (hF.set (b:=⟨.cells c,true,false,some f⟩) h7 rfl) ?_
   simp only [List.length_set]; omega
end Go.Pi.L
set_option maxRecDepth 100000
namespace Go.Pi.L.Coa
open Go Go.Pi Go.Pi.L Go.Pi.Coa CM

def as154:PCode:=.reg [⟨some 5,.v .mv [.tmp 7],none⟩]
def bd154:PCode:=.blk 1 (.reg [⟨some 8,.ld none (.tmp 2),none⟩,⟨some 9,.v .mv [.tmp 5],none⟩,⟨some 10,.lbs 23 1 [.slice none 0 0] 1 [(0,.tmp 9)],none⟩,⟨some 11,.app 23 1 (.tmp 8) (.tmp 10),none⟩,⟨none,.st 1 (.tmp 2) (.tmp 11),none⟩])
theorem k_as154 {α:Type}{call:CallT}{F:Ex→St→Option α}{k:List It}{s:St}:mach call F (.code as154 :: k) none s=mach call F (.code (.reg [⟨some 5,.v .mv [.tmp 7],none⟩]) :: k) none s:=rfl
theorem k_bd154 {α:Type}{call:CallT}{F:Ex→St→Option α}{k:List It}{s:St}:mach call F (.code bd154 :: k) none s=mach call F (.code (.blk 1 (.reg [⟨some 8,.ld none (.tmp 2),none⟩,⟨some 9,.v .mv [.tmp 5],none⟩,⟨some 10,.lbs 23 1 [.slice none 0 0] 1 [(0,.tmp 9)],none⟩,⟨some 11,.app 23 1 (.tmp 8) (.tmp 10),none⟩,⟨none,.st 1 (.tmp 2) (.tmp 11),none⟩])) :: k) none s:=rfl
def lpB (n:Nat)(T:List Value)(ps:List Tmp)(a b:PCode)(d:Nat)(st:LoopState)(pd:Option Ex):Blk:=⟨.loop n T ps a b d st pd,true,true,none⟩
def Got (A:Nat→Prop)(H:Heap)(cs:List Value)(acc:List (List Int)):Prop :=
 ∀(j:Nat) xs,acc[j]?=some xs→∃b,cs[j]?=some (.slice (some ⟨b,0,none⟩) xs.length 1)∧¬A b∧Ints H (some ⟨b,0,none⟩) xs.length xs
theorem Got.own {A:Nat→Prop}{H H':Heap}{cs:List Value}{acc:List (List Int)}(h:Got A H cs acc)(h0:∀xs∈acc,0 < xs.length)(c:Chg A H H'):Got (And' A H H') H' cs acc:=fun j xs hj=>by
 obtain ⟨b,h1,h2,h3⟩:=h j xs hj
 refine ⟨b,h1,fun q=>q.elim h2 fun q=>?_,h3.chg c fun b' off e=>by cases e; exact h2⟩
 obtain ⟨b',off,x,e1,e2,f⟩:=h3.at encI_len (by decide) (h0 xs (List.mem_of_getElem? hj))
 have:=Sl.inR h3 (h0 xs (List.mem_of_getElem? hj)) b 0 rfl
 omega
def CI (n0 b2 d l:Nat)(T:List Value)(acc:List (List Int))(A:Nat→Prop)(H:Heap):Prop :=
 ∃a m cs,H[b2]?=some (bx (.slice a acc.length m))∧¬A b2∧Col n0 A H 1 a acc.length m cs∧Got A H cs acc∧(∀xs∈acc,0 < xs.length)∧H[l]?=some (lpB 13 T [7] as154 bd154 d .ready none)∧¬A l∧H[d]?=some ⟨.dfr false,true,true,none⟩∧¬A d∧acc.length < 900
theorem lt_of_get {H:Heap}{i:Nat}{b:Blk}(h:H[i]?=some b):i < H.length:=(List.getElem?_eq_some_iff.1 h).1
theorem not_and {A:Nat→Prop}{H H':Heap}{i:Nat}(h:¬A i)(hl:i < H.length):¬And' A H H' i:=fun q=>q.elim h fun q=>by omega
theorem CI.own {n0 b2 d l:Nat}{T:List Value}{acc:List (List Int)}{A:Nat→Prop}{H H':Heap}(h:CI n0 b2 d l T acc A H)(c:Chg A H H'):CI n0 b2 d l T acc (And' A H H') H':=by
 obtain ⟨a,m,cs,h1,h2,h3,h4,h5,h6,h7,h8,h9,h10⟩:=h
 exact ⟨a,m,cs,by rw [c.old _ (lt_of_get h1) h2]; exact h1,not_and h2 (lt_of_get h1),h3.own c,h4.own h5 c,h5,by rw [c.old _ (lt_of_get h6) h7]; exact h6,not_and h7 (lt_of_get h6),by rw [c.old _ (lt_of_get h8) h9]; exact h8,not_and h9 (lt_of_get h8),h10⟩
theorem CI.less {n0 b2 d l:Nat}{T:List Value}{acc:List (List Int)}{A B:Nat→Prop}{H:Heap}(h:CI n0 b2 d l T acc A H)(hab:∀i,B i→A i):CI n0 b2 d l T acc B H:=by
 obtain ⟨a,m,cs,h1,h2,h3,h4,h5,h6,h7,h8,h9,h10⟩:=h
 exact ⟨a,m,cs,h1,fun q=>h2 (hab _ q),h3.less hab,fun j xs hj=>by obtain ⟨b,g1,g2,g3⟩:=h4 j xs hj; exact ⟨b,g1,fun q=>g2 (hab _ q),g3⟩,h5,h6,fun q=>h7 (hab _ q),h8,fun q=>h9 (hab _ q),h10⟩
theorem Sl.mv {β:Type}{H H':Heap}{k:Nat}{enc:β→List Value}{b off l:Nat}{xs:List β}(h:Sl H k enc (some ⟨b,off,none⟩) l xs)(hb:∀c,hcells H b=some c→hcells H' b=some c):Sl H' k enc (some ⟨b,off,none⟩) l xs :=
 ⟨h.len,h.loc,fun j x hx=>by obtain ⟨b',off',c,h1,h2,h3⟩:=h.rd j x hx; cases h1; exact ⟨b,off,c,rfl,hb c h2,h3⟩⟩
theorem ints_ne {H:Heap}{b l b2:Nat}{xs:List Int}{a':Option Addr}{l' m':Nat}{c':List Value}(h:Ints H (some ⟨b,0,none⟩) l xs)(h0:0 < xs.length)(h2:hcells H b2=some (.slice a' l' m' :: c')):b≠b2:=by
 intro e
 subst e
 obtain ⟨b',off,c,e1,e2,e3⟩:=Sl.rd h 0 xs[0] (List.getElem?_eq_getElem h0)
 cases e1
 rw [h2] at e2; cases e2
 simp [encI] at e3
theorem CI.step {n0 b2 d l:Nat}{T:List Value}(hT:get T 2=.pointer (some ⟨b2,0,none⟩))(h0:n0≤b2)(hl0:n0≤l)(hbl:b2≠l)(hdl:d≠l)(hbd:b2≠d){acc:List (List Int)}{A:Nat→Prop}{H:Heap}{p:List Int}{b:Nat}(hp0:0 < p.length)(hac:acc.length < 890)
  (hI:CI n0 b2 d l T acc A H) (hA:Lt A H) (hN:NF A H) (hF:Fam H) (hs:Sl H 1 encN (some ⟨b,0,none⟩) p.length p) (hb:¬A b) :
  ∃go H' lo,R (.yield l) [.slice (some ⟨b,0,none⟩) p.length 1] H=some ⟨.ok (.bool go),H',lo⟩∧n0≤lo∧lo≤l∧H.length≤H'.length∧(∀i,A i∨i < n0→H'[i]?=H[i]?)∧NF A H'∧(go=true→CI n0 b2 d l T (acc++[p]) A H')∧(go=false→False):=by
 obtain ⟨a,m,cs,h1,h2,h3,h4,h5,h6,h7,h8,h9,h10⟩:=hI
 have hlt:=lt_of_get h6
 have hlb:=lt_of_get h1
 obtain ⟨H1,hH1⟩:∃H1,H.set l { obj:=.loop 13 T [7] as154 bd154 d .busy none }=H1:=⟨_,rfl⟩
 have old1:∀i,i≠l→H1[i]?=H[i]?:=fun i hi=>by rw [←hH1,List.getElem?_set_ne (fun e=>hi e.symm)]
 have l1:H1[l]?=some (lpB 13 T [7] as154 bd154 d .busy none):=by rw [←hH1,List.getElem?_set_self hlt]; rfl
 have len1:H1.length=H.length:=by rw [←hH1]; simp
 have fl:∀(i:Nat) b f,H[i]?=some b→b.fam=some f→H1[i]?=some b:=fun i b f hi hf=>by
  rw [old1 i (fun e=>by subst e; rw [h6] at hi; cases hi; cases hf)]; exact hi
 have c1:=h3.same fl
 have nf1:NF A H1:=fun i b g hi hg ha=>by
  by_cases e:i=l
  ·subst e; rw [l1] at hi; cases hi; cases hg
  ·rw [old1 i e] at hi; exact hN i b g hi hg ha
 have hF1:Fam H1:=by rw [←hH1]; exact hF.set h6 rfl
 have g1:Grow H H1:=⟨by omega,fun {b c} hb=>by
  by_cases e:b=l
  ·subst e; simp [hcells,h6,lpB] at hb
  ·unfold hcells at hb ⊢; rw [old1 b e]; exact hb⟩
 obtain ⟨H2,q1,c2,g2,len2,a2,o2,f2,nf2,hF2⟩:=c1.app (hA.chg (by omega)) nf1 hF1 (by omega) (by decide) (by decide) (by omega) [.slice (some ⟨b,0,none⟩) p.length 1] rfl
 have b1:hcells H1 b2=some [.slice a acc.length m]:=by rw [hc_kept (old1 b2 hbl)]; exact bx_hc h1
 have b2':H2[b2]?=some ⟨.cells [.slice a acc.length m],true,true,none⟩:=f2 _ _ (by rw [old1 b2 hbl]; exact h1) rfl
 obtain ⟨H3,hH3⟩:∃H3,H2.set b2 { obj:=.cells [.slice (some ⟨H1.length,0,none⟩) (acc.length+1) 1] }=H3:=⟨_,rfl⟩
 have old3:∀i,i≠b2→H3[i]?=H2[i]?:=fun i hi=>by rw [←hH3,List.getElem?_set_ne (fun e=>hi e.symm)]
 have l3:H3[l]?=some (lpB 13 T [7] as154 bd154 d .busy none):=by rw [old3 l (fun e=>hbl e.symm)]; exact f2 _ _ l1 rfl
 have l3':H3[l]?=some ⟨.loop 13 T [7] as154 bd154 d .busy none,true,true,none⟩:=l3
 have h6':H[l]?=some ⟨.loop 13 T [7] as154 bd154 d .ready none,true,true,none⟩:=h6
 have la:=c1.isLoc acc.length m
 have len3:H3.length=H2.length:=by rw [←hH3]; simp
 have key:Yes (R (.yield l) [.slice (some ⟨b,0,none⟩) p.length 1] H) (fun o=>∃lo,o=⟨.ok (.bool true),H3.set l { obj:=.loop 13 T [7] as154 bd154 d .ready none },lo⟩∧n0≤lo∧lo≤l):=by
  refine run_yl h6' rfl rfl ?_
  simp (maxDischargeDepth:=8) only [↓SD,SU,SV,SW,simprocAttr,Int.cast_ofNat_Int,small,resV,k_as154,setParams,yA_n h6',hH1,k_bd154,hT,b1,la,q1,b2',stH_ok,hH3,yE_n l3']
  rw [yes_some]
  exact ⟨_,rfl,by omega,by omega⟩
 obtain ⟨o,ho,lo,rfl,w1,w2⟩:=key
 obtain ⟨H4,hH4⟩:∃H4,H3.set l { obj:=.loop 13 T [7] as154 bd154 d .ready none }=H4:=⟨_,rfl⟩
 rw [hH4] at ho
 have old4:∀i,i≠l→i≠b2→H4[i]?=H2[i]?:=fun i h1 h2=>by rw [←hH4,List.getElem?_set_ne (fun e=>h1 e.symm),old3 i h2]
 have l4:H4[l]?=some (lpB 13 T [7] as154 bd154 d .ready none):=by rw [←hH4,List.getElem?_set_self (by omega)]; rfl
 have b4:H4[b2]?=some (bx (.slice (some ⟨H1.length,0,none⟩) (acc.length+1) 1)):=by rw [←hH4,List.getElem?_set_ne (fun e=>hbl e.symm),←hH3,List.getElem?_set_self (by omega)]; rfl
 have b2f:H2[l]?=some (lpB 13 T [7] as154 bd154 d .busy none):=f2 _ _ l1 rfl
 have hc4:∀{i:Nat} {c:List Value},hcells H i=some c→i≠b2→hcells H4 i=some c:=fun {i c} h hi=>by
  have hil:i≠l:=fun e=>by subst e; simp [hcells,h6,lpB] at h
  rw [hc_kept (old4 i hil hi)]; exact g2.hc (g1.hc h)
 have fam4:∀(i:Nat) b f,H2[i]?=some b→b.fam=some f→H4[i]?=some b:=fun i b f hi hf=>by
  rw [old4 i (fun e=>by subst e; rw [b2f] at hi; cases hi; cases hf) (fun e=>by subst e; rw [b2'] at hi; cases hi; cases hf)]; exact hi
 have hcb2:=bx_hc h1
 refine ⟨true,H4,lo,ho,w1,w2,by rw [←hH4,List.length_set]; omega,fun i hi=>?_,fun i b g hi hg ha=>?_,fun _=>?_,fun h=>by cases h⟩
 ·rcases hi with hi | hi
  ·rw [old4 i (fun e=>h7 (by rw [←e]; exact hi)) (fun e=>h2 (by rw [←e]; exact hi)),a2 i hi,old1 i (fun e=>h7 (by rw [←e]; exact hi))]
  ·rw [old4 i (by omega) (by omega),o2 i hi,old1 i (by omega)]
 ·by_cases e1:i=l
  ·subst e1; rw [l4] at hi; cases hi; cases hg
  ·by_cases e2:i=b2
   ·subst e2; rw [b4] at hi; cases hi; cases hg
   ·rw [old4 i e1 e2] at hi; exact nf2 i b g hi hg ha
 ·have hcs:cs.length=acc.length:=by have:=h3.len; omega
  refine ⟨some ⟨H1.length,0,none⟩,1,cs++[.slice (some ⟨b,0,none⟩) p.length 1],by rw [List.length_append,List.length_singleton]; exact b4,h2,by rw [List.length_append,List.length_singleton]; exact c2.same fam4,fun j xs hj=>?_,fun xs hx=>?_,l4,h7,by rw [old4 d hdl (fun e=>hbd e.symm)]; exact f2 _ _ (by rw [old1 d hdl]; exact h8) rfl,h9,by rw [List.length_append,List.length_singleton]; omega⟩
  ·by_cases hjl:j < acc.length
   ·rw [List.getElem?_append_left hjl] at hj
    obtain ⟨bj,g1',g2',g3'⟩:=h4 j xs hj
    refine ⟨bj,by rw [List.getElem?_append_left (by omega)]; exact g1',g2',Sl.mv g3' fun c hc=>hc4 hc (ints_ne g3' (h5 xs (List.mem_of_getElem? hj)) hcb2)⟩
   ·have hjlt:=(List.getElem?_eq_some_iff.1 hj).1
    simp at hjlt
    obtain rfl:j=acc.length:=by omega
    rw [List.getElem?_append_right (Nat.le_refl _)] at hj
    simp at hj
    subst hj
    have hs':Ints H (some ⟨b,0,none⟩) p.length p:=hs
    refine ⟨b,by rw [←hcs,List.getElem?_append_right (Nat.le_refl _)]; simp,hb,Sl.mv hs' fun c hc=>hc4 hc (ints_ne hs' hp0 hcb2)⟩
  ·rcases List.mem_append.1 hx with hx | hx
   ·exact h5 xs hx
   ·rw [List.mem_singleton.1 hx]; exact hp0
end Go.Pi.L.Coa
set_option maxRecDepth 100000
namespace Go.Pi.L
open Go Go.Pi
section
variable {PP:FuncId→Option PFunc} {prims:Prims} {α:Type} {call:CallT} {F:Ex→St→Option α} {k:List It}
theorem rfA_some (g args ps a b T S D H lo n rnd):rfA call F (some (.func g,args)) ps a b k ⟨T,S,D,H,lo,n,rnd⟩=rfR call F (call (.func g) args (H++[{ obj:=.dfr false }]++[{ obj:=.loop n (T.map deloc) ps a b H.length .ready none }])) k ⟨T,S,D,H,lo,n,rnd⟩:=rfl
theorem rfR_n (v H' lo' T S D H lo n rnd){n' T' ps a b d}(h:H'[H.length+1]?=some ⟨.loop n' T' ps a b d .ready none,true,true,none⟩):rfR call F (some ⟨.ok v,H',lo'⟩) k ⟨T,S,D,H,lo,n,rnd⟩ =
  mach call F k none ⟨T,S,.coll H.length :: D,H'.set (H.length+1) { obj:=.loop n' T' ps a b d .exhausted none },min lo lo',n,rnd⟩:=by
 simp only [rfR,h,rfS]; rfl
theorem rfR_x (v H' lo' T S D H lo n rnd){n' T' ps a b d i}(h:H'[H.length+1]?=some ⟨.loop n' T' ps a b d .done (some (.exit i)),true,true,none⟩):rfR call F (some ⟨.ok v,H',lo'⟩) k ⟨T,S,D,H,lo,n,rnd⟩ =
  mach call F k (some i) ⟨T,S,.coll H.length :: D,H'.set (H.length+1) { obj:=.loop n' T' ps a b d .exhausted (some (.exit i)) },min lo lo',n,rnd⟩:=by
 simp only [rfR,h,rfS]; rfl
theorem unw_coll (r ds pv T S D H lo n rnd)(h:H[r]?=some ⟨.dfr false,true,true,none⟩):unwL PP prims call (.coll r :: ds) pv ⟨T,S,D,H,lo,n,rnd⟩=unwL PP prims call ds pv ⟨T,S,D,H.set r { obj:=.dfr true },min lo r,n,rnd⟩:=by
 simp only [unwL,h,setB]
theorem fa_clo1 (f v y)(hl:isLoc v=false):fnArgs (.func (.func f) #[] #[y]) [v]=some (.func f,[v,y]):=rfl
end
def QL (H:Heap)(xss:List (List Int))(o:Out):Prop :=
 ∃a m H1 lo,o=⟨.ok (.slice a xss.length m),H1,lo⟩∧Up H H1∧H.length≤lo∧LL H1 a xss.length xss
theorem gc_ll {H H1:Heap}{m lo:Nat}{a:Option Addr}{l:Nat}{xss:List (List Int)}(hs:LL H1 a l xss)(hu:Up H H1)(h:H.length≤lo):QL H xss (gcR H (.ok (.slice a l m)) H1 lo):=by
 obtain rfl:=hs.len
 rw [gc_ite h]
 split
 ·rename_i hf
  obtain ⟨rfl,h1,rfl⟩:=flat_sl hf
  have:xss=[]:=List.eq_nil_of_length_eq_zero h1
  subst this
  exact ⟨none,0,H,H.length,rfl,Up.refl H,Nat.le_refl _,LL.none⟩
 ·exact ⟨a,m,H1,lo,rfl,hu,h,hs⟩
end Go.Pi.L
namespace Go.Pi.L.Coa
open Go Go.Pi Go.Pi.L Go.Pi.Coa CM

def Ok (L:List (List Int)):Prop:=(∀xs∈L,0 < xs.length)∧L.length < 890
theorem ok_all {s:Sheet}(hS:ShFine s):∀L1 L2,allP s=L1++L2→Ok L1:=fun L1 L2 h=>by
 refine ⟨fun xs hx=>?_,?_⟩
 ·have hm:xs∈allP s:=by rw [h]; exact List.mem_append_left _ hx
  have:=(plan_of hS ((mem_allP hS).1 hm).1).len
  have:=hS.c1; omega
 ·have:=allP_len hS
  rw [h,List.length_append] at this
  omega
theorem consC {n0 b2 d l:Nat}{T:List Value}(hT:get T 2=.pointer (some ⟨b2,0,none⟩))(h0:n0≤b2)(hl0:n0≤l)(hbl:b2≠l)(hdl:d≠l)(hbd:b2≠d):Cons PP primsL l n0 (· < n0) Ok (CI n0 b2 d l T) (fun _ _ _=>False) :=
 ⟨fun _ _ _ _ h c=>h.own c,fun _ _ _ _ h g=>h.less g,fun _ _ _ _ h _=>h,fun acc A H p b hok hI hA hN hF hs hb =>
  CI.step hT h0 hl0 hbl hdl hbd (hok.1 p (by simp)) (by have:=hok.2; simp at this; omega) hI hA hN hF hs hb⟩
theorem c154 {H:Heap}{r:ShR}{p:SpR}{s:Sheet}(hp:SpOk H r p s)(hS:ShFine s)(hF:Fam H){xb:Nat}(hx:hcells H xb=some (shopC r p)) :
  Yes (R (.func 154) [.slice none 0 0,.func (.func 135) #[] #[.pointer (some ⟨xb,0,none⟩)]] H) (QL H (allP s)):=by
 refine run_y (pr 154) P154 (by simp [p154]) rfl ?_
 obtain ⟨H0,hH0⟩:∃H0,H++[({ obj:=.cells [.slice none 0 0] }:Blk)]=H0:=⟨_,rfl⟩
 have u0:Up H H0:=by rw [←hH0]; exact (Up.refl H).app
 have len0:H0.length=H.length+1:=by rw [←hH0]; simp
 obtain ⟨T,hT⟩:∃T,List.map deloc [.slice none 0 0,.func (.func 135) #[] #[.pointer (some ⟨xb,0,none⟩)],.pointer (some ⟨H.length,0,none⟩),undef,.slice none 0 0,undef,.func (.func 135) #[] #[.pointer (some ⟨xb,0,none⟩)]]=T:=⟨_,rfl⟩
 obtain ⟨Hl,hHl⟩:∃Hl,H0++[({ obj:=.dfr false }:Blk)]++[({ obj:=.loop 13 T [7] (.reg [⟨some 5,.v .mv [.tmp 7],none⟩]) (.blk 1 (.reg [⟨some 8,.ld none (.tmp 2),none⟩,⟨some 9,.v .mv [.tmp 5],none⟩,⟨some 10,.lbs 23 1 [.slice none 0 0] 1 [(0,.tmp 9)],none⟩,⟨some 11,.app 23 1 (.tmp 8) (.tmp 10),none⟩,⟨none,.st 1 (.tmp 2) (.tmp 11),none⟩])) H0.length .ready none }:Blk)]=Hl:=⟨_,rfl⟩
 have ul:Up H0 Hl:=by rw [←hHl]; exact (Up.refl H0).app.app
 have lenl:Hl.length=H0.length+2:=by rw [←hHl]; simp
 have u:=u0.trans ul
 have bd:Hl[H0.length]?=some ⟨.dfr false,true,true,none⟩:=by rw [←hHl,List.append_assoc,List.getElem?_append_right (Nat.le_refl _)]; simp
 have bl:Hl[H0.length+1]?=some (lpB 13 T [7] as154 bd154 H0.length .ready none):=by rw [←hHl,List.append_assoc,List.getElem?_append_right (by omega),Nat.add_sub_cancel_left]; rfl
 have bb:Hl[H.length]?=some (bx (.slice none 0 0)):=by rw [ul.old _ (by omega),←hH0]; exact app_get
 have hFl:Fam Hl:=by
  rw [←hHl,←hH0]
  exact ((hF.append (fun f h=>by cases h)).append (fun f h=>by cases h)).append (fun f h=>by cases h)
 have tT:get T 2=.pointer (some ⟨H.length,0,none⟩):=by rw [←hT]; rfl
 have spR:InR (· < H.length) r.da r.dl∧InR (· < H.length) r.wa r.wl∧InR (· < H.length) r.ca r.cl∧InR (· < H.length) p.la p.ll∧InR (· < H.length) p.ha p.hl:=⟨Sl.inR hp.sh.d,Sl.inR hp.sh.w,Sl.inR hp.sh.c,Sl.inR hp.lo,Sl.inR hp.hi⟩
 have hI:CI H.length H.length H0.length (H0.length+1) T [] (fun _=>False) Hl:=⟨none,0,[],bb,id,Col.nil _ _ _ _,fun j xs h=>(by simp at h),fun xs h=>(by cases h),bl,id,bd,id,by simp⟩
 obtain ⟨o,ho,H',lo,A',rfl,w1,w2,w3,w4,w5⟩:=c135 (Rd:=(· < H.length)) hS (consC tT (Nat.le_refl _) (by omega) (by omega) (by omega) (by omega)) (ok_all hS) hFl hI (by omega) (by omega) (fun i (hi:i < H.length)=>by omega) (hc_lt hx) (u.grow.hc hx) (hp.grow u.grow) spR
 obtain ⟨a,m,cs,h1,h2,h3,h4,h5,h6,h7,h8,h9,h10⟩:=w5.resolve_right (fun ⟨_,_,_,_,_,h⟩=>h)
 have lo':H.length≤lo:=w1
 obtain ⟨H2,hH2⟩:∃H2,H'.set (H0.length+1) { obj:=.loop 13 T [7] as154 bd154 H0.length .exhausted none }=H2:=⟨_,rfl⟩
 obtain ⟨H3,hH3⟩:∃H3,H2.set H0.length { obj:=.dfr true }=H3:=⟨_,rfl⟩
 have old:∀i,i≠H0.length+1→i≠H0.length→H3[i]?=H'[i]?:=fun i e1 e2=>by rw [←hH3,List.getElem?_set_ne (fun e=>e2 e.symm),←hH2,List.getElem?_set_ne (fun e=>e1 e.symm)]
 have d2:H2[H0.length]?=some ⟨.dfr false,true,true,none⟩:=by rw [←hH2,List.getElem?_set_ne (by omega)]; exact h8
 have b2:hcells H2 H.length=some [.slice a (allP s).length m]:=by
  have:H2[H.length]?=H'[H.length]?:=by rw [←hH2,List.getElem?_set_ne (by omega)]
  rw [hc_kept this]; exact bx_hc h1
 have h6':H'[H0.length+1]?=some ⟨.loop 13 T [7] as154 bd154 H0.length .ready none,true,true,none⟩:=h6
 have la:=h3.isLoc (allP s).length m
 have len3:H3.length=H'.length:=by rw [←hH3,←hH2]; simp
 have uf:Up H H3:=⟨by have:=u.len; omega,fun i hi=>by rw [old i (by omega) (by omega),w3 i hi,u.old i hi]⟩
 have hc3:∀{i:Nat} {c:List Value},hcells H' i=some c→hcells H3 i=some c:=fun {i c} h=>by
  rw [hc_kept (old i (fun e=>by subst e; simp [hcells,h6,lpB] at h) (fun e=>by subst e; simp [hcells,h8] at h))]; exact h
 have hll:LL H3 a (allP s).length (allP s):=by
  refine ⟨rfl,?_,fun j xs hj=>?_⟩
  ·rcases h3.ok with ⟨h,_⟩ | ⟨b,f,h,_⟩
   ·exact .inl h
   ·exact .inr ⟨b,0,h⟩
  ·obtain ⟨b',g1,_,g3⟩:=h4 j xs hj
   rcases h3.ok with ⟨_,h,_⟩ | ⟨b,f,hb,_,_,_,_,_,hB⟩
   ·have:=(List.getElem?_eq_some_iff.1 hj).1; omega
   ·exact ⟨b,0,cs,_,_,hb,hc3 (by simp [hcells,hB]),by rw [Nat.zero_add]; exact g1,Sl.mv g3 fun c hc=>hc3 hc⟩
 simp (maxDischargeDepth:=8) only [↓SD,SU,SV,SW,simprocAttr,Int.cast_ofNat_Int,small,resV, B154,R154,N154,b154, hH0,k_rf,rfA_some,fa_clo1,hT,hHl,ho,rfR_n _ _ _ _ _ _ _ _ _ _ h6',hH2,b2,la,R154,N154,unw_coll,d2,hH3]
 rw [yes_some]
 exact gc_ll hll uf (by omega)
theorem c131 {H:Heap}{r:ShR}{p:SpR}{s:Sheet}(hp:SpOk H r p s)(hS:ShFine s)(hF:Fam H){xb:Nat}(hx:hcells H xb=some (shopC r p)) :
  Yes (R (.func 131) [.func (.func 135) #[] #[.pointer (some ⟨xb,0,none⟩)]] H) (QL H (allP s)):=by
 refine run_y (pr 131) P131 (by simp [p131]) rfl ?_
 obtain ⟨o,ho,a,m,H1,lo,rfl,u,hlo,hl⟩:=c154 hp hS hF hx
 have l1:=hl.isLoc (allP s).length m
 have hlo':H.length≤lo:=hlo
 simp (maxDischargeDepth:=8) only [↓SD,SU,SV,SW,simprocAttr,Int.cast_ofNat_Int,small,resV, B131,R131,N131,b131, ho,l1,R131,N131]
 rw [yes_some]
 exact gc_ll hl u (by omega)
def QLP (H:Heap)(xss:List (List Int))(y:Value)(o:Out):Prop :=
 ∃a m H1 lo,o=⟨.ok (.tuple #[.slice a xss.length m,y]),H1,lo⟩∧Up H H1∧H.length≤lo∧LL H1 a xss.length xss
theorem gc_llp {H H1:Heap}{m lo:Nat}{a:Option Addr}{l:Nat}{xss:List (List Int)}{y:Value}(hs:LL H1 a l xss)(hu:Up H H1)(h:H.length≤lo):QLP H xss y (gcR H (.ok (.tuple #[.slice a l m,y])) H1 lo):=by
 obtain rfl:=hs.len
 rw [gc_ite h]
 split
 ·rename_i hf
  have hf':flat 3 (.slice a xss.length m)=true∧flat 3 y=true:=by simpa [flat] using hf
  obtain ⟨rfl,h1,rfl⟩:=flat_sl hf'.1
  have:xss=[]:=List.eq_nil_of_length_eq_zero h1
  subst this
  exact ⟨none,0,H,H.length,rfl,Up.refl H,Nat.le_refl _,LL.none⟩
 ·exact ⟨a,m,H1,lo,rfl,hu,h,hs⟩
def errV (e:Int):Value:=.tuple #[.slice none 0 0,.int .i64 e]
theorem c89 {H:Heap}{r:ShR}{s:Sheet}(hs:ShOk H r s)(hd:Small r)(ne:Int):∀H',Grow H H'→Fam H'→Yes (R (.func 89) [.agg #[.slice r.da r.dl r.dk,.slice r.wa r.wl r.wk,.slice r.ca r.cl r.ck],.int .i64 ne] H') (fun o =>
  if isSheet s=true then (if allP s=[] then o=⟨.ok (errV ne),H',H'.length⟩ else QLP H' (allP s) (.int .i64 0) o) else o=⟨.ok (errV 2),H',H'.length⟩):=by
 intro H' hg hF
 refine run_y (pr 89) P89 (by simp [p89]) rfl ?_
 have k1:=c75 hs hd H' hg
 cases e1:isSheet s with
 | false =>
  simp only [Bool.false_eq_true,if_false]
  simp (maxDischargeDepth:=8) only [↓SD,SU,SV,SW,simprocAttr,Int.cast_ofNat_Int,small,resV, B89,R89,N89,b89, hs.d.isLoc,hs.w.isLoc,hs.c.isLoc,k1,e1,R89,N89]
  rw [yes_some]; rfl
 | true =>
 simp only [if_true]
 have hS:=fine_of e1
 have hdl:r.dl=s.dry.length:=hs.d.len.symm
 obtain ⟨o,ho,la,lc,ha,hc,H1,lo,rfl,hu,hlo,i1,i2⟩:=c78 hs hd hS H' hg
 have hg1:=hg.trans hu.grow
 have hF1:Fam H1:=famR ho hF
 have i1':=i1
 have i2':=i2
 rw [hdl] at i1 i2
 have hp:SpOk H1 r ⟨la,_,lc,ha,_,hc⟩ s:=⟨hs.grow hg1,i1,i2⟩
 have k105:=c105 hp H1
 obtain ⟨H2,hH2⟩:∃H2,H1++[({ obj:=.cells (shopC r ⟨la,s.dry.length+1,lc,ha,s.dry.length+1,hc⟩) }:Blk)]=H2:=⟨_,rfl⟩
 rw [hH2] at k105
 have u2:Up H1 H2:=by rw [←hH2]; exact (Up.refl H1).app
 have hF2:Fam H2:=famR k105 hF1
 have hx:hcells H2 H1.length=some (shopC r ⟨la,s.dry.length+1,lc,ha,s.dry.length+1,hc⟩):=by rw [←hH2]; exact hc_new _ _ _
 obtain ⟨o,k131,a,m,H3,lo3,rfl,u3,hlo3,hl⟩:=c131 (hp.grow u2.grow) hS hF2 hx
 have l6:=i1.isLoc lc
 have l7:=i2.isLoc hc
 have l8:=hl.isLoc (allP s).length m
 have n1:=hu.len
 have n2:=u2.len
 have n3:=u3.len
 have n4:H'.length≤lo:=hlo
 have n5:H2.length≤lo3:=hlo3
 have n6:H'.length≤lo3:=by omega
 have n7:H'.length≤H2.length:=by omega
 have n8:H'.length≤H3.length:=by omega
 rw [←hdl] at l6 l7 k105
 obtain ⟨da,dl,dk,wa,wl,wk,ca,cl,ck⟩:=r
 have hD:Spans H da dl s.dry:=hs.d
 have hW:Ints H wa wl s.work:=hs.w
 have hC:Spans H ca cl s.coats:=hs.c
 have nD:dl < 1000000:=hd.d
 have nW:wl < 1000000:=hd.w
 have nC:cl < 1000000:=hd.c
 have l1:=hD.isLoc dk
 have l2:=hW.isLoc wk
 have l3:=hC.isLoc ck
 simp only at ho k1 hdl k105 l6 l7
 by_cases hn:allP s=[]
 ·have z:(((allP s).length:Int)=0)=True:=by simp [hn]
  simp only [if_pos hn]
  simp (maxDischargeDepth:=8) only [↓SD,SU,SV,SW,simprocAttr,Int.cast_ofNat_Int,small,resV, B89,R89,N89,b89, l1,l2,l3,l6,l7,l8,k1,e1,ho,k105,k131,z,n1,n2,n3,n4,n5,n6,n7,n8,R89,N89]
  rw [yes_some]; rfl
 ·have z:(((allP s).length:Int)=0)=False:=by simp [hn]
  simp only [if_neg hn]
  simp (maxDischargeDepth:=8) only [↓SD,SU,SV,SW,simprocAttr,Int.cast_ofNat_Int,small,resV, B89,R89,N89,b89, l1,l2,l3,l6,l7,l8,k1,e1,ho,k105,k131,z,n1,n2,n3,n4,n5,n6,n7,n8,R89,N89]
  rw [yes_some]
  exact gc_llp hl ((hu.trans u2).trans u3) (by omega)
theorem c41 {H:Heap}{r:ShR}{s:Sheet}(hs:ShOk H r s)(hd:Small r):∀H',Grow H H'→Fam H'→Yes (R (.func 41) [.agg #[.slice r.da r.dl r.dk,.slice r.wa r.wl r.wk,.slice r.ca r.cl r.ck]] H') (fun o =>
  if isSheet s=true then (match allP s with | []=>o=⟨.ok (errV 5),H',H'.length⟩ | p :: _=>QP H' 1 encI p (.int .i64 0) o) else o=⟨.ok (errV 2),H',H'.length⟩):=by
 intro H' hg hF
 refine run_y (pr 41) P41 (by simp [p41]) rfl ?_
 obtain ⟨o,ho,hq⟩:=c89 hs hd 5 H' hg hF
 cases e1:isSheet s with
 | false =>
  simp only [e1,Bool.false_eq_true,if_false] at hq ⊢
  subst hq
  simp only [errV] at ho
  simp (maxDischargeDepth:=8) only [↓SD,SU,SV,SW,simprocAttr,Int.cast_ofNat_Int,small,resV, B41,R41,N41,b41, hs.d.isLoc,hs.w.isLoc,hs.c.isLoc,ho,R41,N41]
  rw [yes_some]; rfl
 | true =>
 simp only [e1,if_true] at hq ⊢
 cases hl:allP s with
 | nil =>
  rw [if_pos hl] at hq
  subst hq
  simp only [errV] at ho
  simp (maxDischargeDepth:=8) only [↓SD,SU,SV,SW,simprocAttr,Int.cast_ofNat_Int,small,resV, B41,R41,N41,b41, hs.d.isLoc,hs.w.isLoc,hs.c.isLoc,ho,R41,N41]
  rw [yes_some]; rfl
 | cons q qs =>
  rw [if_neg (by simp [hl])] at hq
  obtain ⟨a,m,H1,lo,rfl,u,hlo,hL⟩:=hq
  have h0:0 < (allP s).length:=by rw [hl]; simp
  obtain ⟨b,off,xs,a',m',rfl,hx,f0,hq'⟩:=hL.get h0
  rw [hl] at hx
  simp at hx
  subst hx
  have l1:=hL.isLoc (allP s).length m
  have l4:=hq'.isLoc m'
  have f0':=f0 H1 (Grow.refl _)
  rw [Nat.zero_mul,Nat.add_zero] at f0'
  have n1:=u.len
  have n2:H'.length≤lo:=hlo
  have ia1:vv (.ia 1) [.slice (some ⟨b,off,none⟩) (allP s).length m,.int .i64 0]=some (.pointer (some ⟨b,off+0*1,none⟩)):=vv_iaN 1 b off 0 _ _ _ h0
  simp (maxDischargeDepth:=8) only [↓SD,SU,SV,SW,simprocAttr,Int.cast_ofNat_Int,small,resV, B41,R41,N41,b41, hs.d.isLoc,hs.w.isLoc,hs.c.isLoc,ho,l1,ia1,f0',l4,n1,n2,R41,N41]
  rw [yes_some]
  exact gc_sp hq' u (by omega)
theorem c42 {H:Heap}{r:ShR}{s:Sheet}(hs:ShOk H r s)(hd:Small r):∀H',Grow H H'→Fam H'→R (.func 42) [.agg #[.slice r.da r.dl r.dk,.slice r.wa r.wl r.wk,.slice r.ca r.cl r.ck]] H'=some ⟨.ok (if isSheet s=true then .tuple #[.int .i64 (allP s).length,.int .i64 0] else .tuple #[.int .i64 0,.int .i64 2]),H',H'.length⟩:=by
 intro H' hg hF
 refine run_k (pr 42) P42 (by simp [p42]) rfl ?_
 obtain ⟨o,ho,hq⟩:=c89 hs hd 0 H' hg hF
 cases e1:isSheet s with
 | false =>
  simp only [e1,Bool.false_eq_true,if_false] at hq ⊢
  subst hq
  simp only [errV] at ho
  simp (maxDischargeDepth:=8) only [↓SD,SU,SV,SW,simprocAttr,Int.cast_ofNat_Int,small,resV, B42,R42,N42,b42, hs.d.isLoc,hs.w.isLoc,hs.c.isLoc,ho,R42,N42]
 | true =>
 simp only [e1,if_true] at hq ⊢
 by_cases hl:allP s=[]
 ·rw [if_pos hl] at hq
  subst hq
  simp only [errV] at ho
  simp (maxDischargeDepth:=8) only [↓SD,SU,SV,SW,simprocAttr,Int.cast_ofNat_Int,small,resV, B42,R42,N42,b42, hs.d.isLoc,hs.w.isLoc,hs.c.isLoc,ho,hl,R42,N42]
 ·rw [if_neg hl] at hq
  obtain ⟨a,m,H1,lo,rfl,u,hlo,hL⟩:=hq
  have l1:=hL.isLoc (allP s).length m
  have n1:=u.len
  have n2:H'.length≤lo:=hlo
  simp (maxDischargeDepth:=8) only [↓SD,SU,SV,SW,simprocAttr,Int.cast_ofNat_Int,small,resV, B42,R42,N42,b42, hs.d.isLoc,hs.w.isLoc,hs.c.isLoc,ho,l1,n1,n2,R42,N42]
end Go.Pi.L.Coa
namespace CM
def after (pre:List Int)(d:Int):Bool:=match pre.getLast? with | none=>true | some d0=>decide (d0 < d)
def incN (s:Sheet):Nat→List Int→List (List Int)
 | 0,_=>[[]]
 | n+1,pre=>s.work.flatMap fun d=>if after pre d=true then (incN s n (pre++[d])).map (d :: ·) else []
theorem incN_inc {s:Sheet}:∀(n:Nat) (pre:List Int) (d0:Int),pre.getLast?=some d0→incN s n pre=inc s n d0
 | 0,_,_,_=>rfl
 | n+1,pre,d0,h=>by
  simp only [incN,inc]
  congr 1; funext d
  have e:after pre d=decide (d0 < d):=by simp only [after,h]
  rw [e,incN_inc n (pre++[d]) d (by simp)]
  simp only [decide_eq_true_eq]
theorem incN_all {s:Sheet}(hS:ShFine s):incN s s.coats.length []=incs s:=by
 unfold incs
 obtain ⟨n,hn⟩:∃n,s.coats.length=n+1:=⟨s.coats.length - 1,by have:=hS.c1; omega⟩
 rw [hn]
 simp only [incN,inc]
 refine flatMap_mem ?_
 intro d hd
 have h0:=(hS.work d hd).1
 rw [if_pos (show after [] d=true from rfl),if_pos (by omega),List.nil_append,incN_inc n [d] d rfl]
def incTo (s:Sheet)(n:Nat)(pre:List Int)(j:Nat):List (List Int):=((s.work.take j).flatMap fun d=>if after pre d=true then (incN s n (pre++[d])).map (d :: ·) else []).map (pre++·)
theorem incTo_all (s:Sheet)(n:Nat)(pre:List Int)(j:Nat)(h:s.work.length≤j):incTo s n pre j=(incN s (n+1) pre).map (pre++·):=by
 unfold incTo; rw [List.take_of_length_le h]; rfl
theorem incTo_no {s:Sheet}{n:Nat}{pre:List Int}{j:Nat}{d:Int}(h:s.work[j]?=some d)(ho:after pre d=false):incTo s n pre (j+1)=incTo s n pre j:=by
 obtain ⟨hj,rfl⟩:=List.getElem?_eq_some_iff.1 h
 unfold incTo
 rw [List.take_succ_eq_append_getElem hj,List.flatMap_append]
 simp [ho]
theorem incTo_yes {s:Sheet}{n:Nat}{pre:List Int}{j:Nat}{d:Int}(h:s.work[j]?=some d)(ho:after pre d=true):incTo s n pre (j+1)=incTo s n pre j++(incN s n (pre++[d])).map ((pre++[d])++·):=by
 obtain ⟨hj,rfl⟩:=List.getElem?_eq_some_iff.1 h
 unfold incTo
 rw [List.take_succ_eq_append_getElem hj,List.flatMap_append,List.map_append]
 simp [ho,Function.comp_def]
theorem incTo_le {s:Sheet}{n:Nat}{pre:List Int}{j:Nat}:(incTo s n pre j).length≤(incN s (n+1) pre).length:=by
 have e:(incN s (n+1) pre)=((s.work.take j).flatMap fun d=>if after pre d=true then (incN s n (pre++[d])).map (d :: ·) else [])++((s.work.drop j).flatMap fun d=>if after pre d=true then (incN s n (pre++[d])).map (d :: ·) else []):=by
  rw [←List.flatMap_append,List.take_append_drop]; rfl
 rw [e,incTo,List.length_map,List.length_append]; omega
theorem incN_len {s:Sheet}(hS:ShFine s){n:Nat}{pre:List Int}(hn:pre.length+n=s.coats.length):(incN s n pre).length≤792:=by
 have hc:=hS.c2
 have hw:=rises_pair hS.rw
 have key:∀d0,(inc s n d0).length≤792:=fun d0=>by
  rw [inc_len hw]
  exact ch_bound _ (Nat.le_trans (List.length_filter_le _ _) (work_len hS)) _ (by omega)
 cases h:pre.getLast? with
 | some d0=>rw [incN_inc n pre d0 h]; exact key d0
 | none =>
  have:pre=[]:=by simpa using h
  subst this
  simp at hn
  subst hn
  rw [incN_all hS]; exact key (-1)
end CM
set_option maxRecDepth 100000
namespace Go.Pi.L
open Go Go.Pi
theorem apA_emp {α:Type}{call:CallT}{F:Ex→St→Option α}{k:List It}{a:Option Addr}{l m kk:Nat}{d:Option Tmp}{s:St}(hl:isLoc (.slice a l m)=false)(h:l < 1000000):ap1 call F (some []) (.slice a l m) kk d k s=nxt call F (some (.slice a l m)) d k s:=by
 have hop:appB s kk [] a l m d=putO s d (.slice a l m):=by
  unfold appB
  rw [if_neg (by simp [hl]),if_neg (by simp [small]; omega),if_pos (show ([]:List Value).isEmpty=true from rfl)]
 simp only [ap1,hop]
 exact go_putO
theorem Bld.appl {n0:Nat}{H:Heap}{k:Nat}{a:Option Addr}{l m:Nat}{c:List Value}(h:Bld n0 H k a l m c)(hF:Fam H)(hk:0 < k)(hk2:k < 1000)(hn:n0≤H.length)(new:List Value){i:Nat}(hnew:new.length=i*k)(hl:l+i*k < 1000000) :
  ∃a' m' H1,(∀{α:Type} (call:CallT) (F:Ex→St→Option α) d kk T S D lo n rnd,ap1 call F (some new) (.slice a l m) k d kk ⟨T,S,D,H,lo,n,rnd⟩=nxt call F (some (.slice a' (l+i) m')) d kk ⟨T,S,D,H1,lo,n,rnd⟩) ∧
   Bld n0 H1 k a' (l+i) m' (c++new)∧Grow H H1∧(∀H0,Up H0 H→H0.length≤n0→Up H0 H1)∧Fam H1∧H.length≤H1.length:=by
 by_cases hi:i=0
 ·subst hi
  have:new=[]:=List.eq_nil_of_length_eq_zero (by omega)
  subst this
  exact ⟨a,m,H,fun call F d kk T S D lo n rnd=>apA_emp (h.isLoc l m) (by omega),by rw [List.append_nil]; exact h,Grow.refl _,fun _ h _=>h,hF,Nat.le_refl _⟩
 ·obtain ⟨H1,q1,q2,q3,q4⟩:=h.apps hF hk hk2 hn new (by omega) hnew (by omega)
  exact ⟨_,_,H1,q1,q2,q3.grow,fun H0 hu h0=>q3.up h hu h0,q4,by have:=q3.len; omega⟩
def Gt (H:Heap)(cs:List Value)(xss:List (List Int)):Prop:=∀(j:Nat) xs,xss[j]?=some xs→∃a m,cs[j]?=some (.slice a xs.length m)∧Sl H 1 encN a xs.length xs
theorem Gt.nil (H:Heap):Gt H [] []:=fun j xs h=>by simp at h
theorem Gt.grow {H H':Heap}{cs:List Value}{xss:List (List Int)}(h:Gt H cs xss)(g:Grow H H'):Gt H' cs xss:=fun j xs hj=>by
 obtain ⟨a,m,h1,h2⟩:=h j xs hj; exact ⟨a,m,h1,h2.grow g⟩
theorem Gt.app {H:Heap}{cs ds:List Value}{xss yss:List (List Int)}(h:Gt H cs xss)(g:Gt H ds yss)(hl:cs.length=xss.length):Gt H (cs++ds) (xss++yss):=fun j xs hj=>by
 by_cases hlt:j < xss.length
 ·rw [List.getElem?_append_left hlt] at hj
  obtain ⟨a,m,h1,h2⟩:=h j xs hj
  exact ⟨a,m,by rw [List.getElem?_append_left (by omega)]; exact h1,h2⟩
 ·rw [List.getElem?_append_right (by omega)] at hj
  obtain ⟨a,m,h1,h2⟩:=g _ xs hj
  exact ⟨a,m,by rw [List.getElem?_append_right (by omega),hl]; exact h1,h2⟩
theorem Bld.ll {n0:Nat}{H:Heap}{a:Option Addr}{l m:Nat}{cs:List Value}{xss:List (List Int)}(h:Bld n0 H 1 a l m cs)(g:Gt H cs xss)(hl:xss.length=l):LL H a l xss:=by
 refine ⟨hl,h.loc,fun j xs hj=>?_⟩
 obtain ⟨a',m',h1,h2⟩:=g j xs hj
 rcases h.ok with ⟨_,h0,_⟩ | ⟨b,f,hb,_,_,_,hB⟩
 ·have:=(List.getElem?_eq_some_iff.1 hj).1; omega
 ·exact ⟨b,0,cs,a',m',hb,by simp [hcells,hB],by rw [Nat.zero_add]; exact h1,h2⟩
theorem LL.elems {H:Heap}{a:Option Addr}{l:Nat}{xss:List (List Int)}(h:LL H a l xss):∃cs,(∀m T S D lo n rnd,elemsL ⟨T,S,D,H,lo,n,rnd⟩ 1 (.slice a l m)=some cs)∧cs.length=l∧Gt H cs xss:=by
 have e0:∀m T S D lo n rnd,elemsL ⟨T,S,D,H,lo,n,rnd⟩ 1 (.slice a l m)=Go.Pi.elems H 1 (.slice a l m):=fun m T S D lo n rnd=>by
  rcases h.loc with rfl | ⟨b,off,rfl⟩
  ·rfl
  ·unfold elemsL; split
   ·rename_i he; cases he
   ·rfl
 obtain rfl:=h.len
 by_cases h0:xss.length=0
 ·have:xss=[]:=List.eq_nil_of_length_eq_zero h0
  subst this
  refine ⟨[],fun m T S D lo n rnd=>?_,rfl,Gt.nil H⟩
  rw [e0]
  rcases h.loc with rfl | ⟨b,off,rfl⟩ <;> rfl
 ·obtain ⟨x,hx⟩:∃x,xss[xss.length - 1]?=some x:=⟨_,List.getElem?_eq_getElem (by omega)⟩
  obtain ⟨b,off,c,a',m',ha,hc,hg,_⟩:=h.rd _ x hx
  have hlen:=(List.getElem?_eq_some_iff.1 hg).1
  refine ⟨(c.drop off).take xss.length,fun m T S D lo n rnd=>?_,by rw [List.length_take,List.length_drop]; omega,fun j xs hj=>?_⟩
  ·rw [e0,ha]
   simp only [Go.Pi.elems,if_neg h0,hc]
   rw [if_pos (by omega),Nat.mul_one]
  ·obtain ⟨b2,off2,c2,a2,m2,g1,g2,g3,g4⟩:=h.rd j xs hj
   rw [ha] at g1; cases g1
   rw [hc] at g2; cases g2
   have:=(List.getElem?_eq_some_iff.1 hj).1
   exact ⟨a2,m2,by rw [List.getElem?_take_of_lt this,List.getElem?_drop]; exact g3,g4⟩
end Go.Pi.L
set_option maxRecDepth 100000
namespace Go.Pi.L.Coa
open Go Go.Pi Go.Pi.L Go.Pi.Coa CM

theorem slot_nl {x:Operand}{v:Value}(h:isLoc v=false):slotOk x v=true:=by
 unfold slotOk
 split
 ·simp [isLoc] at h
 ·rfl
theorem slot_loc (t o g l m:Nat):slotOk (.tmp t) (.slice (some ⟨t,o,some g⟩) l m)=true:=by simp [slotOk]
theorem after_nil {pre:List Int}(h:pre.length=0)(d:Int):after pre d=true:=by
 have:pre=[]:=List.eq_nil_of_length_eq_zero h
 subst this; rfl
set_option maxHeartbeats 1000000 in
theorem c90 {H:Heap}{r:ShR}{s:Sheet}(hs:ShOk H r s)(hd:Small r)(hS:ShFine s):∀(n:Nat) (pre:List Int),pre.length+n=s.coats.length→∀(a:Option Addr) (m:Nat) (H':Heap),Grow H H'→Fam H'→Ints H' a pre.length pre →
  Yes (R (.func 90) [.agg #[.slice r.da r.dl r.dk,.slice r.wa r.wl r.wk,.slice r.ca r.cl r.ck],.slice a pre.length m] H') (QL H' ((incN s n pre).map (pre++·))):=by
 intro n
 induction n with
 | zero =>
  intro pre hpl a m H' hg hF hq
  refine run_y (pr 90) P90 (by simp [p90]) rfl ?_
  have l4:=hq.isLoc m
  have hcl:r.cl=pre.length:=by rw [←hs.c.len]; omega
  have l3':isLoc (.slice r.ca pre.length r.ck)=false:=by rw [←hcl]; exact hs.c.isLoc _
  simp (maxDischargeDepth:=8) only [↓SD,SU,SV,SW,simprocAttr,Int.cast_ofNat_Int,small,resV, B90,R90,N90,b90, hs.d.isLoc,hs.w.isLoc,hs.c.isLoc,l4,hcl,l3',R90,N90]
  rw [yes_some]
  have e:(incN s 0 pre).map (pre++·)=[pre]:=by simp [incN]
  rw [e]
  refine gc_ll (l:=1) ⟨rfl,.inr ⟨_,_,rfl⟩,fun j xs hj=>?_⟩ (Up.refl H').app (Nat.le_refl _)
  cases j with
  | succ j=>simp at hj
  | zero =>
   simp at hj; subst hj
   exact ⟨H'.length,0,_,a,m,rfl,hc_new _ _ _,rfl,hq.grow (Up.refl H').app.grow⟩
 | succ n IH =>
  intro pre hpl a m H' hg hF hq
  refine run_y (pr 90) P90 (by simp [p90]) rfl ?_
  have l4:=hq.isLoc m
  have hS2:=hS.c2
  have hcl:r.cl=s.coats.length:=hs.c.len.symm
  have hwl:r.wl≤12:=by rw [←hs.w.len]; exact work_len hS
  have hne:((pre.length:Nat):Int)=((r.cl:Nat):Int)↔False:=by constructor <;> intro h <;> first | omega | cases h
  obtain ⟨da,dl,dk,wa,wl,wk,ca,cl,ck⟩:=r
  have hD:Spans H da dl s.dry:=hs.d
  have hW:Ints H wa wl s.work:=hs.w
  have hC:Spans H ca cl s.coats:=hs.c
  have nD:dl < 1000000:=hd.d
  have nW:wl < 1000000:=hd.w
  have nC:cl < 1000000:=hd.c
  have l1:=hD.isLoc dk
  have l2:=hW.isLoc wk
  have l3:=hC.isLoc ck
  simp only at IH hwl hne
  simp (maxDischargeDepth:=8) only [↓SD,SU,SV,SW,simprocAttr,Int.cast_ofNat_Int,small,resV, B90,R90,N90,b90, l1,l2,l3,l4,hne]
  refine loop_ind (G:=(Yes · (QL H' ((incN s (n+1) pre).map (pre++·))))) (fun j σ=>∃T S H1 ao mo cs lim,σ=⟨T,S,[],H1,lim,53,false⟩∧get T 1=.slice a pre.length m∧get T 2=.pointer (some ⟨2,0,some 1⟩)∧get T 5=.slice ao (incTo s n pre j).length mo∧get T 6=.int .i64 (j:Nat)∧sget S 2=(1,.cells [.slice da dl dk,.slice wa wl wk,.slice ca cl ck])∧(Bld H'.length H1 1 ao (incTo s n pre j).length mo cs∧Gt H1 cs (incTo s n pre j)∧Up H' H1∧Fam H1∧H'.length≤lim)) (wl) ?_ ?_ 0 _ (Nat.zero_le _) ⟨_,_,_,_,_,_,_,rfl,rfl,rfl,rfl,rfl,rfl,⟨Bld.nil _ _ _,Gt.nil _,Up.refl _,hF,Nat.le_refl _⟩⟩
  ·rintro c' j s hj ⟨T,S,H1,ao,mo,cs,lim,rfl,t1,t2,t5,t6,s0,hp⟩ ih
   obtain ⟨hB,hG,hu,hF1,hlim⟩:=hp
   obtain ⟨b,off,x,hxb,hx',f0⟩:=hW.i1 hj
   subst hxb
   have hg1:=hg.trans hu.grow
   have hw1:=wrap_succ j (by omega)
   have l5:=hB.isLoc (incTo s n pre j).length mo
   have hwx:=hS.work x (List.mem_of_getElem? hx')
   have bound:=incTo_le (s:=s) (n:=n) (pre:=pre) (j:=j+1)
   have bound2:=incN_len hS hpl
   have hcs:cs.length=(incTo s n pre j).length:=by have:=hB.len; omega
   by_cases hp0:pre.length=0
   ·have z0:((pre.length:Nat):Int)=0↔True:=by simp [hp0]
    have ho:=after_nil hp0 x
    obtain ⟨a2,m2,H2,q2,B2,g2,u2,hF2,n2⟩:=(Bld.nil H1.length H1 1).appl hF1 (by decide) (by decide) (Nat.le_refl _) (cells encI pre) (i:=pre.length) (by rw [cells_len (k:=1) (fun _=>rfl)]) (by omega)
    simp only [Nat.zero_add,List.nil_append] at q2 B2
    obtain ⟨a3,m3,H3,q3,B3,g3,u3,hF3,n3⟩:=B2.appl hF2 (by decide) (by decide) n2 [.int .i64 x] (i:=1) rfl (by omega)
    have e23:cells encI pre++[.int .i64 x]=cells encI (pre++[x]):=by rw [cells_app]; rfl
    rw [e23] at B3
    have elen:(pre++[x]).length=pre.length+1:=by simp
    have hq3:Ints H3 a3 (pre++[x]).length (pre++[x]):=by rw [elen]; exact B3.sl encI_len (by decide)
    have U12:Up H1 H2:=u2 H1 (Up.refl _) (Nat.le_refl _)
    have U13:Up H1 H3:=u3 H1 U12 (Nat.le_refl _)
    obtain ⟨o,ho4,a4,m4,H4,lo4,rfl,u4,hlo4,L4⟩:=IH (pre++[x]) (by rw [List.length_append,List.length_singleton]; omega) a3 m3 H3 (hg1.trans U13.grow) hF3 hq3
    have hF4:Fam H4:=famR ho4 hF3
    rw [elen] at ho4
    obtain ⟨ds,q4,ld,Gd⟩:=L4.elems
    have U14:=U13.trans u4
    have hlen:(incTo s n pre (j+1)).length=(incTo s n pre j).length+((incN s n (pre++[x])).map ((pre++[x])++·)).length:=by rw [incTo_yes hx' ho,List.length_append]
    obtain ⟨a5,m5,H5,q5,B5,g5,u5,hF5,n5⟩:=(hB.up U14).appl hF4 (by decide) (by decide) (Nat.le_trans hu.len U14.len) ds (i:=((incN s n (pre++[x])).map ((pre++[x])++·)).length) (by omega) (by omega)
    have q0:=fun T S D lo nn rnd=>(hq.grow hu.grow).elems (fun _=>rfl) (by decide) m T S D lo nn rnd
    have l6:=B2.isLoc (pre.length) m2
    have l7:=B3.isLoc (pre.length+1) m3
    have l8:=L4.isLoc ((incN s n (pre++[x])).map ((pre++[x])++·)).length m4
    have hlo4':H3.length≤lo4:=hlo4
    have l9:=B5.isLoc ((incTo s n pre j).length+((incN s n (pre++[x])).map ((pre++[x])++·)).length) m5
    have N1:=hu.len
    have hg2':=hg1.trans U12.grow
    have N4:=u4.len
    simp only [incTo_yes hx' ho,List.length_append] at ih
    simp (maxDischargeDepth:=8) only [↓SD,SU,SV,SW,simprocAttr,Int.cast_ofNat_Int,small,resV, q90x0,t1,t2,t5,t6,s0, s0,lt_nat,hj,l1,l2,l3,l4,l5,l6,l7,l8,l9,f0,hg1,hg2',hw1,z0,q0,q2,q3,ho4,hlo4',rD_hb,q4,q5,goD_app,slot_nl,slot_loc]
    exact ih _ ⟨_,_,(H5),(a5),(m5),(cs++ds),(_),rfl,(by simp [get_set,t1] <;> omega),(by simp [get_set,t2] <;> omega),(by simp [get_set,t5] <;> omega),(by simp [get_set,t6] <;> omega),by simp [sget_sset,s0],⟨B5,(hG.grow (U14.grow.trans g5)).app (Gd.grow g5) hcs,u5 H' (hu.trans U14) (Nat.le_refl _),hF5,by omega⟩⟩
   ·have z0:((pre.length:Nat):Int)=0↔False:=by simp [hp0]
    obtain ⟨k,hk⟩:∃k,pre.length=k+1:=⟨pre.length - 1,by omega⟩
    obtain ⟨b9,off9,y,ha9,hy,f9⟩:=hq.i1 (j:=k) (by omega)
    subst ha9
    have w5:IntKind.wrap .i64 (((pre.length:Nat):Int) - 1)=(k:Nat):=by rw [wrap_id _ (by omega) (by omega)]; omega
    have hkl:k < pre.length:=by omega
    have f9':=f9 H1 hu.grow
    have hlast:pre.getLast?=some y:=by rw [List.getLast?_eq_getElem?,hk,Nat.add_sub_cancel]; exact hy
    by_cases hyx:y < x
    ·have ho:after pre x=true:=by simp [after,hlast,hyx]
     obtain ⟨a2,m2,H2,q2,B2,g2,u2,hF2,n2⟩:=(Bld.nil H1.length H1 1).appl hF1 (by decide) (by decide) (Nat.le_refl _) (cells encI pre) (i:=pre.length) (by rw [cells_len (k:=1) (fun _=>rfl)]) (by omega)
     simp only [Nat.zero_add,List.nil_append] at q2 B2
     obtain ⟨a3,m3,H3,q3,B3,g3,u3,hF3,n3⟩:=B2.appl hF2 (by decide) (by decide) n2 [.int .i64 x] (i:=1) rfl (by omega)
     have e23:cells encI pre++[.int .i64 x]=cells encI (pre++[x]):=by rw [cells_app]; rfl
     rw [e23] at B3
     have elen:(pre++[x]).length=pre.length+1:=by simp
     have hq3:Ints H3 a3 (pre++[x]).length (pre++[x]):=by rw [elen]; exact B3.sl encI_len (by decide)
     have U12:Up H1 H2:=u2 H1 (Up.refl _) (Nat.le_refl _)
     have U13:Up H1 H3:=u3 H1 U12 (Nat.le_refl _)
     obtain ⟨o,ho4,a4,m4,H4,lo4,rfl,u4,hlo4,L4⟩:=IH (pre++[x]) (by rw [List.length_append,List.length_singleton]; omega) a3 m3 H3 (hg1.trans U13.grow) hF3 hq3
     have hF4:Fam H4:=famR ho4 hF3
     rw [elen] at ho4
     obtain ⟨ds,q4,ld,Gd⟩:=L4.elems
     have U14:=U13.trans u4
     have hlen:(incTo s n pre (j+1)).length=(incTo s n pre j).length+((incN s n (pre++[x])).map ((pre++[x])++·)).length:=by rw [incTo_yes hx' ho,List.length_append]
     obtain ⟨a5,m5,H5,q5,B5,g5,u5,hF5,n5⟩:=(hB.up U14).appl hF4 (by decide) (by decide) (Nat.le_trans hu.len U14.len) ds (i:=((incN s n (pre++[x])).map ((pre++[x])++·)).length) (by omega) (by omega)
     have q0:=fun T S D lo nn rnd=>(hq.grow hu.grow).elems (fun _=>rfl) (by decide) m T S D lo nn rnd
     have l6:=B2.isLoc (pre.length) m2
     have l7:=B3.isLoc (pre.length+1) m3
     have l8:=L4.isLoc ((incN s n (pre++[x])).map ((pre++[x])++·)).length m4
     have hlo4':H3.length≤lo4:=hlo4
     have l9:=B5.isLoc ((incTo s n pre j).length+((incN s n (pre++[x])).map ((pre++[x])++·)).length) m5
     have N1:=hu.len
     have hg2':=hg1.trans U12.grow
     have N4:=u4.len
     simp only [incTo_yes hx' ho,List.length_append] at ih
     simp (maxDischargeDepth:=8) only [↓SD,SU,SV,SW,simprocAttr,Int.cast_ofNat_Int,small,resV, q90x0,t1,t2,t5,t6,s0, s0,lt_nat,hj,l1,l2,l3,l4,l5,l6,l7,l8,l9,f0,hg1,hg2',hw1,z0,w5,hkl,f9',hyx,q0,q2,q3,ho4,hlo4',rD_hb,q4,q5,goD_app,slot_nl,slot_loc]
     exact ih _ ⟨_,_,(H5),(a5),(m5),(cs++ds),(_),rfl,(by simp [get_set,t1] <;> omega),(by simp [get_set,t2] <;> omega),(by simp [get_set,t5] <;> omega),(by simp [get_set,t6] <;> omega),by simp [sget_sset,s0],⟨B5,(hG.grow (U14.grow.trans g5)).app (Gd.grow g5) hcs,u5 H' (hu.trans U14) (Nat.le_refl _),hF5,by omega⟩⟩
    ·have ho:after pre x=false:=by simp [after,hlast,hyx]
     have N1:=hu.len
     simp (maxDischargeDepth:=8) only [↓SD,SU,SV,SW,simprocAttr,Int.cast_ofNat_Int,small,resV, q90x0,t1,t2,t5,t6,s0, s0,lt_nat,hj,l1,l2,l3,l4,l5,f0,hg1,hw1,z0,w5,hkl,f9',hyx]
     rw [←incTo_no hx' ho] at hB hG t5
     exact ih _ ⟨_,_,(H1),(ao),(mo),(cs),(_),rfl,(by simp [get_set,t1] <;> omega),(by simp [get_set,t2] <;> omega),(by simp [get_set,t5] <;> omega),(by simp [get_set,t6] <;> omega),by simp [sget_sset,s0],⟨hB,hG,hu,hF1,by omega⟩⟩
  ·rintro c' s ⟨T,S,H1,ao,mo,cs,lim,rfl,t1,t2,t5,t6,s0,hp⟩
   obtain ⟨hB,hG,hu,hF1,hlim⟩:=hp
   rw [incTo_all s n pre wl (by rw [hW.len]; exact Nat.le_refl _)] at hB hG t5
   have l5:=hB.isLoc ((incN s (n+1) pre).map (pre++·)).length mo
   simp (maxDischargeDepth:=8) only [↓SD,SU,SV,SW,simprocAttr,Int.cast_ofNat_Int,small,resV, q90x0,t1,t2,t5,t6,s0, s0,lt_nat,Nat.lt_irrefl,l1,l2,l3,l4,l5,R90,N90]
   rw [yes_some]
   exact gc_ll (hB.ll hG rfl) hu hlim
end Go.Pi.L.Coa
set_option maxRecDepth 100000
namespace Go.Pi.L.Coa
open Go Go.Pi Go.Pi.L Go.Pi.Coa CM

theorem filter_yes {β:Type}{p:β→Bool}{xs:List β}{j:Nat}{x:β}(h:xs[j]?=some x)(hp:p x=true):(xs.take (j+1)).filter p=(xs.take j).filter p++[x]:=by
 obtain ⟨hj,rfl⟩:=List.getElem?_eq_some_iff.1 h
 rw [List.take_succ_eq_append_getElem hj,List.filter_append]; simp [hp]
theorem filter_no {β:Type}{p:β→Bool}{xs:List β}{j:Nat}{x:β}(h:xs[j]?=some x)(hp:p x=false):(xs.take (j+1)).filter p=(xs.take j).filter p:=by
 obtain ⟨hj,rfl⟩:=List.getElem?_eq_some_iff.1 h
 rw [List.take_succ_eq_append_getElem hj,List.filter_append]; simp [hp]
theorem c43 {H:Heap}{r:ShR}{s:Sheet}(hs:ShOk H r s)(hd:Small r)(hS:ShFine s):∀H',Grow H H'→Fam H'→Yes (R (.func 43) [.agg #[.slice r.da r.dl r.dk,.slice r.wa r.wl r.wk,.slice r.ca r.cl r.ck]] H') (QL H' (allP s)):=by
 intro H' hg hF
 refine run_y (pr 43) P43 (by simp [p43]) rfl ?_
 obtain ⟨o,ho,a0,m0,H1,lo1,rfl,u1,hlo1,hL⟩:=c90 hs hd hS s.coats.length [] (by simp) none 0 H' hg hF Sl.none
 have hF1:Fam H1:=famR ho hF
 have e0:(incN s s.coats.length []).map ([]++·)=incs s:=by rw [incN_all hS]; simp
 rw [e0] at ho hL
 have il:(incs s).length≤792:=by rw [←incN_all hS]; exact incN_len hS (by simp)
 have k91:=fun H2 (g:Grow H H2) pa pk plan (h1:Ints H2 pa plan.length plan) (h2:PlFine s plan)=>c91 (pk:=pk) (hs.grow g) hd hS h1 h2 H2 (Grow.refl _)
 have n1:=u1.len
 have hlo1':H'.length≤lo1:=hlo1
 have l4:=hL.isLoc (incs s).length m0
 obtain ⟨da,dl,dk,wa,wl,wk,ca,cl,ck⟩:=r
 have hD:Spans H da dl s.dry:=hs.d
 have hW:Ints H wa wl s.work:=hs.w
 have hC:Spans H ca cl s.coats:=hs.c
 have nD:dl < 1000000:=hd.d
 have nW:wl < 1000000:=hd.w
 have nC:cl < 1000000:=hd.c
 have l1:=hD.isLoc dk
 have l2:=hW.isLoc wk
 have l3:=hC.isLoc ck
 simp only [List.length_nil] at ho k91
 simp (maxDischargeDepth:=8) only [↓SD,SU,SV,SW,simprocAttr,Int.cast_ofNat_Int,small,resV, B43,R43,N43,b43, l1,l2,l3,l4,ho,n1,hlo1']
 refine loop_ind (G:=(Yes · (QL H' (allP s)))) (fun j σ=>∃T S H2 ao mo cs lim,σ=⟨T,S,[],H2,lim,28,false⟩∧get T 1=.pointer (some ⟨1,0,some 1⟩)∧get T 3=.slice a0 (incs s).length m0∧get T 4=.slice ao (((incs s).take j).filter (surely s)).length mo∧get T 5=.int .i64 (j:Nat)∧sget S 1=(1,.cells [.slice da dl dk,.slice wa wl wk,.slice ca cl ck])∧(Bld H1.length H2 1 ao (((incs s).take j).filter (surely s)).length mo cs∧Gt H2 cs (((incs s).take j).filter (surely s))∧Up H1 H2∧Up H' H2∧Fam H2∧H'.length≤lim)) ((incs s).length) ?_ ?_ 0 _ (Nat.zero_le _) ⟨_,_,_,_,_,_,_,rfl,rfl,rfl,rfl,rfl,rfl,⟨Bld.nil _ _ _,Gt.nil _,Up.refl _,u1,hF1,by omega⟩⟩
 ·rintro c' j s hj ⟨T,S,H2,ao,mo,cs,lim,rfl,t1,t3,t4,t5,s0,hp⟩ ih
  obtain ⟨hB,hG,hu,hu',hF2,hlim⟩:=hp
  obtain ⟨b,off,xs,a',m',rfl,hx,f0,hq⟩:=(hL.grow hu.grow).get hj
  have f0':=f0 H2 (Grow.refl _)
  have hq':Ints H2 a' xs.length xs:=hq
  have hw1:=wrap_succ j (by omega)
  have l5:=hB.isLoc (((incs s).take j).filter (surely s)).length mo
  have l6:=hq'.isLoc m'
  have hP:=plan_of hS ((mem_incs hS).1 (List.mem_of_getElem? hx))
  have q91:=k91 H2 (hg.trans hu'.grow) a' m' xs hq' hP
  have hlen:(((incs s).take j).filter (surely s)).length≤792:=Nat.le_trans (List.length_filter_le _ _) (by rw [List.length_take]; omega)
  have hcs:cs.length=(((incs s).take j).filter (surely s)).length:=by have:=hB.len; omega
  have N1:=hu'.len
  cases hsv:surely s xs with
  | true =>
   rw [hsv] at q91
   obtain ⟨a3,m3,H3,q3,B3,g3,u3,hF3,n3⟩:=hB.appl hF2 (by decide) (by decide) hu.len [.slice a' xs.length m'] (i:=1) rfl (by omega)
   have hG1:Gt H3 [.slice a' xs.length m'] [xs]:=fun i ys hi=>by
    cases i with
    | succ i=>simp at hi
    | zero=>simp at hi; subst hi; exact ⟨a',m',rfl,hq'.grow g3⟩
   have l7:=B3.isLoc ((((incs s).take j).filter (surely s)).length+1) m3
   simp only [filter_yes hx hsv,List.length_append,List.length_singleton] at ih
   simp (maxDischargeDepth:=8) only [↓SD,SU,SV,SW,simprocAttr,Int.cast_ofNat_Int,small,resV, q43x0,t1,t3,t4,t5,s0, s0,lt_nat,hj,l1,l2,l3,l4,l5,l6,l7,f0',q91,hw1,q3]
   exact ih _ ⟨_,_,(H3),(a3),(m3),(_),(_),rfl,(by simp [get_set,t1] <;> omega),(by simp [get_set,t3] <;> omega),(by simp [get_set,t4] <;> omega),(by simp [get_set,t5] <;> omega),by simp [sget_sset,s0],⟨B3,(hG.grow g3).app hG1 hcs,u3 H1 hu (Nat.le_refl _),u1.trans (u3 H1 hu (Nat.le_refl _)),hF3,by omega⟩⟩
  | false =>
   rw [hsv] at q91
   simp (maxDischargeDepth:=8) only [↓SD,SU,SV,SW,simprocAttr,Int.cast_ofNat_Int,small,resV, q43x0,t1,t3,t4,t5,s0, s0,lt_nat,hj,l1,l2,l3,l4,l5,l6,f0',q91,hw1]
   rw [←filter_no hx hsv] at hB hG t4
   exact ih _ ⟨_,_,(H2),(ao),(mo),(cs),(_),rfl,(by simp [get_set,t1] <;> omega),(by simp [get_set,t3] <;> omega),(by simp [get_set,t4] <;> omega),(by simp [get_set,t5] <;> omega),by simp [sget_sset,s0],⟨hB,hG,hu,hu',hF2,by omega⟩⟩
 ·rintro c' s ⟨T,S,H2,ao,mo,cs,lim,rfl,t1,t3,t4,t5,s0,hp⟩
  obtain ⟨hB,hG,hu,hu',hF2,hlim⟩:=hp
  rw [List.take_length,all_eq hS] at hB hG t4
  have l5:=hB.isLoc (allP s).length mo
  simp (maxDischargeDepth:=8) only [↓SD,SU,SV,SW,simprocAttr,Int.cast_ofNat_Int,small,resV, q43x0,t1,t3,t4,t5,s0, s0,lt_nat,Nat.lt_irrefl,l1,l2,l3,l4,l5,R43,N43]
  rw [yes_some]
  exact gc_ll (hB.ll hG rfl) hu' hlim
end Go.Pi.L.Coa
set_option maxRecDepth 100000
namespace CM
end CM
namespace Go.Pi.L.Coa
open Go Go.Pi Go.Pi.L Go.Pi.Coa CM

theorem word_in (s:Sheet)(plan:List Int):(word s plan=3∧surely s plan=true)∨(word s plan=2∧surely s plan=false)∨(word s plan=1∧surely s plan=false):=by
 unfold word
 cases h:surely s plan with
 | true=>exact .inl ⟨rfl,rfl⟩
 | false =>
  cases h2:never s s.coats plan with
  | true=>exact .inr (.inr ⟨rfl,rfl⟩)
  | false=>exact .inr (.inl ⟨rfl,rfl⟩)
theorem c44 {H:Heap}{r:ShR}{s:Sheet}(hs:ShOk H r s)(hd:Small r){pa:Option Addr}{pl pk:Nat}{plan:List Int}(hq:Ints H pa pl plan)(hpl:pl < 1000)(e1:isSheet s=true)(e2:isPlan s plan=true) :
  ∀H',Grow H H'→R (.func 44) [.agg #[.slice r.da r.dl r.dk,.slice r.wa r.wl r.wk,.slice r.ca r.cl r.ck],.slice pa pl pk] H'=some ⟨.ok (.tuple #[.bool (surely s plan),.bool true]),H',H'.length⟩:=by
 intro H' hg
 refine run_k (pr 44) P44 (by simp [p44]) rfl ?_
 have k30:=c30 (pk:=pk) hs hd hq (by omega) H' hg
 rw [if_pos ⟨e1,e2⟩] at k30
 have l4:=hq.isLoc pk
 rcases word_in s plan with ⟨h1,h2⟩ | ⟨h1,h2⟩ | ⟨h1,h2⟩ <;> rw [h1] at k30 <;> rw [h2] <;> simp (maxDischargeDepth:=8) only [↓SD,SU,SV,SW,simprocAttr,Int.cast_ofNat_Int,small,resV, B44,R44,N44,b44, hs.d.isLoc,hs.w.isLoc,hs.c.isLoc,l4,k30,R44,N44]
end Go.Pi.L.Coa
