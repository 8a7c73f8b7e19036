/- Coats: all plans, as they are handed to who takes them. -/
import Derived.Test.YtjidjpcnocddeaaGreatDoorDD
set_option linter.all false
set_option maxRecDepth 100000
namespace Go.Pi.L.Coa
open Go Go.Pi Go.Pi.L Go.Pi.Coa CM

def QT (s:Sheet)(l n0:Nat)(Rd:Nat→Prop)(I Fin:List (List Int)→(Nat→Prop)→Heap→Prop)(H:Heap)(o:Out):Prop :=
 ∃H' lo A',o=⟨.ok nothing,H',lo⟩∧n0≤lo∧H.length≤H'.length∧(∀i,Rd i→H'[i]?=H[i]?)∧(allP s=[]∨lo≤l)∧(I (allP s) A' H'∨(lo≤l∧∃L1 L2,allP s=L1++L2∧L1≠[]∧Fin L1 A' H'))
theorem c135 {H:Heap}{s:Sheet}{r:ShR}{p:SpR}{l n0:Nat}{Rd:Nat→Prop}{xb:Nat}{Ok:List (List Int)→Prop}{I Fin:List (List Int)→(Nat→Prop)→Heap→Prop}(hS:ShFine s)(cons:Cons PP primsL l n0 Rd Ok I Fin)(hO:∀L1 L2,allP s=L1++L2→Ok L1)(hF:Fam H)(hI:I [] (fun _=>False) H)
  (ll:l < H.length) (n0l:n0≤l) (rdl:∀i,Rd i→i < H.length) (xR:Rd xb) (xC:hcells H xb=some (shopC r p)) (sp:SpOk H r p s) (spR:InR Rd r.da r.dl∧InR Rd r.wa r.wl∧InR Rd r.ca r.cl∧InR Rd p.la p.ll∧InR Rd p.ha p.hl) :
  Yes (R (.func 135) [.func (.yield l) #[] #[],.pointer (some ⟨xb,0,none⟩)] H) (QT s l n0 Rd I Fin H):=by
 refine run_y (pr 135) P135 (by simp [p135]) rfl ?_
 obtain ⟨Ha,hHa⟩:∃Ha,H++[({ obj:=.cells [.func (.yield l) #[] #[]] }:Blk)]++[({ obj:=.map mSh [] }:Blk)]=Ha:=⟨_,rfl⟩
 obtain ⟨Hb,hHb⟩:∃Hb,Ha++[({ obj:=.cells [.map (some (H.length+1))] }:Blk)]=Hb:=⟨_,rfl⟩
 obtain ⟨Hc,hHc⟩:∃Hc,Hb++[({ obj:=.cells [.slice none 0 0] }:Blk)]=Hc:=⟨_,rfl⟩
 obtain ⟨Hd,hHd⟩:∃Hd,Hc++[({ obj:=.cells [.func (.func 136) #[] #[.pointer (some ⟨Hb.length,0,none⟩),.pointer (some ⟨xb,0,none⟩),.pointer (some ⟨H.length,0,none⟩),.pointer (some ⟨Ha.length,0,none⟩),.pointer (some ⟨Hc.length,0,none⟩)]] }:Blk)]=Hd:=⟨_,rfl⟩
 have la:Ha.length=H.length+2:=by rw [←hHa]; simp
 have lb:Hb.length=H.length+3:=by rw [←hHb]; simp [la]
 have lc:Hc.length=H.length+4:=by rw [←hHc]; simp [lb]
 have ld:Hd.length=H.length+5:=by rw [←hHd]; simp [lc]
 have eq:Hd=H++[bx (.func (.yield l) #[] #[]),{ obj:=.map mSh [] },bx (.map (some (H.length+1))),bx (.slice none 0 0),bx (.func (.func 136) #[] #[.pointer (some ⟨Hb.length,0,none⟩),.pointer (some ⟨xb,0,none⟩),.pointer (some ⟨H.length,0,none⟩),.pointer (some ⟨Ha.length,0,none⟩),.pointer (some ⟨Hc.length,0,none⟩)])]:=by
  rw [←hHd,←hHc,←hHb,←hHa]; simp [bx]
 have u:Up H Hd:=by rw [eq]; exact (Up.refl H).app
 have at_:∀k,Hd[H.length+k]?=([bx (.func (.yield l) #[] #[]),{ obj:=.map mSh [] },bx (.map (some (H.length+1))),bx (.slice none 0 0),bx (.func (.func 136) #[] #[.pointer (some ⟨Hb.length,0,none⟩),.pointer (some ⟨xb,0,none⟩),.pointer (some ⟨H.length,0,none⟩),.pointer (some ⟨Ha.length,0,none⟩),.pointer (some ⟨Hc.length,0,none⟩)])]:List Blk)[k]?:=fun k=>by
  rw [eq,List.getElem?_append_right (by omega),Nat.add_sub_cancel_left]
 have hFd:Fam Hd:=by
  rw [←hHd,←hHc,←hHb,←hHa]
  exact ((((hF.append (fun f h=>by cases h)).append (fun f h=>by cases h)).append (fun f h=>by cases h)).append (fun f h=>by cases h)).append (fun f h=>by cases h)
 let X:Ctx:=⟨s,r,p,l,n0,Rd,xb,Hb.length,H.length,Ha.length,Hc.length,H.length+1⟩
 have e:Env X (And' (fun _=>False) H Hd) Hd []:=by
  refine ⟨fun i hi=>hi.elim (fun h=>h.elim) (fun h=>h.2),fun i b g hi hg ha=>?_,hFd,fun i hi=>hi.elim (fun h=>h.elim) (fun h=>Nat.le_trans (Nat.le_trans n0l (Nat.le_of_lt ll)) h.1),Nat.lt_of_lt_of_le ll u.len,n0l,fun i hi=>⟨fun h=>h.elim (fun h=>h.elim) (fun h=>by have:=rdl i hi; omega),Nat.lt_of_lt_of_le (rdl i hi) u.len⟩,xR,u.grow.hc xC,sp.kept spR (fun i hi=>u.old i (rdl i hi)),spR,
   .inr ⟨by show H.length≤Hb.length; omega,by show Hb.length < Hd.length; omega⟩,⟨none,0,by show Hd[Hb.length]?=_; rw [lb]; exact at_ 3,Pfx.nil _ _ _⟩,.inr ⟨by show H.length≤H.length+1; omega,by show H.length+1 < Hd.length; omega⟩,⟨[],at_ 1,fun e he=>by cases he⟩,
   .inr ⟨Nat.le_refl _,by show H.length < Hd.length; omega⟩,at_ 0,.inr ⟨by show H.length≤Ha.length; omega,by show Ha.length < Hd.length; omega⟩,by show Hd[Ha.length]?=_; rw [la]; exact at_ 2,.inr ⟨by show H.length≤Hc.length; omega,by show Hc.length < Hd.length; omega⟩,by show Hd[Hc.length]?=_; rw [lc]; exact at_ 4⟩
  by_cases h:i < H.length
  ·rw [u.old i h] at hi
   have:=hF i b g hi hg
   rcases ha with ha | ha
   ·exact ha.elim
   ·omega
  ·exact .inr ⟨by omega,(List.getElem?_eq_some_iff.1 hi).1⟩
 have hId:=cons.own _ _ _ _ hI (u.chg (A:=fun _=>False))
 have els:(restN s s.coats.length []).map ([]++·)=allP s:=by rw [restN_all]; simp
 obtain ⟨o,ho,go,H',lo,A',rfl,w1,w2,w3,kp,w5,w6⟩:=c136 (X:=X) hS cons s.coats.length [] (by simp; rfl) (by simp) [] _ Hd (fun L1 L2 h=>hO L1 L2 (els.symm.trans h)) hId e
 rw [show X.s=s from rfl,els] at w2 w5 w6
 have fc:hcells Hd Hc.length=some [.func (.func 136) #[] #[.pointer (some ⟨Hb.length,0,none⟩),.pointer (some ⟨xb,0,none⟩),.pointer (some ⟨H.length,0,none⟩),.pointer (some ⟨Ha.length,0,none⟩),.pointer (some ⟨Hc.length,0,none⟩)]]:=by
  have h4:=at_ 4
  rw [←lc] at h4
  exact bx_hc h4
 replace ho:R (.func 136) [.pointer (some ⟨Hb.length,0,none⟩),.pointer (some ⟨xb,0,none⟩),.pointer (some ⟨H.length,0,none⟩),.pointer (some ⟨Ha.length,0,none⟩),.pointer (some ⟨Hc.length,0,none⟩)] Hd=some ⟨.ok (.bool go),H',lo⟩:=ho
 have kl:=kp.len
 have krd:∀i,Rd i→H'[i]?=H[i]?:=fun i hi=>by rw [kp.rd i hi,u.old i (rdl i hi)]
 have fin:∀lo',lo'=min (min (min H.length Ha.length) Hc.length) lo∨lo'=min (min H.length Hc.length) lo∨lo'=min H.length lo∨lo'=lo→QT s l n0 Rd I Fin H (gcR H (.ok nothing) H' lo'):=fun lo' hlo'=>by
  have w1':n0≤lo:=w1
  have w2':allP s=[]∨lo≤l:=w2
  by_cases hg:H.length≤lo'
  ·rw [gc_ite hg,if_pos (by rfl)]
   have hnil:allP s=[]:=w2'.resolve_right (by omega)
   exact ⟨H,H.length,_,rfl,by omega,Nat.le_refl _,fun _ _=>rfl,.inl hnil,.inl (by rw [hnil]; exact hI)⟩
  ·rw [gc_no hg]
   refine ⟨H',lo',A',rfl,by omega,by omega,krd,w2'.imp id (fun h=>by omega),?_⟩
   cases go with
   | true=>exact .inl (by have:=(w5 rfl).1; simpa using this)
   | false =>
    obtain ⟨y1,L1,L2,y2,y3,y4⟩:=w6 rfl
    have y1':lo≤l:=y1
    exact .inr ⟨by omega,L1,L2,y2,y3,by simpa using y4⟩
 simp (maxDischargeDepth:=8) only [↓SD,SU,SV,SW,simprocAttr,Int.cast_ofNat_Int,small,resV, B135,R135,N135,b135, hHa,hHb,hHc,hHd,app_get,stH_ok,app_set,g_mkm,fc,ho,R135,N135]
 rw [yes_some]
 exact fin _ (.inl rfl)
theorem c105 {H:Heap}{r:ShR}{p:SpR}{s:Sheet}(hp:SpOk H r p s)(H':Heap):R (.func 105) [.agg #[.slice r.da r.dl r.dk,.slice r.wa r.wl r.wk,.slice r.ca r.cl r.ck,.slice p.la p.ll p.lk,.slice p.ha p.hl p.hk]] H'=some ⟨.ok (.func (.func 135) #[] #[.pointer (some ⟨H'.length,0,none⟩)]),H'++[({ obj:=.cells (shopC r p) }:Blk)],H'.length⟩:=by
 refine run_k (pr 105) P105 (by simp [p105]) rfl ?_
 unfold shopC
 obtain ⟨da,dl,dk,wa,wl,wk,ca,cl,ck⟩:=r
 obtain ⟨la,ll,lk,ha,hl,hk⟩:=p
 have hD:Spans H da dl s.dry:=hp.sh.d
 have hW:Ints H wa wl s.work:=hp.sh.w
 have hC:Spans H ca cl s.coats:=hp.sh.c
 have hLo:Ints H la ll (ps (lows s) s.dry.length):=hp.lo
 have hHi:Ints H ha hl (ps (highs s) s.dry.length):=hp.hi
 have l1:=hD.isLoc dk
 have l2:=hW.isLoc wk
 have l3:=hC.isLoc ck
 have l4:=hLo.isLoc lk
 have l5:=hHi.isLoc hk
 simp (maxDischargeDepth:=8) only [↓SD,SU,SV,SW,simprocAttr,Int.cast_ofNat_Int,small,resV, B105,R105,N105,b105, l1,l2,l3,l4,l5,R105,N105]
 rw [gc_ite (Nat.le_refl _),if_neg (by simp [flat])]
end Go.Pi.L.Coa
set_option maxRecDepth 100000
namespace Go.Pi.L
open Go Go.Pi
structure LL (H:Heap)(a:Option Addr)(l:Nat)(xss:List (List Int)):Prop where
 len:xss.length=l
 loc:a=none∨∃b off,a=some ⟨b,off,none⟩
 rd:∀(j:Nat) xs,xss[j]?=some xs→∃b off c a' m,a=some ⟨b,off,none⟩∧hcells H b=some c∧c[off+j]?=some (.slice a' xs.length m)∧Sl H 1 encN a' xs.length xs
theorem LL.grow {H H':Heap}{a:Option Addr}{l:Nat}{xss:List (List Int)}(h:LL H a l xss)(g:Grow H H'):LL H' a l xss :=
 ⟨h.len,h.loc,fun j xs hj=>by obtain ⟨b,off,c,a',m,h1,h2,h3,h4⟩:=h.rd j xs hj; exact ⟨b,off,c,a',m,h1,g.hc h2,h3,h4.grow g⟩⟩
theorem LL.isLoc {H:Heap}{a:Option Addr}{l:Nat}{xss:List (List Int)}(h:LL H a l xss)(x y:Nat):Go.Pi.isLoc (.slice a x y)=false:=by
 rcases h.loc with rfl | ⟨b,off,rfl⟩ <;> rfl
theorem LL.none {H:Heap}:LL H none 0 []:=⟨rfl,.inl rfl,fun j x h=>by simp at h⟩
theorem LL.get {H:Heap}{a:Option Addr}{l:Nat}{xss:List (List Int)}(h:LL H a l xss){j:Nat}(hj:j < l) :
  ∃b off xs a' m,a=some ⟨b,off,Option.none⟩∧xss[j]?=some xs∧(∀H',Grow H H'→rdO (hcells H' b) (off+j*1) Option.none=some (.slice a' xs.length m))∧Sl H 1 encN a' xs.length xs:=by
 have hj':j < xss.length:=by rw [h.len]; exact hj
 obtain ⟨b,off,c,a',m,h1,h2,h3,h4⟩:=h.rd j xss[j] (List.getElem?_eq_getElem hj')
 refine ⟨b,off,xss[j],a',m,h1,List.getElem?_eq_getElem hj',fun H' g=>?_,h4⟩
 rw [g.hc h2,rdO_some,rd_one,Nat.mul_one]; exact h3
structure Col (n0:Nat)(A:Nat→Prop)(H:Heap)(k:Nat)(a:Option Addr)(l m:Nat)(c:List Value):Prop where
 len:c.length=l*k
 ok:(a=none∧l=0∧m=0)∨∃b f,a=some ⟨b,0,none⟩∧m=k∧n0≤f∧f≤b∧¬A b∧¬A f∧H[b]?=some ⟨.cells c,true,true,some f⟩
theorem Col.nil (n0:Nat)(A:Nat→Prop)(H:Heap)(k:Nat):Col n0 A H k none 0 0 []:=⟨by simp,.inl ⟨rfl,rfl,rfl⟩⟩
theorem Col.isLoc {n0:Nat}{A:Nat→Prop}{H:Heap}{k:Nat}{a:Option Addr}{l m:Nat}{c:List Value}(h:Col n0 A H k a l m c)(x y:Nat):Go.Pi.isLoc (.slice a x y)=false:=by
 rcases h.ok with ⟨rfl,_⟩ | ⟨b,f,rfl,_⟩ <;> rfl
theorem Col.own {n0:Nat}{A:Nat→Prop}{H H':Heap}{k:Nat}{a:Option Addr}{l m:Nat}{c:List Value}(h:Col n0 A H k a l m c)(g:Chg A H H'):Col n0 (And' A H H') H' k a l m c :=
 ⟨h.len,by
  rcases h.ok with h | ⟨b,f,h1,h2,h3,h4,h5,h6,h7⟩
  ·exact .inl h
  ·have hb:=(List.getElem?_eq_some_iff.1 h7).1
   exact .inr ⟨b,f,h1,h2,h3,h4,fun q=>q.elim h5 fun q=>by omega,fun q=>q.elim h6 fun q=>by omega,by rw [g.old b hb h5]; exact h7⟩⟩
theorem Col.less {n0:Nat}{A B:Nat→Prop}{H:Heap}{k:Nat}{a:Option Addr}{l m:Nat}{c:List Value}(h:Col n0 A H k a l m c)(hab:∀i,B i→A i):Col n0 B H k a l m c :=
 ⟨h.len,by
  rcases h.ok with h | ⟨b,f,h1,h2,h3,h4,h5,h6,h7⟩
  ·exact .inl h
  ·exact .inr ⟨b,f,h1,h2,h3,h4,fun q=>h5 (hab b q),fun q=>h6 (hab f q),h7⟩⟩
theorem Col.same {n0:Nat}{A:Nat→Prop}{H H':Heap}{k:Nat}{a:Option Addr}{l m:Nat}{c:List Value}(h:Col n0 A H k a l m c)(hs:∀(i:Nat) b f,H[i]?=some b→b.fam=some f→H'[i]?=some b):Col n0 A H' k a l m c :=
 ⟨h.len,by
  rcases h.ok with h | ⟨b,f,h1,h2,h3,h4,h5,h6,h7⟩
  ·exact .inl h
  ·exact .inr ⟨b,f,h1,h2,h3,h4,h5,h6,hs b _ f h7 rfl⟩⟩
theorem Col.app {n0:Nat}{A:Nat→Prop}{H:Heap}{k:Nat}{a:Option Addr}{l m:Nat}{c:List Value}(h:Col n0 A H k a l m c)(hA:Lt A H)(hN:NF A H)(hF:Fam H)(hn:n0≤H.length)(hk:0 < k)(hk2:k < 1000)(hl:l < 1000)(new:List Value)(hnew:new.length=k) :
  ∃H1,(∀{α:Type} (call:CallT) (F:Ex→St→Option α) d kk T S D lo n rnd,ap1 call F (some new) (.slice a l m) k d kk ⟨T,S,D,H,lo,n,rnd⟩=nxt call F (some (.slice (some ⟨H.length,0,none⟩) (l+1) k)) d kk ⟨T,S,D,H1,lo,n,rnd⟩) ∧
   Col n0 A H1 k (some ⟨H.length,0,none⟩) (l+1) k (c++new)∧Grow H H1∧H1.length=H.length+1∧(∀i,A i→H1[i]?=H[i]?)∧(∀i,i < n0→H1[i]?=H[i]?)∧(∀(i:Nat) b,H[i]?=some b→b.fam=none→H1[i]?=some b)∧NF A H1∧Fam H1:=by
 have he:new.isEmpty=false:=by cases new with | nil=>simp at hnew; omega | cons=>rfl
 have hlen:=h.len
 have hm:new.length % k=0:=by rw [hnew]; exact Nat.mod_self _
 have hd:new.length / k=1:=by rw [hnew]; exact Nat.div_self hk
 have hlk:l*k≤1000*1000:=Nat.mul_le_mul (by omega) (by omega)
 rcases h.ok with ⟨rfl,rfl,rfl⟩ | ⟨b,f,rfl,rfl,h3,h4,h5,h6,h7⟩
 ·have hc:c=[]:=by simpa using hlen
  subst hc
  refine ⟨H++[⟨.cells new,true,true,some H.length⟩],fun call F d kk T S D lo n rnd=>?_,⟨by simp [hnew],.inr ⟨_,H.length,rfl,rfl,hn,Nat.le_refl _,fun q=>by have:=hA _ q; omega,fun q=>by have:=hA _ q; omega,by simp⟩⟩,(Up.refl H).app.grow,by simp,fun i hi=>List.getElem?_append_left (hA i hi),fun i hi=>List.getElem?_append_left (by omega),fun i b hb _=>by rw [List.getElem?_append_left (List.getElem?_eq_some_iff.1 hb).1]; exact hb,fun i b g hi hg ha=>?_,Fam.app1 hF (Nat.le_refl _)⟩
  ·rw [apA_nil _ _ _ _ _ _ _ _ _ _ hm (by omega) he,hd]
  ·by_cases hlt:i < H.length
   ·rw [List.getElem?_append_left hlt] at hi; exact hN i b g hi hg ha
   ·have hi2:=(List.getElem?_eq_some_iff.1 hi).1
    simp at hi2
    obtain rfl:i=H.length:=by omega
    rw [app_get] at hi; cases hi; cases hg
    have:=hA _ ha; omega
 ·have hb:=(List.getElem?_eq_some_iff.1 h7).1
  have old:∀i,i < H.length→i≠b→(H.set b ⟨.cells c,true,false,some f⟩++[⟨.cells (c++new),true,true,some f⟩])[i]?=H[i]?:=fun i hi hne=>by
   rw [List.getElem?_append_left (by simpa using hi),List.getElem?_set_ne (fun e=>hne e.symm)]
  refine ⟨H.set b ⟨.cells c,true,false,some f⟩++[⟨.cells (c++new),true,true,some f⟩],fun call F d kk T S D lo n rnd=>?_,⟨by simp [hnew,hlen,Nat.add_mul],.inr ⟨_,f,rfl,rfl,h3,by omega,fun q=>by have:=hA _ q; omega,h6,by rw [List.getElem?_append_right (by simp)]; simp⟩⟩,grow_app (grow_tip h7),by simp,fun i hi=>old i (hA i hi) (fun e=>h5 (by rw [←e]; exact hi)),fun i hi=>old i (by omega) (by omega),fun i b0 hi hb0=>by
   rw [old i (List.getElem?_eq_some_iff.1 hi).1 (fun e=>by subst e; rw [h7] at hi; cases hi; cases hb0)]; exact hi,fun i b0 g hi hg ha=>?_,?_⟩
  ·rw [apA_tip]
   simp only [h7]
   rw [apB_ok _ _ _ _ _ _ _ _ _ _ _ _ _ _ hm (by omega) he hk hlen.symm,hd]
  ·by_cases hlt:i < H.length
   ·by_cases e:i=b
    ·subst e
     rw [List.getElem?_append_left (by simpa using hlt),List.getElem?_set_self hlt] at hi
     cases hi; cases hg; exact absurd ha h6
    ·rw [old i hlt e] at hi; exact hN i b0 g hi hg ha
   ·have hi2:=(List.getElem?_eq_some_iff.1 hi).1
    simp at hi2
    obtain rfl:i=H.length:=by omega
    rw [List.getElem?_append_right (by simp)] at hi
    simp at hi; subst hi; cases hg; exact absurd ha h6
  ·refine Fam.app1 (hF.set (b:=⟨.cells c,true,false,some f⟩) h7 rfl) ?_
   simp only [List.length_set]; omega
end Go.Pi.L
set_option maxRecDepth 100000
namespace Go.Pi.L.Coa
open Go Go.Pi Go.Pi.L Go.Pi.Coa CM

def as154:PCode:=.reg [⟨some 5,.v .mv [.tmp 7],none⟩]
def bd154:PCode:=.blk 1 (.reg [⟨some 8,.ld none (.tmp 2),none⟩,⟨some 9,.v .mv [.tmp 5],none⟩,⟨some 10,.lbs 23 1 [.slice none 0 0] 1 [(0,.tmp 9)],none⟩,⟨some 11,.app 23 1 (.tmp 8) (.tmp 10),none⟩,⟨none,.st 1 (.tmp 2) (.tmp 11),none⟩])
theorem k_as154 {α:Type}{call:CallT}{F:Ex→St→Option α}{k:List It}{s:St}:mach call F (.code as154 :: k) none s=mach call F (.code (.reg [⟨some 5,.v .mv [.tmp 7],none⟩]) :: k) none s:=rfl
theorem k_bd154 {α:Type}{call:CallT}{F:Ex→St→Option α}{k:List It}{s:St}:mach call F (.code bd154 :: k) none s=mach call F (.code (.blk 1 (.reg [⟨some 8,.ld none (.tmp 2),none⟩,⟨some 9,.v .mv [.tmp 5],none⟩,⟨some 10,.lbs 23 1 [.slice none 0 0] 1 [(0,.tmp 9)],none⟩,⟨some 11,.app 23 1 (.tmp 8) (.tmp 10),none⟩,⟨none,.st 1 (.tmp 2) (.tmp 11),none⟩])) :: k) none s:=rfl
def lpB (n:Nat)(T:List Value)(ps:List Tmp)(a b:PCode)(d:Nat)(st:LoopState)(pd:Option Ex):Blk:=⟨.loop n T ps a b d st pd,true,true,none⟩
def Got (A:Nat→Prop)(H:Heap)(cs:List Value)(acc:List (List Int)):Prop :=
 ∀(j:Nat) xs,acc[j]?=some xs→∃b,cs[j]?=some (.slice (some ⟨b,0,none⟩) xs.length 1)∧¬A b∧Ints H (some ⟨b,0,none⟩) xs.length xs
theorem Got.own {A:Nat→Prop}{H H':Heap}{cs:List Value}{acc:List (List Int)}(h:Got A H cs acc)(h0:∀xs∈acc,0 < xs.length)(c:Chg A H H'):Got (And' A H H') H' cs acc:=fun j xs hj=>by
 obtain ⟨b,h1,h2,h3⟩:=h j xs hj
 refine ⟨b,h1,fun q=>q.elim h2 fun q=>?_,h3.chg c fun b' off e=>by cases e; exact h2⟩
 obtain ⟨b',off,x,e1,e2,f⟩:=h3.at encI_len (by decide) (h0 xs (List.mem_of_getElem? hj))
 have:=Sl.inR h3 (h0 xs (List.mem_of_getElem? hj)) b 0 rfl
 omega
def CI (n0 b2 d l:Nat)(T:List Value)(acc:List (List Int))(A:Nat→Prop)(H:Heap):Prop :=
 ∃a m cs,H[b2]?=some (bx (.slice a acc.length m))∧¬A b2∧Col n0 A H 1 a acc.length m cs∧Got A H cs acc∧(∀xs∈acc,0 < xs.length)∧H[l]?=some (lpB 13 T [7] as154 bd154 d .ready none)∧¬A l∧H[d]?=some ⟨.dfr false,true,true,none⟩∧¬A d∧acc.length < 900
theorem lt_of_get {H:Heap}{i:Nat}{b:Blk}(h:H[i]?=some b):i < H.length:=(List.getElem?_eq_some_iff.1 h).1
theorem not_and {A:Nat→Prop}{H H':Heap}{i:Nat}(h:¬A i)(hl:i < H.length):¬And' A H H' i:=fun q=>q.elim h fun q=>by omega
theorem CI.own {n0 b2 d l:Nat}{T:List Value}{acc:List (List Int)}{A:Nat→Prop}{H H':Heap}(h:CI n0 b2 d l T acc A H)(c:Chg A H H'):CI n0 b2 d l T acc (And' A H H') H':=by
 obtain ⟨a,m,cs,h1,h2,h3,h4,h5,h6,h7,h8,h9,h10⟩:=h
 exact ⟨a,m,cs,by rw [c.old _ (lt_of_get h1) h2]; exact h1,not_and h2 (lt_of_get h1),h3.own c,h4.own h5 c,h5,by rw [c.old _ (lt_of_get h6) h7]; exact h6,not_and h7 (lt_of_get h6),by rw [c.old _ (lt_of_get h8) h9]; exact h8,not_and h9 (lt_of_get h8),h10⟩
theorem CI.less {n0 b2 d l:Nat}{T:List Value}{acc:List (List Int)}{A B:Nat→Prop}{H:Heap}(h:CI n0 b2 d l T acc A H)(hab:∀i,B i→A i):CI n0 b2 d l T acc B H:=by
 obtain ⟨a,m,cs,h1,h2,h3,h4,h5,h6,h7,h8,h9,h10⟩:=h
 exact ⟨a,m,cs,h1,fun q=>h2 (hab _ q),h3.less hab,fun j xs hj=>by obtain ⟨b,g1,g2,g3⟩:=h4 j xs hj; exact ⟨b,g1,fun q=>g2 (hab _ q),g3⟩,h5,h6,fun q=>h7 (hab _ q),h8,fun q=>h9 (hab _ q),h10⟩
theorem Sl.mv {β:Type}{H H':Heap}{k:Nat}{enc:β→List Value}{b off l:Nat}{xs:List β}(h:Sl H k enc (some ⟨b,off,none⟩) l xs)(hb:∀c,hcells H b=some c→hcells H' b=some c):Sl H' k enc (some ⟨b,off,none⟩) l xs :=
 ⟨h.len,h.loc,fun j x hx=>by obtain ⟨b',off',c,h1,h2,h3⟩:=h.rd j x hx; cases h1; exact ⟨b,off,c,rfl,hb c h2,h3⟩⟩
theorem ints_ne {H:Heap}{b l b2:Nat}{xs:List Int}{a':Option Addr}{l' m':Nat}{c':List Value}(h:Ints H (some ⟨b,0,none⟩) l xs)(h0:0 < xs.length)(h2:hcells H b2=some (.slice a' l' m' :: c')):b≠b2:=by
 intro e
 subst e
 obtain ⟨b',off,c,e1,e2,e3⟩:=Sl.rd h 0 xs[0] (List.getElem?_eq_getElem h0)
 cases e1
 rw [h2] at e2; cases e2
 simp [encI] at e3
theorem CI.step {n0 b2 d l:Nat}{T:List Value}(hT:get T 2=.pointer (some ⟨b2,0,none⟩))(h0:n0≤b2)(hl0:n0≤l)(hbl:b2≠l)(hdl:d≠l)(hbd:b2≠d){acc:List (List Int)}{A:Nat→Prop}{H:Heap}{p:List Int}{b:Nat}(hp0:0 < p.length)(hac:acc.length < 890)
  (hI:CI n0 b2 d l T acc A H) (hA:Lt A H) (hN:NF A H) (hF:Fam H) (hs:Sl H 1 encN (some ⟨b,0,none⟩) p.length p) (hb:¬A b) :
  ∃go H' lo,R (.yield l) [.slice (some ⟨b,0,none⟩) p.length 1] H=some ⟨.ok (.bool go),H',lo⟩∧n0≤lo∧lo≤l∧H.length≤H'.length∧(∀i,A i∨i < n0→H'[i]?=H[i]?)∧NF A H'∧(go=true→CI n0 b2 d l T (acc++[p]) A H')∧(go=false→False):=by
 obtain ⟨a,m,cs,h1,h2,h3,h4,h5,h6,h7,h8,h9,h10⟩:=hI
 have hlt:=lt_of_get h6
 have hlb:=lt_of_get h1
 obtain ⟨H1,hH1⟩:∃H1,H.set l { obj:=.loop 13 T [7] as154 bd154 d .busy none }=H1:=⟨_,rfl⟩
 have old1:∀i,i≠l→H1[i]?=H[i]?:=fun i hi=>by rw [←hH1,List.getElem?_set_ne (fun e=>hi e.symm)]
 have l1:H1[l]?=some (lpB 13 T [7] as154 bd154 d .busy none):=by rw [←hH1,List.getElem?_set_self hlt]; rfl
 have len1:H1.length=H.length:=by rw [←hH1]; simp
 have fl:∀(i:Nat) b f,H[i]?=some b→b.fam=some f→H1[i]?=some b:=fun i b f hi hf=>by
  rw [old1 i (fun e=>by subst e; rw [h6] at hi; cases hi; cases hf)]; exact hi
 have c1:=h3.same fl
 have nf1:NF A H1:=fun i b g hi hg ha=>by
  by_cases e:i=l
  ·subst e; rw [l1] at hi; cases hi; cases hg
  ·rw [old1 i e] at hi; exact hN i b g hi hg ha
 have hF1:Fam H1:=by rw [←hH1]; exact hF.set h6 rfl
 have g1:Grow H H1:=⟨by omega,fun {b c} hb=>by
  by_cases e:b=l
  ·subst e; simp [hcells,h6,lpB] at hb
  ·unfold hcells at hb ⊢; rw [old1 b e]; exact hb⟩
 obtain ⟨H2,q1,c2,g2,len2,a2,o2,f2,nf2,hF2⟩:=c1.app (hA.chg (by omega)) nf1 hF1 (by omega) (by decide) (by decide) (by omega) [.slice (some ⟨b,0,none⟩) p.length 1] rfl
 have b1:hcells H1 b2=some [.slice a acc.length m]:=by rw [hc_kept (old1 b2 hbl)]; exact bx_hc h1
 have b2':H2[b2]?=some ⟨.cells [.slice a acc.length m],true,true,none⟩:=f2 _ _ (by rw [old1 b2 hbl]; exact h1) rfl
 obtain ⟨H3,hH3⟩:∃H3,H2.set b2 { obj:=.cells [.slice (some ⟨H1.length,0,none⟩) (acc.length+1) 1] }=H3:=⟨_,rfl⟩
 have old3:∀i,i≠b2→H3[i]?=H2[i]?:=fun i hi=>by rw [←hH3,List.getElem?_set_ne (fun e=>hi e.symm)]
 have l3:H3[l]?=some (lpB 13 T [7] as154 bd154 d .busy none):=by rw [old3 l (fun e=>hbl e.symm)]; exact f2 _ _ l1 rfl
 have l3':H3[l]?=some ⟨.loop 13 T [7] as154 bd154 d .busy none,true,true,none⟩:=l3
 have h6':H[l]?=some ⟨.loop 13 T [7] as154 bd154 d .ready none,true,true,none⟩:=h6
 have la:=c1.isLoc acc.length m
 have len3:H3.length=H2.length:=by rw [←hH3]; simp
 have key:Yes (R (.yield l) [.slice (some ⟨b,0,none⟩) p.length 1] H) (fun o=>∃lo,o=⟨.ok (.bool true),H3.set l { obj:=.loop 13 T [7] as154 bd154 d .ready none },lo⟩∧n0≤lo∧lo≤l):=by
  refine run_yl h6' rfl rfl ?_
  simp (maxDischargeDepth:=8) only [↓SD,SU,SV,SW,simprocAttr,Int.cast_ofNat_Int,small,resV,k_as154,setParams,yA_n h6',hH1,k_bd154,hT,b1,la,q1,b2',stH_ok,hH3,yE_n l3']
  rw [yes_some]
  exact ⟨_,rfl,by omega,by omega⟩
 obtain ⟨o,ho,lo,rfl,w1,w2⟩:=key
 obtain ⟨H4,hH4⟩:∃H4,H3.set l { obj:=.loop 13 T [7] as154 bd154 d .ready none }=H4:=⟨_,rfl⟩
 rw [hH4] at ho
 have old4:∀i,i≠l→i≠b2→H4[i]?=H2[i]?:=fun i h1 h2=>by rw [←hH4,List.getElem?_set_ne (fun e=>h1 e.symm),old3 i h2]
 have l4:H4[l]?=some (lpB 13 T [7] as154 bd154 d .ready none):=by rw [←hH4,List.getElem?_set_self (by omega)]; rfl
 have b4:H4[b2]?=some (bx (.slice (some ⟨H1.length,0,none⟩) (acc.length+1) 1)):=by rw [←hH4,List.getElem?_set_ne (fun e=>hbl e.symm),←hH3,List.getElem?_set_self (by omega)]; rfl
 have b2f:H2[l]?=some (lpB 13 T [7] as154 bd154 d .busy none):=f2 _ _ l1 rfl
 have hc4:∀{i:Nat} {c:List Value},hcells H i=some c→i≠b2→hcells H4 i=some c:=fun {i c} h hi=>by
  have hil:i≠l:=fun e=>by subst e; simp [hcells,h6,lpB] at h
  rw [hc_kept (old4 i hil hi)]; exact g2.hc (g1.hc h)
 have fam4:∀(i:Nat) b f,H2[i]?=some b→b.fam=some f→H4[i]?=some b:=fun i b f hi hf=>by
  rw [old4 i (fun e=>by subst e; rw [b2f] at hi; cases hi; cases hf) (fun e=>by subst e; rw [b2'] at hi; cases hi; cases hf)]; exact hi
 have hcb2:=bx_hc h1
 refine ⟨true,H4,lo,ho,w1,w2,by rw [←hH4,List.length_set]; omega,fun i hi=>?_,fun i b g hi hg ha=>?_,fun _=>?_,fun h=>by cases h⟩
 ·rcases hi with hi | hi
  ·rw [old4 i (fun e=>h7 (by rw [←e]; exact hi)) (fun e=>h2 (by rw [←e]; exact hi)),a2 i hi,old1 i (fun e=>h7 (by rw [←e]; exact hi))]
  ·rw [old4 i (by omega) (by omega),o2 i hi,old1 i (by omega)]
 ·by_cases e1:i=l
  ·subst e1; rw [l4] at hi; cases hi; cases hg
  ·by_cases e2:i=b2
   ·subst e2; rw [b4] at hi; cases hi; cases hg
   ·rw [old4 i e1 e2] at hi; exact nf2 i b g hi hg ha
 ·have hcs:cs.length=acc.length:=by have:=h3.len; omega
  refine ⟨some ⟨H1.length,0,none⟩,1,cs++[.slice (some ⟨b,0,none⟩) p.length 1],by rw [List.length_append,List.length_singleton]; exact b4,h2,by rw [List.length_append,List.length_singleton]; exact c2.same fam4,fun j xs hj=>?_,fun xs hx=>?_,l4,h7,by rw [old4 d hdl (fun e=>hbd e.symm)]; exact f2 _ _ (by rw [old1 d hdl]; exact h8) rfl,h9,by rw [List.length_append,List.length_singleton]; omega⟩
  ·by_cases hjl:j < acc.length
   ·rw [List.getElem?_append_left hjl] at hj
    obtain ⟨bj,g1',g2',g3'⟩:=h4 j xs hj
    refine ⟨bj,by rw [List.getElem?_append_left (by omega)]; exact g1',g2',Sl.mv g3' fun c hc=>hc4 hc (ints_ne g3' (h5 xs (List.mem_of_getElem? hj)) hcb2)⟩
   ·have hjlt:=(List.getElem?_eq_some_iff.1 hj).1
    simp at hjlt
    obtain rfl:j=acc.length:=by omega
    rw [List.getElem?_append_right (Nat.le_refl _)] at hj
    simp at hj
    subst hj
    have hs':Ints H (some ⟨b,0,none⟩) p.length p:=hs
    refine ⟨b,by rw [←hcs,List.getElem?_append_right (Nat.le_refl _)]; simp,hb,Sl.mv hs' fun c hc=>hc4 hc (ints_ne hs' hp0 hcb2)⟩
  ·rcases List.mem_append.1 hx with hx | hx
   ·exact h5 xs hx
   ·rw [List.mem_singleton.1 hx]; exact hp0
end Go.Pi.L.Coa
set_option maxRecDepth 100000
namespace Go.Pi.L
open Go Go.Pi
section
variable {PP:FuncId→Option PFunc} {prims:Prims} {α:Type} {call:CallT} {F:Ex→St→Option α} {k:List It}
theorem rfA_some (g args ps a b T S D H lo n rnd):rfA call F (some (.func g,args)) ps a b k ⟨T,S,D,H,lo,n,rnd⟩=rfR call F (call (.func g) args (H++[{ obj:=.dfr false }]++[{ obj:=.loop n (T.map deloc) ps a b H.length .ready none }])) k ⟨T,S,D,H,lo,n,rnd⟩:=rfl
theorem rfR_n (v H' lo' T S D H lo n rnd){n' T' ps a b d}(h:H'[H.length+1]?=some ⟨.loop n' T' ps a b d .ready none,true,true,none⟩):rfR call F (some ⟨.ok v,H',lo'⟩) k ⟨T,S,D,H,lo,n,rnd⟩ =
  mach call F k none ⟨T,S,.coll H.length :: D,H'.set (H.length+1) { obj:=.loop n' T' ps a b d .exhausted none },min lo lo',n,rnd⟩:=by
 simp only [rfR,h,rfS]; rfl
theorem unw_coll (r ds pv T S D H lo n rnd)(h:H[r]?=some ⟨.dfr false,true,true,none⟩):unwL PP prims call (.coll r :: ds) pv ⟨T,S,D,H,lo,n,rnd⟩=unwL PP prims call ds pv ⟨T,S,D,H.set r { obj:=.dfr true },min lo r,n,rnd⟩:=by
 simp only [unwL,h,setB]
theorem fa_clo1 (f v y)(hl:isLoc v=false):fnArgs (.func (.func f) #[] #[y]) [v]=some (.func f,[v,y]):=rfl
end
def QL (H:Heap)(xss:List (List Int))(o:Out):Prop :=
 ∃a m H1 lo,o=⟨.ok (.slice a xss.length m),H1,lo⟩∧Up H H1∧H.length≤lo∧LL H1 a xss.length xss
theorem gc_ll {H H1:Heap}{m lo:Nat}{a:Option Addr}{l:Nat}{xss:List (List Int)}(hs:LL H1 a l xss)(hu:Up H H1)(h:H.length≤lo):QL H xss (gcR H (.ok (.slice a l m)) H1 lo):=by
 obtain rfl:=hs.len
 rw [gc_ite h]
 split
 ·rename_i hf
  obtain ⟨rfl,h1,rfl⟩:=flat_sl hf
  have:xss=[]:=List.eq_nil_of_length_eq_zero h1
  subst this
  exact ⟨none,0,H,H.length,rfl,Up.refl H,Nat.le_refl _,LL.none⟩
 ·exact ⟨a,m,H1,lo,rfl,hu,h,hs⟩
end Go.Pi.L
namespace Go.Pi.L.Coa
open Go Go.Pi Go.Pi.L Go.Pi.Coa CM

def Ok (L:List (List Int)):Prop:=(∀xs∈L,0 < xs.length)∧L.length < 890
theorem ok_all {s:Sheet}(hS:ShFine s):∀L1 L2,allP s=L1++L2→Ok L1:=fun L1 L2 h=>by
 refine ⟨fun xs hx=>?_,?_⟩
 ·have hm:xs∈allP s:=by rw [h]; exact List.mem_append_left _ hx
  have:=(plan_of hS ((mem_allP hS).1 hm).1).len
  have:=hS.c1; omega
 ·have:=allP_len hS
  rw [h,List.length_append] at this
  omega
theorem consC {n0 b2 d l:Nat}{T:List Value}(hT:get T 2=.pointer (some ⟨b2,0,none⟩))(h0:n0≤b2)(hl0:n0≤l)(hbl:b2≠l)(hdl:d≠l)(hbd:b2≠d):Cons PP primsL l n0 (· < n0) Ok (CI n0 b2 d l T) (fun _ _ _=>False) :=
 ⟨fun _ _ _ _ h c=>h.own c,fun _ _ _ _ h g=>h.less g,fun _ _ _ _ h _=>h,fun acc A H p b hok hI hA hN hF hs hb =>
  CI.step hT h0 hl0 hbl hdl hbd (hok.1 p (by simp)) (by have:=hok.2; simp at this; omega) hI hA hN hF hs hb⟩
theorem c154 {H:Heap}{r:ShR}{p:SpR}{s:Sheet}(hp:SpOk H r p s)(hS:ShFine s)(hF:Fam H){xb:Nat}(hx:hcells H xb=some (shopC r p)) :
  Yes (R (.func 154) [.slice none 0 0,.func (.func 135) #[] #[.pointer (some ⟨xb,0,none⟩)]] H) (QL H (allP s)):=by
 refine run_y (pr 154) P154 (by simp [p154]) rfl ?_
 obtain ⟨H0,hH0⟩:∃H0,H++[({ obj:=.cells [.slice none 0 0] }:Blk)]=H0:=⟨_,rfl⟩
 have u0:Up H H0:=by rw [←hH0]; exact (Up.refl H).app
 have len0:H0.length=H.length+1:=by rw [←hH0]; simp
 obtain ⟨T,hT⟩:∃T,List.map deloc [.slice none 0 0,.func (.func 135) #[] #[.pointer (some ⟨xb,0,none⟩)],.pointer (some ⟨H.length,0,none⟩),undef,.slice none 0 0,undef,.func (.func 135) #[] #[.pointer (some ⟨xb,0,none⟩)]]=T:=⟨_,rfl⟩
 obtain ⟨Hl,hHl⟩:∃Hl,H0++[({ obj:=.dfr false }:Blk)]++[({ obj:=.loop 13 T [7] (.reg [⟨some 5,.v .mv [.tmp 7],none⟩]) (.blk 1 (.reg [⟨some 8,.ld none (.tmp 2),none⟩,⟨some 9,.v .mv [.tmp 5],none⟩,⟨some 10,.lbs 23 1 [.slice none 0 0] 1 [(0,.tmp 9)],none⟩,⟨some 11,.app 23 1 (.tmp 8) (.tmp 10),none⟩,⟨none,.st 1 (.tmp 2) (.tmp 11),none⟩])) H0.length .ready none }:Blk)]=Hl:=⟨_,rfl⟩
 have ul:Up H0 Hl:=by rw [←hHl]; exact (Up.refl H0).app.app
 have lenl:Hl.length=H0.length+2:=by rw [←hHl]; simp
 have u:=u0.trans ul
 have bd:Hl[H0.length]?=some ⟨.dfr false,true,true,none⟩:=by rw [←hHl,List.append_assoc,List.getElem?_append_right (Nat.le_refl _)]; simp
 have bl:Hl[H0.length+1]?=some (lpB 13 T [7] as154 bd154 H0.length .ready none):=by rw [←hHl,List.append_assoc,List.getElem?_append_right (by omega),Nat.add_sub_cancel_left]; rfl
 have bb:Hl[H.length]?=some (bx (.slice none 0 0)):=by rw [ul.old _ (by omega),←hH0]; exact app_get
 have hFl:Fam Hl:=by
  rw [←hHl,←hH0]
  exact ((hF.append (fun f h=>by cases h)).append (fun f h=>by cases h)).append (fun f h=>by cases h)
 have tT:get T 2=.pointer (some ⟨H.length,0,none⟩):=by rw [←hT]; rfl
 have spR:InR (· < H.length) r.da r.dl∧InR (· < H.length) r.wa r.wl∧InR (· < H.length) r.ca r.cl∧InR (· < H.length) p.la p.ll∧InR (· < H.length) p.ha p.hl:=⟨Sl.inR hp.sh.d,Sl.inR hp.sh.w,Sl.inR hp.sh.c,Sl.inR hp.lo,Sl.inR hp.hi⟩
 have hI:CI H.length H.length H0.length (H0.length+1) T [] (fun _=>False) Hl:=⟨none,0,[],bb,id,Col.nil _ _ _ _,fun j xs h=>(by simp at h),fun xs h=>(by cases h),bl,id,bd,id,by simp⟩
 obtain ⟨o,ho,H',lo,A',rfl,w1,w2,w3,w4,w5⟩:=c135 (Rd:=(· < H.length)) hS (consC tT (Nat.le_refl _) (by omega) (by omega) (by omega) (by omega)) (ok_all hS) hFl hI (by omega) (by omega) (fun i (hi:i < H.length)=>by omega) (hc_lt hx) (u.grow.hc hx) (hp.grow u.grow) spR
 obtain ⟨a,m,cs,h1,h2,h3,h4,h5,h6,h7,h8,h9,h10⟩:=w5.resolve_right (fun ⟨_,_,_,_,_,h⟩=>h)
 have lo':H.length≤lo:=w1
 obtain ⟨H2,hH2⟩:∃H2,H'.set (H0.length+1) { obj:=.loop 13 T [7] as154 bd154 H0.length .exhausted none }=H2:=⟨_,rfl⟩
 obtain ⟨H3,hH3⟩:∃H3,H2.set H0.length { obj:=.dfr true }=H3:=⟨_,rfl⟩
 have old:∀i,i≠H0.length+1→i≠H0.length→H3[i]?=H'[i]?:=fun i e1 e2=>by rw [←hH3,List.getElem?_set_ne (fun e=>e2 e.symm),←hH2,List.getElem?_set_ne (fun e=>e1 e.symm)]
 have d2:H2[H0.length]?=some ⟨.dfr false,true,true,none⟩:=by rw [←hH2,List.getElem?_set_ne (by omega)]; exact h8
 have b2:hcells H2 H.length=some [.slice a (allP s).length m]:=by
  have:H2[H.length]?=H'[H.length]?:=by rw [←hH2,List.getElem?_set_ne (by omega)]
  rw [hc_kept this]; exact bx_hc h1
 have h6':H'[H0.length+1]?=some ⟨.loop 13 T [7] as154 bd154 H0.length .ready none,true,true,none⟩:=h6
 have la:=h3.isLoc (allP s).length m
 have len3:H3.length=H'.length:=by rw [←hH3,←hH2]; simp
 have uf:Up H H3:=⟨by have:=u.len; omega,fun i hi=>by rw [old i (by omega) (by omega),w3 i hi,u.old i hi]⟩
 have hc3:∀{i:Nat} {c:List Value},hcells H' i=some c→hcells H3 i=some c:=fun {i c} h=>by
  rw [hc_kept (old i (fun e=>by subst e; simp [hcells,h6,lpB] at h) (fun e=>by subst e; simp [hcells,h8] at h))]; exact h
 have hll:LL H3 a (allP s).length (allP s):=by
  refine ⟨rfl,?_,fun j xs hj=>?_⟩
  ·rcases h3.ok with ⟨h,_⟩ | ⟨b,f,h,_⟩
   ·exact .inl h
   ·exact .inr ⟨b,0,h⟩
  ·obtain ⟨b',g1,_,g3⟩:=h4 j xs hj
   rcases h3.ok with ⟨_,h,_⟩ | ⟨b,f,hb,_,_,_,_,_,hB⟩
   ·have:=(List.getElem?_eq_some_iff.1 hj).1; omega
   ·exact ⟨b,0,cs,_,_,hb,hc3 (by simp [hcells,hB]),by rw [Nat.zero_add]; exact g1,Sl.mv g3 fun c hc=>hc3 hc⟩
 simp (maxDischargeDepth:=8) only [↓SD,SU,SV,SW,simprocAttr,Int.cast_ofNat_Int,small,resV, B154,R154,N154,b154, hH0,k_rf,rfA_some,fa_clo1,hT,hHl,ho,rfR_n _ _ _ _ _ _ _ _ _ _ h6',hH2,b2,la,R154,N154,unw_coll,d2,hH3]
 rw [yes_some]
 exact gc_ll hll uf (by omega)
theorem c131 {H:Heap}{r:ShR}{p:SpR}{s:Sheet}(hp:SpOk H r p s)(hS:ShFine s)(hF:Fam H){xb:Nat}(hx:hcells H xb=some (shopC r p)) :
  Yes (R (.func 131) [.func (.func 135) #[] #[.pointer (some ⟨xb,0,none⟩)]] H) (QL H (allP s)):=by
 refine run_y (pr 131) P131 (by simp [p131]) rfl ?_
 obtain ⟨o,ho,a,m,H1,lo,rfl,u,hlo,hl⟩:=c154 hp hS hF hx
 have l1:=hl.isLoc (allP s).length m
 have hlo':H.length≤lo:=hlo
 simp (maxDischargeDepth:=8) only [↓SD,SU,SV,SW,simprocAttr,Int.cast_ofNat_Int,small,resV, B131,R131,N131,b131, ho,l1,R131,N131]
 rw [yes_some]
 exact gc_ll hl u (by omega)
def QLP (H:Heap)(xss:List (List Int))(y:Value)(o:Out):Prop :=
 ∃a m H1 lo,o=⟨.ok (.tuple #[.slice a xss.length m,y]),H1,lo⟩∧Up H H1∧H.length≤lo∧LL H1 a xss.length xss
theorem gc_llp {H H1:Heap}{m lo:Nat}{a:Option Addr}{l:Nat}{xss:List (List Int)}{y:Value}(hs:LL H1 a l xss)(hu:Up H H1)(h:H.length≤lo):QLP H xss y (gcR H (.ok (.tuple #[.slice a l m,y])) H1 lo):=by
 obtain rfl:=hs.len
 rw [gc_ite h]
 split
 ·rename_i hf
  have hf':flat 3 (.slice a xss.length m)=true∧flat 3 y=true:=by simpa [flat] using hf
  obtain ⟨rfl,h1,rfl⟩:=flat_sl hf'.1
  have:xss=[]:=List.eq_nil_of_length_eq_zero h1
  subst this
  exact ⟨none,0,H,H.length,rfl,Up.refl H,Nat.le_refl _,LL.none⟩
 ·exact ⟨a,m,H1,lo,rfl,hu,h,hs⟩
def errV (e:Int):Value:=.tuple #[.slice none 0 0,.int .i64 e]
theorem c89 {H:Heap}{r:ShR}{s:Sheet}(hs:ShOk H r s)(hd:Small r)(ne:Int):∀H',Grow H H'→Fam H'→Yes (R (.func 89) [.agg #[.slice r.da r.dl r.dk,.slice r.wa r.wl r.wk,.slice r.ca r.cl r.ck],.int .i64 ne] H') (fun o =>
  if isSheet s=true then (if allP s=[] then o=⟨.ok (errV ne),H',H'.length⟩ else QLP H' (allP s) (.int .i64 0) o) else o=⟨.ok (errV 2),H',H'.length⟩):=by
 intro H' hg hF
 refine run_y (pr 89) P89 (by simp [p89]) rfl ?_
 have k1:=c75 hs hd H' hg
 cases e1:isSheet s with
 | false =>
  simp only [Bool.false_eq_true,if_false]
  simp (maxDischargeDepth:=8) only [↓SD,SU,SV,SW,simprocAttr,Int.cast_ofNat_Int,small,resV, B89,R89,N89,b89, hs.d.isLoc,hs.w.isLoc,hs.c.isLoc,k1,e1,R89,N89]
  rw [yes_some]; rfl
 | true =>
 simp only [if_true]
 have hS:=fine_of e1
 have hdl:r.dl=s.dry.length:=hs.d.len.symm
 obtain ⟨o,ho,la,lc,ha,hc,H1,lo,rfl,hu,hlo,i1,i2⟩:=c78 hs hd hS H' hg
 have hg1:=hg.trans hu.grow
 have hF1:Fam H1:=famR ho hF
 have i1':=i1
 have i2':=i2
 rw [hdl] at i1 i2
 have hp:SpOk H1 r ⟨la,_,lc,ha,_,hc⟩ s:=⟨hs.grow hg1,i1,i2⟩
 have k105:=c105 hp H1
 obtain ⟨H2,hH2⟩:∃H2,H1++[({ obj:=.cells (shopC r ⟨la,s.dry.length+1,lc,ha,s.dry.length+1,hc⟩) }:Blk)]=H2:=⟨_,rfl⟩
 rw [hH2] at k105
 have u2:Up H1 H2:=by rw [←hH2]; exact (Up.refl H1).app
 have hF2:Fam H2:=famR k105 hF1
 have hx:hcells H2 H1.length=some (shopC r ⟨la,s.dry.length+1,lc,ha,s.dry.length+1,hc⟩):=by rw [←hH2]; exact hc_new _ _ _
 obtain ⟨o,k131,a,m,H3,lo3,rfl,u3,hlo3,hl⟩:=c131 (hp.grow u2.grow) hS hF2 hx
 have l6:=i1.isLoc lc
 have l7:=i2.isLoc hc
 have l8:=hl.isLoc (allP s).length m
 have n1:=hu.len
 have n2:=u2.len
 have n3:=u3.len
 have n4:H'.length≤lo:=hlo
 have n5:H2.length≤lo3:=hlo3
 have n6:H'.length≤lo3:=by omega
 have n7:H'.length≤H2.length:=by omega
 have n8:H'.length≤H3.length:=by omega
 rw [←hdl] at l6 l7 k105
 obtain ⟨da,dl,dk,wa,wl,wk,ca,cl,ck⟩:=r
 have hD:Spans H da dl s.dry:=hs.d
 have hW:Ints H wa wl s.work:=hs.w
 have hC:Spans H ca cl s.coats:=hs.c
 have nD:dl < 1000000:=hd.d
 have nW:wl < 1000000:=hd.w
 have nC:cl < 1000000:=hd.c
 have l1:=hD.isLoc dk
 have l2:=hW.isLoc wk
 have l3:=hC.isLoc ck
 simp only at ho k1 hdl k105 l6 l7
 by_cases hn:allP s=[]
 ·have z:(((allP s).length:Int)=0)=True:=by simp [hn]
  simp only [if_pos hn]
  simp (maxDischargeDepth:=8) only [↓SD,SU,SV,SW,simprocAttr,Int.cast_ofNat_Int,small,resV, B89,R89,N89,b89, l1,l2,l3,l6,l7,l8,k1,e1,ho,k105,k131,z,n1,n2,n3,n4,n5,n6,n7,n8,R89,N89]
  rw [yes_some]; rfl
 ·have z:(((allP s).length:Int)=0)=False:=by simp [hn]
  simp only [if_neg hn]
  simp (maxDischargeDepth:=8) only [↓SD,SU,SV,SW,simprocAttr,Int.cast_ofNat_Int,small,resV, B89,R89,N89,b89, l1,l2,l3,l6,l7,l8,k1,e1,ho,k105,k131,z,n1,n2,n3,n4,n5,n6,n7,n8,R89,N89]
  rw [yes_some]
  exact gc_llp hl ((hu.trans u2).trans u3) (by omega)
theorem c41 {H:Heap}{r:ShR}{s:Sheet}(hs:ShOk H r s)(hd:Small r):∀H',Grow H H'→Fam H'→Yes (R (.func 41) [.agg #[.slice r.da r.dl r.dk,.slice r.wa r.wl r.wk,.slice r.ca r.cl r.ck]] H') (fun o =>
  if isSheet s=true then (match allP s with | []=>o=⟨.ok (errV 5),H',H'.length⟩ | p :: _=>QP H' 1 encI p (.int .i64 0) o) else o=⟨.ok (errV 2),H',H'.length⟩):=by
 intro H' hg hF
 refine run_y (pr 41) P41 (by simp [p41]) rfl ?_
 obtain ⟨o,ho,hq⟩:=c89 hs hd 5 H' hg hF
 cases e1:isSheet s with
 | false =>
  simp only [e1,Bool.false_eq_true,if_false] at hq ⊢
  subst hq
  simp only [errV] at ho
  simp (maxDischargeDepth:=8) only [↓SD,SU,SV,SW,simprocAttr,Int.cast_ofNat_Int,small,resV, B41,R41,N41,b41, hs.d.isLoc,hs.w.isLoc,hs.c.isLoc,ho,R41,N41]
  rw [yes_some]; rfl
 | true =>
 simp only [e1,if_true] at hq ⊢
 cases hl:allP s with
 | nil =>
  rw [if_pos hl] at hq
  subst hq
  simp only [errV] at ho
  simp (maxDischargeDepth:=8) only [↓SD,SU,SV,SW,simprocAttr,Int.cast_ofNat_Int,small,resV, B41,R41,N41,b41, hs.d.isLoc,hs.w.isLoc,hs.c.isLoc,ho,R41,N41]
  rw [yes_some]; rfl
 | cons q qs =>
  rw [if_neg (by simp [hl])] at hq
  obtain ⟨a,m,H1,lo,rfl,u,hlo,hL⟩:=hq
  have h0:0 < (allP s).length:=by rw [hl]; simp
  obtain ⟨b,off,xs,a',m',rfl,hx,f0,hq'⟩:=hL.get h0
  rw [hl] at hx
  simp at hx
  subst hx
  have l1:=hL.isLoc (allP s).length m
  have l4:=hq'.isLoc m'
  have f0':=f0 H1 (Grow.refl _)
  rw [Nat.zero_mul,Nat.add_zero] at f0'
  have n1:=u.len
  have n2:H'.length≤lo:=hlo
  have ia1:vv (.ia 1) [.slice (some ⟨b,off,none⟩) (allP s).length m,.int .i64 0]=some (.pointer (some ⟨b,off+0*1,none⟩)):=vv_iaN 1 b off 0 _ _ _ h0
  simp (maxDischargeDepth:=8) only [↓SD,SU,SV,SW,simprocAttr,Int.cast_ofNat_Int,small,resV, B41,R41,N41,b41, hs.d.isLoc,hs.w.isLoc,hs.c.isLoc,ho,l1,ia1,f0',l4,n1,n2,R41,N41]
  rw [yes_some]
  exact gc_sp hq' u (by omega)
theorem c42 {H:Heap}{r:ShR}{s:Sheet}(hs:ShOk H r s)(hd:Small r):∀H',Grow H H'→Fam H'→R (.func 42) [.agg #[.slice r.da r.dl r.dk,.slice r.wa r.wl r.wk,.slice r.ca r.cl r.ck]] H'=some ⟨.ok (if isSheet s=true then .tuple #[.int .i64 (allP s).length,.int .i64 0] else .tuple #[.int .i64 0,.int .i64 2]),H',H'.length⟩:=by
 intro H' hg hF
 refine run_k (pr 42) P42 (by simp [p42]) rfl ?_
 obtain ⟨o,ho,hq⟩:=c89 hs hd 0 H' hg hF
 cases e1:isSheet s with
 | false =>
  simp only [e1,Bool.false_eq_true,if_false] at hq ⊢
  subst hq
  simp only [errV] at ho
  simp (maxDischargeDepth:=8) only [↓SD,SU,SV,SW,simprocAttr,Int.cast_ofNat_Int,small,resV, B42,R42,N42,b42, hs.d.isLoc,hs.w.isLoc,hs.c.isLoc,ho,R42,N42]
 | true =>
 simp only [e1,if_true] at hq ⊢
 by_cases hl:allP s=[]
 ·rw [if_pos hl] at hq
  subst hq
  simp only [errV] at ho
  simp (maxDischargeDepth:=8) only [↓SD,SU,SV,SW,simprocAttr,Int.cast_ofNat_Int,small,resV, B42,R42,N42,b42, hs.d.isLoc,hs.w.isLoc,hs.c.isLoc,ho,hl,R42,N42]
 ·rw [if_neg hl] at hq
  obtain ⟨a,m,H1,lo,rfl,u,hlo,hL⟩:=hq
  have l1:=hL.isLoc (allP s).length m
  have n1:=u.len
  have n2:H'.length≤lo:=hlo
  simp (maxDischargeDepth:=8) only [↓SD,SU,SV,SW,simprocAttr,Int.cast_ofNat_Int,small,resV, B42,R42,N42,b42, hs.d.isLoc,hs.w.isLoc,hs.c.isLoc,ho,l1,n1,n2,R42,N42]
end Go.Pi.L.Coa
namespace CM
def after (pre:List Int)(d:Int):Bool:=match pre.getLast? with | none=>true | some d0=>decide (d0 < d)
def incN (s:Sheet):Nat→List Int→List (List Int)
 | 0,_=>[[]]
 | n+1,pre=>s.work.flatMap fun d=>if after pre d=true then (incN s n (pre++[d])).map (d :: ·) else []
theorem incN_inc {s:Sheet}:∀(n:Nat) (pre:List Int) (d0:Int),pre.getLast?=some d0→incN s n pre=inc s n d0
 | 0,_,_,_=>rfl
 | n+1,pre,d0,h=>by
  simp only [incN,inc]
  congr 1; funext d
  have e:after pre d=decide (d0 < d):=by simp only [after,h]
  rw [e,incN_inc n (pre++[d]) d (by simp)]
  simp only [decide_eq_true_eq]
theorem incN_all {s:Sheet}(hS:ShFine s):incN s s.coats.length []=incs s:=by
 unfold incs
 obtain ⟨n,hn⟩:∃n,s.coats.length=n+1:=⟨s.coats.length - 1,by have:=hS.c1; omega⟩
 rw [hn]
 simp only [incN,inc]
 refine flatMap_mem ?_
 intro d hd
 have h0:=(hS.work d hd).1
 rw [if_pos (show after [] d=true from rfl),if_pos (by omega),List.nil_append,incN_inc n [d] d rfl]
def incTo (s:Sheet)(n:Nat)(pre:List Int)(j:Nat):List (List Int):=((s.work.take j).flatMap fun d=>if after pre d=true then (incN s n (pre++[d])).map (d :: ·) else []).map (pre++·)
theorem incTo_all (s:Sheet)(n:Nat)(pre:List Int)(j:Nat)(h:s.work.length≤j):incTo s n pre j=(incN s (n+1) pre).map (pre++·):=by
 unfold incTo; rw [List.take_of_length_le h]; rfl
theorem incTo_no {s:Sheet}{n:Nat}{pre:List Int}{j:Nat}{d:Int}(h:s.work[j]?=some d)(ho:after pre d=false):incTo s n pre (j+1)=incTo s n pre j:=by
 obtain ⟨hj,rfl⟩:=List.getElem?_eq_some_iff.1 h
 unfold incTo
 rw [List.take_succ_eq_append_getElem hj,List.flatMap_append]
 simp [ho]
theorem incTo_yes {s:Sheet}{n:Nat}{pre:List Int}{j:Nat}{d:Int}(h:s.work[j]?=some d)(ho:after pre d=true):incTo s n pre (j+1)=incTo s n pre j++(incN s n (pre++[d])).map ((pre++[d])++·):=by
 obtain ⟨hj,rfl⟩:=List.getElem?_eq_some_iff.1 h
 unfold incTo
 rw [List.take_succ_eq_append_getElem hj,List.flatMap_append,List.map_append]
 simp [ho,Function.comp_def]
theorem incTo_le {s:Sheet}{n:Nat}{pre:List Int}{j:Nat}:(incTo s n pre j).length≤(incN s (n+1) pre).length:=by
 have e:(incN s (n+1) pre)=((s.work.take j).flatMap fun d=>if after pre d=true then (incN s n (pre++[d])).map (d :: ·) else [])++((s.work.drop j).flatMap fun d=>if after pre d=true then (incN s n (pre++[d])).map (d :: ·) else []):=by
  rw [←List.flatMap_append,List.take_append_drop]; rfl
 rw [e,incTo,List.length_map,List.length_append]; omega
theorem incN_len {s:Sheet}(hS:ShFine s){n:Nat}{pre:List Int}(hn:pre.length+n=s.coats.length):(incN s n pre).length≤792:=by
 have hc:=hS.c2
 have hw:=rises_pair hS.rw
 have key:∀d0,(inc s n d0).length≤792:=fun d0=>by
  rw [inc_len hw]
  exact ch_bound _ (Nat.le_trans (List.length_filter_le _ _) (work_len hS)) _ (by omega)
 cases h:pre.getLast? with
 | some d0=>rw [incN_inc n pre d0 h]; exact key d0
 | none =>
  have:pre=[]:=by simpa using h
  subst this
  simp at hn
  subst hn
  rw [incN_all hS]; exact key (-1)
end CM
set_option maxRecDepth 100000
namespace Go.Pi.L
open Go Go.Pi
theorem apA_emp {α:Type}{call:CallT}{F:Ex→St→Option α}{k:List It}{a:Option Addr}{l m kk:Nat}{d:Option Tmp}{s:St}(hl:isLoc (.slice a l m)=false)(h:l < 1000000):ap1 call F (some []) (.slice a l m) kk d k s=nxt call F (some (.slice a l m)) d k s:=by
 have hop:appB s kk [] a l m d=putO s d (.slice a l m):=by
  unfold appB
  rw [if_neg (by simp [hl]),if_neg (by simp [small]; omega),if_pos (show ([]:List Value).isEmpty=true from rfl)]
 simp only [ap1,hop]
 exact go_putO
theorem Bld.appl {n0:Nat}{H:Heap}{k:Nat}{a:Option Addr}{l m:Nat}{c:List Value}(h:Bld n0 H k a l m c)(hF:Fam H)(hk:0 < k)(hk2:k < 1000)(hn:n0≤H.length)(new:List Value){i:Nat}(hnew:new.length=i*k)(hl:l+i*k < 1000000) :
  ∃a' m' H1,(∀{α:Type} (call:CallT) (F:Ex→St→Option α) d kk T S D lo n rnd,ap1 call F (some new) (.slice a l m) k d kk ⟨T,S,D,H,lo,n,rnd⟩=nxt call F (some (.slice a' (l+i) m')) d kk ⟨T,S,D,H1,lo,n,rnd⟩) ∧
   Bld n0 H1 k a' (l+i) m' (c++new)∧Grow H H1∧(∀H0,Up H0 H→H0.length≤n0→Up H0 H1)∧Fam H1∧H.length≤H1.length:=by
 by_cases hi:i=0
 ·subst hi
  have:new=[]:=List.eq_nil_of_length_eq_zero (by omega)
  subst this
  exact ⟨a,m,H,fun call F d kk T S D lo n rnd=>apA_emp (h.isLoc l m) (by omega),by rw [List.append_nil]; exact h,Grow.refl _,fun _ h _=>h,hF,Nat.le_refl _⟩
 ·obtain ⟨H1,q1,q2,q3,q4⟩:=h.apps hF hk hk2 hn new (by omega) hnew (by omega)
  exact ⟨_,_,H1,q1,q2,q3.grow,fun H0 hu h0=>q3.up h hu h0,q4,by have:=q3.len; omega⟩
def Gt (H:Heap)(cs:List Value)(xss:List (List Int)):Prop:=∀(j:Nat) xs,xss[j]?=some xs→∃a m,cs[j]?=some (.slice a xs.length m)∧Sl H 1 encN a xs.length xs
theorem Gt.nil (H:Heap):Gt H [] []:=fun j xs h=>by simp at h
theorem Gt.grow {H H':Heap}{cs:List Value}{xss:List (List Int)}(h:Gt H cs xss)(g:Grow H H'):Gt H' cs xss:=fun j xs hj=>by
 obtain ⟨a,m,h1,h2⟩:=h j xs hj; exact ⟨a,m,h1,h2.grow g⟩
theorem Gt.app {H:Heap}{cs ds:List Value}{xss yss:List (List Int)}(h:Gt H cs xss)(g:Gt H ds yss)(hl:cs.length=xss.length):Gt H (cs++ds) (xss++yss):=fun j xs hj=>by
 by_cases hlt:j < xss.length
 ·rw [List.getElem?_append_left hlt] at hj
  obtain ⟨a,m,h1,h2⟩:=h j xs hj
  exact ⟨a,m,by rw [List.getElem?_append_left (by omega)]; exact h1,h2⟩
 ·rw [List.getElem?_append_right (by omega)] at hj
  obtain ⟨a,m,h1,h2⟩:=g _ xs hj
  exact ⟨a,m,by rw [List.getElem?_append_right (by omega),hl]; exact h1,h2⟩
theorem Bld.ll {n0:Nat}{H:Heap}{a:Option Addr}{l m:Nat}{cs:List Value}{xss:List (List Int)}(h:Bld n0 H 1 a l m cs)(g:Gt H cs xss)(hl:xss.length=l):LL H a l xss:=by
 refine ⟨hl,h.loc,fun j xs hj=>?_⟩
 obtain ⟨a',m',h1,h2⟩:=g j xs hj
 rcases h.ok with ⟨_,h0,_⟩ | ⟨b,f,hb,_,_,_,hB⟩
 ·have:=(List.getElem?_eq_some_iff.1 hj).1; omega
 ·exact ⟨b,0,cs,a',m',hb,by simp [hcells,hB],by rw [Nat.zero_add]; exact h1,h2⟩
theorem LL.elems {H:Heap}{a:Option Addr}{l:Nat}{xss:List (List Int)}(h:LL H a l xss):∃cs,(∀m T S D lo n rnd,elemsL ⟨T,S,D,H,lo,n,rnd⟩ 1 (.slice a l m)=some cs)∧cs.length=l∧Gt H cs xss:=by
 have e0:∀m T S D lo n rnd,elemsL ⟨T,S,D,H,lo,n,rnd⟩ 1 (.slice a l m)=Go.Pi.elems H 1 (.slice a l m):=fun m T S D lo n rnd=>by
  rcases h.loc with rfl | ⟨b,off,rfl⟩
  ·rfl
  ·unfold elemsL; split
   ·rename_i he; cases he
   ·rfl
 obtain rfl:=h.len
 by_cases h0:xss.length=0
 ·have:xss=[]:=List.eq_nil_of_length_eq_zero h0
  subst this
  refine ⟨[],fun m T S D lo n rnd=>?_,rfl,Gt.nil H⟩
  rw [e0]
  rcases h.loc with rfl | ⟨b,off,rfl⟩ <;> rfl
 ·obtain ⟨x,hx⟩:∃x,xss[xss.length - 1]?=some x:=⟨_,List.getElem?_eq_getElem (by omega)⟩
  obtain ⟨b,off,c,a',m',ha,hc,hg,_⟩:=h.rd _ x hx
  have hlen:=(List.getElem?_eq_some_iff.1 hg).1
  refine ⟨(c.drop off).take xss.length,fun m T S D lo n rnd=>?_,by rw [List.length_take,List.length_drop]; omega,fun j xs hj=>?_⟩
  ·rw [e0,ha]
   simp only [Go.Pi.elems,if_neg h0,hc]
   rw [if_pos (by omega),Nat.mul_one]
  ·obtain ⟨b2,off2,c2,a2,m2,g1,g2,g3,g4⟩:=h.rd j xs hj
   rw [ha] at g1; cases g1
   rw [hc] at g2; cases g2
   have:=(List.getElem?_eq_some_iff.1 hj).1
   exact ⟨a2,m2,by rw [List.getElem?_take_of_lt this,List.getElem?_drop]; exact g3,g4⟩
end Go.Pi.L
set_option maxRecDepth 100000
namespace Go.Pi.L.Coa
open Go Go.Pi Go.Pi.L Go.Pi.Coa CM

theorem slot_nl {x:Operand}{v:Value}(h:isLoc v=false):slotOk x v=true:=by
 unfold slotOk
 split
 ·simp [isLoc] at h
 ·rfl
theorem slot_loc (t o g l m:Nat):slotOk (.tmp t) (.slice (some ⟨t,o,some g⟩) l m)=true:=by simp [slotOk]
theorem after_nil {pre:List Int}(h:pre.length=0)(d:Int):after pre d=true:=by
 have:pre=[]:=List.eq_nil_of_length_eq_zero h
 subst this; rfl
set_option maxHeartbeats 1000000 in
theorem c90 {H:Heap}{r:ShR}{s:Sheet}(hs:ShOk H r s)(hd:Small r)(hS:ShFine s):∀(n:Nat) (pre:List Int),pre.length+n=s.coats.length→∀(a:Option Addr) (m:Nat) (H':Heap),Grow H H'→Fam H'→Ints H' a pre.length pre →
  Yes (R (.func 90) [.agg #[.slice r.da r.dl r.dk,.slice r.wa r.wl r.wk,.slice r.ca r.cl r.ck],.slice a pre.length m] H') (QL H' ((incN s n pre).map (pre++·))):=by
 intro n
 induction n with
 | zero =>
  intro pre hpl a m H' hg hF hq
  refine run_y (pr 90) P90 (by simp [p90]) rfl ?_
  have l4:=hq.isLoc m
  have hcl:r.cl=pre.length:=by rw [←hs.c.len]; omega
  have l3':isLoc (.slice r.ca pre.length r.ck)=false:=by rw [←hcl]; exact hs.c.isLoc _
  simp (maxDischargeDepth:=8) only [↓SD,SU,SV,SW,simprocAttr,Int.cast_ofNat_Int,small,resV, B90,R90,N90,b90, hs.d.isLoc,hs.w.isLoc,hs.c.isLoc,l4,hcl,l3',R90,N90]
  rw [yes_some]
  have e:(incN s 0 pre).map (pre++·)=[pre]:=by simp [incN]
  rw [e]
  refine gc_ll (l:=1) ⟨rfl,.inr ⟨_,_,rfl⟩,fun j xs hj=>?_⟩ (Up.refl H').app (Nat.le_refl _)
  cases j with
  | succ j=>simp at hj
  | zero =>
   simp at hj; subst hj
   exact ⟨H'.length,0,_,a,m,rfl,hc_new _ _ _,rfl,hq.grow (Up.refl H').app.grow⟩
 | succ n IH =>
  intro pre hpl a m H' hg hF hq
  refine run_y (pr 90) P90 (by simp [p90]) rfl ?_
  have l4:=hq.isLoc m
  have hS2:=hS.c2
  have hcl:r.cl=s.coats.length:=hs.c.len.symm
  have hwl:r.wl≤12:=by rw [←hs.w.len]; exact work_len hS
  have hne:((pre.length:Nat):Int)=((r.cl:Nat):Int)↔False:=by constructor <;> intro h <;> first | omega | cases h
  obtain ⟨da,dl,dk,wa,wl,wk,ca,cl,ck⟩:=r
  have hD:Spans H da dl s.dry:=hs.d
  have hW:Ints H wa wl s.work:=hs.w
  have hC:Spans H ca cl s.coats:=hs.c
  have nD:dl < 1000000:=hd.d
  have nW:wl < 1000000:=hd.w
  have nC:cl < 1000000:=hd.c
  have l1:=hD.isLoc dk
  have l2:=hW.isLoc wk
  have l3:=hC.isLoc ck
  simp only at IH hwl hne
  simp (maxDischargeDepth:=8) only [↓SD,SU,SV,SW,simprocAttr,Int.cast_ofNat_Int,small,resV, B90,R90,N90,b90, l1,l2,l3,l4,hne]
  refine loop_ind (G:=(Yes · (QL H' ((incN s (n+1) pre).map (pre++·))))) (fun j σ=>∃T S H1 ao mo cs lim,σ=⟨T,S,[],H1,lim,53,false⟩∧get T 1=.slice a pre.length m∧get T 2=.pointer (some ⟨2,0,some 1⟩)∧get T 5=.slice ao (incTo s n pre j).length mo∧get T 6=.int .i64 (j:Nat)∧sget S 2=(1,.cells [.slice da dl dk,.slice wa wl wk,.slice ca cl ck])∧(Bld H'.length H1 1 ao (incTo s n pre j).length mo cs∧Gt H1 cs (incTo s n pre j)∧Up H' H1∧Fam H1∧H'.length≤lim)) (wl) ?_ ?_ 0 _ (Nat.zero_le _) ⟨_,_,_,_,_,_,_,rfl,rfl,rfl,rfl,rfl,rfl,⟨Bld.nil _ _ _,Gt.nil _,Up.refl _,hF,Nat.le_refl _⟩⟩
  ·rintro c' j s hj ⟨T,S,H1,ao,mo,cs,lim,rfl,t1,t2,t5,t6,s0,hp⟩ ih
   obtain ⟨hB,hG,hu,hF1,hlim⟩:=hp
   obtain ⟨b,off,x,hxb,hx',f0⟩:=hW.i1 hj
   subst hxb
   have hg1:=hg.trans hu.grow
   have hw1:=wrap_succ j (by omega)
   have l5:=hB.isLoc (incTo s n pre j).length mo
   have hwx:=hS.work x (List.mem_of_getElem? hx')
   have bound:=incTo_le (s:=s) (n:=n) (pre:=pre) (j:=j+1)
   have bound2:=incN_len hS hpl
   have hcs:cs.length=(incTo s n pre j).length:=by have:=hB.len; omega
   by_cases hp0:pre.length=0
   ·have z0:((pre.length:Nat):Int)=0↔True:=by simp [hp0]
    have ho:=after_nil hp0 x
    obtain ⟨a2,m2,H2,q2,B2,g2,u2,hF2,n2⟩:=(Bld.nil H1.length H1 1).appl hF1 (by decide) (by decide) (Nat.le_refl _) (cells encI pre) (i:=pre.length) (by rw [cells_len (k:=1) (fun _=>rfl)]) (by omega)
    simp only [Nat.zero_add,List.nil_append] at q2 B2
    obtain ⟨a3,m3,H3,q3,B3,g3,u3,hF3,n3⟩:=B2.appl hF2 (by decide) (by decide) n2 [.int .i64 x] (i:=1) rfl (by omega)
    have e23:cells encI pre++[.int .i64 x]=cells encI (pre++[x]):=by rw [cells_app]; rfl
    rw [e23] at B3
    have elen:(pre++[x]).length=pre.length+1:=by simp
    have hq3:Ints H3 a3 (pre++[x]).length (pre++[x]):=by rw [elen]; exact B3.sl encI_len (by decide)
    have U12:Up H1 H2:=u2 H1 (Up.refl _) (Nat.le_refl _)
    have U13:Up H1 H3:=u3 H1 U12 (Nat.le_refl _)
    obtain ⟨o,ho4,a4,m4,H4,lo4,rfl,u4,hlo4,L4⟩:=IH (pre++[x]) (by rw [List.length_append,List.length_singleton]; omega) a3 m3 H3 (hg1.trans U13.grow) hF3 hq3
    have hF4:Fam H4:=famR ho4 hF3
    rw [elen] at ho4
    obtain ⟨ds,q4,ld,Gd⟩:=L4.elems
    have U14:=U13.trans u4
    have hlen:(incTo s n pre (j+1)).length=(incTo s n pre j).length+((incN s n (pre++[x])).map ((pre++[x])++·)).length:=by rw [incTo_yes hx' ho,List.length_append]
    obtain ⟨a5,m5,H5,q5,B5,g5,u5,hF5,n5⟩:=(hB.up U14).appl hF4 (by decide) (by decide) (Nat.le_trans hu.len U14.len) ds (i:=((incN s n (pre++[x])).map ((pre++[x])++·)).length) (by omega) (by omega)
    have q0:=fun T S D lo nn rnd=>(hq.grow hu.grow).elems (fun _=>rfl) (by decide) m T S D lo nn rnd
    have l6:=B2.isLoc (pre.length) m2
    have l7:=B3.isLoc (pre.length+1) m3
    have l8:=L4.isLoc ((incN s n (pre++[x])).map ((pre++[x])++·)).length m4
    have hlo4':H3.length≤lo4:=hlo4
    have l9:=B5.isLoc ((incTo s n pre j).length+((incN s n (pre++[x])).map ((pre++[x])++·)).length) m5
    have N1:=hu.len
    have hg2':=hg1.trans U12.grow
    have N4:=u4.len
    simp only [incTo_yes hx' ho,List.length_append] at ih
    simp (maxDischargeDepth:=8) only [↓SD,SU,SV,SW,simprocAttr,Int.cast_ofNat_Int,small,resV, q90x0,t1,t2,t5,t6,s0, s0,lt_nat,hj,l1,l2,l3,l4,l5,l6,l7,l8,l9,f0,hg1,hg2',hw1,z0,q0,q2,q3,ho4,hlo4',rD_hb,q4,q5,goD_app,slot_nl,slot_loc]
    exact ih _ ⟨_,_,(H5),(a5),(m5),(cs++ds),(_),rfl,(by simp [get_set,t1] <;> omega),(by simp [get_set,t2] <;> omega),(by simp [get_set,t5] <;> omega),(by simp [get_set,t6] <;> omega),by simp [sget_sset,s0],⟨B5,(hG.grow (U14.grow.trans g5)).app (Gd.grow g5) hcs,u5 H' (hu.trans U14) (Nat.le_refl _),hF5,by omega⟩⟩
   ·have z0:((pre.length:Nat):Int)=0↔False:=by simp [hp0]
    obtain ⟨k,hk⟩:∃k,pre.length=k+1:=⟨pre.length - 1,by omega⟩
    obtain ⟨b9,off9,y,ha9,hy,f9⟩:=hq.i1 (j:=k) (by omega)
    subst ha9
    have w5:IntKind.wrap .i64 (((pre.length:Nat):Int) - 1)=(k:Nat):=by rw [wrap_id _ (by omega) (by omega)]; omega
    have hkl:k < pre.length:=by omega
    have f9':=f9 H1 hu.grow
    have hlast:pre.getLast?=some y:=by rw [List.getLast?_eq_getElem?,hk,Nat.add_sub_cancel]; exact hy
    by_cases hyx:y < x
    ·have ho:after pre x=true:=by simp [after,hlast,hyx]
     obtain ⟨a2,m2,H2,q2,B2,g2,u2,hF2,n2⟩:=(Bld.nil H1.length H1 1).appl hF1 (by decide) (by decide) (Nat.le_refl _) (cells encI pre) (i:=pre.length) (by rw [cells_len (k:=1) (fun _=>rfl)]) (by omega)
     simp only [Nat.zero_add,List.nil_append] at q2 B2
     obtain ⟨a3,m3,H3,q3,B3,g3,u3,hF3,n3⟩:=B2.appl hF2 (by decide) (by decide) n2 [.int .i64 x] (i:=1) rfl (by omega)
     have e23:cells encI pre++[.int .i64 x]=cells encI (pre++[x]):=by rw [cells_app]; rfl
     rw [e23] at B3
     have elen:(pre++[x]).length=pre.length+1:=by simp
     have hq3:Ints H3 a3 (pre++[x]).length (pre++[x]):=by rw [elen]; exact B3.sl encI_len (by decide)
     have U12:Up H1 H2:=u2 H1 (Up.refl _) (Nat.le_refl _)
     have U13:Up H1 H3:=u3 H1 U12 (Nat.le_refl _)
     obtain ⟨o,ho4,a4,m4,H4,lo4,rfl,u4,hlo4,L4⟩:=IH (pre++[x]) (by rw [List.length_append,List.length_singleton]; omega) a3 m3 H3 (hg1.trans U13.grow) hF3 hq3
     have hF4:Fam H4:=famR ho4 hF3
     rw [elen] at ho4
     obtain ⟨ds,q4,ld,Gd⟩:=L4.elems
     have U14:=U13.trans u4
     have hlen:(incTo s n pre (j+1)).length=(incTo s n pre j).length+((incN s n (pre++[x])).map ((pre++[x])++·)).length:=by rw [incTo_yes hx' ho,List.length_append]
     obtain ⟨a5,m5,H5,q5,B5,g5,u5,hF5,n5⟩:=(hB.up U14).appl hF4 (by decide) (by decide) (Nat.le_trans hu.len U14.len) ds (i:=((incN s n (pre++[x])).map ((pre++[x])++·)).length) (by omega) (by omega)
     have q0:=fun T S D lo nn rnd=>(hq.grow hu.grow).elems (fun _=>rfl) (by decide) m T S D lo nn rnd
     have l6:=B2.isLoc (pre.length) m2
     have l7:=B3.isLoc (pre.length+1) m3
     have l8:=L4.isLoc ((incN s n (pre++[x])).map ((pre++[x])++·)).length m4
     have hlo4':H3.length≤lo4:=hlo4
     have l9:=B5.isLoc ((incTo s n pre j).length+((incN s n (pre++[x])).map ((pre++[x])++·)).length) m5
     have N1:=hu.len
     have hg2':=hg1.trans U12.grow
     have N4:=u4.len
     simp only [incTo_yes hx' ho,List.length_append] at ih
     simp (maxDischargeDepth:=8) only [↓SD,SU,SV,SW,simprocAttr,Int.cast_ofNat_Int,small,resV, q90x0,t1,t2,t5,t6,s0, s0,lt_nat,hj,l1,l2,l3,l4,l5,l6,l7,l8,l9,f0,hg1,hg2',hw1,z0,w5,hkl,f9',hyx,q0,q2,q3,ho4,hlo4',rD_hb,q4,q5,goD_app,slot_nl,slot_loc]
     exact ih _ ⟨_,_,(H5),(a5),(m5),(cs++ds),(_),rfl,(by simp [get_set,t1] <;> omega),(by simp [get_set,t2] <;> omega),(by simp [get_set,t5] <;> omega),(by simp [get_set,t6] <;> omega),by simp [sget_sset,s0],⟨B5,(hG.grow (U14.grow.trans g5)).app (Gd.grow g5) hcs,u5 H' (hu.trans U14) (Nat.le_refl _),hF5,by omega⟩⟩
    ·have ho:after pre x=false:=by simp [after,hlast,hyx]
     have N1:=hu.len
     simp (maxDischargeDepth:=8) only [↓SD,SU,SV,SW,simprocAttr,Int.cast_ofNat_Int,small,resV, q90x0,t1,t2,t5,t6,s0, s0,lt_nat,hj,l1,l2,l3,l4,l5,f0,hg1,hw1,z0,w5,hkl,f9',hyx]
     rw [←incTo_no hx' ho] at hB hG t5
     exact ih _ ⟨_,_,(H1),(ao),(mo),(cs),(_),rfl,(by simp [get_set,t1] <;> omega),(by simp [get_set,t2] <;> omega),(by simp [get_set,t5] <;> omega),(by simp [get_set,t6] <;> omega),by simp [sget_sset,s0],⟨hB,hG,hu,hF1,by omega⟩⟩
  ·rintro c' s ⟨T,S,H1,ao,mo,cs,lim,rfl,t1,t2,t5,t6,s0,hp⟩
   obtain ⟨hB,hG,hu,hF1,hlim⟩:=hp
   rw [incTo_all s n pre wl (by rw [hW.len]; exact Nat.le_refl _)] at hB hG t5
   have l5:=hB.isLoc ((incN s (n+1) pre).map (pre++·)).length mo
   simp (maxDischargeDepth:=8) only [↓SD,SU,SV,SW,simprocAttr,Int.cast_ofNat_Int,small,resV, q90x0,t1,t2,t5,t6,s0, s0,lt_nat,Nat.lt_irrefl,l1,l2,l3,l4,l5,R90,N90]
   rw [yes_some]
   exact gc_ll (hB.ll hG rfl) hu hlim
end Go.Pi.L.Coa
set_option maxRecDepth 100000
namespace Go.Pi.L.Coa
open Go Go.Pi Go.Pi.L Go.Pi.Coa CM

theorem filter_yes {β:Type}{p:β→Bool}{xs:List β}{j:Nat}{x:β}(h:xs[j]?=some x)(hp:p x=true):(xs.take (j+1)).filter p=(xs.take j).filter p++[x]:=by
 obtain ⟨hj,rfl⟩:=List.getElem?_eq_some_iff.1 h
 rw [List.take_succ_eq_append_getElem hj,List.filter_append]; simp [hp]
theorem filter_no {β:Type}{p:β→Bool}{xs:List β}{j:Nat}{x:β}(h:xs[j]?=some x)(hp:p x=false):(xs.take (j+1)).filter p=(xs.take j).filter p:=by
 obtain ⟨hj,rfl⟩:=List.getElem?_eq_some_iff.1 h
 rw [List.take_succ_eq_append_getElem hj,List.filter_append]; simp [hp]
theorem c43 {H:Heap}{r:ShR}{s:Sheet}(hs:ShOk H r s)(hd:Small r)(hS:ShFine s):∀H',Grow H H'→Fam H'→Yes (R (.func 43) [.agg #[.slice r.da r.dl r.dk,.slice r.wa r.wl r.wk,.slice r.ca r.cl r.ck]] H') (QL H' (allP s)):=by
 intro H' hg hF
 refine run_y (pr 43) P43 (by simp [p43]) rfl ?_
 obtain ⟨o,ho,a0,m0,H1,lo1,rfl,u1,hlo1,hL⟩:=c90 hs hd hS s.coats.length [] (by simp) none 0 H' hg hF Sl.none
 have hF1:Fam H1:=famR ho hF
 have e0:(incN s s.coats.length []).map ([]++·)=incs s:=by rw [incN_all hS]; simp
 rw [e0] at ho hL
 have il:(incs s).length≤792:=by rw [←incN_all hS]; exact incN_len hS (by simp)
 have k91:=fun H2 (g:Grow H H2) pa pk plan (h1:Ints H2 pa plan.length plan) (h2:PlFine s plan)=>c91 (pk:=pk) (hs.grow g) hd hS h1 h2 H2 (Grow.refl _)
 have n1:=u1.len
 have hlo1':H'.length≤lo1:=hlo1
 have l4:=hL.isLoc (incs s).length m0
 obtain ⟨da,dl,dk,wa,wl,wk,ca,cl,ck⟩:=r
 have hD:Spans H da dl s.dry:=hs.d
 have hW:Ints H wa wl s.work:=hs.w
 have hC:Spans H ca cl s.coats:=hs.c
 have nD:dl < 1000000:=hd.d
 have nW:wl < 1000000:=hd.w
 have nC:cl < 1000000:=hd.c
 have l1:=hD.isLoc dk
 have l2:=hW.isLoc wk
 have l3:=hC.isLoc ck
 simp only [List.length_nil] at ho k91
 simp (maxDischargeDepth:=8) only [↓SD,SU,SV,SW,simprocAttr,Int.cast_ofNat_Int,small,resV, B43,R43,N43,b43, l1,l2,l3,l4,ho,n1,hlo1']
 refine loop_ind (G:=(Yes · (QL H' (allP s)))) (fun j σ=>∃T S H2 ao mo cs lim,σ=⟨T,S,[],H2,lim,28,false⟩∧get T 1=.pointer (some ⟨1,0,some 1⟩)∧get T 3=.slice a0 (incs s).length m0∧get T 4=.slice ao (((incs s).take j).filter (surely s)).length mo∧get T 5=.int .i64 (j:Nat)∧sget S 1=(1,.cells [.slice da dl dk,.slice wa wl wk,.slice ca cl ck])∧(Bld H1.length H2 1 ao (((incs s).take j).filter (surely s)).length mo cs∧Gt H2 cs (((incs s).take j).filter (surely s))∧Up H1 H2∧Up H' H2∧Fam H2∧H'.length≤lim)) ((incs s).length) ?_ ?_ 0 _ (Nat.zero_le _) ⟨_,_,_,_,_,_,_,rfl,rfl,rfl,rfl,rfl,rfl,⟨Bld.nil _ _ _,Gt.nil _,Up.refl _,u1,hF1,by omega⟩⟩
 ·rintro c' j s hj ⟨T,S,H2,ao,mo,cs,lim,rfl,t1,t3,t4,t5,s0,hp⟩ ih
  obtain ⟨hB,hG,hu,hu',hF2,hlim⟩:=hp
  obtain ⟨b,off,xs,a',m',rfl,hx,f0,hq⟩:=(hL.grow hu.grow).get hj
  have f0':=f0 H2 (Grow.refl _)
  have hq':Ints H2 a' xs.length xs:=hq
  have hw1:=wrap_succ j (by omega)
  have l5:=hB.isLoc (((incs s).take j).filter (surely s)).length mo
  have l6:=hq'.isLoc m'
  have hP:=plan_of hS ((mem_incs hS).1 (List.mem_of_getElem? hx))
  have q91:=k91 H2 (hg.trans hu'.grow) a' m' xs hq' hP
  have hlen:(((incs s).take j).filter (surely s)).length≤792:=Nat.le_trans (List.length_filter_le _ _) (by rw [List.length_take]; omega)
  have hcs:cs.length=(((incs s).take j).filter (surely s)).length:=by have:=hB.len; omega
  have N1:=hu'.len
  cases hsv:surely s xs with
  | true =>
   rw [hsv] at q91
   obtain ⟨a3,m3,H3,q3,B3,g3,u3,hF3,n3⟩:=hB.appl hF2 (by decide) (by decide) hu.len [.slice a' xs.length m'] (i:=1) rfl (by omega)
   have hG1:Gt H3 [.slice a' xs.length m'] [xs]:=fun i ys hi=>by
    cases i with
    | succ i=>simp at hi
    | zero=>simp at hi; subst hi; exact ⟨a',m',rfl,hq'.grow g3⟩
   have l7:=B3.isLoc ((((incs s).take j).filter (surely s)).length+1) m3
   simp only [filter_yes hx hsv,List.length_append,List.length_singleton] at ih
   simp (maxDischargeDepth:=8) only [↓SD,SU,SV,SW,simprocAttr,Int.cast_ofNat_Int,small,resV, q43x0,t1,t3,t4,t5,s0, s0,lt_nat,hj,l1,l2,l3,l4,l5,l6,l7,f0',q91,hw1,q3]
   exact ih _ ⟨_,_,(H3),(a3),(m3),(_),(_),rfl,(by simp [get_set,t1] <;> omega),(by simp [get_set,t3] <;> omega),(by simp [get_set,t4] <;> omega),(by simp [get_set,t5] <;> omega),by simp [sget_sset,s0],⟨B3,(hG.grow g3).app hG1 hcs,u3 H1 hu (Nat.le_refl _),u1.trans (u3 H1 hu (Nat.le_refl _)),hF3,by omega⟩⟩
  | false =>
   rw [hsv] at q91
   simp (maxDischargeDepth:=8) only [↓SD,SU,SV,SW,simprocAttr,Int.cast_ofNat_Int,small,resV, q43x0,t1,t3,t4,t5,s0, s0,lt_nat,hj,l1,l2,l3,l4,l5,l6,f0',q91,hw1]
   rw [←filter_no hx hsv] at hB hG t4
   exact ih _ ⟨_,_,(H2),(ao),(mo),(cs),(_),rfl,(by simp [get_set,t1] <;> omega),(by simp [get_set,t3] <;> omega),(by simp [get_set,t4] <;> omega),(by simp [get_set,t5] <;> omega),by simp [sget_sset,s0],⟨hB,hG,hu,hu',hF2,by omega⟩⟩
 ·rintro c' s ⟨T,S,H2,ao,mo,cs,lim,rfl,t1,t3,t4,t5,s0,hp⟩
  obtain ⟨hB,hG,hu,hu',hF2,hlim⟩:=hp
  rw [List.take_length,all_eq hS] at hB hG t4
  have l5:=hB.isLoc (allP s).length mo
  simp (maxDischargeDepth:=8) only [↓SD,SU,SV,SW,simprocAttr,Int.cast_ofNat_Int,small,resV, q43x0,t1,t3,t4,t5,s0, s0,lt_nat,Nat.lt_irrefl,l1,l2,l3,l4,l5,R43,N43]
  rw [yes_some]
  exact gc_ll (hB.ll hG rfl) hu' hlim
end Go.Pi.L.Coa
set_option maxRecDepth 100000
namespace CM
theorem bef_asymm {a b:List Int}(h:bef a b=true):bef b a=false:=by
 cases h2:bef b a with
 | false=>rfl
 | true=>have:=bef_trans h h2; rw [bef_irrefl] at this; cases this
theorem first_min {s:Sheet}(hS:ShFine s){q:List Int}{qs:List (List Int)}(h:allP s=q :: qs){o:List Int}(ho:o∈allP s):bef o q=false∧(o=q∨0 < qs.length):=by
 have hp:=allP_pair hS
 rw [h] at hp ho
 rcases List.mem_cons.1 ho with rfl | ho
 ·exact ⟨bef_irrefl _,.inl rfl⟩
 ·exact ⟨bef_asymm ((List.pairwise_cons.1 hp).1 o ho),.inr (List.length_pos_of_mem ho)⟩
end CM
namespace Go.Pi.L.Coa
open Go Go.Pi Go.Pi.L Go.Pi.Coa CM

theorem word_in (s:Sheet)(plan:List Int):(word s plan=3∧surely s plan=true)∨(word s plan=2∧surely s plan=false)∨(word s plan=1∧surely s plan=false):=by
 unfold word
 cases h:surely s plan with
 | true=>exact .inl ⟨rfl,rfl⟩
 | false =>
  cases h2:never s s.coats plan with
  | true=>exact .inr (.inr ⟨rfl,rfl⟩)
  | false=>exact .inr (.inl ⟨rfl,rfl⟩)
theorem c44 {H:Heap}{r:ShR}{s:Sheet}(hs:ShOk H r s)(hd:Small r){pa:Option Addr}{pl pk:Nat}{plan:List Int}(hq:Ints H pa pl plan)(hpl:pl < 1000)(e1:isSheet s=true)(e2:isPlan s plan=true) :
  ∀H',Grow H H'→R (.func 44) [.agg #[.slice r.da r.dl r.dk,.slice r.wa r.wl r.wk,.slice r.ca r.cl r.ck],.slice pa pl pk] H'=some ⟨.ok (.tuple #[.bool (surely s plan),.bool true]),H',H'.length⟩:=by
 intro H' hg
 refine run_k (pr 44) P44 (by simp [p44]) rfl ?_
 have k30:=c30 (pk:=pk) hs hd hq (by omega) H' hg
 rw [if_pos ⟨e1,e2⟩] at k30
 have l4:=hq.isLoc pk
 rcases word_in s plan with ⟨h1,h2⟩ | ⟨h1,h2⟩ | ⟨h1,h2⟩ <;> rw [h1] at k30 <;> rw [h2] <;> simp (maxDischargeDepth:=8) only [↓SD,SU,SV,SW,simprocAttr,Int.cast_ofNat_Int,small,resV, B44,R44,N44,b44, hs.d.isLoc,hs.w.isLoc,hs.c.isLoc,l4,k30,R44,N44]
theorem c8 {H:Heap}{r:ShR}{s:Sheet}(hs:ShOk H r s){pa:Option Addr}{pl pk:Nat}{plan:List Int}(hq:Ints H pa pl plan)(hF:Fam H) :
  R (.func 8) [.agg #[.slice r.da r.dl r.dk,.slice r.wa r.wl r.wk,.slice r.ca r.cl r.ck],.slice pa pl pk] H=some ⟨.ok (.bool true),H,H.length⟩:=by
 refine run_k (pr 8) P8 (by simp [p8]) rfl ?_
 have l1:=hs.d.isLoc r.dk
 have l2:=hs.w.isLoc r.wk
 have l3:=hs.c.isLoc r.ck
 have l4:=hq.isLoc pk
 have k29:=c29 (pk:=pk) hs hq H (Grow.refl _)
 cases e1:isRight r s pl plan with
 | false=>simp (maxDischargeDepth:=8) only [↓SD,SU,SV,SW,simprocAttr,Int.cast_ofNat_Int,small,resV, B8,R8,N8,b8, l1,l2,l3,l4,k29,e1,c23]
 | true =>
 obtain ⟨e2,e3,e4,e5⟩:=right_of e1
 have hd:=short_small e2
 have hS:=fine_of e4
 obtain ⟨o,ho,hq1⟩:=c41 hs hd H (Grow.refl _) hF
 simp only [e4,if_true] at hq1
 have k42:=fun H2 g f=>c42 hs hd H2 g f
 simp only [e4,if_true] at k42
 have k44:=c44 (pk:=pk) hs hd hq (by omega) e4 e5
 cases hl:allP s with
 | nil =>
  have hns:surely s plan=false:=by
   cases h:surely s plan with
   | false=>rfl
   | true=>have:=(mem_allP hS).2 ⟨e5,h⟩; rw [hl] at this; cases this
  simp only [hl] at hq1 k42
  subst hq1
  simp only [errV,List.length_nil] at ho k42
  have k42:=k42 H (Grow.refl _) hF
  have k44:=k44 H (Grow.refl _)
  rw [hns] at k44
  simp (maxDischargeDepth:=8) only [↓SD,SU,SV,SW,simprocAttr,Int.cast_ofNat_Int,small,resV, B8,R8,N8,b8, l1,l2,l3,l4,k29,e1,c23,ho,k42,k44]
 | cons q qs =>
  simp only [hl] at hq1
  obtain ⟨a,m,H1,lo,rfl,u,hlo,hz⟩:=hq1
  have hF1:Fam H1:=famR ho hF
  have hg:=u.grow
  have k42:=k42 H1 hg hF1
  have hm:q∈allP s:=by rw [hl]; exact List.mem_cons_self ..
  have hqp:=(mem_allP hS).1 hm
  have hql:=(plan_of hS hqp.1).len
  have hS2:=hS.c2
  have hlen:(allP s).length=qs.length+1:=by rw [hl]; rfl
  have hle:=allP_len hS
  rw [hlen] at k42 hle
  have k44a:=k44 H1 hg
  have k26:=c26 (kk:=m) (hs.grow hg) hd hz (by omega) H1 (Grow.refl _)
  rw [isPlanR_eq e4,hqp.1] at k26
  have k44b:=c44 (pk:=m) (hs.grow hg) hd hz (by omega) e4 hqp.1 H1 (Grow.refl _)
  rw [hqp.2] at k44b
  have k40:=c40 (ka:=pk) (kb:=m) (Sl.grow hq hg) hz (by omega) (by omega) H1 (Grow.refl _)
  have k35:=c35 (kk:=pk) (km:=m) (Sl.grow hq hg) hz (by omega) H1 (Grow.refl _)
  have l5:=hz.isLoc m
  have n1:=u.len
  have n2:H.length≤lo:=hlo
  have z1:(((qs.length+1:Nat):Int) < 0)=False:=by simp; omega
  have z2:((792:Int) < ((qs.length+1:Nat):Int))=False:=by simp; omega
  have z3:((0:Int) < ((qs.length+1:Nat):Int))=True:=by simp <;> omega
  cases hsv:surely s plan with
  | false =>
   rw [hsv] at k44a
   simp (maxDischargeDepth:=8) only [↓SD,SU,SV,SW,simprocAttr,Int.cast_ofNat_Int,small,resV, B8,R8,N8,b8, l1,l2,l3,l4,l5,k29,e1,c23,ho,k42,k44a,k44b,k26,k40,k35,n1,n2,z1,z2,z3]
  | true =>
   rw [hsv] at k44a
   obtain ⟨f1,f2⟩:=first_min hS hl ((mem_allP hS).2 ⟨e5,hsv⟩)
   rw [f1] at k40
   cases hsm:same plan q with
   | true =>
    rw [hsm] at k35
    simp (maxDischargeDepth:=8) only [↓SD,SU,SV,SW,simprocAttr,Int.cast_ofNat_Int,small,resV, B8,R8,N8,b8, l1,l2,l3,l4,l5,k29,e1,c23,ho,k42,k44a,k44b,k26,k40,k35,n1,n2,z1,z2,z3]
   | false =>
    rw [hsm] at k35
    have f3:0 < qs.length:=f2.resolve_left fun h=>by rw [same_iff.2 h] at hsm; cases hsm
    have z4:((1:Int) < ((qs.length+1:Nat):Int))=True:=by simp; omega
    simp (maxDischargeDepth:=8) only [↓SD,SU,SV,SW,simprocAttr,Int.cast_ofNat_Int,small,resV, B8,R8,N8,b8, l1,l2,l3,l4,l5,k29,e1,c23,ho,k42,k44a,k44b,k26,k40,k35,n1,n2,z1,z2,z3,z4]
end Go.Pi.L.Coa
namespace CM
def hd (p:List Int):Int:=p.headD 0
def lng (p:List Int):Int:=p.getLastD 0 - p.headD 0
def lateOf (L:List (List Int)):Int:=L.foldl (fun n p=>max n (hd p)) (-1)
def quickOf (L:List (List Int)):Int:=L.foldl (fun n p=>if n < 0∨lng p < n then lng p else n) (-1)
def bst (f:List Int→List Int→Bool)(p:List Int)(L:List (List Int)):List Int:=L.foldl (fun o x=>if f x o=true then x else o) p
def hasDay (L:List (List Int))(n:Nat)(d:Nat):Bool:=L.any fun p=>decide (p[n]?=some (d:Int))
def daysOf (L:List (List Int))(n:Nat)(k:Nat):List Int:=List.map (fun d:Nat=>(d:Int)) ((List.range k).filter fun d=>hasDay L n d)
theorem fold_succ {α β:Type}(f:β→α→β)(b:β){L:List α}{j:Nat}{x:α}(h:L[j]?=some x):(L.take (j+1)).foldl f b=f ((L.take j).foldl f b) x:=by
 obtain ⟨hj,rfl⟩:=List.getElem?_eq_some_iff.1 h
 rw [List.take_succ_eq_append_getElem hj,List.foldl_append]; rfl
theorem bst_mem {f:List Int→List Int→Bool}:∀{L:List (List Int)} {p:List Int},bst f p L∈p :: L
 | [],p=>by simp [bst]
 | x :: L,p=>by
  have:=bst_mem (f:=f) (L:=L) (p:=if f x p=true then x else p)
  simp only [bst,List.foldl_cons] at this ⊢
  split at this
  ·rename_i h; rw [if_pos h]; exact List.mem_cons_of_mem _ this
  ·rename_i h
   rw [if_neg h]
   rcases List.mem_cons.1 this with h | h
   ·rw [h]; exact List.mem_cons_self ..
   ·exact List.mem_cons_of_mem _ (List.mem_cons_of_mem _ h)
theorem late_bst {L:List (List Int)}{p:List Int}(h0:0≤hd p):hd (bst (fun a b=>decide (hd b < hd a)) p L)=lateOf (p :: L):=by
 unfold lateOf bst
 rw [List.foldl_cons,show max (-1) (hd p)=hd p by omega]
 induction L generalizing p with
 | nil=>rfl
 | cons x L ih =>
  simp only [List.foldl_cons]
  by_cases h:hd p < hd x
  ·rw [if_pos (by simpa using h),ih (by omega),show max (hd p) (hd x)=hd x by omega]
  ·rw [if_neg (by simpa using h),ih h0,show max (hd p) (hd x)=hd p by omega]
theorem quick_bst {L:List (List Int)}{p:List Int}(h0:0≤lng p)(hL:∀x∈L,0≤lng x):lng (bst (fun a b=>decide (lng a < lng b)) p L)=quickOf (p :: L):=by
 unfold quickOf bst
 rw [List.foldl_cons,if_pos (.inl (by decide))]
 induction L generalizing p with
 | nil=>rfl
 | cons x L ih =>
  have hx:=hL x (List.mem_cons_self ..)
  simp only [List.foldl_cons]
  by_cases h:lng x < lng p
  ·rw [if_pos (by simpa using h),if_pos (.inr h)]; exact ih hx fun y hy=>hL y (List.mem_cons_of_mem _ hy)
  ·rw [if_neg (by simpa using h),if_neg (by omega)]; exact ih h0 fun y hy=>hL y (List.mem_cons_of_mem _ hy)
theorem rises_last:∀{p:List Int} {x:Int},rises (x :: p)=true→x≤(x :: p).getLastD 0
 | [],x,_=>by simp
 | y :: p,x,h=>by
  simp only [rises,Bool.and_eq_true,decide_eq_true_eq] at h
  have:=rises_last (p:=p) (x:=y) h.2
  simp only [List.getLastD_cons] at this ⊢
  omega
theorem lng_nonneg {p:List Int}(h:rises p=true):0≤lng p:=by
 cases p with
 | nil=>simp [lng]
 | cons x p=>have:=rises_last h; simp only [lng,List.headD_cons]; omega
theorem range_yes {p:Nat→Bool}{j:Nat}(h:p j=true):(List.range (j+1)).filter p=(List.range j).filter p++[j]:=by
 rw [List.range_succ,List.filter_append]; simp [h]
theorem range_no {p:Nat→Bool}{j:Nat}(h:p j=false):(List.range (j+1)).filter p=(List.range j).filter p:=by
 rw [List.range_succ,List.filter_append]; simp [h]
theorem days_yes {L:List (List Int)}{n j:Nat}(h:hasDay L n j=true):daysOf L n (j+1)=daysOf L n j++[(j:Int)]:=by
 unfold daysOf; rw [range_yes (p:=fun d=>hasDay L n d) h,List.map_append]; rfl
theorem days_no {L:List (List Int)}{n j:Nat}(h:hasDay L n j=false):daysOf L n (j+1)=daysOf L n j:=by
 unfold daysOf; rw [range_no (p:=fun d=>hasDay L n d) h]
theorem days_len (L:List (List Int))(n k:Nat):(daysOf L n k).length≤k:=by
 unfold daysOf; rw [List.length_map]; exact Nat.le_trans (List.length_filter_le _ _) (by simp)
end CM
set_option maxRecDepth 100000
namespace Go.Pi.L
open Go Go.Pi
theorem LL.tail {H:Heap}{b off n m:Nat}{x:List Int}{xs:List (List Int)}(h:LL H (some ⟨b,off,Option.none⟩) (n+1) (x :: xs)) :
  ∃a' m',VOp.ev.slc 1 (some ⟨b,off,Option.none⟩) (n+1) m 1 (n+1:Nat)=some (.slice a' n m')∧LL H a' n xs:=by
 have hl:xs.length=n:=by have:=h.len; simpa using this
 unfold VOp.ev.slc
 rw [if_pos (by omega)]
 simp only
 by_cases h0:n=0
 ·subst h0
  rw [if_neg (by omega)]
  exact ⟨_,0,rfl,hl,.inr ⟨_,_,rfl⟩,fun j y hj=>by have:=(List.getElem?_eq_some_iff.1 hj).1; omega⟩
 ·rw [if_pos (by omega)]
  refine ⟨_,_,by rw [show (((n+1:Nat):Int) - 1).toNat=n by omega],hl,.inr ⟨_,_,rfl⟩,fun j y hj=>?_⟩
  obtain ⟨b',off',c,a',m',h1,h2,h3,h4⟩:=h.rd (j+1) y (by simpa using hj)
  cases h1
  exact ⟨_,_,c,a',m',rfl,h2,by rw [show off+Int.toNat 1*1+j=off+(j+1) by simp; omega]; exact h3,h4⟩
end Go.Pi.L
namespace Go.Pi.L.Coa
open Go Go.Pi Go.Pi.L Go.Pi.Coa CM

theorem c94 {H:Heap}{a:Option Addr}{l m:Nat}{p:List Int}(hq:Ints H a l p){n d:Nat}{x:Int}(hx:p[n]?=some x){nb db:Nat}(hn:hcells H nb=some [.int .i64 n])(hd:hcells H db=some [.int .i64 d]) :
  ∀H',Grow H H'→R (.func 94) [.slice a l m,.pointer (some ⟨nb,0,none⟩),.pointer (some ⟨db,0,none⟩)] H'=some ⟨.ok (.bool (decide (x=(d:Int)))),H',H'.length⟩:=by
 intro H' hg
 refine run_k (pr 94) P94 (by simp [p94]) rfl ?_
 have hn:=hg.hc hn
 have hd:=hg.hc hd
 have hnl:n < l:=by rw [←hq.len]; exact (List.getElem?_eq_some_iff.1 hx).1
 have l1:=hq.isLoc m
 obtain ⟨b,off,y,rfl,hy,f0⟩:=hq.i1 hnl
 rw [hx] at hy; cases hy
 simp (maxDischargeDepth:=8) only [↓SD,SU,SV,SW,simprocAttr,Int.cast_ofNat_Int,small,resV, B94,R94,N94,b94, l1,hn,hd,hnl,f0,hg,R94,N94]
theorem c132 {H:Heap}{a:Option Addr}{l m:Nat}{L:List (List Int)}(hL:LL H a l L)(hl:l < 1000000){n d:Nat}(hn0:∀p∈L,n < p.length){nb db:Nat}(hn:hcells H nb=some [.int .i64 n])(hd:hcells H db=some [.int .i64 d]) :
  ∀H',Grow H H'→R (.func 132) [.slice a l m,.func (.func 94) #[] #[.pointer (some ⟨nb,0,none⟩),.pointer (some ⟨db,0,none⟩)]] H'=some ⟨.ok (.int .i64 (idx (fun p=>decide (p[n]?=some (d:Int))) L 0)),H',H'.length⟩:=by
 intro H' hg
 refine run_k (pr 132) P132 (by simp [p132]) rfl ?_
 have l1:=hL.isLoc l m
 simp (maxDischargeDepth:=8) only [↓SD,SU,SV,SW,simprocAttr,Int.cast_ofNat_Int,small,resV, B132,R132,N132,b132, l1]
 refine loop_ind (G:=(·=_)) (fun j σ=>∃T,σ=⟨T,[],[],H',(H').length,19,false⟩∧get T 0=.slice a l m∧get T 1=.func (.func 94) #[] #[.pointer (some ⟨nb,0,none⟩),.pointer (some ⟨db,0,none⟩)]∧get T 7=.int .i64 l∧get T 8=.int .i64 (j:Nat)∧(idx (fun p=>decide (p[n]?=some (d:Int))) (L.drop j) j=idx (fun p=>decide (p[n]?=some (d:Int))) L 0)) (l) ?_ ?_ 0 _ (Nat.zero_le _) ⟨_,rfl,rfl,rfl,rfl,rfl,by simp⟩
 ·rintro c' j s hj ⟨T,rfl,t0,t1,t7,t8,hp⟩ ih
  obtain ⟨b,off,p,a',m',rfl,hp1,f0,hq⟩:=hL.get hj
  have f0':=f0 H' hg
  have hpn:=hn0 p (List.mem_of_getElem? hp1)
  obtain ⟨x,hx⟩:∃x,p[n]?=some x:=⟨_,List.getElem?_eq_getElem hpn⟩
  have hq':Ints H a' p.length p:=hq
  have k94:=c94 (m:=m') hq' hx hn hd H' hg
  have l2:=hq'.isLoc m'
  have hw1:=wrap_succ j (by omega)
  rw [drop_cons hp1,idx] at hp
  by_cases e:x=(d:Int)
  ·rw [if_pos (by simp [hx,e])] at hp
   simp (maxDischargeDepth:=8) only [↓SD,SU,SV,SW,simprocAttr,Int.cast_ofNat_Int,small,resV, q132x0,t0,t1,t7,t8, lt_nat,hj,l1,l2,f0',k94,e,R132,N132,←hp]
  ·rw [if_neg (by simp [hx,e])] at hp
   simp (maxDischargeDepth:=8) only [↓SD,SU,SV,SW,simprocAttr,Int.cast_ofNat_Int,small,resV, q132x0,t0,t1,t7,t8, lt_nat,hj,l1,l2,f0',k94,e,hw1]
   exact ih _ ⟨_,rfl,(by simp [get_set,t0] <;> omega),(by simp [get_set,t1] <;> omega),(by simp [get_set,t7] <;> omega),(by simp [get_set,t8] <;> omega),hp⟩
 ·rintro c' s ⟨T,rfl,t0,t1,t7,t8,hp⟩
  rw [drop_all hL.len,idx] at hp
  simp (maxDischargeDepth:=8) only [↓SD,SU,SV,SW,simprocAttr,Int.cast_ofNat_Int,small,resV, q132x0,t0,t1,t7,t8, lt_nat,Nat.lt_irrefl,l1,R132,N132,←hp]
theorem c93 {H:Heap}{a:Option Addr}{l m:Nat}{L:List (List Int)}(hL:LL H a l L)(hl:l < 1000000){n d:Nat}(hn0:∀p∈L,n < p.length){nb db:Nat}(hn:hcells H nb=some [.int .i64 n])(hd:hcells H db=some [.int .i64 d]) :
  ∀H',Grow H H'→R (.func 93) [.slice a l m,.func (.func 94) #[] #[.pointer (some ⟨nb,0,none⟩),.pointer (some ⟨db,0,none⟩)]] H'=some ⟨.ok (.bool (hasDay L n d)),H',H'.length⟩:=by
 intro H' hg
 refine run_k (pr 93) P93 (by simp [p93]) rfl ?_
 have l1:=hL.isLoc l m
 have k:=c132 (m:=m) hL hl hn0 hn hd H' hg
 simp (maxDischargeDepth:=8) only [↓SD,SU,SV,SW,simprocAttr,Int.cast_ofNat_Int,small,resV, B93,R93,N93,b93, l1,k,idx_any,R93,N93,hasDay]
theorem c97 {H:Heap}{a:Option Addr}{m:Nat}{p:List Int}(hq:Ints H a p.length p)(h0:0 < p.length)(hl:p.length < 1000)(hb:∀x∈p,0≤x∧x < 1000) :
  ∀H',Grow H H'→R (.func 97) [.slice a p.length m] H'=some ⟨.ok (.int .i64 (lng p)),H',H'.length⟩:=by
 intro H' hg
 refine run_k (pr 97) P97 (by simp [p97]) rfl ?_
 have l1:=hq.isLoc m
 obtain ⟨k,hk⟩:∃k,p.length=k+1:=⟨p.length - 1,by omega⟩
 obtain ⟨b,off,x,rfl,hx,f0⟩:=hq.i1 (j:=0) h0
 obtain ⟨b2,off2,y,hb2,hy,f1⟩:=hq.i1 (j:=k) (by omega)
 cases hb2
 have w1:IntKind.wrap .i64 (((p.length:Nat):Int) - 1)=(k:Nat):=by rw [wrap_id _ (by omega) (by omega)]; omega
 have hx2:=hb x (List.mem_of_getElem? hx)
 have hy2:=hb y (List.mem_of_getElem? hy)
 have e:lng p=y - x:=by
  cases p with
  | nil=>simp at h0
  | cons z p =>
   simp at hx; subst hx
   have:(z :: p).getLast?=some y:=by rw [List.getLast?_eq_getElem?,hk,Nat.add_sub_cancel]; exact hy
   rw [lng,List.getLastD_eq_getLast?,this]; rfl
 have w2:IntKind.wrap .i64 (y - x)=lng p:=by rw [e]; exact wrap_id _ (by omega) (by omega)
 have hkl:k < p.length:=by omega
 have f0':=f0 H' hg
 rw [Nat.zero_mul,Nat.add_zero] at f0'
 have ia1:vv (.ia 1) [.slice (some ⟨b,off,none⟩) p.length m,.int .i64 0]=some (.pointer (some ⟨b,off,none⟩)):=by have:=vv_iaN 1 b off 0 p.length m .i64 h0; simpa using this
 simp (maxDischargeDepth:=8) only [↓SD,SU,SV,SW,simprocAttr,Int.cast_ofNat_Int,small,resV, B97,R97,N97,b97, l1,w1,hkl,f1,hg,ia1,f0',w2,R97,N97]
theorem c98 {H:Heap}{a a':Option Addr}{m m':Nat}{p q:List Int}(hq:Ints H a p.length p)(h0:0 < p.length)(hl:p.length < 1000)(hb:∀x∈p,0≤x∧x < 1000)(hq':Ints H a' q.length q)(h0':0 < q.length)(hl':q.length < 1000)(hb':∀x∈q,0≤x∧x < 1000) :
  ∀H',Grow H H'→R (.func 98) [.slice a p.length m,.slice a' q.length m'] H'=some ⟨.ok (.bool (decide (lng p < lng q))),H',H'.length⟩:=by
 intro H' hg
 refine run_k (pr 98) P98 (by simp [p98]) rfl ?_
 have l1:=hq.isLoc m
 have l2:=hq'.isLoc m'
 have k1:=c97 (m:=m) hq h0 hl hb H' hg
 have k2:=c97 (m:=m') hq' h0' hl' hb' H' hg
 simp (maxDischargeDepth:=8) only [↓SD,SU,SV,SW,simprocAttr,Int.cast_ofNat_Int,small,resV, B98,R98,N98,b98, l1,l2,k1,k2,R98,N98]
theorem c96 {H:Heap}{a a':Option Addr}{m m':Nat}{p q:List Int}(hq:Ints H a p.length p)(h0:0 < p.length)(hq':Ints H a' q.length q)(h0':0 < q.length) :
  ∀H',Grow H H'→R (.func 96) [.slice a p.length m,.slice a' q.length m'] H'=some ⟨.ok (.bool (decide (hd q < hd p))),H',H'.length⟩:=by
 intro H' hg
 refine run_k (pr 96) P96 (by simp [p96]) rfl ?_
 have l1:=hq.isLoc m
 have l2:=hq'.isLoc m'
 obtain ⟨b,off,x,rfl,hx,f0⟩:=hq.i1 (j:=0) h0
 obtain ⟨b2,off2,y,rfl,hy,f1⟩:=hq'.i1 (j:=0) h0'
 have e1:hd p=x:=by cases p with | nil=>simp at h0 | cons z p=>simp at hx; simp [hd,hx]
 have e2:hd q=y:=by cases q with | nil=>simp at h0' | cons z p=>simp at hy; simp [hd,hy]
 have f0':=f0 H' hg
 have f1':=f1 H' hg
 rw [Nat.zero_mul,Nat.add_zero] at f0' f1'
 have ia1:vv (.ia 1) [.slice (some ⟨b,off,none⟩) p.length m,.int .i64 0]=some (.pointer (some ⟨b,off,none⟩)):=by have:=vv_iaN 1 b off 0 p.length m .i64 h0; simpa using this
 have ia2:vv (.ia 1) [.slice (some ⟨b2,off2,none⟩) q.length m',.int .i64 0]=some (.pointer (some ⟨b2,off2,none⟩)):=by have:=vv_iaN 1 b2 off2 0 q.length m' .i64 h0'; simpa using this
 simp (maxDischargeDepth:=8) only [↓SD,SU,SV,SW,simprocAttr,Int.cast_ofNat_Int,small,resV, B96,R96,N96,b96, l1,l2,ia1,ia2,f0',f1',e1,e2,R96,N96]
end Go.Pi.L.Coa
set_option maxRecDepth 100000
namespace Go.Pi.L.Coa
open Go Go.Pi Go.Pi.L Go.Pi.Coa CM

structure Fine (L:List (List Int)):Prop where
 pos:∀p∈L,0 < p.length
 len:∀p∈L,p.length < 1000
 rng:∀p∈L,∀x∈p,0≤x∧x < 1000
 inc:∀p∈L,rises p=true
theorem fine_all {s:Sheet}(hS:ShFine s):Fine (allP s):=by
 have key:∀p∈allP s,isPlan s p=true:=fun p hp=>((mem_allP hS).1 hp).1
 have c1:=hS.c1
 have c2:=hS.c2
 have d2:=hS.d2
 refine ⟨fun p hp=>by have:=(plan_of hS (key p hp)).len; omega,fun p hp=>by have:=(plan_of hS (key p hp)).len; omega,fun p hp x hx=>?_,fun p hp=>((isPlan_iff).1 (key p hp)).2.1⟩
 have:=hS.work x ((plan_of hS (key p hp)).work x hx)
 omega
theorem c95 {H:Heap}{a:Option Addr}{l m:Nat}{p:List Int}{L:List (List Int)}(hL:LL H a l (p :: L))(hl:l < 1000000){g:FuncId}(f:List Int→List Int→Bool)(H':Heap)(hg:Grow H H')
  (hf:∀x∈p :: L,∀y∈p :: L,∀a b m k,Ints H a x.length x→Ints H b y.length y→R (.func g) [.slice a x.length m,.slice b y.length k] H'=some ⟨.ok (.bool (f x y)),H',H'.length⟩) :
  Yes (R (.func 95) [.slice a l m,.func (.func g) #[] #[]] H') (fun o=>∃a' m',o=⟨.ok (.slice a' (bst f p L).length m'),H',H'.length⟩∧Ints H a' (bst f p L).length (bst f p L)):=by
 refine run_y (pr 95) P95 (by simp [p95]) rfl ?_
 have hlen:=hL.len
 have hlp:l=L.length+1:=by rw [←hlen]; rfl
 subst hlp
 have l1:=hL.isLoc (L.length+1) m
 obtain ⟨b,off,xs,a0,m0,rfl,hx,f0,hq⟩:=hL.get (j:=0) (by omega)
 simp at hx; subst hx
 have f0':=f0 H' hg
 rw [Nat.zero_mul,Nat.add_zero] at f0'
 have hq':Ints H a0 p.length p:=hq
 have l2:=hq'.isLoc m0
 have ia1:vv (.ia 1) [.slice (some ⟨b,off,none⟩) (L.length+1) m,.int .i64 0]=some (.pointer (some ⟨b,off,none⟩)):=by have:=vv_iaN 1 b off 0 (L.length+1) m .i64 (by omega); simpa using this
 obtain ⟨at_,mt,hs,hT⟩:=hL.tail (m:=m)
 have hsl:=vv_sll' 1 (some ⟨b,off,none⟩) (L.length+1) m 1 .i64 l1
 rw [hs] at hsl
 have l3:=hT.isLoc L.length mt
 simp (maxDischargeDepth:=8) only [↓SD,SU,SV,SW,simprocAttr,Int.cast_ofNat_Int,small,resV, B95,R95,N95,b95, l1,l2,l3,ia1,f0',hsl]
 refine loop_ind (G:=(Yes · (fun o:Out=>∃a' m',o=⟨.ok (.slice a' (bst f p L).length m'),H',H'.length⟩∧Ints H a' (bst f p L).length (bst f p L)))) (fun j σ=>∃T ao mo,σ=⟨T,[],[],H',(H').length,25,false⟩∧get T 1=.func (.func g) #[] #[]∧get T 5=.slice ao (bst f p (L.take j)).length mo∧get T 12=.slice at_ L.length mt∧get T 13=.int .i64 L.length∧get T 14=.int .i64 (j:Nat)∧(Ints H ao (bst f p (L.take j)).length (bst f p (L.take j)))) (L.length) ?_ ?_ 0 _ (Nat.zero_le _) ⟨_,_,_,rfl,rfl,rfl,rfl,rfl,rfl,hq'⟩
 ·rintro c' j s hj ⟨T,ao,mo,rfl,t1,t5,t12,t13,t14,hp⟩ ih
  obtain ⟨b2,off2,x,a2,m2,rfl,hx,f2,hq2⟩:=hT.get hj
  have f2':=f2 H' hg
  have hq2':Ints H a2 x.length x:=hq2
  have l4:=hq2'.isLoc m2
  have l5:=hp.isLoc mo
  have hw1:=wrap_succ j (by omega)
  have hm:bst f p (L.take j)∈p :: L:=by
   rcases List.mem_cons.1 (bst_mem (f:=f) (L:=L.take j) (p:=p)) with h | h
   ·rw [h]; exact List.mem_cons_self ..
   ·exact List.mem_cons_of_mem _ (List.mem_of_mem_take h)
  have k:=hf x (List.mem_cons_of_mem _ (List.mem_of_getElem? hx)) _ hm a2 ao m2 mo hq2' hp
  have e:=fold_succ (fun o x=>if f x o=true then x else o) p hx
  have e':bst f p (L.take (j+1))=if f x (bst f p (L.take j))=true then x else bst f p (L.take j):=e
  have ia2:vv (.ia 1) [.slice (some ⟨b2,off2,none⟩) L.length mt,.int .i64 (j:Nat)]=some (.pointer (some ⟨b2,off2+j*1,none⟩)):=vv_iaN 1 b2 off2 j _ _ _ hj
  cases hb:f x (bst f p (L.take j)) with
  | true =>
   rw [hb] at k e'
   rw [if_pos rfl] at e'
   simp only [e'] at ih
   simp (maxDischargeDepth:=8) only [↓SD,SU,SV,SW,simprocAttr,Int.cast_ofNat_Int,small,resV, q95x0,t1,t5,t12,t13,t14, lt_nat,hj,l1,l2,l3,l4,l5,ia2,f2',k,hw1]
   exact ih _ ⟨_,(a2),(m2),rfl,(by simp [get_set,t1] <;> omega),(by simp [get_set,t5] <;> omega),(by simp [get_set,t12] <;> omega),(by simp [get_set,t13] <;> omega),(by simp [get_set,t14] <;> omega),hq2'⟩
  | false =>
   rw [hb] at k e'
   rw [if_neg (by simp)] at e'
   simp only [e'] at ih
   simp (maxDischargeDepth:=8) only [↓SD,SU,SV,SW,simprocAttr,Int.cast_ofNat_Int,small,resV, q95x0,t1,t5,t12,t13,t14, lt_nat,hj,l1,l2,l3,l4,l5,ia2,f2',k,hw1]
   exact ih _ ⟨_,(ao),(mo),rfl,(by simp [get_set,t1] <;> omega),(by simp [get_set,t5] <;> omega),(by simp [get_set,t12] <;> omega),(by simp [get_set,t13] <;> omega),(by simp [get_set,t14] <;> omega),hp⟩
 ·rintro c' s ⟨T,ao,mo,rfl,t1,t5,t12,t13,t14,hp⟩
  rw [List.take_length] at hp t5
  have l5:=hp.isLoc mo
  simp (maxDischargeDepth:=8) only [↓SD,SU,SV,SW,simprocAttr,Int.cast_ofNat_Int,small,resV, q95x0,t1,t5,t12,t13,t14, lt_nat,Nat.lt_irrefl,l1,l2,l3,l5,R95,N95]
  rw [yes_some]
  by_cases hfl:flat 4 (.slice ao (bst f p L).length mo)=true
  ·rw [gc_ite (Nat.le_refl _),if_pos hfl]; exact ⟨ao,mo,rfl,hp⟩
  ·rw [gc_ite (Nat.le_refl _),if_neg hfl]; exact ⟨ao,mo,rfl,hp⟩
theorem c46 {H:Heap}{r:ShR}{s:Sheet}(hs:ShOk H r s)(hd:Small r):∀H',Grow H H'→Fam H'→R (.func 46) [.agg #[.slice r.da r.dl r.dk,.slice r.wa r.wl r.wk,.slice r.ca r.cl r.ck]] H'=some ⟨.ok (if isSheet s=true then (if allP s=[] then .tuple #[.int .i64 0,.int .i64 5] else .tuple #[.int .i64 (lateOf (allP s)),.int .i64 0]) else .tuple #[.int .i64 0,.int .i64 2]),H',H'.length⟩:=by
 intro H' hg hF
 refine run_k (pr 46) P46 (by simp [p46]) rfl ?_
 obtain ⟨o,ho,hq⟩:=c89 hs hd 5 H' hg hF
 cases e1:isSheet s with
 | false =>
  simp only [e1,Bool.false_eq_true,if_false] at hq ⊢
  subst hq
  simp only [errV] at ho
  simp (maxDischargeDepth:=8) only [↓SD,SU,SV,SW,simprocAttr,Int.cast_ofNat_Int,small,resV, B46,R46,N46,b46, hs.d.isLoc,hs.w.isLoc,hs.c.isLoc,ho,R46,N46]
 | true =>
 have hS:=fine_of e1
 simp only [e1,if_true] at hq ⊢
 cases hl:allP s with
 | nil =>
  rw [if_pos hl] at hq
  subst hq
  simp only [errV] at ho
  simp (maxDischargeDepth:=8) only [↓SD,SU,SV,SW,simprocAttr,Int.cast_ofNat_Int,small,resV, B46,R46,N46,b46, hs.d.isLoc,hs.w.isLoc,hs.c.isLoc,ho,R46,N46]
 | cons q qs =>
  rw [if_neg (by simp [hl])] at hq ⊢
  obtain ⟨a,m,H1,lo,rfl,u,hlo,hL⟩:=hq
  have hFi:=fine_all hS
  rw [hl] at ho hL hFi
  have l1:=hL.isLoc (q :: qs).length m
  have hll:(q :: qs).length < 1000000:=by have:=allP_len hS; rw [hl] at this; omega
  obtain ⟨o2,ho2,a2,m2,rfl,hB⟩:=c95 (m:=m) hL hll (g:=96) (fun a b=>decide (CM.hd b < CM.hd a)) H1 (Grow.refl _) (fun x hx y hy a b m k ha hb=>c96 ha (hFi.pos x hx) hb (hFi.pos y hy) H1 (Grow.refl _))
  have hm:=bst_mem (f:=fun a b=>decide (CM.hd b < CM.hd a)) (L:=qs) (p:=q)
  have h0:0≤CM.hd q:=by
   have:=hFi.pos q (List.mem_cons_self ..)
   cases q with
   | nil=>simp at this
   | cons x q=>have:=hFi.rng (x :: q) (List.mem_cons_self ..) x (List.mem_cons_self ..); simp [CM.hd]; omega
  have hlate:=late_bst (L:=qs) h0
  have hpos:=hFi.pos _ hm
  generalize bst (fun a b=>decide (CM.hd b < CM.hd a)) q qs=w at *
  have l2:=hB.isLoc m2
  obtain ⟨b,off,x,rfl,hx,f0⟩:=hB.i1 (j:=0) hpos
  have e1':x=lateOf (q :: qs):=by rw [←hlate]; cases w with | nil=>simp at hpos | cons z w=>simp at hx; simp [CM.hd,hx]
  have f0':=f0 H1 (Grow.refl _)
  rw [Nat.zero_mul,Nat.add_zero,e1'] at f0'
  have ia1:vv (.ia 1) [.slice (some ⟨b,off,none⟩) w.length m2,.int .i64 0]=some (.pointer (some ⟨b,off,none⟩)):=by have:=vv_iaN 1 b off 0 w.length m2 .i64 hpos; simpa using this
  have n1:=u.len
  have n2:H'.length≤lo:=hlo
  simp only [List.length_cons] at ho l1 ho2
  simp (maxDischargeDepth:=8) only [↓SD,SU,SV,SW,simprocAttr,Int.cast_ofNat_Int,small,resV, B46,R46,N46,b46, hs.d.isLoc,hs.w.isLoc,hs.c.isLoc,ho,l1,l2,ho2,ia1,f0',n1,n2,R46,N46]
theorem c47 {H:Heap}{r:ShR}{s:Sheet}(hs:ShOk H r s)(hd:Small r):∀H',Grow H H'→Fam H'→R (.func 47) [.agg #[.slice r.da r.dl r.dk,.slice r.wa r.wl r.wk,.slice r.ca r.cl r.ck]] H'=some ⟨.ok (if isSheet s=true then (if allP s=[] then .tuple #[.int .i64 0,.int .i64 5] else .tuple #[.int .i64 (quickOf (allP s)),.int .i64 0]) else .tuple #[.int .i64 0,.int .i64 2]),H',H'.length⟩:=by
 intro H' hg hF
 refine run_k (pr 47) P47 (by simp [p47]) rfl ?_
 obtain ⟨o,ho,hq⟩:=c89 hs hd 5 H' hg hF
 cases e1:isSheet s with
 | false =>
  simp only [e1,Bool.false_eq_true,if_false] at hq ⊢
  subst hq
  simp only [errV] at ho
  simp (maxDischargeDepth:=8) only [↓SD,SU,SV,SW,simprocAttr,Int.cast_ofNat_Int,small,resV, B47,R47,N47,b47, hs.d.isLoc,hs.w.isLoc,hs.c.isLoc,ho,R47,N47]
 | true =>
 have hS:=fine_of e1
 simp only [e1,if_true] at hq ⊢
 cases hl:allP s with
 | nil =>
  rw [if_pos hl] at hq
  subst hq
  simp only [errV] at ho
  simp (maxDischargeDepth:=8) only [↓SD,SU,SV,SW,simprocAttr,Int.cast_ofNat_Int,small,resV, B47,R47,N47,b47, hs.d.isLoc,hs.w.isLoc,hs.c.isLoc,ho,R47,N47]
 | cons q qs =>
  rw [if_neg (by simp [hl])] at hq ⊢
  obtain ⟨a,m,H1,lo,rfl,u,hlo,hL⟩:=hq
  have hFi:=fine_all hS
  rw [hl] at ho hL hFi
  have l1:=hL.isLoc (q :: qs).length m
  have hll:(q :: qs).length < 1000000:=by have:=allP_len hS; rw [hl] at this; omega
  obtain ⟨o2,ho2,a2,m2,rfl,hB⟩:=c95 (m:=m) hL hll (g:=98) (fun a b=>decide (lng a < lng b)) H1 (Grow.refl _) (fun x hx y hy a b m k ha hb=>c98 ha (hFi.pos x hx) (hFi.len x hx) (hFi.rng x hx) hb (hFi.pos y hy) (hFi.len y hy) (hFi.rng y hy) H1 (Grow.refl _))
  have hm:=bst_mem (f:=fun a b=>decide (lng a < lng b)) (L:=qs) (p:=q)
  have hqk:=quick_bst (L:=qs) (p:=q) (lng_nonneg (hFi.inc q (List.mem_cons_self ..))) (fun x hx=>lng_nonneg (hFi.inc x (List.mem_cons_of_mem _ hx)))
  have hpos:=hFi.pos _ hm
  have k97:=c97 (m:=m2) hB hpos (hFi.len _ hm) (hFi.rng _ hm) H1 (Grow.refl _)
  rw [hqk] at k97
  have l2:=hB.isLoc m2
  have n1:=u.len
  have n2:H'.length≤lo:=hlo
  simp only [List.length_cons] at ho l1 ho2
  simp (maxDischargeDepth:=8) only [↓SD,SU,SV,SW,simprocAttr,Int.cast_ofNat_Int,small,resV, B47,R47,N47,b47, hs.d.isLoc,hs.w.isLoc,hs.c.isLoc,ho,l1,l2,ho2,k97,n1,n2,R47,N47]
theorem c48 {H:Heap}{r:ShR}{s:Sheet}(hs:ShOk H r s)(hd:Small r)(hS:ShFine s):∀H',Grow H H'→Fam H'→R (.func 48) [.agg #[.slice r.da r.dl r.dk,.slice r.wa r.wl r.wk,.slice r.ca r.cl r.ck]] H'=some ⟨.ok (.int .i64 (lateOf (allP s))),H',H'.length⟩:=by
 intro H' hg hF
 refine run_k (pr 48) P48 (by simp [p48]) rfl ?_
 obtain ⟨o,ho,a,m,H1,lo,rfl,u,hlo,hL⟩:=c43 hs hd hS H' hg hF
 have hFi:=fine_all hS
 have hlen:=allP_len hS
 have n1:=u.len
 have n2:H'.length≤lo:=hlo
 have l4:=hL.isLoc (allP s).length m
 simp (maxDischargeDepth:=8) only [↓SD,SU,SV,SW,simprocAttr,Int.cast_ofNat_Int,small,resV, B48,R48,N48,b48, hs.d.isLoc,hs.w.isLoc,hs.c.isLoc,l4,ho,n1,n2]
 refine loop_ind (G:=(·=_)) (fun j σ=>∃T S lim,σ=⟨T,S,[],H1,lim,23,false⟩∧get T 3=.slice a (allP s).length m∧get T 4=.int .i64 (((allP s).take j).foldl (fun n p=>max n (CM.hd p)) (-1))∧get T 5=.int .i64 (j:Nat)∧(H'.length≤lim)) ((allP s).length) ?_ ?_ 0 _ (Nat.zero_le _) ⟨_,_,_,rfl,rfl,rfl,rfl,by omega⟩
 ·rintro c' j s hj ⟨T,S,lim,rfl,t3,t4,t5,hp⟩ ih
  obtain ⟨b,off,x,a2,m2,rfl,hx,f2,hq2⟩:=hL.get hj
  have f2':=f2 H1 (Grow.refl _)
  have hq2':Ints H1 a2 x.length x:=hq2
  have l5:=hq2'.isLoc m2
  have hpos:=hFi.pos x (List.mem_of_getElem? hx)
  obtain ⟨b3,off3,y,rfl,hy,f3⟩:=hq2'.i1 (j:=0) hpos
  have f3':=f3 H1 (Grow.refl _)
  rw [Nat.zero_mul,Nat.add_zero] at f3'
  have ia1:vv (.ia 1) [.slice (some ⟨b3,off3,none⟩) x.length m2,.int .i64 0]=some (.pointer (some ⟨b3,off3,none⟩)):=by have:=vv_iaN 1 b3 off3 0 x.length m2 .i64 hpos; simpa using this
  have hw1:=wrap_succ j (by omega)
  have e:=fold_succ (fun n p=>max n (CM.hd p)) (-1) hx
  have ey:CM.hd x=y:=by cases x with | nil=>simp at hpos | cons z w=>simp at hy; simp [CM.hd,hy]
  rw [ey] at e
  generalize ((allP s).take j).foldl (fun n p=>max n (CM.hd p)) (-1)=v at *
  have hmx:(if v < y then y else v)=((allP s).take (j+1)).foldl (fun n p=>max n (CM.hd p)) (-1):=by rw [e]; split <;> omega
  simp (maxDischargeDepth:=8) only [↓SD,SU,SV,SW,simprocAttr,Int.cast_ofNat_Int,small,resV, q48x0,t3,t4,t5, lt_nat,hj,l4,l5,f2',ia1,f3',vv_mx,hmx,hw1]
  exact ih _ ⟨_,_,(_),rfl,(by simp [get_set,t3] <;> omega),(by simp [get_set,t4] <;> omega),(by simp [get_set,t5] <;> omega),hp⟩
 ·rintro c' s ⟨T,S,lim,rfl,t3,t4,t5,hp⟩
  rw [List.take_length] at t4
  simp (maxDischargeDepth:=8) only [↓SD,SU,SV,SW,simprocAttr,Int.cast_ofNat_Int,small,resV, q48x0,t3,t4,t5, lt_nat,Nat.lt_irrefl,l4,R48,N48,hp,lateOf]
theorem c49 {H:Heap}{r:ShR}{s:Sheet}(hs:ShOk H r s)(hd:Small r)(hS:ShFine s):∀H',Grow H H'→Fam H'→R (.func 49) [.agg #[.slice r.da r.dl r.dk,.slice r.wa r.wl r.wk,.slice r.ca r.cl r.ck]] H'=some ⟨.ok (.int .i64 (quickOf (allP s))),H',H'.length⟩:=by
 intro H' hg hF
 refine run_k (pr 49) P49 (by simp [p49]) rfl ?_
 obtain ⟨o,ho,a,m,H1,lo,rfl,u,hlo,hL⟩:=c43 hs hd hS H' hg hF
 have hFi:=fine_all hS
 have hlen:=allP_len hS
 have n1:=u.len
 have n2:H'.length≤lo:=hlo
 have l4:=hL.isLoc (allP s).length m
 simp (maxDischargeDepth:=8) only [↓SD,SU,SV,SW,simprocAttr,Int.cast_ofNat_Int,small,resV, B49,R49,N49,b49, hs.d.isLoc,hs.w.isLoc,hs.c.isLoc,l4,ho,n1,n2]
 refine loop_ind (G:=(·=_)) (fun j σ=>∃T S lim,σ=⟨T,S,[],H1,lim,43,false⟩∧get T 3=.slice a (allP s).length m∧get T 4=.int .i64 (((allP s).take j).foldl (fun n p=>if n < 0∨lng p < n then lng p else n) (-1))∧get T 5=.int .i64 (j:Nat)∧(H'.length≤lim)) ((allP s).length) ?_ ?_ 0 _ (Nat.zero_le _) ⟨_,_,_,rfl,rfl,rfl,rfl,by omega⟩
 ·rintro c' j s hj ⟨T,S,lim,rfl,t3,t4,t5,hp⟩ ih
  obtain ⟨b,off,x,a2,m2,rfl,hx,f2,hq2⟩:=hL.get hj
  have f2':=f2 H1 (Grow.refl _)
  have hq2':Ints H1 a2 x.length x:=hq2
  have l5:=hq2'.isLoc m2
  have hxm:=List.mem_of_getElem? hx
  have hpos:=hFi.pos x hxm
  have hxl:=hFi.len x hxm
  obtain ⟨k,hk⟩:∃k,x.length=k+1:=⟨x.length - 1,by omega⟩
  obtain ⟨b3,off3,y,rfl,hy,f3⟩:=hq2'.i1 (j:=0) hpos
  obtain ⟨b4,off4,z,hb4,hz,f4⟩:=hq2'.i1 (j:=k) (by omega)
  cases hb4
  have w1:IntKind.wrap .i64 (((x.length:Nat):Int) - 1)=(k:Nat):=by rw [wrap_id _ (by omega) (by omega)]; omega
  have hy2:=hFi.rng x hxm y (List.mem_of_getElem? hy)
  have hz2:=hFi.rng x hxm z (List.mem_of_getElem? hz)
  have ex:lng x=z - y:=by
   cases x with
   | nil=>simp at hpos
   | cons q p =>
    simp at hy; subst hy
    have:(q :: p).getLast?=some z:=by rw [List.getLast?_eq_getElem?,hk,Nat.add_sub_cancel]; exact hz
    rw [lng,List.getLastD_eq_getLast?,this]; rfl
  have w2:IntKind.wrap .i64 (z - y)=lng x:=by rw [ex]; exact wrap_id _ (by omega) (by omega)
  have hkl:k < x.length:=by omega
  have f3':=f3 H1 (Grow.refl _)
  have f4':=f4 H1 (Grow.refl _)
  rw [Nat.zero_mul,Nat.add_zero] at f3'
  have ia1:vv (.ia 1) [.slice (some ⟨b3,off3,none⟩) x.length m2,.int .i64 0]=some (.pointer (some ⟨b3,off3,none⟩)):=by have:=vv_iaN 1 b3 off3 0 x.length m2 .i64 hpos; simpa using this
  have hw1:=wrap_succ j (by omega)
  have e:=fold_succ (fun n p=>if n < 0∨lng p < n then lng p else n) (-1) hx
  generalize ((allP s).take j).foldl (fun n p=>if n < 0∨lng p < n then lng p else n) (-1)=v at *
  generalize lng x=w at *
  by_cases c1:v < 0
  ·rw [if_pos (.inl c1)] at e
   simp only [e] at ih
   simp (maxDischargeDepth:=8) only [↓SD,SU,SV,SW,simprocAttr,Int.cast_ofNat_Int,small,resV, q49x0,t3,t4,t5, lt_nat,hj,l4,l5,f2',ia1,f3',f4',w1,w2,hkl,c1,hw1]
   exact ih _ ⟨_,_,(_),rfl,(by simp [get_set,t3] <;> omega),(by simp [get_set,t4] <;> omega),(by simp [get_set,t5] <;> omega),by omega⟩
  ·by_cases c2:w < v
   ·rw [if_pos (.inr c2)] at e
    simp only [e] at ih
    simp (maxDischargeDepth:=8) only [↓SD,SU,SV,SW,simprocAttr,Int.cast_ofNat_Int,small,resV, q49x0,t3,t4,t5, lt_nat,hj,l4,l5,f2',ia1,f3',f4',w1,w2,hkl,c1,c2,hw1]
    exact ih _ ⟨_,_,(_),rfl,(by simp [get_set,t3] <;> omega),(by simp [get_set,t4] <;> omega),(by simp [get_set,t5] <;> omega),by omega⟩
   ·rw [if_neg (fun h=>h.elim c1 c2)] at e
    simp only [e] at ih
    simp (maxDischargeDepth:=8) only [↓SD,SU,SV,SW,simprocAttr,Int.cast_ofNat_Int,small,resV, q49x0,t3,t4,t5, lt_nat,hj,l4,l5,f2',ia1,f3',f4',w1,w2,hkl,c1,c2,hw1]
    exact ih _ ⟨_,_,(_),rfl,(by simp [get_set,t3] <;> omega),(by simp [get_set,t4] <;> omega),(by simp [get_set,t5] <;> omega),by omega⟩
 ·rintro c' s ⟨T,S,lim,rfl,t3,t4,t5,hp⟩
  rw [List.take_length] at t4
  simp (maxDischargeDepth:=8) only [↓SD,SU,SV,SW,simprocAttr,Int.cast_ofNat_Int,small,resV, q49x0,t3,t4,t5, lt_nat,Nat.lt_irrefl,l4,R49,N49,hp,quickOf]
end Go.Pi.L.Coa
set_option maxRecDepth 100000
namespace Go.Pi.L.Coa
open Go Go.Pi Go.Pi.L Go.Pi.Coa CM

theorem c45 {H:Heap}{r:ShR}{s:Sheet}(hs:ShOk H r s)(hd:Small r)(n:Int):∀H',Grow H H'→Fam H'→Yes (R (.func 45) [.agg #[.slice r.da r.dl r.dk,.slice r.wa r.wl r.wk,.slice r.ca r.cl r.ck],.int .i64 n] H') (fun o =>
  if isSheet s=true∧isCoat s n=true then (if allP s=[] then o=⟨.ok (errV 7),H',H'.length⟩ else QP H' 1 encI (daysOf (allP s) n.toNat s.dry.length) (.int .i64 0) o) else o=⟨.ok (errV 2),H',H'.length⟩):=by
 intro H' hg hF
 refine run_y (pr 45) P45 (by simp [p45]) rfl ?_
 obtain ⟨H0,hH0⟩:∃H0,H'++[({ obj:=.cells [.int .i64 n] }:Blk)]=H0:=⟨_,rfl⟩
 have u0:Up H' H0:=by rw [←hH0]; exact (Up.refl H').app
 have hF0:Fam H0:=by rw [←hH0]; exact hF.append (fun f h=>by cases h)
 have bn:hcells H0 H'.length=some [.int .i64 n]:=by rw [←hH0]; exact hc_new _ _ _
 have hg0:=hg.trans u0.grow
 have k75:=c75 hs hd H0 hg0
 have k92:=c92 hs hd.c n H0 hg0
 have n0:=u0.len
 have l1:=hs.d.isLoc r.dk
 have l2:=hs.w.isLoc r.wk
 have l3:=hs.c.isLoc r.ck
 cases e1:isSheet s with
 | false =>
  simp only [Bool.false_eq_true,false_and,and_false,if_false]
  simp (maxDischargeDepth:=8) only [↓SD,SU,SV,SW,simprocAttr,Int.cast_ofNat_Int,small,resV, B45,R45,N45,b45, l1,l2,l3,hH0,bn,k75,e1,n0,R45,N45]
  rw [yes_some]; rfl
 | true =>
 cases e2:isCoat s n with
 | false =>
  simp only [Bool.false_eq_true,false_and,and_false,if_false]
  simp (maxDischargeDepth:=8) only [↓SD,SU,SV,SW,simprocAttr,Int.cast_ofNat_Int,small,resV, B45,R45,N45,b45, l1,l2,l3,hH0,bn,k75,e1,k92,e2,n0,R45,N45]
  rw [yes_some]; rfl
 | true =>
 simp only [and_self,if_true]
 have hS:=fine_of e1
 obtain ⟨o,ho,hq⟩:=c89 hs hd 7 H0 hg0 hF0
 simp only [e1,if_true] at hq
 by_cases hl:allP s=[]
 ·simp only [if_pos hl] at hq ⊢
  subst hq
  simp only [errV] at ho
  simp (maxDischargeDepth:=8) only [↓SD,SU,SV,SW,simprocAttr,Int.cast_ofNat_Int,small,resV, B45,R45,N45,b45, l1,l2,l3,hH0,bn,k75,e1,k92,e2,ho,n0,R45,N45]
  rw [yes_some]; rfl
 ·simp only [if_neg hl] at hq ⊢
  obtain ⟨a,m,H1,lo,rfl,u,hlo,hL⟩:=hq
  obtain ⟨k,rfl,hk⟩:∃k:Nat,n=k∧k < s.coats.length:=by
   simp only [isCoat,inL_iff] at e2
   exact ⟨n.toNat,by omega,by omega⟩
  rw [Int.toNat_natCast]
  have hF1:Fam H1:=famR ho hF0
  have hkp:∀p∈allP s,k < p.length:=fun p hp=>by rw [(plan_of hS ((mem_allP hS).1 hp).1).len]; exact hk
  have hlen:=allP_len hS
  have hd2:=hS.d2
  have l4:=hL.isLoc (allP s).length m
  have n1:=u.len
  have n2:H0.length≤lo:=hlo
  have hdl:r.dl=s.dry.length:=hs.d.len.symm
  have bn1:=u.grow.hc bn
  have n3:H'.length≤lo:=by omega
  obtain ⟨da,dl,dk,wa,wl,wk,ca,cl,ck⟩:=r
  have hD:Spans H da dl s.dry:=hs.d
  have hW:Ints H wa wl s.work:=hs.w
  have hC:Spans H ca cl s.coats:=hs.c
  have nD:dl < 1000000:=hd.d
  have nW:wl < 1000000:=hd.w
  have nC:cl < 1000000:=hd.c
  have l1:=hD.isLoc dk
  have l2:=hW.isLoc wk
  have l3:=hC.isLoc ck
  simp only at ho k75 k92 hdl l1 l2 l3
  simp (maxDischargeDepth:=8) only [↓SD,SU,SV,SW,simprocAttr,Int.cast_ofNat_Int,small,resV, B45,R45,N45,b45, l1,l2,l3,l4,hH0,bn,k75,e1,k92,e2,ho,n0,n1,n2,n3]
  refine loop_ind (G:=(Yes · (QP H' 1 encI (daysOf (allP s) k s.dry.length) (.int .i64 0)))) (fun j σ=>∃T S H2 ao mo lim,σ=⟨T,S,[],H2,lim,42,false⟩∧get T 3=.pointer (some ⟨H'.length,0,none⟩)∧get T 6=.slice a (allP s).length m∧get T 8=.slice ao (daysOf (allP s) k j).length mo∧get T 29=.int .i64 dl∧get T 30=.int .i64 (j:Nat)∧(Bld H1.length H2 1 ao (daysOf (allP s) k j).length mo (cells encI (daysOf (allP s) k j))∧Up H1 H2∧Fam H2∧H'.length≤lim)) (dl) ?_ ?_ 0 _ (Nat.zero_le _) ⟨_,_,_,_,_,_,rfl,rfl,rfl,rfl,rfl,rfl,⟨Bld.nil _ _ _,Up.refl _,hF1,by omega⟩⟩
  ·rintro c' j s hj ⟨T,S,H2,ao,mo,lim,rfl,t3,t6,t8,t29,t30,hp⟩ ih
   obtain ⟨hB,hu,hF2,hlim⟩:=hp
   obtain ⟨H3,hH3⟩:∃H3,H2++[({ obj:=.cells [.int .i64 (j:Int)] }:Blk)]=H3:=⟨_,rfl⟩
   have u3:Up H2 H3:=by rw [←hH3]; exact (Up.refl H2).app
   have hF3:Fam H3:=by rw [←hH3]; exact hF2.append (fun f h=>by cases h)
   have bd:hcells H3 H2.length=some [.int .i64 (j:Int)]:=by rw [←hH3]; exact hc_new _ _ _
   have g13:=hu.grow.trans u3.grow
   have k93:=c93 (m:=m) (hL.grow g13) (by omega) hkp (g13.hc bn1) bd H3 (Grow.refl _)
   have hw1:=wrap_succ j (by omega)
   have l5:=hB.isLoc (daysOf (allP s) k j).length mo
   have N1:=hu.len
   have N2:=u3.len
   have dj:=days_len (allP s) k j
   cases hh:hasDay (allP s) k j with
   | true =>
    rw [hh] at k93
    obtain ⟨a4,m4,H4,q4,B4,g4,u4,hF4,n4⟩:=(hB.up u3).appl hF3 (by decide) (by decide) (by omega) [.int .i64 (j:Int)] (i:=1) rfl (by omega)
    have l6:=B4.isLoc ((daysOf (allP s) k j).length+1) m4
    rw [show cells encI (daysOf (allP s) k j)++[.int .i64 (j:Int)]=cells encI (daysOf (allP s) k j++[(j:Int)]) by rw [cells_app]; rfl] at B4
    simp only [days_yes hh,List.length_append,List.length_singleton] at ih
    simp (maxDischargeDepth:=8) only [↓SD,SU,SV,SW,simprocAttr,Int.cast_ofNat_Int,small,resV, q45x0,t3,t6,t8,t29,t30, lt_nat,hj,l1,l2,l3,l4,l5,l6,app_get,stH_ok,app_set,hH3,k93,bd,q4,hw1]
    exact ih _ ⟨_,_,(H4),(a4),(m4),(_),rfl,(by simp [get_set,t3] <;> omega),(by simp [get_set,t6] <;> omega),(by simp [get_set,t8] <;> omega),(by simp [get_set,t29] <;> omega),(by simp [get_set,t30] <;> omega),⟨B4,u4 H1 (hu.trans u3) (Nat.le_refl _),hF4,by omega⟩⟩
   | false =>
    rw [hh] at k93
    simp only [days_no hh] at ih
    simp (maxDischargeDepth:=8) only [↓SD,SU,SV,SW,simprocAttr,Int.cast_ofNat_Int,small,resV, q45x0,t3,t6,t8,t29,t30, lt_nat,hj,l1,l2,l3,l4,l5,app_get,stH_ok,app_set,hH3,k93,bd,hw1]
    exact ih _ ⟨_,_,(H3),(ao),(mo),(_),rfl,(by simp [get_set,t3] <;> omega),(by simp [get_set,t6] <;> omega),(by simp [get_set,t8] <;> omega),(by simp [get_set,t29] <;> omega),(by simp [get_set,t30] <;> omega),⟨hB.up u3,hu.trans u3,hF3,by omega⟩⟩
  ·rintro c' s ⟨T,S,H2,ao,mo,lim,rfl,t3,t6,t8,t29,t30,hp⟩
   obtain ⟨hB,hu,hF2,hlim⟩:=hp
   rw [hdl] at hB t8
   have l5:=hB.isLoc (daysOf (allP s) k s.dry.length).length mo
   simp (maxDischargeDepth:=8) only [↓SD,SU,SV,SW,simprocAttr,Int.cast_ofNat_Int,small,resV, q45x0,t3,t6,t8,t29,t30, lt_nat,Nat.lt_irrefl,l4,l5,R45,N45]
   rw [yes_some]
   exact gc_sp (hB.sl encI_len (by decide)) ((u0.trans u).trans hu) hlim
theorem c50 {H:Heap}{r:ShR}{s:Sheet}(hs:ShOk H r s)(hd:Small r)(hS:ShFine s){n:Nat}(hn:n < s.coats.length):∀H',Grow H H'→Fam H'→Yes (R (.func 50) [.agg #[.slice r.da r.dl r.dk,.slice r.wa r.wl r.wk,.slice r.ca r.cl r.ck],.int .i64 n] H') (QS H' 1 encI (daysOf (allP s) n s.dry.length)):=by
 intro H' hg hF
 refine run_y (pr 50) P50 (by simp [p50]) rfl ?_
 obtain ⟨o,ho,a,m,H1,lo,rfl,u,hlo,hL⟩:=c43 hs hd hS H' hg hF
 have hF1:Fam H1:=famR ho hF
 have hkp:∀p∈allP s,n < p.length:=fun p hp=>by rw [(plan_of hS ((mem_allP hS).1 hp).1).len]; exact hn
 have hlen:=allP_len hS
 have hd2:=hS.d2
 have l4:=hL.isLoc (allP s).length m
 have n1:=u.len
 have n2:H'.length≤lo:=hlo
 have hdl:r.dl=s.dry.length:=hs.d.len.symm
 obtain ⟨da,dl,dk,wa,wl,wk,ca,cl,ck⟩:=r
 have hD:Spans H da dl s.dry:=hs.d
 have hW:Ints H wa wl s.work:=hs.w
 have hC:Spans H ca cl s.coats:=hs.c
 have nD:dl < 1000000:=hd.d
 have nW:wl < 1000000:=hd.w
 have nC:cl < 1000000:=hd.c
 have l1:=hD.isLoc dk
 have l2:=hW.isLoc wk
 have l3:=hC.isLoc ck
 simp only at ho hdl
 simp (maxDischargeDepth:=8) only [↓SD,SU,SV,SW,simprocAttr,Int.cast_ofNat_Int,small,resV, B50,R50,N50,b50, l1,l2,l3,l4,ho,n1,n2]
 refine loop_ind (G:=(Yes · (QS H' 1 encI (daysOf (allP s) n s.dry.length)))) (fun j σ=>∃T S H2 ao mo lim,σ=⟨T,S,[],H2,lim,43,false⟩∧get T 1=.int .i64 (n:Nat)∧get T 2=.pointer (some ⟨2,0,some 1⟩)∧get T 5=.slice a (allP s).length m∧get T 6=.slice ao (daysOf (allP s) n j).length mo∧get T 7=.int .i64 (j:Nat)∧sget S 2=(1,.cells [.slice da dl dk,.slice wa wl wk,.slice ca cl ck])∧(Bld H1.length H2 1 ao (daysOf (allP s) n j).length mo (cells encI (daysOf (allP s) n j))∧Up H1 H2∧Fam H2∧H'.length≤lim)) (dl) ?_ ?_ 0 _ (Nat.zero_le _) ⟨_,_,_,_,_,_,rfl,rfl,rfl,rfl,rfl,rfl,rfl,⟨Bld.nil _ _ _,Up.refl _,hF1,by omega⟩⟩
 ·rintro c' j s hj ⟨T,S,H2,ao,mo,lim,rfl,t1,t2,t5,t6,t7,s0,hp⟩ ih
  obtain ⟨hB,hu,hF2,hlim⟩:=hp
  have hw1:=wrap_succ j (by omega)
  have l5:=hB.isLoc (daysOf (allP s) n j).length mo
  have N1:=hu.len
  have dj:=days_len (allP s) n j
  simp (maxDischargeDepth:=8) only [↓SD,SU,SV,SW,simprocAttr,Int.cast_ofNat_Int,small,resV, q50x1,t1,t2,t5,t6,t7,s0, s0,lt_nat,hj,l1,l2,l3,l4,l5]
  refine loop_ind (G:=(Yes · (QS H' 1 encI (daysOf (allP s) n s.dry.length)))) (fun i σ=>∃T lim,σ=⟨T,S,[],H2,lim,43,false⟩∧get T 1=.int .i64 (n:Nat)∧get T 2=.pointer (some ⟨2,0,some 1⟩)∧get T 5=.slice a (allP s).length m∧get T 6=.slice ao (daysOf (allP s) n j).length mo∧get T 7=.int .i64 (j:Nat)∧get T 8=.bool (((allP s).take i).any fun p=>decide (p[n]?=some (j:Int)))∧get T 9=.int .i64 (i:Nat)∧H'.length≤lim) (allP s).length ?_ ?_ 0 _ (Nat.zero_le _) ⟨_,_,rfl,by simp [get_set,t1,t2,t5,t6,t7],by simp [get_set,t1,t2,t5,t6,t7],by simp [get_set,t1,t2,t5,t6,t7],by simp [get_set,t1,t2,t5,t6,t7],by simp [get_set,t1,t2,t5,t6,t7],by simp [get_set,t1,t2,t5,t6,t7],by simp [get_set,t1,t2,t5,t6,t7],by omega⟩
  ·rintro c2 i σ hi ⟨T,lim,rfl,r1,r2,r5,r6,r7,r8,r9,hlim⟩ ih2
   obtain ⟨b,off,x,a2,m2,ha,hx,f2,hq2⟩:=(hL.grow hu.grow).get hi
   have f2':=f2 H2 (Grow.refl _)
   have hq2':Ints H2 a2 x.length x:=hq2
   have l6:=hq2'.isLoc m2
   have hxn:=hkp x (List.mem_of_getElem? hx)
   obtain ⟨b3,off3,y,rfl,hy,f3⟩:=hq2'.i1 (j:=n) hxn
   have f3':=f3 H2 (Grow.refl _)
   have hw2:=wrap_succ i (by omega)
   have ia1:vv (.ia 1) [.slice a (allP s).length m,.int .i64 (i:Nat)]=some (.pointer (some ⟨b,off+i*1,none⟩)):=by rw [ha]; exact vv_iaN 1 b off i _ _ _ hi
   have e:((allP s).take (i+1)).any (fun p=>decide (p[n]?=some (j:Int)))=(((allP s).take i).any (fun p=>decide (p[n]?=some (j:Int)))||decide (y=(j:Int))):=by
    obtain ⟨hi',rfl⟩:=List.getElem?_eq_some_iff.1 hx
    rw [List.take_succ_eq_append_getElem hi',List.any_append]
    simp [hy]
   cases hb:((allP s).take i).any (fun p=>decide (p[n]?=some (j:Int))) with
   | true =>
    rw [hb] at e r8
    rw [Bool.true_or] at e
    simp only [e] at ih2
    simp (maxDischargeDepth:=8) only [↓SD,SU,SV,SW,simprocAttr,Int.cast_ofNat_Int,small,resV, q50x0,r1,r2,r5,r6,r7,r8,r9,lt_nat,hi,l1,l2,l3,l4,l5,hw2]
    exact ih2 _ ⟨_,_,rfl,by simp [get_set,r1],by simp [get_set,r2],by simp [get_set,r5],by simp [get_set,r6],by simp [get_set,r7],by simp [get_set,r8],by simp [get_set,r9],by omega⟩
   | false =>
    rw [hb] at e r8
    rw [Bool.false_or] at e
    simp only [e] at ih2
    simp (maxDischargeDepth:=8) only [↓SD,SU,SV,SW,simprocAttr,Int.cast_ofNat_Int,small,resV, q50x0,r1,r2,r5,r6,r7,r8,r9,lt_nat,hi,l1,l2,l3,l4,l5,l6,ia1,f2',hxn,f3',hw2]
    exact ih2 _ ⟨_,_,rfl,by simp [get_set,r1],by simp [get_set,r2],by simp [get_set,r5],by simp [get_set,r6],by simp [get_set,r7],by simp [get_set,r8],by simp [get_set,r9],by omega⟩
  ·rintro c2 σ ⟨T,lim,rfl,r1,r2,r5,r6,r7,r8,r9,hlim⟩
   rw [List.take_length] at r8
   replace r8:get T 8=.bool (hasDay (allP s) n j):=r8
   cases hh:hasDay (allP s) n j with
   | true =>
    rw [hh] at r8
    obtain ⟨a4,m4,H4,q4,B4,g4,u4,hF4,n4⟩:=hB.appl hF2 (by decide) (by decide) (by omega) [.int .i64 (j:Int)] (i:=1) rfl (by omega)
    have l6:=B4.isLoc ((daysOf (allP s) n j).length+1) m4
    rw [show cells encI (daysOf (allP s) n j)++[.int .i64 (j:Int)]=cells encI (daysOf (allP s) n j++[(j:Int)]) by rw [cells_app]; rfl] at B4
    simp only [days_yes hh,List.length_append,List.length_singleton] at ih
    simp (maxDischargeDepth:=8) only [↓SD,SU,SV,SW,simprocAttr,Int.cast_ofNat_Int,small,resV, q50x0,r1,r2,r5,r6,r7,r8,r9,lt_nat,Nat.lt_irrefl,l1,l2,l3,l4,l5,l6,q4,hw1,x_blk' 2 3 (by decide)]
    exact ih _ ⟨_,_,H4,a4,m4,_,rfl,by simp [get_set,r1],by simp [get_set,r2],by simp [get_set,r5],by simp [get_set],by simp [get_set],by simp [sget_sset,s0],B4,u4 H1 hu (Nat.le_refl _),hF4,by omega⟩
   | false =>
    rw [hh] at r8
    simp only [days_no hh] at ih
    simp (maxDischargeDepth:=8) only [↓SD,SU,SV,SW,simprocAttr,Int.cast_ofNat_Int,small,resV, q50x0,r1,r2,r5,r6,r7,r8,r9,lt_nat,Nat.lt_irrefl,l1,l2,l3,l4,l5,hw1,x_blk' 2 3 (by decide)]
    exact ih _ ⟨_,_,H2,ao,mo,_,rfl,by simp [get_set,r1],by simp [get_set,r2],by simp [get_set,r5],by simp [get_set,r6],by simp [get_set],by simp [s0],hB,hu,hF2,by omega⟩
 ·rintro c' s ⟨T,S,H2,ao,mo,lim,rfl,t1,t2,t5,t6,t7,s0,hp⟩
  obtain ⟨hB,hu,hF2,hlim⟩:=hp
  rw [hdl] at hB t6
  have l5:=hB.isLoc (daysOf (allP s) n s.dry.length).length mo
  simp (maxDischargeDepth:=8) only [↓SD,SU,SV,SW,simprocAttr,Int.cast_ofNat_Int,small,resV, q50x1,t1,t2,t5,t6,t7,s0, s0,lt_nat,Nat.lt_irrefl,l1,l2,l3,l4,l5,R50,N50]
  rw [yes_some]
  exact gc_sl (hB.sl encI_len (by decide)) (u.trans hu) hlim
end Go.Pi.L.Coa
set_option maxRecDepth 100000
namespace CM
theorem late_fold:∀(L:List (List Int)) (n:Int),n≤L.foldl (fun n p=>max n (hd p)) n
 | [],n=>Int.le_refl _
 | p :: L,n=>by have:=late_fold L (max n (hd p)); simp only [List.foldl_cons]; omega
end CM
namespace Go.Pi.L.Coa
open Go Go.Pi Go.Pi.L Go.Pi.Coa CM

theorem late_nonneg {s:Sheet}(hS:ShFine s)(h:allP s≠[]):0≤lateOf (allP s):=by
 have hFi:=fine_all hS
 cases hl:allP s with
 | nil=>exact absurd hl h
 | cons q qs =>
  rw [hl] at hFi
  have hp:=hFi.pos q (List.mem_cons_self ..)
  have h0:0≤CM.hd q:=by
   cases q with
   | nil=>simp at hp
   | cons x q=>have:=hFi.rng (x :: q) (List.mem_cons_self ..) x (List.mem_cons_self ..); simp [CM.hd]; omega
  unfold lateOf
  rw [List.foldl_cons]
  have:=late_fold qs (max (-1) (CM.hd q))
  omega
set_option maxHeartbeats 1000000 in
theorem c9 {H:Heap}{r:ShR}{s:Sheet}(hs:ShOk H r s){n:Int}(hF:Fam H) :
  R (.func 9) [.agg #[.slice r.da r.dl r.dk,.slice r.wa r.wl r.wk,.slice r.ca r.cl r.ck],.int .i64 n] H=some ⟨.ok (.bool true),H,H.length⟩:=by
 refine run_k (pr 9) P9 (by simp [p9]) rfl ?_
 have l1:=hs.d.isLoc r.dk
 have l2:=hs.w.isLoc r.wk
 have l3:=hs.c.isLoc r.ck
 have k22:=c22 hs H
 cases e1:isShort r with
 | false=>simp (maxDischargeDepth:=8) only [↓SD,SU,SV,SW,simprocAttr,Int.cast_ofNat_Int,small,resV, B9,R9,N9,b9, l1,l2,l3,k22,e1,c23]
 | true =>
 have hd:=short_small e1
 obtain ⟨o,ho,hq⟩:=c45 hs hd n H (Grow.refl _) hF
 have k46:=fun H2 g f=>c46 hs hd H2 g f
 have k47:=fun H2 g f=>c47 hs hd H2 g f
 cases e2:isSheet s with
 | false =>
  have k46:=k46 H (Grow.refl _) hF
  have k47:=k47 H (Grow.refl _) hF
  have k25:=c25 hs hd H (Grow.refl _)
  simp only [e2,Bool.false_eq_true,false_and,if_false] at hq k46 k47
  subst hq
  simp only [errV] at ho
  simp (maxDischargeDepth:=8) only [↓SD,SU,SV,SW,simprocAttr,Int.cast_ofNat_Int,small,resV, B9,R9,N9,b9, l1,l2,l3,k22,e1,c23,ho,k46,k47,k25,e2]
 | true =>
 have hS:=fine_of e2
 simp only [e2,true_and,if_true] at hq k46 k47
 by_cases hl:allP s=[]
 ·simp only [if_pos hl] at hq k46 k47
  have k46:=k46 H (Grow.refl _) hF
  have k47:=k47 H (Grow.refl _) hF
  have k25:=c25 hs hd H (Grow.refl _)
  have k48:=c48 hs hd hS H (Grow.refl _) hF
  have k49:=c49 hs hd hS H (Grow.refl _) hF
  have k36:=c36 hs hd.c n H (Grow.refl _)
  rw [hl] at k48 k49
  simp only [lateOf,quickOf,List.foldl_nil] at k48 k49
  cases e3:isCoat s n with
  | false =>
   simp only [e3,Bool.false_eq_true,if_false] at hq
   subst hq
   simp only [errV] at ho
   simp (maxDischargeDepth:=8) only [↓SD,SU,SV,SW,simprocAttr,Int.cast_ofNat_Int,small,resV, B9,R9,N9,b9, l1,l2,l3,k22,e1,c23,ho,k46,k47,k25,e2,k48,k49,k36,e3]
  | true =>
   simp only [e3,if_true] at hq
   subst hq
   simp only [errV] at ho
   simp (maxDischargeDepth:=8) only [↓SD,SU,SV,SW,simprocAttr,Int.cast_ofNat_Int,small,resV, B9,R9,N9,b9, l1,l2,l3,k22,e1,c23,ho,k46,k47,k25,e2,k48,k49,k36,e3]
 ·simp only [if_neg hl] at hq k46 k47
  have hx:=late_nonneg hS hl
  have z1:¬lateOf (allP s) < 0:=by omega
  cases e3:isCoat s n with
  | false =>
   simp only [e3,Bool.false_eq_true,if_false] at hq
   subst hq
   simp only [errV] at ho
   have k46:=k46 H (Grow.refl _) hF
   have k47:=k47 H (Grow.refl _) hF
   have k25:=c25 hs hd H (Grow.refl _)
   have k48:=c48 hs hd hS H (Grow.refl _) hF
   have k49:=c49 hs hd hS H (Grow.refl _) hF
   have k36:=c36 hs hd.c n H (Grow.refl _)
   simp (maxDischargeDepth:=8) only [↓SD,SU,SV,SW,simprocAttr,Int.cast_ofNat_Int,small,resV, B9,R9,N9,b9, l1,l2,l3,k22,e1,c23,ho,k46,k47,k25,e2,k48,k49,k36,e3,z1,hx]
  | true =>
   simp only [e3,if_true] at hq
   obtain ⟨k,rfl,hk⟩:∃k:Nat,n=k∧k < s.coats.length:=by
    simp only [isCoat,inL_iff] at e3
    exact ⟨n.toNat,by omega,by omega⟩
   rw [Int.toNat_natCast] at hq
   obtain ⟨a,m,H1,lo,rfl,u,hlo,hz⟩:=hq
   have hF1:Fam H1:=famR ho hF
   have hg:=u.grow
   have k46:=k46 H1 hg hF1
   have k47:=k47 H1 hg hF1
   have k25:=c25 hs hd H1 hg
   have k48:=c48 hs hd hS H1 hg hF1
   have k49:=c49 hs hd hS H1 hg hF1
   have k36:=c36 hs hd.c (k:Int) H1 hg
   obtain ⟨o2,ho2,a2,m2,H2,lo2,rfl,u2,hlo2,hz2⟩:=c50 hs hd hS hk H1 hg hF1
   have k35:=c35 (kk:=m) (km:=m2) (Sl.grow hz u2.grow) hz2 (by have:=days_len (allP s) k s.dry.length; have:=hS.d2; omega) H2 (Grow.refl _)
   rw [same_iff.2 rfl] at k35
   have l5:=hz.isLoc m
   have l6:=hz2.isLoc m2
   have n1:=u.len
   have n2:H.length≤lo:=hlo
   have n3:=u2.len
   have n4:H1.length≤lo2:=hlo2
   have n5:H.length≤H2.length:=by omega
   have n6:H.length≤lo2:=by omega
   simp (maxDischargeDepth:=8) only [↓SD,SU,SV,SW,simprocAttr,Int.cast_ofNat_Int,small,resV, B9,R9,N9,b9, l1,l2,l3,l5,l6,k22,e1,c23,ho,k46,k47,k25,e2,k48,k49,k36,e3,z1,hx,ho2,k35,n1,n2,n3,n4,n5,n6]
end Go.Pi.L.Coa
namespace CM
theorem mem_days {L:List (List Int)}{n k:Nat}{x:Int}:x∈daysOf L n k↔∃d:Nat,d < k∧(∃p∈L,p[n]?=some (d:Int))∧(d:Int)=x:=by
 unfold daysOf
 simp only [List.mem_map,List.mem_filter,List.mem_range,hasDay,List.any_eq_true,decide_eq_true_eq,and_assoc]
theorem days_pair (L:List (List Int))(n k:Nat):(daysOf L n k).Pairwise (· < ·):=by
 unfold daysOf
 rw [List.pairwise_map]
 exact (List.pairwise_lt_range.filter _).imp fun {a b} h=>by omega
theorem pair_sub:∀{m l:List Int},l.Pairwise (· < ·)→m.Pairwise (· < ·)→(∀x∈l,x∈m)→l.length≤m.length
 | [],[],_,_,_=>Nat.le_refl _
 | [],x :: l,_,_,h=>absurd (h x (List.mem_cons_self ..)) (by simp)
 | y :: m,[],_,_,_=>Nat.zero_le _
 | y :: m,x :: l,h1,h2,h=>by
  obtain ⟨a1,a2⟩:=List.pairwise_cons.1 h1
  obtain ⟨b1,b2⟩:=List.pairwise_cons.1 h2
  have:l.length≤m.length:=by
   refine pair_sub a2 b2 fun z hz=>?_
   have hz':=a1 z hz
   have hy:y≤x:=by
    rcases List.mem_cons.1 (h x (List.mem_cons_self ..)) with e | e
    ·omega
    ·have:=b1 x e; omega
   rcases List.mem_cons.1 (h z (List.mem_cons_of_mem _ hz)) with e | e
   ·omega
   ·exact e
  simp only [List.length_cons]; omega
theorem pair_get:∀{l:List Int} {i j:Nat} {x y:Int},l.Pairwise (· < ·)→l[i]?=some x→l[j]?=some y→i < j→x < y:=by
 intro l i j x y h hi hj hlt
 obtain ⟨h1,rfl⟩:=List.getElem?_eq_some_iff.1 hi
 obtain ⟨h2,rfl⟩:=List.getElem?_eq_some_iff.1 hj
 exact List.pairwise_iff_getElem.1 h i j h1 h2 hlt
theorem pair_last {l:List Int}{x y:Int}(h:l.Pairwise (· < ·))(hx:x∈l)(hy:l[l.length - 1]?=some y):x≤y:=by
 obtain ⟨i,hi,rfl⟩:=List.getElem_of_mem hx
 by_cases e:i=l.length - 1
 ·subst e
  rw [List.getElem?_eq_getElem hi] at hy
  simp only [Option.some.injEq] at hy; omega
 ·have:=pair_get h (List.getElem?_eq_getElem hi) hy (by omega); omega
theorem late_all:∀(L:List (List Int)) (n:Int),n≤L.foldl (fun n p=>max n (hd p)) n∧(∀p∈L,hd p≤L.foldl (fun n p=>max n (hd p)) n)∧(L.foldl (fun n p=>max n (hd p)) n=n∨∃p∈L,L.foldl (fun n p=>max n (hd p)) n=hd p)
 | [],n=>⟨Int.le_refl _,by simp,.inl rfl⟩
 | p :: L,n=>by
  obtain ⟨a,b,c⟩:=late_all L (max n (hd p))
  rw [List.foldl_cons]
  refine ⟨by omega,fun q hq=>?_,?_⟩
  ·rcases List.mem_cons.1 hq with rfl | hq
   ·omega
   ·exact b q hq
  ·rcases c with c | ⟨q,hq,c⟩
   ·by_cases h:n≤hd p
    ·exact .inr ⟨p,List.mem_cons_self ..,by rw [c]; omega⟩
    ·exact .inl (by rw [c]; omega)
   ·exact .inr ⟨q,List.mem_cons_of_mem _ hq,c⟩
theorem quick_all:∀(L:List (List Int)) (n:Int),0≤n→(∀p∈L,0≤lng p)→L.foldl (fun n p=>if n < 0∨lng p < n then lng p else n) n≤n∧(∀p∈L,L.foldl (fun n p=>if n < 0∨lng p < n then lng p else n) n≤lng p)∧(L.foldl (fun n p=>if n < 0∨lng p < n then lng p else n) n=n∨∃p∈L,L.foldl (fun n p=>if n < 0∨lng p < n then lng p else n) n=lng p)
 | [],n,_,_=>⟨Int.le_refl _,by simp,.inl rfl⟩
 | p :: L,n,h0,hL=>by
  have hp:=hL p (List.mem_cons_self ..)
  have hL':∀q∈L,0≤lng q:=fun q hq=>hL q (List.mem_cons_of_mem _ hq)
  rw [List.foldl_cons]
  by_cases h:lng p < n
  ·rw [if_pos (.inr h)]
   obtain ⟨a,b,c⟩:=quick_all L (lng p) hp hL'
   refine ⟨by omega,fun q hq=>?_,?_⟩
   ·rcases List.mem_cons.1 hq with rfl | hq
    ·exact a
    ·exact b q hq
   ·rcases c with c | ⟨q,hq,c⟩
    ·exact .inr ⟨p,List.mem_cons_self ..,c⟩
    ·exact .inr ⟨q,List.mem_cons_of_mem _ hq,c⟩
  ·rw [if_neg (by omega)]
   obtain ⟨a,b,c⟩:=quick_all L n h0 hL'
   refine ⟨a,fun q hq=>?_,?_⟩
   ·rcases List.mem_cons.1 hq with rfl | hq
    ·omega
    ·exact b q hq
   ·rcases c with c | ⟨q,hq,c⟩
    ·exact .inl c
    ·exact .inr ⟨q,List.mem_cons_of_mem _ hq,c⟩
theorem rises_span:∀{p:List Int} {x:Int},rises (x :: p)=true→(p.length:Int)≤(x :: p).getLastD 0 - x
 | [],x,_=>by simp
 | y :: p,x,h=>by
  simp only [rises,Bool.and_eq_true,decide_eq_true_eq] at h
  have:=rises_span (p:=p) (x:=y) h.2
  simp only [List.getLastD_cons,List.length_cons] at this ⊢
  omega
theorem getLastD_get:∀{l:List Int} {y:Int},l[l.length - 1]?=some y→l.getLastD 0=y:=by
 intro l y h
 rw [←List.getLast?_eq_getElem?] at h
 rw [List.getLastD_eq_getLast?,h]; rfl
structure Planned (s:Sheet)(L:List (List Int)):Prop where
 len:∀p∈L,p.length=s.coats.length
 rises:∀p∈L,rises p=true
 work:∀p∈L,∀d∈p,d∈s.work
theorem planned {s:Sheet}(hS:ShFine s):Planned s (allP s) :=
 ⟨fun p hp=>(isPlan_iff.1 ((mem_allP hS).1 hp).1).1,fun p hp=>(isPlan_iff.1 ((mem_allP hS).1 hp).1).2.1,fun p hp=>(isPlan_iff.1 ((mem_allP hS).1 hp).1).2.2⟩
section
variable {s:Sheet} (hS:ShFine s) {L:List (List Int)} (hP:Planned s L)
include hS hP
theorem Planned.day {p:List Int}(hp:p∈L){x:Int}(hx:x∈p):∃d:Nat,(d:Int)=x∧d < s.dry.length:=by
 have:=hS.work x (hP.work p hp x hx)
 exact ⟨x.toNat,by omega,by omega⟩
theorem days_has {p:List Int}(hp:p∈L){n:Nat}{x:Int}(hx:p[n]?=some x):x∈daysOf L n s.dry.length:=by
 obtain ⟨d,rfl,hd⟩:=hP.day hS hp (List.mem_of_getElem? hx)
 exact mem_days.2 ⟨d,hd,⟨p,hp,hx⟩,rfl⟩
omit hS in
theorem days_work {n k:Nat}{x:Int}(h:x∈daysOf L n k):x∈s.work:=by
 obtain ⟨d,_,⟨p,hp,hd⟩,rfl⟩:=mem_days.1 h
 exact hP.work p hp _ (List.mem_of_getElem? hd)
theorem days_ne (hL:L≠[]){n:Nat}(hn:n < s.coats.length):daysOf L n s.dry.length≠[]:=by
 obtain ⟨p,hp⟩:=List.exists_mem_of_ne_nil L hL
 have hl:=hP.len p hp
 exact List.ne_nil_of_mem (days_has hS hP hp (List.getElem?_eq_getElem (by omega:n < p.length)))
theorem days_le (n k:Nat):(daysOf L n k).length≤s.work.length :=
 pair_sub (days_pair L n k) (rises_pair hS.rw) fun _ hx=>days_work hP hx
theorem Planned.hd {p:List Int}(hp:p∈L):p[0]?=some (CM.hd p):=by
 have:=hP.len p hp
 have:=hS.c1
 cases p with
 | nil=>simp at *; omega
 | cons x p=>rfl
theorem Planned.hd0 {p:List Int}(hp:p∈L):0≤CM.hd p:=by
 obtain ⟨d,h,_⟩:=hP.day hS hp (List.mem_of_getElem? (hP.hd hS hp)); omega
omit hS in
theorem Planned.lng0 {p:List Int}(hp:p∈L):0≤lng p:=lng_nonneg (hP.rises p hp)
theorem late_mem (hL:L≠[]):∃p∈L,lateOf L=CM.hd p:=by
 obtain ⟨p,hp⟩:=List.exists_mem_of_ne_nil L hL
 obtain ⟨a,b,c⟩:=late_all L (-1)
 rcases c with c | c
 ·have h1:=b p hp
  have h2:=hP.hd0 hS hp
  rw [c] at h1; omega
 ·exact c
omit hS hP in
theorem late_le {p:List Int}(hp:p∈L):CM.hd p≤lateOf L:=(late_all L (-1)).2.1 p hp
omit hS in
theorem quick_both (hL:L≠[]):(∀p∈L,quickOf L≤lng p)∧∃p∈L,quickOf L=lng p:=by
 cases L with
 | nil=>exact absurd rfl hL
 | cons q L =>
  have h0:=hP.lng0 (List.mem_cons_self ..)
  obtain ⟨a,b,c⟩:=quick_all L (lng q) h0 fun p hp=>hP.lng0 (List.mem_cons_of_mem _ hp)
  unfold quickOf
  rw [List.foldl_cons,if_pos (.inl (by decide))]
  refine ⟨fun p hp=>?_,?_⟩
  ·rcases List.mem_cons.1 hp with rfl | hp
   ·exact a
   ·exact b p hp
  ·rcases c with c | ⟨p,hp,c⟩
   ·exact ⟨q,List.mem_cons_self ..,c⟩
   ·exact ⟨p,List.mem_cons_of_mem _ hp,c⟩
theorem quick_rng (hL:L≠[]):(s.coats.length:Int) - 1≤quickOf L∧quickOf L < s.dry.length:=by
 obtain ⟨_,p,hp,e⟩:=quick_both hP hL
 rw [e]
 have hl:=hP.len p hp
 have hr:=hP.rises p hp
 have hc:=hS.c1
 have h0:=hP.hd0 hS hp
 have hd:∀x∈p,x < s.dry.length:=fun x hx=>(hS.work x (hP.work p hp x hx)).2
 cases p with
 | nil=>simp at hl; omega
 | cons x p =>
  have h1:=rises_span hr
  simp only [List.length_cons] at hl
  have h2:(x :: p).getLastD 0∈x :: p:=by
   rw [List.getLastD_cons,List.getLastD_eq_getLast?]
   cases p with
   | nil=>simp
   | cons y p=>rw [List.getLast?_eq_some_getLast (by simp)]; exact List.mem_cons_of_mem _ (List.getLast_mem _)
  have h3:=hd _ h2
  simp only [lng,CM.hd,List.headD_cons] at h0 h1 ⊢
  omega
theorem days_last (hL:L≠[]):(daysOf L 0 s.dry.length)[(daysOf L 0 s.dry.length).length - 1]?=some (lateOf L):=by
 have hn:daysOf L 0 s.dry.length≠[]:=days_ne hS hP hL hS.c1
 have hlen:=List.length_pos_iff.2 hn
 obtain ⟨p,hp,e⟩:=late_mem hS hP hL
 have h1:lateOf L∈daysOf L 0 s.dry.length:=by rw [e]; exact days_has hS hP hp (hP.hd hS hp)
 have hy:=List.getElem?_eq_getElem (l:=daysOf L 0 s.dry.length) (i:=(daysOf L 0 s.dry.length).length - 1) (by omega)
 rw [hy]
 have h2:=pair_last (days_pair _ _ _) h1 hy
 obtain ⟨d,_,⟨q,hq,hd⟩,e2⟩:=mem_days.1 (List.mem_of_getElem? hy)
 rw [hP.hd hS hq] at hd
 have h3:=late_le hq
 simp only [Option.some.injEq] at hd ⊢
 omega
end
end CM
set_option maxRecDepth 100000
namespace Go.Pi.L.Coa
open Go Go.Pi Go.Pi.L Go.Pi.Coa CM

set_option maxHeartbeats 2000000 in
theorem c10 {H:Heap}{r:ShR}{s:Sheet}(hs:ShOk H r s){pa:Option Addr}{pl pk:Nat}{plan:List Int}(hq:Ints H pa pl plan){n:Int}(hF:Fam H) :
  R (.func 10) [.agg #[.slice r.da r.dl r.dk,.slice r.wa r.wl r.wk,.slice r.ca r.cl r.ck],.slice pa pl pk,.int .i64 n] H=some ⟨.ok (.bool true),H,H.length⟩:=by
 refine run_k (pr 10) P10 (by simp [p10]) rfl ?_
 have l1:=hs.d.isLoc r.dk
 have l2:=hs.w.isLoc r.wk
 have l3:=hs.c.isLoc r.ck
 have l4:=hq.isLoc pk
 have k29:=c29 (pk:=pk) hs hq H (Grow.refl _)
 cases e1:isRight r s pl plan with
 | false=>simp (maxDischargeDepth:=8) only [↓SD,SU,SV,SW,simprocAttr,Int.cast_ofNat_Int,small,resV, B10,R10,N10,b10, l1,l2,l3,l4,k29,e1,c23]
 | true =>
 obtain ⟨e2,e3,e4,e5⟩:=right_of e1
 have hd:=short_small e2
 have hS:=fine_of e4
 have hPl:=plan_of hS e5
 have k36:=c36 hs hd.c n H (Grow.refl _)
 cases e6:isCoat s n with
 | false=>simp (maxDischargeDepth:=8) only [↓SD,SU,SV,SW,simprocAttr,Int.cast_ofNat_Int,small,resV, B10,R10,N10,b10, l1,l2,l3,l4,k29,e1,k36,e6,c23]
 | true =>
 obtain ⟨k,rfl,hk⟩:∃k:Nat,n=k∧k < s.coats.length:=by
  simp only [isCoat,inL_iff] at e6
  exact ⟨n.toNat,by omega,by omega⟩
 have e7:isCoat s 0=true:=by simp only [isCoat,inL_iff]; have:=hS.c1; omega
 obtain ⟨o,ho,hq1⟩:=c45 hs hd k H (Grow.refl _) hF
 simp only [e4,e6,and_self,if_true,Int.toNat_natCast] at hq1
 have k44:=c44 (pk:=pk) hs hd hq (by omega) e4 e5 H (Grow.refl _)
 by_cases hl:allP s=[]
 ·simp only [if_pos hl] at hq1
  subst hq1
  obtain ⟨o2,ho2,hq2⟩:=c45 hs hd 0 H (Grow.refl _) hF
  simp only [e4,e7,and_self,if_true,if_pos hl] at hq2
  subst hq2
  simp only [errV] at ho ho2
  have k46:=c46 hs hd H (Grow.refl _) hF
  have k47:=c47 hs hd H (Grow.refl _) hF
  simp only [e4,if_true,if_pos hl] at k46 k47
  have hns:surely s plan=false:=by
   cases h:surely s plan with
   | false=>rfl
   | true=>have:=(mem_allP hS).2 ⟨e5,h⟩; rw [hl] at this; cases this
  rw [hns] at k44
  simp (maxDischargeDepth:=8) only [↓SD,SU,SV,SW,simprocAttr,Int.cast_ofNat_Int,small,resV, B10,R10,N10,b10, l1,l2,l3,l4,k29,e1,k36,e6,c23,ho,ho2,k46,k47,k44]
 ·simp only [if_neg hl] at hq1
  obtain ⟨a,m,H1,lo,rfl,u,hlo,hz⟩:=hq1
  have hF1:Fam H1:=famR ho hF
  have hg:=u.grow
  obtain ⟨o2,ho2,hq2⟩:=c45 hs hd 0 H1 hg hF1
  simp only [e4,e7,and_self,if_true,if_neg hl,Int.toNat_zero] at hq2
  obtain ⟨a2,m2,H2,lo2,rfl,u2,hlo2,hz2⟩:=hq2
  have hF2:Fam H2:=famR ho2 hF1
  have g2:=hg.trans u2.grow
  have k46:=c46 hs hd H2 g2 hF2
  have k47:=c47 hs hd H2 g2 hF2
  simp only [e4,if_true,if_neg hl] at k46 k47
  have hP:=planned hS
  have x1:=days_le hS hP k s.dry.length
  have x2:=List.length_pos_iff.2 (days_ne hS hP hl hk)
  have x3:=days_le hS hP 0 s.dry.length
  have x4:=List.length_pos_iff.2 (days_ne hS hP hl hS.c1)
  have x5:=days_last hS hP hl
  have x6:=quick_rng hS hP hl
  have x7:=days_pair (allP s) k s.dry.length
  have x8:∀x∈daysOf (allP s) k s.dry.length,x∈s.work:=fun x hx=>days_work hP hx
  have x9:surely s plan=true→(∃x,plan[k]?=some x∧x∈daysOf (allP s) k s.dry.length)∧CM.hd plan≤lateOf (allP s)∧quickOf (allP s)≤lng plan:=fun h=>by
   have hm:=(mem_allP hS).2 ⟨e5,h⟩
   have hlen:=hPl.len
   exact ⟨⟨_,List.getElem?_eq_getElem (by omega:k < plan.length),days_has hS hP hm (List.getElem?_eq_getElem (by omega:k < plan.length))⟩,late_le hm,(quick_both hP hl).1 plan hm⟩
  have hz':=Sl.grow hz u2.grow
  generalize daysOf (allP s) k s.dry.length=D at *
  generalize daysOf (allP s) 0 s.dry.length=D0 at *
  generalize lateOf (allP s)=late at *
  generalize quickOf (allP s)=quick at *
  generalize hb:surely s plan=b at *
  have hwl:=work_len hS
  have hdl:r.dl=s.dry.length:=hs.d.len.symm
  have hcl:r.cl=s.coats.length:=hs.c.len.symm
  have hwk:r.wl=s.work.length:=hs.w.len.symm
  have hS1:=hS.c1
  have hS2:=hS.c2
  have hS3:=hS.d2
  obtain ⟨i,hi⟩:∃i,D0.length=i+1:=⟨D0.length - 1,by omega⟩
  obtain ⟨b0,off0,y,rfl,hy,f0⟩:=hz2.i1 (j:=i) (by omega)
  have hy':y=late:=by
   rw [hi,Nat.add_sub_cancel] at x5
   rw [x5] at hy; cases hy; rfl
  subst hy'
  have f0':=f0 H2 (Grow.refl _)
  have w1:IntKind.wrap .i64 (((D0.length:Nat):Int) - 1)=(i:Nat):=by rw [wrap_id _ (by omega) (by omega)]; omega
  have w2:IntKind.wrap .i64 (((r.cl:Nat):Int) - 1)=(r.cl:Int) - 1:=wrap_id _ (by omega) (by omega)
  have z1:(((D.length:Nat):Int)=0)=False:=eq_false (by omega)
  have z2:(((r.wl:Nat):Int) < ((D.length:Nat):Int))=False:=eq_false (by omega)
  have z3:(((D0.length:Nat):Int)=0)=False:=eq_false (by omega)
  have z4:(((r.wl:Nat):Int) < ((D0.length:Nat):Int))=False:=eq_false (by omega)
  have z5:(quick < (r.cl:Int) - 1)=False:=eq_false (by omega)
  have z6:(((r.dl:Nat):Int)≤quick)=False:=eq_false (by omega)
  have hil:i < D0.length:=by omega
  have l5:=hz.isLoc m
  have l6:=hz2.isLoc m2
  have n1:=u.len
  have n2:H.length≤lo:=hlo
  have n3:=u2.len
  have n4:H1.length≤lo2:=hlo2
  have n5:H.length≤H2.length:=by omega
  have n6:H.length≤lo2:=by omega
  obtain ⟨da,dl,dk,wa,wl,wk,ca,cl,ck⟩:=r
  have hD:Spans H da dl s.dry:=hs.d
  have hW:Ints H wa wl s.work:=hs.w
  have hC:Spans H ca cl s.coats:=hs.c
  have nD:dl < 1000000:=hd.d
  have nW:wl < 1000000:=hd.w
  have nC:cl < 1000000:=hd.c
  have l1:=hD.isLoc dk
  have l2:=hW.isLoc wk
  have l3:=hC.isLoc ck
  simp only at k29 e1 k36 ho ho2 k46 k47 k44 w2 z2 z4 z5 z6 hwk
  cases b with
  | false =>
   simp (maxDischargeDepth:=8) only [↓SD,SU,SV,SW,simprocAttr,Int.cast_ofNat_Int,small,resV, B10,R10,N10,b10, l1,l2,l3,l4,l5,l6,k29,e1,k36,e6,ho,ho2,k46,k47,k44,w1,w2,z1,z2,z3,z4,z5,z6,hil,f0',n1,n2,n3,n4,n5,n6]
   refine loop_ind (G:=(·=_)) (fun j σ=>∃T S lim,σ=⟨T,S,[],H2,lim,214,false⟩∧get T 1=.slice pa pl pk∧get T 2=.int .i64 (k:Nat)∧get T 3=.pointer (some ⟨3,0,some 1⟩)∧get T 7=.bool false∧get T 9=.slice a D.length m∧get T 13=.int .i64 y∧get T 15=.int .i64 quick∧get T 17=.int .i64 (j:Nat)∧sget S 3=(1,.cells [.slice da dl dk,.slice wa wl wk,.slice ca cl ck])∧(H.length≤lim)) (D.length) ?_ ?_ 0 _ (Nat.zero_le _) ⟨_,_,_,rfl,rfl,rfl,rfl,rfl,rfl,rfl,rfl,rfl,rfl,by omega⟩
   ·rintro c' j s hj ⟨T,S,lim,rfl,t1,t2,t3,t7,t9,t13,t15,t17,s0,hp⟩ ih
    obtain ⟨bx,offx,x,rfl,hx,f1⟩:=hz'.i1 hj
    have f1':=f1 H2 (Grow.refl _)
    have k51:=c51 (kk:=wk) x hW nW H2 g2
    have hin:(s.work.any fun d=>decide (x=d))=true:=List.any_eq_true.2 ⟨x,x8 x (List.mem_of_getElem? hx),by simp⟩
    rw [hin] at k51
    have hw:=wrap_succ j (by omega)
    by_cases h0:j=0
    ·have z7:((0:Int) < (j:Nat))=False:=eq_false (by omega)
     simp (maxDischargeDepth:=8) only [↓SD,SU,SV,SW,simprocAttr,Int.cast_ofNat_Int,small,resV, q10x0,t1,t2,t3,t7,t9,t13,t15,t17,s0, s0,lt_nat,hj,l1,l2,l3,l4,l5,f1',k51,hw,z7]
     exact ih _ ⟨_,_,(_),rfl,(by simp [get_set,t1] <;> omega),(by simp [get_set,t2] <;> omega),(by simp [get_set,t3] <;> omega),(by simp [get_set,t7] <;> omega),(by simp [get_set,t9] <;> omega),(by simp [get_set,t13] <;> omega),(by simp [get_set,t15] <;> omega),(by simp [get_set,t17] <;> omega),by simp [sget_sset,s0],by omega⟩
    ·obtain ⟨j1,hj1⟩:∃j1,j=j1+1:=⟨j - 1,by omega⟩
     have hj2:j1 < D.length:=by omega
     obtain ⟨bx2,offx2,x',hbx,hx',f2⟩:=hz'.i1 (j:=j1) hj2
     cases hbx
     have f2':=f2 H2 (Grow.refl _)
     have hlt:=pair_get x7 hx' hx (by omega)
     have w3:IntKind.wrap .i64 (((j:Nat):Int) - 1)=(j1:Nat):=by rw [wrap_id _ (by omega) (by omega)]; omega
     have z7:((0:Int) < (j:Nat))=True:=eq_true (by omega)
     have z8:(x≤x')=False:=eq_false (by omega)
     simp (maxDischargeDepth:=8) only [↓SD,SU,SV,SW,simprocAttr,Int.cast_ofNat_Int,small,resV, q10x0,t1,t2,t3,t7,t9,t13,t15,t17,s0, s0,lt_nat,hj,hj2,l1,l2,l3,l4,l5,f1',f2',k51,hw,w3,z7,z8]
     exact ih _ ⟨_,_,(_),rfl,(by simp [get_set,t1] <;> omega),(by simp [get_set,t2] <;> omega),(by simp [get_set,t3] <;> omega),(by simp [get_set,t7] <;> omega),(by simp [get_set,t9] <;> omega),(by simp [get_set,t13] <;> omega),(by simp [get_set,t15] <;> omega),(by simp [get_set,t17] <;> omega),by simp [sget_sset,s0],by omega⟩
   ·rintro c' s ⟨T,S,lim,rfl,t1,t2,t3,t7,t9,t13,t15,t17,s0,hp⟩
    simp (maxDischargeDepth:=8) only [↓SD,SU,SV,SW,simprocAttr,Int.cast_ofNat_Int,small,resV, q10x0,t1,t2,t3,t7,t9,t13,t15,t17,s0, s0,lt_nat,Nat.lt_irrefl,l1,l2,l3,l4,l5,c23,n5,hp,R10,N10]
  | true =>
   simp (maxDischargeDepth:=8) only [↓SD,SU,SV,SW,simprocAttr,Int.cast_ofNat_Int,small,resV, B10,R10,N10,b10, l1,l2,l3,l4,l5,l6,k29,e1,k36,e6,ho,ho2,k46,k47,k44,w1,w2,z1,z2,z3,z4,z5,z6,hil,f0',n1,n2,n3,n4,n5,n6]
   refine loop_ind (G:=(·=_)) (fun j σ=>∃T S lim,σ=⟨T,S,[],H2,lim,214,false⟩∧get T 1=.slice pa pl pk∧get T 2=.int .i64 (k:Nat)∧get T 3=.pointer (some ⟨3,0,some 1⟩)∧get T 7=.bool true∧get T 9=.slice a D.length m∧get T 13=.int .i64 y∧get T 15=.int .i64 quick∧get T 17=.int .i64 (j:Nat)∧sget S 3=(1,.cells [.slice da dl dk,.slice wa wl wk,.slice ca cl ck])∧(H.length≤lim)) (D.length) ?_ ?_ 0 _ (Nat.zero_le _) ⟨_,_,_,rfl,rfl,rfl,rfl,rfl,rfl,rfl,rfl,rfl,rfl,by omega⟩
   ·rintro c' j s hj ⟨T,S,lim,rfl,t1,t2,t3,t7,t9,t13,t15,t17,s0,hp⟩ ih
    obtain ⟨bx,offx,x,rfl,hx,f1⟩:=hz'.i1 hj
    have f1':=f1 H2 (Grow.refl _)
    have k51:=c51 (kk:=wk) x hW nW H2 g2
    have hin:(s.work.any fun d=>decide (x=d))=true:=List.any_eq_true.2 ⟨x,x8 x (List.mem_of_getElem? hx),by simp⟩
    rw [hin] at k51
    have hw:=wrap_succ j (by omega)
    by_cases h0:j=0
    ·have z7:((0:Int) < (j:Nat))=False:=eq_false (by omega)
     simp (maxDischargeDepth:=8) only [↓SD,SU,SV,SW,simprocAttr,Int.cast_ofNat_Int,small,resV, q10x0,t1,t2,t3,t7,t9,t13,t15,t17,s0, s0,lt_nat,hj,l1,l2,l3,l4,l5,f1',k51,hw,z7]
     exact ih _ ⟨_,_,(_),rfl,(by simp [get_set,t1] <;> omega),(by simp [get_set,t2] <;> omega),(by simp [get_set,t3] <;> omega),(by simp [get_set,t7] <;> omega),(by simp [get_set,t9] <;> omega),(by simp [get_set,t13] <;> omega),(by simp [get_set,t15] <;> omega),(by simp [get_set,t17] <;> omega),by simp [sget_sset,s0],by omega⟩
    ·obtain ⟨j1,hj1⟩:∃j1,j=j1+1:=⟨j - 1,by omega⟩
     have hj2:j1 < D.length:=by omega
     obtain ⟨bx2,offx2,x',hbx,hx',f2⟩:=hz'.i1 (j:=j1) hj2
     cases hbx
     have f2':=f2 H2 (Grow.refl _)
     have hlt:=pair_get x7 hx' hx (by omega)
     have w3:IntKind.wrap .i64 (((j:Nat):Int) - 1)=(j1:Nat):=by rw [wrap_id _ (by omega) (by omega)]; omega
     have z7:((0:Int) < (j:Nat))=True:=eq_true (by omega)
     have z8:(x≤x')=False:=eq_false (by omega)
     simp (maxDischargeDepth:=8) only [↓SD,SU,SV,SW,simprocAttr,Int.cast_ofNat_Int,small,resV, q10x0,t1,t2,t3,t7,t9,t13,t15,t17,s0, s0,lt_nat,hj,hj2,l1,l2,l3,l4,l5,f1',f2',k51,hw,w3,z7,z8]
     exact ih _ ⟨_,_,(_),rfl,(by simp [get_set,t1] <;> omega),(by simp [get_set,t2] <;> omega),(by simp [get_set,t3] <;> omega),(by simp [get_set,t7] <;> omega),(by simp [get_set,t9] <;> omega),(by simp [get_set,t13] <;> omega),(by simp [get_set,t15] <;> omega),(by simp [get_set,t17] <;> omega),by simp [sget_sset,s0],by omega⟩
   ·rintro c' s ⟨T,S,lim,rfl,t1,t2,t3,t7,t9,t13,t15,t17,s0,hp⟩
    obtain ⟨⟨x,hx,hxD⟩,y1,y2⟩:=x9 rfl
    have hlen:=hPl.len
    have hpl:=hq.len
    obtain ⟨bx,offx,x0,rfl,hx0,f1⟩:=hq.i1 (j:=k) (by omega)
    rw [hx] at hx0; cases hx0
    have f1':=f1 H2 g2
    have k51:=c51 (kk:=m) x hz' (by omega) H2 (Grow.refl _)
    have hin:(D.any fun d=>decide (x=d))=true:=List.any_eq_true.2 ⟨x,hxD,by simp⟩
    rw [hin] at k51
    obtain ⟨bx2,offx2,u0,hbx2,hu0,f2⟩:=hq.i1 (j:=0) (by omega)
    cases hbx2
    obtain ⟨bx3,offx3,u1,hbx3,hu1,f3⟩:=hq.i1 (j:=pl - 1) (by omega)
    cases hbx3
    have f2':=f2 H2 g2
    rw [Nat.zero_mul,Nat.add_zero] at f2'
    have f3':=f3 H2 g2
    have q0:u0=CM.hd plan:=by cases plan with | nil=>simp at hu0 | cons z p=>simp at hu0; simp [CM.hd,hu0]
    have q1:lng plan=u1 - u0:=by rw [lng,getLastD_get (by rw [hpl]; exact hu1),q0]; rfl
    have r0:=hPl.rng 0 u0 hu0
    have r1:=hPl.rng (pl - 1) u1 hu1
    have ia1:vv (.ia 1) [.slice (some ⟨bx,offx,none⟩) pl pk,.int .i64 0]=some (.pointer (some ⟨bx,offx,none⟩)):=by have:=vv_iaN 1 bx offx 0 pl pk .i64 (by omega); simpa using this
    have w4:IntKind.wrap .i64 (((pl:Nat):Int) - 1)=((pl - 1:Nat):Int):=by rw [wrap_id _ (by omega) (by omega)]; omega
    have w5:IntKind.wrap .i64 (u1 - u0)=u1 - u0:=wrap_id _ (by omega) (by omega)
    have z9:(u0≤y)=True:=eq_true (by omega)
    have z10:(quick≤u1 - u0)=True:=eq_true (by omega)
    have hkp:k < pl:=by omega
    have hkq:pl - 1 < pl:=by omega
    simp (maxDischargeDepth:=8) only [↓SD,SU,SV,SW,simprocAttr,Int.cast_ofNat_Int,small,resV, q10x0,t1,t2,t3,t7,t9,t13,t15,t17,s0, s0,lt_nat,Nat.lt_irrefl,hkp,hkq,l1,l2,l3,l4,l5,k51,ia1,f1',f2',f3',w4,w5,z9,z10,c23,n5,hp,R10,N10]
end Go.Pi.L.Coa
