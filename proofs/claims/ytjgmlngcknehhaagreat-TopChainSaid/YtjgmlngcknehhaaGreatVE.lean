/- Benches: all plans, as they are handed to who takes them. -/
import Derived.Test.YtjgmlngcknehhaaGreatVD
set_option linter.all false
set_option maxRecDepth 100000
namespace Go.Pi.L.Ch
open Go Go.Pi Go.Pi.L Go.Pi.E Go.Pi.Top BM

def QT (ls:List (List Int))(l n0:Nat)(Rd:Nat→Prop)(I Fin:List (List Int)→(Nat→Prop)→Heap→Prop)(H:Heap)(o:Out):Prop :=
 ∃H' lo A',o=⟨.ok nothing,H',lo⟩∧n0≤lo∧lo≤l∧H.length≤H'.length∧(∀i,Rd i→H'[i]?=H[i]?)∧Fam H'∧(I ls A' H'∨∃L1 L2,ls=L1++L2∧L1≠[]∧Fin L1 A' H')
theorem c92 {H:Heap}{r:BeR}{b:Bench}{l n0:Nat}{Rd:Nat→Prop}{xb:Nat}{Ok:List (List Int)→Prop}{I Fin:List (List Int)→(Nat→Prop)→Heap→Prop}(hf:Fine b)(cons:ConsB PP primsL l n0 Rd Ok I Fin)(hO:∀L1 L2,plans b=L1++L2→Ok L1)(hF:Fam H)(hI:I [] (fun _=>False) H)
  (ll:l < H.length) (n0l:n0≤l) (rdl:∀i,Rd i→i < H.length) (xR:Rd xb) (xC:hcells H xb=some [.int .i64 r.app,.slice r.ba r.bl r.bk,.slice r.sa r.sl r.sk]) (st:Sl H 5 eK r.sa r.sl r.xs) (stR:InR Rd r.sa r.sl) (he:b.strokes=r.xs.map (·.s)) (happ:r.app=b.app) :
  Yes (R (.func 92) [.func (.yield l) #[] #[],.pointer (some ⟨xb,0,none⟩)] H) (QT (plans b) l n0 Rd I Fin H):=by
 refine run_y (pr 92) P92 (by simp [p92]) rfl ?_
 obtain ⟨Hb,hHb⟩:∃Hb,H++[({ obj:=.cells [.func (.yield l) #[] #[]] }:Blk)]=Hb:=⟨_,rfl⟩
 obtain ⟨Hd,hHd⟩:∃Hd,Hb++[({ obj:=.cells [.func (.func 93) #[] #[.pointer (some ⟨xb,0,none⟩),.pointer (some ⟨H.length,0,none⟩),.pointer (some ⟨Hb.length,0,none⟩)]] }:Blk)]=Hd:=⟨_,rfl⟩
 have lb:Hb.length=H.length+1:=by rw [←hHb]; simp
 have ld:Hd.length=H.length+2:=by rw [←hHd]; simp [lb]
 have u:Up H Hd:=by rw [←hHd,←hHb]; exact (Up.refl H).app.app
 have at0:Hd[H.length]?=some (bx (.func (.yield l) #[] #[])):=by
  rw [←hHd,←hHb,List.append_assoc,List.getElem?_append_right (Nat.le_refl _)]; simp [bx]
 have at1:Hd[Hb.length]?=some (bx (.func (.func 93) #[] #[.pointer (some ⟨xb,0,none⟩),.pointer (some ⟨H.length,0,none⟩),.pointer (some ⟨Hb.length,0,none⟩)])):=by rw [←hHd]; exact app_get
 have hFd:Fam Hd:=by
  rw [←hHd,←hHb]
  exact (hF.append (fun f h=>by cases h)).append (fun f h=>by cases h)
 let X:PX:=⟨r,b,l,n0,Rd,xb,H.length,Hb.length⟩
 have e:PE X (And' (fun _=>False) H Hd) Hd:=by
  exact ⟨fun i hi=>hi.elim (fun h=>h.elim) (fun h=>h.2),hFd,fun i hi=>hi.elim (fun h=>h.elim) (fun h=>Nat.le_trans (Nat.le_trans n0l (Nat.le_of_lt ll)) h.1),Nat.lt_of_lt_of_le ll u.len,n0l,fun i hi=>⟨fun h=>h.elim (fun h=>h.elim) (fun h=>by have:=rdl i hi; omega),Nat.lt_of_lt_of_le (rdl i hi) u.len⟩,xR,u.grow.hc xC,st.grow u.grow,stR,
   .inr ⟨Nat.le_refl _,by show H.length < Hd.length; omega⟩,at0,.inr ⟨by show H.length≤Hb.length; omega,by show Hb.length < Hd.length; omega⟩,at1⟩
 have hId:=cons.own _ _ _ _ hI (u.chg (A:=fun _=>False))
 have hsl:r.sl=b.strokes.length:=by rw [he,List.length_map]; exact st.len.symm
 have els:(plansL b.app.toNat ((rndL r.xs).drop ([]:List Int).length)).map (([]:List Int)++·)=plans b:=by
  simp [plans,rounds,rndL,he,Function.comp_def]
 have n1:=hf.n1
 have n6:=hf.n6
 have a0:=hf.a0
 have a3:=hf.a3
 obtain ⟨o,ho,go,H',lo,A',rfl,w1,w2,w3,w4,w5,w6,w7,w8⟩:=c93 (X:=X) cons (nA:=b.app.toNat) (by show r.app=_; omega) (by omega) (by show 1≤r.sl; omega) (by show r.sl≤6; omega) r.sl [] (by simp; rfl) [] _ _ Hd none 0 (fun L1 L2 h=>hO L1 L2 (els.symm.trans h)) hId e (fun i h=>h) e.yA e.fA Sl.none (fun _=>rfl) (fun h=>by simp at h)
 rw [show X.r.xs=r.xs from rfl,els] at w7 w8
 replace ho:R (.func 93) [.slice none 0 0,.pointer (some ⟨xb,0,none⟩),.pointer (some ⟨H.length,0,none⟩),.pointer (some ⟨Hb.length,0,none⟩)] Hd=some ⟨.ok (.bool go),H',lo⟩:=ho
 have hc1:=bx_hc at1
 have ul:=u.len
 have fin:∀lo',n0≤lo'→lo'≤l→QT (plans b) l n0 Rd I Fin H (gcR H (.ok nothing) H' lo'):=fun lo' h1 h2=>by
  rw [gc_no (by omega)]
  refine ⟨H',lo',A',rfl,h1,h2,by omega,fun i hi=>by rw [w5 i (.inr hi),u.old i (rdl i hi)],w6,?_⟩
  cases go with
  | true=>exact .inl (by simpa using (w7 rfl).1)
  | false =>
   obtain ⟨L1,L2,y1,y2,y3⟩:=w8 rfl
   exact .inr ⟨L1,L2,y1,y2,by simpa using y3⟩
 have w1':n0≤lo:=w1
 have w2':lo≤l:=w2
 simp (maxDischargeDepth:=8) only [↓SD,SU,SV,SW,simprocAttr,Int.cast_ofNat_Int,small,resV, B92,R92,N92,b92, hHb,app_get,stH_ok,app_set,hHd,hc1,fa_c3,ho,R92,N92]
 rw [yes_some]
 exact fin _ (by omega) (by omega)
theorem c48 (r:BeR)(l1:isLoc (.slice r.ba r.bl r.bk)=false)(l2:isLoc (.slice r.sa r.sl r.sk)=false)(H':Heap):R (.func 48) [.agg #[.int .i64 r.app,.slice r.ba r.bl r.bk,.slice r.sa r.sl r.sk]] H'=some ⟨.ok (.func (.func 92) #[] #[.pointer (some ⟨H'.length,0,none⟩)]),H'++[({ obj:=.cells [.int .i64 r.app,.slice r.ba r.bl r.bk,.slice r.sa r.sl r.sk] }:Blk)],H'.length⟩:=by
 refine run_k (pr 48) P48 (by simp [p48]) rfl ?_
 simp (maxDischargeDepth:=8) only [↓SD,SU,SV,SW,simprocAttr,Int.cast_ofNat_Int,small,resV, B48,R48,N48,b48, l1,l2,R48,N48]
 rw [gc_ite (Nat.le_refl _),if_neg (by simp [flat])]
end Go.Pi.L.Ch
set_option maxRecDepth 100000
namespace Go.Pi.L
open Go Go.Pi
structure Col (n0:Nat)(A:Nat→Prop)(H:Heap)(k:Nat)(a:Option Addr)(l m:Nat)(c:List Value):Prop where
 len:c.length=l*k
 ok:(a=none∧l=0∧m=0)∨∃b f,a=some ⟨b,0,none⟩∧m=k∧n0≤f∧f≤b∧¬A b∧H[b]?=some ⟨.cells c,true,true,some f⟩
theorem Col.nil (n0:Nat)(A:Nat→Prop)(H:Heap)(k:Nat):Col n0 A H k none 0 0 []:=⟨by simp,.inl ⟨rfl,rfl,rfl⟩⟩
theorem Col.isLoc {n0:Nat}{A:Nat→Prop}{H:Heap}{k:Nat}{a:Option Addr}{l m:Nat}{c:List Value}(h:Col n0 A H k a l m c)(x y:Nat):Go.Pi.isLoc (.slice a x y)=false:=by
 rcases h.ok with ⟨rfl,_⟩ | ⟨b,f,rfl,_⟩ <;> rfl
theorem Col.own {n0:Nat}{A:Nat→Prop}{H H':Heap}{k:Nat}{a:Option Addr}{l m:Nat}{c:List Value}(h:Col n0 A H k a l m c)(g:Chg A H H'):Col n0 (And' A H H') H' k a l m c :=
 ⟨h.len,by
  rcases h.ok with h | ⟨b,f,h1,h2,h3,h4,h5,h7⟩
  ·exact .inl h
  ·have hb:=(List.getElem?_eq_some_iff.1 h7).1
   exact .inr ⟨b,f,h1,h2,h3,h4,fun q=>q.elim h5 fun q=>by omega,by rw [g.old b hb h5]; exact h7⟩⟩
theorem Col.less {n0:Nat}{A B:Nat→Prop}{H:Heap}{k:Nat}{a:Option Addr}{l m:Nat}{c:List Value}(h:Col n0 A H k a l m c)(hab:∀i,B i→A i):Col n0 B H k a l m c :=
 ⟨h.len,by
  rcases h.ok with h | ⟨b,f,h1,h2,h3,h4,h5,h7⟩
  ·exact .inl h
  ·exact .inr ⟨b,f,h1,h2,h3,h4,fun q=>h5 (hab b q),h7⟩⟩
theorem Col.same {n0:Nat}{A:Nat→Prop}{H H':Heap}{k:Nat}{a:Option Addr}{l m:Nat}{c:List Value}(h:Col n0 A H k a l m c)(hs:∀(i:Nat) b f,H[i]?=some b→b.fam=some f→H'[i]?=some b):Col n0 A H' k a l m c :=
 ⟨h.len,by
  rcases h.ok with h | ⟨b,f,h1,h2,h3,h4,h5,h7⟩
  ·exact .inl h
  ·exact .inr ⟨b,f,h1,h2,h3,h4,h5,hs b _ f h7 rfl⟩⟩
theorem Col.app {n0:Nat}{A:Nat→Prop}{H:Heap}{k:Nat}{a:Option Addr}{l m:Nat}{c:List Value}(h:Col n0 A H k a l m c)(hA:Lt A H)(hF:Fam H)(hn:n0≤H.length)(hk:0 < k)(hk2:k < 1000)(hl:l < 100000)(new:List Value)(hnew:new.length=k) :
  ∃H1,(∀{α:Type} (call:CallT) (F:Ex→St→Option α) d kk T S D lo n rnd,ap1 call F (some new) (.slice a l m) k d kk ⟨T,S,D,H,lo,n,rnd⟩=nxt call F (some (.slice (some ⟨H.length,0,none⟩) (l+1) k)) d kk ⟨T,S,D,H1,lo,n,rnd⟩) ∧
   Col n0 A H1 k (some ⟨H.length,0,none⟩) (l+1) k (c++new)∧Grow H H1∧H1.length=H.length+1∧(∀i,A i→H1[i]?=H[i]?)∧(∀i,i < n0→H1[i]?=H[i]?)∧(∀(i:Nat) b,H[i]?=some b→b.fam=none→H1[i]?=some b)∧Fam H1:=by
 have he:new.isEmpty=false:=by cases new with | nil=>simp at hnew; omega | cons=>rfl
 have hlen:=h.len
 have hm:new.length % k=0:=by rw [hnew]; exact Nat.mod_self _
 have hd:new.length / k=1:=by rw [hnew]; exact Nat.div_self hk
 rcases h.ok with ⟨rfl,rfl,rfl⟩ | ⟨b,f,rfl,rfl,h3,h4,h5,h7⟩
 ·have hc:c=[]:=by simpa using hlen
  subst hc
  refine ⟨H++[⟨.cells new,true,true,some H.length⟩],fun call F d kk T S D lo n rnd=>?_,⟨by simp [hnew],.inr ⟨_,H.length,rfl,rfl,hn,Nat.le_refl _,fun q=>by have:=hA _ q; omega,by simp⟩⟩,(Up.refl H).app.grow,by simp,fun i hi=>List.getElem?_append_left (hA i hi),fun i hi=>List.getElem?_append_left (by omega),fun i b hb _=>by rw [List.getElem?_append_left (List.getElem?_eq_some_iff.1 hb).1]; exact hb,Fam.app1 hF (Nat.le_refl _)⟩
  rw [apA_nil _ _ _ _ _ _ _ _ _ _ hm (by omega) he,hd]
 ·have hb:=(List.getElem?_eq_some_iff.1 h7).1
  have old:∀i,i < H.length→i≠b→(H.set b ⟨.cells c,true,false,some f⟩++[⟨.cells (c++new),true,true,some f⟩])[i]?=H[i]?:=fun i hi hne=>by
   rw [List.getElem?_append_left (by simpa using hi),List.getElem?_set_ne (fun e=>hne e.symm)]
  refine ⟨H.set b ⟨.cells c,true,false,some f⟩++[⟨.cells (c++new),true,true,some f⟩],fun call F d kk T S D lo n rnd=>?_,⟨by simp [hnew,hlen,Nat.add_mul],.inr ⟨_,f,rfl,rfl,h3,by omega,fun q=>by have:=hA _ q; omega,by rw [List.getElem?_append_right (by simp)]; simp⟩⟩,grow_app (grow_tip h7),by simp,fun i hi=>old i (hA i hi) (fun e=>h5 (by rw [←e]; exact hi)),fun i hi=>old i (by omega) (by omega),fun i b0 hi hb0=>by
   rw [old i (List.getElem?_eq_some_iff.1 hi).1 (fun e=>by subst e; rw [h7] at hi; cases hi; cases hb0)]; exact hi,?_⟩
  ·rw [apA_tip]
   simp only [h7]
   rw [apB_ok _ _ _ _ _ _ _ _ _ _ _ _ _ _ hm (by omega) he hk hlen.symm,hd]
  ·refine Fam.app1 (hF.set (b:=⟨.cells c,true,false,some f⟩) h7 rfl) ?_
   simp only [List.length_set]; omega
def lpB (n:Nat)(T:List Value)(ps:List Tmp)(a b:PCode)(d:Nat)(st:LoopState)(pd:Option Ex):Blk:=⟨.loop n T ps a b d st pd,true,true,none⟩
theorem lt_of_get {H:Heap}{i:Nat}{b:Blk}(h:H[i]?=some b):i < H.length:=(List.getElem?_eq_some_iff.1 h).1
theorem not_and {A:Nat→Prop}{H H':Heap}{i:Nat}(h:¬A i)(hl:i < H.length):¬And' A H H' i:=fun q=>q.elim h fun q=>by omega
theorem Sl.mv {β:Type}{H H':Heap}{k:Nat}{enc:β→List Value}{b off l:Nat}{xs:List β}(h:Sl H k enc (some ⟨b,off,Option.none⟩) l xs)(hb:∀c,hcells H b=some c→hcells H' b=some c):Sl H' k enc (some ⟨b,off,Option.none⟩) l xs :=
 ⟨h.len,h.loc,fun j x hx=>by obtain ⟨b',off',c,h1,h2,h3⟩:=h.rd j x hx; cases h1; exact ⟨b,off,c,rfl,hb c h2,h3⟩⟩
end Go.Pi.L
namespace Go.Pi.L.Ch
open Go Go.Pi Go.Pi.L Go.Pi.E Go.Pi.Top BM

theorem ints_ne {H:Heap}{b l b2:Nat}{xs:List Int}{a':Option Addr}{l' m':Nat}{c':List Value}(h:Ints H (some ⟨b,0,none⟩) l xs)(h0:0 < xs.length)(h2:hcells H b2=some (.slice a' l' m' :: c')):b≠b2:=by
 intro e
 subst e
 obtain ⟨b',off,c,e1,e2,e3⟩:=Sl.rd h 0 xs[0] (List.getElem?_eq_getElem h0)
 cases e1
 rw [h2] at e2; cases e2
 simp [encI] at e3
theorem durW_no (b:Bench):durW b (-1) 0 true=high b:=by
 funext n; unfold durW; rw [cond_true,if_neg (by omega)]
theorem tk_eq (b:Bench)(p:List Int):takesN b (vE b p (-1) 0 true)=tk b p:=by
 have e:vE b p (-1) 0 true=eN (follows b p) (high b):=by
  funext n
  unfold vE
  rw [durW_no]
 unfold takesN tk takes
 rw [e]
structure BX where
 r:BeR
 b:Bench
 H0:Heap
 xb:Nat
 b2:Nat
 yb:Nat
 d:Nat
 l:Nat
 T:List Value
def benC (r:BeR):List Value:=[.int .i64 r.app,.slice r.ba r.bl r.bk,.slice r.sa r.sl r.sk]
def benB (r:BeR):Blk:=⟨.cells (benC r),true,true,none⟩
def TmOk (b:Bench)(A:Nat→Prop)(H:Heap)(x:Tm):Prop:=∃bb,x.a=some ⟨bb,0,none⟩∧x.l=x.p.length∧0 < x.l∧x.m=1∧¬A bb∧Ints H x.a x.l x.p∧x.t=tk b x.p
theorem TmOk.chg {b:Bench}{A:Nat→Prop}{H H':Heap}{x:Tm}(h:TmOk b A H x)(c:Chg A H H'):TmOk b (And' A H H') H' x:=by
 obtain ⟨bb,h1,h2,h3,h4,h5,h6,h7⟩:=h
 have e2:bb < H.length:=Sl.inR h6 h3 bb 0 h1
 exact ⟨bb,h1,h2,h3,h4,fun q=>q.elim h5 fun q=>by omega,h6.chg c fun b off e=>by rw [h1] at e; cases e; exact h5,h7⟩
def as37:PCode:=.reg [⟨some 4,.v .mv [.tmp 7],none⟩]
structure CI (X:BX)(as_ bd:PCode)(n:Nat)(acc:List (List Int))(A:Nat→Prop)(H:Heap)(a:Option Addr)(m:Nat)(ts:List Tm):Prop where
 cell:H[X.b2]?=some (bx (.slice a acc.length m))
 nb2:¬A X.b2
 col:Col X.H0.length A H 2 a acc.length m (cells eT ts)
 eq:ts.map (·.p)=acc
 ok:∀x∈ts,TmOk X.b A H x
 lp:H[X.l]?=some (lpB n X.T [7] as_ bd X.d .ready none)
 nl:¬A X.l
 df:H[X.d]?=some ⟨.dfr false,true,true,none⟩
 nd:¬A X.d
 xc:H[X.xb]?=some (benB X.r)
 nx:¬A X.xb
 yc:H[X.yb]?=some (benB X.r)
 ny:¬A X.yb
 up:Up X.H0 H
 lo:∀i,A i→X.H0.length≤i
theorem CI.own {X:BX}{as_ bd:PCode}{n:Nat}{acc:List (List Int)}{A:Nat→Prop}{H H':Heap}{a:Option Addr}{m:Nat}{ts:List Tm}(h:CI X as_ bd n acc A H a m ts)(c:Chg A H H'):CI X as_ bd n acc (And' A H H') H' a m ts where
 cell:=by rw [c.old _ (lt_of_get h.cell) h.nb2]; exact h.cell
 nb2:=not_and h.nb2 (lt_of_get h.cell)
 col:=h.col.own c
 eq:=h.eq
 ok:=fun x hx=>(h.ok x hx).chg c
 lp:=by rw [c.old _ (lt_of_get h.lp) h.nl]; exact h.lp
 nl:=not_and h.nl (lt_of_get h.lp)
 df:=by rw [c.old _ (lt_of_get h.df) h.nd]; exact h.df
 nd:=not_and h.nd (lt_of_get h.df)
 xc:=by rw [c.old _ (lt_of_get h.xc) h.nx]; exact h.xc
 nx:=not_and h.nx (lt_of_get h.xc)
 yc:=by rw [c.old _ (lt_of_get h.yc) h.ny]; exact h.yc
 ny:=not_and h.ny (lt_of_get h.yc)
 up:=c.up' h.up fun i hi ha=>by have:=h.lo i ha; omega
 lo:=fun i hi=>hi.elim (h.lo i) fun q=>Nat.le_trans h.up.len q.1
theorem CI.less {X:BX}{as_ bd:PCode}{n:Nat}{acc:List (List Int)}{A B:Nat→Prop}{H:Heap}{a:Option Addr}{m:Nat}{ts:List Tm}(h:CI X as_ bd n acc A H a m ts)(hab:∀i,B i→A i):CI X as_ bd n acc B H a m ts where
 cell:=h.cell
 nb2:=fun q=>h.nb2 (hab _ q)
 col:=h.col.less hab
 eq:=h.eq
 ok:=fun x hx=>by
  obtain ⟨bb,h1,h2,h3,h4,h5,h6⟩:=h.ok x hx
  exact ⟨bb,h1,h2,h3,h4,fun q=>h5 (hab _ q),h6⟩
 lp:=h.lp
 nl:=fun q=>h.nl (hab _ q)
 df:=h.df
 nd:=fun q=>h.nd (hab _ q)
 xc:=h.xc
 nx:=fun q=>h.nx (hab _ q)
 yc:=h.yc
 ny:=fun q=>h.ny (hab _ q)
 up:=h.up
 lo:=fun i hi=>h.lo i (hab i hi)
end Go.Pi.L.Ch
set_option maxRecDepth 100000
namespace Go.Pi.L.Ch
open Go Go.Pi Go.Pi.L Go.Pi.E Go.Pi.Top BM

def bd37:PCode:=.blk 1 (.dreg [
     ⟨(some 8),.ld none (.tmp 3),none⟩,
     ⟨(some 9),.v .mv [.tmp 4],none⟩,
     ⟨(some 10),.ld (some 3) (.tmp 1),none⟩,
     ⟨(some 11),.v .mv [.tmp 4],none⟩,
     ⟨(some 12),.call (.func 50) [.tmp 10,.tmp 11],none⟩,
     ⟨(some 13),.call (.func 51) [.tmp 12],none⟩,
     ⟨(some 14),.v (.bld [(.slice none 0 0),(.int .i64 0)] [(0,1),(1,1)]) [.tmp 9,.tmp 13],none⟩,
     ⟨(some 15),.lbs 100 2 [(.slice none 0 0),(.int .i64 0)] 1 [(0,.tmp 14)],none⟩,
     ⟨(some 16),.app 100 2 (.tmp 8) (.tmp 15),none⟩,
     ⟨none,.st 1 (.tmp 3) (.tmp 16),none⟩] [⟨1,false,none⟩,⟨0,false,none⟩,⟨1,false,none⟩,⟨0,false,none⟩,⟨1,false,some [8,9]⟩,⟨1,false,some [8,9]⟩,⟨0,false,none⟩,⟨17,false,none⟩,⟨1,true,none⟩,⟨1,true,none⟩])
theorem k_as37 {α:Type}{call:CallT}{F:Ex→St→Option α}{k:List It}{s:St}:mach call F (.code as37 :: k) none s=mach call F (.code (.reg [⟨some 4,.v .mv [.tmp 7],none⟩]) :: k) none s:=rfl
theorem k_bd37 {α:Type}{call:CallT}{F:Ex→St→Option α}{k:List It}{s:St}:mach call F (.code bd37 :: k) none s=mach call F (.code (.blk 1 (.dreg [
     ⟨(some 8),.ld none (.tmp 3),none⟩,
     ⟨(some 9),.v .mv [.tmp 4],none⟩,
     ⟨(some 10),.ld (some 3) (.tmp 1),none⟩,
     ⟨(some 11),.v .mv [.tmp 4],none⟩,
     ⟨(some 12),.call (.func 50) [.tmp 10,.tmp 11],none⟩,
     ⟨(some 13),.call (.func 51) [.tmp 12],none⟩,
     ⟨(some 14),.v (.bld [(.slice none 0 0),(.int .i64 0)] [(0,1),(1,1)]) [.tmp 9,.tmp 13],none⟩,
     ⟨(some 15),.lbs 100 2 [(.slice none 0 0),(.int .i64 0)] 1 [(0,.tmp 14)],none⟩,
     ⟨(some 16),.app 100 2 (.tmp 8) (.tmp 15),none⟩,
     ⟨none,.st 1 (.tmp 3) (.tmp 16),none⟩] [⟨1,false,none⟩,⟨0,false,none⟩,⟨1,false,none⟩,⟨0,false,none⟩,⟨1,false,some [8,9]⟩,⟨1,false,some [8,9]⟩,⟨0,false,none⟩,⟨17,false,none⟩,⟨1,true,none⟩,⟨1,true,none⟩])) :: k) none s:=rfl
structure BXOk (X:BX):Prop where
 t1:get X.T 1=.pointer (some ⟨X.xb,0,none⟩)
 t3:get X.T 3=.pointer (some ⟨X.b2,0,none⟩)
 h2:X.H0.length≤X.b2
 hx:X.H0.length≤X.xb
 hy:X.H0.length≤X.yb
 hd:X.H0.length≤X.d
 hl:X.H0.length≤X.l
 n1:X.b2≠X.l
 n2:X.d≠X.l
 n3:X.b2≠X.d
 n4:X.xb≠X.b2
 n5:X.xb≠X.l
 n6:X.yb≠X.b2
 n7:X.yb≠X.l
 be:BeOk X.H0 X.r X.b
 fi:Fine X.b
theorem plan_pos {b:Bench}(hf:Fine b){p:List Int}(h:p∈plans b):p.length=b.strokes.length:=by
 unfold plans at h
 rw [mem_plansL] at h
 rw [h.1]; simp [rounds]
theorem CI.step {X:BX}(hX:BXOk X){acc:List (List Int)}{A:Nat→Prop}{H:Heap}{p:List Int}{b:Nat}{a:Option Addr}{m:Nat}{ts:List Tm}(hp:p∈plans X.b)(hac:acc.length < 90000)
  (hI:CI X as37 bd37 19 acc A H a m ts) (hA:Lt A H) (hF:Fam H) (hs:Sl H 1 encN (some ⟨b,0,none⟩) p.length p) (hb:¬A b) :
  ∃H' lo m' ts',R (.yield X.l) [.slice (some ⟨b,0,none⟩) p.length 1] H=some ⟨.ok (.bool true),H',lo⟩∧X.H0.length≤lo∧lo≤X.l∧H.length≤H'.length∧(∀i,A i∨(i < X.H0.length∨i=X.yb)→H'[i]?=H[i]?)∧∃a',CI X as37 bd37 19 (acc++[p]) A H' a' m' ts':=by
 have hpl:=plan_pos hX.fi hp
 have hp0:0 < p.length:=by have:=hX.fi.n1; omega
 have hlt:=lt_of_get hI.lp
 have hlb:=lt_of_get hI.cell
 have g2:=hX.h2
 have gl:=hX.hl
 have n1:=hX.n1
 obtain ⟨H1,hH1⟩:∃H1,H.set X.l { obj:=.loop 19 X.T [7] as37 bd37 X.d .busy none }=H1:=⟨_,rfl⟩
 have old1:∀i,i≠X.l→H1[i]?=H[i]?:=fun i hi=>by rw [←hH1,List.getElem?_set_ne (fun e=>hi e.symm)]
 have l1:H1[X.l]?=some (lpB 19 X.T [7] as37 bd37 X.d .busy none):=by rw [←hH1,List.getElem?_set_self hlt]; rfl
 have len1:H1.length=H.length:=by rw [←hH1]; simp
 have u1:Up X.H0 H1:=by rw [←hH1]; exact hI.up.set gl
 have hlp:=hI.lp
 have g1:∀{i:Nat} {c:List Value},hcells H i=some c→hcells H1 i=some c:=fun {i c} h=>by
  rw [hc_kept (old1 i (fun e=>by subst e; simp [hcells,hlp,lpB] at h))]; exact h
 have hF1:Fam H1:=by rw [←hH1]; exact hF.set hI.lp rfl
 have hs1:Ints H1 (some ⟨b,0,none⟩) p.length p:=Sl.mv hs fun c hc=>g1 hc
 have hbe1:BeOk H1 X.r X.b:=hX.be.grow u1.grow
 have k50:=c50 (kk:=1) hbe1 hs1 H1 (Grow.refl _)
 obtain ⟨H2,hH2⟩:∃H2,H1++[({ obj:=.map mSh [] }:Blk)]=H2:=⟨_,rfl⟩
 have u2:Up H1 H2:=by rw [←hH2]; exact (Up.refl _).app
 have len2:H2.length=H1.length+1:=by rw [←hH2]; simp
 have hw:WkOk H2 (⟨X.r,some ⟨b,0,none⟩,p.length,1,H1.length,-1,0⟩:WkR) X.b p:=⟨hbe1.grow u2.grow,hs1.grow u2.grow,hX.fi,hpl,by simp,by simp⟩
 have hm2:Mp (vE X.b p (-1) 0) H2 H1.length:=by rw [←hH2]; exact mp_new _ _
 obtain ⟨o,ho,H3,lo3,rfl,ch3,hm3,hlo3⟩:=c51 hw H2 (Grow.refl _) hm2
 have hlo3:H1.length≤lo3:=hlo3
 have hkp:=kept_of ch3 hm2 hm3
 rw [tk_eq] at ho
 rw [hH2] at k50
 have hF2:Fam H2:=by rw [←hH2]; exact hF1.append (fun f h=>by cases h)
 have hF3:Fam H3:=famR ho hF2
 have old3:∀i,i < H1.length→H3[i]?=H1[i]?:=fun i hi=>by
  rw [ch3.old i (by omega) (fun e=>by have:i=H1.length:=e; omega),u2.old i hi]
 have len3:H2.length≤H3.length:=ch3.len
 have fl:∀(i:Nat) b f,H[i]?=some b→b.fam=some f→H3[i]?=some b:=fun i b f hi hf=>by
  rw [old3 i (by rw [len1]; exact lt_of_get hi),old1 i (fun e=>by subst e; rw [hlp] at hi; cases hi; cases hf)]; exact hi
 have c3:=hI.col.same fl
 obtain ⟨H4,q1,c4,g4,len4,a4,o4,f4,hF4⟩:=c3.app (hA.chg (by omega)) hF3 (by omega) (by decide) (by decide) (by omega) [.slice (some ⟨b,0,none⟩) p.length 1,.int .i64 (tk X.b p)] rfl
 have hi3:∀{i:Nat} {bk:Blk},H[i]?=some bk→i≠X.l→H3[i]?=some bk:=fun {i bk} h hi=>by
  rw [old3 i (by rw [len1]; exact lt_of_get h),old1 i hi]; exact h
 have b1:hcells H1 X.b2=some [.slice a acc.length m]:=g1 (bx_hc hI.cell)
 have x1:hcells H1 X.xb=some [.int .i64 X.r.app,.slice X.r.ba X.r.bl X.r.bk,.slice X.r.sa X.r.sl X.r.sk]:=g1 (by simp [hcells,hI.xc,benB,benC])
 have b4:H4[X.b2]?=some ⟨.cells [.slice a acc.length m],true,true,none⟩:=f4 _ _ (hi3 hI.cell n1) rfl
 obtain ⟨H5,hH5⟩:∃H5,H4.set X.b2 { obj:=.cells [.slice (some ⟨H3.length,0,none⟩) (acc.length+1) 2] }=H5:=⟨_,rfl⟩
 have old5:∀i,i≠X.b2→H5[i]?=H4[i]?:=fun i hi=>by rw [←hH5,List.getElem?_set_ne (fun e=>hi e.symm)]
 have l3:H3[X.l]?=some (lpB 19 X.T [7] as37 bd37 X.d .busy none):=by rw [old3 _ (by omega)]; exact l1
 have l4:H4[X.l]?=some (lpB 19 X.T [7] as37 bd37 X.d .busy none):=f4 _ _ l3 rfl
 have l5:H5[X.l]?=some ⟨.loop 19 X.T [7] as37 bd37 X.d .busy none,true,true,none⟩:=by rw [old5 _ (fun e=>n1 e.symm)]; exact l4
 have lp':H[X.l]?=some ⟨.loop 19 X.T [7] as37 bd37 X.d .ready none,true,true,none⟩:=hI.lp
 have la:=c3.isLoc acc.length m
 have len5:H5.length=H4.length:=by rw [←hH5]; simp
 have t1:=hX.t1
 have t3:=hX.t3
 have j1:=hbe1.br.isLoc X.r.bk
 have j2:=hbe1.st.isLoc X.r.sk
 have key:Yes (R (.yield X.l) [.slice (some ⟨b,0,none⟩) p.length 1] H) (fun o=>∃lo,o=⟨.ok (.bool true),H5.set X.l { obj:=.loop 19 X.T [7] as37 bd37 X.d .ready none },lo⟩∧X.H0.length≤lo∧lo≤X.l):=by
  refine run_yl lp' rfl rfl ?_
  simp (maxDischargeDepth:=8) only [↓SD,SU,SV,SW,simprocAttr,Int.cast_ofNat_Int,small,resV,k_as37,setParams,yA_n lp',hH1,k_bd37,t1,t3,b1,x1,j1,j2,la,loc_m,k50,ho,rD_kept,hkp,q1,b4,stH_ok,hH5,yE_n l5,k_fixb]
  rw [yes_some]
  exact ⟨_,rfl,by omega,by omega⟩
 obtain ⟨o,hoy,lo,rfl,w1,w2⟩:=key
 obtain ⟨H6,hH6⟩:∃H6,H5.set X.l { obj:=.loop 19 X.T [7] as37 bd37 X.d .ready none }=H6:=⟨_,rfl⟩
 rw [hH6] at hoy
 have old6:∀i,i≠X.l→i≠X.b2→H6[i]?=H4[i]?:=fun i h1 h2=>by rw [←hH6,List.getElem?_set_ne (fun e=>h1 e.symm),old5 i h2]
 have l6:H6[X.l]?=some (lpB 19 X.T [7] as37 bd37 X.d .ready none):=by rw [←hH6,List.getElem?_set_self (by omega)]; rfl
 have b6:H6[X.b2]?=some (bx (.slice (some ⟨H3.length,0,none⟩) (acc.length+1) 2)):=by rw [←hH6,List.getElem?_set_ne (fun e=>n1 e.symm),←hH5,List.getElem?_set_self (lt_of_get b4)]; rfl
 have hcb2:=bx_hc hI.cell
 have hc6:∀{i:Nat} {c:List Value},hcells H i=some c→i≠X.b2→hcells H6 i=some c:=fun {i c} h hi=>by
  have hil:i≠X.l:=fun e=>by subst e; simp [hcells,hlp,lpB] at h
  have hh:hcells H3 i=some c:=by rw [hc_kept (old3 i (by rw [len1]; exact hc_lt h))]; exact g1 h
  rw [hc_kept (old6 i hil hi)]; exact g4.hc hh
 have pl6:∀{i:Nat} {bk:Blk},H[i]?=some bk→i≠X.l→i≠X.b2→bk.fam=none→H6[i]?=some bk:=fun {i bk} h h1 h2 h3=>by
  rw [old6 i h1 h2]; exact f4 _ _ (hi3 h h1) h3
 have fam6:∀(i:Nat) bk f,H4[i]?=some bk→bk.fam=some f→H6[i]?=some bk:=fun i bk f hi hf=>by
  rw [old6 i (fun e=>by subst e; rw [l4] at hi; cases hi; cases hf) (fun e=>by subst e; rw [b4] at hi; cases hi; cases hf)]; exact hi
 have tok:∀x,TmOk X.b A H x→TmOk X.b A H6 x:=fun x hx=>by
  obtain ⟨bb,h1,h2,h3,h4,h5,h6,h7⟩:=hx
  refine ⟨bb,h1,h2,h3,h4,h5,?_,h7⟩
  rw [h1] at h6 ⊢
  exact Sl.mv h6 fun c hc=>hc6 hc (ints_ne h6 (by have:=h6.len; omega) hcb2)
 have len6:H6.length=H4.length:=by rw [←hH6,List.length_set]; exact len5
 have hts:ts.length=acc.length:=by rw [←hI.eq,List.length_map]
 refine ⟨H6,lo,2,ts++[⟨p,some ⟨b,0,none⟩,p.length,1,tk X.b p⟩],hoy,w1,w2,by omega,fun i hi=>?_,some ⟨H3.length,0,none⟩,?_⟩
 ·have hne:i≠X.l∧i≠X.b2∧i < H.length:=by
   rcases hi with hi | hi | hi
   ·exact ⟨fun e=>hI.nl (e ▸ hi),fun e=>hI.nb2 (e ▸ hi),hA i hi⟩
   ·exact ⟨by omega,by omega,Nat.lt_of_lt_of_le hi hI.up.len⟩
   ·subst hi; exact ⟨hX.n7,hX.n6,lt_of_get hI.yc⟩
  rw [old6 i hne.1 hne.2.1]
  rcases hi with hi | hi | hi
  ·rw [a4 i hi,old3 i (by omega),old1 i hne.1]
  ·rw [o4 i hi,old3 i (by omega),old1 i hne.1]
  ·subst hi
   rw [hI.yc]; exact f4 _ _ (hi3 hI.yc hne.1) rfl
 ·exact {
   cell:=by rw [List.length_append,List.length_singleton]; exact b6
   nb2:=hI.nb2
   col:=by
    rw [List.length_append,List.length_singleton,cells_app]
    exact c4.same fam6
   eq:=by rw [List.map_append,hI.eq]; rfl
   ok:=fun x hx=>by
    rcases List.mem_append.1 hx with hx | hx
    ·exact tok x (hI.ok x hx)
    ·rw [List.mem_singleton.1 hx]
     exact ⟨b,rfl,rfl,hp0,rfl,hb,Sl.mv hs fun c hc=>hc6 hc (ints_ne hs hp0 hcb2),rfl⟩
   lp:=l6
   nl:=hI.nl
   df:=pl6 hI.df hX.n2 (fun e=>hX.n3 e.symm) rfl
   nd:=hI.nd
   xc:=pl6 hI.xc hX.n5 hX.n4 rfl
   nx:=hI.nx
   yc:=pl6 hI.yc hX.n7 hX.n6 rfl
   ny:=hI.ny
   up:=⟨by have:=hI.up.len; omega,fun i hi=>by
    have hi2:i < H.length:=Nat.lt_of_lt_of_le hi hI.up.len
    rw [old6 i (by omega) (by omega),o4 i hi,old3 i (by omega),old1 i (by omega),hI.up.old i hi]⟩
   lo:=hI.lo }
end Go.Pi.L.Ch
