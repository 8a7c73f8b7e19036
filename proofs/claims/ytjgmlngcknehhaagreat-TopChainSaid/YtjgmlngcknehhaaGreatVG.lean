/- Benches: the document's first chain; the law BenchChains. -/
import Derived.Test.YtjgmlngcknehhaaGreatVF
set_option linter.all false
set_option maxRecDepth 100000
namespace Go.Pi.L.Ch
open Go Go.Pi Go.Pi.L Go.Pi.E Go.Pi.Top BM

theorem find_idx {α:Type}{pr:α→Bool}:∀{L:List α} {t:α},L.find? pr=some t→∃k:Nat,L[k]?=some t∧pr t=true∧∀j:Nat,j < k→∀x,L[j]?=some x→pr x=false
 | [],t,h=>by simp at h
 | y :: L,t,h=>by
  rw [List.find?_cons] at h
  cases hy:pr y with
  | true=>rw [hy] at h; cases h; exact ⟨0,rfl,hy,fun j hj=>by omega⟩
  | false =>
   rw [hy] at h
   obtain ⟨k,h1,h2,h3⟩:=find_idx h
   refine ⟨k+1,h1,h2,fun j hj x hx=>?_⟩
   cases j with
   | zero=>simp at hx; subst hx; exact hy
   | succ j=>exact h3 j (by omega) x (by simpa using hx)
end Go.Pi.L.Ch
set_option maxRecDepth 100000
namespace Go.Pi.L.Ch
open Go Go.Pi Go.Pi.L Go.Pi.E Go.Pi.Top BM

abbrev witB (b:Bench)(n:Int):Bench:=⟨n,b.boards,b.strokes⟩
abbrev witR (r:BeR)(n:Int):BeR:=⟨n,r.ba,r.bl,r.bk,r.sa,r.sl,r.sk,r.xs⟩
theorem wit_ok {H:Heap}{r:BeR}{b:Bench}(hb:BeOk H r b)(n:Int):BeOk H (witR r n) (witB b n):=⟨rfl,hb.br,hb.st,hb.nd,hb.eq⟩
theorem wit_bench {b:Bench}(hB:isBench b=true){n:Int}(h0:0≤n)(h3:n≤3):isBench (witB b n)=true:=by
 simp only [isBench,Bool.and_eq_true] at hB ⊢
 exact ⟨by rw [inL_iff]; exact ⟨h0,h3⟩,hB.2⟩
def mtW (b:Bench)(n:Int):Int:=minT (tk (witB b n)) (plans (witB b n))
def leastN (b:Bench)(now:Int):Option Nat:=(List.range 4).find? fun n=>decide (mtW b (n:Nat)≤now)
end Go.Pi.L.Ch
set_option maxRecDepth 100000
namespace Go.Pi.L.Ch
open Go Go.Pi Go.Pi.L Go.Pi.E Go.Pi.Top BM

def lst17 (b:Bench)(now:Int):Value :=
 if (isBench b&&inL now 0 60)=true then (match leastN b now with | some n=>.tuple #[.int .i64 (n:Nat),.int .i64 0] | none=>.tuple #[.int .i64 0,.int .i64 5]) else .tuple #[.int .i64 0,.int .i64 2]
def Least17:Prop:=∀{H:Heap} {r:BeR} {b:Bench},BeOk H r b→SmB r→∀now:Int,∀H',Grow H H'→Fam H'→R (.func 17) [.agg #[.int .i64 r.app,.slice r.ba r.bl r.bk,.slice r.sa r.sl r.sk],.int .i64 now] H'=some ⟨.ok (lst17 b now),H',H'.length⟩
end Go.Pi.L.Ch
set_option maxRecDepth 100000
namespace Go.Pi.L
open Go Go.Pi
section
variable {PP:FuncId→Option PFunc} {prims:Prims} {α:Type} {call:CallT} {F:Ex→St→Option α} {k:List It}
theorem rfR_r (v H' lo' T S D H lo n rnd){n' T' ps a b d}(h:H'[H.length+1]?=some ⟨.loop n' T' ps a b d .done (some .ret),true,true,none⟩):rfR call F (some ⟨.ok v,H',lo'⟩) k ⟨T,S,D,H,lo,n,rnd⟩ =
  F .ret ⟨T,S,.coll H.length :: D,H'.set (H.length+1) { obj:=.loop n' T' ps a b d .exhausted (some .ret) },min lo lo',n,rnd⟩:=by
 simp only [rfR,h,rfS]; rfl
end
end Go.Pi.L
namespace Go.Pi.L.Ch
open Go Go.Pi Go.Pi.L Go.Pi.E Go.Pi.Top BM

def as17:PCode:=.reg [⟨(some 7),.v .mv [.tmp 23],none⟩]
def bd17:PCode:=.blk 3
       (.seq (.dreg [
        ⟨(some 24),.ld (some 3) (.tmp 2),none⟩,
        ⟨(some 25),.v .mv [.tmp 7],none⟩,
        ⟨(some 26),.call (.func 50) [.tmp 24,.tmp 25],none⟩,
        ⟨(some 27),.call (.func 51) [.tmp 26],none⟩,
        ⟨(some 28),.ld none (.tmp 3),none⟩,
        ⟨(some 29),.v (.ib .leq) [.tmp 27,.tmp 28],none⟩] [⟨1,false,none⟩,⟨0,false,none⟩,⟨1,false,none⟩,⟨1,false,none⟩,⟨1,false,none⟩,⟨0,true,none⟩])
       (.cond (.tmp 29)
        (.seq (.reg [
         ⟨(some 30),.ld none (.tmp 6),none⟩,
         ⟨none,.st 1 (.tmp 4) (.tmp 30),none⟩,
         ⟨none,.st 1 (.tmp 5) (.const (.int .i64 0)),none⟩])
        .ret)
        .skip))
theorem k_as17 {α:Type}{call:CallT}{F:Ex→St→Option α}{k:List It}{s:St}:mach call F (.code as17 :: k) none s=mach call F (.code (.reg [⟨(some 7),.v .mv [.tmp 23],none⟩]) :: k) none s:=rfl
theorem k_bd17 {α:Type}{call:CallT}{F:Ex→St→Option α}{k:List It}{s:St}:mach call F (.code bd17 :: k) none s=mach call F (.code (.blk 3
       (.seq (.dreg [
        ⟨(some 24),.ld (some 3) (.tmp 2),none⟩,
        ⟨(some 25),.v .mv [.tmp 7],none⟩,
        ⟨(some 26),.call (.func 50) [.tmp 24,.tmp 25],none⟩,
        ⟨(some 27),.call (.func 51) [.tmp 26],none⟩,
        ⟨(some 28),.ld none (.tmp 3),none⟩,
        ⟨(some 29),.v (.ib .leq) [.tmp 27,.tmp 28],none⟩] [⟨1,false,none⟩,⟨0,false,none⟩,⟨1,false,none⟩,⟨1,false,none⟩,⟨1,false,none⟩,⟨0,true,none⟩])
       (.cond (.tmp 29)
        (.seq (.reg [
         ⟨(some 30),.ld none (.tmp 6),none⟩,
         ⟨none,.st 1 (.tmp 4) (.tmp 30),none⟩,
         ⟨none,.st 1 (.tmp 5) (.const (.int .i64 0)),none⟩])
        .ret)
        .skip))) :: k) none s:=rfl
structure LX where
 r:BeR
 b:Bench
 H0:Heap
 now:Int
 n:Int
 xb:Nat
 nb:Nat
 r4:Nat
 r5:Nat
 b6:Nat
 d:Nat
 l:Nat
 yb:Nat
 T:List Value
structure CJ (X:LX)(v4 v5:Int)(st:LoopState)(pd:Option Ex)(A:Nat→Prop)(H:Heap):Prop where
 c4:H[X.r4]?=some (bx (.int .i64 v4))
 n4:¬A X.r4
 c5:H[X.r5]?=some (bx (.int .i64 v5))
 n5:¬A X.r5
 c6:H[X.b6]?=some (bx (.int .i64 X.n))
 n6:¬A X.b6
 cn:H[X.nb]?=some (bx (.int .i64 X.now))
 nn:¬A X.nb
 lp:H[X.l]?=some (lpB 32 X.T [23] as17 bd17 X.d st pd)
 nl:¬A X.l
 df:H[X.d]?=some ⟨.dfr false,true,true,none⟩
 nd:¬A X.d
 xc:H[X.xb]?=some (benB X.r)
 nx:¬A X.xb
 yc:H[X.yb]?=some (benB (witR X.r X.n))
 ny:¬A X.yb
 up:Up X.H0 H
 lo:∀i,A i→X.H0.length≤i
theorem CJ.own {X:LX}{v4 v5:Int}{st:LoopState}{pd:Option Ex}{A:Nat→Prop}{H H':Heap}(h:CJ X v4 v5 st pd A H)(c:Chg A H H'):CJ X v4 v5 st pd (And' A H H') H' where
 c4:=by rw [c.old _ (lt_of_get h.c4) h.n4]; exact h.c4
 n4:=not_and h.n4 (lt_of_get h.c4)
 c5:=by rw [c.old _ (lt_of_get h.c5) h.n5]; exact h.c5
 n5:=not_and h.n5 (lt_of_get h.c5)
 c6:=by rw [c.old _ (lt_of_get h.c6) h.n6]; exact h.c6
 n6:=not_and h.n6 (lt_of_get h.c6)
 cn:=by rw [c.old _ (lt_of_get h.cn) h.nn]; exact h.cn
 nn:=not_and h.nn (lt_of_get h.cn)
 lp:=by rw [c.old _ (lt_of_get h.lp) h.nl]; exact h.lp
 nl:=not_and h.nl (lt_of_get h.lp)
 df:=by rw [c.old _ (lt_of_get h.df) h.nd]; exact h.df
 nd:=not_and h.nd (lt_of_get h.df)
 xc:=by rw [c.old _ (lt_of_get h.xc) h.nx]; exact h.xc
 nx:=not_and h.nx (lt_of_get h.xc)
 yc:=by rw [c.old _ (lt_of_get h.yc) h.ny]; exact h.yc
 ny:=not_and h.ny (lt_of_get h.yc)
 up:=c.up' h.up fun i hi ha=>by have:=h.lo i ha; omega
 lo:=fun i hi=>hi.elim (h.lo i) fun q=>Nat.le_trans h.up.len q.1
theorem CJ.less {X:LX}{v4 v5:Int}{st:LoopState}{pd:Option Ex}{A B:Nat→Prop}{H:Heap}(h:CJ X v4 v5 st pd A H)(hab:∀i,B i→A i):CJ X v4 v5 st pd B H where
 c4:=h.c4
 n4:=fun q=>h.n4 (hab _ q)
 c5:=h.c5
 n5:=fun q=>h.n5 (hab _ q)
 c6:=h.c6
 n6:=fun q=>h.n6 (hab _ q)
 cn:=h.cn
 nn:=fun q=>h.nn (hab _ q)
 lp:=h.lp
 nl:=fun q=>h.nl (hab _ q)
 df:=h.df
 nd:=fun q=>h.nd (hab _ q)
 xc:=h.xc
 nx:=fun q=>h.nx (hab _ q)
 yc:=h.yc
 ny:=fun q=>h.ny (hab _ q)
 up:=h.up
 lo:=fun i hi=>h.lo i (hab i hi)
end Go.Pi.L.Ch
set_option maxRecDepth 100000
namespace Go.Pi.L.Ch
open Go Go.Pi Go.Pi.L Go.Pi.E Go.Pi.Top BM

structure LXOk (X:LX):Prop where
 t2:get X.T 2=.pointer (some ⟨X.xb,0,none⟩)
 t3:get X.T 3=.pointer (some ⟨X.nb,0,none⟩)
 t4:get X.T 4=.pointer (some ⟨X.r4,0,none⟩)
 t5:get X.T 5=.pointer (some ⟨X.r5,0,none⟩)
 t6:get X.T 6=.pointer (some ⟨X.b6,0,none⟩)
 gl:X.H0.length≤X.l
 g4:X.H0.length≤X.r4
 g5:X.H0.length≤X.r5
 l4:X.r4≠X.l
 l5:X.r5≠X.l
 l6:X.b6≠X.l
 ln:X.nb≠X.l
 ld:X.d≠X.l
 lx:X.xb≠X.l
 ly:X.yb≠X.l
 e45:X.r4≠X.r5
 e46:X.b6≠X.r4
 e4n:X.nb≠X.r4
 e4d:X.d≠X.r4
 e4x:X.xb≠X.r4
 e4y:X.yb≠X.r4
 e56:X.b6≠X.r5
 e5n:X.nb≠X.r5
 e5d:X.d≠X.r5
 e5x:X.xb≠X.r5
 e5y:X.yb≠X.r5
 be:BeOk X.H0 X.r X.b
 fi:Fine X.b
set_option maxHeartbeats 1000000 in
theorem CJ.step {X:LX}(hX:LXOk X){A:Nat→Prop}{H:Heap}{p:List Int}{b:Nat}(hpl:p.length=X.b.strokes.length)
  (hI:CJ X 0 0 .ready none A H) (hA:Lt A H) (hF:Fam H) (hs:Sl H 1 encN (some ⟨b,0,none⟩) p.length p) (hno:X.now < tk X.b p) :
  ∃H' lo,R (.yield X.l) [.slice (some ⟨b,0,none⟩) p.length 1] H=some ⟨.ok (.bool true),H',lo⟩∧X.H0.length≤lo∧lo≤X.l∧H.length≤H'.length∧(∀i,i < H.length→i≠X.l→H'[i]?=H[i]?)∧CJ X 0 0 .ready none A H':=by
 have hlt:=lt_of_get hI.lp
 have gl:=hX.gl
 obtain ⟨H1,hH1⟩:∃H1,H.set X.l { obj:=.loop 32 X.T [23] as17 bd17 X.d .busy none }=H1:=⟨_,rfl⟩
 have old1:∀i,i≠X.l→H1[i]?=H[i]?:=fun i hi=>by rw [←hH1,List.getElem?_set_ne (fun e=>hi e.symm)]
 have l1:H1[X.l]?=some (lpB 32 X.T [23] as17 bd17 X.d .busy none):=by rw [←hH1,List.getElem?_set_self hlt]; rfl
 have len1:H1.length=H.length:=by rw [←hH1]; simp
 have u1:Up X.H0 H1:=by rw [←hH1]; exact hI.up.set gl
 have hlp:=hI.lp
 have g1:∀{i:Nat} {c:List Value},hcells H i=some c→hcells H1 i=some c:=fun {i c} h=>by
  rw [hc_kept (old1 i (fun e=>by subst e; simp [hcells,hlp,lpB] at h))]; exact h
 have hF1:Fam H1:=by rw [←hH1]; exact hF.set hI.lp rfl
 have hs1:Ints H1 (some ⟨b,0,none⟩) p.length p:=Sl.mv hs fun c hc=>g1 hc
 have hbe1:BeOk H1 X.r X.b:=hX.be.grow u1.grow
 have k50:=c50 (kk:=1) hbe1 hs1 H1 (Grow.refl _)
 obtain ⟨H2,hH2⟩:∃H2,H1++[({ obj:=.map mSh [] }:Blk)]=H2:=⟨_,rfl⟩
 have u2:Up H1 H2:=by rw [←hH2]; exact (Up.refl _).app
 have len2:H2.length=H1.length+1:=by rw [←hH2]; simp
 have hw:WkOk H2 (⟨X.r,some ⟨b,0,none⟩,p.length,1,H1.length,-1,0⟩:WkR) X.b p:=⟨hbe1.grow u2.grow,hs1.grow u2.grow,hX.fi,hpl,by simp,by simp⟩
 have hm2:Mp (vE X.b p (-1) 0) H2 H1.length:=by rw [←hH2]; exact mp_new _ _
 obtain ⟨o,ho,H3,lo3,rfl,ch3,hm3,hlo3⟩:=c51 hw H2 (Grow.refl _) hm2
 have hlo3:H1.length≤lo3:=hlo3
 have hkp:=kept_of ch3 hm2 hm3
 rw [tk_eq] at ho
 rw [hH2] at k50
 have hF2:Fam H2:=by rw [←hH2]; exact hF1.append (fun f h=>by cases h)
 have hF3:Fam H3:=famR ho hF2
 have old3:∀i,i < H1.length→H3[i]?=H1[i]?:=fun i hi=>by
  rw [ch3.old i (by omega) (fun e=>by have:i=H1.length:=e; omega),u2.old i hi]
 have len3:H2.length≤H3.length:=ch3.len
 have hi3:∀{i:Nat} {bk:Blk},H[i]?=some bk→i≠X.l→H3[i]?=some bk:=fun {i bk} h hi=>by
  rw [old3 i (by rw [len1]; exact lt_of_get h),old1 i hi]; exact h
 have l3:H3[X.l]?=some ⟨.loop 32 X.T [23] as17 bd17 X.d .busy none,true,true,none⟩:=by rw [old3 _ (by omega)]; exact l1
 have x1:hcells H1 X.xb=some [.int .i64 X.r.app,.slice X.r.ba X.r.bl X.r.bk,.slice X.r.sa X.r.sl X.r.sk]:=g1 (by simp [hcells,hI.xc,benB,benC])
 have n3:hcells H3 X.nb=some [.int .i64 X.now]:=bx_hc (hi3 hI.cn hX.ln)
 have lp':H[X.l]?=some ⟨.loop 32 X.T [23] as17 bd17 X.d .ready none,true,true,none⟩:=hI.lp
 have t2:=hX.t2
 have t3:=hX.t3
 have j1:=hbe1.br.isLoc X.r.bk
 have j2:=hbe1.st.isLoc X.r.sk
 have z1:(tk X.b p≤X.now)=False:=eq_false (by omega)
 have key:Yes (R (.yield X.l) [.slice (some ⟨b,0,none⟩) p.length 1] H) (fun o=>∃lo,o=⟨.ok (.bool true),H3.set X.l { obj:=.loop 32 X.T [23] as17 bd17 X.d .ready none },lo⟩∧X.H0.length≤lo∧lo≤X.l):=by
  refine run_yl lp' rfl rfl ?_
  simp (maxDischargeDepth:=8) only [↓SD,SU,SV,SW,simprocAttr,Int.cast_ofNat_Int,small,resV,k_as17,setParams,yA_n lp',hH1,k_bd17,t2,t3,x1,j1,j2,loc_m,k50,ho,rD_kept,hkp,n3,z1,yE_n l3,k_fixb]
  rw [yes_some]
  exact ⟨_,rfl,by omega,by omega⟩
 obtain ⟨o,hoy,lo,rfl,w1,w2⟩:=key
 obtain ⟨H6,hH6⟩:∃H6,H3.set X.l { obj:=.loop 32 X.T [23] as17 bd17 X.d .ready none }=H6:=⟨_,rfl⟩
 rw [hH6] at hoy
 have len6:H6.length=H3.length:=by rw [←hH6]; simp
 have old6:∀i,i < H.length→i≠X.l→H6[i]?=H[i]?:=fun i h1 h2=>by rw [←hH6,List.getElem?_set_ne (fun e=>h2 e.symm),old3 i (by omega),old1 i h2]
 have pl:∀{i:Nat} {bk:Blk},H[i]?=some bk→i≠X.l→H6[i]?=some bk:=fun {i bk} h hi=>by rw [old6 i (lt_of_get h) hi]; exact h
 refine ⟨H6,lo,hoy,w1,w2,by omega,old6,?_⟩
 exact {
  c4:=pl hI.c4 hX.l4
  n4:=hI.n4
  c5:=pl hI.c5 hX.l5
  n5:=hI.n5
  c6:=pl hI.c6 hX.l6
  n6:=hI.n6
  cn:=pl hI.cn hX.ln
  nn:=hI.nn
  lp:=by rw [←hH6,List.getElem?_set_self (by omega)]; rfl
  nl:=hI.nl
  df:=pl hI.df hX.ld
  nd:=hI.nd
  xc:=pl hI.xc hX.lx
  nx:=hI.nx
  yc:=pl hI.yc hX.ly
  ny:=hI.ny
  up:=⟨by have:=hI.up.len; omega,fun i hi=>by rw [old6 i (Nat.lt_of_lt_of_le hi hI.up.len) (by omega)]; exact hI.up.old i hi⟩
  lo:=hI.lo }
end Go.Pi.L.Ch
