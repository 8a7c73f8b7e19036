/- Benches: Least: what goes on at one plan. -/
import Derived.Test.YtfndfpbdgjoilaaGreatDoorDM
import Derived.Test.YtfndfpbdgjoilaaGreatDoorDH
set_option linter.all false
set_option maxRecDepth 100000
namespace Go.Pi.L
open Go Go.Pi
section
variable {PP:FuncId→Option PFunc} {prims:Prims} {α:Type} {call:CallT} {F:Ex→St→Option α} {k:List It}
theorem rfR_r (v H' lo' T S D H lo n rnd){n' T' ps a b d}(h:H'[H.length+1]?=some ⟨.loop n' T' ps a b d .done (some .ret),true,true,none⟩):rfR call F (some ⟨.ok v,H',lo'⟩) k ⟨T,S,D,H,lo,n,rnd⟩ =
  F .ret ⟨T,S,.coll H.length :: D,H'.set (H.length+1) { obj:=.loop n' T' ps a b d .exhausted (some .ret) },min lo lo',n,rnd⟩:=by
 simp only [rfR,h,rfS]; rfl
end
end Go.Pi.L
namespace Go.Pi.L.Ben
open Go Go.Pi Go.Pi.L Go.Pi.E Go.Pi.Ben BM

def as60:PCode:=.reg [⟨(some 7),.v .mv [.tmp 23],none⟩]
def bd60:PCode:=.blk 3
       (.seq (.dreg [
        ⟨(some 24),.ld (some 3) (.tmp 2),none⟩,
        ⟨(some 25),.v .mv [.tmp 7],none⟩,
        ⟨(some 26),.call (.func 76) [.tmp 24,.tmp 25],none⟩,
        ⟨(some 27),.call (.func 88) [.tmp 26],none⟩,
        ⟨(some 28),.ld none (.tmp 3),none⟩,
        ⟨(some 29),.v (.ib .leq) [.tmp 27,.tmp 28],none⟩] [⟨1,false,false⟩,⟨0,false,false⟩,⟨1,false,false⟩,⟨1,false,false⟩,⟨1,false,false⟩,⟨0,true,true⟩])
       (.cond (.tmp 29)
        (.seq (.reg [
         ⟨(some 30),.ld none (.tmp 6),none⟩,
         ⟨none,.st 1 (.tmp 4) (.tmp 30),none⟩,
         ⟨none,.st 1 (.tmp 5) (.const (.int .i64 0)),none⟩])
        .ret)
        .skip))
theorem k_as60 {α:Type}{call:CallT}{F:Ex→St→Option α}{k:List It}{s:St}:mach call F (.code as60 :: k) none s=mach call F (.code (.reg [⟨(some 7),.v .mv [.tmp 23],none⟩]) :: k) none s:=rfl
theorem k_bd60 {α:Type}{call:CallT}{F:Ex→St→Option α}{k:List It}{s:St}:mach call F (.code bd60 :: k) none s=mach call F (.code (.blk 3
       (.seq (.dreg [
        ⟨(some 24),.ld (some 3) (.tmp 2),none⟩,
        ⟨(some 25),.v .mv [.tmp 7],none⟩,
        ⟨(some 26),.call (.func 76) [.tmp 24,.tmp 25],none⟩,
        ⟨(some 27),.call (.func 88) [.tmp 26],none⟩,
        ⟨(some 28),.ld none (.tmp 3),none⟩,
        ⟨(some 29),.v (.ib .leq) [.tmp 27,.tmp 28],none⟩] [⟨1,false,false⟩,⟨0,false,false⟩,⟨1,false,false⟩,⟨1,false,false⟩,⟨1,false,false⟩,⟨0,true,true⟩])
       (.cond (.tmp 29)
        (.seq (.reg [
         ⟨(some 30),.ld none (.tmp 6),none⟩,
         ⟨none,.st 1 (.tmp 4) (.tmp 30),none⟩,
         ⟨none,.st 1 (.tmp 5) (.const (.int .i64 0)),none⟩])
        .ret)
        .skip))) :: k) none s:=rfl
structure LX where
 r:BeR
 b:Bench
 H0:Heap
 now:Int
 n:Int
 xb:Nat
 nb:Nat
 r4:Nat
 r5:Nat
 b6:Nat
 d:Nat
 l:Nat
 yb:Nat
 T:List Value
structure CJ (X:LX)(v4 v5:Int)(st:LoopState)(pd:Option Ex)(A:Nat→Prop)(H:Heap):Prop where
 c4:H[X.r4]?=some (bx (.int .i64 v4))
 n4:¬A X.r4
 c5:H[X.r5]?=some (bx (.int .i64 v5))
 n5:¬A X.r5
 c6:H[X.b6]?=some (bx (.int .i64 X.n))
 n6:¬A X.b6
 cn:H[X.nb]?=some (bx (.int .i64 X.now))
 nn:¬A X.nb
 lp:H[X.l]?=some (lpB 32 X.T [23] as60 bd60 X.d st pd)
 nl:¬A X.l
 df:H[X.d]?=some ⟨.dfr false,true,true,none⟩
 nd:¬A X.d
 xc:H[X.xb]?=some (benB X.r)
 nx:¬A X.xb
 yc:H[X.yb]?=some (benB (witR X.r X.n))
 ny:¬A X.yb
 up:Up X.H0 H
 lo:∀i,A i→X.H0.length≤i
theorem CJ.own {X:LX}{v4 v5:Int}{st:LoopState}{pd:Option Ex}{A:Nat→Prop}{H H':Heap}(h:CJ X v4 v5 st pd A H)(c:Chg A H H'):CJ X v4 v5 st pd (And' A H H') H' where
 c4:=by rw [c.old _ (lt_of_get h.c4) h.n4]; exact h.c4
 n4:=not_and h.n4 (lt_of_get h.c4)
 c5:=by rw [c.old _ (lt_of_get h.c5) h.n5]; exact h.c5
 n5:=not_and h.n5 (lt_of_get h.c5)
 c6:=by rw [c.old _ (lt_of_get h.c6) h.n6]; exact h.c6
 n6:=not_and h.n6 (lt_of_get h.c6)
 cn:=by rw [c.old _ (lt_of_get h.cn) h.nn]; exact h.cn
 nn:=not_and h.nn (lt_of_get h.cn)
 lp:=by rw [c.old _ (lt_of_get h.lp) h.nl]; exact h.lp
 nl:=not_and h.nl (lt_of_get h.lp)
 df:=by rw [c.old _ (lt_of_get h.df) h.nd]; exact h.df
 nd:=not_and h.nd (lt_of_get h.df)
 xc:=by rw [c.old _ (lt_of_get h.xc) h.nx]; exact h.xc
 nx:=not_and h.nx (lt_of_get h.xc)
 yc:=by rw [c.old _ (lt_of_get h.yc) h.ny]; exact h.yc
 ny:=not_and h.ny (lt_of_get h.yc)
 up:=c.up' h.up fun i hi ha=>by have:=h.lo i ha; omega
 lo:=fun i hi=>hi.elim (h.lo i) fun q=>Nat.le_trans h.up.len q.1
theorem CJ.less {X:LX}{v4 v5:Int}{st:LoopState}{pd:Option Ex}{A B:Nat→Prop}{H:Heap}(h:CJ X v4 v5 st pd A H)(hab:∀i,B i→A i):CJ X v4 v5 st pd B H where
 c4:=h.c4
 n4:=fun q=>h.n4 (hab _ q)
 c5:=h.c5
 n5:=fun q=>h.n5 (hab _ q)
 c6:=h.c6
 n6:=fun q=>h.n6 (hab _ q)
 cn:=h.cn
 nn:=fun q=>h.nn (hab _ q)
 lp:=h.lp
 nl:=fun q=>h.nl (hab _ q)
 df:=h.df
 nd:=fun q=>h.nd (hab _ q)
 xc:=h.xc
 nx:=fun q=>h.nx (hab _ q)
 yc:=h.yc
 ny:=fun q=>h.ny (hab _ q)
 up:=h.up
 lo:=fun i hi=>h.lo i (hab i hi)
end Go.Pi.L.Ben
set_option maxRecDepth 100000
namespace Go.Pi.L.Ben
open Go Go.Pi Go.Pi.L Go.Pi.E Go.Pi.Ben BM

structure LXOk (X:LX):Prop where
 t2:get X.T 2=.pointer (some ⟨X.xb,0,none⟩)
 t3:get X.T 3=.pointer (some ⟨X.nb,0,none⟩)
 t4:get X.T 4=.pointer (some ⟨X.r4,0,none⟩)
 t5:get X.T 5=.pointer (some ⟨X.r5,0,none⟩)
 t6:get X.T 6=.pointer (some ⟨X.b6,0,none⟩)
 gl:X.H0.length≤X.l
 g4:X.H0.length≤X.r4
 g5:X.H0.length≤X.r5
 l4:X.r4≠X.l
 l5:X.r5≠X.l
 l6:X.b6≠X.l
 ln:X.nb≠X.l
 ld:X.d≠X.l
 lx:X.xb≠X.l
 ly:X.yb≠X.l
 e45:X.r4≠X.r5
 e46:X.b6≠X.r4
 e4n:X.nb≠X.r4
 e4d:X.d≠X.r4
 e4x:X.xb≠X.r4
 e4y:X.yb≠X.r4
 e56:X.b6≠X.r5
 e5n:X.nb≠X.r5
 e5d:X.d≠X.r5
 e5x:X.xb≠X.r5
 e5y:X.yb≠X.r5
 be:BeOk X.H0 X.r X.b
 fi:Fine X.b
set_option maxHeartbeats 1000000 in
theorem CJ.step {X:LX}(hX:LXOk X){A:Nat→Prop}{H:Heap}{p:List Int}{b:Nat}(hpl:p.length=X.b.strokes.length)
  (hI:CJ X 0 0 .ready none A H) (hA:Lt A H) (hF:Fam H) (hs:Sl H 1 encN (some ⟨b,0,none⟩) p.length p) (hno:X.now < tk X.b p) :
  ∃H' lo,R (.yield X.l) [.slice (some ⟨b,0,none⟩) p.length 1] H=some ⟨.ok (.bool true),H',lo⟩∧X.H0.length≤lo∧lo≤X.l∧H.length≤H'.length∧(∀i,i < H.length→i≠X.l→H'[i]?=H[i]?)∧CJ X 0 0 .ready none A H':=by
 have hlt:=lt_of_get hI.lp
 have gl:=hX.gl
 obtain ⟨H1,hH1⟩:∃H1,H.set X.l { obj:=.loop 32 X.T [23] as60 bd60 X.d .busy none }=H1:=⟨_,rfl⟩
 have old1:∀i,i≠X.l→H1[i]?=H[i]?:=fun i hi=>by rw [←hH1,List.getElem?_set_ne (fun e=>hi e.symm)]
 have l1:H1[X.l]?=some (lpB 32 X.T [23] as60 bd60 X.d .busy none):=by rw [←hH1,List.getElem?_set_self hlt]; rfl
 have len1:H1.length=H.length:=by rw [←hH1]; simp
 have u1:Up X.H0 H1:=by rw [←hH1]; exact hI.up.set gl
 have hlp:=hI.lp
 have g1:∀{i:Nat} {c:List Value},hcells H i=some c→hcells H1 i=some c:=fun {i c} h=>by
  rw [hc_kept (old1 i (fun e=>by subst e; simp [hcells,hlp,lpB] at h))]; exact h
 have hF1:Fam H1:=by rw [←hH1]; exact hF.set hI.lp rfl
 have hs1:Ints H1 (some ⟨b,0,none⟩) p.length p:=Sl.mv hs fun c hc=>g1 hc
 have hbe1:BeOk H1 X.r X.b:=hX.be.grow u1.grow
 have k76:=c76 (kk:=1) hbe1 hs1 H1 (Grow.refl _)
 obtain ⟨H2,hH2⟩:∃H2,H1++[({ obj:=.map mSh [] }:Blk)]=H2:=⟨_,rfl⟩
 have u2:Up H1 H2:=by rw [←hH2]; exact (Up.refl _).app
 have len2:H2.length=H1.length+1:=by rw [←hH2]; simp
 have hw:WkOk H2 (⟨X.r,some ⟨b,0,none⟩,p.length,1,H1.length,-1,0⟩:WkR) X.b p:=⟨hbe1.grow u2.grow,hs1.grow u2.grow,hX.fi,hpl,by simp,by simp⟩
 have hm2:Mp (vE X.b p (-1) 0) H2 H1.length:=by rw [←hH2]; exact mp_new _ _
 obtain ⟨o,ho,H3,lo3,rfl,ch3,hm3,hlo3⟩:=c88 hw H2 (Grow.refl _) hm2
 have hlo3:H1.length≤lo3:=hlo3
 have hkp:=kept_of ch3 hm2 hm3
 rw [tk_eq] at ho
 rw [hH2] at k76
 have hF2:Fam H2:=by rw [←hH2]; exact hF1.append (fun f h=>by cases h)
 have hF3:Fam H3:=famR ho hF2
 have old3:∀i,i < H1.length→H3[i]?=H1[i]?:=fun i hi=>by
  rw [ch3.old i (by omega) (fun e=>by have:i=H1.length:=e; omega),u2.old i hi]
 have len3:H2.length≤H3.length:=ch3.len
 have hi3:∀{i:Nat} {bk:Blk},H[i]?=some bk→i≠X.l→H3[i]?=some bk:=fun {i bk} h hi=>by
  rw [old3 i (by rw [len1]; exact lt_of_get h),old1 i hi]; exact h
 have l3:H3[X.l]?=some ⟨.loop 32 X.T [23] as60 bd60 X.d .busy none,true,true,none⟩:=by rw [old3 _ (by omega)]; exact l1
 have x1:hcells H1 X.xb=some [.int .i64 X.r.app,.slice X.r.ba X.r.bl X.r.bk,.slice X.r.sa X.r.sl X.r.sk]:=g1 (by simp [hcells,hI.xc,benB,benC])
 have n3:hcells H3 X.nb=some [.int .i64 X.now]:=bx_hc (hi3 hI.cn hX.ln)
 have lp':H[X.l]?=some ⟨.loop 32 X.T [23] as60 bd60 X.d .ready none,true,true,none⟩:=hI.lp
 have t2:=hX.t2
 have t3:=hX.t3
 have j1:=hbe1.br.isLoc X.r.bk
 have j2:=hbe1.st.isLoc X.r.sk
 have z1:(tk X.b p≤X.now)=False:=eq_false (by omega)
 have key:Yes (R (.yield X.l) [.slice (some ⟨b,0,none⟩) p.length 1] H) (fun o=>∃lo,o=⟨.ok (.bool true),H3.set X.l { obj:=.loop 32 X.T [23] as60 bd60 X.d .ready none },lo⟩∧X.H0.length≤lo∧lo≤X.l):=by
  refine run_yl lp' rfl rfl ?_
  simp (maxDischargeDepth:=8) only [↓SD,SU,SV,SW,simprocAttr,Int.cast_ofNat_Int,small,resV,k_as60,setParams,yA_n lp',hH1,k_bd60,t2,t3,x1,j1,j2,loc_m,k76,ho,rD_kept,hkp,n3,z1,yE_n l3,k_fixb]
  rw [yes_some]
  exact ⟨_,rfl,by omega,by omega⟩
 obtain ⟨o,hoy,lo,rfl,w1,w2⟩:=key
 obtain ⟨H6,hH6⟩:∃H6,H3.set X.l { obj:=.loop 32 X.T [23] as60 bd60 X.d .ready none }=H6:=⟨_,rfl⟩
 rw [hH6] at hoy
 have len6:H6.length=H3.length:=by rw [←hH6]; simp
 have old6:∀i,i < H.length→i≠X.l→H6[i]?=H[i]?:=fun i h1 h2=>by rw [←hH6,List.getElem?_set_ne (fun e=>h2 e.symm),old3 i (by omega),old1 i h2]
 have pl:∀{i:Nat} {bk:Blk},H[i]?=some bk→i≠X.l→H6[i]?=some bk:=fun {i bk} h hi=>by rw [old6 i (lt_of_get h) hi]; exact h
 refine ⟨H6,lo,hoy,w1,w2,by omega,old6,?_⟩
 exact {
  c4:=pl hI.c4 hX.l4
  n4:=hI.n4
  c5:=pl hI.c5 hX.l5
  n5:=hI.n5
  c6:=pl hI.c6 hX.l6
  n6:=hI.n6
  cn:=pl hI.cn hX.ln
  nn:=hI.nn
  lp:=by rw [←hH6,List.getElem?_set_self (by omega)]; rfl
  nl:=hI.nl
  df:=pl hI.df hX.ld
  nd:=hI.nd
  xc:=pl hI.xc hX.lx
  nx:=hI.nx
  yc:=pl hI.yc hX.ly
  ny:=hI.ny
  up:=⟨by have:=hI.up.len; omega,fun i hi=>by rw [old6 i (Nat.lt_of_lt_of_le hi hI.up.len) (by omega)]; exact hI.up.old i hi⟩
  lo:=hI.lo }
end Go.Pi.L.Ben
set_option maxRecDepth 100000
namespace Go.Pi.L.Ben
open Go Go.Pi Go.Pi.L Go.Pi.E Go.Pi.Ben BM

set_option maxHeartbeats 1000000 in
theorem CJ.stop {X:LX}(hX:LXOk X){A:Nat→Prop}{H:Heap}{p:List Int}{b:Nat}(hpl:p.length=X.b.strokes.length)
  (hI:CJ X 0 0 .ready none A H) (hA:Lt A H) (hF:Fam H) (hs:Sl H 1 encN (some ⟨b,0,none⟩) p.length p) (hno:tk X.b p≤X.now) :
  ∃H' lo,R (.yield X.l) [.slice (some ⟨b,0,none⟩) p.length 1] H=some ⟨.ok (.bool false),H',lo⟩∧X.H0.length≤lo∧lo≤X.l∧H.length≤H'.length∧(∀i,i < H.length→i≠X.l→i≠X.r4→i≠X.r5→H'[i]?=H[i]?)∧CJ X X.n 0 .done (some .ret) A H':=by
 have hlt:=lt_of_get hI.lp
 have gl:=hX.gl
 obtain ⟨H1,hH1⟩:∃H1,H.set X.l { obj:=.loop 32 X.T [23] as60 bd60 X.d .busy none }=H1:=⟨_,rfl⟩
 have old1:∀i,i≠X.l→H1[i]?=H[i]?:=fun i hi=>by rw [←hH1,List.getElem?_set_ne (fun e=>hi e.symm)]
 have l1:H1[X.l]?=some (lpB 32 X.T [23] as60 bd60 X.d .busy none):=by rw [←hH1,List.getElem?_set_self hlt]; rfl
 have len1:H1.length=H.length:=by rw [←hH1]; simp
 have u1:Up X.H0 H1:=by rw [←hH1]; exact hI.up.set gl
 have hlp:=hI.lp
 have g1:∀{i:Nat} {c:List Value},hcells H i=some c→hcells H1 i=some c:=fun {i c} h=>by
  rw [hc_kept (old1 i (fun e=>by subst e; simp [hcells,hlp,lpB] at h))]; exact h
 have hF1:Fam H1:=by rw [←hH1]; exact hF.set hI.lp rfl
 have hs1:Ints H1 (some ⟨b,0,none⟩) p.length p:=Sl.mv hs fun c hc=>g1 hc
 have hbe1:BeOk H1 X.r X.b:=hX.be.grow u1.grow
 have k76:=c76 (kk:=1) hbe1 hs1 H1 (Grow.refl _)
 obtain ⟨H2,hH2⟩:∃H2,H1++[({ obj:=.map mSh [] }:Blk)]=H2:=⟨_,rfl⟩
 have u2:Up H1 H2:=by rw [←hH2]; exact (Up.refl _).app
 have len2:H2.length=H1.length+1:=by rw [←hH2]; simp
 have hw:WkOk H2 (⟨X.r,some ⟨b,0,none⟩,p.length,1,H1.length,-1,0⟩:WkR) X.b p:=⟨hbe1.grow u2.grow,hs1.grow u2.grow,hX.fi,hpl,by simp,by simp⟩
 have hm2:Mp (vE X.b p (-1) 0) H2 H1.length:=by rw [←hH2]; exact mp_new _ _
 obtain ⟨o,ho,H3,lo3,rfl,ch3,hm3,hlo3⟩:=c88 hw H2 (Grow.refl _) hm2
 have hlo3:H1.length≤lo3:=hlo3
 have hkp:=kept_of ch3 hm2 hm3
 rw [tk_eq] at ho
 rw [hH2] at k76
 have hF2:Fam H2:=by rw [←hH2]; exact hF1.append (fun f h=>by cases h)
 have hF3:Fam H3:=famR ho hF2
 have old3:∀i,i < H1.length→H3[i]?=H1[i]?:=fun i hi=>by
  rw [ch3.old i (by omega) (fun e=>by have:i=H1.length:=e; omega),u2.old i hi]
 have len3:H2.length≤H3.length:=ch3.len
 have hi3:∀{i:Nat} {bk:Blk},H[i]?=some bk→i≠X.l→H3[i]?=some bk:=fun {i bk} h hi=>by
  rw [old3 i (by rw [len1]; exact lt_of_get h),old1 i hi]; exact h
 have l3:H3[X.l]?=some ⟨.loop 32 X.T [23] as60 bd60 X.d .busy none,true,true,none⟩:=by rw [old3 _ (by omega)]; exact l1
 have x1:hcells H1 X.xb=some [.int .i64 X.r.app,.slice X.r.ba X.r.bl X.r.bk,.slice X.r.sa X.r.sl X.r.sk]:=g1 (by simp [hcells,hI.xc,benB,benC])
 have n3:hcells H3 X.nb=some [.int .i64 X.now]:=bx_hc (hi3 hI.cn hX.ln)
 have lp':H[X.l]?=some ⟨.loop 32 X.T [23] as60 bd60 X.d .ready none,true,true,none⟩:=hI.lp
 have t2:=hX.t2
 have t3:=hX.t3
 have j1:=hbe1.br.isLoc X.r.bk
 have j2:=hbe1.st.isLoc X.r.sk
 have z1:(tk X.b p≤X.now)=True:=eq_true hno
 have t4:=hX.t4
 have t5:=hX.t5
 have t6:=hX.t6
 have n6:hcells H3 X.b6=some [.int .i64 X.n]:=bx_hc (hi3 hI.c6 hX.l6)
 have b4:H3[X.r4]?=some ⟨.cells [.int .i64 0],true,true,none⟩:=hi3 hI.c4 hX.l4
 obtain ⟨H4,hH4⟩:∃H4,H3.set X.r4 { obj:=.cells [.int .i64 X.n] }=H4:=⟨_,rfl⟩
 have old4:∀i,i≠X.r4→H4[i]?=H3[i]?:=fun i hi=>by rw [←hH4,List.getElem?_set_ne (fun e=>hi e.symm)]
 have b5:H4[X.r5]?=some ⟨.cells [.int .i64 0],true,true,none⟩:=by rw [old4 _ (fun e=>hX.e45 e.symm)]; exact hi3 hI.c5 hX.l5
 obtain ⟨H5,hH5⟩:∃H5,H4.set X.r5 { obj:=.cells [.int .i64 0] }=H5:=⟨_,rfl⟩
 have old5:∀i,i≠X.r5→H5[i]?=H4[i]?:=fun i hi=>by rw [←hH5,List.getElem?_set_ne (fun e=>hi e.symm)]
 have l5:H5[X.l]?=some ⟨.loop 32 X.T [23] as60 bd60 X.d .busy none,true,true,none⟩:=by rw [old5 _ (fun e=>hX.l5 e.symm),old4 _ (fun e=>hX.l4 e.symm)]; exact l3
 have len5:H5.length=H3.length:=by rw [←hH5,List.length_set,←hH4,List.length_set]
 have g4:=hX.g4
 have g5:=hX.g5
 have lt4:=lt_of_get b4
 have lt5:=lt_of_get b5
 have key:Yes (R (.yield X.l) [.slice (some ⟨b,0,none⟩) p.length 1] H) (fun o=>∃lo,o=⟨.ok (.bool false),H5.set X.l { obj:=.loop 32 X.T [23] as60 bd60 X.d .done (some .ret) },lo⟩∧X.H0.length≤lo∧lo≤X.l):=by
  refine run_yl lp' rfl rfl ?_
  simp (maxDischargeDepth:=8) only [↓SD,SU,SV,SW,simprocAttr,Int.cast_ofNat_Int,small,resV,k_as60,setParams,yA_n lp',hH1,k_bd60,t2,t3,x1,j1,j2,loc_m,k76,ho,rD_kept,hkp,n3,z1,t4,t5,t6,n6,b4,stH_ok,hH4,b5,hH5,yE_r l5,k_fixb]
  rw [yes_some]
  exact ⟨_,rfl,by omega,by omega⟩
 obtain ⟨o,hoy,lo,rfl,w1,w2⟩:=key
 obtain ⟨H6,hH6⟩:∃H6,H5.set X.l { obj:=.loop 32 X.T [23] as60 bd60 X.d .done (some .ret) }=H6:=⟨_,rfl⟩
 rw [hH6] at hoy
 have len6:H6.length=H3.length:=by rw [←hH6,List.length_set]; exact len5
 have old6:∀i,i < H.length→i≠X.l→i≠X.r4→i≠X.r5→H6[i]?=H[i]?:=fun i h1 h2 h3 h4=>by rw [←hH6,List.getElem?_set_ne (fun e=>h2 e.symm),old5 i h4,old4 i h3,old3 i (by omega),old1 i h2]
 have pl:∀{i:Nat} {bk:Blk},H[i]?=some bk→i≠X.l→i≠X.r4→i≠X.r5→H6[i]?=some bk:=fun {i bk} h h2 h3 h4=>by rw [old6 i (lt_of_get h) h2 h3 h4]; exact h
 refine ⟨H6,lo,hoy,w1,w2,by omega,old6,?_⟩
 exact {
  c4:=by rw [←hH6,List.getElem?_set_ne (fun e=>hX.l4 e.symm),old5 _ hX.e45,←hH4,List.getElem?_set_self lt4]; rfl
  n4:=hI.n4
  c5:=by rw [←hH6,List.getElem?_set_ne (fun e=>hX.l5 e.symm),←hH5,List.getElem?_set_self lt5]; rfl
  n5:=hI.n5
  c6:=pl hI.c6 hX.l6 hX.e46 hX.e56
  n6:=hI.n6
  cn:=pl hI.cn hX.ln hX.e4n hX.e5n
  nn:=hI.nn
  lp:=by rw [←hH6,List.getElem?_set_self (by omega)]; rfl
  nl:=hI.nl
  df:=pl hI.df hX.ld hX.e4d hX.e5d
  nd:=hI.nd
  xc:=pl hI.xc hX.lx hX.e4x hX.e5x
  nx:=hI.nx
  yc:=pl hI.yc hX.ly hX.e4y hX.e5y
  ny:=hI.ny
  up:=⟨by have:=hI.up.len; omega,fun i hi=>by rw [old6 i (Nat.lt_of_lt_of_le hi hI.up.len) (by omega) (by omega) (by omega)]; exact hI.up.old i hi⟩
  lo:=hI.lo }
end Go.Pi.L.Ben
set_option maxRecDepth 100000
namespace Go.Pi.L.Ben
open Go Go.Pi Go.Pi.L Go.Pi.E Go.Pi.Ben BM

def DK (D:List Nat)(A:Nat→Prop)(H:Heap):Prop:=∀r∈D,H[r]?=some ⟨.dfr false,true,true,none⟩∧¬A r
theorem DK.own {D:List Nat}{A:Nat→Prop}{H H':Heap}(h:DK D A H)(c:Chg A H H'):DK D (And' A H H') H':=fun r hr=>by
 obtain ⟨h1,h2⟩:=h r hr
 exact ⟨by rw [c.old _ (lt_of_get h1) h2]; exact h1,not_and h2 (lt_of_get h1)⟩
theorem consLst {X:LX}(hX:LXOk X){D:List Nat}(hD:∀r∈D,r≠X.l∧r≠X.r4∧r≠X.r5):ConsB PP primsL X.l X.H0.length (fun i=>i < X.H0.length∨i=X.yb) (Ok (witB X.b X.n)) (fun acc A H=>CJ X 0 0 .ready none A H∧DK D A H∧∀q∈acc,X.now < tk X.b q) (fun acc A H=>CJ X X.n 0 .done (some .ret) A H∧DK D A H∧∃q∈acc,tk X.b q≤X.now) where
 own:=fun acc A H H' ⟨h,hk,h2⟩ c=>⟨h.own c,hk.own c,h2⟩
 less:=fun acc A B H ⟨h,hk,h2⟩ hab=>⟨h.less hab,fun r hr=>⟨(hk r hr).1,fun q=>(hk r hr).2 (hab _ q)⟩,h2⟩
 step:=fun acc A H p b hok ⟨h,hk,h2⟩ hA hF hs hb=>by
  have hp:p∈plans (witB X.b X.n):=hok.1 p (by simp)
  have hpl:p.length=X.b.strokes.length:=by
   unfold plans at hp
   rw [mem_plansL] at hp
   rw [hp.1]; simp [rounds]
  have gl:=hX.gl
  have g4:=hX.g4
  have g5:=hX.g5
  have far:∀i,A i∨(i < X.H0.length∨i=X.yb)→i < H.length∧i≠X.l∧i≠X.r4∧i≠X.r5:=fun i hi=>by
   rcases hi with hi | hi | hi
   ·exact ⟨hA i hi,fun e=>h.nl (e ▸ hi),fun e=>h.n4 (e ▸ hi),fun e=>h.n5 (e ▸ hi)⟩
   ·exact ⟨Nat.lt_of_lt_of_le hi h.up.len,by omega,by omega,by omega⟩
   ·subst hi; exact ⟨lt_of_get h.yc,hX.ly,hX.e4y,hX.e5y⟩
  rcases Int.lt_or_le X.now (tk X.b p) with hlt | hle
  ·obtain ⟨H',lo,q1,q2,q3,q4,q5,q6⟩:=CJ.step hX hpl h hA hF hs hlt
   refine ⟨true,H',lo,q1,q2,q3,q4,fun i hi=>q5 i (far i hi).1 (far i hi).2.1,fun _=>⟨q6,fun r hr=>⟨?_,(hk r hr).2⟩,fun q hq=>?_⟩,fun h=>(by cases h)⟩
   ·rw [q5 r (lt_of_get (hk r hr).1) (hD r hr).1]; exact (hk r hr).1
   ·rcases List.mem_append.1 hq with hq | hq
    ·exact h2 q hq
    ·rw [List.mem_singleton.1 hq]; exact hlt
  ·obtain ⟨H',lo,q1,q2,q3,q4,q5,q6⟩:=CJ.stop hX hpl h hA hF hs hle
   refine ⟨false,H',lo,q1,q2,q3,q4,fun i hi=>q5 i (far i hi).1 (far i hi).2.1 (far i hi).2.2.1 (far i hi).2.2.2,fun h=>(by cases h),fun _=>⟨q6,fun r hr=>⟨?_,(hk r hr).2⟩,p,by simp,hle⟩⟩
   rw [q5 r (lt_of_get (hk r hr).1) (hD r hr).1 (hD r hr).2.1 (hD r hr).2.2]; exact (hk r hr).1
end Go.Pi.L.Ben
set_option maxRecDepth 100000
namespace Go.Pi.L
open Go Go.Pi
end Go.Pi.L
set_option maxRecDepth 100000
namespace Go.Pi.L.Ben
open Go Go.Pi Go.Pi.L Go.Pi.E Go.Pi.Ben BM

theorem CJ.none {X:LX}{v4 v5:Int}{st:LoopState}{pd:Option Ex}{A:Nat→Prop}{H:Heap}(h:CJ X v4 v5 st pd A H):CJ X v4 v5 st pd (fun _=>False) H:=h.less fun _ h=>h.elim
theorem rnd60 {X:LX}(hX:LXOk X){D:List Nat}(hD:∀r∈D,r≠X.l∧r≠X.r4∧r≠X.r5){Hl:Heap}(hI:CJ X 0 0 .ready none (fun _=>False) Hl)(hK:DK D (fun _=>False) Hl)(hF:Fam Hl)(hB:isBench (witB X.b X.n)=true) :
  ∃H1 lo1,R (.func 123) [.func (.yield X.l) #[] #[],.pointer (some ⟨X.yb,0,none⟩)] Hl=some ⟨.ok nothing,H1,lo1⟩∧X.H0.length≤lo1∧lo1≤X.l∧Hl.length≤H1.length∧Fam H1∧DK D (fun _=>False) H1 ∧
   ((X.now < mtW X.b X.n∧CJ X 0 0 .ready none (fun _=>False) H1)∨(mtW X.b X.n≤X.now∧CJ X X.n 0 .done (some .ret) (fun _=>False) H1)):=by
 have hf:=fine_of hB
 have hbe:=wit_ok (hX.be.grow hI.up.grow) X.n
 have yc:hcells Hl X.yb=some [.int .i64 X.n,.slice X.r.ba X.r.bl X.r.bk,.slice X.r.sa X.r.sl X.r.sk]:=by simp [hcells,hI.yc,benB,benC]
 obtain ⟨o,ho,H1,lo1,A1,rfl,w1,w2,w3,w4,w5,w6⟩:=c123 (r:=witR X.r X.n) (b:=witB X.b X.n) (xb:=X.yb) hf (consLst hX hD) (ok_all hf) hF ⟨hI,hK,fun q hq=>by cases hq⟩ (lt_of_get hI.lp) hX.gl (fun i hi=>by
  rcases hi with hi | hi
  ·exact Nat.lt_of_lt_of_le hi hI.up.len
  ·have e:i=X.yb:=hi
   subst e; exact lt_of_get hI.yc) (.inr rfl) yc hbe.st (fun h0 b off he=>.inl (Sl.inR hX.be.st h0 b off he)) hbe.eq hbe.app
 refine ⟨H1,lo1,ho,w1,w2,w3,w5,?_⟩
 rcases w6 with ⟨h1,h2,h3⟩ | ⟨L1,L2,hL,_,h1,h2,q,hq,h3⟩
 ·refine ⟨fun r hr=>⟨(h2 r hr).1,id⟩,.inl ⟨?_,h1.none⟩⟩
  obtain ⟨x,hx,e⟩:=minT_mem (tk (witB X.b X.n)) (plans_ne (witB X.b X.n))
  have:=h3 x hx
  have e2:tk X.b x=tk (witB X.b X.n) x:=rfl
  unfold mtW
  omega
 ·refine ⟨fun r hr=>⟨(h2 r hr).1,id⟩,.inr ⟨?_,h1.none⟩⟩
  have hm:=minT_le (tk (witB X.b X.n)) (show q∈plans (witB X.b X.n) by rw [hL]; exact List.mem_append_left _ hq)
  have e2:tk X.b q=tk (witB X.b X.n) q:=rfl
  unfold mtW
  omega
end Go.Pi.L.Ben
set_option maxRecDepth 100000
namespace Go.Pi.L
open Go Go.Pi
theorem get_deloc {T:List Value}{i:Nat}{v:Value}(h:get T i=v)(hl:isLoc v=false):get (T.map deloc) i=v:=by
 have e:∀(T:List Value) (i:Nat),get (T.map deloc) i=deloc (get T i):=by
  intro T
  induction T with
  | nil=>intro i; cases i <;> rfl
  | cons x T ih=>intro i; cases i with
   | zero=>rfl
   | succ i=>exact ih i
 rw [e,h]
 simp [deloc,hl]
end Go.Pi.L
set_option maxRecDepth 100000
namespace Go.Pi.L.Ben
open Go Go.Pi Go.Pi.L Go.Pi.E Go.Pi.Ben BM

set_option maxHeartbeats 1000000 in
theorem e60 {H:Heap}{r:BeR}{b:Bench}(hb:BeOk H r b)(hd:SmB r)(now:Int)(h:(isBench b&&inL now 0 60)=false):∀H',Grow H H'→Fam H'→R (.func 60) [.agg #[.int .i64 r.app,.slice r.ba r.bl r.bk,.slice r.sa r.sl r.sk],.int .i64 now] H'=some ⟨.ok (.tuple #[.int .i64 0,.int .i64 2]),H',H'.length⟩:=by
 intro H' hg hF
 refine run_k (pr 60) P60 (by simp [p60]) rfl ?_
 have l1:=hb.br.isLoc r.bk
 have l2:=hb.st.isLoc r.sk
 obtain ⟨Ha,hHa⟩:∃Ha,H'++[({ obj:=.cells [.int .i64 r.app,.slice r.ba r.bl r.bk,.slice r.sa r.sl r.sk] }:Blk)]=Ha:=⟨_,rfl⟩
 obtain ⟨Hb,hHb⟩:∃Hb,Ha++[({ obj:=.cells [.int .i64 now] }:Blk)]=Hb:=⟨_,rfl⟩
 obtain ⟨Hc,hHc⟩:∃Hc,Hb++[({ obj:=.cells [.int .i64 0] }:Blk)]=Hc:=⟨_,rfl⟩
 obtain ⟨Hd,hHd⟩:∃Hd,Hc++[({ obj:=.cells [.int .i64 0] }:Blk)]=Hd:=⟨_,rfl⟩
 have la:Ha.length=H'.length+1:=by rw [←hHa]; simp
 have lb:Hb.length=H'.length+2:=by rw [←hHb]; simp [la]
 have lc:Hc.length=H'.length+3:=by rw [←hHc]; simp [lb]
 have ld:Hd.length=H'.length+4:=by rw [←hHd]; simp [lc]
 have ua:Up H' Ha:=by rw [←hHa]; exact (Up.refl _).app
 have ub:Up Ha Hb:=by rw [←hHb]; exact (Up.refl _).app
 have uc:Up Hb Hc:=by rw [←hHc]; exact (Up.refl _).app
 have ud:Up Hc Hd:=by rw [←hHd]; exact (Up.refl _).app
 have u:=((ua.trans ub).trans uc).trans ud
 have xa:Ha[H'.length]?=some (benB r):=by rw [←hHa]; exact app_get
 have xb:Hb[Ha.length]?=some (bx (.int .i64 now)):=by rw [←hHb]; exact app_get
 have xc:Hc[Hb.length]?=some (bx (.int .i64 0)):=by rw [←hHc]; exact app_get
 have xd:Hd[Hc.length]?=some (bx (.int .i64 0)):=by rw [←hHd]; exact app_get
 have x1:hcells Hd H'.length=some [.int .i64 r.app,.slice r.ba r.bl r.bk,.slice r.sa r.sl r.sk]:=by
  unfold hcells; rw [ud.old _ (by omega),uc.old _ (by omega),ub.old _ (by omega),xa]; rfl
 have n1:hcells Hd Ha.length=some [.int .i64 now]:=by
  unfold hcells; rw [ud.old _ (by omega),uc.old _ (by omega),xb]; rfl
 have b4:Hd[Hb.length]?=some ⟨.cells [.int .i64 0],true,true,none⟩:=by rw [ud.old _ (by omega)]; exact xc
 obtain ⟨He,hHe⟩:∃He,Hd.set Hb.length { obj:=.cells [.int .i64 0] }=He:=⟨_,rfl⟩
 have b5:He[Hc.length]?=some ⟨.cells [.int .i64 0],true,true,none⟩:=by rw [←hHe,List.getElem?_set_ne (by omega)]; exact xd
 obtain ⟨Hf,hHf⟩:∃Hf,He.set Hc.length { obj:=.cells [.int .i64 2] }=Hf:=⟨_,rfl⟩
 have f4:hcells Hf Hb.length=some [.int .i64 0]:=by
  unfold hcells; rw [←hHf,List.getElem?_set_ne (by omega),←hHe,List.getElem?_set_self (by omega)]
 have f5:hcells Hf Hc.length=some [.int .i64 2]:=by
  unfold hcells; rw [←hHf,List.getElem?_set_self (lt_of_get b5)]
 have k74:=c74 hb hd Hd (hg.trans u.grow)
 have k83:=c83 now 0 60 Hd
 cases q:isBench b with
 | false =>
  rw [q] at k74
  simp (maxDischargeDepth:=8) only [↓SD,SU,SV,SW,simprocAttr,Int.cast_ofNat_Int,small,resV, B60,R60,N60,b60, l1,l2,hHa,hHb,hHc,hHd,x1,n1,k74,b4,stH_ok,hHe,b5,hHf,f4,f5,R60,N60]
  first | (rw [gc_ite (by omega)]; simp [flat]; done) | (simp [gcR,flat]; omega)
 | true =>
  rw [q,Bool.true_and] at h
  rw [q] at k74
  rw [h] at k83
  simp (maxDischargeDepth:=8) only [↓SD,SU,SV,SW,simprocAttr,Int.cast_ofNat_Int,small,resV, B60,R60,N60,b60, l1,l2,hHa,hHb,hHc,hHd,x1,n1,k74,k83,b4,stH_ok,hHe,b5,hHf,f4,f5,R60,N60]
  first | (rw [gc_ite (by omega)]; simp [flat]; done) | (simp [gcR,flat]; omega)
end Go.Pi.L.Ben
set_option maxRecDepth 100000
namespace Go.Pi.L
open Go Go.Pi
def kolH:List Nat→Heap→Heap
 | [],H=>H
 | r :: D,H=>kolH D (H.set r { obj:=.dfr true })
def kolL:List Nat→Nat→Nat
 | [],lo=>lo
 | r :: D,lo=>kolL D (min lo r)
theorem kolL_le {n0:Nat}:∀{D:List Nat} {lo:Nat},n0≤lo→(∀r∈D,n0≤r)→n0≤kolL D lo
 | [],lo,h,_=>h
 | r :: D,lo,h,hd=>kolL_le (D:=D) (Nat.le_min.2 ⟨h,hd r (List.mem_cons_self ..)⟩) fun x hx=>hd x (List.mem_cons_of_mem _ hx)
theorem kolH_get:∀{D:List Nat} {H:Heap} {i:Nat},i ∉ D→(kolH D H)[i]?=H[i]?
 | [],H,i,_=>rfl
 | r :: D,H,i,h=>by
  rw [kolH,kolH_get (fun q=>h (List.mem_cons_of_mem _ q)),List.getElem?_set_ne (fun e=>h (by rw [←e]; exact List.mem_cons_self ..))]
theorem unw_kol {PP:FuncId→Option PFunc}{prims:Prims}{call:CallT}{pv:Option Value}{T:List Value}{S:List (Nat×PObj)}{D0:List PD}{n:Nat}{rnd:Bool}:∀(D:List Nat) (H:Heap) (lo:Nat),D.Nodup→(∀r∈D,H[r]?=some ⟨.dfr false,true,true,none⟩) →
  unwL PP prims call (D.map PD.coll) pv ⟨T,S,D0,H,lo,n,rnd⟩=some (pv,⟨T,S,D0,kolH D H,kolL D lo,n,rnd⟩)
 | [],H,lo,_,_=>by rw [List.map_nil,unw_nil]; rfl
 | r :: D,H,lo,hn,hd=>by
  obtain ⟨n1,n2⟩:=List.nodup_cons.1 hn
  have h1:=hd r (List.mem_cons_self ..)
  rw [List.map_cons,unw_coll _ _ _ _ _ _ _ _ _ _ h1]
  exact unw_kol D _ _ n2 fun x hx=>by
   rw [List.getElem?_set_ne (fun e=>n1 (by rw [e]; exact hx))]; exact hd x (List.mem_cons_of_mem _ hx)
theorem fE_any {PP:FuncId→Option PFunc}{prims:Prims}{call:CallT}(pf H pv T S D H1 lo n rnd):fE PP prims call pf H pv ⟨T,S,D,H1,lo,n,rnd⟩=fin pf H (unwL PP prims call D pv ⟨T,S,D,H1,lo,n,rnd⟩):=rfl
end Go.Pi.L
namespace Go.Pi.L.Ben
open Go Go.Pi Go.Pi.L Go.Pi.E Go.Pi.Ben BM

structure LI (H':Heap)(r:BeR)(now:Int)(D:List Nat)(H:Heap):Prop where
 xb:H[H'.length]?=some (benB r)
 nb:H[H'.length+1]?=some (bx (.int .i64 now))
 r4:H[H'.length+2]?=some (bx (.int .i64 0))
 r5:H[H'.length+3]?=some (bx (.int .i64 0))
 up:Up H' H
 fam:Fam H
 nd:D.Nodup
 dk:DK D (fun _=>False) H
 rg:∀x∈D,H'.length+3 < x
theorem r60 {H' H3:Heap}{r:BeR}{b:Bench}{now:Int}{D:List Nat}{T:List Value}{j:Nat}(hb:BeOk H' r b)(hB:isBench b=true)(hj:j < 4)(hI:LI H' r now D H3)
  (t2:get T 2=.pointer (some ⟨H'.length,0,none⟩)) (t3:get T 3=.pointer (some ⟨H'.length+1,0,none⟩)) (t4:get T 4=.pointer (some ⟨H'.length+2,0,none⟩)) (t5:get T 5=.pointer (some ⟨H'.length+3,0,none⟩)) (t6:get T 6=.pointer (some ⟨H3.length,0,none⟩))
  {Ha Hb Hc Hl:Heap} (hHa:H3++[({ obj:=.cells [.int .i64 0] }:Blk)]=Ha) (hHb:Ha.set H3.length { obj:=.cells [.int .i64 (j:Nat)] }=Hb) (hHc:Hb++[({ obj:=.cells (benC (witR r (j:Int))) }:Blk)]=Hc)
  (hHl:Hc++[({ obj:=.dfr false }:Blk)]++[({ obj:=.loop 32 T [23] as60 bd60 Hc.length .ready none }:Blk)]=Hl) :
  Ha[H3.length]?=some ⟨.cells [.int .i64 0],true,true,none⟩∧hcells Hb H3.length=some [.int .i64 (j:Nat)]∧hcells Hb H'.length=some (benC r)∧Hb.length=H3.length+1∧Hc.length=H3.length+2∧H'.length≤H3.length ∧
  ∃H1 lo1,R (.func 123) [.func (.yield (Hc.length+1)) #[] #[],.pointer (some ⟨Hb.length,0,none⟩)] Hl=some ⟨.ok nothing,H1,lo1⟩∧H'.length≤lo1 ∧
   ((now < mtW b j∧H1[Hc.length+1]?=some ⟨.loop 32 T [23] as60 bd60 Hc.length .ready none,true,true,none⟩∧LI H' r now (Hc.length :: D) (H1.set (Hc.length+1) { obj:=.loop 32 T [23] as60 bd60 Hc.length .exhausted none })) ∨
    (mtW b j≤now∧H1[Hc.length+1]?=some ⟨.loop 32 T [23] as60 bd60 Hc.length .done (some .ret),true,true,none⟩∧(Hc.length :: D).Nodup∧(∀x∈Hc.length :: D,H'.length+3 < x) ∧
     ∃H5,H1.set (Hc.length+1) { obj:=.loop 32 T [23] as60 bd60 Hc.length .exhausted (some .ret) }=H5∧(∀x∈Hc.length :: D,H5[x]?=some ⟨.dfr false,true,true,none⟩)∧H5[H'.length+2]?=some (bx (.int .i64 (j:Nat)))∧H5[H'.length+3]?=some (bx (.int .i64 0)))):=by
 have b0:=lt_of_get hI.r5
 have la:Ha.length=H3.length+1:=by rw [←hHa]; simp
 have lb:Hb.length=H3.length+1:=by rw [←hHb,List.length_set]; exact la
 have lc:Hc.length=H3.length+2:=by rw [←hHc,List.length_append,lb]; rfl
 have ll:Hl.length=H3.length+4:=by rw [←hHl,List.length_append,List.length_append,lc]; rfl
 have oa:∀i,i < H3.length→Ha[i]?=H3[i]?:=fun i hi=>by rw [←hHa,List.getElem?_append_left hi]
 have ob:∀i,i≠H3.length→Hb[i]?=Ha[i]?:=fun i hi=>by rw [←hHb,List.getElem?_set_ne (fun e=>hi e.symm)]
 have oc:∀i,i < Hb.length→Hc[i]?=Hb[i]?:=fun i hi=>by rw [←hHc,List.getElem?_append_left hi]
 have ol:∀i,i < Hc.length→Hl[i]?=Hc[i]?:=fun i hi=>by rw [←hHl,List.append_assoc,List.getElem?_append_left hi]
 have old:∀i,i < H3.length→Hl[i]?=H3[i]?:=fun i hi=>by rw [ol i (by omega),oc i (by omega),ob i (by omega),oa i hi]
 have at6:Ha[H3.length]?=some ⟨.cells [.int .i64 0],true,true,none⟩:=by rw [←hHa]; exact app_get
 have bt6:Hb[H3.length]?=some (bx (.int .i64 (j:Nat))):=by rw [←hHb,List.getElem?_set_self (by omega)]; rfl
 have cty:Hc[Hb.length]?=some (benB (witR r (j:Int))):=by rw [←hHc]; exact app_get
 have bd:Hl[Hc.length]?=some ⟨.dfr false,true,true,none⟩:=by rw [←hHl,List.append_assoc,List.getElem?_append_right (Nat.le_refl _)]; simp
 have bl:Hl[Hc.length+1]?=some (lpB 32 T [23] as60 bd60 Hc.length .ready none):=by rw [←hHl,List.append_assoc,List.getElem?_append_right (by omega),Nat.add_sub_cancel_left]; rfl
 have kp:∀{i:Nat} {c:Blk},H3[i]?=some c→Hl[i]?=some c:=fun {i c} h=>by rw [old i (lt_of_get h)]; exact h
 have hu:Up H' Hl:=⟨by have:=hI.up.len; omega,fun i hi=>by rw [old i (by have:=hI.up.len; omega)]; exact hI.up.old i hi⟩
 have hFl:Fam Hl:=by
  rw [←hHl,←hHc]
  refine ((Fam.append (Fam.append (Fam.append ?_ ?_) ?_) ?_))
  ·rw [←hHb]
   refine Fam.set ?_ at6 rfl
   rw [←hHa]; exact hI.fam.append (fun f h=>by cases h)
  all_goals exact fun f h=>by cases h
 have up3:=hI.up.len
 have fa:H3[H'.length]?=some (benB r):=hI.xb
 refine ⟨at6,bx_hc bt6,by unfold hcells; rw [ob _ (by omega),oa _ (by omega),fa]; rfl,lb,lc,up3,?_⟩
 let X:LX:=⟨r,b,H',now,j,H'.length,H'.length+1,H'.length+2,H'.length+3,H3.length,Hc.length,Hc.length+1,Hb.length,T⟩
 have hX:LXOk X:={
  t2:=t2
  t3:=t3
  t4:=t4
  t5:=t5
  t6:=t6
  gl:=by show H'.length≤Hc.length+1; omega
  g4:=by show H'.length≤H'.length+2; omega
  g5:=by show H'.length≤H'.length+3; omega
  l4:=by show H'.length+2≠Hc.length+1; omega
  l5:=by show H'.length+3≠Hc.length+1; omega
  l6:=by show H3.length≠Hc.length+1; omega
  ln:=by show H'.length+1≠Hc.length+1; omega
  ld:=by show Hc.length≠Hc.length+1; omega
  lx:=by show H'.length≠Hc.length+1; omega
  ly:=by show Hb.length≠Hc.length+1; omega
  e45:=by show H'.length+2≠H'.length+3; omega
  e46:=by show H3.length≠H'.length+2; omega
  e4n:=by show H'.length+1≠H'.length+2; omega
  e4d:=by show Hc.length≠H'.length+2; omega
  e4x:=by show H'.length≠H'.length+2; omega
  e4y:=by show Hb.length≠H'.length+2; omega
  e56:=by show H3.length≠H'.length+3; omega
  e5n:=by show H'.length+1≠H'.length+3; omega
  e5d:=by show Hc.length≠H'.length+3; omega
  e5x:=by show H'.length≠H'.length+3; omega
  e5y:=by show Hb.length≠H'.length+3; omega
  be:=hb
  fi:=fine_of hB }
 have hC:CJ X 0 0 .ready none (fun _=>False) Hl:={
  c4:=kp hI.r4
  n4:=id
  c5:=kp hI.r5
  n5:=id
  c6:=by show Hl[H3.length]?=_; rw [ol _ (by omega),oc _ (by omega)]; exact bt6
  n6:=id
  cn:=kp hI.nb
  nn:=id
  lp:=bl
  nl:=id
  df:=bd
  nd:=id
  xc:=kp hI.xb
  nx:=id
  yc:=by show Hl[Hb.length]?=_; rw [ol _ (by omega)]; exact cty
  ny:=id
  up:=hu
  lo:=fun i hi=>hi.elim }
 have hD:∀x∈D,x≠X.l∧x≠X.r4∧x≠X.r5:=fun x hx=>by
  have h1:=hI.rg x hx
  have h2:=lt_of_get (hI.dk x hx).1
  exact ⟨by show x≠Hc.length+1; omega,by show x≠H'.length+2; omega,by show x≠H'.length+3; omega⟩
 have hK:DK D (fun _=>False) Hl:=fun x hx=>⟨kp (hI.dk x hx).1,id⟩
 obtain ⟨H1,lo1,q1,q2,q3,q4,q5,q6,q7⟩:=rnd60 hX hD hC hK hFl (wit_bench hB (n:=(j:Int)) (by omega) (by omega))
 have nd:(Hc.length :: D).Nodup:=List.nodup_cons.2 ⟨fun h=>by have:=lt_of_get (hI.dk _ h).1; omega,hI.nd⟩
 have rg:∀x∈Hc.length :: D,H'.length+3 < x:=fun x hx=>by
  rcases List.mem_cons.1 hx with h | h
  ·omega
  ·exact hI.rg x h
 refine ⟨H1,lo1,q1,q2,?_⟩
 rcases q7 with ⟨h1,h2⟩ | ⟨h1,h2⟩
 ·refine .inl ⟨h1,h2.lp,?_⟩
  obtain ⟨H5,hH5⟩:∃H5,H1.set (Hc.length+1) { obj:=.loop 32 T [23] as60 bd60 Hc.length .exhausted none }=H5:=⟨_,rfl⟩
  rw [hH5]
  have o5:∀i,i≠Hc.length+1→H5[i]?=H1[i]?:=fun i hi=>by rw [←hH5,List.getElem?_set_ne (fun e=>hi e.symm)]
  exact {
   xb:=by rw [o5 _ hX.lx]; exact h2.xc
   nb:=by rw [o5 _ hX.ln]; exact h2.cn
   r4:=by rw [o5 _ hX.l4]; exact h2.c4
   r5:=by rw [o5 _ hX.l5]; exact h2.c5
   up:=by rw [←hH5]; exact h2.up.set hX.gl
   fam:=by rw [←hH5]; exact q5.set h2.lp rfl
   nd:=nd
   dk:=fun x hx=>by
    rcases List.mem_cons.1 hx with h | h
    ·subst h; exact ⟨by rw [o5 _ hX.ld]; exact h2.df,id⟩
    ·exact ⟨by rw [o5 _ (hD x h).1]; exact (q6 x h).1,id⟩
   rg:=rg }
 ·obtain ⟨H5,hH5⟩:∃H5,H1.set (Hc.length+1) { obj:=.loop 32 T [23] as60 bd60 Hc.length .exhausted (some .ret) }=H5:=⟨_,rfl⟩
  have o5:∀i,i≠Hc.length+1→H5[i]?=H1[i]?:=fun i hi=>by rw [←hH5,List.getElem?_set_ne (fun e=>hi e.symm)]
  refine .inr ⟨h1,h2.lp,nd,rg,H5,hH5,fun x hx=>?_,?_,?_⟩
  ·rcases List.mem_cons.1 hx with h | h
   ·subst h; rw [o5 _ hX.ld]; exact h2.df
   ·rw [o5 _ (hD x h).1]; exact (q6 x h).1
  ·rw [o5 _ hX.l4]; exact h2.c4
  ·rw [o5 _ hX.l5]; exact h2.c5
end Go.Pi.L.Ben
set_option maxRecDepth 100000
namespace Go.Pi.L.Ben
open Go Go.Pi Go.Pi.L Go.Pi.E Go.Pi.Ben BM

theorem least_ends (b:Bench)(now:Int):∃m,m≤4∧(∀j,j < m→now < mtW b (j:Nat))∧((m < 4∧mtW b (m:Nat)≤now∧leastN b now=some m)∨(m=4∧leastN b now=none)):=by
 cases hL:leastN b now with
 | some k =>
  obtain ⟨k',hk1,hk2,hk3⟩:=find_idx hL
  have hk4:=(List.getElem?_eq_some_iff.1 hk1).1
  rw [List.length_range] at hk4
  rw [List.getElem?_range hk4] at hk1
  cases hk1
  refine ⟨k,by omega,fun j hj=>?_,.inl ⟨hk4,of_decide_eq_true hk2,rfl⟩⟩
  have:=of_decide_eq_false (hk3 j hj j (List.getElem?_range (by omega)))
  omega
 | none =>
  refine ⟨4,Nat.le_refl _,fun j hj=>?_,.inr ⟨rfl,rfl⟩⟩
  have:=List.find?_eq_none.1 hL j (List.mem_range.2 hj)
  simp only [decide_eq_true_eq] at this
  omega
set_option maxHeartbeats 4000000 in
theorem c60:Least60:=by
 intro H r b hb hd now H' hg hF
 cases q0:(isBench b&&inL now 0 60) with
 | false =>
  rw [e60 hb hd now q0 H' hg hF]
  unfold lst60; rw [q0]; rfl
 | true =>
 obtain ⟨hB,hN⟩:=Bool.and_eq_true_iff.1 q0
 have hbe:=hb.grow hg
 have hv1:∀n,leastN b now=some n→lst60 b now=.tuple #[.int .i64 (n:Nat),.int .i64 0]:=fun n h=>by unfold lst60; rw [if_pos q0,h]
 have hv2:leastN b now=none→lst60 b now=.tuple #[.int .i64 0,.int .i64 5]:=fun h=>by unfold lst60; rw [if_pos q0,h]
 obtain ⟨m,hm4,hlt,hend⟩:=least_ends b now
 refine run_k (pr 60) P60 (by simp [p60]) rfl ?_
 have l1:=hb.br.isLoc r.bk
 have l2:=hb.st.isLoc r.sk
 obtain ⟨Ha,hHa⟩:∃Ha,H'++[({ obj:=.cells [.int .i64 r.app,.slice r.ba r.bl r.bk,.slice r.sa r.sl r.sk] }:Blk)]=Ha:=⟨_,rfl⟩
 obtain ⟨Hb,hHb⟩:∃Hb,Ha++[({ obj:=.cells [.int .i64 now] }:Blk)]=Hb:=⟨_,rfl⟩
 obtain ⟨Hc,hHc⟩:∃Hc,Hb++[({ obj:=.cells [.int .i64 0] }:Blk)]=Hc:=⟨_,rfl⟩
 obtain ⟨Hd,hHd⟩:∃Hd,Hc++[({ obj:=.cells [.int .i64 0] }:Blk)]=Hd:=⟨_,rfl⟩
 have la:Ha.length=H'.length+1:=by rw [←hHa]; simp
 have lb:Hb.length=H'.length+2:=by rw [←hHb]; simp [la]
 have lc:Hc.length=H'.length+3:=by rw [←hHc]; simp [lb]
 have ld:Hd.length=H'.length+4:=by rw [←hHd]; simp [lc]
 have ua:Up H' Ha:=by rw [←hHa]; exact (Up.refl _).app
 have ub:Up Ha Hb:=by rw [←hHb]; exact (Up.refl _).app
 have uc:Up Hb Hc:=by rw [←hHc]; exact (Up.refl _).app
 have ud:Up Hc Hd:=by rw [←hHd]; exact (Up.refl _).app
 have u:=((ua.trans ub).trans uc).trans ud
 have xa:Ha[H'.length]?=some (benB r):=by rw [←hHa]; exact app_get
 have xb:Hb[Ha.length]?=some (bx (.int .i64 now)):=by rw [←hHb]; exact app_get
 have xc:Hc[Hb.length]?=some (bx (.int .i64 0)):=by rw [←hHc]; exact app_get
 have xd:Hd[Hc.length]?=some (bx (.int .i64 0)):=by rw [←hHd]; exact app_get
 have yb:Hd[H'.length]?=some (benB r):=by rw [ud.old _ (by omega),uc.old _ (by omega),ub.old _ (by omega),xa]
 have yn:Hd[H'.length+1]?=some (bx (.int .i64 now)):=by rw [←la,ud.old _ (by omega),uc.old _ (by omega),xb]
 have x1:hcells Hd H'.length=some [.int .i64 r.app,.slice r.ba r.bl r.bk,.slice r.sa r.sl r.sk]:=by unfold hcells; rw [yb]; rfl
 have n1:hcells Hd Ha.length=some [.int .i64 now]:=by rw [la]; exact bx_hc yn
 have hFd:Fam Hd:=by
  rw [←hHd,←hHc,←hHb,←hHa]
  exact (((hF.append (fun f h=>by cases h)).append (fun f h=>by cases h)).append (fun f h=>by cases h)).append (fun f h=>by cases h)
 have hL0:LI H' r now [] Hd:={
  xb:=yb
  nb:=yn
  r4:=by rw [←lb,ud.old _ (by omega)]; exact xc
  r5:=by rw [←lc]; exact xd
  up:=u
  fam:=hFd
  nd:=List.nodup_nil
  dk:=fun x hx=>by cases hx
  rg:=fun x hx=>by cases hx }
 have k74:=c74 hb hd Hd (hg.trans u.grow)
 have k83:=c83 now 0 60 Hd
 rw [hB] at k74
 rw [hN] at k83
 simp (maxDischargeDepth:=8) only [↓SD,SU,SV,SW,simprocAttr,Int.cast_ofNat_Int,small,resV, B60,R60,N60,b60, l1,l2,hHa,hHb,hHc,hHd,x1,n1,k74,k83]
 refine loop_ind (G:=(·=_)) (fun j σ=>∃T D H3 lim,σ=⟨T,[],D.map PD.coll,H3,lim,32,false⟩∧get T 2=.pointer (some ⟨H'.length,0,none⟩)∧get T 3=.pointer (some ⟨H'.length+1,0,none⟩)∧get T 4=.pointer (some ⟨H'.length+2,0,none⟩)∧get T 5=.pointer (some ⟨H'.length+3,0,none⟩)∧get T 16=.int .i64 (j:Nat)∧LI H' r now D H3∧H'.length≤lim) m ?_ ?_ 0 _ (Nat.zero_le _) ⟨_,[],_,_,rfl,rfl,by rw [←la]; rfl,by rw [←lb]; rfl,by rw [←lc]; rfl,rfl,hL0,by omega⟩
 ·rintro c' j s hj ⟨T,D,H3,lim,rfl,t2,t3,t4,t5,t16,hI,hlim⟩ ih
  have z1:(((j:Nat):Int) < 4)=True:=eq_true (by omega)
  obtain ⟨Ga,hGa⟩:∃Ga,H3++[({ obj:=.cells [.int .i64 0] }:Blk)]=Ga:=⟨_,rfl⟩
  obtain ⟨Gb,hGb⟩:∃Gb,Ga.set H3.length { obj:=.cells [.int .i64 (j:Nat)] }=Gb:=⟨_,rfl⟩
  obtain ⟨Gc,hGc⟩:∃Gc,Gb++[({ obj:=.cells [.int .i64 (j:Nat),.slice r.ba r.bl r.bk,.slice r.sa r.sl r.sk] }:Blk)]=Gc:=⟨_,rfl⟩
  have k101:=c101 hb (j:Int) Gb
  have k102:R (.func 102) [.agg #[.int .i64 (j:Nat),.slice r.ba r.bl r.bk,.slice r.sa r.sl r.sk]] Gb=_:=c102 (witR r (j:Int)) l1 l2 Gb
  rw [show Gb++[({ obj:=.cells [.int .i64 (witR r (j:Int)).app,.slice (witR r (j:Int)).ba (witR r (j:Int)).bl (witR r (j:Int)).bk,.slice (witR r (j:Int)).sa (witR r (j:Int)).sl (witR r (j:Int)).sk] }:Blk)]=Gc from hGc] at k102
  obtain ⟨TX,hTX⟩:∃TX,List.map deloc (set (set (set (set (set (set (set T 17 (.bool true)) 18 (.int .i64 (j:Nat))) 6 (.pointer (some ⟨H3.length,0,none⟩))) 19 (.agg #[.int .i64 r.app,.slice r.ba r.bl r.bk,.slice r.sa r.sl r.sk])) 20 (.int .i64 (j:Nat))) 21 (.agg #[.int .i64 (j:Nat),.slice r.ba r.bl r.bk,.slice r.sa r.sl r.sk])) 22 (.func (.func 123) #[] #[.pointer (some ⟨Gb.length,0,none⟩)]))=TX:=⟨_,rfl⟩
  obtain ⟨Gl,hGl⟩:∃Gl,Gc++[({ obj:=.dfr false }:Blk)]++[({ obj:=.loop 32 TX [23] as60 bd60 Gc.length .ready none }:Blk)]=Gl:=⟨_,rfl⟩
  obtain ⟨b6,c6,cx,lgb,lgc,up3,H1,lo1,q1,q2,q3⟩:=r60 (T:=TX) (j:=j) hbe hB (by omega) hI (by rw [←hTX]; exact get_deloc (by simp [get_set,t2]) rfl) (by rw [←hTX]; exact get_deloc (by simp [get_set,t3]) rfl) (by rw [←hTX]; exact get_deloc (by simp [get_set,t4]) rfl) (by rw [←hTX]; exact get_deloc (by simp [get_set,t5]) rfl) (by rw [←hTX]; exact get_deloc (by simp [get_set]) rfl) hGa hGb hGc hGl
  have hGl':=hGl
  unfold as60 bd60 at hGl'
  replace cx:hcells Gb H'.length=some [.int .i64 r.app,.slice r.ba r.bl r.bk,.slice r.sa r.sl r.sk]:=cx
  obtain ⟨_,lp1,hL⟩:=q3.resolve_right fun h=>by have:=hlt j hj; omega
  have hw:=wrap_succ j (by omega)
  simp (maxDischargeDepth:=8) only [↓SD,SU,SV,SW,simprocAttr,Int.cast_ofNat_Int,small,resV, q60x0,t2,t3,t4,t5,t16,z1,l1,l2,hGa,b6,stH_ok,hGb,c6,cx,k101,k102,k_rf,rfA_some,fa_clo1,hTX,hGl',q1,rfR_n _ _ _ _ _ _ _ _ _ _ lp1,hw]
  exact ih _ ⟨_,Gc.length :: D,_,_,rfl,by simp [get_set,t2],by simp [get_set,t3],by simp [get_set,t4],by simp [get_set,t5],by simp [get_set],hL,by omega⟩
 ·rintro c' s ⟨T,D,H3,lim,rfl,t2,t3,t4,t5,t16,hI,hlim⟩
  rcases hend with ⟨e1,e2,e3⟩ | ⟨e1,e3⟩
  ·have z1:(((m:Nat):Int) < 4)=True:=eq_true (by omega)
   obtain ⟨Ga,hGa⟩:∃Ga,H3++[({ obj:=.cells [.int .i64 0] }:Blk)]=Ga:=⟨_,rfl⟩
   obtain ⟨Gb,hGb⟩:∃Gb,Ga.set H3.length { obj:=.cells [.int .i64 (m:Nat)] }=Gb:=⟨_,rfl⟩
   obtain ⟨Gc,hGc⟩:∃Gc,Gb++[({ obj:=.cells [.int .i64 (m:Nat),.slice r.ba r.bl r.bk,.slice r.sa r.sl r.sk] }:Blk)]=Gc:=⟨_,rfl⟩
   have k101:=c101 hb (m:Int) Gb
   have k102:R (.func 102) [.agg #[.int .i64 (m:Nat),.slice r.ba r.bl r.bk,.slice r.sa r.sl r.sk]] Gb=_:=c102 (witR r (m:Int)) l1 l2 Gb
   rw [show Gb++[({ obj:=.cells [.int .i64 (witR r (m:Int)).app,.slice (witR r (m:Int)).ba (witR r (m:Int)).bl (witR r (m:Int)).bk,.slice (witR r (m:Int)).sa (witR r (m:Int)).sl (witR r (m:Int)).sk] }:Blk)]=Gc from hGc] at k102
   obtain ⟨TX,hTX⟩:∃TX,List.map deloc (set (set (set (set (set (set (set T 17 (.bool true)) 18 (.int .i64 (m:Nat))) 6 (.pointer (some ⟨H3.length,0,none⟩))) 19 (.agg #[.int .i64 r.app,.slice r.ba r.bl r.bk,.slice r.sa r.sl r.sk])) 20 (.int .i64 (m:Nat))) 21 (.agg #[.int .i64 (m:Nat),.slice r.ba r.bl r.bk,.slice r.sa r.sl r.sk])) 22 (.func (.func 123) #[] #[.pointer (some ⟨Gb.length,0,none⟩)]))=TX:=⟨_,rfl⟩
   obtain ⟨Gl,hGl⟩:∃Gl,Gc++[({ obj:=.dfr false }:Blk)]++[({ obj:=.loop 32 TX [23] as60 bd60 Gc.length .ready none }:Blk)]=Gl:=⟨_,rfl⟩
   obtain ⟨b6,c6,cx,lgb,lgc,up3,H1,lo1,q1,q2,q3⟩:=r60 (T:=TX) (j:=m) hbe hB (by omega) hI (by rw [←hTX]; exact get_deloc (by simp [get_set,t2]) rfl) (by rw [←hTX]; exact get_deloc (by simp [get_set,t3]) rfl) (by rw [←hTX]; exact get_deloc (by simp [get_set,t4]) rfl) (by rw [←hTX]; exact get_deloc (by simp [get_set,t5]) rfl) (by rw [←hTX]; exact get_deloc (by simp [get_set]) rfl) hGa hGb hGc hGl
   have hGl':=hGl
   unfold as60 bd60 at hGl'
   replace cx:hcells Gb H'.length=some [.int .i64 r.app,.slice r.ba r.bl r.bk,.slice r.sa r.sl r.sk]:=cx
   obtain ⟨_,lp1,nd,rg,G5,hG5,hK,f4,f5⟩:=q3.resolve_left fun h=>by omega
   have f4':hcells (kolH (Gc.length :: D) G5) (H'.length+2)=some [.int .i64 (m:Nat)]:=bx_hc (by rw [kolH_get (fun h=>by have:=rg _ h; omega)]; exact f4)
   have f5':hcells (kolH (Gc.length :: D) G5) (H'.length+3)=some [.int .i64 0]:=bx_hc (by rw [kolH_get (fun h=>by have:=rg _ h; omega)]; exact f5)
   have hu:=fun T lo=>unw_kol (PP:=PP) (prims:=primsL) (call:=runL PP primsL) (pv:=none) (T:=T) (S:=[]) (D0:=.coll Gc.length :: D.map PD.coll) (n:=32) (rnd:=false) (Gc.length :: D) G5 lo nd hK
   simp only [List.map_cons] at hu
   simp (maxDischargeDepth:=8) only [↓SD,SU,SV,SW,simprocAttr,Int.cast_ofNat_Int,small,resV, q60x0,t2,t3,t4,t5,t16,z1,l1,l2,hGa,b6,stH_ok,hGb,c6,cx,k101,k102,k_rf,rfA_some,fa_clo1,hTX,hGl',q1,rfR_r _ _ _ _ _ _ _ _ _ _ lp1,hG5,hu,f4',f5',R60,N60]
   rw [hv1 _ e3]
   rw [gc_ite (kolL_le (by omega) (fun x hx=>by have:=rg x hx; omega))]; simp [flat]
  ·subst e1
   have z1:(((4:Nat):Int) < 4)=False:=by simp
   have b4:H3[H'.length+2]?=some ⟨.cells [.int .i64 0],true,true,none⟩:=hI.r4
   obtain ⟨Ga,hGa⟩:∃Ga,H3.set (H'.length+2) { obj:=.cells [.int .i64 0] }=Ga:=⟨_,rfl⟩
   have b5:Ga[H'.length+3]?=some ⟨.cells [.int .i64 0],true,true,none⟩:=by rw [←hGa,List.getElem?_set_ne (by omega)]; exact hI.r5
   obtain ⟨Gb,hGb⟩:∃Gb,Ga.set (H'.length+3) { obj:=.cells [.int .i64 5] }=Gb:=⟨_,rfl⟩
   have o2:∀i,i≠H'.length+2→i≠H'.length+3→Gb[i]?=H3[i]?:=fun i h1 h2=>by rw [←hGb,List.getElem?_set_ne (fun e=>h2 e.symm),←hGa,List.getElem?_set_ne (fun e=>h1 e.symm)]
   have f4':hcells (kolH D Gb) (H'.length+2)=some [.int .i64 0]:=bx_hc (by rw [kolH_get (fun h=>by have:=hI.rg _ h; omega),←hGb,List.getElem?_set_ne (by omega),←hGa,List.getElem?_set_self (lt_of_get b4)]; rfl)
   have f5':hcells (kolH D Gb) (H'.length+3)=some [.int .i64 5]:=bx_hc (by rw [kolH_get (fun h=>by have:=hI.rg _ h; omega),←hGb,List.getElem?_set_self (lt_of_get b5)]; rfl)
   have hu:=fun T lo=>unw_kol (PP:=PP) (prims:=primsL) (call:=runL PP primsL) (pv:=none) (T:=T) (S:=[]) (D0:=D.map PD.coll) (n:=32) (rnd:=false) D Gb lo hI.nd (fun x hx=>by have:=hI.rg x hx; rw [o2 x (by omega) (by omega)]; exact (hI.dk x hx).1)
   simp (maxDischargeDepth:=8) only [↓SD,SU,SV,SW,simprocAttr,Int.cast_ofNat_Int,small,resV, q60x0,t2,t3,t4,t5,t16,z1,l1,l2,b4,stH_ok,hGa,b5,hGb,fE_any,hu,f4',f5',R60,N60]
   rw [hv2 e3]
   rw [gc_ite (kolL_le (by omega) (fun x hx=>by have:=hI.rg x hx; omega))]; simp [flat]
end Go.Pi.L.Ben
set_option maxRecDepth 100000
namespace Go.Pi.L.Ben
open Go Go.Pi Go.Pi.L Go.Pi.E Go.Pi.Ben BM

theorem c13' {H:Heap}{r:BeR}{b:Bench}{now:Int}(hb:BeOk H r b)(hF:Fam H):R (.func 13) [.agg #[.int .i64 r.app,.slice r.ba r.bl r.bk,.slice r.sa r.sl r.sk],.int .i64 now] H=some ⟨.ok (.bool true),H,H.length⟩:=c13 c60 hb hF
theorem c14' {H:Heap}{r:BeR}{b:Bench}{now nI:Int}(hb:BeOk H r b)(hF:Fam H):R (.func 14) [.agg #[.int .i64 r.app,.slice r.ba r.bl r.bk,.slice r.sa r.sl r.sk],.int .i64 now,.int .i64 nI] H=some ⟨.ok (.bool true),H,H.length⟩:=c14 c60 hb hF
end Go.Pi.L.Ben
