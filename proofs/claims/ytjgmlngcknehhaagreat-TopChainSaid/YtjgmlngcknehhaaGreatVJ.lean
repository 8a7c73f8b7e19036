/- Strokes that take an hour each: how long a best plan takes, with how many apprentices. -/
import Derived.Test.YtjgmlngcknehhaaGreatBMb
import Derived.Test.YtjgmlngcknehhaaGreatUB
import Derived.Test.YtjgmlngcknehhaaGreatVI
import Derived.Test.YtjgmlngcknehhaaGreatVF
set_option linter.all false
set_option maxRecDepth 100000
namespace UP
open BM
def strC (l:List Nat):Stroke:=⟨0,false,1,1,l.map fun a:Nat=>(a:Int)⟩
def bC (app:Int)(c:List (List Nat)):Bench:=⟨app,[60],c.map strC⟩
def needF (c:List (List Nat))(k n:Nat):Bool:=match (c.map strC)[n]? with | some s=>s.needs.any fun x=>decide (x=(k:Int)) | none=>false
def idP (n:Nat):List Int:=(List.range n).map fun i:Nat=>(i:Int)
def one (_:Nat):Int:=1
def chkC (c:List (List Nat)):Bool :=
 isBench (bC 3 c)&&(decide (1≤owners c)&&(decide (owners c≤c.length)&&(decide (takes (needF c) one c.length=(owners c:Int))&&decide (takes (follows (bC 3 c) (idP c.length)) one c.length=(owners c:Int)))))
theorem chk_all:allC.all chkC=true:=by decide +kernel
theorem high_one (app:Int)(c:List (List Nat)):high (bC app c)=one:=by
 funext n
 unfold high bC one
 simp only [List.getElem?_map]
 cases c[n]? <;> rfl
structure Good (c:List (List Nat)):Prop where
 bench:isBench (bC 3 c)=true
 o1:1≤owners c
 on:owners c≤c.length
 low:∀(app:Int) (p:List Int),(owners c:Int)≤tk (bC app c) p
 idp:∀app:Int,tk (bC app c) (idP c.length)=(owners c:Int)
theorem good_of {c:List (List Nat)}(h:c∈allC):Good c:=by
 have h1:=List.all_eq_true.1 chk_all c h
 simp only [chkC,Bool.and_eq_true,decide_eq_true_eq] at h1
 obtain ⟨h1,h2,h3,h4,h5⟩:=h1
 refine ⟨h1,h2,h3,fun app p=>?_,fun app=>?_⟩
 ·unfold tk
  rw [high_one]
  have hl:(bC app c).strokes.length=c.length:=by simp [bC]
  rw [hl,←h4]
  refine takes_mono (fun k n _ hk=>?_) (fun _=>Int.le_refl _)
  unfold needF at hk
  unfold follows
  rw [Bool.or_eq_true]
  exact .inr hk
 ·unfold tk
  rw [high_one]
  have hl:(bC app c).strokes.length=c.length:=by simp [bC]
  rw [hl,←h5]
  rfl
theorem rounds_c (app:Int)(c:List (List Nat)):rounds (bC app c)=List.replicate c.length false:=by
 unfold rounds bC
 simp only [List.map_map]
 rw [List.eq_replicate_iff]
 refine ⟨by simp,fun b hb=>?_⟩
 obtain ⟨l,_,rfl⟩:=List.mem_map.1 hb
 rfl
theorem idP_plan {c:List (List Nat)}{app:Nat}(h:c.length≤app+1):idP c.length∈plans (bC app c):=by
 unfold plans
 rw [rounds_c]
 refine mem_plansL.2 ⟨by simp [idP],fun i x r hx hr=>?_⟩
 have hr':r=false:=List.eq_of_mem_replicate (List.mem_of_getElem? hr)
 subst hr'
 unfold idP at hx
 rw [List.getElem?_map,Option.map_eq_some_iff] at hx
 obtain ⟨a,h1,rfl⟩:=hx
 have hi:=(List.getElem?_eq_some_iff.1 h1).1
 rw [List.length_range] at hi
 rw [List.getElem?_range hi] at h1
 cases h1
 simp only [hands,bC]
 constructor
 ·omega
 ·have:((app:Nat):Int).toNat=app:=by omega
  simp
  omega
theorem minT_c {c:List (List Nat)}(g:Good c){app:Nat}(h:c.length≤app+1):minT (tk (bC app c)) (plans (bC app c))=(owners c:Int):=by
 have h1:=minT_le (T:=tk (bC app c)) (idP_plan h)
 rw [g.idp] at h1
 obtain ⟨p,_,h2⟩:=minT_mem (T:=tk (bC app c)) (plans_ne (bC app c))
 have:=g.low app p
 omega
end UP
set_option maxRecDepth 100000
namespace UP
theorem subs_mem:∀(i:Nat) (l:List Nat),l.Pairwise (· < ·)→(∀x∈l,x < i)→l∈subs i
 | 0,l,_,h=>by
  cases l with
  | nil=>simp [subs]
  | cons x l=>exact absurd (h x (List.mem_cons_self ..)) (Nat.not_lt_zero _)
 | i+1,l,hp,h=>by
  rw [subs,List.mem_append]
  rcases List.eq_nil_or_concat l with rfl | ⟨l0,x,rfl⟩
  ·exact .inl (subs_mem i [] .nil (fun x hx=>by cases hx))
  ·rw [List.concat_eq_append] at hp h ⊢
   obtain ⟨h1,h2,h3⟩:=List.pairwise_append.1 hp
   have hx:=h x (by simp)
   by_cases e:x=i
   ·subst e
    exact .inr (List.mem_map.2 ⟨l0,subs_mem x l0 h1 (fun y hy=>h3 y hy x (by simp)),rfl⟩)
   ·refine .inl (subs_mem i _ hp fun y hy=>?_)
    rcases List.mem_append.1 hy with hy | hy
    ·have:=h3 y hy x (by simp); omega
    ·rw [List.mem_singleton.1 hy]; omega
theorem needs_mem {j:Nat}{c:List (List Nat)}{l:List Nat}(hc:c∈needs j)(hl:l∈subs j):c++[l]∈needs (j+1):=by
 rw [needs,List.mem_flatMap]
 exact ⟨c,hc,List.mem_map.2 ⟨l,hl,rfl⟩⟩
theorem edgesF_snoc:∀(c:List (List Nat)) (l:List Nat) (i:Nat),edgesF i (c++[l])=edgesF i c++l.map fun a=>(a,i+c.length)
 | [],l,i=>by simp [edgesF]
 | m :: c,l,i=>by
  rw [List.cons_append,edgesF,edgesF,edgesF_snoc c l (i+1),List.append_assoc]
  congr 2
  simp only [List.length_cons]
  congr 1
  funext a
  congr 1
  omega
theorem all_mem {n:Nat}{c:List (List Nat)}(h:c∈needs n)(h1:1≤n)(h4:n≤4):c∈allC:=by
 unfold allC
 simp only [List.mem_append]
 rcases (show n=1∨n=2∨n=3∨n=4 by omega) with rfl | rfl | rfl | rfl
 ·exact .inl (.inl (.inl h))
 ·exact .inl (.inl (.inr h))
 ·exact .inl (.inr h)
 ·exact .inr h
theorem find_le {p:Nat→Bool}:∀{m:Nat},m < 4→p m=true→∃k,k≤m∧(List.range 4).find? p=some k:=by
 intro m hm hp
 have e:List.range 4=[0,1,2,3]:=rfl
 rw [e]
 simp only [List.find?]
 by_cases h0:p 0=true
 ·exact ⟨0,Nat.zero_le _,by rw [h0]⟩
 by_cases h1:p 1=true
 ·refine ⟨1,?_,by simp [h0,h1]⟩
  rcases (show m=0∨1≤m by omega) with rfl | h
  ·exact absurd hp h0
  ·exact h
 by_cases h2:p 2=true
 ·refine ⟨2,?_,by simp [h0,h1,h2]⟩
  rcases (show m=0∨m=1∨2≤m by omega) with rfl | rfl | h
  ·exact absurd hp h0
  ·exact absurd hp h1
  ·exact h
 ·refine ⟨3,?_,?_⟩
  ·rcases (show m=0∨m=1∨m=2∨3≤m by omega) with rfl | rfl | rfl | h
   ·exact absurd hp h0
   ·exact absurd hp h1
   ·exact absurd hp h2
   ·exact h
  ·rcases (show m=0∨m=1∨m=2∨m=3 by omega) with rfl | rfl | rfl | rfl
   ·exact absurd hp h0
   ·exact absurd hp h1
   ·exact absurd hp h2
   ·simp [h0,h1,h2,hp]
end UP
namespace Go.Pi.L
open Go Go.Pi
theorem slot_nl {x:Operand}{v:Value}(h:isLoc v=false):slotOk x v=true:=by
 unfold slotOk
 split
 ·simp [isLoc] at h
 ·rfl
section
variable {α:Type} {call:CallT} {F:Ex→St→Option α} {k:List It}
theorem apA_nn (kk d T S D H lo n rnd):ap1 call F (some []) (.slice none 0 0) kk d k ⟨T,S,D,H,lo,n,rnd⟩=nxt call F (some (.slice none 0 0)) d k ⟨T,S,D,H,lo,n,rnd⟩:=by
 have hop:appB ⟨T,S,D,H,lo,n,rnd⟩ kk [] none 0 0 d=putO ⟨T,S,D,H,lo,n,rnd⟩ d (.slice none 0 0):=by
  unfold appB
  rw [if_neg (by simp [isLoc]),if_neg (by simp [small]),if_pos (show ([]:List Value).isEmpty=true from rfl)]
 simp only [ap1,hop]
 exact go_putO
end
end Go.Pi.L
namespace Go.Pi.L.Ch
open Go Go.Pi Go.Pi.L Go.Pi.E Go.Pi.Top BM UP

theorem c6 (x lo hi:Int)(H:Heap):R (.func 6) [.int .i64 x,.int .i64 lo,.int .i64 hi] H=some ⟨.ok (.bool (inL x lo hi)),H,H.length⟩:=by
 refine run_k (pr 6) P6 (by simp [p6]) rfl ?_
 by_cases h:lo≤x <;> simp (maxDischargeDepth:=8) only [↓SD,SU,SV,SW,simprocAttr,Int.cast_ofNat_Int,small,resV, B6,R6,N6,b6, h,Bool.false_and,inL]
theorem c16 {H:Heap}{a b:Option Addr}{l k m:Nat}{xs:List Int}(ha:Ints H a l xs)(hb:Ints H b l xs)(hl:l < 1000000) :
  ∀H',Grow H H'→R (.func 16) [.slice a l k,.slice b l m] H'=some ⟨.ok (.bool true),H',H'.length⟩:=by
 intro H' hg
 refine run_k (pr 16) P16 (by simp [p16]) rfl ?_
 have l1:=ha.isLoc k
 have l2:=hb.isLoc m
 have hq:((l:Nat):Int)=((l:Nat):Int)↔True:=by simp
 simp (maxDischargeDepth:=8) only [↓SD,SU,SV,SW,simprocAttr,Int.cast_ofNat_Int,small,resV, B16,R16,N16,b16, l1,l2,hq]
 refine loop_ind (G:=(·=_)) (fun j σ=>∃T,σ=⟨T,[],[],H',(H').length,26,false⟩∧get T 0=.slice a l k∧get T 1=.slice b l m∧get T 5=.int .i64 (j:Nat)∧(True)) (l) ?_ ?_ 0 _ (Nat.zero_le _) ⟨_,rfl,rfl,rfl,rfl,by simp⟩
 ·rintro c' j s hj ⟨T,rfl,t0,t1,t5,hp⟩ ih
  obtain ⟨b1,o1,x,hxa,hx,e1⟩:=ha.i1 hj
  obtain ⟨b2,o2,y,hya,hy,e2⟩:=hb.i1 hj
  rw [hx] at hy
  cases hy
  have e1:=e1 H' hg
  have e2:=e2 H' hg
  have ia:vv (.ia 1) [.slice a l k,.int .i64 (j:Nat)]=some (.pointer (some ⟨b1,o1+j*1,none⟩)):=by rw [hxa]; exact vv_iaN 1 b1 o1 j _ _ _ hj
  have ib:vv (.ia 1) [.slice b l m,.int .i64 (j:Nat)]=some (.pointer (some ⟨b2,o2+j*1,none⟩)):=by rw [hya]; exact vv_iaN 1 b2 o2 j _ _ _ hj
  have hw:=wrap_succ j (by omega)
  have hx0:x=x↔True:=by simp
  simp (maxDischargeDepth:=8) only [↓SD,SU,SV,SW,simprocAttr,Int.cast_ofNat_Int,small,resV, q16x0,t0,t1,t5, lt_nat,hj,l1,l2,ia,ib,e1,e2,hx0,hw]
  exact ih _ ⟨_,rfl,(by simp [get_set,t0] <;> omega),(by simp [get_set,t1] <;> omega),(by simp [get_set,t5] <;> omega),trivial⟩
 ·rintro c' s ⟨T,rfl,t0,t1,t5,hp⟩
  simp (maxDischargeDepth:=8) only [↓SD,SU,SV,SW,simprocAttr,Int.cast_ofNat_Int,small,resV, q16x0,t0,t1,t5, lt_nat,Nat.lt_irrefl,l1,l2,R16,N16]

structure NdR where
 a:Option Addr
 l:Nat
 m:Nat
 xs:List Int
def eNd (r:NdR):List Value:=[.slice r.a r.l r.m]
theorem eNd_len (r:NdR):(eNd r).length=1:=rfl
structure LS (H0 H:Heap)(spa:Option Addr)(spl spm:Nat)(sta:Option Addr)(stl stm:Nat)(oda:Option Addr)(odl odm:Nat)(qs:List SpR)(ks:List Sk)(os:List Int):Prop where
 up:Up H0 H
 fam:Fam H
 sp:Bld H0.length H 1 spa spl spm (cells eQ qs)
 st:Bld H0.length H 5 sta stl stm (cells eK ks)
 od:Bld H0.length H 1 oda odl odm (cells encI os)
 d1:spa=sta→spa=none
 d2:spa=oda→spa=none
 d3:sta=oda→sta=none
 nn:qs=[]→spa=none∧spm=0
 qb:∀q∈qs,Ints H q.a 2 [(q.x:Int),(q.y:Int)]
 kb:∀k∈ks,Ints H k.a k.l k.s.needs∧k.l < 1000
theorem _root_.Go.Pi.L.Bld.below {n0:Nat}{H:Heap}{k l m:Nat}{a:Option Addr}{c:List Value}(h:Bld n0 H k a l m c):∀b,a=some ⟨b,0,none⟩→b < H.length:=fun b hb=>by
 subst hb; exact h.lt.2.1
theorem _root_.Go.Pi.L.Bld.none_or {n0:Nat}{H:Heap}{k l m:Nat}{a:Option Addr}{c:List Value}(h:Bld n0 H k a l m c){a':Option Addr}(hne:a=a'→a=none){H1:Heap}(g:Grown H H1 a'):Bld n0 H1 k a l m c:=by
 by_cases e:a=a'
 ·have h0:=hne e
  subst h0
  rcases h.ok with ⟨_,h1,h2⟩ | ⟨b,f,h1,_⟩
  ·exact ⟨h.len,.inl ⟨rfl,h1,h2⟩⟩
  ·cases h1
 ·exact h.grown g e
theorem LS.more {H0 H H':Heap}{spa sta oda:Option Addr}{spl spm stl stm odl odm:Nat}{qs:List SpR}{ks:List Sk}{os:List Int}(h:LS H0 H spa spl spm sta stl stm oda odl odm qs ks os)(u:Up H H')(f:Fam H'):LS H0 H' spa spl spm sta stl stm oda odl odm qs ks os :=
 ⟨h.up.trans u,f,h.sp.up u,h.st.up u,h.od.up u,h.d1,h.d2,h.d3,h.nn,fun q hq=>(h.qb q hq).grow u.grow,fun k hk=>⟨(h.kb k hk).1.grow u.grow,(h.kb k hk).2⟩⟩
theorem ne_new {n0:Nat}{H:Heap}{k l m:Nat}{a:Option Addr}{c:List Value}(h:Bld n0 H k a l m c):some ⟨H.length,0,none⟩=a→some (⟨H.length,0,none⟩:Addr)=none:=fun e=>by
 subst e
 have:=h.lt.2.1
 omega
theorem ne_new' {n0:Nat}{H:Heap}{k l m:Nat}{a:Option Addr}{c:List Value}(h:Bld n0 H k a l m c):a=some ⟨H.length,0,none⟩→a=none:=fun e=>by
 subst e
 have:=h.lt.2.1
 omega
theorem LS.spot {H0 H:Heap}{spa sta oda:Option Addr}{spl spm stl stm odl odm:Nat}{qs:List SpR}{ks:List Sk}{os:List Int}(h:LS H0 H spa spl spm sta stl stm oda odl odm qs ks os)(hl:spl < 1000000)(x y:Nat) :
  ∃H2,(∀{α:Type} (call:CallT) (F:Ex→St→Option α) d kk T S D lo n rnd,ap1 call F (some [.slice (some ⟨H.length,0,none⟩) 2 1]) (.slice spa spl spm) 1 d kk ⟨T,S,D,H++[⟨.cells [.int .i64 (x:Nat),.int .i64 (y:Nat)],true,true,some H.length⟩],lo,n,rnd⟩=nxt call F (some (.slice (some ⟨H.length+1,0,none⟩) (spl+1) 1)) d kk ⟨T,S,D,H2,lo,n,rnd⟩) ∧
   LS H0 H2 (some ⟨H.length+1,0,none⟩) (spl+1) 1 sta stl stm oda odl odm (qs++[⟨some ⟨H.length,0,none⟩,1,x,y⟩]) ks os∧H.length≤H2.length:=by
 have u1:Up H (H++[(⟨.cells [.int .i64 (x:Nat),.int .i64 (y:Nat)],true,true,some H.length⟩:Blk)]):=(Up.refl H).app
 have h1:=h.more u1 (Fam.app1 h.fam (Nat.le_refl _))
 have hlen:(H++[(⟨.cells [.int .i64 (x:Nat),.int .i64 (y:Nat)],true,true,some H.length⟩:Blk)]).length=H.length+1:=by simp
 have hn:H0.length≤(H++[(⟨.cells [.int .i64 (x:Nat),.int .i64 (y:Nat)],true,true,some H.length⟩:Blk)]).length:=h1.up.len
 obtain ⟨H2,q1,q2,q3,q4⟩:=h1.sp.appF h1.fam (by decide) (by decide) hl hn [.slice (some ⟨H.length,0,none⟩) 2 1] rfl
 have b1:=h1.st.below
 have b2:=h1.od.below
 have e1:=ne_new h1.st
 have e2:=ne_new h1.od
 rw [hlen] at q1 q2 e1 e2
 refine ⟨H2,q1,⟨q3.up h1.sp h1.up (Nat.le_refl _),q4,by rw [cells_app]; exact q2,h1.st.none_or (fun e=>by rw [e]; exact h.d1 e.symm) q3,h1.od.none_or (fun e=>by rw [e]; exact h.d2 e.symm) q3,e1,e2,h.d3,fun e=>by simp at e,fun q hq=>?_,fun k hk=>⟨(h1.kb k hk).1.grow q3.grow,(h.kb k hk).2⟩⟩,by have:=q3.len; omega⟩
 rcases List.mem_append.1 hq with hq | hq
 ·exact (h1.qb q hq).grow q3.grow
 ·rw [List.mem_singleton.1 hq]
  exact ⟨rfl,.inr ⟨_,0,rfl⟩,fun j v hv=>⟨H.length,0,cells encI [(x:Int),(y:Int)],rfl,q3.grow.hc (by simp [hcells,cells,encI]),by rw [Nat.zero_add]; exact cells_get encI_len hv⟩⟩
theorem LS.stroke {H0 H:Heap}{spa sta oda:Option Addr}{spl spm stl stm odl odm:Nat}{qs:List SpR}{ks:List Sk}{os:List Int}(h:LS H0 H spa spl spm sta stl stm oda odl odm qs ks os)(hl:stl < 1000000)(k:Sk)(hk:Ints H k.a k.l k.s.needs)(hk2:k.l < 1000) :
  ∃H2,(∀{α:Type} (call:CallT) (F:Ex→St→Option α) d kk T S D lo n rnd,ap1 call F (some (eK k)) (.slice sta stl stm) 5 d kk ⟨T,S,D,H,lo,n,rnd⟩=nxt call F (some (.slice (some ⟨H.length,0,none⟩) (stl+1) 5)) d kk ⟨T,S,D,H2,lo,n,rnd⟩) ∧
   LS H0 H2 spa spl spm (some ⟨H.length,0,none⟩) (stl+1) 5 oda odl odm qs (ks++[k]) os∧H.length≤H2.length:=by
 obtain ⟨H2,q1,q2,q3,q4⟩:=h.st.appF h.fam (by decide) (by decide) hl h.up.len (eK k) rfl
 refine ⟨H2,q1,⟨q3.up h.st h.up (Nat.le_refl _),q4,h.sp.none_or h.d1 q3,by rw [cells_app]; exact q2,h.od.none_or (fun e=>by rw [e]; exact h.d3 e.symm) q3,ne_new' h.sp,h.d2,ne_new h.od,h.nn,fun q hq=>(h.qb q hq).grow q3.grow,fun x hx=>?_⟩,by have:=q3.len; omega⟩
 rcases List.mem_append.1 hx with hx | hx
 ·exact ⟨(h.kb x hx).1.grow q3.grow,(h.kb x hx).2⟩
 ·rw [List.mem_singleton.1 hx]; exact ⟨hk.grow q3.grow,hk2⟩
theorem LS.order {H0 H:Heap}{spa sta oda:Option Addr}{spl spm stl stm odl odm:Nat}{qs:List SpR}{ks:List Sk}{os:List Int}(h:LS H0 H spa spl spm sta stl stm oda odl odm qs ks os)(hl:odl < 1000000)(x:Int) :
  ∃H2,(∀{α:Type} (call:CallT) (F:Ex→St→Option α) d kk T S D lo n rnd,ap1 call F (some [.int .i64 x]) (.slice oda odl odm) 1 d kk ⟨T,S,D,H,lo,n,rnd⟩=nxt call F (some (.slice (some ⟨H.length,0,none⟩) (odl+1) 1)) d kk ⟨T,S,D,H2,lo,n,rnd⟩) ∧
   LS H0 H2 spa spl spm sta stl stm (some ⟨H.length,0,none⟩) (odl+1) 1 qs ks (os++[x])∧H.length≤H2.length:=by
 obtain ⟨H2,q1,q2,q3,q4⟩:=h.od.appF h.fam (by decide) (by decide) hl h.up.len [.int .i64 x] rfl
 exact ⟨H2,q1,⟨q3.up h.od h.up (Nat.le_refl _),q4,h.sp.none_or h.d2 q3,h.st.none_or h.d3 q3,by rw [cells_app]; exact q2,h.d1,ne_new' h.sp,ne_new' h.st,h.nn,fun q hq=>(h.qb q hq).grow q3.grow,fun k hk=>⟨(h.kb k hk).1.grow q3.grow,(h.kb k hk).2⟩⟩,by have:=q3.len; omega⟩
theorem least_c {c:List (List Nat)}(g:UP.Good c)(h1:1≤c.length)(h4:c.length≤4):∃k,k≤c.length - 1∧leastN (bC 3 c) (owners c)=some k:=by
 unfold leastN
 refine find_le (m:=c.length - 1) (by omega) (decide_eq_true ?_)
 have e:mtW (bC 3 c) ((c.length - 1:Nat):Int)=minT (tk (bC ((c.length - 1:Nat):Int) c)) (plans (bC ((c.length - 1:Nat):Int) c)):=rfl
 rw [e,minT_c g (by omega)]
 exact Int.le_refl _
theorem best_c {c:List (List Nat)}(g:UP.Good c)(h4:c.length≤4){q:List Int}(h:(bests (bC 3 c))[0]?=some q):tk (bC 3 c) q=(owners c:Int):=by
 have h1:tk (bC ((3:Nat):Int) c) q=minT (tk (bC ((3:Nat):Int) c)) (plans (bC ((3:Nat):Int) c)):=bestOf_all (tk (bC 3 c)) (List.mem_of_getElem? h)
 rw [minT_c g (by omega)] at h1
 exact h1
theorem lst_c {c:List (List Nat)}(g:UP.Good c){k:Nat}(h4:c.length≤4)(h:leastN (bC 3 c) (owners c)=some k):lst17 (bC 3 c) (owners c)=.tuple #[.int .i64 (k:Nat),.int .i64 0]:=by
 have h1:=g.on
 unfold lst17
 rw [if_pos,h]
 rw [g.bench,Bool.true_and]
 simp only [inL,Bool.and_eq_true,decide_eq_true_eq]
 omega
end Go.Pi.L.Ch
