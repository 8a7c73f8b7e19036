/- Benches: hours that are changed; hours to spare, as the document has them. -/
import Derived.Test.YtfndfpbdgjoilaaGreatDoorDL
import Derived.Test.YtfndfpbdgjoilaaGreatDoorDI
import Derived.Test.YtfndfpbdgjoilaaGreatDoorDJ
set_option linter.all false
set_option maxRecDepth 100000
namespace Go.Pi.L.Ben
open Go Go.Pi Go.Pi.L Go.Pi.E Go.Pi.Ben BM

end Go.Pi.L.Ben
set_option maxRecDepth 100000
namespace Go.Pi.L.Ben
open Go Go.Pi Go.Pi.L Go.Pi.E Go.Pi.Ben BM

end Go.Pi.L.Ben
set_option maxRecDepth 100000
namespace Go.Pi.L.Ben
open Go Go.Pi Go.Pi.L Go.Pi.E Go.Pi.Ben BM

def fol (b:Bench)(p:List Int)(k n:Nat):Bool:=decide (k < n)&&follows b p k n
end Go.Pi.L.Ben
set_option maxRecDepth 100000
namespace Go.Pi.L
open Go Go.Pi
section
variable {α:Type} {call:CallT} {F:Ex→St→Option α} {k:List It}
end
end Go.Pi.L
namespace Go.Pi.L.Ben
open Go Go.Pi Go.Pi.L Go.Pi.E Go.Pi.Ben BM

end Go.Pi.L.Ben
set_option maxRecDepth 100000
namespace Go.Pi.L.Ben
open Go Go.Pi Go.Pi.L Go.Pi.E Go.Pi.Ben BM

theorem find_idx {α:Type}{pr:α→Bool}:∀{L:List α} {t:α},L.find? pr=some t→∃k:Nat,L[k]?=some t∧pr t=true∧∀j:Nat,j < k→∀x,L[j]?=some x→pr x=false
 | [],t,h=>by simp at h
 | y :: L,t,h=>by
  rw [List.find?_cons] at h
  cases hy:pr y with
  | true=>rw [hy] at h; cases h; exact ⟨0,rfl,hy,fun j hj=>by omega⟩
  | false =>
   rw [hy] at h
   obtain ⟨k,h1,h2,h3⟩:=find_idx h
   refine ⟨k+1,h1,h2,fun j hj x hx=>?_⟩
   cases j with
   | zero=>simp at hx; subst hx; exact hy
   | succ j=>exact h3 j (by omega) x (by simpa using hx)
end Go.Pi.L.Ben
set_option maxRecDepth 100000
namespace Go.Pi.L.Ben
open Go Go.Pi Go.Pi.L Go.Pi.E Go.Pi.Ben BM

abbrev witB (b:Bench)(n:Int):Bench:=⟨n,b.boards,b.strokes⟩
abbrev witR (r:BeR)(n:Int):BeR:=⟨n,r.ba,r.bl,r.bk,r.sa,r.sl,r.sk,r.xs⟩
theorem wit_ok {H:Heap}{r:BeR}{b:Bench}(hb:BeOk H r b)(n:Int):BeOk H (witR r n) (witB b n):=⟨rfl,hb.br,hb.st,hb.nd,hb.eq⟩
theorem wit_sm {r:BeR}(hd:SmB r)(n:Int):SmB (witR r n):=⟨hd.b,hd.s,hd.n⟩
theorem wit_bench {b:Bench}(hB:isBench b=true){n:Int}(h0:0≤n)(h3:n≤3):isBench (witB b n)=true:=by
 simp only [isBench,Bool.and_eq_true] at hB ⊢
 exact ⟨by rw [inL_iff]; exact ⟨h0,h3⟩,hB.2⟩
def mtW (b:Bench)(n:Int):Int:=minT (tk (witB b n)) (plans (witB b n))
theorem mt_of {b:Bench}{n:Int}{q:List Int}(h:(bests (witB b n))[0]?=some q):tk (witB b n) q=mtW b n:=bestOf_all (tk (witB b n)) (List.mem_of_getElem? h)
theorem c59 {H:Heap}{r:BeR}{b:Bench}(hb:BeOk H r b)(hd:SmB r) :
  ∀H',Grow H H'→Fam H'→R (.func 59) [.agg #[.int .i64 r.app,.slice r.ba r.bl r.bk,.slice r.sa r.sl r.sk]] H'=some ⟨.ok (if isBench b=true then (if b.app=3 then .tuple #[.int .i64 0,.int .i64 3] else .tuple #[.int .i64 (mtW b (b.app+1)),.int .i64 0]) else .tuple #[.int .i64 0,.int .i64 2]),H',H'.length⟩:=by
 intro H' hg hF
 refine run_k (pr 59) P59 (by simp [p59]) rfl ?_
 have k74:=c74 hb hd H' hg
 have l1:=hb.br.isLoc r.bk
 have l2:=hb.st.isLoc r.sk
 have happ:=hb.app
 cases hB:isBench b with
 | false =>
  rw [hB] at k74
  simp (maxDischargeDepth:=8) only [↓SD,SU,SV,SW,simprocAttr,Int.cast_ofNat_Int,small,resV, B59,R59,N59,b59, l1,l2,k74,R59,N59]
 | true =>
 rw [hB] at k74
 have hf:=fine_of hB
 have a0:=hf.a0
 have a3:=hf.a3
 simp only [if_true]
 by_cases h3:b.app=3
 ·have h3':(r.app=3)=True:=by rw [happ]; exact eq_true h3
  rw [if_pos h3]
  simp (maxDischargeDepth:=8) only [↓SD,SU,SV,SW,simprocAttr,Int.cast_ofNat_Int,small,resV, B59,R59,N59,b59, l1,l2,k74,h3',R59,N59]
 ·have h3':(r.app=3)=False:=by rw [happ]; exact eq_false h3
  rw [if_neg h3]
  have k101:=c101 hb (b.app+1) H'
  have hw:IntKind.wrap .i64 (r.app+1)=b.app+1:=by rw [happ,wrap_id _ (by omega) (by omega)]
  have hBW:=wit_bench hB (n:=b.app+1) (by omega) (by omega)
  obtain ⟨o,ho,bb,off,m,H1,lo,xs,rfl,u1,hlo,s1,hx1,hx2,hx3,hx4⟩:=c92 (wit_ok hb (b.app+1)) (fine_of hBW) H' hg hF
  obtain ⟨b',o',x,e1,hx,hat⟩:=s1.at eT_len (by decide) hx2
  cases e1
  obtain ⟨cb,x1,x2,x3,x4,x5,x6⟩:=hx4 x (List.mem_of_getElem? hx)
  have f1:rdO (hcells H1 bb) (off+0*2+1) none=some (.int .i64 x.t):=At.v1 hat H1 (Grow.refl _)
  have ia0:vv (.ia 2) [.slice (some ⟨bb,off,none⟩) xs.length m,.int .i64 0]=some (.pointer (some ⟨bb,off+0*2,none⟩)):=vv_iaN 2 bb off 0 _ _ _ hx2
  rw [Nat.zero_mul,Nat.add_zero] at f1 ia0
  have hq:(bests (witB b (b.app+1)))[0]?=some x.p:=by rw [←hx1,List.getElem?_map,hx]; rfl
  have hlo':H'.length≤lo:=hlo
  have ul:=u1.len
  have l3:=s1.isLoc m
  rw [←mt_of hq,←x6]
  simp (maxDischargeDepth:=8) only [↓SD,SU,SV,SW,simprocAttr,Int.cast_ofNat_Int,small,resV, B59,R59,N59,b59, l1,l2,l3,k74,h3',hw,k101,ho,ia0,f1,R59,N59]
  rw [gc_ite (by omega)]; simp [flat]
def leastN (b:Bench)(now:Int):Option Nat:=(List.range 4).find? fun n=>decide (mtW b (n:Nat)≤now)
theorem c53w {H:Heap}{r:BeR}{b:Bench}(hb:BeOk H r b)(hd:SmB r)(hB:isBench b=true) :
  ∀H',Grow H H'→Fam H'→∃a m H1 lo vb vo,∃v:Option Addr×Nat×Nat,R (.func 52) [.agg #[.int .i64 r.app,.slice r.ba r.bl r.bk,.slice r.sa r.sl r.sk]] H'=some ⟨.ok (.slice a (bests b).length m),H1,lo⟩∧Up H' H1∧H'.length≤lo∧isLoc (.slice a (bests b).length m)=false∧vv (.ia 1) [.slice a (bests b).length m,.int .i64 0]=some (.pointer (some ⟨vb,vo,none⟩))∧rdO (hcells H1 vb) vo none=some (.slice v.1 v.2.1 v.2.2)∧isLoc (.slice v.1 v.2.1 v.2.2)=false∧R (.func 53) [.agg #[.int .i64 r.app,.slice r.ba r.bl r.bk,.slice r.sa r.sl r.sk],.slice v.1 v.2.1 v.2.2] H1=some ⟨.ok (.int .i64 (minT (tk b) (plans b))),H1,H1.length⟩:=by
 intro H' hg hF
 have hf:=fine_of hB
 obtain ⟨o,ho2,a2,m2,H2,lo2,vs,rfl,u2,hlo2,s2,v2⟩:=c52 hb hd hf H' hg hF
 have hF2:Fam H2:=famR ho2 hF
 obtain ⟨q,hq⟩:∃q,(bests b)[0]?=some q:=⟨_,List.getElem?_eq_getElem (by
  cases hh:bests b with
  | nil=>exact absurd hh (bests_ne b)
  | cons=>simp)⟩
 have hpos:0 < (bests b).length:=(List.getElem?_eq_some_iff.1 hq).1
 obtain ⟨vb,vo,v,hva,hvk,fv⟩:=s2.at encV_len (by decide) hpos
 have hqv:=v2.inn 0 v q hvk hq
 have fv0:rdO (hcells H2 vb) (vo+0*1) none=some (.slice v.1 v.2.1 v.2.2):=At.v0 fv H2 (Grow.refl _)
 have ia0:vv (.ia 1) [.slice a2 (bests b).length m2,.int .i64 0]=some (.pointer (some ⟨vb,vo+0*1,none⟩)):=by rw [hva]; exact vv_iaN 1 vb vo 0 _ _ _ hpos
 rw [Nat.zero_mul,Nat.add_zero] at fv0 ia0
 have hqm:q∈plans b:=(List.mem_filter.1 (List.mem_of_getElem? hq)).1
 have hql:=plan_pos hf hqm
 have k53:=c53 (kk:=v.2.2) (hb.grow (hg.trans u2.grow)) hd hqv hf hql H2 (Grow.refl _) hF2
 rw [show takesN b (en b q true)=tk b q from tk_eq b q,bestOf_all (tk b) (List.mem_of_getElem? hq)] at k53
 exact ⟨a2,m2,H2,lo2,vb,vo,v,ho2,u2,hlo2,s2.isLoc m2,ia0,fv0,hqv.isLoc v.2.2,k53⟩
end Go.Pi.L.Ben
set_option maxRecDepth 100000
namespace Go.Pi.L.Ben
open Go Go.Pi Go.Pi.L Go.Pi.E Go.Pi.Ben BM

def lstV:Option Nat→Value
 | some n=>.tuple #[.int .i64 (n:Nat),.bool true]
 | none=>.tuple #[.int .i64 0,.bool false]
set_option maxHeartbeats 1000000 in
theorem c62 {H:Heap}{r:BeR}{b:Bench}(hb:BeOk H r b)(hd:SmB r)(hB:isBench b=true)(now:Int) :
  ∀H',Grow H H'→Fam H'→R (.func 62) [.agg #[.int .i64 r.app,.slice r.ba r.bl r.bk,.slice r.sa r.sl r.sk],.int .i64 now] H'=some ⟨.ok (lstV (leastN b now)),H',H'.length⟩:=by
 intro H' hg hF
 have l1:=hb.br.isLoc r.bk
 have l2:=hb.st.isLoc r.sk
 have one:=fun (j:Nat) (hj:j < 4) (H3:Heap) (g:Grow H' H3) (hF3:Fam H3)=>c53w (wit_ok hb (j:Int)) (wit_sm hd (j:Int)) (wit_bench hB (n:=(j:Int)) (by omega) (by omega)) H3 (hg.trans g) hF3
 cases hL:leastN b now with
 | some k =>
  obtain ⟨k',hk1,hk2,hk3⟩:=find_idx hL
  have hk4:=(List.getElem?_eq_some_iff.1 hk1).1
  rw [List.length_range] at hk4
  rw [List.getElem?_range hk4] at hk1
  cases hk1
  refine run_k (pr 62) P62 (by simp [p62]) rfl ?_
  simp (maxDischargeDepth:=8) only [↓SD,SU,SV,SW,simprocAttr,Int.cast_ofNat_Int,small,resV, B62,R62,N62,b62, l1,l2]
  refine loop_ind (G:=(·=_)) (fun j σ=>∃T S H3 lim,σ=⟨T,S,[],H3,lim,24,false⟩∧get T 1=.int .i64 now∧get T 2=.pointer (some ⟨2,0,some 1⟩)∧get T 6=.int .i64 (j:Nat)∧sget S 2=(1,.cells [.int .i64 r.app,.slice r.ba r.bl r.bk,.slice r.sa r.sl r.sk])∧(Up H' H3∧Fam H3∧H'.length≤lim)) (k) ?_ ?_ 0 _ (Nat.zero_le _) ⟨_,_,_,_,rfl,rfl,rfl,rfl,rfl,⟨Up.refl _,hF,by omega⟩⟩
  ·rintro c' j s hj ⟨T,S,H3,lim,rfl,t1,t2,t6,s0,hp⟩ ih
   obtain ⟨u3,hF3,hlim⟩:=hp
   have z1:(((j:Nat):Int)≤3)=True:=by simp; omega
   have k61:=c61 hb (j:Int) H3
   obtain ⟨a4,m4,H4,lo4,vb,vo,v,r1,r2,r3,r4,r5,r6,r7,r8⟩:=one j (by omega) H3 u3.grow hF3
   have hF4:Fam H4:=famR r1 hF3
   have hm:=hk3 j hj j (List.getElem?_range (by omega))
   have z2:(minT (tk (witB b (j:Int))) (plans (witB b (j:Int)))≤now)=False:=by have:=of_decide_eq_false hm; unfold mtW at this; exact eq_false this
   have hw:=wrap_succ j (by omega)
   have h3:=u3.len
   have h4:=r2.len
   simp (maxDischargeDepth:=8) only [↓SD,SU,SV,SW,simprocAttr,Int.cast_ofNat_Int,small,resV, q62x0,t1,t2,t6,s0, s0,z1,l1,l2,k61,r1,r3,r4,r5,r6,r7,r8,z2,hw,sget_sset]
   exact ih _ ⟨_,_,(H4),(_),rfl,(by simp [get_set,t1] <;> omega),(by simp [get_set,t2] <;> omega),(by simp [get_set,t6] <;> omega),by simp [sget_sset,s0],⟨u3.trans r2,hF4,by omega⟩⟩
  ·rintro c' s ⟨T,S,H3,lim,rfl,t1,t2,t6,s0,hp⟩
   obtain ⟨u3,hF3,hlim⟩:=hp
   have z1:(((k:Nat):Int)≤3)=True:=by simp; omega
   have k61:=c61 hb (k:Int) H3
   obtain ⟨a4,m4,H4,lo4,vb,vo,v,r1,r2,r3,r4,r5,r6,r7,r8⟩:=one k (by omega) H3 u3.grow hF3
   have z2:(minT (tk (witB b (k:Int))) (plans (witB b (k:Int)))≤now)=True:=by have:=of_decide_eq_true hk2; unfold mtW at this; exact eq_true this
   have h3:=u3.len
   have h4:=r2.len
   simp (maxDischargeDepth:=8) only [↓SD,SU,SV,SW,simprocAttr,Int.cast_ofNat_Int,small,resV, q62x0,t1,t2,t6,s0, s0,z1,l1,l2,k61,r1,r3,r4,r5,r6,r7,r8,z2,sget_sset,R62,N62]
   rw [gc_ite (by omega)]; simp [flat,lstV]
 | none =>
  have hno:∀j:Nat,j < 4→¬mtW b (j:Int)≤now:=fun j hj h=>by
   have:=List.find?_eq_none.1 hL j (List.mem_range.2 hj)
   exact this (by simpa using h)
  refine run_k (pr 62) P62 (by simp [p62]) rfl ?_
  simp (maxDischargeDepth:=8) only [↓SD,SU,SV,SW,simprocAttr,Int.cast_ofNat_Int,small,resV, B62,R62,N62,b62, l1,l2]
  refine loop_ind (G:=(·=_)) (fun j σ=>∃T S H3 lim,σ=⟨T,S,[],H3,lim,24,false⟩∧get T 1=.int .i64 now∧get T 2=.pointer (some ⟨2,0,some 1⟩)∧get T 6=.int .i64 (j:Nat)∧sget S 2=(1,.cells [.int .i64 r.app,.slice r.ba r.bl r.bk,.slice r.sa r.sl r.sk])∧(Up H' H3∧Fam H3∧H'.length≤lim)) (4) ?_ ?_ 0 _ (Nat.zero_le _) ⟨_,_,_,_,rfl,rfl,rfl,rfl,rfl,⟨Up.refl _,hF,by omega⟩⟩
  ·rintro c' j s hj ⟨T,S,H3,lim,rfl,t1,t2,t6,s0,hp⟩ ih
   obtain ⟨u3,hF3,hlim⟩:=hp
   have z1:(((j:Nat):Int)≤3)=True:=by simp; omega
   have k61:=c61 hb (j:Int) H3
   obtain ⟨a4,m4,H4,lo4,vb,vo,v,r1,r2,r3,r4,r5,r6,r7,r8⟩:=one j (by omega) H3 u3.grow hF3
   have hF4:Fam H4:=famR r1 hF3
   have z2:(minT (tk (witB b (j:Int))) (plans (witB b (j:Int)))≤now)=False:=by have:=hno j hj; unfold mtW at this; exact eq_false this
   have hw:=wrap_succ j (by omega)
   have h3:=u3.len
   have h4:=r2.len
   simp (maxDischargeDepth:=8) only [↓SD,SU,SV,SW,simprocAttr,Int.cast_ofNat_Int,small,resV, q62x0,t1,t2,t6,s0, s0,z1,l1,l2,k61,r1,r3,r4,r5,r6,r7,r8,z2,hw,sget_sset]
   exact ih _ ⟨_,_,(H4),(_),rfl,(by simp [get_set,t1] <;> omega),(by simp [get_set,t2] <;> omega),(by simp [get_set,t6] <;> omega),by simp [sget_sset,s0],⟨u3.trans r2,hF4,by omega⟩⟩
  ·rintro c' s ⟨T,S,H3,lim,rfl,t1,t2,t6,s0,hp⟩
   obtain ⟨u3,hF3,hlim⟩:=hp
   have z1:(((4:Nat):Int)≤3)=False:=by simp
   simp (maxDischargeDepth:=8) only [↓SD,SU,SV,SW,simprocAttr,Int.cast_ofNat_Int,small,resV, q62x0,t1,t2,t6,s0, s0,z1,l1,l2,R62,N62]
   rw [gc_ite (by omega)]; simp [flat,lstV]
end Go.Pi.L.Ben
set_option maxRecDepth 100000
namespace Go.Pi.L.Ben
open Go Go.Pi Go.Pi.L Go.Pi.E Go.Pi.Ben BM

def lst60 (b:Bench)(now:Int):Value :=
 if (isBench b&&inL now 0 60)=true then (match leastN b now with | some n=>.tuple #[.int .i64 (n:Nat),.int .i64 0] | none=>.tuple #[.int .i64 0,.int .i64 5]) else .tuple #[.int .i64 0,.int .i64 2]
def Least60:Prop:=∀{H:Heap} {r:BeR} {b:Bench},BeOk H r b→SmB r→∀now:Int,∀H',Grow H H'→Fam H'→R (.func 60) [.agg #[.int .i64 r.app,.slice r.ba r.bl r.bk,.slice r.sa r.sl r.sk],.int .i64 now] H'=some ⟨.ok (lst60 b now),H',H'.length⟩
set_option maxHeartbeats 1000000 in
theorem c13 (K60:Least60){H:Heap}{r:BeR}{b:Bench}{now:Int}(hb:BeOk H r b)(hF:Fam H):R (.func 13) [.agg #[.int .i64 r.app,.slice r.ba r.bl r.bk,.slice r.sa r.sl r.sk],.int .i64 now] H=some ⟨.ok (.bool true),H,H.length⟩:=by
 refine run_k (pr 13) P13 (by simp [p13]) rfl ?_
 have l1:=hb.br.isLoc r.bk
 have l2:=hb.st.isLoc r.sk
 have k31:=c31 hb H (Grow.refl _)
 cases q1:shortB r.xs r with
 | false=>rw [q1] at k31; simp (maxDischargeDepth:=8) only [↓SD,SU,SV,SW,simprocAttr,Int.cast_ofNat_Int,small,resV, B13,R13,N13,b13, l1,l2,k31,c25,R13,N13]
 | true =>
 rw [q1] at k31
 have hd:=short_sm hb q1
 have k59:=c59 hb hd H (Grow.refl _) hF
 have k60:=K60 hb hd now H (Grow.refl _) hF
 have k34:=c34 hb hd H (Grow.refl _)
 have happ:=hb.app
 unfold lst60 at k60
 cases hB:isBench b with
 | false =>
  rw [hB] at k59 k60 k34
  simp only [Bool.false_eq_true,if_false,Bool.false_and] at k59 k60
  simp (maxDischargeDepth:=8) only [↓SD,SU,SV,SW,simprocAttr,Int.cast_ofNat_Int,small,resV, B13,R13,N13,b13, l1,l2,k31,k59,k60,k34,c25,R13,N13]
 | true =>
 rw [hB] at k59 k60 k34
 simp only [if_true,Bool.true_and] at k59 k60
 have hf:=fine_of hB
 have a0:=hf.a0
 have a3:=hf.a3
 have e1:(r.app≥3)=(b.app=3):=propext (by omega)
 have e2:(3≤r.app)=(b.app=3):=propext (by omega)
 have fin:∀H2,Up H H2→Fam H2→∃v w:Int,∃o:Option Nat,R (.func 60) [.agg #[.int .i64 r.app,.slice r.ba r.bl r.bk,.slice r.sa r.sl r.sk],.int .i64 now] H=some ⟨.ok (.tuple #[.int .i64 v,.int .i64 w]),H,H.length⟩∧R (.func 62) [.agg #[.int .i64 r.app,.slice r.ba r.bl r.bk,.slice r.sa r.sl r.sk],.int .i64 now] H2=some ⟨.ok (lstV o),H2,H2.length⟩∧((now < 0∨60 < now)→v=0∧w=2)∧(¬(now < 0∨60 < now)→match o with | some n=>v=n∧w=0 | none=>v=0∧w=5):=fun H2 u2 hF2=>by
  have k62:=c62 hb hd hB now H2 u2.grow hF2
  cases hi:inL now 0 60 with
  | false =>
   rw [hi] at k60
   exact ⟨0,2,_,k60,k62,fun _=>⟨rfl,rfl⟩,fun h=>by
    have:¬inL now 0 60=true:=by rw [hi]; decide
    rw [inL_iff] at this; omega⟩
  | true =>
   rw [hi] at k60
   rw [inL_iff] at hi
   cases hL:leastN b now with
   | some n =>
    rw [hL] at k60 k62
    exact ⟨n,0,some n,k60,k62,fun h=>by omega,fun _=>⟨rfl,rfl⟩⟩
   | none =>
    rw [hL] at k60 k62
    exact ⟨0,5,none,k60,k62,fun h=>by omega,fun _=>⟨rfl,rfl⟩⟩
 by_cases h3:b.app=3
 ·rw [if_pos h3] at k59
  have e2':(3≤r.app)=True:=e2.trans (eq_true h3)
  obtain ⟨v,w,o,r60,r62,f1,f2⟩:=fin H (Up.refl _) hF
  by_cases q2:now < 0
  ·obtain ⟨rfl,rfl⟩:=f1 (.inl q2)
   simp (maxDischargeDepth:=8) only [↓SD,SU,SV,SW,simprocAttr,Int.cast_ofNat_Int,small,resV, B13,R13,N13,b13, l1,l2,k31,k59,r60,k34,e2',q2,c25,R13,N13]
  by_cases q3:(60:Int) < now
  ·obtain ⟨rfl,rfl⟩:=f1 (.inr q3)
   simp (maxDischargeDepth:=8) only [↓SD,SU,SV,SW,simprocAttr,Int.cast_ofNat_Int,small,resV, B13,R13,N13,b13, l1,l2,k31,k59,r60,k34,e2',q2,q3,c25,R13,N13]
  have f2:=f2 (by omega)
  cases o with
  | none =>
   obtain ⟨rfl,rfl⟩:=f2
   simp (maxDischargeDepth:=8) only [↓SD,SU,SV,SW,simprocAttr,Int.cast_ofNat_Int,small,resV, B13,R13,N13,b13, l1,l2,k31,k59,r60,k34,e2',q2,q3,r62,lstV,c25,R13,N13]
  | some n =>
   obtain ⟨rfl,rfl⟩:=f2
   simp (maxDischargeDepth:=8) only [↓SD,SU,SV,SW,simprocAttr,Int.cast_ofNat_Int,small,resV, B13,R13,N13,b13, l1,l2,k31,k59,r60,k34,e2',q2,q3,r62,lstV,c25,R13,N13]
 ·rw [if_neg h3] at k59
  have e2':(3≤r.app)=False:=e2.trans (eq_false h3)
  have hw:IntKind.wrap .i64 (r.app+1)=b.app+1:=by rw [happ,wrap_id _ (by omega) (by omega)]
  have k61:=c61 hb (b.app+1) H
  obtain ⟨a4,m4,H4,lo4,vb,vo,v',r1,r2,r3,r4,r5,r6,r7,r8⟩:=c53w (wit_ok hb (b.app+1)) (wit_sm hd (b.app+1)) (wit_bench hB (n:=b.app+1) (by omega) (by omega)) H (Grow.refl _) hF
  have hF4:Fam H4:=famR r1 hF
  rw [show minT (tk (witB b (b.app+1))) (plans (witB b (b.app+1)))=mtW b (b.app+1) from rfl] at r8
  obtain ⟨v,w,o,r60,r62,f1,f2⟩:=fin H4 r2 hF4
  have h4:=r2.len
  by_cases q2:now < 0
  ·obtain ⟨rfl,rfl⟩:=f1 (.inl q2)
   simp (maxDischargeDepth:=8) only [↓SD,SU,SV,SW,simprocAttr,Int.cast_ofNat_Int,small,resV, B13,R13,N13,b13, l1,l2,k31,k59,r60,k34,e2',hw,k61,r1,r3,r4,r5,r6,r7,r8,q2,c25,R13,N13]
   rw [gc_ite (by omega)]; simp [flat]
  by_cases q3:(60:Int) < now
  ·obtain ⟨rfl,rfl⟩:=f1 (.inr q3)
   simp (maxDischargeDepth:=8) only [↓SD,SU,SV,SW,simprocAttr,Int.cast_ofNat_Int,small,resV, B13,R13,N13,b13, l1,l2,k31,k59,r60,k34,e2',hw,k61,r1,r3,r4,r5,r6,r7,r8,q2,q3,c25,R13,N13]
   rw [gc_ite (by omega)]; simp [flat]
  have f2:=f2 (by omega)
  cases o with
  | none =>
   obtain ⟨rfl,rfl⟩:=f2
   simp (maxDischargeDepth:=8) only [↓SD,SU,SV,SW,simprocAttr,Int.cast_ofNat_Int,small,resV, B13,R13,N13,b13, l1,l2,k31,k59,r60,k34,e2',hw,k61,r1,r3,r4,r5,r6,r7,r8,q2,q3,r62,lstV,c25,R13,N13]
   rw [gc_ite (by omega)]; simp [flat]
  | some n =>
   obtain ⟨rfl,rfl⟩:=f2
   simp (maxDischargeDepth:=8) only [↓SD,SU,SV,SW,simprocAttr,Int.cast_ofNat_Int,small,resV, B13,R13,N13,b13, l1,l2,k31,k59,r60,k34,e2',hw,k61,r1,r3,r4,r5,r6,r7,r8,q2,q3,r62,lstV,c25,R13,N13]
   rw [gc_ite (by omega)]; simp [flat]
end Go.Pi.L.Ben
set_option maxRecDepth 100000
namespace Go.Pi.L.Ben
open Go Go.Pi Go.Pi.L Go.Pi.E Go.Pi.Ben BM

theorem mt_mono (b:Bench){n m:Int}(h:n≤m):mtW b m≤mtW b n :=
 min_more (plans_ne _) (fun p hp=>plans_more (by show n.toNat≤m.toNat; omega) rfl (fun i r hr e=>by subst e; exact hr) hp) (fun p _=>Int.le_refl _)
theorem vv_bbn (x y:Bool):vv (.bb true) [.bool x,.bool y]=some (.bool (x != y)):=by cases x <;> cases y <;> rfl
set_option maxHeartbeats 2000000 in
theorem c14 (K60:Least60){H:Heap}{r:BeR}{b:Bench}{now nI:Int}(hb:BeOk H r b)(hF:Fam H):R (.func 14) [.agg #[.int .i64 r.app,.slice r.ba r.bl r.bk,.slice r.sa r.sl r.sk],.int .i64 now,.int .i64 nI] H=some ⟨.ok (.bool true),H,H.length⟩:=by
 refine run_k (pr 14) P14 (by simp [p14]) rfl ?_
 have l1:=hb.br.isLoc r.bk
 have l2:=hb.st.isLoc r.sk
 have k21:=c21 hb H (Grow.refl _)
 cases q1:(shortB r.xs r&&isBench b) with
 | false=>rw [q1] at k21; simp (maxDischargeDepth:=8) only [↓SD,SU,SV,SW,simprocAttr,Int.cast_ofNat_Int,small,resV, B14,R14,N14,b14, l1,l2,k21,c25,R14,N14]
 | true =>
 rw [q1] at k21
 obtain ⟨q1a,hB⟩:=Bool.and_eq_true_iff.1 q1
 have hd:=short_sm hb q1a
 by_cases q2:now < 0
 case pos=>simp (maxDischargeDepth:=8) only [↓SD,SU,SV,SW,simprocAttr,Int.cast_ofNat_Int,small,resV, B14,R14,N14,b14, l1,l2,k21,q2,c25,R14,N14]
 by_cases q3:(60:Int) < now
 case pos=>simp (maxDischargeDepth:=8) only [↓SD,SU,SV,SW,simprocAttr,Int.cast_ofNat_Int,small,resV, B14,R14,N14,b14, l1,l2,k21,q2,q3,c25,R14,N14]
 by_cases q4:nI < 0
 case pos=>simp (maxDischargeDepth:=8) only [↓SD,SU,SV,SW,simprocAttr,Int.cast_ofNat_Int,small,resV, B14,R14,N14,b14, l1,l2,k21,q2,q3,q4,c25,R14,N14]
 by_cases q5:(3:Int) < nI
 case pos=>simp (maxDischargeDepth:=8) only [↓SD,SU,SV,SW,simprocAttr,Int.cast_ofNat_Int,small,resV, B14,R14,N14,b14, l1,l2,k21,q2,q3,q4,q5,c25,R14,N14]
 have hf:=fine_of hB
 have k60:=K60 hb hd now H (Grow.refl _) hF
 have hi:inL now 0 60=true:=by rw [inL_iff]; omega
 unfold lst60 at k60
 rw [hB,hi] at k60
 simp only [Bool.and_true,if_true] at k60
 have k61:=c61 hb nI H
 obtain ⟨o,ho,bb,m,H1,lo1,q,rfl,u1,hlo1,s1,hq⟩:=c50 (wit_ok hb nI) (wit_sm hd nI) (wit_bench hB (by omega) (by omega)) H (Grow.refl _) hF
 have hF1:Fam H1:=famR ho hF
 rw [mt_of hq] at ho
 have hlo1':H.length≤lo1:=hlo1
 have h1:=u1.len
 have lq:isLoc (.slice (some ⟨bb,0,none⟩) q.length m)=false:=rfl
 have k61b:=c61 hb nI H1
 have fin:∃v w:Int,R (.func 60) [.agg #[.int .i64 r.app,.slice r.ba r.bl r.bk,.slice r.sa r.sl r.sk],.int .i64 now] H=some ⟨.ok (.tuple #[.int .i64 v,.int .i64 w]),H,H.length⟩∧0≤v∧v≤3∧((w=0∧(mtW b nI≤now↔v≤nI))∨(w=5∧¬mtW b nI≤now)):=by
  cases hL:leastN b now with
  | some k =>
   obtain ⟨k',hk1,hk2,hk3⟩:=find_idx hL
   have hk4:=(List.getElem?_eq_some_iff.1 hk1).1
   rw [List.length_range] at hk4
   rw [List.getElem?_range hk4] at hk1
   cases hk1
   rw [hL] at k60
   have a1:=of_decide_eq_true hk2
   refine ⟨k,0,k60,by omega,by omega,.inl ⟨rfl,fun h=>?_,fun h=>?_⟩⟩
   ·rcases Int.lt_or_le nI (k:Int) with hlt | hle
    ·have a2:=hk3 nI.toNat (by omega) nI.toNat (List.getElem?_range (by omega))
     have a3:=of_decide_eq_false a2
     rw [Int.toNat_of_nonneg (by omega)] at a3
     exact absurd h a3
    ·exact hle
   ·have:=mt_mono b h
    omega
  | none =>
   rw [hL] at k60
   refine ⟨0,5,k60,by omega,by omega,.inr ⟨rfl,fun h=>?_⟩⟩
   have:=List.find?_eq_none.1 hL nI.toNat (List.mem_range.2 (by omega))
   rw [Int.toNat_of_nonneg (by omega)] at this
   exact this (by simpa using h)
 obtain ⟨v,w,r60,v0,v3,hvw⟩:=fin
 have z1:(v < 0)=False:=eq_false (by omega)
 have z2:((3:Int) < v)=False:=eq_false (by omega)
 by_cases h3:nI=3
 ·have z3:((3:Int)=3)=True:=eq_true rfl
  subst h3
  rcases hvw with ⟨rfl,hv⟩ | ⟨rfl,hv⟩
  ·have z4:(v≤3)=True:=eq_true v3
   have z5:(mtW b 3≤now)=True:=eq_true (hv.2 v3)
   simp (maxDischargeDepth:=8) only [↓SD,SU,SV,SW,simprocAttr,Int.cast_ofNat_Int,small,resV, B14,R14,N14,b14, l1,l2,k21,q2,q3,r60,k61,ho,lq,z1,z2,z4,z5,vv_bbn,bne_self_eq_false,c25,R14,N14]
   rw [gc_ite (by omega)]; simp [flat]
  ·have z5:(mtW b 3≤now)=False:=eq_false hv
   simp (maxDischargeDepth:=8) only [↓SD,SU,SV,SW,simprocAttr,Int.cast_ofNat_Int,small,resV, B14,R14,N14,b14, l1,l2,k21,q2,q3,r60,k61,ho,lq,z1,z2,z5,vv_bbn,bne_self_eq_false,c25,R14,N14]
   rw [gc_ite (by omega)]; simp [flat]
 have z3:(nI=3)=False:=eq_false h3
 have k59:=c59 (wit_ok hb nI) (wit_sm hd nI) H1 u1.grow hF1
 rw [if_pos (wit_bench hB (by omega) (by omega)),if_neg (show ¬(witB b nI).app=3 from h3)] at k59
 rw [show mtW (witB b nI) ((witB b nI).app+1)=mtW b (nI+1) from rfl] at k59
 have hw:IntKind.wrap .i64 (nI+1)=nI+1:=wrap_id _ (by omega) (by omega)
 have k61c:=c61 hb (nI+1) H1
 obtain ⟨o,ho2,bb2,m2,H2,lo2,q',rfl,u2,hlo2,s2,hq2⟩:=c50 (wit_ok hb (nI+1)) (wit_sm hd (nI+1)) (wit_bench hB (by omega) (by omega)) H1 u1.grow hF1
 rw [mt_of hq2] at ho2
 have hlo2':H1.length≤lo2:=hlo2
 have h2:=u2.len
 have lq2:isLoc (.slice (some ⟨bb2,0,none⟩) q'.length m2)=false:=rfl
 have z6:(mtW b (nI+1)≤mtW b nI)=True:=eq_true (mt_mono b (by omega))
 rcases hvw with ⟨rfl,hv⟩ | ⟨rfl,hv⟩
 ·by_cases hvn:v≤nI
  ·have z5:(mtW b nI≤now)=True:=eq_true (hv.2 hvn)
   simp (maxDischargeDepth:=8) only [↓SD,SU,SV,SW,simprocAttr,Int.cast_ofNat_Int,small,resV, B14,R14,N14,b14, l1,l2,k21,q2,q3,q4,q5,r60,k61,ho,lq,z1,z2,z3,hvn,z5,vv_bbn,bne_self_eq_false,k61b,k59,hw,k61c,ho2,lq2,z6,c25,R14,N14]
   rw [gc_ite (by omega)]; simp [flat]
  ·have z5:(mtW b nI≤now)=False:=eq_false (fun h=>hvn (hv.1 h))
   simp (maxDischargeDepth:=8) only [↓SD,SU,SV,SW,simprocAttr,Int.cast_ofNat_Int,small,resV, B14,R14,N14,b14, l1,l2,k21,q2,q3,q4,q5,r60,k61,ho,lq,z1,z2,z3,hvn,z5,vv_bbn,bne_self_eq_false,k61b,k59,hw,k61c,ho2,lq2,z6,c25,R14,N14]
   rw [gc_ite (by omega)]; simp [flat]
 ·have z5:(mtW b nI≤now)=False:=eq_false hv
  simp (maxDischargeDepth:=8) only [↓SD,SU,SV,SW,simprocAttr,Int.cast_ofNat_Int,small,resV, B14,R14,N14,b14, l1,l2,k21,q2,q3,q4,q5,r60,k61,ho,lq,z1,z2,z3,z5,vv_bbn,bne_self_eq_false,k61b,k59,hw,k61c,ho2,lq2,z6,c25,R14,N14]
  rw [gc_ite (by omega)]; simp [flat]
end Go.Pi.L.Ben
