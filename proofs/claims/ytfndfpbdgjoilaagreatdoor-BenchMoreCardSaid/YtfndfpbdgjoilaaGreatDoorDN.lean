/- Benches: a stroke is given to a hand. -/
import Derived.Test.YtfndfpbdgjoilaaGreatDoorDJ
import Derived.Test.YtfndfpbdgjoilaaGreatDoorDL
import Derived.Test.YtfndfpbdgjoilaaGreatDoorDM
import Derived.Test.YtfndfpbdgjoilaaGreatDoorDE
set_option linter.all false
set_option maxRecDepth 100000
namespace Go.Pi.L.Ben
open Go Go.Pi Go.Pi.L Go.Pi.E Go.Pi.Ben BM

end Go.Pi.L.Ben
set_option maxRecDepth 100000
namespace Go.Pi.L.Ben
open Go Go.Pi Go.Pi.L Go.Pi.E Go.Pi.Ben BM

structure LeS (s t:Stroke):Prop where
 board:t.board=s.board
 round:t.round=true→s.round=true
 lo1:1≤t.lo
 lo:t.lo≤s.lo
 hl:t.lo≤t.hi
 hi:t.hi≤s.hi
 sub:∀x∈t.needs,x∈s.needs
 rises:rises t.needs=true
section
variable {H:Heap} {r:BeR} {b:Bench} {st:Nat} {x y:Sk}
theorem le_strokes (hb:BeOk H r b)(hx:r.xs[st]?=some x)(n:Nat):(copB b (r.xs.set st y)).strokes[n]?=(b.strokes[n]?).map fun s=>if n=st then y.s else s:=by
 show ((r.xs.set st y).map (·.s))[n]?=_
 rw [List.getElem?_map,hb.eq,List.getElem?_map]
 by_cases e:n=st
 ·subst e
  rw [List.getElem?_set_self (List.getElem?_eq_some_iff.1 hx).1,hx]; simp
 ·rw [List.getElem?_set_ne (fun h=>e h.symm)]
  cases r.xs[n]? <;> simp [e]
theorem le_len (hb:BeOk H r b):(copB b (r.xs.set st y)).strokes.length=b.strokes.length:=by
 show ((r.xs.set st y).map (·.s)).length=_
 rw [List.length_map,List.length_set,hb.eq,List.length_map]
theorem le_each (hb:BeOk H r b)(hx:r.xs[st]?=some x)(hl:LeS x.s y.s){n:Nat}{s:Stroke}(hs:b.strokes[n]?=some s):∃t,(copB b (r.xs.set st y)).strokes[n]?=some t∧(t=s∨LeS s t):=by
 rw [le_strokes hb hx,hs,Option.map_some]
 by_cases e:n=st
 ·subst e
  refine ⟨_,rfl,.inr ?_⟩
  rw [hb.at hx] at hs
  cases hs
  rw [if_pos rfl]; exact hl
 ·exact ⟨_,rfl,.inl (by rw [if_neg e])⟩
theorem le_bench (hb:BeOk H r b)(hx:r.xs[st]?=some x)(hl:LeS x.s y.s)(hB:isBench b=true):isBench (copB b (r.xs.set st y))=true:=by
 have hn:=le_len (st:=st) (y:=y) hb
 simp only [isBench,Bool.and_eq_true] at hB ⊢
 obtain ⟨h1,h2,h3,h4,h5⟩:=hB
 refine ⟨h1,h2,by rw [hn]; exact h3,strokesOk_all fun n t ht=>?_,h5⟩
 have hlt:=(List.getElem?_eq_some_iff.1 ht).1
 obtain ⟨s,hs⟩:∃s,b.strokes[n]?=some s:=⟨_,List.getElem?_eq_getElem (by omega)⟩
 obtain ⟨t',ht',hc⟩:=le_each hb hx hl hs
 rw [ht] at ht'
 cases ht'
 have h7:=strokes_at h4 hs
 rcases hc with rfl | hc
 ·exact h7
 ·unfold strokeOk at h7 ⊢
  simp only [Bool.and_eq_true,inL_iff,List.all_eq_true] at h7 ⊢
  obtain ⟨⟨k1,k2⟩,k3,k4,k5⟩:=h7
  have c1:=hc.lo1; have c2:=hc.lo; have c3:=hc.hl; have c4:=hc.hi
  refine ⟨⟨hc.rises,fun z hz=>k2 z (hc.sub z hz)⟩,?_,by omega,by omega⟩
  show 0≤t.board∧t.board≤_
  rw [hc.board]; exact k3
theorem le_rounds (hb:BeOk H r b)(hx:r.xs[st]?=some x)(hl:LeS x.s y.s):(rounds b).length=(rounds (copB b (r.xs.set st y))).length∧∀(i:Nat) q,(rounds (copB b (r.xs.set st y)))[i]?=some q→q=true→(rounds b)[i]?=some true:=by
 refine ⟨by unfold rounds; rw [List.length_map,List.length_map,le_len hb],fun i q hq e=>?_⟩
 subst e
 unfold rounds at hq ⊢
 rw [List.getElem?_map,Option.map_eq_some_iff] at hq
 obtain ⟨t,ht,hr⟩:=hq
 have hlt:=(List.getElem?_eq_some_iff.1 ht).1
 have hn:=le_len (st:=st) (y:=y) hb
 obtain ⟨s,hs⟩:∃s,b.strokes[i]?=some s:=⟨_,List.getElem?_eq_getElem (by omega)⟩
 obtain ⟨t',ht',hc⟩:=le_each hb hx hl hs
 rw [ht] at ht'
 cases ht'
 rw [List.getElem?_map,hs,Option.map_some]
 rcases hc with rfl | hc
 ·rw [hr]
 ·rw [hc.round hr]
theorem le_plans (hb:BeOk H r b)(hx:r.xs[st]?=some x)(hl:LeS x.s y.s){p:List Int}(h:p∈plans b):p∈plans (copB b (r.xs.set st y)):=by
 obtain ⟨h1,h2⟩:=le_rounds hb hx hl
 exact plans_more (Nat.le_refl _) h1 h2 h
theorem le_plan (hb:BeOk H r b)(hx:r.xs[st]?=some x)(hl:LeS x.s y.s)(h0:0≤b.app){p:List Int}(h:isPlan b p=true):isPlan (copB b (r.xs.set st y)) p=true :=
 (isPlan_iff (b:=copB b (r.xs.set st y)) h0).2 (le_plans hb hx hl ((isPlan_iff h0).1 h))
theorem le_follows (hb:BeOk H r b)(hx:r.xs[st]?=some x)(hl:LeS x.s y.s)(p:List Int)(k n:Nat):follows (copB b (r.xs.set st y)) p k n=true→follows b p k n=true:=by
 unfold follows
 simp only [Bool.or_eq_true,decide_eq_true_eq]
 rintro (h | h)
 ·exact .inl h
 ·right
  cases ht:(copB b (r.xs.set st y)).strokes[n]? with
  | none=>rw [ht] at h; cases h
  | some t =>
   rw [ht] at h
   have hlt:=(List.getElem?_eq_some_iff.1 ht).1
   have hn:=le_len (st:=st) (y:=y) hb
   obtain ⟨s,hs⟩:∃s,b.strokes[n]?=some s:=⟨_,List.getElem?_eq_getElem (by omega)⟩
   obtain ⟨t',ht',hc⟩:=le_each hb hx hl hs
   rw [ht] at ht'
   cases ht'
   rw [hs]
   rcases hc with rfl | hc
   ·exact h
   ·simp only [List.any_eq_true,decide_eq_true_eq] at h ⊢
    obtain ⟨z,h1,h2⟩:=h
    exact ⟨z,hc.sub z h1,h2⟩
theorem le_durG (hb:BeOk H r b)(hx:r.xs[st]?=some x)(hl:LeS x.s y.s)(g:Bool)(n:Nat):durG (copB b (r.xs.set st y)) g n≤durG b g n:=by
 unfold durG low high
 cases hs:b.strokes[n]? with
 | none =>
  rw [le_strokes hb hx,hs]
  cases g <;> exact Int.le_refl _
 | some s =>
  obtain ⟨t,ht,hc⟩:=le_each hb hx hl hs
  rw [ht]
  rcases hc with rfl | hc
  ·exact Int.le_refl _
  ·have c2:=hc.lo; have c4:=hc.hi
   cases g <;> assumption
theorem le_en (hb:BeOk H r b)(hx:r.xs[st]?=some x)(hl:LeS x.s y.s)(p:List Int)(g:Bool)(n:Nat):en (copB b (r.xs.set st y)) p g n≤en b p g n:=by
 refine eN_mono (fun k m _ h=>le_follows hb hx hl p k m h) (fun n=>?_) n
 rw [durW_nil,durW_nil]
 exact le_durG hb hx hl g n
theorem le_tk (hb:BeOk H r b)(hx:r.xs[st]?=some x)(hl:LeS x.s y.s)(p:List Int):tk (copB b (r.xs.set st y)) p≤tk b p:=by
 rw [←tk_eq,←tk_eq]
 unfold takesN
 rw [le_len hb]
 exact lastH_mono (fun n=>le_en hb hx hl p true n) _
theorem le_best (hb:BeOk H r b)(hx:r.xs[st]?=some x)(hl:LeS x.s y.s)(hB:isBench b=true){q q':List Int}(hq:(bests b)[0]?=some q)(hq':(bests (copB b (r.xs.set st y)))[0]?=some q'):1≤tk (copB b (r.xs.set st y)) q'∧tk (copB b (r.xs.set st y)) q'≤tk b q:=by
 have h1:=bestOf_all (tk b) (List.mem_of_getElem? hq)
 have h2:=bestOf_all (tk (copB b (r.xs.set st y))) (List.mem_of_getElem? hq')
 have h3:=min_more (T:=tk b) (T':=tk (copB b (r.xs.set st y))) (plans_ne b) (fun p hp=>le_plans hb hx hl hp) (fun p _=>le_tk hb hx hl p)
 have h4:=tk_pos (fine_of (le_bench hb hx hl hB)) q'
 rw [show takesN (copB b (r.xs.set st y)) (en (copB b (r.xs.set st y)) q' true)=tk (copB b (r.xs.set st y)) q' from tk_eq _ _] at h4
 exact ⟨h4,by omega⟩
end
def lessS (x:Sk)(f:Int):Sk:=⟨⟨x.s.board,false,max 1 (x.s.lo - f),max 1 (x.s.hi - f),x.s.needs⟩,x.a,x.l,x.m⟩
theorem lessS_le {b:Bench}(hf:Fine b){n:Nat}{x:Sk}{f:Int}(hs:b.strokes[n]?=some x.s)(h0:0≤f)(hr:rises x.s.needs=true):LeS x.s (lessS x f).s:=by
 have h:=hf.hours n _ hs
 refine ⟨rfl,fun h=>(by cases h),?_,?_,?_,?_,fun z h=>h,hr⟩ <;> simp only [lessS] <;> omega
end Go.Pi.L.Ben
set_option maxRecDepth 100000
namespace Go.Pi.L.Ben
open Go Go.Pi Go.Pi.L Go.Pi.E Go.Pi.Ben BM

theorem stroke_nat'' {b:Bench}{x:Int}(h:isStroke b x=true):∃n:Nat,x=n∧n < b.strokes.length:=by
 unfold isStroke at h
 rw [inL_iff] at h
 exact ⟨x.toNat,by omega,by omega⟩
theorem pair_rises:∀{l:List Int},l.Pairwise (· < ·)→rises l=true
 | [],_=>rfl
 | [x],_=>rfl
 | x :: y :: l,h=>by
  obtain ⟨h1,h2⟩:=List.pairwise_cons.1 h
  rw [rises,Bool.and_eq_true]
  exact ⟨by simpa using h1 y (List.mem_cons_self ..),pair_rises h2⟩
def erJ (xs:List Int)(at_:Int):Nat→List Int
 | 0=>[]
 | j+1=>erJ xs at_ j++(if (j:Int)=at_ then [] else [xs.getD j 0])
theorem erJ_sub (xs:List Int)(at_:Int):∀j,j≤xs.length→(erJ xs at_ j).Sublist (xs.take j)
 | 0,_=>by simp [erJ]
 | j+1,h=>by
  obtain ⟨x,hx⟩:∃x,xs[j]?=some x:=⟨_,List.getElem?_eq_getElem (by omega)⟩
  rw [take_get hx,erJ]
  refine (erJ_sub xs at_ j (by omega)).append ?_
  split
  ·exact List.nil_sublist _
  ·rw [getD_of hx]; exact List.Sublist.refl _
theorem _root_.Go.Pi.L.Bld.less' {n0 n1:Nat}{H:Heap}{k:Nat}{a:Option Addr}{l m:Nat}{c:List Value}(h:Bld n0 H k a l m c)(hn:n1≤n0):Bld n1 H k a l m c :=
 ⟨h.len,by
  rcases h.ok with h | ⟨b,f,h1,h2,h3,h4,h5⟩
  ·exact .inl h
  ·exact .inr ⟨b,f,h1,h2,by omega,by omega,h5⟩⟩
def freeS (x:Sk)(nd:List Int)(a:Option Addr)(l m:Nat):Sk:=⟨⟨x.s.board,x.s.round,x.s.lo,x.s.hi,nd⟩,a,l,m⟩
theorem freeS_le {b:Bench}(hf:Fine b){n:Nat}{x:Sk}{at_:Int}{a l m}(hs:b.strokes[n]?=some x.s)(hr:rises x.s.needs=true):LeS x.s (freeS x (erJ x.s.needs at_ x.s.needs.length) a l m).s:=by
 have h:=hf.hours n _ hs
 have hsub:=erJ_sub x.s.needs at_ x.s.needs.length (Nat.le_refl _)
 rw [List.take_length] at hsub
 exact ⟨rfl,fun h=>h,h.1,Int.le_refl _,h.2.1,Int.le_refl _,fun z hz=>hsub.subset hz,pair_rises ((rises_pair hr).sublist hsub)⟩
theorem st_bool {α:Type}{call:CallT}{F:Ex→St→Option α}{k:List It}{H:Heap}{xs xs':List Sk}{j:Nat}{x:Bool}{d:Option Tmp}{T S D lo nn rnd}(hF:Fam H)(hj:j < xs.length)(hsp:splice (cells eK xs) (j*5+1) [.bool x]=cells eK xs') :
  stH call F ((copH H xs)[H.length]?) 1 H.length (j*5+1) (.bool x) d k ⟨T,S,D,copH H xs,lo,nn,rnd⟩=nxt call F (some undef) d k ⟨T,S,D,copH H xs',min lo H.length,nn,rnd⟩:=by
 have:=st_new (call:=call) (F:=F) (k:=k) (H:=H) (H1:=copH H xs) (n:=1) (off:=j*5+1) (c:=cells eK xs) (v:=.bool x) (d:=d) (T:=T) (S:=S) (D:=D) (lo:=lo) (nn:=nn) (rnd:=rnd) hF rfl rfl (by rfl) rfl (by rw [cells_len eK_len]; omega)
 rw [this]
 rw [show (Value.bool x).cells.toList=[.bool x] from rfl,hsp]
 rfl
theorem set_set_same (xs:List Sk)(i:Nat)(x y:Sk):(xs.set i x).set i y=xs.set i y:=List.set_set ..
set_option maxHeartbeats 4000000 in
theorem c15 {H:Heap}{r:BeR}{b:Bench}{a:Option Addr}{l kk:Nat}{p:List Int}{stI f at_:Int}(hb:BeOk H r b)(hx:Ints H a l p)(hF:Fam H) :
  R (.func 15) [.agg #[.int .i64 r.app,.slice r.ba r.bl r.bk,.slice r.sa r.sl r.sk],.slice a l kk,.int .i64 stI,.int .i64 f,.int .i64 at_] H=some ⟨.ok (.bool true),H,H.length⟩:=by
 refine run_k (pr 15) P15 (by simp [p15]) rfl ?_
 have l1:=hb.br.isLoc r.bk
 have l2:=hb.st.isLoc r.sk
 have l3:=hx.isLoc kk
 have k21:=c21 hb H (Grow.refl _)
 have k22:=c22 (H:=H) a l kk l3
 cases q1:(shortB r.xs r&&isBench b) with
 | false=>rw [q1] at k21; simp (maxDischargeDepth:=8) only [↓SD,SU,SV,SW,simprocAttr,Int.cast_ofNat_Int,small,resV, B15,R15,N15,b15, l1,l2,l3,k21,c25,R15,N15]
 | true =>
 rw [q1] at k21
 obtain ⟨q1a,hB⟩:=Bool.and_eq_true_iff.1 q1
 have hd:=short_sm hb q1a
 by_cases q2:l≤9
 case neg=>simp (maxDischargeDepth:=8) only [↓SD,SU,SV,SW,simprocAttr,Int.cast_ofNat_Int,small,resV, B15,R15,N15,b15, l1,l2,l3,k21,k22,q2,c25,R15,N15]
 have hl:l < 1000000:=by omega
 have k23:=c23 (kk:=kk) hb hx hl H (Grow.refl _)
 cases hP:isPlan b p with
 | false=>rw [hP] at k23; simp (maxDischargeDepth:=8) only [↓SD,SU,SV,SW,simprocAttr,Int.cast_ofNat_Int,small,resV, B15,R15,N15,b15, l1,l2,l3,k21,k22,q2,k23,c25,R15,N15]
 | true =>
 rw [hP] at k23
 have k44:=c44 hb hd stI H (Grow.refl _)
 cases hS:isStroke b stI with
 | false=>rw [hS] at k44; simp (maxDischargeDepth:=8) only [↓SD,SU,SV,SW,simprocAttr,Int.cast_ofNat_Int,small,resV, B15,R15,N15,b15, l1,l2,l3,k21,k22,q2,k23,k44,c25,R15,N15]
 | true =>
 rw [hS] at k44
 by_cases q5:f < 0
 case pos=>simp (maxDischargeDepth:=8) only [↓SD,SU,SV,SW,simprocAttr,Int.cast_ofNat_Int,small,resV, B15,R15,N15,b15, l1,l2,l3,k21,k22,q2,k23,k44,q5,c25,R15,N15]
 by_cases q6:(6:Int) < f
 case pos=>simp (maxDischargeDepth:=8) only [↓SD,SU,SV,SW,simprocAttr,Int.cast_ofNat_Int,small,resV, B15,R15,N15,b15, l1,l2,l3,k21,k22,q2,k23,k44,q5,q6,c25,R15,N15]
 by_cases q7:at_ < 0
 case pos=>simp (maxDischargeDepth:=8) only [↓SD,SU,SV,SW,simprocAttr,Int.cast_ofNat_Int,small,resV, B15,R15,N15,b15, l1,l2,l3,k21,k22,q2,k23,k44,q5,q6,q7,c25,R15,N15]
 have hf:=fine_of hB
 have n6:=hf.n6
 have hsl:=hb.len
 have hlen:p.length=b.strokes.length:=by simp only [isPlan,Bool.and_eq_true,decide_eq_true_eq] at hP; exact hP.1
 have hlb:b.strokes.length=l:=by rw [←hlen]; exact hx.len
 obtain ⟨st,rfl,hst⟩:=stroke_nat'' hS
 obtain ⟨sb,so,x,hsa,hxx,fk⟩:=hb.st.k5 (j:=st) (by omega)
 have hsx:=hb.at hxx
 have hhi:=hf.hours st _ hsx
 have hN:=hb.nd x (mem_drop hxx)
 have hNl:=hN.len
 have hNs:=hd.n x (mem_drop hxx)
 have lN:=hN.isLoc x.m
 have ias:vv (.ia 5) [.slice r.sa r.sl r.sk,.int .i64 (st:Nat)]=some (.pointer (some ⟨sb,so+st*5,none⟩)):=by rw [hsa]; exact vv_iaN 5 sb so st _ _ _ (by omega)
 have fk4:=fk.v4 H (Grow.refl _)
 by_cases q8:(x.l:Int) < at_
 case pos=>simp (maxDischargeDepth:=8) only [↓SD,SU,SV,SW,simprocAttr,Int.cast_ofNat_Int,small,resV, B15,R15,N15,b15, l1,l2,l3,lN,k21,k22,q2,k23,k44,q5,q6,q7,q8,ias,fk4,c25,R15,N15]
 have hsl0:0 < r.sl:=by omega
 have hxl:r.xs.length=r.sl:=hb.st.len
 have hcl:(cells eK r.xs).length=r.sl*5:=by rw [cells_len eK_len,hxl]
 have qa:∀(HH:Heap) {α:Type} (call:CallT) (F:Ex→St→Option α) d kk T S D lo n rnd,ap1 call F (some (cells eK r.xs)) (.slice none 0 0) 5 d kk ⟨T,S,D,HH,lo,n,rnd⟩=nxt call F (some (.slice (some ⟨HH.length,0,none⟩) r.sl 5)) d kk ⟨T,S,D,copH HH r.xs,lo,n,rnd⟩:=fun HH {_} call F d kk T S D lo n rnd=>by
  rw [apA_nil _ _ _ _ _ _ _ _ _ _ (by rw [hcl]; exact Nat.mul_mod_left _ _) (by omega) (by cases hxs:cells eK r.xs with | nil=>rw [hxs] at hcl; simp at hcl; omega | cons=>rfl),hcl,Nat.mul_div_cancel _ (by decide)]
  rfl
 have u1:Up H (copH H r.xs):=(Up.refl _).app
 have qe:=fun T S D lo n rnd=>hb.st.elems eK_len (by decide) r.sk T S D lo n rnd
 have fk5:=fk.all _ u1.grow
 have w1:IntKind.wrap .i64 (x.s.lo - f)=x.s.lo - f:=wrap_id _ (by omega) (by omega)
 have w2:IntKind.wrap .i64 (x.s.hi - f)=x.s.hi - f:=wrap_id _ (by omega) (by omega)
 have ian:∀n,vv (.ia 5) [.slice (some ⟨n,0,none⟩) r.sl 5,.int .i64 (st:Nat)]=some (.pointer (some ⟨n,0+st*5,none⟩)):=fun n=>vv_iaN 5 _ 0 st _ _ _ (by omega)
 have mxe:∀y:Int,(if 1 < y then y else 1)=max 1 y:=fun y=>by split <;> omega
 obtain ⟨s1,hs1⟩:∃s1:Sk,(⟨⟨x.s.board,x.s.round,max 1 (x.s.lo - f),max 1 (x.s.hi - f),x.s.needs⟩,x.a,x.l,x.m⟩:Sk)=s1:=⟨_,rfl⟩
 have hp1:splice (cells eK r.xs) (st*5+2) [.int .i64 (max 1 (x.s.lo - f)),.int .i64 (max 1 (x.s.hi - f))]=cells eK (r.xs.set st s1):=splice_part eK_len (by simp) hxx (by rw [←hs1]; simp [eK,splice])
 have hxx1:(r.xs.set st s1)[st]?=some s1:=List.getElem?_set_self (by omega)
 have hp2:splice (cells eK (r.xs.set st s1)) (st*5+1) [.bool false]=cells eK (r.xs.set st (lessS x f)):=by
  rw [←set_set_same r.xs st s1 (lessS x f)]
  exact splice_part eK_len (by simp) hxx1 (by rw [←hs1]; simp [eK,lessS,splice])
 have qs1:=fun (F:Ex→St→Option Out) d kk T S D lo n rnd=>st_new' (call:=runL PP primsL) (F:=F) (k:=kk) (d:=d) (T:=T) (S:=S) (D:=D) (lo:=lo) (nn:=n) (rnd:=rnd) hF (by omega) hp1
 have qs2:=fun (F:Ex→St→Option Out) d kk T S D lo n rnd=>st_bool (call:=runL PP primsL) (F:=F) (k:=kk) (d:=d) (T:=T) (S:=S) (D:=D) (lo:=lo) (nn:=n) (rnd:=rnd) hF (by rw [List.length_set]; omega) hp2
 obtain ⟨H1,hH1⟩:∃H1,copH H (r.xs.set st (lessS x f))=H1:=⟨_,rfl⟩
 rw [hH1] at qs2
 have v1:Up H H1:=by rw [←hH1]; exact (Up.refl _).app
 have hl1:H1.length=H.length+1:=by rw [←hH1]; simp [copH]
 have qe2:=fun T S D lo n rnd=>(hb.st.grow v1.grow).elems eK_len (by decide) r.sk T S D lo n rnd
 obtain ⟨H2,hH2⟩:∃H2,copH H1 r.xs=H2:=⟨_,rfl⟩
 have qa2:=fun {α:Type} (call:CallT) (F:Ex→St→Option α) d kk T S D lo n rnd=>qa H1 call F d kk T S D lo n rnd
 rw [hH2] at qa2
 have qa1:=fun {α:Type} (call:CallT) (F:Ex→St→Option α) d kk T S D lo n rnd=>qa H call F d kk T S D lo n rnd
 simp (maxDischargeDepth:=8) only [↓SD,SU,SV,SW,simprocAttr,Int.cast_ofNat_Int,small,resV, B15,R15,N15,b15, l1,l2,l3,lN,k21,k22,q2,k23,k44,q5,q6,q7,q8,ias,fk4,qe,qa1,fk5,w1,w2,c29,ian,mxe,qs1,qs2,qe2,qa2,k_fixb]
 have hl2:H2.length=H1.length+1:=by rw [←hH2]; simp [copH]
 have v2:Up H1 H2:=by rw [←hH2]; exact (Up.refl _).app
 have hF1:Fam H1:=by rw [←hH1]; exact Fam.app1 hF (Nat.le_refl _)
 have hF2:Fam H2:=by rw [←hH2]; exact Fam.app1 hF1 (Nat.le_refl _)
 have hlc:(copH H r.xs).length=H.length+1:=by simp [copH]
 refine loop_ind (G:=(·=_)) (fun j σ=>∃T S H3 al c m lim,σ=⟨T,S,[],H3,lim,290,false⟩∧get T 1=.slice a l kk∧get T 2=.int .i64 (st:Nat)∧get T 4=.int .i64 at_∧get T 5=.pointer (some ⟨5,0,some 1⟩)∧get T 11=.pointer (some ⟨11,0,some 1⟩)∧get T 12=.pointer (some ⟨12,0,some 1⟩)∧get T 13=.pointer (some ⟨13,0,some 1⟩)∧get T 14=.slice al c m∧get T 15=.int .i64 (j:Nat)∧sget S 5=(1,.cells [.int .i64 r.app,.slice r.ba r.bl r.bk,.slice r.sa r.sl r.sk])∧sget S 11=(1,.cells [.int .i64 r.app,.slice r.ba r.bl r.bk,.slice (some ⟨H.length,0,none⟩) r.sl 5])∧sget S 12=(1,.cells [.int .i64 r.app,.slice r.ba r.bl r.bk,.slice (some ⟨H1.length,0,none⟩) r.sl 5])∧sget S 13=(1,.cells [.int .i64 x.s.board,.bool x.s.round,.int .i64 x.s.lo,.int .i64 x.s.hi,.slice x.a x.l x.m])∧(Bld H2.length H3 1 al c m (cells encI (erJ x.s.needs at_ j))∧Up H2 H3∧Fam H3∧H.length≤lim∧c≤j)) (x.l) ?_ ?_ 0 _ (Nat.zero_le _) ⟨_,_,_,_,_,_,_,rfl,rfl,rfl,rfl,rfl,rfl,rfl,rfl,rfl,rfl,rfl,rfl,rfl,rfl,⟨Bld.nil _ _ _,Up.refl _,hF2,by omega,Nat.le_refl _⟩⟩
 ·rintro c' j s hj ⟨T,S,H3,al,c,m,lim,rfl,t1,t2,t4,t5,t11,t12,t13,t14,t15,s0,s1,s2,s3,hp⟩ ih
  obtain ⟨hbd,u3,hF3,hlim,hc⟩:=hp
  have g03:=(v1.trans v2).trans u3
  obtain ⟨nb,no,v,hna,hnv,fn⟩:=hN.i1 (j:=j) hj
  have fn1:=fn H3 g03.grow
  have ia1:vv (.ia 1) [.slice x.a x.l x.m,.int .i64 (j:Nat)]=some (.pointer (some ⟨nb,no+j*1,none⟩)):=by rw [hna]; exact vv_iaN 1 nb no j _ _ _ hj
  have lA:isLoc (.slice al c m)=false:=hbd.isLoc _ _
  have hw:=wrap_succ j (by omega)
  have h03:=g03.len
  by_cases e:(j:Int)=at_
  ·have he:erJ x.s.needs at_ (j+1)=erJ x.s.needs at_ j:=by rw [erJ,if_pos e,List.append_nil]
   have e':((j:Int)=at_)=True:=eq_true e
   simp (maxDischargeDepth:=8) only [↓SD,SU,SV,SW,simprocAttr,Int.cast_ofNat_Int,small,resV, q15x1,t1,t2,t4,t5,t11,t12,t13,t14,t15,s0,s1,s2,s3, s0,s1,s2,s3,lt_nat,hj,l1,l2,l3,lA,lN,e',hw]
   exact ih _ ⟨_,_,(H3),(al),(c),(m),(_),rfl,(by simp [get_set,t1] <;> omega),(by simp [get_set,t2] <;> omega),(by simp [get_set,t4] <;> omega),(by simp [get_set,t5] <;> omega),(by simp [get_set,t11] <;> omega),(by simp [get_set,t12] <;> omega),(by simp [get_set,t13] <;> omega),(by simp [get_set,t14] <;> omega),(by simp [get_set,t15] <;> omega),by simp [sget_sset,s0],by simp [sget_sset,s1],by simp [sget_sset,s2],by simp [sget_sset,s3],⟨by rw [he]; exact hbd,u3,hF3,by omega,by omega⟩⟩
  ·have he:erJ x.s.needs at_ (j+1)=erJ x.s.needs at_ j++[v]:=by rw [erJ,if_neg e,getD_of hnv]
   obtain ⟨H6,p1,p2,p3,hF6⟩:=hbd.appF hF3 (by decide) (by decide) (by omega) u3.len [.int .i64 v] rfl
   have u6:=p3.up hbd u3 (Nat.le_refl _)
   have h6:=u6.len
   simp (maxDischargeDepth:=8) only [↓SD,SU,SV,SW,simprocAttr,Int.cast_ofNat_Int,small,resV, q15x1,t1,t2,t4,t5,t11,t12,t13,t14,t15,s0,s1,s2,s3, s0,s1,s2,s3,lt_nat,hj,l1,l2,l3,lA,lN,ia1,fn1,e,p1,hw]
   exact ih _ ⟨_,_,(H6),(some ⟨H3.length,0,none⟩),(c+1),(1),(_),rfl,(by simp [get_set,t1] <;> omega),(by simp [get_set,t2] <;> omega),(by simp [get_set,t4] <;> omega),(by simp [get_set,t5] <;> omega),(by simp [get_set,t11] <;> omega),(by simp [get_set,t12] <;> omega),(by simp [get_set,t13] <;> omega),(by simp [get_set,t14] <;> omega),(by simp [get_set,t15] <;> omega),by simp [sget_sset,s0],by simp [sget_sset,s1],by simp [sget_sset,s2],by simp [sget_sset,s3],⟨by rw [he,cells_app]; exact p2,u6,hF6,by omega,by omega⟩⟩
 ·rintro c' s ⟨T,S,H3,al,c,m,lim,rfl,t1,t2,t4,t5,t11,t12,t13,t14,t15,s0,s1,s2,s3,hp⟩
  obtain ⟨hbd,u3,hF3,hlim,hc⟩:=hp
  rw [←hNl] at hbd
  obtain ⟨nd,hnd⟩:∃nd,erJ x.s.needs at_ x.s.needs.length=nd:=⟨_,rfl⟩
  rw [hnd] at hbd
  have hrs:rises x.s.needs=true:=by
   have h4:=hB
   simp only [isBench,Bool.and_eq_true] at h4
   have:=strokes_at h4.2.2.2.1 hsx
   unfold strokeOk at this
   simp only [Bool.and_eq_true] at this
   exact this.1.1
  have hleA:=lessS_le (f:=f) hf hsx (by omega) hrs
  have hleB:=freeS_le (at_:=at_) (a:=al) (l:=c) (m:=m) hf hsx hrs
  rw [hnd] at hleB
  have g13:Up H1 H3:=v2.trans u3
  have hsB:Bld H1.length H3 1 (some ⟨H1.length,0,none⟩) (r.sl*5) 1 (cells eK r.xs):=⟨by omega,.inr ⟨H1.length,H1.length,rfl,rfl,Nat.le_refl _,Nat.le_refl _,by rw [u3.old _ (by omega),←hH2]; simp [copH]⟩⟩
  have lA:isLoc (.slice al c m)=false:=hbd.isLoc _ _
  obtain ⟨H4,f4,f41,f42,qs4,bd4,hF4,up4,len4,kp4⟩:=hsB.put hF3 (i:=st*5+4) (by omega) (v:=.slice al c m) lA rfl rfl
  have hsp4:splice (cells eK r.xs) ((st*5+4)*1) (Value.slice al c m).cells.toList=cells eK (r.xs.set st (freeS x nd al c m)):=by
   rw [Nat.mul_one]
   exact splice_part eK_len (by simp [Value.cells]) hxx (by simp [eK,freeS,splice,Value.cells])
  rw [hsp4] at bd4
  rw [Nat.mul_one] at qs4
  have v4:Up H1 H4:=up4 H1 g13 (Nat.le_refl _)
  have g04:Up H H4:=v1.trans v4
  have hndB:=(kp4 (hbd.less' (by omega)) (fun e=>by
   rcases hbd.ok with ⟨h,_⟩ | ⟨b',f',h,_,h3,_⟩
   ·rw [h] at e; cases e
   ·rw [h] at e; cases e; omega)).sl encI_len (by decide)
  have hb1:BeOk H1 (copR r H.length (r.xs.set st (lessS x f))) (copB b (r.xs.set st (lessS x f))):=by
   rw [←hH1]
   refine cop_ok hb (by rw [List.length_set]; exact hxl) (fun y hy=>?_) (Grow.refl _)
   rcases List.mem_or_eq_of_mem_set hy with h | h
   ·exact hb.nd y h
   ·subst h; exact hN
  have hbA:=hb1.grow v4.grow
  have hbB:BeOk H4 (copR r H1.length (r.xs.set st (freeS x nd al c m))) (copB b (r.xs.set st (freeS x nd al c m))):=by
   refine ⟨hb.app,hb.br.grow g04.grow,?_,fun y hy=>?_,rfl⟩
   ·have:Sl H4 5 eK (some ⟨H1.length,0,none⟩) (r.xs.set st (freeS x nd al c m)).length (r.xs.set st (freeS x nd al c m)):=of_cells0 eK_len (by
     rcases bd4.ok with ⟨h,_⟩ | ⟨b',f',h,_,_,_,h5⟩
     ·cases h
     ·cases h; simp [hcells,h5])
    rw [List.length_set,hxl] at this
    exact this
   ·rcases List.mem_or_eq_of_mem_set hy with h | h
    ·exact (hb.nd y h).grow g04.grow
    ·subst h; exact hndB
  have hdA:SmB (copR r H.length (r.xs.set st (lessS x f))):=⟨hd.b,hd.s,fun y hy=>by
   rcases List.mem_or_eq_of_mem_set (show y∈r.xs.set st (lessS x f) from hy) with h | h
   ·exact hd.n y h
   ·subst h; exact hNs⟩
  have hdB:SmB (copR r H1.length (r.xs.set st (freeS x nd al c m))):=⟨hd.b,hd.s,fun y hy=>by
   rcases List.mem_or_eq_of_mem_set (show y∈r.xs.set st (freeS x nd al c m) from hy) with h | h
   ·exact hd.n y h
   ·subst h; show c < 1000000; omega⟩
  have hBA:=le_bench hb hxx hleA hB
  have hBB:=le_bench hb hxx hleB hB
  obtain ⟨o,ho5,b5,m5,H5,lo5,q5',rfl,u5,hlo5,s5,hq5⟩:=c50 hb hd hB H4 g04.grow hF4
  have hF5:Fam H5:=famR ho5 hF4
  obtain ⟨o,ho6,b6,m6,H6,lo6,q6',rfl,u6,hlo6,s6,hq6⟩:=c50 hbA hdA hBA H5 u5.grow hF5
  have hF6:Fam H6:=famR ho6 hF5
  obtain ⟨o,ho7,b7,m7,H7,lo7,q7',rfl,u7,hlo7,s7,hq7⟩:=c50 hbB hdB hBB H6 (u5.trans u6).grow hF6
  have hF7:Fam H7:=famR ho7 hF6
  obtain ⟨f1,f2⟩:=le_best hb hxx hleA hB hq5 hq6
  obtain ⟨f3,f4⟩:=le_best hb hxx hleB hB hq5 hq7
  have g47:=((u5.trans u6).trans u7).grow
  have hel:∀b':Bench,b'.strokes.length=b.strokes.length→(endsL b' p b'.strokes.length).length=l:=fun b' e=>by simp [endsL,e,hlb]
  obtain ⟨o,ho8,a8,m8,H8,lo8,rfl,u8,hlo8,s8⟩:=c26 (kk:=kk) hb hd hx hl hB hP H7 (g04.grow.trans g47)
  obtain ⟨o,ho9,a9,m9,H9,lo9,rfl,u9,hlo9,s9⟩:=c26 (kk:=kk) hbA hdA (hx.grow g04.grow) hl hBA (le_plan hb hxx hleA hf.a0 hP) H8 (g47.trans u8.grow)
  obtain ⟨o,ho10,a10,m10,H10,lo10,rfl,u10,hlo10,s10⟩:=c26 (kk:=kk) hbB hdB (hx.grow g04.grow) hl hBB (le_plan hb hxx hleB hf.a0 hP) H9 ((g47.trans u8.grow).trans u9.grow)
  rw [hel _ rfl] at ho8 s8
  rw [hel _ (le_len hb)] at ho9 s9
  rw [hel _ (le_len hb)] at ho10 s10
  unfold copR at ho6 ho7 ho9 ho10
  have i8:=s8.isLoc m8
  have i9:=s9.isLoc m9
  have i10:=s10.isLoc m10
  have lq:∀n k,isLoc (.slice (some ⟨n,0,none⟩) k 5)=false:=fun n k=>rfl
  have z1:(tk (copB b (r.xs.set st (lessS x f))) q6' < 1)=False:=by simp; omega
  have z2:(tk b q5' < tk (copB b (r.xs.set st (lessS x f))) q6')=False:=by simp; omega
  have z3:(tk (copB b (r.xs.set st (freeS x nd al c m))) q7' < 1)=False:=by simp; omega
  have z4:(tk b q5' < tk (copB b (r.xs.set st (freeS x nd al c m))) q7')=False:=by simp; omega
  have h4:=v4.len
  have h5:=u5.len
  have h6:=u6.len
  have h7:=u7.len
  have h8:=u8.len
  have h9:=u9.len
  have h10:=u10.len
  simp (maxDischargeDepth:=8) only [↓SD,SU,SV,SW,simprocAttr,Int.cast_ofNat_Int,small,resV, q15x1,t1,t2,t4,t5,t11,t12,t13,t14,t15,s0,s1,s2,s3, s0,s1,s2,s3,lt_nat,Nat.lt_irrefl,l1,l2,l3,lA,lN,ian,qs4,ho5,ho6,ho7,ho8,ho9,ho10,lq,i8,i9,i10,z1,z2,z3,z4,k_fixb]
  have t8':=s8.grow (u9.trans u10).grow
  have t9':=s9.grow u10.grow
  have hfin:∀g n,(en b p g n < en (copB b (r.xs.set st (lessS x f))) p g n)=False:=fun g n=>by have:=le_en hb hxx hleA p g n; simp; omega
  have hfin2:∀g n,(en b p g n < en (copB b (r.xs.set st (freeS x nd al c m))) p g n)=False:=fun g n=>by have:=le_en hb hxx hleB p g n; simp; omega
  refine loop_ind (G:=(·=_)) (fun j σ=>∃T S lim,σ=⟨T,S,[],H10,lim,290,false⟩∧get T 1=.slice a l kk∧get T 25=.slice a8 l m8∧get T 27=.slice a9 l m9∧get T 29=.slice a10 l m10∧get T 31=.int .i64 (j:Nat)∧(H.length≤lim)) (l) ?_ ?_ 0 _ (Nat.zero_le _) ⟨_,_,_,rfl,(by first | (simp [get_set,t1,t2,t4,t5,t11,t12,t13,t14,t15]; done) | rfl),(by first | (simp [get_set,t1,t2,t4,t5,t11,t12,t13,t14,t15]; done) | rfl),(by first | (simp [get_set,t1,t2,t4,t5,t11,t12,t13,t14,t15]; done) | rfl),(by first | (simp [get_set,t1,t2,t4,t5,t11,t12,t13,t14,t15]; done) | rfl),(by first | (simp [get_set,t1,t2,t4,t5,t11,t12,t13,t14,t15]; done) | rfl),by omega⟩
  ·rintro c' j s hj ⟨T,S,lim,rfl,t1,t25,t27,t29,t31,hp⟩ ih
   obtain ⟨b8,o8,e81,_,e83,e84⟩:=pair_at (m:=m8) t8' hj hlb
   obtain ⟨b9,o9,e91,_,e93,e94⟩:=pair_at (m:=m9) t9' hj (by rw [le_len hb]; exact hlb)
   obtain ⟨bx,ox,ex1,_,ex3,ex4⟩:=pair_at (m:=m10) s10 hj (by rw [le_len hb]; exact hlb)
   have y1:=hfin false j
   have y2:=hfin true j
   have y3:=hfin2 false j
   have y4:=hfin2 true j
   have hw:=wrap_succ j (by omega)
   simp (maxDischargeDepth:=8) only [↓SD,SU,SV,SW,simprocAttr,Int.cast_ofNat_Int,small,resV, q15x0,t1,t25,t27,t29,t31, lt_nat,hj,l3,i8,i9,i10,e81,e83,e84,e91,e93,e94,ex1,ex3,ex4,y1,y2,y3,y4,hw]
   exact ih _ ⟨_,_,_,rfl,(by simp [get_set,t1] <;> omega),(by simp [get_set,t25] <;> omega),(by simp [get_set,t27] <;> omega),(by simp [get_set,t29] <;> omega),(by simp [get_set,t31] <;> omega),by omega⟩
  ·rintro c' s ⟨T,S,lim,rfl,t1,t25,t27,t29,t31,hp⟩
   simp (maxDischargeDepth:=8) only [↓SD,SU,SV,SW,simprocAttr,Int.cast_ofNat_Int,small,resV, q15x0,t1,t25,t27,t29,t31, lt_nat,Nat.lt_irrefl,l3,c25,R15,N15]
   rw [gc_ite (by omega)]; simp [flat]
end Go.Pi.L.Ben
