/- Benches: which list comes before; chains that somebody proposes. -/
import Derived.Test.YtfndfpbdgjoilaaGreatDoorDN
set_option linter.all false
set_option maxRecDepth 100000
namespace Go.Pi.L.Ben
open Go Go.Pi Go.Pi.L Go.Pi.E Go.Pi.Ben BM

theorem c47 {H:Heap}{a1 a2:Option Addr}{l1 l2 k1 k2:Nat}{xs ys:List Int}(hx:Ints H a1 l1 xs)(hy:Ints H a2 l2 ys)(h1:l1 < 1000000)(h2:l2 < 1000000) :
  ∀H',Grow H H'→R (.func 47) [.slice a1 l1 k1,.slice a2 l2 k2] H'=some ⟨.ok (.bool (bef xs ys)),H',H'.length⟩:=by
 intro H' hg
 refine run_k (pr 47) P47 (by simp [p47]) rfl ?_
 have i1:=hx.isLoc k1
 have i2:=hy.isLoc k2
 have hxl:=hx.len
 have hyl:=hy.len
 generalize hB:bef xs ys=B
 simp (maxDischargeDepth:=8) only [↓SD,SU,SV,SW,simprocAttr,Int.cast_ofNat_Int,small,resV, B47,R47,N47,b47, i1,i2]
 refine loop_ind (G:=(·=_)) (fun j σ=>∃T S,σ=⟨T,S,[],H',(H').length,41,false⟩∧get T 0=.slice a1 l1 k1∧get T 1=.slice a2 l2 k2∧get T 5=.int .i64 (j:Nat)∧(B=bef (xs.drop j) (ys.drop j))) ((min l1 l2)) ?_ ?_ 0 _ (Nat.zero_le _) ⟨_,_,rfl,rfl,rfl,rfl,hB.symm⟩
 ·rintro c' j s hj ⟨T,S,rfl,t0,t1,t5,hp⟩ ih
  have hj1:j < l1:=by omega
  have hj2:j < l2:=by omega
  obtain ⟨xb,xo,x,hxa,hxx,fx⟩:=hx.i1 (j:=j) hj1
  obtain ⟨yb,yo,y,hya,hyy,fy⟩:=hy.i1 (j:=j) hj2
  have fx1:=fx H' hg
  have fy1:=fy H' hg
  have iax:vv (.ia 1) [.slice a1 l1 k1,.int .i64 (j:Nat)]=some (.pointer (some ⟨xb,xo+j*1,none⟩)):=by rw [hxa]; exact vv_iaN 1 xb xo j _ _ _ hj1
  have iay:vv (.ia 1) [.slice a2 l2 k2,.int .i64 (j:Nat)]=some (.pointer (some ⟨yb,yo+j*1,none⟩)):=by rw [hya]; exact vv_iaN 1 yb yo j _ _ _ hj2
  have hw:=wrap_succ j (by omega)
  rw [drop_cons hxx,drop_cons hyy] at hp
  simp only [bef] at hp
  by_cases he:x=y
  ·rw [if_pos he] at hp
   simp (maxDischargeDepth:=8) only [↓SD,SU,SV,SW,simprocAttr,Int.cast_ofNat_Int,small,resV, q47x0,t0,t1,t5, lt_nat,hj1,hj2,i1,i2,iax,iay,fx1,fy1,he,hw]
   exact ih _ ⟨_,_,rfl,(by simp [get_set,t0] <;> omega),(by simp [get_set,t1] <;> omega),(by simp [get_set,t5] <;> omega),hp⟩
  ·rw [if_neg he] at hp
   rw [hp]
   simp (maxDischargeDepth:=8) only [↓SD,SU,SV,SW,simprocAttr,Int.cast_ofNat_Int,small,resV, q47x0,t0,t1,t5, lt_nat,hj1,hj2,i1,i2,iax,iay,fx1,fy1,he,R47,N47]
 ·rintro c' s ⟨T,S,rfl,t0,t1,t5,hp⟩
  by_cases hlt:l1≤l2
  ·have hm:min l1 l2=l1:=by omega
   rw [hm] at hp t5
   rw [drop_all hxl] at hp
   have hr:B=decide (l1 < l2):=by
    rw [hp]
    by_cases e:l1 < l2
    ·obtain ⟨y,hy2⟩:∃y,ys[l1]?=some y:=⟨_,List.getElem?_eq_getElem (by omega)⟩
     rw [drop_cons hy2]; simp [bef,e]
    ·rw [drop_all (by omega)]; simp [bef,e]
   simp (maxDischargeDepth:=8) only [↓SD,SU,SV,SW,simprocAttr,Int.cast_ofNat_Int,small,resV, q47x0,t0,t1,t5, lt_nat,Nat.lt_irrefl,i1,i2,R47,N47]
   rw [hr]
  ·have hm:min l1 l2=l2:=by omega
   rw [hm] at hp t5
   have h21:l2 < l1:=by omega
   have hr:B=decide (l1 < l2):=by
    rw [hp,drop_all hyl]
    have:decide (l1 < l2)=false:=decide_eq_false (by omega)
    rw [this]
    cases xs.drop l2 <;> rfl
   simp (maxDischargeDepth:=8) only [↓SD,SU,SV,SW,simprocAttr,Int.cast_ofNat_Int,small,resV, q47x0,t0,t1,t5, lt_nat,h21,Nat.lt_irrefl,i1,i2,R47,N47]
   rw [hr]
theorem okI_list {b:Bench}{p:List Int}{all:Int}:∀(ls:List Int) (a:Int) (prev:Option Int),okI b p all a prev ls=true→∃q:List Nat,ls=castL q∧q.Pairwise (· < ·)∧(∀x∈q,x < b.strokes.length)∧∀k,prev=some k→∀x∈q,k.toNat < x
 | [],a,prev,_=>⟨[],rfl,List.Pairwise.nil,fun x h=>(by cases h),fun k _ x h=>(by cases h)⟩
 | y :: ls,a,prev,h=>by
  simp only [okI,Bool.and_eq_true] at h
  obtain ⟨h1,h2,h3,h4⟩:=h
  obtain ⟨n,rfl,hn⟩:=stroke_nat h1
  obtain ⟨q,rfl,q1,q2,q3⟩:=okI_list ls _ _ h4
  have q4:=q3 _ rfl
  rw [Int.toNat_natCast] at q4
  refine ⟨n :: q,rfl,List.pairwise_cons.2 ⟨q4,q1⟩,fun x hx=>?_,fun k hk x hx=>?_⟩
  ·rcases List.mem_cons.1 hx with rfl | hx
   ·exact hn
   ·exact q2 x hx
  ·subst hk
   simp only [fol,Bool.and_eq_true,decide_eq_true_eq,Int.toNat_natCast] at h3
   rcases List.mem_cons.1 hx with rfl | hx
   ·exact h3.1
   ·have:=q4 x hx; omega
theorem chI_list {b:Bench}{p:List Int}(hlen:p.length=b.strokes.length){ls:List Int}(h:chI b p ls=true):∃q:List Nat,ls=castL q∧q∈rising b.strokes.length 0∧chained (follows b p) (dW b) (takesN b (en b p true)) q=true:=by
 have h':=h
 unfold chI at h
 simp only [Bool.and_eq_true] at h
 obtain ⟨q,rfl,q1,q2,_⟩:=okI_list ls _ _ h.2.2
 have hm:q∈rising b.strokes.length 0:=mem_rising.2 ⟨q1,fun x hx=>by have:=q2 x hx; omega⟩
 rw [chI_chained hlen hm] at h'
 exact ⟨q,rfl,hm,h'⟩
theorem bef_castL:∀a b:List Nat,bef (castL a) (castL b)=befN a b
 | [],[]=>rfl
 | [],_ :: _=>rfl
 | _ :: _,[]=>rfl
 | x :: a,y :: b=>by
  rw [castL_cons,castL_cons]
  simp only [bef,befN,bef_castL a b]
  by_cases e:x=y
  ·subst e; simp
  ·have:¬((x:Int)=(y:Int)):=by omega
   rw [if_neg e,if_neg this]
   simp
theorem takesN_eq (b:Bench)(p:List Int):takesN b (en b p true)=takes (follows b p) (dW b) b.strokes.length:=rfl
theorem spare_zero {b:Bench}(hf:Fine b){p:List Int}{q:List Nat}(hq:q∈rising b.strokes.length 0)(hc:chained (follows b p) (dW b) (takesN b (en b p true)) q=true){st:Nat}(hs:st∈q):spareP (tkBy b p st) (takesN b (en b p true)) 10=0:=by
 have hsp:=spare_spec hf p st
 refine chained_spare (F:=follows b p) (dur:=dW b) (N:=b.strokes.length) (fun n=>(durW_b hf (by decide) (by decide) true n).1) hc hq hs (S:=spareP (tkBy b p st) (takesN b (en b p true)) 10) ?_
 have e:(fun k:Nat=>takes (follows b p) (longer (dW b) st k) b.strokes.length)=tkBy b p st:=by
  funext k
  show takes _ (longer (durW b (-1) 0 true) st k) _=takes _ (durW b (st:Int) (k:Int) true) _
  congr 1
  funext n
  unfold longer durW
  simp only [cond_true]
  by_cases e:n=st
  ·subst e; simp
  ·have:¬((n:Int)=(st:Int)):=by omega
   simp [e,this]
 rw [e]
 exact hsp
theorem any_castL (q:List Nat)(st:Nat):((castL q).any fun x=>decide (x=(st:Int)))=decide (st∈q):=by
 rw [Bool.eq_iff_iff]
 simp only [List.any_eq_true,decide_eq_true_eq,castL,List.mem_map]
 constructor
 ·rintro ⟨x,⟨y,hy,rfl⟩,e⟩
  have:y=st:=by omega
  subst this; exact hy
 ·exact fun h=>⟨_,⟨st,h,rfl⟩,rfl⟩
end Go.Pi.L.Ben
set_option maxRecDepth 100000
namespace Go.Pi.L.Ben
open Go Go.Pi Go.Pi.L Go.Pi.E Go.Pi.Ben BM

theorem cut2 {α:Type}{call:CallT}{F:Ex→St→Option α}{G:Option α→Prop}(Post:St→Prop){x1 x2:It}{k:List It}{s:St}
  (h1:∀σ,Post σ→G (mach call F k none σ)) (h2:∀k',(∀σ,Post σ→G (mach call F k' none σ))→G (mach call F (x1 :: x2 :: k') none s)):G (mach call F (x1 :: x2 :: k) none s):=h2 k h1
theorem waits_snoc {F:Nat→Nat→Bool}:∀{l:List Nat} {n:Nat},waits F l=true→(∀k,l.getLast?=some k→(decide (k < n)&&F k n)=true)→waits F (l++[n])=true
 | [],n,_,_=>rfl
 | [x],n,_,h=>by
  have:=h x rfl
  simp only [List.singleton_append,waits,Bool.and_true]; exact this
 | x :: y :: l,n,h1,h2=>by
  rw [waits,Bool.and_eq_true] at h1
  simp only [List.cons_append]
  rw [waits,Bool.and_eq_true]
  exact ⟨h1.1,waits_snoc (l:=y :: l) h1.2 fun k hk=>h2 k (by rw [List.getLast?_cons_cons]; exact hk)⟩
theorem dW_hi {H:Heap}{r:BeR}{b:Bench}(hb:BeOk H r b){n:Nat}{x:Sk}(hx:r.xs[n]?=some x):dW b n=x.s.hi:=by
 show durW b (-1) 0 true n=_
 have:durW b (-1) 0 true n=durG b true n:=by rw [durW_nil]
 rw [this]
 show high b n=_
 unfold high
 rw [hb.at hx]
set_option maxHeartbeats 4000000 in
theorem c7 {H:Heap}{r:BeR}{b:Bench}{a:Option Addr}{l kk:Nat}{p:List Int}{ao:Option Addr}{lO ko:Nat}{os:List Int}{stI:Int}(hb:BeOk H r b)(hx:Ints H a l p)(hy:Ints H ao lO os)(hF:Fam H) :
  R (.func 7) [.agg #[.int .i64 r.app,.slice r.ba r.bl r.bk,.slice r.sa r.sl r.sk],.slice a l kk,.slice ao lO ko,.int .i64 stI] H=some ⟨.ok (.bool true),H,H.length⟩:=by
 refine run_k (pr 7) P7 (by simp [p7]) rfl ?_
 have l1:=hb.br.isLoc r.bk
 have l2:=hb.st.isLoc r.sk
 have l3:=hx.isLoc kk
 have l4:=hy.isLoc ko
 have k21:=c21 hb H (Grow.refl _)
 have k22:=c22 (H:=H) a l kk l3
 have k22o:=c22 (H:=H) ao lO ko l4
 cases q1:(shortB r.xs r&&isBench b) with
 | false=>rw [q1] at k21; simp (maxDischargeDepth:=8) only [↓SD,SU,SV,SW,simprocAttr,Int.cast_ofNat_Int,small,resV, B7,R7,N7,b7, l1,l2,l3,l4,k21,c25,R7,N7]
 | true =>
 rw [q1] at k21
 obtain ⟨q1a,hB⟩:=Bool.and_eq_true_iff.1 q1
 have hd:=short_sm hb q1a
 by_cases q2:l≤9
 case neg=>simp (maxDischargeDepth:=8) only [↓SD,SU,SV,SW,simprocAttr,Int.cast_ofNat_Int,small,resV, B7,R7,N7,b7, l1,l2,l3,l4,k21,k22,q2,c25,R7,N7]
 by_cases q2o:lO≤9
 case neg=>simp (maxDischargeDepth:=8) only [↓SD,SU,SV,SW,simprocAttr,Int.cast_ofNat_Int,small,resV, B7,R7,N7,b7, l1,l2,l3,l4,k21,k22,k22o,q2,q2o,c25,R7,N7]
 have hl:l < 1000000:=by omega
 have k23:=c23 (kk:=kk) hb hx hl H (Grow.refl _)
 cases hP:isPlan b p with
 | false=>rw [hP] at k23; simp (maxDischargeDepth:=8) only [↓SD,SU,SV,SW,simprocAttr,Int.cast_ofNat_Int,small,resV, B7,R7,N7,b7, l1,l2,l3,l4,k21,k22,k22o,q2,q2o,k23,c25,R7,N7]
 | true =>
 rw [hP] at k23
 have k44:=c44 hb hd stI H (Grow.refl _)
 cases hS:isStroke b stI with
 | false=>rw [hS] at k44; simp (maxDischargeDepth:=8) only [↓SD,SU,SV,SW,simprocAttr,Int.cast_ofNat_Int,small,resV, B7,R7,N7,b7, l1,l2,l3,l4,k21,k22,k22o,q2,q2o,k23,k44,c25,R7,N7]
 | true =>
 rw [hS] at k44
 have hf:=fine_of hB
 have n6:=hf.n6
 have hlen:p.length=b.strokes.length:=by simp only [isPlan,Bool.and_eq_true,decide_eq_true_eq] at hP; exact hP.1
 have hlb:b.strokes.length=l:=by rw [←hlen]; exact hx.len
 have hsl:=hb.len
 obtain ⟨st,rfl,hst⟩:=stroke_nat hS
 obtain ⟨t,ht,hc,hr⟩:=chain_ex hf p
 have ht0:0 < t.length:=by
  cases t with
  | nil=>simp [chained] at hc
  | cons x t=>simp
 have htl:=(rising_len b.strokes.length 0).2 t hr
 have htx:=(mem_rising.1 hr).2
 have hcl:(castL t).length=t.length:=by simp [castL]
 have hel:(endsL b p b.strokes.length).length=b.strokes.length:=by simp [endsL]
 obtain ⟨o,ho1,a1,m1,H1,lo1,rfl,u1,hlo1,s1⟩:=c41 (kk:=kk) hb hd hx hl hB hP ht ht0 H (Grow.refl _) hF
 have hF1:Fam H1:=famR ho1 hF
 obtain ⟨o,ho2,a2,m2,H2,lo2,rfl,u2,hlo2,s2⟩:=c26 (kk:=kk) hb hd hx hl hB hP H1 u1.grow
 have hF2:Fam H2:=famR ho2 hF1
 rw [hcl] at ho1 s1
 rw [hel,hlb] at ho2 s2
 have g2:=u1.grow.trans u2.grow
 have k42:=c42 (kk:=kk) hb hd hx hl hB hP hst H2 g2
 have sC:=s1.grow u2.grow
 have k46:=c46 (kk:=kk) (kk2:=m1) (hb.grow g2) hd (hx.grow g2) hf hlen sC H2 (Grow.refl _) hF2
 rw [chI_chained hlen hr,hc] at k46
 have k30:=c30 (kk:=m1) (st:Int) sC (by omega) H2 (Grow.refl _)
 rw [any_castL] at k30
 have hzero:=fun hs:st∈t=>spare_zero hf hr hc hs
 have i1:=s1.isLoc m1
 have i2:=s2.isLoc m2
 have h1:=u1.len
 have h2:=u2.len
 have hsp:=spare_spec hf p st
 have hs9:=hsp.le
 have hwa:=fun q=>waits_all (F:=follows b p) (dur:=dW b) (N:=b.strokes.length) (l:=q) (fun n=>by have:=(durW_b hf (lg:=-1) (by decide:(0:Int)≤0) (by decide) true n).1; show 0≤durW b (-1) 0 true n; omega)
 rw [←takesN_eq] at hwa
 have hsum:=chained_sum hc
 have hzq:=fun (q:List Nat) (hq:q∈rising b.strokes.length 0) (hcq:chained (follows b p) (dW b) (takesN b (en b p true)) q=true) (hs:st∈q)=>spare_zero hf hq hcq hs
 generalize hSP:spareP (tkBy b p st) (takesN b (en b p true)) 10=SP at k42 hs9 hzero hzq
 generalize hAll:takesN b (en b p true)=all at hwa hsum
 have z1:(((SP:Nat):Int) < 0)=False:=by simp
 have z2:((9:Int) < ((SP:Nat):Int))=False:=by simp; omega
 have stro:∀n,n < b.strokes.length→∃(sb so:Nat) (xk:Sk),vv (.ia 5) [.slice r.sa r.sl r.sk,.int .i64 (n:Nat)]=some (.pointer (some ⟨sb,so+n*5,none⟩))∧rdO (hcells H2 sb) (so+n*5+2+1) none=some (.int .i64 (dW b n))∧rdO (hcells H2 sb) (so+n*5+4) none=some (.slice xk.a xk.l xk.m)∧isLoc (.slice xk.a xk.l xk.m)=false∧b.strokes[n]?=some xk.s∧Ints H xk.a xk.l xk.s.needs∧xk.l < 1000000:=fun n hn=>by
  obtain ⟨sb,so,xk,hsa,hxk,fk⟩:=hb.st.k5 (j:=n) (by omega)
  have hN:=hb.nd xk (mem_drop hxk)
  refine ⟨sb,so,xk,by rw [hsa]; exact vv_iaN 5 sb so n _ _ _ (by omega),?_,fk.v4 H2 g2,hN.isLoc xk.m,hb.at hxk,hN,hd.n xk (mem_drop hxk)⟩
  rw [dW_hi hb hxk]; exact fk.v3 H2 g2
 have hdb:∀n,1≤dW b n∧dW b n≤15:=fun n=>durW_b hf (by decide) (by decide) true n
 simp (maxDischargeDepth:=8) only [↓SD,SU,SV,SW,simprocAttr,Int.cast_ofNat_Int,small,resV, B7,R7,N7,b7, l1,l2,l3,l4,i1,i2,k21,k22,k22o,q2,q2o,k23,k44,ho1,ho2,k42,k46,z1,z2]
 refine loop_ind (G:=(·=_)) (fun j σ=>∃T S m lim,σ=⟨T,S,[],H2,lim,251,false⟩∧get T 1=.slice a l kk∧get T 2=.slice ao lO ko∧get T 3=.int .i64 (st:Nat)∧get T 4=.pointer (some ⟨4,0,some 1⟩)∧get T 9=.slice a1 t.length m1∧get T 11=.slice a2 l m2∧get T 13=.int .i64 (SP:Nat)∧get T 15=.int .i64 m∧get T 16=.int .i64 0∧get T 17=.int .i64 (j:Nat)∧sget S 4=(1,.cells [.int .i64 r.app,.slice r.ba r.bl r.bk,.slice r.sa r.sl r.sk])∧(m=sumH (dW b) (t.take j)∧0≤m∧m≤15*j∧H.length≤lim)) (t.length) ?_ ?_ 0 _ (Nat.zero_le _) ⟨_,_,_,_,rfl,rfl,rfl,rfl,rfl,rfl,rfl,rfl,rfl,rfl,rfl,rfl,⟨rfl,by omega,by omega,by omega⟩⟩
 ·rintro c' j s hj ⟨T,S,m,lim,rfl,t1,t2,t3,t4,t9,t11,t13,t15,t16,t17,s0,hp⟩ ih
  obtain ⟨hm,hm0,hm1,hlim⟩:=hp
  obtain ⟨n,hn⟩:∃n,t[j]?=some n:=⟨_,List.getElem?_eq_getElem hj⟩
  have hnb:=htx n (List.mem_of_getElem? hn)
  obtain ⟨xb,xo,x,hxa,hxx,fx⟩:=sC.i1 (j:=j) hj
  unfold castL at hxx
  rw [List.getElem?_map,hn] at hxx
  cases hxx
  have fx1:=fx H2 (Grow.refl _)
  have iax:vv (.ia 1) [.slice a1 t.length m1,.int .i64 (j:Nat)]=some (.pointer (some ⟨xb,xo+j*1,none⟩)):=by rw [hxa]; exact vv_iaN 1 xb xo j _ _ _ hj
  obtain ⟨sb,so,xk,e1,e2,_,_,_,_,_⟩:=stro n (by omega)
  have hdn:=hdb n
  have hw:=wrap_succ j (by omega)
  have hws:IntKind.wrap .i64 (m+dW b n)=m+dW b n:=wrap_id _ (by omega) (by omega)
  simp (maxDischargeDepth:=8) only [↓SD,SU,SV,SW,simprocAttr,Int.cast_ofNat_Int,small,resV, q7x2,t1,t2,t3,t4,t9,t11,t13,t15,t16,t17,s0, s0,lt_nat,hj,l1,l2,l3,l4,i1,i2,iax,fx1,e1,e2,hws,hw]
  exact ih _ ⟨_,_,(m+dW b n),(_),rfl,(by simp [get_set,t1] <;> omega),(by simp [get_set,t2] <;> omega),(by simp [get_set,t3] <;> omega),(by simp [get_set,t4] <;> omega),(by simp [get_set,t9] <;> omega),(by simp [get_set,t11] <;> omega),(by simp [get_set,t13] <;> omega),(by simp [get_set,t15] <;> omega),(by simp [get_set,t16] <;> omega),(by simp [get_set,t17] <;> omega),by simp [sget_sset,s0],⟨by rw [take_get hn,sumH_app,hm]; simp [sumH],by omega,by omega,by omega⟩⟩
 ·rintro c' s ⟨T,S,m,lim,rfl,t1,t2,t3,t4,t9,t11,t13,t15,t16,t17,s0,hp⟩
  obtain ⟨hm,hm0,hm1,hlim⟩:=hp
  rw [List.take_length,hsum] at hm
  simp (maxDischargeDepth:=8) only [↓SD,SU,SV,SW,simprocAttr,Int.cast_ofNat_Int,small,resV, q7x2,t1,t2,t3,t4,t9,t11,t13,t15,t16,t17,s0, s0,lt_nat,Nat.lt_irrefl,l1,l2,l3,l4,i1,i2]
  refine loop_ind (G:=(·=_)) (fun j σ=>∃T S mx lim,σ=⟨T,S,[],H2,lim,251,false⟩∧get T 1=.slice a l kk∧get T 2=.slice ao lO ko∧get T 3=.int .i64 (st:Nat)∧get T 4=.pointer (some ⟨4,0,some 1⟩)∧get T 9=.slice a1 t.length m1∧get T 11=.slice a2 l m2∧get T 13=.int .i64 (SP:Nat)∧get T 15=.int .i64 m∧get T 16=.int .i64 mx∧get T 18=.int .i64 (j:Nat)∧sget S 4=(1,.cells [.int .i64 r.app,.slice r.ba r.bl r.bk,.slice r.sa r.sl r.sk])∧(((List.range l).map (en b p true)).foldl max 0=(((List.range l).drop j).map (en b p true)).foldl max mx∧H.length≤lim)) (l) ?_ ?_ 0 _ (Nat.zero_le _) ⟨_,_,_,_,rfl,(by first | rfl | simp [get_set,t1,t2,t3,t4,t9,t11,t13,t15,t16,t17]),(by first | rfl | simp [get_set,t1,t2,t3,t4,t9,t11,t13,t15,t16,t17]),(by first | rfl | simp [get_set,t1,t2,t3,t4,t9,t11,t13,t15,t16,t17]),(by first | rfl | simp [get_set,t1,t2,t3,t4,t9,t11,t13,t15,t16,t17]),(by first | rfl | simp [get_set,t1,t2,t3,t4,t9,t11,t13,t15,t16,t17]),(by first | rfl | simp [get_set,t1,t2,t3,t4,t9,t11,t13,t15,t16,t17]),(by first | rfl | simp [get_set,t1,t2,t3,t4,t9,t11,t13,t15,t16,t17]),(by first | rfl | simp [get_set,t1,t2,t3,t4,t9,t11,t13,t15,t16,t17]),(by first | rfl | simp [get_set,t1,t2,t3,t4,t9,t11,t13,t15,t16,t17]),(by first | rfl | simp [get_set,t1,t2,t3,t4,t9,t11,t13,t15,t16,t17]),(by first | rfl | exact s0),⟨rfl,by omega⟩⟩
  ·rintro c' j s hj ⟨T,S,mx,lim,rfl,t1,t2,t3,t4,t9,t11,t13,t15,t16,t18,s0,hp⟩ ih
   obtain ⟨hp,hlim⟩:=hp
   obtain ⟨b2,o2,y,hya,hy',_,_,e3⟩:=s2.p2 hj
   have e3:=e3 H2 (Grow.refl _)
   have hye:y=(en b p false j,en b p true j):=by
    rw [show (endsL b p l)[j]?=some (en b p false j,en b p true j) by simp [endsL,hj]] at hy'
    cases hy'; rfl
   subst hye
   have hw:=wrap_succ j (by omega)
   rw [range_drop hj,List.map_cons,List.foldl_cons] at hp
   simp (maxDischargeDepth:=8) only [↓SD,SU,SV,SW,simprocAttr,Int.cast_ofNat_Int,small,resV, q7x1,t1,t2,t3,t4,t9,t11,t13,t15,t16,t18,s0, lt_nat,hj,l1,l2,l3,i1,i2,hya,e3,hw]
   exact ih _ ⟨_,_,(_),(_),rfl,(by simp [get_set,t1] <;> omega),(by simp [get_set,t2] <;> omega),(by simp [get_set,t3] <;> omega),(by simp [get_set,t4] <;> omega),(by simp [get_set,t9] <;> omega),(by simp [get_set,t11] <;> omega),(by simp [get_set,t13] <;> omega),(by simp [get_set,t15] <;> omega),(by simp [get_set,t16] <;> omega),(by simp [get_set,t18] <;> omega),by simp [sget_sset,s0],⟨hp,by omega⟩⟩
  ·rintro c' s ⟨T,S,mx,lim,rfl,t1,t2,t3,t4,t9,t11,t13,t15,t16,t18,s0,hp⟩
   obtain ⟨hp,hlim⟩:=hp
   rw [List.drop_eq_nil_of_le (by simp),List.map_nil,List.foldl_nil] at hp
   have hmx:mx=all:=by rw [←hp,←hAll]; unfold takesN; rw [hlb]; rfl
   rw [hmx] at t16
   rw [hm] at t15
   obtain ⟨bd,hdt⟩:∃bd,decide (st∈t)=bd:=⟨_,rfl⟩
   rw [hdt] at k30
   have hS0:bd=true→SP=0:=fun h=>hzero (by rw [h] at hdt; simpa using hdt)
   have hz:bd=true→(((SP:Nat):Int)=0)=True:=fun h=>by have:=hS0 h; simp; omega
   cases bd
   case' true=>have hz0:=hz rfl; simp (maxDischargeDepth:=8) only [↓SD,SU,SV,SW,simprocAttr,Int.cast_ofNat_Int,small,resV, q7x1,t1,t2,t3,t4,t9,t11,t13,t15,t16,t18,s0, lt_nat,Nat.lt_irrefl,l1,l2,l3,l4,i1,i2,k30,hz0]
   case' false=>simp (maxDischargeDepth:=8) only [↓SD,SU,SV,SW,simprocAttr,Int.cast_ofNat_Int,small,resV, q7x1,t1,t2,t3,t4,t9,t11,t13,t15,t16,t18,s0, lt_nat,Nat.lt_irrefl,l1,l2,l3,l4,i1,i2,k30]
   all_goals
    refine cut2 (G:=(·=_)) (fun σ=>∃T S lim fl sm,σ=⟨T,S,[],H2,lim,251,false⟩∧get T 1=.slice a l kk∧get T 2=.slice ao lO ko∧get T 3=.int .i64 (st:Nat)∧get T 4=.pointer (some ⟨4,0,some 1⟩)∧get T 9=.slice a1 t.length m1∧get T 13=.int .i64 (SP:Nat)∧get T 16=.int .i64 all∧get T 19=.int .i64 sm∧get T 20=.bool fl∧sget S 4=(1,.cells [.int .i64 r.app,.slice r.ba r.bl r.bk,.slice r.sa r.sl r.sk])∧(fl=true→sm≤all)∧H.length≤lim) ?_ ?_
    ·rintro σ ⟨T,S,lim,fl,sm,rfl,t1,t2,t3,t4,t9,t13,t16,t19,t20,s0,hfl,hlim⟩
     have hfl':fl=true→(all < sm)=False:=fun h=>by have:=hfl h; simp; omega
     have k46o:=c46 (kk:=kk) (kk2:=ko) (hb.grow g2) hd (hx.grow g2) hf hlen (hy.grow g2) H2 (Grow.refl _) hF2
     cases hC:chI b p os with
     | false =>
      rw [hC] at k46o
      cases fl
      case' true=>have hflt:=hfl' rfl; simp (maxDischargeDepth:=8) only [↓SD,SU,SV,SW,simprocAttr,Int.cast_ofNat_Int,small,resV, t1,t2,t3,t4,t9,t13,t16,t19,t20,s0,l1,l2,l3,l4,i1,hflt,k46o,c25,R7,N7]
      case' false=>simp (maxDischargeDepth:=8) only [↓SD,SU,SV,SW,simprocAttr,Int.cast_ofNat_Int,small,resV, t1,t2,t3,t4,t9,t13,t16,t19,t20,s0,l1,l2,l3,l4,i1,k46o,c25,R7,N7]
      all_goals
       rw [gc_ite (by omega)]; simp [flat]
     | true =>
      rw [hC] at k46o
      obtain ⟨q,rfl,hq,hqc⟩:=chI_list hlen hC
      have k47:=c47 (k1:=ko) (k2:=m1) (hy.grow g2) sC (by omega) (by omega) H2 (Grow.refl _)
      rw [bef_castL,chain_first hf.n1 ht hq hqc] at k47
      have k30o:=c30 (kk:=ko) (st:Int) hy (by omega) H2 g2
      rw [any_castL] at k30o
      have hS2:decide (st∈q)=true→(((SP:Nat):Int)=0)=True:=fun h=>by have:=hzq q hq hqc (by simpa using h); simp; omega
      generalize decide (st∈q)=bq at k30o hS2
      cases fl <;> cases bq
      case' true.true=>have hflt:=hfl' rfl; have hz2:=hS2 rfl; simp (maxDischargeDepth:=8) only [↓SD,SU,SV,SW,simprocAttr,Int.cast_ofNat_Int,small,resV, t1,t2,t3,t4,t9,t13,t16,t19,t20,s0,l1,l2,l3,l4,i1,hflt,hz2,k46o,k47,k30o,c25,R7,N7]
      case' true.false=>have hflt:=hfl' rfl; simp (maxDischargeDepth:=8) only [↓SD,SU,SV,SW,simprocAttr,Int.cast_ofNat_Int,small,resV, t1,t2,t3,t4,t9,t13,t16,t19,t20,s0,l1,l2,l3,l4,i1,hflt,k46o,k47,k30o,c25,R7,N7]
      case' false.true=>have hz2:=hS2 rfl; simp (maxDischargeDepth:=8) only [↓SD,SU,SV,SW,simprocAttr,Int.cast_ofNat_Int,small,resV, t1,t2,t3,t4,t9,t13,t16,t19,t20,s0,l1,l2,l3,l4,i1,hz2,k46o,k47,k30o,c25,R7,N7]
      case' false.false=>simp (maxDischargeDepth:=8) only [↓SD,SU,SV,SW,simprocAttr,Int.cast_ofNat_Int,small,resV, t1,t2,t3,t4,t9,t13,t16,t19,t20,s0,l1,l2,l3,l4,i1,k46o,k47,k30o,c25,R7,N7]
      all_goals
       rw [gc_ite (by omega)]; simp [flat]
    ·intro K hK
     refine loop_ind (G:=(·=_)) (fun j σ=>∃T S sm lim,σ=⟨T,S,[],H2,lim,251,false⟩∧get T 1=.slice a l kk∧get T 2=.slice ao lO ko∧get T 3=.int .i64 (st:Nat)∧get T 4=.pointer (some ⟨4,0,some 1⟩)∧get T 9=.slice a1 t.length m1∧get T 13=.int .i64 (SP:Nat)∧get T 16=.int .i64 all∧get T 19=.int .i64 sm∧get T 20=.bool true∧get T 21=.int .i64 (j:Nat)∧sget S 4=(1,.cells [.int .i64 r.app,.slice r.ba r.bl r.bk,.slice r.sa r.sl r.sk])∧(0≤sm∧sm≤15*j∧H.length≤lim∧∃q:List Nat,os.take j=castL q∧waits (follows b p) q=true∧(∀x∈q,x < b.strokes.length)∧sm=sumH (dW b) q)) (lO) ?_ ?_ 0 _ (Nat.zero_le _) ⟨_,_,_,_,rfl,(by first | (simp [get_set,t1,t2,t3,t4,t9,t11,t13,t15,t16,t18]; done) | rfl),(by first | (simp [get_set,t1,t2,t3,t4,t9,t11,t13,t15,t16,t18]; done) | rfl),(by first | (simp [get_set,t1,t2,t3,t4,t9,t11,t13,t15,t16,t18]; done) | rfl),(by first | (simp [get_set,t1,t2,t3,t4,t9,t11,t13,t15,t16,t18]; done) | rfl),(by first | (simp [get_set,t1,t2,t3,t4,t9,t11,t13,t15,t16,t18]; done) | rfl),(by first | (simp [get_set,t1,t2,t3,t4,t9,t11,t13,t15,t16,t18]; done) | rfl),(by first | (simp [get_set,t1,t2,t3,t4,t9,t11,t13,t15,t16,t18]; done) | rfl),(by first | (simp [get_set,t1,t2,t3,t4,t9,t11,t13,t15,t16,t18]; done) | rfl),(by first | (simp [get_set,t1,t2,t3,t4,t9,t11,t13,t15,t16,t18]; done) | rfl),(by first | (simp [get_set,t1,t2,t3,t4,t9,t11,t13,t15,t16,t18]; done) | rfl),(by first | rfl | exact s0),⟨Int.le_refl 0,by omega,by omega,[],rfl,rfl,fun x h=>(by cases h),(by rfl)⟩⟩
     ·rintro c' j s hj ⟨T,S,sm,lim,rfl,t1,t2,t3,t4,t9,t13,t16,t19,t20,t21,s0,hp⟩ ih
      obtain ⟨hs0,hs1,hlim,q,hqt,hqw,hqn,hqs⟩:=hp
      obtain ⟨xb,xo,x,hxa,hxx,fx⟩:=hy.i1 (j:=j) hj
      have fx1:=fx H2 g2
      have iax:vv (.ia 1) [.slice ao lO ko,.int .i64 (j:Nat)]=some (.pointer (some ⟨xb,xo+j*1,none⟩)):=by rw [hxa]; exact vv_iaN 1 xb xo j _ _ _ hj
      have k44x:=c44 hb hd x H2 g2
      have hw:=wrap_succ j (by omega)
      cases hSx:isStroke b x with
      | false =>
       rw [hSx] at k44x
       simp (maxDischargeDepth:=8) only [↓SD,SU,SV,SW,simprocAttr,Int.cast_ofNat_Int,small,resV, q7x0,t1,t2,t3,t4,t9,t13,t16,t19,t20,t21,s0, s0,lt_nat,hj,l1,l2,l3,l4,i1,iax,fx1,k44x]
       exact hK _ ⟨_,_,_,false,sm,rfl,by simp [get_set,t1],by simp [get_set,t2],by simp [get_set,t3],by simp [get_set,t4],by simp [get_set,t9],by simp [get_set,t13],by simp [get_set,t16],by simp [get_set,t19],by simp [get_set],(by first | exact s0 | simp [sget_sset,s0]),fun h=>(by cases h),by omega⟩
      | true =>
      rw [hSx] at k44x
      obtain ⟨n,rfl,hn⟩:=stroke_nat hSx
      obtain ⟨sb,so,xk,e1,e2,e3,e4,e5,e6,e7⟩:=stro n hn
      have hdn:=hdb n
      have hws:IntKind.wrap .i64 (sm+dW b n)=sm+dW b n:=wrap_id _ (by omega) (by omega)
      have hq1:os.take (j+1)=castL (q++[n]):=by rw [take_get hxx,hqt]; simp [castL]
      have hqn1:∀x∈q++[n],x < b.strokes.length:=fun x hx=>by
       rcases List.mem_append.1 hx with h | h
       ·exact hqn x h
       ·simp at h; omega
      have hqs1:sm+dW b n=sumH (dW b) (q++[n]):=by rw [sumH_app,hqs]; simp [sumH]
      rcases Nat.eq_zero_or_pos j with hj0 | hj0
      ·have zc:((0:Int) < ((j:Nat):Int))=False:=by simp; omega
       have hqe:q=[]:=by
        rw [hj0] at hqt
        cases q with
        | nil=>rfl
        | cons y q=>simp [castL] at hqt
       simp (maxDischargeDepth:=8) only [↓SD,SU,SV,SW,simprocAttr,Int.cast_ofNat_Int,small,resV, q7x0,t1,t2,t3,t4,t9,t13,t16,t19,t20,t21,s0, s0,lt_nat,hj,l1,l2,l3,l4,i1,iax,fx1,k44x,zc,e1,e2,hws,hw]
       exact ih _ ⟨_,_,(sm+dW b n),(_),rfl,(by simp [get_set,t1] <;> omega),(by simp [get_set,t2] <;> omega),(by simp [get_set,t3] <;> omega),(by simp [get_set,t4] <;> omega),(by simp [get_set,t9] <;> omega),(by simp [get_set,t13] <;> omega),(by simp [get_set,t16] <;> omega),(by simp [get_set,t19] <;> omega),(by simp [get_set,t20] <;> omega),(by simp [get_set,t21] <;> omega),by simp [sget_sset,s0],⟨by omega,by omega,by omega,q++[n],hq1,by rw [hqe]; rfl,hqn1,hqs1⟩⟩
      ·have zc:((0:Int) < ((j:Nat):Int))=True:=by simp; omega
       obtain ⟨i,rfl⟩:∃i,j=i+1:=⟨j - 1,by omega⟩
       obtain ⟨yb,yo,y,hya,hyy,fy⟩:=hy.i1 (j:=i) (by omega)
       have fy1:=fy H2 g2
       have iay:vv (.ia 1) [.slice ao lO ko,.int .i64 (i:Nat)]=some (.pointer (some ⟨yb,yo+i*1,none⟩)):=by rw [hya]; exact vv_iaN 1 yb yo i _ _ _ (by omega)
       have wsub:IntKind.wrap .i64 (((i+1:Nat):Int) - 1)=((i:Nat):Int):=by rw [wrap_id _ (by omega) (by omega)]; omega
       obtain ⟨m,hm,rfl⟩:∃m:Nat,q.getLast?=some m∧(m:Int)=y:=by
        have h3:=congrArg List.getLast? hqt
        rw [take_get hyy,List.getLast?_concat] at h3
        unfold castL at h3
        rw [List.getLast?_map] at h3
        cases h4:q.getLast? with
        | none=>rw [h4] at h3; cases h3
        | some m=>rw [h4] at h3; cases h3; exact ⟨m,rfl,rfl⟩
       have hmn:=hqn m (List.mem_of_getLast? hm)
       by_cases hle:(n:Int)≤(m:Int)
       case pos =>
        simp (maxDischargeDepth:=8) only [↓SD,SU,SV,SW,simprocAttr,Int.cast_ofNat_Int,small,resV, q7x0,t1,t2,t3,t4,t9,t13,t16,t19,t20,t21,s0, s0,lt_nat,hj,l1,l2,l3,l4,i1,iax,fx1,k44x,zc,wsub,iay,fy1,hle]
        exact hK _ ⟨_,_,_,false,sm,rfl,by simp [get_set,t1],by simp [get_set,t2],by simp [get_set,t3],by simp [get_set,t4],by simp [get_set,t9],by simp [get_set,t13],by simp [get_set,t16],by simp [get_set,t19],by simp [get_set],(by first | exact s0 | simp [sget_sset,s0]),fun h=>(by cases h),by omega⟩
       obtain ⟨pb,po,v1,hp1,hpv1,f1⟩:=hx.i1 (j:=m) (by omega)
       obtain ⟨pc,pd,v2,hp2,hpv2,f2⟩:=hx.i1 (j:=n) (by omega)
       have f1':=f1 H2 g2
       have f2':=f2 H2 g2
       have ip1:vv (.ia 1) [.slice a l kk,.int .i64 (m:Nat)]=some (.pointer (some ⟨pb,po+m*1,none⟩)):=by rw [hp1]; exact vv_iaN 1 pb po m _ _ _ (by omega)
       have ip2:vv (.ia 1) [.slice a l kk,.int .i64 (n:Nat)]=some (.pointer (some ⟨pc,pd+n*1,none⟩)):=by rw [hp2]; exact vv_iaN 1 pc pd n _ _ _ (by omega)
       have hfo:=follows_at hpv1 hpv2 e5
       have good:follows b p m n=true→waits (follows b p) (q++[n])=true:=fun h=>waits_snoc hqw fun k hk=>by
        rw [hm] at hk
        cases hk
        rw [h,Bool.and_true]; simp; omega
       by_cases hpe:v1=v2
       ·have hg:=good (by rw [hfo]; simp [hpe])
        simp (maxDischargeDepth:=8) only [↓SD,SU,SV,SW,simprocAttr,Int.cast_ofNat_Int,small,resV, q7x0,t1,t2,t3,t4,t9,t13,t16,t19,t20,t21,s0, s0,lt_nat,hj,l1,l2,l3,l4,i1,iax,fx1,k44x,zc,wsub,iay,fy1,hle,ip1,ip2,f1',f2',hpe,e1,e2,hws,hw]
        exact ih _ ⟨_,_,(sm+dW b n),(_),rfl,(by simp [get_set,t1] <;> omega),(by simp [get_set,t2] <;> omega),(by simp [get_set,t3] <;> omega),(by simp [get_set,t4] <;> omega),(by simp [get_set,t9] <;> omega),(by simp [get_set,t13] <;> omega),(by simp [get_set,t16] <;> omega),(by simp [get_set,t19] <;> omega),(by simp [get_set,t20] <;> omega),(by simp [get_set,t21] <;> omega),by simp [sget_sset,s0],⟨by omega,by omega,by omega,q++[n],hq1,hg,hqn1,hqs1⟩⟩
       ·have k30n:=c30 (kk:=xk.m) (m:Int) e6 e7 H2 g2
        cases hA:xk.s.needs.any fun x=>decide (x=(m:Int)) with
        | false =>
         rw [hA] at k30n
         simp (maxDischargeDepth:=8) only [↓SD,SU,SV,SW,simprocAttr,Int.cast_ofNat_Int,small,resV, q7x0,t1,t2,t3,t4,t9,t13,t16,t19,t20,t21,s0, s0,lt_nat,hj,l1,l2,l3,l4,i1,iax,fx1,k44x,zc,wsub,iay,fy1,hle,ip1,ip2,f1',f2',hpe,e1,e2,e3,e4,k30n]
         exact hK _ ⟨_,_,_,false,sm,rfl,by simp [get_set,t1],by simp [get_set,t2],by simp [get_set,t3],by simp [get_set,t4],by simp [get_set,t9],by simp [get_set,t13],by simp [get_set,t16],by simp [get_set,t19],by simp [get_set],(by first | exact s0 | simp [sget_sset,s0]),fun h=>(by cases h),by omega⟩
        | true =>
         rw [hA] at k30n
         have hg:=good (by rw [hfo,hA,Bool.or_true])
         simp (maxDischargeDepth:=8) only [↓SD,SU,SV,SW,simprocAttr,Int.cast_ofNat_Int,small,resV, q7x0,t1,t2,t3,t4,t9,t13,t16,t19,t20,t21,s0, s0,lt_nat,hj,l1,l2,l3,l4,i1,iax,fx1,k44x,zc,wsub,iay,fy1,hle,ip1,ip2,f1',f2',hpe,e1,e2,e3,e4,k30n,hws,hw]
         exact ih _ ⟨_,_,(sm+dW b n),(_),rfl,(by simp [get_set,t1] <;> omega),(by simp [get_set,t2] <;> omega),(by simp [get_set,t3] <;> omega),(by simp [get_set,t4] <;> omega),(by simp [get_set,t9] <;> omega),(by simp [get_set,t13] <;> omega),(by simp [get_set,t16] <;> omega),(by simp [get_set,t19] <;> omega),(by simp [get_set,t20] <;> omega),(by simp [get_set,t21] <;> omega),by simp [sget_sset,s0],⟨by omega,by omega,by omega,q++[n],hq1,hg,hqn1,hqs1⟩⟩
     ·rintro c' s ⟨T,S,sm,lim,rfl,t1,t2,t3,t4,t9,t13,t16,t19,t20,t21,s0,hp⟩
      obtain ⟨hs0,hs1,hlim,q,hqt,hqw,hqn,hqs⟩:=hp
      have hsw:=hwa q hqw hqn
      simp (maxDischargeDepth:=8) only [↓SD,SU,SV,SW,simprocAttr,Int.cast_ofNat_Int,small,resV, q7x0,t1,t2,t3,t4,t9,t13,t16,t19,t20,t21,s0, s0,lt_nat,Nat.lt_irrefl,l1,l2,l3,l4,i1]
      exact hK _ ⟨_,_,_,true,sm,rfl,by simp [get_set,t1],by simp [get_set,t2],by simp [get_set,t3],by simp [get_set,t4],by simp [get_set,t9],by simp [get_set,t13],by simp [get_set,t16],by simp [get_set,t19],by simp [get_set,t20],s0,fun _=>by rw [hqs]; exact hsw,by omega⟩
end Go.Pi.L.Ben
