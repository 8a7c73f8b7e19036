/- Coats: the days of coats, in plans that surely hold. -/
import Derived.Test.YtjidjpcnocddeaaGreatDoorDE
import Derived.Test.YtjidjpcnocddeaaGreatDoorDP
set_option linter.all false
set_option maxRecDepth 100000
namespace Go.Pi.L
open Go Go.Pi
theorem LL.tail {H:Heap}{b off n m:Nat}{x:List Int}{xs:List (List Int)}(h:LL H (some ⟨b,off,Option.none⟩) (n+1) (x :: xs)) :
  ∃a' m',VOp.ev.slc 1 (some ⟨b,off,Option.none⟩) (n+1) m 1 (n+1:Nat)=some (.slice a' n m')∧LL H a' n xs:=by
 have hl:xs.length=n:=by have:=h.len; simpa using this
 unfold VOp.ev.slc
 rw [if_pos (by omega)]
 simp only
 by_cases h0:n=0
 ·subst h0
  rw [if_neg (by omega)]
  exact ⟨_,0,rfl,hl,.inr ⟨_,_,rfl⟩,fun j y hj=>by have:=(List.getElem?_eq_some_iff.1 hj).1; omega⟩
 ·rw [if_pos (by omega)]
  refine ⟨_,_,by rw [show (((n+1:Nat):Int) - 1).toNat=n by omega],hl,.inr ⟨_,_,rfl⟩,fun j y hj=>?_⟩
  obtain ⟨b',off',c,a',m',h1,h2,h3,h4⟩:=h.rd (j+1) y (by simpa using hj)
  cases h1
  exact ⟨_,_,c,a',m',rfl,h2,by rw [show off+Int.toNat 1*1+j=off+(j+1) by simp; omega]; exact h3,h4⟩
end Go.Pi.L
namespace Go.Pi.L.Coa
open Go Go.Pi Go.Pi.L Go.Pi.Coa CM

theorem c97 {H:Heap}{a:Option Addr}{m:Nat}{p:List Int}(hq:Ints H a p.length p)(h0:0 < p.length)(hl:p.length < 1000)(hb:∀x∈p,0≤x∧x < 1000) :
  ∀H',Grow H H'→R (.func 97) [.slice a p.length m] H'=some ⟨.ok (.int .i64 (lng p)),H',H'.length⟩:=by
 intro H' hg
 refine run_k (pr 97) P97 (by simp [p97]) rfl ?_
 have l1:=hq.isLoc m
 obtain ⟨k,hk⟩:∃k,p.length=k+1:=⟨p.length - 1,by omega⟩
 obtain ⟨b,off,x,rfl,hx,f0⟩:=hq.i1 (j:=0) h0
 obtain ⟨b2,off2,y,hb2,hy,f1⟩:=hq.i1 (j:=k) (by omega)
 cases hb2
 have w1:IntKind.wrap .i64 (((p.length:Nat):Int) - 1)=(k:Nat):=by rw [wrap_id _ (by omega) (by omega)]; omega
 have hx2:=hb x (List.mem_of_getElem? hx)
 have hy2:=hb y (List.mem_of_getElem? hy)
 have e:lng p=y - x:=by
  cases p with
  | nil=>simp at h0
  | cons z p =>
   simp at hx; subst hx
   have:(z :: p).getLast?=some y:=by rw [List.getLast?_eq_getElem?,hk,Nat.add_sub_cancel]; exact hy
   rw [lng,List.getLastD_eq_getLast?,this]; rfl
 have w2:IntKind.wrap .i64 (y - x)=lng p:=by rw [e]; exact wrap_id _ (by omega) (by omega)
 have hkl:k < p.length:=by omega
 have f0':=f0 H' hg
 rw [Nat.zero_mul,Nat.add_zero] at f0'
 have ia1:vv (.ia 1) [.slice (some ⟨b,off,none⟩) p.length m,.int .i64 0]=some (.pointer (some ⟨b,off,none⟩)):=by have:=vv_iaN 1 b off 0 p.length m .i64 h0; simpa using this
 simp (maxDischargeDepth:=8) only [↓SD,SU,SV,SW,simprocAttr,Int.cast_ofNat_Int,small,resV, B97,R97,N97,b97, l1,w1,hkl,f1,hg,ia1,f0',w2,R97,N97]
theorem c98 {H:Heap}{a a':Option Addr}{m m':Nat}{p q:List Int}(hq:Ints H a p.length p)(h0:0 < p.length)(hl:p.length < 1000)(hb:∀x∈p,0≤x∧x < 1000)(hq':Ints H a' q.length q)(h0':0 < q.length)(hl':q.length < 1000)(hb':∀x∈q,0≤x∧x < 1000) :
  ∀H',Grow H H'→R (.func 98) [.slice a p.length m,.slice a' q.length m'] H'=some ⟨.ok (.bool (decide (lng p < lng q))),H',H'.length⟩:=by
 intro H' hg
 refine run_k (pr 98) P98 (by simp [p98]) rfl ?_
 have l1:=hq.isLoc m
 have l2:=hq'.isLoc m'
 have k1:=c97 (m:=m) hq h0 hl hb H' hg
 have k2:=c97 (m:=m') hq' h0' hl' hb' H' hg
 simp (maxDischargeDepth:=8) only [↓SD,SU,SV,SW,simprocAttr,Int.cast_ofNat_Int,small,resV, B98,R98,N98,b98, l1,l2,k1,k2,R98,N98]
end Go.Pi.L.Coa
set_option maxRecDepth 100000
namespace Go.Pi.L.Coa
open Go Go.Pi Go.Pi.L Go.Pi.Coa CM

structure Fine (L:List (List Int)):Prop where
 pos:∀p∈L,0 < p.length
 len:∀p∈L,p.length < 1000
 rng:∀p∈L,∀x∈p,0≤x∧x < 1000
 inc:∀p∈L,rises p=true
theorem fine_all {s:Sheet}(hS:ShFine s):Fine (allP s):=by
 have key:∀p∈allP s,isPlan s p=true:=fun p hp=>((mem_allP hS).1 hp).1
 have c1:=hS.c1
 have c2:=hS.c2
 have d2:=hS.d2
 refine ⟨fun p hp=>by have:=(plan_of hS (key p hp)).len; omega,fun p hp=>by have:=(plan_of hS (key p hp)).len; omega,fun p hp x hx=>?_,fun p hp=>((isPlan_iff).1 (key p hp)).2.1⟩
 have:=hS.work x ((plan_of hS (key p hp)).work x hx)
 omega
theorem c95 {H:Heap}{a:Option Addr}{l m:Nat}{p:List Int}{L:List (List Int)}(hL:LL H a l (p :: L))(hl:l < 1000000){g:FuncId}(f:List Int→List Int→Bool)(H':Heap)(hg:Grow H H')
  (hf:∀x∈p :: L,∀y∈p :: L,∀a b m k,Ints H a x.length x→Ints H b y.length y→R (.func g) [.slice a x.length m,.slice b y.length k] H'=some ⟨.ok (.bool (f x y)),H',H'.length⟩) :
  Yes (R (.func 95) [.slice a l m,.func (.func g) #[] #[]] H') (fun o=>∃a' m',o=⟨.ok (.slice a' (bst f p L).length m'),H',H'.length⟩∧Ints H a' (bst f p L).length (bst f p L)):=by
 refine run_y (pr 95) P95 (by simp [p95]) rfl ?_
 have hlen:=hL.len
 have hlp:l=L.length+1:=by rw [←hlen]; rfl
 subst hlp
 have l1:=hL.isLoc (L.length+1) m
 obtain ⟨b,off,xs,a0,m0,rfl,hx,f0,hq⟩:=hL.get (j:=0) (by omega)
 simp at hx; subst hx
 have f0':=f0 H' hg
 rw [Nat.zero_mul,Nat.add_zero] at f0'
 have hq':Ints H a0 p.length p:=hq
 have l2:=hq'.isLoc m0
 have ia1:vv (.ia 1) [.slice (some ⟨b,off,none⟩) (L.length+1) m,.int .i64 0]=some (.pointer (some ⟨b,off,none⟩)):=by have:=vv_iaN 1 b off 0 (L.length+1) m .i64 (by omega); simpa using this
 obtain ⟨at_,mt,hs,hT⟩:=hL.tail (m:=m)
 have hsl:=vv_sll' 1 (some ⟨b,off,none⟩) (L.length+1) m 1 .i64 l1
 rw [hs] at hsl
 have l3:=hT.isLoc L.length mt
 simp (maxDischargeDepth:=8) only [↓SD,SU,SV,SW,simprocAttr,Int.cast_ofNat_Int,small,resV, B95,R95,N95,b95, l1,l2,l3,ia1,f0',hsl]
 refine loop_ind (G:=(Yes · (fun o:Out=>∃a' m',o=⟨.ok (.slice a' (bst f p L).length m'),H',H'.length⟩∧Ints H a' (bst f p L).length (bst f p L)))) (fun j σ=>∃T ao mo,σ=⟨T,[],[],H',(H').length,25,false⟩∧get T 1=.func (.func g) #[] #[]∧get T 5=.slice ao (bst f p (L.take j)).length mo∧get T 12=.slice at_ L.length mt∧get T 13=.int .i64 L.length∧get T 14=.int .i64 (j:Nat)∧(Ints H ao (bst f p (L.take j)).length (bst f p (L.take j)))) (L.length) ?_ ?_ 0 _ (Nat.zero_le _) ⟨_,_,_,rfl,rfl,rfl,rfl,rfl,rfl,hq'⟩
 ·rintro c' j s hj ⟨T,ao,mo,rfl,t1,t5,t12,t13,t14,hp⟩ ih
  obtain ⟨b2,off2,x,a2,m2,rfl,hx,f2,hq2⟩:=hT.get hj
  have f2':=f2 H' hg
  have hq2':Ints H a2 x.length x:=hq2
  have l4:=hq2'.isLoc m2
  have l5:=hp.isLoc mo
  have hw1:=wrap_succ j (by omega)
  have hm:bst f p (L.take j)∈p :: L:=by
   rcases List.mem_cons.1 (bst_mem (f:=f) (L:=L.take j) (p:=p)) with h | h
   ·rw [h]; exact List.mem_cons_self ..
   ·exact List.mem_cons_of_mem _ (List.mem_of_mem_take h)
  have k:=hf x (List.mem_cons_of_mem _ (List.mem_of_getElem? hx)) _ hm a2 ao m2 mo hq2' hp
  have e:=fold_succ (fun o x=>if f x o=true then x else o) p hx
  have e':bst f p (L.take (j+1))=if f x (bst f p (L.take j))=true then x else bst f p (L.take j):=e
  have ia2:vv (.ia 1) [.slice (some ⟨b2,off2,none⟩) L.length mt,.int .i64 (j:Nat)]=some (.pointer (some ⟨b2,off2+j*1,none⟩)):=vv_iaN 1 b2 off2 j _ _ _ hj
  cases hb:f x (bst f p (L.take j)) with
  | true =>
   rw [hb] at k e'
   rw [if_pos rfl] at e'
   simp only [e'] at ih
   simp (maxDischargeDepth:=8) only [↓SD,SU,SV,SW,simprocAttr,Int.cast_ofNat_Int,small,resV, q95x0,t1,t5,t12,t13,t14, lt_nat,hj,l1,l2,l3,l4,l5,ia2,f2',k,hw1]
   exact ih _ ⟨_,(a2),(m2),rfl,(by simp [get_set,t1] <;> omega),(by simp [get_set,t5] <;> omega),(by simp [get_set,t12] <;> omega),(by simp [get_set,t13] <;> omega),(by simp [get_set,t14] <;> omega),hq2'⟩
  | false =>
   rw [hb] at k e'
   rw [if_neg (by simp)] at e'
   simp only [e'] at ih
   simp (maxDischargeDepth:=8) only [↓SD,SU,SV,SW,simprocAttr,Int.cast_ofNat_Int,small,resV, q95x0,t1,t5,t12,t13,t14, lt_nat,hj,l1,l2,l3,l4,l5,ia2,f2',k,hw1]
   exact ih _ ⟨_,(ao),(mo),rfl,(by simp [get_set,t1] <;> omega),(by simp [get_set,t5] <;> omega),(by simp [get_set,t12] <;> omega),(by simp [get_set,t13] <;> omega),(by simp [get_set,t14] <;> omega),hp⟩
 ·rintro c' s ⟨T,ao,mo,rfl,t1,t5,t12,t13,t14,hp⟩
  rw [List.take_length] at hp t5
  have l5:=hp.isLoc mo
  simp (maxDischargeDepth:=8) only [↓SD,SU,SV,SW,simprocAttr,Int.cast_ofNat_Int,small,resV, q95x0,t1,t5,t12,t13,t14, lt_nat,Nat.lt_irrefl,l1,l2,l3,l5,R95,N95]
  rw [yes_some]
  by_cases hfl:flat 4 (.slice ao (bst f p L).length mo)=true
  ·rw [gc_ite (Nat.le_refl _),if_pos hfl]; exact ⟨ao,mo,rfl,hp⟩
  ·rw [gc_ite (Nat.le_refl _),if_neg hfl]; exact ⟨ao,mo,rfl,hp⟩
theorem c47 {H:Heap}{r:ShR}{s:Sheet}(hs:ShOk H r s)(hd:Small r):∀H',Grow H H'→Fam H'→R (.func 47) [.agg #[.slice r.da r.dl r.dk,.slice r.wa r.wl r.wk,.slice r.ca r.cl r.ck]] H'=some ⟨.ok (if isSheet s=true then (if allP s=[] then .tuple #[.int .i64 0,.int .i64 5] else .tuple #[.int .i64 (quickOf (allP s)),.int .i64 0]) else .tuple #[.int .i64 0,.int .i64 2]),H',H'.length⟩:=by
 intro H' hg hF
 refine run_k (pr 47) P47 (by simp [p47]) rfl ?_
 obtain ⟨o,ho,hq⟩:=c89 hs hd 5 H' hg hF
 cases e1:isSheet s with
 | false =>
  simp only [e1,Bool.false_eq_true,if_false] at hq ⊢
  subst hq
  simp only [errV] at ho
  simp (maxDischargeDepth:=8) only [↓SD,SU,SV,SW,simprocAttr,Int.cast_ofNat_Int,small,resV, B47,R47,N47,b47, hs.d.isLoc,hs.w.isLoc,hs.c.isLoc,ho,R47,N47]
 | true =>
 have hS:=fine_of e1
 simp only [e1,if_true] at hq ⊢
 cases hl:allP s with
 | nil =>
  rw [if_pos hl] at hq
  subst hq
  simp only [errV] at ho
  simp (maxDischargeDepth:=8) only [↓SD,SU,SV,SW,simprocAttr,Int.cast_ofNat_Int,small,resV, B47,R47,N47,b47, hs.d.isLoc,hs.w.isLoc,hs.c.isLoc,ho,R47,N47]
 | cons q qs =>
  rw [if_neg (by simp [hl])] at hq ⊢
  obtain ⟨a,m,H1,lo,rfl,u,hlo,hL⟩:=hq
  have hFi:=fine_all hS
  rw [hl] at ho hL hFi
  have l1:=hL.isLoc (q :: qs).length m
  have hll:(q :: qs).length < 1000000:=by have:=allP_len hS; rw [hl] at this; omega
  obtain ⟨o2,ho2,a2,m2,rfl,hB⟩:=c95 (m:=m) hL hll (g:=98) (fun a b=>decide (lng a < lng b)) H1 (Grow.refl _) (fun x hx y hy a b m k ha hb=>c98 ha (hFi.pos x hx) (hFi.len x hx) (hFi.rng x hx) hb (hFi.pos y hy) (hFi.len y hy) (hFi.rng y hy) H1 (Grow.refl _))
  have hm:=bst_mem (f:=fun a b=>decide (lng a < lng b)) (L:=qs) (p:=q)
  have hqk:=quick_bst (L:=qs) (p:=q) (lng_nonneg (hFi.inc q (List.mem_cons_self ..))) (fun x hx=>lng_nonneg (hFi.inc x (List.mem_cons_of_mem _ hx)))
  have hpos:=hFi.pos _ hm
  have k97:=c97 (m:=m2) hB hpos (hFi.len _ hm) (hFi.rng _ hm) H1 (Grow.refl _)
  rw [hqk] at k97
  have l2:=hB.isLoc m2
  have n1:=u.len
  have n2:H'.length≤lo:=hlo
  simp only [List.length_cons] at ho l1 ho2
  simp (maxDischargeDepth:=8) only [↓SD,SU,SV,SW,simprocAttr,Int.cast_ofNat_Int,small,resV, B47,R47,N47,b47, hs.d.isLoc,hs.w.isLoc,hs.c.isLoc,ho,l1,l2,ho2,k97,n1,n2,R47,N47]
end Go.Pi.L.Coa
