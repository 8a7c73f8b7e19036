/- Benches: the specification's hours, as they are kept. -/
import Derived.Test.YtfndfpbdgjoilaaGreatDoorDC
set_option linter.all false
set_option maxRecDepth 100000
namespace Go.Pi.L.Ben
open Go Go.Pi Go.Pi.L Go.Pi.E Go.Pi.Ben BM

theorem map_set {β:Type}{f g:Nat→β}{l j:Nat}{x:β}(hj:g j=x)(ho:∀i,i≠j→g i=f i):((List.range l).map f).set j x=(List.range l).map g:=by
 apply List.ext_getElem?
 intro i
 rw [List.getElem?_set]
 by_cases e:j=i
 ·subst e
  rw [if_pos rfl]
  by_cases h:j < l
  ·simp [h,hj]
  ·simp [h]
 ·rw [if_neg e]
  by_cases h:i < l
  ·simp [h,ho i (Ne.symm e)]
  ·simp [h]
def BJ (l j:Nat):List Int:=(List.range l).map fun i=>if i < j then (-1:Int) else 0
theorem BJ_zero (l:Nat):BJ l 0=List.replicate l 0:=by
 apply List.ext_getElem?
 intro i
 by_cases h:i < l <;> simp [BJ,h]
theorem BJ_set (l j:Nat):(BJ l j).set j (-1)=BJ l (j+1):=map_set (by simp) fun i hi=>by
 by_cases h:i < j
 ·rw [if_pos h,if_pos (by omega)]
 ·rw [if_neg h,if_neg (by omega)]
theorem BJ_all (l:Nat):BJ l l=List.replicate l (-1):=by
 apply List.ext_getElem?
 intro i
 by_cases h:i < l <;> simp [BJ,h]
def prd (F:Nat→Nat→Bool)(i k:Nat):List Nat:=(List.range k).filter fun q=>F q i
def LK (F:Nat→Nat→Bool)(l j k:Nat):List (List Nat):=(List.range l).map fun i=>if i < j then prd F i i else if i=j then prd F i k else []
theorem LK_get {F:Nat→Nat→Bool}{l j k:Nat}(h:j < l):(LK F l j k)[j]?=some (prd F j k):=by simp [LK,h]
theorem LK_next (F:Nat→Nat→Bool)(l j:Nat):LK F l j j=LK F l (j+1) 0:=by
 unfold LK
 refine List.map_congr_left fun i _=>?_
 by_cases h1:i < j
 ·rw [if_pos h1,if_pos (by omega)]
 ·by_cases h2:i=j
  ·subst h2; rw [if_neg h1,if_pos rfl,if_pos (by omega)]
  ·rw [if_neg h1,if_neg h2,if_neg (by omega)]
   split
   ·rfl
   ·rfl
theorem prd_succ (F:Nat→Nat→Bool)(i k:Nat):prd F i (k+1)=if F k i=true then prd F i k++[k] else prd F i k:=by
 unfold prd
 rw [List.range_succ,List.filter_append,List.filter_cons]
 split <;> simp
theorem LK_yes {F:Nat→Nat→Bool}{l j k:Nat}(h:F k j=true):(LK F l j k).set j (prd F j k++[k])=LK F l j (k+1):=map_set (by simp [prd_succ,h]) fun i hi=>by
 by_cases h1:i < j
 ·rw [if_pos h1,if_pos h1]
 ·rw [if_neg h1,if_neg h1,if_neg hi,if_neg hi]
theorem LK_no {F:Nat→Nat→Bool}{l j k:Nat}(h:F k j=false):LK F l j (k+1)=LK F l j k:=by
 unfold LK
 refine List.map_congr_left fun i _=>?_
 by_cases h1:i < j
 ·rw [if_pos h1,if_pos h1]
 ·by_cases h2:i=j
  ·subst h2; rw [if_neg h1,if_neg h1,if_pos rfl,if_pos rfl,prd_succ,h]; rfl
  ·rw [if_neg h1,if_neg h1,if_neg h2,if_neg h2]
theorem LK_all {F:Nat→Nat→Bool}{l j:Nat}(h:j < l):(LK F l l 0)[j]?=some (prd F j j):=by simp [LK,h]
theorem LK_zero (F:Nat→Nat→Bool)(l:Nat):LK F l 0 0=List.replicate l []:=by
 apply List.ext_getElem?
 intro i
 by_cases h:i < l <;> simp [LK,h,prd]

def QB {β:Type}(H:Heap)(k:Nat)(enc:β→List Value)(xs:List β)(o:Out):Prop :=
 ∃a m H1 lo,o=⟨.ok (.slice a xs.length m),H1,lo⟩∧Up H H1∧H.length≤lo∧Bld H.length H1 k a xs.length m (cells enc xs)
theorem gc_bl {β:Type}{H H1:Heap}{k m lo:Nat}{enc:β→List Value}{a:Option Addr}{l:Nat}{xs:List β}(hk:∀x,(enc x).length=k)(hk0:0 < k)(hs:Bld H.length H1 k a l m (cells enc xs))(hu:Up H H1)(h:H.length≤lo):QB H k enc xs (gcR H (.ok (.slice a l m)) H1 lo):=by
 obtain rfl:=(hs.sl hk hk0).len
 rw [gc_ite h]
 split
 ·rename_i hf
  obtain ⟨rfl,h0,rfl⟩:=flat_sl hf
  have:xs=[]:=List.eq_nil_of_length_eq_zero h0
  subst this
  exact ⟨none,0,H,H.length,rfl,Up.refl H,Nat.le_refl _,Bld.nil _ _ _⟩
 ·exact ⟨a,m,H1,lo,rfl,hu,h,hs⟩
structure BI (H':Heap)(l:Nat)(bs:List Int)(vs:List (Option Addr×Nat×Nat))(L:List (List Nat))(H:Heap):Prop where
 bb:Bld H'.length H 1 (some ⟨H'.length,0,none⟩) l 1 (cells encI bs)
 bv:Bld H'.length H 1 (some ⟨H'.length+1,0,none⟩) l 1 (cells encV vs)
 ll:LL H'.length (H'.length+1) H vs L
 fam:Fam H
 up:Up H' H
theorem BI.lt {H':Heap}{l:Nat}{bs:List Int}{vs:List (Option Addr×Nat×Nat)}{L:List (List Nat)}{H:Heap}(h:BI H' l bs vs L H):H'.length+1 < H.length:=h.bv.lt.2.1
theorem BI.lb {H':Heap}{l:Nat}{bs:List Int}{vs:List (Option Addr×Nat×Nat)}{L:List (List Nat)}{H:Heap}(h:BI H' l bs vs L H):bs.length=l:=(h.bb.sl encI_len (by decide)).len
theorem BI.lv {H':Heap}{l:Nat}{bs:List Int}{vs:List (Option Addr×Nat×Nat)}{L:List (List Nat)}{H:Heap}(h:BI H' l bs vs L H):vs.length=l:=(h.bv.sl encV_len (by decide)).len
theorem LL.keep {n0 n1 b:Nat}{H H1:Heap}{vs:List (Option Addr×Nat×Nat)}{L:List (List Nat)}(h:LL n0 n1 H vs L)(hb:b≤n1)
  (hk:∀{a' k' l' m' c'},Bld n0 H k' a' l' m' c'→a'≠some ⟨b,0,none⟩→Bld n0 H1 k' a' l' m' c'):LL n0 n1 H1 vs L :=
 ⟨h.len,fun i v ks hv hks=>hk (h.inn i v ks hv hks) fun e=>by have:=h.low i v b 0 hv e; omega,h.dis,h.low⟩
theorem BI.set {H':Heap}{l:Nat}{bs:List Int}{vs:List (Option Addr×Nat×Nat)}{L:List (List Nat)}{H:Heap}(h:BI H' l bs vs L H){i:Nat}(hi:i < l)(x:Int) :
  ∃H1 f,H'.length≤f∧(∀{α:Type} (call:CallT) (F:Ex→St→Option α) d kk T S D lo n rnd,stH call F (H[H'.length]?) 1 H'.length (i*1) (.int .i64 x) d kk ⟨T,S,D,H,lo,n,rnd⟩=nxt call F (some undef) d kk ⟨T,S,D,H1,min lo (min f H'.length),n,rnd⟩) ∧
   BI H' l (bs.set i x) vs L H1:=by
 obtain ⟨H1,f,f1,_,q1,q2,q3,q4,q5,q6⟩:=h.bb.put h.fam (i:=i) (v:=.int .i64 x) hi rfl rfl rfl
 have hsp:splice (cells encI bs) (i*1) (Value.int .i64 x).cells.toList=cells encI (bs.set i x):=splice_cells (enc:=encI) encI_len x (by rw [h.lb]; exact hi)
 rw [hsp] at q2
 exact ⟨H1,f,f1,q1,q2,q6 h.bv (by simp),h.ll.keep (by omega) q6,q3,q4 H' h.up (Nat.le_refl _)⟩
theorem BI.app {H':Heap}{l:Nat}{bs:List Int}{vs:List (Option Addr×Nat×Nat)}{L:List (List Nat)}{H:Heap}(h:BI H' l bs vs L H){i:Nat}(hi:i < l){v:Option Addr×Nat×Nat}{ks:List Nat}(hv:vs[i]?=some v)(hk:L[i]?=some ks)(hl:v.2.1 < 1000000)(k:Nat) :
  ∃H1 H2 f,H'.length≤f∧(∀{α:Type} (call:CallT) (F:Ex→St→Option α) d kk T S D lo n rnd,ap1 call F (some [.int .i64 k]) (.slice v.1 v.2.1 v.2.2) 1 d kk ⟨T,S,D,H,lo,n,rnd⟩=nxt call F (some (.slice (some ⟨H.length,0,none⟩) (v.2.1+1) 1)) d kk ⟨T,S,D,H1,lo,n,rnd⟩) ∧
   (∀{α:Type} (call:CallT) (F:Ex→St→Option α) d kk T S D lo n rnd,stH call F (H1[H'.length+1]?) 1 (H'.length+1) (i*1) (.slice (some ⟨H.length,0,none⟩) (v.2.1+1) 1) d kk ⟨T,S,D,H1,lo,n,rnd⟩=nxt call F (some undef) d kk ⟨T,S,D,H2,min lo (min f (H'.length+1)),n,rnd⟩) ∧
   BI H' l bs (vs.set i (some ⟨H.length,0,none⟩,v.2.1+1,1)) (L.set i (ks++[k])) H2:=by
 have hlt:=h.lt
 obtain ⟨H1,p1,p2,p3,p4⟩:=h.ll.app h.fam (by omega) hlt hv hk hl k
 have bb1:=h.bb.grown' p3 (fun e=>by have:=h.ll.low i v H'.length 0 hv e.symm; omega)
 have bv1:=h.bv.grown' p3 (fun e=>by have:=h.ll.low i v (H'.length+1) 0 hv e.symm; omega)
 have u1:=p3.up (h.ll.inn i v ks hv hk) h.up (Nat.le_refl _)
 obtain ⟨H2,f,f1,_,q1,q2,q3,q4,q5,q6⟩:=bv1.put p4 (i:=i) (v:=.slice (some ⟨H.length,0,none⟩) (v.2.1+1) 1) hi rfl rfl rfl
 have hsp:splice (cells encV vs) (i*1) (Value.slice (some ⟨H.length,0,none⟩) (v.2.1+1) 1).cells.toList=cells encV (vs.set i (some ⟨H.length,0,none⟩,v.2.1+1,1)):=splice_cells (enc:=encV) encV_len (some ⟨H.length,0,none⟩,v.2.1+1,1) (by rw [h.lv]; exact hi)
 rw [hsp] at q2
 exact ⟨H1,H2,f,f1,p1,q1,q6 bb1 (by simp),q2,p2.keep (Nat.le_refl _) q6,q3,q4 H' u1 (Nat.le_refl _)⟩
theorem rep_cells {β:Type}(enc:β→List Value)(x:β):∀n,rep n (enc x)=cells enc (List.replicate n x)
 | 0=>rfl
 | n+1=>by rw [rep,rep_cells enc x n,List.replicate_succ]; rfl
theorem mks_ok {k:Nat}{z:List Value}{bytes n:Nat}(hn:n < 1000000)(hb:bytes < 1000):mksA k z bytes (.int .i64 n) (.int .i64 n)=some ⟨.cells (rep n z),true,fun i=>.slice (some ⟨i,0,none⟩) n k⟩:=by
 unfold mksA small
 simp only
 rw [if_pos (by omega)]; simp
theorem BI.new {H':Heap}(hF:Fam H')(l:Nat):BI H' l (List.replicate l 0) (List.replicate l (none,0,0)) (List.replicate l []) (H'++[({ obj:=.cells (rep l [.int .i64 0]),fam:=some H'.length }:Blk)]++[({ obj:=.cells (rep l [.slice none 0 0]),fam:=some (H'.length+1) }:Blk)]):=by
 have e1:rep l [.int .i64 0]=cells encI (List.replicate l 0):=rep_cells encI 0 l
 have e2:rep l [.slice none 0 0]=cells encV (List.replicate l (none,0,0)):=rep_cells encV (none,0,0) l
 rw [e1,e2]
 refine ⟨⟨by rw [cells_len encI_len]; simp,.inr ⟨H'.length,H'.length,rfl,rfl,Nat.le_refl _,Nat.le_refl _,by simp⟩⟩,⟨by rw [cells_len encV_len]; simp,.inr ⟨H'.length+1,H'.length+1,rfl,rfl,by omega,by omega,by simp⟩⟩,⟨by simp,fun i v ks hv hks=>?_,fun i j v w hv _ _ _=>?_,fun i v b off hv hb=>?_⟩,Fam.app1 (Fam.app1 hF (Nat.le_refl _)) (by simp),(Up.refl _).app.app⟩
 ·have e3:=List.eq_of_mem_replicate (List.mem_of_getElem? hv)
  have e4:=List.eq_of_mem_replicate (List.mem_of_getElem? hks)
  subst e3; subst e4
  exact Bld.nil _ _ _
 ·rw [List.eq_of_mem_replicate (List.mem_of_getElem? hv)]
 ·rw [List.eq_of_mem_replicate (List.mem_of_getElem? hv)] at hb
  cases hb
theorem ready_hb {F:Nat→Nat→Bool}{dur:Nat→Int}{N now j:Nat}(hd:∀n,1≤dur n)(hj:j < N):readyB (BM.hb F dur N now j) ((List.range N).map dur) now (prd F j j)=decide (bN F dur j≤now):=by
 have key:∀k,k < j→((!(decide ((BM.hb F dur N now j).getD k 0 < 0)||decide ((now:Int) < (BM.hb F dur N now j).getD k 0+((List.range N).map dur).getD k 0)))=true↔BM.begun F dur now j k=true∧bN F dur k+dur k≤now):=by
  intro k hk
  have h0:=bN_nonneg F dur k
  have hdk:=hd k
  rw [getD_of (hb_get (by omega)),getD_of (x:=dur k) (by simp [show k < N by omega])]
  by_cases q:BM.begun F dur now j k=true
  ·rw [if_pos q]
   simp only [Bool.not_eq_true',Bool.or_eq_false_iff,decide_eq_false_iff_not,q,true_and]
   omega
  ·rw [if_neg q]
   simp [q]
 rw [Bool.eq_iff_iff,decide_eq_true_iff,←ready_iff hd]
 unfold readyB prd
 rw [List.all_eq_true]
 constructor
 ·intro h k hk hF
  exact (key k hk).1 (h k (List.mem_filter.2 ⟨List.mem_range.2 hk,hF⟩))
 ·intro h k hk
  obtain ⟨h1,h2⟩:=List.mem_filter.1 hk
  exact (key k (List.mem_range.1 h1)).2 (h k (List.mem_range.1 h1) h2)
end Go.Pi.L.Ben
set_option maxRecDepth 100000
namespace Go.Pi.L.Ben
open Go Go.Pi Go.Pi.L Go.Pi.E Go.Pi.Ben BM

theorem app2_cells {H:Heap}{b1 b2:Blk}:(H++[b1]++[b2]).length=H.length+2:=by simp
theorem max_hour {F:Nat→Nat→Bool}{dur:Nat→Int}{N:Nat}(hN:0 < N):∃M:Nat,(∀j,j < N→bN F dur j < M)∧∀now,now < M→∃j,j < N∧(now:Int)≤bN F dur j:=by
 obtain ⟨h1,h2,h3⟩:=lastH_spec ((List.range N).map (bN F dur))
 refine ⟨(lastH ((List.range N).map (bN F dur))).toNat+1,fun j hj=>?_,fun now hnow=>?_⟩
 ·have:=h2 (bN F dur j) (List.mem_map.2 ⟨j,List.mem_range.2 hj,rfl⟩); omega
 ·rcases h3 with h3 | h3
  ·exact ⟨0,hN,by have:=bN_nonneg F dur 0; omega⟩
  ·obtain ⟨j,hj,e⟩:=List.mem_map.1 h3
   exact ⟨j,List.mem_range.1 hj,by rw [e]; omega⟩
theorem c82 {H:Heap}{r:BeR}{b:Bench}{a:Option Addr}{l kk:Nat}{p:List Int}{ah:Option Addr}{mh:Nat}{dur:Nat→Int}(hb:BeOk H r b)(hd:SmB r)(hx:Ints H a l p)(hf:Fine b)(hlen:p.length=b.strokes.length)
  (hh:Ints H ah l ((List.range b.strokes.length).map dur)) (hdu:∀n,1≤dur n∧dur n≤15) :
  ∀H',Grow H H'→Fam H'→Yes (R (.func 82) [.agg #[.int .i64 r.app,.slice r.ba r.bl r.bk,.slice r.sa r.sl r.sk],.slice a l kk,.slice ah l mh] H') (QB H' 1 encI ((List.range b.strokes.length).map (bN (follows b p) dur))):=by
 intro H' hg hF
 refine run_y (pr 82) P82 (by simp [p82]) rfl ?_
 have l3:=hx.isLoc kk
 have l4:=hh.isLoc mh
 have hlb:b.strokes.length=l:=by rw [←hlen]; exact hx.len
 have hsl:r.sl=l:=by rw [←hlb]; exact hb.len.symm
 have n6:=hf.n6
 have n1:=hf.n1
 rw [hlb] at hh n6 n1 ⊢
 have kf:=fun k n hk hn H3 hg3=>c91 (kk:=kk) hb hd hx hsl.symm (k:=k) (n:=n) hk hn H3 hg3
 have hbn:∀n,n < l→0≤bN (follows b p) dur n∧bN (follows b p) dur n≤100:=fun n hn=>by
  have h0:=bN_nonneg (follows b p) dur n
  have h1:=eN_le (F:=follows b p) (dur:=dur) (D:=15) (by decide) (fun n=>(hdu n).2) n
  have h2:=(hdu n).1
  unfold eN at h1
  omega
 obtain ⟨M,hM1,hM2⟩:=max_hour (F:=follows b p) (dur:=dur) (N:=l) (by omega)
 have hMle:M≤101:=by
  rcases Nat.lt_or_ge 101 M with h | h
  ·obtain ⟨j,hj,hj2⟩:=hM2 101 h
   have:=(hbn j hj).2
   omega
  ·exact h
 generalize hFF:follows b p=FF at kf hbn hM1 hM2 ⊢
 obtain ⟨app,ba,bl,bk,sa,sl,sk,xs⟩:=r
 have hB:Ints H ba bl b.boards:=hb.br
 have hS:Sl H 5 eK sa sl xs:=hb.st
 have l1:=hB.isLoc bk
 have l2:=hS.isLoc sk
 simp only at hsl kf ⊢
 subst hsl
 have hnew:=BI.new hF sl
 generalize hH0:H'++[({ obj:=.cells (rep sl [.int .i64 0]),fam:=some H'.length }:Blk)]++[({ obj:=.cells (rep sl [.slice none 0 0]),fam:=some (H'.length+1) }:Blk)]=H0 at hnew
 have hH0l:H0.length=H'.length+2:=by rw [←hH0]; exact app2_cells
 have mk1:=mks_ok (k:=1) (z:=[.int .i64 0]) (bytes:=8) (n:=sl) (by omega) (by decide)
 have mk2:=mks_ok (k:=1) (z:=[.slice none 0 0]) (bytes:=24) (n:=sl) (by omega) (by decide)
 simp (maxDischargeDepth:=8) only [↓SD,SU,SV,SW,simprocAttr,Int.cast_ofNat_Int,small,resV, B82,R82,N82,b82, l1,l2,l3,l4,mk1,mk2,hH0]
 refine loop_ind (G:=(Yes · (QB H' 1 encI ((List.range sl).map (bN FF dur))))) (fun j σ=>∃T S H3 vs lim,σ=⟨T,S,[],H3,lim,81,false⟩∧get T 1=.slice a sl kk∧get T 2=.slice ah sl mh∧get T 3=.pointer (some ⟨3,0,some 1⟩)∧get T 7=.int .i64 sl∧get T 8=.slice (some ⟨H'.length,0,none⟩) sl 1∧get T 9=.slice (some ⟨H'.length+1,0,none⟩) sl 1∧get T 10=.int .i64 (j:Nat)∧sget S 3=(1,.cells [.int .i64 app,.slice ba bl bk,.slice sa sl sk])∧(BI H' sl (BJ sl j) vs (LK FF sl j 0) H3∧H'.length≤lim)) (sl) ?_ ?_ 0 _ (Nat.zero_le _) ⟨_,_,_,_,_,rfl,rfl,rfl,rfl,rfl,rfl,rfl,rfl,rfl,⟨by rw [BJ_zero,LK_zero]; exact hnew,by omega⟩⟩
 ·rintro c' j s hj ⟨T,S,H3,vs,lim,rfl,t1,t2,t3,t7,t8,t9,t10,s0,hp⟩ ih
  obtain ⟨hI,hlim⟩:=hp
  have hIlt:=hI.lt
  have ihO:=ih
  clear ih
  obtain ⟨i,rfl⟩:∃i,i=j:=⟨j,rfl⟩
  obtain ⟨H4,f4,hf4,q1,hI4⟩:=hI.set hj (-1)
  rw [BJ_set] at hI4
  have hil:=hj
  simp (maxDischargeDepth:=8) only [↓SD,SU,SV,SW,simprocAttr,Int.cast_ofNat_Int,small,resV, q82x3,t1,t2,t3,t7,t8,t9,t10,s0, lt_nat,hj,l1,l2,l3,l4,q1]
  refine loop_ind (G:=(Yes · (QB H' 1 encI ((List.range sl).map (bN FF dur))))) (fun j σ=>∃T S H3 vs lim,σ=⟨T,S,[],H3,lim,81,false⟩∧get T 1=.slice a sl kk∧get T 2=.slice ah sl mh∧get T 3=.pointer (some ⟨3,0,some 1⟩)∧get T 7=.int .i64 sl∧get T 8=.slice (some ⟨H'.length,0,none⟩) sl 1∧get T 9=.slice (some ⟨H'.length+1,0,none⟩) sl 1∧get T 10=.int .i64 (i:Nat)∧get T 11=.int .i64 (j:Nat)∧sget S 3=(1,.cells [.int .i64 app,.slice ba bl bk,.slice sa sl sk])∧(BI H' sl (BJ sl (i+1)) vs (LK FF sl i j) H3∧H'.length≤lim)) (i) ?_ ?_ 0 _ (Nat.zero_le _) ⟨_,_,_,_,_,rfl,(by first | rfl | simp [get_set,t1,t2,t3,t7,t8,t9,t10]),(by first | rfl | simp [get_set,t1,t2,t3,t7,t8,t9,t10]),(by first | rfl | simp [get_set,t1,t2,t3,t7,t8,t9,t10]),(by first | rfl | simp [get_set,t1,t2,t3,t7,t8,t9,t10]),(by first | rfl | simp [get_set,t1,t2,t3,t7,t8,t9,t10]),(by first | rfl | simp [get_set,t1,t2,t3,t7,t8,t9,t10]),(by first | rfl | simp [get_set,t1,t2,t3,t7,t8,t9,t10]),(by first | rfl | simp [get_set,t1,t2,t3,t7,t8,t9,t10]),(by first | rfl | exact s0),⟨hI4,by omega⟩⟩
  ·rintro c' j s hj ⟨T,S,H3,vs,lim,rfl,t1,t2,t3,t7,t8,t9,t10,t11,s0,hp⟩ ih
   obtain ⟨hI,hlim⟩:=hp
   have hIlt:=hI.lt
   have k1:=kf j i (by omega) (by omega) H3 (hg.trans hI.up.grow)
   have hji:decide (j < i)=true:=by simp [hj]
   have hw:=wrap_succ j (by omega)
   rw [hji,Bool.true_and] at k1
   cases q:FF j i with
   | false =>
    rw [q] at k1
    simp (maxDischargeDepth:=8) only [↓SD,SU,SV,SW,simprocAttr,Int.cast_ofNat_Int,small,resV, q82x2,t1,t2,t3,t7,t8,t9,t10,t11,s0, lt_nat,hj,l1,l2,l3,l4,k1,hw]
    exact ih _ ⟨_,_,(H3),(vs),(_),rfl,(by simp [get_set,t1] <;> omega),(by simp [get_set,t2] <;> omega),(by simp [get_set,t3] <;> omega),(by simp [get_set,t7] <;> omega),(by simp [get_set,t8] <;> omega),(by simp [get_set,t9] <;> omega),(by simp [get_set,t10] <;> omega),(by simp [get_set,t11] <;> omega),by simp [sget_sset,s0],⟨by rw [LK_no q]; exact hI,by omega⟩⟩
   | true =>
    rw [q] at k1
    obtain ⟨v,hv,hvs,hvl⟩:=hI.ll.at (LK_get (F:=FF) (k:=j) hil)
    have hpl:(prd FF i j).length≤j:=by
     have:=List.length_filter_le (fun q=>FF q i) (List.range j)
     rw [List.length_range] at this; exact this
    obtain ⟨H5,H6,f,hf6,q1,q2,hI6⟩:=hI.app hil hv (LK_get (F:=FF) (k:=j) hil) (by omega) j
    obtain ⟨b9,o9,v9,hb9,hv9,hat⟩:=(hI.bv.sl encV_len (by decide)).at encV_len (by decide) (j:=i) hil
    rw [hv] at hv9
    cases hv9
    cases hb9
    have e9:=At.v0 hat H3 (Grow.refl _)
    rw [Nat.zero_add] at e9
    have l9:=hvs.isLoc v.2.2
    rw [LK_yes q] at hI6
    simp (maxDischargeDepth:=8) only [↓SD,SU,SV,SW,simprocAttr,Int.cast_ofNat_Int,small,resV, q82x2,t1,t2,t3,t7,t8,t9,t10,t11,s0, lt_nat,hj,hil,l1,l2,l3,l4,l9,k1,hw,e9,q1,q2]
    exact ih _ ⟨_,_,(H6),(_),(_),rfl,(by simp [get_set,t1] <;> omega),(by simp [get_set,t2] <;> omega),(by simp [get_set,t3] <;> omega),(by simp [get_set,t7] <;> omega),(by simp [get_set,t8] <;> omega),(by simp [get_set,t9] <;> omega),(by simp [get_set,t10] <;> omega),(by simp [get_set,t11] <;> omega),by simp [sget_sset,s0],⟨hI6,by omega⟩⟩
  ·rintro c' s ⟨T,S,H3,vs,lim,rfl,t1,t2,t3,t7,t8,t9,t10,t11,s0,hp⟩
   obtain ⟨hI,hlim⟩:=hp
   have hIlt:=hI.lt
   have hw:=wrap_succ i (by omega)
   simp (maxDischargeDepth:=8) only [↓SD,SU,SV,SW,simprocAttr,Int.cast_ofNat_Int,small,resV, q82x2,t1,t2,t3,t7,t8,t9,t10,t11,s0, lt_nat,Nat.lt_irrefl,l1,l2,l3,l4,hw]
   exact ihO _ ⟨_,_,_,_,_,rfl,by simp [get_set,t1],by simp [get_set,t2],by simp [get_set,t3],by simp [get_set,t7],by simp [get_set,t8],by simp [get_set,t9],by simp [get_set,t10],by simp [sget_sset,s0],by rw [←LK_next]; exact hI,by omega⟩
 ·rintro c' s ⟨T,S,H3,vs,lim,rfl,t1,t2,t3,t7,t8,t9,t10,s0,hp⟩
  obtain ⟨hI,hlim⟩:=hp
  have hIlt:=hI.lt
  have hI0:BI H' sl (BM.hb FF dur sl 0 0) vs (LK FF sl sl 0) H3:=by rw [hb_start,←BJ_all]; exact hI
  simp (maxDischargeDepth:=8) only [↓SD,SU,SV,SW,simprocAttr,Int.cast_ofNat_Int,small,resV, q82x3,t1,t2,t3,t7,t8,t9,t10,s0,lt_nat,Nat.lt_irrefl,l1,l2,l3,l4]
  refine loop_ind (G:=(Yes · (QB H' 1 encI ((List.range sl).map (bN FF dur))))) (fun j σ=>∃T S H3 lim,σ=⟨T,S,[],H3,lim,81,false⟩∧get T 2=.slice ah sl mh∧get T 3=.pointer (some ⟨3,0,some 1⟩)∧get T 7=.int .i64 sl∧get T 8=.slice (some ⟨H'.length,0,none⟩) sl 1∧get T 9=.slice (some ⟨H'.length+1,0,none⟩) sl 1∧get T 12=.int .i64 (leftN FF dur sl j 0:Nat)∧get T 13=.int .i64 (j:Nat)∧sget S 3=(1,.cells [.int .i64 app,.slice ba bl bk,.slice sa sl sk])∧(BI H' sl (BM.hb FF dur sl j 0) vs (LK FF sl sl 0) H3∧H'.length≤lim)) (M) ?_ ?_ 0 _ (Nat.zero_le _) ⟨_,_,_,_,rfl,(by first | rfl | simp [get_set,t1,t2,t3,t7,t8,t9,t10,left_start]),(by first | rfl | simp [get_set,t1,t2,t3,t7,t8,t9,t10,left_start]),(by first | rfl | simp [get_set,t1,t2,t3,t7,t8,t9,t10,left_start]),(by first | rfl | simp [get_set,t1,t2,t3,t7,t8,t9,t10,left_start]),(by first | rfl | simp [get_set,t1,t2,t3,t7,t8,t9,t10,left_start]),(by first | rfl | simp [get_set,t1,t2,t3,t7,t8,t9,t10,left_start]),(by first | rfl | simp [get_set,t1,t2,t3,t7,t8,t9,t10,left_start]),(by first | rfl | exact s0),⟨hI0,by omega⟩⟩
  ·rintro c' j s hj ⟨T,S,H3,lim,rfl,t2,t3,t7,t8,t9,t12,t13,s0,hp⟩ ih
   obtain ⟨hI,hlim⟩:=hp
   have hIlt:=hI.lt
   have ihO:=ih
   clear ih
   obtain ⟨now,rfl⟩:∃i,i=j:=⟨j,rfl⟩
   have hnow:=hj
   have hpos:(0:Int) < ((leftN FF dur sl now 0:Nat):Int):=by
    rcases Nat.eq_zero_or_pos (leftN FF dur sl now 0) with h | h
    ·exfalso
     obtain ⟨j,hj1,hj2⟩:=hM2 now hj
     have:=left_zero.1 h j hj1
     omega
    ·omega
   simp (maxDischargeDepth:=8) only [↓SD,SU,SV,SW,simprocAttr,Int.cast_ofNat_Int,small,resV, q82x1,t2,t3,t7,t8,t9,t12,t13,s0, lt_nat,hpos,l1,l2,l3,l4]
   refine loop_ind (G:=(Yes · (QB H' 1 encI ((List.range sl).map (bN FF dur))))) (fun j σ=>∃T S H3 lim,σ=⟨T,S,[],H3,lim,81,false⟩∧get T 2=.slice ah sl mh∧get T 3=.pointer (some ⟨3,0,some 1⟩)∧get T 7=.int .i64 sl∧get T 8=.slice (some ⟨H'.length,0,none⟩) sl 1∧get T 9=.slice (some ⟨H'.length+1,0,none⟩) sl 1∧get T 12=.int .i64 (leftN FF dur sl now j:Nat)∧get T 13=.int .i64 (now:Nat)∧get T 14=.int .i64 (j:Nat)∧sget S 3=(1,.cells [.int .i64 app,.slice ba bl bk,.slice sa sl sk])∧(BI H' sl (BM.hb FF dur sl now j) vs (LK FF sl sl 0) H3∧H'.length≤lim)) (sl) ?_ ?_ 0 _ (Nat.zero_le _) ⟨_,_,_,_,rfl,(by first | rfl | simp [get_set,t2,t3,t7,t8,t9,t12,t13]),(by first | rfl | simp [get_set,t2,t3,t7,t8,t9,t12,t13]),(by first | rfl | simp [get_set,t2,t3,t7,t8,t9,t12,t13]),(by first | rfl | simp [get_set,t2,t3,t7,t8,t9,t12,t13]),(by first | rfl | simp [get_set,t2,t3,t7,t8,t9,t12,t13]),(by first | rfl | simp [get_set,t2,t3,t7,t8,t9,t12,t13]),(by first | rfl | simp [get_set,t2,t3,t7,t8,t9,t12,t13]),(by first | rfl | simp [get_set,t2,t3,t7,t8,t9,t12,t13]),(by first | rfl | exact s0),⟨hI,by omega⟩⟩
   ·rintro c' j s hj ⟨T,S,H3,lim,rfl,t2,t3,t7,t8,t9,t12,t13,t14,s0,hp⟩ ih
    obtain ⟨hI,hlim⟩:=hp
    have hIlt:=hI.lt
    have hbs:=hI.bb.sl encI_len (by decide)
    obtain ⟨b8,o8,x,hb8,hx8,e8⟩:=hbs.i1 hj
    cases hb8
    have e8:=e8 H3 (Grow.refl _)
    rw [Nat.zero_add] at e8
    rw [hb_get hj] at hx8
    have hw:=wrap_succ j (by omega)
    have hbj:=hbn j hj
    by_cases q:BM.begun FF dur now j j=true
    ·rw [if_pos q] at hx8
     cases hx8
     have q0:¬bN FF dur j < 0:=by omega
     have qne:bN FF dur j≠now:=by rcases begun_iff.1 q with h | h <;> omega
     rw [←left_no (N:=sl) qne] at t12
     simp (maxDischargeDepth:=8) only [↓SD,SU,SV,SW,simprocAttr,Int.cast_ofNat_Int,small,resV, q82x0,t2,t3,t7,t8,t9,t12,t13,t14,s0, lt_nat,hj,l1,l2,l3,l4,e8,q0,hw]
     exact ih _ ⟨_,_,(H3),(_),rfl,(by simp [get_set,t2] <;> omega),(by simp [get_set,t3] <;> omega),(by simp [get_set,t7] <;> omega),(by simp [get_set,t8] <;> omega),(by simp [get_set,t9] <;> omega),(by simp [get_set,t12] <;> omega),(by simp [get_set,t13] <;> omega),(by simp [get_set,t14] <;> omega),by simp [sget_sset,s0],⟨by rw [hb_no qne]; exact hI,by omega⟩⟩
    ·rw [if_neg q] at hx8
     cases hx8
     have q0:((-1:Int) < 0)=True:=by decide
     obtain ⟨v,hv,hvs,hvl⟩:=hI.ll.at (LK_all (F:=FF) hj)
     have hpl:(prd FF j j).length≤j:=by
      have:=List.length_filter_le (fun q=>FF q j) (List.range j)
      rw [List.length_range] at this; exact this
     obtain ⟨b9,o9,v9,hb9,hv9,hat⟩:=(hI.bv.sl encV_len (by decide)).at encV_len (by decide) (j:=j) hj
     rw [hv] at hv9
     cases hv9
     cases hb9
     have e9:=At.v0 hat H3 (Grow.refl _)
     rw [Nat.zero_add] at e9
     have l9:=hvs.isLoc v.2.2
     have k2:=c118 (m1:=v.2.2) (m2:=1) (m3:=mh) (now:=(now:Nat)) hvs hbs (Sl.grow hh (hg.trans hI.up.grow)) (by omega) (fun k hk=>by
      have:=List.mem_range.1 (List.mem_filter.1 hk).1; omega) (fun y hy=>by
      obtain ⟨k,hk,rfl⟩:=List.mem_map.1 hy
      have:=hbn k (List.mem_range.1 hk)
      split <;> omega) (fun y hy=>by
      obtain ⟨k,hk,rfl⟩:=List.mem_map.1 hy
      have:=hdu k; omega) H3 (Grow.refl _)
     rw [ready_hb (fun n=>(hdu n).1) hj] at k2
     by_cases q2:bN FF dur j=now
     ·have q3:decide (bN FF dur j≤(now:Int))=true:=by rw [q2]; simp
      rw [q3] at k2
      obtain ⟨H5,f5,hf5,p1,hI5⟩:=hI.set hj (now:Nat)
      have hly:=left_yes (F:=FF) (dur:=dur) hj q2
      have hlb2:leftN FF dur sl now (j+1)≤sl:=by
       unfold leftN
       have:=List.length_filter_le (fun q=>!BM.begun FF dur now (j+1) q) (List.range sl)
       rw [List.length_range] at this; exact this
      rw [hly] at t12
      have hw3:=wrap_pred (j:=leftN FF dur sl now (j+1)) (by omega)
      simp (maxDischargeDepth:=8) only [↓SD,SU,SV,SW,simprocAttr,Int.cast_ofNat_Int,small,resV, q82x0,t2,t3,t7,t8,t9,t12,t13,t14,s0, lt_nat,hj,l1,l2,l3,l4,l9,e8,e9,q0,k2,p1,hw,hw3]
      exact ih _ ⟨_,_,(H5),(_),rfl,(by simp [get_set,t2] <;> omega),(by simp [get_set,t3] <;> omega),(by simp [get_set,t7] <;> omega),(by simp [get_set,t8] <;> omega),(by simp [get_set,t9] <;> omega),(by simp [get_set,t12] <;> omega),(by simp [get_set,t13] <;> omega),(by simp [get_set,t14] <;> omega),by simp [sget_sset,s0],⟨by rw [hb_yes hj q2]; exact hI5,by omega⟩⟩
     ·have q3:decide (bN FF dur j≤(now:Int))=false:=by
       rw [decide_eq_false_iff_not]
       intro h
       refine q (begun_iff.2 (.inl ?_))
       omega
      rw [q3] at k2
      rw [←left_no (N:=sl) q2] at t12
      simp (maxDischargeDepth:=8) only [↓SD,SU,SV,SW,simprocAttr,Int.cast_ofNat_Int,small,resV, q82x0,t2,t3,t7,t8,t9,t12,t13,t14,s0, lt_nat,hj,l1,l2,l3,l4,l9,e8,e9,q0,k2,hw]
      exact ih _ ⟨_,_,(H3),(_),rfl,(by simp [get_set,t2] <;> omega),(by simp [get_set,t3] <;> omega),(by simp [get_set,t7] <;> omega),(by simp [get_set,t8] <;> omega),(by simp [get_set,t9] <;> omega),(by simp [get_set,t12] <;> omega),(by simp [get_set,t13] <;> omega),(by simp [get_set,t14] <;> omega),by simp [sget_sset,s0],⟨by rw [hb_no q2]; exact hI,by omega⟩⟩
   ·rintro c' s ⟨T,S,H3,lim,rfl,t2,t3,t7,t8,t9,t12,t13,t14,s0,hp⟩
    obtain ⟨hI,hlim⟩:=hp
    have hIlt:=hI.lt
    have hw:=wrap_succ now (by omega)
    rw [hb_roll] at hI
    rw [left_roll] at t12
    simp (maxDischargeDepth:=8) only [↓SD,SU,SV,SW,simprocAttr,Int.cast_ofNat_Int,small,resV, q82x0,t2,t3,t7,t8,t9,t12,t13,t14,s0, lt_nat,Nat.lt_irrefl,l1,l2,l3,l4,hw]
    exact ihO _ ⟨_,_,_,_,rfl,by simp [get_set,t2],by simp [get_set,t3],by simp [get_set,t7],by simp [get_set,t8],by simp [get_set,t9],by simp [get_set,t12],by simp [get_set,t13],by simp [sget_sset,s0],hI,by omega⟩
  ·rintro c' s ⟨T,S,H3,lim,rfl,t2,t3,t7,t8,t9,t12,t13,s0,hp⟩
   obtain ⟨hI,hlim⟩:=hp
   have hIlt:=hI.lt
   have hz:=(left_zero (F:=FF) (dur:=dur) (N:=sl) (now:=M)).2 hM1
   rw [hz] at t12
   rw [hb_done hM1] at hI
   have e0:¬(0:Int) < ((0:Nat):Int):=by omega
   simp (maxDischargeDepth:=8) only [↓SD,SU,SV,SW,simprocAttr,Int.cast_ofNat_Int,small,resV, q82x1,t2,t3,t7,t8,t9,t12,t13,s0,lt_nat,e0,Nat.lt_irrefl,l1,l2,l3,l4,R82,N82]
   rw [yes_some]
   exact gc_bl encI_len (by decide) hI.bb hI.up (by omega)
end Go.Pi.L.Ben
set_option maxRecDepth 100000
namespace Go.Pi.L.Ben
open Go Go.Pi Go.Pi.L Go.Pi.E Go.Pi.Ben BM

def EJ (F:Nat→Nat→Bool)(dur:Nat→Int)(l j:Nat):List Int:=(List.range l).map fun n=>if n < j then eN F dur n else bN F dur n
theorem EJ_zero (F:Nat→Nat→Bool)(dur:Nat→Int)(l:Nat):EJ F dur l 0=(List.range l).map (bN F dur):=by simp [EJ]
theorem EJ_all (F:Nat→Nat→Bool)(dur:Nat→Int)(l:Nat):EJ F dur l l=(List.range l).map (eN F dur):=by
 unfold EJ
 exact List.map_congr_left fun n hn=>if_pos (List.mem_range.1 hn)
theorem EJ_set (F:Nat→Nat→Bool)(dur:Nat→Int)(l j:Nat):(EJ F dur l j).set j (eN F dur j)=EJ F dur l (j+1):=map_set (by simp) fun i hi=>by
 by_cases h:i < j
 ·rw [if_pos h,if_pos (by omega)]
 ·rw [if_neg h,if_neg (by omega)]
theorem c95 {H:Heap}{r:BeR}{b:Bench}{a:Option Addr}{l kk:Nat}{p:List Int}{ah:Option Addr}{mh:Nat}{dur:Nat→Int}(hb:BeOk H r b)(hd:SmB r)(hx:Ints H a l p)(hf:Fine b)(hlen:p.length=b.strokes.length)
  (hh:Ints H ah l ((List.range b.strokes.length).map dur)) (hdu:∀n,1≤dur n∧dur n≤15) :
  ∀H',Grow H H'→Fam H'→Yes (R (.func 95) [.agg #[.int .i64 r.app,.slice r.ba r.bl r.bk,.slice r.sa r.sl r.sk],.slice a l kk,.slice ah l mh] H') (QS H' 1 encI ((List.range b.strokes.length).map (eN (follows b p) dur))):=by
 intro H' hg hF
 refine run_y (pr 95) P95 (by simp [p95]) rfl ?_
 have l3:=hx.isLoc kk
 have l4:=hh.isLoc mh
 have hlb:b.strokes.length=l:=by rw [←hlen]; exact hx.len
 have n6:=hf.n6
 have n1:=hf.n1
 obtain ⟨o,ho,a1,m1,H1,lo1,rfl,u1,hlo1,bd1⟩:=c82 (kk:=kk) (mh:=mh) hb hd hx hf hlen hh hdu H' hg hF
 have hF1:Fam H1:=famR ho hF
 rw [List.length_map,List.length_range] at ho bd1
 rw [hlb] at hh n6 n1 ho bd1 ⊢
 have hbn:∀n,n < l→0≤bN (follows b p) dur n∧bN (follows b p) dur n≤100:=fun n hn=>by
  have h0:=bN_nonneg (follows b p) dur n
  have h1:=eN_le (F:=follows b p) (dur:=dur) (D:=15) (by decide) (fun n=>(hdu n).2) n
  have h2:=(hdu n).1
  unfold eN at h1
  omega
 generalize follows b p=FF at hbn ho bd1 ⊢
 rw [←EJ_zero] at bd1
 obtain ⟨b1,rfl⟩:∃b1,a1=some ⟨b1,0,none⟩:=by
  rcases bd1.ok with ⟨_,h,_⟩ | ⟨b1,f,h,_⟩
  ·omega
  ·exact ⟨b1,h⟩
 obtain ⟨app,ba,bl,bk,sa,sl,sk,xs⟩:=r
 have hB:Ints H ba bl b.boards:=hb.br
 have hS:Sl H 5 eK sa sl xs:=hb.st
 have l1:=hB.isLoc bk
 have l2:=hS.isLoc sk
 simp only at ho ⊢
 have l5:isLoc (.slice (some ⟨b1,0,none⟩) l m1)=false:=rfl
 simp (maxDischargeDepth:=8) only [↓SD,SU,SV,SW,simprocAttr,Int.cast_ofNat_Int,small,resV, B95,R95,N95,b95, l1,l2,l3,l4,l5,ho]
 refine loop_ind (G:=(Yes · (QS H' 1 encI ((List.range l).map (eN FF dur))))) (fun j σ=>∃T S H3 lim,σ=⟨T,S,[],H3,lim,32,false⟩∧get T 2=.slice ah l mh∧get T 7=.slice (some ⟨b1,0,none⟩) l m1∧get T 8=.int .i64 (j:Nat)∧(Bld H'.length H3 1 (some ⟨b1,0,none⟩) l m1 (cells encI (EJ FF dur l j))∧Fam H3∧Up H' H3∧H'.length≤lim)) (l) ?_ ?_ 0 _ (Nat.zero_le _) ⟨_,_,_,_,rfl,rfl,rfl,rfl,⟨bd1,hF1,u1,by omega⟩⟩
 ·rintro c' j s hj ⟨T,S,H3,lim,rfl,t2,t7,t8,hp⟩ ih
  obtain ⟨hbd,hF3,hu,hlim⟩:=hp
  have hw:=wrap_succ j (by omega)
  obtain ⟨b5,o5,x,hb5,hx5,e5⟩:=(hbd.sl encI_len (by decide)).i1 hj
  cases hb5
  have e5:=e5 H3 (Grow.refl _)
  have hxe:x=bN FF dur j:=by
   have:(EJ FF dur l j)[j]?=some (bN FF dur j):=by simp [EJ,hj]
   rw [this] at hx5
   cases hx5; rfl
  subst hxe
  rw [Nat.zero_add] at e5
  obtain ⟨b6,o6,y,hb6,hy6,e6⟩:=hh.i1 hj
  have hye:y=dur j:=by
   have:((List.range l).map dur)[j]?=some (dur j):=by simp [hj]
   rw [this] at hy6
   cases hy6; rfl
  subst hye
  have e6:=e6 H3 (hg.trans hu.grow)
  have hbj:=hbn j hj
  have hdj:=hdu j
  have hw2:IntKind.wrap .i64 (bN FF dur j+dur j)=eN FF dur j:=wrap_id _ (by omega) (by omega)
  obtain ⟨H4,f,hf4,hfb,q1,q2,q3,q4,q5,q6⟩:=hbd.put hF3 (i:=j) (v:=.int .i64 (eN FF dur j)) hj rfl rfl rfl
  have hsp:splice (cells encI (EJ FF dur l j)) (j*1) (Value.int .i64 (eN FF dur j)).cells.toList=cells encI ((EJ FF dur l j).set j (eN FF dur j)):=splice_cells (enc:=encI) encI_len (eN FF dur j) (by simp [EJ]; exact hj)
  rw [hsp,EJ_set] at q2
  simp (maxDischargeDepth:=8) only [↓SD,SU,SV,SW,simprocAttr,Int.cast_ofNat_Int,small,resV, q95x0,t2,t7,t8, lt_nat,hj,l1,l2,l3,l4,l5,hb6,e5,e6,hw,hw2,q1,k_fixb]
  exact ih _ ⟨_,_,(H4),(_),rfl,(by simp [get_set,t2] <;> omega),(by simp [get_set,t7] <;> omega),(by simp [get_set,t8] <;> omega),⟨q2,q3,q4 H' hu (Nat.le_refl _),by have:=hu.len; omega⟩⟩
 ·rintro c' s ⟨T,S,H3,lim,rfl,t2,t7,t8,hp⟩
  obtain ⟨hbd,hF3,hu,hlim⟩:=hp
  rw [EJ_all] at hbd
  simp (maxDischargeDepth:=8) only [↓SD,SU,SV,SW,simprocAttr,Int.cast_ofNat_Int,small,resV, q95x0,t2,t7,t8, lt_nat,Nat.lt_irrefl,l1,l2,l3,l4,l5,R95,N95]
  rw [yes_some]
  exact gc_sl (hbd.sl encI_len (by decide)) hu (by omega)
end Go.Pi.L.Ben
set_option maxRecDepth 100000
namespace Go.Pi.L.Ben
open Go Go.Pi Go.Pi.L Go.Pi.E Go.Pi.Ben BM

theorem durG_b {b:Bench}(h:Fine b)(g:Bool)(n:Nat):1≤durG b g n∧durG b g n≤15:=by
 have:=h.dur n
 unfold durG
 cases g <;> simp only [cond_true,cond_false] <;> omega
theorem durW_nil (b:Bench)(g:Bool):durW b (-1) 0 g=durG b g:=by
 funext n
 unfold durW durG
 cases g with
 | false=>rfl
 | true=>simp only [cond_true]; rw [if_neg (by omega)]
theorem en_eq (b:Bench)(p:List Int)(g:Bool):en b p g=eN (follows b p) (durG b g):=by
 funext n
 show vE b p (-1) 0 g n=_
 unfold vE
 rw [durW_nil]
theorem be_eq (b:Bench)(p:List Int)(g:Bool)(n:Nat):be b p g n=bN (follows b p) (durG b g) n:=by
 show vB b p (-1) 0 g n=_
 unfold vB
 rw [durW_nil]
theorem c65 {H:Heap}{r:BeR}{b:Bench}{a:Option Addr}{l kk:Nat}{p:List Int}(hb:BeOk H r b)(hd:SmB r)(hx:Ints H a l p)(hf:Fine b)(hlen:p.length=b.strokes.length) :
  ∀H',Grow H H'→Fam H'→Yes (R (.func 65) [.agg #[.int .i64 r.app,.slice r.ba r.bl r.bk,.slice r.sa r.sl r.sk],.slice a l kk] H') (QS H' 2 encP (endsL b p b.strokes.length)):=by
 intro H' hg hF
 refine run_y (pr 65) P65 (by simp [p65]) rfl ?_
 have l3:=hx.isLoc kk
 have hlb:b.strokes.length=l:=by rw [←hlen]; exact hx.len
 have n6:=hf.n6
 obtain ⟨o,ho1,a1,m1,H1,lo1,rfl,u1,hlo1,s1⟩:=c28 hb hd false H' hg
 have hF1:Fam H1:=famR ho1 hF
 have hN1:∀g,(hoursL b g b.strokes.length).length=l:=fun g=>by unfold hoursL; rw [List.length_map,List.length_range,hlb]
 rw [hN1] at ho1 s1
 have hg1:=hg.trans u1.grow
 obtain ⟨o,ho2,a2,m2,H2,lo2,rfl,u2,hlo2,s2⟩:=c95 (kk:=kk) (mh:=m1) (hb.grow hg1) hd (Sl.grow hx hg1) hf hlen (dur:=durG b false) s1 (durG_b hf false) H1 (Grow.refl _) hF1
 have hF2:Fam H2:=famR ho2 hF1
 rw [List.length_map,List.length_range,hlb] at ho2 s2
 have hg2:=hg1.trans u2.grow
 obtain ⟨o,ho3,a3,m3,H3,lo3,rfl,u3,hlo3,s3⟩:=c28 hb hd true H2 hg2
 have hF3:Fam H3:=famR ho3 hF2
 rw [hN1] at ho3 s3
 have hg3:=hg2.trans u3.grow
 obtain ⟨o,ho4,a4,m4,H4,lo4,rfl,u4,hlo4,s4⟩:=c95 (kk:=kk) (mh:=m3) (hb.grow hg3) hd (Sl.grow hx hg3) hf hlen (dur:=durG b true) s3 (durG_b hf true) H3 (Grow.refl _) hF3
 rw [List.length_map,List.length_range,hlb] at ho4 s4
 have s2:=s2.grow (u3.grow.trans u4.grow)
 have l4:=s1.isLoc m1
 have l5:=s2.isLoc m2
 have l6:=s3.isLoc m3
 have l7:=s4.isLoc m4
 have h1:=u1.len
 have h2:=u2.len
 have h3:=u3.len
 have h4:=u4.len
 have u04:=((u1.trans u2).trans u3).trans u4
 have ef:∀n,eN (follows b p) (durG b false) n=en b p false n:=fun n=>by rw [en_eq]
 have et:∀n,eN (follows b p) (durG b true) n=en b p true n:=fun n=>by rw [en_eq]
 rw [hlb]
 obtain ⟨app,ba,bl,bk,sa,sl,sk,xs⟩:=r
 have hB:Ints H ba bl b.boards:=hb.br
 have hS:Sl H 5 eK sa sl xs:=hb.st
 have l1:=hB.isLoc bk
 have l2:=hS.isLoc sk
 simp only at ho1 ho2 ho3 ho4 ⊢
 simp (maxDischargeDepth:=8) only [↓SD,SU,SV,SW,simprocAttr,Int.cast_ofNat_Int,small,resV, B65,R65,N65,b65, l1,l2,l3,l4,l5,l6,l7,ho1,ho2,ho3,ho4,hlo1,hlo2,hlo3,hlo4]
 refine loop_ind (G:=(Yes · (QS H' 2 encP (endsL b p l)))) (fun j σ=>∃T S H5 al m lim,σ=⟨T,S,[],H5,lim,38,false⟩∧get T 5=.slice a2 l m2∧get T 6=.slice a4 l m4∧get T 7=.slice al j m∧get T 8=.int .i64 (j:Nat)∧(Bld H4.length H5 2 al j m (cells encP (endsL b p j))∧Up H4 H5∧H'.length≤lim)) (l) ?_ ?_ 0 _ (Nat.zero_le _) ⟨_,_,_,_,_,_,rfl,rfl,rfl,rfl,rfl,⟨Bld.nil _ _ _,Up.refl _,by omega⟩⟩
 ·rintro c' j s hj ⟨T,S,H5,al,m,lim,rfl,t5,t6,t7,t8,hp⟩ ih
  obtain ⟨hbd,hu,hlim⟩:=hp
  have hw:=wrap_succ j (by omega)
  have l8:isLoc (.slice al j m)=false:=hbd.isLoc _ _
  obtain ⟨b5,o5,x,hb5,hx5,e5⟩:=s2.i1 hj
  obtain ⟨b6,o6,y,hb6,hx6,e6⟩:=s4.i1 hj
  have e5:=e5 H5 hu.grow
  have e6:=e6 H5 hu.grow
  have hxe:x=en b p false j:=by
   rw [show ((List.range l).map (eN (follows b p) (durG b false)))[j]?=some (eN (follows b p) (durG b false) j) by simp [hj]] at hx5
   cases hx5; exact ef j
  have hye:y=en b p true j:=by
   rw [show ((List.range l).map (eN (follows b p) (durG b true)))[j]?=some (eN (follows b p) (durG b true) j) by simp [hj]] at hx6
   cases hx6; exact et j
  subst hxe; subst hye
  have hul:=hu.len
  obtain ⟨H6,q1,q2,q3,q4⟩:=hbd.app (by decide) (by decide) (by omega) hul [.int .i64 (en b p false j),.int .i64 (en b p true j)] rfl
  have u6:=q3.up hbd hu (Nat.le_refl _)
  have h6:=u6.len
  simp (maxDischargeDepth:=8) only [↓SD,SU,SV,SW,simprocAttr,Int.cast_ofNat_Int,small,resV, q65x0,t5,t6,t7,t8, lt_nat,hj,l1,l2,l3,l5,l7,l8,hb5,hb6,e5,e6,hw,q1,k_fixb]
  exact ih _ ⟨_,_,(H6),(some ⟨H5.length,0,none⟩),(2),(_),rfl,(by simp [get_set,t5] <;> omega),(by simp [get_set,t6] <;> omega),(by simp [get_set,t7] <;> omega),(by simp [get_set,t8] <;> omega),⟨by rw [endsL_succ,cells_app]; exact q2,u6,by omega⟩⟩
 ·rintro c' s ⟨T,S,H5,al,m,lim,rfl,t5,t6,t7,t8,hp⟩
  obtain ⟨hbd,hu,hlim⟩:=hp
  have l8:isLoc (.slice al l m)=false:=hbd.isLoc _ _
  simp (maxDischargeDepth:=8) only [↓SD,SU,SV,SW,simprocAttr,Int.cast_ofNat_Int,small,resV, q65x0,t5,t6,t7,t8, lt_nat,Nat.lt_irrefl,l1,l2,l3,l5,l7,l8,R65,N65]
  rw [yes_some]
  exact gc_sl (hbd.sl encP_len (by decide)) (u04.trans hu) (by omega)
end Go.Pi.L.Ben
