/- Benches: texts are taken apart. -/
import Derived.Test.YtfndfpbdgjoilaaGreatDoorDJ
import Derived.Test.YtfndfpbdgjoilaaGreatDoorDD
set_option linter.all false
set_option maxRecDepth 100000
namespace BM
def spl (c:UInt8):List UInt8→List (List UInt8)
 | []=>[[]]
 | x :: l=>if x=c then [] :: spl c l else match spl c l with | y :: ys=>(x :: y) :: ys | []=>[[x]]
theorem spl_ne (c:UInt8):∀l,spl c l≠[]
 | []=>by simp [spl]
 | x :: l=>by
  unfold spl
  split
  ·simp
  ·split <;> simp
theorem spl_none {c:UInt8}:∀{p:List UInt8},c ∉ p→spl c p=[p]
 | [],_=>rfl
 | x :: p,h=>by
  have h1:x≠c:=fun e=>h (by rw [e]; exact List.mem_cons_self ..)
  have h2:c ∉ p:=fun e=>h (List.mem_cons_of_mem _ e)
  rw [spl,if_neg h1,spl_none h2]
theorem spl_hit {c:UInt8}:∀{p:List UInt8} (r:List UInt8),c ∉ p→spl c (p++c :: r)=p :: spl c r
 | [],r,_=>by simp [spl]
 | x :: p,r,h=>by
  have h1:x≠c:=fun e=>h (by rw [e]; exact List.mem_cons_self ..)
  have h2:c ∉ p:=fun e=>h (List.mem_cons_of_mem _ e)
  rw [List.cons_append,spl,if_neg h1,spl_hit r h2]
theorem spl_len (c:UInt8):∀l:List UInt8,(spl c l).length=l.count c+1
 | []=>rfl
 | x :: l=>by
  rw [spl]
  by_cases h:x=c
  ·rw [if_pos h,List.length_cons,spl_len c l,h,List.count_cons_self]
  ·rw [if_neg h,List.count_cons_of_ne h,←spl_len c l]
   cases hs:spl c l with
   | nil=>exact (spl_ne c l hs).elim
   | cons y ys=>rfl
theorem spl_parts {c:UInt8}:∀(l:List UInt8),(∀p∈spl c l,c ∉ p)∧∀p∈spl c l,p.length≤l.length
 | []=>by simp [spl]
 | x :: l=>by
  obtain ⟨h1,h2⟩:=spl_parts (c:=c) l
  rw [spl]
  by_cases h:x=c
  ·rw [if_pos h]
   refine ⟨fun p hp=>?_,fun p hp=>?_⟩
   ·rcases List.mem_cons.1 hp with hp | hp
    ·rw [hp]; simp
    ·exact h1 p hp
   ·rcases List.mem_cons.1 hp with hp | hp
    ·rw [hp]; simp
    ·have:=h2 p hp; simp; omega
  ·rw [if_neg h]
   cases hs:spl c l with
   | nil=>exact (spl_ne c l hs).elim
   | cons y ys =>
    rw [hs] at h1 h2
    refine ⟨fun p hp=>?_,fun p hp=>?_⟩
    ·rcases List.mem_cons.1 hp with hp | hp
     ·rw [hp]
      intro hc
      rcases List.mem_cons.1 hc with hc | hc
      ·exact h hc.symm
      ·exact h1 y (List.mem_cons_self ..) hc
     ·exact h1 p (List.mem_cons_of_mem _ hp)
    ·rcases List.mem_cons.1 hp with hp | hp
     ·rw [hp]; have:=h2 y (List.mem_cons_self ..); simp; omega
     ·have:=h2 p (List.mem_cons_of_mem _ hp); simp; omega
end BM
namespace Go.Pi.L.Ben
open Go Go.Pi Go.Pi.L Go.Pi.E Go.Pi.Ben BM Go.Pi.Q

theorem take_drop_step {α:Type}{s:List α}{f j:Nat}{x:α}(hx:s[j]?=some x)(hf:f≤j):s.drop f=(s.take j).drop f++x :: s.drop (j+1):=by
 have hj:=(List.getElem?_eq_some_iff.1 hx).1
 have e:s=s.take j++x :: s.drop (j+1):=by
  have h1:s.drop j=x :: s.drop (j+1):=by
   rw [List.drop_eq_getElem_cons hj]
   congr 1
   have:=(List.getElem?_eq_some_iff.1 hx).2
   exact this
  rw [←h1,List.take_append_drop]
 have hl:(s.take j).length=j:=by rw [List.length_take]; omega
 conv=>lhs; rw [e]
 rw [List.drop_append_of_le_length (by omega)]
set_option maxHeartbeats 1000000 in
theorem c109 (s:List UInt8)(c:UInt8)(hsl:s.length≤100000)(H':Heap):Yes (R (.func 109) [.string ⟨s.toArray⟩,.int .u8 (c.toNat:Nat)] H') (QS H' 1 encS (spl c s)):=by
 refine run_y (pr 109) P109 (by simp [p109]) rfl ?_
 have sl0:=vv_slen' s
 simp (maxDischargeDepth:=8) only [↓SD,SU,SV,SW,simprocAttr,Int.cast_ofNat_Int,small,resV, B109,R109,N109,b109, sl0]
 refine loop_ind (G:=(Yes · (QS H' 1 encS (spl c s)))) (fun j σ=>∃T S H3 al cc m f lim,σ=⟨T,S,[],H3,lim,34,false⟩∧get T 0=.string ⟨s.toArray⟩∧get T 1=.int .u8 (c.toNat:Nat)∧get T 5=.slice al cc m∧get T 6=.int .i64 ((f:Nat):Int)∧get T 7=.int .i64 (j:Nat)∧((∃P,cc=P.length∧Bld H'.length H3 1 al cc m (cells encS P)∧spl c s=P++spl c (s.drop f))∧cc≤j∧f≤j∧c ∉ (s.take j).drop f∧Up H' H3∧H'.length≤lim)) (s.length) ?_ ?_ 0 _ (Nat.zero_le _) ⟨_,_,_,_,_,_,_,_,rfl,rfl,rfl,rfl,rfl,rfl,⟨⟨[],rfl,Bld.nil _ _ _,rfl⟩,Nat.le_refl _,Nat.le_refl 0,by simp,Up.refl _,Nat.le_refl _⟩⟩
 ·rintro c' j s hj ⟨T,S,H3,al,cc,m,f,lim,rfl,t0,t1,t5,t6,t7,hp⟩ ih
  obtain ⟨⟨P,hcc,hbd,hsp⟩,hcj,hfj,hno,hu,hlim⟩:=hp
  have hw:=wrap_succ j (by omega)
  have l8:isLoc (.slice al cc m)=false:=hbd.isLoc _ _
  have hul:=hu.len
  obtain ⟨x,hx⟩:∃x,s[j]?=some x:=⟨_,List.getElem?_eq_getElem (by omega)⟩
  have ix:=vv_ix' s .i64 j x hx
  have hst:=take_drop_step hx hfj
  by_cases hxc:x=c
  ·have z1:(((x.toNat:Nat):Int)=((c.toNat:Nat):Int))=True:=eq_true (by rw [hxc])
   have sls:=vv_slsB s .i64 .i64 f j hfj (by omega)
   obtain ⟨H6,p1,p2,p3,p4⟩:=hbd.app (by decide) (by decide) (by omega) hul [.string ⟨((s.take j).drop f).toArray⟩] rfl
   have u6:=p3.up hbd hu (Nat.le_refl _)
   have hsp2:spl c s=(P++[(s.take j).drop f])++spl c (s.drop (j+1)):=by
    rw [hsp,hst,hxc,spl_hit _ hno]; simp
   have p2':Bld H'.length H6 1 (some ⟨H3.length,0,none⟩) (cc+1) 1 (cells encS (P++[(s.take j).drop f])):=by rw [cells_app]; exact p2
   simp (maxDischargeDepth:=8) only [↓SD,SU,SV,SW,simprocAttr,Int.cast_ofNat_Int,small,resV, q109x0,t0,t1,t5,t6,t7, lt_nat,hj,sl0,l8,ix,z1,sls,hw,p1]
   exact ih _ ⟨_,_,(H6),(some ⟨H3.length,0,none⟩),(cc+1),(1),(j+1),(_),rfl,(by simp [get_set,t0] <;> omega),(by simp [get_set,t1] <;> omega),(by simp [get_set,t5] <;> omega),(by simp [get_set,t6] <;> omega),(by simp [get_set,t7] <;> omega),⟨⟨P++[(s.take j).drop f],by simp [hcc],p2',hsp2⟩,by omega,Nat.le_refl _,by rw [List.drop_eq_nil_of_le (by rw [List.length_take]; omega)]; simp,u6,by omega⟩⟩
  ·have z1:(((x.toNat:Nat):Int)=((c.toNat:Nat):Int))=False:=eq_false (fun h=>hxc (UInt8.toNat_inj.1 (by omega)))
   have hno2:c ∉ (s.take (j+1)).drop f:=by
    rw [take_get hx,List.drop_append_of_le_length (by rw [List.length_take]; omega)]
    intro h
    rcases List.mem_append.1 h with h | h
    ·exact hno h
    ·exact hxc (List.mem_singleton.1 h).symm
   simp (maxDischargeDepth:=8) only [↓SD,SU,SV,SW,simprocAttr,Int.cast_ofNat_Int,small,resV, q109x0,t0,t1,t5,t6,t7, lt_nat,hj,sl0,l8,ix,z1,hw]
   exact ih _ ⟨_,_,(H3),(al),(cc),(m),(f),(_),rfl,(by simp [get_set,t0] <;> omega),(by simp [get_set,t1] <;> omega),(by simp [get_set,t5] <;> omega),(by simp [get_set,t6] <;> omega),(by simp [get_set,t7] <;> omega),⟨⟨P,hcc,hbd,hsp⟩,by omega,by omega,hno2,hu,by omega⟩⟩
 ·rintro c' s ⟨T,S,H3,al,cc,m,f,lim,rfl,t0,t1,t5,t6,t7,hp⟩
  obtain ⟨⟨P,hcc,hbd,hsp⟩,hcj,hfj,hno,hu,hlim⟩:=hp
  have l8:isLoc (.slice al cc m)=false:=hbd.isLoc _ _
  have hul:=hu.len
  rw [List.take_length] at hno
  rw [spl_none hno] at hsp
  have sls:=vv_slsL s .i64 f hfj
  obtain ⟨H6,p1,p2,p3,p4⟩:=hbd.app (by decide) (by decide) (by omega) hul [.string ⟨(s.drop f).toArray⟩] rfl
  have u6:=p3.up hbd hu (Nat.le_refl _)
  have p2':Bld H'.length H6 1 (some ⟨H3.length,0,none⟩) (cc+1) 1 (cells encS (P++[s.drop f])):=by rw [cells_app]; exact p2
  rw [←hsp] at p2'
  have hll:cc+1=(spl c s).length:=by rw [hsp]; simp [hcc]
  have la6:isLoc (.slice (some ⟨H3.length,0,none⟩) (cc+1) 1)=false:=rfl
  simp (maxDischargeDepth:=8) only [↓SD,SU,SV,SW,simprocAttr,Int.cast_ofNat_Int,small,resV, q109x0,t0,t1,t5,t6,t7, lt_nat,Nat.lt_irrefl,sl0,l8,la6,sls,p1,R109,N109]
  rw [yes_some]
  exact gc_sl (p2'.sl encS_len (by decide)) u6 (by omega)
end Go.Pi.L.Ben
set_option maxRecDepth 100000
namespace Go.Pi.L.Ben
open Go Go.Pi Go.Pi.L Go.Pi.E Go.Pi.Ben BM Go.Pi.Q

theorem c165 (s:List UInt8)(c:UInt8)(H:Heap):R (.func 165) [.string ⟨s.toArray⟩,.string ⟨[c].toArray⟩] H=some ⟨.ok (.int .i64 ((s.count c:Nat):Int)),H,H.length⟩:=by
 refine runL_prim (g:=lp pCount) (by rfl) ?_
 have e:cnt c s=s.count c:=(cnt_eq c s).symm
 show some (⟨.ok (.int .i64 (cnt c s)),H,H.length⟩:Out)=_
 rw [e]
theorem c166 (s:List UInt8)(c:UInt8)(H:Heap):R (.func 166) [.string ⟨s.toArray⟩,.string ⟨[c].toArray⟩] H=some ⟨.ok (.int .i64 (Lib.indexByte s c)),H,H.length⟩:=runL_prim (g:=lp pIndex) (by rfl) rfl
theorem index_at {s:List UInt8}{c:UInt8}(h:0 < s.count c):∃k:Nat,Lib.indexByte s c=k∧k < s.length∧s=s.take k++c :: s.drop (k+1)∧c ∉ s.take k:=by
 have hm:c∈s:=List.count_pos_iff.1 h
 obtain ⟨j,hj,hjc⟩:=List.mem_iff_getElem.1 hm
 have hge:=Lib.indexByte_ge s c
 have hne:Lib.indexByte s c≠-1:=fun e=>Lib.indexByte_none e j (by rw [List.getElem?_eq_getElem hj,hjc])
 obtain ⟨k,hk⟩:∃k:Nat,Lib.indexByte s c=k:=⟨(Lib.indexByte s c).toNat,by omega⟩
 obtain ⟨h1,h2⟩:=Lib.indexByte_some hk
 have hl:=(List.getElem?_eq_some_iff.1 h1).1
 refine ⟨k,hk,hl,?_,fun hc=>?_⟩
 ·have:=take_drop_step (f:=0) h1 (Nat.zero_le _)
  simpa using this
 ·obtain ⟨i,hi,e⟩:=List.mem_iff_getElem.1 hc
  rw [List.length_take] at hi
  refine h2 i (by omega) ?_
  rw [List.getElem_take] at e
  rw [List.getElem?_eq_getElem (by omega),e]
set_option maxHeartbeats 1000000 in
theorem c152 (s:List UInt8)(c:UInt8)(hsl:s.length≤100000)(H':Heap)(hF:Fam H'):Yes (R (.func 152) [.string ⟨s.toArray⟩,.string ⟨[c].toArray⟩,.int .i64 0,.int .i64 (-1)] H') (QS H' 1 encS (spl c s)):=by
 refine run_y (pr 152) P152 (by simp [p152]) rfl ?_
 have sl0:=vv_slen' s
 have sl1:=vv_slen' [c]
 have k165:=c165 s c H'
 have hcl:=List.count_le_length (a:=c) (l:=s)
 have hspl:=spl_len c s
 obtain ⟨K,hK⟩:∃K,s.count c=K:=⟨_,rfl⟩
 rw [hK] at k165 hcl hspl
 have hw1:IntKind.wrap .i64 (((K:Nat):Int)+1)=((K+1:Nat):Int):=wrap_succ K (by omega)
 have hw2:IntKind.wrap .i64 (((s.length:Nat):Int)+1)=((s.length+1:Nat):Int):=wrap_succ _ (by omega)
 have hw3:IntKind.wrap .i64 (((K+1:Nat):Int) - 1)=((K:Nat):Int):=by rw [wrap_id _ (by omega) (by omega)]; omega
 have mn:vv .mn [.int .i64 ((K+1:Nat):Int),.int .i64 ((s.length+1:Nat):Int)]=some (.int .i64 ((K+1:Nat):Int)):=by
  rw [vv_of rfl]; simp only [VOp.ev]; rw [if_neg (by omega)]
 have mk:=mks_ok (k:=1) (z:=[.string ⟨#[]⟩]) (bytes:=16) (n:=K+1) (by omega) (by omega)
 have ne:=vv_seq' [c] []
 rw [decide_eq_false (by simp)] at ne
 obtain ⟨H0,hH0⟩:∃H0,H'++[(⟨.cells (.string ⟨#[]⟩ :: rep K [.string ⟨#[]⟩]),true,true,some H'.length⟩:Blk)]=H0:=⟨_,rfl⟩
 have u0:Up H' H0:=by rw [←hH0]; exact (Up.refl _).app
 have hF0:Fam H0:=by rw [←hH0]; exact Fam.app1 hF (Nat.le_refl _)
 have bd0:Bld H'.length H0 1 (some ⟨H'.length,0,none⟩) (K+1) 1 (cells encS ([]++List.replicate (K+1 - 0) [])):=by
  have er:Value.string ⟨#[]⟩ :: rep K [.string ⟨#[]⟩]=cells encS (List.replicate (K+1) []):=rep_cells encS [] (K+1)
  rw [←hH0,List.nil_append,er]
  refine ⟨by rw [cells_len encS_len]; simp,.inr ⟨H'.length,H'.length,rfl,rfl,Nat.le_refl _,Nat.le_refl _,by simp⟩⟩
 simp (maxDischargeDepth:=8) only [↓SD,SU,SV,SW,simprocAttr,Int.cast_ofNat_Int,small,resV, B152,R152,N152,b152, ne,k165,sl0,hw1,hw2,mn,mk,hH0,hw3]
 refine loop_ind (G:=(Yes · (QS H' 1 encS (spl c s)))) (fun j σ=>∃T S H3 rem lim,σ=⟨T,S,[],H3,lim,66,false⟩∧get T 0=.string ⟨rem.toArray⟩∧get T 1=.string ⟨[c].toArray⟩∧get T 2=.int .i64 0∧get T 3=.int .i64 K∧get T 9=.slice (some ⟨H'.length,0,none⟩) (K+1) 1∧get T 10=.int .i64 (j:Nat)∧((∃P:List (List UInt8),P.length=j∧Bld H'.length H3 1 (some ⟨H'.length,0,none⟩) (K+1) 1 (cells encS (P++List.replicate (K+1 - j) []))∧spl c s=P++spl c rem∧rem.count c=K - j)∧rem.length≤s.length∧Up H' H3∧Fam H3∧H'.length≤lim)) (K) ?_ ?_ 0 _ (Nat.zero_le _) ⟨_,_,_,_,_,rfl,rfl,rfl,rfl,rfl,rfl,rfl,⟨⟨[],rfl,bd0,rfl,hK⟩,Nat.le_refl _,u0,hF0,by omega⟩⟩
 ·rintro c' j s hj ⟨T,S,H3,rem,lim,rfl,t0,t1,t2,t3,t9,t10,hp⟩ ih
  obtain ⟨⟨P,hPl,hbd,hsp,hcn⟩,hrl,hu,hF3,hlim⟩:=hp
  have hw:=wrap_succ j (by omega)
  obtain ⟨k,hk,hkl,hks,hkn⟩:=index_at (s:=rem) (c:=c) (by omega)
  have k166:=c166 rem c H3
  rw [hk] at k166
  have z1:(((k:Nat):Int) < 0)=False:=eq_false (by omega)
  have hwk:IntKind.wrap .i64 (((k:Nat):Int)+0)=((k:Nat):Int):=by rw [wrap_id _ (by omega) (by omega)]; omega
  have hwk':IntKind.wrap .i64 ((k:Nat):Int)=((k:Nat):Int):=by rw [wrap_id _ (by omega) (by omega)]
  have hwk1:IntKind.wrap .i64 (((k:Nat):Int)+1)=((k+1:Nat):Int):=wrap_succ _ (by omega)
  have sh:=vv_slsH rem .i64 k (by omega)
  have slL:=vv_slsL rem .i64 (k+1) (by omega)
  have slc1:vv .slen [.string ⟨[c].toArray⟩]=some (.int .i64 1):=vv_slen' [c]
  obtain ⟨H6,f,q0,q1,q2,q3,q4,q5,q6,_⟩:=hbd.put hF3 (i:=j) (by omega) (v:=.string ⟨(rem.take k).toArray⟩) rfl rfl rfl
  have u6:=q5 H' hu (Nat.le_refl _)
  have iap:vv (.ia 1) [.slice (some ⟨H'.length,0,none⟩) (K+1) 1,.int .i64 (j:Nat)]=some (.pointer (some ⟨H'.length,0+j*1,none⟩)):=vv_iaN 1 _ 0 j _ _ _ (by omega)
  rw [Nat.zero_add] at iap
  have hset:splice (cells encS (P++List.replicate (K+1 - j) [])) (j*1) (Value.string ⟨(rem.take k).toArray⟩).cells.toList=cells encS ((P++[rem.take k])++List.replicate (K+1 - (j+1)) []):=by
   have e1:(Value.string ⟨(rem.take k).toArray⟩).cells.toList=encS (rem.take k):=rfl
   rw [e1,splice_cells encS_len (rem.take k) (by simp [hPl]; omega)]
   congr 1
   rw [List.set_append_right _ _ (by omega),hPl,Nat.sub_self,show K+1 - j=(K+1 - (j+1))+1 by omega,List.replicate_succ,List.set_cons_zero]
   simp
  rw [hset] at q3
  have hsp2:spl c s=(P++[rem.take k])++spl c (rem.drop (k+1)):=by
   conv=>lhs; rw [hsp,hks,spl_hit _ hkn]
   simp
  have hc2:(rem.drop (k+1)).count c=K - (j+1):=by
   have h1:rem.count c=(rem.take k++c :: rem.drop (k+1)).count c:=by rw [←hks]
   rw [List.count_append,List.count_eq_zero.2 hkn,List.count_cons_self] at h1
   omega
  have e3:=hu.len
  simp (maxDischargeDepth:=8) only [↓SD,SU,SV,SW,simprocAttr,Int.cast_ofNat_Int,small,resV, q152x0,t0,t1,t2,t3,t9,t10, lt_nat,hj,k166,z1,hwk,hwk',hwk1,sh,slL,slc1,iap,q2,hw]
  exact ih _ ⟨_,_,(H6),(rem.drop (k+1)),(_),rfl,(by simp [get_set,t0] <;> omega),(by simp [get_set,t1] <;> omega),(by simp [get_set,t2] <;> omega),(by simp [get_set,t3] <;> omega),(by simp [get_set,t9] <;> omega),(by simp [get_set,t10] <;> omega),⟨⟨P++[rem.take k],by simp [hPl],q3,hsp2,hc2⟩,by rw [List.length_drop]; omega,u6,q4,by omega⟩⟩
 ·rintro c' s ⟨T,S,H3,rem,lim,rfl,t0,t1,t2,t3,t9,t10,hp⟩
  obtain ⟨⟨P,hPl,hbd,hsp,hcn⟩,hrl,hu,hF3,hlim⟩:=hp
  have hno:c ∉ rem:=List.count_eq_zero.1 (by omega)
  rw [spl_none hno] at hsp
  obtain ⟨H6,f,q0,q1,q2,q3,q4,q5,q6,_⟩:=hbd.put hF3 (i:=K) (by omega) (v:=.string ⟨rem.toArray⟩) rfl rfl rfl
  have u6:=q5 H' hu (Nat.le_refl _)
  have hw:=wrap_succ K (by omega)
  have iap:vv (.ia 1) [.slice (some ⟨H'.length,0,none⟩) (K+1) 1,.int .i64 (K:Nat)]=some (.pointer (some ⟨H'.length,0+K*1,none⟩)):=vv_iaN 1 _ 0 K _ _ _ (by omega)
  rw [Nat.zero_add] at iap
  have hset:splice (cells encS (P++List.replicate (K+1 - K) [])) (K*1) (Value.string ⟨rem.toArray⟩).cells.toList=cells encS (P++[rem]):=by
   have e1:(Value.string ⟨rem.toArray⟩).cells.toList=encS rem:=rfl
   rw [e1,splice_cells encS_len rem (by simp [hPl])]
   congr 1
   rw [List.set_append_right _ _ (by omega),hPl,Nat.sub_self,show K+1 - K=0+1 by omega,List.replicate_succ,List.set_cons_zero]
   rfl
  rw [hset,←hsp] at q3
  have hs6:=q3.sl encS_len (by decide)
  obtain ⟨a',m',r1,r2⟩:=hs6.cut 1 0 (K+1) (by omega) (Nat.le_refl _)
  have hall:((spl c s).drop 0).take (K+1 - 0)=spl c s:=by rw [List.drop_zero,List.take_of_length_le (by omega)]
  rw [hall,Nat.sub_zero] at r2
  rw [Nat.sub_zero] at r1
  have r1':VOp.ev.slc 1 (some ⟨H'.length,0,none⟩) (K+1) 1 0 ((K+1:Nat):Int)=some (.slice a' (K+1) m'):=r1
  have la:isLoc (.slice a' (K+1) m')=false:=r2.isLoc _
  have e3:=hu.len
  simp (maxDischargeDepth:=8) only [↓SD,SU,SV,SW,simprocAttr,Int.cast_ofNat_Int,small,resV, q152x0,t0,t1,t2,t3,t9,t10, lt_nat,Nat.lt_irrefl,iap,q2,hw,vv_slh,r1',la,R152,N152]
  rw [yes_some]
  exact gc_sl r2 u6 (by omega)
theorem c128 (s:List UInt8)(c:UInt8)(hsl:s.length≤100000)(H':Heap)(hF:Fam H'):Yes (R (.func 128) [.string ⟨s.toArray⟩,.string ⟨[c].toArray⟩] H') (QS H' 1 encS (spl c s)):=by
 refine run_y (pr 128) P128 (by simp [p128]) rfl ?_
 obtain ⟨o,ho,a,m,H1,lo,rfl,u1,hlo,s1⟩:=c152 s c hsl H' hF
 have la:=s1.isLoc m
 simp (maxDischargeDepth:=8) only [↓SD,SU,SV,SW,simprocAttr,Int.cast_ofNat_Int,small,resV, B128,R128,N128,b128, ho,la,R128,N128]
 rw [yes_some]
 exact gc_sl s1 u1 (by omega)
end Go.Pi.L.Ben
set_option maxRecDepth 100000
namespace BM
open Go
def isDig (x:UInt8):Bool:=Nat.ble 48 x.toNat&&Nat.ble x.toNat 57
def valD:List UInt8→Nat→Nat
 | [],n=>n
 | x :: l,n=>valD l (10*n+(x.toNat - 48))
def numW (w:List UInt8):Option Int:=if w≠[]∧w.length≤2∧w.all isDig=true∧Pi.Q.dig (valD w 0)=w then some (valD w 0) else none
theorem isDig_iff {x:UInt8}:isDig x=true↔48≤x.toNat∧x.toNat≤57:=by
 unfold isDig; rw [Bool.and_eq_true]; simp [Nat.ble_eq]
theorem valD_snoc:∀(l:List UInt8) (x:UInt8) (n:Nat),valD (l++[x]) n=10*valD l n+(x.toNat - 48)
 | [],x,n=>rfl
 | y :: l,x,n=>by rw [List.cons_append,valD,valD_snoc l x]; rfl
theorem valD_le {w:List UInt8}(h:w.length≤2)(hd:w.all isDig=true):valD w 0≤99:=by
 match w,h with
 | [],_=>decide
 | [x],_ =>
  simp only [List.all_cons,List.all_nil,Bool.and_true,isDig_iff] at hd
  simp only [valD]; omega
 | [x,y],_ =>
  simp only [List.all_cons,List.all_nil,Bool.and_true,Bool.and_eq_true,isDig_iff] at hd
  simp only [valD]; omega
end BM
namespace Go.Pi.L.Ben
open Go Go.Pi Go.Pi.L Go.Pi.E Go.Pi.Ben BM Go.Pi.Q

theorem ba_get! (l:List UInt8)(i:Nat){x:UInt8}(h:l[i]?=some x):(⟨l.toArray⟩:ByteArray).get! i=x:=by
 have hl:=(List.getElem?_eq_some_iff.1 h).1
 show (l.toArray)[i]! = x
 rw [getElem!_pos _ i (by simpa using hl)]
 have:=(List.getElem?_eq_some_iff.1 h).2
 simpa using this
theorem dec_lo {l:List UInt8}{i:Nat}{x:UInt8}(h:l[i]?=some x)(hx:x.toNat < 128):Utf8.decode ⟨l.toArray⟩ i=(x.toNat,1):=by
 unfold Utf8.decode
 simp only [Nat.add_zero,ba_get! l i h]
 rw [if_pos (show x.toNat < 0x80 from hx)]
theorem dec_hi {l:List UInt8}{i:Nat}{x:UInt8}(h:l[i]?=some x)(hx:128≤x.toNat):128≤(Utf8.decode ⟨l.toArray⟩ i).1:=by
 unfold Utf8.decode
 simp only [Nat.add_zero,ba_get! l i h]
 rw [if_neg (show ¬x.toNat < 0x80 by omega)]
 have he:128≤Utf8.runeError:=by decide
 repeat' split
 all_goals first | exact he | (simp only; simp only [ge_iff_le,Bool.and_eq_true,decide_eq_true_eq] at *; omega)
theorem c129t (w:ByteArray)(H:Heap):R (.func 129) [.bool true,.string w] H=some ⟨.ok (.tuple #[]),H,H.length⟩:=by
 refine run_k (pr 129) P129 (by simp [p129]) rfl ?_
 simp (maxDischargeDepth:=8) only [↓SD,SU,SV,SW,simprocAttr,Int.cast_ofNat_Int,small,resV, B129,R129,N129,b129, R129,N129]
theorem c129f (w:ByteArray)(H:Heap):R (.func 129) [.bool false,.string w] H=some ⟨.panic (.iface 142 (.agg #[.string w])),H,H.length⟩:=by
 refine run_k (pr 129) P129 (by simp [p129]) rfl ?_
 simp (maxDischargeDepth:=8) only [↓SD,SU,SV,SW,simprocAttr,Int.cast_ofNat_Int,small,resV, B129,R129,N129,b129, R129,N129]
theorem good_len (w:List UInt8):∃g,g≤w.length∧(∀j,j < g→∃x,w[j]?=some x∧isDig x=true∧w.length≤2)∧((g=w.length∧w.all isDig=true∧(w=[]∨w.length≤2))∨(numW w=none∧∃x,w[g]?=some x∧(isDig x=false∨¬w.length≤2))):=by
 by_cases h2:w.length≤2
 ·have key:∀v:List UInt8,∃g,g≤v.length∧(∀j,j < g→∃x,v[j]?=some x∧isDig x=true)∧((g=v.length∧v.all isDig=true)∨(v.all isDig=false∧∃x,v[g]?=some x∧isDig x=false)):=by
   intro v
   induction v with
   | nil=>exact ⟨0,Nat.le_refl _,fun j hj=>by omega,.inl ⟨rfl,rfl⟩⟩
   | cons x v ih =>
    cases hx:isDig x with
    | false=>exact ⟨0,Nat.zero_le _,fun j hj=>by omega,.inr ⟨by simp [hx],x,rfl,hx⟩⟩
    | true =>
     obtain ⟨g,a1,a2,a3⟩:=ih
     refine ⟨g+1,by simp; omega,fun j hj=>?_,?_⟩
     ·cases j with
      | zero=>exact ⟨x,rfl,hx⟩
      | succ j=>exact a2 j (by omega)
     ·rcases a3 with ⟨b1,b2⟩ | ⟨b1,y,b2,b3⟩
      ·exact .inl ⟨by simp [b1],by simp [hx,b2]⟩
      ·exact .inr ⟨by simp [hx,b1],y,b2,b3⟩
  obtain ⟨g,a1,a2,a3⟩:=key w
  refine ⟨g,a1,fun j hj=>?_,?_⟩
  ·obtain ⟨x,b1,b2⟩:=a2 j hj; exact ⟨x,b1,b2,h2⟩
  ·rcases a3 with ⟨b1,b2⟩ | ⟨b1,y,b2,b3⟩
   ·exact .inl ⟨b1,b2,.inr h2⟩
   ·refine .inr ⟨?_,y,b2,.inl b3⟩
    unfold numW; rw [if_neg (fun h=>by rw [b1] at h; exact absurd h.2.2.1 (by decide))]
 ·obtain ⟨x,hx⟩:∃x,w[0]?=some x:=⟨_,List.getElem?_eq_getElem (by omega)⟩
  exact ⟨0,Nat.zero_le _,fun j hj=>by omega,.inr ⟨by unfold numW; rw [if_neg (fun h=>h2 h.2.1)],x,hx,.inr h2⟩⟩
theorem rng_s (b:ByteArray):rngA (.string b)=some ⟨.iter b 0,false,ptrA⟩:=rfl
theorem set_last {H:Heap}{x y:Blk}:(H++[x]).set H.length y=H++[y]:=by
 rw [List.set_append_right _ _ (Nat.le_refl _),Nat.sub_self]; rfl
theorem get_last {H:Heap}{x:Blk}:(H++[x])[H.length]?=some x:=by
 rw [List.getElem?_append_right (Nat.le_refl _),Nat.sub_self]; rfl
def numsW (xs:List (List UInt8)):Option (List Int):=xs.mapM numW
theorem numsW_cut:∀xs:List (List UInt8),∃K ns,K≤xs.length∧ns.length=K∧(∀j,j < K→∃w z,xs[j]?=some w∧ns[j]?=some z∧numW w=some z)∧((K=xs.length∧numsW xs=some ns)∨(numsW xs=none∧∃w,xs[K]?=some w∧numW w=none))
 | []=>⟨0,[],Nat.le_refl _,rfl,fun j hj=>by omega,.inl ⟨rfl,rfl⟩⟩
 | w :: xs=>by
  obtain ⟨K,ns,a1,a2,a3,a4⟩:=numsW_cut xs
  cases hw:numW w with
  | none=>exact ⟨0,[],Nat.zero_le _,rfl,fun j hj=>by omega,.inr ⟨by simp [numsW,List.mapM_cons,hw],w,rfl,hw⟩⟩
  | some z =>
   refine ⟨K+1,z :: ns,by simp; omega,by simp [a2],fun j hj=>?_,?_⟩
   ·cases j with
    | zero=>exact ⟨w,z,rfl,rfl,hw⟩
    | succ j=>exact a3 j (by omega)
   ·rcases a4 with ⟨b1,b2⟩ | ⟨b1,y,b2,b3⟩
    ·refine .inl ⟨by simp [b1],?_⟩
     unfold numsW at b2 ⊢
     rw [List.mapM_cons,hw,b2]; rfl
    ·refine .inr ⟨?_,y,b2,b3⟩
     unfold numsW at b1 ⊢
     rw [List.mapM_cons,hw,b1]; rfl
end Go.Pi.L.Ben
