/- Coats: an increasing list with a number. -/
import Derived.Test.YtjidjpcnocddeaaGreatDoorDE
import Derived.Test.YtjidjpcnocddeaaGreatDoorDP
import Derived.Test.YtjidjpcnocddeaaGreatDoorDH
set_option linter.all false
set_option maxRecDepth 100000
namespace CM
def lead:List Int→Int→Nat
 | [],_=>0
 | x :: l,n=>if x < n then lead l n+1 else 0
theorem lead_le:∀(l:List Int) (n:Int),lead l n≤l.length
 | [],_=>Nat.le_refl _
 | x :: l,n=>by have:=lead_le l n; simp only [lead]; split <;> simp <;> omega
theorem lead_lt:∀{l:List Int} {n:Int} {j:Nat} {x:Int},l[j]?=some x→j < lead l n→x < n
 | [],_,_,_,h,_=>by simp at h
 | y :: l,n,0,x,h,hj=>by
  simp only [List.getElem?_cons_zero,Option.some.injEq] at h
  subst h
  simp only [lead] at hj
  split at hj
  ·assumption
  ·omega
 | y :: l,n,j+1,x,h,hj=>by
  simp only [List.getElem?_cons_succ] at h
  simp only [lead] at hj
  split at hj
  ·exact lead_lt h (by omega)
  ·omega
theorem lead_at:∀{l:List Int} {n y:Int},l[lead l n]?=some y→¬y < n
 | [],_,_,h=>by simp at h
 | x :: l,n,y,h=>by
  simp only [lead] at h
  split at h
  ·simp only [List.getElem?_cons_succ] at h; exact lead_at h
  ·rename_i hc
   simp only [List.getElem?_cons_zero,Option.some.injEq] at h
   subst h; exact hc
theorem withL_none:∀{l:List Int} {n:Int},l[lead l n]?=none→withL l n=l.take (lead l n)++[n]
 | [],n,_=>rfl
 | x :: l,n,h=>by
  simp only [lead] at h ⊢
  simp only [withL]
  by_cases hc:x < n
  ·rw [if_pos hc] at h ⊢
   simp only [List.getElem?_cons_succ] at h
   rw [if_pos hc,withL_none h]; simp
  ·rw [if_neg hc] at h; simp at h
theorem withL_eq:∀{l:List Int} {n:Int},l[lead l n]?=some n→withL l n=l.take (lead l n)++[n]++l.drop (lead l n+1)
 | [],n,h=>by simp at h
 | x :: l,n,h=>by
  simp only [lead] at h ⊢
  simp only [withL]
  by_cases hc:x < n
  ·rw [if_pos hc] at h ⊢
   simp only [List.getElem?_cons_succ] at h
   rw [if_pos hc,withL_eq h]; simp
  ·rw [if_neg hc] at h ⊢
   simp only [List.getElem?_cons_zero,Option.some.injEq] at h
   rw [if_neg hc,if_pos h,←h]; simp
theorem withL_ne:∀{l:List Int} {n y:Int},l[lead l n]?=some y→y≠n→withL l n=l.take (lead l n)++[n]++l.drop (lead l n)
 | [],n,_,h,_=>by simp at h
 | x :: l,n,y,h,hy=>by
  simp only [lead] at h ⊢
  simp only [withL]
  by_cases hc:x < n
  ·rw [if_pos hc] at h ⊢
   simp only [List.getElem?_cons_succ] at h
   rw [if_pos hc,withL_ne h hy]; simp
  ·rw [if_neg hc] at h ⊢
   simp only [List.getElem?_cons_zero,Option.some.injEq] at h
   rw [if_neg hc,if_neg (by rw [h]; exact hy)]; simp
end CM
namespace Go.Pi.L.Coa
open Go Go.Pi Go.Pi.L Go.Pi.Coa CM

theorem cells_apps {β:Type}(enc:β→List Value)(xs ys:List β):cells enc (xs++ys)=cells enc xs++cells enc ys:=by simp [cells]
theorem c64 {H:Heap}{a:Option Addr}{l m:Nat}{xs:List Int}(hx:Ints H a l xs)(hl:l < 1000)(n:Int):∀H',Grow H H'→Fam H'→Yes (R (.func 64) [.slice a l m,.int .i64 n] H') (QS H' 1 encI (withL xs n)):=by
 intro H' hg hF
 refine run_y (pr 64) P64 (by simp [p64]) rfl ?_
 have l1:=hx.isLoc m
 have hlen:=hx.len
 have hk:=lead_le xs n
 simp (maxDischargeDepth:=8) only [↓SD,SU,SV,SW,simprocAttr,Int.cast_ofNat_Int,small,resV, B64,R64,N64,b64, l1]
 refine loop_ind (G:=(Yes · (QS H' 1 encI (withL xs n)))) (fun j σ=>∃T S H1 ao mo lim,σ=⟨T,S,[],H1,lim,54,false⟩∧get T 0=.slice a l m∧get T 1=.int .i64 n∧get T 5=.slice ao j mo∧get T 6=.int .i64 (j:Nat)∧(Bld H'.length H1 1 ao j mo (cells encI (xs.take j))∧Up H' H1∧Fam H1∧H'.length≤lim)) (lead xs n) ?_ ?_ 0 _ (Nat.zero_le _) ⟨_,_,_,_,_,_,rfl,rfl,rfl,rfl,rfl,⟨Bld.nil _ _ _,Up.refl _,hF,by omega⟩⟩
 ·rintro c' j s hj ⟨T,S,H1,ao,mo,lim,rfl,t0,t1,t5,t6,hp⟩ ih
  obtain ⟨hB,hu,hF1,hlim⟩:=hp
  have hjl:j < l:=by omega
  obtain ⟨b,off,x,rfl,hx',f0⟩:=hx.i1 hjl
  have f0':=f0 H1 (hg.trans hu.grow)
  have c1:=lead_lt hx' hj
  have hw1:=wrap_succ j (by omega)
  have N1:=hu.len
  obtain ⟨a4,m4,H4,q4,B4,g4,u4,hF4,n4⟩:=hB.appl hF1 (by decide) (by decide) (by omega) [.int .i64 x] (i:=1) rfl (by omega)
  have l5:=hB.isLoc j mo
  have l6:=B4.isLoc (j+1) m4
  rw [show cells encI (xs.take j)++[.int .i64 x]=cells encI (xs.take (j+1)) by rw [take_snoc hx',cells_app]; rfl] at B4
  simp (maxDischargeDepth:=8) only [↓SD,SU,SV,SW,simprocAttr,Int.cast_ofNat_Int,small,resV, q64x0,t0,t1,t5,t6, lt_nat,hjl,l1,l5,l6,f0',c1,q4,hw1]
  exact ih _ ⟨_,_,(H4),(a4),(m4),(_),rfl,(by simp [get_set,t0] <;> omega),(by simp [get_set,t1] <;> omega),(by simp [get_set,t5] <;> omega),(by simp [get_set,t6] <;> omega),⟨B4,u4 H' hu (Nat.le_refl _),hF4,by omega⟩⟩
 ·rintro c' s ⟨T,S,H1,ao,mo,lim,rfl,t0,t1,t5,t6,hp⟩
  obtain ⟨hB,hu,hF1,hlim⟩:=hp
  have N1:=hu.len
  have hx1:=Sl.grow hx (hg.trans hu.grow)
  generalize hkk:lead xs n=k at *
  obtain ⟨a4,m4,H4,q4,B4,g4,u4,hF4,n4⟩:=hB.appl hF1 (by decide) (by decide) (by omega) [.int .i64 n] (i:=1) rfl (by omega)
  have l5:=hB.isLoc k mo
  have l6:=B4.isLoc (k+1) m4
  have hw1:=wrap_succ k (by omega)
  rw [show cells encI (xs.take k)++[.int .i64 n]=cells encI (xs.take k++[n]) by rw [cells_app]; rfl] at B4
  have U4:=u4 H' hu (Nat.le_refl _)
  have N4:=U4.len
  have hx4:=Sl.grow hx1 g4
  by_cases hc:k < l
  ·obtain ⟨b,off,y,rfl,hy,f0⟩:=hx.i1 hc
   have f0':=f0 H1 (hg.trans hu.grow)
   have f0'':=f0 H4 (hg.trans U4.grow)
   have c1:=lead_at (show xs[lead xs n]?=some y by rw [hkk]; exact hy)
   by_cases c2:y=n
   ·subst c2
    obtain ⟨a5,m5,hs5,hC⟩:=hx4.cut m (k+1) l (by omega) (Nat.le_refl _)
    have hsl:=vv_sll' 1 (some ⟨b,off,none⟩) l m ((k+1:Nat):Int) .i64 l1
    rw [hs5] at hsl
    have hdr:(xs.drop (k+1)).take (l - (k+1))=xs.drop (k+1):=List.take_of_length_le (by simp [hlen])
    rw [hdr] at hC
    have l7:=hC.isLoc m5
    have el:=hC.elems encI_len (by decide) m5
    obtain ⟨a6,m6,H6,q6,B6,g6,u6,hF6,n6⟩:=B4.appl hF4 (by decide) (by decide) (by omega) (cells encI (xs.drop (k+1))) (i:=l - (k+1)) (by rw [cells_len encI_len,hC.len]) (by omega)
    have l8:=B6.isLoc (k+1+(l - (k+1))) m6
    rw [←cells_apps,←hkk,←withL_eq (show xs[lead xs y]?=some y by rw [hkk]; exact hy),hkk] at B6
    simp (maxDischargeDepth:=8) only [↓SD,SU,SV,SW,simprocAttr,Int.cast_ofNat_Int,small,resV, q64x0,t0,t1,t5,t6, lt_nat,hc,l1,l5,l6,l7,l8,f0',f0'',c1,q4,hw1,hsl,el,q6,R64,N64]
    rw [yes_some]
    exact gc_sl (B6.sl encI_len (by decide)) (u6 H' U4 (Nat.le_refl _)) (by omega)
   ·obtain ⟨a5,m5,hs5,hC⟩:=hx4.cut m k l (by omega) (Nat.le_refl _)
    have hsl:=vv_sll' 1 (some ⟨b,off,none⟩) l m (k:Int) .i64 l1
    rw [hs5] at hsl
    have hdr:(xs.drop k).take (l - k)=xs.drop k:=List.take_of_length_le (by simp [hlen])
    rw [hdr] at hC
    have l7:=hC.isLoc m5
    have el:=hC.elems encI_len (by decide) m5
    obtain ⟨a6,m6,H6,q6,B6,g6,u6,hF6,n6⟩:=B4.appl hF4 (by decide) (by decide) (by omega) (cells encI (xs.drop k)) (i:=l - k) (by rw [cells_len encI_len,hC.len]) (by omega)
    have l8:=B6.isLoc (k+1+(l - k)) m6
    rw [←cells_apps,←hkk,←withL_ne (show xs[lead xs n]?=some y by rw [hkk]; exact hy) c2,hkk] at B6
    simp (maxDischargeDepth:=8) only [↓SD,SU,SV,SW,simprocAttr,Int.cast_ofNat_Int,small,resV, q64x0,t0,t1,t5,t6, lt_nat,hc,l1,l5,l6,l7,l8,f0',f0'',c1,c2,q4,hw1,hsl,el,q6,R64,N64]
    rw [yes_some]
    exact gc_sl (B6.sl encI_len (by decide)) (u6 H' U4 (Nat.le_refl _)) (by omega)
  ·have hkl:k=l:=by omega
   have hn:xs[lead xs n]?=none:=by rw [hkk,List.getElem?_eq_none_iff]; omega
   obtain ⟨a5,m5,hs5,hC⟩:=hx4.cut m k l (by omega) (Nat.le_refl _)
   have hsl:=vv_sll' 1 a l m (k:Int) .i64 l1
   rw [hs5] at hsl
   have l7:=hC.isLoc m5
   have el:=hC.elems encI_len (by decide) m5
   have hdr:(xs.drop k).take (l - k)=[]:=by rw [show l - k=0 by omega]; rfl
   rw [hdr] at hC el
   obtain ⟨a6,m6,H6,q6,B6,g6,u6,hF6,n6⟩:=B4.appl hF4 (by decide) (by decide) (by omega) (cells encI ([]:List Int)) (i:=0) rfl (by omega)
   have l8:=B6.isLoc (k+1+0) m6
   rw [←cells_apps,List.append_nil,←hkk,←withL_none hn,hkk] at B6
   simp (maxDischargeDepth:=8) only [↓SD,SU,SV,SW,simprocAttr,Int.cast_ofNat_Int,small,resV, q64x0,t0,t1,t5,t6, lt_nat,hc,l1,l5,l6,l7,l8,q4,hw1,hsl,el,q6,R64,N64]
   rw [yes_some]
   exact gc_sl (B6.sl encI_len (by decide)) (u6 H' U4 (Nat.le_refl _)) (by omega)
end Go.Pi.L.Coa
set_option maxRecDepth 100000
namespace Go.Pi.L.Coa
open Go Go.Pi Go.Pi.L Go.Pi.Coa CM

theorem quickR {H:Heap}{r:ShR}{s:Sheet}(hs:ShOk H r s)(hd:Small r)(e:isSheet s=true):∀H',Grow H H'→Fam H'→∃q w:Int,R (.func 47) [.agg #[.slice r.da r.dl r.dk,.slice r.wa r.wl r.wk,.slice r.ca r.cl r.ck]] H'=some ⟨.ok (.tuple #[.int .i64 q,.int .i64 w]),H',H'.length⟩∧((allP s=[]∧q=0∧w=5)∨(allP s≠[]∧q=quickOf (allP s)∧w=0)):=by
 intro H' hg hF
 have k:=c47 hs hd H' hg hF
 rw [if_pos e] at k
 by_cases hl:allP s=[]
 ·rw [if_pos hl] at k; exact ⟨_,_,k,.inl ⟨hl,rfl,rfl⟩⟩
 ·rw [if_neg hl] at k; exact ⟨_,_,k,.inr ⟨hl,rfl,rfl⟩⟩
set_option maxHeartbeats 4000000 in
theorem c17 {H:Heap}{r:ShR}{s:Sheet}(hs:ShOk H r s){pa:Option Addr}{pl pk:Nat}{plan:List Int}(hq:Ints H pa pl plan){day lo hi work n k:Int}(hF:Fam H) :
  R (.func 17) [.agg #[.slice r.da r.dl r.dk,.slice r.wa r.wl r.wk,.slice r.ca r.cl r.ck],.slice pa pl pk,.int .i64 day,.agg #[.int .i64 lo,.int .i64 hi],.int .i64 work,.int .i64 n,.int .i64 k] H=some ⟨.ok (.bool true),H,H.length⟩:=by
 refine run_k (pr 17) P17 (by simp [p17]) rfl ?_
 have l4:=hq.isLoc pk
 have k29:=c29 (pk:=pk) hs hq H (Grow.refl _)
 cases e1:isRight r s pl plan with
 | false =>
  have l1:=hs.d.isLoc r.dk
  have l2:=hs.w.isLoc r.wk
  have l3:=hs.c.isLoc r.ck
  simp (maxDischargeDepth:=8) only [↓SD,SU,SV,SW,simprocAttr,Int.cast_ofNat_Int,small,resV, B17,R17,N17,b17, l1,l2,l3,l4,k29,e1,c23]
 | true =>
 obtain ⟨e2,e3,e4,e5⟩:=right_of e1
 have hd:=short_small e2
 have hS:=fine_of e4
 have hP:=plan_of hS e5
 have hd2:=hS.d2
 have hc2:=hS.c2
 have hsd:=hs.d.len
 have hsw:=hs.w.len
 have hsc:=hs.c.len
 have hwl:=work_len hS
 have k60:=c60 hs hd.d day H (Grow.refl _)
 have k60w:=c60 hs hd.d work H (Grow.refl _)
 have k36:=c36 hs hd.c n H (Grow.refl _)
 have hs0:=hs
 have hd0:=hd
 obtain ⟨da,dl,dk,wa,wl,wk,ca,cl,ck⟩:=r
 have hD:Spans H da dl s.dry:=hs.d
 have hW:Ints H wa wl s.work:=hs.w
 have hC:Spans H ca cl s.coats:=hs.c
 have nD:dl < 1000000:=hd.d
 have nW:wl < 1000000:=hd.w
 have nC:cl < 1000000:=hd.c
 have l1:=hD.isLoc dk
 have l2:=hW.isLoc wk
 have l3:=hC.isLoc ck
 simp only at k29 k60 k60w k36 e1 hsd hsw hsc
 cases e6:isDay s day with
 | false=>simp (maxDischargeDepth:=8) only [↓SD,SU,SV,SW,simprocAttr,Int.cast_ofNat_Int,small,resV, B17,R17,N17,b17, l1,l2,l3,l4,k29,e1,c23,k60,e6]
 | true =>
 obtain ⟨d,rfl,hdd⟩:∃d:Nat,day=d∧d < s.dry.length:=by
  simp only [isDay,inL_iff] at e6
  exact ⟨day.toNat,by omega,by omega⟩
 obtain ⟨b1,off1,o,hda,ho,_,f1,f2⟩:=hD.s2 (j:=d) (by omega)
 have f1:=f1 H (Grow.refl _)
 have f2:=f2 H (Grow.refl _)
 have hdl:d < dl:=by omega
 subst hda
 by_cases c1:lo < o.1
 ·simp (maxDischargeDepth:=8) only [↓SD,SU,SV,SW,simprocAttr,Int.cast_ofNat_Int,small,resV, B17,R17,N17,b17, l1,l2,l3,l4,k29,e1,c23,k60,e6,lt_nat,hdl,f1,c1]
 by_cases c2:o.2 < hi
 ·simp (maxDischargeDepth:=8) only [↓SD,SU,SV,SW,simprocAttr,Int.cast_ofNat_Int,small,resV, B17,R17,N17,b17, l1,l2,l3,l4,k29,e1,c23,k60,e6,lt_nat,hdl,f1,c1,f2,c2]
 by_cases c3:hi < lo
 ·simp (maxDischargeDepth:=8) only [↓SD,SU,SV,SW,simprocAttr,Int.cast_ofNat_Int,small,resV, B17,R17,N17,b17, l1,l2,l3,l4,k29,e1,c23,k60,e6,lt_nat,hdl,f1,c1,f2,c2,c3]
 cases e7:isDay s work with
 | false=>simp (maxDischargeDepth:=8) only [↓SD,SU,SV,SW,simprocAttr,Int.cast_ofNat_Int,small,resV, B17,R17,N17,b17, l1,l2,l3,l4,k29,e1,c23,k60,e6,lt_nat,hdl,f1,c1,f2,c2,c3,k60w,e7]
 | true =>
 cases e8:isCoat s n with
 | false=>simp (maxDischargeDepth:=8) only [↓SD,SU,SV,SW,simprocAttr,Int.cast_ofNat_Int,small,resV, B17,R17,N17,b17, l1,l2,l3,l4,k29,e1,c23,k60,e6,lt_nat,hdl,f1,c1,f2,c2,c3,k60w,e7,k36,e8]
 | true =>
 by_cases c4:k < 0
 ·simp (maxDischargeDepth:=8) only [↓SD,SU,SV,SW,simprocAttr,Int.cast_ofNat_Int,small,resV, B17,R17,N17,b17, l1,l2,l3,l4,k29,e1,c23,k60,e6,lt_nat,hdl,f1,c1,f2,c2,c3,k60w,e7,k36,e8,c4]
 by_cases c5:288 < k
 ·simp (maxDischargeDepth:=8) only [↓SD,SU,SV,SW,simprocAttr,Int.cast_ofNat_Int,small,resV, B17,R17,N17,b17, l1,l2,l3,l4,k29,e1,c23,k60,e6,lt_nat,hdl,f1,c1,f2,c2,c3,k60w,e7,k36,e8,c4,c5]
 obtain ⟨i,rfl,hi'⟩:∃i:Nat,n=i∧i < s.coats.length:=by
  simp only [isCoat,inL_iff] at e8
  exact ⟨n.toNat,by omega,by omega⟩
 obtain ⟨b2,off2,c,hca,hc,_,g1,g2⟩:=hC.s2 (j:=i) (by omega)
 have hil:i < cl:=by omega
 subst hca
 have hcc:=hS.coats c (List.mem_of_getElem? hc)
 have hcp:=peel_of e4 c (List.mem_of_getElem? hc)
 have el1:=hD.elems (fun _=>rfl) (by decide) dk
 obtain ⟨H1,q1,B1,G1,F1⟩:=(Bld.nil H.length H 2).apps hF (by decide) (by decide) (Nat.le_refl _) (cells encS s.dry) (i:=dl) (by omega) (by rw [cells_len (k:=2) (fun _=>rfl),hsd]) (by omega)
 have u1:Up H H1:=G1.up (Bld.nil H.length H 2) (Up.refl _) (Nat.le_refl _)
 rw [Nat.zero_add] at B1 q1
 rw [List.nil_append] at B1
 have r1:=B1.isLoc dl 2
 obtain ⟨H2,fb2,hf2,_,q2,B2,F2,up2,len2,_⟩:=B1.put F1 (i:=d) hdl (v:=.agg #[.int .i64 lo,.int .i64 hi]) rfl (by rfl) rfl
 have s2:splice (cells encS s.dry) (d*2) (Value.cells (.agg #[.int .i64 lo,.int .i64 hi])).toList=cells encS (s.dry.set d (lo,hi)):=splice_cells (enc:=encS) (k:=2) (fun _=>rfl) (lo,hi) hdd
 rw [s2] at B2
 have u2:Up H H2:=up2 H u1 (Nat.le_refl _)
 obtain ⟨o3,k64,a3,m3,H3,lo3,rfl,u3,hlo3,hwk⟩:=c64 (m:=wk) hW (by omega) work H2 u2.grow F2
 have F3:=famR k64 F2
 have r3:=hwk.isLoc m3
 have u23:=u2.trans u3
 have el3:=(hC.grow u23.grow).elems (fun _=>rfl) (by decide) ck
 obtain ⟨H4,q4,B4,G4,F4⟩:=(Bld.nil H3.length H3 2).apps F3 (by decide) (by decide) (Nat.le_refl _) (cells encS s.coats) (i:=cl) (by omega) (by rw [cells_len (k:=2) (fun _=>rfl),hsc]) (by omega)
 have u4:Up H3 H4:=G4.up (Bld.nil H3.length H3 2) (Up.refl _) (Nat.le_refl _)
 rw [Nat.zero_add] at B4 q4
 rw [List.nil_append] at B4
 have r4:=B4.isLoc cl 2
 obtain ⟨H5,fb5,hf5,_,q5,B5,F5,up5,len5,_⟩:=B4.put F4 (i:=i) hil (v:=.agg #[.int .i64 (max 1 (c.1 - k)),.int .i64 (min 400 (c.2+k))]) rfl (by rfl) rfl
 have s5:splice (cells encS s.coats) (i*2) (Value.cells (.agg #[.int .i64 (max 1 (c.1 - k)),.int .i64 (min 400 (c.2+k))])).toList=cells encS (s.coats.set i (max 1 (c.1 - k),min 400 (c.2+k))):=splice_cells (enc:=encS) (k:=2) (fun _=>rfl) (max 1 (c.1 - k),min 400 (c.2+k)) hi'
 rw [s5] at B5
 have u5:Up H3 H5:=up5 H3 u4 (Nat.le_refl _)
 have U:=u23.trans u5
 have g1:=g1 H4 (u23.trans u4).grow
 have g2:=g2 H4 (u23.trans u4).grow
 have w1:IntKind.wrap .i64 (c.1 - k)=c.1 - k:=wrap_id _ (by omega) (by omega)
 have w2:IntKind.wrap .i64 (c.2+k)=c.2+k:=wrap_id _ (by omega) (by omega)
 have w3:(if 1 < c.1 - k then c.1 - k else 1)=max 1 (c.1 - k):=by split <;> omega
 have w4:(if c.2+k < 400 then c.2+k else 400)=min 400 (c.2+k):=by split <;> omega
 obtain ⟨s',hs'⟩:∃s',moreS s d (lo,hi) work i c k=s':=⟨_,rfl⟩
 have M:MoreOf s s':=hs' ▸ more_of ho (by show o.1≤lo; omega) (by show hi≤o.2; omega) hc (by omega) (by omega) (by omega)
 have e4':isSheet s'=true:=hs' ▸ more_sheet e4 ho (by show o.1≤lo; omega) (by show hi≤o.2; omega) (by show lo≤hi; omega) e7 hc (by omega)
 have hS':=fine_of e4'
 have e5':isPlan s' plan=true:=M.plan e5
 have sh:ShOk H5 ⟨some ⟨H.length,0,none⟩,dl,2,a3,(withL s.work work).length,m3,some ⟨H3.length,0,none⟩,cl,2⟩ s':=hs' ▸ ⟨Sl.grow (B2.sl (fun _=>rfl) (by decide)) (u3.trans u5).grow,Sl.grow hwk u5.grow,B5.sl (fun _=>rfl) (by decide)⟩
 have hwl':=withL_len s.work work
 have sm:Small ⟨some ⟨H.length,0,none⟩,dl,2,a3,(withL s.work work).length,m3,some ⟨H3.length,0,none⟩,cl,2⟩:=⟨by show dl < 1000000; omega,by show (withL s.work work).length < 1000000; omega,by show cl < 1000000; omega⟩
 have k44:=c44 (pk:=pk) (hs0.grow U.grow) hd0 (Sl.grow hq U.grow) (by omega) e4 e5 H5 (Grow.refl _)
 have k44x:=c44 (pk:=pk) sh sm (Sl.grow hq U.grow) (by omega) e4' e5' H5 (Grow.refl _)
 have k42:=c42 hs0 hd0 H5 U.grow F5
 have k42x:=c42 sh sm H5 (Grow.refl _) F5
 rw [if_pos e4] at k42
 rw [if_pos e4'] at k42x
 obtain ⟨qa,wa',k47,hqa⟩:=quickR hs0 hd0 e4 H5 U.grow F5
 obtain ⟨qb,wb',k47x,hqb⟩:=quickR sh sm e4' H5 (Grow.refl _) F5
 have hcnt:=M.count hS hS'
 have hsur:=@MoreOf.surely s s' M plan
 have hqk:=M.quick hS hS'
 have nn1:=u1.len
 have nn2:=u2.len
 have nn3:=u23.len
 have nn5:=U.len
 have hlo3':H.length≤lo3:=by have:H2.length≤lo3:=hlo3; omega
 generalize (withL s.work work).length=wl' at *
 simp (maxDischargeDepth:=8) only [↓SD,SU,SV,SW,simprocAttr,Int.cast_ofNat_Int,small,resV, B17,R17,N17,b17, l1,l2,l3,l4,k29,e1,c23,k60,e6,lt_nat,hdl,f1,c1,f2,c2,c3,k60w,e7,k36,e8,c4,c5,el1,q1,r1,q2,k64,r3,el3,q4,r4,hil,g1,g2,w1,w2,w3,w4,q5,k44,k44x,k42,k42x,k47,k47x,k_fixb]
 generalize hT:(@List.cons Value _ _)=T0
 have t14:get T0 14=.bool false:=by rw [←hT]; rfl
 have t18:get T0 18=.bool (surely s' plan):=by rw [←hT]; rfl
 have t20:get T0 20=.int .i64 (allP s).length:=by rw [←hT]; rfl
 have t21:get T0 21=.int .i64 0:=by rw [←hT]; rfl
 have t22:get T0 22=.int .i64 (allP s').length:=by rw [←hT]; rfl
 have t23:get T0 23=.int .i64 0:=by rw [←hT]; rfl
 have t24:get T0 24=.int .i64 qa:=by rw [←hT]; rfl
 have t25:get T0 25=.int .i64 wa':=by rw [←hT]; rfl
 have t26:get T0 26=.int .i64 qb:=by rw [←hT]; rfl
 have t27:get T0 27=.int .i64 wb':=by rw [←hT]; rfl
 have t168:get T0 168=.bool false:=by rw [←hT]; rfl
 have t170:get T0 170=.bool (surely s plan):=by rw [←hT]; rfl
 clear hT
 have z1:((allP s').length:Int) < ((allP s).length:Int)↔False:=⟨fun h=>by omega,fun h=>h.elim⟩
 have m2:H.length≤fb2:=hf2
 have m4:H.length≤H4.length:=by have:=u4.len; omega
 have m5:H.length≤fb5:=by omega
 generalize surely s plan=p1 at *
 generalize surely s' plan=p2 at *
 clear k44 k44x k42 k42x k47 k47x q1 q2 q4 q5
 rcases hqa with ⟨ha,rfl,rfl⟩ | ⟨ha,rfl,rfl⟩
 ·rcases hqb with ⟨hb,rfl,rfl⟩ | ⟨hb,rfl,rfl⟩
  ·cases p1 with
   | true =>
    obtain rfl:=hsur rfl
    simp (maxDischargeDepth:=8) only [↓SD,SU,SV,SW,simprocAttr,Int.cast_ofNat_Int,small,resV,t14,t18,t20,t21,t22,t23,t24,t25,t26,t27,t168,t170,z1,c23,R17,N17,nn1,nn2,nn3,nn5,hlo3',m2,m4,m5]
   | false =>
    simp (maxDischargeDepth:=8) only [↓SD,SU,SV,SW,simprocAttr,Int.cast_ofNat_Int,small,resV,t14,t18,t20,t21,t22,t23,t24,t25,t26,t27,t168,t170,z1,c23,R17,N17,nn1,nn2,nn3,nn5,hlo3',m2,m4,m5]
  ·cases p1 with
   | true =>
    obtain rfl:=hsur rfl
    simp (maxDischargeDepth:=8) only [↓SD,SU,SV,SW,simprocAttr,Int.cast_ofNat_Int,small,resV,t14,t18,t20,t21,t22,t23,t24,t25,t26,t27,t168,t170,z1,c23,R17,N17,nn1,nn2,nn3,nn5,hlo3',m2,m4,m5]
   | false =>
    simp (maxDischargeDepth:=8) only [↓SD,SU,SV,SW,simprocAttr,Int.cast_ofNat_Int,small,resV,t14,t18,t20,t21,t22,t23,t24,t25,t26,t27,t168,t170,z1,c23,R17,N17,nn1,nn2,nn3,nn5,hlo3',m2,m4,m5]
 ·obtain ⟨hn,hle⟩:=hqk ha
  rcases hqb with ⟨hb,rfl,rfl⟩ | ⟨hb,rfl,rfl⟩
  ·exact absurd hb hn
  ·cases p1 with
   | true =>
    obtain rfl:=hsur rfl
    simp (maxDischargeDepth:=8) only [↓SD,SU,SV,SW,simprocAttr,Int.cast_ofNat_Int,small,resV,t14,t18,t20,t21,t22,t23,t24,t25,t26,t27,t168,t170,z1,hle,c23,R17,N17,nn1,nn2,nn3,nn5,hlo3',m2,m4,m5]
   | false =>
    simp (maxDischargeDepth:=8) only [↓SD,SU,SV,SW,simprocAttr,Int.cast_ofNat_Int,small,resV,t14,t18,t20,t21,t22,t23,t24,t25,t26,t27,t168,t170,z1,hle,c23,R17,N17,nn1,nn2,nn3,nn5,hlo3',m2,m4,m5]
end Go.Pi.L.Coa
