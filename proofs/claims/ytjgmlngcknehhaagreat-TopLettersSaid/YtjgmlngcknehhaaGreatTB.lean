/- Letters: what the specification says is as defined. -/
import Derived.Test.YtjgmlngcknehhaaGreatTA
set_option linter.all false
set_option maxRecDepth 100000
namespace Go.Pi.L.Top
open Go Go.Pi Go.Pi.L Go.Pi.Top LM

structure Sm (r:LeR):Prop where
 w:r.wl < 1000000
 p:r.pl < 1000000
 n:r.nl < 1000000
 s:∀x∈r.xs,x.sl < 9223372036854775808
 c:∀x∈r.xs,x.cl < 9223372036854775808
theorem c52 {H:Heap}{r:LeR}{s:Sheet}(hr:LeOk H r s)(hd:Sm r)(x:Int):∀H',R (.func 52) [.agg #[.slice r.wa r.wl r.wk,.slice r.pa r.pl r.pk,.int .i64 s.other.1,.int .i64 s.other.2,.int .i64 s.gap.1,.int .i64 s.gap.2,.int .i64 s.hyphen,.slice r.na r.nl r.nk,.int .i64 s.wide,.int .i64 s.rows],.int .i64 x] H'=some ⟨.ok (.bool (inL x 0 ((s.widths.length:Int) - 1))),H',H'.length⟩:=by
 intro H'
 rw [hr.wd.len]
 have hw:=hd.w
 refine run_k (pr 52) P52 (by simp [p52]) rfl ?_
 obtain ⟨wa,wl,wk,pa,pl,pk,na,nl,nk,xs⟩:=r
 have hW:Ints H wa wl s.widths:=hr.wd
 have hP:Sl H 4 eP pa pl s.pairs:=hr.pr
 have hN:Sl H 3 eW na nl xs:=hr.ws
 have l1:=hW.isLoc wk
 have l2:=hP.isLoc pk
 have l3:=hN.isLoc nk
 simp only at hw ⊢
 have w1:IntKind.wrap .i64 ((wl:Int) - 1)=(wl:Int) - 1:=wrap_id _ (by omega) (by omega)
 simp (maxDischargeDepth:=8) only [↓SD,SU,SV,SW,simprocAttr,Int.cast_ofNat_Int,small,resV, B52,R52,N52,b52, l1,l2,l3,w1,c18]
theorem c21 (a b hi:Int)(H:Heap):R (.func 21) [.agg #[.int .i64 a,.int .i64 b],.int .i64 hi] H=some ⟨.ok (.bool (inL a 0 hi&&inL b a hi)),H,H.length⟩:=by
 refine run_k (pr 21) P21 (by simp [p21]) rfl ?_
 cases h:inL a 0 hi <;> simp (maxDischargeDepth:=8) only [↓SD,SU,SV,SW,simprocAttr,Int.cast_ofNat_Int,small,resV, B21,R21,N21,b21, c18,h,Bool.false_and]
theorem c22 (x:Int)(H:Heap):R (.func 22) [.int .i64 x] H=some ⟨.ok (.bool (inL x 1 400)),H,H.length⟩:=by
 refine run_k (pr 22) P22 (by simp [p22]) rfl ?_
 simp (maxDischargeDepth:=8) only [↓SD,SU,SV,SW,simprocAttr,Int.cast_ofNat_Int,small,resV, B22,R22,N22,b22, c18]
def QB (H:Heap)(P:Prop)(o:Out):Prop:=∃b:Bool,o=⟨.ok (.bool b),H,H.length⟩∧(b=true→P)
theorem QB.no {H:Heap}{P:Prop}:QB H P ⟨.ok (.bool false),H,H.length⟩:=⟨false,rfl,fun h=>by cases h⟩
theorem wrap_succ' (j:Nat)(h:j < 9223372036854775807):IntKind.wrap .i64 ((j:Int)+1)=((j+1:Nat):Int):=by rw [wrap_id _ (by omega) (by omega)]; omega
theorem c19 {H:Heap}{r:LeR}{s:Sheet}(hr:LeOk H r s)(hd:Sm r){x:WR}(hx:x∈r.xs) :
  ∀H',Grow H H'→Yes (R (.func 19) [.agg #[.slice r.wa r.wl r.wk,.slice r.pa r.pl r.pk,.int .i64 s.other.1,.int .i64 s.other.2,.int .i64 s.gap.1,.int .i64 s.gap.2,.int .i64 s.hyphen,.slice r.na r.nl r.nk,.int .i64 s.wide,.int .i64 s.rows],.agg #[.slice x.sa x.sl x.sk,.slice x.ca x.cl x.ck,.bool x.w.free]] H') (QB H' (FWord s.widths.length x.w)):=by
 intro H' hg
 have hS:=(hr.wt x hx).sg
 have hC:=(hr.wt x hx).ct
 have l4:=hS.isLoc x.sk
 have l5:=hC.isLoc x.ck
 have nS:=hd.s x hx
 have nC:=hd.c x hx
 have k52:=fun y=>c52 hr hd y H'
 refine run_y (pr 19) P19 (by simp [p19]) rfl ?_
 obtain ⟨wa,wl,wk,pa,pl,pk,na,nl,nk,xs⟩:=r
 have hW:Ints H wa wl s.widths:=hr.wd
 have hP:Sl H 4 eP pa pl s.pairs:=hr.pr
 have hN:Sl H 3 eW na nl xs:=hr.ws
 have l1:=hW.isLoc wk
 have l2:=hP.isLoc pk
 have l3:=hN.isLoc nk
 simp only at k52 ⊢
 simp (maxDischargeDepth:=8) only [↓SD,SU,SV,SW,simprocAttr,Int.cast_ofNat_Int,small,resV, B19,R19,N19,b19, l1,l2,l3,l4,l5]
 refine loop_ind (G:=(Yes · _)) (fun j σ=>∃T S,σ=⟨T,S,[],H',(H').length,62,false⟩∧get T 3=.pointer (some ⟨3,0,some 1⟩)∧get T 2=.pointer (some ⟨2,0,some 1⟩)∧get T 5=.int .i64 (j:Nat)∧sget S 2=(1,.cells [.slice wa wl wk,.slice pa pl pk,.int .i64 s.other.1,.int .i64 s.other.2,.int .i64 s.gap.1,.int .i64 s.gap.2,.int .i64 s.hyphen,.slice na nl nk,.int .i64 s.wide,.int .i64 s.rows])∧sget S 3=(1,.cells [.slice x.sa x.sl x.sk,.slice x.ca x.cl x.ck,.bool x.w.free])∧(∀y∈x.w.signs.take j,0≤y∧y < s.widths.length)) (x.sl) ?_ ?_ 0 _ (Nat.zero_le _) ⟨_,_,rfl,rfl,rfl,rfl,rfl,rfl,by simp⟩
 ·rintro c' j s hj ⟨T,S,rfl,t3,t2,t5,s0,s1,hp⟩ ih
  obtain ⟨b1,o1,y,hya,hy,e1⟩:=hS.i1 hj
  have e1:=e1 H' hg
  have ia:=ia_of (kk:=x.sk) (k:=1) hya hj
  have hw:=wrap_succ' j (by omega)
  cases q:inL y 0 ((s.widths.length:Int) - 1) with
  | false =>
   simp (maxDischargeDepth:=8) only [↓SD,SU,SV,SW,simprocAttr,Int.cast_ofNat_Int,small,resV, q19x1,t3,t2,t5,s0,s1, lt_nat,hj,l1,l2,l3,l4,l5,ia,e1,k52,q,R19,N19]
   rw [yes_some]; exact QB.no
  | true =>
   simp (maxDischargeDepth:=8) only [↓SD,SU,SV,SW,simprocAttr,Int.cast_ofNat_Int,small,resV, q19x1,t3,t2,t5,s0,s1, lt_nat,hj,l1,l2,l3,l4,l5,ia,e1,k52,q,hw]
   have hP:∀z∈x.w.signs.take (j+1),0≤z∧z < s.widths.length:=fun z hz=>by
    rw [List.take_add_one,hy] at hz
    rcases List.mem_append.1 hz with hz | hz
    ·exact hp z hz
    ·simp at hz; subst hz; have:=inL_s q; omega
   exact ih _ ⟨_,_,rfl,(by simp [get_set,t3] <;> omega),(by simp [get_set,t2] <;> omega),(by simp [get_set,t5] <;> omega),by simp [sget_sset,s0],by simp [sget_sset,s1],hP⟩
 ·rintro c' s ⟨T,S,rfl,t3,t2,t5,s0,s1,hp⟩
  have hP1:∀y∈x.w.signs,0≤y∧y < s.widths.length:=fun z hz=>hp z (by rw [List.take_of_length_le (by rw [hS.len]; exact Nat.le_refl _)]; exact hz)
  have w1:IntKind.wrap .i64 ((x.sl:Int) - 1)=(x.sl:Int) - 1:=wrap_id _ (by omega) (by omega)
  simp (maxDischargeDepth:=8) only [↓SD,SU,SV,SW,simprocAttr,Int.cast_ofNat_Int,small,resV, q19x1,t3,t2,t5,s0,s1, lt_nat,Nat.lt_irrefl,l1,l2,l3,l4,l5]
  refine loop_ind (G:=(Yes · _)) (fun j σ=>∃T S,σ=⟨T,S,[],H',(H').length,62,false⟩∧get T 3=.pointer (some ⟨3,0,some 1⟩)∧get T 6=.int .i64 (j:Nat)∧sget S 2=(1,.cells [.slice wa wl wk,.slice pa pl pk,.int .i64 s.other.1,.int .i64 s.other.2,.int .i64 s.gap.1,.int .i64 s.gap.2,.int .i64 s.hyphen,.slice na nl nk,.int .i64 s.wide,.int .i64 s.rows])∧sget S 3=(1,.cells [.slice x.sa x.sl x.sk,.slice x.ca x.cl x.ck,.bool x.w.free])∧((∀y∈x.w.cuts.take j,1≤y∧y < x.w.signs.length)∧(x.w.cuts.take j).Pairwise (· < ·))) (x.cl) ?_ ?_ 0 _ (Nat.zero_le _) ⟨_,_,rfl,(by first | rfl | simp [get_set,t3]),(by first | rfl | simp [get_set,t3]),(by first | rfl | exact s0),(by first | rfl | exact s1),by simp⟩
  ·rintro c' j s hj ⟨T,S,rfl,t3,t6,s0,s1,hp⟩ ih
   obtain ⟨b1,o1,y,hya,hy,e1⟩:=hC.i1 hj
   have e1:=e1 H' hg
   have ia:=ia_of (kk:=x.ck) (k:=1) hya hj
   have hw:=wrap_succ' j (by omega)
   cases q:inL y 1 ((x.sl:Int) - 1) with
   | false =>
    simp (maxDischargeDepth:=8) only [↓SD,SU,SV,SW,simprocAttr,Int.cast_ofNat_Int,small,resV, q19x0,t3,t6,s0,s1, lt_nat,hj,l4,l5,ia,e1,w1,c18,q,R19,N19]
    rw [yes_some]; exact QB.no
   | true =>
    have hy1:1≤y∧y < x.w.signs.length:=by rw [hS.len]; have:=inL_s q; omega
    have hP2:∀z∈x.w.cuts.take (j+1),1≤z∧z < x.w.signs.length:=fun z hz=>by
     rw [List.take_add_one,hy] at hz
     rcases List.mem_append.1 hz with hz | hz
     ·exact hp.1 z hz
     ·simp at hz; subst hz; exact hy1
    by_cases hj0:j=0
    ·have e4:¬(0:Int) < (j:Int):=by omega
     simp (maxDischargeDepth:=8) only [↓SD,SU,SV,SW,simprocAttr,Int.cast_ofNat_Int,small,resV, q19x0,t3,t6,s0,s1, lt_nat,hj,l4,l5,ia,e1,e4,w1,c18,q,hw]
     have hP3:(x.w.cuts.take (j+1)).Pairwise (· < ·):=by subst hj0; rw [List.take_add_one,hy]; simp
     exact ih _ ⟨_,_,rfl,(by simp [get_set,t3] <;> omega),(by simp [get_set,t6] <;> omega),by simp [sget_sset,s0],by simp [sget_sset,s1],⟨hP2,hP3⟩⟩
    ·obtain ⟨j,rfl⟩:∃i,j=i+1:=⟨j - 1,by omega⟩
     obtain ⟨b2,o2,y2,hya',hy2,e2⟩:=hC.i1 (j:=j) (by omega)
     have e2:=e2 H' hg
     rw [hya] at hya'
     cases hya'
     have e6:j < x.cl:=by omega
     have ia2:=ia_of (kk:=x.ck) (k:=1) (j:=j) hya e6
     have w3:IntKind.wrap .i64 (((j+1:Nat):Int) - 1)=(j:Nat):=by rw [wrap_id _ (by omega) (by omega)]; omega
     have e4:(0:Int) < ((j+1:Nat):Int):=by omega
     by_cases hyy:y≤y2
     ·simp (maxDischargeDepth:=8) only [↓SD,SU,SV,SW,simprocAttr,Int.cast_ofNat_Int,small,resV, q19x0,t3,t6,s0,s1, lt_nat,hj,l4,l5,ia,ia2,e1,e2,e4,w1,w3,c18,q,hyy,R19,N19]
      rw [yes_some]; exact QB.no
     ·simp (maxDischargeDepth:=8) only [↓SD,SU,SV,SW,simprocAttr,Int.cast_ofNat_Int,small,resV, q19x0,t3,t6,s0,s1, lt_nat,hj,l4,l5,ia,ia2,e1,e2,e4,w1,w3,c18,q,hyy,hw]
      have hP3:(x.w.cuts.take (j+1+1)).Pairwise (· < ·):=by
       rw [List.take_add_one,hy]
       rw [List.pairwise_append]
       refine ⟨hp.2,by simp,fun a ha b hb=>?_⟩
       simp at hb; subst hb
       have h1:=hp.2
       rw [List.take_add_one,hy2] at ha h1
       rcases List.mem_append.1 ha with ha | ha
       ·have:=(List.pairwise_append.1 h1).2.2 a ha y2 (by simp); omega
       ·simp at ha; subst ha; omega
      exact ih _ ⟨_,_,rfl,(by simp [get_set,t3] <;> omega),(by simp [get_set,t6] <;> omega),by simp [sget_sset,s0],by simp [sget_sset,s1],⟨hP2,hP3⟩⟩
  ·rintro c' s ⟨T,S,rfl,t3,t6,s0,s1,hp⟩
   simp (maxDischargeDepth:=8) only [↓SD,SU,SV,SW,simprocAttr,Int.cast_ofNat_Int,small,resV, q19x0,t3,t6,s0,s1, lt_nat,Nat.lt_irrefl,l4,l5,c18,R19,N19]
   rw [yes_some]
   have hle:x.w.cuts.take x.cl=x.w.cuts:=List.take_of_length_le (by rw [hC.len]; exact Nat.le_refl _)
   rw [hle] at hp
   refine ⟨_,rfl,fun h=>?_⟩
   have h:=inL_s h
   rw [←hS.len] at h
   exact ⟨by omega,by omega,hP1,hp.1,hp.2⟩
end Go.Pi.L.Top
set_option maxRecDepth 100000
namespace Go.Pi.L.Top
open Go Go.Pi Go.Pi.L Go.Pi.Top LM

def FPair (n:Nat)(p:Pair):Prop:=(0≤p.left∧p.left < n)∧(0≤p.right∧p.right < n)∧(0≤p.lo∧p.lo≤9)∧(p.lo≤p.hi∧p.hi≤9)
theorem c20 {H:Heap}{r:LeR}{s:Sheet}(hr:LeOk H r s)(hd:Sm r) :
  ∀H',Grow H H'→Yes (R (.func 20) [.agg #[.slice r.wa r.wl r.wk,.slice r.pa r.pl r.pk,.int .i64 s.other.1,.int .i64 s.other.2,.int .i64 s.gap.1,.int .i64 s.gap.2,.int .i64 s.hyphen,.slice r.na r.nl r.nk,.int .i64 s.wide,.int .i64 s.rows]] H') (QB H' (s.pairs.length≤6∧(∀p∈s.pairs,FPair s.widths.length p)∧∀(i:Nat) a b,s.pairs[i]?=some a→s.pairs[i+1]?=some b→bef a b)):=by
 intro H' hg
 have k52:=fun y=>c52 hr hd y H'
 have hdp:=hd.p
 refine run_y (pr 20) P20 (by simp [p20]) rfl ?_
 obtain ⟨wa,wl,wk,pa,pl,pk,na,nl,nk,xs⟩:=r
 have hW:Ints H wa wl s.widths:=hr.wd
 have hP:Sl H 4 eP pa pl s.pairs:=hr.pr
 have hN:Sl H 3 eW na nl xs:=hr.ws
 have l1:=hW.isLoc wk
 have l2:=hP.isLoc pk
 have l3:=hN.isLoc nk
 simp only at k52 hdp ⊢
 simp (maxDischargeDepth:=8) only [↓SD,SU,SV,SW,simprocAttr,Int.cast_ofNat_Int,small,resV, B20,R20,N20,b20, l1,l2,l3]
 refine loop_ind (G:=(Yes · _)) (fun j σ=>∃T S,σ=⟨T,S,[],H',(H').length,77,false⟩∧get T 1=.pointer (some ⟨1,0,some 1⟩)∧get T 3=.int .i64 (j:Nat)∧sget S 1=(1,.cells [.slice wa wl wk,.slice pa pl pk,.int .i64 s.other.1,.int .i64 s.other.2,.int .i64 s.gap.1,.int .i64 s.gap.2,.int .i64 s.hyphen,.slice na nl nk,.int .i64 s.wide,.int .i64 s.rows])∧((∀p∈s.pairs.take j,FPair s.widths.length p)∧∀(i:Nat) a b,i+1 < j→s.pairs[i]?=some a→s.pairs[i+1]?=some b→bef a b)) (pl) ?_ ?_ 0 _ (Nat.zero_le _) ⟨_,_,rfl,rfl,rfl,rfl,⟨by simp,fun i a b h=>absurd h (by omega)⟩⟩
 ·rintro c' j s hj ⟨T,S,rfl,t1,t3,s0,hp⟩ ih
  obtain ⟨b1,o1,p,hpa,hpx,e1⟩:=hP.p4 hj
  have e1:=e1.all H' hg
  have ia:=ia_of (kk:=pk) (k:=4) hpa hj
  have hw:=wrap_succ j (by omega)
  cases q1:inL p.left 0 ((s.widths.length:Int) - 1) with
  | false =>
   simp (maxDischargeDepth:=8) only [↓SD,SU,SV,SW,simprocAttr,Int.cast_ofNat_Int,small,resV, q20x0,t1,t3,s0, lt_nat,hj,l1,l2,l3,ia,e1,k52,q1,R20,N20]
   rw [yes_some]; exact QB.no
  | true =>
  cases q2:inL p.right 0 ((s.widths.length:Int) - 1) with
  | false =>
   simp (maxDischargeDepth:=8) only [↓SD,SU,SV,SW,simprocAttr,Int.cast_ofNat_Int,small,resV, q20x0,t1,t3,s0, lt_nat,hj,l1,l2,l3,ia,e1,k52,q1,q2,R20,N20]
   rw [yes_some]; exact QB.no
  | true =>
  cases q3:inL p.lo 0 9 with
  | false =>
   simp (maxDischargeDepth:=8) only [↓SD,SU,SV,SW,simprocAttr,Int.cast_ofNat_Int,small,resV, q20x0,t1,t3,s0, lt_nat,hj,l1,l2,l3,ia,e1,k52,q1,q2,q3,c21,R20,N20,Bool.false_and]
   rw [yes_some]; exact QB.no
  | true =>
  cases q4:inL p.hi p.lo 9 with
  | false =>
   simp (maxDischargeDepth:=8) only [↓SD,SU,SV,SW,simprocAttr,Int.cast_ofNat_Int,small,resV, q20x0,t1,t3,s0, lt_nat,hj,l1,l2,l3,ia,e1,k52,q1,q2,q3,q4,c21,R20,N20,Bool.and_false]
   rw [yes_some]; exact QB.no
  | true =>
  have hP1:∀y∈s.pairs.take (j+1),FPair s.widths.length y:=fun z hz=>by
   rw [List.take_add_one,hpx] at hz
   rcases List.mem_append.1 hz with hz | hz
   ·exact hp.1 z hz
   ·simp at hz; subst hz
    have:=inL_s q1; have:=inL_s q2; have:=inL_s q3; have:=inL_s q4
    unfold FPair; omega
  by_cases hj0:j=0
  ·have e4:¬(0:Int) < (j:Int):=by omega
   simp (maxDischargeDepth:=8) only [↓SD,SU,SV,SW,simprocAttr,Int.cast_ofNat_Int,small,resV, q20x0,t1,t3,s0, lt_nat,hj,l1,l2,l3,ia,e1,e4,k52,q1,q2,q3,q4,c21,hw,Bool.and_true]
   have hP2:∀(i:Nat) a b,i+1 < j+1→s.pairs[i]?=some a→s.pairs[i+1]?=some b→bef a b:=fun i a b h=>absurd h (by omega)
   exact ih _ ⟨_,_,rfl,(by simp [get_set,t1] <;> omega),(by simp [get_set,t3] <;> omega),by simp [sget_sset,s0],⟨hP1,hP2⟩⟩
  ·obtain ⟨j,rfl⟩:∃i,j=i+1:=⟨j - 1,by omega⟩
   obtain ⟨b2,o2,y,hpa',hy,e2⟩:=hP.p4 (j:=j) (by omega)
   rw [hpa] at hpa'
   cases hpa'
   have e20:=e2.v0 H' hg
   have e21:=e2.v1 H' hg
   have e6:j < pl:=by omega
   have ia2:=ia_of (kk:=pk) (k:=4) (j:=j) hpa e6
   have w3:IntKind.wrap .i64 (((j+1:Nat):Int) - 1)=(j:Nat):=by rw [wrap_id _ (by omega) (by omega)]; omega
   have e4:(0:Int) < ((j+1:Nat):Int):=by omega
   have next:bef y p→∀(i:Nat) a b,i+1 < j+1+1→s.pairs[i]?=some a→s.pairs[i+1]?=some b→bef a b:=fun hb i a b h h1 h2=>by
    by_cases h3:i+1 < j+1
    ·exact hp.2 i a b h3 h1 h2
    ·obtain rfl:i=j:=by omega
     rw [hy] at h1
     rw [hpx] at h2
     cases h1; cases h2; exact hb
   by_cases h1:p.left < y.left
   ·simp (maxDischargeDepth:=8) only [↓SD,SU,SV,SW,simprocAttr,Int.cast_ofNat_Int,small,resV, q20x0,t1,t3,s0, lt_nat,hj,l1,l2,l3,ia,ia2,e1,e20,e21,e4,w3,k52,q1,q2,q3,q4,c21,h1,R20,N20,Bool.and_true]
    rw [yes_some]; exact QB.no
   ·by_cases h2:y.left=p.left
    ·by_cases h3:p.right≤y.right
     ·simp (maxDischargeDepth:=8) only [↓SD,SU,SV,SW,simprocAttr,Int.cast_ofNat_Int,small,resV, q20x0,t1,t3,s0, lt_nat,hj,l1,l2,l3,ia,ia2,e1,e20,e21,e4,w3,k52,q1,q2,q3,q4,c21,h1,h2,h3,Int.lt_irrefl,R20,N20,Bool.and_true]
      rw [yes_some]; exact QB.no
     ·simp (maxDischargeDepth:=8) only [↓SD,SU,SV,SW,simprocAttr,Int.cast_ofNat_Int,small,resV, q20x0,t1,t3,s0, lt_nat,hj,l1,l2,l3,ia,ia2,e1,e20,e21,e4,w3,k52,q1,q2,q3,q4,c21,h1,h2,h3,Int.lt_irrefl,hw,Bool.and_true]
      exact ih _ ⟨_,_,rfl,(by simp [get_set,t1] <;> omega),(by simp [get_set,t3] <;> omega),by simp [sget_sset,s0],⟨hP1,next (by unfold bef; omega)⟩⟩
    ·simp (maxDischargeDepth:=8) only [↓SD,SU,SV,SW,simprocAttr,Int.cast_ofNat_Int,small,resV, q20x0,t1,t3,s0, lt_nat,hj,l1,l2,l3,ia,ia2,e1,e20,e21,e4,w3,k52,q1,q2,q3,q4,c21,h1,h2,hw,Bool.and_true]
     exact ih _ ⟨_,_,rfl,(by simp [get_set,t1] <;> omega),(by simp [get_set,t3] <;> omega),by simp [sget_sset,s0],⟨hP1,next (by unfold bef; omega)⟩⟩
 ·rintro c' s ⟨T,S,rfl,t1,t3,s0,hp⟩
  have hle:s.pairs.take pl=s.pairs:=List.take_of_length_le (by rw [hP.len]; exact Nat.le_refl _)
  rw [hle] at hp
  simp (maxDischargeDepth:=8) only [↓SD,SU,SV,SW,simprocAttr,Int.cast_ofNat_Int,small,resV, q20x0,t1,t3,s0, lt_nat,Nat.lt_irrefl,l1,l2,l3,R20,N20]
  rw [yes_some]
  refine ⟨_,rfl,fun h=>?_⟩
  have hpl:=hP.len
  refine ⟨by simp at h; omega,hp.1,fun i a b h1 h2=>hp.2 i a b (by have:=(List.getElem?_eq_some_iff.1 h2).1; omega) h1 h2⟩
theorem c8 {H:Heap}{r:LeR}{s:Sheet}(hr:LeOk H r s)(hf:Fine s) :
  ∀H',Grow H H'→R (.func 8) [.agg #[.slice r.wa r.wl r.wk,.slice r.pa r.pl r.pk,.int .i64 s.other.1,.int .i64 s.other.2,.int .i64 s.gap.1,.int .i64 s.gap.2,.int .i64 s.hyphen,.slice r.na r.nl r.nk,.int .i64 s.wide,.int .i64 s.rows]] H'=some ⟨.ok (.int .i64 (allN s:Nat)),H',H'.length⟩:=by
 intro H' hg
 have n4:=hf.n4
 rw [hr.len] at n4
 have hall:allN s=(r.xs.map fun x=>x.w.signs.length).sum:=by unfold allN; rw [hr.eq,List.map_map]; rfl
 have hb:=(all_pos hf).2
 rw [hall] at hb ⊢
 have hwt:=hr.wt
 refine run_k (pr 8) P8 (by simp [p8]) rfl ?_
 obtain ⟨wa,wl,wk,pa,pl,pk,na,nl,nk,xs⟩:=r
 have hW:Ints H wa wl s.widths:=hr.wd
 have hP:Sl H 4 eP pa pl s.pairs:=hr.pr
 have hN:Sl H 3 eW na nl xs:=hr.ws
 have l1:=hW.isLoc wk
 have l2:=hP.isLoc pk
 have l3:=hN.isLoc nk
 simp only at n4 hb hwt ⊢
 simp (maxDischargeDepth:=8) only [↓SD,SU,SV,SW,simprocAttr,Int.cast_ofNat_Int,small,resV, B8,R8,N8,b8, l1,l2,l3]
 refine loop_ind (G:=(·=_)) (fun j σ=>∃T S,σ=⟨T,S,[],H',(H').length,22,false⟩∧get T 1=.pointer (some ⟨1,0,some 1⟩)∧get T 3=.int .i64 (((xs.take j).map fun x=>x.w.signs.length).sum:Nat)∧get T 4=.int .i64 (j:Nat)∧sget S 1=(1,.cells [.slice wa wl wk,.slice pa pl pk,.int .i64 s.other.1,.int .i64 s.other.2,.int .i64 s.gap.1,.int .i64 s.gap.2,.int .i64 s.hyphen,.slice na nl nk,.int .i64 s.wide,.int .i64 s.rows])∧(True)) (nl) ?_ ?_ 0 _ (Nat.zero_le _) ⟨_,_,rfl,rfl,rfl,rfl,rfl,by simp⟩
 ·rintro c' j s hj ⟨T,S,rfl,t1,t3,t4,s0,hp⟩ ih
  obtain ⟨b1,o1,x,hxa,hx,e1⟩:=hN.w3 hj
  have e1:=e1.v0 H' hg
  have l4:=(hwt x (mem_drop hx)).sg.isLoc x.sk
  have ia:=ia_of (kk:=nk) (k:=3) hxa hj
  have hw:=wrap_succ j (by omega)
  have hs:=(hwt x (mem_drop hx)).sg.len
  have h1:((xs.take (j+1)).map fun x=>x.w.signs.length).sum=((xs.take j).map fun x=>x.w.signs.length).sum+x.sl:=by
   rw [List.take_add_one,hx,List.map_append,List.sum_append,←hs]; simp
  have h2:((xs.take (j+1)).map fun x=>x.w.signs.length).sum≤24:=by
   have h3:(xs.map fun x=>x.w.signs.length).sum=((xs.take (j+1)).map fun x=>x.w.signs.length).sum+((xs.drop (j+1)).map fun x=>x.w.signs.length).sum:=by
    rw [←List.sum_append,←List.map_append,List.take_append_drop]
   omega
  have hw2:IntKind.wrap .i64 (((((xs.take j).map fun x=>x.w.signs.length).sum:Nat):Int)+(x.sl:Int))=(((xs.take (j+1)).map fun x=>x.w.signs.length).sum:Nat):=by rw [wrap_id _ (by omega) (by omega)]; omega
  simp (maxDischargeDepth:=8) only [↓SD,SU,SV,SW,simprocAttr,Int.cast_ofNat_Int,small,resV, q8x0,t1,t3,t4,s0, lt_nat,hj,l1,l2,l3,l4,ia,e1,hw,hw2]
  exact ih _ ⟨_,_,rfl,(by simp [get_set,t1] <;> omega),(by simp [get_set,t3] <;> omega),(by simp [get_set,t4] <;> omega),by simp [sget_sset,s0],trivial⟩
 ·rintro c' s ⟨T,S,rfl,t1,t3,t4,s0,hp⟩
  have hle:xs.take nl=xs:=List.take_of_length_le (by rw [hN.len]; exact Nat.le_refl _)
  rw [hle] at t3
  simp (maxDischargeDepth:=8) only [↓SD,SU,SV,SW,simprocAttr,Int.cast_ofNat_Int,small,resV, q8x0,t1,t3,t4,s0, lt_nat,Nat.lt_irrefl,l1,l2,l3,R8,N8]
end Go.Pi.L.Top
set_option maxRecDepth 100000
namespace Go.Pi.L.Top
open Go Go.Pi Go.Pi.L Go.Pi.Top LM

theorem c5 {H:Heap}{r:LeR}{s:Sheet}(hr:LeOk H r s)(hd:Sm r) :
  ∀H',Grow H H'→Yes (R (.func 5) [.agg #[.slice r.wa r.wl r.wk,.slice r.pa r.pl r.pk,.int .i64 s.other.1,.int .i64 s.other.2,.int .i64 s.gap.1,.int .i64 s.gap.2,.int .i64 s.hyphen,.slice r.na r.nl r.nk,.int .i64 s.wide,.int .i64 s.rows]] H') (QB H' (Fine s)):=by
 intro H' hg
 obtain ⟨_,k20,b20,rfl,m20⟩:=c20 hr hd H' hg
 have k19:=fun x hx=>c19 hr hd (x:=x) hx H' hg
 have hdw:=hd.w
 have hdn:=hd.n
 have hlen:=hr.len
 have heq:=hr.eq
 refine run_y (pr 5) P5 (by simp [p5]) rfl ?_
 obtain ⟨wa,wl,wk,pa,pl,pk,na,nl,nk,xs⟩:=r
 have hW:Ints H wa wl s.widths:=hr.wd
 have hP:Sl H 4 eP pa pl s.pairs:=hr.pr
 have hN:Sl H 3 eW na nl xs:=hr.ws
 have l1:=hW.isLoc wk
 have l2:=hP.isLoc pk
 have l3:=hN.isLoc nk
 simp only at k20 k19 hdw hdn hlen heq ⊢
 simp (maxDischargeDepth:=8) only [↓SD,SU,SV,SW,simprocAttr,Int.cast_ofNat_Int,small,resV, B5,R5,N5,b5, l1,l2,l3]
 refine loop_ind (G:=(Yes · _)) (fun j σ=>∃T S,σ=⟨T,S,[],H',(H').length,73,false⟩∧get T 1=.pointer (some ⟨1,0,some 1⟩)∧get T 3=.int .i64 (j:Nat)∧sget S 1=(1,.cells [.slice wa wl wk,.slice pa pl pk,.int .i64 s.other.1,.int .i64 s.other.2,.int .i64 s.gap.1,.int .i64 s.gap.2,.int .i64 s.hyphen,.slice na nl nk,.int .i64 s.wide,.int .i64 s.rows])∧(∀y∈s.widths.take j,1≤y∧y≤20)) (wl) ?_ ?_ 0 _ (Nat.zero_le _) ⟨_,_,rfl,rfl,rfl,rfl,by simp⟩
 ·rintro c' j s hj ⟨T,S,rfl,t1,t3,s0,hp⟩ ih
  obtain ⟨b1,o1,y,hya,hy,e1⟩:=hW.i1 hj
  have e1:=e1 H' hg
  have ia:=ia_of (kk:=wk) (k:=1) hya hj
  have hw:=wrap_succ j (by omega)
  cases q:inL y 1 20 with
  | false =>
   simp (maxDischargeDepth:=8) only [↓SD,SU,SV,SW,simprocAttr,Int.cast_ofNat_Int,small,resV, q5x1,t1,t3,s0, lt_nat,hj,l1,l2,l3,ia,e1,c18,q,R5,N5]
   rw [yes_some]; exact QB.no
  | true =>
   simp (maxDischargeDepth:=8) only [↓SD,SU,SV,SW,simprocAttr,Int.cast_ofNat_Int,small,resV, q5x1,t1,t3,s0, lt_nat,hj,l1,l2,l3,ia,e1,c18,q,hw]
   have hP:∀z∈s.widths.take (j+1),1≤z∧z≤20:=fun z hz=>by
    rw [List.take_add_one,hy] at hz
    rcases List.mem_append.1 hz with hz | hz
    ·exact hp z hz
    ·simp at hz; subst hz; have:=inL_s q; omega
   exact ih _ ⟨_,_,rfl,(by simp [get_set,t1] <;> omega),(by simp [get_set,t3] <;> omega),by simp [sget_sset,s0],hP⟩
 ·rintro c' s ⟨T,S,rfl,t1,t3,s0,hp⟩
  have hP1:∀y∈s.widths,1≤y∧y≤20:=fun z hz=>hp z (by rw [List.take_of_length_le (by rw [hW.len]; exact Nat.le_refl _)]; exact hz)
  simp (maxDischargeDepth:=8) only [↓SD,SU,SV,SW,simprocAttr,Int.cast_ofNat_Int,small,resV, q5x1,t1,t3,s0, lt_nat,Nat.lt_irrefl,l1,l2,l3]
  refine loop_ind (G:=(Yes · _)) (fun j σ=>∃T S,σ=⟨T,S,[],H',(H').length,73,false⟩∧get T 1=.pointer (some ⟨1,0,some 1⟩)∧get T 4=.int .i64 (j:Nat)∧sget S 1=(1,.cells [.slice wa wl wk,.slice pa pl pk,.int .i64 s.other.1,.int .i64 s.other.2,.int .i64 s.gap.1,.int .i64 s.gap.2,.int .i64 s.hyphen,.slice na nl nk,.int .i64 s.wide,.int .i64 s.rows])∧(∀y∈s.words.take j,FWord s.widths.length y)) (nl) ?_ ?_ 0 _ (Nat.zero_le _) ⟨_,_,rfl,(by first | rfl | simp [get_set,t1]),(by first | rfl | simp [get_set,t1]),(by first | rfl | exact s0),by simp⟩
  ·rintro c' j s hj ⟨T,S,rfl,t1,t4,s0,hp⟩ ih
   obtain ⟨b1,o1,x,hxa,hx,e1⟩:=hN.w3 hj
   have e1:=e1.all H' hg
   have ia:=ia_of (kk:=nk) (k:=3) hxa hj
   have hw:=wrap_succ j (by omega)
   obtain ⟨_,k,b,rfl,m⟩:=k19 x (mem_drop hx)
   cases b with
   | false =>
    simp (maxDischargeDepth:=8) only [↓SD,SU,SV,SW,simprocAttr,Int.cast_ofNat_Int,small,resV, q5x0,t1,t4,s0, lt_nat,hj,l1,l2,l3,ia,e1,k,R5,N5]
    rw [yes_some]; exact QB.no
   | true =>
    simp (maxDischargeDepth:=8) only [↓SD,SU,SV,SW,simprocAttr,Int.cast_ofNat_Int,small,resV, q5x0,t1,t4,s0, lt_nat,hj,l1,l2,l3,ia,e1,k,hw]
    have hP:∀z∈s.words.take (j+1),FWord s.widths.length z:=fun z hz=>by
     have h1:s.words[j]?=some x.w:=by rw [heq,List.getElem?_map,hx]; rfl
     rw [List.take_add_one,h1] at hz
     rcases List.mem_append.1 hz with hz | hz
     ·exact hp z hz
     ·simp at hz; subst hz; exact m rfl
    exact ih _ ⟨_,_,rfl,(by simp [get_set,t1] <;> omega),(by simp [get_set,t4] <;> omega),by simp [sget_sset,s0],hP⟩
  ·rintro c' s ⟨T,S,rfl,t1,t4,s0,hp⟩
   have hP2:∀y∈s.words,FWord s.widths.length y:=fun z hz=>hp z (by rw [List.take_of_length_le (by rw [hlen]; exact Nat.le_refl _)]; exact hz)
   cases q1:inL (wl:Int) 1 6 with
   | false =>
    simp (maxDischargeDepth:=8) only [↓SD,SU,SV,SW,simprocAttr,Int.cast_ofNat_Int,small,resV, q5x0,t1,t4,s0, lt_nat,Nat.lt_irrefl,l1,l2,l3,c18,q1,R5,N5]
    rw [yes_some]; exact QB.no
   | true =>
   cases b20 with
   | false =>
    simp (maxDischargeDepth:=8) only [↓SD,SU,SV,SW,simprocAttr,Int.cast_ofNat_Int,small,resV, q5x0,t1,t4,s0, lt_nat,Nat.lt_irrefl,l1,l2,l3,c18,q1,k20,R5,N5]
    rw [yes_some]; exact QB.no
   | true =>
   cases q2:inL s.other.1 0 9 with
   | false =>
    simp (maxDischargeDepth:=8) only [↓SD,SU,SV,SW,simprocAttr,Int.cast_ofNat_Int,small,resV, q5x0,t1,t4,s0, lt_nat,Nat.lt_irrefl,l1,l2,l3,c18,q1,k20,c21,q2,R5,N5,Bool.false_and]
    rw [yes_some]; exact QB.no
   | true =>
   cases q3:inL s.other.2 s.other.1 9 with
   | false =>
    simp (maxDischargeDepth:=8) only [↓SD,SU,SV,SW,simprocAttr,Int.cast_ofNat_Int,small,resV, q5x0,t1,t4,s0, lt_nat,Nat.lt_irrefl,l1,l2,l3,c18,q1,k20,c21,q2,q3,R5,N5,Bool.and_false]
    rw [yes_some]; exact QB.no
   | true =>
   cases q4:inL s.gap.1 0 20 with
   | false =>
    simp (maxDischargeDepth:=8) only [↓SD,SU,SV,SW,simprocAttr,Int.cast_ofNat_Int,small,resV, q5x0,t1,t4,s0, lt_nat,Nat.lt_irrefl,l1,l2,l3,c18,q1,k20,c21,q2,q3,q4,R5,N5,Bool.false_and,Bool.and_true]
    rw [yes_some]; exact QB.no
   | true =>
   cases q5:inL s.gap.2 s.gap.1 20 with
   | false =>
    simp (maxDischargeDepth:=8) only [↓SD,SU,SV,SW,simprocAttr,Int.cast_ofNat_Int,small,resV, q5x0,t1,t4,s0, lt_nat,Nat.lt_irrefl,l1,l2,l3,c18,q1,k20,c21,q2,q3,q4,q5,R5,N5,Bool.and_false,Bool.and_true]
    rw [yes_some]; exact QB.no
   | true =>
   cases q6:inL s.hyphen 1 20 with
   | false =>
    simp (maxDischargeDepth:=8) only [↓SD,SU,SV,SW,simprocAttr,Int.cast_ofNat_Int,small,resV, q5x0,t1,t4,s0, lt_nat,Nat.lt_irrefl,l1,l2,l3,c18,q1,k20,c21,q2,q3,q4,q5,q6,R5,N5,Bool.and_true]
    rw [yes_some]; exact QB.no
   | true =>
   cases q7:inL (nl:Int) 1 4 with
   | false =>
    simp (maxDischargeDepth:=8) only [↓SD,SU,SV,SW,simprocAttr,Int.cast_ofNat_Int,small,resV, q5x0,t1,t4,s0, lt_nat,Nat.lt_irrefl,l1,l2,l3,c18,q1,k20,c21,q2,q3,q4,q5,q6,q7,R5,N5,Bool.and_true]
    rw [yes_some]; exact QB.no
   | true =>
   cases q8:inL s.wide 1 400 with
   | false =>
    simp (maxDischargeDepth:=8) only [↓SD,SU,SV,SW,simprocAttr,Int.cast_ofNat_Int,small,resV, q5x0,t1,t4,s0, lt_nat,Nat.lt_irrefl,l1,l2,l3,c18,c22,q1,k20,c21,q2,q3,q4,q5,q6,q7,q8,R5,N5,Bool.and_true]
    rw [yes_some]; exact QB.no
   | true =>
    simp (maxDischargeDepth:=8) only [↓SD,SU,SV,SW,simprocAttr,Int.cast_ofNat_Int,small,resV, q5x0,t1,t4,s0, lt_nat,Nat.lt_irrefl,l1,l2,l3,c18,c22,q1,k20,c21,q2,q3,q4,q5,q6,q7,q8,R5,N5,Bool.and_true]
    rw [yes_some]
    refine ⟨_,rfl,fun h=>?_⟩
    have h:=inL_s h
    obtain ⟨m1,m2,m3⟩:=m20 rfl
    have hwl:=hW.len
    have i1:=inL_s q1; have i2:=inL_s q2; have i3:=inL_s q3; have i4:=inL_s q4; have i5:=inL_s q5; have i6:=inL_s q6; have i7:=inL_s q7; have i8:=inL_s q8
    exact ⟨by omega,by omega,hP1,m1,m2,m3,⟨i2,i3⟩,⟨i4,i5⟩,i6,by omega,by omega,hP2,i8,h⟩
end Go.Pi.L.Top
set_option maxRecDepth 100000
namespace Go.Pi.L.Top
open Go Go.Pi Go.Pi.L Go.Pi.Top LM

abbrev mSh:Shape:=.agg [.i .i64,.i .i64]
structure FrOk (H:Heap)(r:LeR)(mb:Nat)(s:Sheet):Prop where
 le:LeOk H r s
 mp:H[mb]?=some ⟨.map mSh (s.pairs.map encP),true,true,none⟩
theorem FrOk.up {H H':Heap}{r:LeR}{mb:Nat}{s:Sheet}(h:FrOk H r mb s)(g:Up H H'):FrOk H' r mb s:=⟨h.le.grow g.grow,by rw [g.old mb (List.getElem?_eq_some_iff.1 h.mp).1]; exact h.mp⟩
def GOk (s:Sheet)(g:Int×Int):Prop:=∃(n k:Nat) (w:Word),g=((n:Int),(k:Int))∧s.words[n]?=some w∧k < w.signs.length
def encG (g:Int×Int):List Value:=[.int .i64 g.1,.int .i64 g.2]
theorem encG_len (g:Int×Int):(encG g).length=2:=rfl
theorem signOf_eq {s:Sheet}{n k:Nat}{w:Word}{y:Int}(h:s.words[n]?=some w)(hy:w.signs[k]?=some y):signOf s ((n:Int),(k:Int))=y:=by
 unfold signOf wordAt
 simp [List.getD,h,hy]
theorem signOf_in {s:Sheet}(hf:Fine s){g:Int×Int}(hg:GOk s g):0≤signOf s g∧signOf s g < s.widths.length:=by
 obtain ⟨n,k,w,rfl,hw,hk⟩:=hg
 rw [signOf_eq hw (List.getElem?_eq_getElem hk)]
 exact (hf.ws w (List.mem_of_getElem? hw)).sg _ (List.getElem_mem hk)
theorem c165 {H:Heap}{r:LeR}{mb:Nat}{s:Sheet}(hr:FrOk H r mb s){g:Int×Int}(hok:GOk s g) :
  ∀H',Up H H'→R (.func 165) [.agg #[.slice r.wa r.wl r.wk,.slice r.pa r.pl r.pk,.int .i64 s.other.1,.int .i64 s.other.2,.int .i64 s.gap.1,.int .i64 s.gap.2,.int .i64 s.hyphen,.slice r.na r.nl r.nk,.int .i64 s.wide,.int .i64 s.rows,.map (some mb)],.agg #[.int .i64 g.1,.int .i64 g.2]] H'=some ⟨.ok (.int .i64 (signOf s g)),H',H'.length⟩:=by
 intro H' hu
 obtain ⟨n,k,w,rfl,hw,hk⟩:=hok
 have hr:=hr.le
 have hn:n < r.nl:=by rw [←hr.len]; exact (List.getElem?_eq_some_iff.1 hw).1
 obtain ⟨b,off,x,hxa,hx,e1⟩:=hr.ws.w3 hn
 have hxw:=hr.at hx
 rw [hw] at hxw
 cases hxw
 have hS:=(hr.wt x (mem_drop hx)).sg
 have hk':k < x.sl:=by rw [←hS.len]; exact hk
 obtain ⟨b2,off2,y,hya,hy,e2⟩:=hS.i1 hk'
 have e1:=e1.v0 H' hu.grow
 have e2:=e2 H' hu.grow
 have ia:=ia_of (kk:=r.nk) (k:=3) hxa hn
 have ia2:=ia_of (kk:=x.sk) (k:=1) hya hk'
 have l4:=hS.isLoc x.sk
 rw [signOf_eq hw hy]
 refine run_k (pr 165) P165 (by simp [p165]) rfl ?_
 obtain ⟨wa,wl,wk,pa,pl,pk,na,nl,nk,xs⟩:=r
 have hW:Ints H wa wl s.widths:=hr.wd
 have hP:Sl H 4 eP pa pl s.pairs:=hr.pr
 have hN:Sl H 3 eW na nl xs:=hr.ws
 have l1:=hW.isLoc wk
 have l2:=hP.isLoc pk
 have l3:=hN.isLoc nk
 simp only at ia ⊢
 have lm:isLoc (.map (some mb))=false:=rfl
 simp (maxDischargeDepth:=8) only [↓SD,SU,SV,SW,simprocAttr,Int.cast_ofNat_Int,small,resV, B165,R165,N165,b165, l1,l2,l3,l4,lm,ia,ia2,e1,e2]
theorem between_in {p:Int×Int}{st:Int}(h0:0≤p.1)(h1:p.1≤p.2)(h2:p.2≤20)(h3:0≤st)(h4:st≤10):0≤(p.2 - p.1)*st∧(p.2 - p.1)*st≤200∧p.1≤between p st∧between p st≤p.2:=by
 have a1:0≤(p.2 - p.1)*st:=Int.mul_nonneg (by omega) h3
 have a2:(p.2 - p.1)*st≤(p.2 - p.1)*10:=Int.mul_le_mul_of_nonneg_left h4 (by omega)
 unfold between
 rw [Int.tdiv_eq_ediv_of_nonneg a1]
 omega
theorem c168 (p:Int×Int)(st:Int)(h0:0≤p.1)(h1:p.1≤p.2)(h2:p.2≤20)(h3:0≤st)(h4:st≤10)(H:Heap) :
  R (.func 168) [.agg #[.int .i64 p.1,.int .i64 p.2],.int .i64 st] H=some ⟨.ok (.int .i64 (between p st)),H,H.length⟩:=by
 obtain ⟨a1,a2,a3,a4⟩:=between_in h0 h1 h2 h3 h4
 refine run_k (pr 168) P168 (by simp [p168]) rfl ?_
 have w1:IntKind.wrap .i64 (p.2 - p.1)=p.2 - p.1:=wrap_id _ (by omega) (by omega)
 have w2:IntKind.wrap .i64 ((p.2 - p.1)*st)=(p.2 - p.1)*st:=wrap_id _ (by omega) (by omega)
 have w3:IntKind.wrap .i64 (((p.2 - p.1)*st).tdiv 10)=((p.2 - p.1)*st).tdiv 10:=by rw [Int.tdiv_eq_ediv_of_nonneg a1]; exact wrap_id _ (by omega) (by omega)
 have w4:IntKind.wrap .i64 (p.1+((p.2 - p.1)*st).tdiv 10)=between p st:=wrap_id _ (by unfold between at a3 a4; omega) (by unfold between at a3 a4; omega)
 have z:(10:Int)≠0:=by omega
 simp (maxDischargeDepth:=8) only [↓SD,SU,SV,SW,simprocAttr,Int.cast_ofNat_Int,small,resV, B168,R168,N168,b168, w1,w2,w3,w4,vv_quo,z]
theorem c167 {H:Heap}{r:LeR}{mb:Nat}{s:Sheet}(hr:FrOk H r mb s)(hf:Fine s){a b:Int×Int}(ha:GOk s a)(hb:GOk s b){st:Int}(h3:0≤st)(h4:st≤10) :
  ∀H',Up H H'→R (.func 167) [.agg #[.slice r.wa r.wl r.wk,.slice r.pa r.pl r.pk,.int .i64 s.other.1,.int .i64 s.other.2,.int .i64 s.gap.1,.int .i64 s.gap.2,.int .i64 s.hyphen,.slice r.na r.nl r.nk,.int .i64 s.wide,.int .i64 s.rows,.map (some mb)],.agg #[.int .i64 a.1,.int .i64 a.2],.agg #[.int .i64 b.1,.int .i64 b.2],.int .i64 st] H'=some ⟨.ok (.int .i64 (spaceP s a b st)),H',H'.length⟩:=by
 intro H' hu
 have k1:=c165 hr ha H' hu
 have k2:=c165 hr hb H' hu
 have hmp:=(hr.up hu).mp
 have hr:=hr.le
 have hot:=hf.ot
 have hga:=hf.ga
 have c1:=c168 s.gap st (by omega) (by omega) (by omega) h3 h4
 have c2:=c168 s.other st (by omega) (by omega) (by omega) h3 h4
 have hmk:mlkR (mesL H' mSh (.map (some mb))) mSh (.agg #[.int .i64 0,.int .i64 0]) true (.agg #[.int .i64 (signOf s a),.int .i64 (signOf s b)])=some (mlkV (.agg #[.int .i64 0,.int .i64 0]) true (kfind (keyV (signOf s a) (signOf s b)) (s.pairs.map encP))):=by rw [mes_ok hmp]; exact mlkR_ok _ _ _ _ _ rfl
 have hkf:=kfind_enc (signOf s a) (signOf s b) s.pairs
 have lm:isLoc (.map (some mb))=false:=rfl
 refine run_k (pr 167) P167 (by simp [p167]) rfl ?_
 obtain ⟨wa,wl,wk,pa,pl,pk,na,nl,nk,xs⟩:=r
 have hW:Ints H wa wl s.widths:=hr.wd
 have hP:Sl H 4 eP pa pl s.pairs:=hr.pr
 have hN:Sl H 3 eW na nl xs:=hr.ws
 have l1:=hW.isLoc wk
 have l2:=hP.isLoc pk
 have l3:=hN.isLoc nk
 simp only at k1 k2 ⊢
 unfold spaceP
 by_cases h1:a.1=b.1
 ·rw [if_neg (by simp [h1])]
  have hi:(a.1=b.1)↔True:=by simp [h1]
  cases hl:LM.look s.pairs (signOf s a) (signOf s b) with
  | none =>
   rw [hl] at hkf
   have hk0:kfind (keyV (signOf s a) (signOf s b)) (s.pairs.map encP)=none:=by
    cases hx:kfind (keyV (signOf s a) (signOf s b)) (s.pairs.map encP) with
    | none=>rfl
    | some x=>rw [hx] at hkf; cases hkf
   rw [hk0] at hmk
   simp only [mlkV,if_true] at hmk
   simp (maxDischargeDepth:=8) only [↓SD,SU,SV,SW,simprocAttr,Int.cast_ofNat_Int,small,resV, B167,R167,N167,b167, l1,l2,l3,lm,hi,k1,k2,hmk,goD_mlk,g_mlk,c2]
  | some p =>
   rw [hl] at hkf
   obtain ⟨i,hk0⟩:∃i,kfind (keyV (signOf s a) (signOf s b)) (s.pairs.map encP)=some (i,spanV p.1 p.2):=by
    cases hx:kfind (keyV (signOf s a) (signOf s b)) (s.pairs.map encP) with
    | none=>rw [hx] at hkf; cases hkf
    | some x=>rw [hx] at hkf; obtain ⟨i,v⟩:=x; simp at hkf; exact ⟨i,by rw [hkf]⟩
   rw [hk0] at hmk
   simp only [mlkV,if_true,spanV] at hmk
   obtain ⟨q,hq,rfl⟩:=look_mem hl
   obtain ⟨_,_,p3,p4⟩:=hf.pr q hq
   have c3:=c168 (q.lo,q.hi) st (by simp only; omega) (by simp only; omega) (by simp only; omega) h3 h4
   simp (maxDischargeDepth:=8) only [↓SD,SU,SV,SW,simprocAttr,Int.cast_ofNat_Int,small,resV, B167,R167,N167,b167, l1,l2,l3,lm,hi,k1,k2,hmk,goD_mlk,g_mlk,c3]
 ·rw [if_pos h1]
  simp (maxDischargeDepth:=8) only [↓SD,SU,SV,SW,simprocAttr,Int.cast_ofNat_Int,small,resV, B167,R167,N167,b167, l1,l2,l3,lm,h1,c1]
theorem space_in {s:Sheet}(hf:Fine s)(a b:Int×Int){st:Int}(h3:0≤st)(h4:st≤10):0≤spaceP s a b st∧spaceP s a b st≤20:=by
 have hot:=hf.ot
 have hga:=hf.ga
 unfold spaceP
 split
 ·have:=between_in (p:=s.gap) (st:=st) (by omega) (by omega) (by omega) h3 h4; omega
 ·split
  ·rename_i p hl
   obtain ⟨q,hq,rfl⟩:=look_mem hl
   obtain ⟨_,_,p3,p4⟩:=hf.pr q hq
   have:=between_in (p:=(q.lo,q.hi)) (st:=st) (by simp only; omega) (by simp only; omega) (by simp only; omega) h3 h4
   simp only at this; omega
  ·have:=between_in (p:=s.other) (st:=st) (by omega) (by omega) (by omega) h3 h4; omega
end Go.Pi.L.Top
