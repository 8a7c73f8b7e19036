/- Letters: cuts that are left out. -/
import Derived.Test.YtjgmlngcknehhaaGreatTC
import Derived.Test.YtjgmlngcknehhaaGreatTA
set_option linter.all false
set_option maxRecDepth 100000
namespace Go.Pi.L.Top
open Go Go.Pi Go.Pi.L Go.Pi.Top LM

theorem inc_split (n:Int):∀xs:List Int,xs.Pairwise (· < ·)→∃i,i≤xs.length∧xs.filter (fun k=>decide (k < n))=xs.take i∧∀(j:Nat) x,xs[j]?=some x→(j < i↔x < n)
 | [],_=>⟨0,Nat.le_refl _,rfl,fun j x h=>by simp at h⟩
 | x :: xs,h=>by
  rw [List.pairwise_cons] at h
  by_cases hx:x < n
  ·obtain ⟨i,h1,h2,h3⟩:=inc_split n xs h.2
   refine ⟨i+1,by simpa using h1,by rw [List.filter_cons,if_pos (by simpa using hx),h2,List.take_succ_cons],fun j y hy=>?_⟩
   cases j with
   | zero=>simp at hy; subst hy; simp [hx]
   | succ j=>simp at hy; rw [←h3 j y hy]; omega
  ·refine ⟨0,Nat.zero_le _,?_,fun j y hy=>?_⟩
   ·rw [List.take_zero,List.filter_eq_nil_iff]
    intro y hy
    rcases List.mem_cons.1 hy with rfl | hy
    ·simpa using hx
    ·have:=h.1 y hy; simp; omega
   ·have:x≤y:=by
     rcases List.mem_cons.1 (List.mem_of_getElem? hy) with rfl | hy
     ·omega
     ·have:=h.1 y hy; omega
    omega
theorem c67 (x n:Int){H:Heap}{nb:Nat}(h:hcells H nb=some [.int .i64 n]):R (.func 67) [.int .i64 x,.pointer (some ⟨nb,0,none⟩)] H=some ⟨.ok (.bool (decide (n≤x))),H,H.length⟩:=by
 refine run_k (pr 67) P67 (by simp [p67]) rfl ?_
 simp (maxDischargeDepth:=8) only [↓SD,SU,SV,SW,simprocAttr,Int.cast_ofNat_Int,small,resV, B67,R67,N67,b67, h]
theorem c101i {g:FuncId}{caps:List Value}{H:Heap}{a:Option Addr}{l kk i:Nat}{xs:List Int}(hs:Ints H a l xs)(hl:l < 1000000)(hi:i < l)(hc:(caps.all fun v=>!isLoc v)=true)
  (hf:∀(j:Nat) x,xs[j]?=some x→R (.func g) (.int .i64 x :: caps) H=some ⟨.ok (.bool (decide (i≤j))),H,H.length⟩) :
  R (.func 101) [.slice a l kk,.func (.func g) #[] caps.toArray] H=some ⟨.ok (.int .i64 (i:Nat)),H,H.length⟩:=by
 refine run_k (pr 101) P101 (by simp [p101]) rfl ?_
 have lo:=hs.isLoc kk
 simp (maxDischargeDepth:=8) only [↓SD,SU,SV,SW,simprocAttr,Int.cast_ofNat_Int,small,resV, B101,R101,N101,b101, lo]
 refine loop_ind (G:=(·=_)) (fun j σ=>∃T,σ=⟨T,[],[],H,(H).length,19,false⟩∧get T 0=.slice a l kk∧get T 1=.func (.func g) #[] caps.toArray∧get T 7=.int .i64 l∧get T 8=.int .i64 (j:Nat)∧(True)) (i) ?_ ?_ 0 _ (Nat.zero_le _) ⟨_,rfl,rfl,rfl,rfl,rfl,by simp⟩
 ·rintro c' j s hj ⟨T,rfl,t0,t1,t7,t8,hp⟩ ih
  obtain ⟨b,off,x,rfl,hx,e1⟩:=hs.i1 (j:=j) (by omega)
  have e1:=e1 H (Grow.refl _)
  have e2:=hf j x hx
  have hjl:j < l:=by omega
  have hd:decide (i≤j)=false:=by simp; omega
  rw [hd] at e2
  simp (maxDischargeDepth:=8) only [↓SD,SU,SV,SW,simprocAttr,Int.cast_ofNat_Int,small,resV, q101x0,t0,t1,t7,t8, lt_nat,hjl,lo,e1,e2,hc,R101,N101,wrap_succ j (by omega)]
  exact ih _ ⟨_,rfl,(by simp [get_set,t0] <;> omega),(by simp [get_set,t1] <;> omega),(by simp [get_set,t7] <;> omega),(by simp [get_set,t8] <;> omega),trivial⟩
 ·rintro c' s ⟨T,rfl,t0,t1,t7,t8,hp⟩
  obtain ⟨b,off,x,rfl,hx,e1⟩:=hs.i1 (j:=i) hi
  have e1:=e1 H (Grow.refl _)
  have e2:=hf i x hx
  have hd:decide (i≤i)=true:=by simp
  rw [hd] at e2
  simp (maxDischargeDepth:=8) only [↓SD,SU,SV,SW,simprocAttr,Int.cast_ofNat_Int,small,resV, q101x0,t0,t1,t7,t8, lt_nat,hi,lo,e1,e2,hc,R101,N101]
theorem c101n {g:FuncId}{caps:List Value}{H:Heap}{a:Option Addr}{l kk:Nat}{xs:List Int}(hs:Ints H a l xs)(hl:l < 1000000)(hc:(caps.all fun v=>!isLoc v)=true)
  (hf:∀x∈xs,R (.func g) (.int .i64 x :: caps) H=some ⟨.ok (.bool false),H,H.length⟩) :
  R (.func 101) [.slice a l kk,.func (.func g) #[] caps.toArray] H=some ⟨.ok (.int .i64 (-1)),H,H.length⟩:=by
 refine run_k (pr 101) P101 (by simp [p101]) rfl ?_
 have lo:=hs.isLoc kk
 simp (maxDischargeDepth:=8) only [↓SD,SU,SV,SW,simprocAttr,Int.cast_ofNat_Int,small,resV, B101,R101,N101,b101, lo]
 refine loop_ind (G:=(·=_)) (fun j σ=>∃T,σ=⟨T,[],[],H,(H).length,19,false⟩∧get T 0=.slice a l kk∧get T 1=.func (.func g) #[] caps.toArray∧get T 7=.int .i64 l∧get T 8=.int .i64 (j:Nat)∧(True)) (l) ?_ ?_ 0 _ (Nat.zero_le _) ⟨_,rfl,rfl,rfl,rfl,rfl,by simp⟩
 ·rintro c' j s hj ⟨T,rfl,t0,t1,t7,t8,hp⟩ ih
  obtain ⟨b,off,x,rfl,hx,e1⟩:=hs.i1 hj
  have e1:=e1 H (Grow.refl _)
  have e2:=hf x (mem_drop hx)
  simp (maxDischargeDepth:=8) only [↓SD,SU,SV,SW,simprocAttr,Int.cast_ofNat_Int,small,resV, q101x0,t0,t1,t7,t8, lt_nat,hj,lo,e1,e2,hc,R101,N101,wrap_succ j (by omega)]
  exact ih _ ⟨_,rfl,(by simp [get_set,t0] <;> omega),(by simp [get_set,t1] <;> omega),(by simp [get_set,t7] <;> omega),(by simp [get_set,t8] <;> omega),trivial⟩
 ·rintro c' s ⟨T,rfl,t0,t1,t7,t8,hp⟩
  simp (maxDischargeDepth:=8) only [↓SD,SU,SV,SW,simprocAttr,Int.cast_ofNat_Int,small,resV, q101x0,t0,t1,t7,t8, lt_nat,Nat.lt_irrefl,R101,N101]
theorem gc_nf {H H1:Heap}{v:Value}{lo:Nat}(h:flat 4 v=false):gcR H (.ok v) H1 lo=⟨.ok v,H1,lo⟩:=by
 unfold gcR; rw [if_neg (by simp [h])]
def Keep (n0:Nat)(H H1:Heap):Prop:=∀H0,Up H0 H→H0.length≤n0→Up H0 H1
def QD (n0:Nat)(H:Heap)(xs:List Int)(o:Out):Prop :=
 ∃a l m H1 lo,o=⟨.ok (.slice a l m),H1,lo⟩∧Keep n0 H H1∧(n0≤lo)∧Fam H1∧H1.length=H.length∧Sl H1 1 encI a l xs
theorem rep_len (n:Nat)(z:List Value):(rep n z).length=n*z.length:=by
 induction n with
 | zero=>simp [rep]
 | succ n ih=>simp only [rep,List.length_append,ih,Nat.add_mul]; omega
theorem c65n {H:Heap}{a:Option Addr}{l m n0:Nat}{xs:List Int}(hs:Ints H a l xs)(hF:Fam H)(hl:l < 1000)(hn:n0≤H.length){nb:Nat}{n:Int}(hb:hcells H nb=some [.int .i64 n])(hx:∀x∈xs,x < n) :
  Yes (R (.func 65) [.slice a l m,.func (.func 67) #[] #[.pointer (some ⟨nb,0,none⟩)]] H) (QD n0 H xs):=by
 have k:=c101n (g:=67) (caps:=[.pointer (some ⟨nb,0,none⟩)]) (kk:=m) hs (by omega) rfl (fun x hx'=>by rw [c67 x n hb]; have:=hx x hx'; rw [show decide (n≤x)=false by simp; omega])
 have l1:=hs.isLoc m
 refine run_y (pr 65) P65 (by simp [p65]) rfl ?_
 simp (maxDischargeDepth:=8) only [↓SD,SU,SV,SW,simprocAttr,Int.cast_ofNat_Int,small,resV, B65,R65,N65,b65, l1,loc_func,k]
 rw [yes_some]
 by_cases hfl:flat 4 (.slice a l m)=true
 ·rw [gc_ite (Nat.le_refl _),if_pos hfl]
  exact ⟨a,l,m,H,H.length,rfl,fun _ h _=>h,hn,hF,rfl,hs⟩
 ·rw [gc_nf (by simpa using hfl)]
  exact ⟨a,l,m,H,_,rfl,fun _ h _=>h,by first | exact hn | (simp only [Nat.min_self]; exact hn),hF,rfl,hs⟩
end Go.Pi.L.Top
set_option maxRecDepth 100000
namespace Go.Pi.L.Top
open Go Go.Pi Go.Pi.L Go.Pi.Top LM

theorem c65y {H:Heap}{b l n0:Nat}{xs:List Int}(hbd:Bld n0 H 1 (some ⟨b,0,none⟩) l 1 (cells encI xs))(hF:Fam H)(hl:l < 1000)(hn:n0≤H.length){nb i:Nat}{n:Int}(hb:hcells H nb=some [.int .i64 n])(hi:i < l)(hx:∀(j:Nat) x,xs[j]?=some x→(j < i↔x < n)) :
  Yes (R (.func 65) [.slice (some ⟨b,0,none⟩) l 1,.func (.func 67) #[] #[.pointer (some ⟨nb,0,none⟩)]] H) (QD n0 H (xs.take i)):=by
 have hs:Ints H (some ⟨b,0,none⟩) l xs:=hbd.sl encI_len (by decide)
 have k:=c101i (g:=67) (caps:=[.pointer (some ⟨nb,0,none⟩)]) (kk:=1) hs (by omega) hi rfl (fun j x hx'=>by rw [c67 x n hb,show decide (n≤x)=decide (i≤j) by have:=hx j x hx'; rw [decide_eq_decide]; omega])
 obtain ⟨f,h3,h4,h5⟩:∃f,n0≤b∧n0≤f∧H[b]?=some ⟨.cells (cells encI xs),true,true,some f⟩:=by
  rcases hbd.ok with ⟨h,_⟩ | ⟨b',f,h,_,h3,h4,h5⟩
  ·cases h
  ·cases h; exact ⟨f,h3,h4,h5⟩
 have hcl:(cells encI xs).length=l:=by rw [cells_len (k:=1) (fun _=>rfl),hs.len]; omega
 have l1:=hs.isLoc 1
 have hw:=wrap_succ i (by omega)
 have z1:((i:Nat):Int)=-1↔False:=by constructor <;> intro h <;> first | omega | cases h
 obtain ⟨zs,hzs⟩:∃zs,rep (l - i) [.int .i64 0]=zs:=⟨_,rfl⟩
 have hzl:zs.length=l - i:=by rw [←hzs,rep_len]; simp
 have s1:VOp.ev.slc 1 (some ⟨b,0,none⟩) l 1 (i:Nat) (l:Nat)=some (.slice (some ⟨b,i,none⟩) (l - i) 1):=by
  unfold VOp.ev.slc
  rw [if_pos (by omega)]
  simp only
  rw [if_pos (by omega)]
  simp
 have s2:VOp.ev.slc 1 (some ⟨b,0,none⟩) l 1 0 (i:Nat)=some (.slice (some ⟨b,0,none⟩) i 1):=by
  unfold VOp.ev.slc
  rw [if_pos (by omega)]
  simp only
  rw [if_pos (by omega)]
  simp
 have l2:isLoc (.slice (some ⟨b,i,none⟩) (l - i) 1)=false:=rfl
 obtain ⟨H1,hH1⟩:∃H1,(kill f H).set b ⟨.cells (splice (cells encI xs) i zs),true,true,some f⟩=H1:=⟨_,rfl⟩
 have hlen:H1.length=H.length:=by rw [←hH1]; simp [kill_length]
 have hblt:b < H.length:=(List.getElem?_eq_some_iff.1 h5).1
 have q:QD n0 H (xs.take i) ⟨.ok (.slice (some ⟨b,0,none⟩) i 1),H1,min H.length (min f b)⟩:=by
  refine ⟨_,_,_,_,_,rfl,fun H0 hu h0=>⟨by rw [hlen]; exact hu.len,fun j hj=>?_⟩,by simp only [Nat.le_min]; omega,?_,hlen,⟨by rw [List.length_take,hs.len]; omega,.inr ⟨_,_,rfl⟩,fun j x hj=>?_⟩⟩
  ·have hul:=hu.len
   rw [←hH1,List.getElem?_set_ne (by omega),kill_get]
   cases hx:H[j]? with
   | none=>rw [List.getElem?_eq_none_iff] at hx; omega
   | some y =>
    have:¬(y.fam=some f∧y.tip=false):=fun hc=>by have:=hF j y f hx hc.1; omega
    simp only [Option.map_some,if_neg this]
    rw [←hu.old j hj,hx]
  ·rw [←hH1]
   refine (Fam.kill hF f).set (b0:=⟨.cells (cells encI xs),true,true,some f⟩) ?_ rfl
   rw [kill_get,h5]; simp
  ·have hj1:=(List.getElem?_eq_some_iff.1 hj).1
   rw [List.length_take] at hj1
   have hx':xs[j]?=some x:=by rw [List.getElem?_take] at hj; rw [if_pos (by omega)] at hj; exact hj
   refine ⟨b,0,splice (cells encI xs) i zs,rfl,?_,?_⟩
   ·rw [←hH1]; simp [hcells,kill_length,hblt]
   ·have h8:=cells_get (k:=1) encI_len hx'
    unfold splice
    rw [Nat.zero_add,List.append_assoc,List.drop_append_of_le_length (by rw [List.length_take,hcl]; omega),List.take_append_of_le_length (by rw [List.length_drop,List.length_take,hcl]; omega),List.drop_take,List.take_take,Nat.min_eq_left (by omega)]
    exact h8
 refine run_y (pr 65) P65 (by simp [p65]) rfl ?_
 simp (maxDischargeDepth:=8) only [↓SD,SU,SV,SW,simprocAttr,Int.cast_ofNat_Int,small,resV, B65,R65,N65,b65, l1,loc_func,k,z1,hw]
 refine loop_ind (G:=(Yes · _)) (fun j σ=>∃T,σ=⟨T,[],[],H,(H).length,42,false⟩∧get T 0=.slice (some ⟨b,0,none⟩) l 1∧get T 1=.func (.func 67) #[] #[.pointer (some ⟨nb,0,none⟩)]∧get T 5=.int .i64 (i:Nat)∧get T 6=.int .i64 ((i+1+j:Nat))∧(True)) ((l - (i+1))) ?_ ?_ 0 _ (Nat.zero_le _) ⟨_,rfl,rfl,rfl,rfl,rfl,by simp⟩
 ·rintro c' j s hj ⟨T,rfl,t0,t1,t5,t6,hp⟩ ih
  obtain ⟨b2,off,x,hxa,hx2,e1⟩:=hs.i1 (j:=i+1+j) (by omega)
  have e1:=e1 H (Grow.refl _)
  have ia:=ia_of (kk:=1) (k:=1) hxa (show i+1+j < l by omega)
  have hw2:=wrap_succ (i+1+j) (by omega)
  have hlt:i+1+j < l:=by omega
  have k2:=c67 x n hb
  rw [show decide (n≤x)=true by have:=hx _ x hx2; simp; omega] at k2
  simp (maxDischargeDepth:=8) only [↓SD,SU,SV,SW,simprocAttr,Int.cast_ofNat_Int,small,resV, q65x0,t0,t1,t5,t6, lt_nat,hlt,l1,loc_func,ia,e1,k2,hw2]
  exact ih _ ⟨_,rfl,by simp [get_set,t0],by simp [get_set,t1],by simp [get_set,t5],by simp [get_set]; omega,trivial⟩
 ·rintro c' s ⟨T,rfl,t0,t1,t5,t6,hp⟩
  have hlt:¬(i+1+(l - (i+1)) < l):=by omega
  have hne:l - i≠0:=by omega
  have hcc:i+(rep (l - i) [.int .i64 0]).length≤(cells encI xs).length:=by rw [hzs,hzl,hcl]; omega
  have kc:=fun (call:CallT) (F:Ex→St→Option Out) (k:List It) d T S D lo n rnd=>clr_ok (call:=call) (F:=F) (k:=k) [.int .i64 0] b i (l - i) 1 d T S D H lo n rnd h5 hne hcc
  simp only [hzs,hH1] at kc
  have hcc2:i+zs.length≤(cells encI xs).length:=by rw [hzl,hcl]; omega
  simp (maxDischargeDepth:=8) only [↓SD,SU,SV,SW,simprocAttr,Int.cast_ofNat_Int,small,resV, q65x0,t0,t1,t5,t6, lt_nat,hlt,l1,l2,loc_func,vv_sll',s1,vv_slh,s2,g_clr,kc,R65,N65]
  rw [yes_some,gc_nf (by simp [flat])]
  exact q
end Go.Pi.L.Top
set_option maxRecDepth 100000
namespace Go.Pi.L.Top
open Go Go.Pi Go.Pi.L Go.Pi.Top LM

theorem cuts_ok {H:Heap}{a:Option Addr}{l k:Nat}{xs:List Int}(hx:Ints H a l xs)(hl:l < 1000)(hp:xs.Pairwise (· < ·)){nb:Nat}{n:Int} :
  ∀H',Grow H H'→Fam H'→hcells H' nb=some [.int .i64 n]→∃a1 m1 H1 lo1,R (.func 66) [.slice a l k] H'=some ⟨.ok (.slice a1 l m1),H1,lo1⟩∧isLoc (.slice a1 l m1)=false∧Up H' H1∧H'.length≤lo1 ∧
   ∃a2 l2 m2 H2 lo2,R (.func 65) [.slice a1 l m1,.func (.func 67) #[] #[.pointer (some ⟨nb,0,none⟩)]] H1=some ⟨.ok (.slice a2 l2 m2),H2,lo2⟩∧Up H' H2∧H'.length≤lo2∧Fam H2∧Sl H2 1 encI a2 l2 (xs.filter fun k=>decide (k < n)):=by
 intro H' hg hF hb
 obtain ⟨_,k1,a1,m1,H1,lo1,rfl,u1,hlo1,f1,s1,own⟩:=c66 (k:=k) hx hl H' hg hF
 refine ⟨a1,m1,H1,lo1,k1,s1.isLoc m1,u1,hlo1,?_⟩
 have hb1:hcells H1 nb=some [.int .i64 n]:=u1.grow.hc hb
 obtain ⟨i,i1,i2,i3⟩:=inc_split n xs hp
 rw [i2]
 rw [hx.len] at i1
 have key:Yes (R (.func 65) [.slice a1 l m1,.func (.func 67) #[] #[.pointer (some ⟨nb,0,none⟩)]] H1) (QD H'.length H1 (xs.take i)):=by
  by_cases h:i < l
  ·obtain ⟨b,rfl,rfl,bd⟩:=own (by omega)
   exact c65y bd f1 hl u1.len hb1 h i3
  ·have:xs.take i=xs:=List.take_of_length_le (by rw [hx.len]; omega)
   rw [this]
   refine c65n s1 f1 hl u1.len hb1 fun x hx'=>?_
   obtain ⟨j,hj,rfl⟩:=List.mem_iff_getElem.1 hx'
   exact (i3 j _ (List.getElem?_eq_getElem hj)).1 (by rw [hx.len] at hj; omega)
 obtain ⟨_,k2,a2,l2,m2,H2,lo2,rfl,kp,hlo2,f2,_,s2⟩:=key
 exact ⟨a2,l2,m2,H2,lo2,k2,kp H' u1 (Nat.le_refl _),hlo2,f2,s2⟩
def QL (H:Heap)(s:Sheet)(n:Nat)(o:Out):Prop :=
 ∃r H1 lo,o=⟨.ok (.agg #[.slice r.wa r.wl r.wk,.slice r.pa r.pl r.pk,.int .i64 s.other.1,.int .i64 s.other.2,.int .i64 s.gap.1,.int .i64 s.gap.2,.int .i64 s.hyphen,.slice r.na r.nl r.nk,.int .i64 s.wide,.int .i64 s.rows]),H1,lo⟩∧LeOk H1 r (shortS s n)∧Up H H1∧H.length≤lo∧Fam H1
theorem shortW_cons {n:Nat}{w:Word}{ws:List Word}(h:n≠0):shortW n (w :: ws)=⟨w.signs.take (min n w.signs.length),w.cuts.filter fun k=>decide (k < ((min n w.signs.length:Nat):Int)),w.free⟩ :: shortW (n - min n w.signs.length) ws:=by rw [shortW,if_neg h]
theorem shortW_zero (ws:List Word):shortW 0 ws=[]:=by cases ws <;> simp [shortW]
theorem c28 {H:Heap}{r:LeR}{s:Sheet}(hr:LeOk H r s)(hf:Fine s)(n:Nat)(hn:n < 1000) :
  ∀H',Grow H H'→Fam H'→Yes (R (.func 28) [.agg #[.slice r.wa r.wl r.wk,.slice r.pa r.pl r.pk,.int .i64 s.other.1,.int .i64 s.other.2,.int .i64 s.gap.1,.int .i64 s.gap.2,.int .i64 s.hyphen,.slice r.na r.nl r.nk,.int .i64 s.wide,.int .i64 s.rows],.int .i64 n] H') (QL H' s n):=by
 intro H' hg hF
 have n4:=hf.n4
 have w1:=hf.w1
 rw [hr.len] at n4
 rw [hr.wd.len] at w1
 have hfw:=fun x hx=>hr.fw hf (x:=x) hx
 have hwt:=hr.wt
 have hat:=fun j k h=>hr.at (j:=j) (k:=k) h
 have hlen:=hr.len
 have hr0:=hr
 refine run_y (pr 28) P28 (by simp [p28]) rfl ?_
 obtain ⟨wa,wl,wk,pa,pl,pk,na,nl,nk,xs⟩:=r
 have hW:Ints H wa wl s.widths:=hr.wd
 have hP:Sl H 4 eP pa pl s.pairs:=hr.pr
 have hN:Sl H 3 eW na nl xs:=hr.ws
 have l1:=hW.isLoc wk
 have l2:=hP.isLoc pk
 have l3:=hN.isLoc nk
 simp only at n4 w1 hfw hwt hat hlen hr0 ⊢
 obtain ⟨b0,o0,y0,hwa,_,_⟩:=hW.i1 (j:=0) (by omega)
 have fin:∀(H3:Heap) al q mm ys (m:Nat) lim,Bld H'.length H3 3 al q mm (cells eW ys)→ys.length=q→(∀y∈ys,WAt H3 y)→Up H' H3→H'.length≤lim→Fam H3→ys.map (·.w)=shortW n s.words →
   QL H' s n (gcR H' (.ok (.agg #[.slice wa wl wk,.slice pa pl pk,.int .i64 s.other.1,.int .i64 s.other.2,.int .i64 s.gap.1,.int .i64 s.gap.2,.int .i64 s.hyphen,.slice al q mm,.int .i64 s.wide,.int .i64 s.rows])) H3 lim):=fun H3 al q mm ys m lim h1 h2 h3 h4 h5 h6 h7=>by
  rw [gc_nf (by rw [hwa]; simp [flat])]
  refine ⟨⟨wa,wl,wk,pa,pl,pk,al,q,mm,ys⟩,H3,lim,rfl,⟨hW.grow (hg.trans h4.grow),hP.grow (hg.trans h4.grow),h1.sl eW_len (by decide),h3,h7.symm⟩,h4,h5,h6⟩
 simp (maxDischargeDepth:=8) only [↓SD,SU,SV,SW,simprocAttr,Int.cast_ofNat_Int,small,resV, B28,R28,N28,b28, l1,l2,l3]
 refine loop_ind (G:=(Yes · _)) (fun j σ=>∃T S H3 al mm ys m lim,σ=⟨T,S,[],H3,lim,47,false⟩∧get T 1=.int .i64 (m:Nat)∧get T 4=.pointer (some ⟨4,0,some 1⟩)∧get T 5=.pointer (some ⟨5,0,some 1⟩)∧get T 12=.slice na nl nk∧get T 13=.int .i64 nl∧get T 14=.int .i64 (j:Nat)∧sget S 4=(1,.cells [.slice none 0 0,.slice none 0 0,.int .i64 0,.int .i64 0,.int .i64 0,.int .i64 0,.int .i64 0,.slice none 0 0,.int .i64 0,.int .i64 0])∧sget S 5=(1,.cells [.slice wa wl wk,.slice pa pl pk,.int .i64 s.other.1,.int .i64 s.other.2,.int .i64 s.gap.1,.int .i64 s.gap.2,.int .i64 s.hyphen,.slice al j mm,.int .i64 s.wide,.int .i64 s.rows])∧(Bld H'.length H3 3 al j mm (cells eW ys)∧ys.length=j∧(∀y∈ys,WAt H3 y)∧Up H' H3∧H'.length≤lim∧Fam H3∧m < 1000∧ys.map (·.w)++shortW m (s.words.drop j)=shortW n s.words)) (nl) ?_ ?_ 0 _ (Nat.zero_le _) ⟨_,_,_,_,_,_,_,_,rfl,rfl,rfl,rfl,rfl,rfl,rfl,rfl,rfl,⟨(Bld.nil _ _ _:Bld _ _ _ _ _ _ (cells eW [])),(show ([]:List WR).length=0 from rfl),(fun _ h=>(by cases h)),Up.refl _,Nat.le_refl _,hF,hn,rfl⟩⟩
 ·rintro c' j s hj ⟨T,S,H3,al,mm,ys,m,lim,rfl,t1,t4,t5,t12,t13,t14,s0,s1,hp⟩ ih
  obtain ⟨hbd,hyl,hyw,hu3,hlim,hF3,hm,hsh⟩:=hp
  have hul:=hu3.len
  have l8:isLoc (.slice al j mm)=false:=hbd.isLoc _ _
  obtain ⟨b1,o1,x,hxa,hx,e1⟩:=hN.w3 hj
  have e1:=e1.all H3 (hg.trans hu3.grow)
  have ia:=ia_of (kk:=nk) (k:=3) hxa hj
  have hxm:=mem_drop hx
  have hxS:=(hwt x hxm).sg
  have hxC:=(hwt x hxm).ct
  have lS:=hxS.isLoc x.sk
  have lC:=hxC.isLoc x.ck
  have hw:=wrap_succ j (by omega)
  have hfx:=hfw x hxm
  have hsl1:=hfx.l1
  have hsl6:=hfx.l6
  rw [hxS.len] at hsl1 hsl6
  have hsw:=hat j x hx
  rw [drop_cons hsw] at hsh
  have hb01:(0:Nat)≠1:=by decide
  by_cases hm0:m=0
  ·subst hm0
   have z0:(((0:Nat):Int)=0)↔True:=by simp
   simp (maxDischargeDepth:=8) only [↓SD,SU,SV,SW,simprocAttr,Int.cast_ofNat_Int,small,resV, q28x0,t1,t4,t5,t12,t13,t14,s0,s1, lt_nat,hj,l1,l2,l3,l8,lS,lC,ia,e1,z0,hb01,x_blk',x_loop,x_blk,ne_eq,not_false_eq_true,Int.cast_ofNat_Int,R28,N28]
   rw [yes_some]
   refine fin H3 al j mm ys 0 _ hbd hyl hyw hu3 (by omega) hF3 ?_
   rw [shortW_zero,List.append_nil] at hsh; exact hsh
  ·have z0:((m:Int)=0)↔False:=by constructor <;> intro h <;> first | omega | cases h
   have hmn:(if x.sl < m then (x.sl:Int) else (m:Int))=((min m x.sl:Nat):Int):=by split <;> omega
   rw [shortW_cons hm0,hxS.len] at hsh
   obtain ⟨t,ht⟩:∃t,min m x.sl=t:=⟨_,rfl⟩
   rw [ht] at hsh hmn
   have wm:IntKind.wrap .i64 ((m:Int) - (t:Int))=((m - t:Nat):Int):=by rw [wrap_id _ (by omega) (by omega)]; omega
   obtain ⟨a1,m1,hsc,sC⟩:=hxS.cut x.sk 0 t (Nat.zero_le _) (by omega)
   rw [Nat.sub_zero,List.drop_zero] at sC
   simp only [Nat.sub_zero,Int.cast_ofNat_Int] at hsc
   have lA:=sC.isLoc m1
   obtain ⟨H4,hH4⟩:∃H4,H3++[({ obj:=.cells [.int .i64 (t:Int)] }:Blk)]=H4:=⟨_,rfl⟩
   have hu4:Up H3 H4:=by rw [←hH4]; exact (Up.refl _).app
   have hF4:Fam H4:=by rw [←hH4]; exact hF3.append fun g hg=>by cases hg
   have hb4:hcells H4 H3.length=some [.int .i64 (t:Int)]:=by rw [←hH4]; simp [hcells]
   have hg4:=hg.trans (hu3.trans hu4).grow
   have hcl:x.cl < 1000:=by
    have:=hxC.len
    have h2:∀(l:List Int) (n:Int),l.Pairwise (· < ·)→(∀y∈l,n≤y∧y < 6)→n≤6→(l.length:Int)≤6 - n:=fun l=>by
     induction l with
     | nil=>intro n _ _ h; simp; omega
     | cons a l ih =>
      intro n h1 h2 h3
      rw [List.pairwise_cons] at h1
      have h4:=h2 a (List.mem_cons_self ..)
      have:=ih (a+1) h1.2 (fun y hy=>⟨by have:=h1.1 y hy; omega,(h2 y (List.mem_cons_of_mem _ hy)).2⟩) (by omega)
      simp only [List.length_cons]; omega
    have:=h2 x.w.cuts 1 hfx.pw (fun y hy=>by have:=hfx.ct y hy; have:=hxS.len; omega) (by omega)
    omega
   obtain ⟨a5,m5,H5,lo5,k66,l5,u5,hlo5,a6,l6,m6,H6,lo6,k65,u6,hlo6,f6,s6⟩:=cuts_ok (k:=x.ck) hxC hcl hfx.pw H4 hg4 hF4 hb4
   have lE:=s6.isLoc m6
   have hu46:Up H3 H6:=hu4.trans u6
   have bd6:=hbd.up hu46
   have hu6:Up H' H6:=hu3.trans hu46
   have l46:=hu6.len
   have l34:=hu4.len
   have l45:=u5.len
   obtain ⟨y,hy⟩:∃y:WR,y=⟨a1,t,m1,a6,l6,m6,⟨x.w.signs.take t,x.w.cuts.filter fun k=>decide (k < (t:Int)),x.w.free⟩⟩:=⟨_,rfl⟩
   have hey:eW y=[.slice a1 t m1,.slice a6 l6 m6,.bool x.w.free]:=by rw [hy]; rfl
   obtain ⟨H7,q1,q2,q3,f7⟩:=bd6.appF f6 (by decide) (by decide) (by omega) l46 (eW y) rfl
   rw [hey] at q1
   rw [←cells_app] at q2
   have u7:Up H' H7:=q3.up bd6 hu6 (Nat.le_refl _)
   have hl7:=q3.len
   simp (maxDischargeDepth:=8) only [↓SD,SU,SV,SW,simprocAttr,Int.cast_ofNat_Int,small,resV, q28x0,t1,t4,t5,t12,t13,t14,s0,s1, lt_nat,hj,l1,l2,l3,l8,lS,lC,lA,l5,lE,ia,e1,z0,hmn,wm,app_get1,stH_ok,app_set1,hH4,hb4,vv_slh,hsc,k66,k65,q1,hw]
   exact ih _ ⟨_,_,(H7),(some ⟨H6.length,0,none⟩),(3),(ys++[y]),(m - t),(_),rfl,(by simp [get_set,t1] <;> omega),(by simp [get_set,t4] <;> omega),(by simp [get_set,t5] <;> omega),(by simp [get_set,t12] <;> omega),(by simp [get_set,t13] <;> omega),(by simp [get_set,t14] <;> omega),by simp [sget_sset,s0],by simp [sget_sset,s1],⟨q2,by simp [hyl],fun z hz=>(List.mem_append.1 hz).elim (fun h=>(hyw z h).grow (hu46.grow.trans q3.grow)) (fun h=>by rw [List.mem_singleton.1 h,hy]; exact ⟨sC.grow (hg.trans (hu6.grow.trans q3.grow)),s6.grow q3.grow⟩),u7,by omega,f7,by omega,by rw [List.map_append,List.map_singleton,List.append_assoc,hy]; exact hsh⟩⟩
 ·rintro c' s ⟨T,S,H3,al,mm,ys,m,lim,rfl,t1,t4,t5,t12,t13,t14,s0,s1,hp⟩
  obtain ⟨hbd,hyl,hyw,hu3,hlim,hF3,hm,hsh⟩:=hp
  have hul:=hu3.len
  have l8:isLoc (.slice al nl mm)=false:=hbd.isLoc _ _
  simp (maxDischargeDepth:=8) only [↓SD,SU,SV,SW,simprocAttr,Int.cast_ofNat_Int,small,resV, q28x0,t1,t4,t5,t12,t13,t14,s0,s1, lt_nat,Nat.lt_irrefl,l1,l2,l3,l8,R28,N28]
  rw [yes_some]
  refine fin H3 al nl mm ys m _ hbd hyl hyw hu3 hlim hF3 ?_
  rw [drop_all hlen] at hsh
  simpa [shortW] using hsh
end Go.Pi.L.Top
namespace LM
open Go Go.Pi Go.Pi.L

theorem place_zero (ws:List Word):place ws 0 0=0:=by cases ws <;> rfl
theorem place_succ:∀(ws:List Word) (n l:Nat),place ws n (l+1)=place ws n l+1
 | [],_,_=>rfl
 | _ :: _,0,_=>rfl
 | w :: ws,n+1,l=>by simp only [place]; rw [place_succ ws n l]; omega
theorem place_next:∀{ws:List Word} {n:Nat} {w:Word},ws[n]?=some w→place ws n w.signs.length+1=place ws (n+1) 0
 | [],n,w,h=>by simp at h
 | v :: ws,0,w,h=>by
  simp at h; subst h
  simp only [place,place_zero]
  try omega
 | v :: ws,n+1,w,h=>by
  have ih:=place_next (ws:=ws) (n:=n) (w:=w) (by simpa using h)
  simp only [place]; omega
theorem place_lt:∀{ws:List Word} {n N l L:Nat} {w W:Word},ws[n]?=some w→l≤w.signs.length→ws[N]?=some W→L≤W.signs.length→(place ws n l < place ws N L↔n < N∨(n=N∧l < L))
 | [],n,N,l,L,w,W,h,_,_,_=>by simp at h
 | v :: ws,0,0,l,L,w,W,h,h1,h2,h3=>by simp [place]
 | v :: ws,0,N+1,l,L,w,W,h,h1,h2,h3=>by
  simp at h; subst h
  simp only [place]; omega
 | v :: ws,n+1,0,l,L,w,W,h,h1,h2,h3=>by
  simp at h2; subst h2
  simp only [place]; omega
 | v :: ws,n+1,N+1,l,L,w,W,h,h1,h2,h3=>by
  have ih:=place_lt (ws:=ws) (n:=n) (N:=N) (l:=l) (L:=L) (w:=w) (W:=W) (by simpa using h) h1 (by simpa using h2) h3
  simp only [place]
  constructor
  ·intro q
   have:=ih.1 (by omega); omega
  ·intro q
   have:=ih.2 (by omega); omega
theorem posW_len (k m:Nat):(posW k m).length=m+1:=by simp [posW]
theorem posL_at:∀{ws:List Word} {k n l:Nat} {w:Word},ws[n]?=some w→l≤w.signs.length→(posL k ws)[place ws n l]?=some (if l=w.signs.length then none else some (((k+n:Nat):Int),((l:Nat):Int)))
 | [],k,n,l,w,h,_=>by simp at h
 | v :: ws,k,0,l,w,h,h1=>by
  simp at h; subst h
  simp only [posL,place]
  rw [List.getElem?_append_left (by rw [posW_len]; omega)]
  unfold posW
  by_cases hl:l=v.signs.length
  ·rw [if_pos hl,List.getElem?_append_right (by simp; omega)]; simp [hl]
  ·rw [if_neg hl,List.getElem?_append_left (by simp; omega)]
   rw [List.getElem?_map,List.getElem?_range (by omega)]; simp
 | v :: ws,k,n+1,l,w,h,h1=>by
  have ih:=posL_at (ws:=ws) (k:=k+1) (n:=n) (l:=l) (w:=w) (by simpa using h) h1
  simp only [posL,place]
  rw [List.getElem?_append_right (by rw [posW_len]; omega),posW_len,show v.signs.length+1+place ws n l - (v.signs.length+1)=place ws n l by omega,ih]
  rw [show k+1+n=k+(n+1) by omega]
theorem posL_len:∀(k:Nat) (ws:List Word),(posL k ws).length=(ws.map fun w=>w.signs.length+1).sum
 | _,[]=>rfl
 | k,w :: ws=>by simp only [posL,List.length_append,posW_len,posL_len,List.map_cons,List.sum_cons]
def VE (s:Sheet)(e:End):Prop:=∃(n L:Nat) (w:Word),e=((n:Int),(L:Int))∧s.words[n]?=some w∧1≤L∧L≤w.signs.length
theorem placeE_eq {s:Sheet}{n L:Nat}:placeE s ((n:Int),(L:Int))=place s.words n L:=by unfold placeE; simp
def gls (s:Sheet)(a k:Nat):List (Int×Int):=(((posL 0 s.words).drop a).take k).filterMap id
theorem gls_zero (s:Sheet)(a:Nat):gls s a 0=[]:=by simp [gls]
theorem gls_succ {s:Sheet}{a k n l:Nat}{w:Word}(hw:s.words[n]?=some w)(hl:l≤w.signs.length)(hp:place s.words n l=a+k) :
  gls s a (k+1)=gls s a k++(if l=w.signs.length then [] else [((n:Int),(l:Int))]):=by
 have h:=posL_at (k:=0) hw hl
 rw [hp] at h
 unfold gls
 rw [List.take_add_one,List.getElem?_drop,h,List.filterMap_append]
 by_cases hl:l=w.signs.length
 ·simp [hl]
 ·simp [hl]
theorem gls_len {s:Sheet}(hf:Fine s)(a k:Nat):(gls s a k).length≤900:=by
 have h1:(gls s a k).length≤(posL 0 s.words).length:=by
  unfold gls
  refine Nat.le_trans (List.length_filterMap_le _ _) ?_
  simp only [List.length_take,List.length_drop]; omega
 rw [posL_len] at h1
 have h2:∀ws:List Word,(∀w∈ws,FWord s.widths.length w)→(ws.map fun w=>w.signs.length+1).sum≤7*ws.length:=fun ws=>by
  induction ws with
  | nil=>intro _; simp
  | cons w ws ih =>
   intro hh
   have:=(hh w (List.mem_cons_self ..)).l6
   have:=ih fun x hx=>hh x (List.mem_cons_of_mem _ hx)
   simp only [List.map_cons,List.sum_cons,List.length_cons]; omega
 have:=h2 s.words hf.ws
 have:=hf.n4
 omega
theorem gls_ok {s:Sheet}{a k:Nat}:∀g∈gls s a k,∃(n l:Nat) (w:Word),g=((n:Int),(l:Int))∧s.words[n]?=some w∧l < w.signs.length:=by
 have key:∀(ws:List Word) (m:Nat),∀o∈posL m ws,∀g,o=some g→∃(n l:Nat) (w:Word),g=(((m+n:Nat):Int),(l:Int))∧ws[n]?=some w∧l < w.signs.length:=by
  intro ws
  induction ws with
  | nil=>intro m o h; cases h
  | cons w ws ih =>
   intro m o h g hg
   rw [posL] at h
   rcases List.mem_append.1 h with h | h
   ·unfold posW at h
    rcases List.mem_append.1 h with h | h
    ·obtain ⟨i,hi,rfl⟩:=List.mem_map.1 h
     cases hg
     exact ⟨0,i,w,by simp,rfl,by simpa using hi⟩
    ·simp at h; subst h; cases hg
   ·obtain ⟨n,l,v,h1,h2,h3⟩:=ih (m+1) o h g hg
    exact ⟨n+1,l,v,by rw [h1]; congr 2; omega,by simpa using h2,h3⟩
 intro g hg
 unfold gls at hg
 obtain ⟨o,ho,rfl⟩:=List.mem_filterMap.1 hg
 obtain ⟨n,l,w,h1,h2,h3⟩:=key s.words 0 _ (List.mem_of_mem_drop (List.mem_of_mem_take ho)) g rfl
 exact ⟨n,l,w,by rw [h1]; simp,h2,h3⟩
structure EOk (s:Sheet)(x:List End):Prop where
 ve:∀e∈x,VE s e
 pw:x.Pairwise fun a b=>placeE s a < placeE s b
end LM
set_option maxRecDepth 100000
namespace Go.Pi.L.Top
open Go Go.Pi Go.Pi.L Go.Pi.Top LM

theorem c164n (n:Int)(H:Heap):R (.func 164) [.slice none 0 0,.int .i64 n] H=some ⟨.ok (.int .i64 (-1)),H,H.length⟩:=by
 refine run_k (pr 164) P164 (by simp [p164]) rfl ?_
 simp (maxDischargeDepth:=8) only [↓SD,SU,SV,SW,simprocAttr,Int.cast_ofNat_Int,small,resV, B164,R164,N164,b164, l_succ,q164x0,Int.lt_irrefl]
theorem c145n (n:Int)(H:Heap):R (.func 145) [.slice none 0 0,.int .i64 n] H=some ⟨.ok (.bool false),H,H.length⟩:=by
 refine run_k (pr 145) P145 (by simp [p145]) rfl ?_
 have z:¬(0:Int)≤-1:=by omega
 simp (maxDischargeDepth:=8) only [↓SD,SU,SV,SW,simprocAttr,Int.cast_ofNat_Int,small,resV, B145,R145,N145,b145, c164n,z]
structure In (T:List Value)(S:List (Nat×PObj))(r:LeR)(s:Sheet)(mb:Nat)(al:Value)(ea:Option Addr)(el ek j g9 g10 E1 E2 word at_:Nat)(cut:Bool)(ga:Option Addr)(gl gk:Nat):Prop where
 t2:get T 2=.pointer (some ⟨2,0,some 1⟩)
 t3:get T 3=.pointer (some ⟨3,0,some 1⟩)
 t5:get T 5=al
 t6:get T 6=.int .i64 (word:Nat)
 t7:get T 7=.int .i64 (at_:Nat)
 t9:get T 9=.pointer (some ⟨9,0,some g9⟩)
 t10:get T 10=.pointer (some ⟨10,0,some g10⟩)
 t12:get T 12=.slice ea el ek
 t13:get T 13=.int .i64 el
 t14:get T 14=.int .i64 (j:Nat)
 s2:sget S 2=(1,.cells [.slice r.wa r.wl r.wk,.slice r.pa r.pl r.pk,.int .i64 s.other.1,.int .i64 s.other.2,.int .i64 s.gap.1,.int .i64 s.gap.2,.int .i64 s.hyphen,.slice r.na r.nl r.nk,.int .i64 s.wide,.int .i64 s.rows,.map (some mb)])
 s3:sget S 3=(1,.cells [.slice none 0 0,.slice ea el ek])
 s9:sget S 9=(g9,.cells [.int .i64 (E1:Nat),.int .i64 (E2:Nat)])
 s10:sget S 10=(g10,.cells [.slice ga gl gk,.bool cut])
theorem lp111 {H Hs:Heap}{r:LeR}{mb:Nat}{s:Sheet}(hr:LeOk H r s)(hf:Fine s)(hg:Grow H Hs){F:Ex→St→Option Out}{k:List It}{Q:Out→Prop}{al:Value}{ea:Option Addr}{el ek jj g9 g10 E1 E2 word at_ lim:Nat}{cut:Bool}{T:List Value}{S:List (Nat×PObj)}{w W:Word}
  (hin:In T S r s mb al ea el ek jj g9 g10 E1 E2 word at_ cut none 0 0) (hal:isLoc al=false) (hea:isLoc (.slice ea el ek)=false)
  (hw:s.words[word]?=some w) (hat:at_≤w.signs.length) (hW:s.words[E1]?=some W) (hE:E2≤W.signs.length) (hle:place s.words word at_≤place s.words E1 E2)
  (hend:∀T' S' H6 ga gl gk lim',In T' S' r s mb al ea el ek jj g9 g10 E1 E2 E1 E2 cut ga gl gk→Bld Hs.length H6 2 ga gl gk (cells encG (gls s (place s.words word at_) (place s.words E1 E2 - place s.words word at_)))→Up Hs H6→(min lim Hs.length≤lim')→Yes (mach R F k none ⟨T',S',[],H6,lim',81,false⟩) Q) :
  Yes (mach R F (.loop q111x0 :: .blk 2 :: k) none ⟨T,S,[],Hs,lim,81,false⟩) Q:=by
 obtain ⟨a,ha⟩:∃a,place s.words word at_=a:=⟨_,rfl⟩
 obtain ⟨b,hb⟩:∃b,place s.words E1 E2=b:=⟨_,rfl⟩
 rw [ha,hb] at hend hle
 have n4:=hf.n4
 refine loop_ind (G:=(Yes · Q)) (fun j σ=>∃T S H3 ga gl gk word at_ lim' w,σ=⟨T,S,[],H3,lim',81,false⟩∧In T S r s mb al ea el ek jj g9 g10 E1 E2 word at_ cut ga gl gk∧Bld Hs.length H3 2 ga gl gk (cells encG (gls s a j))∧Up Hs H3∧min lim Hs.length≤lim'∧s.words[word]?=some w∧at_≤w.signs.length∧place s.words word at_=a+j) (b - a) ?_ ?_ 0 _ (Nat.zero_le _) ⟨T,S,Hs,none,0,0,word,at_,lim,w,rfl,hin,by rw [gls_zero]; exact Bld.nil _ _ _,Up.refl _,Nat.min_le_left _ _,hw,hat,ha⟩
 ·rintro c' j σ hj ⟨T,S,H3,ga,gl,gk,word,at_,lim',w,rfl,h,hbd,hu,hlim,hw,hat,hpl⟩ ih
  obtain ⟨t2,t3,t5,t6,t7,t9,t10,t12,t13,t14,s2,s3,s9,s10⟩:=h
  have hlt:place s.words word at_ < place s.words E1 E2:=by rw [hpl,hb]; omega
  rw [place_lt hw hat hW hE] at hlt
  have hul:=hu.len
  have l8:isLoc (.slice ga gl gk)=false:=hbd.isLoc _ _
  have hwn:word < r.nl:=by rw [←hr.len]; exact (List.getElem?_eq_some_iff.1 hw).1
  obtain ⟨b1,o1,x,hxa,hx,e1⟩:=hr.ws.w3 hwn
  have hxw:=hr.at hx
  rw [hw] at hxw
  cases hxw
  have e1:=e1.v0 H3 (hg.trans hu.grow)
  have ia:=ia_of (kk:=r.nk) (k:=3) hxa hwn
  have hxS:=(hr.wt x (mem_drop hx)).sg
  have l4:=hxS.isLoc x.sk
  have hsl:=hxS.len
  have l6:=(hr.fw hf (mem_drop hx)).l6
  have hsucc:=gls_succ (a:=a) (k:=j) hw hat hpl
  have hgl:=gls_len hf a j
  have hgl2:gl=(gls s a j).length:=by
   have:=hbd.len
   rw [cells_len (k:=2) encG_len] at this; omega
  have hww:=wrap_succ word (by have:=hr.len; omega)
  have hwa:=wrap_succ at_ (by omega)
  have wm:IntKind.wrap .i64 ((-1:Int)+1)=((0:Nat):Int):=by rw [wrap_id _ (by omega) (by omega)]; rfl
  have hx33:(3:Nat)=3:=rfl
  have L1:=hr.wd.isLoc r.wk
  have L2:=hr.pr.isLoc r.pk
  have L3:=hr.ws.isLoc r.nk
  have Lm:isLoc (.map (some mb))=false:=rfl
  by_cases hend':at_=x.w.signs.length
  ·have hA:word < E1:=by
    rcases hlt with h | ⟨h1,h2⟩
    ·exact h
    ·exfalso
     subst h1
     rw [hw] at hW; cases hW
     omega
   rw [if_pos hend',List.append_nil] at hsucc
   have hq:((at_:Nat):Int)=((x.sl:Nat):Int)↔True:=by simp; omega
   obtain ⟨w',hw'⟩:∃w',s.words[word+1]?=some w':=⟨_,List.getElem?_eq_getElem (by have:=(List.getElem?_eq_some_iff.1 hW).1; omega)⟩
   simp (maxDischargeDepth:=8) only [↓SD,SU,SV,SW,simprocAttr,Int.cast_ofNat_Int,small,resV, q111x0,t2,t3,t5,t6,t7,t9,t10,t12,t13,t14,s2,s3,s9,s10,lt_nat,hA,c145n,hal,hea,L1,L2,L3,Lm,l4,l8,ia,e1,hq,hww,wm,x_blk,x_blk',x_code]
   exact ih _ ⟨_,_,H3,ga,gl,gk,word+1,0,_,w',rfl,⟨by simp [get_set,t2],by simp [get_set,t3],by simp [get_set,t5],by simp [get_set],by simp [get_set],by simp [get_set,t9],by simp [get_set,t10],by simp [get_set,t12],by simp [get_set,t13],by simp [get_set,t14],by simp [sget_sset,s2],by simp [sget_sset,s3],by simp [sget_sset,s9],by simp [sget_sset,s10]⟩,by rw [hsucc]; exact hbd,hu,by omega,hw',Nat.zero_le _,by rw [←place_next hw,←hend',hpl]; omega⟩
  ·rw [if_neg hend'] at hsucc
   have hq:((at_:Nat):Int)=((x.sl:Nat):Int)↔False:=by simp; omega
   obtain ⟨H6,q1,q2,q3,q4⟩:=hbd.app (by decide) (by decide) (by omega) hul [.int .i64 (word:Nat),.int .i64 (at_:Nat)] rfl
   have q2':Bld Hs.length H6 2 (some ⟨H3.length,0,none⟩) (gl+1) 2 (cells encG (gls s a (j+1))):=by rw [hsucc,cells_app]; exact q2
   have hl6:=q3.len
   have u6:=q3.up hbd hu (Nat.le_refl _)
   have hp':place s.words word (at_+1)=a+(j+1):=by rw [place_succ,hpl]; omega
   by_cases hA:word < E1
   ·simp (maxDischargeDepth:=8) only [↓SD,SU,SV,SW,simprocAttr,Int.cast_ofNat_Int,small,resV, q111x0,t2,t3,t5,t6,t7,t9,t10,t12,t13,t14,s2,s3,s9,s10,lt_nat,hA,c145n,hal,hea,L1,L2,L3,Lm,l4,l8,ia,e1,hq,hwa,q1]
    exact ih _ ⟨_,_,H6,some ⟨H3.length,0,none⟩,gl+1,2,word,at_+1,_,x.w,rfl,⟨by simp [get_set,t2],by simp [get_set,t3],by simp [get_set,t5],by simp [get_set,t6],by simp [get_set],by simp [get_set,t9],by simp [get_set,t10],by simp [get_set,t12],by simp [get_set,t13],by simp [get_set,t14],by simp [sget_sset,s2],by simp [sget_sset,s3],by simp [sget_sset,s9],by simp [sget_sset,s10]⟩,q2',u6,by omega,hw,by omega,hp'⟩
   ·obtain ⟨rfl,hB⟩:word=E1∧at_ < E2:=by omega
    have hq2:((word:Nat):Int)=((word:Nat):Int)↔True:=by simp
    have hA':¬word < word:=Nat.lt_irrefl _
    simp (maxDischargeDepth:=8) only [↓SD,SU,SV,SW,simprocAttr,Int.cast_ofNat_Int,small,resV, q111x0,t2,t3,t5,t6,t7,t9,t10,t12,t13,t14,s2,s3,s9,s10,lt_nat,hA',hq2,hB,c145n,hal,hea,L1,L2,L3,Lm,l4,l8,ia,e1,hq,hwa,q1]
    exact ih _ ⟨_,_,H6,some ⟨H3.length,0,none⟩,gl+1,2,word,at_+1,_,x.w,rfl,⟨by simp [get_set,t2],by simp [get_set,t3],by simp [get_set,t5],by simp [get_set,t6],by simp [get_set],by simp [get_set,t9],by simp [get_set,t10],by simp [get_set,t12],by simp [get_set,t13],by simp [get_set,t14],by simp [sget_sset,s2],by simp [sget_sset,s3],by simp [sget_sset,s9],by simp [sget_sset,s10]⟩,q2',u6,by omega,hw,by omega,hp'⟩
 ·rintro c' σ ⟨T,S,H3,ga,gl,gk,word,at_,lim',w,rfl,h,hbd,hu,hlim,hw,hat,hpl⟩
  have h1:¬place s.words word at_ < place s.words E1 E2:=by rw [hpl,hb]; omega
  have h2:¬place s.words E1 E2 < place s.words word at_:=by rw [hpl,hb]; omega
  rw [place_lt hw hat hW hE] at h1
  rw [place_lt hW hE hw hat] at h2
  obtain ⟨rfl,rfl⟩:word=E1∧at_=E2:=by omega
  obtain ⟨t2,t3,t5,t6,t7,t9,t10,t12,t13,t14,s2,s3,s9,s10⟩:=h
  have hq2:((word:Nat):Int)=((word:Nat):Int)↔True:=by simp
  have hul:=hu.len
  simp (maxDischargeDepth:=8) only [↓SD,SU,SV,SW,simprocAttr,Int.cast_ofNat_Int,small,resV, q111x0,t2,t3,t5,t6,t7,t9,t10,t12,t13,t14,s2,s3,s9,s10,lt_nat,Nat.lt_irrefl,hq2,hal,hea,x_blk]
  exact hend _ _ H3 ga gl gk _ ⟨by simp [get_set,t2],by simp [get_set,t3],by simp [get_set,t5],by simp [get_set,t6],by simp [get_set,t7],by simp [get_set,t9],by simp [get_set,t10],by simp [get_set,t12],by simp [get_set,t13],by simp [get_set,t14],by simp [sget_sset,s2],by simp [sget_sset,s3],by simp [sget_sset,s9],by simp [sget_sset,s10]⟩ hbd hu (by omega)
end Go.Pi.L.Top
