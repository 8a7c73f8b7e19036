/- Coats: what is as defined. -/
import Derived.Test.YtjidjpcnocddeaaGreatDoorCQ
set_option linter.all false
set_option maxRecDepth 100000
namespace Go.Pi.L.Coa
open Go Go.Pi Go.Pi.L Go.Pi.Coa CM

theorem c124 {H:Heap}{r:ShR}{s:Sheet}{b:Nat}(hs:ShOk H r s)(hd:r.dl < 1000000)(hb:hcells H b=some [.slice r.da r.dl r.dk,.slice r.wa r.wl r.wk,.slice r.ca r.cl r.ck])(x:Int) :
  ∀H',Grow H H'→R (.func 124) [.int .i64 x,.pointer (some ⟨b,0,none⟩)] H'=some ⟨.ok (.bool (!isDay s x)),H',H'.length⟩:=by
 intro H' hg
 refine run_k (pr 124) P124 (by simp [p124]) rfl ?_
 simp (maxDischargeDepth:=8) only [↓SD,SU,SV,SW,simprocAttr,Int.cast_ofNat_Int,small,resV, B124,R124,N124,b124, hg.hc hb,c104 hs hd,hg,hs.d.isLoc,hs.w.isLoc,hs.c.isLoc]
structure Small (r:ShR):Prop where
 d:r.dl < 1000000
 w:r.wl < 1000000
 c:r.cl < 1000000

theorem any_not {β:Type}(p:β→Bool)(l:List β):(!l.any fun x=>!p x)=l.all p:=by
 induction l with
 | nil=>rfl
 | cons x l ih=>simp only [List.any_cons,List.all_cons,Bool.not_or,Bool.not_not,ih]

theorem c75 {H:Heap}{r:ShR}{s:Sheet}(hs:ShOk H r s)(hd:Small r):∀H',Grow H H'→R (.func 75) [.agg #[.slice r.da r.dl r.dk,.slice r.wa r.wl r.wk,.slice r.ca r.cl r.ck]] H'=some ⟨.ok (.bool (isSheet s)),H',H'.length⟩:=by
 intro H' hg
 refine run_k (pr 75) P75 (by simp [p75]) rfl ?_
 generalize hH:H'++[({ obj:=.cells [.slice r.da r.dl r.dk,.slice r.wa r.wl r.wk,.slice r.ca r.cl r.ck] }:Blk)]=H1
 have g1:Grow H' H1:=by rw [←hH]; exact grow_app (Grow.refl _)
 have a4:hcells H1 H'.length=some [.slice r.da r.dl r.dk,.slice r.wa r.wl r.wk,.slice r.ca r.cl r.ck]:=by rw [←hH]; exact hc_new _ _ _
 have a5:H1.length=H'.length+1:=by rw [←hH]; simp
 have hs1:=hs.grow (hg.trans g1)
 have k1:=c120 (g:=117) (caps:=[]) (kk:=r.dk) (fun x=>!spanOk x) hs1.d hd.d rfl (fun x _ H2 _=>c117 x H2) H1 (Grow.refl _)
 have k2:=c121 (g:=119) (caps:=[]) (kk:=r.ck) (fun x=>!coatOk x) hs1.c hd.c rfl (fun x _ H2 _=>c119 x H2) H1 (Grow.refl _)
 have k3:=c122 (kk:=r.wk) hs1.w hd.w H1 (Grow.refl _)
 have k4:=c123 (g:=124) (caps:=[.pointer (some ⟨H'.length,0,none⟩)]) (kk:=r.wk) (fun x=>!isDay s x) hs1.w hd.w rfl (fun x _=>c124 hs1 hd.d a4 x) H1 (Grow.refl _)
 unfold isSheet
 rw [hs.d.len,hs.c.len]
 cases e1:inL r.dl 1 12 with
 | false=>simp (maxDischargeDepth:=8) only [↓SD,SU,SV,SW,simprocAttr,Int.cast_ofNat_Int,small,resV, B75,R75,N75,b75, hH,c118,a4,a5,hs.d.isLoc,hs.w.isLoc,hs.c.isLoc,k1,k2,k3,k4,any_not,Bool.false_and,e1]
 | true =>
  cases e2:inL r.cl 1 5 with
  | false=>simp (maxDischargeDepth:=8) only [↓SD,SU,SV,SW,simprocAttr,Int.cast_ofNat_Int,small,resV, B75,R75,N75,b75, hH,c118,a4,a5,hs.d.isLoc,hs.w.isLoc,hs.c.isLoc,k1,k2,k3,k4,any_not,Bool.false_and,e1,e2]
  | true =>
   cases e3:s.dry.all spanOk with
   | false=>simp (maxDischargeDepth:=8) only [↓SD,SU,SV,SW,simprocAttr,Int.cast_ofNat_Int,small,resV, B75,R75,N75,b75, hH,c118,a4,a5,hs.d.isLoc,hs.w.isLoc,hs.c.isLoc,k1,k2,k3,k4,any_not,Bool.false_and,e1,e2,e3]
   | true =>
    cases e4:s.coats.all coatOk with
    | false=>simp (maxDischargeDepth:=8) only [↓SD,SU,SV,SW,simprocAttr,Int.cast_ofNat_Int,small,resV, B75,R75,N75,b75, hH,c118,a4,a5,hs.d.isLoc,hs.w.isLoc,hs.c.isLoc,k1,k2,k3,k4,any_not,Bool.false_and,e1,e2,e3,e4]
    | true =>
     cases e5:rises s.work with
     | false=>simp (maxDischargeDepth:=8) only [↓SD,SU,SV,SW,simprocAttr,Int.cast_ofNat_Int,small,resV, B75,R75,N75,b75, hH,c118,a4,a5,hs.d.isLoc,hs.w.isLoc,hs.c.isLoc,k1,k2,k3,k4,any_not,Bool.false_and,e1,e2,e3,e4,e5]
     | true =>
      simp (maxDischargeDepth:=8) only [↓SD,SU,SV,SW,simprocAttr,Int.cast_ofNat_Int,small,resV, B75,R75,N75,b75, hH,c118,a4,a5,hs.d.isLoc,hs.w.isLoc,hs.c.isLoc,k1,k2,k3,k4,any_not,Bool.false_and,e1,e2,e3,e4,e5]

theorem eq_nat (a b:Nat):((a:Int)=(b:Int))=(a=b):=propext (by omega)
theorem c51 {H:Heap}{a:Option Addr}{l kk:Nat}{xs:List Int}(v:Int)(hs:Ints H a l xs)(hl:l < 1000000) :
  ∀H',Grow H H'→R (.func 51) [.slice a l kk,.int .i64 v] H'=some ⟨.ok (.bool (xs.any fun d=>decide (v=d))),H',H'.length⟩:=by
 intro H' hg
 refine run_k (pr 51) P51 (by simp [p51]) rfl ?_
 have lo:=hs.isLoc kk
 simp (maxDischargeDepth:=8) only [↓SD,SU,SV,SW,simprocAttr,Int.cast_ofNat_Int,small,resV, B51,R51,N51,b51, lo]
 refine loop_ind (G:=(·=_)) (fun j σ=>∃T,σ=⟨T,[],[],H',(H').length,18,false⟩∧get T 0=.slice a l kk∧get T 1=.int .i64 v∧get T 5=.int .i64 (j:Nat)∧(((xs.drop j).any fun d=>decide (v=d))=(xs.any fun d=>decide (v=d)))) (l) ?_ ?_ 0 _ (Nat.zero_le _) ⟨_,rfl,rfl,rfl,rfl,by simp⟩
 ·rintro c' j s hj ⟨T,rfl,t0,t1,t5,hp⟩ ih
  obtain ⟨b,off,x,rfl,hx,e1⟩:=hs.i1 hj
  have hw:=wrap_succ j (by omega)
  rw [drop_cons hx,List.any_cons] at hp
  by_cases hpx:v=x
  ·have:x=v:=hpx.symm
   rw [show decide (v=x)=true by simpa using hpx,Bool.true_or] at hp
   simp (maxDischargeDepth:=8) only [↓SD,SU,SV,SW,simprocAttr,Int.cast_ofNat_Int,small,resV, q51x0,t0,t1,t5, lt_nat,hj,lo,e1,hg,R51,N51,this,←hp]
  ·have:¬x=v:=fun h=>hpx h.symm
   simp only [hpx,decide_false,Bool.false_or] at hp
   simp (maxDischargeDepth:=8) only [↓SD,SU,SV,SW,simprocAttr,Int.cast_ofNat_Int,small,resV, q51x0,t0,t1,t5, lt_nat,hj,lo,e1,hg,R51,N51,this,hw]
   exact ih _ ⟨_,rfl,(by simp [get_set,t0] <;> omega),(by simp [get_set,t1] <;> omega),(by simp [get_set,t5] <;> omega),hp⟩
 ·rintro c' s ⟨T,rfl,t0,t1,t5,hp⟩
  rw [drop_all hs.len] at hp
  simp (maxDischargeDepth:=8) only [↓SD,SU,SV,SW,simprocAttr,Int.cast_ofNat_Int,small,resV, q51x0,t0,t1,t5, lt_nat,Nat.lt_irrefl,lo,R51,N51,←hp,List.any_nil]

def risingD (s:Sheet)(l:List Int):Bool:=rises l&&l.all (isDay s)
theorem c82 {H:Heap}{r:ShR}{s:Sheet}{a:Option Addr}{l kk:Nat}{xs:List Int}(hs:ShOk H r s)(hd:Small r)(hx:Ints H a l xs)(hl:l < 1000000) :
  ∀H',Grow H H'→R (.func 82) [.agg #[.slice r.da r.dl r.dk,.slice r.wa r.wl r.wk,.slice r.ca r.cl r.ck],.slice a l kk] H'=some ⟨.ok (.bool (risingD s xs)),H',H'.length⟩:=by
 intro H' hg
 refine run_k (pr 82) P82 (by simp [p82]) rfl ?_
 have lo:=hx.isLoc kk
 simp (maxDischargeDepth:=8) only [↓SD,SU,SV,SW,simprocAttr,Int.cast_ofNat_Int,small,resV, B82,R82,N82,b82, lo,hs.d.isLoc,hs.w.isLoc,hs.c.isLoc]
 refine loop_ind (G:=(·=_)) (fun j σ=>∃T,σ=⟨T,sset [] 2 (1,.cells [.slice r.da r.dl r.dk,.slice r.wa r.wl r.wk,.slice r.ca r.cl r.ck]),[],H',(H').length,35,false⟩∧get T 1=.slice a l kk∧get T 2=.pointer (some ⟨2,0,some 1⟩)∧get T 5=.int .i64 (j:Nat)∧((rises (xs.drop (j - 1))&&(xs.drop j).all (isDay s))=risingD s xs)) (l) ?_ ?_ 0 _ (Nat.zero_le _) ⟨_,rfl,rfl,rfl,rfl,by simp [risingD]⟩
 ·rintro c' j s hj ⟨T,rfl,t1,t2,t5,hp⟩ ih
  obtain ⟨b,off,x,rfl,hx',e1⟩:=hx.i1 hj
  have hw:=wrap_succ j (by omega)
  have k1:=c60 hs hd.d x H' hg
  rw [drop_cons hx',List.all_cons] at hp
  cases hdx:isDay s x with
  | false =>
   simp only [hdx,Bool.false_and,Bool.and_false] at hp
   simp (maxDischargeDepth:=8) only [↓SD,SU,SV,SW,simprocAttr,Int.cast_ofNat_Int,small,resV, q82x0,t1,t2,t5, lt_nat,hj,lo,e1,hg,hw,k1,hdx,R82,N82,←hp,hs.d.isLoc,hs.w.isLoc,hs.c.isLoc]
  | true =>
   simp only [hdx,Bool.true_and] at hp
   by_cases hj0:j=0
   ·have e4:¬(0:Int) < (j:Int):=by omega
    simp (maxDischargeDepth:=8) only [↓SD,SU,SV,SW,simprocAttr,Int.cast_ofNat_Int,small,resV, q82x0,t1,t2,t5, lt_nat,hj,lo,e1,hg,hw,k1,hdx,e4,hs.d.isLoc,hs.w.isLoc,hs.c.isLoc]
    exact ih _ ⟨_,rfl,(by simp [get_set,t1] <;> omega),(by simp [get_set,t2] <;> omega),(by simp [get_set,t5] <;> omega),by subst hj0; simpa using hp⟩
   ·obtain ⟨j,rfl⟩:∃i,j=i+1:=⟨j - 1,by omega⟩
    obtain ⟨b',off',x',hb,hx2,e2⟩:=hx.i1 (j:=j) (by omega)
    cases hb
    have e3:IntKind.wrap .i64 (((j+1:Nat):Int) - 1)=(j:Nat):=by rw [wrap_id _ (by omega) (by omega)]; omega
    have e4:(0:Int) < ((j+1:Nat):Int):=by omega
    have e5:j < l:=by omega
    rw [Nat.add_sub_cancel,rises_drop hx2 hx'] at hp
    by_cases hlt:x≤x'
    ·have:¬x' < x:=by omega
     simp only [this,decide_false,Bool.false_and] at hp
     simp (maxDischargeDepth:=8) only [↓SD,SU,SV,SW,simprocAttr,Int.cast_ofNat_Int,small,resV, q82x0,t1,t2,t5, lt_nat,hj,lo,e1,hg,hw,k1,hdx,e2,e3,e4,e5,hlt,R82,N82,←hp,hs.d.isLoc,hs.w.isLoc,hs.c.isLoc]
    ·have:x' < x:=by omega
     simp only [this,decide_true,Bool.true_and] at hp
     simp (maxDischargeDepth:=8) only [↓SD,SU,SV,SW,simprocAttr,Int.cast_ofNat_Int,small,resV, q82x0,t1,t2,t5, lt_nat,hj,lo,e1,hg,hw,k1,hdx,e2,e3,e4,e5,hlt,hs.d.isLoc,hs.w.isLoc,hs.c.isLoc]
     exact ih _ ⟨_,rfl,(by simp [get_set,t1] <;> omega),(by simp [get_set,t2] <;> omega),(by simp [get_set,t5] <;> omega),hp⟩
 ·rintro c' s ⟨T,rfl,t1,t2,t5,hp⟩
  have:rises (xs.drop (l - 1))=true:=by
   have hlen:=hx.len
   cases h:xs.drop (l - 1) with
   | nil=>rfl
   | cons y ys =>
    cases ys with
    | nil=>rfl
    | cons z zs=>have:=congrArg List.length h; simp at this; omega
  rw [this,drop_all hx.len] at hp
  simp (maxDischargeDepth:=8) only [↓SD,SU,SV,SW,simprocAttr,Int.cast_ofNat_Int,small,resV, q82x0,t1,t2,t5, lt_nat,Nat.lt_irrefl,lo,R82,N82,←hp,List.all_nil]

theorem isSheet_eq (s:Sheet):isSheet s=(inL s.dry.length 1 12&&(inL s.coats.length 1 5&&(risingD s s.work&&(s.dry.all spanOk&&s.coats.all coatOk)))):=by
 unfold isSheet risingD
 cases s.dry.all spanOk <;> cases s.coats.all coatOk <;> cases rises s.work <;> cases s.work.all (isDay s) <;> simp
theorem c25 {H:Heap}{r:ShR}{s:Sheet}(hs:ShOk H r s)(hd:Small r):∀H',Grow H H'→R (.func 25) [.agg #[.slice r.da r.dl r.dk,.slice r.wa r.wl r.wk,.slice r.ca r.cl r.ck]] H'=some ⟨.ok (.bool (isSheet s)),H',H'.length⟩:=by
 intro H' hg
 have k3:=c82 (kk:=r.wk) hs hd hs.w hd.w H' hg
 rw [isSheet_eq,hs.d.len,hs.c.len]
 refine run_k (pr 25) P25 (by simp [p25]) rfl ?_
 obtain ⟨da,dl,dk,wa,wl,wk,ca,cl,ck⟩:=r
 have hD:Spans H da dl s.dry:=hs.d
 have hW:Ints H wa wl s.work:=hs.w
 have hC:Spans H ca cl s.coats:=hs.c
 have nD:dl < 1000000:=hd.d
 have nW:wl < 1000000:=hd.w
 have nC:cl < 1000000:=hd.c
 have l1:=hD.isLoc dk
 have l2:=hW.isLoc wk
 have l3:=hC.isLoc ck
 simp only at k3
 cases e1:inL dl 1 12 with
 | false=>simp (maxDischargeDepth:=8) only [↓SD,SU,SV,SW,simprocAttr,Int.cast_ofNat_Int,small,resV, B25,R25,N25,b25, c81,l1,l2,l3,e1,Bool.false_and]
 | true =>
 cases e2:inL cl 1 5 with
 | false=>simp (maxDischargeDepth:=8) only [↓SD,SU,SV,SW,simprocAttr,Int.cast_ofNat_Int,small,resV, B25,R25,N25,b25, c81,l1,l2,l3,e1,e2,Bool.false_and]
 | true =>
 cases e3:risingD s s.work with
 | false=>simp (maxDischargeDepth:=8) only [↓SD,SU,SV,SW,simprocAttr,Int.cast_ofNat_Int,small,resV, B25,R25,N25,b25, c81,l1,l2,l3,e1,e2,k3,e3,Bool.false_and]
 | true =>
 simp (maxDischargeDepth:=8) only [↓SD,SU,SV,SW,simprocAttr,Int.cast_ofNat_Int,small,resV, B25,R25,N25,b25, c81,l1,l2,l3,e1,e2,k3,e3,Bool.false_and]
 refine loop_ind (G:=(·=_)) (fun j σ=>∃T,σ=⟨T,sset [] 1 (1,.cells [.slice da dl dk,.slice wa wl wk,.slice ca cl ck]),[],H',(H').length,86,false⟩∧get T 1=.pointer (some ⟨1,0,some 1⟩)∧get T 3=.int .i64 (j:Nat)∧((s.dry.drop j).all spanOk=s.dry.all spanOk)) (dl) ?_ ?_ 0 _ (Nat.zero_le _) ⟨_,rfl,rfl,rfl,by simp⟩
 ·rintro c' j s hj ⟨T,rfl,t1,t3,hp⟩ ih
  obtain ⟨b,off,x,rfl,hx,_,f1,f2⟩:=hD.s2 hj
  have hw:=wrap_succ j (by omega)
  rw [drop_cons hx,List.all_cons,spanOk] at hp
  cases q1:inL x.1 0 24 with
  | false =>
   rw [q1,Bool.false_and,Bool.false_and] at hp
   simp (maxDischargeDepth:=8) only [↓SD,SU,SV,SW,simprocAttr,Int.cast_ofNat_Int,small,resV, q25x1,t1,t3, lt_nat,hj,l1,l2,l3,f1,f2,hg,c81,q1,R25,N25,←hp,Bool.false_and]
  | true =>
   cases q2:inL x.2 x.1 24 with
   | false =>
    rw [q1,q2,Bool.true_and,Bool.false_and] at hp
    simp (maxDischargeDepth:=8) only [↓SD,SU,SV,SW,simprocAttr,Int.cast_ofNat_Int,small,resV, q25x1,t1,t3, lt_nat,hj,l1,l2,l3,f1,f2,hg,c81,q1,q2,R25,N25,←hp,Bool.false_and]
   | true =>
    rw [q1,q2,Bool.true_and,Bool.true_and] at hp
    simp (maxDischargeDepth:=8) only [↓SD,SU,SV,SW,simprocAttr,Int.cast_ofNat_Int,small,resV, q25x1,t1,t3, lt_nat,hj,l1,l2,l3,f1,f2,hg,c81,q1,q2,hw]
    exact ih _ ⟨_,rfl,(by simp [get_set,t1] <;> omega),(by simp [get_set,t3] <;> omega),hp⟩
 ·rintro c' s ⟨T,rfl,t1,t3,hp⟩
  rw [drop_all hs.d.len] at hp
  rw [←hp]
  simp (maxDischargeDepth:=8) only [↓SD,SU,SV,SW,simprocAttr,Int.cast_ofNat_Int,small,resV, q25x1,t1,t3, lt_nat,Nat.lt_irrefl,l1,List.all_nil,Bool.true_and]
  refine loop_ind (G:=(·=_)) (fun j σ=>∃T,σ=⟨T,sset [] 1 (1,.cells [.slice da dl dk,.slice wa wl wk,.slice ca cl ck]),[],H',(H').length,86,false⟩∧get T 1=.pointer (some ⟨1,0,some 1⟩)∧get T 4=.int .i64 (j:Nat)∧((s.coats.drop j).all coatOk=s.coats.all coatOk)) (cl) ?_ ?_ 0 _ (Nat.zero_le _) ⟨_,rfl,(by first | rfl | simp [get_set,t1,t3]),(by first | rfl | simp [get_set,t1,t3]),by simp⟩
  ·rintro c' j s hj ⟨T,rfl,t1,t4,hp⟩ ih
   obtain ⟨b,off,x,rfl,hx,_,f1,f2⟩:=hC.s2 hj
   have hw:=wrap_succ j (by omega)
   rw [drop_cons hx,List.all_cons,coatOk] at hp
   cases q1:inL x.1 1 288 with
   | false =>
    rw [q1,Bool.false_and,Bool.false_and] at hp
    simp (maxDischargeDepth:=8) only [↓SD,SU,SV,SW,simprocAttr,Int.cast_ofNat_Int,small,resV, q25x0,t1,t4, lt_nat,hj,l1,l2,l3,f1,f2,hg,c81,q1,R25,N25,←hp,Bool.false_and]
   | true =>
    cases q2:inL x.2 x.1 400 with
    | false =>
     rw [q1,q2,Bool.true_and,Bool.false_and] at hp
     simp (maxDischargeDepth:=8) only [↓SD,SU,SV,SW,simprocAttr,Int.cast_ofNat_Int,small,resV, q25x0,t1,t4, lt_nat,hj,l1,l2,l3,f1,f2,hg,c81,q1,q2,R25,N25,←hp,Bool.false_and]
    | true =>
     rw [q1,q2,Bool.true_and,Bool.true_and] at hp
     simp (maxDischargeDepth:=8) only [↓SD,SU,SV,SW,simprocAttr,Int.cast_ofNat_Int,small,resV, q25x0,t1,t4, lt_nat,hj,l1,l2,l3,f1,f2,hg,c81,q1,q2,hw]
     exact ih _ ⟨_,rfl,(by simp [get_set,t1] <;> omega),(by simp [get_set,t4] <;> omega),hp⟩
  ·rintro c' s ⟨T,rfl,t1,t4,hp⟩
   rw [drop_all hs.c.len] at hp
   simp (maxDischargeDepth:=8) only [↓SD,SU,SV,SW,simprocAttr,Int.cast_ofNat_Int,small,resV, q25x0,t1,t4, lt_nat,Nat.lt_irrefl,l3,List.all_nil,R25,N25,←hp]
end Go.Pi.L.Coa
set_option maxRecDepth 100000
namespace Go.Pi.L.Coa
open Go Go.Pi Go.Pi.L Go.Pi.Coa CM

end Go.Pi.L.Coa
