/- Benches: lists that are the same; the specification's Done, Late, Waits. -/
import Derived.Test.YtfndfpbdgjoilaaGreatDoorDD
set_option linter.all false
set_option maxRecDepth 100000
namespace Go.Pi.L
open Go Go.Pi
end Go.Pi.L
namespace Go.Pi.L.Ben
open Go Go.Pi Go.Pi.L Go.Pi.E Go.Pi.Ben BM

theorem dec_cons {β:Type}[DecidableEq β]{xs ys:List β}{j:Nat}{x y:β}(hx:xs[j]?=some x)(hy:ys[j]?=some y):decide (xs.drop j=ys.drop j)=(decide (x=y)&&decide (xs.drop (j+1)=ys.drop (j+1))):=by
 rw [drop_cons hx,drop_cons hy]
 by_cases h:x=y <;> simp [h]
theorem c37 {H:Heap}{a1 a2:Option Addr}{l1 l2 m1 m2:Nat}{xs ys:List Int}(h1:Ints H a1 l1 xs)(h2:Ints H a2 l2 ys)(hl:l1 < 1000000) :
  ∀H',Grow H H'→R (.func 37) [.slice a1 l1 m1,.slice a2 l2 m2] H'=some ⟨.ok (.bool (decide (xs=ys))),H',H'.length⟩:=by
 intro H' hg
 refine run_k (pr 37) P37 (by simp [p37]) rfl ?_
 have i1:=h1.isLoc m1
 have i2:=h2.isLoc m2
 by_cases hll:l1=l2
 case neg =>
  have:¬xs=ys:=fun e=>hll (by rw [←h1.len,←h2.len,e])
  simp (maxDischargeDepth:=8) only [↓SD,SU,SV,SW,simprocAttr,Int.cast_ofNat_Int,small,resV, B37,R37,N37,b37, i1,i2,eq_nat,hll,this,R37,N37]
 subst hll
 simp (maxDischargeDepth:=8) only [↓SD,SU,SV,SW,simprocAttr,Int.cast_ofNat_Int,small,resV, B37,R37,N37,b37, i1,i2,eq_nat]
 refine loop_ind (G:=(·=_)) (fun j σ=>∃T,σ=⟨T,[],[],H',(H').length,26,false⟩∧get T 0=.slice a1 l1 m1∧get T 1=.slice a2 l1 m2∧get T 5=.int .i64 (j:Nat)∧(decide (xs.drop j=ys.drop j)=decide (xs=ys))) (l1) ?_ ?_ 0 _ (Nat.zero_le _) ⟨_,rfl,rfl,rfl,rfl,rfl⟩
 ·rintro c' j s hj ⟨T,rfl,t0,t1,t5,hp⟩ ih
  obtain ⟨b1,o1,x,hx1,hx,e1⟩:=h1.i1 hj
  obtain ⟨b2,o2,y,hy1,hy,e2⟩:=h2.i1 hj
  have e1:=e1 H' hg
  have e2:=e2 H' hg
  have hw:=wrap_succ j (by omega)
  rw [dec_cons hx hy] at hp
  by_cases q:x=y
  ·subst q
   simp only [decide_true,Bool.true_and] at hp
   simp (maxDischargeDepth:=8) only [↓SD,SU,SV,SW,simprocAttr,Int.cast_ofNat_Int,small,resV, q37x0,t0,t1,t5, lt_nat,hj,i1,i2,hx1,hy1,e1,e2,hw]
   exact ih _ ⟨_,rfl,(by simp [get_set,t0] <;> omega),(by simp [get_set,t1] <;> omega),(by simp [get_set,t5] <;> omega),hp⟩
  ·simp only [q,decide_false,Bool.false_and] at hp
   simp (maxDischargeDepth:=8) only [↓SD,SU,SV,SW,simprocAttr,Int.cast_ofNat_Int,small,resV, q37x0,t0,t1,t5, lt_nat,hj,i1,i2,hx1,hy1,e1,e2,q,R37,N37,←hp]
 ·rintro c' s ⟨T,rfl,t0,t1,t5,hp⟩
  rw [drop_all h1.len,drop_all h2.len] at hp
  have hp:decide (xs=ys)=true:=by rw [←hp]; rfl
  simp (maxDischargeDepth:=8) only [↓SD,SU,SV,SW,simprocAttr,Int.cast_ofNat_Int,small,resV, q37x0,t0,t1,t5, lt_nat,Nat.lt_irrefl,i1,i2,R37,N37,hp]
theorem _root_.Go.Pi.L.Sl.p2 {H:Heap}{a:Option Addr}{l:Nat}{xs:List (Int×Int)}(h:Sl H 2 encP a l xs){j:Nat}(hj:j < l) :
  ∃b off x,a=some ⟨b,off,none⟩∧xs[j]?=some x∧(∀H',Grow H H'→rdO (hcells H' b) (off+j*2) (some 2)=some (.agg #[.int .i64 x.1,.int .i64 x.2])) ∧
   (∀H',Grow H H'→rdO (hcells H' b) (off+j*2) none=some (.int .i64 x.1))∧(∀H',Grow H H'→rdO (hcells H' b) (off+j*2+1) none=some (.int .i64 x.2)):=by
 obtain ⟨b,off,x,h1,h2,h3⟩:=h.at encP_len (by decide) hj
 exact ⟨b,off,x,h1,h2,h3.all,At.v0 h3,At.v1 h3⟩
end Go.Pi.L.Ben
set_option maxRecDepth 100000
namespace Go.Pi.L.Ben
open Go Go.Pi Go.Pi.L Go.Pi.E Go.Pi.Ben BM

end Go.Pi.L.Ben
set_option maxRecDepth 100000
namespace Go.Pi.L
open Go Go.Pi
end Go.Pi.L
namespace Go.Pi.L.Ben
open Go Go.Pi Go.Pi.L Go.Pi.E Go.Pi.Ben BM

theorem c25 (H:Heap):R (.func 25) [] H=some ⟨.ok (.bool true),H,H.length⟩:=runL_prim (by rfl) rfl
end Go.Pi.L.Ben
