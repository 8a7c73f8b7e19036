/- Coats: coat.Holds. -/
import Derived.Test.YtjidjpcnocddeaaGreatDoorCC
set_option linter.all false
set_option maxRecDepth 100000
namespace Go.Pi.L.Coa
open Go Go.Pi Go.Pi.L Go.Pi.Coa CM

end Go.Pi.L.Coa
set_option maxRecDepth 100000
namespace Go.Pi.L.Coa
open Go Go.Pi Go.Pi.L Go.Pi.Coa CM

theorem c23 (H:Heap):R (.func 23) [] H=some ⟨.ok (.bool true),H,H.length⟩:=runL_prim (by rfl) rfl
def isShort (r:ShR):Bool:=decide (r.dl≤14)&&(decide (r.wl≤16)&&decide (r.cl≤7))
theorem c22 {H:Heap}{r:ShR}{s:Sheet}(hs:ShOk H r s):∀H',R (.func 22) [.agg #[.slice r.da r.dl r.dk,.slice r.wa r.wl r.wk,.slice r.ca r.cl r.ck]] H'=some ⟨.ok (.bool (isShort r)),H',H'.length⟩:=by
 intro H'
 refine run_k (pr 22) P22 (by simp [p22]) rfl ?_
 have z1:((r.dl:Int)≤14)=(r.dl≤14):=propext (by omega)
 have z2:((r.wl:Int)≤16)=(r.wl≤16):=propext (by omega)
 have z3:((r.cl:Int)≤7)=(r.cl≤7):=propext (by omega)
 unfold isShort
 cases e1:decide (r.dl≤14) with
 | false=>simp (maxDischargeDepth:=8) only [↓SD,SU,SV,SW,simprocAttr,Int.cast_ofNat_Int,small,resV, B22,R22,N22,b22, hs.d.isLoc,hs.w.isLoc,hs.c.isLoc,z1,z2,z3,Bool.false_and,e1]
 | true =>
  cases e2:decide (r.wl≤16) with
  | false=>simp (maxDischargeDepth:=8) only [↓SD,SU,SV,SW,simprocAttr,Int.cast_ofNat_Int,small,resV, B22,R22,N22,b22, hs.d.isLoc,hs.w.isLoc,hs.c.isLoc,z1,z2,z3,Bool.false_and,e1,e2]
  | true =>
   simp (maxDischargeDepth:=8) only [↓SD,SU,SV,SW,simprocAttr,Int.cast_ofNat_Int,small,resV, B22,R22,N22,b22, hs.d.isLoc,hs.w.isLoc,hs.c.isLoc,z1,z2,z3,Bool.false_and,e1,e2]
theorem short_small {r:ShR}(h:isShort r=true):Small r:=by
 simp only [isShort,Bool.and_eq_true,decide_eq_true_eq] at h
 exact ⟨by omega,by omega,by omega⟩

end Go.Pi.L.Coa
set_option maxRecDepth 100000
namespace Go.Pi.L.Coa
open Go Go.Pi Go.Pi.L Go.Pi.Coa CM

def same:List Int→List Int→Bool
 | [],[]=>true
 | x :: xs,y :: ys=>decide (x=y)&&same xs ys
 | _,_=>false
theorem same_iff:∀{xs ys:List Int},same xs ys=true↔xs=ys
 | [],[]=>by simp [same]
 | [],y :: ys=>by simp [same]
 | x :: xs,[]=>by simp [same]
 | x :: xs,y :: ys=>by simp [same,same_iff (xs:=xs) (ys:=ys)]
theorem same_len:∀{xs ys:List Int},xs.length≠ys.length→same xs ys=false
 | [],[],h=>absurd rfl h
 | [],y :: ys,_=>rfl
 | x :: xs,[],_=>rfl
 | x :: xs,y :: ys,h=>by simp only [same]; rw [same_len (by simpa using h)]; simp
theorem c35p {prims:Prims}(h35:prims 35=none){H:Heap}{a b:Option Addr}{l m kk km:Nat}{xs ys:List Int}(hx:Ints H a l xs)(hy:Ints H b m ys)(hl:l < 1000000) :
  ∀H',Grow H H'→runL PP prims (.func 35) [.slice a l kk,.slice b m km] H'=some ⟨.ok (.bool (same xs ys)),H',H'.length⟩:=by
 intro H' hg
 refine run_k h35 P35 (by simp [p35]) rfl ?_
 have l1:=hx.isLoc kk
 have l2:=hy.isLoc km
 by_cases hlm:l=m
 case neg =>
  rw [same_len (by rw [hx.len,hy.len]; exact hlm)]
  simp (maxDischargeDepth:=8) only [↓SD,SU,SV,SW,simprocAttr,Int.cast_ofNat_Int,small,resV, B35,R35,N35,b35, l1,l2,eq_nat,hlm]
 subst hlm
 simp (maxDischargeDepth:=8) only [↓SD,SU,SV,SW,simprocAttr,Int.cast_ofNat_Int,small,resV, B35,R35,N35,b35, l1,l2,eq_nat]
 refine loop_ind (G:=(·=_)) (fun j σ=>∃T,σ=⟨T,[],[],H',(H').length,26,false⟩∧get T 0=.slice a l kk∧get T 1=.slice b l km∧get T 5=.int .i64 (j:Nat)∧(same (xs.drop j) (ys.drop j)=same xs ys)) (l) ?_ ?_ 0 _ (Nat.zero_le _) ⟨_,rfl,rfl,rfl,rfl,by simp⟩
 ·rintro c' j s hj ⟨T,rfl,t0,t1,t5,hp⟩ ih
  obtain ⟨b1,o1,x,rfl,hx',e1⟩:=hx.i1 hj
  obtain ⟨b2,o2,y,rfl,hy',e2⟩:=hy.i1 hj
  have hw:=wrap_succ j (by omega)
  rw [drop_cons hx',drop_cons hy',same] at hp
  by_cases hpx:x=y
  ·rw [show decide (x=y)=true by simpa using hpx,Bool.true_and] at hp
   simp (maxDischargeDepth:=8) only [↓SD,SU,SV,SW,simprocAttr,Int.cast_ofNat_Int,small,resV, q35x0,t0,t1,t5, lt_nat,hj,l1,l2,e1,e2,hg,R35,N35,hpx,hw]
   exact ih _ ⟨_,rfl,(by simp [get_set,t0] <;> omega),(by simp [get_set,t1] <;> omega),(by simp [get_set,t5] <;> omega),hp⟩
  ·rw [show decide (x=y)=false by simpa using hpx,Bool.false_and] at hp
   simp (maxDischargeDepth:=8) only [↓SD,SU,SV,SW,simprocAttr,Int.cast_ofNat_Int,small,resV, q35x0,t0,t1,t5, lt_nat,hj,l1,l2,e1,e2,hg,R35,N35,hpx,←hp]
 ·rintro c' s ⟨T,rfl,t0,t1,t5,hp⟩
  rw [drop_all hx.len,drop_all hy.len] at hp
  replace hp:true=same xs ys:=hp
  simp (maxDischargeDepth:=8) only [↓SD,SU,SV,SW,simprocAttr,Int.cast_ofNat_Int,small,resV, q35x0,t0,t1,t5, lt_nat,Nat.lt_irrefl,l1,l2,R35,N35,←hp]
theorem c35 {H:Heap}{a b:Option Addr}{l m kk km:Nat}{xs ys:List Int}(hx:Ints H a l xs)(hy:Ints H b m ys)(hl:l < 1000000) :
  ∀H',Grow H H'→R (.func 35) [.slice a l kk,.slice b m km] H'=some ⟨.ok (.bool (same xs ys)),H',H'.length⟩:=c35p (pr 35) hx hy hl
theorem Sl.of_cells {β:Type}{enc:β→List Value}{H:Heap}{k b:Nat}{xs:List β}(hk:∀x,(enc x).length=k)(h:hcells H b=some (cells enc xs)):Sl H k enc (some ⟨b,0,none⟩) xs.length xs :=
 ⟨rfl,.inr ⟨_,_,rfl⟩,fun j x hx=>⟨b,0,cells enc xs,rfl,h,by rw [Nat.zero_add]; exact cells_get hk hx⟩⟩
theorem app_old {H l:Heap}{i:Nat}{b:Blk}(h:H[i]?=some b):(H++l)[i]?=some b:=by
 rw [List.getElem?_append_left (List.getElem?_eq_some_iff.1 h).1]; exact h
theorem app_new {H:Heap}{n:Nat}{b:Blk}(h:H.length=n):(H++[b])[n]?=some b:=by subst h; simp
end Go.Pi.L.Coa
