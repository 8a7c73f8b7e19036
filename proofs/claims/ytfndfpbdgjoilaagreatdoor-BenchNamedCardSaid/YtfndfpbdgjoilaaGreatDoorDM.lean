/- Benches: hours that are changed; hours to spare, as the document has them. -/
import Derived.Test.YtfndfpbdgjoilaaGreatDoorDL
import Derived.Test.YtfndfpbdgjoilaaGreatDoorDI
set_option linter.all false
set_option maxRecDepth 100000
namespace Go.Pi.L.Ben
open Go Go.Pi Go.Pi.L Go.Pi.E Go.Pi.Ben BM

end Go.Pi.L.Ben
set_option maxRecDepth 100000
namespace Go.Pi.L.Ben
open Go Go.Pi Go.Pi.L Go.Pi.E Go.Pi.Ben BM

end Go.Pi.L.Ben
set_option maxRecDepth 100000
namespace Go.Pi.L.Ben
open Go Go.Pi Go.Pi.L Go.Pi.E Go.Pi.Ben BM

def fol (b:Bench)(p:List Int)(k n:Nat):Bool:=decide (k < n)&&follows b p k n
end Go.Pi.L.Ben
set_option maxRecDepth 100000
namespace Go.Pi.L
open Go Go.Pi
section
variable {α:Type} {call:CallT} {F:Ex→St→Option α} {k:List It}
end
end Go.Pi.L
namespace Go.Pi.L.Ben
open Go Go.Pi Go.Pi.L Go.Pi.E Go.Pi.Ben BM

theorem rising_len:∀m i:Nat,(rising m i).length≤2 ^ m∧∀q∈rising m i,q.length≤m
 | 0,i=>by simp [rising]
 | m+1,i=>by
  have key:∀d,d≤m+1→((List.range d).flatMap fun d'=>(rising (m - d') (i+d'+1)).map ((i+d') :: ·)).length+2 ^ (m+1 - d)≤2 ^ (m+1):=by
   intro d
   induction d with
   | zero=>intro _; simp
   | succ d ih =>
    intro hd
    have h1:=ih (by omega)
    have h2:=(rising_len (m - d) (i+d+1)).1
    rw [List.range_succ,List.flatMap_append,List.length_append]
    simp only [List.flatMap_cons,List.flatMap_nil,List.append_nil,List.length_map]
    have e1:m+1 - d=(m - d)+1:=by omega
    have e2:m+1 - (d+1)=m - d:=by omega
    rw [e1,Nat.pow_succ] at h1
    rw [e2]
    omega
  refine ⟨?_,fun q hq=>?_⟩
  ·have:=key (m+1) (Nat.le_refl _)
   simp only [rising,List.length_cons]
   rw [Nat.sub_self,Nat.pow_zero] at this
   exact this
  ·simp only [rising,List.mem_cons,List.mem_flatMap,List.mem_map,List.mem_range] at hq
   rcases hq with rfl | ⟨d,hd,t,ht,rfl⟩
   ·simp
   ·have:=(rising_len (m - d) (i+d+1)).2 t ht
    simp only [List.length_cons]; omega
termination_by m=>m
end Go.Pi.L.Ben
set_option maxRecDepth 100000
namespace Go.Pi.L.Ben
open Go Go.Pi Go.Pi.L Go.Pi.E Go.Pi.Ben BM

abbrev dW (b:Bench):Nat→Int:=durW b (-1) 0 true
theorem chain_ex {b:Bench}(hf:Fine b)(p:List Int):∃t,chainN (follows b p) (dW b) (takesN b (en b p true)) b.strokes.length=some t∧chained (follows b p) (dW b) (takesN b (en b p true)) t=true∧t∈rising b.strokes.length 0:=by
 refine chain_some hf.n1 (fun n=>(durW_b hf (by decide) (by decide) true n).1) ?_
 obtain ⟨_,_,h3⟩:=lastH_spec ((List.range b.strokes.length).map (en b p true))
 have h1:=tk_pos hf p
 unfold takesN at h1 ⊢
 rcases h3 with h3 | h3
 ·omega
 ·obtain ⟨n,hn,e⟩:=List.mem_map.1 h3
  exact ⟨n,List.mem_range.1 hn,e⟩
end Go.Pi.L.Ben
set_option maxRecDepth 100000
namespace Go.Pi.L.Ben
open Go Go.Pi Go.Pi.L Go.Pi.E Go.Pi.Ben BM

end Go.Pi.L.Ben
set_option maxRecDepth 100000
namespace Go.Pi.L.Ben
open Go Go.Pi Go.Pi.L Go.Pi.E Go.Pi.Ben BM

theorem c47 {H:Heap}{a1 a2:Option Addr}{l1 l2 k1 k2:Nat}{xs ys:List Int}(hx:Ints H a1 l1 xs)(hy:Ints H a2 l2 ys)(h1:l1 < 1000000)(h2:l2 < 1000000) :
  ∀H',Grow H H'→R (.func 47) [.slice a1 l1 k1,.slice a2 l2 k2] H'=some ⟨.ok (.bool (bef xs ys)),H',H'.length⟩:=by
 intro H' hg
 refine run_k (pr 47) P47 (by simp [p47]) rfl ?_
 have i1:=hx.isLoc k1
 have i2:=hy.isLoc k2
 have hxl:=hx.len
 have hyl:=hy.len
 generalize hB:bef xs ys=B
 simp (maxDischargeDepth:=8) only [↓SD,SU,SV,SW,simprocAttr,Int.cast_ofNat_Int,small,resV, B47,R47,N47,b47, i1,i2]
 refine loop_ind (G:=(·=_)) (fun j σ=>∃T S,σ=⟨T,S,[],H',(H').length,41,false⟩∧get T 0=.slice a1 l1 k1∧get T 1=.slice a2 l2 k2∧get T 5=.int .i64 (j:Nat)∧(B=bef (xs.drop j) (ys.drop j))) ((min l1 l2)) ?_ ?_ 0 _ (Nat.zero_le _) ⟨_,_,rfl,rfl,rfl,rfl,hB.symm⟩
 ·rintro c' j s hj ⟨T,S,rfl,t0,t1,t5,hp⟩ ih
  have hj1:j < l1:=by omega
  have hj2:j < l2:=by omega
  obtain ⟨xb,xo,x,hxa,hxx,fx⟩:=hx.i1 (j:=j) hj1
  obtain ⟨yb,yo,y,hya,hyy,fy⟩:=hy.i1 (j:=j) hj2
  have fx1:=fx H' hg
  have fy1:=fy H' hg
  have iax:vv (.ia 1) [.slice a1 l1 k1,.int .i64 (j:Nat)]=some (.pointer (some ⟨xb,xo+j*1,none⟩)):=by rw [hxa]; exact vv_iaN 1 xb xo j _ _ _ hj1
  have iay:vv (.ia 1) [.slice a2 l2 k2,.int .i64 (j:Nat)]=some (.pointer (some ⟨yb,yo+j*1,none⟩)):=by rw [hya]; exact vv_iaN 1 yb yo j _ _ _ hj2
  have hw:=wrap_succ j (by omega)
  rw [drop_cons hxx,drop_cons hyy] at hp
  simp only [bef] at hp
  by_cases he:x=y
  ·rw [if_pos he] at hp
   simp (maxDischargeDepth:=8) only [↓SD,SU,SV,SW,simprocAttr,Int.cast_ofNat_Int,small,resV, q47x0,t0,t1,t5, lt_nat,hj1,hj2,i1,i2,iax,iay,fx1,fy1,he,hw]
   exact ih _ ⟨_,_,rfl,(by simp [get_set,t0] <;> omega),(by simp [get_set,t1] <;> omega),(by simp [get_set,t5] <;> omega),hp⟩
  ·rw [if_neg he] at hp
   rw [hp]
   simp (maxDischargeDepth:=8) only [↓SD,SU,SV,SW,simprocAttr,Int.cast_ofNat_Int,small,resV, q47x0,t0,t1,t5, lt_nat,hj1,hj2,i1,i2,iax,iay,fx1,fy1,he,R47,N47]
 ·rintro c' s ⟨T,S,rfl,t0,t1,t5,hp⟩
  by_cases hlt:l1≤l2
  ·have hm:min l1 l2=l1:=by omega
   rw [hm] at hp t5
   rw [drop_all hxl] at hp
   have hr:B=decide (l1 < l2):=by
    rw [hp]
    by_cases e:l1 < l2
    ·obtain ⟨y,hy2⟩:∃y,ys[l1]?=some y:=⟨_,List.getElem?_eq_getElem (by omega)⟩
     rw [drop_cons hy2]; simp [bef,e]
    ·rw [drop_all (by omega)]; simp [bef,e]
   simp (maxDischargeDepth:=8) only [↓SD,SU,SV,SW,simprocAttr,Int.cast_ofNat_Int,small,resV, q47x0,t0,t1,t5, lt_nat,Nat.lt_irrefl,i1,i2,R47,N47]
   rw [hr]
  ·have hm:min l1 l2=l2:=by omega
   rw [hm] at hp t5
   have h21:l2 < l1:=by omega
   have hr:B=decide (l1 < l2):=by
    rw [hp,drop_all hyl]
    have:decide (l1 < l2)=false:=decide_eq_false (by omega)
    rw [this]
    cases xs.drop l2 <;> rfl
   simp (maxDischargeDepth:=8) only [↓SD,SU,SV,SW,simprocAttr,Int.cast_ofNat_Int,small,resV, q47x0,t0,t1,t5, lt_nat,h21,Nat.lt_irrefl,i1,i2,R47,N47]
   rw [hr]
end Go.Pi.L.Ben
