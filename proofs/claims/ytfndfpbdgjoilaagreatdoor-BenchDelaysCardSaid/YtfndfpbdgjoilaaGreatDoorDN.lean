/- Benches: increasing lists, as the document has them. -/
import Derived.Test.YtfndfpbdgjoilaaGreatDoorDM
import Derived.Test.YtfndfpbdgjoilaaGreatDoorDI
set_option linter.all false
set_option maxRecDepth 100000
namespace Go.Pi.L
open Go Go.Pi
section
variable {α:Type} {call:CallT} {F:Ex→St→Option α} {k:List It}
end
end Go.Pi.L
namespace Go.Pi.L.Ben
open Go Go.Pi Go.Pi.L Go.Pi.E Go.Pi.Ben BM

theorem rising_len:∀m i:Nat,(rising m i).length≤2 ^ m∧∀q∈rising m i,q.length≤m
 | 0,i=>by simp [rising]
 | m+1,i=>by
  have key:∀d,d≤m+1→((List.range d).flatMap fun d'=>(rising (m - d') (i+d'+1)).map ((i+d') :: ·)).length+2 ^ (m+1 - d)≤2 ^ (m+1):=by
   intro d
   induction d with
   | zero=>intro _; simp
   | succ d ih =>
    intro hd
    have h1:=ih (by omega)
    have h2:=(rising_len (m - d) (i+d+1)).1
    rw [List.range_succ,List.flatMap_append,List.length_append]
    simp only [List.flatMap_cons,List.flatMap_nil,List.append_nil,List.length_map]
    have e1:m+1 - d=(m - d)+1:=by omega
    have e2:m+1 - (d+1)=m - d:=by omega
    rw [e1,Nat.pow_succ] at h1
    rw [e2]
    omega
  refine ⟨?_,fun q hq=>?_⟩
  ·have:=key (m+1) (Nat.le_refl _)
   simp only [rising,List.length_cons]
   rw [Nat.sub_self,Nat.pow_zero] at this
   exact this
  ·simp only [rising,List.mem_cons,List.mem_flatMap,List.mem_map,List.mem_range] at hq
   rcases hq with rfl | ⟨d,hd,t,ht,rfl⟩
   ·simp
   ·have:=(rising_len (m - d) (i+d+1)).2 t ht
    simp only [List.length_cons]; omega
termination_by m=>m
theorem castL_cons (k:Nat)(q:List Nat):castL (k :: q)=(k:Int) :: castL q:=rfl
end Go.Pi.L.Ben
set_option maxRecDepth 100000
namespace Go.Pi.L.Ben
open Go Go.Pi Go.Pi.L Go.Pi.E Go.Pi.Ben BM

abbrev dW (b:Bench):Nat→Int:=durW b (-1) 0 true
theorem okI_okC {b:Bench}{p:List Int}{all:Int}:∀(q:List Nat) (a:Int) (prev:Option Nat),q.Pairwise (· < ·)→(∀x∈q,x < b.strokes.length)→(∀k,prev=some k→∀x∈q,k < x) →
  okI b p all a (prev.map fun k:Nat=>(k:Int)) (castL q)=okC (follows b p) (dW b) all a prev q
 | [],a,prev,_,_,_=>rfl
 | x :: q,a,prev,hp,hl,hk=>by
  obtain ⟨h1,h2⟩:=List.pairwise_cons.1 hp
  have ih:=okI_okC (b:=b) (p:=p) (all:=all) q (en b p true x) (some x) h2 (fun y hy=>hl y (List.mem_cons_of_mem _ hy)) (fun k e y hy=>by cases e; exact h1 y hy)
  have hS:isStroke b ((x:Nat):Int)=true:=by
   have:=hl x (List.mem_cons_self ..)
   unfold isStroke; rw [inL_iff]; omega
  rw [castL_cons]
  simp only [okI,okC,hS,Bool.true_and,Int.toNat_natCast]
  rw [show (some (x:Int))=Option.map (fun k:Nat=>(k:Int)) (some x) from rfl,ih]
  cases prev with
  | none =>
   show (decide (be b p true x=a)&&(true&&_))=((decide (be b p true x=a)&&true)&&_)
   rw [Bool.true_and,Bool.and_true]; rfl
  | some k =>
   have hkx:=hk k rfl x (List.mem_cons_self ..)
   have e:fol b p ((k:Nat):Int).toNat x=follows b p k x:=by simp [fol,hkx]
   show (decide (be b p true x=a)&&(fol b p ((k:Nat):Int).toNat x&&_))=((decide (be b p true x=a)&&follows b p k x)&&_)
   rw [e,←Bool.and_assoc]; rfl
theorem chI_chained {b:Bench}{p:List Int}(hlen:p.length=b.strokes.length){q:List Nat}(hq:q∈rising b.strokes.length 0):chI b p (castL q)=chained (follows b p) (dW b) (takesN b (en b p true)) q:=by
 have hl:=(rising_len b.strokes.length 0).2 q hq
 obtain ⟨h1,h2⟩:=mem_rising.1 hq
 unfold chI chained
 have e:(castL q).length=q.length:=by simp [castL]
 rw [e,show decide (q.length≤p.length)=true from decide_eq_true (by omega),Bool.true_and]
 have:=okI_okC (b:=b) (p:=p) (all:=takesN b (en b p true)) q 0 none h1 (fun x hx=>by have:=h2 x hx; omega) (fun k h=>by cases h)
 rw [show (none:Option Int)=Option.map (fun k:Nat=>(k:Int)) none from rfl,this]
 cases q <;> simp
theorem chain_ex {b:Bench}(hf:Fine b)(p:List Int):∃t,chainN (follows b p) (dW b) (takesN b (en b p true)) b.strokes.length=some t∧chained (follows b p) (dW b) (takesN b (en b p true)) t=true∧t∈rising b.strokes.length 0:=by
 refine chain_some hf.n1 (fun n=>(durW_b hf (by decide) (by decide) true n).1) ?_
 obtain ⟨_,_,h3⟩:=lastH_spec ((List.range b.strokes.length).map (en b p true))
 have h1:=tk_pos hf p
 unfold takesN at h1 ⊢
 rcases h3 with h3 | h3
 ·omega
 ·obtain ⟨n,hn,e⟩:=List.mem_map.1 h3
  exact ⟨n,List.mem_range.1 hn,e⟩
end Go.Pi.L.Ben
set_option maxRecDepth 100000
namespace Go.Pi.L.Ben
open Go Go.Pi Go.Pi.L Go.Pi.E Go.Pi.Ben BM

end Go.Pi.L.Ben
