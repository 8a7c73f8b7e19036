/- The first of the best ones; fewer hours, more apprentices, other names: what that does to plans. -/
import Derived.Test.YtjgmlngcknehhaaGreatBMa
set_option linter.all false
namespace BM
section
variable {α:Type} (T:α→Int)
end
section
variable {F:Nat→Nat→Bool} {dur:Nat→Int}
end
end BM
namespace BM
section
variable (F:Nat→Nat→Bool) (dur:Nat→Int) (N:Nat)
def begun (now i j:Nat):Bool:=decide (bN F dur j < now)||(decide (bN F dur j=now)&&decide (j < i))
def hb (now i:Nat):List Int:=(List.range N).map fun j=>if begun F dur now i j=true then bN F dur j else -1
end
section
variable {F:Nat→Nat→Bool} {dur:Nat→Int} {N:Nat}
end
end BM
namespace BM
section
variable {F:Nat→Nat→Bool} {dur:Nat→Int} {all:Int} {N:Nat}
end
end BM
namespace BM
theorem strokes_at {nb:Nat}:∀{l:List Stroke} {m i:Nat} {s:Stroke},strokesOk nb m l=true→l[i]?=some s→strokeOk nb (m+i) s=true
 | [],_,_,_,_,h=>by simp at h
 | x :: l,m,0,s,h,hi=>by
  simp only [strokesOk,Bool.and_eq_true] at h
  simp only [List.getElem?_cons_zero,Option.some.injEq] at hi
  subst hi; exact h.1
 | x :: l,m,i+1,s,h,hi=>by
  simp only [strokesOk,Bool.and_eq_true] at h
  simp only [List.getElem?_cons_succ] at hi
  have:=strokes_at h.2 hi
  rw [show m+(i+1)=m+1+i by omega]; exact this
theorem rises_pair:∀{l:List Int},rises l=true→l.Pairwise (· < ·)
 | [],_=>List.Pairwise.nil
 | [_],_=>List.pairwise_singleton _ _
 | a :: b :: l,h=>by
  simp only [rises,Bool.and_eq_true,decide_eq_true_eq] at h
  have ih:=rises_pair h.2
  obtain ⟨h1,h2⟩:=List.pairwise_cons.1 ih
  refine List.pairwise_cons.2 ⟨fun x hx=>?_,ih⟩
  rcases List.mem_cons.1 hx with rfl | hx
  ·exact h.1
  ·have:=h1 x hx; omega
structure Fine (b:Bench):Prop where
 a0:0≤b.app
 a3:b.app≤3
 b1:1≤b.boards.length
 b3:b.boards.length≤3
 n1:1≤b.strokes.length
 n6:b.strokes.length≤6
 due:∀x∈b.boards,0≤x∧x≤60
 needs:∀(n:Nat) s,b.strokes[n]?=some s→∃nd:List Nat,s.needs=nd.map (fun k:Nat=>(k:Int))∧(∀k∈nd,k < n)∧nd.Pairwise (· < ·)
 board:∀(n:Nat) s,b.strokes[n]?=some s→0≤s.board∧s.board < b.boards.length
 hours:∀(n:Nat) s,b.strokes[n]?=some s→1≤s.lo∧s.lo≤s.hi∧s.hi≤6
theorem fine_of {b:Bench}(h:isBench b=true):Fine b:=by
 simp only [isBench,Bool.and_eq_true,inL_iff,List.all_eq_true] at h
 obtain ⟨h1,h2,h3,h4,h5⟩:=h
 have at_:∀(n:Nat) s,b.strokes[n]?=some s→strokeOk b.boards.length n s=true:=fun n s hs=>by
  have:=strokes_at h4 hs
  rw [Nat.zero_add] at this; exact this
 refine ⟨h1.1,h1.2,by omega,by omega,by omega,by omega,h5,fun n s hs=>?_,fun n s hs=>?_,fun n s hs=>?_⟩
 ·have:=at_ n s hs
  simp only [strokeOk,Bool.and_eq_true,inL_iff,List.all_eq_true] at this
  obtain ⟨⟨k1,k2⟩,_⟩:=this
  refine ⟨s.needs.map Int.toNat,?_,fun k hk=>?_,?_⟩
  ·rw [List.map_map]
   conv=>lhs; rw [←List.map_id s.needs]
   refine List.map_congr_left fun x hx=>?_
   have:=k2 x hx
   show x=((x.toNat:Nat):Int)
   omega
  ·obtain ⟨x,hx,rfl⟩:=List.mem_map.1 hk
   have:=k2 x hx; omega
  ·rw [List.pairwise_map]
   exact (rises_pair k1).imp_of_mem fun {a c} ha hc hac=>by have:=k2 a ha; have:=k2 c hc; omega
 ·have:=at_ n s hs
  simp only [strokeOk,Bool.and_eq_true,inL_iff,List.all_eq_true] at this
  obtain ⟨_,k,_⟩:=this
  omega
 ·have:=at_ n s hs
  simp only [strokeOk,Bool.and_eq_true,inL_iff,List.all_eq_true] at this
  obtain ⟨_,_,k⟩:=this
  omega
theorem Fine.dur {b:Bench}(h:Fine b)(n:Nat):1≤low b n∧low b n≤high b n∧high b n≤6:=by
 unfold low high
 cases hs:b.strokes[n]? with
 | none=>simp
 | some s=>exact h.hours n s hs
def tk (b:Bench)(p:List Int):Int:=takes (follows b p) (high b) b.strokes.length
def rounds (b:Bench):List Bool:=b.strokes.map (·.round)
def plans (b:Bench):List (List Int):=plansL b.app.toNat (rounds b)
def bests (b:Bench):List (List Int):=bestOf (tk b) (plans b)
theorem plans_ne (b:Bench):plans b≠[]:=plansL_ne _
theorem bests_ne (b:Bench):bests b≠[]:=bestOf_ne _ (plans_ne b)

end BM
