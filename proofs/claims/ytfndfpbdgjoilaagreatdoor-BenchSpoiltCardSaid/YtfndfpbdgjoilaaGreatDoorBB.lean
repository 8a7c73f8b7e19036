/- Benches, as plain lists: what benches and plans are; when strokes begin and end. -/
set_option linter.all false
namespace BM

structure Stroke where
 board:Int
 round:Bool
 lo:Int
 hi:Int
 needs:List Int
structure Bench where
 app:Int
 boards:List Int
 strokes:List Stroke
def inL (x lo hi:Int):Bool:=decide (lo≤x)&&decide (x≤hi)
theorem inL_iff {x lo hi:Int}:inL x lo hi=true↔lo≤x∧x≤hi:=by simp [inL]
def rises:List Int→Bool
 | a :: b :: l=>decide (a < b)&&rises (b :: l)
 | _=>true
def strokeOk (nb:Nat)(m:Nat)(s:Stroke):Bool :=
 (rises s.needs&&s.needs.all fun n=>inL n 0 ((m:Int) - 1))&&(inL s.board 0 ((nb:Int) - 1)&&(inL s.lo 1 6&&inL s.hi s.lo 6))
def strokesOk (nb:Nat):Nat→List Stroke→Bool
 | _,[]=>true
 | m,s :: l=>strokeOk nb m s&&strokesOk nb (m+1) l
def isBench (b:Bench):Bool :=
 inL b.app 0 3&&(inL b.boards.length 1 3&&(inL b.strokes.length 1 6&&(strokesOk b.boards.length 0 b.strokes&&b.boards.all fun n=>inL n 0 60)))
section
variable (F:Nat→Nat→Bool) (dur:Nat→Int)
def bg (es:List Int)(n:Nat):Int:=(List.range n).foldl (fun m k=>if F k n=true then max m (es.getD k 0) else m) 0
def esL:Nat→List Int
 | 0=>[]
 | n+1=>esL n++[bg F (esL n) n+dur n]
def bN (n:Nat):Int:=bg F (esL F dur n) n
def eN (n:Nat):Int:=bN F dur n+dur n
theorem esL_len:∀n,(esL F dur n).length=n
 | 0=>rfl
 | n+1=>by simp [esL,esL_len n]
theorem esL_get:∀{n k:Nat},k < n→(esL F dur n)[k]?=some (eN F dur k)
 | 0,_,h=>by omega
 | n+1,k,h=>by
  simp only [esL]
  by_cases hk:k < n
  ·rw [List.getElem?_append_left (by rw [esL_len]; exact hk)]; exact esL_get hk
  ·obtain rfl:k=n:=by omega
   rw [List.getElem?_append_right (by rw [esL_len]; exact Nat.le_refl _),esL_len,Nat.sub_self]
   rfl
theorem fold_max (p:Nat→Bool)(v:Nat→Int):∀(n:Nat) (m0:Int),m0≤(List.range n).foldl (fun m k=>if p k=true then max m (v k) else m) m0 ∧
  (∀k,k < n→p k=true→v k≤(List.range n).foldl (fun m k=>if p k=true then max m (v k) else m) m0) ∧
  ((List.range n).foldl (fun m k=>if p k=true then max m (v k) else m) m0=m0∨∃k,k < n∧p k=true∧(List.range n).foldl (fun m k=>if p k=true then max m (v k) else m) m0=v k):=by
 intro n m0
 induction n with
 | zero=>exact ⟨Int.le_refl _,fun k h=>by omega,.inl rfl⟩
 | succ n ih =>
  obtain ⟨h1,h2,h3⟩:=ih
  rw [List.range_succ,List.foldl_append,List.foldl_cons,List.foldl_nil]
  generalize (List.range n).foldl (fun m k=>if p k=true then max m (v k) else m) m0=m at *
  by_cases hp:p n=true
  ·rw [if_pos hp]
   refine ⟨by omega,fun k hk hpk=>?_,?_⟩
   ·by_cases hkn:k < n
    ·have:=h2 k hkn hpk; omega
    ·obtain rfl:k=n:=by omega
     omega
   ·by_cases hm:m≤v n
    ·exact .inr ⟨n,by omega,hp,by omega⟩
    ·rcases h3 with h3 | ⟨k,a,b,c⟩
     ·exact .inl (by omega)
     ·exact .inr ⟨k,by omega,b,by omega⟩
  ·rw [if_neg hp]
   refine ⟨h1,fun k hk hpk=>?_,?_⟩
   ·by_cases hkn:k < n
    ·exact h2 k hkn hpk
    ·obtain rfl:k=n:=by omega
     exact absurd hpk hp
   ·rcases h3 with h3 | ⟨k,a,b,c⟩
    ·exact .inl h3
    ·exact .inr ⟨k,by omega,b,c⟩
structure Begins (n:Nat)(x:Int):Prop where
 pos:0≤x
 ge:∀k,k < n→F k n=true→eN F dur k≤x
 eq:x=0∨∃k,k < n∧F k n=true∧x=eN F dur k
theorem bN_begins (n:Nat):Begins F dur n (bN F dur n):=by
 have key:bN F dur n=(List.range n).foldl (fun m k=>if F k n=true then max m (eN F dur k) else m) 0:=by
  unfold bN bg
  have:∀(l:List Nat) (m0:Int),(∀k∈l,k < n)→l.foldl (fun m k=>if F k n=true then max m ((esL F dur n).getD k 0) else m) m0=l.foldl (fun m k=>if F k n=true then max m (eN F dur k) else m) m0:=by
   intro l
   induction l with
   | nil=>intros; rfl
   | cons k l ih =>
    intro m0 h
    simp only [List.foldl_cons]
    rw [List.getD_eq_getElem?_getD,esL_get F dur (h k (List.mem_cons_self ..)),Option.getD_some]
    exact ih _ fun j hj=>h j (List.mem_cons_of_mem _ hj)
  exact this _ _ fun k hk=>List.mem_range.1 hk
 obtain ⟨h1,h2,h3⟩:=fold_max (fun k=>F k n) (fun k=>eN F dur k) n 0
 rw [←key] at h1 h2 h3
 exact ⟨h1,h2,h3⟩
theorem Begins.one {n:Nat}{x y:Int}(hx:Begins F dur n x)(hy:Begins F dur n y):x=y:=by
 rcases hx.eq with h | ⟨k,a,b,c⟩
 ·rcases hy.eq with h' | ⟨k,a,b,c⟩
  ·omega
  ·have:=hx.ge k a b; have:=hy.pos; omega
 ·have h1:=hy.ge k a b
  rcases hy.eq with h' | ⟨k',a',b',c'⟩
  ·have:=hx.pos; omega
  ·have:=hx.ge k' a' b'; omega
end

def follows (b:Bench)(plan:List Int)(k n:Nat):Bool:=decide (plan.getD k 0=plan.getD n 0)||(match b.strokes[n]? with | some s=>s.needs.any fun x=>decide (x=(k:Int)) | none=>false)
def low (b:Bench)(n:Nat):Int:=match b.strokes[n]? with | some s=>s.lo | none=>1
def high (b:Bench)(n:Nat):Int:=match b.strokes[n]? with | some s=>s.hi | none=>1
end BM
namespace BM
section
variable {F F':Nat→Nat→Bool} {dur dur':Nat→Int}
end

end BM
namespace BM
section
variable (F:Nat→Nat→Bool) (dur:Nat→Int) (all:Int) (N:Nat)
def okC:Int→Option Nat→List Nat→Bool
 | a,_,[]=>decide (a=all)
 | a,prev,x :: l=>(decide (bN F dur x=a)&&(match prev with | some k=>F k x | none=>true))&&okC (eN F dur x) (some x) l
end
section
variable {F:Nat→Nat→Bool} {dur:Nat→Int} {all:Int} {N:Nat}
theorem back (hd:∀n,1≤dur n):∀(n:Nat),∃l:List Nat,(∀(a:Int) (t:List Nat),okC F dur all a none (l++n :: t)=true↔a=0∧okC F dur all (eN F dur n) (some n) t=true)∧(∀x∈l,x < n)∧l.Pairwise (· < ·):=by
 intro n
 induction n using Nat.strongRecOn with
 | ind n ih =>
  rcases (bN_begins F dur n).eq with h | ⟨k,hk,hF,he⟩
  ·refine ⟨[],fun a t=>?_,fun x h=>by (cases h),List.Pairwise.nil⟩
   simp only [List.nil_append,okC,h,Bool.and_true,Bool.and_eq_true,decide_eq_true_eq]
   exact ⟨fun ⟨h1,h2⟩=>⟨h1.symm,h2⟩,fun ⟨h1,h2⟩=>⟨h1.symm,h2⟩⟩
  ·obtain ⟨l,h1,h2,h3⟩:=ih k hk
   refine ⟨l++[k],fun a t=>?_,fun x hx=>?_,?_⟩
   ·rw [List.append_assoc,List.singleton_append,h1]
    simp only [okC,he,decide_true,hF,Bool.and_self,Bool.true_and]
   ·rcases List.mem_append.1 hx with hx | hx
    ·have:=h2 x hx; omega
    ·rw [List.mem_singleton.1 hx]; exact hk
   ·rw [List.pairwise_append]
    exact ⟨h3,List.pairwise_singleton _ _,fun x hx y hy=>by rw [List.mem_singleton.1 hy]; exact h2 x hx⟩
end
end BM
namespace BM
section
variable (F:Nat→Nat→Bool) (dur:Nat→Int)
end
section
variable {F F':Nat→Nat→Bool} {dur dur':Nat→Int} {N:Nat}
end
end BM
namespace BM
section
variable {α:Type} (T:α→Int)
end
end BM
namespace BM
section
variable {α:Type} (T:α→Int)
end
section
variable {F:Nat→Nat→Bool} {dur:Nat→Int}
end
end BM
namespace BM
section
variable (F:Nat→Nat→Bool) (dur:Nat→Int) (N:Nat)
def begun (now i j:Nat):Bool:=decide (bN F dur j < now)||(decide (bN F dur j=now)&&decide (j < i))
def hb (now i:Nat):List Int:=(List.range N).map fun j=>if begun F dur now i j=true then bN F dur j else -1
end
section
variable {F:Nat→Nat→Bool} {dur:Nat→Int} {N:Nat}
end
end BM
namespace BM
section
variable {F:Nat→Nat→Bool} {dur:Nat→Int} {all:Int} {N:Nat}
end
end BM
namespace BM
theorem strokes_at {nb:Nat}:∀{l:List Stroke} {m i:Nat} {s:Stroke},strokesOk nb m l=true→l[i]?=some s→strokeOk nb (m+i) s=true
 | [],_,_,_,_,h=>by simp at h
 | x :: l,m,0,s,h,hi=>by
  simp only [strokesOk,Bool.and_eq_true] at h
  simp only [List.getElem?_cons_zero,Option.some.injEq] at hi
  subst hi; exact h.1
 | x :: l,m,i+1,s,h,hi=>by
  simp only [strokesOk,Bool.and_eq_true] at h
  simp only [List.getElem?_cons_succ] at hi
  have:=strokes_at h.2 hi
  rw [show m+(i+1)=m+1+i by omega]; exact this
theorem rises_pair:∀{l:List Int},rises l=true→l.Pairwise (· < ·)
 | [],_=>List.Pairwise.nil
 | [_],_=>List.pairwise_singleton _ _
 | a :: b :: l,h=>by
  simp only [rises,Bool.and_eq_true,decide_eq_true_eq] at h
  have ih:=rises_pair h.2
  obtain ⟨h1,h2⟩:=List.pairwise_cons.1 ih
  refine List.pairwise_cons.2 ⟨fun x hx=>?_,ih⟩
  rcases List.mem_cons.1 hx with rfl | hx
  ·exact h.1
  ·have:=h1 x hx; omega
structure Fine (b:Bench):Prop where
 a0:0≤b.app
 a3:b.app≤3
 b1:1≤b.boards.length
 b3:b.boards.length≤3
 n1:1≤b.strokes.length
 n6:b.strokes.length≤6
 due:∀x∈b.boards,0≤x∧x≤60
 needs:∀(n:Nat) s,b.strokes[n]?=some s→∃nd:List Nat,s.needs=nd.map (fun k:Nat=>(k:Int))∧(∀k∈nd,k < n)∧nd.Pairwise (· < ·)
 board:∀(n:Nat) s,b.strokes[n]?=some s→0≤s.board∧s.board < b.boards.length
 hours:∀(n:Nat) s,b.strokes[n]?=some s→1≤s.lo∧s.lo≤s.hi∧s.hi≤6
theorem fine_of {b:Bench}(h:isBench b=true):Fine b:=by
 simp only [isBench,Bool.and_eq_true,inL_iff,List.all_eq_true] at h
 obtain ⟨h1,h2,h3,h4,h5⟩:=h
 have at_:∀(n:Nat) s,b.strokes[n]?=some s→strokeOk b.boards.length n s=true:=fun n s hs=>by
  have:=strokes_at h4 hs
  rw [Nat.zero_add] at this; exact this
 refine ⟨h1.1,h1.2,by omega,by omega,by omega,by omega,h5,fun n s hs=>?_,fun n s hs=>?_,fun n s hs=>?_⟩
 ·have:=at_ n s hs
  simp only [strokeOk,Bool.and_eq_true,inL_iff,List.all_eq_true] at this
  obtain ⟨⟨k1,k2⟩,_⟩:=this
  refine ⟨s.needs.map Int.toNat,?_,fun k hk=>?_,?_⟩
  ·rw [List.map_map]
   conv=>lhs; rw [←List.map_id s.needs]
   refine List.map_congr_left fun x hx=>?_
   have:=k2 x hx
   show x=((x.toNat:Nat):Int)
   omega
  ·obtain ⟨x,hx,rfl⟩:=List.mem_map.1 hk
   have:=k2 x hx; omega
  ·rw [List.pairwise_map]
   exact (rises_pair k1).imp_of_mem fun {a c} ha hc hac=>by have:=k2 a ha; have:=k2 c hc; omega
 ·have:=at_ n s hs
  simp only [strokeOk,Bool.and_eq_true,inL_iff,List.all_eq_true] at this
  obtain ⟨_,k,_⟩:=this
  omega
 ·have:=at_ n s hs
  simp only [strokeOk,Bool.and_eq_true,inL_iff,List.all_eq_true] at this
  obtain ⟨_,_,k⟩:=this
  omega
theorem Fine.dur {b:Bench}(h:Fine b)(n:Nat):1≤low b n∧low b n≤high b n∧high b n≤6:=by
 unfold low high
 cases hs:b.strokes[n]? with
 | none=>simp
 | some s=>exact h.hours n s hs
end BM
