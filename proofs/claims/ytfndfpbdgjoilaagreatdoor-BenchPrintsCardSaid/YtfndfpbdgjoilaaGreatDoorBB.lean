/- Benches, as plain lists: what benches and plans are; when strokes begin and end. -/
set_option linter.all false
namespace BM

structure Stroke where
 board:Int
 round:Bool
 lo:Int
 hi:Int
 needs:List Int
structure Bench where
 app:Int
 boards:List Int
 strokes:List Stroke
def inL (x lo hi:Int):Bool:=decide (lo≤x)&&decide (x≤hi)
theorem inL_iff {x lo hi:Int}:inL x lo hi=true↔lo≤x∧x≤hi:=by simp [inL]
def rises:List Int→Bool
 | a :: b :: l=>decide (a < b)&&rises (b :: l)
 | _=>true
def strokeOk (nb:Nat)(m:Nat)(s:Stroke):Bool :=
 (rises s.needs&&s.needs.all fun n=>inL n 0 ((m:Int) - 1))&&(inL s.board 0 ((nb:Int) - 1)&&(inL s.lo 1 6&&inL s.hi s.lo 6))
def strokesOk (nb:Nat):Nat→List Stroke→Bool
 | _,[]=>true
 | m,s :: l=>strokeOk nb m s&&strokesOk nb (m+1) l
def isBench (b:Bench):Bool :=
 inL b.app 0 3&&(inL b.boards.length 1 3&&(inL b.strokes.length 1 6&&(strokesOk b.boards.length 0 b.strokes&&b.boards.all fun n=>inL n 0 60)))
def handsOk (app:Int):List Stroke→List Int→Bool
 | s :: l,h :: p=>(inL h 0 app&&!(s.round&&decide (h≠0)))&&handsOk app l p
 | _,_=>true
def isPlan (b:Bench)(p:List Int):Bool:=decide (p.length=b.strokes.length)&&handsOk b.app b.strokes p
section
variable (F:Nat→Nat→Bool) (dur:Nat→Int)
def bg (es:List Int)(n:Nat):Int:=(List.range n).foldl (fun m k=>if F k n=true then max m (es.getD k 0) else m) 0
def esL:Nat→List Int
 | 0=>[]
 | n+1=>esL n++[bg F (esL n) n+dur n]
def bN (n:Nat):Int:=bg F (esL F dur n) n
def eN (n:Nat):Int:=bN F dur n+dur n
theorem esL_len:∀n,(esL F dur n).length=n
 | 0=>rfl
 | n+1=>by simp [esL,esL_len n]
theorem esL_get:∀{n k:Nat},k < n→(esL F dur n)[k]?=some (eN F dur k)
 | 0,_,h=>by omega
 | n+1,k,h=>by
  simp only [esL]
  by_cases hk:k < n
  ·rw [List.getElem?_append_left (by rw [esL_len]; exact hk)]; exact esL_get hk
  ·obtain rfl:k=n:=by omega
   rw [List.getElem?_append_right (by rw [esL_len]; exact Nat.le_refl _),esL_len,Nat.sub_self]
   rfl
theorem fold_max (p:Nat→Bool)(v:Nat→Int):∀(n:Nat) (m0:Int),m0≤(List.range n).foldl (fun m k=>if p k=true then max m (v k) else m) m0 ∧
  (∀k,k < n→p k=true→v k≤(List.range n).foldl (fun m k=>if p k=true then max m (v k) else m) m0) ∧
  ((List.range n).foldl (fun m k=>if p k=true then max m (v k) else m) m0=m0∨∃k,k < n∧p k=true∧(List.range n).foldl (fun m k=>if p k=true then max m (v k) else m) m0=v k):=by
 intro n m0
 induction n with
 | zero=>exact ⟨Int.le_refl _,fun k h=>by omega,.inl rfl⟩
 | succ n ih =>
  obtain ⟨h1,h2,h3⟩:=ih
  rw [List.range_succ,List.foldl_append,List.foldl_cons,List.foldl_nil]
  generalize (List.range n).foldl (fun m k=>if p k=true then max m (v k) else m) m0=m at *
  by_cases hp:p n=true
  ·rw [if_pos hp]
   refine ⟨by omega,fun k hk hpk=>?_,?_⟩
   ·by_cases hkn:k < n
    ·have:=h2 k hkn hpk; omega
    ·obtain rfl:k=n:=by omega
     omega
   ·by_cases hm:m≤v n
    ·exact .inr ⟨n,by omega,hp,by omega⟩
    ·rcases h3 with h3 | ⟨k,a,b,c⟩
     ·exact .inl (by omega)
     ·exact .inr ⟨k,by omega,b,by omega⟩
  ·rw [if_neg hp]
   refine ⟨h1,fun k hk hpk=>?_,?_⟩
   ·by_cases hkn:k < n
    ·exact h2 k hkn hpk
    ·obtain rfl:k=n:=by omega
     exact absurd hpk hp
   ·rcases h3 with h3 | ⟨k,a,b,c⟩
    ·exact .inl h3
    ·exact .inr ⟨k,by omega,b,c⟩
structure Begins (n:Nat)(x:Int):Prop where
 pos:0≤x
 ge:∀k,k < n→F k n=true→eN F dur k≤x
 eq:x=0∨∃k,k < n∧F k n=true∧x=eN F dur k
theorem bN_begins (n:Nat):Begins F dur n (bN F dur n):=by
 have key:bN F dur n=(List.range n).foldl (fun m k=>if F k n=true then max m (eN F dur k) else m) 0:=by
  unfold bN bg
  have:∀(l:List Nat) (m0:Int),(∀k∈l,k < n)→l.foldl (fun m k=>if F k n=true then max m ((esL F dur n).getD k 0) else m) m0=l.foldl (fun m k=>if F k n=true then max m (eN F dur k) else m) m0:=by
   intro l
   induction l with
   | nil=>intros; rfl
   | cons k l ih =>
    intro m0 h
    simp only [List.foldl_cons]
    rw [List.getD_eq_getElem?_getD,esL_get F dur (h k (List.mem_cons_self ..)),Option.getD_some]
    exact ih _ fun j hj=>h j (List.mem_cons_of_mem _ hj)
  exact this _ _ fun k hk=>List.mem_range.1 hk
 obtain ⟨h1,h2,h3⟩:=fold_max (fun k=>F k n) (fun k=>eN F dur k) n 0
 rw [←key] at h1 h2 h3
 exact ⟨h1,h2,h3⟩
theorem Begins.one {n:Nat}{x y:Int}(hx:Begins F dur n x)(hy:Begins F dur n y):x=y:=by
 rcases hx.eq with h | ⟨k,a,b,c⟩
 ·rcases hy.eq with h' | ⟨k,a,b,c⟩
  ·omega
  ·have:=hx.ge k a b; have:=hy.pos; omega
 ·have h1:=hy.ge k a b
  rcases hy.eq with h' | ⟨k',a',b',c'⟩
  ·have:=hx.pos; omega
  ·have:=hx.ge k' a' b'; omega
theorem bN_nonneg (n:Nat):0≤bN F dur n:=(bN_begins F dur n).pos
theorem eN_ge {k n:Nat}(hk:k < n)(hF:F k n=true):eN F dur k≤bN F dur n:=(bN_begins F dur n).ge k hk hF
end

def follows (b:Bench)(plan:List Int)(k n:Nat):Bool:=decide (plan.getD k 0=plan.getD n 0)||(match b.strokes[n]? with | some s=>s.needs.any fun x=>decide (x=(k:Int)) | none=>false)
def low (b:Bench)(n:Nat):Int:=match b.strokes[n]? with | some s=>s.lo | none=>1
def high (b:Bench)(n:Nat):Int:=match b.strokes[n]? with | some s=>s.hi | none=>1
end BM
namespace BM
section
variable {F F':Nat→Nat→Bool} {dur dur':Nat→Int}
theorem eN_le {D:Int}(h0:0≤D)(hd:∀n,dur n≤D):∀n,eN F dur n≤D*((n:Int)+1):=by
 intro n
 induction n using Nat.strongRecOn with
 | ind n ih =>
  have h2:=hd n
  unfold eN
  rcases (bN_begins F dur n).eq with h | ⟨k,a,b,c⟩
  ·have:D*((n:Int)+1)=D*n+D:=by rw [Int.mul_add,Int.mul_one]
   have:0≤D*(n:Int):=Int.mul_nonneg h0 (by omega)
   omega
  ·have h3:=ih k a
   have:D*((k:Int)+1)≤D*(n:Int):=Int.mul_le_mul_of_nonneg_left (by omega) h0
   have:D*((n:Int)+1)=D*n+D:=by rw [Int.mul_add,Int.mul_one]
   omega
theorem eN_pos (hd:∀n,0≤dur n)(n:Nat):0≤eN F dur n:=by
 have:=bN_nonneg F dur n
 have:=hd n
 unfold eN; omega
end

def lastH (l:List Int):Int:=l.foldl max 0
theorem foldl_max:∀(l:List Int) (m:Int),m≤l.foldl max m∧(∀x∈l,x≤l.foldl max m)∧(l.foldl max m=m∨l.foldl max m∈l)
 | [],m=>⟨Int.le_refl _,fun x h=>(by cases h),.inl rfl⟩
 | y :: l,m=>by
  obtain ⟨h1,h2,h3⟩:=foldl_max l (max m y)
  simp only [List.foldl_cons]
  refine ⟨by omega,fun x hx=>?_,?_⟩
  ·rcases List.mem_cons.1 hx with rfl | hx
   ·omega
   ·exact h2 x hx
  ·rcases h3 with h3 | h3
   ·by_cases hm:y≤m
    ·exact .inl (by rw [h3]; omega)
    ·exact .inr (by rw [h3,show max m y=y by omega]; exact List.mem_cons_self ..)
   ·exact .inr (List.mem_cons_of_mem _ h3)
theorem lastH_spec (l:List Int):0≤lastH l∧(∀x∈l,x≤lastH l)∧(lastH l=0∨lastH l∈l):=foldl_max l 0
def beforeN (plan:List Int)(n:Nat):Nat→Option Nat
 | 0=>none
 | i+1=>if plan.getD i 0=plan.getD n 0 then some i else beforeN plan n i
theorem before_some {plan:List Int}{n:Nat}:∀{i k:Nat},beforeN plan n i=some k→k < i∧plan.getD k 0=plan.getD n 0∧∀j,k < j→j < i→plan.getD j 0≠plan.getD n 0
 | 0,k,h=>by cases h
 | i+1,k,h=>by
  simp only [beforeN] at h
  split at h
  ·rename_i hc
   cases h
   exact ⟨by omega,hc,fun j h1 h2=>by omega⟩
  ·rename_i hc
   obtain ⟨h1,h2,h3⟩:=before_some h
   refine ⟨by omega,h2,fun j a b=>?_⟩
   by_cases hj:j=i
   ·subst hj; exact hc
   ·exact h3 j a (by omega)
theorem before_none {plan:List Int}{n:Nat}:∀{i:Nat},beforeN plan n i=none→∀j,j < i→plan.getD j 0≠plan.getD n 0
 | 0,_,j,h=>by omega
 | i+1,h,j,hj=>by
  simp only [beforeN] at h
  split at h
  ·cases h
  ·rename_i hc
   by_cases hji:j=i
   ·subst hji; exact hc
   ·exact before_none h j (by omega)
def freeN (plan:List Int)(e:Nat→Int)(n:Nat):Int:=match beforeN plan n n with | some k=>e k | none=>0
theorem prog_begins {b:Bench}{plan:List Int}{dur:Nat→Int}(hd:∀n,0≤dur n){n:Nat}{s:Stroke}(hs:b.strokes[n]?=some s){nd:List Nat}(hnd:s.needs=nd.map fun k:Nat=>(k:Int))(hlt:∀k∈nd,k < n) :
  lastH (freeN plan (eN (follows b plan) dur) n :: nd.map (eN (follows b plan) dur))=bN (follows b plan) dur n:=by
 have fol:∀k,follows b plan k n=true↔plan.getD k 0=plan.getD n 0∨k∈nd:=fun k=>by
  simp only [follows,hs,hnd,Bool.or_eq_true,decide_eq_true_eq,List.any_eq_true,List.mem_map]
  constructor
  ·rintro (h | ⟨x,⟨j,hj,rfl⟩,hx⟩)
   ·exact .inl h
   ·exact .inr ((show j=k by omega) ▸ hj)
  ·rintro (h | h)
   ·exact .inl h
   ·exact .inr ⟨k,⟨k,h,rfl⟩,rfl⟩
 obtain ⟨h1,h2,h3⟩:=lastH_spec (freeN plan (eN (follows b plan) dur) n :: nd.map (eN (follows b plan) dur))
 refine Begins.one (follows b plan) dur ⟨h1,fun k hk hF=>?_,?_⟩ (bN_begins _ _ n)
 ·rcases (fol k).1 hF with h | h
  ·refine Int.le_trans ?_ (h2 _ (List.mem_cons_self ..))
   unfold freeN
   cases hb:beforeN plan n n with
   | none=>exact absurd h (before_none hb k hk)
   | some j =>
    obtain ⟨a,c,d⟩:=before_some hb
    by_cases hkj:k=j
    ·subst hkj; exact Int.le_refl _
    ·have hlt':k < j:=by
      rcases Nat.lt_or_ge j k with h' | h'
      ·exact absurd h (d k h' hk)
      ·omega
     have hf:follows b plan k j=true:=by
      simp only [follows,Bool.or_eq_true,decide_eq_true_eq]
      exact .inl (by rw [h,c])
     have h4:=eN_ge (follows b plan) dur hlt' hf
     have h5:=hd j
     show _≤bN (follows b plan) dur j+dur j
     omega
  ·exact h2 _ (List.mem_cons_of_mem _ (List.mem_map_of_mem h))
 ·rcases h3 with h3 | h3
  ·exact .inl h3
  ·rcases List.mem_cons.1 h3 with h3 | h3
   ·rw [h3]
    unfold freeN
    cases hb:beforeN plan n n with
    | none=>exact .inl rfl
    | some j =>
     obtain ⟨a,c,d⟩:=before_some hb
     exact .inr ⟨j,a,(fol j).2 (.inl c),rfl⟩
   ·obtain ⟨k,hk,e⟩:=List.mem_map.1 h3
    exact .inr ⟨k,hlt k hk,(fol k).2 (.inr hk),e.symm⟩
end BM
namespace BM
section
variable (F:Nat→Nat→Bool) (dur:Nat→Int) (all:Int) (N:Nat)
def okC:Int→Option Nat→List Nat→Bool
 | a,_,[]=>decide (a=all)
 | a,prev,x :: l=>(decide (bN F dur x=a)&&(match prev with | some k=>F k x | none=>true))&&okC (eN F dur x) (some x) l
end
section
variable {F:Nat→Nat→Bool} {dur:Nat→Int} {all:Int} {N:Nat}
theorem back (hd:∀n,1≤dur n):∀(n:Nat),∃l:List Nat,(∀(a:Int) (t:List Nat),okC F dur all a none (l++n :: t)=true↔a=0∧okC F dur all (eN F dur n) (some n) t=true)∧(∀x∈l,x < n)∧l.Pairwise (· < ·):=by
 intro n
 induction n using Nat.strongRecOn with
 | ind n ih =>
  rcases (bN_begins F dur n).eq with h | ⟨k,hk,hF,he⟩
  ·refine ⟨[],fun a t=>?_,fun x h=>by (cases h),List.Pairwise.nil⟩
   simp only [List.nil_append,okC,h,Bool.and_true,Bool.and_eq_true,decide_eq_true_eq]
   exact ⟨fun ⟨h1,h2⟩=>⟨h1.symm,h2⟩,fun ⟨h1,h2⟩=>⟨h1.symm,h2⟩⟩
  ·obtain ⟨l,h1,h2,h3⟩:=ih k hk
   refine ⟨l++[k],fun a t=>?_,fun x hx=>?_,?_⟩
   ·rw [List.append_assoc,List.singleton_append,h1]
    simp only [okC,he,decide_true,hF,Bool.and_self,Bool.true_and]
   ·rcases List.mem_append.1 hx with hx | hx
    ·have:=h2 x hx; omega
    ·rw [List.mem_singleton.1 hx]; exact hk
   ·rw [List.pairwise_append]
    exact ⟨h3,List.pairwise_singleton _ _,fun x hx y hy=>by rw [List.mem_singleton.1 hy]; exact h2 x hx⟩
end
end BM
namespace BM
section
variable (F:Nat→Nat→Bool) (dur:Nat→Int)
end
section
variable {F F':Nat→Nat→Bool} {dur dur':Nat→Int} {N:Nat}
end
end BM
namespace BM
section
variable {α:Type} (T:α→Int)
end
end BM
namespace BM
section
variable {α:Type} (T:α→Int)
end
section
variable {F:Nat→Nat→Bool} {dur:Nat→Int}
end
end BM
namespace BM
section
variable (F:Nat→Nat→Bool) (dur:Nat→Int) (N:Nat)
def begun (now i j:Nat):Bool:=decide (bN F dur j < now)||(decide (bN F dur j=now)&&decide (j < i))
def hb (now i:Nat):List Int:=(List.range N).map fun j=>if begun F dur now i j=true then bN F dur j else -1
def leftN (now i:Nat):Nat:=((List.range N).filter fun j=>!begun F dur now i j).length
end
section
variable {F:Nat→Nat→Bool} {dur:Nat→Int} {N:Nat}
theorem begun_iff {now i j:Nat}:begun F dur now i j=true↔bN F dur j < now∨(bN F dur j=now∧j < i):=by simp [begun]
theorem hb_len (now i:Nat):(hb F dur N now i).length=N:=by simp [hb]
theorem hb_get {now i j:Nat}(h:j < N):(hb F dur N now i)[j]?=some (if begun F dur now i j=true then bN F dur j else -1):=by simp [hb,h]
theorem hb_start:hb F dur N 0 0=List.replicate N (-1):=by
 refine List.ext_getElem? fun j=>?_
 by_cases h:j < N
 ·rw [hb_get h,List.getElem?_replicate,if_pos h,if_neg]
  rw [begun_iff]
  have:=bN_nonneg F dur j
  omega
 ·rw [List.getElem?_eq_none (by rw [hb_len]; omega),List.getElem?_eq_none (by simp; omega)]
theorem left_start:leftN F dur N 0 0=N:=by
 unfold leftN
 rw [List.filter_eq_self.2,List.length_range]
 intro j _
 have:=bN_nonneg F dur j
 cases h:begun F dur 0 0 j with
 | false=>rfl
 | true=>rw [begun_iff] at h; omega
theorem begun_roll {now j:Nat}(h:j < N):begun F dur now N j=begun F dur (now+1) 0 j:=by
 rw [Bool.eq_iff_iff,begun_iff,begun_iff]
 omega
theorem hb_roll (now:Nat):hb F dur N now N=hb F dur N (now+1) 0:=by
 unfold hb
 refine List.map_congr_left fun j hj=>?_
 rw [begun_roll (List.mem_range.1 hj)]
theorem left_roll (now:Nat):leftN F dur N now N=leftN F dur N (now+1) 0:=by
 unfold leftN
 congr 1
 refine List.filter_congr fun j hj=>?_
 rw [begun_roll (List.mem_range.1 hj)]
theorem begun_next {now i j:Nat}(h:¬(j=i∧bN F dur i=now)):begun F dur now (i+1) j=begun F dur now i j:=by
 rw [Bool.eq_iff_iff,begun_iff,begun_iff]
 constructor
 ·rintro (a | ⟨a,b⟩)
  ·exact .inl a
  ·by_cases e:j=i
   ·subst e; exact absurd ⟨rfl,a⟩ h
   ·exact .inr ⟨a,by omega⟩
 ·rintro (a | ⟨a,b⟩)
  ·exact .inl a
  ·exact .inr ⟨a,by omega⟩
theorem hb_no {now i:Nat}(h:bN F dur i≠now):hb F dur N now (i+1)=hb F dur N now i:=by
 unfold hb
 refine List.map_congr_left fun j _=>?_
 rw [begun_next fun c=>h c.2]
theorem left_no {now i:Nat}(h:bN F dur i≠now):leftN F dur N now (i+1)=leftN F dur N now i:=by
 unfold leftN
 congr 1
 refine List.filter_congr fun j _=>?_
 rw [begun_next fun c=>h c.2]
theorem hb_yes {now i:Nat}(hi:i < N)(h:bN F dur i=now):hb F dur N now (i+1)=(hb F dur N now i).set i now:=by
 refine List.ext_getElem? fun j=>?_
 by_cases hj:j < N
 ·by_cases e:i=j
  ·subst e
   rw [hb_get hj,List.getElem?_set_self (by rw [hb_len]; exact hj),if_pos (begun_iff.2 (.inr ⟨h,by omega⟩)),h]
  ·rw [List.getElem?_set_ne e,hb_get hj,hb_get hj,begun_next fun c=>e c.1.symm]
 ·rw [List.getElem?_eq_none (by rw [hb_len]; omega),List.getElem?_eq_none (by simp [hb_len]; omega)]
theorem filter_one (p q:Nat→Bool)(i:Nat)(hq:q i=true)(hp:p i=false)(hne:∀j,j≠i→p j=q j):∀n,((List.range n).filter q).length=((List.range n).filter p).length+if i < n then 1 else 0
 | 0=>rfl
 | n+1=>by
  have ih:=filter_one p q i hq hp hne n
  rw [List.range_succ,List.filter_append,List.filter_append,List.length_append,List.length_append,ih]
  by_cases e:n=i
  ·subst e
   simp [hp,hq]
  ·have:(i < n+1)=(i < n):=propext (by omega)
   simp only [List.filter_cons,List.filter_nil,hne n e,this]
   omega
theorem left_yes {now i:Nat}(hi:i < N)(h:bN F dur i=now):leftN F dur N now i=leftN F dur N now (i+1)+1:=by
 unfold leftN
 rw [filter_one (fun j=>!begun F dur now (i+1) j) (fun j=>!begun F dur now i j) i ?_ ?_ ?_ N,if_pos hi]
 ·have:begun F dur now i i=false:=by
   cases hb:begun F dur now i i with
   | false=>rfl
   | true=>rw [begun_iff] at hb; omega
  simp [this]
 ·have:begun F dur now (i+1) i=true:=begun_iff.2 (.inr ⟨h,by omega⟩)
  simp [this]
 ·intro j hj
  show (!begun F dur now (i+1) j) = !begun F dur now i j
  rw [begun_next fun c=>hj c.1]
theorem ready_iff (hd:∀n,1≤dur n){now i:Nat}:(∀k,k < i→F k i=true→begun F dur now i k=true∧bN F dur k+dur k≤now)↔bN F dur i≤now:=by
 constructor
 ·intro h
  rcases (bN_begins F dur i).eq with e | ⟨k,a,b,c⟩
  ·omega
  ·have:=(h k a b).2
   rw [c]; unfold eN; omega
 ·intro h k hk hF
  have h1:=eN_ge F dur hk hF
  have h2:=hd k
  unfold eN at h1
  exact ⟨begun_iff.2 (.inl (by omega)),by omega⟩
theorem left_zero {now:Nat}:leftN F dur N now 0=0↔∀j,j < N→bN F dur j < now:=by
 unfold leftN
 rw [List.length_eq_zero_iff,List.filter_eq_nil_iff]
 constructor
 ·intro h j hj
  have:=h j (List.mem_range.2 hj)
  cases hb:begun F dur now 0 j with
  | false=>rw [hb] at this; exact absurd rfl this
  | true=>rw [begun_iff] at hb; omega
 ·intro h j hj
  have:=h j (List.mem_range.1 hj)
  have hb:begun F dur now 0 j=true:=begun_iff.2 (.inl this)
  simp [hb]
theorem hb_done {now:Nat}(h:∀j,j < N→bN F dur j < now):hb F dur N now 0=(List.range N).map (bN F dur):=by
 unfold hb
 refine List.map_congr_left fun j hj=>?_
 rw [if_pos (begun_iff.2 (.inl (h j (List.mem_range.1 hj))))]
end
end BM
namespace BM
section
variable {F:Nat→Nat→Bool} {dur:Nat→Int} {all:Int} {N:Nat}
end
end BM
namespace BM
theorem strokes_at {nb:Nat}:∀{l:List Stroke} {m i:Nat} {s:Stroke},strokesOk nb m l=true→l[i]?=some s→strokeOk nb (m+i) s=true
 | [],_,_,_,_,h=>by simp at h
 | x :: l,m,0,s,h,hi=>by
  simp only [strokesOk,Bool.and_eq_true] at h
  simp only [List.getElem?_cons_zero,Option.some.injEq] at hi
  subst hi; exact h.1
 | x :: l,m,i+1,s,h,hi=>by
  simp only [strokesOk,Bool.and_eq_true] at h
  simp only [List.getElem?_cons_succ] at hi
  have:=strokes_at h.2 hi
  rw [show m+(i+1)=m+1+i by omega]; exact this
theorem rises_pair:∀{l:List Int},rises l=true→l.Pairwise (· < ·)
 | [],_=>List.Pairwise.nil
 | [_],_=>List.pairwise_singleton _ _
 | a :: b :: l,h=>by
  simp only [rises,Bool.and_eq_true,decide_eq_true_eq] at h
  have ih:=rises_pair h.2
  obtain ⟨h1,h2⟩:=List.pairwise_cons.1 ih
  refine List.pairwise_cons.2 ⟨fun x hx=>?_,ih⟩
  rcases List.mem_cons.1 hx with rfl | hx
  ·exact h.1
  ·have:=h1 x hx; omega
structure Fine (b:Bench):Prop where
 a0:0≤b.app
 a3:b.app≤3
 b1:1≤b.boards.length
 b3:b.boards.length≤3
 n1:1≤b.strokes.length
 n6:b.strokes.length≤6
 due:∀x∈b.boards,0≤x∧x≤60
 needs:∀(n:Nat) s,b.strokes[n]?=some s→∃nd:List Nat,s.needs=nd.map (fun k:Nat=>(k:Int))∧(∀k∈nd,k < n)∧nd.Pairwise (· < ·)
 board:∀(n:Nat) s,b.strokes[n]?=some s→0≤s.board∧s.board < b.boards.length
 hours:∀(n:Nat) s,b.strokes[n]?=some s→1≤s.lo∧s.lo≤s.hi∧s.hi≤6
theorem fine_of {b:Bench}(h:isBench b=true):Fine b:=by
 simp only [isBench,Bool.and_eq_true,inL_iff,List.all_eq_true] at h
 obtain ⟨h1,h2,h3,h4,h5⟩:=h
 have at_:∀(n:Nat) s,b.strokes[n]?=some s→strokeOk b.boards.length n s=true:=fun n s hs=>by
  have:=strokes_at h4 hs
  rw [Nat.zero_add] at this; exact this
 refine ⟨h1.1,h1.2,by omega,by omega,by omega,by omega,h5,fun n s hs=>?_,fun n s hs=>?_,fun n s hs=>?_⟩
 ·have:=at_ n s hs
  simp only [strokeOk,Bool.and_eq_true,inL_iff,List.all_eq_true] at this
  obtain ⟨⟨k1,k2⟩,_⟩:=this
  refine ⟨s.needs.map Int.toNat,?_,fun k hk=>?_,?_⟩
  ·rw [List.map_map]
   conv=>lhs; rw [←List.map_id s.needs]
   refine List.map_congr_left fun x hx=>?_
   have:=k2 x hx
   show x=((x.toNat:Nat):Int)
   omega
  ·obtain ⟨x,hx,rfl⟩:=List.mem_map.1 hk
   have:=k2 x hx; omega
  ·rw [List.pairwise_map]
   exact (rises_pair k1).imp_of_mem fun {a c} ha hc hac=>by have:=k2 a ha; have:=k2 c hc; omega
 ·have:=at_ n s hs
  simp only [strokeOk,Bool.and_eq_true,inL_iff,List.all_eq_true] at this
  obtain ⟨_,k,_⟩:=this
  omega
 ·have:=at_ n s hs
  simp only [strokeOk,Bool.and_eq_true,inL_iff,List.all_eq_true] at this
  obtain ⟨_,_,k⟩:=this
  omega
theorem Fine.dur {b:Bench}(h:Fine b)(n:Nat):1≤low b n∧low b n≤high b n∧high b n≤6:=by
 unfold low high
 cases hs:b.strokes[n]? with
 | none=>simp
 | some s=>exact h.hours n s hs
end BM
