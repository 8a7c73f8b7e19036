/- Benches, as plain lists: what benches and plans are; when strokes begin and end. -/
set_option linter.all false
namespace BM

structure Stroke where
 board:Int
 round:Bool
 lo:Int
 hi:Int
 needs:List Int
structure Bench where
 app:Int
 boards:List Int
 strokes:List Stroke
def inL (x lo hi:Int):Bool:=decide (lo≤x)&&decide (x≤hi)
theorem inL_iff {x lo hi:Int}:inL x lo hi=true↔lo≤x∧x≤hi:=by simp [inL]
def rises:List Int→Bool
 | a :: b :: l=>decide (a < b)&&rises (b :: l)
 | _=>true
def strokeOk (nb:Nat)(m:Nat)(s:Stroke):Bool :=
 (rises s.needs&&s.needs.all fun n=>inL n 0 ((m:Int) - 1))&&(inL s.board 0 ((nb:Int) - 1)&&(inL s.lo 1 6&&inL s.hi s.lo 6))
def strokesOk (nb:Nat):Nat→List Stroke→Bool
 | _,[]=>true
 | m,s :: l=>strokeOk nb m s&&strokesOk nb (m+1) l
def isBench (b:Bench):Bool :=
 inL b.app 0 3&&(inL b.boards.length 1 3&&(inL b.strokes.length 1 6&&(strokesOk b.boards.length 0 b.strokes&&b.boards.all fun n=>inL n 0 60)))
section
variable (F:Nat→Nat→Bool) (dur:Nat→Int)
def bg (es:List Int)(n:Nat):Int:=(List.range n).foldl (fun m k=>if F k n=true then max m (es.getD k 0) else m) 0
def esL:Nat→List Int
 | 0=>[]
 | n+1=>esL n++[bg F (esL n) n+dur n]
def bN (n:Nat):Int:=bg F (esL F dur n) n
def eN (n:Nat):Int:=bN F dur n+dur n
theorem esL_len:∀n,(esL F dur n).length=n
 | 0=>rfl
 | n+1=>by simp [esL,esL_len n]
theorem esL_get:∀{n k:Nat},k < n→(esL F dur n)[k]?=some (eN F dur k)
 | 0,_,h=>by omega
 | n+1,k,h=>by
  simp only [esL]
  by_cases hk:k < n
  ·rw [List.getElem?_append_left (by rw [esL_len]; exact hk)]; exact esL_get hk
  ·obtain rfl:k=n:=by omega
   rw [List.getElem?_append_right (by rw [esL_len]; exact Nat.le_refl _),esL_len,Nat.sub_self]
   rfl
theorem fold_max (p:Nat→Bool)(v:Nat→Int):∀(n:Nat) (m0:Int),m0≤(List.range n).foldl (fun m k=>if p k=true then max m (v k) else m) m0 ∧
  (∀k,k < n→p k=true→v k≤(List.range n).foldl (fun m k=>if p k=true then max m (v k) else m) m0) ∧
  ((List.range n).foldl (fun m k=>if p k=true then max m (v k) else m) m0=m0∨∃k,k < n∧p k=true∧(List.range n).foldl (fun m k=>if p k=true then max m (v k) else m) m0=v k):=by
 intro n m0
 induction n with
 | zero=>exact ⟨Int.le_refl _,fun k h=>by omega,.inl rfl⟩
 | succ n ih =>
  obtain ⟨h1,h2,h3⟩:=ih
  rw [List.range_succ,List.foldl_append,List.foldl_cons,List.foldl_nil]
  generalize (List.range n).foldl (fun m k=>if p k=true then max m (v k) else m) m0=m at *
  by_cases hp:p n=true
  ·rw [if_pos hp]
   refine ⟨by omega,fun k hk hpk=>?_,?_⟩
   ·by_cases hkn:k < n
    ·have:=h2 k hkn hpk; omega
    ·obtain rfl:k=n:=by omega
     omega
   ·by_cases hm:m≤v n
    ·exact .inr ⟨n,by omega,hp,by omega⟩
    ·rcases h3 with h3 | ⟨k,a,b,c⟩
     ·exact .inl (by omega)
     ·exact .inr ⟨k,by omega,b,by omega⟩
  ·rw [if_neg hp]
   refine ⟨h1,fun k hk hpk=>?_,?_⟩
   ·by_cases hkn:k < n
    ·exact h2 k hkn hpk
    ·obtain rfl:k=n:=by omega
     exact absurd hpk hp
   ·rcases h3 with h3 | ⟨k,a,b,c⟩
    ·exact .inl h3
    ·exact .inr ⟨k,by omega,b,c⟩
structure Begins (n:Nat)(x:Int):Prop where
 pos:0≤x
 ge:∀k,k < n→F k n=true→eN F dur k≤x
 eq:x=0∨∃k,k < n∧F k n=true∧x=eN F dur k
theorem bN_begins (n:Nat):Begins F dur n (bN F dur n):=by
 have key:bN F dur n=(List.range n).foldl (fun m k=>if F k n=true then max m (eN F dur k) else m) 0:=by
  unfold bN bg
  have:∀(l:List Nat) (m0:Int),(∀k∈l,k < n)→l.foldl (fun m k=>if F k n=true then max m ((esL F dur n).getD k 0) else m) m0=l.foldl (fun m k=>if F k n=true then max m (eN F dur k) else m) m0:=by
   intro l
   induction l with
   | nil=>intros; rfl
   | cons k l ih =>
    intro m0 h
    simp only [List.foldl_cons]
    rw [List.getD_eq_getElem?_getD,esL_get F dur (h k (List.mem_cons_self ..)),Option.getD_some]
    exact ih _ fun j hj=>h j (List.mem_cons_of_mem _ hj)
  exact this _ _ fun k hk=>List.mem_range.1 hk
 obtain ⟨h1,h2,h3⟩:=fold_max (fun k=>F k n) (fun k=>eN F dur k) n 0
 rw [←key] at h1 h2 h3
 exact ⟨h1,h2,h3⟩
theorem Begins.one {n:Nat}{x y:Int}(hx:Begins F dur n x)(hy:Begins F dur n y):x=y:=by
 rcases hx.eq with h | ⟨k,a,b,c⟩
 ·rcases hy.eq with h' | ⟨k,a,b,c⟩
  ·omega
  ·have:=hx.ge k a b; have:=hy.pos; omega
 ·have h1:=hy.ge k a b
  rcases hy.eq with h' | ⟨k',a',b',c'⟩
  ·have:=hx.pos; omega
  ·have:=hx.ge k' a' b'; omega
theorem bN_nonneg (n:Nat):0≤bN F dur n:=(bN_begins F dur n).pos
theorem eN_ge {k n:Nat}(hk:k < n)(hF:F k n=true):eN F dur k≤bN F dur n:=(bN_begins F dur n).ge k hk hF
end

def follows (b:Bench)(plan:List Int)(k n:Nat):Bool:=decide (plan.getD k 0=plan.getD n 0)||(match b.strokes[n]? with | some s=>s.needs.any fun x=>decide (x=(k:Int)) | none=>false)
def low (b:Bench)(n:Nat):Int:=match b.strokes[n]? with | some s=>s.lo | none=>1
def high (b:Bench)(n:Nat):Int:=match b.strokes[n]? with | some s=>s.hi | none=>1
end BM
namespace BM
section
variable {F F':Nat→Nat→Bool} {dur dur':Nat→Int}
theorem bN_mono (hF:∀k n,k < n→F k n=true→F' k n=true)(hd:∀n,dur n≤dur' n):∀n,bN F dur n≤bN F' dur' n:=by
 intro n
 induction n using Nat.strongRecOn with
 | ind n ih =>
  rcases (bN_begins F dur n).eq with h | ⟨k,a,b,c⟩
  ·rw [h]; exact bN_nonneg F' dur' n
  ·rw [c]
   have h1:=ih k a
   have h2:=hd k
   have h3:=eN_ge F' dur' a (hF k n a b)
   unfold eN at h3 ⊢
   omega
theorem eN_mono (hF:∀k n,k < n→F k n=true→F' k n=true)(hd:∀n,dur n≤dur' n)(n:Nat):eN F dur n≤eN F' dur' n:=by
 have:=bN_mono hF hd n
 have:=hd n
 unfold eN; omega
theorem eN_le {D:Int}(h0:0≤D)(hd:∀n,dur n≤D):∀n,eN F dur n≤D*((n:Int)+1):=by
 intro n
 induction n using Nat.strongRecOn with
 | ind n ih =>
  have h2:=hd n
  unfold eN
  rcases (bN_begins F dur n).eq with h | ⟨k,a,b,c⟩
  ·have:D*((n:Int)+1)=D*n+D:=by rw [Int.mul_add,Int.mul_one]
   have:0≤D*(n:Int):=Int.mul_nonneg h0 (by omega)
   omega
  ·have h3:=ih k a
   have:D*((k:Int)+1)≤D*(n:Int):=Int.mul_le_mul_of_nonneg_left (by omega) h0
   have:D*((n:Int)+1)=D*n+D:=by rw [Int.mul_add,Int.mul_one]
   omega
theorem eN_pos (hd:∀n,0≤dur n)(n:Nat):0≤eN F dur n:=by
 have:=bN_nonneg F dur n
 have:=hd n
 unfold eN; omega
end

def lastH (l:List Int):Int:=l.foldl max 0
theorem foldl_max:∀(l:List Int) (m:Int),m≤l.foldl max m∧(∀x∈l,x≤l.foldl max m)∧(l.foldl max m=m∨l.foldl max m∈l)
 | [],m=>⟨Int.le_refl _,fun x h=>(by cases h),.inl rfl⟩
 | y :: l,m=>by
  obtain ⟨h1,h2,h3⟩:=foldl_max l (max m y)
  simp only [List.foldl_cons]
  refine ⟨by omega,fun x hx=>?_,?_⟩
  ·rcases List.mem_cons.1 hx with rfl | hx
   ·omega
   ·exact h2 x hx
  ·rcases h3 with h3 | h3
   ·by_cases hm:y≤m
    ·exact .inl (by rw [h3]; omega)
    ·exact .inr (by rw [h3,show max m y=y by omega]; exact List.mem_cons_self ..)
   ·exact .inr (List.mem_cons_of_mem _ h3)
theorem lastH_spec (l:List Int):0≤lastH l∧(∀x∈l,x≤lastH l)∧(lastH l=0∨lastH l∈l):=foldl_max l 0
def beforeN (plan:List Int)(n:Nat):Nat→Option Nat
 | 0=>none
 | i+1=>if plan.getD i 0=plan.getD n 0 then some i else beforeN plan n i
theorem before_some {plan:List Int}{n:Nat}:∀{i k:Nat},beforeN plan n i=some k→k < i∧plan.getD k 0=plan.getD n 0∧∀j,k < j→j < i→plan.getD j 0≠plan.getD n 0
 | 0,k,h=>by cases h
 | i+1,k,h=>by
  simp only [beforeN] at h
  split at h
  ·rename_i hc
   cases h
   exact ⟨by omega,hc,fun j h1 h2=>by omega⟩
  ·rename_i hc
   obtain ⟨h1,h2,h3⟩:=before_some h
   refine ⟨by omega,h2,fun j a b=>?_⟩
   by_cases hj:j=i
   ·subst hj; exact hc
   ·exact h3 j a (by omega)
theorem before_none {plan:List Int}{n:Nat}:∀{i:Nat},beforeN plan n i=none→∀j,j < i→plan.getD j 0≠plan.getD n 0
 | 0,_,j,h=>by omega
 | i+1,h,j,hj=>by
  simp only [beforeN] at h
  split at h
  ·cases h
  ·rename_i hc
   by_cases hji:j=i
   ·subst hji; exact hc
   ·exact before_none h j (by omega)
def freeN (plan:List Int)(e:Nat→Int)(n:Nat):Int:=match beforeN plan n n with | some k=>e k | none=>0
theorem prog_begins {b:Bench}{plan:List Int}{dur:Nat→Int}(hd:∀n,0≤dur n){n:Nat}{s:Stroke}(hs:b.strokes[n]?=some s){nd:List Nat}(hnd:s.needs=nd.map fun k:Nat=>(k:Int))(hlt:∀k∈nd,k < n) :
  lastH (freeN plan (eN (follows b plan) dur) n :: nd.map (eN (follows b plan) dur))=bN (follows b plan) dur n:=by
 have fol:∀k,follows b plan k n=true↔plan.getD k 0=plan.getD n 0∨k∈nd:=fun k=>by
  simp only [follows,hs,hnd,Bool.or_eq_true,decide_eq_true_eq,List.any_eq_true,List.mem_map]
  constructor
  ·rintro (h | ⟨x,⟨j,hj,rfl⟩,hx⟩)
   ·exact .inl h
   ·exact .inr ((show j=k by omega) ▸ hj)
  ·rintro (h | h)
   ·exact .inl h
   ·exact .inr ⟨k,⟨k,h,rfl⟩,rfl⟩
 obtain ⟨h1,h2,h3⟩:=lastH_spec (freeN plan (eN (follows b plan) dur) n :: nd.map (eN (follows b plan) dur))
 refine Begins.one (follows b plan) dur ⟨h1,fun k hk hF=>?_,?_⟩ (bN_begins _ _ n)
 ·rcases (fol k).1 hF with h | h
  ·refine Int.le_trans ?_ (h2 _ (List.mem_cons_self ..))
   unfold freeN
   cases hb:beforeN plan n n with
   | none=>exact absurd h (before_none hb k hk)
   | some j =>
    obtain ⟨a,c,d⟩:=before_some hb
    by_cases hkj:k=j
    ·subst hkj; exact Int.le_refl _
    ·have hlt':k < j:=by
      rcases Nat.lt_or_ge j k with h' | h'
      ·exact absurd h (d k h' hk)
      ·omega
     have hf:follows b plan k j=true:=by
      simp only [follows,Bool.or_eq_true,decide_eq_true_eq]
      exact .inl (by rw [h,c])
     have h4:=eN_ge (follows b plan) dur hlt' hf
     have h5:=hd j
     show _≤bN (follows b plan) dur j+dur j
     omega
  ·exact h2 _ (List.mem_cons_of_mem _ (List.mem_map_of_mem h))
 ·rcases h3 with h3 | h3
  ·exact .inl h3
  ·rcases List.mem_cons.1 h3 with h3 | h3
   ·rw [h3]
    unfold freeN
    cases hb:beforeN plan n n with
    | none=>exact .inl rfl
    | some j =>
     obtain ⟨a,c,d⟩:=before_some hb
     exact .inr ⟨j,a,(fol j).2 (.inl c),rfl⟩
   ·obtain ⟨k,hk,e⟩:=List.mem_map.1 h3
    exact .inr ⟨k,hlt k hk,(fol k).2 (.inr hk),e.symm⟩
end BM
namespace BM
section
variable (F:Nat→Nat→Bool) (dur:Nat→Int) (all:Int) (N:Nat)
def okC:Int→Option Nat→List Nat→Bool
 | a,_,[]=>decide (a=all)
 | a,prev,x :: l=>(decide (bN F dur x=a)&&(match prev with | some k=>F k x | none=>true))&&okC (eN F dur x) (some x) l
end
section
variable {F:Nat→Nat→Bool} {dur:Nat→Int} {all:Int} {N:Nat}
theorem back (hd:∀n,1≤dur n):∀(n:Nat),∃l:List Nat,(∀(a:Int) (t:List Nat),okC F dur all a none (l++n :: t)=true↔a=0∧okC F dur all (eN F dur n) (some n) t=true)∧(∀x∈l,x < n)∧l.Pairwise (· < ·):=by
 intro n
 induction n using Nat.strongRecOn with
 | ind n ih =>
  rcases (bN_begins F dur n).eq with h | ⟨k,hk,hF,he⟩
  ·refine ⟨[],fun a t=>?_,fun x h=>by (cases h),List.Pairwise.nil⟩
   simp only [List.nil_append,okC,h,Bool.and_true,Bool.and_eq_true,decide_eq_true_eq]
   exact ⟨fun ⟨h1,h2⟩=>⟨h1.symm,h2⟩,fun ⟨h1,h2⟩=>⟨h1.symm,h2⟩⟩
  ·obtain ⟨l,h1,h2,h3⟩:=ih k hk
   refine ⟨l++[k],fun a t=>?_,fun x hx=>?_,?_⟩
   ·rw [List.append_assoc,List.singleton_append,h1]
    simp only [okC,he,decide_true,hF,Bool.and_self,Bool.true_and]
   ·rcases List.mem_append.1 hx with hx | hx
    ·have:=h2 x hx; omega
    ·rw [List.mem_singleton.1 hx]; exact hk
   ·rw [List.pairwise_append]
    exact ⟨h3,List.pairwise_singleton _ _,fun x hx y hy=>by rw [List.mem_singleton.1 hy]; exact h2 x hx⟩
end
end BM
namespace BM
section
variable (F:Nat→Nat→Bool) (dur:Nat→Int)
def takes (N:Nat):Int:=lastH ((List.range N).map (eN F dur))
end
section
variable {F F':Nat→Nat→Bool} {dur dur':Nat→Int} {N:Nat}
theorem takes_spec:0≤takes F dur N∧(∀n,n < N→eN F dur n≤takes F dur N)∧(takes F dur N=0∨∃n,n < N∧takes F dur N=eN F dur n):=by
 obtain ⟨h1,h2,h3⟩:=lastH_spec ((List.range N).map (eN F dur))
 refine ⟨h1,fun n hn=>h2 _ (List.mem_map_of_mem (List.mem_range.2 hn)),?_⟩
 rcases h3 with h3 | h3
 ·exact .inl h3
 ·obtain ⟨n,hn,e⟩:=List.mem_map.1 h3
  exact .inr ⟨n,List.mem_range.1 hn,e.symm⟩
theorem takes_mono (hF:∀k n,k < n→F k n=true→F' k n=true)(hd:∀n,dur n≤dur' n):takes F dur N≤takes F' dur' N:=by
 obtain ⟨h1,h2,h3⟩:=takes_spec (F:=F) (dur:=dur) (N:=N)
 obtain ⟨g1,g2,g3⟩:=takes_spec (F:=F') (dur:=dur') (N:=N)
 rcases h3 with h3 | ⟨n,a,b⟩
 ·omega
 ·have:=g2 n a
  have:=eN_mono hF hd n
  omega
end
end BM
namespace BM
def hands (app:Nat)(r:Bool):Nat:=if r=true then 1 else app+1
def plansL (app:Nat):List Bool→List (List Int)
 | []=>[[]]
 | r :: rs=>(List.range (hands app r)).flatMap fun (h:Nat)=>(plansL app rs).map fun l=>(h:Int) :: l
theorem mem_plansL {app:Nat}:∀{rs:List Bool} {l:List Int},l∈plansL app rs↔l.length=rs.length∧∀(i:Nat) x r,l[i]?=some x→rs[i]?=some r→0≤x∧x < hands app r
 | [],l=>by
  simp only [plansL,List.mem_singleton,List.length_nil,List.length_eq_zero_iff]
  constructor
  ·rintro rfl; exact ⟨rfl,fun i x r h=>by simp at h⟩
  ·exact fun h=>h.1
 | r :: rs,l=>by
  simp only [plansL,List.mem_flatMap,List.mem_range,List.mem_map]
  constructor
  ·rintro ⟨h,hh,t,ht,rfl⟩
   obtain ⟨h1,h2⟩:=mem_plansL.1 ht
   refine ⟨by simp [h1],fun i x r' hx hr=>?_⟩
   cases i with
   | zero=>simp only [List.getElem?_cons_zero,Option.some.injEq] at hx hr; subst hx; subst hr; omega
   | succ i=>simp only [List.getElem?_cons_succ] at hx hr; exact h2 i x r' hx hr
  ·rintro ⟨h1,h2⟩
   cases l with
   | nil=>simp at h1
   | cons x l =>
    have h3:=h2 0 x r rfl rfl
    refine ⟨x.toNat,by omega,l,mem_plansL.2 ⟨by simpa using h1,fun i y r' hy hr=>h2 (i+1) y r' (by simpa using hy) (by simpa using hr)⟩,?_⟩
    rw [show ((x.toNat:Nat):Int)=x by omega]
theorem plansL_ne {app:Nat}:∀rs:List Bool,plansL app rs≠[]
 | []=>by simp [plansL]
 | r :: rs=>by
  have ih:=plansL_ne (app:=app) rs
  obtain ⟨x,xs,hx⟩:∃x xs,plansL app rs=x :: xs:=by cases h:plansL app rs with | nil=>exact absurd h ih | cons x xs=>exact ⟨x,xs,rfl⟩
  have:0 < hands app r:=by unfold hands; split <;> omega
  intro h
  have hm:((0:Nat):Int) :: x∈plansL app (r :: rs):=by
   simp only [plansL,List.mem_flatMap,List.mem_range,List.mem_map]
   exact ⟨0,this,x,by rw [hx]; exact List.mem_cons_self ..,rfl⟩
  rw [h] at hm; cases hm
theorem hands_le {app:Nat}(h:app≤3)(r:Bool):hands app r≤4:=by unfold hands; split <;> omega
theorem plansL_len {app:Nat}(h:app≤3):∀rs:List Bool,(plansL app rs).length≤4 ^ rs.length
 | []=>by simp [plansL]
 | r :: rs=>by
  have ih:=plansL_len h rs
  have hh:=hands_le h r
  simp only [plansL,List.length_flatMap,List.length_map,List.map_const',List.sum_replicate_nat,List.length_range,List.length_cons,Nat.pow_succ]
  have:=Nat.mul_le_mul hh ih
  rw [Nat.mul_comm (4 ^ rs.length)]
  exact this

theorem rev_ind {α:Type}{P:List α→Prop}(h0:P [])(h1:∀l x,P l→P (l++[x])):∀l,P l:=by
 have key:∀n (l:List α),l.length=n→P l:=by
  intro n
  induction n with
  | zero=>intro l h; rw [List.eq_nil_of_length_eq_zero h]; exact h0
  | succ n ih =>
   intro l h
   have hl:l≠[]:=fun e=>by rw [e] at h; cases h
   rw [←List.dropLast_concat_getLast hl]
   exact h1 _ _ (ih _ (by rw [List.length_dropLast,h]; rfl))
 exact fun l=>key _ l rfl
section
variable {α:Type} (T:α→Int)
def minT:List α→Int
 | []=>0
 | x :: l=>l.foldl (fun m y=>min m (T y)) (T x)
def bestOf (l:List α):List α:=l.filter fun x=>decide (T x=minT T l)
theorem minT_snoc {l:List α}(h:l≠[])(x:α):minT T (l++[x])=min (minT T l) (T x):=by
 cases l with
 | nil=>exact absurd rfl h
 | cons y l=>simp [minT,List.foldl_append]
theorem minT_le:∀{l:List α} {x:α},x∈l→minT T l≤T x:=by
 intro l
 induction l using rev_ind with
 | h0=>intro x h; cases h
 | h1 l y ih =>
  intro x hx
  by_cases hl:l=[]
  ·subst hl; simp at hx; subst hx; simp [minT]
  ·rw [minT_snoc T hl]
   rcases List.mem_append.1 hx with hx | hx
   ·have:=ih hx; omega
   ·rw [List.mem_singleton.1 hx]; omega
theorem minT_mem:∀{l:List α},l≠[]→∃x∈l,T x=minT T l:=by
 intro l
 induction l using rev_ind with
 | h0=>intro h; exact absurd rfl h
 | h1 l y ih =>
  intro _
  by_cases hl:l=[]
  ·subst hl; exact ⟨y,by simp,by simp [minT]⟩
  ·rw [minT_snoc T hl]
   obtain ⟨x,hx,e⟩:=ih hl
   by_cases hc:T y < minT T l
   ·exact ⟨y,by simp,by omega⟩
   ·exact ⟨x,by simp [hx],by omega⟩
theorem bestOf_ne {l:List α}(h:l≠[]):bestOf T l≠[]:=by
 obtain ⟨x,hx,e⟩:=minT_mem T h
 intro h0
 have:x∈bestOf T l:=List.mem_filter.2 ⟨hx,by simpa using e⟩
 rw [h0] at this; cases this
theorem bestOf_one (x:α):bestOf T [x]=[x]:=by simp [bestOf,minT]
theorem bestOf_snoc {l:List α}(h:l≠[])(x:α):bestOf T (l++[x])=if T x < minT T l then [x] else if T x=minT T l then bestOf T l++[x] else bestOf T l:=by
 unfold bestOf
 rw [minT_snoc T h,List.filter_append]
 by_cases h1:T x < minT T l
 ·rw [if_pos h1,show min (minT T l) (T x)=T x by omega]
  have:l.filter (fun y=>decide (T y=T x))=[]:=by
   rw [List.filter_eq_nil_iff]
   intro y hy
   have:=minT_le T hy
   simp; omega
  rw [this]; simp
 ·rw [if_neg h1,show min (minT T l) (T x)=minT T l by omega]
  by_cases h2:T x=minT T l
  ·rw [if_pos h2]; simp [h2]
  ·rw [if_neg h2]; simp [h2]
theorem bestOf_all {l:List α}{x:α}(hx:x∈bestOf T l):T x=minT T l:=by
 have:=(List.mem_filter.1 hx).2
 simpa using this
end
end BM
