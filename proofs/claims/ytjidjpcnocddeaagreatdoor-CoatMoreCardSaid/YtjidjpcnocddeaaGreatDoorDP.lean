/- Plans that surely hold: the greatest first day, the least number of days, the days of a coat. -/
import Derived.Test.YtjidjpcnocddeaaGreatDoorDE
set_option linter.all false
namespace CM
def hd (p:List Int):Int:=p.headD 0
def lng (p:List Int):Int:=p.getLastD 0 - p.headD 0
def quickOf (L:List (List Int)):Int:=L.foldl (fun n p=>if n < 0∨lng p < n then lng p else n) (-1)
def bst (f:List Int→List Int→Bool)(p:List Int)(L:List (List Int)):List Int:=L.foldl (fun o x=>if f x o=true then x else o) p
theorem fold_succ {α β:Type}(f:β→α→β)(b:β){L:List α}{j:Nat}{x:α}(h:L[j]?=some x):(L.take (j+1)).foldl f b=f ((L.take j).foldl f b) x:=by
 obtain ⟨hj,rfl⟩:=List.getElem?_eq_some_iff.1 h
 rw [List.take_succ_eq_append_getElem hj,List.foldl_append]; rfl
theorem bst_mem {f:List Int→List Int→Bool}:∀{L:List (List Int)} {p:List Int},bst f p L∈p :: L
 | [],p=>by simp [bst]
 | x :: L,p=>by
  have:=bst_mem (f:=f) (L:=L) (p:=if f x p=true then x else p)
  simp only [bst,List.foldl_cons] at this ⊢
  split at this
  ·rename_i h; rw [if_pos h]; exact List.mem_cons_of_mem _ this
  ·rename_i h
   rw [if_neg h]
   rcases List.mem_cons.1 this with h | h
   ·rw [h]; exact List.mem_cons_self ..
   ·exact List.mem_cons_of_mem _ (List.mem_cons_of_mem _ h)
theorem quick_bst {L:List (List Int)}{p:List Int}(h0:0≤lng p)(hL:∀x∈L,0≤lng x):lng (bst (fun a b=>decide (lng a < lng b)) p L)=quickOf (p :: L):=by
 unfold quickOf bst
 rw [List.foldl_cons,if_pos (.inl (by decide))]
 induction L generalizing p with
 | nil=>rfl
 | cons x L ih =>
  have hx:=hL x (List.mem_cons_self ..)
  simp only [List.foldl_cons]
  by_cases h:lng x < lng p
  ·rw [if_pos (by simpa using h),if_pos (.inr h)]; exact ih hx fun y hy=>hL y (List.mem_cons_of_mem _ hy)
  ·rw [if_neg (by simpa using h),if_neg (by omega)]; exact ih h0 fun y hy=>hL y (List.mem_cons_of_mem _ hy)
theorem rises_last:∀{p:List Int} {x:Int},rises (x :: p)=true→x≤(x :: p).getLastD 0
 | [],x,_=>by simp
 | y :: p,x,h=>by
  simp only [rises,Bool.and_eq_true,decide_eq_true_eq] at h
  have:=rises_last (p:=p) (x:=y) h.2
  simp only [List.getLastD_cons] at this ⊢
  omega
theorem lng_nonneg {p:List Int}(h:rises p=true):0≤lng p:=by
 cases p with
 | nil=>simp [lng]
 | cons x p=>have:=rises_last h; simp only [lng,List.headD_cons]; omega
end CM
namespace CM
theorem quick_all:∀(L:List (List Int)) (n:Int),0≤n→(∀p∈L,0≤lng p)→L.foldl (fun n p=>if n < 0∨lng p < n then lng p else n) n≤n∧(∀p∈L,L.foldl (fun n p=>if n < 0∨lng p < n then lng p else n) n≤lng p)∧(L.foldl (fun n p=>if n < 0∨lng p < n then lng p else n) n=n∨∃p∈L,L.foldl (fun n p=>if n < 0∨lng p < n then lng p else n) n=lng p)
 | [],n,_,_=>⟨Int.le_refl _,by simp,.inl rfl⟩
 | p :: L,n,h0,hL=>by
  have hp:=hL p (List.mem_cons_self ..)
  have hL':∀q∈L,0≤lng q:=fun q hq=>hL q (List.mem_cons_of_mem _ hq)
  rw [List.foldl_cons]
  by_cases h:lng p < n
  ·rw [if_pos (.inr h)]
   obtain ⟨a,b,c⟩:=quick_all L (lng p) hp hL'
   refine ⟨by omega,fun q hq=>?_,?_⟩
   ·rcases List.mem_cons.1 hq with rfl | hq
    ·exact a
    ·exact b q hq
   ·rcases c with c | ⟨q,hq,c⟩
    ·exact .inr ⟨p,List.mem_cons_self ..,c⟩
    ·exact .inr ⟨q,List.mem_cons_of_mem _ hq,c⟩
  ·rw [if_neg (by omega)]
   obtain ⟨a,b,c⟩:=quick_all L n h0 hL'
   refine ⟨a,fun q hq=>?_,?_⟩
   ·rcases List.mem_cons.1 hq with rfl | hq
    ·omega
    ·exact b q hq
   ·rcases c with c | ⟨q,hq,c⟩
    ·exact .inl c
    ·exact .inr ⟨q,List.mem_cons_of_mem _ hq,c⟩
structure Planned (s:Sheet)(L:List (List Int)):Prop where
 len:∀p∈L,p.length=s.coats.length
 rises:∀p∈L,rises p=true
 work:∀p∈L,∀d∈p,d∈s.work
theorem planned {s:Sheet}(hS:ShFine s):Planned s (allP s) :=
 ⟨fun p hp=>(isPlan_iff.1 ((mem_allP hS).1 hp).1).1,fun p hp=>(isPlan_iff.1 ((mem_allP hS).1 hp).1).2.1,fun p hp=>(isPlan_iff.1 ((mem_allP hS).1 hp).1).2.2⟩
section
variable {s:Sheet} (hS:ShFine s) {L:List (List Int)} (hP:Planned s L)
include hS hP
theorem Planned.day {p:List Int}(hp:p∈L){x:Int}(hx:x∈p):∃d:Nat,(d:Int)=x∧d < s.dry.length:=by
 have:=hS.work x (hP.work p hp x hx)
 exact ⟨x.toNat,by omega,by omega⟩
theorem Planned.hd {p:List Int}(hp:p∈L):p[0]?=some (CM.hd p):=by
 have:=hP.len p hp
 have:=hS.c1
 cases p with
 | nil=>simp at *; omega
 | cons x p=>rfl
theorem Planned.hd0 {p:List Int}(hp:p∈L):0≤CM.hd p:=by
 obtain ⟨d,h,_⟩:=hP.day hS hp (List.mem_of_getElem? (hP.hd hS hp)); omega
omit hS in
theorem Planned.lng0 {p:List Int}(hp:p∈L):0≤lng p:=lng_nonneg (hP.rises p hp)
omit hS in
theorem quick_both (hL:L≠[]):(∀p∈L,quickOf L≤lng p)∧∃p∈L,quickOf L=lng p:=by
 cases L with
 | nil=>exact absurd rfl hL
 | cons q L =>
  have h0:=hP.lng0 (List.mem_cons_self ..)
  obtain ⟨a,b,c⟩:=quick_all L (lng q) h0 fun p hp=>hP.lng0 (List.mem_cons_of_mem _ hp)
  unfold quickOf
  rw [List.foldl_cons,if_pos (.inl (by decide))]
  refine ⟨fun p hp=>?_,?_⟩
  ·rcases List.mem_cons.1 hp with rfl | hp
   ·exact a
   ·exact b p hp
  ·rcases c with c | ⟨p,hp,c⟩
   ·exact ⟨q,List.mem_cons_self ..,c⟩
   ·exact ⟨p,List.mem_cons_of_mem _ hp,c⟩
end
end CM
namespace CM
def can (s:Sheet):Bool:=!(allP s).isEmpty
def upto (s:Sheet)(n:Nat):Sheet:=⟨s.dry,s.work,s.coats.take (n+1)⟩
def stk (s:Sheet):Nat→Nat→Int
 | _,0=>-1
 | j,m+1=>if can (upto s j)=true then stk s (j+1) m else j
def stuckAt (s:Sheet):Int:=stk s 0 s.coats.length
theorem upto_fine {s:Sheet}(hS:ShFine s)(n:Nat):ShFine (upto s n):=by
 have:=hS.c1
 have:=hS.c2
 refine ⟨hS.d1,hS.d2,by simp [upto]; omega,by simp [upto]; omega,hS.dry,fun x hx=>hS.coats x (List.mem_of_mem_take hx),hS.work,hS.rw⟩
theorem upto_sheet {s:Sheet}(h:isSheet s=true)(n:Nat):isSheet (upto s n)=true:=by
 simp only [isSheet,upto,Bool.and_eq_true,inL_iff,List.all_eq_true] at h ⊢
 obtain ⟨h1,h2,h3,h4,h5,h6⟩:=h
 refine ⟨h1,?_,h3,fun x hx=>h4 x (List.mem_of_mem_take hx),h5,h6⟩
 rw [List.length_take]; omega
theorem upto_all {s:Sheet}(hS:ShFine s):upto s (s.coats.length - 1)=s:=by
 have:=hS.c1
 cases s with
 | mk d w c=>simp only [upto]; rw [List.take_of_length_le (by simp at *; omega)]
theorem sm_mono {l:List Int}(h:∀x∈l,0≤x){m n:Nat}(hmn:m≤n):sm (l.take m)≤sm (l.take n):=by
 have e:l.take n=l.take m++(l.drop m).take (n - m):=by
  rw [←List.take_append_drop m (l.take n),List.take_take,Nat.min_eq_left hmn,List.drop_take]
 rw [e,sm_app]
 have:∀{k:List Int},(∀x∈k,0≤x)→0≤sm k:=fun {k}=>by
  induction k with
  | nil=>intro _; simp [sm]
  | cons x k ih=>intro hk; have:=hk x (List.mem_cons_self ..); have:=ih fun y hy=>hk y (List.mem_cons_of_mem _ hy); simp only [sm]; omega
 have:=this (k:=(l.drop m).take (n - m)) fun x hx=>h x (List.mem_of_mem_drop (List.mem_of_mem_take hx))
 omega
theorem seg_mono {w:List Int}(h:∀x∈w,0≤x)(d:Int){t u:Int}(ht:t≤u):seg w d t≤seg w d u:=by
 unfold seg
 exact sm_mono (fun x hx=>h x (List.mem_of_mem_drop hx)) (by omega)
theorem go_dw {s s':Sheet}(hd:s.dry=s'.dry)(hw:s.work=s'.work):∀(cs:List (Int×Int)) (d:Int),go s cs d=go s' cs d
 | [],_=>rfl
 | [c],d=>by
  cases s; cases s'; cases hd; cases hw; rfl
 | c :: c' :: cs,d=>by
  have ih:=go_dw hd hw (c' :: cs)
  have e:∀t,stands s c d t true=stands s' c d t true:=fun t=>by cases s; cases s'; cases hd; cases hw; rfl
  simp only [go,hw,e,ih]
theorem go_take {s:Sheet}(hS:ShFine s):∀(cs:List (Int×Int)) (k:Nat) (d:Int),go s cs d=true→go s (cs.take k) d=true
 | [],k,d,h=>by simpa using h
 | [c],0,d,h=>rfl
 | [c],k+1,d,h=>by simpa using h
 | c :: c' :: cs,0,d,h=>rfl
 | c :: c' :: cs,k+1,d,h=>by
  simp only [go,List.any_eq_true,Bool.and_eq_true,decide_eq_true_eq] at h
  obtain ⟨t,ht,hlt,h1,h2⟩:=h
  cases k with
  | zero =>
   simp only [Nat.zero_add,List.take_succ_cons,List.take_zero,go]
   simp only [stands,Bool.true_and,Bool.false_and,Bool.not_false,Bool.and_true,Bool.and_eq_true,Bool.not_eq_true',decide_eq_false_iff_not] at h1 ⊢
   have:=seg_mono (w:=lows s) (fun x hx=>by
    obtain ⟨y,hy,rfl⟩:=List.mem_map.1 hx
    exact (hS.dry y hy).1) d (t:=t) (u:=s.dry.length) (by have:=(hS.work t ht).2; omega)
   omega
  | succ k =>
   have ih:=go_take hS (c' :: cs) (k+1) t h2
   simp only [List.take_succ_cons] at ih ⊢
   simp only [go,List.any_eq_true,Bool.and_eq_true,decide_eq_true_eq]
   exact ⟨t,ht,hlt,h1,ih⟩
theorem can_go {s:Sheet}(hS:ShFine s):can s=true↔∃d∈s.work,go s s.coats d=true:=by
 obtain ⟨c,cs,hc⟩:∃c cs,s.coats=c :: cs:=by
  cases h:s.coats with
  | nil=>have:=hS.c1; rw [h] at this; simp at this
  | cons c cs=>exact ⟨c,cs,rfl⟩
 have hne:can s=true↔∃p,p∈allP s:=by
  unfold can
  cases allP s with
  | nil=>simp
  | cons p L=>simp
 rw [hne]
 unfold allP
 rw [hc]
 simp only [List.mem_flatMap]
 constructor
 ·rintro ⟨p,d,hd,h⟩
  split at h
  ·rename_i h1; exact ⟨d,hd,h1⟩
  ·cases h
 ·rintro ⟨d,hd,h⟩
  have h1:=h
  rw [go_iff,List.any_eq_true] at h1
  obtain ⟨l,hl,ho⟩:=h1
  refine ⟨d :: l,d,hd,?_⟩
  rw [if_pos h,←ext_eq cs c d h]
  exact List.mem_map.2 ⟨l,List.mem_filter.2 ⟨hl,ho⟩,rfl⟩
theorem can_upto {s:Sheet}(hS:ShFine s)(n:Nat):can (upto s n)=true↔∃d∈s.work,go s (s.coats.take (n+1)) d=true:=by
 rw [can_go (upto_fine hS n)]
 have e:∀d,go (upto s n) (upto s n).coats d=go s (s.coats.take (n+1)) d:=fun d=>go_dw (s:=upto s n) (s':=s) rfl rfl _ _
 simp only [e]; rfl
theorem can_mono {s:Sheet}(hS:ShFine s){n m:Nat}(h:n≤m)(hm:can (upto s m)=true):can (upto s n)=true:=by
 rw [can_upto hS] at hm ⊢
 obtain ⟨d,hd,hg⟩:=hm
 refine ⟨d,hd,?_⟩
 have:=go_take hS _ (n+1) d hg
 rwa [List.take_take,Nat.min_eq_left (by omega)] at this
theorem stk_spec {s:Sheet}:∀(m j:Nat),(stk s j m=-1∧∀i,j≤i→i < j+m→can (upto s i)=true)∨∃k:Nat,j≤k∧k < j+m∧stk s j m=k∧can (upto s k)=false∧∀i,j≤i→i < k→can (upto s i)=true
 | 0,j=>.inl ⟨rfl,fun i h1 h2=>by omega⟩
 | m+1,j=>by
  rw [stk]
  cases h:can (upto s j) with
  | false=>exact .inr ⟨j,Nat.le_refl _,by omega,by rw [if_neg (by simp)],h,fun i h1 h2=>by omega⟩
  | true =>
   rw [if_pos rfl]
   rcases stk_spec m (j+1) with ⟨h1,h2⟩ | ⟨k,h1,h2,h3,h4,h5⟩
   ·refine .inl ⟨h1,fun i hi hi'=>?_⟩
    by_cases e:i=j
    ·rw [e]; exact h
    ·exact h2 i (by omega) (by omega)
   ·refine .inr ⟨k,by omega,by omega,h3,h4,fun i hi hi'=>?_⟩
    by_cases e:i=j
    ·rw [e]; exact h
    ·exact h5 i (by omega) hi'
theorem stuck_spec {s:Sheet}(hS:ShFine s):(stuckAt s=-1∧can s=true∧∀i,i < s.coats.length→can (upto s i)=true)∨∃k:Nat,k < s.coats.length∧stuckAt s=k∧can s=false∧∀i,i < s.coats.length→can (upto s i)=decide (i < k):=by
 have hc:=hS.c1
 rcases stk_spec (s:=s) s.coats.length 0 with ⟨h1,h2⟩ | ⟨k,h1,h2,h3,h4,h5⟩
 ·refine .inl ⟨h1,?_,fun i hi=>h2 i (by omega) (by omega)⟩
  have:=h2 (s.coats.length - 1) (by omega) (by omega)
  rwa [upto_all hS] at this
 ·have key:∀i,i < s.coats.length→can (upto s i)=decide (i < k):=fun i hi=>by
   by_cases e:i < k
   ·rw [h5 i (by omega) e]; simp [e]
   ·cases hx:can (upto s i) with
    | false=>simp [e]
    | true=>have:=can_mono hS (Nat.le_of_not_lt e) hx; rw [h4] at this; cases this
  refine .inr ⟨k,by omega,h3,?_,key⟩
  have:=key (s.coats.length - 1) (by omega)
  rw [upto_all hS] at this
  rw [this,decide_eq_false (by omega)]
end CM
namespace CM
def wider (s:Sheet)(n:Int):Sheet:=⟨s.dry,s.work,s.coats.map fun c=>(c.1,c.2+n)⟩
def lack (s:Sheet):List (Int×Int)→List Int→Int→Int
 | c :: cs,d :: l,m=>if seg (lows s) d (til s l) < c.1 then -1 else lack s cs l (if l=[] then m else max m (seg (highs s) d (til s l) - c.2))
 | _,_,m=>m
def lackP (s:Sheet)(p:List Int):Int:=lack s s.coats p 0
def slackF (s:Sheet)(L:List (List Int)):Int:=L.foldl (fun n p=>if 0≤lackP s p∧(n < 0∨lackP s p < n) then lackP s p else n) (-1)
def slack (s:Sheet):Int:=slackF s (incs s)
theorem peel_of {s:Sheet}(h:isSheet s=true):∀x∈s.coats,x.2≤400:=by
 simp only [isSheet,Bool.and_eq_true,inL_iff,List.all_eq_true,spanOk,coatOk] at h
 exact fun x hx=>(h.2.2.2.1 x hx).2.2
theorem wider_fine {s:Sheet}(h:isSheet s=true){n:Int}(h0:0≤n)(h1:n≤600):ShFine (wider s n):=by
 have hS:=fine_of h
 have hp:=peel_of h
 refine ⟨hS.d1,hS.d2,by simpa [wider] using hS.c1,by simpa [wider] using hS.c2,hS.dry,fun x hx=>?_,hS.work,hS.rw⟩
 obtain ⟨y,hy,rfl⟩:=List.mem_map.1 hx
 have:=hS.coats y hy
 have:=hp y hy
 simp only; omega
theorem lack_iff {s:Sheet}{n:Int}:∀(cs:List (Int×Int)) (l:List Int) (m:Int) (i:Nat),0≤m →
  ((0≤lack s cs l m∧lack s cs l m≤n)↔(m≤n∧fails (wider s n) i (cs.map fun c=>(c.1,c.2+n)) l=none))
 | [],l,m,i,h=>by simp [lack,fails,h]
 | c :: cs,[],m,i,h=>by simp [lack,fails,h]
 | c :: cs,d :: l,m,i,h=>by
  rw [lack,List.map_cons,fails]
  have e1:seg (lows (wider s n)) d (til (wider s n) l)=seg (lows s) d (til s l):=rfl
  have e2:seg (highs (wider s n)) d (til (wider s n) l)=seg (highs s) d (til s l):=rfl
  rw [e1,e2]
  by_cases h1:seg (lows s) d (til s l) < c.1
  ·rw [if_pos h1,if_pos h1]; simp
  ·rw [if_neg h1,if_neg h1]
   have ih:=lack_iff cs l (if l=[] then m else max m (seg (highs s) d (til s l) - c.2)) (i+1) (n:=n) (s:=s) (by split <;> omega)
   rw [ih]
   by_cases h2:l=[]
   ·rw [if_pos h2,if_neg (fun h=>h.1 h2)]
   ·rw [if_neg h2]
    by_cases h3:c.2+n < seg (highs s) d (til s l)
    ·rw [if_pos ⟨h2,h3⟩]
     constructor
     ·rintro ⟨h4,_⟩; omega
     ·rintro ⟨_,h4⟩; cases h4
    ·rw [if_neg (fun h=>h3 h.2)]
     constructor
     ·rintro ⟨h4,h5⟩; exact ⟨by omega,h5⟩
     ·rintro ⟨h4,h5⟩; exact ⟨by omega,h5⟩
theorem inc_w (s:Sheet)(n:Int):∀(k:Nat) (d0:Int),inc (wider s n) k d0=inc s k d0
 | 0,_=>rfl
 | k+1,d0=>by
  simp only [inc]
  exact flatMap_mem fun d _=>by rw [inc_w s n k d]
theorem can_wider {s:Sheet}(h:isSheet s=true){n:Int}(h0:0≤n)(h1:n≤600):can (wider s n)=true↔∃p∈incs s,0≤lackP s p∧lackP s p≤n:=by
 have hW:=wider_fine h h0 h1
 have e:can (wider s n)=true↔∃p,p∈allP (wider s n):=by
  unfold can
  cases allP (wider s n) with
  | nil=>simp
  | cons p L=>simp
 rw [e,←all_eq hW]
 have ei:incs (wider s n)=incs s:=by
  unfold incs
  rw [inc_w]; simp [wider]
 rw [ei]
 simp only [List.mem_filter]
 have key:∀p,surely (wider s n) p=true↔0≤lackP s p∧lackP s p≤n:=fun p=>by
  unfold lackP surely
  rw [lack_iff s.coats p 0 0 (Int.le_refl _),Option.isNone_iff_eq_none]
  exact ⟨fun h=>⟨h0,h⟩,fun h=>h.2⟩
 constructor
 ·rintro ⟨p,hp,hs⟩; exact ⟨p,hp,(key p).1 hs⟩
 ·rintro ⟨p,hp,hs⟩; exact ⟨p,hp,(key p).2 hs⟩
theorem slackF_spec (s:Sheet):∀(L:List (List Int)) (n:Int),-1≤n →
  (∀p∈L,0≤lackP s p→0≤L.foldl (fun n p=>if 0≤lackP s p∧(n < 0∨lackP s p < n) then lackP s p else n) n∧L.foldl (fun n p=>if 0≤lackP s p∧(n < 0∨lackP s p < n) then lackP s p else n) n≤lackP s p) ∧
  (0≤n→0≤L.foldl (fun n p=>if 0≤lackP s p∧(n < 0∨lackP s p < n) then lackP s p else n) n∧L.foldl (fun n p=>if 0≤lackP s p∧(n < 0∨lackP s p < n) then lackP s p else n) n≤n) ∧
  (L.foldl (fun n p=>if 0≤lackP s p∧(n < 0∨lackP s p < n) then lackP s p else n) n=n∨∃p∈L,0≤lackP s p∧L.foldl (fun n p=>if 0≤lackP s p∧(n < 0∨lackP s p < n) then lackP s p else n) n=lackP s p)
 | [],n,h=>⟨by simp,fun h=>⟨h,Int.le_refl _⟩,.inl rfl⟩
 | p :: L,n,h=>by
  rw [List.foldl_cons]
  by_cases hc:0≤lackP s p∧(n < 0∨lackP s p < n)
  ·rw [if_pos hc]
   obtain ⟨a,b,c⟩:=slackF_spec s L (lackP s p) (by omega)
   have b:=b hc.1
   refine ⟨fun q hq h0=>?_,fun h0=>⟨b.1,by omega⟩,.inr ?_⟩
   ·rcases List.mem_cons.1 hq with rfl | hq
    ·exact b
    ·exact a q hq h0
   ·rcases c with c | ⟨q,hq,h0,c⟩
    ·exact ⟨p,List.mem_cons_self ..,hc.1,c⟩
    ·exact ⟨q,List.mem_cons_of_mem _ hq,h0,c⟩
  ·rw [if_neg hc]
   obtain ⟨a,b,c⟩:=slackF_spec s L n h
   refine ⟨fun q hq h0=>?_,b,?_⟩
   ·rcases List.mem_cons.1 hq with rfl | hq
    ·have:=b (by omega); exact ⟨this.1,by omega⟩
    ·exact a q hq h0
   ·rcases c with c | ⟨q,hq,h0,c⟩
    ·exact .inl c
    ·exact .inr ⟨q,List.mem_cons_of_mem _ hq,h0,c⟩
theorem slack_spec (s:Sheet):(∀p∈incs s,0≤lackP s p→0≤slack s∧slack s≤lackP s p)∧(slack s=-1∨∃p∈incs s,0≤lackP s p∧slack s=lackP s p):=by
 obtain ⟨a,_,c⟩:=slackF_spec s (incs s) (-1) (by decide)
 exact ⟨a,c⟩
theorem can_slack {s:Sheet}(h:isSheet s=true){n:Int}(h0:0≤n)(h1:n≤600):can (wider s n)=true↔0≤slack s∧slack s≤n:=by
 rw [can_wider h h0 h1]
 obtain ⟨a,c⟩:=slack_spec s
 constructor
 ·rintro ⟨p,hp,h2,h3⟩
  have:=a p hp h2
  omega
 ·rintro ⟨h2,h3⟩
  rcases c with c | ⟨p,hp,h4,h5⟩
  ·omega
  ·exact ⟨p,hp,h4,by omega⟩
theorem seg_top {s:Sheet}(hS:ShFine s)(d t:Int):0≤seg (highs s) d t∧seg (highs s) d t≤288:=by
 have hb:=sm_bound (l:=((highs s).drop d.toNat).take (t.toNat - d.toNat)) (m:=24) fun x hx=>by
  obtain ⟨y,hy,rfl⟩:=List.mem_map.1 (List.mem_of_mem_drop (List.mem_of_mem_take hx))
  have:=hS.dry y hy; omega
 have hl:(((highs s).drop d.toNat).take (t.toNat - d.toNat)).length≤12:=by
  have:=hS.d2
  simp [highs]; omega
 unfold seg
 omega
theorem lack_top {s:Sheet}(hS:ShFine s):∀(cs:List (Int×Int)) (l:List Int) (m:Int),(∀x∈cs,1≤x.2)→m≤288→lack s cs l m≤288
 | [],_,m,_,h=>by simpa [lack] using h
 | _ :: _,[],m,_,h=>by simpa [lack] using h
 | c :: cs,d :: l,m,hc,h=>by
  rw [lack]
  split
  ·decide
  ·refine lack_top hS cs l _ (fun x hx=>hc x (List.mem_cons_of_mem _ hx)) ?_
   have:=(seg_top hS d (til s l)).2
   have:=hc c (List.mem_cons_self ..)
   split <;> omega
theorem slack_top {s:Sheet}(hS:ShFine s):-1≤slack s∧slack s≤288:=by
 rcases (slack_spec s).2 with h | ⟨p,_,h0,h⟩
 ·omega
 ·rw [h]
  exact ⟨by omega,lack_top hS _ _ _ (fun x hx=>by have:=hS.coats x hx; omega) (by decide)⟩
theorem wider_zero (s:Sheet):wider s 0=s:=by
 cases s with
 | mk d w c=>simp [wider]
end CM
namespace CM
def keeps (day:Int):List Int→List Int→Bool
 | x :: l,p :: q=>!(decide (p < day)&&decide (x≠p))&&(!(decide (day≤p)&&decide (x < day))&&keeps day l q)
 | _,_=>true
def chg:List Int→List Int→Nat
 | x :: l,p :: q=>(if x=p then 0 else 1)+chg l q
 | _,_=>0
theorem keeps_succ (day:Int):∀{l q:List Int} {j:Nat} {x p:Int},l[j]?=some x→q[j]?=some p→keeps day (l.take (j+1)) (q.take (j+1))=(keeps day (l.take j) (q.take j)&&(!(decide (p < day)&&decide (x≠p))&&!(decide (day≤p)&&decide (x < day))))
 | [],_,_,_,_,h,_=>by simp at h
 | _ :: _,[],_,_,_,_,h=>by simp at h
 | a :: l,b :: q,0,x,p,h1,h2=>by
  simp only [List.getElem?_cons_zero,Option.some.injEq] at h1 h2
  subst h1; subst h2
  simp [keeps]
 | a :: l,b :: q,j+1,x,p,h1,h2=>by
  simp only [List.getElem?_cons_succ] at h1 h2
  simp only [List.take_succ_cons,keeps]
  rw [keeps_succ day h1 h2]
  simp only [Bool.and_assoc]
theorem chg_succ:∀{l q:List Int} {j:Nat} {x p:Int},l[j]?=some x→q[j]?=some p→chg (l.take (j+1)) (q.take (j+1))=chg (l.take j) (q.take j)+if x=p then 0 else 1
 | [],_,_,_,_,h,_=>by simp at h
 | _ :: _,[],_,_,_,_,h=>by simp at h
 | a :: l,b :: q,0,x,p,h1,h2=>by
  simp only [List.getElem?_cons_zero,Option.some.injEq] at h1 h2
  subst h1; subst h2
  simp [chg]
 | a :: l,b :: q,j+1,x,p,h1,h2=>by
  simp only [List.getElem?_cons_succ] at h1 h2
  simp only [List.take_succ_cons,chg]
  rw [chg_succ h1 h2]; omega
theorem chg_le:∀(l q:List Int),chg l q≤l.length
 | [],_=>by simp [chg]
 | _ :: _,[]=>by simp [chg]
 | a :: l,b :: q=>by have:=chg_le l q; simp only [chg,List.length_cons]; split <;> omega
theorem chg_self:∀(l:List Int),chg l l=0
 | []=>rfl
 | a :: l=>by simp [chg,chg_self l]
theorem keeps_self (day:Int):∀(l:List Int),keeps day l l=true
 | []=>rfl
 | a :: l=>by
  have:=keeps_self day l
  simp only [keeps,this,Bool.and_true,ne_eq,not_true_eq_false,decide_false,Bool.and_false,Bool.not_false,Bool.true_and,Bool.not_eq_true',Bool.and_eq_false_iff,decide_eq_false_iff_not]
  omega
theorem keeps_fine (x p day:Int):(!(decide (p < day)&&decide (x≠p))&&!(decide (day≤p)&&decide (x < day)))=if x=p then true else (decide (day≤p)&&decide (day≤x)):=by
 by_cases h:x=p
 ·subst h
  rw [if_pos rfl]
  simp only [ne_eq,not_true_eq_false,decide_false,Bool.and_false,Bool.not_false,Bool.true_and,Bool.not_eq_true',Bool.and_eq_false_iff,decide_eq_false_iff_not]
  omega
 ·rw [if_neg h]
  by_cases h1:p < day
  ·have:¬day≤p:=by omega
   simp [h,h1,this]
  ·have h2:day≤p:=by omega
   by_cases h3:x < day
   ·have:¬day≤x:=by omega
    simp [h1,h2,h3,this]
   ·have:day≤x:=by omega
    simp [h1,h2,h3,this]

def kept (s:Sheet)(plan:List Int)(day:Int):List (List Int):=(allP s).filter fun p=>keeps day p plan
def fewest (plan:List Int)(p:List Int)(L:List (List Int)):List Int:=bst (fun a b=>decide (chg a plan < chg b plan)) p L
theorem fewest_spec (plan:List Int):∀(L:List (List Int)) (p:List Int),(p :: L).Pairwise (fun a b=>bef a b=true) →
  chg (fewest plan p L) plan≤chg p plan∧∀o∈p :: L,chg (fewest plan p L) plan≤chg o plan∧(chg o plan=chg (fewest plan p L) plan→bef o (fewest plan p L)=false)
 | [],p,_=>by
  refine ⟨Nat.le_refl _,fun o ho=>?_⟩
  rw [List.mem_singleton.1 ho]
  exact ⟨Nat.le_refl _,fun _=>bef_irrefl _⟩
 | q :: L,p,h=>by
  obtain ⟨h1,h2⟩:=List.pairwise_cons.1 h
  obtain ⟨h3,h4⟩:=List.pairwise_cons.1 h2
  have e:fewest plan p (q :: L)=fewest plan (if decide (chg q plan < chg p plan)=true then q else p) L:=rfl
  have asym:∀{a b:List Int},bef a b=true→bef b a=false:=fun {a b} h=>by
   cases h2:bef b a with
   | false=>rfl
   | true=>have:=bef_trans h h2; rw [bef_irrefl] at this; cases this
  by_cases hc:chg q plan < chg p plan
  ·rw [if_pos (by simpa using hc)] at e
   rw [e]
   obtain ⟨i1,i2⟩:=fewest_spec plan L q h2
   refine ⟨by omega,fun o ho=>?_⟩
   rcases List.mem_cons.1 ho with rfl | ho
   ·exact ⟨by omega,fun x=>by omega⟩
   ·exact i2 o ho
  ·rw [if_neg (by simpa using hc)] at e
   rw [e]
   have hp:(p :: L).Pairwise (fun a b=>bef a b=true):=List.pairwise_cons.2 ⟨fun a ha=>h1 a (List.mem_cons_of_mem _ ha),h4⟩
   obtain ⟨i1,i2⟩:=fewest_spec plan L p hp
   refine ⟨i1,fun o ho=>?_⟩
   rcases List.mem_cons.1 ho with rfl | ho
   ·exact i2 _ (List.mem_cons_self ..)
   ·rcases List.mem_cons.1 ho with rfl | ho
    ·refine ⟨by omega,fun x=>?_⟩
     have i3:=(i2 p (List.mem_cons_self ..)).2
     have i4:fewest plan p L∈p :: L:=bst_mem
     rcases List.mem_cons.1 i4 with h5 | h5
     ·rw [h5]; exact asym (h1 _ (List.mem_cons_self ..))
     ·-- it is one of the later ones: then it has fewer changes than the first one
      have h6:bef p (fewest plan p L)=true:=h1 _ (List.mem_cons_of_mem _ h5)
      have:chg p plan≠chg (fewest plan p L) plan:=fun h7=>by rw [i3 h7] at h6; cases h6
      omega
    ·exact i2 o (List.mem_cons_of_mem _ ho)
theorem kept_mem {s:Sheet}{plan:List Int}{day:Int}{o:List Int}:o∈kept s plan day↔o∈allP s∧keeps day o plan=true:=by simp [kept]
theorem kept_pair {s:Sheet}(hS:ShFine s)(plan:List Int)(day:Int):(kept s plan day).Pairwise (fun a b=>bef a b=true):=(allP_pair hS).sublist List.filter_sublist
end CM
namespace CM
def lec:List (Int×Int)→List (Int×Int)→Prop
 | a :: l,b :: m=>(b.1≤a.1∧a.2≤b.2)∧lec l m
 | [],[]=>True
 | _,_=>False
theorem lec_len:∀{l m:List (Int×Int)},lec l m→l.length=m.length
 | [],[],_=>rfl
 | _ :: _,_ :: _,h=>by simp [lec_len h.2]
 | [],_ :: _,h=>h.elim
 | _ :: _,[],h=>h.elim
theorem lec_refl:∀l:List (Int×Int),lec l l
 | []=>trivial
 | _ :: l=>⟨⟨Int.le_refl _,Int.le_refl _⟩,lec_refl l⟩
theorem lec_set:∀{l:List (Int×Int)} {n:Nat} {x y:Int×Int},l[n]?=some x→y.1≤x.1→x.2≤y.2→lec l (l.set n y)
 | [],_,_,_,h,_,_=>by simp at h
 | a :: l,0,x,y,h,h1,h2=>by
  simp only [List.getElem?_cons_zero,Option.some.injEq] at h
  subst h
  exact ⟨⟨h1,h2⟩,lec_refl l⟩
 | a :: l,n+1,x,y,h,h1,h2=>⟨⟨Int.le_refl _,Int.le_refl _⟩,lec_set (by simpa using h) h1 h2⟩
theorem le_refl':∀l:List Int,le l l
 | []=>trivial
 | _ :: l=>⟨Int.le_refl _,le_refl' l⟩
theorem le_set:∀{l:List Int} {n:Nat} {x y:Int},l[n]?=some x→x≤y→le l (l.set n y)
 | [],_,_,_,h,_=>by simp at h
 | a :: l,0,x,y,h,h1=>by
  simp only [List.getElem?_cons_zero,Option.some.injEq] at h
  subst h
  exact ⟨h1,le_refl' l⟩
 | a :: l,n+1,x,y,h,h1=>⟨Int.le_refl _,le_set (by simpa using h) h1⟩
theorem set_le:∀{l:List Int} {n:Nat} {x y:Int},l[n]?=some x→y≤x→le (l.set n y) l
 | [],_,_,_,h,_=>by simp at h
 | a :: l,0,x,y,h,h1=>by
  simp only [List.getElem?_cons_zero,Option.some.injEq] at h
  subst h
  exact ⟨h1,le_refl' l⟩
 | a :: l,n+1,x,y,h,h1=>⟨Int.le_refl _,set_le (by simpa using h) h1⟩
structure MoreOf (s s':Sheet):Prop where
 len:s'.dry.length=s.dry.length
 lo:le (lows s) (lows s')
 hi:le (highs s') (highs s)
 wk:∀x∈s.work,x∈s'.work
 co:lec s.coats s'.coats
theorem fails_more {s s':Sheet}(h:MoreOf s s'):∀{cs cs':List (Int×Int)} (i:Nat) {l:List Int},lec cs cs'→fails s i cs l=none→fails s' i cs' l=none
 | [],[],_,[],_,_=>rfl
 | [],[],_,_ :: _,_,_=>rfl
 | _ :: _,_ :: _,_,[],_,_=>rfl
 | c :: cs,c' :: cs',i,d :: l,hl,hf=>by
  have ht:til s' l=til s l:=by cases l with | nil=>simp [til,h.len] | cons=>rfl
  simp only [fails] at hf ⊢
  rw [ht]
  have h1:=seg_le h.lo d (til s l)
  have h2:=seg_le h.hi d (til s l)
  obtain ⟨⟨h3,h4⟩,h5⟩:=hl
  split at hf
  ·cases hf
  ·rename_i k1
   split at hf
   ·cases hf
   ·rename_i k2
    rw [if_neg (by omega),if_neg (fun k=>k2 ⟨k.1,by omega⟩)]
    exact fails_more h (i+1) h5 hf
 | [],_ :: _,_,_,h,_=>h.elim
 | _ :: _,[],_,_,h,_=>h.elim
theorem MoreOf.surely {s s':Sheet}(h:MoreOf s s'){p:List Int}(hs:surely s p=true):surely s' p=true:=by
 unfold CM.surely at hs ⊢
 rw [fails_more h 0 h.co (by simpa using hs)]; rfl
theorem MoreOf.plan {s s':Sheet}(h:MoreOf s s'){p:List Int}(hs:isPlan s p=true):isPlan s' p=true:=by
 rw [isPlan_iff] at hs ⊢
 exact ⟨hs.1.trans (lec_len h.co),hs.2.1,fun d hd=>h.wk d (hs.2.2 d hd)⟩
theorem MoreOf.all {s s':Sheet}(h:MoreOf s s')(hS:ShFine s)(hS':ShFine s'){p:List Int}(hp:p∈allP s):p∈allP s':=by
 obtain ⟨h1,h2⟩:=(mem_allP hS).1 hp
 exact (mem_allP hS').2 ⟨h.plan h1,h.surely h2⟩
theorem sub_len:∀{l m:List (List Int)},l.Pairwise (fun a b=>bef a b=true)→(∀x∈l,x∈m)→l.length≤m.length
 | [],_,_,_=>Nat.zero_le _
 | x :: l,m,hp,hm=>by
  obtain ⟨h1,h2⟩:=List.pairwise_cons.1 hp
  have hx:=hm x (List.mem_cons_self ..)
  have:=sub_len (m:=m.erase x) h2 fun y hy=>(List.mem_erase_of_ne (fun e=>by subst e; have:=h1 _ hy; rw [bef_irrefl] at this; cases this)).2 (hm y (List.mem_cons_of_mem _ hy))
  rw [List.length_erase_of_mem hx] at this
  have:0 < m.length:=List.length_pos_of_mem hx
  simp only [List.length_cons]; omega
theorem MoreOf.count {s s':Sheet}(h:MoreOf s s')(hS:ShFine s)(hS':ShFine s'):(allP s).length≤(allP s').length:=sub_len (allP_pair hS) fun _ hp=>h.all hS hS' hp
theorem MoreOf.quick {s s':Sheet}(h:MoreOf s s')(hS:ShFine s)(hS':ShFine s')(hn:allP s≠[]):allP s'≠[]∧quickOf (allP s')≤quickOf (allP s):=by
 obtain ⟨p,hp,e⟩:=(quick_both (planned hS) hn).2
 have hp':=h.all hS hS' hp
 have hn':allP s'≠[]:=fun e=>by rw [e] at hp'; cases hp'
 exact ⟨hn',by rw [e]; exact (quick_both (planned hS') hn').1 p hp'⟩

def withL:List Int→Int→List Int
 | [],n=>[n]
 | x :: l,n=>if x < n then x :: withL l n else if x=n then x :: l else n :: x :: l
theorem mem_withL:∀{l:List Int} {n x:Int},x∈withL l n↔x∈l∨x=n
 | [],n,x=>by simp [withL]
 | y :: l,n,x=>by
  simp only [withL]
  split
  ·simp only [List.mem_cons,mem_withL (l:=l),or_assoc]
  ·split
   ·rename_i h; subst h; simp only [List.mem_cons]
    constructor
    ·exact fun h=>.inl h
    ·exact fun h=>h.elim id .inl
   ·simp only [List.mem_cons]
    constructor
    ·exact fun h=>h.elim .inr .inl
    ·exact fun h=>h.elim .inr .inl
theorem withL_pair:∀{l:List Int} {n:Int},l.Pairwise (· < ·)→(withL l n).Pairwise (· < ·)
 | [],n,_=>by simp [withL]
 | y :: l,n,h=>by
  obtain ⟨h1,h2⟩:=List.pairwise_cons.1 h
  simp only [withL]
  split
  ·rename_i k
   refine List.pairwise_cons.2 ⟨fun x hx=>?_,withL_pair h2⟩
   rcases mem_withL.1 hx with hx | rfl
   ·exact h1 x hx
   ·exact k
  ·split
   ·exact h
   ·refine List.pairwise_cons.2 ⟨fun x hx=>?_,h⟩
    rcases List.mem_cons.1 hx with rfl | hx
    ·omega
    ·have:=h1 x hx; omega
theorem pair_rises:∀{l:List Int},l.Pairwise (· < ·)→rises l=true
 | [],_=>rfl
 | [_],_=>rfl
 | a :: b :: l,h=>by
  obtain ⟨h1,h2⟩:=List.pairwise_cons.1 h
  simp only [rises,Bool.and_eq_true,decide_eq_true_eq]
  exact ⟨h1 b (List.mem_cons_self ..),pair_rises h2⟩
theorem withL_len (l:List Int)(n:Int):(withL l n).length≤l.length+1:=by
 induction l with
 | nil=>simp [withL]
 | cons y l ih=>simp only [withL]; split <;> (try split) <;> simp only [List.length_cons] <;> omega
def moreS (s:Sheet)(day:Nat)(sp:Int×Int)(work:Int)(n:Nat)(c:Int×Int)(k:Int):Sheet :=
 ⟨s.dry.set day sp,withL s.work work,s.coats.set n (max 1 (c.1 - k),min 400 (c.2+k))⟩
theorem more_of {s:Sheet}{day:Nat}{sp o:Int×Int}{work:Int}{n:Nat}{c:Int×Int}{k:Int}(hd:s.dry[day]?=some o)(h1:o.1≤sp.1)(h2:sp.2≤o.2)(hc:s.coats[n]?=some c)(c1:1≤c.1)(c2:c.2≤400)(hk:0≤k):MoreOf s (moreS s day sp work n c k):=by
 refine ⟨by simp [moreS],?_,?_,fun x hx=>mem_withL.2 (.inl hx),lec_set hc (by simp only; omega) (by simp only; omega)⟩
 ·simp only [lows,moreS,List.map_set]
  exact le_set (x:=o.1) (by simp [hd]) h1
 ·simp only [highs,moreS,List.map_set]
  exact set_le (x:=o.2) (by simp [hd]) h2
theorem more_sheet {s:Sheet}(hs:isSheet s=true){day:Nat}{sp o:Int×Int}{work:Int}{n:Nat}{c:Int×Int}{k:Int}(hd:s.dry[day]?=some o)(h1:o.1≤sp.1)(h2:sp.2≤o.2)(h3:sp.1≤sp.2)(hw:isDay s work=true)(hc:s.coats[n]?=some c)(hk:0≤k):isSheet (moreS s day sp work n c k)=true:=by
 simp only [isSheet,Bool.and_eq_true,inL_iff,List.all_eq_true] at hs ⊢
 obtain ⟨a1,a2,a3,a4,a5,a6⟩:=hs
 have q1:=a3 o (List.mem_of_getElem? hd)
 have q2:=a4 c (List.mem_of_getElem? hc)
 simp only [spanOk,coatOk,Bool.and_eq_true,inL_iff] at q1 q2
 refine ⟨by simpa [moreS] using a1,by simpa [moreS] using a2,fun x hx=>?_,fun x hx=>?_,pair_rises (withL_pair (rises_pair a5)),fun x hx=>?_⟩
 ·rcases List.mem_or_eq_of_mem_set hx with hx | rfl
  ·exact a3 x hx
  ·simp only [spanOk,Bool.and_eq_true,inL_iff]; omega
 ·rcases List.mem_or_eq_of_mem_set hx with hx | rfl
  ·exact a4 x hx
  ·simp only [coatOk,Bool.and_eq_true,inL_iff]; omega
 ·have:isDay (moreS s day sp work n c k) x=isDay s x:=by simp [isDay,moreS]
  rw [this]
  rcases mem_withL.1 hx with hx | rfl
  ·exact a6 x hx
  ·exact hw
end CM
