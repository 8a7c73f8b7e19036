/- Coats: which list comes before another; the theorem of proofs. -/
import Derived.Test.YtjidjpcnocddeaaGreatDoorDC
set_option linter.all false
set_option maxRecDepth 100000
namespace Go.Pi.L.Coa
open Go Go.Pi Go.Pi.L Go.Pi.Coa CM

theorem bef_end {xs ys:List Int}{a b:Nat}(ha:xs.length=a)(hb:ys.length=b):bef (xs.drop (min a b)) (ys.drop (min a b))=decide (a < b):=by
 rcases Nat.lt_trichotomy a b with h | h | h
 ·rw [Nat.min_eq_left (by omega),drop_all ha,drop_cons (List.getElem?_eq_getElem (show a < ys.length by omega))]
  simp [bef,h]
 ·subst h
  rw [Nat.min_self,drop_all ha,drop_all hb]
  simp [bef]
 ·rw [Nat.min_eq_right (by omega),drop_all hb,drop_cons (List.getElem?_eq_getElem (show b < xs.length by omega))]
  have:¬a < b:=by omega
  simp [bef,this]
theorem c40 {H:Heap}{a b:Option Addr}{la lb ka kb:Nat}{xs ys:List Int}(hx:Ints H a la xs)(hy:Ints H b lb ys)(na:la < 1000000)(nb:lb < 1000000) :
  ∀H',Grow H H'→R (.func 40) [.slice a la ka,.slice b lb kb] H'=some ⟨.ok (.bool (bef xs ys)),H',H'.length⟩:=by
 intro H' hg
 refine run_k (pr 40) P40 (by simp [p40]) rfl ?_
 have l1:=hx.isLoc ka
 have l2:=hy.isLoc kb
 simp (maxDischargeDepth:=8) only [↓SD,SU,SV,SW,simprocAttr,Int.cast_ofNat_Int,small,resV, B40,R40,N40,b40, l1,l2]
 refine loop_ind (G:=(·=_)) (fun j σ=>∃T,σ=⟨T,[],[],H',(H').length,41,false⟩∧get T 0=.slice a la ka∧get T 1=.slice b lb kb∧get T 5=.int .i64 (j:Nat)∧(bef (xs.drop j) (ys.drop j)=bef xs ys)) (min la lb) ?_ ?_ 0 _ (Nat.zero_le _) ⟨_,rfl,rfl,rfl,rfl,by simp⟩
 ·rintro c' j s hj ⟨T,rfl,t0,t1,t5,hp⟩ ih
  have h1:j < la:=by omega
  have h2:j < lb:=by omega
  obtain ⟨b1,off1,x,rfl,hx',f0⟩:=hx.i1 h1
  obtain ⟨b2,off2,y,rfl,hy',g0⟩:=hy.i1 h2
  have hw1:=wrap_succ j (by omega)
  rw [drop_cons hx',drop_cons hy',bef] at hp
  by_cases e:x=y
  ·subst e
   rw [if_pos rfl] at hp
   simp (maxDischargeDepth:=8) only [↓SD,SU,SV,SW,simprocAttr,Int.cast_ofNat_Int,small,resV, q40x0,t0,t1,t5, lt_nat,h1,h2,l1,l2,hg,f0,g0,hw1]
   exact ih _ ⟨_,rfl,(by simp [get_set,t0] <;> omega),(by simp [get_set,t1] <;> omega),(by simp [get_set,t5] <;> omega),hp⟩
  ·rw [if_neg e] at hp
   simp (maxDischargeDepth:=8) only [↓SD,SU,SV,SW,simprocAttr,Int.cast_ofNat_Int,small,resV, q40x0,t0,t1,t5, lt_nat,h1,h2,l1,l2,hg,f0,g0,e,R40,N40,←hp]
 ·rintro c' s ⟨T,rfl,t0,t1,t5,hp⟩
  rw [bef_end hx.len hy.len] at hp
  by_cases h1:la≤lb
  ·rw [Nat.min_eq_left h1] at t5
   simp (maxDischargeDepth:=8) only [↓SD,SU,SV,SW,simprocAttr,Int.cast_ofNat_Int,small,resV, q40x0,t0,t1,t5, lt_nat,Nat.lt_irrefl,l1,l2,R40,N40,←hp]
  ·rw [Nat.min_eq_right (by omega)] at t5
   have h2:lb < la:=by omega
   simp (maxDischargeDepth:=8) only [↓SD,SU,SV,SW,simprocAttr,Int.cast_ofNat_Int,small,resV, q40x0,t0,t1,t5, lt_nat,Nat.lt_irrefl,h2,l1,l2,R40,N40,←hp]
end Go.Pi.L.Coa
namespace CM

def raise:List (Int×Int)→Int→List Int×Int
 | [],m=>([],m)
 | d :: ds,m=>((d.1+min (raise ds m).2 (d.2 - d.1)) :: (raise ds m).1,(raise ds m).2 - min (raise ds m).2 (d.2 - d.1))
theorem bef_trans:∀{a b c:List Int},bef a b=true→bef b c=true→bef a c=true
 | [],_ :: _,_ :: _,_,_=>rfl
 | [],[],_,h,_=>by cases h
 | _ :: _,[],_,h,_=>by cases h
 | _,_ :: _,[],_,h=>by cases h
 | x :: a,y :: b,z :: c,h1,h2=>by
  simp only [bef] at h1 h2 ⊢
  by_cases e1:x=y
  ·subst e1
   rw [if_pos rfl] at h1
   by_cases e2:x=z
   ·subst e2; rw [if_pos rfl] at h2 ⊢; exact bef_trans h1 h2
   ·rw [if_neg e2] at h2 ⊢; exact h2
  ·rw [if_neg e1] at h1
   by_cases e2:y=z
   ·subst e2; rw [if_neg e1]; exact h1
   ·rw [if_neg e2] at h2
    simp only [decide_eq_true_eq] at h1 h2
    rw [if_neg (by omega)]; simp; omega

theorem holds_false {s:Sheet}{w:List Int}:∀{cs:List (Int×Int)} {l:List Int},holds s w cs l=false↔∃(i:Nat) (c:Int×Int) (d:Int),cs[i]?=some c∧l[i]?=some d ∧
  (seg w d (til s (l.drop (i+1))) < c.1∨(i+1 < l.length∧c.2 < seg w d (til s (l.drop (i+1)))))
 | [],l=>by cases l <;> simp [holds]
 | _ :: _,[]=>by simp [holds]
 | c :: cs,d :: l=>by
  have ih:=holds_false (s:=s) (w:=w) (cs:=cs) (l:=l)
  have hl:(l≠[])=(0 < l.length):=by rw [List.length_pos_iff]
  simp only [holds]
  by_cases h:seg w d (til s l) < c.1∨(l≠[]∧c.2 < seg w d (til s l))
  ·rw [if_pos h]
   refine ⟨fun _=>⟨0,c,d,rfl,rfl,?_⟩,fun _=>rfl⟩
   rcases h with h | h
   ·exact .inl h
   ·rw [hl] at h; exact .inr ⟨by simp; omega,h.2⟩
  ·rw [if_neg h,ih]
   constructor
   ·rintro ⟨i,c',d',h1,h2,h3⟩
    exact ⟨i+1,c',d',h1,h2,h3.imp id (fun h=>⟨by simp; omega,h.2⟩)⟩
   ·rintro ⟨i,c',d',h1,h2,h3⟩
    cases i with
    | zero =>
     simp at h1 h2; subst h1; subst h2
     refine absurd ?_ h
     rcases h3 with h3 | h3
     ·exact .inl h3
     ·exact .inr ⟨by rw [hl]; have:=h3.1; simp at this; omega,h3.2⟩
    | succ i=>exact ⟨i,c',d',h1,h2,h3.imp id (fun h=>⟨by have:=h.1; simp at this; omega,h.2⟩)⟩

structure Raised (s:Sheet)(d t:Nat)(p:Int)(l:List Int):Prop where
 is:isWeather s l=true
 sum:seg l d t=p+1
 min:∀w,isWeather s w=true→p < seg w d t→bef w l=false
end CM
namespace CM
structure PSome (s:Sheet)(plan:List Int)(j:Nat)(x:List Int):Prop where
 is:isWeather s x=true
 bad:holds s x s.coats plan=false
 min:∀(i:Nat) c d,i < j→s.coats[i]?=some c→plan[i]?=some d→i+1 < plan.length→∀w,isWeather s w=true→c.2 < seg w d (til s (plan.drop (i+1)))→bef w x=false
def PNone (s:Sheet)(plan:List Int)(j:Nat):Prop :=
 ∀(i:Nat) c d,i < j→s.coats[i]?=some c→plan[i]?=some d→i+1 < plan.length→¬c.2 < seg (highs s) d (til s (plan.drop (i+1)))
theorem PNone.zero (s:Sheet)(plan:List Int):PNone s plan 0:=fun i _ _ h=>by omega
theorem PNone.no {s:Sheet}{plan:List Int}{j:Nat}(h:PNone s plan j){c:Int×Int}{d:Int}(hc:s.coats[j]?=some c)(hd:plan[j]?=some d)(hn:j+1 < plan.length→¬c.2 < seg (highs s) d (til s (plan.drop (j+1)))):PNone s plan (j+1) :=
 fun i c' d' hi h1 h2 h3=>by
  by_cases e:i=j
  ·subst e; rw [hc] at h1; rw [hd] at h2; cases h1; cases h2; exact hn h3
  ·exact h i c' d' (by omega) h1 h2 h3
theorem PSome.no {s:Sheet}{plan x:List Int}{j:Nat}(h:PSome s plan j x){c:Int×Int}{d:Int}(hc:s.coats[j]?=some c)(hd:plan[j]?=some d)(hn:j+1 < plan.length→¬c.2 < seg (highs s) d (til s (plan.drop (j+1)))):PSome s plan (j+1) x :=
 ⟨h.is,h.bad,fun i c' d' hi h1 h2 h3 w hw hp=>by
  by_cases e:i=j
  ·subst e; rw [hc] at h1; rw [hd] at h2; cases h1; cases h2
   have:=seg_le (weather_le hw).2 d (til s (plan.drop (i+1)))
   exact absurd (by omega) (hn h3)
  ·exact h.min i c' d' (by omega) h1 h2 h3 w hw hp⟩
theorem bad_of {s:Sheet}{plan w:List Int}{j:Nat}{c:Int×Int}{d:Int}(hc:s.coats[j]?=some c)(hd:plan[j]?=some d)(hj:j+1 < plan.length)(h:c.2 < seg w d (til s (plan.drop (j+1)))):holds s w s.coats plan=false :=
 holds_false.2 ⟨j,c,d,hc,hd,.inr ⟨hj,h⟩⟩
theorem PSome.lt {s:Sheet}{plan x l:List Int}{j:Nat}(h:PSome s plan j x){c:Int×Int}{d t:Nat}(hc:s.coats[j]?=some c)(hd:plan[j]?=some (d:Int))(hj:j+1 < plan.length)(ht:til s (plan.drop (j+1))=(t:Int))(hl:Raised s d t c.2 l)(hb:bef l x=true):PSome s plan (j+1) l :=
 ⟨hl.is,bad_of hc hd hj (by rw [ht,hl.sum]; omega),fun i c' d' hi h1 h2 h3 w hw hp=>by
  by_cases e:i=j
  ·subst e; rw [hc] at h1; rw [hd] at h2; cases h1; cases h2
   rw [ht] at hp
   exact hl.min w hw hp
  ·have h4:=h.min i c' d' (by omega) h1 h2 h3 w hw hp
   cases h5:bef w l with
   | false=>rfl
   | true=>rw [bef_trans h5 hb] at h4; cases h4⟩
theorem PNone.done {s:Sheet}{plan:List Int}{j:Nat}(h:PNone s plan j)(hj:plan.length≤j)(h0:holds s (lows s) s.coats plan=true):surely s plan=true:=by
 unfold surely
 cases hf:fails s 0 s.coats plan with
 | none=>rfl
 | some y =>
  obtain ⟨n,w⟩:=y
  obtain ⟨m,c,d,hn,hc,hd,hw,_⟩:=(fails_spec s.coats 0 plan).2 n w hf
  have hm:=(List.getElem?_eq_some_iff.1 hd).1
  rcases hw with ⟨_,hw⟩ | ⟨_,_,h1,h2⟩
  ·rw [holds_false.2 ⟨m,c,d,hc,hd,.inl hw⟩] at h0; cases h0
  ·exact absurd h2 (h m c d (by omega) hc hd h1)
theorem PSome.done {s:Sheet}{plan x:List Int}{j:Nat}(h:PSome s plan j x)(hj:plan.length≤j)(h0:holds s (lows s) s.coats plan=true):Least s plan x :=
 ⟨h.is,h.bad,fun w hw hb=>by
  obtain ⟨i,c,d,hc,hd,hp⟩:=holds_false.1 hb
  have hi:=(List.getElem?_eq_some_iff.1 hd).1
  rcases hp with hp | hp
  ·have:=seg_le (weather_le hw).1 d (til s (plan.drop (i+1)))
   rw [holds_false.2 ⟨i,c,d,hc,hd,.inl (by omega)⟩] at h0; cases h0
  ·exact h.min i c d (by omega) hc hd hp.1 w hw hp.2⟩
end CM
namespace CM
def rz (s:Sheet)(t j:Nat)(m:Int):List Int×Int:=raise ((s.dry.drop (t - j)).take j) m
def cur (s:Sheet)(t j:Nat)(m:Int):List Int:=(lows s).take (t - j)++((rz s t j m).1++(lows s).drop t)
end CM
namespace CM

def stands (s:Sheet)(c:Int×Int)(d t:Int)(peels:Bool):Bool:=!decide (seg (lows s) d t < c.1)&&!(peels&&decide (c.2 < seg (highs s) d t))
def go (s:Sheet):List (Int×Int)→Int→Bool
 | [],_=>true
 | [c],d=>stands s c d s.dry.length false
 | c :: c' :: cs,d=>s.work.any fun t=>decide (d < t)&&(stands s c d t true&&go s (c' :: cs) t)
def ext (s:Sheet):List (Int×Int)→Int×Int→Int→List (List Int)
 | [],_,_=>[[]]
 | c :: cs,c0,d0=>s.work.flatMap fun d=>if d0 < d∧go s (c :: cs) d=true∧stands s c0 d0 d true=true then (ext s cs c d).map (d :: ·) else []
def allP (s:Sheet):List (List Int) :=
 match s.coats with
 | []=>[[]]
 | c :: cs=>s.work.flatMap fun d=>if go s (c :: cs) d=true then (ext s cs c d).map (d :: ·) else []
def inc (s:Sheet):Nat→Int→List (List Int)
 | 0,_=>[[]]
 | n+1,d0=>s.work.flatMap fun d=>if d0 < d then (inc s n d).map (d :: ·) else []
def incs (s:Sheet):List (List Int):=inc s s.coats.length (-1)

def okf (s:Sheet)(c0:Int×Int)(d0:Int)(cs:List (Int×Int))(l:List Int):Bool:=(fails s 0 (c0 :: cs) (d0 :: l)).isNone
theorem fails_idx {s:Sheet}:∀(cs:List (Int×Int)) (l:List Int) (i j:Nat),(fails s i cs l).isNone=(fails s j cs l).isNone
 | [],l,_,_=>by cases l <;> rfl
 | _ :: _,[],_,_=>rfl
 | c :: cs,d :: l,i,j=>by
  simp only [fails]
  split
  ·rfl
  ·split
   ·rfl
   ·exact fails_idx cs l _ _
theorem okf_nil (s:Sheet)(c0:Int×Int)(d0:Int)(cs:List (Int×Int)):okf s c0 d0 cs []=stands s c0 d0 s.dry.length false:=by
 simp only [okf,fails,stands,til]
 by_cases h:seg (lows s) d0 s.dry.length < c0.1
 ·simp [h]
 ·cases cs <;> simp [h,fails]
theorem okf_cons (s:Sheet)(c0 c:Int×Int)(d0 d:Int)(cs:List (Int×Int))(l:List Int):okf s c0 d0 (c :: cs) (d :: l)=(stands s c0 d0 d true&&okf s c d cs l):=by
 unfold okf
 rw [fails,stands]
 by_cases h:seg (lows s) d0 (til s (d :: l)) < c0.1
 ·have h':seg (lows s) d0 d < c0.1:=h
  rw [if_pos h]; simp [h']
 ·have h':¬seg (lows s) d0 d < c0.1:=h
  by_cases h2:c0.2 < seg (highs s) d0 (til s (d :: l))
  ·have h3:c0.2 < seg (highs s) d0 d:=h2
   rw [if_neg h,if_pos ⟨by simp,h2⟩]; simp [h3]
  ·have h3:¬c0.2 < seg (highs s) d0 d:=h2
   rw [if_neg h,if_neg (fun x=>h2 x.2),fails_idx (c :: cs) (d :: l) _ 0]; simp [h',h3]

theorem flatMap_mem {β γ:Type}{l:List β}{f g:β→List γ}(h:∀x∈l,f x=g x):l.flatMap f=l.flatMap g:=by
 simp only [List.flatMap]; rw [List.map_congr_left h]
theorem any_const {β:Type}(a:Bool)(p:β→Bool)(l:List β):(l.any fun x=>a&&p x)=(a&&l.any p):=by
 cases a
 ·simp
 ·simp
theorem go_iff {s:Sheet}:∀(cs:List (Int×Int)) (c0:Int×Int) (d0:Int),go s (c0 :: cs) d0=(inc s cs.length d0).any fun l=>okf s c0 d0 cs l
 | [],c0,d0=>by simp [go,inc,okf_nil]
 | c :: cs,c0,d0=>by
  simp only [go,List.length_cons,inc,List.any_flatMap]
  congr 1; funext d
  by_cases h:d0 < d
  ·simp only [h,decide_true,Bool.true_and,if_true,List.any_map]
   rw [go_iff cs c d]
   rw [←any_const]
   congr 1; funext l
   simp only [Function.comp_apply]
   rw [okf_cons]
  ·simp [h]
theorem ext_eq {s:Sheet}:∀(cs:List (Int×Int)) (c0:Int×Int) (d0:Int),go s (c0 :: cs) d0=true→(inc s cs.length d0).filter (fun l=>okf s c0 d0 cs l)=ext s cs c0 d0
 | [],c0,d0,h=>by
  rw [go_iff] at h
  simp only [List.length_nil,inc,ext] at h ⊢
  simpa using h
 | c :: cs,c0,d0,h=>by
  simp only [List.length_cons,inc,ext,List.filter_flatMap]
  congr 1; funext d
  by_cases h1:d0 < d
  ·simp only [h1,if_true,true_and,List.filter_map]
   have e:((fun l=>okf s c0 d0 (c :: cs) l) ∘ fun x=>d :: x)=fun l=>stands s c0 d0 d true&&okf s c d cs l:=by funext l; simp only [Function.comp_apply]; rw [okf_cons]
   rw [e]
   cases h2:stands s c0 d0 d true with
   | false=>simp
   | true =>
    simp only [Bool.true_and,and_true]
    cases h3:go s (c :: cs) d with
    | true=>rw [if_pos rfl,ext_eq cs c d h3]
    | false =>
     rw [go_iff] at h3
     rw [if_neg (by simp),List.map_eq_nil_iff,List.filter_eq_nil_iff]
     intro l hl
     rw [List.any_eq_false] at h3
     exact h3 l hl
  ·simp [h1]
theorem all_eq {s:Sheet}(hS:ShFine s):(incs s).filter (surely s)=allP s:=by
 obtain ⟨c,cs,hc⟩:∃c cs,s.coats=c :: cs:=by
  cases h:s.coats with
  | nil=>have:=hS.c1; rw [h] at this; simp at this
  | cons c cs=>exact ⟨c,cs,rfl⟩
 unfold incs allP
 rw [hc]
 simp only [List.length_cons,inc,List.filter_flatMap]
 refine flatMap_mem ?_
 intro d hd
 have h0:=(hS.work d hd).1
 rw [if_pos (by omega),List.filter_map]
 have e:(surely s ∘ fun x=>d :: x)=fun l=>okf s c d cs l:=by funext l; simp only [Function.comp_apply,surely,okf,hc]
 rw [e]
 cases h3:go s (c :: cs) d with
 | true=>rw [if_pos rfl,ext_eq cs c d h3]
 | false =>
  rw [go_iff] at h3
  rw [if_neg (by simp),List.map_eq_nil_iff,List.filter_eq_nil_iff]
  intro l hl
  rw [List.any_eq_false] at h3
  exact h3 l hl

theorem mem_inc {s:Sheet}:∀{n:Nat} {d0:Int} {l:List Int},l∈inc s n d0↔l.length=n∧rises (d0 :: l)=true∧∀d∈l,d∈s.work
 | 0,d0,l=>by
  simp only [inc,List.mem_singleton]
  constructor
  ·rintro rfl; simp [rises]
  ·rintro ⟨h,_⟩; exact List.eq_nil_of_length_eq_zero h
 | n+1,d0,l=>by
  simp only [inc,List.mem_flatMap]
  constructor
  ·rintro ⟨d,hd,h⟩
   split at h
   ·rename_i hlt
    obtain ⟨l',hl',rfl⟩:=List.mem_map.1 h
    obtain ⟨h1,h2,h3⟩:=mem_inc.1 hl'
    refine ⟨by simp [h1],by simp only [rises,Bool.and_eq_true,decide_eq_true_eq]; exact ⟨hlt,h2⟩,fun x hx=>?_⟩
    rcases List.mem_cons.1 hx with rfl | hx
    ·exact hd
    ·exact h3 x hx
   ·simp at h
  ·rintro ⟨h1,h2,h3⟩
   cases l with
   | nil=>simp at h1
   | cons d l =>
    simp only [rises,Bool.and_eq_true,decide_eq_true_eq] at h2
    refine ⟨d,h3 d (List.mem_cons_self ..),?_⟩
    rw [if_pos h2.1]
    exact List.mem_map.2 ⟨l,mem_inc.2 ⟨by simpa using h1,h2.2,fun x hx=>h3 x (List.mem_cons_of_mem _ hx)⟩,rfl⟩
theorem rises_neg {s:Sheet}(hS:ShFine s){l:List Int}(h:∀d∈l,d∈s.work):rises (-1 :: l)=rises l:=by
 cases l with
 | nil=>rfl
 | cons d l =>
  have:=(hS.work d (h d (List.mem_cons_self ..))).1
  rw [rises,show decide (-1 < d)=true by simp; omega,Bool.true_and]
theorem isPlan_iff {s:Sheet}{l:List Int}:isPlan s l=true↔l.length=s.coats.length∧rises l=true∧∀d∈l,d∈s.work:=by
 simp only [isPlan,Bool.and_eq_true,decide_eq_true_eq,List.all_eq_true,List.any_eq_true]
 constructor
 ·rintro ⟨h1,h2,h3⟩
  exact ⟨h1,h2,fun d hd=>by obtain ⟨x,hx,rfl⟩:=h3 d hd; exact hx⟩
 ·rintro ⟨h1,h2,h3⟩
  exact ⟨h1,h2,fun d hd=>⟨d,h3 d hd,rfl⟩⟩
theorem mem_incs {s:Sheet}(hS:ShFine s){l:List Int}:l∈incs s↔isPlan s l=true:=by
 unfold incs
 rw [mem_inc,isPlan_iff]
 constructor
 ·rintro ⟨h1,h2,h3⟩; rw [rises_neg hS h3] at h2; exact ⟨h1,h2,h3⟩
 ·rintro ⟨h1,h2,h3⟩; exact ⟨h1,by rw [rises_neg hS h3]; exact h2,h3⟩
theorem mem_allP {s:Sheet}(hS:ShFine s){l:List Int}:l∈allP s↔isPlan s l=true∧surely s l=true:=by
 rw [←all_eq hS,List.mem_filter,mem_incs hS]

theorem rises_pair:∀{l:List Int},rises l=true→l.Pairwise (· < ·)
 | [],_=>List.Pairwise.nil
 | [x],_=>by simp
 | x :: y :: l,h=>by
  simp only [rises,Bool.and_eq_true,decide_eq_true_eq] at h
  have ih:=rises_pair h.2
  refine List.Pairwise.cons ?_ ih
  intro z hz
  rcases List.mem_cons.1 hz with rfl | hz
  ·exact h.1
  ·have:=(List.pairwise_cons.1 ih).1 z hz; omega
theorem inc_pair {s:Sheet}(hw:s.work.Pairwise (· < ·)):∀(n:Nat) (d0:Int),(inc s n d0).Pairwise (fun a b=>bef a b=true)
 | 0,_=>by simp [inc]
 | n+1,d0=>by
  simp only [inc]
  rw [List.pairwise_flatMap]
  refine ⟨fun d _=>?_,hw.imp ?_⟩
  ·split
   ·rw [List.pairwise_map]
    exact (inc_pair hw n d).imp fun {a b} h=>by simpa [bef] using h
   ·exact List.Pairwise.nil
  ·intro d d' hlt x hx y hy
   split at hx
   ·split at hy
    ·obtain ⟨a,_,rfl⟩:=List.mem_map.1 hx
     obtain ⟨b,_,rfl⟩:=List.mem_map.1 hy
     rw [bef,if_neg (by omega)]; simpa using hlt
    ·simp at hy
   ·simp at hx
theorem allP_pair {s:Sheet}(hS:ShFine s):(allP s).Pairwise (fun a b=>bef a b=true):=by
 rw [←all_eq hS]
 exact (inc_pair (rises_pair hS.rw) _ _).filter _
def ch:Nat→Nat→Nat
 | _,0=>1
 | 0,_+1=>0
 | m+1,n+1=>ch m n+ch m (n+1)
theorem ch_bound:∀m,m≤12→∀n,n≤5→ch m n≤792:=by decide
def gt (w:List Int)(d:Int):List Int:=w.filter fun x=>decide (d < x)
theorem ch_sum (n:Nat):∀{w:List Int},w.Pairwise (· < ·)→(w.map fun d=>ch (gt w d).length n).sum=ch w.length (n+1)
 | [],_=>rfl
 | x :: w,h=>by
  obtain ⟨h1,h2⟩:=List.pairwise_cons.1 h
  have ih:=ch_sum n h2
  have e1:gt (x :: w) x=w:=by
   unfold gt
   rw [List.filter_cons_of_neg (by simp),List.filter_eq_self]
   intro y hy; simpa using h1 y hy
  have e2:∀d∈w,gt (x :: w) d=gt w d:=fun d hd=>by
   unfold gt
   rw [List.filter_cons_of_neg (by have:=h1 d hd; simp; omega)]
  rw [List.map_cons,List.sum_cons,e1,List.length_cons,ch,←ih]
  congr 1
  refine congrArg List.sum (List.map_congr_left fun d hd=>?_)
  rw [e2 d hd]
theorem sum_if {w:List Int}(f:Int→Nat)(p:Int→Prop)[DecidablePred p]:(w.map fun d=>if p d then f d else 0).sum=((w.filter fun d=>decide (p d)).map f).sum:=by
 induction w with
 | nil=>rfl
 | cons x w ih =>
  by_cases h:p x
  ·rw [List.filter_cons_of_pos (by simpa using h),List.map_cons,List.map_cons,List.sum_cons,List.sum_cons,ih,if_pos h]
  ·rw [List.filter_cons_of_neg (by simpa using h),List.map_cons,List.sum_cons,ih,if_neg h,Nat.zero_add]
theorem inc_len {s:Sheet}(hw:s.work.Pairwise (· < ·)):∀(n:Nat) (d0:Int),(inc s n d0).length=ch (gt s.work d0).length n
 | 0,d0=>by simp [inc,ch]
 | n+1,d0=>by
  simp only [inc,List.length_flatMap]
  have e1:(s.work.map fun d=>(if d0 < d then (inc s n d).map (d :: ·) else []).length)=s.work.map fun d=>if d0 < d then ch (gt s.work d).length n else 0:=by
   refine List.map_congr_left fun d _=>?_
   split
   ·rw [List.length_map,inc_len hw n d]
   ·rfl
  rw [e1,sum_if (fun d=>ch (gt s.work d).length n) (fun d=>d0 < d)]
  rw [←ch_sum n (w:=gt s.work d0) (hw.filter _)]
  refine congrArg List.sum (List.map_congr_left fun d hd=>?_)
  have hlt:d0 < d:=by simpa [gt] using (List.mem_filter.1 hd).2
  congr 2
  unfold gt
  rw [List.filter_filter]
  refine List.filter_congr fun x _=>?_
  by_cases h:d < x
  ·have:d0 < x:=by omega
   simp [h,this]
  ·simp [h]
theorem rises_len:∀{l:List Int} {a b:Int},l.Pairwise (· < ·)→(∀x∈l,a≤x∧x < b)→(l.length:Int)≤max 0 (b - a)
 | [],a,b,_,_=>by simp; omega
 | x :: l,a,b,h,hb=>by
  obtain ⟨h1,h2⟩:=List.pairwise_cons.1 h
  have:=rises_len (a:=x+1) (b:=b) h2 fun y hy=>⟨by have:=h1 y hy; omega,(hb y (List.mem_cons_of_mem _ hy)).2⟩
  have:=hb x (List.mem_cons_self ..)
  simp only [List.length_cons]; omega
theorem work_len {s:Sheet}(hS:ShFine s):s.work.length≤12:=by
 have:=rises_len (rises_pair hS.rw) hS.work
 have:=hS.d2
 omega
theorem allP_len {s:Sheet}(hS:ShFine s):(allP s).length≤792:=by
 rw [←all_eq hS]
 refine Nat.le_trans (List.length_filter_le _ _) ?_
 unfold incs
 rw [inc_len (rises_pair hS.rw)]
 refine ch_bound _ ?_ _ hS.c2
 exact Nat.le_trans (List.length_filter_le _ _) (work_len hS)
end CM
namespace Go.Pi.L
open Go Go.Pi

structure Chg (A:Nat→Prop)(H H':Heap):Prop where
 len:H.length≤H'.length
 old:∀i,i < H.length→¬A i→H'[i]?=H[i]?
theorem Chg.refl (A:Nat→Prop)(H:Heap):Chg A H H:=⟨Nat.le_refl _,fun _ _ _=>rfl⟩
theorem Chg.mono {A B:Nat→Prop}{H H':Heap}(h:Chg A H H')(hab:∀i,i < H.length→A i→B i):Chg B H H':=⟨h.len,fun i hi hb=>h.old i hi fun ha=>hb (hab i hi ha)⟩
theorem Chg.trans {A B:Nat→Prop}{H H1 H2:Heap}(h:Chg A H H1)(h':Chg B H1 H2)(hb:∀i,i < H.length→B i→A i):Chg A H H2 :=
 ⟨Nat.le_trans h.len h'.len,fun i hi ha=>by rw [h'.old i (Nat.lt_of_lt_of_le hi h.len) (fun x=>ha (hb i hi x)),h.old i hi ha]⟩
theorem Up.chg {A:Nat→Prop}{H H':Heap}(h:Up H H'):Chg A H H':=⟨h.len,fun i hi _=>h.old i hi⟩
theorem Chg.up {A:Nat→Prop}{H H':Heap}(h:Chg A H H')(ha:∀i,i < H.length→¬A i):Up H H':=⟨h.len,fun i hi=>h.old i hi (ha i hi)⟩
theorem Chg.set {A:Nat→Prop}{H:Heap}{i:Nat}(b:Blk)(h:A i):Chg A H (H.set i b):=⟨by simp,fun j _ hj=>by rw [List.getElem?_set_ne (fun e=>by subst e; exact hj h)]⟩
def And' (A:Nat→Prop)(H H':Heap):Nat→Prop:=fun i=>A i∨(H.length≤i∧i < H'.length)
def NF (A:Nat→Prop)(H:Heap):Prop:=∀(i:Nat) b g,H[i]?=some b→b.fam=some g→A g→A i
def Lt (A:Nat→Prop)(H:Heap):Prop:=∀i,A i→i < H.length
theorem Lt.and {A:Nat→Prop}{H H':Heap}(h:Lt A H)(hl:H.length≤H'.length):Lt (And' A H H') H':=fun i hi=>by
 rcases hi with hi | hi
 ·exact Nat.lt_of_lt_of_le (h i hi) hl
 ·exact hi.2
theorem Lt.chg {A:Nat→Prop}{H H':Heap}(h:Lt A H)(hl:H.length≤H'.length):Lt A H':=fun i hi=>Nat.lt_of_lt_of_le (h i hi) hl
theorem NF.and {A:Nat→Prop}{H H':Heap}(h:NF A H)(hF:Fam H)(hc:Chg A H H'):NF (And' A H H') H':=fun i b g hi hg ha=>by
 by_cases hlt:i < H.length
 ·by_cases hai:A i
  ·exact .inl hai
  ·rw [hc.old i hlt hai] at hi
   rcases ha with ha | ha
   ·exact .inl (h i b g hi hg ha)
   ·have:=hF i b g hi hg; omega
 ·exact .inr ⟨by omega,(List.getElem?_eq_some_iff.1 hi).1⟩
theorem Sl.chg {β:Type}{A:Nat→Prop}{H H':Heap}{k:Nat}{enc:β→List Value}{a:Option Addr}{l:Nat}{xs:List β}(h:Sl H k enc a l xs)(c:Chg A H H')(ha:∀b off,a=some ⟨b,off,Option.none⟩→¬A b):Sl H' k enc a l xs :=
 ⟨h.len,h.loc,fun j x hx=>by
  obtain ⟨b,off,c',h1,h2,h3⟩:=h.rd j x hx
  refine ⟨b,off,c',h1,?_,h3⟩
  have hl:=hc_lt h2
  unfold hcells at h2 ⊢
  rw [c.old b hl (ha b off h1)]; exact h2⟩

structure Pfx (A:Nat→Prop)(H:Heap)(k:Nat)(a:Option Addr)(l m:Nat)(c:List Value):Prop where
 len:c.length=l*k
 ok:(a=none∧l=0∧m=0)∨∃b f c',a=some ⟨b,0,none⟩∧m=k∧A b∧A f∧l*k≤c'.length∧c'.take (l*k)=c∧H[b]?=some ⟨.cells c',true,true,some f⟩
theorem Pfx.nil (A:Nat→Prop)(H:Heap)(k:Nat):Pfx A H k none 0 0 []:=⟨by simp,.inl ⟨rfl,rfl,rfl⟩⟩
theorem Pfx.isLoc {A:Nat→Prop}{H:Heap}{k:Nat}{a:Option Addr}{l m:Nat}{c:List Value}(h:Pfx A H k a l m c)(x y:Nat):Go.Pi.isLoc (.slice a x y)=false:=by
 rcases h.ok with ⟨rfl,_⟩ | ⟨b,f,c',rfl,_⟩ <;> rfl
theorem Pfx.same {A B:Nat→Prop}{H H':Heap}{k:Nat}{a:Option Addr}{l m:Nat}{c:List Value}(h:Pfx A H k a l m c)(hab:∀i,A i→B i)(hs:∀i,A i→H'[i]?=H[i]?):Pfx B H' k a l m c :=
 ⟨h.len,by
  rcases h.ok with h | ⟨b,f,c',h1,h2,h3,h4,h5,h6,h7⟩
  ·exact .inl h
  ·exact .inr ⟨b,f,c',h1,h2,hab b h3,hab f h4,h5,h6,by rw [hs b h3]; exact h7⟩⟩
theorem Pfx.cut {A:Nat→Prop}{H:Heap}{k:Nat}{a:Option Addr}{l m:Nat}{c:List Value}(h:Pfx A H k a l m c){n:Nat}(hn:n≤l):Pfx A H k a n m (c.take (n*k)):=by
 have hnk:n*k≤l*k:=Nat.mul_le_mul_right _ hn
 refine ⟨by rw [List.length_take,h.len]; omega,?_⟩
 rcases h.ok with ⟨rfl,rfl,rfl⟩ | ⟨b,f,c',h1,h2,h3,h4,h5,h6,h7⟩
 ·exact .inl ⟨rfl,by omega,rfl⟩
 ·refine .inr ⟨b,f,c',h1,h2,h3,h4,by omega,?_,h7⟩
  rw [←h6,List.take_take,Nat.min_eq_left hnk]
theorem Pfx.sl {β:Type}{A:Nat→Prop}{H:Heap}{k:Nat}{enc:β→List Value}{a:Option Addr}{l m:Nat}{xs:List β}(h:Pfx A H k a l m (cells enc xs))(hk:∀x,(enc x).length=k)(hk0:0 < k):Sl H k enc a l xs:=by
 have hl:xs.length=l:=by have:=h.len; rw [cells_len hk] at this; exact Nat.eq_of_mul_eq_mul_right hk0 this
 refine ⟨hl,?_,fun j x hx=>?_⟩
 ·rcases h.ok with ⟨h,_⟩ | ⟨b,f,c',h1,_⟩
  ·exact .inl h
  ·exact .inr ⟨b,0,h1⟩
 ·have hj:=(List.getElem?_eq_some_iff.1 hx).1
  rcases h.ok with ⟨_,h1,_⟩ | ⟨b,f,c',h1,_,_,_,h5,h6,h7⟩
  ·omega
  ·refine ⟨b,0,c',h1,by simp [hcells,h7],?_⟩
   have:=cells_get hk hx
   rw [←h6] at this
   rw [Nat.zero_add,←this,List.drop_take,List.take_take,Nat.min_eq_left]
   have h8:(j+1)*k≤l*k:=Nat.mul_le_mul_right _ (by omega)
   rw [Nat.add_mul,Nat.one_mul] at h8; omega

section
variable {α:Type} {call:CallT} {F:Ex→St→Option α} {k:List It}
theorem apA_cut (c f new p l kk d T S D H lo n rnd)(hb:H[p]?=some ⟨.cells c,true,true,some f⟩)(h1:new.length % kk=0)(h2:l+new.length < 1048576)(h3:new.isEmpty=false)(h4:0 < kk)(h5:l*kk≤c.length)(h6:l*kk≠c.length) :
  ap1 call F (some new) (.slice (some ⟨p,0,none⟩) l kk) kk d k ⟨T,S,D,H,lo,n,rnd⟩=nxt call F (some (.slice (some ⟨H.length,0,none⟩) (l+new.length / kk) kk)) d k ⟨T,S,D,(kill f H).set p ⟨.cells c,false,false,some f⟩++[⟨.cells (c.take (l*kk)++new),true,true,some f⟩],min lo (min f p),n,rnd⟩:=by
 have h2:l+new.length < small:=h2
 have hop:appB ⟨T,S,D,H,lo,n,rnd⟩ kk new (some ⟨p,0,none⟩) l kk d=putO ⟨T,S,D,(kill f H).set p ⟨.cells c,false,false,some f⟩++[⟨.cells (c.take (l*kk)++new),true,true,some f⟩],min lo (min f p),n,rnd⟩ d (.slice (some ⟨H.length,0,none⟩) (l+new.length / kk) kk):=by
  unfold appB
  rw [if_neg (by simp [isLoc]),if_neg (by simp only [not_or,Decidable.not_not]; exact ⟨h1,by omega⟩),if_neg (by simp [h3])]
  simp only [hb]
  rw [if_pos ⟨trivial,h4,by omega⟩,if_neg (by omega)]
  simp only [List.drop_zero]
 simp only [ap1,hop]
 exact go_putO
end
theorem Pfx.app {A:Nat→Prop}{H:Heap}{k n0:Nat}{a:Option Addr}{l m:Nat}{c:List Value}(h:Pfx A H k a l m c)(hA:Lt A H)(hN:NF A H)(hF:Fam H)(h0:∀i,A i→n0≤i)(hk:0 < k)(hk2:k < 1000)(hl:l < 1000000)(new:List Value)(hnew:new.length=k) :
  ∃(H1:Heap) (lf:Nat→Nat),(∀lo,(n0≤lo→n0≤lf lo)∧lf lo≤lo)∧(∀{α:Type} (call:CallT) (F:Ex→St→Option α) d kk T S D lo n rnd,ap1 call F (some new) (.slice a l m) k d kk ⟨T,S,D,H,lo,n,rnd⟩=nxt call F (some (.slice (some ⟨H.length,0,none⟩) (l+1) k)) d kk ⟨T,S,D,H1,lf lo,n,rnd⟩) ∧
   Pfx (And' A H H1) H1 k (some ⟨H.length,0,none⟩) (l+1) k (c++new)∧Chg A H H1∧Fam H1∧H1.length=H.length+1∧∀(i:Nat) b,H[i]?=some b→b.fam=none→H1[i]?=some b:=by
 have he:new.isEmpty=false:=by cases new with | nil=>simp at hnew; omega | cons=>rfl
 have hlen:=h.len
 have hm:new.length % k=0:=by rw [hnew]; exact Nat.mod_self _
 have hd:new.length / k=1:=by rw [hnew]; exact Nat.div_self hk
 rcases h.ok with ⟨rfl,rfl,rfl⟩ | ⟨b,f,c',rfl,rfl,h3,h4,h5,h6,h7⟩
 ·have hc:c=[]:=by simpa using hlen
  subst hc
  refine ⟨H++[⟨.cells new,true,true,some H.length⟩],fun lo=>lo,fun _=>⟨fun h=>h,Nat.le_refl _⟩,fun call F d kk T S D lo n rnd=>?_,⟨by simp [hnew],.inr ⟨_,H.length,new,rfl,rfl,.inr ⟨Nat.le_refl _,by simp⟩,.inr ⟨Nat.le_refl _,by simp⟩,by omega,?_,by simp⟩⟩,(Up.refl H).app.chg,Fam.app1 hF (Nat.le_refl _),by simp,fun i b h _=>by rw [List.getElem?_append_left (List.getElem?_eq_some_iff.1 h).1]; exact h⟩
  ·rw [apA_nil _ _ _ _ _ _ _ _ _ _ hm (by omega) he,hd]
  ·rw [List.nil_append,List.take_of_length_le (by omega)]
 ·have hb:=(List.getElem?_eq_some_iff.1 h7).1
  by_cases heq:l*m=c'.length
  ·have hcc:c'=c:=by rw [←h6,List.take_of_length_le (by omega)]
   subst hcc
   refine ⟨H.set b ⟨.cells c',true,false,some f⟩++[⟨.cells (c'++new),true,true,some f⟩],fun lo=>lo,fun _=>⟨fun h=>h,Nat.le_refl _⟩,fun call F d kk T S D lo n rnd=>?_,⟨by simp [hnew,hlen,Nat.add_mul],.inr ⟨_,f,c'++new,rfl,rfl,.inr ⟨Nat.le_refl _,by simp⟩,.inl h4,?_,?_,?_⟩⟩,?_,?_,by simp,fun i b0 h hb0=>by rw [List.getElem?_append_left (by simpa using (List.getElem?_eq_some_iff.1 h).1),List.getElem?_set_ne (fun e=>by subst e; rw [h7] at h; cases h; cases hb0)]; exact h⟩
   ·rw [apA_tip]
    simp only [h7]
    rw [apB_ok _ _ _ _ _ _ _ _ _ _ _ _ _ _ hm (by omega) he hk heq,hd]
   ·simp [hnew,hlen,Nat.add_mul]
   ·rw [List.take_of_length_le]; simp [hnew,hlen,Nat.add_mul]
   ·rw [List.getElem?_append_right (by simp)]; simp
   ·refine Chg.trans (Chg.set (A:=A) _ h3) ((Up.refl _).app.chg (A:=A)) fun i _ h=>h
   ·refine Fam.app1 (hF.set (b:=⟨.cells c',true,false,some f⟩) h7 rfl) ?_
    have:=hF b _ f h7 rfl
    simp only [List.length_set]; omega
  ·refine ⟨(kill f H).set b ⟨.cells c',false,false,some f⟩++[⟨.cells (c++new),true,true,some f⟩],fun lo=>min lo (min f b),fun lo=>⟨fun hlo=>?_,Nat.min_le_left _ _⟩,fun call F d kk T S D lo n rnd=>?_,⟨by simp [hnew,hlen,Nat.add_mul],.inr ⟨_,f,c++new,rfl,rfl,.inr ⟨Nat.le_refl _,?_⟩,.inl h4,?_,?_,?_⟩⟩,?_,?_,?_,fun i b0 h hb0=>by rw [List.getElem?_append_left (by simpa [kill_length] using (List.getElem?_eq_some_iff.1 h).1),List.getElem?_set_ne (fun e=>by subst e; rw [h7] at h; cases h; cases hb0),kill_get,h]; simp [hb0]⟩
   ·have:=h0 f h4; have:=h0 b h3; simp only [Nat.le_min]; exact ⟨hlo,by omega,by omega⟩
   ·rw [apA_cut c' f new b l m d T S D H lo n rnd h7 hm (by omega) he hk h5 heq,h6,hd]
   ·simp [kill_length]
   ·simp [hnew,hlen,Nat.add_mul]
   ·rw [List.take_of_length_le]; simp [hnew,hlen,Nat.add_mul]
   ·rw [List.getElem?_append_right (by simp [kill_length])]; simp [kill_length]
   ·refine Chg.trans (H1:=kill f H) ⟨by rw [kill_length]; exact Nat.le_refl _,fun i hi ha=>?_⟩ (Chg.trans (B:=A) (Chg.set (A:=A) _ h3) ((Up.refl _).app.chg (A:=A)) fun i _ h=>h) fun i _ h=>h
    rw [kill_get]
    cases hx:H[i]? with
    | none=>rfl
    | some x =>
     have:¬(x.fam=some f∧x.tip=false):=fun hc=>ha (hN i x f hx hc.1 h4)
     simp only [Option.map_some,if_neg this]
   ·refine Fam.app1 ((Fam.kill hF f).set (b:=⟨.cells c',false,false,some f⟩) (b0:=⟨.cells c',true,true,some f⟩) ?_ rfl) ?_
    ·rw [kill_get,h7]; simp
    ·have:=hF b _ f h7 rfl
     simp only [List.length_set,kill_length]; omega
   ·simp [kill_length]

section
variable {PP:FuncId→Option PFunc} {prims:Prims}
noncomputable def yE (l:Nat)(e:Ex)(s:St):Option Out :=
 match e with
 | .panic _=>none
 | e =>
  match s.H[l]? with
  | some ⟨.loop n T ps as_ bd d _ _,true,true,none⟩ =>
   let (st,pd,b):LoopState×Option Ex×Bool:=match e with | .normal=>(.ready,none,true) | e=>(.done,some e,false)
   some ⟨.ok (.bool b),s.H.set l { obj:=.loop n T ps as_ bd d st pd },min s.lo l⟩
  | _=>none
noncomputable def yA (call:CallT)(l:Nat)(bd:PCode)(e:Ex)(s:St):Option Out :=
 match e with
 | .normal =>
  match s.H[l]? with
  | some ⟨.loop n T ps as_ bd' d .ready pend,true,true,none⟩=>mach call (yE l) [.code bd] none (setB s l (.loop n T ps as_ bd' d .busy pend))
  | _=>none
 | _=>none
theorem run_yl {l n:Nat}{T:List Value}{ps:List Tmp}{as_ bd:PCode}{d:Nat}{pd:Option Ex}{args:List Value}{H:Heap}(hb:H[l]?=some ⟨.loop n T ps as_ bd d .ready pd,true,true,none⟩)(hl:args.length=ps.length)(hp:ps.all (· < n)=true){Q:Out→Prop}
  (h:Yes (mach (runL PP prims) (yA (runL PP prims) l bd) [.code as_] none ⟨setParams T ps args,[],[],H,H.length,n,true⟩) Q):Yes (runL PP prims (.yield l) args H) Q:=by
 obtain ⟨o,h,hq⟩:=h
 refine ⟨o,runL_yield ?_,hq⟩
 unfold yieldL
 simp only [hb]
 rw [if_pos ⟨hl,hp⟩]
 simp only [mach] at h
 cases hc:codeL (runL PP prims) as_ ⟨setParams T ps args,[],[],H,H.length,n,true⟩ with
 | none=>rw [hc] at h; cases h
 | some x =>
  obtain ⟨e,s⟩:=x
  rw [hc] at h
  cases e with
  | normal =>
   simp only [yA] at h ⊢
   split at h
   ·rename_i n1 T1 ps1 as1 bd1 d1 pend1 hH
    rw [hH]
    simp only [mach] at h ⊢
    cases hc2:codeL (runL PP prims) bd (setB s l (.loop n1 T1 ps1 as1 bd1 d1 .busy pend1)) with
    | none=>rw [hc2] at h; cases h
    | some y =>
     obtain ⟨e2,s2⟩:=y
     rw [hc2] at h
     cases e2 with
     | normal=>simp only [yE] at h ⊢; exact h
     | exit i=>simp only [mach,yE] at h ⊢; exact h
     | ret=>simp only [yE] at h ⊢; exact h
     | panic v=>simp only [yE] at h; cases h
   ·cases h
  | _=>simp only [mach,yA] at h; cases h
variable {call:CallT}
theorem yA_n {l:Nat}{bd0:PCode}{T' S D H lo nn rnd}{n T ps as_ bd d pd}(h:H[l]?=some ⟨.loop n T ps as_ bd d .ready pd,true,true,none⟩) :
  yA call l bd0 .normal ⟨T',S,D,H,lo,nn,rnd⟩=mach call (yE l) [.code bd0] none ⟨T',S,D,H.set l { obj:=.loop n T ps as_ bd d .busy pd },min lo l,nn,rnd⟩:=by simp only [yA,h]; rfl
theorem yE_n {l:Nat}{T' S D H lo nn rnd}{n T ps as_ bd d st pd}(h:H[l]?=some ⟨.loop n T ps as_ bd d st pd,true,true,none⟩) :
  yE l .normal ⟨T',S,D,H,lo,nn,rnd⟩=some ⟨.ok (.bool true),H.set l { obj:=.loop n T ps as_ bd d .ready none },min lo l⟩:=by simp only [yE,h]
theorem yE_x {l i:Nat}{T' S D H lo nn rnd}{n T ps as_ bd d st pd}(h:H[l]?=some ⟨.loop n T ps as_ bd d st pd,true,true,none⟩) :
  yE l (.exit i) ⟨T',S,D,H,lo,nn,rnd⟩=some ⟨.ok (.bool false),H.set l { obj:=.loop n T ps as_ bd d .done (some (.exit i)) },min lo l⟩:=by simp only [yE,h]
def encN (x:Int):List Value:=[.int .i64 x]
structure Cons (PP:FuncId→Option PFunc)(prims:Prims)(l n0:Nat)(Rd:Nat→Prop)(Ok:List (List Int)→Prop)(I Fin:List (List Int)→(Nat→Prop)→Heap→Prop):Prop where
 own:∀acc A H H',I acc A H→Chg A H H'→I acc (And' A H H') H'
 less:∀acc A B H,I acc A H→(∀i,B i→A i)→I acc B H
 ownF:∀acc A H H',Fin acc A H→Chg A H H'→Fin acc (And' A H H') H'
 step:∀acc A H p b,Ok (acc++[p])→I acc A H→Lt A H→NF A H→Fam H→Sl H 1 encN (some ⟨b,0,none⟩) p.length p→¬A b →
  ∃go H' lo,runL PP prims (.yield l) [.slice (some ⟨b,0,none⟩) p.length 1] H=some ⟨.ok (.bool go),H',lo⟩∧n0≤lo∧lo≤l∧H.length≤H'.length∧(∀i,A i∨Rd i→H'[i]?=H[i]?)∧NF A H'∧(go=true→I (acc++[p]) A H')∧(go=false→Fin (acc++[p]) A H')
end
end Go.Pi.L
namespace CM
def okB (s:Sheet)(pre:List Int)(d:Int):Bool :=
 match pre.getLast? with
 | none=>CM.go s (s.coats.drop pre.length) d
 | some d0=>decide (d0 < d)&&(CM.go s (s.coats.drop pre.length) d&&(match s.coats[pre.length - 1]? with | some c0=>stands s c0 d0 d true | none=>false))
def restN (s:Sheet):Nat→List Int→List (List Int)
 | 0,_=>[[]]
 | n+1,pre=>s.work.flatMap fun d=>if okB s pre d=true then (restN s n (pre++[d])).map (d :: ·) else []
theorem restN_ext {s:Sheet}:∀(cs:List (Int×Int)) (pre:List Int) (d0:Int) (c0:Int×Int),s.coats.drop pre.length=cs→pre.getLast?=some d0→s.coats[pre.length - 1]?=some c0→restN s cs.length pre=ext s cs c0 d0
 | [],_,_,_,_,_,_=>rfl
 | c :: cs,pre,d0,c0,h1,h2,h3=>by
  simp only [List.length_cons,restN,ext]
  congr 1; funext d
  have e:okB s pre d=(decide (d0 < d)&&(CM.go s (c :: cs) d&&stands s c0 d0 d true)):=by simp only [okB,h2,h3,h1]
  have h4:s.coats.drop (pre++[d]).length=cs:=by rw [List.length_append,List.length_singleton,←List.drop_drop,h1]; rfl
  have h5:s.coats[(pre++[d]).length - 1]?=some c:=by
   rw [List.length_append,List.length_singleton,Nat.add_sub_cancel]
   have:=congrArg (·[0]?) h1
   simpa using this
  rw [restN_ext cs (pre++[d]) d c h4 (by simp) h5,e]
  simp only [Bool.and_eq_true,decide_eq_true_eq,and_assoc]
theorem restN_all {s:Sheet}:restN s s.coats.length []=allP s:=by
 unfold allP
 cases hc:s.coats with
 | nil=>rfl
 | cons c cs =>
  simp only [List.length_cons,restN]
  congr 1; funext d
  have e:okB s [] d=CM.go s (c :: cs) d:=by simp [okB,hc]
  rw [e]
  by_cases h:CM.go s (c :: cs) d=true
  ·rw [if_pos h,if_pos h,List.nil_append]
   rw [restN_ext cs [d] d c (by simp [hc]) rfl (by simp [hc])]
  ·rw [if_neg h,if_neg h]
def sofar (s:Sheet)(n:Nat)(pre:List Int)(j:Nat):List (List Int):=((s.work.take j).flatMap fun d=>if okB s pre d=true then (restN s n (pre++[d])).map (d :: ·) else []).map (pre++·)
theorem sofar_zero (s:Sheet)(n:Nat)(pre:List Int):sofar s n pre 0=[]:=rfl
theorem sofar_all (s:Sheet)(n:Nat)(pre:List Int)(j:Nat)(h:s.work.length≤j):sofar s n pre j=(restN s (n+1) pre).map (pre++·):=by
 unfold sofar; rw [List.take_of_length_le h]; rfl
theorem sofar_no {s:Sheet}{n:Nat}{pre:List Int}{j:Nat}{d:Int}(h:s.work[j]?=some d)(ho:okB s pre d=false):sofar s n pre (j+1)=sofar s n pre j:=by
 obtain ⟨hj,rfl⟩:=List.getElem?_eq_some_iff.1 h
 unfold sofar
 rw [List.take_succ_eq_append_getElem hj,List.flatMap_append]
 simp [ho]
theorem sofar_yes {s:Sheet}{n:Nat}{pre:List Int}{j:Nat}{d:Int}(h:s.work[j]?=some d)(ho:okB s pre d=true):sofar s n pre (j+1)=sofar s n pre j++(restN s n (pre++[d])).map ((pre++[d])++·):=by
 obtain ⟨hj,rfl⟩:=List.getElem?_eq_some_iff.1 h
 unfold sofar
 rw [List.take_succ_eq_append_getElem hj,List.flatMap_append,List.map_append]
 simp [ho,Function.comp_def]
theorem sofar_split {s:Sheet}{n:Nat}{pre:List Int}{j:Nat}:∃l,(restN s (n+1) pre).map (pre++·)=sofar s n pre j++l:=by
 rw [←sofar_all s n pre s.work.length (Nat.le_refl _)]
 unfold sofar
 refine ⟨(((s.work.drop j).flatMap fun d=>if okB s pre d=true then (restN s n (pre++[d])).map (d :: ·) else []).map (pre++·)),?_⟩
 rw [←List.map_append,←List.flatMap_append,List.take_append_drop,List.take_length]
end CM
set_option maxRecDepth 100000
namespace Go.Pi.L
open Go Go.Pi
theorem Chg.grow_map {i:Nat}{H H':Heap}(h:Chg (·=i) H H')(hm:hcells H i=none):Grow H H':=⟨h.len,fun {b c} hb=>by
 by_cases e:b=i
 ·subst e; rw [hm] at hb; cases hb
 ·have hl:=hc_lt hb
  unfold hcells at hb ⊢
  rw [h.old b hl e]; exact hb⟩
end Go.Pi.L
namespace CM
theorem go_last {s:Sheet}{c:Int×Int}{d:Int}{i:Nat}(h:s.coats[i]?=some c)(hl:i+1=s.coats.length):go s (s.coats.drop i) d=stands s c d s.dry.length false:=by
 rw [drop_cons h,List.drop_eq_nil_of_le (by omega),go]
theorem go_more {s:Sheet}{c:Int×Int}{d:Int}{i:Nat}(h:s.coats[i]?=some c)(hl:i+1 < s.coats.length):go s (s.coats.drop i) d=s.work.any fun t=>decide (d < t)&&(stands s c d t true&&go s (s.coats.drop (i+1)) t):=by
 obtain ⟨c',h'⟩:∃c',s.coats[i+1]?=some c':=⟨_,List.getElem?_eq_getElem hl⟩
 rw [drop_cons h,drop_cons h',go]
end CM
namespace Go.Pi.L.Coa
open Go Go.Pi Go.Pi.L Go.Pi.Coa CM

def keyOf (i d:Int):Value:=.agg #[.int .i64 i,.int .i64 d]
theorem eqk_key {a b c d:Int}(h:eqk (keyOf a b) (keyOf c d)=true):a=c∧b=d:=by
 simpa [eqk,keyOf,eqs,eqv] using h
theorem kfind_mem {key v:Value}:∀{es:List (Value×Value)} {j:Nat},kfind key es=some (j,v)→∃k,(k,v)∈es∧eqk key k=true
 | [],_,h=>by cases h
 | (k,w) :: es,j,h=>by
  simp only [kfind] at h
  split at h
  ·rename_i hk
   cases h
   exact ⟨k,List.mem_cons_self ..,hk⟩
  ·rw [Option.map_eq_some_iff] at h
   obtain ⟨⟨j',w'⟩,h1,h2⟩:=h
   cases h2
   obtain ⟨k',h3,h4⟩:=kfind_mem h1
   exact ⟨k',List.mem_cons_of_mem _ h3,h4⟩
def Memo (s:Sheet)(es:List (Value×Value)):Prop:=∀e∈es,∃i d:Nat,e=(keyOf i d,.bool (CM.go s (s.coats.drop i) d))
theorem Memo.find {s:Sheet}{es:List (Value×Value)}(h:Memo s es){i d j:Nat}{v:Value}(hk:kfind (keyOf i d) es=some (j,v)):v=.bool (CM.go s (s.coats.drop i) d):=by
 obtain ⟨k,h1,h2⟩:=kfind_mem hk
 obtain ⟨i',d',he⟩:=h _ h1
 cases he
 obtain ⟨h3,h4⟩:=eqk_key h2
 have h3:i=i':=by omega
 have h4:d=d':=by omega
 subst h3; subst h4; rfl
theorem Memo.upd {s:Sheet}{es:List (Value×Value)}(h:Memo s es)(i d:Nat):Memo s (Go.Pi.L.upd (keyOf i d) (.bool (CM.go s (s.coats.drop i) d)) es):=by
 intro e he
 unfold Go.Pi.L.upd at he
 split at he
 ·rcases List.mem_or_eq_of_mem_set he with h1 | h1
  ·exact h e h1
  ·exact ⟨i,d,h1⟩
 ·rcases List.mem_append.1 he with h1 | h1
  ·exact h e h1
  ·exact ⟨i,d,by simpa using h1⟩
abbrev mSh:Shape:=.agg [.i .i64,.i .i64]
def Mp (s:Sheet)(H:Heap)(mb:Nat):Prop:=∃es,H[mb]?=some ⟨.map mSh es,true,true,none⟩∧Memo s es
theorem Mp.lt {s:Sheet}{H:Heap}{mb:Nat}(h:Mp s H mb):mb < H.length:=by obtain ⟨es,h,_⟩:=h; exact (List.getElem?_eq_some_iff.1 h).1
theorem Mp.hc {s:Sheet}{H:Heap}{mb:Nat}(h:Mp s H mb):hcells H mb=none:=by obtain ⟨es,h,_⟩:=h; simp [hcells,h]
theorem Mp.same {s:Sheet}{H H':Heap}{mb:Nat}(h:Mp s H mb)(e:H'[mb]?=H[mb]?):Mp s H' mb:=by obtain ⟨es,h,h'⟩:=h; exact ⟨es,e.trans h,h'⟩
theorem Mp.up {s:Sheet}{H H':Heap}{mb:Nat}(h:Mp s H mb)(u:Up H H'):Mp s H' mb:=h.same (u.old _ h.lt)

theorem stands_eq (s:Sheet)(c:Int×Int)(d t:Nat)(p:Bool):stands s c d t p=(failAt s c d t p).isNone:=by
 unfold stands failAt
 by_cases h1:seg (lows s) d t < c.1
 ·simp [h1]
 ·cases p with
  | false=>simp [h1]
  | true=>by_cases h2:c.2 < seg (highs s) d t <;> simp [h1,h2]
def fails1 (i:Nat)(o:Option Int):Option (Int×Int):=o.map fun w=>((i:Int),w)
theorem failOut_eq (H:Heap)(i:Nat)(o:Option Int):failOut H i o=outOf H (fails1 i o):=by cases o <;> rfl
theorem att_no (i:Nat){o:Option Int}(h:o=none):attOf (fails1 i o)=.tuple #[.agg #[.int .i64 0,.int .i64 0],.int .i64 0]:=by subst h; rfl
theorem att_yes (i:Nat){o:Option Int}{w:Int}(h:o=some w):attOf (fails1 i o)=.tuple #[.agg #[.int .i64 i,.int .i64 w],.int .i64 7]:=by subst h; rfl

def shopC (r:ShR)(p:SpR):List Value:=[.slice r.da r.dl r.dk,.slice r.wa r.wl r.wk,.slice r.ca r.cl r.ck,.slice p.la p.ll p.lk,.slice p.ha p.hl p.hk]
theorem c155 {H:Heap}{r:ShR}{p:SpR}{s:Sheet}(hp:SpOk H r p s)(hS:ShFine s){i d:Nat}{c:Int×Int}(hc:s.coats[i]?=some c)(hdt:d≤s.dry.length){xb ib db:Nat}
  (hx:hcells H xb=some (shopC r p)) (hi:hcells H ib=some [.int .i64 i]) (hd:hcells H db=some [.int .i64 d]) :
  ∀H',Up H H'→R (.func 155) [.pointer (some ⟨xb,0,none⟩),.pointer (some ⟨ib,0,none⟩),.pointer (some ⟨db,0,none⟩)] H'=some (outOf H' (fails1 i (failAt s c d s.dry.length false))):=by
 intro H' hu
 have hg:=hu.grow
 refine run_k (pr 155) P155 (by simp [p155]) rfl ?_
 have k:=c128 hp hS hc hdt (Nat.le_refl _) false H' hg
 rw [failOut_eq] at k
 have hdl:r.dl=s.dry.length:=hp.sh.d.len.symm
 have hx:=hg.hc hx
 have hi:=hg.hc hi
 have hd:=hg.hc hd
 rw [←hdl] at k ⊢
 unfold shopC at hx
 obtain ⟨da,dl,dk,wa,wl,wk,ca,cl,ck⟩:=r
 obtain ⟨la,ll,lk,ha,hl,hk⟩:=p
 have hD:Spans H da dl s.dry:=hp.sh.d
 have hW:Ints H wa wl s.work:=hp.sh.w
 have hC:Spans H ca cl s.coats:=hp.sh.c
 have hLo:Ints H la ll (ps (lows s) s.dry.length):=hp.lo
 have hHi:Ints H ha hl (ps (highs s) s.dry.length):=hp.hi
 have l1:=hD.isLoc dk
 have l2:=hW.isLoc wk
 have l3:=hC.isLoc ck
 have l4:=hLo.isLoc lk
 have l5:=hHi.isLoc hk
 simp only at k hx hdl ⊢
 cases hf:failAt s c d dl false with
 | none =>
  rw [hf] at k
  simp only [fails1,Option.map_none,outOf] at k
  simp (maxDischargeDepth:=8) only [↓SD,SU,SV,SW,simprocAttr,Int.cast_ofNat_Int,small,resV, B155,R155,N155,b155, l1,l2,l3,l4,l5,hx,hi,hd,k,fails1,outOf,R155,N155,nothing]
 | some w =>
  rw [hf] at k
  simp only [fails1,Option.map_some,outOf] at k
  simp (maxDischargeDepth:=8) only [↓SD,SU,SV,SW,simprocAttr,Int.cast_ofNat_Int,small,resV, B155,R155,N155,b155, l1,l2,l3,l4,l5,hx,hi,hd,k,fails1,outOf,R155,N155,fault]
theorem c156 {H:Heap}{r:ShR}{p:SpR}{s:Sheet}(hp:SpOk H r p s)(hS:ShFine s){i d t:Nat}{c:Int×Int}(hc:s.coats[i]?=some c)(hdt:d≤t)(ht:t≤s.dry.length){xb ib db tb:Nat}
  (hx:hcells H xb=some (shopC r p)) (hi:hcells H ib=some [.int .i64 i]) (hd:hcells H db=some [.int .i64 d]) (htb:hcells H tb=some [.int .i64 t]) :
  ∀H',Up H H'→R (.func 156) [.pointer (some ⟨xb,0,none⟩),.pointer (some ⟨ib,0,none⟩),.pointer (some ⟨db,0,none⟩),.pointer (some ⟨tb,0,none⟩)] H'=some (outOf H' (fails1 i (failAt s c d t true))):=by
 intro H' hu
 have hg:=hu.grow
 refine run_k (pr 156) P156 (by simp [p156]) rfl ?_
 have k:=c128 hp hS hc hdt ht true H' hg
 rw [failOut_eq] at k
 have hx:=hg.hc hx
 have hi:=hg.hc hi
 have hd:=hg.hc hd
 have htb:=hg.hc htb
 unfold shopC at hx
 obtain ⟨da,dl,dk,wa,wl,wk,ca,cl,ck⟩:=r
 obtain ⟨la,ll,lk,ha,hl,hk⟩:=p
 have hD:Spans H da dl s.dry:=hp.sh.d
 have hW:Ints H wa wl s.work:=hp.sh.w
 have hC:Spans H ca cl s.coats:=hp.sh.c
 have hLo:Ints H la ll (ps (lows s) s.dry.length):=hp.lo
 have hHi:Ints H ha hl (ps (highs s) s.dry.length):=hp.hi
 have l1:=hD.isLoc dk
 have l2:=hW.isLoc wk
 have l3:=hC.isLoc ck
 have l4:=hLo.isLoc lk
 have l5:=hHi.isLoc hk
 simp only at k hx
 cases hf:failAt s c d t true with
 | none =>
  rw [hf] at k
  simp only [fails1,Option.map_none,outOf] at k
  simp (maxDischargeDepth:=8) only [↓SD,SU,SV,SW,simprocAttr,Int.cast_ofNat_Int,small,resV, B156,R156,N156,b156, l1,l2,l3,l4,l5,hx,hi,hd,htb,k,fails1,outOf,R156,N156,nothing]
 | some w =>
  rw [hf] at k
  simp only [fails1,Option.map_some,outOf] at k
  simp (maxDischargeDepth:=8) only [↓SD,SU,SV,SW,simprocAttr,Int.cast_ofNat_Int,small,resV, B156,R156,N156,b156, l1,l2,l3,l4,l5,hx,hi,hd,htb,k,fails1,outOf,R156,N156,fault]
end Go.Pi.L.Coa
set_option maxRecDepth 100000
namespace Go.Pi.L
open Go Go.Pi
theorem app_set {H:Heap}{b b':Blk}:(H++[b]).set H.length b'=H++[b']:=by simp
theorem app_get {H:Heap}{b:Blk}:(H++[b])[H.length]?=some b:=by simp
end Go.Pi.L
namespace Go.Pi.L.Coa
open Go Go.Pi Go.Pi.L Go.Pi.Coa CM

def QG (s:Sheet)(H:Heap)(mb:Nat)(b:Bool)(o:Out):Prop:=∃H1 lo,o=⟨.ok (.bool b),H1,lo⟩∧Chg (·=mb) H H1∧Mp s H1 mb∧mb≤lo
theorem gc_b {H H1:Heap}{b:Bool}{lo mb:Nat}{s:Sheet}(hc:Chg (·=mb) H H1)(hm:Mp s H mb)(hm1:Mp s H1 mb)(hl:mb≤lo):QG s H mb b (gcR H (.ok (.bool b)) H1 lo):=by
 simp only [gcR]
 split
 ·exact ⟨H,H.length,rfl,Chg.refl _ _,hm,Nat.le_of_lt hm.lt⟩
 ·exact ⟨H1,lo,rfl,hc,hm1,hl⟩
theorem c138 {H:Heap}{r:ShR}{p:SpR}{s:Sheet}(hp:SpOk H r p s)(hS:ShFine s){mb:Nat}:∀(n i:Nat),i+n=s.coats.length→0 < n→∀(d:Nat),d < s.dry.length →
  ∀H',Grow H H'→Mp s H' mb→Yes (R (.func 138) [.agg #[.slice r.da r.dl r.dk,.slice r.wa r.wl r.wk,.slice r.ca r.cl r.ck,.slice p.la p.ll p.lk,.slice p.ha p.hl p.hk],.int .i64 i,.int .i64 d,.map (some mb)] H') (QG s H' mb (CM.go s (s.coats.drop i) d)):=by
 intro n
 induction n with
 | zero=>intro i _ h0; omega
 | succ n IH =>
 intro i hin _ d hd H' hg hm
 refine run_y (pr 138) P138 (by simp [p138]) rfl ?_
 obtain ⟨c,hc⟩:∃c,s.coats[i]?=some c:=⟨_,List.getElem?_eq_getElem (by omega)⟩
 generalize hH:H'++[({ obj:=.cells (shopC r p) }:Blk)]++[({ obj:=.cells [.int .i64 i] }:Blk)]++[({ obj:=.cells [.int .i64 d] }:Blk)]=H0
 have u0:Up H' H0:=by rw [←hH]; exact (Up.refl H').app.app.app
 have a0:H0.length=H'.length+3:=by rw [←hH]; simp
 have aX:hcells H0 H'.length=some (shopC r p):=by rw [←hH]; simp [hcells]
 have aI:hcells H0 (H'.length+1)=some [.int .i64 i]:=by rw [←hH]; simp [hcells]
 have aD:hcells H0 (H'.length+1+1)=some [.int .i64 d]:=by
  rw [←hH]
  have:=hc_new (H:=H'++[({ obj:=.cells (shopC r p) }:Blk)]++[({ obj:=.cells [.int .i64 i] }:Blk)]) [.int .i64 d] true none
  rw [List.length_append,List.length_append,List.length_singleton,List.length_singleton] at this; exact this
 have hm0:=hm.up u0
 have hml:=hm.lt
 have hg0:=hg.trans u0.grow
 have hp0:=hp.grow hg0
 have hS2:=hS.c2
 have hcl:r.cl=s.coats.length:=hp.sh.c.len.symm
 have w1:IntKind.wrap .i64 ((r.cl:Int) - 1)=((s.coats.length - 1:Nat):Int):=by rw [wrap_id _ (by omega) (by omega)]; omega
 have hm0':=hm0
 have hwl:r.wl≤12:=by rw [←hp.sh.w.len]; exact work_len hS
 obtain ⟨es,hes,hmemo⟩:=hm0
 have hmk:mlkR (mesL H0 mSh (.map (some mb))) mSh (.bool false) true (.agg #[.int .i64 i,.int .i64 d])=some (mlkV (.bool false) true (kfind (.agg #[.int .i64 i,.int .i64 d]) es)):=by rw [mes_ok hes]; exact mlkR_ok _ _ _ _ _ rfl
 unfold shopC at hH aX
 obtain ⟨da,dl,dk,wa,wl,wk,ca,cl,ck⟩:=r
 obtain ⟨la,ll,lk,ha,hl,hk⟩:=p
 have hD:Spans H da dl s.dry:=hp.sh.d
 have hW:Ints H wa wl s.work:=hp.sh.w
 have hC:Spans H ca cl s.coats:=hp.sh.c
 have hLo:Ints H la ll (ps (lows s) s.dry.length):=hp.lo
 have hHi:Ints H ha hl (ps (highs s) s.dry.length):=hp.hi
 have l1:=hD.isLoc dk
 have l2:=hW.isLoc wk
 have l3:=hC.isLoc ck
 have l4:=hLo.isLoc lk
 have l5:=hHi.isLoc hk
 simp only at hH aX w1 hcl hwl IH
 cases hkf:kfind (.agg #[.int .i64 i,.int .i64 d]) es with
 | some y =>
  obtain ⟨j,v⟩:=y
  have hv:=hmemo.find hkf
  subst hv
  simp only [hkf,mlkV,if_true] at hmk
  simp (maxDischargeDepth:=8) only [↓SD,SU,SV,SW,simprocAttr,Int.cast_ofNat_Int,small,resV, B138,R138,N138,b138, l1,l2,l3,l4,l5,List.length_singleton,hH,a0,aX,aI,aD,hmk,g_mlk,R138,N138]
  rw [yes_some]
  exact ⟨H',H'.length,rfl,Chg.refl _ _,hm,Nat.le_of_lt hml⟩
 | none =>
 simp only [hkf,mlkV,if_true] at hmk
 have e0:(((i:Nat):Int)=((s.coats.length - 1:Nat):Int))=(i+1=s.coats.length):=propext (by omega)
 have m2:mb≤H'.length:=Nat.le_of_lt hml
 have m1:H0[mb]?=some ⟨.map mSh es,true,true,none⟩:=hes
 have fin:∀b lo H3 es3,CM.go s (s.coats.drop i) d=b→mb≤lo→Chg (·=mb) H0 H3→H3[mb]?=some ⟨.map mSh es3,true,true,none⟩→Memo s es3→QG s H' mb (CM.go s (s.coats.drop i) d) (gcR H' (.ok (.bool b)) (H3.set mb { obj:=.map mSh (Go.Pi.L.upd (.agg #[.int .i64 i,.int .i64 d]) (.bool b) es3) }) lo):=by
  intro b lo H3 es3 hb hlo hch h3 hm3
  rw [hb]
  refine gc_b (u0.chg.trans (hch.trans (Chg.set (A:=(·=mb)) _ rfl) (fun _ _ h=>h)) (fun _ _ h=>h)) hm ⟨_,List.getElem?_set_self (by have:=u0.len; have:=hch.len; omega),?_⟩ hlo
  rw [←hb]; exact hm3.upd i d
 have hk2:Shape.has (.agg [.i .i64,.i .i64]) (.agg #[.int .i64 i,.int .i64 d])=true:=rfl
 by_cases hlast:i+1=s.coats.length
 ·have k155:=fun H2 u=>c155 hp0 hS hc (d:=d) (by omega) aX aI aD H2 u
  have k109:=c109 (g:=155) (caps:=[.pointer (some ⟨H'.length,0,none⟩),.pointer (some ⟨H'.length+1,0,none⟩),.pointer (some ⟨H'.length+1+1,0,none⟩)]) rfl k155
  have hgo:CM.go s (s.coats.drop i) d=(failAt s c d s.dry.length false).isNone:=by rw [go_last hc hlast,stands_eq]
  cases hf:failAt s c d s.dry.length false with
  | none =>
   rw [att_no i hf] at k109
   rw [hf] at hgo
   simp (maxDischargeDepth:=8) only [↓SD,SU,SV,SW,simprocAttr,Int.cast_ofNat_Int,small,resV, B138,R138,N138,b138, l1,l2,l3,l4,l5,List.length_singleton,hH,a0,aX,aI,aD,hmk,g_mlk,w1,e0,hlast,k109,g_mup,mup_v,m1,mup_ok,hk2,R138,N138]
   rw [yes_some]
   exact fin _ _ H0 es (by rw [hgo]; rfl) (by omega) (Chg.refl _ _) hes hmemo
  | some w =>
   rw [att_yes i hf] at k109
   rw [hf] at hgo
   simp (maxDischargeDepth:=8) only [↓SD,SU,SV,SW,simprocAttr,Int.cast_ofNat_Int,small,resV, B138,R138,N138,b138, l1,l2,l3,l4,l5,List.length_singleton,hH,a0,aX,aI,aD,hmk,g_mlk,w1,e0,hlast,k109,g_mup,mup_v,m1,mup_ok,hk2,R138,N138]
   rw [yes_some]
   exact fin _ _ H0 es (by rw [hgo]; rfl) (by omega) (Chg.refl _ _) hes hmemo
 ·have hgo:=go_more (d:=(d:Int)) hc (by omega)
  simp (maxDischargeDepth:=8) only [↓SD,SU,SV,SW,simprocAttr,Int.cast_ofNat_Int,small,resV, B138,R138,N138,b138, l1,l2,l3,l4,l5,List.length_singleton,hH,a0,aX,aI,aD,hmk,g_mlk,w1,e0,hlast]
  refine loop_ind (G:=(Yes · (QG s H' mb (CM.go s (s.coats.drop i) d)))) (fun j σ=>∃T S H1 lim,σ=⟨T,S,[],H1,lim,75,false⟩∧get T 3=.map (some mb)∧get T 4=.pointer (some ⟨H'.length,0,none⟩)∧get T 5=.pointer (some ⟨H'.length+1,0,none⟩)∧get T 6=.pointer (some ⟨H'.length+1+1,0,none⟩)∧get T 9=.pointer (some ⟨9,0,some 1⟩)∧get T 12=.bool false∧get T 46=.slice wa wl wk∧get T 47=.int .i64 wl∧get T 48=.int .i64 (j:Nat)∧sget S 9=(1,.cells [.int .i64 i,.int .i64 d])∧(((s.work.drop j).any fun t=>decide ((d:Int) < t)&&(stands s c d t true&&CM.go s (s.coats.drop (i+1)) t))=CM.go s (s.coats.drop i) d∧Chg (·=mb) H0 H1∧Mp s H1 mb∧mb≤lim)) (wl) ?_ ?_ 0 _ (Nat.zero_le _) ⟨_,_,_,_,rfl,rfl,rfl,rfl,rfl,rfl,rfl,rfl,rfl,rfl,rfl,⟨by rw [hgo]; rfl,Chg.refl _ _,hm0',m2⟩⟩
  ·rintro c' j s hj ⟨T,S,H1,lim,rfl,t3,t4,t5,t6,t9,t12,t46,t47,t48,s0,hp⟩ ih
   obtain ⟨hp1,hch,hm1,hlim⟩:=hp
   obtain ⟨b,off,x,hxb,hx,f0⟩:=hW.i1 hj
   have hg1:Grow H0 H1:=hch.grow_map hm0'.hc
   have hg2:=hg0.trans hg1
   have hwx:=hS.work x (List.mem_of_getElem? hx)
   obtain ⟨t,rfl⟩:∃t:Nat,x=t:=⟨x.toNat,by omega⟩
   have hw1:=wrap_succ j (by omega)
   rw [drop_cons hx,List.any_cons] at hp1
   generalize hH2:H1++[({ obj:=.cells [.int .i64 (t:Int)] }:Blk)]=H2
   have u2:Up H1 H2:=by rw [←hH2]; exact (Up.refl H1).app
   have n1:=u2.len
   have n2:=hch.len
   have aT:hcells H2 H1.length=some [.int .i64 (t:Int)]:=by rw [←hH2]; exact hc_new _ _ _
   have hg3:=hg1.trans u2.grow
   have bX:=hg3.hc aX
   have bI:=hg3.hc aI
   have bD:=hg3.hc aD
   have hm2:=hm1.up u2
   have ch2:Chg (·=mb) H0 H2:=hch.trans u2.chg (fun _ _ h=>h)
   subst hxb
   by_cases hdt:d < t
   ·have hnt:¬t≤d:=by omega
    have hdt':(d:Int) < (t:Int):=by omega
    have k156:=fun H2' u=>c156 (hp0.grow hg3) hS hc (d:=d) (t:=t) (by omega) (by omega) bX bI bD aT H2' u
    have k109:=c109 (g:=156) (caps:=[.pointer (some ⟨H'.length,0,none⟩),.pointer (some ⟨H'.length+1,0,none⟩),.pointer (some ⟨H'.length+1+1,0,none⟩),.pointer (some ⟨H1.length,0,none⟩)]) rfl k156
    have hst:=stands_eq s c d t true
    simp only [hdt',decide_true,Bool.true_and] at hp1
    have l16:isLoc (.pointer (some ⟨H1.length,0,none⟩))=false:=rfl
    cases hf:failAt s c d t true with
    | some w =>
     rw [att_yes i hf] at k109
     rw [hf] at hst
     rw [hst] at hp1
     simp only [Option.isNone_some,Bool.false_and,Bool.false_or] at hp1
     simp (maxDischargeDepth:=8) only [↓SD,SU,SV,SW,simprocAttr,Int.cast_ofNat_Int,small,resV, q138x0,t3,t4,t5,t6,t9,t12,t46,t47,t48,s0, s0,lt_nat,le_nat,hj,l1,l2,l3,l4,l5,f0,hg2,app_get,stH_ok,app_set,hH2,aT,bX,bI,bD,hnt,hw1,k109]
     exact ih _ ⟨_,_,(H2),(_),rfl,(by simp [get_set,t3] <;> omega),(by simp [get_set,t4] <;> omega),(by simp [get_set,t5] <;> omega),(by simp [get_set,t6] <;> omega),(by simp [get_set,t9] <;> omega),(by simp [get_set,t12] <;> omega),(by simp [get_set,t46] <;> omega),(by simp [get_set,t47] <;> omega),(by simp [get_set,t48] <;> omega),by simp [sget_sset,s0],⟨hp1,ch2,hm2,by omega⟩⟩
    | none =>
     rw [att_no i hf] at k109
     rw [hf] at hst
     rw [hst] at hp1
     simp only [Option.isNone_none,Bool.true_and] at hp1
     obtain ⟨o,ho,H3,lo3,rfl,ch3,hm3,hl3⟩:=IH (i+1) (by omega) (by omega) t (by omega) H2 (hg0.trans hg3) hm2
     have hw2:=wrap_succ i (by omega)
     have ch4:Chg (·=mb) H0 H3:=ch2.trans ch3 (fun _ _ h=>h)
     have n3:=ch3.len
     cases hb:CM.go s (s.coats.drop (i+1)) t with
     | false =>
      rw [hb] at hp1 ho
      simp only [Bool.false_or] at hp1
      simp (maxDischargeDepth:=8) only [↓SD,SU,SV,SW,simprocAttr,Int.cast_ofNat_Int,small,resV, q138x0,t3,t4,t5,t6,t9,t12,t46,t47,t48,s0, s0,lt_nat,le_nat,hj,l1,l2,l3,l4,l5,f0,hg2,app_get,stH_ok,app_set,hH2,aT,bX,bI,bD,hnt,hw1,hw2,k109,ho]
      exact ih _ ⟨_,_,(H3),(_),rfl,(by simp [get_set,t3] <;> omega),(by simp [get_set,t4] <;> omega),(by simp [get_set,t5] <;> omega),(by simp [get_set,t6] <;> omega),(by simp [get_set,t9] <;> omega),(by simp [get_set,t12] <;> omega),(by simp [get_set,t46] <;> omega),(by simp [get_set,t47] <;> omega),(by simp [get_set,t48] <;> omega),by simp [sget_sset,s0],⟨hp1,ch4,hm3,by omega⟩⟩
     | true =>
      rw [hb] at hp1 ho
      simp only [Bool.true_or] at hp1
      obtain ⟨es3,hes3,hmemo3⟩:=hm3
      simp (maxDischargeDepth:=8) only [↓SD,SU,SV,SW,simprocAttr,Int.cast_ofNat_Int,small,resV, q138x0,t3,t4,t5,t6,t9,t12,t46,t47,t48,s0, s0,lt_nat,le_nat,hj,l1,l2,l3,l4,l5,f0,hg2,app_get,stH_ok,app_set,hH2,aT,bX,bI,bD,hnt,hw1,hw2,k109,ho,g_mup,mup_v,hes3,mup_ok,hk2,R138,N138,x_blk' 0 1 (by decide)]
      rw [yes_some]
      exact fin _ _ H3 es3 hp1.symm (by omega) ch4 hes3 hmemo3
   ·have hnt:t≤d:=by omega
    have hdt':¬(d:Int) < (t:Int):=by omega
    simp only [hdt',decide_false,Bool.false_and,Bool.false_or] at hp1
    simp (maxDischargeDepth:=8) only [↓SD,SU,SV,SW,simprocAttr,Int.cast_ofNat_Int,small,resV, q138x0,t3,t4,t5,t6,t9,t12,t46,t47,t48,s0, s0,lt_nat,le_nat,hj,l1,l2,l3,l4,l5,f0,hg2,app_get,stH_ok,app_set,hH2,aT,bX,bI,bD,hnt,hw1]
    exact ih _ ⟨_,_,(H2),(_),rfl,(by simp [get_set,t3] <;> omega),(by simp [get_set,t4] <;> omega),(by simp [get_set,t5] <;> omega),(by simp [get_set,t6] <;> omega),(by simp [get_set,t9] <;> omega),(by simp [get_set,t12] <;> omega),(by simp [get_set,t46] <;> omega),(by simp [get_set,t47] <;> omega),(by simp [get_set,t48] <;> omega),by simp [sget_sset,s0],⟨hp1,ch2,hm2,by omega⟩⟩
  ·rintro c' s ⟨T,S,H1,lim,rfl,t3,t4,t5,t6,t9,t12,t46,t47,t48,s0,hp⟩
   obtain ⟨hp1,hch,hm1,hlim⟩:=hp
   rw [drop_all hW.len,List.any_nil] at hp1
   obtain ⟨es3,hes3,hmemo3⟩:=hm1
   simp (maxDischargeDepth:=8) only [↓SD,SU,SV,SW,simprocAttr,Int.cast_ofNat_Int,small,resV, q138x0,t3,t4,t5,t6,t9,t12,t46,t47,t48,s0, s0,lt_nat,Nat.lt_irrefl,l1,l2,l3,l4,l5,g_mup,mup_v,hes3,mup_ok,hk2,R138,N138]
   rw [yes_some]
   exact fin _ _ H1 es3 hp1.symm (by omega) hch hes3 hmemo3
end Go.Pi.L.Coa
set_option maxRecDepth 100000
namespace Go.Pi.L
open Go Go.Pi
section
variable {α:Type} {call:CallT} {F:Ex→St→Option α} {k:List It}
theorem rD_hb (v H' lo' c tb d T S D H lo n rnd):retD call F (some ⟨.ok v,H',lo'⟩) ⟨c,true,tb⟩ d k ⟨T,S,D,H,lo,n,rnd⟩=nxt call F (some v) d k ⟨T,S,D,H',min lo (min H.length lo'),n,rnd⟩:=by
 simp only [retD]; rw [if_pos (.inr trivial)]
theorem rD_panic (v H' lo' c hb d T S D H lo n rnd):retD call F (some ⟨.panic v,H',lo'⟩) ⟨c,hb,true⟩ d k ⟨T,S,D,H,lo,n,rnd⟩=F (.panic v) ⟨T,S,D,H',min lo (min H.length lo'),n,rnd⟩:=by
 simp only [retD]; rfl
theorem fa_yield (l vs)(hl:(vs.all fun v=>!isLoc v)=true):fargs (.func (.yield l) #[] #[]) vs=some (.yield l,vs):=by simp [fargs,hl,fnArgs]
theorem apA_new (new d T S D H lo n rnd)(h2:new.length < 1000000)(h3:new≠[]):ap1 call F (some new) (.slice (some ⟨H.length,0,none⟩) 0 1) 1 d k ⟨T,S,D,H++[⟨.cells [],true,true,some H.length⟩],lo,n,rnd⟩ =
  nxt call F (some (.slice (some ⟨H.length+1,0,none⟩) new.length 1)) d k ⟨T,S,D,H++[⟨.cells [],true,false,some H.length⟩]++[⟨.cells new,true,true,some H.length⟩],lo,n,rnd⟩:=by
 rw [apA_tip,app_get,apB_ok _ _ _ _ _ _ _ _ _ _ _ _ _ _ (Nat.mod_one _) (by omega) (by cases new with | nil=>exact absurd rfl h3 | cons=>rfl) (by decide) (by simp),app_set]
 simp
end
theorem gc_no {H H1:Heap}{v:Value}{lo:Nat}(h:¬H.length≤lo):gcR H (.ok v) H1 lo=⟨.ok v,H1,lo⟩:=by
 simp only [gcR]; rw [if_neg (fun x=>h x.1)]
theorem Pfx.keep {A B:Nat→Prop}{H H':Heap}{k:Nat}{a:Option Addr}{l m:Nat}{c:List Value}(h:Pfx A H k a l m c)(hab:∀i,A i→B i)(hs:∀(i:Nat) c f,A i→H[i]?=some ⟨.cells c,true,true,some f⟩→H'[i]?=H[i]?):Pfx B H' k a l m c :=
 ⟨h.len,by
  rcases h.ok with h | ⟨b,f,c',h1,h2,h3,h4,h5,h6,h7⟩
  ·exact .inl h
  ·exact .inr ⟨b,f,c',h1,h2,hab b h3,hab f h4,h5,h6,by rw [hs b c' f h3 h7]; exact h7⟩⟩
end Go.Pi.L
namespace Go.Pi.L.Coa
open Go Go.Pi Go.Pi.L Go.Pi.Coa CM

theorem c137 {H:Heap}{a:Option Addr}{l k:Nat}{xs:List Int}(hx:Ints H a l xs)(h0:0 < l)(hl:l < 1000) :
  ∀H',Grow H H'→R (.func 137) [.slice a l k] H'=some ⟨.ok (.slice (some ⟨H'.length+1,0,none⟩) l 1),H'++[⟨.cells [],true,false,some H'.length⟩]++[⟨.cells (cells encI xs),true,true,some H'.length⟩],H'.length⟩:=by
 intro H' hg
 have hg1:=hg.trans ((Up.refl H').app (l:=[({ obj:=.cells [],fam:=some H'.length }:Blk)])).grow
 have hlen:(cells encI xs).length=l:=by rw [cells_len (k:=1) (fun _=>rfl),hx.len,Nat.mul_one]
 have q0:=fun T S D lo n rnd=>(hx.grow hg1).elems (fun _=>rfl) (by decide) k T S D lo n rnd
 have q1:=fun T S D lo n rnd d k (F:Ex→St→Option Out)=>apA_new (call:=runL PP primsL) (F:=F) (k:=k) (cells encI xs) d T S D H' lo n rnd (by omega) (by intro h; rw [h] at hlen; simp at hlen; omega)
 rw [hlen] at q1
 have l1:=hx.isLoc k
 refine run_k (pr 137) P137 (by simp [p137]) rfl ?_
 obtain ⟨b,off,x,rfl,hx',f0⟩:=hx.at (fun _=>rfl) (by decide) h0
 simp (maxDischargeDepth:=8) only [↓SD,SU,SV,SW,simprocAttr,Int.cast_ofNat_Int,small,resV, B137,R137,N137,b137, l1,vv_nl_s,q0,q1]
 rw [gc_ite (Nat.le_refl _),if_neg (by simp [flat])]
theorem c139 {H:Heap}{r:ShR}{p:SpR}{s:Sheet}(hp:SpOk H r p s)(hS:ShFine s){i d t:Nat}{c:Int×Int}(hc:s.coats[i]?=some c)(hdt:d≤t)(ht:t≤s.dry.length){xb ib sb tb:Nat}{a:Option Addr}{l m:Nat}{pre:List Int}
  (hx:hcells H xb=some (shopC r p)) (hi:hcells H ib=some [.int .i64 (i+1:Nat)]) (hs:hcells H sb=some [.slice a l m]) (hq:Ints H a l pre) (hd:pre[i]?=some (d:Int)) (htb:hcells H tb=some [.int .i64 t]) :
  ∀H',Up H H'→R (.func 139) [.pointer (some ⟨xb,0,none⟩),.pointer (some ⟨ib,0,none⟩),.pointer (some ⟨sb,0,none⟩),.pointer (some ⟨tb,0,none⟩)] H'=some (outOf H' (fails1 i (failAt s c d t true))):=by
 intro H' hu
 have hg:=hu.grow
 refine run_k (pr 139) P139 (by simp [p139]) rfl ?_
 have k:=c128 hp hS hc hdt ht true H' hg
 rw [failOut_eq] at k
 have hx:=hg.hc hx
 have hi:=hg.hc hi
 have hs:=hg.hc hs
 have htb:=hg.hc htb
 have hil:i < l:=by rw [←hq.len]; exact (List.getElem?_eq_some_iff.1 hd).1
 obtain ⟨b,off,x,rfl,hx',f0⟩:=hq.i1 hil
 rw [hd] at hx'; cases hx'
 have hS2:=hS.c2
 have hi5:=(List.getElem?_eq_some_iff.1 hc).1
 have w1:IntKind.wrap .i64 (((i+1:Nat):Int) - 1)=(i:Nat):=by rw [wrap_id _ (by omega) (by omega)]; omega
 unfold shopC at hx
 obtain ⟨da,dl,dk,wa,wl,wk,ca,cl,ck⟩:=r
 obtain ⟨la,ll,lk,ha,hl,hk⟩:=p
 have hD:Spans H da dl s.dry:=hp.sh.d
 have hW:Ints H wa wl s.work:=hp.sh.w
 have hC:Spans H ca cl s.coats:=hp.sh.c
 have hLo:Ints H la ll (ps (lows s) s.dry.length):=hp.lo
 have hHi:Ints H ha hl (ps (highs s) s.dry.length):=hp.hi
 have l1:=hD.isLoc dk
 have l2:=hW.isLoc wk
 have l3:=hC.isLoc ck
 have l4:=hLo.isLoc lk
 have l5:=hHi.isLoc hk
 simp only at k hx
 cases hf:failAt s c d t true with
 | none =>
  rw [hf] at k
  simp only [fails1,Option.map_none,outOf] at k
  simp (maxDischargeDepth:=8) only [↓SD,SU,SV,SW,simprocAttr,Int.cast_ofNat_Int,small,resV, B139,R139,N139,b139, l1,l2,l3,l4,l5,hx,hi,hs,f0,hg,hil,w1,htb,k,fails1,outOf,R139,N139,nothing]
 | some w =>
  rw [hf] at k
  simp only [fails1,Option.map_some,outOf] at k
  simp (maxDischargeDepth:=8) only [↓SD,SU,SV,SW,simprocAttr,Int.cast_ofNat_Int,small,resV, B139,R139,N139,b139, l1,l2,l3,l4,l5,hx,hi,hs,f0,hg,hil,w1,htb,k,fails1,outOf,R139,N139,fault,rD_panic]
end Go.Pi.L.Coa
set_option maxRecDepth 100000
namespace Go.Pi.L
open Go Go.Pi
def InR (Rd:Nat→Prop)(a:Option Addr)(l:Nat):Prop:=0 < l→∀b off,a=some ⟨b,off,none⟩→Rd b
theorem Sl.inR {β:Type}{H:Heap}{k:Nat}{enc:β→List Value}{a:Option Addr}{l:Nat}{xs:List β}(h:Sl H k enc a l xs):InR (· < H.length) a l:=fun h0 b off ha=>by
 obtain ⟨x,hx⟩:∃x,xs[0]?=some x:=⟨_,List.getElem?_eq_getElem (by rw [h.len]; exact h0)⟩
 obtain ⟨b',off',c,h1,h2,_⟩:=h.rd 0 x hx
 rw [ha] at h1; cases h1
 exact hc_lt h2
theorem Sl.kept {β:Type}{Rd:Nat→Prop}{H H':Heap}{k:Nat}{enc:β→List Value}{a:Option Addr}{l:Nat}{xs:List β}(h:Sl H k enc a l xs)(hr:InR Rd a l)(hs:∀i,Rd i→H'[i]?=H[i]?):Sl H' k enc a l xs :=
 ⟨h.len,h.loc,fun j x hx=>by
  obtain ⟨b,off,c',h1,h2,h3⟩:=h.rd j x hx
  refine ⟨b,off,c',h1,?_,h3⟩
  unfold hcells at h2 ⊢
  rw [hs b (hr (by have:=(List.getElem?_eq_some_iff.1 hx).1; have:=h.len; omega) b off h1)]; exact h2⟩
structure Kp (A Rd:Nat→Prop)(nb mb:Nat)(H H':Heap):Prop where
 len:H.length≤H'.length
 keep:∀(i:Nat) b,A i→i≠nb→i≠mb→H[i]?=some b→b.fam=none→H'[i]?=some b
 rd:∀i,Rd i→H'[i]?=H[i]?
theorem Kp.refl (A Rd:Nat→Prop)(nb mb:Nat)(H:Heap):Kp A Rd nb mb H H:=⟨Nat.le_refl _,fun _ _ _ _ _ h _=>h,fun _ _=>rfl⟩
theorem Kp.trans {A B Rd:Nat→Prop}{nb mb:Nat}{H H1 H2:Heap}(h:Kp A Rd nb mb H H1)(h':Kp B Rd nb mb H1 H2)(hab:∀i,A i→B i):Kp A Rd nb mb H H2 :=
 ⟨Nat.le_trans h.len h'.len,fun i b ha h1 h2 h3 h4=>h'.keep i b (hab i ha) h1 h2 (h.keep i b ha h1 h2 h3 h4) h4,fun i hi=>by rw [h'.rd i hi,h.rd i hi]⟩
theorem Kp.less {A B Rd:Nat→Prop}{nb mb:Nat}{H H1:Heap}(h:Kp B Rd nb mb H H1)(hab:∀i,A i→B i):Kp A Rd nb mb H H1 :=
 ⟨h.len,fun i b ha=>h.keep i b (hab i ha),h.rd⟩
end Go.Pi.L
namespace Go.Pi.L.Coa
open Go Go.Pi Go.Pi.L Go.Pi.Coa CM

structure Ctx where
 s:Sheet
 r:ShR
 p:SpR
 l:Nat
 n0:Nat
 Rd:Nat→Prop
 xb:Nat
 nb:Nat
 yb:Nat
 tb:Nat
 fb:Nat
 mb:Nat
def ptr (b:Nat):Value:=.pointer (some ⟨b,0,none⟩)
def bx (v:Value):Blk:=⟨.cells [v],true,true,none⟩
structure Env (X:Ctx)(A:Nat→Prop)(H:Heap)(pre:List Int):Prop where
 lt:Lt A H
 nf:NF A H
 fam:Fam H
 lo:∀i,A i→X.n0≤i
 ll:X.l < H.length
 n0l:X.n0≤X.l
 dis:∀i,X.Rd i→¬A i∧i < H.length
 xR:X.Rd X.xb
 xC:hcells H X.xb=some (shopC X.r X.p)
 sp:SpOk H X.r X.p X.s
 spR:InR X.Rd X.r.da X.r.dl∧InR X.Rd X.r.wa X.r.wl∧InR X.Rd X.r.ca X.r.cl∧InR X.Rd X.p.la X.p.ll∧InR X.Rd X.p.ha X.p.hl
 nA:A X.nb
 now:∃a m,H[X.nb]?=some (bx (.slice a pre.length m))∧Pfx A H 1 a pre.length m (cells encI pre)
 mA:A X.mb
 mp:Mp X.s H X.mb
 yA:A X.yb
 yC:H[X.yb]?=some (bx (.func (.yield X.l) #[] #[]))
 tA:A X.tb
 tC:H[X.tb]?=some (bx (.map (some X.mb)))
 fA:A X.fb
 fC:H[X.fb]?=some (bx (.func (.func 136) #[] #[.pointer (some ⟨X.nb,0,none⟩),.pointer (some ⟨X.xb,0,none⟩),.pointer (some ⟨X.yb,0,none⟩),.pointer (some ⟨X.tb,0,none⟩),.pointer (some ⟨X.fb,0,none⟩)]))
theorem bx_hc {H:Heap}{i:Nat}{v:Value}(h:H[i]?=some (bx v)):hcells H i=some [v]:=by simp [hcells,h,bx]
theorem SpOk.kept {Rd:Nat→Prop}{H H':Heap}{r:ShR}{p:SpR}{s:Sheet}(h:SpOk H r p s)(hr:InR Rd r.da r.dl∧InR Rd r.wa r.wl∧InR Rd r.ca r.cl∧InR Rd p.la p.ll∧InR Rd p.ha p.hl)(hs:∀i,Rd i→H'[i]?=H[i]?):SpOk H' r p s :=
 ⟨⟨h.sh.d.kept hr.1 hs,h.sh.w.kept hr.2.1 hs,h.sh.c.kept hr.2.2.1 hs⟩,Sl.kept h.lo hr.2.2.2.1 hs,Sl.kept h.hi hr.2.2.2.2 hs⟩
theorem hc_kept {H H':Heap}{i:Nat}(h:H'[i]?=H[i]?):hcells H' i=hcells H i:=by simp only [hcells,h]
theorem Env.mn {X:Ctx}{A:Nat→Prop}{H:Heap}{pre:List Int}(e:Env X A H pre):X.mb≠X.nb∧X.mb≠X.yb∧X.mb≠X.tb∧X.mb≠X.fb∧X.nb≠X.yb∧X.nb≠X.tb∧X.nb≠X.fb:=by
 obtain ⟨es,h,_⟩:=e.mp
 obtain ⟨a,m,hn,_⟩:=e.now
 have y:=e.yC
 have t:=e.tC
 have f:=e.fC
 refine ⟨fun q=>?_,fun q=>?_,fun q=>?_,fun q=>?_,fun q=>?_,fun q=>?_,fun q=>?_⟩
 ·rw [q,hn] at h; cases h
 ·rw [q,y] at h; cases h
 ·rw [q,t] at h; cases h
 ·rw [q,f] at h; cases h
 ·rw [q,y] at hn; cases hn
 ·rw [q,t] at hn; cases hn
 ·rw [q,f] at hn; cases hn
theorem Env.step {X:Ctx}{A:Nat→Prop}{H H':Heap}{pre:List Int}(e:Env X A H pre)(c:Chg (·=X.mb) H H')(m:Mp X.s H' X.mb)(f:Fam H'):Env X (And' A H H') H' pre:=by
 have hn:=e.mn
 have cA:Chg A H H':=c.mono fun i _ h=>by subst h; exact e.mA
 have old:∀i,i < H.length→i≠X.mb→H'[i]?=H[i]?:=fun i hi h=>c.old i hi h
 have rd:∀i,X.Rd i→H'[i]?=H[i]?:=fun i hi=>old i (e.dis i hi).2 fun q=>(e.dis i hi).1 (by rw [q]; exact e.mA)
 have lA:∀i,A i→i < H.length:=e.lt
 refine ⟨e.lt.and c.len,e.nf.and e.fam cA,f,fun i hi=>?_,Nat.lt_of_lt_of_le e.ll c.len,e.n0l,fun i hi=>⟨fun h=>?_,Nat.lt_of_lt_of_le (e.dis i hi).2 c.len⟩,e.xR,?_,e.sp.kept e.spR rd,e.spR,.inl e.nA,?_,.inl e.mA,m,.inl e.yA,?_,.inl e.tA,?_,.inl e.fA,?_⟩
 ·rcases hi with hi | hi
  ·exact e.lo i hi
  ·have:=e.lo _ e.nA; have:=lA _ e.nA; omega
 ·rcases h with h | h
  ·exact (e.dis i hi).1 h
  ·have:=(e.dis i hi).2; omega
 ·rw [hc_kept (rd _ e.xR)]; exact e.xC
 ·obtain ⟨a,m',h1,h2⟩:=e.now
  refine ⟨a,m',by rw [old _ (lA _ e.nA) hn.1.symm]; exact h1,h2.keep (fun i h=>.inl h) fun i c f ha hi=>old i (lA i ha) fun q=>?_⟩
  obtain ⟨es,h,_⟩:=e.mp
  rw [q,h] at hi; cases hi
 ·rw [old _ (lA _ e.yA) hn.2.1.symm]; exact e.yC
 ·rw [old _ (lA _ e.tA) hn.2.2.1.symm]; exact e.tC
 ·rw [old _ (lA _ e.fA) hn.2.2.2.1.symm]; exact e.fC
theorem Env.kp {X:Ctx}{A:Nat→Prop}{H H':Heap}{pre:List Int}(e:Env X A H pre)(c:Chg (·=X.mb) H H'):Kp A X.Rd X.nb X.mb H H' :=
 ⟨c.len,fun i b ha _ h2 h3 _=>by rw [c.old i (e.lt i ha) h2]; exact h3,fun i hi=>c.old i (e.dis i hi).2 fun q=>(e.dis i hi).1 (by rw [q]; exact e.mA)⟩
theorem Env.setnow {X:Ctx}{A:Nat→Prop}{H:Heap}{pre pre':List Int}(e:Env X A H pre){a:Option Addr}{m:Nat}(hp:Pfx A H 1 a pre'.length m (cells encI pre')) :
  Env X A (H.set X.nb (bx (.slice a pre'.length m))) pre':=by
 have hn:=e.mn
 obtain ⟨a0,m0,h0,_⟩:=e.now
 have c:Chg (·=X.nb) H (H.set X.nb (bx (.slice a pre'.length m))):=Chg.set _ rfl
 have old:∀i,i≠X.nb→(H.set X.nb (bx (.slice a pre'.length m)))[i]?=H[i]?:=fun i h=>by rw [List.getElem?_set_ne (fun q=>h q.symm)]
 have rd:∀i,X.Rd i→(H.set X.nb (bx (.slice a pre'.length m)))[i]?=H[i]?:=fun i hi=>old i fun q=>(e.dis i hi).1 (by rw [q]; exact e.nA)
 refine ⟨e.lt.chg c.len,fun i b g hi hg ha=>?_,e.fam.set h0 rfl,e.lo,by simpa using e.ll,e.n0l,fun i hi=>⟨(e.dis i hi).1,by simpa using (e.dis i hi).2⟩,e.xR,?_,e.sp.kept e.spR rd,e.spR,e.nA,⟨a,m,List.getElem?_set_self (e.lt _ e.nA),?_⟩,e.mA,e.mp.same (old _ hn.1),e.yA,?_,e.tA,?_,e.fA,?_⟩
 ·by_cases q:i=X.nb
  ·rw [q]; exact e.nA
  ·rw [old i q] at hi; exact e.nf i b g hi hg ha
 ·rw [hc_kept (rd _ e.xR)]; exact e.xC
 ·refine hp.keep (fun i h=>h) fun i c f ha hi=>old i fun q=>?_
  rw [q,h0] at hi; cases hi
 ·rw [old _ hn.2.2.2.2.1.symm]; exact e.yC
 ·rw [old _ hn.2.2.2.2.2.1.symm]; exact e.tC
 ·rw [old _ hn.2.2.2.2.2.2.symm]; exact e.fC
theorem Env.gen {X:Ctx}{A:Nat→Prop}{H H1:Heap}{pre pre':List Int}(e:Env X A H pre)(c:Chg A H H1)(hf:Fam H1)(kp:∀(i:Nat) b,H[i]?=some b→b.fam=none→H1[i]?=some b)
  {a:Option Addr} {m:Nat} (hp:Pfx (And' A H H1) H1 1 a pre'.length m (cells encI pre')) :
  Env X (And' A H H1) (H1.set X.nb (bx (.slice a pre'.length m))) pre'∧Kp A X.Rd X.nb X.mb H (H1.set X.nb (bx (.slice a pre'.length m))):=by
 have hn:=e.mn
 obtain ⟨a0,m0,h0,_⟩:=e.now
 have h1:=kp _ _ h0 rfl
 have lA:∀i,A i→i < H.length:=e.lt
 have old:∀i,i≠X.nb→(H1.set X.nb (bx (.slice a pre'.length m)))[i]?=H1[i]?:=fun i h=>by rw [List.getElem?_set_ne (fun q=>h q.symm)]
 have rd:∀i,X.Rd i→(H1.set X.nb (bx (.slice a pre'.length m)))[i]?=H[i]?:=fun i hi=>by
  rw [old i fun q=>(e.dis i hi).1 (by rw [q]; exact e.nA)]
  exact c.old i (e.dis i hi).2 (e.dis i hi).1
 have hlen:=c.len
 refine ⟨⟨fun i hi=>by have:=e.lt.and c.len i hi; simpa using this,fun i b g hi hg ha=>?_,hf.set h1 rfl,fun i hi=>?_,by have:=e.ll; simp only [List.length_set]; omega,e.n0l,fun i hi=>⟨fun h=>?_,by have:=(e.dis i hi).2; simp only [List.length_set]; omega⟩,e.xR,?_,e.sp.kept e.spR rd,e.spR,.inl e.nA,⟨a,m,List.getElem?_set_self (by have:=lA _ e.nA; omega),?_⟩,.inl e.mA,?_,.inl e.yA,?_,.inl e.tA,?_,.inl e.fA,?_⟩,⟨by simp only [List.length_set]; exact hlen,fun i b ha h2 h3 h4 h5=>by rw [old i h2]; exact kp i b h4 h5,rd⟩⟩
 ·by_cases q:i=X.nb
  ·rw [q]; exact .inl e.nA
  ·rw [old i q] at hi; exact e.nf.and e.fam c i b g hi hg ha
 ·rcases hi with hi | hi
  ·exact e.lo i hi
  ·have:=e.lo _ e.nA; have:=lA _ e.nA; omega
 ·rcases h with h | h
  ·exact (e.dis i hi).1 h
  ·have:=(e.dis i hi).2; omega
 ·rw [hc_kept (rd _ e.xR)]; exact e.xC
 ·refine hp.keep (fun i h=>h) fun i c f ha hi=>old i fun q=>?_
  rw [q,h1] at hi; cases hi
 ·obtain ⟨es,h,hm⟩:=e.mp
  exact ⟨es,by rw [old _ hn.1]; exact kp _ _ h rfl,hm⟩
 ·rw [old _ hn.2.2.2.2.1.symm]; exact kp _ _ e.yC rfl
 ·rw [old _ hn.2.2.2.2.2.1.symm]; exact kp _ _ e.tC rfl
 ·rw [old _ hn.2.2.2.2.2.2.symm]; exact kp _ _ e.fC rfl
theorem Env.app {X:Ctx}{A:Nat→Prop}{H:Heap}{pre:List Int}(e:Env X A H pre)(hl:pre.length < 100)(d:Int) :
  ∃(a:Option Addr) (m:Nat) (H1:Heap) (lf:Nat→Nat),H[X.nb]?=some (bx (.slice a pre.length m))∧(∀x y,isLoc (.slice a x y)=false)∧(∀lo,(X.n0≤lo→X.n0≤lf lo)∧lf lo≤lo)∧(∀{α:Type} (call:CallT) (F:Ex→St→Option α) d' kk T S D lo n rnd,ap1 call F (some [.int .i64 d]) (.slice a pre.length m) 1 d' kk ⟨T,S,D,H,lo,n,rnd⟩=nxt call F (some (.slice (some ⟨H.length,0,none⟩) (pre.length+1) 1)) d' kk ⟨T,S,D,H1,lf lo,n,rnd⟩) ∧
   H1[X.nb]?=some (bx (.slice a pre.length m)) ∧
   Env X (And' A H H1) (H1.set X.nb (bx (.slice (some ⟨H.length,0,none⟩) (pre.length+1) 1))) (pre++[d])∧Kp A X.Rd X.nb X.mb H (H1.set X.nb (bx (.slice (some ⟨H.length,0,none⟩) (pre.length+1) 1)))∧Chg A H (H1.set X.nb (bx (.slice (some ⟨H.length,0,none⟩) (pre.length+1) 1)))∧H1.length=H.length+1:=by
 obtain ⟨a,m,h0,hp⟩:=e.now
 obtain ⟨H1,lf,q1,q2,q3,q4,q5,q6,q7⟩:=hp.app e.lt e.nf e.fam e.lo (by decide) (by decide) (by omega) [.int .i64 d] rfl
 have q3':Pfx (And' A H H1) H1 1 (some ⟨H.length,0,none⟩) (pre++[d]).length 1 (cells encI (pre++[d])):=by
  rw [cells_app,List.length_append,List.length_singleton]; exact q3
 have g:=e.gen q4 q5 q7 q3'
 rw [List.length_append,List.length_singleton] at g
 exact ⟨a,m,H1,lf,h0,hp.isLoc,q1,q2,q7 _ _ h0 rfl,g.1,g.2,q4.trans (Chg.set _ e.nA) (fun _ _ h=>h),q6⟩
theorem Env.cut {X:Ctx}{A:Nat→Prop}{H:Heap}{pre:List Int}{d:Int}(e:Env X A H (pre++[d])) :
  ∃(b m:Nat),H[X.nb]?=some (bx (.slice (some ⟨b,0,none⟩) (pre.length+1) 1))∧VOp.ev.slc 1 (some ⟨b,0,none⟩) (pre.length+1) 1 0 (pre.length:Nat)=some (.slice (some ⟨b,0,none⟩) pre.length 1) ∧
   Env X A (H.set X.nb (bx (.slice (some ⟨b,0,none⟩) pre.length 1))) pre∧Kp A X.Rd X.nb X.mb H (H.set X.nb (bx (.slice (some ⟨b,0,none⟩) pre.length 1)))∧Chg A H (H.set X.nb (bx (.slice (some ⟨b,0,none⟩) pre.length 1))):=by
 obtain ⟨a,m,h0,hp⟩:=e.now
 rw [List.length_append,List.length_singleton] at h0 hp
 have hc:=hp.cut (n:=pre.length) (by omega)
 obtain ⟨b,rfl,rfl⟩:∃b,a=some ⟨b,0,none⟩∧m=1:=by
  rcases hp.ok with ⟨_,h,_⟩ | ⟨b,f,c',h1,h2,_⟩
  ·omega
  ·exact ⟨b,h1,h2⟩
 rw [cells_app,Nat.mul_one,List.take_append_of_le_length (by rw [cells_len (k:=1) (fun _=>rfl)]; omega),List.take_of_length_le (by rw [cells_len (k:=1) (fun _=>rfl)]; omega)] at hc
 refine ⟨b,0,h0,?_,e.setnow hc,⟨by simp,fun i b' ha h2 h3 h4 h5=>by rw [List.getElem?_set_ne (fun q=>h2 q.symm)]; exact h4,fun i hi=>by rw [List.getElem?_set_ne (fun q=>(e.dis i hi).1 (by rw [←q]; exact e.nA))]⟩,Chg.set _ e.nA⟩
 unfold VOp.ev.slc
 rw [if_pos (by omega)]
 simp only
 rw [if_pos (by omega)]
 simp
end Go.Pi.L.Coa
set_option maxRecDepth 100000
namespace Go.Pi.L.Coa
open Go Go.Pi Go.Pi.L Go.Pi.Coa CM

def QF (X:Ctx)(I Fin:List (List Int)→(Nat→Prop)→Heap→Prop)(acc ls:List (List Int))(pre:List Int)(A:Nat→Prop)(H:Heap)(o:Out):Prop :=
 ∃go H' lo A',o=⟨.ok (.bool go),H',lo⟩∧X.n0≤lo∧(ls=[]∨lo≤X.l)∧(∀i,A i→A' i)∧Kp A X.Rd X.nb X.mb H H'∧(go=true→I (acc++ls) A' H'∧Env X A' H' pre) ∧
  (go=false→lo≤X.l∧∃L1 L2,ls=L1++L2∧L1≠[]∧Fin (acc++L1) A' H')
theorem Env.fam' {X:Ctx}{A:Nat→Prop}{H:Heap}{pre:List Int}(e:Env X A H pre){H':Heap}(u:Up H H')(n:NF A H')(f:Fam H'):Env X A H' pre:=by
 have g:=e.step u.chg (e.mp.up u) f
 have lA:∀i,A i→i < H.length:=e.lt
 have hs:∀i,A i→H'[i]?=H[i]?:=fun i hi=>u.old i (lA i hi)
 obtain ⟨a,m,h1,h2⟩:=e.now
 exact ⟨e.lt.chg u.len,n,f,e.lo,g.ll,e.n0l,fun i hi=>⟨(e.dis i hi).1,(g.dis i hi).2⟩,e.xR,g.xC,g.sp,e.spR,e.nA,⟨a,m,by rw [hs _ e.nA]; exact h1,h2.same (fun _ h=>h) hs⟩,e.mA,e.mp.up u,e.yA,by rw [hs _ e.yA]; exact e.yC,e.tA,by rw [hs _ e.tA]; exact e.tC,e.fA,by rw [hs _ e.fA]; exact e.fC⟩
theorem Env.seen {X:Ctx}{A:Nat→Prop}{H:Heap}{pre:List Int}(e:Env X A H pre){H':Heap}(hl:H.length≤H'.length)(hs:∀i,A i∨X.Rd i→H'[i]?=H[i]?)(n:NF A H')(f:Fam H'):Env X A H' pre:=by
 obtain ⟨a,m,h1,h2⟩:=e.now
 have hA:=fun i h=>hs i (.inl h)
 have hR:=fun i h=>hs i (.inr h)
 exact ⟨e.lt.chg hl,n,f,e.lo,Nat.lt_of_lt_of_le e.ll hl,e.n0l,fun i hi=>⟨(e.dis i hi).1,Nat.lt_of_lt_of_le (e.dis i hi).2 hl⟩,e.xR,by rw [hc_kept (hR _ e.xR)]; exact e.xC,e.sp.kept e.spR hR,e.spR,e.nA,⟨a,m,by rw [hA _ e.nA]; exact h1,h2.same (fun _ h=>h) hA⟩,e.mA,e.mp.same (hA _ e.mA),e.yA,by rw [hA _ e.yA]; exact e.yC,e.tA,by rw [hA _ e.tA]; exact e.tC,e.fA,by rw [hA _ e.fA]; exact e.fC⟩
theorem c136z {X:Ctx}{Ok:List (List Int)→Prop}{I Fin:List (List Int)→(Nat→Prop)→Heap→Prop}(hS:ShFine X.s)(cons:Cons PP primsL X.l X.n0 X.Rd Ok I Fin){pre:List Int}(hpl:pre.length=X.s.coats.length)
  {acc:List (List Int)} {A:Nat→Prop} {H:Heap} (hok:Ok (acc++[pre])) (hI:I acc A H) (e:Env X A H pre) :
  Yes (R (.func 136) [.pointer (some ⟨X.nb,0,none⟩),.pointer (some ⟨X.xb,0,none⟩),.pointer (some ⟨X.yb,0,none⟩),.pointer (some ⟨X.tb,0,none⟩),.pointer (some ⟨X.fb,0,none⟩)] H) (QF X I Fin acc [pre] pre A H):=by
 refine run_y (pr 136) P136 (by simp [p136]) rfl ?_
 have hS1:=hS.c1
 have hS2:=hS.c2
 obtain ⟨a,m,hn0,hpf⟩:=e.now
 have hn:=bx_hc hn0
 have hy:=bx_hc e.yC
 have hx:=e.xC
 unfold shopC at hx
 have l3:=e.sp.sh.c.isLoc X.r.ck
 have l4:=hpf.isLoc pre.length m
 have hcl:X.r.cl=pre.length:=by rw [hpl]; exact e.sp.sh.c.len.symm
 have l3':isLoc (.slice X.r.ca pre.length X.r.ck)=false:=by rw [←hcl]; exact l3
 generalize hH1:H++[({ obj:=.cells [.int .i64 (pre.length:Nat)] }:Blk)]=H1
 have u1:Up H H1:=by rw [←hH1]; exact (Up.refl H).app
 have aN:hcells H1 H.length=some [.int .i64 (pre.length:Nat)]:=by rw [←hH1]; exact hc_new _ _ _
 have hn1:=u1.grow.hc hn
 have hy1:=u1.grow.hc hy
 have hx1:=u1.grow.hc hx
 have hF1:Fam H1:=by rw [←hH1]; exact e.fam.append (fun f h=>by cases h)
 have e1:=e.step u1.chg (e.mp.up u1) hF1
 have n1:=u1.len
 obtain ⟨a',m',hn',hpf'⟩:=e1.now
 have:=bx_hc hn'
 rw [hn1] at this
 cases this
 have k137:=c137 (k:=m) (hpf'.sl encI_len (by decide)) (by omega) (by omega) H1 (Grow.refl _)
 generalize hH2:H1++[({ obj:=.cells [],tip:=false,fam:=some H1.length }:Blk)]++[({ obj:=.cells (cells encI pre),fam:=some H1.length }:Blk)]=H2 at k137
 have u2:Up H1 H2:=by rw [←hH2]; exact (Up.refl H1).app.app
 have hF2:Fam H2:=famR k137 hF1
 have hb2:hcells H2 (H1.length+1)=some (cells encI pre):=by
  rw [←hH2]
  have:=hc_new (H:=H1++[({ obj:=.cells [],tip:=false,fam:=some H1.length }:Blk)]) (cells encI pre) true (some H1.length)
  rw [List.length_append,List.length_singleton] at this; exact this
 have hs2:Sl H2 1 encN (some ⟨H1.length+1,0,none⟩) pre.length pre:=Sl.of_cells encI_len hb2
 have hl1:∀i,And' A H H1 i→i < H1.length:=e1.lt
 have nf2:NF (And' A H H1) H2:=fun i b g hi hg ha=>by
  by_cases hlt:i < H1.length
  ·rw [u2.old i hlt] at hi; exact e1.nf i b g hi hg ha
  ·have hg1:g=H1.length:=by
    have hi2:=(List.getElem?_eq_some_iff.1 hi).1
    rw [←hH2] at hi hi2
    simp only [List.length_append,List.length_singleton] at hi2
    rcases (by omega:i=H1.length∨i=H1.length+1) with q | q
    ·subst q
     rw [List.append_assoc,List.getElem?_append_right (Nat.le_refl _)] at hi
     simp at hi; subst hi; cases hg; rfl
    ·subst q
     rw [List.append_assoc,List.getElem?_append_right (by omega)] at hi
     simp at hi; subst hi; cases hg; rfl
   subst hg1
   have:=hl1 _ ha; omega
 have e2:=e1.fam' u2 nf2 hF2
 have hI2:I acc (And' A H H1) H2:=cons.less _ _ _ _ (cons.own _ _ _ _ hI (u1.trans u2).chg) fun i h=>by
  rcases h with h | h
  ·exact .inl h
  ·exact .inr ⟨h.1,by have:=u2.len; omega⟩
 obtain ⟨go,H3,lo3,hst,z1,z2,z3,z4,z5,z6,z7⟩:=cons.step acc _ H2 pre _ hok hI2 e2.lt nf2 hF2 hs2 (fun h=>by have:=hl1 _ h; omega)
 have hF3:Fam H3:=famR hst hF2
 have e3:=e2.seen z3 z4 z5 hF3
 have n0:=e.ll
 have n2:=e.n0l
 have kp:Kp A X.Rd X.nb X.mb H H3:=⟨by have:=u2.len; omega,fun i b ha h2 h3 h4 h5=>by rw [z4 i (.inl (.inl ha)),(u1.trans u2).old i (e.lt i ha)]; exact h4,fun i hi=>by rw [z4 i (.inr hi),(u1.trans u2).old i (e.dis i hi).2]⟩
 have fin:∀lo,X.n0≤lo→lo≤X.l→QF X I Fin acc [pre] pre A H (gcR H (.ok (.bool go)) H3 lo):=fun lo h1 h2=>by
  rw [gc_no (by omega)]
  exact ⟨go,H3,lo,_,rfl,h1,.inr h2,fun i h=>.inl h,kp,fun hg=>⟨z6 hg,e3⟩,fun hg=>⟨h2,[pre],[],rfl,by simp,z7 hg⟩⟩
 simp (maxDischargeDepth:=8) only [↓SD,SU,SV,SW,simprocAttr,Int.cast_ofNat_Int,small,resV, B136,R136,N136,b136, List.length_singleton,hn,app_get,stH_ok,app_set,hH1,aN,hn1,hy1,hx1,l3,l4,hcl,k137,fa_yield,hst,rD_hb,n1,R136,N136,l3']
 rw [yes_some]
 have u2l:=u2.len
 exact fin _ (by omega) (by omega)
end Go.Pi.L.Coa
set_option maxRecDepth 100000
namespace Go.Pi.L.Coa
open Go Go.Pi Go.Pi.L Go.Pi.Coa CM

theorem okB_nil {s:Sheet}{pre:List Int}(h:pre.length=0)(d:Int):okB s pre d=CM.go s (s.coats.drop pre.length) d:=by
 have:pre=[]:=List.eq_nil_of_length_eq_zero h
 subst this; rfl
theorem okB_snoc {s:Sheet}{pre:List Int}{d0:Int}{c0:Int×Int}(h:pre.getLast?=some d0)(hc:s.coats[pre.length - 1]?=some c0)(d:Int) :
  okB s pre d=(decide (d0 < d)&&(CM.go s (s.coats.drop pre.length) d&&stands s c0 d0 d true)):=by
 simp only [okB,h,hc]
set_option maxHeartbeats 1000000 in
theorem c136 {X:Ctx}{Ok:List (List Int)→Prop}{I Fin:List (List Int)→(Nat→Prop)→Heap→Prop}(hS:ShFine X.s)(cons:Cons PP primsL X.l X.n0 X.Rd Ok I Fin):∀(n:Nat) (pre:List Int),pre.length+n=X.s.coats.length→(∀x∈pre,x∈X.s.work) →
  ∀(acc:List (List Int)) (A:Nat→Prop) (H:Heap),(∀L1 L2,(restN X.s n pre).map (pre++·)=L1++L2→Ok (acc++L1))→I acc A H→Env X A H pre →
  Yes (R (.func 136) [.pointer (some ⟨X.nb,0,none⟩),.pointer (some ⟨X.xb,0,none⟩),.pointer (some ⟨X.yb,0,none⟩),.pointer (some ⟨X.tb,0,none⟩),.pointer (some ⟨X.fb,0,none⟩)] H) (QF X I Fin acc ((restN X.s n pre).map (pre++·)) pre A H):=by
 intro n
 induction n with
 | zero =>
  intro pre hpl _ acc A H hO hI e
  have:=c136z hS cons (pre:=pre) hpl (hO [pre] [] (by simp [restN])) hI e
  simpa only [restN,List.map_cons,List.map_nil,List.append_nil] using this
 | succ n IH =>
 intro pre hpl hpw acc A H hO hI e
 refine run_y (pr 136) P136 (by simp [p136]) rfl ?_
 have hS1:=hS.c1
 have hS2:=hS.c2
 obtain ⟨a,m,hn0,hpf⟩:=e.now
 have hn:=bx_hc hn0
 have hx:=e.xC
 unfold shopC at hx
 have l2:=e.sp.sh.w.isLoc X.r.wk
 have l3:=e.sp.sh.c.isLoc X.r.ck
 have l1:=e.sp.sh.d.isLoc X.r.dk
 have l6:=e.sp.lo.isLoc X.p.lk
 have l7:=e.sp.hi.isLoc X.p.hk
 have l4:=hpf.isLoc pre.length m
 have hcl:X.r.cl=X.s.coats.length:=e.sp.sh.c.len.symm
 have hwl:X.r.wl≤12:=by rw [←e.sp.sh.w.len]; exact work_len hS
 have hne:((pre.length:Nat):Int)=((X.r.cl:Nat):Int)↔False:=by constructor <;> intro h <;> first | omega | cases h
 generalize hH1:H++[({ obj:=.cells [.int .i64 (pre.length:Nat)] }:Blk)]=H1
 have u1:Up H H1:=by rw [←hH1]; exact (Up.refl H).app
 have aN:hcells H1 H.length=some [.int .i64 (pre.length:Nat)]:=by rw [←hH1]; exact hc_new _ _ _
 have aN':H1[H.length]?=some (bx (.int .i64 (pre.length:Nat))):=by rw [←hH1]; exact app_get
 have hx1:=u1.grow.hc hx
 have hF1:Fam H1:=by rw [←hH1]; exact e.fam.append (fun f h=>by cases h)
 have e1:=e.step u1.chg (e.mp.up u1) hF1
 have n1:=u1.len
 have n1':H1.length=H.length+1:=by rw [←hH1]; simp
 have ell:=e.ll
 have enl:=e.n0l
 have nbl:=e.lt _ e.nA
 have mbl:=e.lt _ e.mA
 have nbo:=e.lo _ e.nA
 simp (maxDischargeDepth:=8) only [↓SD,SU,SV,SW,simprocAttr,Int.cast_ofNat_Int,small,resV, B136,R136,N136,b136, List.length_singleton,hn,app_get,stH_ok,app_set,hH1,aN,hx1,l2,l3,l4,hne]
 refine loop_ind (G:=(Yes · (QF X I Fin acc ((restN X.s (n+1) pre).map (pre++·)) pre A H))) (fun j σ=>∃T S H2 lim A2,σ=⟨T,S,[],H2,lim,70,false⟩∧get T 0=.pointer (some ⟨X.nb,0,none⟩)∧get T 1=.pointer (some ⟨X.xb,0,none⟩)∧get T 2=.pointer (some ⟨X.yb,0,none⟩)∧get T 3=.pointer (some ⟨X.tb,0,none⟩)∧get T 4=.pointer (some ⟨X.fb,0,none⟩)∧get T 6=.pointer (some ⟨H.length,0,none⟩)∧get T 25=.slice X.r.wa X.r.wl X.r.wk∧get T 26=.int .i64 X.r.wl∧get T 27=.int .i64 (j:Nat)∧(I (acc++sofar X.s n pre j) A2 H2∧Env X A2 H2 pre∧(∀i,A i→A2 i)∧A2 H.length∧H2[H.length]?=some (bx (.int .i64 (pre.length:Nat)))∧Kp A X.Rd X.nb X.mb H H2∧X.n0≤lim∧(sofar X.s n pre j=[]∨lim≤X.l))) (X.r.wl) ?_ ?_ 0 _ (Nat.zero_le _) ⟨_,_,_,_,_,rfl,rfl,rfl,rfl,rfl,rfl,rfl,rfl,rfl,rfl,⟨by rw [sofar_zero,List.append_nil]; exact cons.own _ _ _ _ hI u1.chg,e1,fun i h=>.inl h,.inr ⟨Nat.le_refl _,by omega⟩,aN',e.kp u1.chg,by omega,.inl (sofar_zero _ _ _)⟩⟩
 ·rintro c' j s hj ⟨T,S,H2,lim,A2,rfl,t0,t1,t2,t3,t4,t6,t25,t26,t27,hp⟩ ih
  obtain ⟨hI2,e2,hA2,nA2,hnb2,kp2,hlo2,hll⟩:=hp
  obtain ⟨b,off,x,hxb,hx',f0⟩:=e2.sp.sh.w.i1 hj
  have f0':=f0 H2 (Grow.refl _)
  have hwx:=hS.work x (List.mem_of_getElem? hx')
  obtain ⟨t,rfl⟩:∃t:Nat,x=t:=⟨x.toNat,by omega⟩
  have hw1:=wrap_succ j (by omega)
  generalize hH3:H2++[({ obj:=.cells [.int .i64 (t:Int)] }:Blk)]=H3
  have u3:Up H2 H3:=by rw [←hH3]; exact (Up.refl H2).app
  have aT:hcells H3 H2.length=some [.int .i64 (t:Int)]:=by rw [←hH3]; exact hc_new _ _ _
  have aT':H3[H2.length]?=some (bx (.int .i64 (t:Int))):=by rw [←hH3]; exact app_get
  have hF3:Fam H3:=by rw [←hH3]; exact e2.fam.append (fun f h=>by cases h)
  have n3:H3.length=H2.length+1:=by rw [←hH3]; simp
  have e3:=e2.step u3.chg (e2.mp.up u3) hF3
  have n2:=kp2.len
  have I3:=cons.own _ _ _ _ hI2 (u3.chg (A:=A2))
  have kp3:=e2.kp (u3.chg (A:=(·=X.mb)))
  have hnb3:hcells H3 H.length=some [.int .i64 (pre.length:Nat)]:=u3.grow.hc (bx_hc hnb2)
  have hx3:=e3.xC
  unfold shopC at hx3
  have hm3:=bx_hc e3.tC
  have nb2l:=e2.lt _ e2.nA
  have mb2l:=e2.lt _ e2.mA
  obtain ⟨o,ho,H4,lo4,rfl,ch4,mp4,hl4⟩:=c138 e3.sp hS (mb:=X.mb) (n+1) pre.length hpl (by omega) t (by omega) H3 (Grow.refl _) e3.mp
  have hF4:Fam H4:=famR ho hF3
  have e4:=e3.step ch4 mp4 hF4
  have I4:=cons.own _ _ _ _ I3 (ch4.mono (B:=And' A2 H2 H3) fun i _ h=>by subst h; exact e3.mA)
  have kp4:=e3.kp ch4
  have n4:=kp4.len
  have kp24:=kp3.trans kp4 fun i h=>.inl h
  have hnb4':=kp24.keep _ _ nA2 (by omega) (by omega) hnb2 rfl
  have hnb4:=bx_hc hnb4'
  have aT4':=kp4.keep H2.length _ (.inr ⟨Nat.le_refl _,by omega⟩) (by omega) (by omega) aT' rfl
  have aT4:=bx_hc aT4'
  have hx4:=e4.xC
  unfold shopC at hx4
  have ia1:vv (.ia 1) [.slice X.r.wa X.r.wl X.r.wk,.int .i64 (j:Nat)]=some (.pointer (some ⟨b,off+j*1,none⟩)):=by rw [hxb]; exact vv_iaN 1 b off j _ _ _ hj
  have mbo:=e2.lo _ e2.mA
  have next:okB X.s pre t=false→∀lim',X.n0≤lim'→lim'≤lim→I (acc++sofar X.s n pre (j+1)) (And' (And' A2 H2 H3) H3 H4) H4∧Env X (And' (And' A2 H2 H3) H3 H4) H4 pre∧(∀i,A i→And' (And' A2 H2 H3) H3 H4 i)∧And' (And' A2 H2 H3) H3 H4 H.length∧H4[H.length]?=some (bx (.int .i64 (pre.length:Nat)))∧Kp A X.Rd X.nb X.mb H H4∧X.n0≤lim'∧(sofar X.s n pre (j+1)=[]∨lim'≤X.l):=fun h lim' h1 h2=>by
   rw [sofar_no hx' h]
   exact ⟨I4,e4,fun i hi=>.inl (.inl (hA2 i hi)),.inl (.inl nA2),hnb4',kp2.trans kp24 hA2,h1,hll.imp id fun q=>by omega⟩
  have next3:okB X.s pre t=false→∀lim',X.n0≤lim'→lim'≤lim→I (acc++sofar X.s n pre (j+1)) (And' A2 H2 H3) H3∧Env X (And' A2 H2 H3) H3 pre∧(∀i,A i→And' A2 H2 H3 i)∧And' A2 H2 H3 H.length∧H3[H.length]?=some (bx (.int .i64 (pre.length:Nat)))∧Kp A X.Rd X.nb X.mb H H3∧X.n0≤lim'∧(sofar X.s n pre (j+1)=[]∨lim'≤X.l):=fun h lim' h1 h2=>by
   rw [sofar_no hx' h]
   exact ⟨I3,e3,fun i hi=>.inl (hA2 i hi),.inl nA2,kp3.keep _ _ nA2 (by omega) (by omega) hnb2 rfl,kp2.trans kp3 hA2,h1,hll.imp id fun q=>by omega⟩
  obtain ⟨a5,m5,H5,lf,nb4,l5,q1,q2,nb5,e5,kp5,ch5,len5⟩:=e4.app (by omega) (t:Int)
  have nb4':=bx_hc nb4
  replace nb5:H5[X.nb]?=some ⟨.cells [.slice a5 pre.length m5],true,true,none⟩:=nb5
  have l5':=l5 pre.length m5
  obtain ⟨H6,hH6⟩:∃H6,H5.set X.nb ({ obj:=.cells [.slice (some ⟨H4.length,0,none⟩) (pre.length+1) 1] }:Blk)=H6:=⟨_,rfl⟩
  have hH6':H5.set X.nb (bx (.slice (some ⟨H4.length,0,none⟩) (pre.length+1) 1))=H6:=hH6
  rw [hH6'] at e5 kp5 ch5
  have len6:H6.length=H5.length:=by rw [←hH6]; simp
  have I6:I (acc++sofar X.s n pre j) (And' (And' (And' A2 H2 H3) H3 H4) H4 H5) H6:=cons.less _ _ _ _ (cons.own _ _ _ _ I4 ch5) fun i h=>h.imp id fun ⟨h1,h2⟩=>⟨h1,by omega⟩
  have pl1:(pre.length:Nat) < pre.length+1:=by omega
  by_cases hp0:pre.length=0
  ·have zc:((0:Int) < (pre.length:Nat))↔False:=by constructor <;> intro h <;> first | omega | cases h
   have hokB:=okB_nil (s:=X.s) hp0 (t:Int)
   cases hgo:CM.go X.s (X.s.coats.drop pre.length) t with
   | false =>
    rw [hgo] at ho hokB
    simp (maxDischargeDepth:=8) only [↓SD,SU,SV,SW,simprocAttr,Int.cast_ofNat_Int,small,resV, q136x0,t0,t1,t2,t3,t4,t6,t25,t26,t27, lt_nat,hj,l1,l2,l3,l6,l7,f0',ia1,hH3,app_get,stH_ok,app_set,aT,hnb3,hx3,hm3,ho,rD_hb,hw1,zc]
    exact ih _ ⟨_,_,(H4),(_),(_),rfl,(by simp [get_set,t0] <;> omega),(by simp [get_set,t1] <;> omega),(by simp [get_set,t2] <;> omega),(by simp [get_set,t3] <;> omega),(by simp [get_set,t4] <;> omega),(by simp [get_set,t6] <;> omega),(by simp [get_set,t25] <;> omega),(by simp [get_set,t26] <;> omega),(by simp [get_set,t27] <;> omega),next hokB _ (by omega) (by omega)⟩
   | true =>
    rw [hgo] at ho hokB
    have hok:=hokB

    obtain ⟨l0,hl0⟩:=sofar_split (s:=X.s) (n:=n) (pre:=pre) (j:=j+1)
    rw [sofar_yes hx' hok] at hl0
    have hO':∀L1 L2,(restN X.s n (pre++[(t:Int)])).map ((pre++[(t:Int)])++·)=L1++L2→Ok (acc++sofar X.s n pre j++L1):=fun L1 L2 h=>by
     rw [List.append_assoc]
     refine hO (sofar X.s n pre j++L1) (L2++l0) ?_
     rw [hl0,h]; simp
    obtain ⟨o,ho6,go6,H7,lo7,A7,rfl,w1,w2,w3,kp7,w5,w6⟩:=IH (pre++[(t:Int)]) (by rw [List.length_append,List.length_singleton]; omega) (fun x hx=>(List.mem_append.1 hx).elim (hpw x) fun h=>by rw [List.mem_singleton.1 h]; exact List.mem_of_getElem? hx') _ _ _ (fun L1 L2 h=>hO' L1 L2 h) I6 e5
    have hf6:=bx_hc e5.fC
    have kp27:=(kp24.trans kp5 fun i h=>.inl (.inl h)).trans kp7 fun i h=>.inl (.inl (.inl h))
    have hnb7':=kp27.keep _ _ nA2 (by omega) (by omega) hnb2 rfl
    have hnb7:=bx_hc hnb7'
    have n7:=kp27.len
    cases go6 with
    | false =>
     obtain ⟨y1,L1,L2,y2,y3,y4⟩:=w6 rfl
     rw [y2] at hl0
     simp (maxDischargeDepth:=8) only [↓SD,SU,SV,SW,simprocAttr,Int.cast_ofNat_Int,small,resV, q136x0,t0,t1,t2,t3,t4,t6,t25,t26,t27, lt_nat,hj,l1,l2,l3,l5',l6,l7,f0',ia1,hH3,app_get,stH_ok,app_set,aT,hnb3,hx3,hm3,ho,rD_hb,hnb4,aT4,hx4,nb4',q2,nb5,hH6,hf6,ho6,zc,R136,N136]
     rw [yes_some,gc_no (fun h=>by have:=Nat.le_trans h (Nat.min_le_right _ _); omega)]
     exact ⟨false,H7,_,A7,rfl,Nat.le_min.2 ⟨Nat.le_min.2 ⟨(q1 _).1 (by omega),nbo⟩,w1⟩,.inr (Nat.le_trans (Nat.min_le_right _ _) y1),fun i h=>w3 i (.inl (.inl (.inl (hA2 i h)))),kp2.trans kp27 hA2,fun h=>(by cases h),fun _=>⟨Nat.le_trans (Nat.min_le_right _ _) y1,sofar X.s n pre j++L1,L2++l0,by rw [hl0]; simp,by simp [y3],by rw [←List.append_assoc]; exact y4⟩⟩
    | true =>
     obtain ⟨I7,e7⟩:=w5 rfl
     obtain ⟨b8,m8,nb7,hsl,e8,kp8,ch8⟩:=e7.cut
     have nb7':=bx_hc nb7
     replace nb7:H7[X.nb]?=some ⟨.cells [.slice (some ⟨b8,0,none⟩) (pre.length+1) 1],true,true,none⟩:=nb7
     obtain ⟨H8,hH8⟩:∃H8,H7.set X.nb ({ obj:=.cells [.slice (some ⟨b8,0,none⟩) pre.length 1] }:Blk)=H8:=⟨_,rfl⟩
     have hH8':H7.set X.nb (bx (.slice (some ⟨b8,0,none⟩) pre.length 1))=H8:=hH8
     rw [hH8'] at e8 kp8 ch8
     have len8:H8.length=H7.length:=by rw [←hH8]; simp
     have I8:I (acc++sofar X.s n pre (j+1)) A7 H8:=by
      rw [sofar_yes hx' hok,←List.append_assoc]
      exact cons.less _ _ _ _ (cons.own _ _ _ _ I7 ch8) fun i h=>.inl h
     have kp28:=kp27.trans kp8 fun i h=>w3 i (.inl (.inl (.inl h)))
     have hnb8:=kp28.keep _ _ nA2 (by omega) (by omega) hnb2 rfl
     have l8:isLoc (.slice (some ⟨b8,0,none⟩) (pre.length+1) 1)=false:=rfl
     simp (maxDischargeDepth:=8) only [↓SD,SU,SV,SW,simprocAttr,Int.cast_ofNat_Int,small,resV, q136x0,t0,t1,t2,t3,t4,t6,t25,t26,t27, lt_nat,hj,l1,l2,l3,l5',l6,l7,l8,f0',ia1,hH3,app_get,stH_ok,app_set,aT,hnb3,hx3,hm3,ho,rD_hb,hnb4,aT4,hx4,nb4',q2,nb5,hH6,hf6,ho6,hnb7,nb7',nb7,vv_slh,hsl,hH8,hw1,zc]
     have hup:∀E,E≤lim→(sofar X.s n pre (j+1)=[]∨min (min (min (lf E) X.nb) lo7) X.nb≤X.l):=fun E hE=>by
      rcases w2 with h1 | h1
      ·rcases hll with h0 | h0
       ·left; rw [sofar_yes hx' hok,h0,h1]; rfl
       ·right; exact Nat.le_trans (Nat.min_le_left _ _) (Nat.le_trans (Nat.min_le_left _ _) (Nat.le_trans (Nat.min_le_left _ _) (Nat.le_trans (q1 _).2 (by omega))))
      ·right; exact Nat.le_trans (Nat.min_le_left _ _) (Nat.le_trans (Nat.min_le_right _ _) h1)
     exact ih _ ⟨_,_,(H8),(_),(A7),rfl,(by simp [get_set,t0] <;> omega),(by simp [get_set,t1] <;> omega),(by simp [get_set,t2] <;> omega),(by simp [get_set,t3] <;> omega),(by simp [get_set,t4] <;> omega),(by simp [get_set,t6] <;> omega),(by simp [get_set,t25] <;> omega),(by simp [get_set,t26] <;> omega),(by simp [get_set,t27] <;> omega),⟨I8,e8,fun i h=>w3 i (.inl (.inl (.inl (hA2 i h)))),w3 _ (.inl (.inl (.inl nA2))),hnb8,kp2.trans kp28 hA2,Nat.le_min.2 ⟨Nat.le_min.2 ⟨Nat.le_min.2 ⟨(q1 _).1 (by omega),nbo⟩,w1⟩,nbo⟩,hup _ (by omega)⟩⟩
  ·have zc:((0:Int) < (pre.length:Nat))↔True:=by constructor <;> intro h <;> first | trivial | omega
   obtain ⟨k,hk⟩:∃k,pre.length=k+1:=⟨pre.length - 1,by omega⟩
   obtain ⟨a3,m3,nb3,hpf3⟩:=e3.now
   have nb3':=bx_hc nb3
   have hq3:Ints H3 a3 pre.length pre:=hpf3.sl encI_len (by decide)
   obtain ⟨b9,off9,x9,ha9,hx9,f9⟩:=hq3.i1 (j:=k) (by omega)
   have f9':=f9 H3 (Grow.refl _)
   have hw9:=hS.work x9 (hpw x9 (List.mem_of_getElem? hx9))
   obtain ⟨d0,rfl⟩:∃d0:Nat,x9=d0:=⟨x9.toNat,by omega⟩
   have ia3:vv (.ia 1) [.slice a3 pre.length m3,.int .i64 (k:Nat)]=some (.pointer (some ⟨b9,off9+k*1,none⟩)):=by rw [ha9]; exact vv_iaN 1 b9 off9 k _ _ _ (by omega)
   have w5':IntKind.wrap .i64 (((pre.length:Nat):Int) - 1)=(k:Nat):=by rw [wrap_id _ (by omega) (by omega)]; omega
   have l9:=hpf3.isLoc pre.length m3
   obtain ⟨c0,hc0⟩:∃c0,X.s.coats[k]?=some c0:=⟨_,List.getElem?_eq_getElem (by omega)⟩
   have hlast:pre.getLast?=some (d0:Int):=by rw [List.getLast?_eq_getElem?,hk,Nat.add_sub_cancel]; exact hx9
   have hc0':X.s.coats[pre.length - 1]?=some c0:=by rw [hk,Nat.add_sub_cancel]; exact hc0
   have hokB:=okB_snoc hlast hc0' (t:Int)
   by_cases htd:t≤d0
   ·have hd:¬(d0:Int) < (t:Int):=by omega
    simp only [hd,decide_false,Bool.false_and] at hokB
    simp (maxDischargeDepth:=8) only [↓SD,SU,SV,SW,simprocAttr,Int.cast_ofNat_Int,small,resV, q136x0,t0,t1,t2,t3,t4,t6,t25,t26,t27, lt_nat,le_nat,hj,l1,l2,l3,l6,l7,l9,f0',ia1,hH3,app_get,stH_ok,app_set,aT,hnb3,nb3',w5',ia3,f9',htd,hw1,zc]
    exact ih _ ⟨_,_,(H3),(_),(_),rfl,(by simp [get_set,t0] <;> omega),(by simp [get_set,t1] <;> omega),(by simp [get_set,t2] <;> omega),(by simp [get_set,t3] <;> omega),(by simp [get_set,t4] <;> omega),(by simp [get_set,t6] <;> omega),(by simp [get_set,t25] <;> omega),(by simp [get_set,t26] <;> omega),(by simp [get_set,t27] <;> omega),next3 hokB _ (by omega) (by omega)⟩
   ·have hd:(d0:Int) < (t:Int):=by omega
    simp only [hd,decide_true,Bool.true_and] at hokB
    cases hgo:CM.go X.s (X.s.coats.drop pre.length) t with
    | false =>
     rw [hgo] at ho hokB
     rw [Bool.false_and] at hokB
     simp (maxDischargeDepth:=8) only [↓SD,SU,SV,SW,simprocAttr,Int.cast_ofNat_Int,small,resV, q136x0,t0,t1,t2,t3,t4,t6,t25,t26,t27, lt_nat,le_nat,hj,l1,l2,l3,l6,l7,l9,f0',ia1,hH3,app_get,stH_ok,app_set,aT,hnb3,nb3',w5',ia3,f9',htd,hx3,hm3,ho,rD_hb,hw1,zc]
     exact ih _ ⟨_,_,(H4),(_),(_),rfl,(by simp [get_set,t0] <;> omega),(by simp [get_set,t1] <;> omega),(by simp [get_set,t2] <;> omega),(by simp [get_set,t3] <;> omega),(by simp [get_set,t4] <;> omega),(by simp [get_set,t6] <;> omega),(by simp [get_set,t25] <;> omega),(by simp [get_set,t26] <;> omega),(by simp [get_set,t27] <;> omega),next hokB _ (by omega) (by omega)⟩
    | true =>
     rw [hgo] at ho hokB
     rw [Bool.true_and] at hokB
     obtain ⟨a4,m4,nbb,hpf4⟩:=e4.now
     obtain ⟨rfl,rfl⟩:a5=a4∧m5=m4:=by rw [nb4] at nbb; simpa [bx] using nbb
     have k139:=fun H2' u=>c139 e4.sp hS (i:=k) (d:=d0) (t:=t) hc0 (by omega) (by omega) e4.xC (by rw [←hk]; exact hnb4) nb4' (hpf4.sl encI_len (by decide)) hx9 aT4 H2' u
     have k109:=c109 (g:=139) (caps:=[.pointer (some ⟨X.xb,0,none⟩),.pointer (some ⟨H.length,0,none⟩),.pointer (some ⟨X.nb,0,none⟩),.pointer (some ⟨H2.length,0,none⟩)]) rfl k139
     have hst:=stands_eq X.s c0 d0 t true
     cases hf:failAt X.s c0 d0 t true with
     | some w =>
      rw [att_yes k hf] at k109
      rw [hf] at hst
      rw [hst] at hokB
      simp (maxDischargeDepth:=8) only [↓SD,SU,SV,SW,simprocAttr,Int.cast_ofNat_Int,small,resV, q136x0,t0,t1,t2,t3,t4,t6,t25,t26,t27, lt_nat,le_nat,hj,l1,l2,l3,l6,l7,l9,f0',ia1,hH3,app_get,stH_ok,app_set,aT,hnb3,nb3',w5',ia3,f9',htd,hx3,hm3,ho,rD_hb,hnb4,k109,hw1,zc]
      exact ih _ ⟨_,_,(H4),(_),(_),rfl,(by simp [get_set,t0] <;> omega),(by simp [get_set,t1] <;> omega),(by simp [get_set,t2] <;> omega),(by simp [get_set,t3] <;> omega),(by simp [get_set,t4] <;> omega),(by simp [get_set,t6] <;> omega),(by simp [get_set,t25] <;> omega),(by simp [get_set,t26] <;> omega),(by simp [get_set,t27] <;> omega),next hokB _ (by omega) (by omega)⟩
     | none =>
      rw [att_no k hf] at k109
      rw [hf] at hst
      rw [hst] at hokB
      have hok:okB X.s pre t=true:=hokB

      obtain ⟨l0,hl0⟩:=sofar_split (s:=X.s) (n:=n) (pre:=pre) (j:=j+1)
      rw [sofar_yes hx' hok] at hl0
      have hO':∀L1 L2,(restN X.s n (pre++[(t:Int)])).map ((pre++[(t:Int)])++·)=L1++L2→Ok (acc++sofar X.s n pre j++L1):=fun L1 L2 h=>by
       rw [List.append_assoc]
       refine hO (sofar X.s n pre j++L1) (L2++l0) ?_
       rw [hl0,h]; simp
      obtain ⟨o,ho6,go6,H7,lo7,A7,rfl,w1,w2,w3,kp7,w5,w6⟩:=IH (pre++[(t:Int)]) (by rw [List.length_append,List.length_singleton]; omega) (fun x hx=>(List.mem_append.1 hx).elim (hpw x) fun h=>by rw [List.mem_singleton.1 h]; exact List.mem_of_getElem? hx') _ _ _ (fun L1 L2 h=>hO' L1 L2 h) I6 e5
      have hf6:=bx_hc e5.fC
      have kp27:=(kp24.trans kp5 fun i h=>.inl (.inl h)).trans kp7 fun i h=>.inl (.inl (.inl h))
      have hnb7':=kp27.keep _ _ nA2 (by omega) (by omega) hnb2 rfl
      have hnb7:=bx_hc hnb7'
      have n7:=kp27.len
      cases go6 with
      | false =>
       obtain ⟨y1,L1,L2,y2,y3,y4⟩:=w6 rfl
       rw [y2] at hl0
       simp (maxDischargeDepth:=8) only [↓SD,SU,SV,SW,simprocAttr,Int.cast_ofNat_Int,small,resV, q136x0,t0,t1,t2,t3,t4,t6,t25,t26,t27, lt_nat,hj,l1,l2,l3,l5',l6,l7,f0',ia1,hH3,app_get,stH_ok,app_set,aT,hnb3,hx3,hm3,ho,rD_hb,hnb4,aT4,hx4,nb4',q2,nb5,hH6,hf6,ho6,zc,le_nat,l9,nb3',w5',ia3,f9',htd,k109,R136,N136]
       rw [yes_some,gc_no (fun h=>by have:=Nat.le_trans h (Nat.min_le_right _ _); omega)]
       exact ⟨false,H7,_,A7,rfl,Nat.le_min.2 ⟨Nat.le_min.2 ⟨(q1 _).1 (by omega),nbo⟩,w1⟩,.inr (Nat.le_trans (Nat.min_le_right _ _) y1),fun i h=>w3 i (.inl (.inl (.inl (hA2 i h)))),kp2.trans kp27 hA2,fun h=>(by cases h),fun _=>⟨Nat.le_trans (Nat.min_le_right _ _) y1,sofar X.s n pre j++L1,L2++l0,by rw [hl0]; simp,by simp [y3],by rw [←List.append_assoc]; exact y4⟩⟩
      | true =>
       obtain ⟨I7,e7⟩:=w5 rfl
       obtain ⟨b8,m8,nb7,hsl,e8,kp8,ch8⟩:=e7.cut
       have nb7':=bx_hc nb7
       replace nb7:H7[X.nb]?=some ⟨.cells [.slice (some ⟨b8,0,none⟩) (pre.length+1) 1],true,true,none⟩:=nb7
       obtain ⟨H8,hH8⟩:∃H8,H7.set X.nb ({ obj:=.cells [.slice (some ⟨b8,0,none⟩) pre.length 1] }:Blk)=H8:=⟨_,rfl⟩
       have hH8':H7.set X.nb (bx (.slice (some ⟨b8,0,none⟩) pre.length 1))=H8:=hH8
       rw [hH8'] at e8 kp8 ch8
       have len8:H8.length=H7.length:=by rw [←hH8]; simp
       have I8:I (acc++sofar X.s n pre (j+1)) A7 H8:=by
        rw [sofar_yes hx' hok,←List.append_assoc]
        exact cons.less _ _ _ _ (cons.own _ _ _ _ I7 ch8) fun i h=>.inl h
       have kp28:=kp27.trans kp8 fun i h=>w3 i (.inl (.inl (.inl h)))
       have hnb8:=kp28.keep _ _ nA2 (by omega) (by omega) hnb2 rfl
       have l8:isLoc (.slice (some ⟨b8,0,none⟩) (pre.length+1) 1)=false:=rfl
       simp (maxDischargeDepth:=8) only [↓SD,SU,SV,SW,simprocAttr,Int.cast_ofNat_Int,small,resV, q136x0,t0,t1,t2,t3,t4,t6,t25,t26,t27, lt_nat,hj,l1,l2,l3,l5',l6,l7,l8,f0',ia1,hH3,app_get,stH_ok,app_set,aT,hnb3,hx3,hm3,ho,rD_hb,hnb4,aT4,hx4,nb4',q2,nb5,hH6,hf6,ho6,hnb7,nb7',nb7,vv_slh,hsl,hH8,hw1,zc,le_nat,l9,nb3',w5',ia3,f9',htd,k109]
       have hup:∀E,E≤lim→(sofar X.s n pre (j+1)=[]∨min (min (min (lf E) X.nb) lo7) X.nb≤X.l):=fun E hE=>by
        rcases w2 with h1 | h1
        ·rcases hll with h0 | h0
         ·left; rw [sofar_yes hx' hok,h0,h1]; rfl
         ·right; exact Nat.le_trans (Nat.min_le_left _ _) (Nat.le_trans (Nat.min_le_left _ _) (Nat.le_trans (Nat.min_le_left _ _) (Nat.le_trans (q1 _).2 (by omega))))
        ·right; exact Nat.le_trans (Nat.min_le_left _ _) (Nat.le_trans (Nat.min_le_right _ _) h1)
       exact ih _ ⟨_,_,(H8),(_),(A7),rfl,(by simp [get_set,t0] <;> omega),(by simp [get_set,t1] <;> omega),(by simp [get_set,t2] <;> omega),(by simp [get_set,t3] <;> omega),(by simp [get_set,t4] <;> omega),(by simp [get_set,t6] <;> omega),(by simp [get_set,t25] <;> omega),(by simp [get_set,t26] <;> omega),(by simp [get_set,t27] <;> omega),⟨I8,e8,fun i h=>w3 i (.inl (.inl (.inl (hA2 i h)))),w3 _ (.inl (.inl (.inl nA2))),hnb8,kp2.trans kp28 hA2,Nat.le_min.2 ⟨Nat.le_min.2 ⟨Nat.le_min.2 ⟨(q1 _).1 (by omega),nbo⟩,w1⟩,nbo⟩,hup _ (by omega)⟩⟩
 ·rintro c' s ⟨T,S,H2,lim,A2,rfl,t0,t1,t2,t3,t4,t6,t25,t26,t27,hp⟩
  obtain ⟨hI2,e2,hA2,nA2,hnb2,kp2,hlo2,hll⟩:=hp
  have hall:=sofar_all X.s n pre X.r.wl (by rw [e.sp.sh.w.len]; exact Nat.le_refl _)
  rw [hall] at hI2 hll
  simp (maxDischargeDepth:=8) only [↓SD,SU,SV,SW,simprocAttr,Int.cast_ofNat_Int,small,resV, q136x0,t0,t1,t2,t3,t4,t6,t25,t26,t27, lt_nat,Nat.lt_irrefl,l2,R136,N136]
  rw [yes_some]
  by_cases hg:H.length≤lim
  ·have hnil:=hll.resolve_right (by omega)
   rw [gc_ite hg,if_pos (by rfl)]
   exact ⟨true,H,H.length,A,rfl,by omega,.inl hnil,fun i h=>h,Kp.refl _ _ _ _ _,fun _=>⟨by rw [hnil,List.append_nil]; exact hI,e⟩,fun h=>by cases h⟩
  ·rw [gc_no hg]
   exact ⟨true,H2,lim,A2,rfl,hlo2,hll,hA2,kp2,fun _=>⟨hI2,e2⟩,fun h=>by cases h⟩
end Go.Pi.L.Coa
