/- Weathers in which plans hold, or not; the first one in which a plan does not. -/
import Derived.Test.YtjidjpcnocddeaaGreatDoorCQ
import Derived.Test.YtjidjpcnocddeaaGreatDoorLB
import Derived.Test.YtjidjpcnocddeaaGreatDoorDA
set_option linter.all false
namespace CM

def le:List Int→List Int→Prop
 | x :: a,y :: b=>x≤y∧le a b
 | [],[]=>True
 | _,_=>False
theorem le_sm:∀{a b:List Int},le a b→sm a≤sm b
 | [],[],_=>Int.le_refl _
 | x :: a,y :: b,h=>by have:=le_sm h.2; have:=h.1; simp only [sm]; omega
 | [],_ :: _,h=>h.elim
 | _ :: _,[],h=>h.elim
theorem le_drop:∀(n:Nat) {a b:List Int},le a b→le (a.drop n) (b.drop n)
 | 0,_,_,h=>h
 | n+1,[],[],h=>by simp [le]
 | n+1,x :: a,y :: b,h=>le_drop n h.2
 | _+1,[],_ :: _,h=>h.elim
 | _+1,_ :: _,[],h=>h.elim
theorem le_take:∀(n:Nat) {a b:List Int},le a b→le (a.take n) (b.take n)
 | 0,_,_,h=>by simp [le]
 | n+1,[],[],h=>by simp [le]
 | n+1,x :: a,y :: b,h=>⟨h.1,le_take n h.2⟩
 | _+1,[],_ :: _,h=>h.elim
 | _+1,_ :: _,[],h=>h.elim
theorem seg_le {a b:List Int}(h:le a b)(d t:Int):seg a d t≤seg b d t:=le_sm (le_take _ (le_drop _ h))
theorem spans_le:∀{ds:List (Int×Int)} {w:List Int},spans ds w=true→le (ds.map (·.1)) w∧le w (ds.map (·.2))
 | [],[],_=>⟨trivial,trivial⟩
 | d :: ds,n :: w,h=>by
  simp only [spans,Bool.and_eq_true,inL_iff] at h
  have:=spans_le h.2
  exact ⟨⟨h.1.1,this.1⟩,⟨h.1.2,this.2⟩⟩
 | [],_ :: _,h=>by simp [spans] at h
 | _ :: _,[],h=>by simp [spans] at h
theorem spans_ends:∀{ds:List (Int×Int)},(∀x∈ds,0≤x.1∧x.1≤x.2∧x.2≤24)→spans ds (ds.map (·.1))=true∧spans ds (ds.map (·.2))=true
 | [],_=>⟨rfl,rfl⟩
 | d :: ds,h=>by
  have h1:=spans_ends fun x hx=>h x (List.mem_cons_of_mem _ hx)
  have h2:=h d (List.mem_cons_self ..)
  simp only [List.map_cons,spans,Bool.and_eq_true,inL_iff]
  exact ⟨⟨⟨Int.le_refl _,h2.2.1⟩,h1.1⟩,⟨⟨h2.2.1,Int.le_refl _⟩,h1.2⟩⟩
theorem lows_weather {s:Sheet}(h:ShFine s):isWeather s (lows s)=true:=(spans_ends h.dry).1
theorem highs_weather {s:Sheet}(h:ShFine s):isWeather s (highs s)=true:=(spans_ends h.dry).2
theorem weather_le {s:Sheet}{w:List Int}(h:isWeather s w=true):le (lows s) w∧le w (highs s):=spans_le h

theorem fails_none {s:Sheet}{w:List Int}(h1:le (lows s) w)(h2:le w (highs s)):∀(cs:List (Int×Int)) (i:Nat) (l:List Int),fails s i cs l=none→holds s w cs l=true
 | [],_,l,_=>by cases l <;> rfl
 | _ :: _,_,[],_=>rfl
 | c :: cs,i,d :: l,h=>by
  have a1:=seg_le h1 d (til s l)
  have a2:=seg_le h2 d (til s l)
  simp only [fails] at h
  split at h
  ·cases h
  ·split at h
   ·cases h
   ·rename_i b1 b2
    simp only [holds]
    rw [if_neg (fun hc=>hc.elim (fun x=>b1 (by omega)) (fun x=>b2 ⟨x.1,by omega⟩))]
    exact fails_none h1 h2 cs _ l h
theorem fails_some {s:Sheet}:∀(cs:List (Int×Int)) (i:Nat) (l:List Int),fails s i cs l≠none→holds s (lows s) cs l=false∨holds s (highs s) cs l=false
 | [],_,l,h=>by cases l <;> exact absurd rfl h
 | _ :: _,_,[],h=>absurd rfl h
 | c :: cs,i,d :: l,h=>by
  simp only [fails] at h
  simp only [holds]
  split at h
  ·rename_i b; exact .inl (if_pos (.inl b))
  ·split at h
   ·rename_i b; exact .inr (if_pos (.inr b))
   ·rcases fails_some cs _ l h with h | h
    ·left; split
     ·rfl
     ·exact h
    ·right; split
     ·rfl
     ·exact h
theorem never_bad {s:Sheet}{w:List Int}(h1:le (lows s) w)(h2:le w (highs s)):∀(cs:List (Int×Int)) (l:List Int),never s cs l=true→holds s w cs l=false
 | [],l,h=>by cases l <;> cases h
 | _ :: _,[],h=>by cases h
 | c :: cs,d :: l,h=>by
  have a1:=seg_le h1 d (til s l)
  have a2:=seg_le h2 d (til s l)
  simp only [never] at h
  simp only [holds]
  split at h
  ·rename_i b
   exact if_pos (b.elim (fun x=>.inl (by omega)) (fun x=>.inr ⟨x.1,by omega⟩))
  ·split
   ·rfl
   ·exact never_bad h1 h2 cs l h
theorem surely_iff {s:Sheet}(hS:ShFine s)(p:List Int):surely s p=true↔∀w,isWeather s w=true→holds s w s.coats p=true:=by
 constructor
 ·intro h w hw
  have:=weather_le hw
  exact fails_none this.1 this.2 _ 0 _ (Option.isNone_iff_eq_none.1 h)
 ·intro h
  unfold surely
  cases hf:fails s 0 s.coats p with
  | none=>rfl
  | some x =>
   rcases fails_some (s:=s) s.coats 0 p (by rw [hf]; simp) with h1 | h1
   ·rw [h _ (lows_weather hS)] at h1; cases h1
   ·rw [h _ (highs_weather hS)] at h1; cases h1
theorem not_surely {s:Sheet}(hS:ShFine s){p:List Int}(h:surely s p=false):∃w,isWeather s w=true∧holds s w s.coats p=false:=by
 refine Classical.byContradiction fun hc=>?_
 have:surely s p=true:=(surely_iff hS p).2 fun w hw=>by
  cases hh:holds s w s.coats p with
  | true=>rfl
  | false=>exact absurd ⟨w,hw,hh⟩ hc
 rw [h] at this; cases this

def bef:List Int→List Int→Bool
 | x :: a,y :: b=>if x=y then bef a b else decide (x < y)
 | [],_ :: _=>true
 | _,[]=>false
theorem bef_irrefl:∀a:List Int,bef a a=false
 | []=>rfl
 | x :: a=>by simp only [bef,if_pos]; exact bef_irrefl a
theorem bef_tot:∀{a b:List Int},a.length=b.length→bef a b=false→bef b a=false→a=b
 | [],[],_,_,_=>rfl
 | x :: a,y :: b,hl,h1,h2=>by
  simp only [bef] at h1 h2
  by_cases h:x=y
  ·subst h
   rw [if_pos rfl] at h1 h2
   rw [bef_tot (by simpa using hl) h1 h2]
  ·rw [if_neg h] at h1; rw [if_neg (fun e=>h e.symm)] at h2
   simp only [decide_eq_false_iff_not] at h1 h2
   omega
 | [],_ :: _,hl,_,_=>by simp at hl
 | _ :: _,[],hl,_,_=>by simp at hl
theorem bef_snoc:∀{a b:List Int} {x y:Int},a.length=b.length→bef (a++[x]) (b++[y])=true→bef a b=true∨(a=b∧x < y)
 | [],[],x,y,_,h=>by
  simp only [List.nil_append,bef] at h
  split at h
  ·cases h
  ·exact .inr ⟨rfl,by simpa using h⟩
 | p :: a,q :: b,x,y,hl,h=>by
  simp only [List.cons_append,bef] at h ⊢
  by_cases e:p=q
  ·subst e
   rw [if_pos rfl] at h ⊢
   rcases bef_snoc (by simpa using hl) h with h | ⟨h1,h2⟩
   ·exact .inl h
   ·exact .inr ⟨by rw [h1],h2⟩
  ·rw [if_neg e] at h ⊢; exact .inl h
 | [],_ :: _,_,_,hl,_=>by simp at hl
 | _ :: _,[],_,_,hl,_=>by simp at hl
structure Least (s:Sheet)(p x:List Int):Prop where
 is:isWeather s x=true
 bad:holds s x s.coats p=false
 min:∀w,isWeather s w=true→holds s w s.coats p=false→bef w x=false
theorem Least.one {s:Sheet}(hS:ShFine s){p x y:List Int}(h1:Least s p x)(h2:Least s p y):x=y :=
 bef_tot ((weather_bound hS h1.is).1.trans (weather_bound hS h2.is).1.symm) (h2.min x h1.is h1.bad) (h1.min y h2.is h2.bad)

def wd (s:Sheet)(d:List (Int×Int)):Sheet:=⟨d,s.work,s.coats⟩
theorem holds_wd {s:Sheet}{d:List (Int×Int)}(hl:d.length=s.dry.length)(w:List Int):∀(cs:List (Int×Int)) (l:List Int),holds (wd s d) w cs l=holds s w cs l
 | [],l=>by cases l <;> rfl
 | _ :: _,[]=>rfl
 | c :: cs,x :: l=>by
  have ht:til (wd s d) l=til s l:=by cases l with | nil=>simp only [til,wd,hl] | cons=>rfl
  simp only [holds,ht,holds_wd hl w cs l]
def pts (p:List Int)(d:List (Int×Int)):List (Int×Int):=p.map (fun x=>(x,x))++d.drop p.length
theorem pts_len {p:List Int}{d:List (Int×Int)}(h:p.length≤d.length):(pts p d).length=d.length:=by simp [pts]; omega
theorem pts_set {p:List Int}{d:List (Int×Int)}(h:p.length < d.length)(v:Int):(pts p d).set p.length (v,v)=pts (p++[v]) d:=by
 have hd:=List.drop_eq_getElem_cons h
 simp only [pts,hd,List.map_append,List.map_cons,List.map_nil,List.length_append,List.length_cons,List.length_nil,List.append_assoc,List.cons_append,List.nil_append]
 rw [List.set_append_right _ _ (by simp)]
 simp
 rw [hd,List.set_cons_zero]
theorem pts_setset {p:List Int}{d:List (Int×Int)}(h:p.length < d.length)(u v:Int):(pts (p++[u]) d).set p.length (v,v)=pts (p++[v]) d:=by
 rw [←pts_set h u,List.set_set,pts_set h v]
theorem pts_get {p:List Int}{d:List (Int×Int)}(h:p.length < d.length):(pts p d)[p.length]?=d[p.length]?:=by
 unfold pts
 rw [List.getElem?_append_right (by simp)]
 simp [List.getElem?_drop]
theorem spans_pts:∀{p:List Int} {d:List (Int×Int)} {w:List Int},spans (d.take p.length) p=true→(spans (pts p d) w=true↔spans d w=true∧w.take p.length=p)
 | [],d,w,_=>by simp [pts]
 | x :: p,[],w,h=>by simp [spans] at h
 | x :: p,d :: ds,[],h=>by simp [pts,spans]
 | x :: p,d :: ds,n :: w,h=>by
  simp only [List.length_cons,List.take_succ_cons,spans,Bool.and_eq_true,inL_iff] at h
  have ih:=spans_pts (w:=w) h.2
  simp only [pts] at ih
  simp only [pts,List.map_cons,List.cons_append,List.length_cons,List.drop_succ_cons,spans,Bool.and_eq_true,inL_iff,List.take_succ_cons,ih,List.cons.injEq]
  constructor
  ·rintro ⟨h1,h2,h3⟩; exact ⟨⟨⟨by omega,by omega⟩,h2⟩,by omega,h3⟩
  ·rintro ⟨⟨h1,h2⟩,h3,h4⟩; exact ⟨by omega,h2,h4⟩
theorem spans_snoc:∀{d:List (Int×Int)} {p:List Int} {c:Int×Int} {v:Int},spans d p=true→c.1≤v→v≤c.2→spans (d++[c]) (p++[v])=true
 | [],[],c,v,_,h1,h2=>by simp [spans,inL,h1,h2]
 | d :: ds,x :: p,c,v,h,h1,h2=>by
  simp only [spans,Bool.and_eq_true,List.cons_append] at h ⊢
  exact ⟨h.1,spans_snoc h.2 h1 h2⟩
 | [],_ :: _,_,_,h,_,_=>by simp [spans] at h
 | _ :: _,[],_,_,h,_,_=>by simp [spans] at h
theorem spans_get:∀{d:List (Int×Int)} {w:List Int} {i:Nat} {c:Int×Int},spans d w=true→d[i]?=some c→∃x,w[i]?=some x∧c.1≤x∧x≤c.2
 | [],_,_,_,_,h=>by simp at h
 | d :: ds,[],_,_,h,_=>by simp [spans] at h
 | d :: ds,n :: w,0,c,h,hc=>by
  simp only [spans,Bool.and_eq_true,inL_iff] at h
  simp at hc; subst hc
  exact ⟨n,rfl,h.1⟩
 | d :: ds,n :: w,i+1,c,h,hc=>by
  simp only [spans,Bool.and_eq_true] at h
  simp at hc ⊢
  exact spans_get h.2 hc
theorem pts_fine {p:List Int}{d:List (Int×Int)}(hp:spans (d.take p.length) p=true)(hd:∀x∈d,0≤x.1∧x.1≤x.2∧x.2≤24):∀x∈pts p d,0≤x.1∧x.1≤x.2∧x.2≤24:=by
 intro x hx
 simp only [pts,List.mem_append,List.mem_map] at hx
 rcases hx with ⟨y,hy,rfl⟩ | hx
 ·obtain ⟨i,hi⟩:=List.getElem?_of_mem hy
  have hl:p.length=(d.take p.length).length:=by
   have:∀{d:List (Int×Int)} {p:List Int},spans d p=true→p.length=d.length:=by
    intro d
    induction d with
    | nil=>intro p h; cases p with | nil=>rfl | cons=>simp [spans] at h
    | cons c d ih=>intro p h; cases p with | nil=>simp [spans] at h | cons x p=>simp only [spans,Bool.and_eq_true] at h; simp [ih h.2]
   exact this hp
  have hi2:i < (d.take p.length).length:=by rw [←hl]; exact (List.getElem?_eq_some_iff.1 hi).1
  obtain ⟨x,hx,h1,h2⟩:=spans_get hp (List.getElem?_eq_getElem hi2)
  rw [hi] at hx; cases hx
  have:=hd _ (List.mem_of_mem_take (List.getElem_mem hi2))
  exact ⟨by omega,Int.le_refl _,by omega⟩
 ·exact hd x (List.mem_of_mem_drop hx)
theorem wd_fine {s:Sheet}(hS:ShFine s){p:List Int}(hp:spans (s.dry.take p.length) p=true)(hl:p.length≤s.dry.length):ShFine (wd s (pts p s.dry)):=by
 have hpl:=pts_len hl
 exact ⟨by simp only [wd,hpl]; exact hS.d1,by simp only [wd,hpl]; exact hS.d2,hS.c1,hS.c2,pts_fine hp hS.dry,hS.coats,fun x hx=>by simp only [wd,hpl]; exact hS.work x hx,hS.rw⟩
theorem wd_plan {s:Sheet}{d:List (Int×Int)}(hl:d.length=s.dry.length){p:List Int}(hp:PlFine s p):PlFine (wd s d) p:=⟨hp.len,fun i x hx=>by simp only [wd,hl]; exact hp.rng i x hx,hp.inc,hp.work⟩
structure Pre (s:Sheet)(pl p:List Int):Prop where
 len:p.length≤s.dry.length
 is:spans (s.dry.take p.length) p=true
 bad:surely (wd s (pts p s.dry)) pl=false
 min:∀w,isWeather s w=true→holds s w s.coats pl=false→bef (w.take p.length) p=false
theorem Pre.ex {s:Sheet}(hS:ShFine s){pl p:List Int}(h:Pre s pl p):∃w,isWeather s w=true∧holds s w s.coats pl=false∧w.take p.length=p:=by
 obtain ⟨w,h1,h2⟩:=not_surely (wd_fine hS h.is h.len) h.bad
 have h3:=(spans_pts h.is).1 h1
 rw [holds_wd (pts_len h.len)] at h2
 exact ⟨w,h3.1,h2,h3.2⟩
theorem Pre.nil {s:Sheet}{pl:List Int}(h:surely s pl=false):Pre s pl []:=⟨by simp,rfl,h,fun w _ _=>by cases w <;> rfl⟩
theorem bad_pts {s:Sheet}(hS:ShFine s){pl p:List Int}{w:List Int}(hl:p.length≤s.dry.length)(hp:spans (s.dry.take p.length) p=true)(h1:isWeather s w=true)(h2:holds s w s.coats pl=false)(h3:w.take p.length=p) :
  surely (wd s (pts p s.dry)) pl=false:=by
 cases hh:surely (wd s (pts p s.dry)) pl with
 | false=>rfl
 | true =>
  have:=(surely_iff (wd_fine hS hp hl) pl).1 hh w ((spans_pts hp).2 ⟨h1,h3⟩)
  rw [holds_wd (pts_len hl)] at this
  have h4:holds s w s.coats pl=true:=this
  rw [h4] at h2; cases h2
theorem take_snoc {w:List Int}{i:Nat}{x:Int}(h:w[i]?=some x):w.take (i+1)=w.take i++[x]:=by
 obtain ⟨hj,rfl⟩:=List.getElem?_eq_some_iff.1 h
 exact List.take_succ_eq_append_getElem hj
theorem take_spans {d:List (Int×Int)}{i:Nat}{c:Int×Int}(h:d[i]?=some c):d.take (i+1)=d.take i++[c]:=by
 obtain ⟨hj,rfl⟩:=List.getElem?_eq_some_iff.1 h
 exact List.take_succ_eq_append_getElem hj
theorem Pre.is_snoc {s:Sheet}{pl p:List Int}(h:Pre s pl p){c:Int×Int}(hc:s.dry[p.length]?=some c){v:Int}(h1:c.1≤v)(h2:v≤c.2):spans (s.dry.take (p++[v]).length) (p++[v])=true:=by
 rw [List.length_append,List.length_singleton,take_spans hc]
 exact spans_snoc h.is h1 h2
theorem Pre.step {s:Sheet}(hS:ShFine s){pl p:List Int}(h:Pre s pl p){c:Int×Int}(hc:s.dry[p.length]?=some c){v:Int}(h1:c.1≤v)(h2:v≤c.2)
  (hn:∀u,c.1≤u→u < v→surely (wd s (pts (p++[u]) s.dry)) pl=true) (hb:surely (wd s (pts (p++[v]) s.dry)) pl=false):Pre s pl (p++[v]):=by
 have hlt:=(List.getElem?_eq_some_iff.1 hc).1
 refine ⟨by simp; omega,h.is_snoc hc h1 h2,hb,fun w hw hbad=>?_⟩
 obtain ⟨x,hx,g1,g2⟩:=spans_get hw hc
 rw [List.length_append,List.length_singleton,take_snoc hx]
 cases hbe:bef (w.take p.length++[x]) (p++[v]) with
 | false=>rfl
 | true =>
  have hwl:=(List.getElem?_eq_some_iff.1 hx).1
  rcases bef_snoc (by rw [List.length_take]; omega) hbe with h3 | ⟨h3,h4⟩
  ·rw [h.min w hw hbad] at h3; cases h3
  ·have h5:=hn x g1 h4
   have h6:w.take (p++[x]).length=p++[x]:=by rw [List.length_append,List.length_singleton,take_snoc hx,h3]
   rw [bad_pts hS (by simp; omega) (h.is_snoc hc g1 g2) hw hbad h6] at h5; cases h5
theorem Pre.some {s:Sheet}(hS:ShFine s){pl p:List Int}(h:Pre s pl p){c:Int×Int}(hc:s.dry[p.length]?=some c):∃v,c.1≤v∧v≤c.2∧surely (wd s (pts (p++[v]) s.dry)) pl=false:=by
 have hlt:=(List.getElem?_eq_some_iff.1 hc).1
 obtain ⟨w,hw,hb,ht⟩:=h.ex hS
 obtain ⟨x,hx,g1,g2⟩:=spans_get hw hc
 exact ⟨x,g1,g2,bad_pts hS (by simp; omega) (h.is_snoc hc g1 g2) hw hb (by rw [List.length_append,List.length_singleton,take_snoc hx,ht])⟩
theorem Pre.least {s:Sheet}(hS:ShFine s){pl p:List Int}(h:Pre s pl p)(hl:p.length=s.dry.length):Least s pl p:=by
 obtain ⟨w,hw,hb,ht⟩:=h.ex hS
 have hwl:=(weather_bound hS hw).1
 rw [hl,←hwl,List.take_length] at ht
 subst ht
 exact ⟨hw,hb,fun u hu hub=>by
  have:=h.min u hu hub
  rw [hl,←(weather_bound hS hu).1,List.take_length] at this
  exact this⟩
end CM
namespace CM
theorem fails_spec {s:Sheet}:∀(cs:List (Int×Int)) (k:Nat) (l:List Int),
  (fails s k cs l=none→∀(i:Nat) c d,cs[i]?=some c→l[i]?=some d→¬seg (lows s) d (til s (l.drop (i+1))) < c.1∧¬(i+1 < l.length∧c.2 < seg (highs s) d (til s (l.drop (i+1))))) ∧
  (∀n w,fails s k cs l=some (n,w)→∃m c d,n=k+m∧cs[m]?=some c∧l[m]?=some d ∧
   ((w=1∧seg (lows s) d (til s (l.drop (m+1))) < c.1)∨(w=2∧¬seg (lows s) d (til s (l.drop (m+1))) < c.1∧m+1 < l.length∧c.2 < seg (highs s) d (til s (l.drop (m+1))))) ∧
   ∀(i:Nat) c d,i < m→cs[i]?=some c→l[i]?=some d→¬seg (lows s) d (til s (l.drop (i+1))) < c.1∧¬(i+1 < l.length∧c.2 < seg (highs s) d (til s (l.drop (i+1)))))
 | [],k,l=>⟨fun _ i c d h=>by simp at h,fun n w h=>by cases l <;> cases h⟩
 | _ :: _,k,[]=>⟨fun _ i c d _ h=>by simp at h,fun n w h=>by cases h⟩
 | c0 :: cs,k,d0 :: l=>by
  have ih:=fails_spec (s:=s) cs (k+1) l
  have hl:(l≠[])=(0 < l.length):=by rw [List.length_pos_iff]
  by_cases b1:seg (lows s) d0 (til s l) < c0.1
  ·refine ⟨fun h=>(by simp only [fails,if_pos b1] at h; cases h),fun n w h=>?_⟩
   simp only [fails,if_pos b1,Option.some.injEq,Prod.mk.injEq] at h
   exact ⟨0,c0,d0,h.1.symm,rfl,rfl,.inl ⟨h.2.symm,b1⟩,fun i _ _ hi=>by omega⟩
  ·by_cases b2:l≠[]∧c0.2 < seg (highs s) d0 (til s l)
   ·refine ⟨fun h=>(by simp only [fails,if_neg b1,if_pos b2] at h; cases h),fun n w h=>?_⟩
    simp only [fails,if_neg b1,if_pos b2,Option.some.injEq,Prod.mk.injEq] at h
    refine ⟨0,c0,d0,h.1.symm,rfl,rfl,.inr ⟨h.2.symm,b1,?_,b2.2⟩,fun i _ _ hi=>by omega⟩
    have:=b2.1
    rw [hl] at this
    simp; omega
   ·have z:¬(0+1 < (d0 :: l).length∧c0.2 < seg (highs s) d0 (til s l)):=by
     intro h; exact b2 ⟨by rw [hl]; have:=h.1; simp at this; omega,h.2⟩
    constructor
    ·intro h
     simp only [fails,if_neg b1,if_neg b2] at h
     intro i c d h1 h2
     cases i with
     | zero=>simp at h1 h2; subst h1; subst h2; exact ⟨b1,z⟩
     | succ i=>have:=ih.1 h i c d (by simpa using h1) (by simpa using h2); simpa using this
    ·intro n w h
     simp only [fails,if_neg b1,if_neg b2] at h
     obtain ⟨m,c,d,h1,h2,h3,h4,h5⟩:=ih.2 n w h
     refine ⟨m+1,c,d,by omega,by simpa using h2,by simpa using h3,by simpa using h4,fun i c' d' hi g1 g2=>?_⟩
     cases i with
     | zero=>simp at g1 g2; subst g1; subst g2; exact ⟨b1,z⟩
     | succ i=>have:=h5 i c' d' (by omega) (by simpa using g1) (by simpa using g2); simpa using this
end CM
namespace Go.Pi.L
open Go Go.Pi
variable {PP:FuncId→Option PFunc} {prims:Prims}
theorem runL_fam (hp:∀f g,prims f=some g→∀args H out,g args H=some out→Fam H→Fam out.H∧Same out.lo H out.H){fn:Fn}{args:List Value}{H:Heap}{o:Out}(h:runL PP prims fn args H=some o)(hF:Fam H):Fam o.H:=by
 obtain ⟨m0,hm⟩:=runL_ex h
 exact (keeps_run hp m0 fn args H o (hm m0 (Nat.le_refl _)) hF).1
theorem Fam.kill {H:Heap}(h:Fam H)(f:Nat):Fam (kill f H):=by
 intro i b g hi hg
 rw [kill_get,Option.map_eq_some_iff] at hi
 obtain ⟨b0,h0,rfl⟩:=hi
 refine h i b0 g h0 ?_
 split at hg <;> exact hg
section
variable {α:Type} {call:CallT} {F:Ex→St→Option α} {k:List It}
theorem stH_fam {n b off f:Nat}{c:List Value}{v:Value}{d:Option Tmp}{T S D H lo nn rnd}(hb:H[b]?=some ⟨.cells c,true,true,some f⟩)(hl:isLoc v=false)(h1:v.cells.toList.all one=true)(hn:v.cells.size=n)(ho:off+n≤c.length) :
  stH call F (H[b]?) n b off v d k ⟨T,S,D,H,lo,nn,rnd⟩=nxt call F (some undef) d k ⟨T,S,D,(kill f H).set b ⟨.cells (splice c off v.cells.toList),true,true,some f⟩,min lo (min f b),nn,rnd⟩:=by
 rw [hb]
 have e1:stH call F (some ⟨.cells c,true,true,some f⟩) n b off v d k ⟨T,S,D,H,lo,nn,rnd⟩=sto call F n (.pointer (some ⟨b,off,none⟩)) v d k ⟨T,S,D,H,lo,nn,rnd⟩:=rfl
 rw [e1]
 have h2:(isLoc v||v.cells.size != n||!v.cells.toList.all one)=false:=by simp [hl,hn,h1]
 simp only [sto,h2,stCells,hb]
 rw [if_neg (by simp),if_pos (by simpa [hn] using ho)]
end
theorem Bld.put {n0:Nat}{H:Heap}{k b:Nat}{l m:Nat}{c:List Value}(h:Bld n0 H k (some ⟨b,0,none⟩) l m c)(hF:Fam H){i:Nat}(hi:i < l){v:Value}(hl:Go.Pi.isLoc v=false)(h1:v.cells.toList.all one=true)(hn:v.cells.size=k) :
  ∃H1 f,n0≤f∧n0≤b∧(∀{α:Type} (call:CallT) (F:Ex→St→Option α) d kk T S D lo n rnd,stH call F (H[b]?) k b (i*k) v d kk ⟨T,S,D,H,lo,n,rnd⟩=nxt call F (some undef) d kk ⟨T,S,D,H1,min lo (min f b),n,rnd⟩) ∧
   Bld n0 H1 k (some ⟨b,0,none⟩) l m (splice c (i*k) v.cells.toList)∧Fam H1∧(∀H0,Up H0 H→H0.length≤n0→Up H0 H1)∧H1.length=H.length ∧
   (∀{a' k' l' m' c'},Bld n0 H k' a' l' m' c'→a'≠some ⟨b,0,none⟩→Bld n0 H1 k' a' l' m' c'):=by
 have hlen:=h.len
 rcases h.ok with ⟨h0,_⟩ | ⟨b',f,hb',rfl,h3,h4,h5⟩
 ·cases h0
 ·cases hb'
  have hs:(i+1)*m≤l*m:=Nat.mul_le_mul_right _ hi
  rw [Nat.add_mul,Nat.one_mul] at hs
  have hbl:=(List.getElem?_eq_some_iff.1 h5).1
  have hsz:v.cells.toList.length=m:=by simpa using hn
  refine ⟨(kill f H).set b ⟨.cells (splice c (i*m) v.cells.toList),true,true,some f⟩,f,h4,h3,fun call F d kk T S D lo n rnd=>stH_fam h5 hl h1 hn (by omega),⟨?_,.inr ⟨b,f,rfl,rfl,h3,h4,by rw [List.getElem?_set_self (by rw [kill_length]; exact hbl)]⟩⟩,?_,fun H0 hu hn0=>?_,by rw [List.length_set,kill_length],fun {a' k' l' m' c'} hb2 hne=>⟨hb2.len,?_⟩⟩
  ·unfold splice; simp only [List.length_append,List.length_take,List.length_drop,hsz]; omega
  ·refine (Fam.kill hF f).set (b0:=⟨.cells c,true,true,some f⟩) ?_ rfl
   rw [kill_get,h5]; simp
  ·refine Up.set ⟨by rw [kill_length]; exact hu.len,fun j hj=>?_⟩ (by omega)
   rw [kill_get]
   cases hx:H[j]? with
   | none=>rw [←hu.old j hj,hx]; rfl
   | some x =>
    have:¬(x.fam=some f∧x.tip=false):=fun hc=>by have:=hF j x f hx hc.1; omega
    simp only [Option.map_some,if_neg this]
    rw [←hu.old j hj,hx]
  ·rcases hb2.ok with hx | ⟨b2,f2,g1,g2,g3,g4,g5⟩
   ·exact .inl hx
   ·refine .inr ⟨b2,f2,g1,g2,g3,g4,?_⟩
    rw [List.getElem?_set_ne (fun e=>hne (by rw [g1,←e])),kill_get,g5]
    simp
theorem Fam.app1 {H:Heap}(h:Fam H){c:List Value}{f:Nat}(hf:f≤H.length):Fam (H++[⟨.cells c,true,true,some f⟩]):=h.append fun g hg=>by cases hg; exact hf
theorem Bld.less {n0 n1:Nat}{H:Heap}{k:Nat}{a:Option Addr}{l m:Nat}{c:List Value}(h:Bld n1 H k a l m c)(hn:n0≤n1):Bld n0 H k a l m c :=
 ⟨h.len,by
  rcases h.ok with h | ⟨b,f,h1,h2,h3,h4,h5⟩
  ·exact .inl h
  ·exact .inr ⟨b,f,h1,h2,by omega,by omega,h5⟩⟩
theorem Bld.apps {n0:Nat}{H:Heap}{k:Nat}{a:Option Addr}{l m:Nat}{c:List Value}(h:Bld n0 H k a l m c)(hF:Fam H)(hk:0 < k)(hk2:k < 1000)(hn:n0≤H.length)(new:List Value){i:Nat}(hi:0 < i)(hnew:new.length=i*k)(hl:l+i*k < 1048576) :
  ∃H1,(∀{α:Type} (call:CallT) (F:Ex→St→Option α) d kk T S D lo n rnd,ap1 call F (some new) (.slice a l m) k d kk ⟨T,S,D,H,lo,n,rnd⟩=nxt call F (some (.slice (some ⟨H.length,0,none⟩) (l+i) k)) d kk ⟨T,S,D,H1,lo,n,rnd⟩) ∧
   Bld n0 H1 k (some ⟨H.length,0,none⟩) (l+i) k (c++new)∧Grown H H1 a∧Fam H1:=by
 have hik:1*1≤i*k:=Nat.mul_le_mul hi hk
 have he:new.isEmpty=false:=by cases new with | nil=>simp at hnew; omega | cons=>rfl
 have hlen:=h.len
 have hd:new.length / k=i:=by rw [hnew]; exact Nat.mul_div_cancel _ hk
 have hm:new.length % k=0:=by rw [hnew]; exact Nat.mul_mod_left _ _
 rcases h.ok with ⟨rfl,rfl,rfl⟩ | ⟨b,f,rfl,rfl,h3,h4,h5⟩
 ·have hc:c=[]:=by simpa using hlen
  subst hc
  refine ⟨H++[⟨.cells new,true,true,some H.length⟩],fun call F d kk T S D lo n rnd=>?_,⟨by simp [hnew],.inr ⟨_,H.length,rfl,rfl,hn,hn,by simp⟩⟩,⟨by simp,(Up.refl H).app.grow,fun i hi _=>by rw [List.getElem?_append_left hi]⟩,Fam.app1 hF (Nat.le_refl _)⟩
  rw [apA_nil _ _ _ _ _ _ _ _ _ _ hm (by omega) he,hd]; simp
 ·have hb:=(List.getElem?_eq_some_iff.1 h5).1
  refine ⟨H.set b ⟨.cells c,true,false,some f⟩++[⟨.cells (c++new),true,true,some f⟩],fun call F d kk T S D lo n rnd=>?_,⟨by simp [hnew,hlen,Nat.add_mul],.inr ⟨_,f,rfl,rfl,hn,h4,?_⟩⟩,⟨by simp,?_,fun i hi hne=>?_⟩,?_⟩
  ·rw [apA_tip]
   simp only [h5]
   rw [apB_ok _ _ _ _ _ _ _ _ _ _ _ _ _ _ hm (by omega) he hk hlen.symm,hd]
  ·rw [List.getElem?_append_right (by simp)]; simp
  ·exact grow_app (grow_tip h5)
  ·rw [List.getElem?_append_left (by simpa using hi),List.getElem?_set_ne (fun h=>hne b rfl h.symm)]
  ·refine Fam.app1 (hF.set (b:=⟨.cells c,true,false,some f⟩) h5 rfl) ?_
   have:=hF b _ f h5 rfl
   simp only [List.length_set]; omega
theorem Bld.appF {n0:Nat}{H:Heap}{k:Nat}{a:Option Addr}{l m:Nat}{c:List Value}(h:Bld n0 H k a l m c)(hF:Fam H)(hk:0 < k)(hk2:k < 1000)(hl:l < 1000000)(hn:n0≤H.length)(new:List Value)(hnew:new.length=k) :
  ∃H1,(∀{α:Type} (call:CallT) (F:Ex→St→Option α) d kk T S D lo n rnd,ap1 call F (some new) (.slice a l m) k d kk ⟨T,S,D,H,lo,n,rnd⟩=nxt call F (some (.slice (some ⟨H.length,0,none⟩) (l+1) k)) d kk ⟨T,S,D,H1,lo,n,rnd⟩) ∧
   Bld n0 H1 k (some ⟨H.length,0,none⟩) (l+1) k (c++new)∧Grown H H1 a∧Fam H1:=h.apps hF hk hk2 hn new (i:=1) (by decide) (by omega) (by omega)
theorem splice_cells {β:Type}{enc:β→List Value}{k:Nat}(hk:∀x,(enc x).length=k):∀{xs:List β} {i:Nat} (x:β),i < xs.length→splice (cells enc xs) (i*k) (enc x)=cells enc (xs.set i x)
 | [],i,x,h=>by simp at h
 | y :: xs,0,x,_=>by
  simp only [splice,cells,List.map_cons,List.flatten_cons,Nat.zero_mul,List.take_zero,List.nil_append,Nat.zero_add,List.set_cons_zero,hk]
  rw [List.drop_append,List.drop_eq_nil_of_le (by rw [hk]; exact Nat.le_refl _),hk]
  simp
 | y :: xs,i+1,x,h=>by
  have ih:=splice_cells hk (xs:=xs) (i:=i) x (by simpa using h)
  simp only [splice,cells,hk] at ih
  simp only [splice,cells,List.map_cons,List.flatten_cons,List.set_cons_succ,hk,List.map_set] at ih ⊢
  rw [←ih]
  rw [List.take_append,List.drop_append,hk,show (i+1)*k - k=i*k by rw [Nat.add_mul]; omega,show (i+1)*k+k - k=i*k+k by rw [Nat.add_mul]; omega,List.take_of_length_le (by rw [hk,Nat.add_mul]; omega),List.drop_eq_nil_of_le (by rw [hk,Nat.add_mul]; omega)]
  simp
def QP {β:Type}(H:Heap)(k:Nat)(enc:β→List Value)(xs:List β)(y:Value)(o:Out):Prop :=
 ∃a m H1 lo,o=⟨.ok (.tuple #[.slice a xs.length m,y]),H1,lo⟩∧Up H H1∧H.length≤lo∧Sl H1 k enc a xs.length xs
theorem gc_sp {β:Type}{H H1:Heap}{k m lo:Nat}{enc:β→List Value}{a:Option Addr}{l:Nat}{xs:List β}{y:Value}(hs:Sl H1 k enc a l xs)(hu:Up H H1)(h:H.length≤lo):QP H k enc xs y (gcR H (.ok (.tuple #[.slice a l m,y])) H1 lo):=by
 obtain rfl:=hs.len
 rw [gc_ite h]
 split
 ·rename_i hf
  have hf':flat 3 (.slice a xs.length m)=true∧flat 3 y=true:=by simpa [flat] using hf
  exact ⟨a,m,H,H.length,rfl,Up.refl H,Nat.le_refl _,hs.flat hf'.1⟩
 ·exact ⟨a,m,H1,lo,rfl,hu,h,hs⟩
end Go.Pi.L
set_option maxRecDepth 100000
namespace Go.Pi.L
open Go Go.Pi
theorem vv_nl_s0 (ne l m):vv (.nl .slice ne) [.slice none l m]=some (.bool (true != ne)):=by rw [vv_of rfl]; rfl
theorem vv_nl_s (ne b o l m):vv (.nl .slice ne) [.slice (some ⟨b,o,none⟩) l m]=some (.bool (false != ne)):=by rw [vv_of rfl]; rfl
theorem Sl.elems {β:Type}{H:Heap}{k:Nat}{enc:β→List Value}{a:Option Addr}{l:Nat}{xs:List β}(h:Sl H k enc a l xs)(hk:∀x,(enc x).length=k)(k0:0 < k)(m:Nat)(T S D lo n rnd):elemsL ⟨T,S,D,H,lo,n,rnd⟩ k (.slice a l m)=some (cells enc xs):=by
 obtain rfl:=h.len
 have e0:elemsL ⟨T,S,D,H,lo,n,rnd⟩ k (.slice a xs.length m)=Go.Pi.elems H k (.slice a xs.length m):=by
  rcases h.loc with rfl | ⟨b,off,rfl⟩
  ·rfl
  ·unfold elemsL; split
   ·rename_i he; cases he
   ·rfl
 rw [e0]
 by_cases h0:xs.length=0
 ·have:xs=[]:=List.eq_nil_of_length_eq_zero h0
  subst this
  rcases h.loc with rfl | ⟨b,off,rfl⟩ <;> rfl
 ·obtain ⟨b,off,c,ha,hc,_⟩:=h.rd 0 xs[0] (List.getElem?_eq_getElem (by omega))
  subst ha
  have key:∀n,n≤xs.length→(n≠0→off+n*k≤c.length)∧(c.drop off).take (n*k)=cells enc (xs.take n):=by
   intro n
   induction n with
   | zero=>intro _; simp [cells]
   | succ n ih =>
    intro hn
    obtain ⟨i1,i2⟩:=ih (by omega)
    obtain ⟨b',off',c',h1,h2,h3⟩:=h.rd n xs[n] (List.getElem?_eq_getElem (by omega))
    cases h1
    rw [hc] at h2; cases h2
    have h4:=congrArg List.length h3
    rw [hk,List.length_take,List.length_drop] at h4
    refine ⟨fun _=>?_,?_⟩
    ·rw [Nat.add_mul]; omega
    ·rw [List.take_succ_eq_append_getElem (by omega),cells_app,←i2,←h3,Nat.add_mul,Nat.one_mul,List.take_add,List.drop_drop]
  obtain ⟨k1,k2⟩:=key xs.length (Nat.le_refl _)
  rw [List.take_length] at k2
  simp only [Go.Pi.elems,if_neg h0,hc]
  rw [if_pos (k1 h0),k2]
end Go.Pi.L
namespace Go.Pi.L.Coa
open Go Go.Pi Go.Pi.L Go.Pi.Coa CM
theorem keepL:∀f g,primsL f=some g→∀args H out,g args H=some out→Fam H→Fam out.H∧Same out.lo H out.H:=by
 have kl:∀(p:List Value→Option Value) args H out,Q.lp p args H=some out→Fam H→Fam out.H∧Same out.lo H out.H:=by
  intro p args H out h hF
  unfold Q.lp at h
  rw [Option.map_eq_some_iff] at h
  obtain ⟨v,_,rfl⟩:=h
  exact ⟨hF,Same.refl _ _⟩
 intro f g hf
 unfold primsL at hf
 split at hf
 ·cases hf
  intro args H out ho hF
  dsimp only at ho
  split at ho
  ·cases ho; exact ⟨hF,Same.refl _ _⟩
  ·cases ho
 ·unfold Go.Pi.Coa.prims at hf
  repeat' (split at hf; · cases hf; first | exact kl _ | (intro args H out h hF; unfold Q.lJoin at h; rw [Option.map_eq_some_iff] at h; obtain ⟨v,_,rfl⟩:=h; exact ⟨hF,Same.refl _ _⟩))
  cases hf
theorem famR {fn:Fn}{args:List Value}{H:Heap}{o:Out}(h:R fn args H=some o)(hF:Fam H):Fam o.H:=runL_fam keepL h hF
theorem c87 {H:Heap}{a:Option Addr}{l k:Nat}{xs:List (Int×Int)}(hx:Spans H a l xs)(h0:0 < l)(hl:l < 1000) :
  ∀H',Grow H H'→Fam H'→∃b H1 lo,R (.func 87) [.slice a l k] H'=some ⟨.ok (.slice (some ⟨b,0,none⟩) l 2),H1,lo⟩∧Up H' H1∧H'.length≤lo∧Bld H'.length H1 2 (some ⟨b,0,none⟩) l 2 (cells encS xs)∧Fam H1:=by
 intro H' hg hF
 have g0:Bld H'.length (H'++[({ obj:=.cells [],fam:=some H'.length }:Blk)]) 2 (some ⟨H'.length,0,none⟩) 0 2 []:=⟨rfl,.inr ⟨_,_,rfl,rfl,Nat.le_refl _,Nat.le_refl _,by simp⟩⟩
 have hg1:=hg.trans ((Up.refl H').app (l:=[({ obj:=.cells [],fam:=some H'.length }:Blk)])).grow
 obtain ⟨H1,q1,g1,q3,f1⟩:=g0.apps (Fam.app1 hF (Nat.le_refl _)) (by decide) (by decide) (by simp) (cells encS xs) h0 (by rw [cells_len (k:=2) (fun _=>rfl),hx.len]) (by omega)
 have q0:=fun T S D lo n rnd=>(hx.grow hg1).elems (fun _=>rfl) (by decide) k T S D lo n rnd
 have l1:=hx.isLoc k
 have hu:Up H' H1:=q3.up g0 (Up.refl _).app (Nat.le_refl _)
 rw [Nat.zero_add] at g1
 rw [List.nil_append] at g1
 refine ⟨_,H1,H'.length,?_,hu,Nat.le_refl _,g1,f1⟩
 refine run_k (pr 87) P87 (by simp [p87]) rfl ?_
 obtain ⟨b,off,x,rfl,hx',f0⟩:=hx.at (fun _=>rfl) (by decide) h0
 simp (maxDischargeDepth:=8) only [↓SD,SU,SV,SW,simprocAttr,Int.cast_ofNat_Int,small,resV, B87,R87,N87,b87, l1,vv_nl_s,q0,q1]
 rw [gc_ite (Nat.le_refl _),if_neg (by simp [flat])]
end Go.Pi.L.Coa
set_option maxRecDepth 100000
namespace Go.Pi.L.Coa
open Go Go.Pi Go.Pi.L Go.Pi.Coa CM

theorem c31s {H:Heap}{r:ShR}{s:Sheet}(hs:ShOk H r s)(hd:Small r){pa:Option Addr}{pl pk:Nat}{plan:List Int}(hq:Ints H pa pl plan)(hpl:pl < 1000000)(e1:isSheet s=true)(e2:isPlan s plan=true)(e3:surely s plan=true) :
  ∀H',Grow H H'→R (.func 31) [.agg #[.slice r.da r.dl r.dk,.slice r.wa r.wl r.wk,.slice r.ca r.cl r.ck],.slice pa pl pk] H'=some ⟨.ok (.tuple #[.slice none 0 0,.int .i64 5]),H',H'.length⟩:=by
 intro H' hg
 refine run_k (pr 31) P31 (by simp [p31]) rfl ?_
 have k1:=c75 hs hd H' hg
 have k2:=c76 (kk:=pk) hs hd hq hpl H' hg
 have hS:=fine_of e1
 have hP:=plan_of hS e2
 have hdl:r.dl=s.dry.length:=hs.d.len.symm
 obtain ⟨o,ho,la,lc,ha,hc,H1,lo,rfl,hu,hlo,i1,i2⟩:=c78 hs hd hS H' hg
 have hg1:=hg.trans hu.grow
 rw [hdl] at i1 i2
 have k3:=c85 (p:=⟨la,_,lc,ha,_,hc⟩) (pk:=pk) ⟨hs.grow hg1,i1,i2⟩ hS (Sl.grow hq hg1) hP H1 (Grow.refl _)
 obtain ⟨da,dl,dk,wa,wl,wk,ca,cl,ck⟩:=r
 have hD:Spans H da dl s.dry:=hs.d
 have hW:Ints H wa wl s.work:=hs.w
 have hC:Spans H ca cl s.coats:=hs.c
 have nD:dl < 1000000:=hd.d
 have nW:wl < 1000000:=hd.w
 have nC:cl < 1000000:=hd.c
 have l1:=hD.isLoc dk
 have l2:=hW.isLoc wk
 have l3:=hC.isLoc ck
 simp only at k1 k2 k3 ho i1 i2 hdl
 rw [hdl] at ho
 have l4:=hq.isLoc pk
 have l6:=i1.isLoc lc
 have l7:=i2.isLoc hc
 have n1:=hu.len
 have n2:H'.length≤lo:=hlo
 have hf:fails s 0 s.coats plan=none:=Option.isNone_iff_eq_none.1 e3
 simp only [fails2,hf,Option.map_none,attOf,←hdl] at k3 ho
 simp (maxDischargeDepth:=8) only [↓SD,SU,SV,SW,simprocAttr,Int.cast_ofNat_Int,small,resV, B31,R31,N31,b31, l1,l2,l3,l4,l6,l7,k1,e1,k2,e2,ho,k3,n1,n2]
set_option maxHeartbeats 2000000 in
theorem c31 {H:Heap}{r:ShR}{s:Sheet}(hs:ShOk H r s)(hd:Small r){pa:Option Addr}{pl pk:Nat}{plan:List Int}(hq:Ints H pa pl plan)(hpl:pl < 1000000)(e1:isSheet s=true)(e2:isPlan s plan=true)(e3:surely s plan=false) :
  ∀H',Grow H H'→Fam H'→Yes (R (.func 31) [.agg #[.slice r.da r.dl r.dk,.slice r.wa r.wl r.wk,.slice r.ca r.cl r.ck],.slice pa pl pk] H') (fun o=>∃p,Least s plan p∧QP H' 1 encI p (.int .i64 0) o):=by
 intro H' hg hF
 refine run_y (pr 31) P31 (by simp [p31]) rfl ?_
 have k1:=c75 hs hd H' hg
 have k2:=c76 (kk:=pk) hs hd hq hpl H' hg
 have hS:=fine_of e1
 have hP:=plan_of hS e2
 have hdl:r.dl=s.dry.length:=hs.d.len.symm
 have hd12:=hS.d2
 have hd1:=hS.d1
 obtain ⟨o,ho,la,lc,ha,hc,H1,lo,rfl,hu,hlo,i1,i2⟩:=c78 hs hd hS H' hg
 have hg1:=hg.trans hu.grow
 have hF1:Fam H1:=famR ho hF
 rw [hdl] at i1 i2
 have k3:=c85 (p:=⟨la,_,lc,ha,_,hc⟩) (pk:=pk) ⟨hs.grow hg1,i1,i2⟩ hS (Sl.grow hq hg1) hP H1 (Grow.refl _)
 obtain ⟨b,H2,lo2,k87,u2,hlo2,g2,hF2⟩:=c87 (k:=r.dk) hs.d (by omega) (by omega) H1 hg1 hF1
 obtain ⟨da,dl,dk,wa,wl,wk,ca,cl,ck⟩:=r
 have hD:Spans H da dl s.dry:=hs.d
 have hW:Ints H wa wl s.work:=hs.w
 have hC:Spans H ca cl s.coats:=hs.c
 have nD:dl < 1000000:=hd.d
 have nW:wl < 1000000:=hd.w
 have nC:cl < 1000000:=hd.c
 have l1:=hD.isLoc dk
 have l2:=hW.isLoc wk
 have l3:=hC.isLoc ck
 simp only at k1 k2 k3 ho i1 i2 hdl k87 g2
 rw [hdl] at ho
 have l4:=hq.isLoc pk
 have l6:=i1.isLoc lc
 have l7:=i2.isLoc hc
 have n1:=hu.len
 have n2:H'.length≤lo:=hlo
 have n3:=u2.len
 obtain ⟨y,hf⟩:∃y,fails s 0 s.coats plan=some y:=by
  unfold surely at e3
  cases hh:fails s 0 s.coats plan with
  | none=>rw [hh] at e3; cases e3
  | some y=>exact ⟨y,rfl⟩
 obtain ⟨y1,y2⟩:=y
 simp only [fails2,hf,Option.map_some,attOf,←hdl] at k3 ho
 simp (maxDischargeDepth:=8) only [↓SD,SU,SV,SW,simprocAttr,Int.cast_ofNat_Int,small,resV, B31,R31,N31,b31, l1,l2,l3,l4,l6,l7,k1,e1,k2,e2,ho,k3,n1,n2,k87]
 refine loop_ind (G:=(Yes · (fun o=>∃p,Least s plan p∧QP H' 1 encI p (.int .i64 0) o))) (fun j σ=>∃T S H1 a m p lim,σ=⟨T,S,[],H1,lim,77,false⟩∧get T 1=.slice pa pl pk∧get T 2=.pointer (some ⟨2,0,some 1⟩)∧get T 8=.slice a j m∧get T 38=.int .i64 dl∧get T 39=.int .i64 (j:Nat)∧sget S 2=(1,.cells [.slice (some ⟨b,0,none⟩) dl 2,.slice wa wl wk,.slice ca cl ck])∧(p.length=j∧Pre s plan p∧Bld H'.length H1 2 (some ⟨b,0,none⟩) dl 2 (cells encS (pts p s.dry))∧Bld H'.length H1 1 a j m (cells encI p)∧a≠some ⟨b,0,none⟩∧Up H' H1∧Fam H1∧H'.length≤lim)) (dl) ?_ ?_ 0 _ (Nat.zero_le _) ⟨_,_,_,_,_,_,_,rfl,rfl,rfl,rfl,rfl,rfl,rfl,⟨rfl,Pre.nil e3,g2.less (by omega),Bld.nil _ _ _,by simp,hu.trans u2,hF2,by omega⟩⟩
 ·rintro c' j s hj ⟨T,S,H1,a,m,p,lim,rfl,t1,t2,t8,t38,t39,s0,hp⟩ ih
  obtain ⟨hpj,hpre,gB,gL,hne,hu1,hF3,hlim⟩:=hp
  have hjd:j < s.dry.length:=by omega
  obtain ⟨c,hc⟩:∃c,s.dry[j]?=some c:=⟨_,List.getElem?_eq_getElem hjd⟩
  have hc':s.dry[p.length]?=some c:=by rw [hpj]; exact hc
  have hcb:=hS.dry c (List.mem_of_getElem? hc)
  have hw1:=wrap_succ j (by omega)
  obtain ⟨b',off,x,hb',hx',f0,f1,f2⟩:=(gB.sl encS_len (by decide)).s2 hj
  cases hb'
  have hxc:x=c:=by rw [←hpj,pts_get (by omega),hc'] at hx'; exact (Option.some.inj hx').symm
  subst hxc
  have f0':=f0 _ (Grow.refl _)
  rw [Nat.zero_add] at f0'
  simp (maxDischargeDepth:=8) only [↓SD,SU,SV,SW,simprocAttr,Int.cast_ofNat_Int,small,resV, q31x1,t1,t2,t8,t38,t39,s0, s0,lt_nat,hj,l1,l2,l3,l4,f0']
  refine loop_ind (G:=(Yes · (fun o=>∃p,Least s plan p∧QP H' 1 encI p (.int .i64 0) o))) (fun i σ=>∃T S H1 ds lim g,σ=⟨T,S,[],H1,lim,77,false⟩∧get T 1=.slice pa pl pk∧get T 2=.pointer (some ⟨2,0,some 1⟩)∧get T 8=.slice a j m∧get T 9=.int .i64 (j:Nat)∧get T 10=.pointer (some ⟨10,0,some g⟩)∧get T 11=.int .i64 (x.1+(i:Nat))∧get T 38=.int .i64 dl∧get T 39=.int .i64 (j:Nat)∧sget S 2=(1,.cells [.slice (some ⟨b,0,none⟩) dl 2,.slice wa wl wk,.slice ca cl ck])∧sget S 10=(g,.cells [.int .i64 x.1,.int .i64 x.2]) ∧
   (∀v,ds.set j (v,v)=pts (p++[v]) s.dry)∧ds.length=dl∧(∀u,x.1≤u→u < x.1+(i:Nat)→surely (wd s (pts (p++[u]) s.dry)) plan=true) ∧
   Bld H'.length H1 2 (some ⟨b,0,none⟩) dl 2 (cells encS ds)∧Bld H'.length H1 1 a j m (cells encI p)∧Up H' H1∧Fam H1∧H'.length≤lim) (x.2+1 - x.1).toNat ?_ ?_ 0 _ (Nat.zero_le _)
   ⟨_,_,H1,pts p s.dry,_,(sget S 10).1+1,rfl,by simp [get_set,t1,t2,t8,t38,t39],by simp [get_set,t1,t2,t8,t38,t39],by simp [get_set,t1,t2,t8,t38,t39],by simp [get_set,t1,t2,t8,t38,t39],by simp [get_set,t1,t2,t8,t38,t39],by simp [get_set,t1,t2,t8,t38,t39],by simp [get_set,t1,t2,t8,t38,t39],by simp [get_set,t1,t2,t8,t38,t39],by simp [sget_sset,s0],by simp [sget_sset],fun v=>by rw [←hpj]; exact pts_set (by omega) v,by rw [pts_len (by omega),hdl],fun u h1 h2=>by omega,gB,gL,hu1,hF3,hlim⟩
  ·rintro c2 i σ hi ⟨T,S,H1,ds,lim,g,rfl,r1,r2,r8,r9,r10,r11,r38,r39,s2,s10,hds,hdsl,hno,gB,gL,hu1,hF3,hlim⟩ ih2
   have hg3:=hg.trans hu1.grow
   have hle:x.1+(i:Nat)≤x.2:=by omega
   have hw2:IntKind.wrap .i64 (x.1+(i:Nat)+1)=x.1+((i+1:Nat):Int):=by rw [wrap_id _ (by omega) (by omega)]; omega
   generalize hv:x.1+((i:Nat):Int)=v at *
   obtain ⟨H2,f,hf1,hf2,q1,gB2,hF4,hup,hlen,hoth⟩:=gB.put hF3 (i:=j) (v:=.agg #[.int .i64 v,.int .i64 v]) hj rfl (by rfl) rfl
   have hu2:=hup H' hu1 (Nat.le_refl _)
   have gL2:=hoth gL hne
   have hsp:splice (cells encS ds) (j*2) (Value.agg #[.int .i64 v,.int .i64 v]).cells.toList=cells encS (pts (p++[v]) s.dry):=by
    rw [←hds v]; exact splice_cells (enc:=encS) encS_len (v,v) (by omega)
   rw [hsp] at gB2
   have hg4:=hg.trans hu2.grow
   have hpv:(p++[v]).length≤s.dry.length:=by simp; omega
   have hsnoc:=hpre.is_snoc hc' (v:=v) (by omega) (by omega)
   have hS2:=wd_fine hS hsnoc hpv
   have hP2:=wd_plan (pts_len hpv) hP
   have hs2:ShOk H2 ⟨some ⟨b,0,none⟩,dl,2,wa,wl,wk,ca,cl,ck⟩ (wd s (pts (p++[v]) s.dry)):=⟨gB2.sl encS_len (by decide),Sl.grow hW hg4,Sl.grow hC hg4⟩
   obtain ⟨o3,ho3,la3,lc3,ha3,hc3,H3,lo3,rfl,u3,hlo3,i31,i32⟩:=c78 hs2 ⟨nD,nW,nC⟩ hS2 H2 (Grow.refl _)
   have hF5:Fam H3:=famR ho3 hF4
   have hdl3:dl=(wd s (pts (p++[v]) s.dry)).dry.length:=by rw [hdl]; exact (pts_len hpv).symm
   simp only at ho3 i31 i32
   have i31':=i31
   have i32':=i32
   have k5:∀n,n=dl→Ints H3 la3 (dl+1) (ps (lows (wd s (pts (p++[v]) s.dry))) n)→Ints H3 ha3 (dl+1) (ps (highs (wd s (pts (p++[v]) s.dry))) n)→n=(wd s (pts (p++[v]) s.dry)).dry.length→R (.func 85) [.agg #[.slice (some ⟨b,0,none⟩) dl 2,.slice wa wl wk,.slice ca cl ck,.slice la3 (dl+1) lc3,.slice ha3 (dl+1) hc3],.slice pa pl pk] H3=some ⟨.ok (attOf (fails2 (wd s (pts (p++[v]) s.dry)) 0 s.coats plan)),H3,H3.length⟩:=by
    intro n _ h1 h2 h3
    subst h3
    exact c85 (r:=⟨some ⟨b,0,none⟩,dl,2,wa,wl,wk,ca,cl,ck⟩) (p:=⟨la3,_,lc3,ha3,_,hc3⟩) (pk:=pk) ⟨hs2.grow u3.grow,h1,h2⟩ hS2 (Sl.grow hq (hg4.trans u3.grow)) hP2 H3 (Grow.refl _)
   have k6:=k5 dl rfl i31 i32 hdl3
   have l8:=i31.isLoc lc3
   have l9:=i32.isLoc hc3
   have n5:=u3.len
   have n6:=hu2.len
   have hlo4:H2.length≤lo3:=hlo3
   cases hsv:fails (wd s (pts (p++[v]) s.dry)) 0 s.coats plan with
   | none =>
    simp only [fails2,hsv,Option.map_none,attOf] at k6
    simp (maxDischargeDepth:=8) only [↓SD,SU,SV,SW,simprocAttr,Int.cast_ofNat_Int,small,resV, q31x0,r1,r2,r8,r9,r10,r11,r38,r39,s2,s10,lt_nat,hj,hle,l1,l2,l3,l4,q1,ho3,k6,l8,l9,hlo4,hw2]
    refine ih2 _ ⟨_,_,H3,pts (p++[v]) s.dry,_,g,rfl,by simp [get_set,r1],by simp [get_set,r2],by simp [get_set,r8],by simp [get_set,r9],by simp [get_set,r10],by simp [get_set,r11],by simp [get_set,r38],by simp [get_set,r39],by simp [sget_sset,s2],by simp [sget_sset,s10],fun u=>by rw [←hpj]; exact pts_setset (by omega) v u,by rw [pts_len hpv,hdl],fun u h1 h2=>?_,gB2.up u3,gL2.up u3,hu2.trans u3,hF5,by omega⟩
    by_cases hu0:u=v
    ·subst hu0; unfold surely; rw [show (wd s (pts (p++[u]) s.dry)).coats=s.coats from rfl,hsv]; rfl
    ·exact hno u h1 (by omega)
   | some z =>
    obtain ⟨z1,z2⟩:=z
    simp only [fails2,hsv,Option.map_some,attOf] at k6
    have gL3:=gL2.up u3
    obtain ⟨H4,q2,gL4,q4,hF6⟩:=gL3.appF hF5 (by decide) (by decide) (by omega) (by omega) [.int .i64 v] rfl
    have l10:=gL.isLoc j m
    simp (maxDischargeDepth:=8) only [↓SD,SU,SV,SW,simprocAttr,Int.cast_ofNat_Int,small,resV, q31x0,r1,r2,r8,r9,r10,r11,r38,r39,s2,s10,lt_nat,hj,hle,l1,l2,l3,l4,q1,ho3,k6,l8,l9,hlo4,l10,q2,hw1,x_blk' 2 3 (by decide)]
    refine ih _ ⟨_,_,H4,some ⟨H3.length,0,none⟩,1,p++[v],_,rfl,(by simp [get_set,r1] <;> omega),(by simp [get_set,r2] <;> omega),(by simp [get_set,r8] <;> omega),(by simp [get_set,r38] <;> omega),(by simp [get_set,r39] <;> omega),by simp [sget_sset,s2],by simp [hpj],hpre.step hS hc' (by omega) (by omega) (fun u h1 h2=>hno u h1 h2) (by unfold surely; rw [show (wd s (pts (p++[v]) s.dry)).coats=s.coats from rfl,hsv]; rfl),(gB2.up u3).grown q4 (Ne.symm hne),by rw [cells_app]; exact gL4,fun e=>?_,q4.up gL3 (hu2.trans u3) (Nat.le_refl _),hF6,by omega⟩
    have:=(gB2.up u3).lt
    cases e; omega
  ·rintro c2 σ ⟨T,S,H1,ds,lim,g,rfl,r1,r2,r8,r9,r10,r11,r38,r39,s2,s10,hds,hdsl,hno,gB,gL,hu1,hF3,hlim⟩
   exfalso
   obtain ⟨v,h1,h2,h3⟩:=hpre.some hS hc'
   rw [hno v h1 (by omega)] at h3; cases h3
 ·rintro c' s ⟨T,S,H1,a,m,p,lim,rfl,t1,t2,t8,t38,t39,s0,hp⟩
  obtain ⟨hpj,hpre,gB,gL,hne,hu1,hF3,hlim⟩:=hp
  have l5:=gL.isLoc dl m
  simp (maxDischargeDepth:=8) only [↓SD,SU,SV,SW,simprocAttr,Int.cast_ofNat_Int,small,resV, q31x1,t1,t2,t8,t38,t39,s0, s0,lt_nat,Nat.lt_irrefl,l1,l2,l3,l4,l5,R31,N31]
  rw [yes_some]
  exact ⟨p,hpre.least hS (by omega),gc_sp (gL.sl encI_len (by decide)) hu1 hlim⟩
end Go.Pi.L.Coa
set_option maxRecDepth 100000
namespace Go.Pi.L.Coa
open Go Go.Pi Go.Pi.L Go.Pi.Coa CM

def isRight (r:ShR)(s:Sheet)(pl:Nat)(plan:List Int):Bool:=isShort r&&(decide (pl≤7)&&(isSheet s&&isPlan s plan))
theorem c29 {H:Heap}{r:ShR}{s:Sheet}(hs:ShOk H r s){pa:Option Addr}{pl pk:Nat}{plan:List Int}(hq:Ints H pa pl plan) :
  ∀H',Grow H H'→R (.func 29) [.agg #[.slice r.da r.dl r.dk,.slice r.wa r.wl r.wk,.slice r.ca r.cl r.ck],.slice pa pl pk] H'=some ⟨.ok (.bool (isRight r s pl plan)),H',H'.length⟩:=by
 intro H' hg
 refine run_k (pr 29) P29 (by simp [p29]) rfl ?_
 have l1:=hs.d.isLoc r.dk
 have l2:=hs.w.isLoc r.wk
 have l3:=hs.c.isLoc r.ck
 have l4:=hq.isLoc pk
 have k22:=c22 (hs.grow hg) H'
 have z1:((pl:Int)≤7)=(pl≤7):=propext (by omega)
 unfold isRight
 cases e1:isShort r with
 | false=>simp (maxDischargeDepth:=8) only [↓SD,SU,SV,SW,simprocAttr,Int.cast_ofNat_Int,small,resV, B29,R29,N29,b29, l1,l2,l3,l4,k22,e1,Bool.false_and]
 | true =>
 have hd:=short_small e1
 by_cases e2:pl≤7
 ·have k25:=c25 hs hd H' hg
  cases e3:isSheet s with
  | false=>simp (maxDischargeDepth:=8) only [↓SD,SU,SV,SW,simprocAttr,Int.cast_ofNat_Int,small,resV, B29,R29,N29,b29, l1,l2,l3,l4,k22,e1,z1,e2,k25,e3,Bool.false_and,Bool.true_and]
  | true =>
  have k26:=c26 (kk:=pk) hs hd hq (by omega) H' hg
  rw [isPlanR_eq e3] at k26
  simp (maxDischargeDepth:=8) only [↓SD,SU,SV,SW,simprocAttr,Int.cast_ofNat_Int,small,resV, B29,R29,N29,b29, l1,l2,l3,l4,k22,e1,z1,e2,k25,e3,k26,Bool.true_and]
 ·simp (maxDischargeDepth:=8) only [↓SD,SU,SV,SW,simprocAttr,Int.cast_ofNat_Int,small,resV, B29,R29,N29,b29, l1,l2,l3,l4,k22,e1,z1,e2,Bool.false_and,Bool.true_and]
theorem right_of {r:ShR}{s:Sheet}{pl:Nat}{plan:List Int}(h:isRight r s pl plan=true):isShort r=true∧pl≤7∧isSheet s=true∧isPlan s plan=true:=by
 simpa only [isRight,Bool.and_eq_true,decide_eq_true_eq] using h
theorem c4 {H:Heap}{r:ShR}{s:Sheet}(hs:ShOk H r s){pa wa':Option Addr}{pl pk wl' wk':Nat}{plan w:List Int}(hq:Ints H pa pl plan)(hw:Ints H wa' wl' w)(hF:Fam H) :
  R (.func 4) [.agg #[.slice r.da r.dl r.dk,.slice r.wa r.wl r.wk,.slice r.ca r.cl r.ck],.slice pa pl pk,.slice wa' wl' wk'] H=some ⟨.ok (.bool true),H,H.length⟩:=by
 refine run_k (pr 4) P4 (by simp [p4]) rfl ?_
 have l1:=hs.d.isLoc r.dk
 have l2:=hs.w.isLoc r.wk
 have l3:=hs.c.isLoc r.ck
 have l4:=hq.isLoc pk
 have l5:=hw.isLoc wk'
 have k29:=c29 (pk:=pk) hs hq H (Grow.refl _)
 cases e1:isRight r s pl plan with
 | false=>simp (maxDischargeDepth:=8) only [↓SD,SU,SV,SW,simprocAttr,Int.cast_ofNat_Int,small,resV, B4,R4,N4,b4, l1,l2,l3,l4,l5,k29,e1,c23]
 | true =>
 obtain ⟨e2,e3,e4,e5⟩:=right_of e1
 have hd:=short_small e2
 have hS:=fine_of e4
 have z2:((14:Int) < wl')=(14 < wl'):=propext (by omega)
 by_cases e6:14 < wl'
 ·simp (maxDischargeDepth:=8) only [↓SD,SU,SV,SW,simprocAttr,Int.cast_ofNat_Int,small,resV, B4,R4,N4,b4, l1,l2,l3,l4,l5,k29,e1,c23,z2,e6]
 have k27:=c27 (kk:=wk') hs hd hw (by omega) H (Grow.refl _)
 cases e7:isWeather s w with
 | false=>simp (maxDischargeDepth:=8) only [↓SD,SU,SV,SW,simprocAttr,Int.cast_ofNat_Int,small,resV, B4,R4,N4,b4, l1,l2,l3,l4,l5,k29,e1,c23,z2,e6,k27,e7]
 | true =>
 have k24:=c24 (pk:=pk) (wk':=wk') hs hd hq (by omega) hw (by omega) H (Grow.refl _)
 rw [if_pos ⟨e4,e5,e7⟩] at k24
 have k30:=c30 (pk:=pk) hs hd hq (by omega) H (Grow.refl _)
 rw [if_pos ⟨e4,e5⟩] at k30
 cases e8:surely s plan with
 | true =>
  have k31:=c31s (pk:=pk) hs hd hq (by omega) e4 e5 e8 H (Grow.refl _)
  have e9:=(surely_iff hS plan).1 e8 w e7
  simp only [word,e8,if_pos] at k30
  rw [e9] at k24
  simp (maxDischargeDepth:=8) only [↓SD,SU,SV,SW,simprocAttr,Int.cast_ofNat_Int,small,resV, B4,R4,N4,b4, l1,l2,l3,l4,l5,k29,e1,c23,z2,e6,k27,e7,k24,k30,k31]
 | false =>
  obtain ⟨o,k31,p,hp,a,m,H1,lo,rfl,hu,hlo,hpl⟩:=c31 (pk:=pk) hs hd hq (by omega) e4 e5 e8 H (Grow.refl _) hF
  have hpl2:=(weather_bound hS hp.is).1
  have hd12:=hS.d2
  have hg:=hu.grow
  have k27':=c27 (kk:=m) (hs.grow hg) hd hpl (by omega) H1 (Grow.refl _)
  rw [hp.is] at k27'
  have k24':=c24 (pk:=pk) (wk':=m) (hs.grow hg) hd (Sl.grow hq hg) (by omega) hpl (by omega) H1 (Grow.refl _)
  rw [if_pos ⟨e4,e5,hp.is⟩,hp.bad] at k24'
  have l6:=hpl.isLoc m
  have n1:=hu.len
  have hlo':H.length≤lo:=hlo
  simp only [word,e8] at k30
  cases e9:never s s.coats plan with
  | true =>
   have h0:=never_bad (weather_le e7).1 (weather_le e7).2 _ _ e9
   rw [e9] at k30
   rw [h0] at k24
   simp only [if_pos,if_neg,Bool.false_eq_true] at k30
   simp (maxDischargeDepth:=8) only [↓SD,SU,SV,SW,simprocAttr,Int.cast_ofNat_Int,small,resV, B4,R4,N4,b4, l1,l2,l3,l4,l5,l6,k29,e1,c23,z2,e6,k27,e7,k24,k30,k31,k27',k24',n1,hlo']
  | false =>
   rw [e9] at k30
   simp only [if_neg,Bool.false_eq_true] at k30
   simp (maxDischargeDepth:=8) only [↓SD,SU,SV,SW,simprocAttr,Int.cast_ofNat_Int,small,resV, B4,R4,N4,b4, l1,l2,l3,l4,l5,l6,k29,e1,c23,z2,e6,k27,e7,k24,k30,k31,k27',k24',n1,hlo']
end Go.Pi.L.Coa
