/- What stands outside the layer of coats. -/
import Derived.Test.YtjidjpcnocddeaaGreatDoorCPb
import Derived.Test.YtjidjpcnocddeaaGreatDoorPiN
import Derived.Test.YtjidjpcnocddeaaGreatDoorLB
set_option linter.all false
namespace Go.Pi.Coa
open Go Go.Pi Go.Pi.Q

def sp:List UInt8:=[32]
def dayW:List UInt8:=[100,97,121,32]
def coatW:List UInt8:=[99,111,97,116,32]
def yesW (b:Bool):List UInt8:=if b then [121,101,115] else [110,111]
def pWr (args:List Value):Option Value :=
 match args with
 | [.iface t (.agg cs)] =>
  match cs.toList with
  | [.int .i64 (.ofNat lo),.int .i64 (.ofNat hi),.bool b] =>
   bif Nat.beq t 149&&(Nat.blt lo 100&&Nat.blt hi 100) then some (.string ⟨(dayW++dig lo++sp++dig hi++sp++yesW b).toArray⟩) else none
  | [.int .i64 (.ofNat lo),.int .i64 (.ofNat hi)] =>
   bif Nat.beq t 151&&(Nat.blt lo 100&&Nat.blt hi 100) then some (.string ⟨(coatW++dig lo++sp++dig hi).toArray⟩) else none
  | _=>none
 | _=>none

def prims:Prims:=fun f =>
 if f=140 then some (lp pWr) else if f=141 then some (lp pItoa) else if f=157 then some lJoin else if f=165 then some (lp pCount) else if f=166 then some (lp pIndex) else none
def fp (B:Base):FPrims:=fun f =>
 bif Nat.blt f 140 then none else bif Nat.beq f 140 then some (qp pWr) else bif Nat.beq f 141 then some (qp pItoa) else bif Nat.beq f 157 then some (qJoin B) else bif Nat.beq f 165 then some (qp pCount) else bif Nat.beq f 166 then some (qp pIndex) else none

theorem pr (f:FuncId)(h0:f≠140:=by decide)(h1:f≠141:=by decide)(h2:f≠157:=by decide)(h3:f≠165:=by decide)(h4:f≠166:=by decide):prims f=none:=by
 unfold prims; rw [if_neg h0,if_neg h1,if_neg h2,if_neg h3,if_neg h4]

theorem prel (B:Base)(Hb:Heap)(g:Q.Good B Hb):PRel B Hb (fp B) prims:=by
 have key:∀f:Nat,fp B f=(if f=140 then some (qp pWr) else if f=141 then some (qp pItoa) else if f=157 then some (qJoin B) else if f=165 then some (qp pCount) else if f=166 then some (qp pIndex) else none):=by
  intro f
  unfold fp
  rw [blt_dec]
  by_cases h:(f:Nat) < 140
  ·have h0:f≠140:=by omega
   have h1:¬(f:Nat)=141:=fun e=>by rw [e] at h; exact absurd h (by decide)
   have h2:¬(f:Nat)=157:=fun e=>by rw [e] at h; exact absurd h (by decide)
   have h3:¬(f:Nat)=165:=fun e=>by rw [e] at h; exact absurd h (by decide)
   have h4:¬(f:Nat)=166:=fun e=>by rw [e] at h; exact absurd h (by decide)
   simp [h,h0,h1,h2,h3,h4]
  ·simp only [h,decide_false,cond_false,beq_dec]
   by_cases h0:f=140 <;> by_cases h1:f=141 <;> by_cases h2:f=157 <;> by_cases h3:f=165 <;> by_cases h4:f=166 <;> simp [h0,h1,h2,h3,h4]
 refine ⟨fun f hf=>?_,fun f q hf=>?_⟩
 ·rw [key] at hf
  unfold prims
  by_cases h0:f=140
  ·rw [if_pos h0] at hf; cases hf
  by_cases h1:f=141
  ·rw [if_neg h0,if_pos h1] at hf; cases hf
  by_cases h2:f=157
  ·rw [if_neg h0,if_neg h1,if_pos h2] at hf; cases hf
  by_cases h3:f=165
  ·rw [if_neg h0,if_neg h1,if_neg h2,if_pos h3] at hf; cases hf
  by_cases h4:f=166
  ·rw [if_neg h0,if_neg h1,if_neg h2,if_neg h3,if_pos h4] at hf; cases hf
  rw [if_neg h0,if_neg h1,if_neg h2,if_neg h3,if_neg h4]
 ·rw [key] at hf
  unfold prims
  by_cases h0:f=140
  ·rw [if_pos h0] at hf ⊢; cases hf; exact ⟨_,rfl,lp_rel _⟩
  by_cases h1:f=141
  ·rw [if_neg h0,if_pos h1] at hf ⊢; cases hf; exact ⟨_,rfl,lp_rel _⟩
  by_cases h2:f=157
  ·rw [if_neg h0,if_neg h1,if_pos h2] at hf ⊢; cases hf; exact ⟨_,rfl,lJoin_rel g⟩
  by_cases h3:f=165
  ·rw [if_neg h0,if_neg h1,if_neg h2,if_pos h3] at hf ⊢; cases hf; exact ⟨_,rfl,lp_rel _⟩
  by_cases h4:f=166
  ·rw [if_neg h0,if_neg h1,if_neg h2,if_neg h3,if_pos h4] at hf ⊢; cases hf; exact ⟨_,rfl,lp_rel _⟩
  rw [if_neg h0,if_neg h1,if_neg h2,if_neg h3,if_neg h4] at hf
  cases hf

theorem pkeeps:∀f g,prims f=some g→∀args H out,g args H=some out→Fam H→Fam out.H∧Same out.lo H out.H:=by
 intro f g hf
 unfold prims at hf
 by_cases h0:f=140
 ·rw [if_pos h0] at hf; cases hf; exact lp_keeps _
 by_cases h1:f=141
 ·rw [if_neg h0,if_pos h1] at hf; cases hf; exact lp_keeps _
 by_cases h2:f=157
 ·rw [if_neg h0,if_neg h1,if_pos h2] at hf; cases hf; exact lJoin_keeps
 by_cases h3:f=165
 ·rw [if_neg h0,if_neg h1,if_neg h2,if_pos h3] at hf; cases hf; exact lp_keeps _
 by_cases h4:f=166
 ·rw [if_neg h0,if_neg h1,if_neg h2,if_neg h3,if_pos h4] at hf; cases hf; exact lp_keeps _
 rw [if_neg h0,if_neg h1,if_neg h2,if_neg h3,if_neg h4] at hf
 cases hf
end Go.Pi.Coa
namespace CM

structure Sheet where
 dry:List (Int×Int)
 work:List Int
 coats:List (Int×Int)

def inL (x lo hi:Int):Bool:=decide (lo≤x)&&decide (x≤hi)
def rises:List Int→Bool
 | a :: b :: l=>decide (a < b)&&rises (b :: l)
 | _=>true
def isDay (s:Sheet)(n:Int):Bool:=inL n 0 (s.dry.length - 1)
def spanOk (x:Int×Int):Bool:=inL x.1 0 24&&inL x.2 x.1 24
def coatOk (x:Int×Int):Bool:=inL x.1 1 288&&inL x.2 x.1 400
def isSheet (s:Sheet):Bool :=
 inL s.dry.length 1 12&&(inL s.coats.length 1 5&&(s.dry.all spanOk&&(s.coats.all coatOk&&(rises s.work&&s.work.all (isDay s)))))
def sm:List Int→Int
 | []=>0
 | x :: l=>x+sm l
end CM
namespace CM

theorem drop_cons {β:Type}{xs:List β}{j:Nat}{x:β}(h:xs[j]?=some x):xs.drop j=x :: xs.drop (j+1):=by
 obtain ⟨hj,rfl⟩:=List.getElem?_eq_some_iff.1 h
 exact List.drop_eq_getElem_cons hj
theorem inL_iff {x lo hi:Int}:inL x lo hi=true↔lo≤x∧x≤hi:=by simp [inL]

end CM
set_option maxRecDepth 100000
namespace Go.Pi.L.Coa
open Go Go.Pi Go.Pi.L Go.Pi.Coa CM

def pWr3 (args:List Value):Option Value :=
 match args with
 | [.iface t (.agg cs)] =>
  match cs.toList with
  | [.int .i64 (.ofNat lo),.int .i64 (.ofNat hi),.bool b] =>
   bif Nat.beq t 149&&(Nat.blt lo 1000&&Nat.blt hi 1000) then some (.string ⟨(dayW++Q.dig3 lo++sp++Q.dig3 hi++sp++yesW b).toArray⟩) else none
  | [.int .i64 (.ofNat lo),.int .i64 (.ofNat hi)] =>
   bif Nat.beq t 151&&(Nat.blt lo 1000&&Nat.blt hi 1000) then some (.string ⟨(coatW++Q.dig3 lo++sp++Q.dig3 hi).toArray⟩) else none
  | _=>none
 | _=>none
def primsL:Prims:=fun f=>if f=23 then some (fun args H=>if args.isEmpty=true then some ⟨.ok (.bool true),H,H.length⟩ else none) else if f=140 then some (Q.lp pWr3) else if f=141 then some (Q.lp Q.pItoa3) else Go.Pi.Coa.prims f
theorem pr (f:FuncId)(hk:f≠23:=by decide)(h0:f≠140:=by decide)(h1:f≠141:=by decide)(h2:f≠157:=by decide)(h3:f≠165:=by decide)(h4:f≠166:=by decide):primsL f=none:=by
 unfold primsL; rw [if_neg hk,if_neg h0,if_neg h1]; exact Go.Pi.Coa.pr f h0 h1 h2 h3 h4
structure ShR where
 da:Option Addr
 dl:Nat
 dk:Nat
 wa:Option Addr
 wl:Nat
 wk:Nat
 ca:Option Addr
 cl:Nat
 ck:Nat
def encI (x:Int):List Value:=[.int .i64 x]
def encS (x:Int×Int):List Value:=[.int .i64 x.1,.int .i64 x.2]
theorem encI_len (x:Int):(encI x).length=1:=rfl
theorem encS_len (x:Int×Int):(encS x).length=2:=rfl
abbrev Ints (H:Heap)(a:Option Addr)(l:Nat)(xs:List Int):Prop:=Sl H 1 encI a l xs
abbrev Spans (H:Heap)(a:Option Addr)(l:Nat)(xs:List (Int×Int)):Prop:=Sl H 2 encS a l xs
structure ShOk (H:Heap)(r:ShR)(s:Sheet):Prop where
 d:Spans H r.da r.dl s.dry
 w:Ints H r.wa r.wl s.work
 c:Spans H r.ca r.cl s.coats
theorem ShOk.grow {H H':Heap}{r:ShR}{s:Sheet}(h:ShOk H r s)(g:Grow H H'):ShOk H' r s:=⟨h.d.grow g,h.w.grow g,h.c.grow g⟩
theorem _root_.Go.Pi.L.Sl.s2 {H:Heap}{a:Option Addr}{l:Nat}{xs:List (Int×Int)}(h:Spans H a l xs){j:Nat}(hj:j < l) :
  ∃b off x,a=some ⟨b,off,none⟩∧xs[j]?=some x∧(∀H',Grow H H'→rdO (hcells H' b) (off+j*2) (some 2)=some (.agg #[.int .i64 x.1,.int .i64 x.2])) ∧
   (∀H',Grow H H'→rdO (hcells H' b) (off+j*2) none=some (.int .i64 x.1))∧(∀H',Grow H H'→rdO (hcells H' b) (off+j*2+1) none=some (.int .i64 x.2)):=by
 obtain ⟨b,off,x,h1,h2,h3⟩:=h.at encS_len (by decide) hj
 exact ⟨b,off,x,h1,h2,h3.all,At.v0 h3,At.v1 h3⟩
theorem _root_.Go.Pi.L.Sl.i1 {H:Heap}{a:Option Addr}{l:Nat}{xs:List Int}(h:Ints H a l xs){j:Nat}(hj:j < l) :
  ∃b off x,a=some ⟨b,off,none⟩∧xs[j]?=some x∧(∀H',Grow H H'→rdO (hcells H' b) (off+j*1) none=some (.int .i64 x)):=by
 obtain ⟨b,off,x,h1,h2,h3⟩:=h.at encI_len (by decide) hj
 exact ⟨b,off,x,h1,h2,At.v0 h3⟩
theorem drop_cons {β:Type}{xs:List β}{j:Nat}{x:β}(h:xs[j]?=some x):xs.drop j=x :: xs.drop (j+1):=by
 obtain ⟨hj,rfl⟩:=List.getElem?_eq_some_iff.1 h
 exact List.drop_eq_getElem_cons hj
theorem drop_all {β:Type}{xs:List β}{l:Nat}(h:xs.length=l):xs.drop l=[]:=List.drop_eq_nil_of_le (by omega)
theorem mem_drop {β:Type}{xs:List β}{j:Nat}{x:β}(h:xs[j]?=some x):x∈xs:=List.mem_of_getElem? h
end Go.Pi.L.Coa
set_option maxRecDepth 100000
namespace Go.Pi.L.Coa
open Go Go.Pi Go.Pi.L Go.Pi.Coa CM

noncomputable abbrev R:CallT:=runL PP primsL

theorem c118 (x lo hi:Int)(H:Heap):R (.func 118) [.int .i64 x,.int .i64 lo,.int .i64 hi] H=some ⟨.ok (.bool (inL x lo hi)),H,H.length⟩:=by
 refine run_k (pr 118) P118 (by simp [p118]) rfl ?_
 by_cases h:lo≤x <;> simp (maxDischargeDepth:=8) only [↓SD,SU,SV,SW,simprocAttr,Int.cast_ofNat_Int,small,resV, B118,R118,N118,b118, h,Bool.false_and,inL]
theorem c81 (x lo hi:Int)(H:Heap):R (.func 81) [.int .i64 x,.int .i64 lo,.int .i64 hi] H=some ⟨.ok (.bool (inL x lo hi)),H,H.length⟩:=by
 refine run_k (pr 81) P81 (by simp [p81]) rfl ?_
 by_cases h:lo≤x <;> simp (maxDischargeDepth:=8) only [↓SD,SU,SV,SW,simprocAttr,Int.cast_ofNat_Int,small,resV, B81,R81,N81,b81, h,Bool.false_and,inL]
theorem c117 (s:Int×Int)(H:Heap):R (.func 117) [.agg #[.int .i64 s.1,.int .i64 s.2]] H=some ⟨.ok (.bool (!spanOk s)),H,H.length⟩:=by
 refine run_k (pr 117) P117 (by simp [p117]) rfl ?_
 cases h:inL s.1 0 24 <;> simp (maxDischargeDepth:=8) only [↓SD,SU,SV,SW,simprocAttr,Int.cast_ofNat_Int,small,resV, B117,R117,N117,b117, c118,h,spanOk,Bool.true_or,Bool.false_or,Bool.false_and]
theorem c119 (s:Int×Int)(H:Heap):R (.func 119) [.agg #[.int .i64 s.1,.int .i64 s.2]] H=some ⟨.ok (.bool (!coatOk s)),H,H.length⟩:=by
 refine run_k (pr 119) P119 (by simp [p119]) rfl ?_
 cases h:inL s.1 1 288 <;> simp (maxDischargeDepth:=8) only [↓SD,SU,SV,SW,simprocAttr,Int.cast_ofNat_Int,small,resV, B119,R119,N119,b119, c118,h,coatOk,Bool.true_or,Bool.false_or,Bool.false_and]

def idx {β:Type}(p:β→Bool):List β→Nat→Int
 | [],_=>-1
 | x :: xs,j=>if p x then j else idx p xs (j+1)
theorem idx_any {β:Type}(p:β→Bool)(xs:List β)(j:Nat):decide (0≤idx p xs j)=xs.any p:=by
 induction xs generalizing j with
 | nil=>rfl
 | cons x xs ih =>
  rw [idx,List.any_cons]
  by_cases h:p x=true
  ·rw [if_pos h,h]; simp
  ·rw [if_neg h,ih]; simp [h]

theorem c150 {g:FuncId}{caps:List Value}{H:Heap}{a:Option Addr}{l kk:Nat}{xs:List (Int×Int)}(p:Int×Int→Bool)(hs:Spans H a l xs)(hl:l < 1000000)(hc:(caps.all fun v=>!isLoc v)=true)
  (hf:∀x∈xs,∀H',Grow H H'→R (.func g) (.agg #[.int .i64 x.1,.int .i64 x.2] :: caps) H'=some ⟨.ok (.bool (p x)),H',H'.length⟩) :
  ∀H',Grow H H'→R (.func 150) [.slice a l kk,.func (.func g) #[] caps.toArray] H'=some ⟨.ok (.int .i64 (idx p xs 0)),H',H'.length⟩:=by
 intro H' hg
 refine run_k (pr 150) P150 (by simp [p150]) rfl ?_
 have lo:=hs.isLoc kk
 simp (maxDischargeDepth:=8) only [↓SD,SU,SV,SW,simprocAttr,Int.cast_ofNat_Int,small,resV, B150,R150,N150,b150, lo]
 refine loop_ind (G:=(·=_)) (fun j s=>∃T,s=⟨T,[],[],H',H'.length,19,false⟩∧get T 0=.slice a l kk∧get T 1=.func (.func g) #[] caps.toArray∧get T 7=.int .i64 l∧get T 8=.int .i64 (j:Nat) ∧
  idx p (xs.drop j) j=idx p xs 0) l ?_ ?_ 0 _ (Nat.zero_le _) ⟨_,rfl,rfl,rfl,rfl,rfl,by simp⟩
 ·rintro c' j s hj ⟨T,rfl,h0,h1,h7,h8,hp⟩ ih
  obtain ⟨b,off,x,rfl,hx,e1,_⟩:=hs.s2 hj
  have e2:=hf x (mem_drop hx) H' hg
  rw [drop_cons hx,idx] at hp
  cases hpx:p x with
  | true =>
   rw [hpx] at e2
   rw [if_pos hpx] at hp
   simp (maxDischargeDepth:=8) only [↓SD,SU,SV,SW,simprocAttr,Int.cast_ofNat_Int,small,resV, q150x0,h0,h1,h7,h8,lt_nat,hj,lo,e1,hg,e2,hc,R150,N150,←hp]
  | false =>
   rw [hpx] at e2
   rw [if_neg (by simp [hpx])] at hp
   simp (maxDischargeDepth:=8) only [↓SD,SU,SV,SW,simprocAttr,Int.cast_ofNat_Int,small,resV, q150x0,h0,h1,h7,h8,lt_nat,hj,lo,e1,hg,e2,hc,R150,N150,wrap_succ j (by omega)]
   exact ih _ ⟨_,rfl,by simp [get_set,h0],by simp [get_set,h1],by simp [get_set,h7],by simp [get_set],hp⟩
 ·rintro c' s ⟨T,rfl,h0,h1,h7,h8,hp⟩
  rw [drop_all hs.len,idx] at hp
  simp (maxDischargeDepth:=8) only [↓SD,SU,SV,SW,simprocAttr,Int.cast_ofNat_Int,small,resV, q150x0,h0,h1,h7,h8,lt_nat,Nat.lt_irrefl,R150,N150,←hp]

theorem c120 {g:FuncId}{caps:List Value}{H:Heap}{a:Option Addr}{l kk:Nat}{xs:List (Int×Int)}(p:Int×Int→Bool)(hs:Spans H a l xs)(hl:l < 1000000)(hc:(caps.all fun v=>!isLoc v)=true)
  (hf:∀x∈xs,∀H',Grow H H'→R (.func g) (.agg #[.int .i64 x.1,.int .i64 x.2] :: caps) H'=some ⟨.ok (.bool (p x)),H',H'.length⟩) :
  ∀H',Grow H H'→R (.func 120) [.slice a l kk,.func (.func g) #[] caps.toArray] H'=some ⟨.ok (.bool (xs.any p)),H',H'.length⟩:=by
 intro H' hg
 refine run_k (pr 120) P120 (by simp [p120]) rfl ?_
 have lo:=hs.isLoc kk
 simp (maxDischargeDepth:=8) only [↓SD,SU,SV,SW,simprocAttr,Int.cast_ofNat_Int,small,resV, B120,R120,N120,b120, lo,loc_func,c150 p hs hl hc hf,hg,idx_any]
theorem c151 {g:FuncId}{caps:List Value}{H:Heap}{a:Option Addr}{l kk:Nat}{xs:List (Int×Int)}(p:Int×Int→Bool)(hs:Spans H a l xs)(hl:l < 1000000)(hc:(caps.all fun v=>!isLoc v)=true)
  (hf:∀x∈xs,∀H',Grow H H'→R (.func g) (.agg #[.int .i64 x.1,.int .i64 x.2] :: caps) H'=some ⟨.ok (.bool (p x)),H',H'.length⟩) :
  ∀H',Grow H H'→R (.func 151) [.slice a l kk,.func (.func g) #[] caps.toArray] H'=some ⟨.ok (.int .i64 (idx p xs 0)),H',H'.length⟩:=by
 intro H' hg
 refine run_k (pr 151) P151 (by simp [p151]) rfl ?_
 have lo:=hs.isLoc kk
 simp (maxDischargeDepth:=8) only [↓SD,SU,SV,SW,simprocAttr,Int.cast_ofNat_Int,small,resV, B151,R151,N151,b151, lo]
 refine loop_ind (G:=(·=_)) (fun j s=>∃T,s=⟨T,[],[],H',H'.length,19,false⟩∧get T 0=.slice a l kk∧get T 1=.func (.func g) #[] caps.toArray∧get T 7=.int .i64 l∧get T 8=.int .i64 (j:Nat) ∧
  idx p (xs.drop j) j=idx p xs 0) l ?_ ?_ 0 _ (Nat.zero_le _) ⟨_,rfl,rfl,rfl,rfl,rfl,by simp⟩
 ·rintro c' j s hj ⟨T,rfl,h0,h1,h7,h8,hp⟩ ih
  obtain ⟨b,off,x,rfl,hx,e1,_⟩:=hs.s2 hj
  have e2:=hf x (mem_drop hx) H' hg
  rw [drop_cons hx,idx] at hp
  cases hpx:p x with
  | true =>
   rw [hpx] at e2
   rw [if_pos hpx] at hp
   simp (maxDischargeDepth:=8) only [↓SD,SU,SV,SW,simprocAttr,Int.cast_ofNat_Int,small,resV, q151x0,h0,h1,h7,h8,lt_nat,hj,lo,e1,hg,e2,hc,R151,N151,←hp]
  | false =>
   rw [hpx] at e2
   rw [if_neg (by simp [hpx])] at hp
   simp (maxDischargeDepth:=8) only [↓SD,SU,SV,SW,simprocAttr,Int.cast_ofNat_Int,small,resV, q151x0,h0,h1,h7,h8,lt_nat,hj,lo,e1,hg,e2,hc,R151,N151,wrap_succ j (by omega)]
   exact ih _ ⟨_,rfl,by simp [get_set,h0],by simp [get_set,h1],by simp [get_set,h7],by simp [get_set],hp⟩
 ·rintro c' s ⟨T,rfl,h0,h1,h7,h8,hp⟩
  rw [drop_all hs.len,idx] at hp
  simp (maxDischargeDepth:=8) only [↓SD,SU,SV,SW,simprocAttr,Int.cast_ofNat_Int,small,resV, q151x0,h0,h1,h7,h8,lt_nat,Nat.lt_irrefl,R151,N151,←hp]

theorem c121 {g:FuncId}{caps:List Value}{H:Heap}{a:Option Addr}{l kk:Nat}{xs:List (Int×Int)}(p:Int×Int→Bool)(hs:Spans H a l xs)(hl:l < 1000000)(hc:(caps.all fun v=>!isLoc v)=true)
  (hf:∀x∈xs,∀H',Grow H H'→R (.func g) (.agg #[.int .i64 x.1,.int .i64 x.2] :: caps) H'=some ⟨.ok (.bool (p x)),H',H'.length⟩) :
  ∀H',Grow H H'→R (.func 121) [.slice a l kk,.func (.func g) #[] caps.toArray] H'=some ⟨.ok (.bool (xs.any p)),H',H'.length⟩:=by
 intro H' hg
 refine run_k (pr 121) P121 (by simp [p121]) rfl ?_
 have lo:=hs.isLoc kk
 simp (maxDischargeDepth:=8) only [↓SD,SU,SV,SW,simprocAttr,Int.cast_ofNat_Int,small,resV, B121,R121,N121,b121, lo,loc_func,c151 p hs hl hc hf,hg,idx_any]
theorem c152 {g:FuncId}{caps:List Value}{H:Heap}{a:Option Addr}{l kk:Nat}{xs:List Int}(p:Int→Bool)(hs:Ints H a l xs)(hl:l < 1000000)(hc:(caps.all fun v=>!isLoc v)=true)
  (hf:∀x∈xs,∀H',Grow H H'→R (.func g) (.int .i64 x :: caps) H'=some ⟨.ok (.bool (p x)),H',H'.length⟩) :
  ∀H',Grow H H'→R (.func 152) [.slice a l kk,.func (.func g) #[] caps.toArray] H'=some ⟨.ok (.int .i64 (idx p xs 0)),H',H'.length⟩:=by
 intro H' hg
 refine run_k (pr 152) P152 (by simp [p152]) rfl ?_
 have lo:=hs.isLoc kk
 simp (maxDischargeDepth:=8) only [↓SD,SU,SV,SW,simprocAttr,Int.cast_ofNat_Int,small,resV, B152,R152,N152,b152, lo]
 refine loop_ind (G:=(·=_)) (fun j s=>∃T,s=⟨T,[],[],H',H'.length,19,false⟩∧get T 0=.slice a l kk∧get T 1=.func (.func g) #[] caps.toArray∧get T 7=.int .i64 l∧get T 8=.int .i64 (j:Nat) ∧
  idx p (xs.drop j) j=idx p xs 0) l ?_ ?_ 0 _ (Nat.zero_le _) ⟨_,rfl,rfl,rfl,rfl,rfl,by simp⟩
 ·rintro c' j s hj ⟨T,rfl,h0,h1,h7,h8,hp⟩ ih
  obtain ⟨b,off,x,rfl,hx,e1⟩:=hs.i1 hj
  have e2:=hf x (mem_drop hx) H' hg
  rw [drop_cons hx,idx] at hp
  cases hpx:p x with
  | true =>
   rw [hpx] at e2
   rw [if_pos hpx] at hp
   simp (maxDischargeDepth:=8) only [↓SD,SU,SV,SW,simprocAttr,Int.cast_ofNat_Int,small,resV, q152x0,h0,h1,h7,h8,lt_nat,hj,lo,e1,hg,e2,hc,R152,N152,←hp]
  | false =>
   rw [hpx] at e2
   rw [if_neg (by simp [hpx])] at hp
   simp (maxDischargeDepth:=8) only [↓SD,SU,SV,SW,simprocAttr,Int.cast_ofNat_Int,small,resV, q152x0,h0,h1,h7,h8,lt_nat,hj,lo,e1,hg,e2,hc,R152,N152,wrap_succ j (by omega)]
   exact ih _ ⟨_,rfl,by simp [get_set,h0],by simp [get_set,h1],by simp [get_set,h7],by simp [get_set],hp⟩
 ·rintro c' s ⟨T,rfl,h0,h1,h7,h8,hp⟩
  rw [drop_all hs.len,idx] at hp
  simp (maxDischargeDepth:=8) only [↓SD,SU,SV,SW,simprocAttr,Int.cast_ofNat_Int,small,resV, q152x0,h0,h1,h7,h8,lt_nat,Nat.lt_irrefl,R152,N152,←hp]

theorem c123 {g:FuncId}{caps:List Value}{H:Heap}{a:Option Addr}{l kk:Nat}{xs:List Int}(p:Int→Bool)(hs:Ints H a l xs)(hl:l < 1000000)(hc:(caps.all fun v=>!isLoc v)=true)
  (hf:∀x∈xs,∀H',Grow H H'→R (.func g) (.int .i64 x :: caps) H'=some ⟨.ok (.bool (p x)),H',H'.length⟩) :
  ∀H',Grow H H'→R (.func 123) [.slice a l kk,.func (.func g) #[] caps.toArray] H'=some ⟨.ok (.bool (xs.any p)),H',H'.length⟩:=by
 intro H' hg
 refine run_k (pr 123) P123 (by simp [p123]) rfl ?_
 have lo:=hs.isLoc kk
 simp (maxDischargeDepth:=8) only [↓SD,SU,SV,SW,simprocAttr,Int.cast_ofNat_Int,small,resV, B123,R123,N123,b123, lo,loc_func,c152 p hs hl hc hf,hg,idx_any]

theorem c153 {H:Heap}{a:Option Addr}{l kk:Nat}{xs:List Int}(v:Int)(hs:Ints H a l xs)(hl:l < 1000000) :
  ∀H',Grow H H'→R (.func 153) [.slice a l kk,.int .i64 v] H'=some ⟨.ok (.int .i64 (idx (fun d=>decide (v=d)) xs 0)),H',H'.length⟩:=by
 intro H' hg
 refine run_k (pr 153) P153 (by simp [p153]) rfl ?_
 have lo:=hs.isLoc kk
 simp (maxDischargeDepth:=8) only [↓SD,SU,SV,SW,simprocAttr,Int.cast_ofNat_Int,small,resV, B153,R153,N153,b153, lo]
 refine loop_ind (G:=(·=_)) (fun j s=>∃T,s=⟨T,[],[],H',H'.length,19,false⟩∧get T 0=.slice a l kk∧get T 1=.int .i64 v∧get T 7=.int .i64 l∧get T 8=.int .i64 (j:Nat) ∧
  idx (fun d=>decide (v=d)) (xs.drop j) j=idx (fun d=>decide (v=d)) xs 0) l ?_ ?_ 0 _ (Nat.zero_le _) ⟨_,rfl,rfl,rfl,rfl,rfl,by simp⟩
 ·rintro c' j s hj ⟨T,rfl,h0,h1,h7,h8,hp⟩ ih
  obtain ⟨b,off,x,rfl,hx,e1⟩:=hs.i1 hj
  rw [drop_cons hx,idx] at hp
  by_cases hpx:v=x
  ·rw [if_pos (by simpa using hpx)] at hp
   simp (maxDischargeDepth:=8) only [↓SD,SU,SV,SW,simprocAttr,Int.cast_ofNat_Int,small,resV, q153x0,h0,h1,h7,h8,lt_nat,hj,lo,e1,hg,R153,N153,hpx]
   rw [hp,←hpx]
  ·rw [if_neg (by simpa using hpx)] at hp
   simp (maxDischargeDepth:=8) only [↓SD,SU,SV,SW,simprocAttr,Int.cast_ofNat_Int,small,resV, q153x0,h0,h1,h7,h8,lt_nat,hj,lo,e1,hg,R153,N153,hpx,wrap_succ j (by omega)]
   exact ih _ ⟨_,rfl,by simp [get_set,h0],by simp [get_set,h1],by simp [get_set,h7],by simp [get_set],hp⟩
 ·rintro c' s ⟨T,rfl,h0,h1,h7,h8,hp⟩
  rw [drop_all hs.len,idx] at hp
  simp (maxDischargeDepth:=8) only [↓SD,SU,SV,SW,simprocAttr,Int.cast_ofNat_Int,small,resV, q153x0,h0,h1,h7,h8,lt_nat,Nat.lt_irrefl,R153,N153,←hp]
theorem c126 {H:Heap}{a:Option Addr}{l kk:Nat}{xs:List Int}(v:Int)(hs:Ints H a l xs)(hl:l < 1000000) :
  ∀H',Grow H H'→R (.func 126) [.slice a l kk,.int .i64 v] H'=some ⟨.ok (.bool (xs.any fun d=>decide (v=d))),H',H'.length⟩:=by
 intro H' hg
 refine run_k (pr 126) P126 (by simp [p126]) rfl ?_
 have lo:=hs.isLoc kk
 simp (maxDischargeDepth:=8) only [↓SD,SU,SV,SW,simprocAttr,Int.cast_ofNat_Int,small,resV, B126,R126,N126,b126, lo,c153 v hs hl,hg,idx_any]

theorem c104 {H:Heap}{r:ShR}{s:Sheet}(hs:ShOk H r s)(hd:r.dl < 1000000)(x:Int):∀H',Grow H H'→R (.func 104) [.agg #[.slice r.da r.dl r.dk,.slice r.wa r.wl r.wk,.slice r.ca r.cl r.ck],.int .i64 x] H'=some ⟨.ok (.bool (isDay s x)),H',H'.length⟩:=by
 intro H' hg
 refine run_k (pr 104) P104 (by simp [p104]) rfl ?_
 have e1:IntKind.wrap .i64 ((r.dl:Int) - 1)=(s.dry.length:Int) - 1:=by rw [hs.d.len]; exact wrap_id _ (by omega) (by omega)
 simp (maxDischargeDepth:=8) only [↓SD,SU,SV,SW,simprocAttr,Int.cast_ofNat_Int,small,resV, B104,R104,N104,b104, hs.d.isLoc,hs.w.isLoc,hs.c.isLoc,c118,e1,isDay]
theorem c60 {H:Heap}{r:ShR}{s:Sheet}(hs:ShOk H r s)(hd:r.dl < 1000000)(x:Int):∀H',Grow H H'→R (.func 60) [.agg #[.slice r.da r.dl r.dk,.slice r.wa r.wl r.wk,.slice r.ca r.cl r.ck],.int .i64 x] H'=some ⟨.ok (.bool (isDay s x)),H',H'.length⟩:=by
 intro H' hg
 refine run_k (pr 60) P60 (by simp [p60]) rfl ?_
 have e1:IntKind.wrap .i64 ((r.dl:Int) - 1)=(s.dry.length:Int) - 1:=by rw [hs.d.len]; exact wrap_id _ (by omega) (by omega)
 simp (maxDischargeDepth:=8) only [↓SD,SU,SV,SW,simprocAttr,Int.cast_ofNat_Int,small,resV, B60,R60,N60,b60, hs.d.isLoc,hs.w.isLoc,hs.c.isLoc,c81,e1,isDay]
theorem rises_drop {l:List Int}{j:Nat}{x y:Int}(h0:l[j]?=some x)(h1:l[j+1]?=some y):rises (l.drop j)=(decide (x < y)&&rises (l.drop (j+1))):=by
 rw [drop_cons h0,drop_cons h1,rises]
theorem c122 {H:Heap}{a:Option Addr}{l kk:Nat}{xs:List Int}(hs:Ints H a l xs)(hl:l < 1000000) :
  ∀H',Grow H H'→R (.func 122) [.slice a l kk] H'=some ⟨.ok (.bool (rises xs)),H',H'.length⟩:=by
 intro H' hg
 refine run_k (pr 122) P122 (by simp [p122]) rfl ?_
 have lo:=hs.isLoc kk
 simp (maxDischargeDepth:=8) only [↓SD,SU,SV,SW,simprocAttr,Int.cast_ofNat_Int,small,resV, B122,R122,N122,b122, lo]
 refine loop_ind (G:=(·=_)) (fun j σ=>∃T,σ=⟨T,[],[],H',(H').length,24,false⟩∧get T 0=.slice a l kk∧get T 5=.slice a l kk∧get T 6=.int .i64 l∧get T 7=.int .i64 (j:Nat)∧(rises (xs.drop (j - 1))=rises xs)) (l) ?_ ?_ 0 _ (Nat.zero_le _) ⟨_,rfl,rfl,rfl,rfl,rfl,by simp⟩
 ·rintro c' j s hj ⟨T,rfl,t0,t5,t6,t7,hp⟩ ih
  obtain ⟨b,off,x,rfl,hx,e1⟩:=hs.i1 hj
  have hw:=wrap_succ j (by omega)
  by_cases hj0:j=0
  ·have e4:¬(0:Int) < (j:Int):=by omega
   simp (maxDischargeDepth:=8) only [↓SD,SU,SV,SW,simprocAttr,Int.cast_ofNat_Int,small,resV, q122x0,t0,t5,t6,t7, lt_nat,hj,lo,e1,hg,hw,e4]
   exact ih _ ⟨_,rfl,(by simp [get_set,t0] <;> omega),(by simp [get_set,t5] <;> omega),(by simp [get_set,t6] <;> omega),(by simp [get_set,t7] <;> omega),by subst hj0; simp⟩
  ·obtain ⟨j,rfl⟩:∃i,j=i+1:=⟨j - 1,by omega⟩
   obtain ⟨b',off',x',hb,hx',e2⟩:=hs.i1 (j:=j) (by omega)
   cases hb
   have e3:IntKind.wrap .i64 (((j+1:Nat):Int) - 1)=(j:Nat):=by rw [wrap_id _ (by omega) (by omega)]; omega
   have e4:(0:Int) < ((j+1:Nat):Int):=by omega
   have e5:j < l:=by omega
   rw [Nat.add_sub_cancel,rises_drop hx' hx] at hp
   by_cases hlt:x≤x'
   ·have:¬x' < x:=by omega
    simp only [this,decide_false,Bool.false_and] at hp
    simp (maxDischargeDepth:=8) only [↓SD,SU,SV,SW,simprocAttr,Int.cast_ofNat_Int,small,resV, q122x0,t0,t5,t6,t7, lt_nat,hj,lo,e1,hg,hw,e2,e3,e4,e5,hlt,R122,N122,←hp]
   ·have:x' < x:=by omega
    simp only [this,decide_true,Bool.true_and] at hp
    simp (maxDischargeDepth:=8) only [↓SD,SU,SV,SW,simprocAttr,Int.cast_ofNat_Int,small,resV, q122x0,t0,t5,t6,t7, lt_nat,hj,lo,e1,hg,hw,e2,e3,e4,e5,hlt]
    exact ih _ ⟨_,rfl,(by simp [get_set,t0] <;> omega),(by simp [get_set,t5] <;> omega),(by simp [get_set,t6] <;> omega),(by simp [get_set,t7] <;> omega),hp⟩
 ·rintro c' s ⟨T,rfl,t0,t5,t6,t7,hp⟩
  have:rises (xs.drop (l - 1))=true:=by
   have hlen:=hs.len
   cases h:xs.drop (l - 1) with
   | nil=>rfl
   | cons y ys =>
    cases ys with
    | nil=>rfl
    | cons z zs=>have:=congrArg List.length h; simp at this; omega
  rw [this] at hp
  simp (maxDischargeDepth:=8) only [↓SD,SU,SV,SW,simprocAttr,Int.cast_ofNat_Int,small,resV, q122x0,t0,t5,t6,t7, lt_nat,Nat.lt_irrefl,R122,N122,←hp]
end Go.Pi.L.Coa
