/- Weathers in which plans hold, or not; the first one in which a plan does not. -/
import Derived.Test.YtjidjpcnocddeaaGreatDoorCQ
import Derived.Test.YtjidjpcnocddeaaGreatDoorDA
import Derived.Test.YtjidjpcnocddeaaGreatDoorLB
import Derived.Test.YtjidjpcnocddeaaGreatDoorPiN
set_option linter.all false
namespace CM

def le:List Int→List Int→Prop
 | x :: a,y :: b=>x≤y∧le a b
 | [],[]=>True
 | _,_=>False
def wd (s:Sheet)(d:List (Int×Int)):Sheet:=⟨d,s.work,s.coats⟩
end CM
namespace CM
end CM
set_option maxRecDepth 100000
namespace Go.Pi.L
open Go Go.Pi
theorem Sl.elems {β:Type}{H:Heap}{k:Nat}{enc:β→List Value}{a:Option Addr}{l:Nat}{xs:List β}(h:Sl H k enc a l xs)(hk:∀x,(enc x).length=k)(k0:0 < k)(m:Nat)(T S D lo n rnd):elemsL ⟨T,S,D,H,lo,n,rnd⟩ k (.slice a l m)=some (cells enc xs):=by
 obtain rfl:=h.len
 have e0:elemsL ⟨T,S,D,H,lo,n,rnd⟩ k (.slice a xs.length m)=Go.Pi.elems H k (.slice a xs.length m):=by
  rcases h.loc with rfl | ⟨b,off,rfl⟩
  ·rfl
  ·unfold elemsL; split
   ·rename_i he; cases he
   ·rfl
 rw [e0]
 by_cases h0:xs.length=0
 ·have:xs=[]:=List.eq_nil_of_length_eq_zero h0
  subst this
  rcases h.loc with rfl | ⟨b,off,rfl⟩ <;> rfl
 ·obtain ⟨b,off,c,ha,hc,_⟩:=h.rd 0 xs[0] (List.getElem?_eq_getElem (by omega))
  subst ha
  have key:∀n,n≤xs.length→(n≠0→off+n*k≤c.length)∧(c.drop off).take (n*k)=cells enc (xs.take n):=by
   intro n
   induction n with
   | zero=>intro _; simp [cells]
   | succ n ih =>
    intro hn
    obtain ⟨i1,i2⟩:=ih (by omega)
    obtain ⟨b',off',c',h1,h2,h3⟩:=h.rd n xs[n] (List.getElem?_eq_getElem (by omega))
    cases h1
    rw [hc] at h2; cases h2
    have h4:=congrArg List.length h3
    rw [hk,List.length_take,List.length_drop] at h4
    refine ⟨fun _=>?_,?_⟩
    ·rw [Nat.add_mul]; omega
    ·rw [List.take_succ_eq_append_getElem (by omega),cells_app,←i2,←h3,Nat.add_mul,Nat.one_mul,List.take_add,List.drop_drop]
  obtain ⟨k1,k2⟩:=key xs.length (Nat.le_refl _)
  rw [List.take_length] at k2
  simp only [Go.Pi.elems,if_neg h0,hc]
  rw [if_pos (k1 h0),k2]
end Go.Pi.L
namespace Go.Pi.L.Coa
open Go Go.Pi Go.Pi.L Go.Pi.Coa CM
theorem keepL:∀f g,primsL f=some g→∀args H out,g args H=some out→Fam H→Fam out.H∧Same out.lo H out.H:=by
 have kl:∀(p:List Value→Option Value) args H out,Q.lp p args H=some out→Fam H→Fam out.H∧Same out.lo H out.H:=by
  intro p args H out h hF
  unfold Q.lp at h
  rw [Option.map_eq_some_iff] at h
  obtain ⟨v,_,rfl⟩:=h
  exact ⟨hF,Same.refl _ _⟩
 intro f g hf
 unfold primsL at hf
 split at hf
 ·cases hf
  intro args H out ho hF
  dsimp only at ho
  split at ho
  ·cases ho; exact ⟨hF,Same.refl _ _⟩
  ·cases ho
 ·split at hf
  ·cases hf; exact kl _
  split at hf
  ·cases hf; exact kl _
  unfold Go.Pi.Coa.prims at hf
  repeat' (split at hf; · cases hf; first | exact kl _ | (intro args H out h hF; unfold Q.lJoin at h; rw [Option.map_eq_some_iff] at h; obtain ⟨v,_,rfl⟩:=h; exact ⟨hF,Same.refl _ _⟩))
  cases hf
theorem famR {fn:Fn}{args:List Value}{H:Heap}{o:Out}(h:R fn args H=some o)(hF:Fam H):Fam o.H:=runL_fam keepL h hF
end Go.Pi.L.Coa
set_option maxRecDepth 100000
namespace Go.Pi.L
open Go Go.Pi
theorem vv_cvI (j k:IntKind)(n:Int)(hw:k.wrap n=n):vv (.cv k) [.int j n]=some (.int k n):=by
 rw [vv_of rfl]
 simp only [VOp.ev]; rw [hw]
section
variable {α:Type} {call:CallT} {F:Ex→St→Option α} {k:List It}
theorem goD_b2s (d x hb tb T S D H lo n rnd)(h:slotOk x (ev T x)=true):goD call F d (.b2s x) ⟨1,hb,tb⟩ k ⟨T,S,D,H,lo,n,rnd⟩=nxt call F (b2sV ⟨T,S,D,H,H.length,n,rnd⟩ (ev T x)) d (.fix lo H.length hb :: k) ⟨T,S,D,H,H.length,n,rnd⟩:=by
 have h':clsOk ⟨d,.b2s x,none⟩ (Flag.cls ⟨1,hb,tb⟩) ⟨T,S,D,H,lo,n,rnd⟩=true:=by simp [clsOk,h]
 rw [goD_go _ _ _ _ _ _ _ _ _ _ h' trivial,g_b2s]
end
end Go.Pi.L
namespace Go.Pi.L.Coa
open Go Go.Pi Go.Pi.L Go.Pi.Coa CM Go.Pi.Q
theorem take_get {β:Type}{l:List β}{j:Nat}{x:β}(h:l[j]?=some x):l.take (j+1)=l.take j++[x]:=by
 rw [List.take_add_one,h]; rfl
theorem app_get {H:Heap}{b:Blk}:(H++[b])[H.length]?=some b:=by simp
theorem lt_of_get {H:Heap}{i:Nat}{b:Blk}(h:H[i]?=some b):i < H.length:=(List.getElem?_eq_some_iff.1 h).1
theorem rep_cells {β:Type}(enc:β→List Value)(x:β):∀n,rep n (enc x)=cells enc (List.replicate n x)
 | 0=>rfl
 | n+1=>by rw [rep,rep_cells enc x n,List.replicate_succ]; rfl
theorem mks_ok {k:Nat}{z:List Value}{bytes n:Nat}(hn:n < 1000000)(hb:bytes < 1000):mksA k z bytes (.int .i64 n) (.int .i64 n)=some ⟨.cells (rep n z),true,fun i=>.slice (some ⟨i,0,none⟩) n k⟩:=by
 unfold mksA small
 simp only
 rw [if_pos (by omega)]; simp
theorem gc_not {H H1:Heap}{lo:Nat}{v:Value}(h:lo < H.length):gcR H (.ok v) H1 lo=⟨.ok v,H1,lo⟩:=by
 unfold gcR; rw [if_neg (fun h'=>by have:=h'.1; omega)]
theorem set_same {H:Heap}{i:Nat}{x:Blk}(h:H[i]?=some x):H.set i x=H:=by
 apply List.ext_getElem?
 intro j
 by_cases e:i=j
 ·subst e; rw [List.getElem?_set_self (lt_of_get h),h]
 ·rw [List.getElem?_set_ne e]
theorem wrapN {n:Nat}(h:n < 4000000000000000000):IntKind.wrap .i64 ((n:Nat):Int)=((n:Nat):Int):=wrap_id _ (by omega) (by omega)
theorem ba_get! (l:List UInt8)(i:Nat){x:UInt8}(h:l[i]?=some x):(⟨l.toArray⟩:ByteArray).get! i=x:=by
 have hl:=(List.getElem?_eq_some_iff.1 h).1
 show (l.toArray)[i]! = x
 rw [getElem!_pos _ i (by simpa using hl)]
 have:=(List.getElem?_eq_some_iff.1 h).2
 simpa using this
theorem set_last {H:Heap}{x y:Blk}:(H++[x]).set H.length y=H++[y]:=by
 rw [List.set_append_right _ _ (Nat.le_refl _),Nat.sub_self]; rfl
theorem get_last {H:Heap}{x:Blk}:(H++[x])[H.length]?=some x:=by
 rw [List.getElem?_append_right (Nat.le_refl _),Nat.sub_self]; rfl
theorem rng_s (b:ByteArray):rngA (.string b)=some ⟨.iter b 0,false,ptrA⟩:=rfl
def dgI (z:Int):List UInt8:=dig3 z.toNat
theorem dig_len (n:Nat):(dig3 n).length≤3∧1≤(dig3 n).length:=by
 unfold dig3 dig
 rw [blt_dec,blt_dec]
 by_cases h:n < 100
 ·by_cases h2:n < 10 <;> simp [h,h2]
 ·simp [h]
theorem c141 {z:Int}(h0:0≤z)(h1:z≤999)(H:Heap):R (.func 141) [.int .i64 z] H=some ⟨.ok (.string ⟨(dgI z).toArray⟩),H,H.length⟩:=by
 obtain ⟨n,rfl⟩:∃n:Nat,z=n:=⟨z.toNat,by omega⟩
 refine runL_prim (g:=lp pItoa3) (by rfl) ?_
 have hb:Nat.blt n 1000=true:=by rw [blt_dec]; simp; omega
 show ((bif Nat.blt n 1000 then some (Value.string ⟨(dig3 n).toArray⟩) else none).map fun v=>(⟨.ok v,H,H.length⟩:Out))=_
 rw [hb]
 rfl
def encT (l:List UInt8):List Value:=[.string ⟨l.toArray⟩]
theorem encT_len (l:List UInt8):(encT l).length=1:=rfl
end Go.Pi.L.Coa
set_option maxRecDepth 100000
namespace CM
def chkR (i:Nat):Nat→List UInt8→Nat
 | _,[]=>0
 | k,x :: r=>x.toNat*(k+1)*(i+1)+chkR i (k+1) r
def chkL:Nat→List (List UInt8)→Nat
 | _,[]=>0
 | i,r :: l=>chkR i 0 r+chkL (i+1) l
theorem chkR_app (i:Nat):∀(a b:List UInt8) (k:Nat),chkR i k (a++b)=chkR i k a+chkR i (k+a.length) b
 | [],b,k=>by simp [chkR]
 | x :: a,b,k=>by
  simp only [List.cons_append,chkR,List.length_cons]
  rw [chkR_app i a b (k+1),show k+1+a.length=k+(a.length+1) by omega]; omega
theorem chkL_app:∀(a b:List (List UInt8)) (i:Nat),chkL i (a++b)=chkL i a+chkL (i+a.length) b
 | [],b,i=>by simp [chkL]
 | x :: a,b,i=>by
  simp only [List.cons_append,chkL,List.length_cons]
  rw [chkL_app a b (i+1),show i+1+a.length=i+(a.length+1) by omega]; omega
theorem chkR_take {i:Nat}{r:List UInt8}{k:Nat}{x:UInt8}(h:r[k]?=some x):chkR i 0 (r.take (k+1))=chkR i 0 (r.take k)+x.toNat*(k+1)*(i+1):=by
 have hl:=(List.getElem?_eq_some_iff.1 h).1
 rw [List.take_add_one,h,chkR_app]
 simp only [Option.toList_some,chkR,List.length_take]
 rw [show 0+min k r.length=k by omega]; omega
theorem chkL_take {L:List (List UInt8)}{i:Nat}{r:List UInt8}(h:L[i]?=some r):chkL 0 (L.take (i+1))=chkL 0 (L.take i)+chkR i 0 r:=by
 have hl:=(List.getElem?_eq_some_iff.1 h).1
 rw [List.take_add_one,h,chkL_app]
 simp only [Option.toList_some,chkL,List.length_take]
 rw [show 0+min i L.length=i by omega]; omega
theorem chkR_le (i:Nat):∀(r:List UInt8) (k:Nat),k+r.length≤1100→i < 700→chkR i k r≤255*1100*700*r.length
 | [],k,_,_=>by simp [chkR]
 | x :: r,k,h,hi=>by
  have h1:=chkR_le i r (k+1) (by simp at h; omega) hi
  have hx:x.toNat≤255:=by have:=x.toNat_lt; omega
  have h2:x.toNat*(k+1)*(i+1)≤255*1100*700:=Nat.mul_le_mul (Nat.mul_le_mul hx (by simp at h; omega)) (by omega)
  simp only [chkR,List.length_cons] at h1 ⊢
  rw [Nat.mul_add,Nat.mul_one]
  exact Nat.le_trans (Nat.add_le_add h2 h1) (by omega)
theorem chkL_le:∀(L:List (List UInt8)) (i:Nat),(∀r∈L,r.length≤1100)→i+L.length≤700→chkL i L≤255*1100*700*1100*L.length
 | [],i,_,_=>by simp [chkL]
 | r :: L,i,h,hi=>by
  have h1:=chkL_le L (i+1) (fun x hx=>h x (List.mem_cons_of_mem _ hx)) (by simp at hi; omega)
  have h2:=chkR_le i r 0 (by have:=h r (List.mem_cons_self ..); omega) (by simp at hi; omega)
  have h3:=h r (List.mem_cons_self ..)
  have h4:255*1100*700*r.length≤255*1100*700*1100:=Nat.mul_le_mul_left _ h3
  simp only [chkL,List.length_cons] at h1 ⊢
  rw [Nat.mul_add,Nat.mul_one]
  exact Nat.le_trans (Nat.add_le_add (Nat.le_trans h2 h4) h1) (by omega)
def endT (c:Nat):List UInt8:=[101,110,100,32]++Go.Pi.Q.dig3 (c / 100)++Go.Pi.Q.dig3 (c / 10 % 10)++Go.Pi.Q.dig3 (c % 10)
end CM
set_option maxRecDepth 100000
namespace Go.Pi.L.Coa
open Go Go.Pi Go.Pi.L Go.Pi.Coa CM Go.Pi.Q

abbrev Rw:=(Int×Int)×Option Bool
def wDay:List UInt8:=[100,97,121]
def wCoat:List UInt8:=[99,111,97,116]
def wYes:List UInt8:=[121,101,115]
def wNo:List UInt8:=[110,111]
def yesT (b:Bool):List UInt8:=if b=true then wYes else wNo
def wordsT (x:Rw):List (List UInt8):=match x.2 with
 | some b=>[dgI x.1.1,dgI x.1.2,yesT b]
 | none=>[dgI x.1.1,dgI x.1.2]
def headT (x:Rw):List UInt8:=match x.2 with
 | some _=>wDay
 | none=>wCoat
def rowT (x:Rw):List UInt8:=headT x++((wordsT x).map fun q=>(32:UInt8) :: q).flatten
def Num (z:Int):Prop:=0≤z∧z≤999
def Num2 (x:Int×Int):Prop:=Num x.1∧Num x.2
def valR (x:Rw):Value:=match x.2 with
 | some b=>.iface 149 (.agg #[.int .i64 x.1.1,.int .i64 x.1.2,.bool b])
 | none=>.iface 151 (.agg #[.int .i64 x.1.1,.int .i64 x.1.2])
def encR (x:Rw):List Value:=[valR x]
theorem encR_len (x:Rw):(encR x).length=1:=rfl
theorem c140 {x:Rw}(h:Num2 x.1)(H:Heap):R (.func 140) [valR x] H=some ⟨.ok (.string ⟨(rowT x).toArray⟩),H,H.length⟩:=by
 obtain ⟨⟨lo,hi⟩,o⟩:=x
 obtain ⟨⟨l0,l9⟩,⟨h0,h9⟩⟩:=h
 simp only at l0 l9 h0 h9
 obtain ⟨lo,rfl⟩:∃n:Nat,lo=n:=⟨lo.toNat,by omega⟩
 obtain ⟨hi,rfl⟩:∃n:Nat,hi=n:=⟨hi.toNat,by omega⟩
 refine runL_prim (g:=lp pWr3) (by rfl) ?_
 have b1:Nat.blt lo 1000=true:=by rw [blt_dec]; simp; omega
 have b2:Nat.blt hi 1000=true:=by rw [blt_dec]; simp; omega
 cases o with
 | some b =>
  show ((bif Nat.beq 149 149&&(Nat.blt lo 1000&&Nat.blt hi 1000) then some (Value.string ⟨(dayW++dig3 lo++sp++dig3 hi++sp++yesW b).toArray⟩) else none).map fun v=>(⟨.ok v,H,H.length⟩:Out))=_
  rw [b1,b2]
  have e:dayW++dig3 lo++sp++dig3 hi++sp++yesW b=rowT (((lo:Int),(hi:Int)),some b):=by
   cases b <;> simp [rowT,headT,wordsT,dayW,sp,yesW,yesT,wDay,wYes,wNo,dgI]
  rw [e]; rfl
 | none =>
  show ((bif Nat.beq 151 151&&(Nat.blt lo 1000&&Nat.blt hi 1000) then some (Value.string ⟨(coatW++dig3 lo++sp++dig3 hi).toArray⟩) else none).map fun v=>(⟨.ok v,H,H.length⟩:Out))=_
  rw [b1,b2]
  have e:coatW++dig3 lo++sp++dig3 hi=rowT (((lo:Int),(hi:Int)),none):=by
   simp [rowT,headT,wordsT,coatW,sp,wCoat,dgI]
  rw [e]; rfl
def dayR (s:Sheet):List Rw:=s.dry.zipIdx.map fun x=>(x.1,some (decide (((x.2:Nat):Int)∈s.work)))
def rws (s:Sheet):List Rw:=dayR s++s.coats.map fun c=>(c,none)
def rowsC (s:Sheet):List (List UInt8):=(rws s).map rowT
def flatT (R:List (List UInt8)):List UInt8:=(R.map fun r=>r++[10]).flatten
def textC (s:Sheet):List UInt8:=flatT (rowsC s)++(endT (chkL 0 (rowsC s) % 181)++[10])
structure NuC (s:Sheet):Prop where
 d:∀x∈s.dry,Num2 x
 c:∀x∈s.coats,Num2 x
 n:s.dry.length+s.coats.length≤400
theorem dayR_len (s:Sheet):(dayR s).length=s.dry.length:=by simp [dayR]
theorem dayR_get {s:Sheet}{j:Nat}{d:Int×Int}(h:s.dry[j]?=some d):(dayR s)[j]?=some (d,some (decide (((j:Nat):Int)∈s.work))):=by
 unfold dayR
 rw [List.getElem?_map,List.getElem?_zipIdx,h]
 simp
theorem rws_len (s:Sheet):(rws s).length=s.dry.length+s.coats.length:=by simp [rws,dayR]
theorem rws_num {s:Sheet}(h:NuC s):∀x∈rws s,Num2 x.1:=by
 intro x hx
 rcases List.mem_append.1 hx with hx | hx
 ·obtain ⟨y,hy,rfl⟩:=List.mem_map.1 hx
  exact h.d _ (List.fst_mem_of_mem_zipIdx hy)
 ·obtain ⟨y,hy,rfl⟩:=List.mem_map.1 hx
  exact h.c _ hy
theorem yesT_len (b:Bool):(yesT b).length≤3:=by cases b <;> decide
theorem rowT_len (x:Rw):(rowT x).length≤20:=by
 obtain ⟨⟨lo,hi⟩,o⟩:=x
 have h1:(dgI lo).length≤3:=(dig_len _).1
 have h2:(dgI hi).length≤3:=(dig_len _).1
 cases o with
 | some b=>have:=yesT_len b; simp [rowT,headT,wordsT,wDay]; omega
 | none=>simp [rowT,headT,wordsT,wCoat]; omega
theorem rowsC_len {s:Sheet}(h:NuC s):(rowsC s).length≤400∧∀r∈rowsC s,r.length≤20:=by
 refine ⟨by unfold rowsC; rw [List.length_map,rws_len]; exact h.n,fun r hr=>?_⟩
 obtain ⟨x,_,rfl⟩:=List.mem_map.1 hr
 exact rowT_len x
theorem flatT_snoc (R:List (List UInt8))(r:List UInt8):flatT (R++[r])=flatT R++(r++[10]):=by simp [flatT]
theorem flatT_take {R:List (List UInt8)}{j:Nat}{r:List UInt8}(h:R[j]?=some r):flatT (R.take (j+1))=flatT (R.take j)++r++[10]:=by
 rw [take_get h,flatT_snoc,List.append_assoc]
theorem flatT_len:∀{R:List (List UInt8)} {k:Nat},(∀r∈R,r.length≤k)→(flatT R).length≤R.length*(k+1)
 | [],k,_=>by simp [flatT]
 | r :: R,k,h=>by
  have h1:=h r (List.mem_cons_self ..)
  have h2:=flatT_len (R:=R) (k:=k) fun x hx=>h x (List.mem_cons_of_mem _ hx)
  unfold flatT at h2 ⊢
  simp only [List.map_cons,List.flatten_cons,List.length_append,List.length_cons,List.length_nil,Nat.add_mul] at h2 ⊢
  omega
end Go.Pi.L.Coa
