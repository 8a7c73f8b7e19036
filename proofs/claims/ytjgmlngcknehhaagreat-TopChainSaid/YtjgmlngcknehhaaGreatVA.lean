/- Benches, as they are laid. -/
import Derived.Test.YtjgmlngcknehhaaGreatUB
import Derived.Test.YtjgmlngcknehhaaGreatBMb
import Derived.Test.YtjgmlngcknehhaaGreatLB
set_option linter.all false
set_option maxRecDepth 100000
namespace Go.Pi.L
open Go Go.Pi
theorem At.v3 {H:Heap}{b off:Nat}{x y z u:Value}{e:List Value}(h:At H b off (x :: y :: z :: u :: e)):∀H',Grow H H'→rdO (hcells H' b) (off+3) none=some u:=h.one 3 u rfl
theorem At.v4 {H:Heap}{b off:Nat}{x y z u v:Value}{e:List Value}(h:At H b off (x :: y :: z :: u :: v :: e)):∀H',Grow H H'→rdO (hcells H' b) (off+4) none=some v:=h.one 4 v rfl
end Go.Pi.L
namespace Go.Pi.L.Ch
open Go Go.Pi Go.Pi.L Go.Pi.E Go.Pi.Top BM

structure BeR where
 app:Int
 ba:Option Addr
 bl:Nat
 bk:Nat
 sa:Option Addr
 sl:Nat
 sk:Nat
 xs:List Sk
structure BeOk (H:Heap)(r:BeR)(b:Bench):Prop where
 app:r.app=b.app
 br:Ints H r.ba r.bl b.boards
 st:Sl H 5 eK r.sa r.sl r.xs
 nd:∀k∈r.xs,Ints H k.a k.l k.s.needs
 eq:b.strokes=r.xs.map (·.s)
theorem BeOk.grow {H H':Heap}{r:BeR}{b:Bench}(h:BeOk H r b)(g:Grow H H'):BeOk H' r b:=⟨h.app,h.br.grow g,h.st.grow g,fun k hk=>(h.nd k hk).grow g,h.eq⟩
theorem BeOk.len {H:Heap}{r:BeR}{b:Bench}(h:BeOk H r b):b.strokes.length=r.sl:=by rw [h.eq,List.length_map]; exact h.st.len
theorem BeOk.blen {H:Heap}{r:BeR}{b:Bench}(h:BeOk H r b):b.boards.length=r.bl:=h.br.len
theorem BeOk.at {H:Heap}{r:BeR}{b:Bench}(h:BeOk H r b){j:Nat}{k:Sk}(hk:r.xs[j]?=some k):b.strokes[j]?=some k.s:=by rw [h.eq,List.getElem?_map,hk]; rfl
theorem _root_.Go.Pi.L.Sl.i1 {H:Heap}{a:Option Addr}{l:Nat}{xs:List Int}(h:Ints H a l xs){j:Nat}(hj:j < l) :
  ∃b off x,a=some ⟨b,off,none⟩∧xs[j]?=some x∧(∀H',Grow H H'→rdO (hcells H' b) (off+j*1) none=some (.int .i64 x)):=by
 obtain ⟨b,off,x,h1,h2,h3⟩:=h.at encI_len (by decide) hj
 exact ⟨b,off,x,h1,h2,At.v0 h3⟩
structure SkAt (H:Heap)(b off:Nat)(x:Sk):Prop where
 all:∀H',Grow H H'→rdO (hcells H' b) off (some 5)=some (.agg #[.int .i64 x.s.board,.bool x.s.round,.int .i64 x.s.lo,.int .i64 x.s.hi,.slice x.a x.l x.m])
 v0:∀H',Grow H H'→rdO (hcells H' b) off none=some (.int .i64 x.s.board)
 v1:∀H',Grow H H'→rdO (hcells H' b) (off+1) none=some (.bool x.s.round)
 v2:∀H',Grow H H'→rdO (hcells H' b) (off+2) none=some (.int .i64 x.s.lo)
 v3:∀H',Grow H H'→rdO (hcells H' b) (off+3) none=some (.int .i64 x.s.hi)
 v4:∀H',Grow H H'→rdO (hcells H' b) (off+4) none=some (.slice x.a x.l x.m)
theorem _root_.Go.Pi.L.Sl.k5 {H:Heap}{a:Option Addr}{l:Nat}{xs:List Sk}(h:Sl H 5 eK a l xs){j:Nat}(hj:j < l) :
  ∃b off x,a=some ⟨b,off,none⟩∧xs[j]?=some x∧SkAt H b (off+j*5) x:=by
 obtain ⟨b,off,x,h1,h2,h3⟩:=h.at eK_len (by decide) hj
 exact ⟨b,off,x,h1,h2,⟨h3.all,At.v0 h3,At.v1 h3,At.v2 h3,At.v3 h3,At.v4 h3⟩⟩
theorem drop_cons {β:Type}{xs:List β}{j:Nat}{x:β}(h:xs[j]?=some x):xs.drop j=x :: xs.drop (j+1):=by
 obtain ⟨hj,rfl⟩:=List.getElem?_eq_some_iff.1 h
 exact List.drop_eq_getElem_cons hj
theorem drop_all {β:Type}{xs:List β}{l:Nat}(h:xs.length=l):xs.drop l=[]:=List.drop_eq_nil_of_le (by omega)
theorem mem_drop {β:Type}{xs:List β}{j:Nat}{x:β}(h:xs[j]?=some x):x∈xs:=List.mem_of_getElem? h
theorem any_not {β:Type}(p:β→Bool)(l:List β):(!l.any fun x=>!p x)=l.all p:=by
 induction l with
 | nil=>rfl
 | cons x l ih=>simp only [List.any_cons,List.all_cons,Bool.not_or,Bool.not_not,ih]
end Go.Pi.L.Ch
set_option maxRecDepth 100000
namespace Go.Pi.L.Ch
open Go Go.Pi Go.Pi.L Go.Pi.E Go.Pi.Top BM

theorem c47 (x lo hi:Int)(H:Heap):R (.func 47) [.int .i64 x,.int .i64 lo,.int .i64 hi] H=some ⟨.ok (.bool (inL x lo hi)),H,H.length⟩:=by
 refine run_k (pr 47) P47 (by simp [p47]) rfl ?_
 by_cases h:lo≤x <;> simp (maxDischargeDepth:=8) only [↓SD,SU,SV,SW,simprocAttr,Int.cast_ofNat_Int,small,resV, B47,R47,N47,b47, h,Bool.false_and,inL]
theorem c80 (x:Int)(H:Heap):R (.func 80) [.int .i64 x] H=some ⟨.ok (.bool (!inL x 0 60)),H,H.length⟩:=by
 refine run_k (pr 80) P80 (by simp [p80]) rfl ?_
 simp (maxDischargeDepth:=8) only [↓SD,SU,SV,SW,simprocAttr,Int.cast_ofNat_Int,small,resV, B80,R80,N80,b80, c47]

def idx {β:Type}(p:β→Bool):List β→Nat→Int
 | [],_=>-1
 | x :: xs,j=>if p x then j else idx p xs (j+1)
theorem idx_any {β:Type}(p:β→Bool)(xs:List β)(j:Nat):decide (0≤idx p xs j)=xs.any p:=by
 induction xs generalizing j with
 | nil=>rfl
 | cons x xs ih =>
  rw [idx,List.any_cons]
  by_cases h:p x=true
  ·rw [if_pos h,h]; simp
  ·rw [if_neg h,ih]; simp [h]
theorem c101 {g:FuncId}{caps:List Value}{H:Heap}{a:Option Addr}{l kk:Nat}{xs:List Int}(p:Int→Bool)(hs:Ints H a l xs)(hl:l < 1000000)(hc:(caps.all fun v=>!isLoc v)=true)
  (hf:∀x∈xs,∀H',Grow H H'→R (.func g) (.int .i64 x :: caps) H'=some ⟨.ok (.bool (p x)),H',H'.length⟩) :
  ∀H',Grow H H'→R (.func 101) [.slice a l kk,.func (.func g) #[] caps.toArray] H'=some ⟨.ok (.int .i64 (idx p xs 0)),H',H'.length⟩:=by
 intro H' hg
 refine run_k (pr 101) P101 (by simp [p101]) rfl ?_
 have lo:=hs.isLoc kk
 simp (maxDischargeDepth:=8) only [↓SD,SU,SV,SW,simprocAttr,Int.cast_ofNat_Int,small,resV, B101,R101,N101,b101, lo]
 refine loop_ind (G:=(·=_)) (fun j σ=>∃T,σ=⟨T,[],[],H',(H').length,19,false⟩∧get T 0=.slice a l kk∧get T 1=.func (.func g) #[] caps.toArray∧get T 7=.int .i64 l∧get T 8=.int .i64 (j:Nat)∧(idx p (xs.drop j) j=idx p xs 0)) (l) ?_ ?_ 0 _ (Nat.zero_le _) ⟨_,rfl,rfl,rfl,rfl,rfl,by simp⟩
 ·rintro c' j s hj ⟨T,rfl,t0,t1,t7,t8,hp⟩ ih
  obtain ⟨b,off,x,rfl,hx,e1⟩:=hs.i1 hj
  have e2:=hf x (mem_drop hx) H' hg
  rw [drop_cons hx,idx] at hp
  cases hpx:p x with
  | true =>
   rw [hpx] at e2
   rw [if_pos hpx] at hp
   simp (maxDischargeDepth:=8) only [↓SD,SU,SV,SW,simprocAttr,Int.cast_ofNat_Int,small,resV, q101x0,t0,t1,t7,t8, lt_nat,hj,lo,e1,hg,e2,hc,R101,N101,←hp]
  | false =>
   rw [hpx] at e2
   rw [if_neg (by simp [hpx])] at hp
   simp (maxDischargeDepth:=8) only [↓SD,SU,SV,SW,simprocAttr,Int.cast_ofNat_Int,small,resV, q101x0,t0,t1,t7,t8, lt_nat,hj,lo,e1,hg,e2,hc,R101,N101,wrap_succ j (by omega)]
   exact ih _ ⟨_,rfl,(by simp [get_set,t0] <;> omega),(by simp [get_set,t1] <;> omega),(by simp [get_set,t7] <;> omega),(by simp [get_set,t8] <;> omega),hp⟩
 ·rintro c' s ⟨T,rfl,t0,t1,t7,t8,hp⟩
  rw [drop_all hs.len,idx] at hp
  simp (maxDischargeDepth:=8) only [↓SD,SU,SV,SW,simprocAttr,Int.cast_ofNat_Int,small,resV, q101x0,t0,t1,t7,t8, lt_nat,Nat.lt_irrefl,R101,N101,←hp]
theorem c60 {g:FuncId}{caps:List Value}{H:Heap}{a:Option Addr}{l kk:Nat}{xs:List Int}(p:Int→Bool)(hs:Ints H a l xs)(hl:l < 1000000)(hc:(caps.all fun v=>!isLoc v)=true)
  (hf:∀x∈xs,∀H',Grow H H'→R (.func g) (.int .i64 x :: caps) H'=some ⟨.ok (.bool (p x)),H',H'.length⟩) :
  ∀H',Grow H H'→R (.func 60) [.slice a l kk,.func (.func g) #[] caps.toArray] H'=some ⟨.ok (.bool (xs.any p)),H',H'.length⟩:=by
 intro H' hg
 refine run_k (pr 60) P60 (by simp [p60]) rfl ?_
 have lo:=hs.isLoc kk
 simp (maxDischargeDepth:=8) only [↓SD,SU,SV,SW,simprocAttr,Int.cast_ofNat_Int,small,resV, B60,R60,N60,b60, lo,loc_func,c101 p hs hl hc hf,hg,idx_any]

def nd (hi:Int):Option Int→List Int→Bool
 | _,[]=>true
 | none,x :: l=>inL x 0 hi&&nd hi (some x) l
 | some y,x :: l=>(inL x 0 hi&&decide (y < x))&&nd hi (some x) l
theorem nd_some {hi y:Int}:∀{l:List Int},nd hi (some y) l=(rises (y :: l)&&l.all fun n=>inL n 0 hi)
 | []=>rfl
 | x :: l=>by
  rw [nd,nd_some,rises,List.all_cons]
  cases inL x 0 hi <;> cases decide (y < x) <;> cases rises (x :: l) <;> simp
theorem nd_none {hi:Int}(l:List Int):nd hi none l=(rises l&&l.all fun n=>inL n 0 hi):=by
 cases l with
 | nil=>rfl
 | cons x l =>
  rw [nd,nd_some,List.all_cons]
  cases inL x 0 hi <;> cases rises (x :: l) <;> simp
theorem nd_nil {hi:Int}(p:Option Int):nd hi p []=true:=by cases p <;> rfl
def prv (l:List Int):Nat→Option Int
 | 0=>none
 | j+1=>l[j]?
def ndP (hi:Int)(l:List Int)(j:Nat):Prop:=nd hi (prv l j) (l.drop j)=nd hi none l
theorem ndP_zero {hi:Int}{l:List Int}:ndP hi l 0:=rfl
theorem ndP_first {hi:Int}{l:List Int}{y:Int}(h:ndP hi l 0)(hy:l[0]?=some y):(inL y 0 hi&&nd hi (some y) (l.drop 1))=nd hi none l:=by
 unfold ndP at h
 rw [drop_cons hy] at h; exact h
theorem ndP_next {hi:Int}{l:List Int}{j:Nat}{y y':Int}(h:ndP hi l (j+1))(hy':l[j]?=some y')(hy:l[j+1]?=some y):((inL y 0 hi&&decide (y' < y))&&nd hi (some y) (l.drop (j+2)))=nd hi none l:=by
 unfold ndP at h
 rw [drop_cons hy,prv,hy'] at h; exact h
theorem ndP_go {hi:Int}{l:List Int}{j:Nat}{y:Int}(hy:l[j]?=some y)(h:nd hi (some y) (l.drop (j+1))=nd hi none l):ndP hi l (j+1):=by unfold ndP; rw [prv,hy]; exact h
theorem ndP_last {hi:Int}{l:List Int}{j:Nat}(h:ndP hi l j)(hl:l.length=j):nd hi none l=true:=by
 unfold ndP at h
 rw [drop_all hl,nd_nil] at h; exact h.symm

structure SmB (r:BeR):Prop where
 b:r.bl < 1000000
 s:r.sl < 1000000
 n:∀k∈r.xs,k.l < 1000000
theorem wrap_pred {j:Nat}(h:j < 1000000):IntKind.wrap .i64 (((j+1:Nat):Int) - 1)=(j:Nat):=by rw [wrap_id _ (by omega) (by omega)]; omega
theorem strokeOk_nd (nb m:Nat)(s:Stroke):strokeOk nb m s=(nd ((m:Int) - 1) none s.needs&&(inL s.board 0 ((nb:Int) - 1)&&(inL s.lo 1 6&&inL s.hi s.lo 6))):=by rw [nd_none]; rfl
theorem c79 {H:Heap}{r:BeR}{b:Bench}(hb:BeOk H r b)(hd:SmB r){m:Nat}{x:Sk}(hx:r.xs[m]?=some x) :
  ∀H',Grow H H'→R (.func 79) [.agg #[.int .i64 r.app,.slice r.ba r.bl r.bk,.slice r.sa r.sl r.sk],.int .i64 m] H'=some ⟨.ok (.bool (strokeOk b.boards.length m x.s)),H',H'.length⟩:=by
 intro H' hg
 rw [strokeOk_nd,hb.blen]
 refine run_k (pr 79) P79 (by simp [p79]) rfl ?_
 have hm:m < r.sl:=by rw [←hb.st.len]; exact (List.getElem?_eq_some_iff.1 hx).1
 obtain ⟨bb,off,x',hsa,hx',hat⟩:=hb.st.k5 hm
 rw [hx] at hx'
 cases hx'
 have hN:Ints H x.a x.l x.s.needs:=hb.nd x (mem_drop hx)
 have nN:x.l < 1000000:=hd.n x (mem_drop hx)
 have e5:=hat.all H' hg
 have hsl:=hd.s
 have hbl:=hd.b
 obtain ⟨app,ba,bl,bk,sa,sl,sk,xs⟩:=r
 have hB:Ints H ba bl b.boards:=hb.br
 have hS:Sl H 5 eK sa sl xs:=hb.st
 have l1:=hB.isLoc bk
 have l2:=hS.isLoc sk
 simp only at hm hsl hbl hsa ⊢
 subst hsa
 have w1:IntKind.wrap .i64 ((m:Int) - 1)=(m:Int) - 1:=wrap_id _ (by omega) (by omega)
 have w2:IntKind.wrap .i64 ((bl:Int) - 1)=(bl:Int) - 1:=wrap_id _ (by omega) (by omega)
 have l4:=hN.isLoc x.m
 simp (maxDischargeDepth:=8) only [↓SD,SU,SV,SW,simprocAttr,Int.cast_ofNat_Int,small,resV, B79,R79,N79,b79, l1,l2,l4,hm,lt_nat,e5]
 refine loop_ind (G:=(·=_)) (fun j σ=>∃T S,σ=⟨T,S,[],H',(H').length,63,false⟩∧get T 1=.int .i64 m∧get T 2=.pointer (some ⟨2,0,some 1⟩)∧get T 5=.pointer (some ⟨5,0,some 1⟩)∧get T 14=.slice x.a x.l x.m∧get T 15=.int .i64 x.l∧get T 16=.int .i64 (j:Nat)∧sget S 2=(1,.cells [.int .i64 app,.slice ba bl bk,.slice (some ⟨bb,off,none⟩) sl sk])∧sget S 5=(1,.cells [.int .i64 x.s.board,.bool x.s.round,.int .i64 x.s.lo,.int .i64 x.s.hi,.slice x.a x.l x.m])∧(ndP ((m:Int) - 1) x.s.needs j)) (x.l) ?_ ?_ 0 _ (Nat.zero_le _) ⟨_,_,rfl,rfl,rfl,rfl,rfl,rfl,rfl,rfl,rfl,ndP_zero⟩
 ·rintro c' j s hj ⟨T,S,rfl,t1,t2,t5,t14,t15,t16,s0,s1,hp⟩ ih
  obtain ⟨b1,o1,y,hxa,hy,e1⟩:=hN.i1 hj
  have e1:=e1 H' hg
  have hw:=wrap_succ j (by omega)
  by_cases hj0:j=0
  ·have hq:=ndP_first (hj0 ▸ hp) (hj0 ▸ hy)
   have e4:¬(0:Int) < (j:Int):=by omega
   cases q:inL y 0 ((m:Int) - 1) with
   | false =>
    rw [q,Bool.false_and] at hq
    simp (maxDischargeDepth:=8) only [↓SD,SU,SV,SW,simprocAttr,Int.cast_ofNat_Int,small,resV, q79x0,t1,t2,t5,t14,t15,t16,s0,s1, lt_nat,hj,l1,l2,l4,hxa,e1,e4,w1,c47,q,R79,N79,←hq,Bool.false_and]
   | true =>
    rw [q,Bool.true_and] at hq
    simp (maxDischargeDepth:=8) only [↓SD,SU,SV,SW,simprocAttr,Int.cast_ofNat_Int,small,resV, q79x0,t1,t2,t5,t14,t15,t16,s0,s1, lt_nat,hj,l1,l2,l4,hxa,e1,e4,w1,c47,q,hw]
    exact ih _ ⟨_,_,rfl,(by simp [get_set,t1] <;> omega),(by simp [get_set,t2] <;> omega),(by simp [get_set,t5] <;> omega),(by simp [get_set,t14] <;> omega),(by simp [get_set,t15] <;> omega),(by simp [get_set,t16] <;> omega),by simp [sget_sset,s0],by simp [sget_sset,s1],by subst hj0; exact ndP_go hy hq⟩
  ·obtain ⟨j,rfl⟩:∃i,j=i+1:=⟨j - 1,by omega⟩
   obtain ⟨b2,o2,y',hxa',hy',e2⟩:=hN.i1 (j:=j) (by omega)
   have e2:=e2 H' hg
   rw [hxa] at hxa'
   cases hxa'
   have hq:=ndP_next hp hy' hy
   have w3:=wrap_pred (j:=j) (by omega)
   have e4:(0:Int) < ((j+1:Nat):Int):=by omega
   have e6:j < x.l:=by omega
   cases q:inL y 0 ((m:Int) - 1) with
   | false =>
    rw [q,Bool.false_and,Bool.false_and] at hq
    simp (maxDischargeDepth:=8) only [↓SD,SU,SV,SW,simprocAttr,Int.cast_ofNat_Int,small,resV, q79x0,t1,t2,t5,t14,t15,t16,s0,s1, lt_nat,hj,l1,l2,l4,hxa,e1,w1,c47,q,R79,N79,←hq,Bool.false_and]
   | true =>
    by_cases hlt:y≤y'
    ·have:¬y' < y:=by omega
     simp only [q,this,decide_false,Bool.and_false,Bool.false_and] at hq
     simp (maxDischargeDepth:=8) only [↓SD,SU,SV,SW,simprocAttr,Int.cast_ofNat_Int,small,resV, q79x0,t1,t2,t5,t14,t15,t16,s0,s1, lt_nat,hj,l1,l2,l4,hxa,e1,w1,w3,e2,e4,e6,hlt,c47,q,R79,N79,←hq,Bool.false_and]
    ·have:y' < y:=by omega
     simp only [q,this,decide_true,Bool.true_and] at hq
     simp (maxDischargeDepth:=8) only [↓SD,SU,SV,SW,simprocAttr,Int.cast_ofNat_Int,small,resV, q79x0,t1,t2,t5,t14,t15,t16,s0,s1, lt_nat,hj,l1,l2,l4,hxa,e1,w1,w3,e2,e4,e6,hlt,c47,q,hw]
     exact ih _ ⟨_,_,rfl,(by simp [get_set,t1] <;> omega),(by simp [get_set,t2] <;> omega),(by simp [get_set,t5] <;> omega),(by simp [get_set,t14] <;> omega),(by simp [get_set,t15] <;> omega),(by simp [get_set,t16] <;> omega),by simp [sget_sset,s0],by simp [sget_sset,s1],ndP_go hy hq⟩
 ·rintro c' s ⟨T,S,rfl,t1,t2,t5,t14,t15,t16,s0,s1,hp⟩
  rw [ndP_last hp hN.len,Bool.true_and]
  cases q1:inL x.s.board 0 ((bl:Int) - 1) with
  | false=>simp (maxDischargeDepth:=8) only [↓SD,SU,SV,SW,simprocAttr,Int.cast_ofNat_Int,small,resV, q79x0,t1,t2,t5,t14,t15,t16,s0,s1, lt_nat,Nat.lt_irrefl,l1,l2,l4,w2,c47,R79,N79,Bool.false_and,q1]
  | true =>
   cases q2:inL x.s.lo 1 6 with
   | false=>simp (maxDischargeDepth:=8) only [↓SD,SU,SV,SW,simprocAttr,Int.cast_ofNat_Int,small,resV, q79x0,t1,t2,t5,t14,t15,t16,s0,s1, lt_nat,Nat.lt_irrefl,l1,l2,l4,w2,c47,R79,N79,Bool.false_and,q1,q2]
   | true =>
    simp (maxDischargeDepth:=8) only [↓SD,SU,SV,SW,simprocAttr,Int.cast_ofNat_Int,small,resV, q79x0,t1,t2,t5,t14,t15,t16,s0,s1, lt_nat,Nat.lt_irrefl,l1,l2,l4,w2,c47,R79,N79,Bool.false_and,q1,q2]
end Go.Pi.L.Ch
set_option maxRecDepth 100000
namespace Go.Pi.L.Ch
open Go Go.Pi Go.Pi.L Go.Pi.E Go.Pi.Top BM

theorem strokesOk_drop {nb:Nat}{ss:List Stroke}{j:Nat}{s:Stroke}(h:ss[j]?=some s):strokesOk nb j (ss.drop j)=(strokeOk nb j s&&strokesOk nb (j+1) (ss.drop (j+1))):=by rw [drop_cons h,strokesOk]
theorem c36 {H:Heap}{r:BeR}{b:Bench}(hb:BeOk H r b)(hd:SmB r):∀H',Grow H H'→R (.func 36) [.agg #[.int .i64 r.app,.slice r.ba r.bl r.bk,.slice r.sa r.sl r.sk]] H'=some ⟨.ok (.bool (isBench b)),H',H'.length⟩:=by
 intro H' hg
 unfold isBench
 rw [hb.blen,hb.len,←hb.app]
 refine run_k (pr 36) P36 (by simp [p36]) rfl ?_
 have k1:=c60 (g:=80) (caps:=[]) (kk:=r.bk) (fun x=>!inL x 0 60) hb.br hd.b rfl (fun x _ H2 _=>c80 x H2) H' hg
 have k2:=fun m x hx=>c79 (m:=m) (x:=x) hb hd hx H' hg
 have hsl:=hd.s
 have hst:∀{j:Nat} {k:Sk},r.xs[j]?=some k→b.strokes[j]?=some k.s:=fun h=>hb.at h
 have hle:b.strokes.length=r.sl:=hb.len
 rw [hb.blen] at k2
 obtain ⟨app,ba,bl,bk,sa,sl,sk,xs⟩:=r
 have hB:Ints H ba bl b.boards:=hb.br
 have hS:Sl H 5 eK sa sl xs:=hb.st
 have l1:=hB.isLoc bk
 have l2:=hS.isLoc sk
 simp only at k1 k2 hsl hst hle ⊢
 cases q1:inL app 0 3 with
 | false=>simp (maxDischargeDepth:=8) only [↓SD,SU,SV,SW,simprocAttr,Int.cast_ofNat_Int,small,resV, B36,R36,N36,b36, l1,l2,c47,q1,R36,N36,Bool.false_and]
 | true =>
 cases q2:inL (bl:Int) 1 3 with
 | false=>simp (maxDischargeDepth:=8) only [↓SD,SU,SV,SW,simprocAttr,Int.cast_ofNat_Int,small,resV, B36,R36,N36,b36, l1,l2,c47,q1,q2,R36,N36,Bool.false_and]
 | true =>
 cases q3:inL (sl:Int) 1 6 with
 | false=>simp (maxDischargeDepth:=8) only [↓SD,SU,SV,SW,simprocAttr,Int.cast_ofNat_Int,small,resV, B36,R36,N36,b36, l1,l2,c47,q1,q2,q3,R36,N36,Bool.false_and]
 | true =>
 simp (maxDischargeDepth:=8) only [↓SD,SU,SV,SW,simprocAttr,Int.cast_ofNat_Int,small,resV, B36,R36,N36,b36, l1,l2,c47,q1,q2,q3]
 refine loop_ind (G:=(·=_)) (fun j σ=>∃T S,σ=⟨T,S,[],H',(H').length,37,false⟩∧get T 1=.pointer (some ⟨1,0,some 1⟩)∧get T 24=.int .i64 sl∧get T 25=.int .i64 (j:Nat)∧sget S 1=(1,.cells [.int .i64 app,.slice ba bl bk,.slice sa sl sk])∧(strokesOk bl j (b.strokes.drop j)=strokesOk bl 0 b.strokes)) (sl) ?_ ?_ 0 _ (Nat.zero_le _) ⟨_,_,rfl,rfl,rfl,rfl,rfl,by simp⟩
 ·rintro c' j s hj ⟨T,S,rfl,t1,t24,t25,s0,hp⟩ ih
  obtain ⟨b1,o1,x,hxa,hx,e1⟩:=hS.k5 hj
  have hw:=wrap_succ j (by omega)
  have k3:=k2 j x hx
  rw [strokesOk_drop (hst hx)] at hp
  cases q:strokeOk bl j x.s with
  | false =>
   rw [q] at k3
   rw [q,Bool.false_and] at hp
   simp (maxDischargeDepth:=8) only [↓SD,SU,SV,SW,simprocAttr,Int.cast_ofNat_Int,small,resV, q36x0,t1,t24,t25,s0, lt_nat,hj,l1,l2,k3,R36,N36,←hp,Bool.false_and]
  | true =>
   rw [q] at k3
   rw [q,Bool.true_and] at hp
   simp (maxDischargeDepth:=8) only [↓SD,SU,SV,SW,simprocAttr,Int.cast_ofNat_Int,small,resV, q36x0,t1,t24,t25,s0, lt_nat,hj,l1,l2,k3,hw]
   exact ih _ ⟨_,_,rfl,(by simp [get_set,t1] <;> omega),(by simp [get_set,t24] <;> omega),(by simp [get_set,t25] <;> omega),by simp [sget_sset,s0],hp⟩
 ·rintro c' s ⟨T,S,rfl,t1,t24,t25,s0,hp⟩
  rw [drop_all hle,strokesOk] at hp
  rw [←hp,Bool.true_and]
  simp (maxDischargeDepth:=8) only [↓SD,SU,SV,SW,simprocAttr,Int.cast_ofNat_Int,small,resV, q36x0,t1,t24,t25,s0, lt_nat,Nat.lt_irrefl,l1,l2,k1,R36,N36,any_not]
end Go.Pi.L.Ch
