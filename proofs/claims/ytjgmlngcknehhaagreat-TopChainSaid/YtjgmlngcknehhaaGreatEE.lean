/- Arguments, as they are laid: slices whose cells are told by other ones. -/
import Derived.Test.YtjgmlngcknehhaaGreatE
import Derived.Test.YtjgmlngcknehhaaGreatBMa
set_option linter.all false
namespace Go.Pi.E
open Go Go.Pi Go.Pi.L Go.ChangeShapes Go.WideShapes Go.RowKit
theorem Ent0.sliceV {P:Program}{w:World}{φ:Map}{H:Heap}(h:Ent0 P w φ H)(a:Option Addr)(len cap k:Nat)(k0:0 < k)(c:List Value)(hcl:c.length=len*k)(hc:a=none→len=0∧cap=0)(hcap:len≤cap)(h1:c.all one=true)
  (hcell:∀ad,a=some ad→∀j v,c[j]?=some v→∃y,w.cell? (ad.add j)=some y∧VR φ v y) :
  ∃φ' H' a' m,Ent0 P w φ' H'∧Sub φ φ' H H'∧VR φ' (.slice a' len m) (.slice a len cap)∧((a'=none∧len=0)∨∃b,a'=some ⟨b,0,none⟩∧(0 < len→hcells H' b=some c)):=by
 cases a with
 | none =>
  obtain ⟨rfl,rfl⟩:=hc rfl
  exact ⟨φ,H,none,0,h,.refl _ _,.sl0,.inl ⟨rfl,rfl⟩⟩
 | some ad =>
  by_cases h0:len=0
  ·subst h0
   exact ⟨φ,H,some ⟨0,0,none⟩,0,h,.refl _ _,.sl _ _ _ _ _ _ hcap (fun hp=>by omega),.inr ⟨0,rfl,fun h=>by omega⟩⟩
  ·have hpos:0 < len*k:=Nat.mul_pos (by omega) k0
   have hget:∀j,j < len*k→∃v,c[j]?=some v:=fun j hj=>⟨_,List.getElem?_eq_getElem (by omega)⟩
   obtain ⟨v0,hv0⟩:=hget 0 hpos
   obtain ⟨y0,hy0,_⟩:=hcell ad rfl 0 v0 hv0
   obtain ⟨cs,e,fr,hb,hsp,_⟩:=cell_block hy0
   have e0:ad.add 0=ad:=by simp [Addr.add]
   rw [e0] at hb hsp
   have hadd:∀j,ad.add j=⟨ad.block,ad.off+j,none⟩:=fun j=>by
    unfold Addr.add
    split
    ·rename_i hj; subst hj
     obtain ⟨b,off,sp⟩:=ad
     simp only at hsp
     subst hsp; rfl
    ·rfl
   have hcs:∀j v,c[j]?=some v→∃y,cs[ad.off+j]?=some y∧VR φ v y:=fun j v hv=>by
    obtain ⟨y,hy,hvr⟩:=hcell ad rfl j v hv
    rw [hadd] at hy
    simp only [World.cell?,hb] at hy
    exact ⟨y,hy,hvr⟩
   obtain ⟨v1,hl1⟩:=hget (len*k - 1) (by omega)
   obtain ⟨y1,hl2,_⟩:=hcs _ _ hl1
   have hsz:ad.off+c.length≤cs.size:=by
    have:=(Array.getElem?_eq_some_iff.1 hl2).1
    omega
   obtain ⟨g1,g2⟩:=h.add c hb hsz h1 hcs
   refine ⟨_,_,some ⟨H.length,0,none⟩,0,g1,g2,.sl _ _ _ _ _ _ hcap (fun _=>⟨⟨ad.block,ad.off,c.length,c.length⟩,by simp [upd],?_,fun hp=>by omega⟩),.inr ⟨H.length,rfl,fun _=>by simp [hcells]⟩⟩
   obtain ⟨b,off,sp⟩:=ad
   simp only at hsp
   subst hsp; rfl

end Go.Pi.E
namespace Go.Pi.E
open Go Go.Pi Go.Pi.L Go.ChangeShapes Go.WideShapes Go.RowKit
structure Sk where
 s:BM.Stroke
 a:Option Addr
 l:Nat
 m:Nat
def eK (x:Sk):List Value:=[.int .i64 x.s.board,.bool x.s.round,.int .i64 x.s.lo,.int .i64 x.s.hi,.slice x.a x.l x.m]
theorem eK_len (x:Sk):(eK x).length=5:=rfl
section
variable {HH:Type} {enc:TypeId×Value→HH} {P:Program} {w:World} {sp:Nat→Bool} {held:Bool} {base:Nat}
end
end Go.Pi.E
namespace Go.Pi.E
open Go Go.Pi Go.Pi.L Go.ChangeShapes Go.WideShapes Go.RowKit
theorem ent_rows {P:Program}{w:World}{φ:Map}{H:Heap}{β:Type}{enc:β→List Value}{k:Nat}(hk:∀x,(enc x).length=k)(k0:0 < k)(h1:∀x,(enc x).all one=true){a:Addr}{len cap:Nat}(hl:len≤cap)(Q:Heap→β→Prop)
  (Qg:∀H H' x,Grow H H'→Q H x→Q H' x) (hE:Ent0 P w φ H)
  (each:∀i,i < len→∀φ H,Ent0 P w φ H→∃φ' H' x,Ent0 P w φ' H'∧Sub φ φ' H H'∧Q H' x∧∀j v,(enc x)[j]?=some v→∃y,w.cell? (a.add (i*k+j))=some y∧VR φ' v y) :
  ∃φ' H' a' m xs,Ent0 P w φ' H'∧Sub φ φ' H H'∧VR φ' (.slice a' len m) (.slice (some a) len cap)∧Sl H' k enc a' len xs∧∀x∈xs,Q H' x:=by
 have step:∀n,n≤len→∃(φ':Map) (H':Heap) (xs:List β),Ent0 P w φ' H'∧Sub φ φ' H H'∧xs.length=n∧(∀x∈xs,Q H' x) ∧
   ∀i x,xs[i]?=some x→∀j v,(enc x)[j]?=some v→∃y,w.cell? (a.add (i*k+j))=some y∧VR φ' v y:=by
  intro n
  induction n with
  | zero=>intro _; exact ⟨φ,H,[],hE,.refl _ _,rfl,fun k hk=>by (cases hk),fun i k hk=>by simp at hk⟩
  | succ n ih =>
   intro hn
   obtain ⟨φ1,H1,xs,e1,s1,l1,r1,t1⟩:=ih (by omega)
   obtain ⟨φ2,H2,x,e2,s2,q2,t2⟩:=each n (by omega) φ1 H1 e1
   refine ⟨φ2,H2,xs++[x],e2,s1.trans s2,by simp [l1],fun y hy=>?_,fun i y hy j v hv=>?_⟩
   ·rcases List.mem_append.1 hy with hy | hy
    ·exact Qg _ _ _ s2.up.grow (r1 y hy)
    ·rw [List.mem_singleton.1 hy]; exact q2
   ·by_cases hi':i < n
    ·rw [List.getElem?_append_left (by omega)] at hy
     obtain ⟨u,a0,a1⟩:=t1 i y hy j v hv
     exact ⟨u,a0,a1.mono s2.map⟩
    ·have hi2:=(List.getElem?_eq_some_iff.1 hy).1
     simp at hi2
     obtain rfl:i=n:=by omega
     rw [List.getElem?_append_right (by omega),l1,Nat.sub_self] at hy
     simp at hy; subst hy
     exact t2 j v hv
 obtain ⟨φ1,H1,xs,e1,s1,l1,r1,t1⟩:=step len (Nat.le_refl _)
 obtain ⟨φ2,H2,a',m',e2,s2,q2,hb⟩:=e1.sliceV (some a) len cap k k0 (cells enc xs) (by rw [cells_len hk,l1]) (fun h=>by cases h) hl (by
  rw [List.all_eq_true]
  intro v hv
  unfold cells at hv
  rw [List.mem_flatten] at hv
  obtain ⟨l,hl,hvl⟩:=hv
  rw [List.mem_map] at hl
  obtain ⟨x,_,rfl⟩:=hl
  exact List.all_eq_true.1 (h1 x) v hvl) (by
  intro ad had j v hv
  cases had
  have hj:j < len*k:=by have:=(List.getElem?_eq_some_iff.1 hv).1; rw [cells_len hk,l1] at this; exact this
  have hjk:j / k < len:=Nat.div_lt_of_lt_mul (by rw [Nat.mul_comm]; exact hj)
  obtain ⟨x,hx⟩:∃x,xs[j / k]?=some x:=⟨_,List.getElem?_eq_getElem (by omega)⟩
  have hg:=cells_get hk hx
  have hjr:j / k*k+j % k=j:=Nat.div_add_mod' j k
  have hv':(enc x)[j % k]?=some v:=by
   rw [←hg,List.getElem?_take_of_lt (Nat.mod_lt _ k0),List.getElem?_drop,hjr]; exact hv
  have:=t1 _ _ hx _ _ hv'
  rw [hjr] at this
  exact this)
 refine ⟨φ2,H2,a',m',xs,e2,s1.trans s2,q2,⟨l1,?_,fun j x hj=>?_⟩,fun x hx=>Qg _ _ _ s2.up.grow (r1 x hx)⟩
 ·rcases hb with ⟨h,_⟩ | ⟨b,h,_⟩
  ·exact .inl h
  ·exact .inr ⟨b,0,h⟩
 ·have hjl:=(List.getElem?_eq_some_iff.1 hj).1
  rcases hb with ⟨_,h⟩ | ⟨b,h,hc⟩
  ·omega
  ·exact ⟨b,0,cells enc xs,h,hc (by omega),by rw [Nat.zero_add]; exact cells_get hk hj⟩
section
variable {HH:Type} {enc:TypeId×Value→HH} {P:Program} {w:World} {sp:Nat→Bool} {held:Bool} {base:Nat}
end
end Go.Pi.E
