/- Arguments, as they are laid: slices whose cells are told by other ones. -/
import Derived.Test.YtjgmlngcknehhaaGreatTA
import Derived.Test.YtjgmlngcknehhaaGreatKN
import Derived.Test.YtjgmlngcknehhaaGreatKC
import Derived.Test.YtjgmlngcknehhaaGreatPiI
import Derived.Test.YtjgmlngcknehhaaGreatPiJ
set_option linter.all false
namespace Go.Pi.E
open Go Go.Pi Go.Pi.L Go.ChangeShapes Go.WideShapes Go.RowKit
theorem Ent0.sliceV {P:Program}{w:World}{φ:Map}{H:Heap}(h:Ent0 P w φ H)(a:Option Addr)(len cap k:Nat)(k0:0 < k)(c:List Value)(hcl:c.length=len*k)(hc:a=none→len=0∧cap=0)(hcap:len≤cap)(h1:c.all one=true)
  (hcell:∀ad,a=some ad→∀j v,c[j]?=some v→∃y,w.cell? (ad.add j)=some y∧VR φ v y) :
  ∃φ' H' a' m,Ent0 P w φ' H'∧Sub φ φ' H H'∧VR φ' (.slice a' len m) (.slice a len cap)∧((a'=none∧len=0)∨∃b,a'=some ⟨b,0,none⟩∧(0 < len→hcells H' b=some c)):=by
 cases a with
 | none =>
  obtain ⟨rfl,rfl⟩:=hc rfl
  exact ⟨φ,H,none,0,h,.refl _ _,.sl0,.inl ⟨rfl,rfl⟩⟩
 | some ad =>
  by_cases h0:len=0
  ·subst h0
   exact ⟨φ,H,some ⟨0,0,none⟩,0,h,.refl _ _,.sl _ _ _ _ _ _ hcap (fun hp=>by omega),.inr ⟨0,rfl,fun h=>by omega⟩⟩
  ·have hpos:0 < len*k:=Nat.mul_pos (by omega) k0
   have hget:∀j,j < len*k→∃v,c[j]?=some v:=fun j hj=>⟨_,List.getElem?_eq_getElem (by omega)⟩
   obtain ⟨v0,hv0⟩:=hget 0 hpos
   obtain ⟨y0,hy0,_⟩:=hcell ad rfl 0 v0 hv0
   obtain ⟨cs,e,fr,hb,hsp,_⟩:=cell_block hy0
   have e0:ad.add 0=ad:=by simp [Addr.add]
   rw [e0] at hb hsp
   have hadd:∀j,ad.add j=⟨ad.block,ad.off+j,none⟩:=fun j=>by
    unfold Addr.add
    split
    ·rename_i hj; subst hj
     obtain ⟨b,off,sp⟩:=ad
     simp only at hsp
     subst hsp; rfl
    ·rfl
   have hcs:∀j v,c[j]?=some v→∃y,cs[ad.off+j]?=some y∧VR φ v y:=fun j v hv=>by
    obtain ⟨y,hy,hvr⟩:=hcell ad rfl j v hv
    rw [hadd] at hy
    simp only [World.cell?,hb] at hy
    exact ⟨y,hy,hvr⟩
   obtain ⟨v1,hl1⟩:=hget (len*k - 1) (by omega)
   obtain ⟨y1,hl2,_⟩:=hcs _ _ hl1
   have hsz:ad.off+c.length≤cs.size:=by
    have:=(Array.getElem?_eq_some_iff.1 hl2).1
    omega
   obtain ⟨g1,g2⟩:=h.add c hb hsz h1 hcs
   refine ⟨_,_,some ⟨H.length,0,none⟩,0,g1,g2,.sl _ _ _ _ _ _ hcap (fun _=>⟨⟨ad.block,ad.off,c.length,c.length⟩,by simp [upd],?_,fun hp=>by omega⟩),.inr ⟨H.length,rfl,fun _=>by simp [hcells]⟩⟩
   obtain ⟨b,off,sp⟩:=ad
   simp only at hsp
   subst hsp; rfl

end Go.Pi.E
namespace Go.Pi.E
open Go Go.Pi Go.Pi.L Go.ChangeShapes Go.WideShapes Go.RowKit
theorem ent_rows {P:Program}{w:World}{φ:Map}{H:Heap}{β:Type}{enc:β→List Value}{k:Nat}(hk:∀x,(enc x).length=k)(k0:0 < k)(h1:∀x,(enc x).all one=true){a:Addr}{len cap:Nat}(hl:len≤cap)(Q:Heap→β→Prop)
  (Qg:∀H H' x,Grow H H'→Q H x→Q H' x) (hE:Ent0 P w φ H)
  (each:∀i,i < len→∀φ H,Ent0 P w φ H→∃φ' H' x,Ent0 P w φ' H'∧Sub φ φ' H H'∧Q H' x∧∀j v,(enc x)[j]?=some v→∃y,w.cell? (a.add (i*k+j))=some y∧VR φ' v y) :
  ∃φ' H' a' m xs,Ent0 P w φ' H'∧Sub φ φ' H H'∧VR φ' (.slice a' len m) (.slice (some a) len cap)∧Sl H' k enc a' len xs∧∀x∈xs,Q H' x:=by
 have step:∀n,n≤len→∃(φ':Map) (H':Heap) (xs:List β),Ent0 P w φ' H'∧Sub φ φ' H H'∧xs.length=n∧(∀x∈xs,Q H' x) ∧
   ∀i x,xs[i]?=some x→∀j v,(enc x)[j]?=some v→∃y,w.cell? (a.add (i*k+j))=some y∧VR φ' v y:=by
  intro n
  induction n with
  | zero=>intro _; exact ⟨φ,H,[],hE,.refl _ _,rfl,fun k hk=>by (cases hk),fun i k hk=>by simp at hk⟩
  | succ n ih =>
   intro hn
   obtain ⟨φ1,H1,xs,e1,s1,l1,r1,t1⟩:=ih (by omega)
   obtain ⟨φ2,H2,x,e2,s2,q2,t2⟩:=each n (by omega) φ1 H1 e1
   refine ⟨φ2,H2,xs++[x],e2,s1.trans s2,by simp [l1],fun y hy=>?_,fun i y hy j v hv=>?_⟩
   ·rcases List.mem_append.1 hy with hy | hy
    ·exact Qg _ _ _ s2.up.grow (r1 y hy)
    ·rw [List.mem_singleton.1 hy]; exact q2
   ·by_cases hi':i < n
    ·rw [List.getElem?_append_left (by omega)] at hy
     obtain ⟨u,a0,a1⟩:=t1 i y hy j v hv
     exact ⟨u,a0,a1.mono s2.map⟩
    ·have hi2:=(List.getElem?_eq_some_iff.1 hy).1
     simp at hi2
     obtain rfl:i=n:=by omega
     rw [List.getElem?_append_right (by omega),l1,Nat.sub_self] at hy
     simp at hy; subst hy
     exact t2 j v hv
 obtain ⟨φ1,H1,xs,e1,s1,l1,r1,t1⟩:=step len (Nat.le_refl _)
 obtain ⟨φ2,H2,a',m',e2,s2,q2,hb⟩:=e1.sliceV (some a) len cap k k0 (cells enc xs) (by rw [cells_len hk,l1]) (fun h=>by cases h) hl (by
  rw [List.all_eq_true]
  intro v hv
  unfold cells at hv
  rw [List.mem_flatten] at hv
  obtain ⟨l,hl,hvl⟩:=hv
  rw [List.mem_map] at hl
  obtain ⟨x,_,rfl⟩:=hl
  exact List.all_eq_true.1 (h1 x) v hvl) (by
  intro ad had j v hv
  cases had
  have hj:j < len*k:=by have:=(List.getElem?_eq_some_iff.1 hv).1; rw [cells_len hk,l1] at this; exact this
  have hjk:j / k < len:=Nat.div_lt_of_lt_mul (by rw [Nat.mul_comm]; exact hj)
  obtain ⟨x,hx⟩:∃x,xs[j / k]?=some x:=⟨_,List.getElem?_eq_getElem (by omega)⟩
  have hg:=cells_get hk hx
  have hjr:j / k*k+j % k=j:=Nat.div_add_mod' j k
  have hv':(enc x)[j % k]?=some v:=by
   rw [←hg,List.getElem?_take_of_lt (Nat.mod_lt _ k0),List.getElem?_drop,hjr]; exact hv
  have:=t1 _ _ hx _ _ hv'
  rw [hjr] at this
  exact this)
 refine ⟨φ2,H2,a',m',xs,e2,s1.trans s2,q2,⟨l1,?_,fun j x hj=>?_⟩,fun x hx=>Qg _ _ _ s2.up.grow (r1 x hx)⟩
 ·rcases hb with ⟨h,_⟩ | ⟨b,h,_⟩
  ·exact .inl h
  ·exact .inr ⟨b,0,h⟩
 ·have hjl:=(List.getElem?_eq_some_iff.1 hj).1
  rcases hb with ⟨_,h⟩ | ⟨b,h,hc⟩
  ·omega
  ·exact ⟨b,0,cells enc xs,h,hc (by omega),by rw [Nat.zero_add]; exact cells_get hk hj⟩
section
variable {HH:Type} {enc:TypeId×Value→HH} {P:Program} {w:World} {sp:Nat→Bool} {held:Bool} {base:Nat}
theorem ent_intsB {φ:Map}{H:Heap}(hE:Ent0 P w φ H){t e:TypeId}(ht:P.underlying t=some (.slice e))(he:P.underlying e=some (.int .i64))(hc:P.cellsOf e=1){fuel:Nat}{v:Value}{x:DataW HH×List MemPlace}
  (h:DataW.trod enc P w base sp held fuel t [v]=some x):∃φ' H' a l m xs,Ent0 P w φ' H'∧Sub φ φ' H H'∧VR φ' (.slice a l m) v∧Sl H' 1 eI a l xs∧l < 9223372036854775808:=by
 obtain ⟨φ',H',a,l,m,xs,g1,g2,g3,g4⟩:=ent_ints hE ht he hc h
 refine ⟨φ',H',a,l,m,xs,g1,g2,g3,g4,?_⟩
 rcases open_ints ht he hc h with ⟨h1,_⟩ | ⟨a',len,cap,zs,h1,_,hl,hm,_⟩
 ·cases h1
  cases g3 <;> first | decide | omega
 ·cases h1
  unfold maxLen at hm
  cases g3 <;> omega
end
end Go.Pi.E
set_option maxRecDepth 100000
namespace Go.Pi.L.Top
open Go Go.Pi Go.Pi.L Go.Pi.Top Go.Proofs

theorem mixed:Tryz.prog.follows .mixedOrders=true:=by kernel_rfl
theorem draws (B:Nat):DrawsOk Tryz.prog B:=drawsOk mixed
theorem primsL_ok (B:Nat):PrimsOk Tryz.prog B primsL:=closed_prims (b:=true) ppok (draws B) Go.Pi.Top.known
end Go.Pi.L.Top
set_option maxRecDepth 100000
namespace Go.Pi.L.Top
open Go Go.Pi Go.Pi.L Go.Pi.E Go.Pi.Top LM Go.Proofs Go.ChangeShapes Go.WideShapes Go.RowKit

theorem z3:Tryz.prog.cellsOf 3=1:=by kernel_rfl
theorem z4:Tryz.prog.cellsOf 4=1:=by kernel_rfl
theorem z22:Tryz.prog.cellsOf 22=1:=by kernel_rfl
theorem z23:Tryz.prog.cellsOf 23=1:=by kernel_rfl
theorem z25:Tryz.prog.cellsOf 25=2:=by kernel_rfl
theorem z26:Tryz.prog.cellsOf 26=1:=by kernel_rfl
theorem z28:Tryz.prog.cellsOf 28=10:=by kernel_rfl
theorem z67:Tryz.prog.cellsOf 67=3:=by kernel_rfl
theorem z125:Tryz.prog.cellsOf 125=4:=by kernel_rfl
theorem VRs1 {φ:Map}{x y:Value}{xs ys:List Value}(h:VR φ x y)(hs:VRs φ xs ys):VRs φ (x :: xs) (y :: ys) :=
 ⟨by simp [hs.1],fun j a b ha hb=>by
  cases j with
  | zero=>simp at ha hb; subst ha; subst hb; exact h
  | succ j=>exact hs.2 j a b (by simpa using ha) (by simpa using hb)⟩
theorem VRs0 (φ:Map):VRs φ [] []:=⟨rfl,fun j a b ha=>by simp at ha⟩
section
variable {HH:Type} {enc:TypeId×Value→HH} {w:World} {sp:Nat→Bool} {held:Bool} {base:Nat}
theorem ent_two {n:Nat}{va vb:Value}{x:DataW HH×List MemPlace}(h:DataW.trod enc Tryz.prog w base sp held n 25 [va,vb]=some x):∃a b:Int,va=.int .i64 a∧vb=.int .i64 b:=by
 obtain ⟨xs,k,_,_,_,hxl,hf⟩:=DataW.trod_struct Tryz.underlying25 h
 match xs,hxl with
 | [y0,y1],_ =>
  have g0:DataW.trod enc Tryz.prog w base sp held k 3 ((([va,vb]:List Value).drop 0).take (Tryz.prog.cellsOf 3))=some y0:=hf 0 _ rfl
  have g1:DataW.trod enc Tryz.prog w base sp held k 3 ((([va,vb]:List Value).drop 1).take (Tryz.prog.cellsOf 3))=some y1:=hf 1 _ rfl
  rw [z3] at g0 g1
  obtain ⟨a,e0,_⟩:=DataW.trod_int Tryz.underlying3 g0
  obtain ⟨b,e1,_⟩:=DataW.trod_int Tryz.underlying3 g1
  exact ⟨a,b,by simpa using e0,by simpa using e1⟩
theorem ent_int1 {n:Nat}{v:Value}{x:DataW HH×List MemPlace}(h:DataW.trod enc Tryz.prog w base sp held n 3 [v]=some x):∃a:Int,v=.int .i64 a:=by
 obtain ⟨a,e0,_⟩:=DataW.trod_int Tryz.underlying3 h
 exact ⟨a,by simpa using e0⟩
theorem ent_pairsL {φ:Map}{H:Heap}(hE:Ent0 Tryz.prog w φ H){n:Nat}{v:Value}{x:DataW HH×List MemPlace}(h:DataW.trod enc Tryz.prog w base sp held n 23 [v]=some x) :
  ∃φ' H' a l m xs,Ent0 Tryz.prog w φ' H'∧Sub φ φ' H H'∧VR φ' (.slice a l m) v∧Sl H' 4 eP a l xs:=by
 rcases Go.Deep.open_slice Tryz.underlying23 h with ⟨h1,_⟩ | ⟨a,len,cap,m,n,D,Pl,h1,_,hl,_,hm,_,hx⟩
 ·cases h1
  exact ⟨φ,H,none,0,0,[],hE,.refl _ _,.sl0,Sl.none⟩
 ·cases h1
  have hlm:len≤m:=by rw [hm]; split <;> omega
  obtain ⟨φ',H',a',m',xs,e1,s1,q1,y1,_⟩:=ent_rows (enc:=eP) eP_len (by decide) (fun x=>rfl) (a:=a) hl (fun _ _=>True) (fun _ _ _ _ _=>trivial) hE (fun i hi φ H hE=>by
   obtain ⟨cs',q1,q2⟩:=hx i (by omega)
   rw [z125] at q1
   obtain ⟨_,hlen,hcell⟩:=World.cells?_some q1
   obtain ⟨xs,k,hk,hxy,_,hxl,hf⟩:=DataW.trod_struct Tryz.underlying125 q2
   match xs,hxl,cs',hlen with
   | [y0,y1,y2],_,[v0,v1,v2,v3],_ =>
    have g0:DataW.trod enc Tryz.prog w base sp held k 3 ((([v0,v1,v2,v3]:List Value).drop 0).take (Tryz.prog.cellsOf 3))=some y0:=hf 0 _ rfl
    have g1:DataW.trod enc Tryz.prog w base sp held k 3 ((([v0,v1,v2,v3]:List Value).drop 1).take (Tryz.prog.cellsOf 3))=some y1:=hf 1 _ rfl
    have g2:DataW.trod enc Tryz.prog w base sp held k 25 ((([v0,v1,v2,v3]:List Value).drop 2).take (Tryz.prog.cellsOf 25))=some y2:=hf 2 _ rfl
    rw [z3] at g0 g1
    rw [z25] at g2
    obtain ⟨b0,rfl⟩:=ent_int1 g0
    obtain ⟨b1,rfl⟩:=ent_int1 g1
    obtain ⟨b2,b3,rfl,rfl⟩:=ent_two g2
    refine ⟨φ,H,⟨b0,b1,b2,b3⟩,hE,.refl _ _,trivial,fun j v hv=>?_⟩
    have hj:j < 4:=by have:=(List.getElem?_eq_some_iff.1 hv).1; rwa [eP_len] at this
    have w0:=hcell j hj
    rw [add_add'] at w0
    rcases (show j=0∨j=1∨j=2∨j=3 by omega) with rfl | rfl | rfl | rfl <;> simp only [eP,List.getElem?_cons_zero,List.getElem?_cons_succ,Option.some.injEq] at hv <;> subst hv <;> exact ⟨_,by simpa [z125] using w0,.int _ _⟩)
  exact ⟨φ',H',a',len,m',xs,e1,s1,q1,y1⟩
theorem ent_words {φ:Map}{H:Heap}(hE:Ent0 Tryz.prog w φ H){n:Nat}{v:Value}{x:DataW HH×List MemPlace}(h:DataW.trod enc Tryz.prog w base sp held n 26 [v]=some x) :
  ∃φ' H' a l m xs,Ent0 Tryz.prog w φ' H'∧Sub φ φ' H H'∧VR φ' (.slice a l m) v∧Sl H' 3 eW a l xs∧∀x∈xs,WAt H' x∧x.sl < 9223372036854775808∧x.cl < 9223372036854775808:=by
 rcases Go.Deep.open_slice Tryz.underlying26 h with ⟨h1,_⟩ | ⟨a,len,cap,m,n,D,Pl,h1,_,hl,_,hm,_,hx⟩
 ·cases h1
  exact ⟨φ,H,none,0,0,[],hE,.refl _ _,.sl0,Sl.none,fun x hx=>by cases hx⟩
 ·cases h1
  have hlm:len≤m:=by rw [hm]; split <;> omega
  obtain ⟨φ',H',a',m',xs,e1,s1,q1,y1,y2⟩:=ent_rows (enc:=eW) eW_len (by decide) (fun x=>rfl) (a:=a) hl (fun H x=>WAt H x∧x.sl < 9223372036854775808∧x.cl < 9223372036854775808) (fun _ _ _ g h=>⟨h.1.grow g,h.2⟩) hE (fun i hi φ H hE=>by
   obtain ⟨cs',q1,q2⟩:=hx i (by omega)
   rw [z67] at q1
   obtain ⟨_,hlen,hcell⟩:=World.cells?_some q1
   obtain ⟨xs,k,hk,hxy,_,hxl,hf⟩:=DataW.trod_struct Tryz.underlying67 q2
   match xs,hxl,cs',hlen with
   | [y0,y1,y2],_,[v0,v1,v2],_ =>
    have g0:DataW.trod enc Tryz.prog w base sp held k 22 ((([v0,v1,v2]:List Value).drop 0).take (Tryz.prog.cellsOf 22))=some y0:=hf 0 _ rfl
    have g1:DataW.trod enc Tryz.prog w base sp held k 22 ((([v0,v1,v2]:List Value).drop 1).take (Tryz.prog.cellsOf 22))=some y1:=hf 1 _ rfl
    have g2:DataW.trod enc Tryz.prog w base sp held k 4 ((([v0,v1,v2]:List Value).drop 2).take (Tryz.prog.cellsOf 4))=some y2:=hf 2 _ rfl
    rw [z22] at g0 g1
    rw [z4] at g2
    obtain ⟨b2,e2,_⟩:=DataW.trod_bool Tryz.underlying4 g2
    obtain rfl:v2=.bool b2:=by simpa using e2
    obtain ⟨φ1,H1,sa,sl,sk,signs,e1,s1,r1,x1,n1⟩:=ent_intsB hE Tryz.underlying22 Tryz.underlying3 z3 g0
    obtain ⟨φ2,H2,ca,cl,ck,cuts,e2,s2,r2,x2,n2⟩:=ent_intsB e1 Tryz.underlying22 Tryz.underlying3 z3 g1
    refine ⟨φ2,H2,⟨sa,sl,sk,ca,cl,ck,⟨signs,cuts,b2⟩⟩,e2,s1.trans s2,⟨⟨x1.grow s2.up.grow,x2⟩,n1,n2⟩,fun j v hv=>?_⟩
    have hj:j < 3:=by have:=(List.getElem?_eq_some_iff.1 hv).1; rwa [eW_len] at this
    have w0:=hcell j hj
    rw [add_add'] at w0
    rcases (show j=0∨j=1∨j=2 by omega) with rfl | rfl | rfl <;> simp only [eW,List.getElem?_cons_zero,List.getElem?_cons_succ,Option.some.injEq] at hv <;> subst hv
    ·exact ⟨_,by simpa [z67] using w0,r1.mono s2.map⟩
    ·exact ⟨_,by simpa [z67] using w0,r2⟩
    ·exact ⟨_,by simpa [z67] using w0,.bool _⟩)
  exact ⟨φ',H',a',len,m',xs,e1,s1,q1,y1,y2⟩
end
end Go.Pi.L.Top
