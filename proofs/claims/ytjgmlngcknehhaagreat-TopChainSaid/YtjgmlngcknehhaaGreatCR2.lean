/- The law TopChain of the package mahlsticktop holds: whatever lists of numbers it is called with, the call returns true, and the lists read as they did before it. Conditions: none. -/
import Derived.ProofKit
import Derived.Test.YtjgmlngcknehhaaGreatUS
import Derived.Test.YtjgmlngcknehhaaGreatVK
import Derived.Test.YtjgmlngcknehhaaGreatEE
import Derived.Test.YtjgmlngcknehhaaGreatRows
set_option linter.all false
set_option maxRecDepth 100000
namespace Go.Proofs.YtjgmlngcknehhaaGreat
open Go Go.ChangeShapes Go.WideShapes Go.ChangeAt Go.RowKit Go.Pi Go.Pi.E Go.Pi.L Go.Pi.L.Ch

theorem own:ownKnob Tryz.prog.godebug=none:=by kernel_rfl
theorem zc3:Tryz.prog.cellsOf 3=1:=by kernel_rfl
theorem zc22:Tryz.prog.cellsOf 22=1:=by kernel_rfl
section
variable {HH:Type} {enc:TypeId×Value→HH} {w:World} {sp:Nat→Bool} {held:Bool} {base:Nat}
theorem ent_lists {φ:Map}{H:Heap}(hE:Ent0 Tryz.prog w φ H){n:Nat}{v:Value}{x:DataW HH×List MemPlace}(h:DataW.trod enc Tryz.prog w base sp held n 50 [v]=some x) :
  ∃φ' H' a l m rs,Ent0 Tryz.prog w φ' H'∧E.Sub φ φ' H H'∧VR φ' (.slice a l m) v∧Sl H' 1 eNd a l rs∧∀r∈rs,Ints H' r.a r.l r.xs:=by
 rcases Go.Deep.open_slice Tryz.underlying50 h with ⟨h1,_⟩ | ⟨a,len,cap,m,n,D,Pl,h1,_,hl,_,hm,_,hx⟩
 ·cases h1
  exact ⟨φ,H,none,0,0,[],hE,.refl _ _,.sl0,Sl.none,fun x hx=>by cases hx⟩
 ·cases h1
  have hlm:len≤m:=by rw [hm]; split <;> omega
  obtain ⟨φ',H',a',m',xs,e1,s1,q1,y1,y2⟩:=ent_rows (enc:=eNd) eNd_len (by decide) (fun x=>rfl) (a:=a) hl (fun H r=>Ints H r.a r.l r.xs) (fun _ _ _ g h=>h.grow g) hE (fun i hi φ H hE=>by
   obtain ⟨cs',q1,q2⟩:=hx i (by omega)
   rw [zc22] at q1
   obtain ⟨_,hlen,hcell⟩:=World.cells?_some q1
   match cs',hlen with
   | [v0],_ =>
    obtain ⟨φ1,H1,sa,sl,sk,zs,e1,s1,r1,x1⟩:=ent_ints hE Tryz.underlying22 Tryz.underlying3 zc3 q2
    refine ⟨φ1,H1,⟨sa,sl,sk,zs⟩,e1,s1,x1,fun j v hv=>?_⟩
    have hj:j < 1:=by have:=(List.getElem?_eq_some_iff.1 hv).1; rwa [eNd_len] at this
    have w0:=hcell j hj
    rw [add_add'] at w0
    obtain rfl:j=0:=by omega
    simp only [eNd,List.getElem?_cons_zero,Option.some.injEq] at hv
    subst hv
    exact ⟨_,by simpa [zc22] using w0,r1⟩)
  exact ⟨φ',H',a',len,m',xs,e1,s1,q1,y1,y2⟩
end

theorem lifted4 (os:Os)(started:os.Started)(H:Type)(enc:TypeId×Value→H) :
  ReturnsInHanded {} Tryz.checked os 4 .any (Rows.topChainSpec.pre6 enc Tryz.prog Tryz.f4 Rows.topChainRow.domain false) (Rows.topChainSpec.post enc Tryz.prog Tryz.f4 false true false false):=by
 refine returnsInHanded_of_change (C:=Tryz.checked) own started (by kernel_rfl) Tryz.func4
  (ChangeSpec.witness6 (enc:=enc) (C:=Tryz.checked) false ⟨#[],#[.slice none 0 0],[]⟩ 8 (by kernel_rfl) (by kernel_rfl) (by kernel_rfl) (by kernel_rfl)) ?_
 intro W base args ds gs before hval0 hW hcnd _
 have hval:∀(j:Nat) t v,Tryz.f4.params[j]?=some t→args[j]?=some v→Value.okWide Tryz.prog W .any base t v:=hval0
 have hW':=hW
 obtain ⟨p,q,hA0,hV,rfl,hfz,hnd⟩:=hW
 have hA:DataW.TrodAll enc Tryz.prog W 0 (fun _=>true) true Tryz.f4.params.toList args.toList ds p:=hA0
 rw [Tryz.params4] at hA hval
 obtain ⟨args⟩:=args
 obtain ⟨v0,vs0,d0,ds0,p0,q0,e0,rfl,rfl,h0,hA⟩:=trodAll_cons hA
 obtain ⟨rfl,rfl,rfl⟩:=trodAll_nil hA
 obtain rfl:args=[v0]:=e0
 obtain ⟨aa,al,ac,rfl⟩:=okWide_slice Tryz.underlying50 (hval 0 50 v0 rfl rfl)
 obtain ⟨fuel,h0⟩:=h0
 obtain ⟨φ0,H0,a,l,m,rs,n0,u0,w0,x0,x1⟩:=ent_lists (Ent0.nil Tryz.prog W (noTab _ W)) h0
 have hr:=c4 m x0 x1 n0.emb.fam
 have hv:VRs φ0 [.slice a l m] [.slice aa al ac]:=vrs_mk w0
 refine (law_calls Go.Pi.Top.ppok (primsL_ok _) (draws _) n0 hr hv).mono fun e W' ⟨he,hm⟩=>?_
 subst he
 exact ⟨_,rfl,post_true (by rw [Tryz.params4]; exact fun t ht=>List.all_eq_true.1 (show (([50]:List TypeId).all fun t=>plainT Tryz.prog 9 t)=true by kernel_rfl) t ht) Tryz.underlying4 (by kernel_rfl) rfl hW' rfl hm⟩
end Go.Proofs.YtjgmlngcknehhaaGreat
