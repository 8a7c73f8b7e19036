/- The law TopLetters of the package mahlsticktop holds: whatever its three arguments are, the call returns true, and the arguments read as they did before it. Conditions: none. -/
import Derived.ProofKit
import Derived.Test.YtjgmlngcknehhaaGreatEE
import Derived.Test.YtjgmlngcknehhaaGreatTK
import Derived.Test.YtjgmlngcknehhaaGreatRows
set_option linter.all false
set_option maxRecDepth 100000
namespace Go.Proofs.YtjgmlngcknehhaaGreat
open Go Go.ChangeShapes Go.WideShapes Go.ChangeAt Go.RowKit Go.Pi Go.Pi.E Go.Pi.L Go.Pi.L.Top LM

theorem own:ownKnob Tryz.prog.godebug=none:=by kernel_rfl
theorem noTab (N:Nat)(W:World):TabOk Tryz.prog N W:=by
 intro g hg
 have h:Tryz.prog.globalNamed "internal/strconv.uint64pow10" = none:=by kernel_rfl
 rw [h] at hg
 cases hg
section
variable {HH:Type} {enc:TypeId×Value→HH} {w:World} {sp:Nat→Bool} {held:Bool} {base:Nat}
theorem ent_sheet {φ:Map}{H:Heap}(hE:Ent0 Tryz.prog w φ H){v:Value}{d:DataW HH}{p:List MemPlace}{r:Reach}{b0:Nat}(hok:Value.okWide Tryz.prog w r b0 28 v)(h:DataW.Trod enc Tryz.prog w base sp held 28 v d p) :
  ∃φ' H' r s,Ent0 Tryz.prog w φ' H'∧Sub φ φ' H H'∧VR φ' (.agg #[.slice r.wa r.wl r.wk,.slice r.pa r.pl r.pk,.int .i64 s.other.1,.int .i64 s.other.2,.int .i64 s.gap.1,.int .i64 s.gap.2,.int .i64 s.hyphen,.slice r.na r.nl r.nk,.int .i64 s.wide,.int .i64 s.rows]) v ∧
   LeOk H' r s∧(∀x∈r.xs,x.sl < 9223372036854775808)∧∀x∈r.xs,x.cl < 9223372036854775808:=by
 obtain ⟨cs,rfl,hcs⟩:=okWide_struct Tryz.underlying28 hok
 rw [z28] at hcs
 obtain ⟨fuel,h⟩:=h
 obtain ⟨xs,n,_,_,_,hxl,hf⟩:=DataW.trod_struct Tryz.underlying28 h
 obtain ⟨cs⟩:=cs
 match cs,hcs with
 | [v0,v1,v2,v3,v4,v5,v6,v7,v8,v9],_ =>
  match xs,hxl with
  | [x0,x1,x2,x3,x4,x5,x6,x7],_ =>
   have g0:DataW.trod enc Tryz.prog w base sp held n 22 ((([v0,v1,v2,v3,v4,v5,v6,v7,v8,v9]:List Value).drop 0).take (Tryz.prog.cellsOf 22))=some x0:=hf 0 _ rfl
   have g1:DataW.trod enc Tryz.prog w base sp held n 23 ((([v0,v1,v2,v3,v4,v5,v6,v7,v8,v9]:List Value).drop 1).take (Tryz.prog.cellsOf 23))=some x1:=hf 1 _ rfl
   have g2:DataW.trod enc Tryz.prog w base sp held n 25 ((([v0,v1,v2,v3,v4,v5,v6,v7,v8,v9]:List Value).drop 2).take (Tryz.prog.cellsOf 25))=some x2:=hf 2 _ rfl
   have g3:DataW.trod enc Tryz.prog w base sp held n 25 ((([v0,v1,v2,v3,v4,v5,v6,v7,v8,v9]:List Value).drop 4).take (Tryz.prog.cellsOf 25))=some x3:=hf 3 _ rfl
   have g4:DataW.trod enc Tryz.prog w base sp held n 3 ((([v0,v1,v2,v3,v4,v5,v6,v7,v8,v9]:List Value).drop 6).take (Tryz.prog.cellsOf 3))=some x4:=hf 4 _ rfl
   have g5:DataW.trod enc Tryz.prog w base sp held n 26 ((([v0,v1,v2,v3,v4,v5,v6,v7,v8,v9]:List Value).drop 7).take (Tryz.prog.cellsOf 26))=some x5:=hf 5 _ rfl
   have g6:DataW.trod enc Tryz.prog w base sp held n 3 ((([v0,v1,v2,v3,v4,v5,v6,v7,v8,v9]:List Value).drop 8).take (Tryz.prog.cellsOf 3))=some x6:=hf 6 _ rfl
   have g7:DataW.trod enc Tryz.prog w base sp held n 3 ((([v0,v1,v2,v3,v4,v5,v6,v7,v8,v9]:List Value).drop 9).take (Tryz.prog.cellsOf 3))=some x7:=hf 7 _ rfl
   rw [z22] at g0
   rw [z23] at g1
   rw [z25] at g2 g3
   rw [z3] at g4 g6 g7
   rw [z26] at g5
   obtain ⟨o1,o2,rfl,rfl⟩:=ent_two g2
   obtain ⟨a1,a2,rfl,rfl⟩:=ent_two g3
   obtain ⟨hy,rfl⟩:=ent_int1 g4
   obtain ⟨wd,rfl⟩:=ent_int1 g6
   obtain ⟨rw_,rfl⟩:=ent_int1 g7
   obtain ⟨φ1,H1,wa,wl,wk,widths,e1,s1,q1,y1⟩:=ent_ints hE Tryz.underlying22 Tryz.underlying3 z3 g0
   obtain ⟨φ2,H2,pa,pl,pk,pairs,e2,s2,q2,y2⟩:=ent_pairsL e1 g1
   obtain ⟨φ3,H3,na,nl,nk,ks,e3,s3,q3,y3,y4⟩:=ent_words e2 g5
   refine ⟨φ3,H3,⟨wa,wl,wk,pa,pl,pk,na,nl,nk,ks⟩,⟨widths,pairs,(o1,o2),(a1,a2),hy,ks.map (·.w),wd,rw_⟩,e3,(s1.trans s2).trans s3,?_,⟨y1.grow (s2.trans s3).up.grow,y2.grow s3.up.grow,y3,fun x hx=>(y4 x hx).1,rfl⟩,fun x hx=>(y4 x hx).2.1,fun x hx=>(y4 x hx).2.2⟩
   exact VR.agg_l (VRs1 (q1.mono (s2.trans s3).map) (VRs1 (q2.mono s3.map) (VRs1 (.int _ _) (VRs1 (.int _ _) (VRs1 (.int _ _) (VRs1 (.int _ _) (VRs1 (.int _ _) (VRs1 q3 (VRs1 (.int _ _) (VRs1 (.int _ _) (VRs0 _)))))))))))
end

theorem lifted3 (os:Os)(started:os.Started)(H:Type)(enc:TypeId×Value→H) :
  ReturnsInHanded {} Tryz.checked os 3 .any (Rows.topLettersSpec.pre6 enc Tryz.prog Tryz.f3 Rows.topLettersRow.domain false) (Rows.topLettersSpec.post enc Tryz.prog Tryz.f3 false true false false):=by
 refine returnsInHanded_of_change (C:=Tryz.checked) own started (by kernel_rfl) Tryz.func3
  (ChangeSpec.witness6 (enc:=enc) (C:=Tryz.checked) false ⟨#[],#[.agg #[.slice none 0 0,.slice none 0 0,.int .i64 0,.int .i64 0,.int .i64 0,.int .i64 0,.int .i64 0,.slice none 0 0,.int .i64 0,.int .i64 0],.int .i64 0,.int .i64 0],[]⟩ 8 (by kernel_rfl) (by kernel_rfl) (by kernel_rfl) (by kernel_rfl)) ?_
 intro W base args ds gs before hval0 hW hcnd _
 have hval:∀(j:Nat) t v,Tryz.f3.params[j]?=some t→args[j]?=some v→Value.okWide Tryz.prog W .any base t v:=hval0
 have hW':=hW
 obtain ⟨p,q,hA0,hV,rfl,hfz,hnd⟩:=hW
 have hA:DataW.TrodAll enc Tryz.prog W 0 (fun _=>true) true Tryz.f3.params.toList args.toList ds p:=hA0
 rw [Tryz.params3] at hA hval
 obtain ⟨args⟩:=args
 obtain ⟨v0,vs0,d0,ds0,p0,q0,e0,rfl,rfl,h0,hA⟩:=trodAll_cons hA
 obtain ⟨v1,vs1,d1,ds1,p1,q1,rfl,rfl,rfl,h1,hA⟩:=trodAll_cons hA
 obtain ⟨v2,vs2,d2,ds2,p2,q2,rfl,rfl,rfl,h2,hA⟩:=trodAll_cons hA
 obtain ⟨rfl,rfl,rfl⟩:=trodAll_nil hA
 obtain rfl:args=[v0,v1,v2]:=e0
 obtain ⟨i1,rfl⟩:=okWide_int Tryz.underlying3 (hval 1 3 v1 rfl rfl)
 obtain ⟨i2,rfl⟩:=okWide_int Tryz.underlying29 (hval 2 29 v2 rfl rfl)
 obtain ⟨φ0,H0,r0,s0,n0,u0,w0,x0,x1,x2⟩:=ent_sheet (Ent0.nil Tryz.prog W (noTab _ W)) (hval 0 28 v0 rfl rfl) h0
 obtain ⟨_,hr,rfl⟩:=c3 x0 x1 x2 i1 i2 n0.emb.fam
 have hv:=VRs1 w0 (VRs1 (VR.int .i64 i1) (VRs1 (VR.int .i64 i2) (VRs0 φ0)))
 refine (law_calls Go.Pi.Top.ppok (primsL_ok _) (draws _) n0 hr hv).mono fun e W' ⟨he,hm⟩=>?_
 subst he
 exact ⟨_,rfl,post_true (by rw [Tryz.params3]; exact fun t ht=>List.all_eq_true.1 (show (([28,3,29]:List TypeId).all fun t=>plainT Tryz.prog 9 t)=true by kernel_rfl) t ht) Tryz.underlying4 (by kernel_rfl) rfl hW' rfl hm⟩
end Go.Proofs.YtjgmlngcknehhaaGreat
