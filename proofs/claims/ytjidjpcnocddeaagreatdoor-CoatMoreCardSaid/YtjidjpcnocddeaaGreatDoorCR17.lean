/- A span, as it is laid. -/
import Derived.Test.YtjidjpcnocddeaaGreatDoorEE
import Derived.Test.YtjidjpcnocddeaaGreatDoorDJ
set_option linter.all false
set_option maxRecDepth 100000
namespace Go.Pi.L.Coa
open Go Go.Pi Go.Pi.L Go.Pi.E Go.Pi.Coa CM Go.Proofs Go.ChangeShapes Go.WideShapes Go.RowKit
theorem ent_span {HH:Type}{enc:TypeId×Value→HH}{w:World}{sp:Nat→Bool}{held:Bool}{base:Nat}{v:Value}{d:DataW HH}{p:List MemPlace}{r:Reach}{b0:Nat}(hok:Value.okWide Tryz.prog w r b0 75 v)(h:DataW.Trod enc Tryz.prog w base sp held 75 v d p) :
  ∃a b:Int,v=.agg #[.int .i64 a,.int .i64 b]:=by
 obtain ⟨cs,rfl,hcs⟩:=okWide_struct Tryz.underlying75 hok
 rw [z75] at hcs
 obtain ⟨fuel,h⟩:=h
 obtain ⟨xs,n,_,_,_,hxl,hf⟩:=DataW.trod_struct Tryz.underlying75 h
 obtain ⟨cs⟩:=cs
 match cs,hcs with
 | [v0,v1],_ =>
  have g0:DataW.trod enc Tryz.prog w base sp held n 3 ((([v0,v1]:List Value).drop 0).take (Tryz.prog.cellsOf 3))=xs[0]?:=hf 0 _ rfl
  have g1:DataW.trod enc Tryz.prog w base sp held n 3 ((([v0,v1]:List Value).drop 1).take (Tryz.prog.cellsOf 3))=xs[1]?:=hf 1 _ rfl
  rw [z3] at g0 g1
  match xs,hxl with
  | [x0,x1],_ =>
   replace g0:DataW.trod enc Tryz.prog w base sp held n 3 [v0]=some x0:=g0
   replace g1:DataW.trod enc Tryz.prog w base sp held n 3 [v1]=some x1:=g1
   obtain ⟨n0,e0,_⟩:=DataW.trod_int Tryz.underlying3 g0
   obtain ⟨n1,e1,_⟩:=DataW.trod_int Tryz.underlying3 g1
   cases e0; cases e1
   exact ⟨n0,n1,rfl⟩
end Go.Pi.L.Coa
set_option maxRecDepth 100000
namespace Go.Proofs.YtjidjpcnocddeaaGreatDoor
open Go Go.ChangeShapes Go.WideShapes Go.ChangeAt Go.RowKit Go.Pi Go.Pi.E Go.Pi.L Go.Pi.L.Coa

theorem lifted17 (os:Os)(started:os.Started)(H:Type)(enc:TypeId×Value→H) :
  ReturnsInHanded {} Tryz.checked os 17 .any (fun w args=>(Rows.coatMoreSpec.pre enc Tryz.prog Tryz.f17 [] false w args∧laidMetH Tryz.prog laidAll w)∧sizedMet enc Tryz.prog Tryz.f17 (OpenSpec.ofChange Rows.coatMoreSpec) false w args)
   (Rows.coatMoreSpec.post enc Tryz.prog Tryz.f17 false true false false):=by
 refine returnsInHanded_of_change_and (C:=Tryz.checked) (X:=fun w _=>laidMetH Tryz.prog laidAll w) (fun _ _ _ hh h=>h.of_heap hh) own started (by kernel_rfl) Tryz.func17
  (ChangeSpec.witness_shaped (enc:=enc) (C:=Tryz.checked) (os:=os) (X:=fun w _=>laidMetH Tryz.prog laidAll w) false (World.laidAll Tryz.prog os laidAll) #[.agg #[.slice none 0 0,.slice none 0 0,.slice none 0 0],.slice none 0 0,.int .i64 0,.agg #[.int .i64 0,.int .i64 0],.int .i64 0,.int .i64 0,.int .i64 0] 8 (World.laidAll_os _ _ _)
   (World.shaped_of_ZipB (by kernel_rfl) (by kernel_rfl)) (by kernel_rfl) (by kernel_rfl) (by kernel_rfl) (laid_met os _)) ?_
 intro W base args ds gs before hval0 hW _ _ hL _
 have hval:∀(j:Nat) t v,Tryz.f17.params[j]?=some t→args[j]?=some v→Value.okWide Tryz.prog W .any base t v:=hval0
 have hW':=hW
 obtain ⟨p,q,hA0,hV,rfl,hfz,hnd⟩:=hW
 have hA:DataW.TrodAll enc Tryz.prog W 0 (fun _=>true) true Tryz.f17.params.toList args.toList ds p:=hA0
 rw [Tryz.params17] at hA hval
 obtain ⟨args⟩:=args
 obtain ⟨v0,vs0,d0,ds0,p0,q0,e0,rfl,rfl,h0,hA⟩:=trodAll_cons hA
 obtain ⟨v1,vs1,d1,ds1,p1,q1,rfl,rfl,rfl,h1,hA⟩:=trodAll_cons hA
 obtain ⟨v2,vs2,d2,ds2,p2,q2,rfl,rfl,rfl,h2,hA⟩:=trodAll_cons hA
 obtain ⟨v3,vs3,d3,ds3,p3,q3,rfl,rfl,rfl,h3,hA⟩:=trodAll_cons hA
 obtain ⟨v4,vs4,d4,ds4,p4,q4,rfl,rfl,rfl,h4,hA⟩:=trodAll_cons hA
 obtain ⟨v5,vs5,d5,ds5,p5,q5,rfl,rfl,rfl,h5,hA⟩:=trodAll_cons hA
 obtain ⟨v6,vs6,d6,ds6,p6,q6,rfl,rfl,rfl,h6,hA⟩:=trodAll_cons hA
 obtain ⟨rfl,rfl,rfl⟩:=trodAll_nil hA
 obtain rfl:args=[v0,v1,v2,v3,v4,v5,v6]:=e0
 obtain ⟨φ0,H0,r0,s0,n0,u0,w0,x0⟩:=ent_sheet (Ent0.nil Tryz.prog W) (hval 0 26 v0 rfl rfl) h0
 obtain ⟨φ1,H1,a1,l1,m1,xs1,n1,u1,w1,x1⟩:=ent_list n0 (hval 1 23 v1 rfl rfl) h1
 obtain ⟨i2,rfl⟩:=okWide_int Tryz.underlying3 (hval 2 3 v2 rfl rfl)
 obtain ⟨i3,j3,rfl⟩:=ent_span (hval 3 75 v3 rfl rfl) h3
 obtain ⟨i4,rfl⟩:=okWide_int Tryz.underlying3 (hval 4 3 v4 rfl rfl)
 obtain ⟨i5,rfl⟩:=okWide_int Tryz.underlying3 (hval 5 3 v5 rfl rfl)
 obtain ⟨i6,rfl⟩:=okWide_int Tryz.underlying3 (hval 6 3 v6 rfl rfl)
 have hr:=c17 (pk:=m1) (day:=i2) (lo:=i3) (hi:=j3) (work:=i4) (n:=i5) (k:=i6) (x0.grow u1.up.grow) x1 n1.emb.fam
 have hv:=(VRs1 (w0.mono u1.map) (VRs1 w1 (VRs1 (VR.int .i64 i2) (VRs1 (VR.agg_l (VRs1 (VR.int .i64 i3) (VRs1 (VR.int .i64 j3) (VRs0 _)))) (VRs1 (VR.int .i64 i4) (VRs1 (VR.int .i64 i5) (VRs1 (VR.int .i64 i6) (VRs0 φ1))))))))
 refine (law_calls Go.Pi.Coa.ppok (primsL_ok _) (draws _) n1 hr hv).mono fun e W' ⟨he,hm⟩=>?_
 subst he
 exact ⟨_,rfl,post_true (by rw [Tryz.params17]; exact fun t ht=>List.all_eq_true.1 (show (([26,23,3,75,3,3,3]:List TypeId).all fun t=>plainT Tryz.prog 9 t)=true by kernel_rfl) t ht) Tryz.underlying4 (by kernel_rfl) rfl hW' rfl hm⟩

end Go.Proofs.YtjidjpcnocddeaaGreatDoor
