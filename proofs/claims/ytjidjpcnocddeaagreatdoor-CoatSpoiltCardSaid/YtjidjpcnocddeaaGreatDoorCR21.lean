/- The law CoatSpoilt of the package mahlsticklaw03 holds: whatever its arguments are, the call returns true, and the arguments read as they did before it. Conditions: the listed tables of the library read as the program lays them (tied). -/
import Derived.Test.YtjidjpcnocddeaaGreatDoorEE
import Derived.Test.YtjidjpcnocddeaaGreatDoorDG
set_option linter.all false
set_option maxRecDepth 100000
namespace Go.Proofs.YtjidjpcnocddeaaGreatDoor
open Go Go.ChangeShapes Go.WideShapes Go.ChangeAt Go.RowKit Go.Pi Go.Pi.E Go.Pi.L Go.Pi.L.Coa

theorem lifted21 (os:Os)(started:os.Started)(H:Type)(enc:TypeId×Value→H) :
  ReturnsInHanded {} Tryz.checked os 21 .any (fun w args=>(Rows.coatSpoiltSpec.pre enc Tryz.prog Tryz.f21 [] false w args∧laidMetH Tryz.prog laidAll w)∧sizedMet enc Tryz.prog Tryz.f21 (OpenSpec.ofChange Rows.coatSpoiltSpec) false w args)
   (Rows.coatSpoiltSpec.post enc Tryz.prog Tryz.f21 false true false false):=by
 refine returnsInHanded_of_change_and (C:=Tryz.checked) (X:=fun w _=>laidMetH Tryz.prog laidAll w) (fun _ _ _ hh h=>h.of_heap hh) own started (by kernel_rfl) Tryz.func21
  (ChangeSpec.witness_shaped (enc:=enc) (C:=Tryz.checked) (os:=os) (X:=fun w _=>laidMetH Tryz.prog laidAll w) false (World.laidAll Tryz.prog os laidAll) #[.agg #[.slice none 0 0,.slice none 0 0,.slice none 0 0],.int .i64 0,.int .i64 0] 8 (World.laidAll_os _ _ _)
   (World.shaped_of_ZipB (by kernel_rfl) (by kernel_rfl)) (by kernel_rfl) (by kernel_rfl) (by kernel_rfl) (laid_met os _)) ?_
 intro W base args ds gs before hval0 hW _ _ hL _
 have hval:∀(j:Nat) t v,Tryz.f21.params[j]?=some t→args[j]?=some v→Value.okWide Tryz.prog W .any base t v:=hval0
 have hW':=hW
 obtain ⟨p,q,hA0,hV,rfl,hfz,hnd⟩:=hW
 have hA:DataW.TrodAll enc Tryz.prog W 0 (fun _=>true) true Tryz.f21.params.toList args.toList ds p:=hA0
 rw [Tryz.params21] at hA hval
 obtain ⟨args⟩:=args
 obtain ⟨v0,vs0,d0,ds0,p0,q0,e0,rfl,rfl,h0,hA⟩:=trodAll_cons hA
 obtain ⟨v1,vs1,d1,ds1,p1,q1,rfl,rfl,rfl,h1,hA⟩:=trodAll_cons hA
 obtain ⟨v2,vs2,d2,ds2,p2,q2,rfl,rfl,rfl,h2,hA⟩:=trodAll_cons hA
 obtain ⟨rfl,rfl,rfl⟩:=trodAll_nil hA
 obtain rfl:args=[v0,v1,v2]:=e0
 obtain ⟨φ0,H0,r0,s0,n0,u0,w0,x0⟩:=ent_sheet (Ent0.nil Tryz.prog W (Q.ok_of_tab gTab (tab_of hL))) (hval 0 26 v0 rfl rfl) h0
 obtain ⟨i1,rfl⟩:=okWide_int Tryz.underlying3 (hval 1 3 v1 rfl rfl)
 obtain ⟨i2,rfl⟩:=okWide_int Tryz.underlying3 (hval 2 3 v2 rfl rfl)
 have hr:=c21 (at_:=i1) (dg:=i2) x0 n0.emb.fam
 have hv:=(VRs1 w0 (VRs1 (VR.int .i64 i1) (VRs1 (VR.int .i64 i2) (VRs0 φ0))))
 refine (law_calls Go.Pi.Coa.ppok (primsL_ok gTab (tab_lt hL)) (draws _) n0 hr hv).mono fun e W' ⟨he,hm⟩=>?_
 subst he
 exact ⟨_,rfl,post_true (by rw [Tryz.params21]; exact fun t ht=>List.all_eq_true.1 (show (([26,3,3]:List TypeId).all fun t=>plainT Tryz.prog 9 t)=true by kernel_rfl) t ht) Tryz.underlying4 (by kernel_rfl) rfl hW' rfl hm⟩

end Go.Proofs.YtjidjpcnocddeaaGreatDoor
