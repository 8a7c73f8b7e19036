/- The row of CoatReads. -/
import Derived.Test.YtjidjpcnocddeaaGreatDoorCR20
import Derived.Test.YtjidjpcnocddeaaGreatDoorJA20
import Derived.Test.YtjidjpcnocddeaaGreatDoorJB20
import Derived.Test.YtjidjpcnocddeaaGreatDoorJC20
import Derived.Test.YtjidjpcnocddeaaGreatDoorJD20
import Derived.Test.YtjidjpcnocddeaaGreatDoorJE20
import Derived.Test.YtjidjpcnocddeaaGreatDoorHA
import Derived.Test.YtjidjpcnocddeaaGreatDoorHC20
set_option linter.all false
set_option maxRecDepth 100000
namespace Go.Proofs.YtjidjpcnocddeaaGreatDoor
open Go Go.ChangeShapes Go.WideShapes Go.ChangeAt Go.RowKit Go.Pi Go.Pi.E Go.Pi.L Go.Pi.L.Coa
theorem and_i {a b:Bool}(ha:a=true)(hb:b=true):(a&&b)=true:=by rw [ha,hb]; rfl
theorem closed20:joinedFacts Tryz.prog 20 Tryz.f20 Rows.coatReadsSpec Rows.coatReadsRow=true :=
 and_i (and_i (and_i (and_i (and_i (and_i (and_i (and_i (and_i (and_i (and_i (and_i (and_i (and_i (and_i (and_i (and_i (and_i (and_i (and_i (and_i (and_i (and_i (and_i (and_i (and_i (and_i (and_i (and_i (and_i (and_i jf20x0 jf20x1) jf20x2) jf20x3) jf20x4) jf20x5) jf20x6) jf20x7) jf20x8) jf20x9) jf20x10) jf20x11) jf20x12) jf20x13) jf20x14) jf20x15) jf20x16) jf20x17) jf20x18) jf20x19) jf20x20) jf20x21) jf20x22) jf20x23) jf20x24) jf20x25) jf20x26) jf20x27) jf20x28) jf20x29) jf20x30) jf20x31
theorem named20:Tryz.prog.funcNamed "mahlstick/mahlsticklaw03.CoatReads" = some 20:=by kernel_rfl
theorem coatReads_holds:Rows.CoatReadsSaid :=
 OpenClaim.holds_of_wide 20 Tryz.f20 rfl rfl rfl rfl rfl rfl rfl ⟨rfl,rfl,rfl,rfl,rfl⟩ rfl rfl rfl rfl rfl named20 Tryz.func20 closed20
  (of_decide_eq_true (by kernel_rfl)) (by unfold Func.isWrapper; first | (rw [if_pos (by decide +kernel)]; kernel_rfl) | (rw [if_neg (by decide +kernel)]; exact ⟨rfl,rfl⟩))
  (fun os started H enc _=>lifted20 os started H enc)
end Go.Proofs.YtjidjpcnocddeaaGreatDoor
set_option maxRecDepth 100000
namespace Go.Proofs.YtjidjpcnocddeaaGreatDoor
open Go Go.ChangeShapes Go.WideShapes Go.ChangeAt Go.RowKit Go.Pi Go.Pi.E Go.Pi.L Go.Pi.L.Coa
theorem coatReads_card:Rows.CoatReadsCardSaid :=
 Claim7.holds_tied_plain_at .later [] [.data,.data,.data,.data,.pinned] true (true, "e18d2fa59430c9db63e27f5ab18d1051f1b0a0240b18512bd17279043dffdeaf") true
  coatReads_holds (fun _ h=>by cases h) kWf20 (fun _ h=>by cases h) coatReads_row_tie rfl ⟨rfl,rfl⟩ kMain rfl
  (fun f fn hf hfn=>by
   obtain rfl:f=20:=Option.some.inj (named20.symm.trans hf) |>.symm
   obtain rfl:fn=Tryz.f20:=(Option.some.inj (Tryz.func20.symm.trans hfn)).symm
   exact ⟨kLooks,fun j t ht=>by
    rw [Tryz.params20] at ht
    have hm:t∈[9]:=by simpa using Array.mem_of_getElem? ht
    have hall:([9].all fun u=>!Tryz.prog.wantsStandIn u)=true:=by kernel_rfl
    exact (show Tryz.prog.wantsStandIn t=false by simpa using List.all_eq_true.1 hall t hm)⟩)
  kGoes20
end Go.Proofs.YtjidjpcnocddeaaGreatDoor
