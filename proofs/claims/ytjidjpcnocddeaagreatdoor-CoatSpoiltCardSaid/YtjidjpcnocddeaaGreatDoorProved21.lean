/- The row of CoatSpoilt. -/
import Derived.Test.YtjidjpcnocddeaaGreatDoorCR21
import Derived.Test.YtjidjpcnocddeaaGreatDoorJA21
import Derived.Test.YtjidjpcnocddeaaGreatDoorJB21
import Derived.Test.YtjidjpcnocddeaaGreatDoorJC21
import Derived.Test.YtjidjpcnocddeaaGreatDoorJD21
import Derived.Test.YtjidjpcnocddeaaGreatDoorJE21
import Derived.Test.YtjidjpcnocddeaaGreatDoorHA
import Derived.Test.YtjidjpcnocddeaaGreatDoorHC21
set_option linter.all false
set_option maxRecDepth 100000
namespace Go.Proofs.YtjidjpcnocddeaaGreatDoor
open Go Go.ChangeShapes Go.WideShapes Go.ChangeAt Go.RowKit Go.Pi Go.Pi.E Go.Pi.L Go.Pi.L.Coa
theorem and_i {a b:Bool}(ha:a=true)(hb:b=true):(a&&b)=true:=by rw [ha,hb]; rfl
theorem closed21:joinedFacts Tryz.prog 21 Tryz.f21 Rows.coatSpoiltSpec Rows.coatSpoiltRow=true :=
 and_i (and_i (and_i (and_i (and_i (and_i (and_i (and_i (and_i (and_i (and_i (and_i (and_i (and_i (and_i (and_i (and_i (and_i (and_i (and_i (and_i (and_i (and_i (and_i (and_i (and_i (and_i (and_i (and_i (and_i (and_i jf21x0 jf21x1) jf21x2) jf21x3) jf21x4) jf21x5) jf21x6) jf21x7) jf21x8) jf21x9) jf21x10) jf21x11) jf21x12) jf21x13) jf21x14) jf21x15) jf21x16) jf21x17) jf21x18) jf21x19) jf21x20) jf21x21) jf21x22) jf21x23) jf21x24) jf21x25) jf21x26) jf21x27) jf21x28) jf21x29) jf21x30) jf21x31
theorem named21:Tryz.prog.funcNamed "mahlstick/mahlsticklaw03.CoatSpoilt" = some 21:=by kernel_rfl
theorem coatSpoilt_holds:Rows.CoatSpoiltSaid :=
 OpenClaim.holds_of_wide 21 Tryz.f21 rfl rfl rfl rfl rfl rfl rfl ⟨rfl,rfl,rfl,rfl,rfl⟩ rfl rfl rfl rfl rfl named21 Tryz.func21 closed21
  (of_decide_eq_true (by kernel_rfl)) (by unfold Func.isWrapper; first | (rw [if_pos (by decide +kernel)]; kernel_rfl) | (rw [if_neg (by decide +kernel)]; exact ⟨rfl,rfl⟩))
  (fun os started H enc _=>lifted21 os started H enc)
end Go.Proofs.YtjidjpcnocddeaaGreatDoor
set_option maxRecDepth 100000
namespace Go.Proofs.YtjidjpcnocddeaaGreatDoor
open Go Go.ChangeShapes Go.WideShapes Go.ChangeAt Go.RowKit Go.Pi Go.Pi.E Go.Pi.L Go.Pi.L.Coa
theorem coatSpoilt_card:Rows.CoatSpoiltCardSaid :=
 Claim7.holds_tied_plain_at .later [] [.data,.data,.data,.data,.pinned] true (true, "e18d2fa59430c9db63e27f5ab18d1051f1b0a0240b18512bd17279043dffdeaf") true
  coatSpoilt_holds (fun _ h=>by cases h) kWf21 (fun _ h=>by cases h) coatSpoilt_row_tie rfl ⟨rfl,rfl⟩ kMain rfl
  (fun f fn hf hfn=>by
   obtain rfl:f=21:=Option.some.inj (named21.symm.trans hf) |>.symm
   obtain rfl:fn=Tryz.f21:=(Option.some.inj (Tryz.func21.symm.trans hfn)).symm
   exact ⟨kLooks,fun j t ht=>by
    rw [Tryz.params21] at ht
    have hm:t∈[26,3,3]:=by simpa using Array.mem_of_getElem? ht
    have hall:([26,3,3].all fun u=>!Tryz.prog.wantsStandIn u)=true:=by kernel_rfl
    exact (show Tryz.prog.wantsStandIn t=false by simpa using List.all_eq_true.1 hall t hm)⟩)
  kGoes21
end Go.Proofs.YtjidjpcnocddeaaGreatDoor
