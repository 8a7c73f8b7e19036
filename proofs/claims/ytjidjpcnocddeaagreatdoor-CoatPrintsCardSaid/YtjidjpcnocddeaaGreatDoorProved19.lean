/- The row of CoatPrints. -/
import Derived.Test.YtjidjpcnocddeaaGreatDoorCR19
import Derived.Test.YtjidjpcnocddeaaGreatDoorJA19
import Derived.Test.YtjidjpcnocddeaaGreatDoorJB19
import Derived.Test.YtjidjpcnocddeaaGreatDoorJC19
import Derived.Test.YtjidjpcnocddeaaGreatDoorJD19
import Derived.Test.YtjidjpcnocddeaaGreatDoorJE19
import Derived.Test.YtjidjpcnocddeaaGreatDoorHA
import Derived.Test.YtjidjpcnocddeaaGreatDoorHC19
set_option linter.all false
set_option maxRecDepth 100000
namespace Go.Proofs.YtjidjpcnocddeaaGreatDoor
open Go Go.ChangeShapes Go.WideShapes Go.ChangeAt Go.RowKit Go.Pi Go.Pi.E Go.Pi.L Go.Pi.L.Coa
theorem and_i {a b:Bool}(ha:a=true)(hb:b=true):(a&&b)=true:=by rw [ha,hb]; rfl
theorem closed19:joinedFacts Tryz.prog 19 Tryz.f19 Rows.coatPrintsSpec Rows.coatPrintsRow=true :=
 and_i (and_i (and_i (and_i (and_i (and_i (and_i (and_i (and_i (and_i (and_i (and_i (and_i (and_i (and_i (and_i (and_i (and_i (and_i (and_i (and_i (and_i (and_i (and_i (and_i (and_i (and_i (and_i (and_i (and_i (and_i jf19x0 jf19x1) jf19x2) jf19x3) jf19x4) jf19x5) jf19x6) jf19x7) jf19x8) jf19x9) jf19x10) jf19x11) jf19x12) jf19x13) jf19x14) jf19x15) jf19x16) jf19x17) jf19x18) jf19x19) jf19x20) jf19x21) jf19x22) jf19x23) jf19x24) jf19x25) jf19x26) jf19x27) jf19x28) jf19x29) jf19x30) jf19x31
theorem named19:Tryz.prog.funcNamed "mahlstick/mahlsticklaw03.CoatPrints" = some 19:=by kernel_rfl
theorem coatPrints_holds:Rows.CoatPrintsSaid :=
 OpenClaim.holds_of_wide 19 Tryz.f19 rfl rfl rfl rfl rfl rfl rfl ⟨rfl,rfl,rfl,rfl,rfl⟩ rfl rfl rfl rfl rfl named19 Tryz.func19 closed19
  (of_decide_eq_true (by kernel_rfl)) (by unfold Func.isWrapper; first | (rw [if_pos (by decide +kernel)]; kernel_rfl) | (rw [if_neg (by decide +kernel)]; exact ⟨rfl,rfl⟩))
  (fun os started H enc _=>lifted19 os started H enc)
end Go.Proofs.YtjidjpcnocddeaaGreatDoor
set_option maxRecDepth 100000
namespace Go.Proofs.YtjidjpcnocddeaaGreatDoor
open Go Go.ChangeShapes Go.WideShapes Go.ChangeAt Go.RowKit Go.Pi Go.Pi.E Go.Pi.L Go.Pi.L.Coa
theorem coatPrints_card:Rows.CoatPrintsCardSaid :=
 Claim7.holds_tied_plain_at .later [] [.data,.data,.data,.data,.pinned] true (true, "e18d2fa59430c9db63e27f5ab18d1051f1b0a0240b18512bd17279043dffdeaf") true
  coatPrints_holds (fun _ h=>by cases h) kWf19 (fun _ h=>by cases h) coatPrints_row_tie rfl ⟨rfl,rfl⟩ kMain rfl
  (fun f fn hf hfn=>by
   obtain rfl:f=19:=Option.some.inj (named19.symm.trans hf) |>.symm
   obtain rfl:fn=Tryz.f19:=(Option.some.inj (Tryz.func19.symm.trans hfn)).symm
   exact ⟨kLooks,fun j t ht=>by
    rw [Tryz.params19] at ht
    have hm:t∈[26]:=by simpa using Array.mem_of_getElem? ht
    have hall:([26].all fun u=>!Tryz.prog.wantsStandIn u)=true:=by kernel_rfl
    exact (show Tryz.prog.wantsStandIn t=false by simpa using List.all_eq_true.1 hall t hm)⟩)
  kGoes19
end Go.Proofs.YtjidjpcnocddeaaGreatDoor
