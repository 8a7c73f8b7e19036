/- The row of CoatSlacks. -/
import Derived.Test.YtjidjpcnocddeaaGreatDoorCR13
import Derived.Test.YtjidjpcnocddeaaGreatDoorJA13
import Derived.Test.YtjidjpcnocddeaaGreatDoorJB13
import Derived.Test.YtjidjpcnocddeaaGreatDoorJC13
import Derived.Test.YtjidjpcnocddeaaGreatDoorJD13
import Derived.Test.YtjidjpcnocddeaaGreatDoorJE13
import Derived.Test.YtjidjpcnocddeaaGreatDoorHA
import Derived.Test.YtjidjpcnocddeaaGreatDoorHC13
set_option linter.all false
set_option maxRecDepth 100000
namespace Go.Proofs.YtjidjpcnocddeaaGreatDoor
open Go Go.ChangeShapes Go.WideShapes Go.ChangeAt Go.RowKit Go.Pi Go.Pi.E Go.Pi.L Go.Pi.L.Coa
theorem and_i {a b:Bool}(ha:a=true)(hb:b=true):(a&&b)=true:=by rw [ha,hb]; rfl
theorem closed13:joinedFacts Tryz.prog 13 Tryz.f13 Rows.coatSlacksSpec Rows.coatSlacksRow=true :=
 and_i (and_i (and_i (and_i (and_i (and_i (and_i (and_i (and_i (and_i (and_i (and_i (and_i (and_i (and_i (and_i (and_i (and_i (and_i (and_i (and_i (and_i (and_i (and_i (and_i (and_i (and_i (and_i (and_i (and_i (and_i jf13x0 jf13x1) jf13x2) jf13x3) jf13x4) jf13x5) jf13x6) jf13x7) jf13x8) jf13x9) jf13x10) jf13x11) jf13x12) jf13x13) jf13x14) jf13x15) jf13x16) jf13x17) jf13x18) jf13x19) jf13x20) jf13x21) jf13x22) jf13x23) jf13x24) jf13x25) jf13x26) jf13x27) jf13x28) jf13x29) jf13x30) jf13x31
theorem named13:Tryz.prog.funcNamed "mahlstick/mahlsticklaw03.CoatSlacks" = some 13:=by kernel_rfl
theorem coatSlacks_holds:Rows.CoatSlacksSaid :=
 OpenClaim.holds_of_wide 13 Tryz.f13 rfl rfl rfl rfl rfl rfl rfl ⟨rfl,rfl,rfl,rfl,rfl⟩ rfl rfl rfl rfl rfl named13 Tryz.func13 closed13
  (of_decide_eq_true (by kernel_rfl)) (by unfold Func.isWrapper; first | (rw [if_pos (by decide +kernel)]; kernel_rfl) | (rw [if_neg (by decide +kernel)]; exact ⟨rfl,rfl⟩))
  (fun os started H enc _=>lifted13 os started H enc)
end Go.Proofs.YtjidjpcnocddeaaGreatDoor
set_option maxRecDepth 100000
namespace Go.Proofs.YtjidjpcnocddeaaGreatDoor
open Go Go.ChangeShapes Go.WideShapes Go.ChangeAt Go.RowKit Go.Pi Go.Pi.E Go.Pi.L Go.Pi.L.Coa
theorem coatSlacks_card:Rows.CoatSlacksCardSaid :=
 Claim7.holds_tied_plain_at .later [] [.data,.data,.data,.data,.pinned] true (true, "e18d2fa59430c9db63e27f5ab18d1051f1b0a0240b18512bd17279043dffdeaf") true
  coatSlacks_holds (fun _ h=>by cases h) kWf13 (fun _ h=>by cases h) coatSlacks_row_tie rfl ⟨rfl,rfl⟩ kMain rfl
  (fun f fn hf hfn=>by
   obtain rfl:f=13:=Option.some.inj (named13.symm.trans hf) |>.symm
   obtain rfl:fn=Tryz.f13:=(Option.some.inj (Tryz.func13.symm.trans hfn)).symm
   exact ⟨kLooks,fun j t ht=>by
    rw [Tryz.params13] at ht
    have hm:t∈[26]:=by simpa using Array.mem_of_getElem? ht
    have hall:([26].all fun u=>!Tryz.prog.wantsStandIn u)=true:=by kernel_rfl
    exact (show Tryz.prog.wantsStandIn t=false by simpa using List.all_eq_true.1 hall t hm)⟩)
  kGoes13
end Go.Proofs.YtjidjpcnocddeaaGreatDoor
