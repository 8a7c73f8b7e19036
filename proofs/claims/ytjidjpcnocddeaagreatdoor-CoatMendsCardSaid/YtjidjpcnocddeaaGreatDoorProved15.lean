/- The row of CoatMends. -/
import Derived.Test.YtjidjpcnocddeaaGreatDoorCR15
import Derived.Test.YtjidjpcnocddeaaGreatDoorJA15
import Derived.Test.YtjidjpcnocddeaaGreatDoorJB15
import Derived.Test.YtjidjpcnocddeaaGreatDoorJC15
import Derived.Test.YtjidjpcnocddeaaGreatDoorJD15
import Derived.Test.YtjidjpcnocddeaaGreatDoorJE15
import Derived.Test.YtjidjpcnocddeaaGreatDoorHA
import Derived.Test.YtjidjpcnocddeaaGreatDoorHC15
set_option linter.all false
set_option maxRecDepth 100000
namespace Go.Proofs.YtjidjpcnocddeaaGreatDoor
open Go Go.ChangeShapes Go.WideShapes Go.ChangeAt Go.RowKit Go.Pi Go.Pi.E Go.Pi.L Go.Pi.L.Coa
theorem and_i {a b:Bool}(ha:a=true)(hb:b=true):(a&&b)=true:=by rw [ha,hb]; rfl
theorem closed15:joinedFacts Tryz.prog 15 Tryz.f15 Rows.coatMendsSpec Rows.coatMendsRow=true :=
 and_i (and_i (and_i (and_i (and_i (and_i (and_i (and_i (and_i (and_i (and_i (and_i (and_i (and_i (and_i (and_i (and_i (and_i (and_i (and_i (and_i (and_i (and_i (and_i (and_i (and_i (and_i (and_i (and_i (and_i (and_i jf15x0 jf15x1) jf15x2) jf15x3) jf15x4) jf15x5) jf15x6) jf15x7) jf15x8) jf15x9) jf15x10) jf15x11) jf15x12) jf15x13) jf15x14) jf15x15) jf15x16) jf15x17) jf15x18) jf15x19) jf15x20) jf15x21) jf15x22) jf15x23) jf15x24) jf15x25) jf15x26) jf15x27) jf15x28) jf15x29) jf15x30) jf15x31
theorem named15:Tryz.prog.funcNamed "mahlstick/mahlsticklaw03.CoatMends" = some 15:=by kernel_rfl
theorem coatMends_holds:Rows.CoatMendsSaid :=
 OpenClaim.holds_of_wide 15 Tryz.f15 rfl rfl rfl rfl rfl rfl rfl ⟨rfl,rfl,rfl,rfl,rfl⟩ rfl rfl rfl rfl rfl named15 Tryz.func15 closed15
  (of_decide_eq_true (by kernel_rfl)) (by unfold Func.isWrapper; first | (rw [if_pos (by decide +kernel)]; kernel_rfl) | (rw [if_neg (by decide +kernel)]; exact ⟨rfl,rfl⟩))
  (fun os started H enc _=>lifted15 os started H enc)
end Go.Proofs.YtjidjpcnocddeaaGreatDoor
set_option maxRecDepth 100000
namespace Go.Proofs.YtjidjpcnocddeaaGreatDoor
open Go Go.ChangeShapes Go.WideShapes Go.ChangeAt Go.RowKit Go.Pi Go.Pi.E Go.Pi.L Go.Pi.L.Coa
theorem coatMends_card:Rows.CoatMendsCardSaid :=
 Claim7.holds_tied_plain_at .later [] [.data,.data,.data,.data,.pinned] true (true, "e18d2fa59430c9db63e27f5ab18d1051f1b0a0240b18512bd17279043dffdeaf") true
  coatMends_holds (fun _ h=>by cases h) kWf15 (fun _ h=>by cases h) coatMends_row_tie rfl ⟨rfl,rfl⟩ kMain rfl
  (fun f fn hf hfn=>by
   obtain rfl:f=15:=Option.some.inj (named15.symm.trans hf) |>.symm
   obtain rfl:fn=Tryz.f15:=(Option.some.inj (Tryz.func15.symm.trans hfn)).symm
   exact ⟨kLooks,fun j t ht=>by
    rw [Tryz.params15] at ht
    have hm:t∈[26,23,3]:=by simpa using Array.mem_of_getElem? ht
    have hall:([26,23,3].all fun u=>!Tryz.prog.wantsStandIn u)=true:=by kernel_rfl
    exact (show Tryz.prog.wantsStandIn t=false by simpa using List.all_eq_true.1 hall t hm)⟩)
  kGoes15
end Go.Proofs.YtjidjpcnocddeaaGreatDoor
