/- The row of CoatReached. -/
import Derived.Test.YtjidjpcnocddeaaGreatDoorCR12
import Derived.Test.YtjidjpcnocddeaaGreatDoorJA12
import Derived.Test.YtjidjpcnocddeaaGreatDoorJB12
import Derived.Test.YtjidjpcnocddeaaGreatDoorJC12
import Derived.Test.YtjidjpcnocddeaaGreatDoorJD12
import Derived.Test.YtjidjpcnocddeaaGreatDoorJE12
import Derived.Test.YtjidjpcnocddeaaGreatDoorHA
import Derived.Test.YtjidjpcnocddeaaGreatDoorHC12
set_option linter.all false
set_option maxRecDepth 100000
namespace Go.Proofs.YtjidjpcnocddeaaGreatDoor
open Go Go.ChangeShapes Go.WideShapes Go.ChangeAt Go.RowKit Go.Pi Go.Pi.E Go.Pi.L Go.Pi.L.Coa
theorem and_i {a b:Bool}(ha:a=true)(hb:b=true):(a&&b)=true:=by rw [ha,hb]; rfl
theorem closed12:joinedFacts Tryz.prog 12 Tryz.f12 Rows.coatReachedSpec Rows.coatReachedRow=true :=
 and_i (and_i (and_i (and_i (and_i (and_i (and_i (and_i (and_i (and_i (and_i (and_i (and_i (and_i (and_i (and_i (and_i (and_i (and_i (and_i (and_i (and_i (and_i (and_i (and_i (and_i (and_i (and_i (and_i (and_i (and_i jf12x0 jf12x1) jf12x2) jf12x3) jf12x4) jf12x5) jf12x6) jf12x7) jf12x8) jf12x9) jf12x10) jf12x11) jf12x12) jf12x13) jf12x14) jf12x15) jf12x16) jf12x17) jf12x18) jf12x19) jf12x20) jf12x21) jf12x22) jf12x23) jf12x24) jf12x25) jf12x26) jf12x27) jf12x28) jf12x29) jf12x30) jf12x31
theorem named12:Tryz.prog.funcNamed "mahlstick/mahlsticklaw03.CoatReached" = some 12:=by kernel_rfl
theorem coatReached_holds:Rows.CoatReachedSaid :=
 OpenClaim.holds_of_wide 12 Tryz.f12 rfl rfl rfl rfl rfl rfl rfl ⟨rfl,rfl,rfl,rfl,rfl⟩ rfl rfl rfl rfl rfl named12 Tryz.func12 closed12
  (of_decide_eq_true (by kernel_rfl)) (by unfold Func.isWrapper; first | (rw [if_pos (by decide +kernel)]; kernel_rfl) | (rw [if_neg (by decide +kernel)]; exact ⟨rfl,rfl⟩))
  (fun os started H enc _=>lifted12 os started H enc)
end Go.Proofs.YtjidjpcnocddeaaGreatDoor
set_option maxRecDepth 100000
namespace Go.Proofs.YtjidjpcnocddeaaGreatDoor
open Go Go.ChangeShapes Go.WideShapes Go.ChangeAt Go.RowKit Go.Pi Go.Pi.E Go.Pi.L Go.Pi.L.Coa
theorem coatReached_card:Rows.CoatReachedCardSaid :=
 Claim7.holds_tied_plain_at .later [] [.data,.data,.data,.data,.pinned] true (true, "e18d2fa59430c9db63e27f5ab18d1051f1b0a0240b18512bd17279043dffdeaf") true
  coatReached_holds (fun _ h=>by cases h) kWf12 (fun _ h=>by cases h) coatReached_row_tie rfl ⟨rfl,rfl⟩ kMain rfl
  (fun f fn hf hfn=>by
   obtain rfl:f=12:=Option.some.inj (named12.symm.trans hf) |>.symm
   obtain rfl:fn=Tryz.f12:=(Option.some.inj (Tryz.func12.symm.trans hfn)).symm
   exact ⟨kLooks,fun j t ht=>by
    rw [Tryz.params12] at ht
    have hm:t∈[26,3]:=by simpa using Array.mem_of_getElem? ht
    have hall:([26,3].all fun u=>!Tryz.prog.wantsStandIn u)=true:=by kernel_rfl
    exact (show Tryz.prog.wantsStandIn t=false by simpa using List.all_eq_true.1 hall t hm)⟩)
  kGoes12
end Go.Proofs.YtjidjpcnocddeaaGreatDoor
