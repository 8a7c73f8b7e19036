/- The row of CoatFails. -/
import Derived.Test.YtjidjpcnocddeaaGreatDoorCE
import Derived.Test.YtjidjpcnocddeaaGreatDoorJA
import Derived.Test.YtjidjpcnocddeaaGreatDoorJB
import Derived.Test.YtjidjpcnocddeaaGreatDoorJC
import Derived.Test.YtjidjpcnocddeaaGreatDoorJD
import Derived.Test.YtjidjpcnocddeaaGreatDoorJE
import Derived.Test.YtjidjpcnocddeaaGreatDoorHA
import Derived.Test.YtjidjpcnocddeaaGreatDoorHB
set_option linter.all false
set_option linter.unusedVariables false
set_option linter.unusedSimpArgs false
set_option linter.unusedSectionVars false
set_option maxRecDepth 100000
namespace Go.Proofs.YtjidjpcnocddeaaGreatDoor
open Go Go.ChangeShapes Go.WideShapes Go.ChangeAt Go.RowKit Go.Pi Go.Pi.E Go.Pi.L Go.Pi.L.Coa
theorem and_i {a b : Bool} (ha : a = true) (hb : b = true) : (a && b) = true := by rw [ha, hb]; rfl
theorem closed5 : joinedFacts Tryz.prog 5 Tryz.f5 Rows.coatFailsSpec Rows.coatFailsRow = true :=
  and_i (and_i (and_i (and_i (and_i (and_i (and_i (and_i (and_i (and_i (and_i (and_i (and_i (and_i (and_i (and_i (and_i (and_i (and_i (and_i (and_i (and_i (and_i (and_i (and_i (and_i (and_i (and_i (and_i (and_i (and_i jf5x0 jf5x1) jf5x2) jf5x3) jf5x4) jf5x5) jf5x6) jf5x7) jf5x8) jf5x9) jf5x10) jf5x11) jf5x12) jf5x13) jf5x14) jf5x15) jf5x16) jf5x17) jf5x18) jf5x19) jf5x20) jf5x21) jf5x22) jf5x23) jf5x24) jf5x25) jf5x26) jf5x27) jf5x28) jf5x29) jf5x30) jf5x31
theorem named5 : Tryz.prog.funcNamed "mahlstick/mahlsticklaw03.CoatFails" = some 5 := by kernel_rfl
theorem coatFails_holds : Rows.CoatFailsSaid :=
  OpenClaim.holds_of_wide 5 Tryz.f5 rfl rfl rfl rfl rfl rfl rfl ⟨rfl, rfl, rfl, rfl, rfl⟩ rfl rfl rfl rfl rfl named5 Tryz.func5 closed5
    (of_decide_eq_true (by kernel_rfl)) (by unfold Func.isWrapper; first | (rw [if_pos (by decide +kernel)]; kernel_rfl) | (rw [if_neg (by decide +kernel)]; exact ⟨rfl, rfl⟩))
    (fun os started H enc _ => lifted5 os started H enc)
end Go.Proofs.YtjidjpcnocddeaaGreatDoor
set_option maxRecDepth 100000
namespace Go.Proofs.YtjidjpcnocddeaaGreatDoor
open Go Go.ChangeShapes Go.WideShapes Go.ChangeAt Go.RowKit Go.Pi Go.Pi.E Go.Pi.L Go.Pi.L.Coa
theorem coatFails_card : Rows.CoatFailsCardSaid :=
  Claim7.holds_tied_plain_at .later [] [.data, .data, .data, .data, .pinned] true (true, "e18d2fa59430c9db63e27f5ab18d1051f1b0a0240b18512bd17279043dffdeaf") true
    coatFails_holds (fun _ h => by cases h) kWf5 (fun _ h => by cases h) coatFails_row_tie rfl ⟨rfl, rfl⟩ kMain rfl
    (fun f fn hf hfn => by
      obtain rfl : f = 5 := Option.some.inj (named5.symm.trans hf) |>.symm
      obtain rfl : fn = Tryz.f5 := (Option.some.inj (Tryz.func5.symm.trans hfn)).symm
      exact ⟨kLooks, fun j t ht => by
        rw [Tryz.params5] at ht
        have hm : t ∈ [26, 23] := by simpa using Array.mem_of_getElem? ht
        have hall : ([26, 23].all fun u => !Tryz.prog.wantsStandIn u) = true := by kernel_rfl
        exact (show Tryz.prog.wantsStandIn t = false by simpa using List.all_eq_true.1 hall t hm)⟩)
    kGoes5
end Go.Proofs.YtjidjpcnocddeaaGreatDoor
