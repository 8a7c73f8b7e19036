/- The row of CoatWords. -/
import Derived.Test.YtjidjpcnocddeaaGreatDoorCE
import Derived.Test.YtjidjpcnocddeaaGreatDoorJA
import Derived.Test.YtjidjpcnocddeaaGreatDoorJB
import Derived.Test.YtjidjpcnocddeaaGreatDoorJC
import Derived.Test.YtjidjpcnocddeaaGreatDoorJD
import Derived.Test.YtjidjpcnocddeaaGreatDoorJE
import Derived.Test.YtjidjpcnocddeaaGreatDoorHA
import Derived.Test.YtjidjpcnocddeaaGreatDoorHB
set_option linter.all false
set_option linter.unusedVariables false
set_option linter.unusedSimpArgs false
set_option linter.unusedSectionVars false
set_option maxRecDepth 100000
namespace Go.Proofs.YtjidjpcnocddeaaGreatDoor
open Go Go.ChangeShapes Go.WideShapes Go.ChangeAt Go.RowKit Go.Pi Go.Pi.E Go.Pi.L Go.Pi.L.Coa
theorem and_i {a b : Bool} (ha : a = true) (hb : b = true) : (a && b) = true := by rw [ha, hb]; rfl
theorem closed18 : joinedFacts Tryz.prog 18 Tryz.f18 Rows.coatWordsSpec Rows.coatWordsRow = true :=
  and_i (and_i (and_i (and_i (and_i (and_i (and_i (and_i (and_i (and_i (and_i (and_i (and_i (and_i (and_i (and_i (and_i (and_i (and_i (and_i (and_i (and_i (and_i (and_i (and_i (and_i (and_i (and_i (and_i (and_i (and_i jf18x0 jf18x1) jf18x2) jf18x3) jf18x4) jf18x5) jf18x6) jf18x7) jf18x8) jf18x9) jf18x10) jf18x11) jf18x12) jf18x13) jf18x14) jf18x15) jf18x16) jf18x17) jf18x18) jf18x19) jf18x20) jf18x21) jf18x22) jf18x23) jf18x24) jf18x25) jf18x26) jf18x27) jf18x28) jf18x29) jf18x30) jf18x31
theorem named18 : Tryz.prog.funcNamed "mahlstick/mahlsticklaw03.CoatWords" = some 18 := by kernel_rfl
theorem coatWords_holds : Rows.CoatWordsSaid :=
  OpenClaim.holds_of_wide 18 Tryz.f18 rfl rfl rfl rfl rfl rfl rfl ⟨rfl, rfl, rfl, rfl, rfl⟩ rfl rfl rfl rfl rfl named18 Tryz.func18 closed18
    (of_decide_eq_true (by kernel_rfl)) (by unfold Func.isWrapper; first | (rw [if_pos (by decide +kernel)]; kernel_rfl) | (rw [if_neg (by decide +kernel)]; exact ⟨rfl, rfl⟩))
    (fun os started H enc _ => lifted18 os started H enc)
end Go.Proofs.YtjidjpcnocddeaaGreatDoor
set_option maxRecDepth 100000
namespace Go.Proofs.YtjidjpcnocddeaaGreatDoor
open Go Go.ChangeShapes Go.WideShapes Go.ChangeAt Go.RowKit Go.Pi Go.Pi.E Go.Pi.L Go.Pi.L.Coa
theorem coatWords_card : Rows.CoatWordsCardSaid :=
  Claim7.holds_tied_plain_at .later [] [.data, .data, .data, .data, .pinned] true (true, "e18d2fa59430c9db63e27f5ab18d1051f1b0a0240b18512bd17279043dffdeaf") true
    coatWords_holds (fun _ h => by cases h) kWf18 (fun _ h => by cases h) coatWords_row_tie rfl ⟨rfl, rfl⟩ kMain rfl
    (fun f fn hf hfn => by
      obtain rfl : f = 18 := Option.some.inj (named18.symm.trans hf) |>.symm
      obtain rfl : fn = Tryz.f18 := (Option.some.inj (Tryz.func18.symm.trans hfn)).symm
      exact ⟨kLooks, fun j t ht => by
        rw [Tryz.params18] at ht
        have hm : t ∈ [26, 23] := by simpa using Array.mem_of_getElem? ht
        have hall : ([26, 23].all fun u => !Tryz.prog.wantsStandIn u) = true := by kernel_rfl
        exact (show Tryz.prog.wantsStandIn t = false by simpa using List.all_eq_true.1 hall t hm)⟩)
    kGoes18
end Go.Proofs.YtjidjpcnocddeaaGreatDoor
