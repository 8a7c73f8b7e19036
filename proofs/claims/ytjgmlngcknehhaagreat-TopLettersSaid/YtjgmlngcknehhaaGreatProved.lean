/- The law TopLetters of the package mahlsticktop holds: whatever its three arguments are, the call returns true, and the arguments read as they did before it. Conditions: none. -/
import Derived.Test.YtjgmlngcknehhaaGreatCR
set_option linter.all false
set_option maxRecDepth 100000
namespace Go.Proofs.YtjgmlngcknehhaaGreat
open Go Go.ChangeShapes Go.WideShapes Go.ChangeAt Go.RowKit Go.Pi
theorem topLetters_holds:Rows.TopLettersSaid :=
 OpenClaim.holds_of_wide 3 Tryz.f3 rfl rfl rfl rfl rfl rfl rfl ⟨rfl,rfl,rfl,rfl,rfl⟩ rfl rfl rfl rfl rfl (by kernel_rfl) Tryz.func3 (by kernel_rfl)
  (of_decide_eq_true (by kernel_rfl)) (by unfold Func.isWrapper; first | (rw [if_pos (by decide +kernel)]; kernel_rfl) | (rw [if_neg (by decide +kernel)]; exact ⟨rfl,rfl⟩))
  (fun os started H enc _=>lifted3 os started H enc)
end Go.Proofs.YtjgmlngcknehhaaGreat
