/- The law TopChain of the package mahlsticktop holds: whatever lists of numbers it is called with, the call returns true, and the lists read as they did before it. Conditions: none. -/
import Derived.Test.YtjgmlngcknehhaaGreatCR2
set_option linter.all false
set_option maxRecDepth 100000
namespace Go.Proofs.YtjgmlngcknehhaaGreat
open Go Go.ChangeShapes Go.WideShapes Go.ChangeAt Go.RowKit Go.Pi
theorem topChain_holds:Rows.TopChainSaid :=
 OpenClaim.holds_of_wide 4 Tryz.f4 rfl rfl rfl rfl rfl rfl rfl ⟨rfl,rfl,rfl,rfl,rfl⟩ rfl rfl rfl rfl rfl (by kernel_rfl) Tryz.func4 (by kernel_rfl)
  (of_decide_eq_true (by kernel_rfl)) (by unfold Func.isWrapper; first | (rw [if_pos (by decide +kernel)]; kernel_rfl) | (rw [if_neg (by decide +kernel)]; exact ⟨rfl,rfl⟩))
  (fun os started H enc _=>lifted4 os started H enc)
end Go.Proofs.YtjgmlngcknehhaaGreat
