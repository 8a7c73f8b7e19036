/- The functions are compiled as printed. -/
import Derived.KernelRfl
import Derived.Test.YtjidjpcnocddeaaGreatDoorCPb
import Derived.Test.YtjidjpcnocddeaaGreatDoorPiH
import Derived.Test.YtjidjpcnocddeaaGreatDoorProg
set_option linter.all false
set_option maxRecDepth 1000000
namespace Go.Pi.Coa
open Go Go.Pi
theorem K3 : compF Go.Proofs.Tryz.prog [3] 3 = some p3 := by kernel_rfl
theorem K4 : compF Go.Proofs.Tryz.prog [3] 4 = some p4 := by kernel_rfl
theorem K7 : compF Go.Proofs.Tryz.prog [1] 7 = some p7 := by kernel_rfl
theorem K18 : compF Go.Proofs.Tryz.prog [2] 18 = some p18 := by kernel_rfl
theorem K22 : compF Go.Proofs.Tryz.prog [1] 22 = some p22 := by kernel_rfl
theorem K23 : compF Go.Proofs.Tryz.prog [27] 23 = some p23 := by kernel_rfl
theorem K24 : compF Go.Proofs.Tryz.prog [8, 3] 24 = some p24 := by kernel_rfl
theorem K25 : compF Go.Proofs.Tryz.prog [1] 25 = some p25 := by kernel_rfl
theorem K26 : compF Go.Proofs.Tryz.prog [2] 26 = some p26 := by kernel_rfl
theorem K27 : compF Go.Proofs.Tryz.prog [2] 27 = some p27 := by kernel_rfl
theorem K28 : compF Go.Proofs.Tryz.prog [3] 28 = some p28 := by kernel_rfl
theorem K29 : compF Go.Proofs.Tryz.prog [2] 29 = some p29 := by kernel_rfl
end Go.Pi.Coa
