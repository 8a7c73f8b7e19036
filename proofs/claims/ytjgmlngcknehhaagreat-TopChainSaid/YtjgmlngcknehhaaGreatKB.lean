/- The functions are compiled as printed. -/
import Derived.KernelRfl
import Derived.Test.YtjgmlngcknehhaaGreatTPs
import Derived.Test.YtjgmlngcknehhaaGreatPiH
import Derived.Test.YtjgmlngcknehhaaGreatKA
import Derived.Test.YtjgmlngcknehhaaGreatProg
set_option linter.all false
set_option maxRecDepth 1000000
namespace Go.Pi.Top
open Go Go.Pi
theorem K63:compF Go.Proofs.Tryz.prog [2] 63=some p63:=(compF_eq _ _ _).trans (by kernel_rfl)
theorem K64:compF Go.Proofs.Tryz.prog [3] 64=some p64:=(compF_eq _ _ _).trans (by kernel_rfl)
theorem K65:compF Go.Proofs.Tryz.prog [] 65=some p65:=(compF_eq _ _ _).trans (by kernel_rfl)
theorem K66:compF Go.Proofs.Tryz.prog [] 66=some p66:=(compF_eq _ _ _).trans (by kernel_rfl)
theorem K67:compF Go.Proofs.Tryz.prog [] 67=some p67:=(compF_eq _ _ _).trans (by kernel_rfl)
theorem K68:compF Go.Proofs.Tryz.prog [] 68=some p68:=(compF_eq _ _ _).trans (by kernel_rfl)
theorem K69:compF Go.Proofs.Tryz.prog [] 69=some p69:=(compF_eq _ _ _).trans (by kernel_rfl)
theorem K79:compF Go.Proofs.Tryz.prog [5,2] 79=some p79:=(compF_eq _ _ _).trans (by kernel_rfl)
theorem K80:compF Go.Proofs.Tryz.prog [] 80=some p80:=(compF_eq _ _ _).trans (by kernel_rfl)
theorem K81:compF Go.Proofs.Tryz.prog [39,7] 81=some p81:=(compF_eq _ _ _).trans (by kernel_rfl)
theorem K82:compF Go.Proofs.Tryz.prog [3,2] 82=some p82:=(compF_eq _ _ _).trans (by kernel_rfl)
theorem K83:compF Go.Proofs.Tryz.prog [] 83=some p83:=(compF_eq _ _ _).trans (by kernel_rfl)
theorem K84:compF Go.Proofs.Tryz.prog [] 84=some p84:=(compF_eq _ _ _).trans (by kernel_rfl)
theorem K85:compF Go.Proofs.Tryz.prog [] 85=some p85:=(compF_eq _ _ _).trans (by kernel_rfl)
theorem K86:compF Go.Proofs.Tryz.prog [] 86=some p86:=(compF_eq _ _ _).trans (by kernel_rfl)
theorem K87:compF Go.Proofs.Tryz.prog [2] 87=some p87:=(compF_eq _ _ _).trans (by kernel_rfl)
theorem K88:compF Go.Proofs.Tryz.prog [3,2] 88=some p88:=(compF_eq _ _ _).trans (by kernel_rfl)
theorem K89:compF Go.Proofs.Tryz.prog [] 89=some p89:=(compF_eq _ _ _).trans (by kernel_rfl)
theorem K90:compF Go.Proofs.Tryz.prog [35,8,5] 90=some p90:=(compF_eq _ _ _).trans (by kernel_rfl)
theorem K91:compF Go.Proofs.Tryz.prog [4,3] 91=some p91:=(compF_eq _ _ _).trans (by kernel_rfl)
theorem K92:compF Go.Proofs.Tryz.prog [] 92=some p92:=(compF_eq _ _ _).trans (by kernel_rfl)
theorem K93:compF Go.Proofs.Tryz.prog [37] 93=some p93:=(compF_eq _ _ _).trans (by kernel_rfl)
theorem K94:compF Go.Proofs.Tryz.prog [10,7,3] 94=some p94:=(compF_eq _ _ _).trans (by kernel_rfl)
theorem K95:compF Go.Proofs.Tryz.prog [] 95=some p95:=(compF_eq _ _ _).trans (by kernel_rfl)
theorem K96:compF Go.Proofs.Tryz.prog [4] 96=some p96:=(compF_eq _ _ _).trans (by kernel_rfl)
theorem K97:compF Go.Proofs.Tryz.prog [] 97=some p97:=(compF_eq _ _ _).trans (by kernel_rfl)
theorem K98:compF Go.Proofs.Tryz.prog [] 98=some p98:=(compF_eq _ _ _).trans (by kernel_rfl)
theorem K99:compF Go.Proofs.Tryz.prog [40,28,5,3,2,1] 99=some p99:=(compF_eq _ _ _).trans (by kernel_rfl)
theorem K100:compF Go.Proofs.Tryz.prog [] 100=some p100:=(compF_eq _ _ _).trans (by kernel_rfl)
theorem K101:compF Go.Proofs.Tryz.prog [] 101=some p101:=(compF_eq _ _ _).trans (by kernel_rfl)
theorem K102:compF Go.Proofs.Tryz.prog [] 102=some p102:=(compF_eq _ _ _).trans (by kernel_rfl)
theorem K103:compF Go.Proofs.Tryz.prog [] 103=some p103:=(compF_eq _ _ _).trans (by kernel_rfl)
theorem K104:compF Go.Proofs.Tryz.prog [] 104=some p104:=(compF_eq _ _ _).trans (by kernel_rfl)
theorem K105:compF Go.Proofs.Tryz.prog [] 105=some p105:=(compF_eq _ _ _).trans (by kernel_rfl)
theorem K106:compF Go.Proofs.Tryz.prog [46,33,2] 106=some p106:=(compF_eq _ _ _).trans (by kernel_rfl)
theorem K107:compF Go.Proofs.Tryz.prog [41] 107=some p107:=(compF_eq _ _ _).trans (by kernel_rfl)
theorem K108:compF Go.Proofs.Tryz.prog [] 108=some p108:=(compF_eq _ _ _).trans (by kernel_rfl)
theorem K109:compF Go.Proofs.Tryz.prog [] 109=some p109:=(compF_eq _ _ _).trans (by kernel_rfl)
theorem K110:compF Go.Proofs.Tryz.prog [4] 110=some p110:=(compF_eq _ _ _).trans (by kernel_rfl)
theorem K111:compF Go.Proofs.Tryz.prog [77,72,10,9,3,2] 111=some p111:=(compF_eq _ _ _).trans (by kernel_rfl)
theorem K112:compF Go.Proofs.Tryz.prog [4,3] 112=some p112:=(compF_eq _ _ _).trans (by kernel_rfl)
theorem K123:compF Go.Proofs.Tryz.prog [1000003,2000003] 123=some p123:=(compF_eq _ _ _).trans (by kernel_rfl)
end Go.Pi.Top
