/- The functions are compiled as printed. -/
import Derived.KernelRfl
import Derived.Test.YtjgmlngcknehhaaGreatTPs
import Derived.Test.YtjgmlngcknehhaaGreatPiH
import Derived.Test.YtjgmlngcknehhaaGreatKA
import Derived.Test.YtjgmlngcknehhaaGreatProg
set_option linter.all false
set_option maxRecDepth 1000000
namespace Go.Pi.Top
open Go Go.Pi
theorem K66:compF Go.Proofs.Tryz.prog [] 66=some p66:=(compF_eq _ _ _).trans (by kernel_rfl)
theorem K67:compF Go.Proofs.Tryz.prog [] 67=some p67:=(compF_eq _ _ _).trans (by kernel_rfl)
theorem K68:compF Go.Proofs.Tryz.prog [] 68=some p68:=(compF_eq _ _ _).trans (by kernel_rfl)
theorem K69:compF Go.Proofs.Tryz.prog [] 69=some p69:=(compF_eq _ _ _).trans (by kernel_rfl)
theorem K70:compF Go.Proofs.Tryz.prog [16,6] 70=some p70:=(compF_eq _ _ _).trans (by kernel_rfl)
theorem K71:compF Go.Proofs.Tryz.prog [7,5,4] 71=some p71:=(compF_eq _ _ _).trans (by kernel_rfl)
theorem K72:compF Go.Proofs.Tryz.prog [4,3] 72=some p72:=(compF_eq _ _ _).trans (by kernel_rfl)
theorem K73:compF Go.Proofs.Tryz.prog [3,2] 73=some p73:=(compF_eq _ _ _).trans (by kernel_rfl)
theorem K74:compF Go.Proofs.Tryz.prog [] 74=some p74:=(compF_eq _ _ _).trans (by kernel_rfl)
theorem K75:compF Go.Proofs.Tryz.prog [] 75=some p75:=(compF_eq _ _ _).trans (by kernel_rfl)
theorem K76:compF Go.Proofs.Tryz.prog [32,8,3,2] 76=some p76:=(compF_eq _ _ _).trans (by kernel_rfl)
theorem K77:compF Go.Proofs.Tryz.prog [7,4,3] 77=some p77:=(compF_eq _ _ _).trans (by kernel_rfl)
theorem K78:compF Go.Proofs.Tryz.prog [] 78=some p78:=(compF_eq _ _ _).trans (by kernel_rfl)
theorem K96:compF Go.Proofs.Tryz.prog [4] 96=some p96:=(compF_eq _ _ _).trans (by kernel_rfl)
theorem K97:compF Go.Proofs.Tryz.prog [] 97=some p97:=(compF_eq _ _ _).trans (by kernel_rfl)
theorem K98:compF Go.Proofs.Tryz.prog [] 98=some p98:=(compF_eq _ _ _).trans (by kernel_rfl)
theorem K99:compF Go.Proofs.Tryz.prog [40,28,5,3,2,1] 99=some p99:=(compF_eq _ _ _).trans (by kernel_rfl)
theorem K100:compF Go.Proofs.Tryz.prog [] 100=some p100:=(compF_eq _ _ _).trans (by kernel_rfl)
theorem K101:compF Go.Proofs.Tryz.prog [] 101=some p101:=(compF_eq _ _ _).trans (by kernel_rfl)
theorem K102:compF Go.Proofs.Tryz.prog [] 102=some p102:=(compF_eq _ _ _).trans (by kernel_rfl)
theorem K103:compF Go.Proofs.Tryz.prog [] 103=some p103:=(compF_eq _ _ _).trans (by kernel_rfl)
theorem K104:compF Go.Proofs.Tryz.prog [] 104=some p104:=(compF_eq _ _ _).trans (by kernel_rfl)
theorem K105:compF Go.Proofs.Tryz.prog [] 105=some p105:=(compF_eq _ _ _).trans (by kernel_rfl)
theorem K106:compF Go.Proofs.Tryz.prog [46,33,2] 106=some p106:=(compF_eq _ _ _).trans (by kernel_rfl)
theorem K107:compF Go.Proofs.Tryz.prog [41] 107=some p107:=(compF_eq _ _ _).trans (by kernel_rfl)
theorem K108:compF Go.Proofs.Tryz.prog [] 108=some p108:=(compF_eq _ _ _).trans (by kernel_rfl)
theorem K109:compF Go.Proofs.Tryz.prog [] 109=some p109:=(compF_eq _ _ _).trans (by kernel_rfl)
theorem K110:compF Go.Proofs.Tryz.prog [4] 110=some p110:=(compF_eq _ _ _).trans (by kernel_rfl)
theorem K111:compF Go.Proofs.Tryz.prog [77,72,10,9,3,2] 111=some p111:=(compF_eq _ _ _).trans (by kernel_rfl)
theorem K112:compF Go.Proofs.Tryz.prog [4,3] 112=some p112:=(compF_eq _ _ _).trans (by kernel_rfl)
theorem K113:compF Go.Proofs.Tryz.prog [] 113=some p113:=(compF_eq _ _ _).trans (by kernel_rfl)
theorem K114:compF Go.Proofs.Tryz.prog [] 114=some p114:=(compF_eq _ _ _).trans (by kernel_rfl)
theorem K115:compF Go.Proofs.Tryz.prog [2] 115=some p115:=(compF_eq _ _ _).trans (by kernel_rfl)
theorem K116:compF Go.Proofs.Tryz.prog [3,2] 116=some p116:=(compF_eq _ _ _).trans (by kernel_rfl)
theorem K117:compF Go.Proofs.Tryz.prog [] 117=some p117:=(compF_eq _ _ _).trans (by kernel_rfl)
theorem K118:compF Go.Proofs.Tryz.prog [1] 118=some p118:=(compF_eq _ _ _).trans (by kernel_rfl)
theorem K119:compF Go.Proofs.Tryz.prog [1] 119=some p119:=(compF_eq _ _ _).trans (by kernel_rfl)
theorem K120:compF Go.Proofs.Tryz.prog [1] 120=some p120:=(compF_eq _ _ _).trans (by kernel_rfl)
theorem K121:compF Go.Proofs.Tryz.prog [5,2] 121=some p121:=(compF_eq _ _ _).trans (by kernel_rfl)
theorem K122:compF Go.Proofs.Tryz.prog [] 122=some p122:=(compF_eq _ _ _).trans (by kernel_rfl)
theorem K130:compF Go.Proofs.Tryz.prog [1] 130=some p130:=(compF_eq _ _ _).trans (by kernel_rfl)
theorem K131:compF Go.Proofs.Tryz.prog [] 131=some p131:=(compF_eq _ _ _).trans (by kernel_rfl)
end Go.Pi.Top
