/- The functions are compiled as printed. -/
import Derived.KernelRfl
import Derived.Test.YtjidjpcnocddeaaGreatDoorCPb
import Derived.Test.YtjidjpcnocddeaaGreatDoorPiH
import Derived.Test.YtjidjpcnocddeaaGreatDoorKA
import Derived.Test.YtjidjpcnocddeaaGreatDoorProg
set_option linter.all false
set_option maxRecDepth 1000000
namespace Go.Pi.Coa
open Go Go.Pi
theorem K75:compF Go.Proofs.Tryz.prog [] 75=some p75:=(compF_eq _ _ _).trans (by kernel_rfl)
theorem K76:compF Go.Proofs.Tryz.prog [] 76=some p76:=(compF_eq _ _ _).trans (by kernel_rfl)
theorem K77:compF Go.Proofs.Tryz.prog [2] 77=some p77:=(compF_eq _ _ _).trans (by kernel_rfl)
theorem K78:compF Go.Proofs.Tryz.prog [40,28,5,3,2,1] 78=some p78:=(compF_eq _ _ _).trans (by kernel_rfl)
theorem K79:compF Go.Proofs.Tryz.prog [3] 79=some p79:=(compF_eq _ _ _).trans (by kernel_rfl)
theorem K80:compF Go.Proofs.Tryz.prog [] 80=some p80:=(compF_eq _ _ _).trans (by kernel_rfl)
theorem K81:compF Go.Proofs.Tryz.prog [] 81=some p81:=(compF_eq _ _ _).trans (by kernel_rfl)
theorem K82:compF Go.Proofs.Tryz.prog [2] 82=some p82:=(compF_eq _ _ _).trans (by kernel_rfl)
theorem K83:compF Go.Proofs.Tryz.prog [4] 83=some p83:=(compF_eq _ _ _).trans (by kernel_rfl)
theorem K84:compF Go.Proofs.Tryz.prog [4] 84=some p84:=(compF_eq _ _ _).trans (by kernel_rfl)
theorem K85:compF Go.Proofs.Tryz.prog [4] 85=some p85:=(compF_eq _ _ _).trans (by kernel_rfl)
theorem K86:compF Go.Proofs.Tryz.prog [7,6,3] 86=some p86:=(compF_eq _ _ _).trans (by kernel_rfl)
theorem K87:compF Go.Proofs.Tryz.prog [] 87=some p87:=(compF_eq _ _ _).trans (by kernel_rfl)
theorem K89:compF Go.Proofs.Tryz.prog [2] 89=some p89:=(compF_eq _ _ _).trans (by kernel_rfl)
theorem K91:compF Go.Proofs.Tryz.prog [2] 91=some p91:=(compF_eq _ _ _).trans (by kernel_rfl)
theorem K92:compF Go.Proofs.Tryz.prog [2] 92=some p92:=(compF_eq _ _ _).trans (by kernel_rfl)
theorem K93:compF Go.Proofs.Tryz.prog [] 93=some p93:=(compF_eq _ _ _).trans (by kernel_rfl)
theorem K94:compF Go.Proofs.Tryz.prog [] 94=some p94:=(compF_eq _ _ _).trans (by kernel_rfl)
theorem K95:compF Go.Proofs.Tryz.prog [] 95=some p95:=(compF_eq _ _ _).trans (by kernel_rfl)
theorem K96:compF Go.Proofs.Tryz.prog [] 96=some p96:=(compF_eq _ _ _).trans (by kernel_rfl)
theorem K97:compF Go.Proofs.Tryz.prog [] 97=some p97:=(compF_eq _ _ _).trans (by kernel_rfl)
theorem K98:compF Go.Proofs.Tryz.prog [] 98=some p98:=(compF_eq _ _ _).trans (by kernel_rfl)
theorem K99:compF Go.Proofs.Tryz.prog [1] 99=some p99:=(compF_eq _ _ _).trans (by kernel_rfl)
theorem K100:compF Go.Proofs.Tryz.prog [] 100=some p100:=(compF_eq _ _ _).trans (by kernel_rfl)
theorem K101:compF Go.Proofs.Tryz.prog [] 101=some p101:=(compF_eq _ _ _).trans (by kernel_rfl)
theorem K102:compF Go.Proofs.Tryz.prog [4,2] 102=some p102:=(compF_eq _ _ _).trans (by kernel_rfl)
theorem K104:compF Go.Proofs.Tryz.prog [2] 104=some p104:=(compF_eq _ _ _).trans (by kernel_rfl)
theorem K105:compF Go.Proofs.Tryz.prog [] 105=some p105:=(compF_eq _ _ _).trans (by kernel_rfl)
theorem K106:compF Go.Proofs.Tryz.prog [7,5,4] 106=some p106:=(compF_eq _ _ _).trans (by kernel_rfl)
theorem K107:compF Go.Proofs.Tryz.prog [3,2] 107=some p107:=(compF_eq _ _ _).trans (by kernel_rfl)
theorem K108:compF Go.Proofs.Tryz.prog [44,7,30,5,1] 108=some p108:=(compF_eq _ _ _).trans (by kernel_rfl)
theorem K109:compF Go.Proofs.Tryz.prog [] 109=some p109:=(compF_eq _ _ _).trans (by kernel_rfl)
theorem K110:compF Go.Proofs.Tryz.prog [] 110=some p110:=(compF_eq _ _ _).trans (by kernel_rfl)
theorem K111:compF Go.Proofs.Tryz.prog [90,64,50,4,2,1000058,1000084] 111=some p111:=(compF_eq _ _ _).trans (by kernel_rfl)
theorem K112:compF Go.Proofs.Tryz.prog [] 112=some p112:=(compF_eq _ _ _).trans (by kernel_rfl)
theorem K113:compF Go.Proofs.Tryz.prog [] 113=some p113:=(compF_eq _ _ _).trans (by kernel_rfl)
theorem K114:compF Go.Proofs.Tryz.prog [32,24] 114=some p114:=(compF_eq _ _ _).trans (by kernel_rfl)
theorem K115:compF Go.Proofs.Tryz.prog [29] 115=some p115:=(compF_eq _ _ _).trans (by kernel_rfl)
theorem K116:compF Go.Proofs.Tryz.prog [4] 116=some p116:=(compF_eq _ _ _).trans (by kernel_rfl)
theorem K117:compF Go.Proofs.Tryz.prog [1] 117=some p117:=(compF_eq _ _ _).trans (by kernel_rfl)
theorem K118:compF Go.Proofs.Tryz.prog [] 118=some p118:=(compF_eq _ _ _).trans (by kernel_rfl)
end Go.Pi.Coa
