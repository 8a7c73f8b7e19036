/- The functions are compiled as printed. -/
import Derived.KernelRfl
import Derived.Test.YtfndfpbdgjoilaaGreatDoorCPb
import Derived.Test.YtfndfpbdgjoilaaGreatDoorPiH
import Derived.Test.YtfndfpbdgjoilaaGreatDoorKA
import Derived.Test.YtfndfpbdgjoilaaGreatDoorProg
set_option linter.all false
set_option maxRecDepth 1000000
namespace Go.Pi.Ben
open Go Go.Pi
theorem K71:compF Go.Proofs.Tryz.prog [102,74,4,2] 71=some p71:=(compF_eq _ _ _).trans (by kernel_rfl)
theorem K72:compF Go.Proofs.Tryz.prog [] 72=some p72:=(compF_eq _ _ _).trans (by kernel_rfl)
theorem K73:compF Go.Proofs.Tryz.prog [0] 73=some p73:=(compF_eq _ _ _).trans (by kernel_rfl)
theorem K74:compF Go.Proofs.Tryz.prog [1] 74=some p74:=(compF_eq _ _ _).trans (by kernel_rfl)
theorem K75:compF Go.Proofs.Tryz.prog [2] 75=some p75:=(compF_eq _ _ _).trans (by kernel_rfl)
theorem K76:compF Go.Proofs.Tryz.prog [4,2] 76=some p76:=(compF_eq _ _ _).trans (by kernel_rfl)
theorem K77:compF Go.Proofs.Tryz.prog [10,7,3] 77=some p77:=(compF_eq _ _ _).trans (by kernel_rfl)
theorem K78:compF Go.Proofs.Tryz.prog [28,9,3] 78=some p78:=(compF_eq _ _ _).trans (by kernel_rfl)
theorem K79:compF Go.Proofs.Tryz.prog [32,3] 79=some p79:=(compF_eq _ _ _).trans (by kernel_rfl)
theorem K80:compF Go.Proofs.Tryz.prog [3] 80=some p80:=(compF_eq _ _ _).trans (by kernel_rfl)
theorem K81:compF Go.Proofs.Tryz.prog [5,2] 81=some p81:=(compF_eq _ _ _).trans (by kernel_rfl)
theorem K82:compF Go.Proofs.Tryz.prog [46,3] 82=some p82:=(compF_eq _ _ _).trans (by kernel_rfl)
theorem K83:compF Go.Proofs.Tryz.prog [] 83=some p83:=(compF_eq _ _ _).trans (by kernel_rfl)
theorem K84:compF Go.Proofs.Tryz.prog [] 84=some p84:=(compF_eq _ _ _).trans (by kernel_rfl)
theorem K85:compF Go.Proofs.Tryz.prog [] 85=some p85:=(compF_eq _ _ _).trans (by kernel_rfl)
theorem K86:compF Go.Proofs.Tryz.prog [39,2] 86=some p86:=(compF_eq _ _ _).trans (by kernel_rfl)
theorem K87:compF Go.Proofs.Tryz.prog [2] 87=some p87:=(compF_eq _ _ _).trans (by kernel_rfl)
theorem K88:compF Go.Proofs.Tryz.prog [16,1] 88=some p88:=(compF_eq _ _ _).trans (by kernel_rfl)
theorem K91:compF Go.Proofs.Tryz.prog [4] 91=some p91:=(compF_eq _ _ _).trans (by kernel_rfl)
theorem K92:compF Go.Proofs.Tryz.prog [15] 92=some p92:=(compF_eq _ _ _).trans (by kernel_rfl)
theorem K94:compF Go.Proofs.Tryz.prog [] 94=some p94:=(compF_eq _ _ _).trans (by kernel_rfl)
theorem K95:compF Go.Proofs.Tryz.prog [3] 95=some p95:=(compF_eq _ _ _).trans (by kernel_rfl)
theorem K96:compF Go.Proofs.Tryz.prog [] 96=some p96:=(compF_eq _ _ _).trans (by kernel_rfl)
theorem K97:compF Go.Proofs.Tryz.prog [] 97=some p97:=(compF_eq _ _ _).trans (by kernel_rfl)
theorem K98:compF Go.Proofs.Tryz.prog [] 98=some p98:=(compF_eq _ _ _).trans (by kernel_rfl)
theorem K99:compF Go.Proofs.Tryz.prog [39,7] 99=some p99:=(compF_eq _ _ _).trans (by kernel_rfl)
theorem K100:compF Go.Proofs.Tryz.prog [3,2] 100=some p100:=(compF_eq _ _ _).trans (by kernel_rfl)
theorem K101:compF Go.Proofs.Tryz.prog [4,2] 101=some p101:=(compF_eq _ _ _).trans (by kernel_rfl)
theorem K102:compF Go.Proofs.Tryz.prog [] 102=some p102:=(compF_eq _ _ _).trans (by kernel_rfl)
theorem K103:compF Go.Proofs.Tryz.prog [88,43,7,28,1] 103=some p103:=(compF_eq _ _ _).trans (by kernel_rfl)
theorem K104:compF Go.Proofs.Tryz.prog [] 104=some p104:=(compF_eq _ _ _).trans (by kernel_rfl)
theorem K105:compF Go.Proofs.Tryz.prog [101,10,5,2] 105=some p105:=(compF_eq _ _ _).trans (by kernel_rfl)
theorem K106:compF Go.Proofs.Tryz.prog [] 106=some p106:=(compF_eq _ _ _).trans (by kernel_rfl)
theorem K107:compF Go.Proofs.Tryz.prog [] 107=some p107:=(compF_eq _ _ _).trans (by kernel_rfl)
theorem K108:compF Go.Proofs.Tryz.prog [] 108=some p108:=(compF_eq _ _ _).trans (by kernel_rfl)
theorem K109:compF Go.Proofs.Tryz.prog [32,24] 109=some p109:=(compF_eq _ _ _).trans (by kernel_rfl)
theorem K110:compF Go.Proofs.Tryz.prog [] 110=some p110:=(compF_eq _ _ _).trans (by kernel_rfl)
theorem K111:compF Go.Proofs.Tryz.prog [5,2] 111=some p111:=(compF_eq _ _ _).trans (by kernel_rfl)
theorem K112:compF Go.Proofs.Tryz.prog [] 112=some p112:=(compF_eq _ _ _).trans (by kernel_rfl)
theorem K113:compF Go.Proofs.Tryz.prog [] 113=some p113:=(compF_eq _ _ _).trans (by kernel_rfl)
theorem K114:compF Go.Proofs.Tryz.prog [1] 114=some p114:=(compF_eq _ _ _).trans (by kernel_rfl)
theorem K115:compF Go.Proofs.Tryz.prog [1] 115=some p115:=(compF_eq _ _ _).trans (by kernel_rfl)
theorem K116:compF Go.Proofs.Tryz.prog [] 116=some p116:=(compF_eq _ _ _).trans (by kernel_rfl)
theorem K117:compF Go.Proofs.Tryz.prog [2] 117=some p117:=(compF_eq _ _ _).trans (by kernel_rfl)
end Go.Pi.Ben
