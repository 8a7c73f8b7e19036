/- The functions are compiled as printed. -/
import Derived.KernelRfl
import Derived.Test.YtjidjpcnocddeaaGreatDoorCPb
import Derived.Test.YtjidjpcnocddeaaGreatDoorPiH
import Derived.Test.YtjidjpcnocddeaaGreatDoorKA
import Derived.Test.YtjidjpcnocddeaaGreatDoorProg
set_option linter.all false
set_option maxRecDepth 1000000
namespace Go.Pi.Coa
open Go Go.Pi
theorem K27:compF Go.Proofs.Tryz.prog [2] 27=some p27:=(compF_eq _ _ _).trans (by kernel_rfl)
theorem K28:compF Go.Proofs.Tryz.prog [3] 28=some p28:=(compF_eq _ _ _).trans (by kernel_rfl)
theorem K29:compF Go.Proofs.Tryz.prog [2] 29=some p29:=(compF_eq _ _ _).trans (by kernel_rfl)
theorem K30:compF Go.Proofs.Tryz.prog [13,7,6,2] 30=some p30:=(compF_eq _ _ _).trans (by kernel_rfl)
theorem K31:compF Go.Proofs.Tryz.prog [73,12,10,6,2] 31=some p31:=(compF_eq _ _ _).trans (by kernel_rfl)
theorem K32:compF Go.Proofs.Tryz.prog [7,2] 32=some p32:=(compF_eq _ _ _).trans (by kernel_rfl)
theorem K33:compF Go.Proofs.Tryz.prog [2] 33=some p33:=(compF_eq _ _ _).trans (by kernel_rfl)
theorem K35:compF Go.Proofs.Tryz.prog [] 35=some p35:=(compF_eq _ _ _).trans (by kernel_rfl)
theorem K36:compF Go.Proofs.Tryz.prog [2] 36=some p36:=(compF_eq _ _ _).trans (by kernel_rfl)
theorem K37:compF Go.Proofs.Tryz.prog [] 37=some p37:=(compF_eq _ _ _).trans (by kernel_rfl)
theorem K38:compF Go.Proofs.Tryz.prog [19,1] 38=some p38:=(compF_eq _ _ _).trans (by kernel_rfl)
theorem K39:compF Go.Proofs.Tryz.prog [19,1] 39=some p39:=(compF_eq _ _ _).trans (by kernel_rfl)
theorem K40:compF Go.Proofs.Tryz.prog [] 40=some p40:=(compF_eq _ _ _).trans (by kernel_rfl)
theorem K41:compF Go.Proofs.Tryz.prog [1] 41=some p41:=(compF_eq _ _ _).trans (by kernel_rfl)
theorem K42:compF Go.Proofs.Tryz.prog [1] 42=some p42:=(compF_eq _ _ _).trans (by kernel_rfl)
theorem K43:compF Go.Proofs.Tryz.prog [25,1] 43=some p43:=(compF_eq _ _ _).trans (by kernel_rfl)
theorem K44:compF Go.Proofs.Tryz.prog [2] 44=some p44:=(compF_eq _ _ _).trans (by kernel_rfl)
theorem K45:compF Go.Proofs.Tryz.prog [38,2] 45=some p45:=(compF_eq _ _ _).trans (by kernel_rfl)
theorem K46:compF Go.Proofs.Tryz.prog [1] 46=some p46:=(compF_eq _ _ _).trans (by kernel_rfl)
theorem K47:compF Go.Proofs.Tryz.prog [1] 47=some p47:=(compF_eq _ _ _).trans (by kernel_rfl)
theorem K48:compF Go.Proofs.Tryz.prog [1] 48=some p48:=(compF_eq _ _ _).trans (by kernel_rfl)
theorem K49:compF Go.Proofs.Tryz.prog [1] 49=some p49:=(compF_eq _ _ _).trans (by kernel_rfl)
theorem K50:compF Go.Proofs.Tryz.prog [40,2] 50=some p50:=(compF_eq _ _ _).trans (by kernel_rfl)
theorem K51:compF Go.Proofs.Tryz.prog [] 51=some p51:=(compF_eq _ _ _).trans (by kernel_rfl)
theorem K52:compF Go.Proofs.Tryz.prog [5,1] 52=some p52:=(compF_eq _ _ _).trans (by kernel_rfl)
theorem K56:compF Go.Proofs.Tryz.prog [] 56=some p56:=(compF_eq _ _ _).trans (by kernel_rfl)
theorem K59:compF Go.Proofs.Tryz.prog [15,72,11,3] 59=some p59:=(compF_eq _ _ _).trans (by kernel_rfl)
theorem K60:compF Go.Proofs.Tryz.prog [2] 60=some p60:=(compF_eq _ _ _).trans (by kernel_rfl)
theorem K65:compF Go.Proofs.Tryz.prog [1] 65=some p65:=(compF_eq _ _ _).trans (by kernel_rfl)
theorem K66:compF Go.Proofs.Tryz.prog [2] 66=some p66:=(compF_eq _ _ _).trans (by kernel_rfl)
theorem K68:compF Go.Proofs.Tryz.prog [5,2] 68=some p68:=(compF_eq _ _ _).trans (by kernel_rfl)
theorem K69:compF Go.Proofs.Tryz.prog [59,35,1] 69=some p69:=(compF_eq _ _ _).trans (by kernel_rfl)
theorem K72:compF Go.Proofs.Tryz.prog [0] 72=some p72:=(compF_eq _ _ _).trans (by kernel_rfl)
theorem K73:compF Go.Proofs.Tryz.prog [1,0] 73=some p73:=(compF_eq _ _ _).trans (by kernel_rfl)
theorem K74:compF Go.Proofs.Tryz.prog [1,0] 74=some p74:=(compF_eq _ _ _).trans (by kernel_rfl)
theorem K75:compF Go.Proofs.Tryz.prog [] 75=some p75:=(compF_eq _ _ _).trans (by kernel_rfl)
theorem K76:compF Go.Proofs.Tryz.prog [] 76=some p76:=(compF_eq _ _ _).trans (by kernel_rfl)
theorem K77:compF Go.Proofs.Tryz.prog [2] 77=some p77:=(compF_eq _ _ _).trans (by kernel_rfl)
end Go.Pi.Coa
