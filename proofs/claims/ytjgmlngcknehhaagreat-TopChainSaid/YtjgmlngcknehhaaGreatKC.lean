/- The functions are compiled as printed. -/
import Derived.KernelRfl
import Derived.Test.YtjgmlngcknehhaaGreatTPs
import Derived.Test.YtjgmlngcknehhaaGreatPiH
import Derived.Test.YtjgmlngcknehhaaGreatKA
import Derived.Test.YtjgmlngcknehhaaGreatProg
import Derived.Test.YtjgmlngcknehhaaGreatKB
set_option linter.all false
set_option maxRecDepth 1000000
namespace Go.Pi.Top
open Go Go.Pi
theorem K124:compF Go.Proofs.Tryz.prog [44,13,5,4] 124=some p124:=(compF_eq _ _ _).trans (by kernel_rfl)
theorem K125:compF Go.Proofs.Tryz.prog [] 125=some p125:=(compF_eq _ _ _).trans (by kernel_rfl)
theorem K126:compF Go.Proofs.Tryz.prog [2] 126=some p126:=(compF_eq _ _ _).trans (by kernel_rfl)
theorem K127:compF Go.Proofs.Tryz.prog [1] 127=some p127:=(compF_eq _ _ _).trans (by kernel_rfl)
theorem K128:compF Go.Proofs.Tryz.prog [1] 128=some p128:=(compF_eq _ _ _).trans (by kernel_rfl)
theorem K129:compF Go.Proofs.Tryz.prog [32,3] 129=some p129:=(compF_eq _ _ _).trans (by kernel_rfl)
theorem K130:compF Go.Proofs.Tryz.prog [1] 130=some p130:=(compF_eq _ _ _).trans (by kernel_rfl)
theorem K131:compF Go.Proofs.Tryz.prog [] 131=some p131:=(compF_eq _ _ _).trans (by kernel_rfl)
theorem K132:compF Go.Proofs.Tryz.prog [1] 132=some p132:=(compF_eq _ _ _).trans (by kernel_rfl)
theorem K133:compF Go.Proofs.Tryz.prog [] 133=some p133:=(compF_eq _ _ _).trans (by kernel_rfl)
theorem K134:compF Go.Proofs.Tryz.prog [] 134=some p134:=(compF_eq _ _ _).trans (by kernel_rfl)
theorem K135:compF Go.Proofs.Tryz.prog [] 135=some p135:=(compF_eq _ _ _).trans (by kernel_rfl)
theorem K136:compF Go.Proofs.Tryz.prog [] 136=some p136:=(compF_eq _ _ _).trans (by kernel_rfl)
theorem K137:compF Go.Proofs.Tryz.prog [2] 137=some p137:=(compF_eq _ _ _).trans (by kernel_rfl)
theorem K138:compF Go.Proofs.Tryz.prog [10] 138=some p138:=(compF_eq _ _ _).trans (by kernel_rfl)
theorem K139:compF Go.Proofs.Tryz.prog [] 139=some p139:=(compF_eq _ _ _).trans (by kernel_rfl)
theorem K140:compF Go.Proofs.Tryz.prog [61,9] 140=some p140:=(compF_eq _ _ _).trans (by kernel_rfl)
theorem K141:compF Go.Proofs.Tryz.prog [17,13,9] 141=some p141:=(compF_eq _ _ _).trans (by kernel_rfl)
theorem K142:compF Go.Proofs.Tryz.prog [] 142=some p142:=(compF_eq _ _ _).trans (by kernel_rfl)
theorem K143:compF Go.Proofs.Tryz.prog [] 143=some p143:=(compF_eq _ _ _).trans (by kernel_rfl)
theorem K144:compF Go.Proofs.Tryz.prog [11,10,5] 144=some p144:=(compF_eq _ _ _).trans (by kernel_rfl)
theorem K145:compF Go.Proofs.Tryz.prog [] 145=some p145:=(compF_eq _ _ _).trans (by kernel_rfl)
theorem K146:compF Go.Proofs.Tryz.prog [3,2] 146=some p146:=(compF_eq _ _ _).trans (by kernel_rfl)
theorem K147:compF Go.Proofs.Tryz.prog [35,26,9,4,3] 147=some p147:=(compF_eq _ _ _).trans (by kernel_rfl)
theorem K148:compF Go.Proofs.Tryz.prog [42,31,9,4,3] 148=some p148:=(compF_eq _ _ _).trans (by kernel_rfl)
theorem K155:compF Go.Proofs.Tryz.prog [] 155=some p155:=(compF_eq _ _ _).trans (by kernel_rfl)
theorem K156:compF Go.Proofs.Tryz.prog [2] 156=some p156:=(compF_eq _ _ _).trans (by kernel_rfl)
theorem K157:compF Go.Proofs.Tryz.prog [3] 157=some p157:=(compF_eq _ _ _).trans (by kernel_rfl)
theorem K158:compF Go.Proofs.Tryz.prog [] 158=some p158:=(compF_eq _ _ _).trans (by kernel_rfl)
theorem K159:compF Go.Proofs.Tryz.prog [] 159=some p159:=(compF_eq _ _ _).trans (by kernel_rfl)
theorem K160:compF Go.Proofs.Tryz.prog [] 160=some p160:=(compF_eq _ _ _).trans (by kernel_rfl)
theorem K161:compF Go.Proofs.Tryz.prog [] 161=some p161:=(compF_eq _ _ _).trans (by kernel_rfl)
theorem K162:compF Go.Proofs.Tryz.prog [4,3] 162=some p162:=(compF_eq _ _ _).trans (by kernel_rfl)
theorem K163:compF Go.Proofs.Tryz.prog [7,6,3] 163=some p163:=(compF_eq _ _ _).trans (by kernel_rfl)
theorem K164:compF Go.Proofs.Tryz.prog [] 164=some p164:=(compF_eq _ _ _).trans (by kernel_rfl)
theorem K165:compF Go.Proofs.Tryz.prog [3,2] 165=some p165:=(compF_eq _ _ _).trans (by kernel_rfl)
theorem K166:compF Go.Proofs.Tryz.prog [] 166=some p166:=(compF_eq _ _ _).trans (by kernel_rfl)
theorem K167:compF Go.Proofs.Tryz.prog [9,6,5,4] 167=some p167:=(compF_eq _ _ _).trans (by kernel_rfl)
theorem K168:compF Go.Proofs.Tryz.prog [2] 168=some p168:=(compF_eq _ _ _).trans (by kernel_rfl)
theorem K169:compF Go.Proofs.Tryz.prog [2] 169=some p169:=(compF_eq _ _ _).trans (by kernel_rfl)
theorem K170:compF Go.Proofs.Tryz.prog [3] 170=some p170:=(compF_eq _ _ _).trans (by kernel_rfl)
theorem K171:compF Go.Proofs.Tryz.prog [3] 171=some p171:=(compF_eq _ _ _).trans (by kernel_rfl)
end Go.Pi.Top
set_option maxRecDepth 1000000
namespace Go.Pi.Top
open Go Go.Pi
theorem br {c:Prop}[Decidable c]{a b:Option PFunc}{Q:Prop}{pf:PFunc}(ha:a=some pf→Q)(hb:b=some pf→Q):(if c then a else b)=some pf→Q:=by
 split
 ·exact ha
 ·exact hb
theorem leaf {f n:FuncId}{p pf:PFunc}{Q:FuncId→PFunc→Prop}(hq:Q n p):(if f=n then some p else none)=some pf→Q f pf:=by
 split
 ·rename_i h; subst h; intro h; cases h; exact hq
 ·intro h; cases h
theorem ppok:PPok Go.Proofs.Tryz.prog PP:=by
 have key:∀Q:FuncId→PFunc→Prop,Q 4 p4∧Q 6 p6∧Q 7 p7∧Q 9 p9∧Q 13 p13∧Q 14 p14∧Q 15 p15∧Q 16 p16∧Q 17 p17∧Q 23 p23∧Q 24 p24∧Q 25 p25∧Q 26 p26∧Q 27 p27∧Q 28 p28∧Q 29 p29∧Q 36 p36∧Q 37 p37∧Q 38 p38∧Q 39 p39∧Q 40 p40∧Q 41 p41∧Q 42 p42∧Q 43 p43∧Q 44 p44∧Q 45 p45∧Q 46 p46∧Q 47 p47∧Q 48 p48∧Q 49 p49∧Q 50 p50∧Q 51 p51∧Q 53 p53∧Q 54 p54∧Q 55 p55∧Q 56 p56∧Q 57 p57∧Q 58 p58∧Q 59 p59∧Q 60 p60∧Q 61 p61∧Q 62 p62∧Q 63 p63∧Q 64 p64∧Q 65 p65∧Q 66 p66∧Q 67 p67∧Q 68 p68∧Q 69 p69∧Q 79 p79∧Q 80 p80∧Q 81 p81∧Q 82 p82∧Q 83 p83∧Q 84 p84∧Q 85 p85∧Q 86 p86∧Q 87 p87∧Q 88 p88∧Q 89 p89∧Q 90 p90∧Q 91 p91∧Q 92 p92∧Q 93 p93∧Q 94 p94∧Q 95 p95∧Q 96 p96∧Q 97 p97∧Q 98 p98∧Q 99 p99∧Q 100 p100∧Q 101 p101∧Q 102 p102∧Q 103 p103∧Q 104 p104∧Q 105 p105∧Q 106 p106∧Q 107 p107∧Q 108 p108∧Q 109 p109∧Q 110 p110∧Q 111 p111∧Q 112 p112∧Q 123 p123∧Q 124 p124∧Q 125 p125∧Q 126 p126∧Q 127 p127∧Q 128 p128∧Q 129 p129∧Q 130 p130∧Q 131 p131∧Q 132 p132∧Q 133 p133∧Q 134 p134∧Q 135 p135∧Q 136 p136∧Q 137 p137∧Q 138 p138∧Q 139 p139∧Q 140 p140∧Q 141 p141∧Q 142 p142∧Q 143 p143∧Q 144 p144∧Q 145 p145∧Q 146 p146∧Q 147 p147∧Q 148 p148∧Q 155 p155∧Q 156 p156∧Q 157 p157∧Q 158 p158∧Q 159 p159∧Q 160 p160∧Q 161 p161∧Q 162 p162∧Q 163 p163∧Q 164 p164∧Q 165 p165∧Q 166 p166∧Q 167 p167∧Q 168 p168∧Q 169 p169∧Q 170 p170∧Q 171 p171→∀f pf,PP f=some pf→Q f pf:=by
  intro Q hq f pf
  obtain ⟨q4,q6,q7,q9,q13,q14,q15,q16,q17,q23,q24,q25,q26,q27,q28,q29,q36,q37,q38,q39,q40,q41,q42,q43,q44,q45,q46,q47,q48,q49,q50,q51,q53,q54,q55,q56,q57,q58,q59,q60,q61,q62,q63,q64,q65,q66,q67,q68,q69,q79,q80,q81,q82,q83,q84,q85,q86,q87,q88,q89,q90,q91,q92,q93,q94,q95,q96,q97,q98,q99,q100,q101,q102,q103,q104,q105,q106,q107,q108,q109,q110,q111,q112,q123,q124,q125,q126,q127,q128,q129,q130,q131,q132,q133,q134,q135,q136,q137,q138,q139,q140,q141,q142,q143,q144,q145,q146,q147,q148,q155,q156,q157,q158,q159,q160,q161,q162,q163,q164,q165,q166,q167,q168,q169,q170,q171⟩:=hq
  unfold PP
  repeat' first | refine leaf (Q:=Q) ?_ | refine br ?_ ?_
  all_goals assumption
 exact key _ ⟨⟨_,K4⟩,⟨_,K6⟩,⟨_,K7⟩,⟨_,K9⟩,⟨_,K13⟩,⟨_,K14⟩,⟨_,K15⟩,⟨_,K16⟩,⟨_,K17⟩,⟨_,K23⟩,⟨_,K24⟩,⟨_,K25⟩,⟨_,K26⟩,⟨_,K27⟩,⟨_,K28⟩,⟨_,K29⟩,⟨_,K36⟩,⟨_,K37⟩,⟨_,K38⟩,⟨_,K39⟩,⟨_,K40⟩,⟨_,K41⟩,⟨_,K42⟩,⟨_,K43⟩,⟨_,K44⟩,⟨_,K45⟩,⟨_,K46⟩,⟨_,K47⟩,⟨_,K48⟩,⟨_,K49⟩,⟨_,K50⟩,⟨_,K51⟩,⟨_,K53⟩,⟨_,K54⟩,⟨_,K55⟩,⟨_,K56⟩,⟨_,K57⟩,⟨_,K58⟩,⟨_,K59⟩,⟨_,K60⟩,⟨_,K61⟩,⟨_,K62⟩,⟨_,K63⟩,⟨_,K64⟩,⟨_,K65⟩,⟨_,K66⟩,⟨_,K67⟩,⟨_,K68⟩,⟨_,K69⟩,⟨_,K79⟩,⟨_,K80⟩,⟨_,K81⟩,⟨_,K82⟩,⟨_,K83⟩,⟨_,K84⟩,⟨_,K85⟩,⟨_,K86⟩,⟨_,K87⟩,⟨_,K88⟩,⟨_,K89⟩,⟨_,K90⟩,⟨_,K91⟩,⟨_,K92⟩,⟨_,K93⟩,⟨_,K94⟩,⟨_,K95⟩,⟨_,K96⟩,⟨_,K97⟩,⟨_,K98⟩,⟨_,K99⟩,⟨_,K100⟩,⟨_,K101⟩,⟨_,K102⟩,⟨_,K103⟩,⟨_,K104⟩,⟨_,K105⟩,⟨_,K106⟩,⟨_,K107⟩,⟨_,K108⟩,⟨_,K109⟩,⟨_,K110⟩,⟨_,K111⟩,⟨_,K112⟩,⟨_,K123⟩,⟨_,K124⟩,⟨_,K125⟩,⟨_,K126⟩,⟨_,K127⟩,⟨_,K128⟩,⟨_,K129⟩,⟨_,K130⟩,⟨_,K131⟩,⟨_,K132⟩,⟨_,K133⟩,⟨_,K134⟩,⟨_,K135⟩,⟨_,K136⟩,⟨_,K137⟩,⟨_,K138⟩,⟨_,K139⟩,⟨_,K140⟩,⟨_,K141⟩,⟨_,K142⟩,⟨_,K143⟩,⟨_,K144⟩,⟨_,K145⟩,⟨_,K146⟩,⟨_,K147⟩,⟨_,K148⟩,⟨_,K155⟩,⟨_,K156⟩,⟨_,K157⟩,⟨_,K158⟩,⟨_,K159⟩,⟨_,K160⟩,⟨_,K161⟩,⟨_,K162⟩,⟨_,K163⟩,⟨_,K164⟩,⟨_,K165⟩,⟨_,K166⟩,⟨_,K167⟩,⟨_,K168⟩,⟨_,K169⟩,⟨_,K170⟩,⟨_,K171⟩⟩
end Go.Pi.Top
