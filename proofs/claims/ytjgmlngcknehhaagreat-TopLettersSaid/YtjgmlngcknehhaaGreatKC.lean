/- The functions are compiled as printed. -/
import Derived.KernelRfl
import Derived.Test.YtjgmlngcknehhaaGreatTPs
import Derived.Test.YtjgmlngcknehhaaGreatPiH
import Derived.Test.YtjgmlngcknehhaaGreatKA
import Derived.Test.YtjgmlngcknehhaaGreatProg
import Derived.Test.YtjgmlngcknehhaaGreatKB
set_option linter.all false
set_option maxRecDepth 1000000
namespace Go.Pi.Top
open Go Go.Pi
theorem K132:compF Go.Proofs.Tryz.prog [1] 132=some p132:=(compF_eq _ _ _).trans (by kernel_rfl)
theorem K133:compF Go.Proofs.Tryz.prog [] 133=some p133:=(compF_eq _ _ _).trans (by kernel_rfl)
theorem K134:compF Go.Proofs.Tryz.prog [] 134=some p134:=(compF_eq _ _ _).trans (by kernel_rfl)
theorem K135:compF Go.Proofs.Tryz.prog [] 135=some p135:=(compF_eq _ _ _).trans (by kernel_rfl)
theorem K136:compF Go.Proofs.Tryz.prog [] 136=some p136:=(compF_eq _ _ _).trans (by kernel_rfl)
theorem K137:compF Go.Proofs.Tryz.prog [2] 137=some p137:=(compF_eq _ _ _).trans (by kernel_rfl)
theorem K138:compF Go.Proofs.Tryz.prog [10] 138=some p138:=(compF_eq _ _ _).trans (by kernel_rfl)
theorem K139:compF Go.Proofs.Tryz.prog [] 139=some p139:=(compF_eq _ _ _).trans (by kernel_rfl)
theorem K140:compF Go.Proofs.Tryz.prog [61,9] 140=some p140:=(compF_eq _ _ _).trans (by kernel_rfl)
theorem K141:compF Go.Proofs.Tryz.prog [17,13,9] 141=some p141:=(compF_eq _ _ _).trans (by kernel_rfl)
theorem K142:compF Go.Proofs.Tryz.prog [] 142=some p142:=(compF_eq _ _ _).trans (by kernel_rfl)
theorem K143:compF Go.Proofs.Tryz.prog [] 143=some p143:=(compF_eq _ _ _).trans (by kernel_rfl)
theorem K144:compF Go.Proofs.Tryz.prog [11,10,5] 144=some p144:=(compF_eq _ _ _).trans (by kernel_rfl)
theorem K145:compF Go.Proofs.Tryz.prog [] 145=some p145:=(compF_eq _ _ _).trans (by kernel_rfl)
theorem K146:compF Go.Proofs.Tryz.prog [3,2] 146=some p146:=(compF_eq _ _ _).trans (by kernel_rfl)
theorem K147:compF Go.Proofs.Tryz.prog [35,26,9,4,3] 147=some p147:=(compF_eq _ _ _).trans (by kernel_rfl)
theorem K148:compF Go.Proofs.Tryz.prog [42,31,9,4,3] 148=some p148:=(compF_eq _ _ _).trans (by kernel_rfl)
theorem K149:compF Go.Proofs.Tryz.prog [] 149=some p149:=(compF_eq _ _ _).trans (by kernel_rfl)
theorem K150:compF Go.Proofs.Tryz.prog [] 150=some p150:=(compF_eq _ _ _).trans (by kernel_rfl)
theorem K151:compF Go.Proofs.Tryz.prog [1] 151=some p151:=(compF_eq _ _ _).trans (by kernel_rfl)
theorem K152:compF Go.Proofs.Tryz.prog [1] 152=some p152:=(compF_eq _ _ _).trans (by kernel_rfl)
theorem K153:compF Go.Proofs.Tryz.prog [1] 153=some p153:=(compF_eq _ _ _).trans (by kernel_rfl)
theorem K154:compF Go.Proofs.Tryz.prog [1] 154=some p154:=(compF_eq _ _ _).trans (by kernel_rfl)
theorem K158:compF Go.Proofs.Tryz.prog [] 158=some p158:=(compF_eq _ _ _).trans (by kernel_rfl)
theorem K159:compF Go.Proofs.Tryz.prog [] 159=some p159:=(compF_eq _ _ _).trans (by kernel_rfl)
theorem K160:compF Go.Proofs.Tryz.prog [] 160=some p160:=(compF_eq _ _ _).trans (by kernel_rfl)
theorem K161:compF Go.Proofs.Tryz.prog [] 161=some p161:=(compF_eq _ _ _).trans (by kernel_rfl)
theorem K162:compF Go.Proofs.Tryz.prog [4,3] 162=some p162:=(compF_eq _ _ _).trans (by kernel_rfl)
theorem K163:compF Go.Proofs.Tryz.prog [7,6,3] 163=some p163:=(compF_eq _ _ _).trans (by kernel_rfl)
theorem K164:compF Go.Proofs.Tryz.prog [] 164=some p164:=(compF_eq _ _ _).trans (by kernel_rfl)
theorem K165:compF Go.Proofs.Tryz.prog [3,2] 165=some p165:=(compF_eq _ _ _).trans (by kernel_rfl)
theorem K166:compF Go.Proofs.Tryz.prog [] 166=some p166:=(compF_eq _ _ _).trans (by kernel_rfl)
theorem K167:compF Go.Proofs.Tryz.prog [9,6,5,4] 167=some p167:=(compF_eq _ _ _).trans (by kernel_rfl)
theorem K168:compF Go.Proofs.Tryz.prog [2] 168=some p168:=(compF_eq _ _ _).trans (by kernel_rfl)
theorem K170:compF Go.Proofs.Tryz.prog [3] 170=some p170:=(compF_eq _ _ _).trans (by kernel_rfl)
theorem K171:compF Go.Proofs.Tryz.prog [3] 171=some p171:=(compF_eq _ _ _).trans (by kernel_rfl)
theorem K187:compF Go.Proofs.Tryz.prog [4,3] 187=some p187:=(compF_eq _ _ _).trans (by kernel_rfl)
theorem K188:compF Go.Proofs.Tryz.prog [4,3] 188=some p188:=(compF_eq _ _ _).trans (by kernel_rfl)
theorem K189:compF Go.Proofs.Tryz.prog [4,3] 189=some p189:=(compF_eq _ _ _).trans (by kernel_rfl)
theorem K190:compF Go.Proofs.Tryz.prog [4,3] 190=some p190:=(compF_eq _ _ _).trans (by kernel_rfl)
end Go.Pi.Top
set_option maxRecDepth 1000000
namespace Go.Pi.Top
open Go Go.Pi
theorem br {c:Prop}[Decidable c]{a b:Option PFunc}{Q:Prop}{pf:PFunc}(ha:a=some pf→Q)(hb:b=some pf→Q):(if c then a else b)=some pf→Q:=by
 split
 ·exact ha
 ·exact hb
theorem leaf {f n:FuncId}{p pf:PFunc}{Q:FuncId→PFunc→Prop}(hq:Q n p):(if f=n then some p else none)=some pf→Q f pf:=by
 split
 ·rename_i h; subst h; intro h; cases h; exact hq
 ·intro h; cases h
theorem ppok:PPok Go.Proofs.Tryz.prog PP:=by
 have key:∀Q:FuncId→PFunc→Prop,Q 3 p3∧Q 5 p5∧Q 6 p6∧Q 7 p7∧Q 8 p8∧Q 9 p9∧Q 10 p10∧Q 11 p11∧Q 12 p12∧Q 16 p16∧Q 18 p18∧Q 19 p19∧Q 20 p20∧Q 21 p21∧Q 22 p22∧Q 23 p23∧Q 24 p24∧Q 25 p25∧Q 26 p26∧Q 27 p27∧Q 28 p28∧Q 29 p29∧Q 30 p30∧Q 31 p31∧Q 32 p32∧Q 33 p33∧Q 34 p34∧Q 35 p35∧Q 52 p52∧Q 53 p53∧Q 54 p54∧Q 55 p55∧Q 56 p56∧Q 57 p57∧Q 58 p58∧Q 59 p59∧Q 60 p60∧Q 61 p61∧Q 62 p62∧Q 63 p63∧Q 64 p64∧Q 65 p65∧Q 66 p66∧Q 67 p67∧Q 68 p68∧Q 69 p69∧Q 70 p70∧Q 71 p71∧Q 72 p72∧Q 73 p73∧Q 74 p74∧Q 75 p75∧Q 76 p76∧Q 77 p77∧Q 78 p78∧Q 96 p96∧Q 97 p97∧Q 98 p98∧Q 99 p99∧Q 100 p100∧Q 101 p101∧Q 102 p102∧Q 103 p103∧Q 104 p104∧Q 105 p105∧Q 106 p106∧Q 107 p107∧Q 108 p108∧Q 109 p109∧Q 110 p110∧Q 111 p111∧Q 112 p112∧Q 113 p113∧Q 114 p114∧Q 115 p115∧Q 116 p116∧Q 117 p117∧Q 118 p118∧Q 119 p119∧Q 120 p120∧Q 121 p121∧Q 122 p122∧Q 130 p130∧Q 131 p131∧Q 132 p132∧Q 133 p133∧Q 134 p134∧Q 135 p135∧Q 136 p136∧Q 137 p137∧Q 138 p138∧Q 139 p139∧Q 140 p140∧Q 141 p141∧Q 142 p142∧Q 143 p143∧Q 144 p144∧Q 145 p145∧Q 146 p146∧Q 147 p147∧Q 148 p148∧Q 149 p149∧Q 150 p150∧Q 151 p151∧Q 152 p152∧Q 153 p153∧Q 154 p154∧Q 158 p158∧Q 159 p159∧Q 160 p160∧Q 161 p161∧Q 162 p162∧Q 163 p163∧Q 164 p164∧Q 165 p165∧Q 166 p166∧Q 167 p167∧Q 168 p168∧Q 170 p170∧Q 171 p171∧Q 187 p187∧Q 188 p188∧Q 189 p189∧Q 190 p190→∀f pf,PP f=some pf→Q f pf:=by
  intro Q hq f pf
  obtain ⟨q3,q5,q6,q7,q8,q9,q10,q11,q12,q16,q18,q19,q20,q21,q22,q23,q24,q25,q26,q27,q28,q29,q30,q31,q32,q33,q34,q35,q52,q53,q54,q55,q56,q57,q58,q59,q60,q61,q62,q63,q64,q65,q66,q67,q68,q69,q70,q71,q72,q73,q74,q75,q76,q77,q78,q96,q97,q98,q99,q100,q101,q102,q103,q104,q105,q106,q107,q108,q109,q110,q111,q112,q113,q114,q115,q116,q117,q118,q119,q120,q121,q122,q130,q131,q132,q133,q134,q135,q136,q137,q138,q139,q140,q141,q142,q143,q144,q145,q146,q147,q148,q149,q150,q151,q152,q153,q154,q158,q159,q160,q161,q162,q163,q164,q165,q166,q167,q168,q170,q171,q187,q188,q189,q190⟩:=hq
  unfold PP
  repeat' first | refine leaf (Q:=Q) ?_ | refine br ?_ ?_
  all_goals assumption
 exact key _ ⟨⟨_,K3⟩,⟨_,K5⟩,⟨_,K6⟩,⟨_,K7⟩,⟨_,K8⟩,⟨_,K9⟩,⟨_,K10⟩,⟨_,K11⟩,⟨_,K12⟩,⟨_,K16⟩,⟨_,K18⟩,⟨_,K19⟩,⟨_,K20⟩,⟨_,K21⟩,⟨_,K22⟩,⟨_,K23⟩,⟨_,K24⟩,⟨_,K25⟩,⟨_,K26⟩,⟨_,K27⟩,⟨_,K28⟩,⟨_,K29⟩,⟨_,K30⟩,⟨_,K31⟩,⟨_,K32⟩,⟨_,K33⟩,⟨_,K34⟩,⟨_,K35⟩,⟨_,K52⟩,⟨_,K53⟩,⟨_,K54⟩,⟨_,K55⟩,⟨_,K56⟩,⟨_,K57⟩,⟨_,K58⟩,⟨_,K59⟩,⟨_,K60⟩,⟨_,K61⟩,⟨_,K62⟩,⟨_,K63⟩,⟨_,K64⟩,⟨_,K65⟩,⟨_,K66⟩,⟨_,K67⟩,⟨_,K68⟩,⟨_,K69⟩,⟨_,K70⟩,⟨_,K71⟩,⟨_,K72⟩,⟨_,K73⟩,⟨_,K74⟩,⟨_,K75⟩,⟨_,K76⟩,⟨_,K77⟩,⟨_,K78⟩,⟨_,K96⟩,⟨_,K97⟩,⟨_,K98⟩,⟨_,K99⟩,⟨_,K100⟩,⟨_,K101⟩,⟨_,K102⟩,⟨_,K103⟩,⟨_,K104⟩,⟨_,K105⟩,⟨_,K106⟩,⟨_,K107⟩,⟨_,K108⟩,⟨_,K109⟩,⟨_,K110⟩,⟨_,K111⟩,⟨_,K112⟩,⟨_,K113⟩,⟨_,K114⟩,⟨_,K115⟩,⟨_,K116⟩,⟨_,K117⟩,⟨_,K118⟩,⟨_,K119⟩,⟨_,K120⟩,⟨_,K121⟩,⟨_,K122⟩,⟨_,K130⟩,⟨_,K131⟩,⟨_,K132⟩,⟨_,K133⟩,⟨_,K134⟩,⟨_,K135⟩,⟨_,K136⟩,⟨_,K137⟩,⟨_,K138⟩,⟨_,K139⟩,⟨_,K140⟩,⟨_,K141⟩,⟨_,K142⟩,⟨_,K143⟩,⟨_,K144⟩,⟨_,K145⟩,⟨_,K146⟩,⟨_,K147⟩,⟨_,K148⟩,⟨_,K149⟩,⟨_,K150⟩,⟨_,K151⟩,⟨_,K152⟩,⟨_,K153⟩,⟨_,K154⟩,⟨_,K158⟩,⟨_,K159⟩,⟨_,K160⟩,⟨_,K161⟩,⟨_,K162⟩,⟨_,K163⟩,⟨_,K164⟩,⟨_,K165⟩,⟨_,K166⟩,⟨_,K167⟩,⟨_,K168⟩,⟨_,K170⟩,⟨_,K171⟩,⟨_,K187⟩,⟨_,K188⟩,⟨_,K189⟩,⟨_,K190⟩⟩
end Go.Pi.Top
