/- The functions are compiled as printed. -/
import Derived.KernelRfl
import Derived.Test.YtjidjpcnocddeaaGreatDoorCPb
import Derived.Test.YtjidjpcnocddeaaGreatDoorPiH
import Derived.Test.YtjidjpcnocddeaaGreatDoorKA
import Derived.Test.YtjidjpcnocddeaaGreatDoorProg
import Derived.Test.YtjidjpcnocddeaaGreatDoorKB
set_option linter.all false
set_option maxRecDepth 1000000
namespace Go.Pi.Coa
open Go Go.Pi
theorem K119:compF Go.Proofs.Tryz.prog [1] 119=some p119:=(compF_eq _ _ _).trans (by kernel_rfl)
theorem K120:compF Go.Proofs.Tryz.prog [] 120=some p120:=(compF_eq _ _ _).trans (by kernel_rfl)
theorem K121:compF Go.Proofs.Tryz.prog [] 121=some p121:=(compF_eq _ _ _).trans (by kernel_rfl)
theorem K122:compF Go.Proofs.Tryz.prog [] 122=some p122:=(compF_eq _ _ _).trans (by kernel_rfl)
theorem K123:compF Go.Proofs.Tryz.prog [] 123=some p123:=(compF_eq _ _ _).trans (by kernel_rfl)
theorem K124:compF Go.Proofs.Tryz.prog [] 124=some p124:=(compF_eq _ _ _).trans (by kernel_rfl)
theorem K125:compF Go.Proofs.Tryz.prog [] 125=some p125:=(compF_eq _ _ _).trans (by kernel_rfl)
theorem K126:compF Go.Proofs.Tryz.prog [] 126=some p126:=(compF_eq _ _ _).trans (by kernel_rfl)
theorem K127:compF Go.Proofs.Tryz.prog [] 127=some p127:=(compF_eq _ _ _).trans (by kernel_rfl)
theorem K128:compF Go.Proofs.Tryz.prog [11,10,5] 128=some p128:=(compF_eq _ _ _).trans (by kernel_rfl)
theorem K129:compF Go.Proofs.Tryz.prog [3] 129=some p129:=(compF_eq _ _ _).trans (by kernel_rfl)
theorem K130:compF Go.Proofs.Tryz.prog [3] 130=some p130:=(compF_eq _ _ _).trans (by kernel_rfl)
theorem K131:compF Go.Proofs.Tryz.prog [] 131=some p131:=(compF_eq _ _ _).trans (by kernel_rfl)
theorem K132:compF Go.Proofs.Tryz.prog [] 132=some p132:=(compF_eq _ _ _).trans (by kernel_rfl)
theorem K133:compF Go.Proofs.Tryz.prog [1] 133=some p133:=(compF_eq _ _ _).trans (by kernel_rfl)
theorem K134:compF Go.Proofs.Tryz.prog [] 134=some p134:=(compF_eq _ _ _).trans (by kernel_rfl)
theorem K135:compF Go.Proofs.Tryz.prog [] 135=some p135:=(compF_eq _ _ _).trans (by kernel_rfl)
theorem K136:compF Go.Proofs.Tryz.prog [61,9] 136=some p136:=(compF_eq _ _ _).trans (by kernel_rfl)
theorem K137:compF Go.Proofs.Tryz.prog [] 137=some p137:=(compF_eq _ _ _).trans (by kernel_rfl)
theorem K138:compF Go.Proofs.Tryz.prog [17,13,9] 138=some p138:=(compF_eq _ _ _).trans (by kernel_rfl)
theorem K139:compF Go.Proofs.Tryz.prog [] 139=some p139:=(compF_eq _ _ _).trans (by kernel_rfl)
theorem K142:compF Go.Proofs.Tryz.prog [4,3] 142=some p142:=(compF_eq _ _ _).trans (by kernel_rfl)
theorem K143:compF Go.Proofs.Tryz.prog [] 143=some p143:=(compF_eq _ _ _).trans (by kernel_rfl)
theorem K144:compF Go.Proofs.Tryz.prog [] 144=some p144:=(compF_eq _ _ _).trans (by kernel_rfl)
theorem K145:compF Go.Proofs.Tryz.prog [1] 145=some p145:=(compF_eq _ _ _).trans (by kernel_rfl)
theorem K146:compF Go.Proofs.Tryz.prog [] 146=some p146:=(compF_eq _ _ _).trans (by kernel_rfl)
theorem K147:compF Go.Proofs.Tryz.prog [1] 147=some p147:=(compF_eq _ _ _).trans (by kernel_rfl)
theorem K148:compF Go.Proofs.Tryz.prog [41,32,24,12] 148=some p148:=(compF_eq _ _ _).trans (by kernel_rfl)
theorem K149:compF Go.Proofs.Tryz.prog [] 149=some p149:=(compF_eq _ _ _).trans (by kernel_rfl)
theorem K150:compF Go.Proofs.Tryz.prog [] 150=some p150:=(compF_eq _ _ _).trans (by kernel_rfl)
theorem K151:compF Go.Proofs.Tryz.prog [] 151=some p151:=(compF_eq _ _ _).trans (by kernel_rfl)
theorem K152:compF Go.Proofs.Tryz.prog [] 152=some p152:=(compF_eq _ _ _).trans (by kernel_rfl)
theorem K153:compF Go.Proofs.Tryz.prog [] 153=some p153:=(compF_eq _ _ _).trans (by kernel_rfl)
theorem K154:compF Go.Proofs.Tryz.prog [10] 154=some p154:=(compF_eq _ _ _).trans (by kernel_rfl)
theorem K155:compF Go.Proofs.Tryz.prog [] 155=some p155:=(compF_eq _ _ _).trans (by kernel_rfl)
theorem K156:compF Go.Proofs.Tryz.prog [] 156=some p156:=(compF_eq _ _ _).trans (by kernel_rfl)
theorem K159:compF Go.Proofs.Tryz.prog [] 159=some p159:=(compF_eq _ _ _).trans (by kernel_rfl)
theorem K164:compF Go.Proofs.Tryz.prog [] 164=some p164:=(compF_eq _ _ _).trans (by kernel_rfl)
theorem K173:compF Go.Proofs.Tryz.prog [] 173=some p173:=(compF_eq _ _ _).trans (by kernel_rfl)
theorem K174:compF Go.Proofs.Tryz.prog [] 174=some p174:=(compF_eq _ _ _).trans (by kernel_rfl)
end Go.Pi.Coa
set_option maxRecDepth 1000000
namespace Go.Pi.Coa
open Go Go.Pi
theorem br {c:Prop}[Decidable c]{a b:Option PFunc}{Q:Prop}{pf:PFunc}(ha:a=some pf→Q)(hb:b=some pf→Q):(if c then a else b)=some pf→Q:=by
 split
 ·exact ha
 ·exact hb
theorem leaf {f n:FuncId}{p pf:PFunc}{Q:FuncId→PFunc→Prop}(hq:Q n p):(if f=n then some p else none)=some pf→Q f pf:=by
 split
 ·rename_i h; subst h; intro h; cases h; exact hq
 ·intro h; cases h
theorem ppok:PPok Go.Proofs.Tryz.prog PP:=by
 have key:∀Q:FuncId→PFunc→Prop,Q 3 p3∧Q 18 p18∧Q 19 p19∧Q 20 p20∧Q 21 p21∧Q 22 p22∧Q 23 p23∧Q 24 p24∧Q 25 p25∧Q 26 p26∧Q 27 p27∧Q 28 p28∧Q 30 p30∧Q 31 p31∧Q 32 p32∧Q 33 p33∧Q 35 p35∧Q 36 p36∧Q 37 p37∧Q 38 p38∧Q 39 p39∧Q 41 p41∧Q 42 p42∧Q 45 p45∧Q 46 p46∧Q 47 p47∧Q 51 p51∧Q 52 p52∧Q 56 p56∧Q 59 p59∧Q 60 p60∧Q 65 p65∧Q 66 p66∧Q 67 p67∧Q 68 p68∧Q 69 p69∧Q 70 p70∧Q 71 p71∧Q 72 p72∧Q 73 p73∧Q 74 p74∧Q 75 p75∧Q 76 p76∧Q 77 p77∧Q 78 p78∧Q 79 p79∧Q 80 p80∧Q 81 p81∧Q 82 p82∧Q 83 p83∧Q 84 p84∧Q 85 p85∧Q 86 p86∧Q 87 p87∧Q 89 p89∧Q 91 p91∧Q 92 p92∧Q 93 p93∧Q 94 p94∧Q 95 p95∧Q 96 p96∧Q 97 p97∧Q 98 p98∧Q 99 p99∧Q 100 p100∧Q 101 p101∧Q 102 p102∧Q 104 p104∧Q 105 p105∧Q 106 p106∧Q 107 p107∧Q 108 p108∧Q 109 p109∧Q 110 p110∧Q 111 p111∧Q 112 p112∧Q 113 p113∧Q 114 p114∧Q 115 p115∧Q 116 p116∧Q 117 p117∧Q 118 p118∧Q 119 p119∧Q 120 p120∧Q 121 p121∧Q 122 p122∧Q 123 p123∧Q 124 p124∧Q 125 p125∧Q 126 p126∧Q 127 p127∧Q 128 p128∧Q 129 p129∧Q 130 p130∧Q 131 p131∧Q 132 p132∧Q 133 p133∧Q 134 p134∧Q 135 p135∧Q 136 p136∧Q 137 p137∧Q 138 p138∧Q 139 p139∧Q 142 p142∧Q 143 p143∧Q 144 p144∧Q 145 p145∧Q 146 p146∧Q 147 p147∧Q 148 p148∧Q 149 p149∧Q 150 p150∧Q 151 p151∧Q 152 p152∧Q 153 p153∧Q 154 p154∧Q 155 p155∧Q 156 p156∧Q 159 p159∧Q 164 p164∧Q 173 p173∧Q 174 p174→∀f pf,PP f=some pf→Q f pf:=by
  intro Q hq f pf
  obtain ⟨q3,q18,q19,q20,q21,q22,q23,q24,q25,q26,q27,q28,q30,q31,q32,q33,q35,q36,q37,q38,q39,q41,q42,q45,q46,q47,q51,q52,q56,q59,q60,q65,q66,q67,q68,q69,q70,q71,q72,q73,q74,q75,q76,q77,q78,q79,q80,q81,q82,q83,q84,q85,q86,q87,q89,q91,q92,q93,q94,q95,q96,q97,q98,q99,q100,q101,q102,q104,q105,q106,q107,q108,q109,q110,q111,q112,q113,q114,q115,q116,q117,q118,q119,q120,q121,q122,q123,q124,q125,q126,q127,q128,q129,q130,q131,q132,q133,q134,q135,q136,q137,q138,q139,q142,q143,q144,q145,q146,q147,q148,q149,q150,q151,q152,q153,q154,q155,q156,q159,q164,q173,q174⟩:=hq
  unfold PP
  repeat' first | refine leaf (Q:=Q) ?_ | refine br ?_ ?_
  all_goals assumption
 exact key _ ⟨⟨_,K3⟩,⟨_,K18⟩,⟨_,K19⟩,⟨_,K20⟩,⟨_,K21⟩,⟨_,K22⟩,⟨_,K23⟩,⟨_,K24⟩,⟨_,K25⟩,⟨_,K26⟩,⟨_,K27⟩,⟨_,K28⟩,⟨_,K30⟩,⟨_,K31⟩,⟨_,K32⟩,⟨_,K33⟩,⟨_,K35⟩,⟨_,K36⟩,⟨_,K37⟩,⟨_,K38⟩,⟨_,K39⟩,⟨_,K41⟩,⟨_,K42⟩,⟨_,K45⟩,⟨_,K46⟩,⟨_,K47⟩,⟨_,K51⟩,⟨_,K52⟩,⟨_,K56⟩,⟨_,K59⟩,⟨_,K60⟩,⟨_,K65⟩,⟨_,K66⟩,⟨_,K67⟩,⟨_,K68⟩,⟨_,K69⟩,⟨_,K70⟩,⟨_,K71⟩,⟨_,K72⟩,⟨_,K73⟩,⟨_,K74⟩,⟨_,K75⟩,⟨_,K76⟩,⟨_,K77⟩,⟨_,K78⟩,⟨_,K79⟩,⟨_,K80⟩,⟨_,K81⟩,⟨_,K82⟩,⟨_,K83⟩,⟨_,K84⟩,⟨_,K85⟩,⟨_,K86⟩,⟨_,K87⟩,⟨_,K89⟩,⟨_,K91⟩,⟨_,K92⟩,⟨_,K93⟩,⟨_,K94⟩,⟨_,K95⟩,⟨_,K96⟩,⟨_,K97⟩,⟨_,K98⟩,⟨_,K99⟩,⟨_,K100⟩,⟨_,K101⟩,⟨_,K102⟩,⟨_,K104⟩,⟨_,K105⟩,⟨_,K106⟩,⟨_,K107⟩,⟨_,K108⟩,⟨_,K109⟩,⟨_,K110⟩,⟨_,K111⟩,⟨_,K112⟩,⟨_,K113⟩,⟨_,K114⟩,⟨_,K115⟩,⟨_,K116⟩,⟨_,K117⟩,⟨_,K118⟩,⟨_,K119⟩,⟨_,K120⟩,⟨_,K121⟩,⟨_,K122⟩,⟨_,K123⟩,⟨_,K124⟩,⟨_,K125⟩,⟨_,K126⟩,⟨_,K127⟩,⟨_,K128⟩,⟨_,K129⟩,⟨_,K130⟩,⟨_,K131⟩,⟨_,K132⟩,⟨_,K133⟩,⟨_,K134⟩,⟨_,K135⟩,⟨_,K136⟩,⟨_,K137⟩,⟨_,K138⟩,⟨_,K139⟩,⟨_,K142⟩,⟨_,K143⟩,⟨_,K144⟩,⟨_,K145⟩,⟨_,K146⟩,⟨_,K147⟩,⟨_,K148⟩,⟨_,K149⟩,⟨_,K150⟩,⟨_,K151⟩,⟨_,K152⟩,⟨_,K153⟩,⟨_,K154⟩,⟨_,K155⟩,⟨_,K156⟩,⟨_,K159⟩,⟨_,K164⟩,⟨_,K173⟩,⟨_,K174⟩⟩
end Go.Pi.Coa
