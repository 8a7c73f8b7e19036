/- The functions are compiled as printed. -/
import Derived.KernelRfl
import Derived.Test.YtjgmlngcknehhaaFadP
import Derived.Test.YtjgmlngcknehhaaPiH
import Derived.Test.YtjgmlngcknehhaaProg
set_option linter.all false
set_option linter.unusedVariables false
set_option linter.unusedSimpArgs false
set_option linter.unusedSectionVars false
set_option maxRecDepth 1000000
namespace Go.Pi.Fad
open Go Go.Pi
theorem K2 : compF Go.Proofs.Try.prog [] 2 = some p2 := by kernel_rfl
theorem K3 : compF Go.Proofs.Try.prog [12, 11, 59, 9, 5] 3 = some p3 := by kernel_rfl
theorem K4 : compF Go.Proofs.Try.prog [] 4 = some p4 := by kernel_rfl
theorem K5 : compF Go.Proofs.Try.prog [] 5 = some p5 := by kernel_rfl
theorem K6 : compF Go.Proofs.Try.prog [2, 1] 6 = some p6 := by kernel_rfl
theorem K7 : compF Go.Proofs.Try.prog [13, 7, 6, 2] 7 = some p7 := by kernel_rfl
theorem K8 : compF Go.Proofs.Try.prog [6, 1] 8 = some p8 := by kernel_rfl
theorem K9 : compF Go.Proofs.Try.prog [1, 0] 9 = some p9 := by kernel_rfl
theorem K10 : compF Go.Proofs.Try.prog [1] 10 = some p10 := by kernel_rfl
theorem K11 : compF Go.Proofs.Try.prog [0] 11 = some p11 := by kernel_rfl
theorem K12 : compF Go.Proofs.Try.prog [] 12 = some p12 := by kernel_rfl
theorem K13 : compF Go.Proofs.Try.prog [1] 13 = some p13 := by kernel_rfl
theorem K14 : compF Go.Proofs.Try.prog [3, 2, 1] 14 = some p14 := by kernel_rfl
theorem K15 : compF Go.Proofs.Try.prog [] 15 = some p15 := by kernel_rfl
theorem K16 : compF Go.Proofs.Try.prog [] 16 = some p16 := by kernel_rfl
theorem K17 : compF Go.Proofs.Try.prog [40, 28, 5, 3, 2, 1] 17 = some p17 := by kernel_rfl
theorem K18 : compF Go.Proofs.Try.prog [4] 18 = some p18 := by kernel_rfl
theorem K19 : compF Go.Proofs.Try.prog [3] 19 = some p19 := by kernel_rfl
theorem K20 : compF Go.Proofs.Try.prog [7, 6, 3] 20 = some p20 := by kernel_rfl
theorem K21 : compF Go.Proofs.Try.prog [4] 21 = some p21 := by kernel_rfl
theorem K22 : compF Go.Proofs.Try.prog [5, 3, 2, 1] 22 = some p22 := by kernel_rfl
theorem K23 : compF Go.Proofs.Try.prog [42, 7, 5, 4, 2] 23 = some p23 := by kernel_rfl
theorem K24 : compF Go.Proofs.Try.prog [6] 24 = some p24 := by kernel_rfl
theorem K25 : compF Go.Proofs.Try.prog [0] 25 = some p25 := by kernel_rfl
theorem K26 : compF Go.Proofs.Try.prog [2] 26 = some p26 := by kernel_rfl
theorem K27 : compF Go.Proofs.Try.prog [4] 27 = some p27 := by kernel_rfl
theorem K28 : compF Go.Proofs.Try.prog [] 28 = some p28 := by kernel_rfl
theorem K29 : compF Go.Proofs.Try.prog [2] 29 = some p29 := by kernel_rfl
theorem K30 : compF Go.Proofs.Try.prog [] 30 = some p30 := by kernel_rfl
theorem K31 : compF Go.Proofs.Try.prog [2] 31 = some p31 := by kernel_rfl
theorem K32 : compF Go.Proofs.Try.prog [7, 6, 3] 32 = some p32 := by kernel_rfl
theorem K33 : compF Go.Proofs.Try.prog [1] 33 = some p33 := by kernel_rfl
theorem K34 : compF Go.Proofs.Try.prog [] 34 = some p34 := by kernel_rfl
theorem K35 : compF Go.Proofs.Try.prog [1] 35 = some p35 := by kernel_rfl
theorem K36 : compF Go.Proofs.Try.prog [] 36 = some p36 := by kernel_rfl
theorem K37 : compF Go.Proofs.Try.prog [] 37 = some p37 := by kernel_rfl
theorem K38 : compF Go.Proofs.Try.prog [] 38 = some p38 := by kernel_rfl
theorem K39 : compF Go.Proofs.Try.prog [] 39 = some p39 := by kernel_rfl
theorem K40 : compF Go.Proofs.Try.prog [] 40 = some p40 := by kernel_rfl
theorem K41 : compF Go.Proofs.Try.prog [2] 41 = some p41 := by kernel_rfl
theorem K42 : compF Go.Proofs.Try.prog [] 42 = some p42 := by kernel_rfl
theorem K43 : compF Go.Proofs.Try.prog [] 43 = some p43 := by kernel_rfl
theorem K44 : compF Go.Proofs.Try.prog [] 44 = some p44 := by kernel_rfl
theorem K45 : compF Go.Proofs.Try.prog [] 45 = some p45 := by kernel_rfl
theorem K46 : compF Go.Proofs.Try.prog [11, 10, 5] 46 = some p46 := by kernel_rfl
theorem K47 : compF Go.Proofs.Try.prog [3] 47 = some p47 := by kernel_rfl
theorem K48 : compF Go.Proofs.Try.prog [3] 48 = some p48 := by kernel_rfl
theorem K49 : compF Go.Proofs.Try.prog [] 49 = some p49 := by kernel_rfl
theorem K50 : compF Go.Proofs.Try.prog [3, 2] 50 = some p50 := by kernel_rfl
theorem K51 : compF Go.Proofs.Try.prog [3, 2] 51 = some p51 := by kernel_rfl
theorem K52 : compF Go.Proofs.Try.prog [] 52 = some p52 := by kernel_rfl
theorem K53 : compF Go.Proofs.Try.prog [3] 53 = some p53 := by kernel_rfl
theorem K54 : compF Go.Proofs.Try.prog [] 54 = some p54 := by kernel_rfl
theorem K55 : compF Go.Proofs.Try.prog [2] 55 = some p55 := by kernel_rfl
theorem K56 : compF Go.Proofs.Try.prog [3] 56 = some p56 := by kernel_rfl
theorem K57 : compF Go.Proofs.Try.prog [] 57 = some p57 := by kernel_rfl
theorem K58 : compF Go.Proofs.Try.prog [] 58 = some p58 := by kernel_rfl
theorem K59 : compF Go.Proofs.Try.prog [] 59 = some p59 := by kernel_rfl
theorem K60 : compF Go.Proofs.Try.prog [] 60 = some p60 := by kernel_rfl
theorem K61 : compF Go.Proofs.Try.prog [] 61 = some p61 := by kernel_rfl
theorem K62 : compF Go.Proofs.Try.prog [4] 62 = some p62 := by kernel_rfl
theorem K63 : compF Go.Proofs.Try.prog [] 63 = some p63 := by kernel_rfl
theorem K64 : compF Go.Proofs.Try.prog [] 64 = some p64 := by kernel_rfl
theorem K65 : compF Go.Proofs.Try.prog [] 65 = some p65 := by kernel_rfl
theorem K66 : compF Go.Proofs.Try.prog [] 66 = some p66 := by kernel_rfl
theorem K67 : compF Go.Proofs.Try.prog [] 67 = some p67 := by kernel_rfl
theorem K68 : compF Go.Proofs.Try.prog [] 68 = some p68 := by kernel_rfl
theorem K69 : compF Go.Proofs.Try.prog [] 69 = some p69 := by kernel_rfl
theorem K70 : compF Go.Proofs.Try.prog [] 70 = some p70 := by kernel_rfl
theorem K71 : compF Go.Proofs.Try.prog [4, 3] 71 = some p71 := by kernel_rfl
theorem K72 : compF Go.Proofs.Try.prog [] 72 = some p72 := by kernel_rfl
theorem K73 : compF Go.Proofs.Try.prog [] 73 = some p73 := by kernel_rfl
theorem K74 : compF Go.Proofs.Try.prog [] 74 = some p74 := by kernel_rfl
theorem K75 : compF Go.Proofs.Try.prog [] 75 = some p75 := by kernel_rfl
theorem K76 : compF Go.Proofs.Try.prog [46, 33, 2] 76 = some p76 := by kernel_rfl
theorem K77 : compF Go.Proofs.Try.prog [41] 77 = some p77 := by kernel_rfl
theorem K78 : compF Go.Proofs.Try.prog [] 78 = some p78 := by kernel_rfl
theorem K79 : compF Go.Proofs.Try.prog [] 79 = some p79 := by kernel_rfl
theorem K80 : compF Go.Proofs.Try.prog [4] 80 = some p80 := by kernel_rfl
theorem K81 : compF Go.Proofs.Try.prog [77, 72, 10, 9, 3, 2] 81 = some p81 := by kernel_rfl
theorem K82 : compF Go.Proofs.Try.prog [4, 3] 82 = some p82 := by kernel_rfl
theorem K83 : compF Go.Proofs.Try.prog [10] 83 = some p83 := by kernel_rfl
theorem K84 : compF Go.Proofs.Try.prog [] 84 = some p84 := by kernel_rfl
theorem K85 : compF Go.Proofs.Try.prog [61, 9] 85 = some p85 := by kernel_rfl
theorem K86 : compF Go.Proofs.Try.prog [17, 13, 9] 86 = some p86 := by kernel_rfl
theorem K87 : compF Go.Proofs.Try.prog [] 87 = some p87 := by kernel_rfl
theorem K88 : compF Go.Proofs.Try.prog [3, 2] 88 = some p88 := by kernel_rfl
theorem K89 : compF Go.Proofs.Try.prog [35, 26, 9, 4, 3] 89 = some p89 := by kernel_rfl
theorem K90 : compF Go.Proofs.Try.prog [42, 31, 9, 4, 3] 90 = some p90 := by kernel_rfl
theorem K91 : compF Go.Proofs.Try.prog [] 91 = some p91 := by kernel_rfl
theorem K92 : compF Go.Proofs.Try.prog [] 92 = some p92 := by kernel_rfl
theorem K93 : compF Go.Proofs.Try.prog [3, 2] 93 = some p93 := by kernel_rfl
theorem K94 : compF Go.Proofs.Try.prog [] 94 = some p94 := by kernel_rfl
theorem K95 : compF Go.Proofs.Try.prog [9, 6, 5, 4] 95 = some p95 := by kernel_rfl
theorem K96 : compF Go.Proofs.Try.prog [2] 96 = some p96 := by kernel_rfl
theorem br {c : Prop} [Decidable c] {a b : Option PFunc} {Q : Prop} {pf : PFunc} (ha : a = some pf → Q) (hb : b = some pf → Q) : (if c then a else b) = some pf → Q := by
  split
  · exact ha
  · exact hb
theorem leaf {f n : FuncId} {p pf : PFunc} {Q : FuncId → PFunc → Prop} (hq : Q n p) : (if f = n then some p else none) = some pf → Q f pf := by
  split
  · rename_i h; subst h; intro h; cases h; exact hq
  · intro h; cases h
theorem ppok : PPok Go.Proofs.Try.prog PP := by
  have key : ∀ Q : FuncId → PFunc → Prop, Q 2 p2 ∧ Q 3 p3 ∧ Q 4 p4 ∧ Q 5 p5 ∧ Q 6 p6 ∧ Q 7 p7 ∧ Q 8 p8 ∧ Q 9 p9 ∧ Q 10 p10 ∧ Q 11 p11 ∧ Q 12 p12 ∧ Q 13 p13 ∧ Q 14 p14 ∧ Q 15 p15 ∧ Q 16 p16 ∧ Q 17 p17 ∧ Q 18 p18 ∧ Q 19 p19 ∧ Q 20 p20 ∧ Q 21 p21 ∧ Q 22 p22 ∧ Q 23 p23 ∧ Q 24 p24 ∧ Q 25 p25 ∧ Q 26 p26 ∧ Q 27 p27 ∧ Q 28 p28 ∧ Q 29 p29 ∧ Q 30 p30 ∧ Q 31 p31 ∧ Q 32 p32 ∧ Q 33 p33 ∧ Q 34 p34 ∧ Q 35 p35 ∧ Q 36 p36 ∧ Q 37 p37 ∧ Q 38 p38 ∧ Q 39 p39 ∧ Q 40 p40 ∧ Q 41 p41 ∧ Q 42 p42 ∧ Q 43 p43 ∧ Q 44 p44 ∧ Q 45 p45 ∧ Q 46 p46 ∧ Q 47 p47 ∧ Q 48 p48 ∧ Q 49 p49 ∧ Q 50 p50 ∧ Q 51 p51 ∧ Q 52 p52 ∧ Q 53 p53 ∧ Q 54 p54 ∧ Q 55 p55 ∧ Q 56 p56 ∧ Q 57 p57 ∧ Q 58 p58 ∧ Q 59 p59 ∧ Q 60 p60 ∧ Q 61 p61 ∧ Q 62 p62 ∧ Q 63 p63 ∧ Q 64 p64 ∧ Q 65 p65 ∧ Q 66 p66 ∧ Q 67 p67 ∧ Q 68 p68 ∧ Q 69 p69 ∧ Q 70 p70 ∧ Q 71 p71 ∧ Q 72 p72 ∧ Q 73 p73 ∧ Q 74 p74 ∧ Q 75 p75 ∧ Q 76 p76 ∧ Q 77 p77 ∧ Q 78 p78 ∧ Q 79 p79 ∧ Q 80 p80 ∧ Q 81 p81 ∧ Q 82 p82 ∧ Q 83 p83 ∧ Q 84 p84 ∧ Q 85 p85 ∧ Q 86 p86 ∧ Q 87 p87 ∧ Q 88 p88 ∧ Q 89 p89 ∧ Q 90 p90 ∧ Q 91 p91 ∧ Q 92 p92 ∧ Q 93 p93 ∧ Q 94 p94 ∧ Q 95 p95 ∧ Q 96 p96 → ∀ f pf, PP f = some pf → Q f pf := by
    intro Q hq f pf
    obtain ⟨q2, q3, q4, q5, q6, q7, q8, q9, q10, q11, q12, q13, q14, q15, q16, q17, q18, q19, q20, q21, q22, q23, q24, q25, q26, q27, q28, q29, q30, q31, q32, q33, q34, q35, q36, q37, q38, q39, q40, q41, q42, q43, q44, q45, q46, q47, q48, q49, q50, q51, q52, q53, q54, q55, q56, q57, q58, q59, q60, q61, q62, q63, q64, q65, q66, q67, q68, q69, q70, q71, q72, q73, q74, q75, q76, q77, q78, q79, q80, q81, q82, q83, q84, q85, q86, q87, q88, q89, q90, q91, q92, q93, q94, q95, q96⟩ := hq
    unfold PP
    repeat' first | refine leaf (Q := Q) ?_ | refine br ?_ ?_
    all_goals assumption
  exact key _ ⟨⟨_, K2⟩, ⟨_, K3⟩, ⟨_, K4⟩, ⟨_, K5⟩, ⟨_, K6⟩, ⟨_, K7⟩, ⟨_, K8⟩, ⟨_, K9⟩, ⟨_, K10⟩, ⟨_, K11⟩, ⟨_, K12⟩, ⟨_, K13⟩, ⟨_, K14⟩, ⟨_, K15⟩, ⟨_, K16⟩, ⟨_, K17⟩, ⟨_, K18⟩, ⟨_, K19⟩, ⟨_, K20⟩, ⟨_, K21⟩, ⟨_, K22⟩, ⟨_, K23⟩, ⟨_, K24⟩, ⟨_, K25⟩, ⟨_, K26⟩, ⟨_, K27⟩, ⟨_, K28⟩, ⟨_, K29⟩, ⟨_, K30⟩, ⟨_, K31⟩, ⟨_, K32⟩, ⟨_, K33⟩, ⟨_, K34⟩, ⟨_, K35⟩, ⟨_, K36⟩, ⟨_, K37⟩, ⟨_, K38⟩, ⟨_, K39⟩, ⟨_, K40⟩, ⟨_, K41⟩, ⟨_, K42⟩, ⟨_, K43⟩, ⟨_, K44⟩, ⟨_, K45⟩, ⟨_, K46⟩, ⟨_, K47⟩, ⟨_, K48⟩, ⟨_, K49⟩, ⟨_, K50⟩, ⟨_, K51⟩, ⟨_, K52⟩, ⟨_, K53⟩, ⟨_, K54⟩, ⟨_, K55⟩, ⟨_, K56⟩, ⟨_, K57⟩, ⟨_, K58⟩, ⟨_, K59⟩, ⟨_, K60⟩, ⟨_, K61⟩, ⟨_, K62⟩, ⟨_, K63⟩, ⟨_, K64⟩, ⟨_, K65⟩, ⟨_, K66⟩, ⟨_, K67⟩, ⟨_, K68⟩, ⟨_, K69⟩, ⟨_, K70⟩, ⟨_, K71⟩, ⟨_, K72⟩, ⟨_, K73⟩, ⟨_, K74⟩, ⟨_, K75⟩, ⟨_, K76⟩, ⟨_, K77⟩, ⟨_, K78⟩, ⟨_, K79⟩, ⟨_, K80⟩, ⟨_, K81⟩, ⟨_, K82⟩, ⟨_, K83⟩, ⟨_, K84⟩, ⟨_, K85⟩, ⟨_, K86⟩, ⟨_, K87⟩, ⟨_, K88⟩, ⟨_, K89⟩, ⟨_, K90⟩, ⟨_, K91⟩, ⟨_, K92⟩, ⟨_, K93⟩, ⟨_, K94⟩, ⟨_, K95⟩, ⟨_, K96⟩⟩
end Go.Pi.Fad
