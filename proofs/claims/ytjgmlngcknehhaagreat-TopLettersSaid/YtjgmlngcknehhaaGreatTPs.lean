/- The functions, in the small language. -/
import Derived.Test.YtjgmlngcknehhaaGreatPiI
set_option linter.all false
set_option maxRecDepth 100000
namespace Go.Pi.Top
open Go Go.Pi
abbrev iM (d:Nat)(s:Nat):PIns:=⟨some d,.v .mv [.tmp s],none⟩
abbrev jM (d:Nat)(s:Nat)(g:Nat)(h:Bool):PIns:=⟨some d,.v .mv [.tmp s],some (g,h)⟩
abbrev iL (d:Nat)(s:Nat):PIns:=⟨some d,.ld none (.tmp s),none⟩
abbrev jL (d:Nat)(s:Nat)(g:Nat)(h:Bool):PIns:=⟨some d,.ld none (.tmp s),some (g,h)⟩
abbrev iI (d:Nat)(n:Int):PIns:=⟨some d,.v .mv [.const (.int .i64 n)],none⟩
abbrev iF (d:Nat)(o s:Nat):PIns:=⟨some d,.v (.fa o) [.tmp s],none⟩
abbrev jF (d:Nat)(o s:Nat)(g:Nat)(h:Bool):PIns:=⟨some d,.v (.fa o) [.tmp s],some (g,h)⟩
abbrev iN (d:Nat)(n s:Nat):PIns:=⟨some d,.ld (some n) (.tmp s),none⟩
abbrev jN (d:Nat)(n s:Nat)(g:Nat)(h:Bool):PIns:=⟨some d,.ld (some n) (.tmp s),some (g,h)⟩
abbrev iE (d:Nat)(n s:Nat):PIns:=⟨some d,.v (.ext n) [.tmp s],none⟩
abbrev iW (d:Nat)(f:Nat):PIns:=⟨some d,.call (.func f) [],none⟩
abbrev jW (d:Nat)(f:Nat)(g:Nat)(h:Bool):PIns:=⟨some d,.call (.func f) [],some (g,h)⟩
abbrev iX (d:Nat)(f a:Nat):PIns:=⟨some d,.call (.func f) [.tmp a],none⟩
abbrev jX (d:Nat)(f a:Nat)(g:Nat)(h:Bool):PIns:=⟨some d,.call (.func f) [.tmp a],some (g,h)⟩
abbrev iY (d:Nat)(f a b:Nat):PIns:=⟨some d,.call (.func f) [.tmp a,.tmp b],none⟩
abbrev jY (d:Nat)(f a b:Nat)(g:Nat)(h:Bool):PIns:=⟨some d,.call (.func f) [.tmp a,.tmp b],some (g,h)⟩
abbrev iZ (d:Nat)(f a b c:Nat):PIns:=⟨some d,.call (.func f) [.tmp a,.tmp b,.tmp c],none⟩
abbrev jZ (d:Nat)(f a b c:Nat)(g:Nat)(h:Bool):PIns:=⟨some d,.call (.func f) [.tmp a,.tmp b,.tmp c],some (g,h)⟩
abbrev iK (d:Nat)(s:Nat):PIns:=⟨some d,.v .len [.tmp s],none⟩
abbrev jK (d:Nat)(s:Nat)(g:Nat)(h:Bool):PIns:=⟨some d,.v .len [.tmp s],some (g,h)⟩
abbrev iA (d:Nat)(k a b:Nat):PIns:=⟨some d,.v (.ia k) [.tmp a,.tmp b],none⟩
abbrev jA (d:Nat)(k a b:Nat)(g:Nat)(h:Bool):PIns:=⟨some d,.v (.ia k) [.tmp a,.tmp b],some (g,h)⟩
abbrev iB (d:Nat)(b:Bool):PIns:=⟨some d,.v .mv [.const (.bool b)],none⟩
abbrev iP (d:Nat)(a b:Nat):PIns:=⟨some d,.v .pick [.tmp a,.tmp b,.const (.bool false)],none⟩
abbrev jP (d:Nat)(a b:Nat)(g:Nat)(h:Bool):PIns:=⟨some d,.v .pick [.tmp a,.tmp b,.const (.bool false)],some (g,h)⟩
abbrev iQ (d:Nat)(a b:Nat):PIns:=⟨some d,.v .pick [.tmp a,.const (.bool true),.tmp b],none⟩
abbrev jQ (d:Nat)(a b:Nat)(g:Nat)(h:Bool):PIns:=⟨some d,.v .pick [.tmp a,.const (.bool true),.tmp b],some (g,h)⟩
abbrev iO (d:Nat)(o:BinOp)(s:Nat)(n:Int):PIns:=⟨some d,.v (.ib o) [.tmp s,.const (.int .i64 n)],none⟩
abbrev jO (d:Nat)(o:BinOp)(s:Nat)(n:Int)(g:Nat)(h:Bool):PIns:=⟨some d,.v (.ib o) [.tmp s,.const (.int .i64 n)],some (g,h)⟩
abbrev iT (d:Nat)(o:BinOp)(a b:Nat):PIns:=⟨some d,.v (.ib o) [.tmp a,.tmp b],none⟩
abbrev jT (d:Nat)(o:BinOp)(a b:Nat)(g:Nat)(h:Bool):PIns:=⟨some d,.v (.ib o) [.tmp a,.tmp b],some (g,h)⟩
abbrev iH (d:Nat) : PIns:=⟨some d,.v .mv [.const (.slice none 0 0)],none⟩
abbrev iR (d:Nat)(s:Nat):PIns:=⟨some d,.v .no [.tmp s],none⟩
abbrev jR (d:Nat)(s:Nat)(g:Nat)(h:Bool):PIns:=⟨some d,.v .no [.tmp s],some (g,h)⟩
abbrev iV (d:Nat)(t s:Nat):PIns:=⟨some d,.lbox t (.tmp s),none⟩
abbrev iS (n a s:Nat):PIns:=⟨none,.st n (.tmp a) (.tmp s),none⟩
abbrev fA:Flag:=⟨0,false,none⟩
abbrev fB:Flag:=⟨1,false,none⟩
abbrev fC:Flag:=⟨0,true,none⟩
abbrev fD:Flag:=⟨1,true,some []⟩
abbrev fE:Flag:=⟨1,true,none⟩

def b3:PCode :=
 (.seq (.reg [
 iV 3 28 0,iB 6 false])
 (.seq (.seq (.reg [
 iF 17 0 3,iL 18 17,iK 19 18,iO 20 .gtr 19 8,iM 21 20,jF 22 1 3 21 false,
 jL 23 22 21 false,
 jK 24 23 21 false,
 jO 25 .gtr 24 8 21 false,
 iQ 26 21 25,iM 27 26,jF 28 7 3 27 false,
 jL 29 28 27 false,
 jK 30 29 27 false,
 jO 31 .gtr 30 6 27 false,
 iQ 32 27 31,iM 33 32,jN 34 10 3 33 false,
 jX 35 5 34 33 false,
 jR 36 35 33 false,
 iQ 37 33 36,iM 38 37,jM 39 1 38 false,
 ⟨some 40,.call (.func 6) [.tmp 39,.const (.int .i64 0),.const (.int .i64 500)],some (38,false)⟩,
 jR 41 40 38 false,
 iQ 42 38 41,iM 43 42,jM 44 2 43 false,
 jO 45 .lss 44 1 43 false,
 iQ 46 43 45,iM 47 46,jM 48 2 47 false,
 jO 49 .gtr 48 4 47 false,
 iQ 50 47 49])
 (.cond (.tmp 50)
 (.seq (.reg [
 iW 51 7,iM 6 51])
 .ret)
 .skip))
 (.seq (.reg [
 iN 52 10 3,iX 53 8 52,iM 7 53])
 (.seq (.reg [
 iN 55 10 3,iX 56 9 55,iM 54 56,iE 57 0 54,iE 58 1 54,iM 8 57,iM 9 58])
 (.seq (.reg [
 iN 60 10 3,iX 61 10 60,iM 59 61,iE 62 0 59,iE 63 1 59,iM 10 62,iM 11 63])
 (.seq (.seq (.reg [
 iM 64 9,iO 65 .neq 64 0,iM 66 65,jM 67 11 66 false,
 jO 68 .neq 67 0 66 false,
 jM 69 68 66 false,
 jM 70 11 69 true,
 jO 71 .neq 70 5 69 true,
 jP 72 69 71 66 false,
 iQ 73 66 72,iM 74 73,jM 75 8 74 false,
 jM 76 7 74 false,
 ⟨some 77,.call (.func 6) [.tmp 75,.const (.int .i64 0),.tmp 76],some (74,false)⟩,
 jR 78 77 74 false,
 iQ 79 74 78,iM 80 79,jM 81 8 80 false,
 jO 82 .eql 81 0 80 false,
 jM 83 11 80 false,
 jO 84 .eql 83 0 80 false,
 ⟨some 85,.v (.bb true) [.tmp 82,.tmp 84],some (80,false)⟩,
 iQ 86 80 85])
 (.cond (.tmp 86)
 (.seq (.reg [
 iB 6 false])
 .ret)
 .skip))
 (.seq (.reg [
 ⟨some 87,.bs 3 1 [(.int .i64 0)] 1 [(0,.const (.int .i64 0))],none⟩,iM 88 7,⟨some 89,.v (.bld [(.int .i64 0),(.int .i64 0),(.int .i64 0),(.int .i64 0),(.int .i64 0)] [(0,1)]) [.tmp 88],none⟩,iM 90 7,iM 91 8,iT 92 .sub 90 91,⟨some 93,.v (.bld [(.int .i64 0),(.int .i64 0),(.int .i64 0),(.int .i64 0),(.int .i64 0)] [(0,1)]) [.tmp 92],none⟩,⟨some 94,.bs 38 5 [(.int .i64 0),(.int .i64 0),(.int .i64 0),(.int .i64 0),(.int .i64 0)] 2 [(0,.tmp 89),(1,.tmp 93)],none⟩,iM 95 1,iM 96 2,⟨some 97,.v (.bld [(.int .i64 0),(.int .i64 0),(.int .i64 0),(.int .i64 0),(.bool false)] [(0,1),(1,1),(2,1),(3,1),(4,1)]) [.const (.int .i64 1),.tmp 95,.const (.int .i64 1),.tmp 96,.const (.bool true)],none⟩,⟨some 98,.bs 42 5 [(.int .i64 0),(.int .i64 0),(.int .i64 0),(.int .i64 0),(.bool false)] 1 [(0,.tmp 97)],none⟩,⟨some 99,.v (.bld [(.slice none 0 0),(.slice none 0 0),(.slice none 0 0)] [(0,1),(1,1),(2,1)]) [.tmp 87,.tmp 94,.tmp 98],none⟩,⟨some 12,.lalloc 45 (.agg #[(.slice none 0 0),(.slice none 0 0),(.slice none 0 0)]),none⟩,iS 3 12 99])
 (.seq (.reg [
 iN 101 3 12,⟨some 102,.bs 3 1 [(.int .i64 0)] 2 [(0,.const (.int .i64 0)),(1,.const (.int .i64 0))],none⟩,⟨some 103,.call (.func 11) [.tmp 101,.const (.int .i64 0),.tmp 102],none⟩,iM 100 103,iE 104 0 100,iE 105 1 100,iM 13 104,iM 14 105])
 (.seq (.reg [
 iN 107 3 12,⟨some 108,.bs 3 1 [(.int .i64 0)] 2 [(0,.const (.int .i64 0)),(1,.const (.int .i64 0))],none⟩,⟨some 109,.call (.func 12) [.tmp 107,.const (.int .i64 0),.tmp 108],none⟩,iM 106 109,iE 110 0 106,iE 111 1 106,iM 15 110,iM 16 111])
 (.seq (.seq (.reg [
 iM 112 14,iO 113 .neq 112 0,iM 114 113,jM 115 16 114 false,
 jO 116 .neq 115 0 114 false,
 iQ 117 114 116,iM 118 117,jM 119 13 118 false,
 jK 120 119 118 false,
 jO 121 .neq 120 2 118 false,
 iQ 122 118 121])
 (.cond (.tmp 122)
 (.seq (.reg [
 iB 6 false])
 .ret)
 .skip))
 (.seq (.dreg [
 iM 123 13,⟨some 124,.v (.ia 1) [.tmp 123,.const (.int .i64 0)],none⟩,iL 125 124,iM 126 1,iM 127 7,iT 128 .mul 126 127,iT 129 .eql 125 128,iM 130 129,jM 131 13 130 true,
 ⟨some 132,.v (.ia 1) [.tmp 131,.const (.int .i64 0)],some (130,true)⟩,
 jL 133 132 130 true,
 jM 134 13 130 true,
 ⟨some 135,.v (.ia 1) [.tmp 134,.const (.int .i64 1)],some (130,true)⟩,
 jL 136 135 130 true,
 jT 137 .sub 133 136 130 true,
 jM 138 1 130 true,
 jM 139 8 130 true,
 jT 140 .mul 138 139 130 true,
 jT 141 .eql 137 140 130 true,
 iP 142 130 141,iM 143 142,jM 144 15 143 true,
 jM 145 13 143 true,
 ⟨some 146,.v (.ia 1) [.tmp 145,.const (.int .i64 0)],some (143,true)⟩,
 jL 147 146 143 true,
 jM 148 13 143 true,
 ⟨some 149,.v (.ia 1) [.tmp 148,.const (.int .i64 1)],some (143,true)⟩,
 jL 150 149 143 true,
 jT 151 .add 147 150 143 true,
 jT 152 .eql 144 151 143 true,
 iP 153 143 152,iM 154 153,jW 155 7 154 true,
 iP 156 154 155,iM 6 156] [fC,fC,fE,fA,fA,fA,fC,fC,fA,fA,fB,fA,fA,fB,fC,fA,fA,fA,fC,fC,fC,fA,fA,fA,fB,fA,fA,fB,fC,fC,fC,fC,fD,fC,fC])
 .ret)))))))))))
def p3:PFunc:=⟨157,[(6,none)],none,b3⟩
def q5x0:PCode :=
 (.seq (.seq (.reg [
 iM 19 4,iF 20 7 1,iL 21 20,iK 22 21,iT 23 .lss 19 22])
 (.cond (.tmp 23)
 .skip
 (.exit 2)))
 (.seq (.blk 3
 (.seq (.dreg [
 iN 26 10 1,iF 27 7 1,iL 28 27,iM 29 4,iA 30 3 28 29,iN 31 3 30,iY 32 19 26 31,iR 33 32] [⟨3,false,none⟩,fC,⟨3,true,none⟩,fC,fC,fE,fD,fC])
 (.cond (.tmp 33)
 (.seq (.reg [
 iB 2 false])
 .ret)
 .skip)))
 (.reg [
 iM 24 4,iO 25 .add 24 1,iM 4 25])))
def q5x1:PCode :=
 (.seq (.seq (.reg [
 iM 5 3,iF 6 0 1,iL 7 6,iK 8 7,iT 9 .lss 5 8])
 (.cond (.tmp 9)
 .skip
 (.exit 0)))
 (.seq (.blk 1
 (.seq (.reg [
 iF 12 0 1,iL 13 12,iM 14 3,iA 15 1 13 14,iL 16 15,⟨some 17,.call (.func 18) [.tmp 16,.const (.int .i64 1),.const (.int .i64 20)],none⟩,iR 18 17])
 (.cond (.tmp 18)
 (.seq (.reg [
 iB 2 false])
 .ret)
 .skip)))
 (.reg [
 iM 10 3,iO 11 .add 10 1,iM 3 11])))
def b5:PCode :=
 (.seq (.reg [
 iV 1 28 0,iB 2 false])
 (.seq (.seq (.reg [
 iI 3 0])
 (.blk 0
 (.loop q5x1)))
 (.seq (.seq (.reg [
 iI 4 0])
 (.blk 2
 (.loop q5x0)))
 (.seq (.reg [
 iF 34 0 1,iL 35 34,iK 36 35,⟨some 37,.call (.func 18) [.tmp 36,.const (.int .i64 1),.const (.int .i64 6)],none⟩,iM 38 37,jN 39 10 1 38 true,
 jX 40 20 39 38 true,
 iP 41 38 40,iM 42 41,jF 43 2 1 42 true,
 jN 44 2 43 42 true,
 ⟨some 45,.call (.func 21) [.tmp 44,.const (.int .i64 9)],some (42,true)⟩,
 iP 46 42 45,iM 47 46,jF 48 4 1 47 true,
 jN 49 2 48 47 true,
 ⟨some 50,.call (.func 21) [.tmp 49,.const (.int .i64 20)],some (47,true)⟩,
 iP 51 47 50,iM 52 51,jF 53 6 1 52 true,
 jL 54 53 52 true,
 ⟨some 55,.call (.func 18) [.tmp 54,.const (.int .i64 1),.const (.int .i64 20)],some (52,true)⟩,
 iP 56 52 55,iM 57 56,jF 58 7 1 57 true,
 jL 59 58 57 true,
 jK 60 59 57 true,
 ⟨some 61,.call (.func 18) [.tmp 60,.const (.int .i64 1),.const (.int .i64 4)],some (57,true)⟩,
 iP 62 57 61,iM 63 62,jF 64 8 1 63 true,
 jL 65 64 63 true,
 jX 66 22 65 63 true,
 iP 67 63 66,iM 68 67,jF 69 9 1 68 true,
 jL 70 69 68 true,
 ⟨some 71,.call (.func 18) [.tmp 70,.const (.int .i64 1),.const (.int .i64 3)],some (68,true)⟩,
 iP 72 68 71,iM 2 72])
 .ret))))
def p5:PFunc:=⟨73,[(2,none)],none,b5⟩
def b6:PCode :=
 (.seq (.reg [
 iB 6 false])
 (.seq (.reg [
 iM 7 0,iM 8 1,iT 9 .geq 7 8,iM 10 9,jM 11 0 10 true,
 jM 12 2 10 true,
 jT 13 .leq 11 12 10 true,
 iP 14 10 13,iM 6 14])
 .ret))
def p6:PFunc:=⟨15,[(6,none)],none,b6⟩
def b7:PCode :=
 (.seq (.reg [
 iB 0 false])
 (.seq (.reg [
 iW 6 23,iX 7 9 6,iM 5 7,iE 8 0 5,iE 9 1 5,iM 1 8,iM 2 9])
 (.seq (.reg [
 iW 11 25,iX 12 24 11,iM 10 12,iE 13 0 10,iE 14 1 10,iM 3 13,iM 4 14])
 (.seq (.reg [
 iM 15 2,iO 16 .eql 15 0,iM 17 16,jM 18 1 17 true,
 jO 19 .eql 18 3 17 true,
 iP 20 17 19,iM 21 20,jM 22 4 21 true,
 jO 23 .eql 22 0 21 true,
 iP 24 21 23,iM 25 24,jM 26 3 25 true,
 ⟨some 27,.bs 3 1 [(.int .i64 0)] 3 [(0,.const (.int .i64 0)),(1,.const (.int .i64 2)),(2,.const (.int .i64 5))],some (25,true)⟩,
 jY 28 16 26 27 25 true,
 iP 29 25 28,iM 0 29])
 .ret))))
def p7:PFunc:=⟨30,[(0,none)],none,b7⟩
def q8x0:PCode :=
 (.seq (.seq (.reg [
 iM 5 4,iF 6 7 1,iL 7 6,iK 8 7,iT 9 .lss 5 8])
 (.cond (.tmp 9)
 .skip
 (.exit 0)))
 (.seq (.blk 1
 (.reg [
 iM 12 3,iF 13 7 1,iL 14 13,iM 15 4,iA 16 3 14 15,iF 17 0 16,iL 18 17,iK 19 18,iT 20 .add 12 19,iM 3 20]))
 (.reg [
 iM 10 4,iO 11 .add 10 1,iM 4 11])))
def b8:PCode :=
 (.seq (.reg [
 iV 1 28 0,iI 2 0])
 (.seq (.reg [
 iI 3 0])
 (.seq (.seq (.reg [
 iI 4 0])
 (.blk 0
 (.loop q8x0)))
 (.seq (.reg [
 iM 21 3,iM 2 21])
 .ret))))
def p8:PFunc:=⟨22,[(2,none)],none,b8⟩
def q9x0:PCode :=
 (.seq (.reg [
 iT 26 .lss 25 24])
 (.seq (.cond (.tmp 26)
 .skip
 (.exit 2))
 (.seq (.blk 3
 (.seq (.reg [
 iM 27 25,iM 7 27])
 (.seq (.reg [
 iN 28 10 1,iM 29 4,iM 30 7,iT 31 .sub 29 30,iY 32 28 28 31,iX 33 27 32,⟨some 34,.call (.func 29) [.tmp 33,.const (.slice none 0 0)],none⟩])
 (.cond (.tmp 34)
 (.seq (.reg [
 iM 35 7,iM 2 35,iI 3 0])
 .ret)
 .skip))))
 (.reg [
 iO 36 .add 25 1,iM 25 36]))))
def q9x1:PCode :=
 (.seq (.reg [
 iT 15 .lss 14 13])
 (.seq (.cond (.tmp 15)
 .skip
 (.exit 0))
 (.seq (.blk 1
 (.seq (.reg [
 iA 16 3 12 14,iN 17 3 16,⟨some 6,.lalloc 67 (.agg #[(.slice none 0 0),(.slice none 0 0),(.bool false)]),none⟩,iS 3 6 17])
 (.reg [
 iM 18 4,iF 19 0 6,iL 20 19,iK 21 20,iT 22 .add 18 21,iM 4 22])))
 (.reg [
 iO 23 .add 14 1,iM 14 23]))))
def b9:PCode :=
 (.seq (.reg [
 iV 1 28 0,iI 2 0,iI 3 0])
 (.seq (.seq (.reg [
 iN 8 10 1,iX 9 26 8,iR 10 9])
 (.cond (.tmp 10)
 (.seq (.reg [
 iI 2 0,iI 3 2])
 .ret)
 .skip))
 (.seq (.reg [
 iI 4 0])
 (.seq (.seq (.reg [
 iF 11 7 1,iL 12 11,iK 13 12,iI 14 0])
 (.blk 0
 (.loop q9x1)))
 (.seq (.seq (.reg [
 iM 24 4,iI 25 0])
 (.blk 2
 (.loop q9x0)))
 (.seq (.reg [
 iM 37 4,iM 2 37,iI 3 0])
 .ret))))))
def p9:PFunc:=⟨38,[(2,none),(3,none)],none,b9⟩
def b10:PCode :=
 (.seq (.reg [
 iV 1 28 0,iI 2 0,iI 3 0])
 (.seq (.reg [
 iN 8 10 1,iX 9 30 8,iM 7 9,iE 10 0 7,iE 11 1 7,iE 12 2 7,⟨some 4,.lalloc 85 (.agg #[(.slice none 0 0),(.slice none 0 0)]),none⟩,iS 2 4 10,iM 5 11,iM 6 12])
 (.seq (.reg [
 iF 13 1 4,iL 14 13,iK 15 14,iM 16 6,iM 2 15,iM 3 16])
 .ret)))
def p10:PFunc:=⟨17,[(2,none),(3,none)],none,b10⟩
def b11:PCode :=
 (.seq (.reg [
 iV 3 45 0,iH 6,iI 7 0])
 (.seq (.seq (.reg [
 iN 8 3 3,iM 9 1,iY 10 31 8 9,iR 11 10,iM 12 11,jN 13 3 3 12 false,
 jM 14 2 12 false,
 jY 15 32 13 14 12 false,
 jR 16 15 12 false,
 iQ 17 12 16])
 (.cond (.tmp 17)
 (.seq (.reg [
 iH 6,iI 7 2])
 .ret)
 .skip))
 (.seq (.dreg [
 iN 18 3 3,iM 19 2,iY 20 33 18 19,iF 21 2 3,iL 22 21,iM 23 1,iA 24 5 22 23,iN 25 5 24,iY 26 34 20 25,iM 6 26,iI 7 0] [⟨5,false,none⟩,fA,fB,fA,⟨5,false,none⟩,fA,fA,fB,fD,fC,fC])
 .ret)))
def p11:PFunc:=⟨27,[(6,none),(7,none)],none,b11⟩
def b12:PCode :=
 (.seq (.reg [
 iV 3 45 0,iI 6 0,iI 7 0])
 (.seq (.seq (.reg [
 iN 8 3 3,iM 9 1,iY 10 31 8 9,iR 11 10,iM 12 11,jN 13 3 3 12 false,
 jM 14 2 12 false,
 jY 15 32 13 14 12 false,
 jR 16 15 12 false,
 iQ 17 12 16])
 (.cond (.tmp 17)
 (.seq (.reg [
 iI 6 0,iI 7 2])
 .ret)
 .skip))
 (.seq (.dreg [
 iN 18 3 3,iM 19 2,iY 20 33 18 19,iF 21 2 3,iL 22 21,iM 23 1,iA 24 5 22 23,iN 25 5 24,iY 26 35 20 25,iM 6 26,iI 7 0] [⟨5,false,none⟩,fA,fB,fA,⟨5,false,none⟩,fA,fA,fB,fD,fC,fC])
 .ret)))
def p12:PFunc:=⟨27,[(6,none),(7,none)],none,b12⟩
def q16x0:PCode :=
 (.seq (.seq (.reg [
 iM 11 5,iM 12 0,iK 13 12,iT 14 .lss 11 13])
 (.cond (.tmp 14)
 .skip
 (.exit 0)))
 (.seq (.blk 1
 (.seq (.dreg [
 iM 17 0,iM 18 5,iA 19 1 17 18,iL 20 19,iM 21 1,iM 22 5,iA 23 1 21 22,iL 24 23,iT 25 .neq 20 24] [fA,fA,fA,fB,fA,fA,fA,fB,fC])
 (.cond (.tmp 25)
 (.seq (.reg [
 iB 4 false])
 .ret)
 .skip)))
 (.reg [
 iM 15 5,iO 16 .add 15 1,iM 5 16])))
def b16:PCode :=
 (.seq (.reg [
 iB 4 false])
 (.seq (.seq (.reg [
 iM 6 0,iK 7 6,iM 8 1,iK 9 8,iT 10 .neq 7 9])
 (.cond (.tmp 10)
 (.seq (.reg [
 iB 4 false])
 .ret)
 .skip))
 (.seq (.seq (.reg [
 iI 5 0])
 (.blk 0
 (.loop q16x0)))
 (.seq (.reg [
 iB 4 true])
 .ret))))
def p16:PFunc:=⟨26,[(4,none)],none,b16⟩
def b18:PCode :=
 (.seq (.reg [
 iB 6 false])
 (.seq (.reg [
 iM 7 0,iM 8 1,iT 9 .geq 7 8,iM 10 9,jM 11 0 10 true,
 jM 12 2 10 true,
 jT 13 .leq 11 12 10 true,
 iP 14 10 13,iM 6 14])
 .ret))
def p18:PFunc:=⟨15,[(6,none)],none,b18⟩
def q19x0:PCode :=
 (.seq (.seq (.reg [
 iM 22 6,iF 23 1 3,iL 24 23,iK 25 24,iT 26 .lss 22 25])
 (.cond (.tmp 26)
 .skip
 (.exit 2)))
 (.seq (.blk 3
 (.seq (.dreg [
 iF 29 1 3,iL 30 29,iM 31 6,iA 32 1 30 31,iL 33 32,iF 34 0 3,iL 35 34,iK 36 35,iO 37 .sub 36 1,⟨some 38,.call (.func 18) [.tmp 33,.const (.int .i64 1),.tmp 37],none⟩,iR 39 38,iM 40 39,jM 41 6 40 false,
 jO 42 .gtr 41 0 40 false,
 jM 43 42 40 false,
 jF 44 1 3 43 true,
 jL 45 44 43 true,
 jM 46 6 43 true,
 jA 47 1 45 46 43 true,
 jL 48 47 43 true,
 jF 49 1 3 43 true,
 jL 50 49 43 true,
 jM 51 6 43 true,
 jO 52 .sub 51 1 43 true,
 jA 53 1 50 52 43 true,
 jL 54 53 43 true,
 jT 55 .leq 48 54 43 true,
 jP 56 43 55 40 false,
 iQ 57 40 56] [fC,⟨5,true,none⟩,fC,fC,fE,fA,⟨5,false,none⟩,fA,fA,fD,fC,fC,fC,fC,fC,fA,⟨5,false,none⟩,fA,fA,fB,fA,⟨5,false,none⟩,fA,fA,fA,fB,fC,fC,fC])
 (.cond (.tmp 57)
 (.seq (.reg [
 iB 4 false])
 .ret)
 .skip)))
 (.reg [
 iM 27 6,iO 28 .add 27 1,iM 6 28])))
def q19x1:PCode :=
 (.seq (.seq (.reg [
 iM 7 5,iF 8 0 3,iL 9 8,iK 10 9,iT 11 .lss 7 10])
 (.cond (.tmp 11)
 .skip
 (.exit 0)))
 (.seq (.blk 1
 (.seq (.dreg [
 iN 14 10 2,iF 15 0 3,iL 16 15,iM 17 5,iA 18 1 16 17,iL 19 18,iY 20 52 14 19,iR 21 20] [⟨4,false,none⟩,fC,⟨5,true,none⟩,fC,fC,fE,fD,fC])
 (.cond (.tmp 21)
 (.seq (.reg [
 iB 4 false])
 .ret)
 .skip)))
 (.reg [
 iM 12 5,iO 13 .add 12 1,iM 5 13])))
def b19:PCode :=
 (.seq (.reg [
 iV 2 28 0,iV 3 67 1,iB 4 false])
 (.seq (.seq (.reg [
 iI 5 0])
 (.blk 0
 (.loop q19x1)))
 (.seq (.seq (.reg [
 iI 6 0])
 (.blk 2
 (.loop q19x0)))
 (.seq (.reg [
 iF 58 0 3,iL 59 58,iK 60 59,⟨some 61,.call (.func 18) [.tmp 60,.const (.int .i64 1),.const (.int .i64 6)],none⟩,iM 4 61])
 .ret))))
def p19:PFunc:=⟨62,[(4,none)],none,b19⟩
def q20x0:PCode :=
 (.seq (.seq (.reg [
 iM 5 3,iF 6 1 1,iL 7 6,iK 8 7,iT 9 .lss 5 8])
 (.cond (.tmp 9)
 .skip
 (.exit 0)))
 (.seq (.blk 1
 (.seq (.reg [
 iF 12 1 1,iL 13 12,iM 14 3,iA 15 4 13 14,iN 16 4 15,⟨some 4,.lalloc 125 (.agg #[(.int .i64 0),(.int .i64 0),(.int .i64 0),(.int .i64 0)]),none⟩,iS 4 4 16])
 (.seq (.seq (.reg [
 iN 17 10 1,iF 18 0 4,iL 19 18,iY 20 52 17 19,iR 21 20,iM 22 21,jN 23 10 1 22 false,
 jF 24 1 4 22 false,
 jL 25 24 22 false,
 jY 26 52 23 25 22 false,
 jR 27 26 22 false,
 iQ 28 22 27,iM 29 28,jF 30 2 4 29 false,
 jN 31 2 30 29 false,
 ⟨some 32,.call (.func 21) [.tmp 31,.const (.int .i64 9)],some (29,false)⟩,
 jR 33 32 29 false,
 iQ 34 29 33])
 (.cond (.tmp 34)
 (.seq (.reg [
 iB 2 false])
 .ret)
 .skip))
 (.seq (.dreg [
 iM 35 3,iO 36 .gtr 35 0,iM 37 36,jF 38 1 1 37 true,
 jL 39 38 37 true,
 jM 40 3 37 true,
 jO 41 .sub 40 1 37 true,
 jA 42 4 39 41 37 true,
 jF 43 0 42 37 true,
 jL 44 43 37 true,
 jF 45 0 4 37 true,
 jL 46 45 37 true,
 jT 47 .gtr 44 46 37 true,
 jM 48 47 37 true,
 jF 49 1 1 48 false,
 jL 50 49 48 false,
 jM 51 3 48 false,
 jO 52 .sub 51 1 48 false,
 jA 53 4 50 52 48 false,
 jF 54 0 53 48 false,
 jL 55 54 48 false,
 jF 56 0 4 48 false,
 jL 57 56 48 false,
 jT 58 .eql 55 57 48 false,
 jM 59 58 48 false,
 jF 60 1 1 59 true,
 jL 61 60 59 true,
 jM 62 3 59 true,
 jO 63 .sub 62 1 59 true,
 jA 64 4 61 63 59 true,
 jF 65 1 64 59 true,
 jL 66 65 59 true,
 jF 67 1 4 59 true,
 jL 68 67 59 true,
 jT 69 .geq 66 68 59 true,
 jP 70 59 69 48 false,
 jQ 71 48 70 37 true,
 iP 72 37 71] [fC,fC,fC,fC,⟨3,true,none⟩,fC,fC,fC,fC,fE,fA,⟨6,false,none⟩,fC,fC,fC,⟨3,true,none⟩,fC,fC,fC,fC,fE,fA,⟨6,false,none⟩,fC,fC,fC,⟨3,true,none⟩,fC,fC,fC,fC,fE,fA,⟨6,false,none⟩,fC,fC,fC,fC])
 (.cond (.tmp 72)
 (.seq (.reg [
 iB 2 false])
 .ret)
 .skip)))))
 (.reg [
 iM 10 3,iO 11 .add 10 1,iM 3 11])))
def b20:PCode :=
 (.seq (.reg [
 iV 1 28 0,iB 2 false])
 (.seq (.seq (.reg [
 iI 3 0])
 (.blk 0
 (.loop q20x0)))
 (.seq (.reg [
 iF 73 1 1,iL 74 73,iK 75 74,iO 76 .leq 75 6,iM 2 76])
 .ret)))
def p20:PFunc:=⟨77,[(2,none)],none,b20⟩
def b21:PCode :=
 (.seq (.reg [
 iV 2 25 0,iB 4 false])
 (.seq (.reg [
 iF 5 0 2,iL 6 5,iM 7 1,⟨some 8,.call (.func 18) [.tmp 6,.const (.int .i64 0),.tmp 7],none⟩,iM 9 8,jF 10 1 2 9 true,
 jL 11 10 9 true,
 jF 12 0 2 9 true,
 jL 13 12 9 true,
 jM 14 1 9 true,
 jZ 15 18 11 13 14 9 true,
 iP 16 9 15,iM 4 16])
 .ret))
def p21:PFunc:=⟨17,[(4,none)],none,b21⟩
def b22:PCode :=
 (.seq (.reg [
 iB 2 false])
 (.seq (.reg [
 iM 3 0,⟨some 4,.call (.func 18) [.tmp 3,.const (.int .i64 1),.const (.int .i64 400)],none⟩,iM 2 4])
 .ret))
def p22:PFunc:=⟨5,[(2,none)],none,b22⟩
def b23:PCode :=
 (.seq (.reg [
 ⟨some 0,.lalloc 28 (.agg #[(.slice none 0 0),(.slice none 0 0),(.int .i64 0),(.int .i64 0),(.int .i64 0),(.int .i64 0),(.int .i64 0),(.slice none 0 0),(.int .i64 0),(.int .i64 0)]),none⟩])
 (.seq (.reg [
 iW 2 53,⟨some 1,.lalloc 28 (.agg #[(.slice none 0 0),(.slice none 0 0),(.int .i64 0),(.int .i64 0),(.int .i64 0),(.int .i64 0),(.int .i64 0),(.slice none 0 0),(.int .i64 0),(.int .i64 0)]),none⟩,iS 10 1 2])
 (.seq (.reg [
 iF 3 8 1,⟨none,.st 1 (.tmp 3) (.const (.int .i64 18)),none⟩])
 (.seq (.reg [
 iN 4 10 1,iS 10 0 4])
 .ret))))
def p23:PFunc:=⟨5,[(0,some (some 10))],none,b23⟩
def b24:PCode :=
 (.seq (.reg [
 iV 1 75 0,iH 2,iI 3 0])
 (.seq (.reg [
 iN 7 3 1,⟨some 8,.call (.func 54) [.tmp 7,.const (.int .i64 5)],none⟩,iM 6 8,iE 9 0 6,iE 10 1 6,iM 4 9,iM 5 10])
 (.seq (.seq (.reg [
 iM 11 5,iO 12 .neq 11 0])
 (.cond (.tmp 12)
 (.seq (.reg [
 iM 13 5,iH 2,iM 3 13])
 .ret)
 .skip))
 (.seq (.reg [
 iM 14 4,⟨some 15,.v (.ia 1) [.tmp 14,.const (.int .i64 0)],none⟩,iL 16 15,iM 2 16,iI 3 0])
 .ret))))
def p24:PFunc:=⟨17,[(2,none),(3,none)],none,b24⟩
def b25:PCode :=
 (.seq (.reg [
 ⟨some 0,.lalloc 75 (.agg #[(.slice none 0 0),(.slice none 0 0),(.slice none 0 0)]),none⟩])
 (.seq (.reg [
 ⟨some 1,.call (.func 55) [.const (.int .i64 6),.const (.int .i64 8)],none⟩,⟨some 2,.call (.func 55) [.const (.int .i64 4),.const (.int .i64 6)],none⟩,⟨some 3,.call (.func 55) [.const (.int .i64 8),.const (.int .i64 10)],none⟩,⟨some 4,.call (.func 55) [.const (.int .i64 2),.const (.int .i64 4)],none⟩,⟨some 5,.call (.func 55) [.const (.int .i64 6),.const (.int .i64 6)],none⟩,⟨some 6,.call (.func 55) [.const (.int .i64 5),.const (.int .i64 9)],none⟩,⟨some 7,.call (.func 55) [.const (.int .i64 8),.const (.int .i64 12)],none⟩,⟨some 8,.call (.func 55) [.const (.int .i64 4),.const (.int .i64 4)],none⟩,⟨some 9,.bs 25 2 [(.int .i64 0),(.int .i64 0)] 8 [(0,.tmp 1),(1,.tmp 2),(2,.tmp 3),(3,.tmp 4),(4,.tmp 5),(5,.tmp 6),(6,.tmp 7),(7,.tmp 8)],none⟩,⟨some 10,.bs 3 1 [(.int .i64 0)] 5 [(0,.const (.int .i64 0)),(1,.const (.int .i64 2)),(2,.const (.int .i64 3)),(3,.const (.int .i64 5)),(4,.const (.int .i64 6))],none⟩,⟨some 11,.v (.bld [(.int .i64 0),(.int .i64 0)] [(0,1),(1,1)]) [.const (.int .i64 9),.const (.int .i64 20)],none⟩,⟨some 12,.v (.bld [(.int .i64 0),(.int .i64 0)] [(0,1),(1,1)]) [.const (.int .i64 10),.const (.int .i64 20)],none⟩,⟨some 13,.v (.bld [(.int .i64 0),(.int .i64 0)] [(0,1),(1,1)]) [.const (.int .i64 8),.const (.int .i64 30)],none⟩,⟨some 14,.bs 130 2 [(.int .i64 0),(.int .i64 0)] 3 [(0,.tmp 11),(1,.tmp 12),(2,.tmp 13)],none⟩,⟨some 15,.v (.bld [(.slice none 0 0),(.slice none 0 0),(.slice none 0 0)] [(0,1),(1,1),(2,1)]) [.tmp 9,.tmp 10,.tmp 14],none⟩,iS 3 0 15])
 .ret))
def p25:PFunc:=⟨16,[(0,some (some 3))],none,b25⟩
def q26x0:PCode :=
 (.seq (.reg [
 iT 28 .lss 27 26])
 (.seq (.cond (.tmp 28)
 .skip
 (.exit 0))
 (.seq (.blk 1
 (.seq (.reg [
 iM 29 27,iA 30 4 25 27,iN 31 4 30,⟨some 4,.lalloc 125 (.agg #[(.int .i64 0),(.int .i64 0),(.int .i64 0),(.int .i64 0)]),none⟩,iM 3 29,iS 4 4 31])
 (.seq (.dreg [
 iN 32 10 1,iN 33 4 4,iY 34 57 32 33,iR 35 34,iM 36 35,jM 37 3 36 false,
 jO 38 .gtr 37 0 36 false,
 jM 39 38 36 false,
 jF 40 1 1 39 true,
 jL 41 40 39 true,
 jM 42 3 39 true,
 jO 43 .sub 42 1 39 true,
 jA 44 4 41 43 39 true,
 jN 45 4 44 39 true,
 jN 46 4 4 39 true,
 jY 47 58 45 46 39 true,
 jR 48 47 39 true,
 jP 49 39 48 36 false,
 iQ 50 36 49] [fE,⟨6,false,none⟩,fD,fC,fC,fC,fC,fC,fC,fE,fA,fA,fC,fE,⟨6,false,none⟩,fD,fC,fC,fC])
 (.cond (.tmp 50)
 (.seq (.reg [
 iB 2 false])
 .ret)
 .skip))))
 (.reg [
 iO 51 .add 27 1,iM 27 51]))))
def b26:PCode :=
 (.seq (.reg [
 ⟨some 1,.box 28 (.tmp 0),none⟩,iB 2 false])
 (.seq (.seq (.reg [
 iF 6 0 1,iL 7 6,iK 8 7,⟨some 9,.call (.func 56) [.tmp 8,.const (.int .i64 1),.const (.int .i64 6)],none⟩,iR 10 9,iM 11 10,jF 12 1 1 11 false,
 jL 13 12 11 false,
 jK 14 13 11 false,
 jO 15 .gtr 14 6 11 false,
 iQ 16 11 15,iM 17 16,jF 18 7 1 17 false,
 jL 19 18 17 false,
 jK 20 19 17 false,
 ⟨some 21,.call (.func 56) [.tmp 20,.const (.int .i64 1),.const (.int .i64 4)],some (17,false)⟩,
 jR 22 21 17 false,
 iQ 23 17 22])
 (.cond (.tmp 23)
 (.seq (.reg [
 iB 2 false])
 .ret)
 .skip))
 (.seq (.seq (.reg [
 iF 24 1 1,iL 25 24,iK 26 25,iI 27 0])
 (.blk 0
 (.loop q26x0)))
 (.seq (.reg [
 ⟨some 5,.v .mv [.func 59],none⟩])
 (.seq (.reg [
 iF 52 0 1,iL 53 52,iM 54 5,iY 55 60 53 54,iR 56 55,iM 57 56,jF 58 2 1 57 true,
 jN 59 2 58 57 true,
 ⟨some 60,.call (.func 61) [.tmp 59,.const (.int .i64 0),.const (.int .i64 9)],some (57,true)⟩,
 iP 61 57 60,iM 62 61,jF 63 4 1 62 true,
 jN 64 2 63 62 true,
 ⟨some 65,.call (.func 61) [.tmp 64,.const (.int .i64 0),.const (.int .i64 20)],some (62,true)⟩,
 iP 66 62 65,iM 67 66,jF 68 6 1 67 true,
 jL 69 68 67 true,
 ⟨some 70,.call (.func 56) [.tmp 69,.const (.int .i64 1),.const (.int .i64 20)],some (67,true)⟩,
 iP 71 67 70,iM 72 71,jF 73 7 1 72 true,
 jL 74 73 72 true,
 ⟨some 75,.v (.mkf (.func 63) 0) [.tmp 1],some (72,true)⟩,
 jY 76 62 74 75 72 true,
 jR 77 76 72 true,
 iP 78 72 77,iM 79 78,jF 80 8 1 79 true,
 jL 81 80 79 true,
 ⟨some 82,.call (.func 56) [.tmp 81,.const (.int .i64 1),.const (.int .i64 400)],some (79,true)⟩,
 iP 83 79 82,iM 84 83,jF 85 9 1 84 true,
 jL 86 85 84 true,
 ⟨some 87,.call (.func 56) [.tmp 86,.const (.int .i64 1),.const (.int .i64 3)],some (84,true)⟩,
 iP 88 84 87,iM 2 88])
 .ret)))))
def p26:PFunc:=⟨89,[(2,none)],none,b26⟩
def q27x0:PCode :=
 (.seq (.reg [
 iT 13 .lss 12 11])
 (.seq (.cond (.tmp 13)
 .skip
 (.exit 0))
 (.seq (.blk 1
 (.seq (.reg [
 iA 14 4 10 12,iN 15 4 14,⟨some 5,.lalloc 125 (.agg #[(.int .i64 0),(.int .i64 0),(.int .i64 0),(.int .i64 0)]),none⟩,iS 4 5 15])
 (.reg [
 iF 16 10 3,iL 17 16,iF 18 0 5,iL 19 18,iF 20 1 5,iL 21 20,⟨some 22,.v (.bld [(.int .i64 0),(.int .i64 0)] [(0,1),(1,1)]) [.tmp 19,.tmp 21],none⟩,iF 23 2 5,iN 24 2 23,⟨none,.mup (.agg [(.i .i64),(.i .i64)]) (.tmp 17) (.tmp 22) (.tmp 24),none⟩])))
 (.reg [
 iO 25 .add 12 1,iM 12 25]))))
def b27:PCode :=
 (.seq (.reg [
 iV 1 28 0,⟨some 2,.lalloc 79 (.agg #[(.slice none 0 0),(.slice none 0 0),(.int .i64 0),(.int .i64 0),(.int .i64 0),(.int .i64 0),(.int .i64 0),(.slice none 0 0),(.int .i64 0),(.int .i64 0),(.map none)]),none⟩])
 (.seq (.reg [
 iN 6 10 1,⟨some 7,.mkm (.agg [(.i .i64),(.i .i64)]),none⟩,⟨some 8,.v (.bld [(.slice none 0 0),(.slice none 0 0),(.int .i64 0),(.int .i64 0),(.int .i64 0),(.int .i64 0),(.int .i64 0),(.slice none 0 0),(.int .i64 0),(.int .i64 0),(.map none)] [(0,10),(10,1)]) [.tmp 6,.tmp 7],none⟩,⟨some 3,.lalloc 79 (.agg #[(.slice none 0 0),(.slice none 0 0),(.int .i64 0),(.int .i64 0),(.int .i64 0),(.int .i64 0),(.int .i64 0),(.slice none 0 0),(.int .i64 0),(.int .i64 0),(.map none)]),none⟩,iS 11 3 8])
 (.seq (.seq (.reg [
 iF 9 1 1,iL 10 9,iK 11 10,iI 12 0])
 (.blk 0
 (.loop q27x0)))
 (.seq (.reg [
 iN 26 11 3,iS 11 2 26])
 .ret))))
def p27:PFunc:=⟨27,[(2,some (some 11))],none,b27⟩
def q28x0:PCode :=
 (.seq (.reg [
 iT 15 .lss 14 13])
 (.seq (.cond (.tmp 15)
 .skip
 (.exit 0))
 (.seq (.blk 1
 (.seq (.reg [
 iA 16 3 12 14,iN 17 3 16,⟨some 7,.lalloc 67 (.agg #[(.slice none 0 0),(.slice none 0 0),(.bool false)]),none⟩,iS 3 7 17])
 (.seq (.seq (.reg [
 iM 18 1,iO 19 .eql 18 0])
 (.cond (.tmp 19)
 (.exit 0)
 .skip))
 (.seq (.reg [
 iM 20 1,iF 21 0 7,iL 22 21,iK 23 22,⟨some 24,.v .mn [.tmp 20,.tmp 23],none⟩,⟨some 8,.alloc 3 (.int .i64 0),none⟩,iS 1 8 24])
 (.seq (.reg [
 iM 25 1,iL 26 8,iT 27 .sub 25 26,iM 1 27])
 (.seq (.reg [
 iF 28 0 7,iL 29 28,iL 30 8,⟨some 31,.v (.sl 1 false true) [.tmp 29,.tmp 30],none⟩,iF 32 0 7,iS 1 32 31])
 (.seq (.reg [
 iF 33 1 7,iL 34 33,iX 35 66 34,⟨some 36,.v (.mkf (.func 67) 0) [.tmp 8],none⟩,iY 37 65 35 36,iF 38 1 7,iS 1 38 37])
 (.reg [
 iF 39 7 5,iL 40 39,iN 41 3 7,⟨some 42,.lbs 67 3 [(.slice none 0 0),(.slice none 0 0),(.bool false)] 1 [(0,.tmp 41)],none⟩,⟨some 43,.app 67 3 (.tmp 40) (.tmp 42),none⟩,iF 44 7 5,iS 1 44 43]))))))))
 (.reg [
 iO 45 .add 14 1,iM 14 45]))))
def b28:PCode :=
 (.seq (.reg [
 iV 2 28 0,⟨some 4,.lalloc 28 (.agg #[(.slice none 0 0),(.slice none 0 0),(.int .i64 0),(.int .i64 0),(.int .i64 0),(.int .i64 0),(.int .i64 0),(.slice none 0 0),(.int .i64 0),(.int .i64 0)]),none⟩])
 (.seq (.reg [
 iN 9 10 2,⟨some 5,.lalloc 28 (.agg #[(.slice none 0 0),(.slice none 0 0),(.int .i64 0),(.int .i64 0),(.int .i64 0),(.int .i64 0),(.int .i64 0),(.slice none 0 0),(.int .i64 0),(.int .i64 0)]),none⟩,iS 10 5 9])
 (.seq (.reg [
 iF 10 7 5,⟨none,.st 1 (.tmp 10) (.const (.slice none 0 0)),none⟩])
 (.seq (.seq (.reg [
 iF 11 7 2,iL 12 11,iK 13 12,iI 14 0])
 (.blk 0
 (.loop q28x0)))
 (.seq (.reg [
 iN 46 10 5,iS 10 4 46])
 .ret)))))
def p28:PFunc:=⟨47,[(4,some (some 10))],none,b28⟩
def b29:PCode :=
 (.seq (.reg [
 ⟨some 2,.box 79 (.tmp 0),none⟩,iB 4 false])
 (.seq (.reg [
 ⟨some 5,.alloc 4 (.bool false),none⟩,⟨none,.st 1 (.tmp 5) (.const (.bool false)),none⟩])
 (.seq .skip
 (.seq (.seq (.reg [
 iN 7 11 2,iM 8 1,iY 9 68 7 8])
 (.blk 0
 (.rf (.tmp 9) [10]
 (.reg [
 ⟨some 6,.lalloc 85 (.agg #[(.slice none 0 0),(.slice none 0 0)]),none⟩,iS 2 6 10])
 (.blk 1
 (.seq (.reg [
 iN 11 11 2,iN 12 2 6,⟨some 13,.call (.func 69) [.tmp 11,.tmp 12,.const (.int .i64 0)],none⟩])
 (.cond (.tmp 13)
 (.seq (.reg [
 ⟨none,.st 1 (.tmp 5) (.const (.bool true)),none⟩])
 (.exit 0))
 .skip))))))
 (.seq (.reg [
 iL 14 5,iM 4 14])
 .ret)))))
def p29:PFunc:=⟨15,[(4,none)],none,b29⟩
def b30:PCode :=
 (.seq (.reg [
 iV 1 28 0,⟨some 2,.lalloc 85 (.agg #[(.slice none 0 0),(.slice none 0 0)]),none⟩,iI 3 0,iI 4 0])
 (.seq (.seq (.reg [
 iN 8 10 1,iX 9 26 8,iR 10 9])
 (.cond (.tmp 10)
 (.seq (.reg [
 ⟨some 11,.v (.bld [(.slice none 0 0),(.slice none 0 0)] []) [],none⟩,iS 2 2 11,iI 3 0,iI 4 2])
 .ret)
 .skip))
 (.seq (.reg [
 iN 12 10 1,iX 13 27 12,⟨some 5,.alloc 79 (.agg #[(.slice none 0 0),(.slice none 0 0),(.int .i64 0),(.int .i64 0),(.int .i64 0),(.int .i64 0),(.int .i64 0),(.slice none 0 0),(.int .i64 0),(.int .i64 0),(.map none)]),none⟩,iS 11 5 13])
 (.seq (.reg [
 iN 14 11 5,⟨some 15,.call (.func 70) [.tmp 14,.const (.slice none 0 0)],none⟩,iM 6 15])
 (.seq (.seq (.reg [
 iM 16 6,iK 17 16,iO 18 .eql 17 0])
 (.cond (.tmp 18)
 (.seq (.reg [
 ⟨some 19,.v (.bld [(.slice none 0 0),(.slice none 0 0)] []) [],none⟩,iS 2 2 19,iI 3 0,iI 4 5])
 .ret)
 .skip))
 (.seq (.reg [
 iM 20 6,⟨some 21,.v (.mkf (.func 72) 0) [.tmp 5],none⟩,iY 22 71 20 21,⟨some 7,.lalloc 85 (.agg #[(.slice none 0 0),(.slice none 0 0)]),none⟩,iS 2 7 22])
 (.seq (.dreg [
 iN 23 2 7,iN 24 11 5,iN 25 2 7,iY 26 73 24 25,iS 2 2 23,iM 3 26,iI 4 0] [⟨9,false,none⟩,fE,⟨9,false,none⟩,⟨1,true,some [23]⟩,⟨4,true,none⟩,fC,fC])
 .ret)))))))
def p30:PFunc:=⟨27,[(2,some (some 2)),(3,none),(4,none)],none,b30⟩
def b31:PCode :=
 (.seq (.reg [
 iV 2 45 0,iB 4 false])
 (.seq (.reg [
 iN 5 3 2,iX 6 74 5,iM 7 6,jM 8 1 7 true,
 jF 9 2 2 7 true,
 jL 10 9 7 true,
 jK 11 10 7 true,
 jO 12 .sub 11 1 7 true,
 ⟨some 13,.call (.func 75) [.tmp 8,.const (.int .i64 0),.tmp 12],some (7,true)⟩,
 iP 14 7 13,iM 4 14])
 .ret))
def p31:PFunc:=⟨15,[(4,none)],none,b31⟩
def q32x0:PCode :=
 (.seq (.reg [
 iT 10 .lss 9 8])
 (.seq (.cond (.tmp 10)
 .skip
 (.exit 0))
 (.seq (.blk 1
 (.seq (.reg [
 iM 11 9,iA 12 1 7 9,iL 13 12,iM 5 11,iM 6 13])
 (.seq (.dreg [
 iM 14 5,iF 15 1 2,iL 16 15,iK 17 16,iT 18 .geq 14 17,iM 19 18,jM 20 6 19 false,
 jF 21 1 2 19 false,
 jL 22 21 19 false,
 jM 23 5 19 false,
 jA 24 5 22 23 19 false,
 jF 25 2 24 19 false,
 jF 26 0 25 19 false,
 jL 27 26 19 false,
 jF 28 1 2 19 false,
 jL 29 28 19 false,
 jM 30 5 19 false,
 jA 31 5 29 30 19 false,
 jF 32 2 31 19 false,
 jF 33 1 32 19 false,
 jL 34 33 19 false,
 jZ 35 75 20 27 34 19 false,
 jR 36 35 19 false,
 iQ 37 19 36] [fC,fC,⟨4,true,none⟩,fC,fC,fC,fA,fA,⟨4,false,none⟩,fA,fA,fA,fA,fB,fA,⟨4,false,none⟩,fA,fA,fA,fA,fB,fD,fC,fC])
 (.cond (.tmp 37)
 (.seq (.reg [
 iB 4 false])
 .ret)
 .skip))))
 (.reg [
 iO 38 .add 9 1,iM 9 38]))))
def b32:PCode :=
 (.seq (.reg [
 iV 2 45 0,iB 4 false])
 (.seq (.seq (.reg [
 iM 7 1,iK 8 7,iI 9 0])
 (.blk 0
 (.loop q32x0)))
 (.seq (.reg [
 iM 39 1,iK 40 39,iF 41 1 2,iL 42 41,iK 43 42,iT 44 .eql 40 43,iM 4 44])
 .ret)))
def p32:PFunc:=⟨45,[(4,none)],none,b32⟩
def b33:PCode :=
 (.seq (.reg [
 iV 2 45 0,⟨some 4,.lalloc 92 (.agg #[(.slice none 0 0),(.slice none 0 0),(.slice none 0 0),(.slice none 0 0),(.map none)]),none⟩])
 (.seq (.reg [
 iN 5 3 2,iM 6 1,⟨some 7,.mkm (.agg [(.i .i64),(.i .i64),(.i .i64),(.i .i64),.b,(.i .i64)]),none⟩,⟨some 8,.v (.bld [(.slice none 0 0),(.slice none 0 0),(.slice none 0 0),(.slice none 0 0),(.map none)] [(0,3),(3,1),(4,1)]) [.tmp 5,.tmp 6,.tmp 7],none⟩,iS 5 4 8])
 .ret))
def p33:PFunc:=⟨9,[(4,some (some 5))],none,b33⟩
def q34x0:PCode :=
 (.seq (.reg [
 iT 14 .lss 13 12])
 (.seq (.cond (.tmp 14)
 .skip
 (.exit 0))
 (.seq (.blk 1
 (.seq (.reg [
 iA 15 1 11 13,iL 16 15,iM 7 16])
 (.seq (.reg [
 iN 17 5 2,iN 18 5 3,iM 19 7,iZ 20 77 17 18 19,iM 8 20])
 (.reg [
 iM 21 5,iM 22 8,⟨some 23,.lbs 3 1 [(.int .i64 0)] 1 [(0,.tmp 22)],none⟩,⟨some 24,.app 3 1 (.tmp 21) (.tmp 23),none⟩,iM 5 24]))))
 (.reg [
 iO 25 .add 13 1,iM 13 25]))))
def b34:PCode :=
 (.seq (.reg [
 iV 2 92 0,iV 3 42 1,iH 4])
 (.seq (.reg [
 iH 5])
 (.seq (.seq (.reg [
 iN 9 5 2,iN 10 5 3,iY 11 76 9 10,iK 12 11,iI 13 0])
 (.blk 0
 (.loop q34x0)))
 (.seq (.reg [
 iM 26 5,iM 4 26])
 .ret))))
def p34:PFunc:=⟨27,[(4,none)],none,b34⟩
def b35:PCode :=
 (.seq (.reg [
 iV 2 92 0,iV 3 42 1,iI 4 0])
 (.seq (.seq (.reg [
 iF 5 4 3,iL 6 5])
 (.cond (.tmp 6)
 (.seq (.reg [
 iN 7 5 2,iN 8 5 3,iY 9 34 7 8,iX 10 78 9,iM 4 10])
 .ret)
 .skip))
 (.seq (.dreg [
 iN 11 5 2,iN 12 5 3,iN 13 5 2,iN 14 5 3,iY 15 76 13 14,iX 16 78 15,iZ 17 77 11 12 16,iM 4 17] [⟨4,false,none⟩,⟨5,false,none⟩,⟨4,true,none⟩,⟨5,true,none⟩,⟨1,true,some [11,12]⟩,⟨1,true,some [11,12]⟩,fD,fC])
 .ret)))
def p35:PFunc:=⟨18,[(4,none)],none,b35⟩
def b52:PCode :=
 (.seq (.reg [
 iV 2 28 0,iB 4 false])
 (.seq (.reg [
 iM 5 1,iF 6 0 2,iL 7 6,iK 8 7,iO 9 .sub 8 1,⟨some 10,.call (.func 18) [.tmp 5,.const (.int .i64 0),.tmp 9],none⟩,iM 4 10])
 .ret))
def p52:PFunc:=⟨11,[(4,none)],none,b52⟩
def b53:PCode :=
 (.seq (.reg [
 ⟨some 0,.lalloc 28 (.agg #[(.slice none 0 0),(.slice none 0 0),(.int .i64 0),(.int .i64 0),(.int .i64 0),(.int .i64 0),(.int .i64 0),(.slice none 0 0),(.int .i64 0),(.int .i64 0)]),none⟩])
 (.seq (.reg [
 ⟨some 1,.bs 3 1 [(.int .i64 0)] 3 [(0,.const (.int .i64 6)),(1,.const (.int .i64 4)),(2,.const (.int .i64 8))],none⟩,⟨some 2,.call (.func 96) [.const (.int .i64 1),.const (.int .i64 3)],none⟩,⟨some 3,.v (.bld [(.int .i64 0),(.int .i64 0),(.int .i64 0),(.int .i64 0)] [(0,1),(1,1),(2,2)]) [.const (.int .i64 0),.const (.int .i64 1),.tmp 2],none⟩,⟨some 4,.call (.func 96) [.const (.int .i64 0),.const (.int .i64 2)],none⟩,⟨some 5,.v (.bld [(.int .i64 0),(.int .i64 0),(.int .i64 0),(.int .i64 0)] [(0,1),(1,1),(2,2)]) [.const (.int .i64 2),.const (.int .i64 0),.tmp 4],none⟩,⟨some 6,.bs 125 4 [(.int .i64 0),(.int .i64 0),(.int .i64 0),(.int .i64 0)] 2 [(0,.tmp 3),(1,.tmp 5)],none⟩,⟨some 7,.call (.func 96) [.const (.int .i64 2),.const (.int .i64 4)],none⟩,⟨some 8,.call (.func 96) [.const (.int .i64 5),.const (.int .i64 8)],none⟩,⟨some 9,.bs 3 1 [(.int .i64 0)] 3 [(0,.const (.int .i64 2)),(1,.const (.int .i64 0)),(2,.const (.int .i64 1))],none⟩,⟨some 10,.v (.bld [(.slice none 0 0),(.slice none 0 0),(.bool false)] [(0,1)]) [.tmp 9],none⟩,⟨some 11,.bs 3 1 [(.int .i64 0)] 2 [(0,.const (.int .i64 0)),(1,.const (.int .i64 2))],none⟩,⟨some 12,.bs 3 1 [(.int .i64 0)] 1 [(0,.const (.int .i64 1))],none⟩,⟨some 13,.v (.bld [(.slice none 0 0),(.slice none 0 0),(.bool false)] [(0,1),(1,1),(2,1)]) [.tmp 11,.tmp 12,.const (.bool true)],none⟩,⟨some 14,.bs 67 3 [(.slice none 0 0),(.slice none 0 0),(.bool false)] 2 [(0,.tmp 10),(1,.tmp 13)],none⟩,⟨some 15,.v (.bld [(.slice none 0 0),(.slice none 0 0),(.int .i64 0),(.int .i64 0),(.int .i64 0),(.int .i64 0),(.int .i64 0),(.slice none 0 0),(.int .i64 0),(.int .i64 0)] [(0,1),(1,1),(2,2),(4,2),(6,1),(7,1),(8,1),(9,1)]) [.tmp 1,.tmp 6,.tmp 7,.tmp 8,.const (.int .i64 3),.tmp 14,.const (.int .i64 21),.const (.int .i64 2)],none⟩,iS 10 0 15])
 .ret))
def p53:PFunc:=⟨16,[(0,some (some 10))],none,b53⟩
def b54:PCode :=
 (.seq (.reg [
 iV 2 75 0,iH 4,iI 5 0])
 (.seq (.seq (.reg [
 iN 7 3 2,iX 8 97 7,iR 9 8])
 (.cond (.tmp 9)
 (.seq (.reg [
 iH 4,iI 5 2])
 .ret)
 .skip))
 (.seq (.reg [
 iN 10 3 2,iX 11 99 10,iX 12 100 11,iX 13 98 12,iM 6 13])
 (.seq (.seq (.reg [
 iM 14 6,iK 15 14,iO 16 .eql 15 0])
 (.cond (.tmp 16)
 (.seq (.reg [
 iM 17 1,iH 4,iM 5 17])
 .ret)
 .skip))
 (.seq (.reg [
 iM 18 6,iM 4 18,iI 5 0])
 .ret)))))
def p54:PFunc:=⟨19,[(4,none),(5,none)],none,b54⟩
def b55:PCode :=
 (.seq (.reg [
 ⟨some 4,.lalloc 25 (.agg #[(.int .i64 0),(.int .i64 0)]),none⟩])
 (.seq (.reg [
 iM 5 0,iM 6 1,⟨some 7,.v (.bld [(.int .i64 0),(.int .i64 0)] [(0,1),(1,1)]) [.tmp 5,.tmp 6],none⟩,iS 2 4 7])
 .ret))
def p55:PFunc:=⟨8,[(4,some (some 2))],none,b55⟩
def b56:PCode :=
 (.seq (.reg [
 iB 6 false])
 (.seq (.reg [
 iM 7 0,iM 8 1,iT 9 .geq 7 8,iM 10 9,jM 11 0 10 true,
 jM 12 2 10 true,
 jT 13 .leq 11 12 10 true,
 iP 14 10 13,iM 6 14])
 .ret))
def p56:PFunc:=⟨15,[(6,none)],none,b56⟩
def b57:PCode :=
 (.seq (.reg [
 iV 2 28 0,iV 3 125 1,iB 4 false])
 (.seq (.reg [
 iF 5 0 3,iL 6 5,iF 7 0 2,iL 8 7,iK 9 8,iO 10 .sub 9 1,⟨some 11,.call (.func 56) [.tmp 6,.const (.int .i64 0),.tmp 10],none⟩,iM 12 11,jF 13 1 3 12 true,
 jL 14 13 12 true,
 jF 15 0 2 12 true,
 jL 16 15 12 true,
 jK 17 16 12 true,
 jO 18 .sub 17 1 12 true,
 ⟨some 19,.call (.func 56) [.tmp 14,.const (.int .i64 0),.tmp 18],some (12,true)⟩,
 iP 20 12 19,iM 21 20,jF 22 2 3 21 true,
 jN 23 2 22 21 true,
 ⟨some 24,.call (.func 61) [.tmp 23,.const (.int .i64 0),.const (.int .i64 9)],some (21,true)⟩,
 iP 25 21 24,iM 4 25])
 .ret))
def p57:PFunc:=⟨26,[(4,none)],none,b57⟩
def b58:PCode :=
 (.seq (.reg [
 iV 2 125 0,iV 3 125 1,iB 4 false])
 (.seq (.reg [
 iF 5 0 2,iL 6 5,iF 7 0 3,iL 8 7,iT 9 .lss 6 8,iM 10 9,jF 11 0 2 10 false,
 jL 12 11 10 false,
 jF 13 0 3 10 false,
 jL 14 13 10 false,
 jT 15 .eql 12 14 10 false,
 jM 16 15 10 false,
 jF 17 1 2 16 true,
 jL 18 17 16 true,
 jF 19 1 3 16 true,
 jL 20 19 16 true,
 jT 21 .lss 18 20 16 true,
 jP 22 16 21 10 false,
 iQ 23 10 22,iM 4 23])
 .ret))
def p58:PFunc:=⟨24,[(4,none)],none,b58⟩
def b59:PCode :=
 (.seq (.reg [
 iB 2 false])
 (.seq (.reg [
 iM 3 0,⟨some 4,.call (.func 56) [.tmp 3,.const (.int .i64 1),.const (.int .i64 20)],none⟩,iR 5 4,iM 2 5])
 .ret))
def p59:PFunc:=⟨6,[(2,none)],none,b59⟩
def b60:PCode :=
 (.seq (.reg [
 iB 4 false])
 (.seq (.reg [
 iM 5 0,iM 6 1,iY 7 101 5 6,iO 8 .geq 7 0,iM 4 8])
 .ret))
def p60:PFunc:=⟨9,[(4,none)],none,b60⟩
def b61:PCode :=
 (.seq (.reg [
 iV 3 25 0,iB 6 false])
 (.seq (.reg [
 iF 7 0 3,iL 8 7,iM 9 1,iM 10 2,iZ 11 56 8 9 10,iM 12 11,jF 13 1 3 12 true,
 jL 14 13 12 true,
 jF 15 0 3 12 true,
 jL 16 15 12 true,
 jM 17 2 12 true,
 jZ 18 56 14 16 17 12 true,
 iP 19 12 18,iM 6 19])
 .ret))
def p61:PFunc:=⟨20,[(6,none)],none,b61⟩
def b62:PCode :=
 (.seq (.reg [
 iB 4 false])
 (.seq (.reg [
 iM 5 0,iM 6 1,iY 7 102 5 6,iO 8 .geq 7 0,iM 4 8])
 .ret))
def p62:PFunc:=⟨9,[(4,none)],none,b62⟩
def b63:PCode :=
 (.seq (.reg [
 iV 2 67 0,iB 3 false])
 (.seq (.reg [
 iN 4 10 1,iN 5 3 2,iY 6 64 4 5,iR 7 6,iM 3 7])
 .ret))
def p63:PFunc:=⟨8,[(3,none)],none,b63⟩
def b64:PCode :=
 (.seq (.reg [
 ⟨some 2,.box 28 (.tmp 0),none⟩,iV 3 67 1,iB 4 false])
 (.seq (.reg [
 iF 7 0 3,iL 8 7,iK 9 8,iM 5 9])
 (.seq (.reg [
 ⟨some 10,.v (.mkf (.func 103) 0) [.tmp 2],none⟩,iM 6 10])
 (.seq (.reg [
 iM 11 5,⟨some 12,.call (.func 56) [.tmp 11,.const (.int .i64 1),.const (.int .i64 6)],none⟩,iM 13 12,jF 14 0 3 13 true,
 jL 15 14 13 true,
 jM 16 6 13 true,
 jY 17 60 15 16 13 true,
 jR 18 17 13 true,
 iP 19 13 18,iM 20 19,jF 21 1 3 20 true,
 jL 22 21 20 true,
 jM 23 5 20 true,
 jO 24 .sub 23 1 20 true,
 ⟨some 25,.call (.func 104) [.tmp 22,.const (.int .i64 1),.tmp 24],some (20,true)⟩,
 iP 26 20 25,iM 4 26])
 .ret))))
def p64:PFunc:=⟨27,[(4,none)],none,b64⟩
def q65x0:PCode :=
 (.seq (.seq (.reg [
 iM 16 6,iM 17 0,iK 18 17,iT 19 .lss 16 18])
 (.cond (.tmp 19)
 .skip
 (.exit 0)))
 (.seq (.blk 1
 (.seq (.reg [
 iM 22 0,iM 23 6,iA 24 1 22 23,iL 25 24,iM 7 25])
 (.seq (.reg [
 iM 26 1,iM 27 7,⟨some 28,.call (.tmp 26) [.tmp 27],none⟩,iR 29 28])
 (.cond (.tmp 29)
 (.seq (.reg [
 iM 30 0,iM 31 5,iM 32 7,iA 33 1 30 31,iS 1 33 32])
 (.reg [
 iM 34 5,iO 35 .add 34 1,iM 5 35]))
 .skip))))
 (.reg [
 iM 20 6,iO 21 .add 20 1,iM 6 21])))
def b65:PCode :=
 (.seq (.reg [
 iH 4])
 (.seq (.reg [
 iM 8 0,iM 9 1,iY 10 101 8 9,iM 5 10])
 (.seq (.seq (.reg [
 iM 11 5,iO 12 .eql 11 (-1)])
 (.cond (.tmp 12)
 (.seq (.reg [
 iM 13 0,iM 4 13])
 .ret)
 .skip))
 (.seq (.seq (.reg [
 iM 14 5,iO 15 .add 14 1,iM 6 15])
 (.blk 0
 (.loop q65x0)))
 (.seq (.reg [
 iM 36 0,iM 37 5,⟨some 38,.v (.sl 1 true false) [.tmp 36,.tmp 37],none⟩,⟨none,.clr [(.int .i64 0)] (.tmp 38),none⟩])
 (.seq (.reg [
 iM 39 0,iM 40 5,⟨some 41,.v (.sl 1 false true) [.tmp 39,.tmp 40],none⟩,iM 4 41])
 .ret))))))
def p65:PFunc:=⟨42,[(4,none)],none,b65⟩
def b66:PCode :=
 (.seq (.reg [
 iH 2])
 (.seq (.seq (.reg [
 iM 3 0,⟨some 4,.v (.nl .slice false) [.tmp 3],none⟩])
 (.cond (.tmp 4)
 (.seq (.reg [
 iH 2])
 .ret)
 .skip))
 (.seq (.reg [
 ⟨some 5,.bs 3 1 [(.int .i64 0)] 0 [],none⟩,iM 6 0,⟨some 7,.app 3 1 (.tmp 5) (.tmp 6),none⟩,iM 2 7])
 .ret)))
def p66:PFunc:=⟨8,[(2,none)],none,b66⟩
def b67:PCode :=
 (.seq (.reg [
 iB 3 false])
 (.seq (.reg [
 iM 4 0,iL 5 1,iT 6 .geq 4 5,iM 3 6])
 .ret))
def p67:PFunc:=⟨7,[(3,none)],none,b67⟩
def b68:PCode :=
 (.seq (.reg [
 ⟨some 2,.box 79 (.tmp 0),none⟩,⟨some 3,.box 22 (.tmp 1),none⟩,⟨some 4,.v .mv [.const .nilFunc],none⟩])
 (.seq (.reg [
 ⟨some 5,.v (.mkf (.func 105) 0) [.tmp 2,.tmp 3],none⟩,iM 4 5])
 .ret))
def p68:PFunc:=⟨6,[(4,none)],none,b68⟩
def b69:PCode :=
 (.seq (.reg [
 ⟨some 3,.box 79 (.tmp 0),none⟩,⟨some 4,.box 85 (.tmp 1),none⟩,⟨some 5,.box 3 (.tmp 2),none⟩,iB 6 false])
 (.seq (.reg [
 iF 7 1 4,iL 8 7,iK 9 8,iF 10 0 3,iF 11 9 10,iL 12 11,iT 13 .leq 9 12,iM 14 13,⟨some 15,.v (.mkf (.func 110) 0) [.tmp 3,.tmp 4,.tmp 5],some (14,true)⟩,
 jX 16 109 15 14 true,
 jO 17 .eql 16 0 14 true,
 iP 18 14 17,iM 6 18])
 .ret))
def p69:PFunc:=⟨19,[(6,none)],none,b69⟩
def b70:PCode :=
 (.seq (.reg [
 ⟨some 2,.box 79 (.tmp 0),none⟩,iH 4])
 (.seq (.reg [
 ⟨some 5,.alloc 145 (.slice none 0 0),none⟩])
 (.seq (.seq (.reg [
 iN 7 11 2,iM 8 1,iY 9 68 7 8])
 (.blk 0
 (.rf (.tmp 9) [10]
 (.reg [
 ⟨some 6,.lalloc 85 (.agg #[(.slice none 0 0),(.slice none 0 0)]),none⟩,iS 2 6 10])
 (.blk 1
 (.seq (.reg [
 iN 11 11 2,iN 12 2 6,⟨some 13,.call (.func 69) [.tmp 11,.tmp 12,.const (.int .i64 0)],none⟩])
 (.cond (.tmp 13)
 (.reg [
 iL 14 5,iN 15 2 6,⟨some 16,.lbs 85 2 [(.slice none 0 0),(.slice none 0 0)] 1 [(0,.tmp 15)],none⟩,⟨some 17,.app 85 2 (.tmp 14) (.tmp 16),none⟩,iS 1 5 17])
 .skip))))))
 (.seq (.reg [
 iL 18 5,iM 4 18])
 .ret))))
def p70:PFunc:=⟨19,[(4,none)],none,b70⟩
def q71x0:PCode :=
 (.seq (.reg [
 iT 15 .lss 14 13])
 (.seq (.cond (.tmp 15)
 .skip
 (.exit 0))
 (.seq (.blk 1
 (.seq (.reg [
 iA 16 2 12 14,iN 17 2 16,⟨some 7,.lalloc 85 (.agg #[(.slice none 0 0),(.slice none 0 0)]),none⟩,iS 2 7 17])
 (.seq (.reg [
 iM 18 1,iN 19 2 7,iN 20 2 5,⟨some 21,.call (.tmp 18) [.tmp 19,.tmp 20],none⟩])
 (.cond (.tmp 21)
 (.reg [
 iN 22 2 7,iS 2 5 22])
 .skip))))
 (.reg [
 iO 23 .add 14 1,iM 14 23]))))
def b71:PCode :=
 (.seq (.reg [
 ⟨some 4,.lalloc 85 (.agg #[(.slice none 0 0),(.slice none 0 0)]),none⟩])
 (.seq (.reg [
 iM 8 0,⟨some 9,.v (.ia 2) [.tmp 8,.const (.int .i64 0)],none⟩,iN 10 2 9,⟨some 5,.lalloc 85 (.agg #[(.slice none 0 0),(.slice none 0 0)]),none⟩,iS 2 5 10])
 (.seq (.seq (.reg [
 iM 11 0,⟨some 12,.v (.sl 2 true false) [.tmp 11,.const (.int .i64 1)],none⟩,iK 13 12,iI 14 0])
 (.blk 0
 (.loop q71x0)))
 (.seq (.reg [
 iN 24 2 5,iS 2 4 24])
 .ret))))
def p71:PFunc:=⟨25,[(4,some (some 2))],none,b71⟩
def b72:PCode :=
 (.seq (.reg [
 iV 3 85 0,iV 4 85 1,iB 5 false])
 (.seq (.dreg [
 iF 8 1 3,iL 9 8,iK 10 9,iF 11 1 4,iL 12 11,iK 13 12,iM 6 10,iM 7 13] [fC,⟨5,true,none⟩,fC,fC,⟨6,true,none⟩,fC,fC,fC])
 (.seq (.dreg [
 iM 14 6,iM 15 7,iT 16 .lss 14 15,iM 17 16,jM 18 6 17 false,
 jM 19 7 17 false,
 jT 20 .eql 18 19 17 false,
 jM 21 20 17 false,
 jN 22 11 2 21 true,
 jN 23 2 3 21 true,
 jY 24 73 22 23 21 true,
 jN 25 11 2 21 true,
 jN 26 2 4 21 true,
 jY 27 73 25 26 21 true,
 jT 28 .gtr 24 27 21 true,
 jP 29 21 28 17 false,
 iQ 30 17 29,iM 5 30] [fC,fC,fC,fC,fC,fC,fC,fC,fB,⟨5,false,none⟩,fB,fB,⟨6,false,none⟩,fD,fC,fC,fC,fC])
 .ret)))
def p72:PFunc:=⟨31,[(5,none)],none,b72⟩
def q73x0:PCode :=
 (.seq (.seq (.reg [
 iM 6 5,iO 7 .geq 6 0,iM 8 7,jN 9 11 2 8 true,
 jN 10 2 3 8 true,
 jM 11 5 8 true,
 jZ 12 69 9 10 11 8 true,
 jR 13 12 8 true,
 iP 14 8 13])
 (.cond (.tmp 14)
 .skip
 (.exit 0)))
 (.blk 1
 (.reg [
 iM 15 5,iO 16 .sub 15 1,iM 5 16])))
def b73:PCode :=
 (.seq (.reg [
 iV 2 79 0,iV 3 85 1,iI 4 0])
 (.seq (.reg [
 iI 5 10])
 (.seq (.blk 0
 (.loop q73x0))
 (.seq (.reg [
 iM 17 5,iM 4 17])
 .ret))))
def p73:PFunc:=⟨18,[(4,none)],none,b73⟩
def b74:PCode :=
 (.seq (.reg [
 ⟨some 1,.box 45 (.tmp 0),none⟩,iB 2 false])
 (.seq (.seq (.reg [
 iF 3 0 1,iL 4 3,iK 5 4,⟨some 6,.call (.func 75) [.tmp 5,.const (.int .i64 1),.const (.int .i64 3)],none⟩,iR 7 6,iM 8 7,jF 9 1 1 8 false,
 jL 10 9 8 false,
 jK 11 10 8 false,
 ⟨some 12,.call (.func 75) [.tmp 11,.const (.int .i64 1),.const (.int .i64 4)],some (8,false)⟩,
 jR 13 12 8 false,
 iQ 14 8 13,iM 15 14,jF 16 2 1 15 false,
 jL 17 16 15 false,
 jK 18 17 15 false,
 ⟨some 19,.call (.func 75) [.tmp 18,.const (.int .i64 1),.const (.int .i64 3)],some (15,false)⟩,
 jR 20 19 15 false,
 iQ 21 15 20])
 (.cond (.tmp 21)
 (.seq (.reg [
 iB 2 false])
 .ret)
 .skip))
 (.seq (.reg [
 iF 22 0 1,iL 23 22,⟨some 24,.call (.func 60) [.tmp 23,.func 113],none⟩,iR 25 24,iM 26 25,jF 27 1 1 26 true,
 jL 28 27 26 true,
 ⟨some 29,.v (.mkf (.func 115) 0) [.tmp 1],some (26,true)⟩,
 jY 30 114 28 29 26 true,
 jR 31 30 26 true,
 iP 32 26 31,iM 33 32,jF 34 2 1 33 true,
 jL 35 34 33 true,
 ⟨some 36,.call (.func 117) [.tmp 35,.func 118],some (33,true)⟩,
 jR 37 36 33 true,
 iP 38 33 37,iM 2 38])
 .ret)))
def p74:PFunc:=⟨39,[(2,none)],none,b74⟩
def b75:PCode :=
 (.seq (.reg [
 iB 6 false])
 (.seq (.reg [
 iM 7 0,iM 8 1,iT 9 .geq 7 8,iM 10 9,jM 11 0 10 true,
 jM 12 2 10 true,
 jT 13 .leq 11 12 10 true,
 iP 14 10 13,iM 6 14])
 .ret))
def p75:PFunc:=⟨15,[(6,none)],none,b75⟩
def q76x0:PCode :=
 (.seq (.reg [
 iT 16 .lss 15 14])
 (.seq (.cond (.tmp 16)
 .skip
 (.exit 0))
 (.seq (.blk 1
 (.seq (.reg [
 iM 17 15,iA 18 5 13 15,iN 19 5 18,⟨some 8,.lalloc 38 (.agg #[(.int .i64 0),(.int .i64 0),(.int .i64 0),(.int .i64 0),(.int .i64 0)]),none⟩,iM 7 17,iS 5 8 19])
 (.dreg [
 iM 20 5,iM 21 6,iN 22 5 8,iF 23 3 2,iL 24 23,iM 25 7,iA 26 1 24 25,iL 27 26,⟨some 28,.v (.mth "mahlstick/price.quantity") [.tmp 21],none⟩,⟨some 29,.v (.nck [("Error",8),("RuntimeError",8),("Error",10),("RuntimeError",10),("Error",11),("RuntimeError",11),("Error",14),("RuntimeError",14),("Error",19),("RuntimeError",19),("mahlstick/letter.can",79),("mahlstick/letter.fits",79),("mahlstick/letter.fitting",79),("mahlstick/letter.gaps",79),("mahlstick/letter.letters",79),("mahlstick/letter.lines",79),("mahlstick/letter.settings",79),("mahlstick/letter.sign",79),("mahlstick/letter.space",79),("mahlstick/letter.stretch",79),("mahlstick/letter.wide",79),("mahlstick/price.paid",92),("mahlstick/price.parts",92),("mahlstick/price.price",92),("mahlstick/price.quantities",92),("mahlstick/strip.chain",107),("mahlstick/strip.free",107),("mahlstick/strip.orders",107),("mahlstick/strip.ways",107),("mahlstick/bench.before",120),("mahlstick/bench.begin",120),("mahlstick/bench.end",120),("mahlstick/bench.free",120),("mahlstick/bench.long",120),("mahlstick/coat.dries",169),("mahlstick/coat.goes",169),("mahlstick/coat.greatest",169),("mahlstick/coat.least",169),("mahlstick/coat.plans",169),("mahlstick/coat.stands",169),("mahlstick/price.down",200),("mahlstick/price.even",200),("mahlstick/price.near",200),("mahlstick/price.rounded",200),("mahlstick/price.up",200),("mahlstick/bench.fewest",209),("mahlstick/bench.most",209),("mahlstick/price.quantity",235),("mahlstick/price.quantity",236),("mahlstick/price.quantity",237),("mahlstick/price.quantity",238),("String",264)]) [.tmp 28],none⟩,iM 30 21,⟨some 31,.inv (.tmp 30) [(235,187),(236,188),(237,189),(238,190)] [.tmp 22,.tmp 27],none⟩,⟨some 32,.lbs 3 1 [(.int .i64 0)] 1 [(0,.tmp 31)],none⟩,⟨some 33,.app 3 1 (.tmp 20) (.tmp 32),none⟩,iM 5 33] [fA,fA,⟨10,false,none⟩,fC,⟨4,true,none⟩,fC,fC,fE,fA,fA,fA,⟨1,true,some [20]⟩,⟨34,true,none⟩,fE,fC])))
 (.reg [
 iO 34 .add 15 1,iM 15 34]))))
def b76:PCode :=
 (.seq (.reg [
 iV 2 92 0,iV 3 42 1,iH 4])
 (.seq (.reg [
 iH 5])
 (.seq (.reg [
 iN 9 5 3,iX 10 120 9,iM 6 10])
 (.seq (.seq (.reg [
 iF 11 0 2,iF 12 1 11,iL 13 12,iK 14 13,iI 15 0])
 (.blk 0
 (.loop q76x0)))
 (.seq (.reg [
 iM 35 5,iM 4 35])
 .ret)))))
def p76:PFunc:=⟨36,[(4,none)],none,b76⟩
def b77:PCode :=
 (.seq (.reg [
 iV 3 92 0,iV 4 42 1,iI 6 0])
 (.seq (.reg [
 iN 11 5 4,iM 12 2,⟨some 13,.v (.bld [(.int .i64 0),(.int .i64 0),(.int .i64 0),(.int .i64 0),(.bool false),(.int .i64 0)] [(0,5),(5,1)]) [.tmp 11,.tmp 12],none⟩,⟨some 7,.lalloc 197 (.agg #[(.int .i64 0),(.int .i64 0),(.int .i64 0),(.int .i64 0),(.bool false),(.int .i64 0)]),none⟩,iS 6 7 13])
 (.seq (.seq (.reg [
 iF 15 4 3,iL 16 15,iN 17 6 7,⟨some 18,.mlk (.agg [(.i .i64),(.i .i64),(.i .i64),(.i .i64),.b,(.i .i64)]) (.int .i64 0) true (.tmp 16) (.tmp 17),none⟩,iM 14 18,iE 19 0 14,iE 20 1 14,iM 8 19,iM 9 20])
 (.seq (.reg [
 iM 21 9])
 (.cond (.tmp 21)
 (.seq (.reg [
 iM 22 8,iM 6 22])
 .ret)
 .skip)))
 (.seq (.dreg [
 iM 23 2,iF 24 1 4,iL 25 24,iT 26 .mul 23 25,iF 27 2 4,iL 28 27,⟨some 29,.v (.bld [(.int .i64 0),(.int .i64 0)] [(0,1),(1,1)]) [.tmp 26,.tmp 28],none⟩,iF 30 3 4,iL 31 30,iX 32 122 31,iY 33 121 29 32,iM 10 33] [fA,fA,⟨6,false,none⟩,fA,fA,⟨6,false,none⟩,fA,fC,⟨6,true,none⟩,⟨1,true,some [23,24,25,26,27,28,29]⟩,fD,fC])
 (.seq (.reg [
 iF 34 4 3,iL 35 34,iN 36 6 7,iM 37 10,⟨none,.mup (.agg [(.i .i64),(.i .i64),(.i .i64),(.i .i64),.b,(.i .i64)]) (.tmp 35) (.tmp 36) (.tmp 37),none⟩])
 (.seq (.reg [
 iM 38 10,iM 6 38])
 .ret))))))
def p77:PFunc:=⟨39,[(6,none)],none,b77⟩
def q78x0:PCode :=
 (.seq (.reg [
 iT 9 .lss 8 7])
 (.seq (.cond (.tmp 9)
 .skip
 (.exit 0))
 (.seq (.blk 1
 (.seq (.reg [
 iA 10 1 6 8,iL 11 10,iM 5 11])
 (.reg [
 iM 12 3,iM 13 5,iT 14 .add 12 13,iM 3 14])))
 (.reg [
 iO 15 .add 8 1,iM 8 15]))))
def b78:PCode :=
 (.seq (.reg [
 iI 2 0])
 (.seq (.reg [
 iI 3 0])
 (.seq (.seq (.reg [
 iM 6 0,iK 7 6,iI 8 0])
 (.blk 0
 (.loop q78x0)))
 (.seq (.reg [
 iM 16 3,iM 2 16])
 .ret))))
def p78:PFunc:=⟨17,[(2,none)],none,b78⟩
def b96:PCode :=
 (.seq (.reg [
 ⟨some 4,.lalloc 25 (.agg #[(.int .i64 0),(.int .i64 0)]),none⟩])
 (.seq (.reg [
 iM 5 0,iM 6 1,⟨some 7,.v (.bld [(.int .i64 0),(.int .i64 0)] [(0,1),(1,1)]) [.tmp 5,.tmp 6],none⟩,iS 2 4 7])
 .ret))
def p96:PFunc:=⟨8,[(4,some (some 2))],none,b96⟩
def b97:PCode :=
 (.seq (.reg [
 ⟨some 1,.box 75 (.tmp 0),none⟩,iB 2 false])
 (.seq (.reg [
 ⟨some 3,.v .mv [.func 130],none⟩])
 (.seq (.reg [
 ⟨some 4,.v .mv [.func 132],none⟩])
 (.seq (.reg [
 iF 5 0 1,iL 6 5,iK 7 6,⟨some 8,.call (.func 131) [.tmp 7,.const (.int .i64 1),.const (.int .i64 12)],none⟩,iM 9 8,jF 10 2 1 9 true,
 jL 11 10 9 true,
 jK 12 11 9 true,
 ⟨some 13,.call (.func 131) [.tmp 12,.const (.int .i64 1),.const (.int .i64 5)],some (9,true)⟩,
 iP 14 9 13,iM 15 14,jF 16 0 1 15 true,
 jL 17 16 15 true,
 jM 18 3 15 true,
 jY 19 133 17 18 15 true,
 jR 20 19 15 true,
 iP 21 15 20,iM 22 21,jF 23 2 1 22 true,
 jL 24 23 22 true,
 jM 25 4 22 true,
 jY 26 134 24 25 22 true,
 jR 27 26 22 true,
 iP 28 22 27,iM 29 28,jF 30 1 1 29 true,
 jL 31 30 29 true,
 jX 32 135 31 29 true,
 iP 33 29 32,iM 34 33,jF 35 1 1 34 true,
 jL 36 35 34 true,
 ⟨some 37,.v (.mkf (.func 136) 0) [.tmp 1],some (34,true)⟩,
 jY 38 60 36 37 34 true,
 jR 39 38 34 true,
 iP 40 34 39,iM 2 40])
 .ret))))
def p97:PFunc:=⟨41,[(2,none)],none,b97⟩
def b98:PCode :=
 (.seq (.reg [
 iH 2])
 (.seq (.reg [
 iM 3 0,⟨some 4,.call (.func 138) [.const (.slice none 0 0),.tmp 3],none⟩,iM 2 4])
 .ret))
def p98:PFunc:=⟨5,[(2,none)],none,b98⟩
def q99x0:PCode :=
 (.seq (.reg [
 iT 14 .lss 13 12])
 (.seq (.cond (.tmp 14)
 .skip
 (.exit 0))
 (.seq (.blk 1
 (.seq (.reg [
 iM 15 13,iA 16 2 11 13,iN 17 2 16,⟨some 5,.lalloc 25 (.agg #[(.int .i64 0),(.int .i64 0)]),none⟩,iM 4 15,iS 2 5 17])
 (.dreg [
 iF 18 3 3,iL 19 18,iF 20 3 3,iL 21 20,iM 22 4,iA 23 1 21 22,iL 24 23,iF 25 0 5,iL 26 25,iT 27 .add 24 26,⟨some 28,.lbs 3 1 [(.int .i64 0)] 1 [(0,.tmp 27)],none⟩,⟨some 29,.app 3 1 (.tmp 19) (.tmp 28),none⟩,iF 30 4 3,iL 31 30,iF 32 4 3,iL 33 32,iM 34 4,iA 35 1 33 34,iL 36 35,iF 37 1 5,iL 38 37,iT 39 .add 36 38,⟨some 40,.lbs 3 1 [(.int .i64 0)] 1 [(0,.tmp 39)],none⟩,⟨some 41,.app 3 1 (.tmp 31) (.tmp 40),none⟩,iF 42 3 3,iS 1 42 29,iF 43 4 3,iS 1 43 41] [fA,⟨5,false,none⟩,fA,⟨5,false,none⟩,fA,fA,fB,fA,⟨7,false,none⟩,fA,⟨30,false,none⟩,fB,fA,⟨5,false,none⟩,fA,⟨5,false,none⟩,fA,fA,fB,fA,⟨7,false,none⟩,fA,⟨42,false,none⟩,fE,fA,⟨5,true,none⟩,fC,⟨5,true,none⟩])))
 (.reg [
 iO 44 .add 13 1,iM 13 44]))))
def b99:PCode :=
 (.seq (.reg [
 iV 1 75 0,⟨some 2,.lalloc 169 (.agg #[(.slice none 0 0),(.slice none 0 0),(.slice none 0 0),(.slice none 0 0),(.slice none 0 0)]),none⟩])
 (.seq (.reg [
 iN 6 3 1,⟨some 7,.bs 3 1 [(.int .i64 0)] 1 [(0,.const (.int .i64 0))],none⟩,⟨some 8,.bs 3 1 [(.int .i64 0)] 1 [(0,.const (.int .i64 0))],none⟩,⟨some 9,.v (.bld [(.slice none 0 0),(.slice none 0 0),(.slice none 0 0),(.slice none 0 0),(.slice none 0 0)] [(0,3),(3,1),(4,1)]) [.tmp 6,.tmp 7,.tmp 8],none⟩,⟨some 3,.lalloc 169 (.agg #[(.slice none 0 0),(.slice none 0 0),(.slice none 0 0),(.slice none 0 0),(.slice none 0 0)]),none⟩,iS 5 3 9])
 (.seq (.seq (.reg [
 iF 10 0 1,iL 11 10,iK 12 11,iI 13 0])
 (.blk 0
 (.loop q99x0)))
 (.seq (.reg [
 iN 45 5 3,iS 5 2 45])
 .ret))))
def p99:PFunc:=⟨46,[(2,some (some 5))],none,b99⟩
def b100:PCode :=
 (.seq (.reg [
 ⟨some 1,.box 169 (.tmp 0),none⟩,⟨some 2,.v .mv [.const .nilFunc],none⟩])
 (.seq (.reg [
 ⟨some 3,.v (.mkf (.func 139) 0) [.tmp 1],none⟩,iM 2 3])
 .ret))
def p100:PFunc:=⟨4,[(2,none)],none,b100⟩
def q101x0:PCode :=
 (.seq (.reg [
 iT 9 .lss 8 7])
 (.seq (.cond (.tmp 9)
 .skip
 (.exit 0))
 (.seq (.blk 1
 (.seq (.reg [
 iM 10 8,iM 5 10])
 (.seq (.reg [
 iM 11 1,iM 12 0,iM 13 5,iA 14 1 12 13,iL 15 14,⟨some 16,.call (.tmp 11) [.tmp 15],none⟩])
 (.cond (.tmp 16)
 (.seq (.reg [
 iM 17 5,iM 4 17])
 .ret)
 .skip))))
 (.reg [
 iO 18 .add 8 1,iM 8 18]))))
def b101:PCode :=
 (.seq (.reg [
 iI 4 0])
 (.seq (.seq (.reg [
 iM 6 0,iK 7 6,iI 8 0])
 (.blk 0
 (.loop q101x0)))
 (.seq (.reg [
 iI 4 (-1)])
 .ret)))
def p101:PFunc:=⟨19,[(4,none)],none,b101⟩
def q102x0:PCode :=
 (.seq (.reg [
 iT 9 .lss 8 7])
 (.seq (.cond (.tmp 9)
 .skip
 (.exit 0))
 (.seq (.blk 1
 (.seq (.reg [
 iM 10 8,iM 5 10])
 (.seq (.reg [
 iM 11 1,iM 12 0,iM 13 5,iA 14 3 12 13,iN 15 3 14,⟨some 16,.call (.tmp 11) [.tmp 15],none⟩])
 (.cond (.tmp 16)
 (.seq (.reg [
 iM 17 5,iM 4 17])
 .ret)
 .skip))))
 (.reg [
 iO 18 .add 8 1,iM 8 18]))))
def b102:PCode :=
 (.seq (.reg [
 iI 4 0])
 (.seq (.seq (.reg [
 iM 6 0,iK 7 6,iI 8 0])
 (.blk 0
 (.loop q102x0)))
 (.seq (.reg [
 iI 4 (-1)])
 .ret)))
def p102:PFunc:=⟨19,[(4,none)],none,b102⟩
def b103:PCode :=
 (.seq (.reg [
 iB 3 false])
 (.seq (.reg [
 iM 4 0,iF 5 0 1,iL 6 5,iK 7 6,iO 8 .sub 7 1,⟨some 9,.call (.func 56) [.tmp 4,.const (.int .i64 0),.tmp 8],none⟩,iR 10 9,iM 3 10])
 .ret))
def p103:PFunc:=⟨11,[(3,none)],none,b103⟩
def q104x0:PCode :=
 (.seq (.reg [
 iT 12 .lss 11 10])
 (.seq (.cond (.tmp 12)
 .skip
 (.exit 0))
 (.seq (.blk 1
 (.seq (.reg [
 iM 13 11,iA 14 1 9 11,iL 15 14,iM 7 13,iM 8 15])
 (.seq (.reg [
 iM 16 8,iM 17 1,iM 18 2,iZ 19 56 16 17 18,iR 20 19,iM 21 20,jM 22 7 21 false,
 jO 23 .gtr 22 0 21 false,
 jM 24 23 21 false,
 jM 25 8 24 true,
 jM 26 0 24 true,
 jM 27 7 24 true,
 jO 28 .sub 27 1 24 true,
 jA 29 1 26 28 24 true,
 jL 30 29 24 true,
 jT 31 .leq 25 30 24 true,
 jP 32 24 31 21 false,
 iQ 33 21 32])
 (.cond (.tmp 33)
 (.seq (.reg [
 iB 6 false])
 .ret)
 .skip))))
 (.reg [
 iO 34 .add 11 1,iM 11 34]))))
def b104:PCode :=
 (.seq (.reg [
 iB 6 false])
 (.seq (.seq (.reg [
 iM 9 0,iK 10 9,iI 11 0])
 (.blk 0
 (.loop q104x0)))
 (.seq (.reg [
 iB 6 true])
 .ret)))
def p104:PFunc:=⟨35,[(6,none)],none,b104⟩
def b105:PCode :=
 (.seq (.reg [
 ⟨some 3,.box 174 (.tmp 0),none⟩])
 (.seq (.reg [
 iF 7 0 1,iN 8 10 7,iL 9 2,iY 10 106 8 9,⟨some 4,.alloc 83 (.slice none 0 0),none⟩,iS 1 4 10])
 (.seq (.reg [
 ⟨some 5,.alloc 83 (.slice none 0 0),none⟩])
 (.seq (.reg [
 ⟨some 6,.alloc 69 .nilFunc,none⟩])
 (.seq (.reg [
 ⟨some 11,.v (.mkf (.func 107) 0) [.tmp 4,.tmp 3,.tmp 2,.tmp 5,.tmp 1,.tmp 6],none⟩,iS 1 6 11])
 (.reg [
 iL 12 6,⟨some 13,.call (.tmp 12) [.const (.int .i64 0)],none⟩]))))))
def p105:PFunc:=⟨14,[],none,b105⟩
def q106x0:PCode :=
 (.seq (.reg [
 iT 26 .lss 25 24])
 (.seq (.cond (.tmp 26)
 .skip
 (.exit 2))
 (.seq (.blk 3
 (.seq (.reg [
 iA 27 1 23 25,iL 28 27,iM 8 28])
 (.reg [
 iM 29 5,iM 30 6,iM 31 8,⟨some 32,.v (.bld [(.int .i64 0),(.int .i64 0)] [(0,1),(1,1)]) [.tmp 30,.tmp 31],none⟩,⟨some 33,.lbs 178 2 [(.int .i64 0),(.int .i64 0)] 1 [(0,.tmp 32)],none⟩,⟨some 34,.app 178 2 (.tmp 29) (.tmp 33),none⟩,iM 5 34])))
 (.reg [
 iO 35 .add 25 1,iM 25 35]))))
def q106x1:PCode :=
 (.seq (.reg [
 iT 13 .lss 12 11])
 (.seq (.cond (.tmp 13)
 .skip
 (.exit 0))
 (.seq (.blk 1
 (.seq (.reg [
 iM 14 12,iM 6 14])
 (.seq (.seq (.reg [
 iM 15 1,iM 16 6,iY 17 145 15 16])
 (.cond (.tmp 17)
 (.exit 1)
 .skip))
 (.seq (.seq (.reg [
 iF 18 7 2,iL 19 18,iM 20 6,iA 21 3 19 20,iF 22 1 21,iL 23 22,iK 24 23,iI 25 0])
 (.blk 2
 (.loop q106x0)))
 (.reg [
 iM 36 5,iM 37 6,iF 38 7 2,iL 39 38,iM 40 6,iA 41 3 39 40,iF 42 0 41,iL 43 42,iK 44 43,⟨some 45,.v (.bld [(.int .i64 0),(.int .i64 0)] [(0,1),(1,1)]) [.tmp 37,.tmp 44],none⟩,⟨some 46,.lbs 178 2 [(.int .i64 0),(.int .i64 0)] 1 [(0,.tmp 45)],none⟩,⟨some 47,.app 178 2 (.tmp 36) (.tmp 46),none⟩,iM 5 47])))))
 (.reg [
 iO 48 .add 12 1,iM 12 48]))))
def b106:PCode :=
 (.seq (.reg [
 iV 2 28 0,iH 4])
 (.seq (.reg [
 iH 5])
 (.seq (.seq (.reg [
 iF 9 7 2,iL 10 9,iK 11 10,iI 12 0])
 (.blk 0
 (.loop q106x1)))
 (.seq (.reg [
 iM 49 5,iM 4 49])
 .ret))))
def p106:PFunc:=⟨50,[(4,none)],none,b106⟩
def q107x0:PCode :=
 (.seq (.seq (.reg [
 iM 22 9,iL 23 1,iK 24 23,iT 25 .lss 22 24,iM 26 25,jL 27 4 26 true,
 jK 28 27 26 true,
 jF 29 0 5 26 true,
 jF 30 9 29 26 true,
 jL 31 30 26 true,
 jT 32 .lss 28 31 26 true,
 iP 33 26 32])
 (.cond (.tmp 33)
 .skip
 (.exit 0)))
 (.seq (.blk 1
 (.seq (.dreg [
 iL 36 4,iL 37 1,iM 38 9,iA 39 2 37 38,iN 40 2 39,⟨some 41,.lbs 178 2 [(.int .i64 0),(.int .i64 0)] 1 [(0,.tmp 40)],none⟩,⟨some 42,.app 178 2 (.tmp 36) (.tmp 41),none⟩,iS 1 4 42] [fB,fB,fA,fA,fB,⟨43,false,none⟩,fE,fE])
 (.seq (.seq (.reg [
 iL 43 6,iM 44 9,iO 45 .add 44 1,⟨some 46,.call (.tmp 43) [.tmp 45],none⟩,iR 47 46])
 (.cond (.tmp 47)
 (.seq (.reg [
 iB 8 false])
 .ret)
 .skip))
 (.reg [
 iL 48 4,iL 49 4,iK 50 49,iO 51 .sub 50 1,⟨some 52,.v (.sl 2 false true) [.tmp 48,.tmp 51],none⟩,iS 1 4 52]))))
 (.reg [
 iM 34 9,iO 35 .add 34 1,iM 9 35])))
def b107:PCode :=
 (.seq (.reg [
 iB 8 false])
 (.seq (.seq (.reg [
 iM 10 0,iL 11 1,iK 12 11,iT 13 .eql 10 12])
 (.cond (.tmp 13)
 (.seq (.dreg [
 iL 14 2,iL 15 3,iX 16 66 15,iL 17 4,iX 18 108 17,⟨some 19,.v (.bld [(.slice none 0 0),(.slice none 0 0)] [(0,1),(1,1)]) [.tmp 16,.tmp 18],none⟩,⟨some 20,.call (.tmp 14) [.tmp 19],none⟩,iM 8 20] [fB,fB,fB,fB,⟨1,false,some [14]⟩,fA,fD,fC])
 .ret)
 .skip))
 (.seq (.seq (.reg [
 iM 21 0,iM 9 21])
 (.blk 0
 (.loop q107x0)))
 (.seq (.reg [
 iB 8 true])
 .ret))))
def p107:PFunc:=⟨53,[(8,none)],none,b107⟩
def b108:PCode :=
 (.seq (.reg [
 iH 2])
 (.seq (.seq (.reg [
 iM 3 0,⟨some 4,.v (.nl .slice false) [.tmp 3],none⟩])
 (.cond (.tmp 4)
 (.seq (.reg [
 iH 2])
 .ret)
 .skip))
 (.seq (.reg [
 ⟨some 5,.bs 178 2 [(.int .i64 0),(.int .i64 0)] 0 [],none⟩,iM 6 0,⟨some 7,.app 178 2 (.tmp 5) (.tmp 6),none⟩,iM 2 7])
 .ret)))
def p108:PFunc:=⟨8,[(2,none)],none,b108⟩
def b109:PCode :=
 (.seq (.reg [
 ⟨some 2,.alloc 34 (.int .i64 0),none⟩])
 (.seq (.reg [
 ⟨some 3,.v (.mkf (.func 146) 0) [.tmp 2],none⟩,⟨none,.dfr (.tmp 3) [],none⟩])
 (.seq (.reg [
 iM 4 0,⟨some 5,.call (.tmp 4) [],none⟩])
 (.seq (.reg [
 ⟨none,.st 1 (.tmp 2) (.const (.int .i64 0)),none⟩])
 .ret))))
def p109:PFunc:=⟨6,[(2,some none)],none,b109⟩
def q110x0:PCode :=
 (.seq (.reg [
 iT 10 .lss 9 8])
 (.seq (.cond (.tmp 10)
 .skip
 (.exit 0))
 (.seq (.blk 1
 (.seq (.reg [
 iM 11 9,iA 12 2 7 9,iN 13 2 12,⟨some 4,.lalloc 183 (.agg #[(.slice none 0 0),(.bool false)]),none⟩,iM 3 11,iS 2 4 13])
 (.seq (.dreg [
 iN 14 11 0,iN 15 2 4,iL 16 2,iZ 17 112 14 15 16,iF 18 0 0,iF 19 8 18,iL 20 19,iT 21 .gtr 17 20] [fB,⟨6,false,none⟩,fB,fB,fA,fA,fB,fC])
 (.cond (.tmp 21)
 (.reg [
 iM 22 3,⟨some 23,.v (.bld [(.int .i64 0)] [(0,1)]) [.tmp 22],none⟩,⟨some 24,.v (.mki 186) [.tmp 23],none⟩,⟨none,.pnc (.tmp 24),none⟩])
 .skip))))
 (.reg [
 iO 25 .add 9 1,iM 9 25]))))
def b110:PCode :=
 (.seq (.reg [
 iN 5 11 0,iN 6 2 1,iY 7 111 5 6,iK 8 7,iI 9 0])
 (.blk 0
 (.loop q110x0)))
def p110:PFunc:=⟨26,[],none,b110⟩
def q111x0:PCode :=
 (.seq (.seq (.reg [
 iM 31 6,iF 32 0 9,iL 33 32,iT 34 .lss 31 33,iM 35 34,jM 36 6 35 false,
 jF 37 0 9 35 false,
 jL 38 37 35 false,
 jT 39 .eql 36 38 35 false,
 jM 40 39 35 false,
 jM 41 7 40 true,
 jF 42 1 9 40 true,
 jL 43 42 40 true,
 jT 44 .lss 41 43 40 true,
 jP 45 40 44 35 false,
 iQ 46 35 45])
 (.cond (.tmp 46)
 .skip
 (.exit 2)))
 (.seq (.blk 3
 (.seq (.seq (.reg [
 iF 49 0 3,iL 50 49,iM 51 6,iY 52 145 50 51,iM 53 52,jM 54 7 53 false,
 jF 55 0 2 53 false,
 jF 56 7 55 53 false,
 jL 57 56 53 false,
 jM 58 6 53 false,
 jA 59 3 57 58 53 false,
 jF 60 0 59 53 false,
 jL 61 60 53 false,
 jK 62 61 53 false,
 jT 63 .eql 54 62 53 false,
 iQ 64 53 63])
 (.cond (.tmp 64)
 (.seq (.reg [
 iM 65 6,iO 66 .add 65 1,iM 6 66,iI 7 (-1)])
 (.exit 3))
 .skip))
 (.reg [
 iF 67 0 10,iL 68 67,iM 69 6,iM 70 7,⟨some 71,.v (.bld [(.int .i64 0),(.int .i64 0)] [(0,1),(1,1)]) [.tmp 69,.tmp 70],none⟩,⟨some 72,.lbs 229 2 [(.int .i64 0),(.int .i64 0)] 1 [(0,.tmp 71)],none⟩,⟨some 73,.app 229 2 (.tmp 68) (.tmp 72),none⟩,iF 74 0 10,iS 1 74 73])))
 (.reg [
 iM 47 7,iO 48 .add 47 1,iM 7 48])))
def q111x1:PCode :=
 (.seq (.reg [
 iT 15 .lss 14 13])
 (.seq (.cond (.tmp 15)
 .skip
 (.exit 0))
 (.seq (.blk 1
 (.seq (.reg [
 iA 16 2 12 14,iN 17 2 16,⟨some 9,.lalloc 178 (.agg #[(.int .i64 0),(.int .i64 0)]),none⟩,iS 2 9 17])
 (.seq (.dreg [
 iF 18 1 9,iL 19 18,iF 20 0 2,iF 21 7 20,iL 22 21,iF 23 0 9,iL 24 23,iA 25 3 22 24,iF 26 0 25,iL 27 26,iK 28 27,iT 29 .lss 19 28,⟨some 30,.v (.bld [(.slice none 0 0),(.bool false)] [(1,1)]) [.tmp 29],none⟩,⟨some 10,.lalloc 183 (.agg #[(.slice none 0 0),(.bool false)]),none⟩,iS 2 10 30] [fA,⟨11,false,none⟩,fC,fC,⟨4,true,none⟩,fC,⟨11,true,none⟩,fC,fC,fE,fC,fC,fC,⟨12,false,none⟩,⟨12,true,none⟩])
 (.seq (.blk 2
 (.loop q111x0))
 (.reg [
 iM 75 5,iN 76 2 10,⟨some 77,.lbs 183 2 [(.slice none 0 0),(.bool false)] 1 [(0,.tmp 76)],none⟩,⟨some 78,.app 183 2 (.tmp 75) (.tmp 77),none⟩,iM 5 78])))))
 (.reg [
 iO 79 .add 14 1,iM 14 79]))))
def b111:PCode :=
 (.seq (.reg [
 iV 2 79 0,iV 3 85 1,iH 4])
 (.seq (.reg [
 iH 5])
 (.seq (.reg [
 iI 6 0,iI 7 0])
 (.seq (.seq (.reg [
 iF 11 1 3,iL 12 11,iK 13 12,iI 14 0])
 (.blk 0
 (.loop q111x1)))
 (.seq (.reg [
 iM 80 5,iM 4 80])
 .ret)))))
def p111:PFunc:=⟨81,[(4,none)],none,b111⟩
def q112x0:PCode :=
 (.seq (.reg [
 iO 12 .lss 11 2])
 (.seq (.cond (.tmp 12)
 .skip
 (.exit 0))
 (.seq (.blk 1
 (.seq (.reg [
 ⟨some 13,.v (.ixa 1 2 none) [.tmp 10,.tmp 11],none⟩,iM 9 13])
 (.reg [
 iM 14 7,iM 15 9,iN 16 11 3,iN 17 2 4,iM 18 2,⟨some 19,.call (.tmp 15) [.tmp 16,.tmp 17,.tmp 18],none⟩,iT 20 .add 14 19,iM 7 20])))
 (.reg [
 iO 21 .add 11 1,iM 11 21]))))
def b112:PCode :=
 (.seq (.reg [
 iV 3 79 0,iV 4 183 1,iI 6 0])
 (.seq (.reg [
 iI 7 0])
 (.seq (.seq (.reg [
 ⟨some 10,.v (.bld [.nilFunc,.nilFunc] [(0,1),(1,1)]) [.func 147,.func 148],none⟩,iI 11 0])
 (.blk 0
 (.loop q112x0)))
 (.seq (.reg [
 iM 22 7,iM 6 22])
 .ret))))
def p112:PFunc:=⟨23,[(6,none)],none,b112⟩
def b113:PCode :=
 (.seq (.reg [
 iB 2 false])
 (.seq (.reg [
 iM 3 0,⟨some 4,.call (.func 75) [.tmp 3,.const (.int .i64 0),.const (.int .i64 100)],none⟩,iR 5 4,iM 2 5])
 .ret))
def p113:PFunc:=⟨6,[(2,none)],none,b113⟩
def b114:PCode :=
 (.seq (.reg [
 iB 4 false])
 (.seq (.reg [
 iM 5 0,iM 6 1,iY 7 149 5 6,iO 8 .geq 7 0,iM 4 8])
 .ret))
def p114:PFunc:=⟨9,[(4,none)],none,b114⟩
def b115:PCode :=
 (.seq (.reg [
 iV 2 38 0,iB 3 false])
 (.seq (.reg [
 iN 4 3 1,iN 5 5 2,iY 6 116 4 5,iR 7 6,iM 3 7])
 .ret))
def p115:PFunc:=⟨8,[(3,none)],none,b115⟩
def b116:PCode :=
 (.seq (.reg [
 iV 2 45 0,iV 3 38 1,iB 4 false])
 (.seq (.reg [
 iF 5 0 3,iL 6 5,⟨some 7,.call (.func 75) [.tmp 6,.const (.int .i64 0),.const (.int .i64 60)],none⟩,iM 8 7,jF 9 1 3 8 true,
 jL 10 9 8 true,
 ⟨some 11,.call (.func 75) [.tmp 10,.const (.int .i64 0),.const (.int .i64 40)],some (8,true)⟩,
 iP 12 8 11,iM 13 12,jF 14 2 3 13 true,
 jF 15 0 14 13 true,
 jL 16 15 13 true,
 ⟨some 17,.call (.func 75) [.tmp 16,.const (.int .i64 0),.const (.int .i64 40)],some (13,true)⟩,
 iP 18 13 17,iM 19 18,jF 20 2 3 19 true,
 jF 21 1 20 19 true,
 jL 22 21 19 true,
 jF 23 2 3 19 true,
 jF 24 0 23 19 true,
 jL 25 24 19 true,
 ⟨some 26,.call (.func 75) [.tmp 22,.tmp 25,.const (.int .i64 40)],some (19,true)⟩,
 iP 27 19 26,iM 28 27,jF 29 2 3 28 true,
 jF 30 1 29 28 true,
 jL 31 30 28 true,
 jF 32 2 3 28 true,
 jF 33 0 32 28 true,
 jL 34 33 28 true,
 jT 35 .sub 31 34 28 true,
 jO 36 .leq 35 6 28 true,
 iP 37 28 36,iM 38 37,jF 39 4 3 38 true,
 jL 40 39 38 true,
 jF 41 0 2 38 true,
 jL 42 41 38 true,
 jK 43 42 38 true,
 jO 44 .sub 43 1 38 true,
 ⟨some 45,.call (.func 75) [.tmp 40,.const (.int .i64 0),.tmp 44],some (38,true)⟩,
 iP 46 38 45,iM 4 46])
 .ret))
def p116:PFunc:=⟨47,[(4,none)],none,b116⟩
def b117:PCode :=
 (.seq (.reg [
 iB 4 false])
 (.seq (.reg [
 iM 5 0,iM 6 1,iY 7 150 5 6,iO 8 .geq 7 0,iM 4 8])
 .ret))
def p117:PFunc:=⟨9,[(4,none)],none,b117⟩
def b118:PCode :=
 (.seq (.reg [
 iV 1 42 0,iB 2 false])
 (.seq (.reg [
 iN 3 5 1,iX 4 119 3,iR 5 4,iM 2 5])
 .ret))
def p118:PFunc:=⟨6,[(2,none)],none,b118⟩
def b119:PCode :=
 (.seq (.reg [
 iV 1 42 0,iB 2 false])
 (.seq (.reg [
 iF 3 0 1,iL 4 3,iO 5 .geq 4 1,iM 6 5,jF 7 0 1 6 true,
 jL 8 7 6 true,
 jO 9 .leq 8 4 6 true,
 iP 10 6 9,iM 11 10,jF 12 3 1 11 true,
 jL 13 12 11 true,
 jO 14 .geq 13 1 11 true,
 iP 15 11 14,iM 16 15,jF 17 3 1 16 true,
 jL 18 17 16 true,
 jO 19 .leq 18 4 16 true,
 iP 20 16 19,iM 21 20,jF 22 1 1 21 true,
 jL 23 22 21 true,
 ⟨some 24,.call (.func 75) [.tmp 23,.const (.int .i64 0),.const (.int .i64 500)],some (21,true)⟩,
 iP 25 21 24,iM 26 25,jF 27 2 1 26 true,
 jL 28 27 26 true,
 ⟨some 29,.call (.func 75) [.tmp 28,.const (.int .i64 1),.const (.int .i64 12)],some (26,true)⟩,
 iP 30 26 29,iM 2 30])
 .ret))
def p119:PFunc:=⟨31,[(2,none)],none,b119⟩
def b120:PCode :=
 (.seq (.reg [
 iV 1 42 0,⟨some 2,.v .mv [.const .nilIface],none⟩])
 (.seq (.reg [
 ⟨some 3,.v (.bld [] []) [],none⟩,⟨some 4,.v (.mki 235) [.tmp 3],none⟩,⟨some 5,.v (.bld [] []) [],none⟩,⟨some 6,.v (.mki 236) [.tmp 5],none⟩,⟨some 7,.v (.bld [] []) [],none⟩,⟨some 8,.v (.mki 237) [.tmp 7],none⟩,⟨some 9,.v (.bld [] []) [],none⟩,⟨some 10,.v (.mki 238) [.tmp 9],none⟩,⟨some 11,.v (.bld [.nilIface,.nilIface,.nilIface,.nilIface] [(0,1),(1,1),(2,1),(3,1)]) [.tmp 4,.tmp 6,.tmp 8,.tmp 10],none⟩,iF 12 0 1,iL 13 12,iO 14 .sub 13 1,⟨some 15,.v (.ixa 1 4 none) [.tmp 11,.tmp 14],none⟩,iM 2 15])
 .ret))
def p120:PFunc:=⟨16,[(2,none)],none,b120⟩
def b121:PCode :=
 (.seq (.reg [
 iV 2 200 0,iI 4 0])
 (.seq (.reg [
 iN 6 2 2,⟨some 7,.v (.mkf (.func 151) 1) [.tmp 6],none⟩,iN 8 2 2,⟨some 9,.v (.mkf (.func 152) 1) [.tmp 8],none⟩,iN 10 2 2,⟨some 11,.v (.mkf (.func 153) 1) [.tmp 10],none⟩,iN 12 2 2,⟨some 13,.v (.mkf (.func 154) 1) [.tmp 12],none⟩,⟨some 14,.v (.bld [.nilFunc,.nilFunc,.nilFunc,.nilFunc] [(0,1),(1,1),(2,1),(3,1)]) [.tmp 7,.tmp 9,.tmp 11,.tmp 13],none⟩,⟨some 5,.lalloc 240 (.agg #[.nilFunc,.nilFunc,.nilFunc,.nilFunc]),none⟩,iS 4 5 14])
 (.seq (.reg [
 iM 15 1,⟨some 16,.v (.iaa 1 4) [.tmp 5,.tmp 15],none⟩,iL 17 16,⟨some 18,.call (.tmp 17) [],none⟩,iM 4 18])
 .ret)))
def p121:PFunc:=⟨19,[(4,none)],none,b121⟩
def b122:PCode :=
 (.seq (.reg [
 iI 2 0])
 (.seq (.reg [
 iM 3 0,iO 4 .sub 3 1,iM 2 4])
 .ret))
def p122:PFunc:=⟨5,[(2,none)],none,b122⟩
def b130:PCode :=
 (.seq (.reg [
 iV 1 25 0,iB 2 false])
 (.seq (.reg [
 iF 3 0 1,iL 4 3,⟨some 5,.call (.func 131) [.tmp 4,.const (.int .i64 0),.const (.int .i64 24)],none⟩,iR 6 5,iM 7 6,jF 8 1 1 7 false,
 jL 9 8 7 false,
 jF 10 0 1 7 false,
 jL 11 10 7 false,
 ⟨some 12,.call (.func 131) [.tmp 9,.tmp 11,.const (.int .i64 24)],some (7,false)⟩,
 jR 13 12 7 false,
 iQ 14 7 13,iM 2 14])
 .ret))
def p130:PFunc:=⟨15,[(2,none)],none,b130⟩
def b131:PCode :=
 (.seq (.reg [
 iB 6 false])
 (.seq (.reg [
 iM 7 0,iM 8 1,iT 9 .geq 7 8,iM 10 9,jM 11 0 10 true,
 jM 12 2 10 true,
 jT 13 .leq 11 12 10 true,
 iP 14 10 13,iM 6 14])
 .ret))
def p131:PFunc:=⟨15,[(6,none)],none,b131⟩
def b132:PCode :=
 (.seq (.reg [
 iV 1 130 0,iB 2 false])
 (.seq (.reg [
 iF 3 0 1,iL 4 3,⟨some 5,.call (.func 131) [.tmp 4,.const (.int .i64 1),.const (.int .i64 288)],none⟩,iR 6 5,iM 7 6,jF 8 1 1 7 false,
 jL 9 8 7 false,
 jF 10 0 1 7 false,
 jL 11 10 7 false,
 ⟨some 12,.call (.func 131) [.tmp 9,.tmp 11,.const (.int .i64 400)],some (7,false)⟩,
 jR 13 12 7 false,
 iQ 14 7 13,iM 2 14])
 .ret))
def p132:PFunc:=⟨15,[(2,none)],none,b132⟩
def b133:PCode :=
 (.seq (.reg [
 iB 4 false])
 (.seq (.reg [
 iM 5 0,iM 6 1,iY 7 158 5 6,iO 8 .geq 7 0,iM 4 8])
 .ret))
def p133:PFunc:=⟨9,[(4,none)],none,b133⟩
def b134:PCode :=
 (.seq (.reg [
 iB 4 false])
 (.seq (.reg [
 iM 5 0,iM 6 1,iY 7 159 5 6,iO 8 .geq 7 0,iM 4 8])
 .ret))
def p134:PFunc:=⟨9,[(4,none)],none,b134⟩
def q135x0:PCode :=
 (.seq (.reg [
 iT 8 .lss 7 6])
 (.seq (.cond (.tmp 8)
 .skip
 (.exit 0))
 (.seq (.blk 1
 (.seq (.reg [
 iM 9 7,iA 10 1 5 7,iL 11 10,iM 3 9,iM 4 11])
 (.seq (.reg [
 iM 12 3,iO 13 .gtr 12 0,iM 14 13,jM 15 4 14 true,
 jM 16 0 14 true,
 jM 17 3 14 true,
 jO 18 .sub 17 1 14 true,
 jA 19 1 16 18 14 true,
 jL 20 19 14 true,
 jT 21 .leq 15 20 14 true,
 iP 22 14 21])
 (.cond (.tmp 22)
 (.seq (.reg [
 iB 2 false])
 .ret)
 .skip))))
 (.reg [
 iO 23 .add 7 1,iM 7 23]))))
def b135:PCode :=
 (.seq (.reg [
 iB 2 false])
 (.seq (.seq (.reg [
 iM 5 0,iK 6 5,iI 7 0])
 (.blk 0
 (.loop q135x0)))
 (.seq (.reg [
 iB 2 true])
 .ret)))
def p135:PFunc:=⟨24,[(2,none)],none,b135⟩
def b136:PCode :=
 (.seq (.reg [
 iB 3 false])
 (.seq (.reg [
 iN 4 3 1,iM 5 0,iY 6 137 4 5,iR 7 6,iM 3 7])
 .ret))
def p136:PFunc:=⟨8,[(3,none)],none,b136⟩
def b137:PCode :=
 (.seq (.reg [
 iV 2 75 0,iB 4 false])
 (.seq (.reg [
 iM 5 1,iF 6 0 2,iL 7 6,iK 8 7,iO 9 .sub 8 1,⟨some 10,.call (.func 131) [.tmp 5,.const (.int .i64 0),.tmp 9],none⟩,iM 4 10])
 .ret))
def p137:PFunc:=⟨11,[(4,none)],none,b137⟩
def b138:PCode :=
 (.seq (.reg [
 ⟨some 2,.box 50 (.tmp 0),none⟩,iH 4])
 (.seq (.seq (.reg [
 iM 6 1])
 (.blk 0
 (.rf (.tmp 6) [7]
 (.reg [
 iM 5 7])
 (.blk 1
 (.reg [
 iL 8 2,iM 9 5,⟨some 10,.lbs 22 1 [(.slice none 0 0)] 1 [(0,.tmp 9)],none⟩,⟨some 11,.app 22 1 (.tmp 8) (.tmp 10),none⟩,iS 1 2 11])))))
 (.seq (.reg [
 iL 12 2,iM 4 12])
 .ret)))
def p138:PFunc:=⟨13,[(4,none)],none,b138⟩
def b139:PCode :=
 (.seq (.reg [
 ⟨some 2,.box 82 (.tmp 0),none⟩])
 (.seq (.reg [
 ⟨some 6,.mkm (.agg [(.i .i64),(.i .i64)]),none⟩,⟨some 3,.alloc 217 (.map none),none⟩,iS 1 3 6])
 (.seq (.reg [
 ⟨some 4,.alloc 22 (.slice none 0 0),none⟩])
 (.seq (.reg [
 ⟨some 5,.alloc 32 .nilFunc,none⟩])
 (.seq (.reg [
 ⟨some 7,.v (.mkf (.func 140) 0) [.tmp 4,.tmp 1,.tmp 2,.tmp 3,.tmp 5],none⟩,iS 1 5 7])
 (.reg [
 iL 8 5,⟨some 9,.call (.tmp 8) [],none⟩]))))))
def p139:PFunc:=⟨10,[],none,b139⟩
def q140x0:PCode :=
 (.seq (.reg [
 iT 28 .lss 27 26])
 (.seq (.cond (.tmp 28)
 .skip
 (.exit 0))
 (.seq (.blk 1
 (.seq (.reg [
 iA 29 1 25 27,iL 30 29,⟨some 8,.alloc 3 (.int .i64 0),none⟩,iS 1 8 30])
 (.seq (.seq (.dreg [
 iL 31 6,iO 32 .gtr 31 0,iM 33 32,jL 34 8 33 true,
 jL 35 0 33 true,
 jL 36 6 33 true,
 jO 37 .sub 36 1 33 true,
 jA 38 1 35 37 33 true,
 jL 39 38 33 true,
 jT 40 .leq 34 39 33 true,
 iP 41 33 40,iM 42 41,jN 43 5 1 42 false,
 jL 44 6 42 false,
 jL 45 8 42 false,
 jL 46 3 42 false,
 ⟨some 47,.call (.func 141) [.tmp 43,.tmp 44,.tmp 45,.tmp 46],some (42,false)⟩,
 jR 48 47 42 false,
 iQ 49 42 48] [fE,fC,fC,fB,fB,fB,fA,fA,fB,fC,fC,fC,fB,fB,fB,fB,fD,fC,fC])
 (.cond (.tmp 49)
 (.exit 1)
 .skip))
 (.seq (.seq (.reg [
 iL 50 6,iO 51 .gtr 50 0])
 (.cond (.tmp 51)
 (.seq (.reg [
 ⟨some 53,.v (.mkf (.func 143) 0) [.tmp 1,.tmp 6,.tmp 0,.tmp 8],none⟩,iX 54 142 53,iM 52 54,iE 55 0 52,iE 56 1 52,⟨some 9,.lalloc 221 (.agg #[(.int .i64 0),(.int .i64 0)]),none⟩,iS 2 9 55,iM 10 56])
 (.seq (.reg [
 iM 57 10,iO 58 .neq 57 0])
 (.cond (.tmp 58)
 (.exit 1)
 .skip)))
 .skip))
 (.seq (.reg [
 iL 59 0,iL 60 8,⟨some 61,.lbs 3 1 [(.int .i64 0)] 1 [(0,.tmp 60)],none⟩,⟨some 62,.app 3 1 (.tmp 59) (.tmp 61),none⟩,iS 1 0 62])
 (.seq (.seq (.reg [
 iL 63 4,⟨some 64,.call (.tmp 63) [],none⟩,iR 65 64])
 (.cond (.tmp 65)
 (.seq (.reg [
 iB 5 false])
 .ret)
 .skip))
 (.reg [
 iL 66 0,iL 67 6,⟨some 68,.v (.sl 1 false true) [.tmp 66,.tmp 67],none⟩,iS 1 0 68])))))))
 (.reg [
 iO 69 .add 27 1,iM 27 69]))))
def b140:PCode :=
 (.seq (.reg [
 iB 5 false])
 (.seq (.reg [
 iL 11 0,iK 12 11,⟨some 6,.alloc 3 (.int .i64 0),none⟩,iS 1 6 12])
 (.seq (.seq (.reg [
 iL 13 6,iF 14 0 1,iF 15 2 14,iL 16 15,iK 17 16,iT 18 .eql 13 17])
 (.cond (.tmp 18)
 (.seq (.dreg [
 iL 19 2,iL 20 0,iX 21 66 20,⟨some 22,.call (.tmp 19) [.tmp 21],none⟩,iM 5 22] [fB,fB,⟨1,false,some [19]⟩,fD,fC])
 .ret)
 .skip))
 (.seq (.seq (.reg [
 iF 23 0 1,iF 24 1 23,iL 25 24,iK 26 25,iI 27 0])
 (.blk 0
 (.loop q140x0)))
 (.seq (.reg [
 iB 5 true])
 .ret)))))
def p140:PFunc:=⟨70,[(5,none)],none,b140⟩
def q141x0:PCode :=
 (.seq (.reg [
 iT 49 .lss 48 47])
 (.seq (.cond (.tmp 49)
 .skip
 (.exit 0))
 (.seq (.blk 1
 (.seq (.reg [
 iA 50 1 46 48,iL 51 50,⟨some 16,.alloc 3 (.int .i64 0),none⟩,iS 1 16 51])
 (.seq (.seq (.reg [
 iL 52 16,iL 53 6,iT 54 .leq 52 53])
 (.cond (.tmp 54)
 (.exit 1)
 .skip))
 (.seq (.reg [
 ⟨some 56,.v (.mkf (.func 161) 0) [.tmp 4,.tmp 5,.tmp 6,.tmp 16],none⟩,iX 57 142 56,iM 55 57,iE 58 0 55,iE 59 1 55,⟨some 17,.lalloc 221 (.agg #[(.int .i64 0),(.int .i64 0)]),none⟩,iS 2 17 58,iM 18 59])
 (.seq (.reg [
 iM 60 18,iO 61 .eql 60 0,iM 62 61,jN 63 5 4 62 true,
 jL 64 5 62 true,
 jO 65 .add 64 1 62 true,
 jL 66 16 62 true,
 jM 67 3 62 true,
 ⟨some 68,.call (.func 141) [.tmp 63,.tmp 65,.tmp 66,.tmp 67],some (62,true)⟩,
 iP 69 62 68])
 (.cond (.tmp 69)
 (.seq (.reg [
 iB 12 true])
 (.exit 0))
 .skip))))))
 (.reg [
 iO 70 .add 48 1,iM 48 70]))))
def b141:PCode :=
 (.seq (.reg [
 ⟨some 4,.box 169 (.tmp 0),none⟩,⟨some 5,.box 3 (.tmp 1),none⟩,⟨some 6,.box 3 (.tmp 2),none⟩,iB 8 false])
 (.seq (.reg [
 iL 19 5,iL 20 6,⟨some 21,.v (.bld [(.int .i64 0),(.int .i64 0)] [(0,1),(1,1)]) [.tmp 19,.tmp 20],none⟩,⟨some 9,.lalloc 245 (.agg #[(.int .i64 0),(.int .i64 0)]),none⟩,iS 2 9 21])
 (.seq (.seq (.reg [
 iM 23 3,iN 24 2 9,⟨some 25,.mlk (.agg [(.i .i64),(.i .i64)]) (.bool false) true (.tmp 23) (.tmp 24),none⟩,iM 22 25,iE 26 0 22,iE 27 1 22,iM 10 26,iM 11 27])
 (.seq (.reg [
 iM 28 11])
 (.cond (.tmp 28)
 (.seq (.reg [
 iM 29 10,iM 8 29])
 .ret)
 .skip)))
 (.seq (.reg [
 iB 12 false])
 (.seq (.seq (.reg [
 iL 30 5,iF 31 0 4,iF 32 2 31,iL 33 32,iK 34 33,iO 35 .sub 34 1,iT 36 .eql 30 35])
 (.cond (.tmp 36)
 (.seq (.reg [
 ⟨some 38,.v (.mkf (.func 160) 0) [.tmp 4,.tmp 5,.tmp 6],none⟩,iX 39 142 38,iM 37 39,iE 40 0 37,iE 41 1 37,⟨some 13,.lalloc 221 (.agg #[(.int .i64 0),(.int .i64 0)]),none⟩,iS 2 13 40,iM 14 41])
 (.reg [
 iM 42 14,iO 43 .eql 42 0,iM 12 43]))
 (.seq (.reg [
 iF 44 0 4,iF 45 1 44,iL 46 45,iK 47 46,iI 48 0])
 (.blk 0
 (.loop q141x0)))))
 (.seq (.reg [
 iM 71 3,iN 72 2 9,iM 73 12,⟨none,.mup (.agg [(.i .i64),(.i .i64)]) (.tmp 71) (.tmp 72) (.tmp 73),none⟩])
 (.seq (.reg [
 iM 74 12,iM 8 74])
 .ret)))))))
def p141:PFunc:=⟨75,[(8,none)],none,b141⟩
def b142:PCode :=
 (.seq (.reg [
 ⟨some 2,.alloc 221 (.agg #[(.int .i64 0),(.int .i64 0)]),none⟩,⟨some 3,.alloc 34 (.int .i64 0),none⟩])
 (.seq (.reg [
 ⟨some 4,.v (.mkf (.func 162) 0) [.tmp 2,.tmp 3],none⟩,⟨none,.dfr (.tmp 4) [],none⟩])
 (.seq (.reg [
 iM 5 0,⟨some 6,.call (.tmp 5) [],none⟩])
 (.seq (.reg [
 ⟨some 7,.v (.bld [(.int .i64 0),(.int .i64 0)] []) [],none⟩,iS 2 2 7,⟨none,.st 1 (.tmp 3) (.const (.int .i64 0)),none⟩])
 .ret))))
def p142:PFunc:=⟨8,[(2,some (some 2)),(3,some none)],none,b142⟩
def b143:PCode :=
 (.dreg [
 iN 4 5 0,iL 5 1,iO 6 .sub 5 1,iL 7 2,iL 8 1,iO 9 .sub 8 1,iA 10 1 7 9,iL 11 10,iL 12 3,⟨some 13,.call (.func 144) [.tmp 4,.tmp 6,.tmp 11,.tmp 12,.const (.bool true)],none⟩] [fB,fB,fA,fB,fB,fA,fA,fB,fB,fD])
def p143:PFunc:=⟨14,[],none,b143⟩
def b144:PCode :=
 (.seq (.reg [
 iV 5 169 0])
 (.seq (.dreg [
 iN 12 5 5,iM 13 2,iM 14 3,iZ 15 163 12 13 14,iF 16 0 5,iF 17 2 16,iL 18 17,iM 19 1,iA 20 2 18 19,iN 21 2 20,⟨some 10,.lalloc 25 (.agg #[(.int .i64 0),(.int .i64 0)]),none⟩,⟨some 11,.lalloc 130 (.agg #[(.int .i64 0),(.int .i64 0)]),none⟩,iS 2 10 15,iS 2 11 21] [⟨7,false,none⟩,fA,fA,fB,fA,fA,⟨7,false,none⟩,fA,fA,fB,⟨12,false,none⟩,⟨13,false,none⟩,⟨12,false,none⟩,⟨13,true,none⟩])
 (.seq (.seq (.reg [
 iF 22 0 10,iL 23 22,iF 24 0 11,iL 25 24,iT 26 .lss 23 25])
 (.cond (.tmp 26)
 (.reg [
 iM 27 1,⟨some 28,.v (.bld [(.int .i64 0),(.int .i64 0)] [(0,1),(1,1)]) [.tmp 27,.const (.int .i64 1)],none⟩,⟨some 29,.v (.mki 221) [.tmp 28],none⟩,⟨none,.pnc (.tmp 29),none⟩])
 .skip))
 (.seq (.reg [
 iM 30 4,iM 31 30,jF 32 1 10 31 true,
 jL 33 32 31 true,
 jF 34 1 11 31 true,
 jL 35 34 31 true,
 jT 36 .gtr 33 35 31 true,
 iP 37 31 36])
 (.cond (.tmp 37)
 (.reg [
 iM 38 1,⟨some 39,.v (.bld [(.int .i64 0),(.int .i64 0)] [(0,1),(1,1)]) [.tmp 38,.const (.int .i64 2)],none⟩,⟨some 40,.v (.mki 221) [.tmp 39],none⟩,⟨none,.pnc (.tmp 40),none⟩])
 .skip)))))
def p144:PFunc:=⟨41,[],none,b144⟩
def b145:PCode :=
 (.seq (.reg [
 iB 4 false])
 (.seq (.reg [
 iM 5 0,iM 6 1,iY 7 164 5 6,iO 8 .geq 7 0,iM 4 8])
 .ret))
def p145:PFunc:=⟨9,[(4,none)],none,b145⟩
def b146:PCode :=
 (.blk 0
 (.seq (.reg [
 ⟨some 7,.v (.nl .iface false) [.tmp 5],none⟩])
 (.cond (.tmp 7)
 (.reg [
 iM 1 5])
 (.seq (.reg [
 ⟨some 8,.v (.tas 186 (.agg #[(.int .i64 0)])) [.tmp 5],none⟩,iE 9 1 8,iE 10 0 8])
 (.cond (.tmp 9)
 (.seq (.reg [
 ⟨some 2,.lalloc 186 (.agg #[(.int .i64 0)]),none⟩,iS 1 2 10])
 (.reg [
 ⟨none,.st 1 (.tmp 0) (.const (.int .i64 5)),none⟩]))
 (.seq (.reg [
 ⟨some 11,.v (.tas 227 (.agg #[(.string ⟨#[]⟩)])) [.tmp 5],none⟩,iE 12 1 11,iE 13 0 11])
 (.cond (.tmp 12)
 (.seq (.reg [
 ⟨some 3,.lalloc 227 (.agg #[(.string ⟨#[]⟩)]),none⟩,iS 1 3 13])
 (.reg [
 ⟨none,.st 1 (.tmp 0) (.const (.int .i64 4)),none⟩]))
 (.seq (.reg [
 iM 4 5])
 (.reg [
 iM 6 4,⟨none,.pnc (.tmp 6),none⟩])))))))))
def p146:PFunc:=⟨14,[],(some 5),b146⟩
def q147x0:PCode :=
 (.seq (.reg [
 iT 14 .lss 13 12])
 (.seq (.cond (.tmp 14)
 .skip
 (.exit 0))
 (.seq (.blk 1
 (.seq (.reg [
 iA 15 2 11 13,iN 16 2 15,⟨some 9,.lalloc 229 (.agg #[(.int .i64 0),(.int .i64 0)]),none⟩,iS 2 9 16])
 (.dreg [
 iM 17 7,iF 18 0 3,iF 19 0 18,iL 20 19,iN 21 11 3,iN 22 2 9,iY 23 165 21 22,iA 24 1 20 23,iL 25 24,⟨some 26,.lbs 3 1 [(.int .i64 0)] 1 [(0,.tmp 25)],none⟩,⟨some 27,.app 3 1 (.tmp 17) (.tmp 26),none⟩,iM 7 27] [fA,fA,fA,⟨5,false,none⟩,⟨5,true,none⟩,⟨11,true,none⟩,⟨1,true,some [17,18,19,20]⟩,fC,fE,⟨28,true,none⟩,fE,fC])))
 (.reg [
 iO 28 .add 13 1,iM 13 28]))))
def b147:PCode :=
 (.seq (.reg [
 iV 3 79 0,iV 4 183 1,iI 6 0])
 (.seq (.reg [
 iH 7])
 (.seq (.seq (.reg [
 iF 10 0 4,iL 11 10,iK 12 11,iI 13 0])
 (.blk 0
 (.loop q147x0)))
 (.seq (.seq (.reg [
 iF 29 1 4,iL 30 29])
 (.cond (.tmp 30)
 (.reg [
 iM 31 7,iF 32 0 3,iF 33 6 32,iL 34 33,⟨some 35,.lbs 3 1 [(.int .i64 0)] 1 [(0,.tmp 34)],none⟩,⟨some 36,.app 3 1 (.tmp 31) (.tmp 35),none⟩,iM 7 36])
 .skip))
 (.seq (.reg [
 iM 37 7,iX 38 166 37,iM 6 38])
 .ret)))))
def p147:PFunc:=⟨39,[(6,none)],none,b147⟩
def q148x0:PCode :=
 (.seq (.reg [
 iT 14 .lss 13 12])
 (.seq (.cond (.tmp 14)
 .skip
 (.exit 0))
 (.seq (.blk 1
 (.seq (.reg [
 iM 15 13,iA 16 2 11 13,iN 17 2 16,⟨some 9,.lalloc 229 (.agg #[(.int .i64 0),(.int .i64 0)]),none⟩,iM 8 15,iS 2 9 17])
 (.seq (.reg [
 iM 18 8,iO 19 .gtr 18 0])
 (.cond (.tmp 19)
 (.dreg [
 iM 20 7,iN 21 11 3,iF 22 0 4,iL 23 22,iM 24 8,iO 25 .sub 24 1,iA 26 2 23 25,iN 27 2 26,iN 28 2 9,iM 29 2,⟨some 30,.call (.func 167) [.tmp 21,.tmp 27,.tmp 28,.tmp 29],none⟩,⟨some 31,.lbs 3 1 [(.int .i64 0)] 1 [(0,.tmp 30)],none⟩,⟨some 32,.app 3 1 (.tmp 20) (.tmp 31),none⟩,iM 7 32] [fA,⟨5,false,none⟩,fC,⟨6,true,none⟩,fC,fC,fC,fE,⟨11,false,none⟩,fA,⟨1,true,some [20]⟩,⟨33,true,none⟩,fE,fC])
 .skip))))
 (.reg [
 iO 33 .add 13 1,iM 13 33]))))
def b148:PCode :=
 (.seq (.reg [
 iV 3 79 0,iV 4 183 1,iI 6 0])
 (.seq (.reg [
 iH 7])
 (.seq (.seq (.reg [
 iF 10 0 4,iL 11 10,iK 12 11,iI 13 0])
 (.blk 0
 (.loop q148x0)))
 (.seq (.seq (.reg [
 iF 34 1 4,iL 35 34])
 (.cond (.tmp 35)
 (.reg [
 iM 36 7,iF 37 0 3,iF 38 2 37,iN 39 2 38,iM 40 2,iY 41 168 39 40,⟨some 42,.lbs 3 1 [(.int .i64 0)] 1 [(0,.tmp 41)],none⟩,⟨some 43,.app 3 1 (.tmp 36) (.tmp 42),none⟩,iM 7 43])
 .skip))
 (.seq (.reg [
 iM 44 7,iX 45 166 44,iM 6 45])
 .ret)))))
def p148:PFunc:=⟨46,[(6,none)],none,b148⟩
def q149x0:PCode :=
 (.seq (.reg [
 iT 9 .lss 8 7])
 (.seq (.cond (.tmp 9)
 .skip
 (.exit 0))
 (.seq (.blk 1
 (.seq (.reg [
 iM 10 8,iM 5 10])
 (.seq (.reg [
 iM 11 1,iM 12 0,iM 13 5,iA 14 5 12 13,iN 15 5 14,⟨some 16,.call (.tmp 11) [.tmp 15],none⟩])
 (.cond (.tmp 16)
 (.seq (.reg [
 iM 17 5,iM 4 17])
 .ret)
 .skip))))
 (.reg [
 iO 18 .add 8 1,iM 8 18]))))
def b149:PCode :=
 (.seq (.reg [
 iI 4 0])
 (.seq (.seq (.reg [
 iM 6 0,iK 7 6,iI 8 0])
 (.blk 0
 (.loop q149x0)))
 (.seq (.reg [
 iI 4 (-1)])
 .ret)))
def p149:PFunc:=⟨19,[(4,none)],none,b149⟩
def q150x0:PCode :=
 (.seq (.reg [
 iT 9 .lss 8 7])
 (.seq (.cond (.tmp 9)
 .skip
 (.exit 0))
 (.seq (.blk 1
 (.seq (.reg [
 iM 10 8,iM 5 10])
 (.seq (.reg [
 iM 11 1,iM 12 0,iM 13 5,iA 14 5 12 13,iN 15 5 14,⟨some 16,.call (.tmp 11) [.tmp 15],none⟩])
 (.cond (.tmp 16)
 (.seq (.reg [
 iM 17 5,iM 4 17])
 .ret)
 .skip))))
 (.reg [
 iO 18 .add 8 1,iM 8 18]))))
def b150:PCode :=
 (.seq (.reg [
 iI 4 0])
 (.seq (.seq (.reg [
 iM 6 0,iK 7 6,iI 8 0])
 (.blk 0
 (.loop q150x0)))
 (.seq (.reg [
 iI 4 (-1)])
 .ret)))
def p150:PFunc:=⟨19,[(4,none)],none,b150⟩
def b151:PCode :=
 (.seq (.reg [
 iV 1 200 0,iI 2 0])
 (.seq (.reg [
 iF 3 0 1,iL 4 3,iF 5 1 1,iL 6 5,iT 7 .quo 4 6,iM 2 7])
 .ret))
def p151:PFunc:=⟨8,[(2,none)],none,b151⟩
def b152:PCode :=
 (.seq (.reg [
 iV 1 200 0,iI 2 0])
 (.seq (.reg [
 iF 3 0 1,iL 4 3,iF 5 1 1,iL 6 5,iT 7 .add 4 6,iO 8 .sub 7 1,iF 9 1 1,iL 10 9,iT 11 .quo 8 10,iM 2 11])
 .ret))
def p152:PFunc:=⟨12,[(2,none)],none,b152⟩
def b153:PCode :=
 (.seq (.reg [
 iV 1 200 0,iI 2 0])
 (.seq (.reg [
 iF 3 0 1,iL 4 3,⟨some 5,.v (.ib .mul) [.const (.int .i64 2),.tmp 4],none⟩,iF 6 1 1,iL 7 6,iT 8 .add 5 7,iF 9 1 1,iL 10 9,⟨some 11,.v (.ib .mul) [.const (.int .i64 2),.tmp 10],none⟩,iT 12 .quo 8 11,iM 2 12])
 .ret))
def p153:PFunc:=⟨13,[(2,none)],none,b153⟩
def b154:PCode :=
 (.seq (.reg [
 iV 1 200 0,iI 2 0])
 (.seq (.reg [
 iN 4 2 1,iX 5 153 4,iM 3 5])
 (.seq (.seq (.reg [
 iF 6 0 1,iL 7 6,⟨some 8,.v (.ib .mul) [.const (.int .i64 2),.tmp 7],none⟩,iF 9 1 1,iL 10 9,iT 11 .add 8 10,iF 12 1 1,iL 13 12,⟨some 14,.v (.ib .mul) [.const (.int .i64 2),.tmp 13],none⟩,iM 15 3,iT 16 .mul 14 15,iT 17 .eql 11 16,iM 18 17,jM 19 3 18 true,
 jO 20 .rem 19 2 18 true,
 jO 21 .eql 20 1 18 true,
 iP 22 18 21])
 (.cond (.tmp 22)
 (.reg [
 iM 23 3,iO 24 .sub 23 1,iM 3 24])
 .skip))
 (.seq (.reg [
 iM 25 3,iM 2 25])
 .ret))))
def p154:PFunc:=⟨26,[(2,none)],none,b154⟩
def q158x0:PCode :=
 (.seq (.reg [
 iT 9 .lss 8 7])
 (.seq (.cond (.tmp 9)
 .skip
 (.exit 0))
 (.seq (.blk 1
 (.seq (.reg [
 iM 10 8,iM 5 10])
 (.seq (.reg [
 iM 11 1,iM 12 0,iM 13 5,iA 14 2 12 13,iN 15 2 14,⟨some 16,.call (.tmp 11) [.tmp 15],none⟩])
 (.cond (.tmp 16)
 (.seq (.reg [
 iM 17 5,iM 4 17])
 .ret)
 .skip))))
 (.reg [
 iO 18 .add 8 1,iM 8 18]))))
def b158:PCode :=
 (.seq (.reg [
 iI 4 0])
 (.seq (.seq (.reg [
 iM 6 0,iK 7 6,iI 8 0])
 (.blk 0
 (.loop q158x0)))
 (.seq (.reg [
 iI 4 (-1)])
 .ret)))
def p158:PFunc:=⟨19,[(4,none)],none,b158⟩
def q159x0:PCode :=
 (.seq (.reg [
 iT 9 .lss 8 7])
 (.seq (.cond (.tmp 9)
 .skip
 (.exit 0))
 (.seq (.blk 1
 (.seq (.reg [
 iM 10 8,iM 5 10])
 (.seq (.reg [
 iM 11 1,iM 12 0,iM 13 5,iA 14 2 12 13,iN 15 2 14,⟨some 16,.call (.tmp 11) [.tmp 15],none⟩])
 (.cond (.tmp 16)
 (.seq (.reg [
 iM 17 5,iM 4 17])
 .ret)
 .skip))))
 (.reg [
 iO 18 .add 8 1,iM 8 18]))))
def b159:PCode :=
 (.seq (.reg [
 iI 4 0])
 (.seq (.seq (.reg [
 iM 6 0,iK 7 6,iI 8 0])
 (.blk 0
 (.loop q159x0)))
 (.seq (.reg [
 iI 4 (-1)])
 .ret)))
def p159:PFunc:=⟨19,[(4,none)],none,b159⟩
def b160:PCode :=
 (.reg [
 iN 3 5 0,iL 4 1,iL 5 2,iF 6 0 0,iF 7 0 6,iL 8 7,iK 9 8,⟨some 10,.call (.func 144) [.tmp 3,.tmp 4,.tmp 5,.tmp 9,.const (.bool false)],none⟩])
def p160:PFunc:=⟨11,[],none,b160⟩
def b161:PCode :=
 (.reg [
 iN 4 5 0,iL 5 1,iL 6 2,iL 7 3,⟨some 8,.call (.func 144) [.tmp 4,.tmp 5,.tmp 6,.tmp 7,.const (.bool true)],none⟩])
def p161:PFunc:=⟨9,[],none,b161⟩
def b162:PCode :=
 (.blk 0
 (.seq (.reg [
 ⟨some 8,.v (.nl .iface false) [.tmp 6],none⟩])
 (.cond (.tmp 8)
 (.reg [
 iM 2 6])
 (.seq (.reg [
 ⟨some 9,.v (.tas 221 (.agg #[(.int .i64 0),(.int .i64 0)])) [.tmp 6],none⟩,iE 10 1 9,iE 11 0 9])
 (.cond (.tmp 10)
 (.seq (.reg [
 ⟨some 3,.lalloc 221 (.agg #[(.int .i64 0),(.int .i64 0)]),none⟩,iS 2 3 11])
 (.reg [
 iN 12 2 3,iS 2 0 12,⟨none,.st 1 (.tmp 1) (.const (.int .i64 7)),none⟩]))
 (.seq (.reg [
 ⟨some 13,.v (.tas 248 (.agg #[(.string ⟨#[]⟩)])) [.tmp 6],none⟩,iE 14 1 13,iE 15 0 13])
 (.cond (.tmp 14)
 (.seq (.reg [
 ⟨some 4,.lalloc 248 (.agg #[(.string ⟨#[]⟩)]),none⟩,iS 1 4 15])
 (.reg [
 ⟨none,.st 1 (.tmp 1) (.const (.int .i64 4)),none⟩]))
 (.seq (.reg [
 iM 5 6])
 (.reg [
 iM 7 5,⟨none,.pnc (.tmp 7),none⟩])))))))))
def p162:PFunc:=⟨16,[],(some 6),b162⟩
def b163:PCode :=
 (.seq (.reg [
 iV 3 169 0,⟨some 6,.lalloc 25 (.agg #[(.int .i64 0),(.int .i64 0)]),none⟩])
 (.seq (.reg [
 iN 8 5 3,⟨some 9,.v (.mkf (.func 170) 1) [.tmp 8],none⟩,iN 10 5 3,⟨some 11,.v (.mkf (.func 171) 1) [.tmp 10],none⟩,⟨some 12,.v (.bld [.nilFunc,.nilFunc] [(0,1),(1,1)]) [.tmp 9,.tmp 11],none⟩,⟨some 7,.lalloc 254 (.agg #[.nilFunc,.nilFunc]),none⟩,iS 2 7 12])
 (.seq (.dreg [
 ⟨some 13,.v (.iaa 1 2) [.tmp 7,.const (.int .i64 0)],none⟩,iL 14 13,iM 15 1,iM 16 2,⟨some 17,.call (.tmp 14) [.tmp 15,.tmp 16],none⟩,⟨some 18,.v (.iaa 1 2) [.tmp 7,.const (.int .i64 1)],none⟩,iL 19 18,iM 20 1,iM 21 2,⟨some 22,.call (.tmp 19) [.tmp 20,.tmp 21],none⟩,⟨some 23,.v (.bld [(.int .i64 0),(.int .i64 0)] [(0,1),(1,1)]) [.tmp 17,.tmp 22],none⟩,iS 2 6 23] [fC,⟨9,true,none⟩,fC,fC,fE,fA,⟨9,false,none⟩,fA,fA,fD,fC,⟨8,true,none⟩])
 .ret)))
def p163:PFunc:=⟨24,[(6,some (some 2))],none,b163⟩
def q164x0:PCode :=
 (.seq (.reg [
 iT 9 .lss 8 7])
 (.seq (.cond (.tmp 9)
 .skip
 (.exit 0))
 (.seq (.blk 1
 (.seq (.reg [
 iM 10 8,iM 5 10])
 (.seq (.reg [
 iM 11 1,iM 12 0,iM 13 5,iA 14 1 12 13,iL 15 14,iT 16 .eql 11 15])
 (.cond (.tmp 16)
 (.seq (.reg [
 iM 17 5,iM 4 17])
 .ret)
 .skip))))
 (.reg [
 iO 18 .add 8 1,iM 8 18]))))
def b164:PCode :=
 (.seq (.reg [
 iI 4 0])
 (.seq (.seq (.reg [
 iM 6 0,iK 7 6,iI 8 0])
 (.blk 0
 (.loop q164x0)))
 (.seq (.reg [
 iI 4 (-1)])
 .ret)))
def p164:PFunc:=⟨19,[(4,none)],none,b164⟩
def b165:PCode :=
 (.seq (.reg [
 iV 2 79 0,iV 3 229 1,iI 4 0])
 (.seq (.dreg [
 iF 5 0 2,iF 6 7 5,iL 7 6,iF 8 0 3,iL 9 8,iA 10 3 7 9,iF 11 0 10,iL 12 11,iF 13 1 3,iL 14 13,iA 15 1 12 14,iL 16 15,iM 4 16] [fC,fC,⟨4,true,none⟩,fC,⟨5,true,none⟩,fC,fC,fE,fA,⟨5,false,none⟩,fC,fE,fC])
 .ret))
def p165:PFunc:=⟨17,[(4,none)],none,b165⟩
def q166x0:PCode :=
 (.seq (.reg [
 iT 9 .lss 8 7])
 (.seq (.cond (.tmp 9)
 .skip
 (.exit 0))
 (.seq (.blk 1
 (.seq (.reg [
 iA 10 1 6 8,iL 11 10,iM 5 11])
 (.reg [
 iM 12 3,iM 13 5,iT 14 .add 12 13,iM 3 14])))
 (.reg [
 iO 15 .add 8 1,iM 8 15]))))
def b166:PCode :=
 (.seq (.reg [
 iI 2 0])
 (.seq (.reg [
 iI 3 0])
 (.seq (.seq (.reg [
 iM 6 0,iK 7 6,iI 8 0])
 (.blk 0
 (.loop q166x0)))
 (.seq (.reg [
 iM 16 3,iM 2 16])
 .ret))))
def p166:PFunc:=⟨17,[(2,none)],none,b166⟩
def b167:PCode :=
 (.seq (.reg [
 iV 4 79 0,iV 5 229 1,iV 6 229 2,iI 8 0])
 (.seq (.seq (.reg [
 iF 11 0 5,iL 12 11,iF 13 0 6,iL 14 13,iT 15 .neq 12 14])
 (.cond (.tmp 15)
 (.seq (.reg [
 iF 16 0 4,iF 17 4 16,iN 18 2 17,iM 19 3,iY 20 168 18 19,iM 8 20])
 .ret)
 .skip))
 (.seq (.seq (.dreg [
 iF 22 10 4,iL 23 22,iN 24 11 4,iN 25 2 5,iY 26 165 24 25,iN 27 11 4,iN 28 2 6,iY 29 165 27 28,⟨some 30,.v (.bld [(.int .i64 0),(.int .i64 0)] [(0,1),(1,1)]) [.tmp 26,.tmp 29],none⟩,⟨some 31,.mlk (.agg [(.i .i64),(.i .i64)]) (.agg #[(.int .i64 0),(.int .i64 0)]) true (.tmp 23) (.tmp 30),none⟩,iM 21 31,iE 32 0 21,iE 33 1 21,⟨some 9,.lalloc 25 (.agg #[(.int .i64 0),(.int .i64 0)]),none⟩,iS 2 9 32,iM 10 33] [fA,⟨6,false,none⟩,⟨6,true,none⟩,⟨7,true,none⟩,fE,⟨6,false,none⟩,⟨8,false,none⟩,fE,fC,fE,fC,fC,fC,⟨11,false,none⟩,⟨11,true,none⟩,fC])
 (.seq (.reg [
 iM 34 10])
 (.cond (.tmp 34)
 (.seq (.reg [
 iN 35 2 9,iM 36 3,iY 37 168 35 36,iM 8 37])
 .ret)
 .skip)))
 (.seq (.reg [
 iF 38 0 4,iF 39 2 38,iN 40 2 39,iM 41 3,iY 42 168 40 41,iM 8 42])
 .ret))))
def p167:PFunc:=⟨43,[(8,none)],none,b167⟩
def b168:PCode :=
 (.seq (.reg [
 iV 2 25 0,iI 4 0])
 (.seq (.reg [
 iF 5 0 2,iL 6 5,iF 7 1 2,iL 8 7,iF 9 0 2,iL 10 9,iT 11 .sub 8 10,iM 12 1,iT 13 .mul 11 12,iO 14 .quo 13 10,iT 15 .add 6 14,iM 4 15])
 .ret))
def p168:PFunc:=⟨16,[(4,none)],none,b168⟩
def b170:PCode :=
 (.seq (.reg [
 iV 3 169 0,iI 6 0])
 (.seq (.dreg [
 iF 7 3 3,iL 8 7,iM 9 2,iA 10 1 8 9,iL 11 10,iF 12 3 3,iL 13 12,iM 14 1,iA 15 1 13 14,iL 16 15,iT 17 .sub 11 16,iM 6 17] [fA,⟨5,false,none⟩,fA,fA,fB,fA,⟨5,false,none⟩,fA,fA,fB,fC,fC])
 .ret))
def p170:PFunc:=⟨18,[(6,none)],none,b170⟩
def b171:PCode :=
 (.seq (.reg [
 iV 3 169 0,iI 6 0])
 (.seq (.dreg [
 iF 7 4 3,iL 8 7,iM 9 2,iA 10 1 8 9,iL 11 10,iF 12 4 3,iL 13 12,iM 14 1,iA 15 1 13 14,iL 16 15,iT 17 .sub 11 16,iM 6 17] [fA,⟨5,false,none⟩,fA,fA,fB,fA,⟨5,false,none⟩,fA,fA,fB,fC,fC])
 .ret))
def p171:PFunc:=⟨18,[(6,none)],none,b171⟩
def b187:PCode :=
 (.seq (.reg [
 iV 3 235 0,iV 4 38 1,iI 6 0])
 (.seq (.reg [
 iF 7 0 4,iL 8 7,iM 6 8])
 .ret))
def p187:PFunc:=⟨9,[(6,none)],none,b187⟩
def b188:PCode :=
 (.seq (.reg [
 iV 3 236 0,iV 4 38 1,iI 6 0])
 (.seq (.reg [
 iF 7 1 4,iL 8 7,iM 6 8])
 .ret))
def p188:PFunc:=⟨9,[(6,none)],none,b188⟩
def b189:PCode :=
 (.seq (.reg [
 iV 3 237 0,iV 4 38 1,iI 6 0])
 (.seq (.reg [
 iM 7 2,iM 6 7])
 .ret))
def p189:PFunc:=⟨8,[(6,none)],none,b189⟩
def b190:PCode :=
 (.seq (.reg [
 iV 3 238 0,iV 4 38 1,iI 6 0])
 (.seq (.reg [
 iI 6 1])
 .ret))
def p190:PFunc:=⟨7,[(6,none)],none,b190⟩
def PP (f:FuncId):Option PFunc:=if Nat.blt f 103=true then (if Nat.blt f 55=true then (if Nat.blt f 23=true then (if Nat.blt f 11=true then (if Nat.blt f 7=true then (if Nat.blt f 5=true then (if f=3 then some p3 else none) else (if Nat.blt f 6=true then (if f=5 then some p5 else none) else (if f=6 then some p6 else none))) else (if Nat.blt f 9=true then (if Nat.blt f 8=true then (if f=7 then some p7 else none) else (if f=8 then some p8 else none)) else (if Nat.blt f 10=true then (if f=9 then some p9 else none) else (if f=10 then some p10 else none)))) else (if Nat.blt f 19=true then (if Nat.blt f 16=true then (if Nat.blt f 12=true then (if f=11 then some p11 else none) else (if f=12 then some p12 else none)) else (if Nat.blt f 18=true then (if f=16 then some p16 else none) else (if f=18 then some p18 else none))) else (if Nat.blt f 21=true then (if Nat.blt f 20=true then (if f=19 then some p19 else none) else (if f=20 then some p20 else none)) else (if Nat.blt f 22=true then (if f=21 then some p21 else none) else (if f=22 then some p22 else none))))) else (if Nat.blt f 31=true then (if Nat.blt f 27=true then (if Nat.blt f 25=true then (if Nat.blt f 24=true then (if f=23 then some p23 else none) else (if f=24 then some p24 else none)) else (if Nat.blt f 26=true then (if f=25 then some p25 else none) else (if f=26 then some p26 else none))) else (if Nat.blt f 29=true then (if Nat.blt f 28=true then (if f=27 then some p27 else none) else (if f=28 then some p28 else none)) else (if Nat.blt f 30=true then (if f=29 then some p29 else none) else (if f=30 then some p30 else none)))) else (if Nat.blt f 35=true then (if Nat.blt f 33=true then (if Nat.blt f 32=true then (if f=31 then some p31 else none) else (if f=32 then some p32 else none)) else (if Nat.blt f 34=true then (if f=33 then some p33 else none) else (if f=34 then some p34 else none))) else (if Nat.blt f 53=true then (if Nat.blt f 52=true then (if f=35 then some p35 else none) else (if f=52 then some p52 else none)) else (if Nat.blt f 54=true then (if f=53 then some p53 else none) else (if f=54 then some p54 else none)))))) else (if Nat.blt f 70=true then (if Nat.blt f 62=true then (if Nat.blt f 58=true then (if Nat.blt f 56=true then (if f=55 then some p55 else none) else (if Nat.blt f 57=true then (if f=56 then some p56 else none) else (if f=57 then some p57 else none))) else (if Nat.blt f 60=true then (if Nat.blt f 59=true then (if f=58 then some p58 else none) else (if f=59 then some p59 else none)) else (if Nat.blt f 61=true then (if f=60 then some p60 else none) else (if f=61 then some p61 else none)))) else (if Nat.blt f 66=true then (if Nat.blt f 64=true then (if Nat.blt f 63=true then (if f=62 then some p62 else none) else (if f=63 then some p63 else none)) else (if Nat.blt f 65=true then (if f=64 then some p64 else none) else (if f=65 then some p65 else none))) else (if Nat.blt f 68=true then (if Nat.blt f 67=true then (if f=66 then some p66 else none) else (if f=67 then some p67 else none)) else (if Nat.blt f 69=true then (if f=68 then some p68 else none) else (if f=69 then some p69 else none))))) else (if Nat.blt f 78=true then (if Nat.blt f 74=true then (if Nat.blt f 72=true then (if Nat.blt f 71=true then (if f=70 then some p70 else none) else (if f=71 then some p71 else none)) else (if Nat.blt f 73=true then (if f=72 then some p72 else none) else (if f=73 then some p73 else none))) else (if Nat.blt f 76=true then (if Nat.blt f 75=true then (if f=74 then some p74 else none) else (if f=75 then some p75 else none)) else (if Nat.blt f 77=true then (if f=76 then some p76 else none) else (if f=77 then some p77 else none)))) else (if Nat.blt f 99=true then (if Nat.blt f 97=true then (if Nat.blt f 96=true then (if f=78 then some p78 else none) else (if f=96 then some p96 else none)) else (if Nat.blt f 98=true then (if f=97 then some p97 else none) else (if f=98 then some p98 else none))) else (if Nat.blt f 101=true then (if Nat.blt f 100=true then (if f=99 then some p99 else none) else (if f=100 then some p100 else none)) else (if Nat.blt f 102=true then (if f=101 then some p101 else none) else (if f=102 then some p102 else none))))))) else (if Nat.blt f 141=true then (if Nat.blt f 118=true then (if Nat.blt f 110=true then (if Nat.blt f 106=true then (if Nat.blt f 104=true then (if f=103 then some p103 else none) else (if Nat.blt f 105=true then (if f=104 then some p104 else none) else (if f=105 then some p105 else none))) else (if Nat.blt f 108=true then (if Nat.blt f 107=true then (if f=106 then some p106 else none) else (if f=107 then some p107 else none)) else (if Nat.blt f 109=true then (if f=108 then some p108 else none) else (if f=109 then some p109 else none)))) else (if Nat.blt f 114=true then (if Nat.blt f 112=true then (if Nat.blt f 111=true then (if f=110 then some p110 else none) else (if f=111 then some p111 else none)) else (if Nat.blt f 113=true then (if f=112 then some p112 else none) else (if f=113 then some p113 else none))) else (if Nat.blt f 116=true then (if Nat.blt f 115=true then (if f=114 then some p114 else none) else (if f=115 then some p115 else none)) else (if Nat.blt f 117=true then (if f=116 then some p116 else none) else (if f=117 then some p117 else none))))) else (if Nat.blt f 133=true then (if Nat.blt f 122=true then (if Nat.blt f 120=true then (if Nat.blt f 119=true then (if f=118 then some p118 else none) else (if f=119 then some p119 else none)) else (if Nat.blt f 121=true then (if f=120 then some p120 else none) else (if f=121 then some p121 else none))) else (if Nat.blt f 131=true then (if Nat.blt f 130=true then (if f=122 then some p122 else none) else (if f=130 then some p130 else none)) else (if Nat.blt f 132=true then (if f=131 then some p131 else none) else (if f=132 then some p132 else none)))) else (if Nat.blt f 137=true then (if Nat.blt f 135=true then (if Nat.blt f 134=true then (if f=133 then some p133 else none) else (if f=134 then some p134 else none)) else (if Nat.blt f 136=true then (if f=135 then some p135 else none) else (if f=136 then some p136 else none))) else (if Nat.blt f 139=true then (if Nat.blt f 138=true then (if f=137 then some p137 else none) else (if f=138 then some p138 else none)) else (if Nat.blt f 140=true then (if f=139 then some p139 else none) else (if f=140 then some p140 else none)))))) else (if Nat.blt f 159=true then (if Nat.blt f 148=true then (if Nat.blt f 144=true then (if Nat.blt f 142=true then (if f=141 then some p141 else none) else (if Nat.blt f 143=true then (if f=142 then some p142 else none) else (if f=143 then some p143 else none))) else (if Nat.blt f 146=true then (if Nat.blt f 145=true then (if f=144 then some p144 else none) else (if f=145 then some p145 else none)) else (if Nat.blt f 147=true then (if f=146 then some p146 else none) else (if f=147 then some p147 else none)))) else (if Nat.blt f 152=true then (if Nat.blt f 150=true then (if Nat.blt f 149=true then (if f=148 then some p148 else none) else (if f=149 then some p149 else none)) else (if Nat.blt f 151=true then (if f=150 then some p150 else none) else (if f=151 then some p151 else none))) else (if Nat.blt f 154=true then (if Nat.blt f 153=true then (if f=152 then some p152 else none) else (if f=153 then some p153 else none)) else (if Nat.blt f 158=true then (if f=154 then some p154 else none) else (if f=158 then some p158 else none))))) else (if Nat.blt f 167=true then (if Nat.blt f 163=true then (if Nat.blt f 161=true then (if Nat.blt f 160=true then (if f=159 then some p159 else none) else (if f=160 then some p160 else none)) else (if Nat.blt f 162=true then (if f=161 then some p161 else none) else (if f=162 then some p162 else none))) else (if Nat.blt f 165=true then (if Nat.blt f 164=true then (if f=163 then some p163 else none) else (if f=164 then some p164 else none)) else (if Nat.blt f 166=true then (if f=165 then some p165 else none) else (if f=166 then some p166 else none)))) else (if Nat.blt f 187=true then (if Nat.blt f 170=true then (if Nat.blt f 168=true then (if f=167 then some p167 else none) else (if f=168 then some p168 else none)) else (if Nat.blt f 171=true then (if f=170 then some p170 else none) else (if f=171 then some p171 else none))) else (if Nat.blt f 189=true then (if Nat.blt f 188=true then (if f=187 then some p187 else none) else (if f=188 then some p188 else none)) else (if Nat.blt f 190=true then (if f=189 then some p189 else none) else (if f=190 then some p190 else none)))))))
def prims0:Prims:=fun _=>none
theorem P3:PP 3=some p3:=rfl
theorem B3:p3.body=b3:=rfl
theorem N3:p3.n=157:=rfl
theorem R3:p3.res=[(6,none)]:=rfl
theorem P5:PP 5=some p5:=rfl
theorem B5:p5.body=b5:=rfl
theorem N5:p5.n=73:=rfl
theorem R5:p5.res=[(2,none)]:=rfl
theorem P6:PP 6=some p6:=rfl
theorem B6:p6.body=b6:=rfl
theorem N6:p6.n=15:=rfl
theorem R6:p6.res=[(6,none)]:=rfl
theorem P8:PP 8=some p8:=rfl
theorem B8:p8.body=b8:=rfl
theorem N8:p8.n=22:=rfl
theorem R8:p8.res=[(2,none)]:=rfl
theorem P9:PP 9=some p9:=rfl
theorem B9:p9.body=b9:=rfl
theorem N9:p9.n=38:=rfl
theorem R9:p9.res=[(2,none),(3,none)]:=rfl
theorem P10:PP 10=some p10:=rfl
theorem B10:p10.body=b10:=rfl
theorem N10:p10.n=17:=rfl
theorem R10:p10.res=[(2,none),(3,none)]:=rfl
theorem P11:PP 11=some p11:=rfl
theorem B11:p11.body=b11:=rfl
theorem N11:p11.n=27:=rfl
theorem R11:p11.res=[(6,none),(7,none)]:=rfl
theorem P12:PP 12=some p12:=rfl
theorem B12:p12.body=b12:=rfl
theorem N12:p12.n=27:=rfl
theorem R12:p12.res=[(6,none),(7,none)]:=rfl
theorem P18:PP 18=some p18:=rfl
theorem B18:p18.body=b18:=rfl
theorem N18:p18.n=15:=rfl
theorem R18:p18.res=[(6,none)]:=rfl
theorem P19:PP 19=some p19:=rfl
theorem B19:p19.body=b19:=rfl
theorem N19:p19.n=62:=rfl
theorem R19:p19.res=[(4,none)]:=rfl
theorem P20:PP 20=some p20:=rfl
theorem B20:p20.body=b20:=rfl
theorem N20:p20.n=77:=rfl
theorem R20:p20.res=[(2,none)]:=rfl
theorem P21:PP 21=some p21:=rfl
theorem B21:p21.body=b21:=rfl
theorem N21:p21.n=17:=rfl
theorem R21:p21.res=[(4,none)]:=rfl
theorem P22:PP 22=some p22:=rfl
theorem B22:p22.body=b22:=rfl
theorem N22:p22.n=5:=rfl
theorem R22:p22.res=[(2,none)]:=rfl
theorem P26:PP 26=some p26:=rfl
theorem B26:p26.body=b26:=rfl
theorem N26:p26.n=89:=rfl
theorem R26:p26.res=[(2,none)]:=rfl
theorem P27:PP 27=some p27:=rfl
theorem B27:p27.body=b27:=rfl
theorem N27:p27.n=27:=rfl
theorem R27:p27.res=[(2,some (some 11))]:=rfl
theorem P28:PP 28=some p28:=rfl
theorem B28:p28.body=b28:=rfl
theorem N28:p28.n=47:=rfl
theorem R28:p28.res=[(4,some (some 10))]:=rfl
theorem P29:PP 29=some p29:=rfl
theorem B29:p29.body=b29:=rfl
theorem N29:p29.n=15:=rfl
theorem R29:p29.res=[(4,none)]:=rfl
theorem P30:PP 30=some p30:=rfl
theorem B30:p30.body=b30:=rfl
theorem N30:p30.n=27:=rfl
theorem R30:p30.res=[(2,some (some 2)),(3,none),(4,none)]:=rfl
theorem P31:PP 31=some p31:=rfl
theorem B31:p31.body=b31:=rfl
theorem N31:p31.n=15:=rfl
theorem R31:p31.res=[(4,none)]:=rfl
theorem P32:PP 32=some p32:=rfl
theorem B32:p32.body=b32:=rfl
theorem N32:p32.n=45:=rfl
theorem R32:p32.res=[(4,none)]:=rfl
theorem P33:PP 33=some p33:=rfl
theorem B33:p33.body=b33:=rfl
theorem N33:p33.n=9:=rfl
theorem R33:p33.res=[(4,some (some 5))]:=rfl
theorem P34:PP 34=some p34:=rfl
theorem B34:p34.body=b34:=rfl
theorem N34:p34.n=27:=rfl
theorem R34:p34.res=[(4,none)]:=rfl
theorem P35:PP 35=some p35:=rfl
theorem B35:p35.body=b35:=rfl
theorem N35:p35.n=18:=rfl
theorem R35:p35.res=[(4,none)]:=rfl
theorem P52:PP 52=some p52:=rfl
theorem B52:p52.body=b52:=rfl
theorem N52:p52.n=11:=rfl
theorem R52:p52.res=[(4,none)]:=rfl
theorem P56:PP 56=some p56:=rfl
theorem B56:p56.body=b56:=rfl
theorem N56:p56.n=15:=rfl
theorem R56:p56.res=[(6,none)]:=rfl
theorem P57:PP 57=some p57:=rfl
theorem B57:p57.body=b57:=rfl
theorem N57:p57.n=26:=rfl
theorem R57:p57.res=[(4,none)]:=rfl
theorem P58:PP 58=some p58:=rfl
theorem B58:p58.body=b58:=rfl
theorem N58:p58.n=24:=rfl
theorem R58:p58.res=[(4,none)]:=rfl
theorem P59:PP 59=some p59:=rfl
theorem B59:p59.body=b59:=rfl
theorem N59:p59.n=6:=rfl
theorem R59:p59.res=[(2,none)]:=rfl
theorem P60:PP 60=some p60:=rfl
theorem B60:p60.body=b60:=rfl
theorem N60:p60.n=9:=rfl
theorem R60:p60.res=[(4,none)]:=rfl
theorem P61:PP 61=some p61:=rfl
theorem B61:p61.body=b61:=rfl
theorem N61:p61.n=20:=rfl
theorem R61:p61.res=[(6,none)]:=rfl
theorem P62:PP 62=some p62:=rfl
theorem B62:p62.body=b62:=rfl
theorem N62:p62.n=9:=rfl
theorem R62:p62.res=[(4,none)]:=rfl
theorem P63:PP 63=some p63:=rfl
theorem B63:p63.body=b63:=rfl
theorem N63:p63.n=8:=rfl
theorem R63:p63.res=[(3,none)]:=rfl
theorem P64:PP 64=some p64:=rfl
theorem B64:p64.body=b64:=rfl
theorem N64:p64.n=27:=rfl
theorem R64:p64.res=[(4,none)]:=rfl
theorem P65:PP 65=some p65:=rfl
theorem B65:p65.body=b65:=rfl
theorem N65:p65.n=42:=rfl
theorem R65:p65.res=[(4,none)]:=rfl
theorem P66:PP 66=some p66:=rfl
theorem B66:p66.body=b66:=rfl
theorem N66:p66.n=8:=rfl
theorem R66:p66.res=[(2,none)]:=rfl
theorem P67:PP 67=some p67:=rfl
theorem B67:p67.body=b67:=rfl
theorem N67:p67.n=7:=rfl
theorem R67:p67.res=[(3,none)]:=rfl
theorem P68:PP 68=some p68:=rfl
theorem B68:p68.body=b68:=rfl
theorem N68:p68.n=6:=rfl
theorem R68:p68.res=[(4,none)]:=rfl
theorem P69:PP 69=some p69:=rfl
theorem B69:p69.body=b69:=rfl
theorem N69:p69.n=19:=rfl
theorem R69:p69.res=[(6,none)]:=rfl
theorem P70:PP 70=some p70:=rfl
theorem B70:p70.body=b70:=rfl
theorem N70:p70.n=19:=rfl
theorem R70:p70.res=[(4,none)]:=rfl
theorem P71:PP 71=some p71:=rfl
theorem B71:p71.body=b71:=rfl
theorem N71:p71.n=25:=rfl
theorem R71:p71.res=[(4,some (some 2))]:=rfl
theorem P72:PP 72=some p72:=rfl
theorem B72:p72.body=b72:=rfl
theorem N72:p72.n=31:=rfl
theorem R72:p72.res=[(5,none)]:=rfl
theorem P73:PP 73=some p73:=rfl
theorem B73:p73.body=b73:=rfl
theorem N73:p73.n=18:=rfl
theorem R73:p73.res=[(4,none)]:=rfl
theorem P74:PP 74=some p74:=rfl
theorem B74:p74.body=b74:=rfl
theorem N74:p74.n=39:=rfl
theorem R74:p74.res=[(2,none)]:=rfl
theorem P75:PP 75=some p75:=rfl
theorem B75:p75.body=b75:=rfl
theorem N75:p75.n=15:=rfl
theorem R75:p75.res=[(6,none)]:=rfl
theorem P76:PP 76=some p76:=rfl
theorem B76:p76.body=b76:=rfl
theorem N76:p76.n=36:=rfl
theorem R76:p76.res=[(4,none)]:=rfl
theorem P77:PP 77=some p77:=rfl
theorem B77:p77.body=b77:=rfl
theorem N77:p77.n=39:=rfl
theorem R77:p77.res=[(6,none)]:=rfl
theorem P78:PP 78=some p78:=rfl
theorem B78:p78.body=b78:=rfl
theorem N78:p78.n=17:=rfl
theorem R78:p78.res=[(2,none)]:=rfl
theorem P101:PP 101=some p101:=rfl
theorem B101:p101.body=b101:=rfl
theorem N101:p101.n=19:=rfl
theorem R101:p101.res=[(4,none)]:=rfl
theorem P102:PP 102=some p102:=rfl
theorem B102:p102.body=b102:=rfl
theorem N102:p102.n=19:=rfl
theorem R102:p102.res=[(4,none)]:=rfl
theorem P103:PP 103=some p103:=rfl
theorem B103:p103.body=b103:=rfl
theorem N103:p103.n=11:=rfl
theorem R103:p103.res=[(3,none)]:=rfl
theorem P104:PP 104=some p104:=rfl
theorem B104:p104.body=b104:=rfl
theorem N104:p104.n=35:=rfl
theorem R104:p104.res=[(6,none)]:=rfl
theorem P105:PP 105=some p105:=rfl
theorem B105:p105.body=b105:=rfl
theorem N105:p105.n=14:=rfl
theorem R105:p105.res=[]:=rfl
theorem P106:PP 106=some p106:=rfl
theorem B106:p106.body=b106:=rfl
theorem N106:p106.n=50:=rfl
theorem R106:p106.res=[(4,none)]:=rfl
theorem P107:PP 107=some p107:=rfl
theorem B107:p107.body=b107:=rfl
theorem N107:p107.n=53:=rfl
theorem R107:p107.res=[(8,none)]:=rfl
theorem P108:PP 108=some p108:=rfl
theorem B108:p108.body=b108:=rfl
theorem N108:p108.n=8:=rfl
theorem R108:p108.res=[(2,none)]:=rfl
theorem P109:PP 109=some p109:=rfl
theorem B109:p109.body=b109:=rfl
theorem N109:p109.n=6:=rfl
theorem R109:p109.res=[(2,some none)]:=rfl
theorem P110:PP 110=some p110:=rfl
theorem B110:p110.body=b110:=rfl
theorem N110:p110.n=26:=rfl
theorem R110:p110.res=[]:=rfl
theorem P111:PP 111=some p111:=rfl
theorem B111:p111.body=b111:=rfl
theorem N111:p111.n=81:=rfl
theorem R111:p111.res=[(4,none)]:=rfl
theorem P112:PP 112=some p112:=rfl
theorem B112:p112.body=b112:=rfl
theorem N112:p112.n=23:=rfl
theorem R112:p112.res=[(6,none)]:=rfl
theorem P113:PP 113=some p113:=rfl
theorem B113:p113.body=b113:=rfl
theorem N113:p113.n=6:=rfl
theorem R113:p113.res=[(2,none)]:=rfl
theorem P114:PP 114=some p114:=rfl
theorem B114:p114.body=b114:=rfl
theorem N114:p114.n=9:=rfl
theorem R114:p114.res=[(4,none)]:=rfl
theorem P115:PP 115=some p115:=rfl
theorem B115:p115.body=b115:=rfl
theorem N115:p115.n=8:=rfl
theorem R115:p115.res=[(3,none)]:=rfl
theorem P116:PP 116=some p116:=rfl
theorem B116:p116.body=b116:=rfl
theorem N116:p116.n=47:=rfl
theorem R116:p116.res=[(4,none)]:=rfl
theorem P117:PP 117=some p117:=rfl
theorem B117:p117.body=b117:=rfl
theorem N117:p117.n=9:=rfl
theorem R117:p117.res=[(4,none)]:=rfl
theorem P118:PP 118=some p118:=rfl
theorem B118:p118.body=b118:=rfl
theorem N118:p118.n=6:=rfl
theorem R118:p118.res=[(2,none)]:=rfl
theorem P119:PP 119=some p119:=rfl
theorem B119:p119.body=b119:=rfl
theorem N119:p119.n=31:=rfl
theorem R119:p119.res=[(2,none)]:=rfl
theorem P120:PP 120=some p120:=rfl
theorem B120:p120.body=b120:=rfl
theorem N120:p120.n=16:=rfl
theorem R120:p120.res=[(2,none)]:=rfl
theorem P121:PP 121=some p121:=rfl
theorem B121:p121.body=b121:=rfl
theorem N121:p121.n=19:=rfl
theorem R121:p121.res=[(4,none)]:=rfl
theorem P122:PP 122=some p122:=rfl
theorem B122:p122.body=b122:=rfl
theorem N122:p122.n=5:=rfl
theorem R122:p122.res=[(2,none)]:=rfl
theorem P145:PP 145=some p145:=rfl
theorem B145:p145.body=b145:=rfl
theorem N145:p145.n=9:=rfl
theorem R145:p145.res=[(4,none)]:=rfl
theorem P146:PP 146=some p146:=rfl
theorem B146:p146.body=b146:=rfl
theorem N146:p146.n=14:=rfl
theorem R146:p146.res=[]:=rfl
theorem P147:PP 147=some p147:=rfl
theorem B147:p147.body=b147:=rfl
theorem N147:p147.n=39:=rfl
theorem R147:p147.res=[(6,none)]:=rfl
theorem P148:PP 148=some p148:=rfl
theorem B148:p148.body=b148:=rfl
theorem N148:p148.n=46:=rfl
theorem R148:p148.res=[(6,none)]:=rfl
theorem P149:PP 149=some p149:=rfl
theorem B149:p149.body=b149:=rfl
theorem N149:p149.n=19:=rfl
theorem R149:p149.res=[(4,none)]:=rfl
theorem P150:PP 150=some p150:=rfl
theorem B150:p150.body=b150:=rfl
theorem N150:p150.n=19:=rfl
theorem R150:p150.res=[(4,none)]:=rfl
theorem P151:PP 151=some p151:=rfl
theorem B151:p151.body=b151:=rfl
theorem N151:p151.n=8:=rfl
theorem R151:p151.res=[(2,none)]:=rfl
theorem P152:PP 152=some p152:=rfl
theorem B152:p152.body=b152:=rfl
theorem N152:p152.n=12:=rfl
theorem R152:p152.res=[(2,none)]:=rfl
theorem P153:PP 153=some p153:=rfl
theorem B153:p153.body=b153:=rfl
theorem N153:p153.n=13:=rfl
theorem R153:p153.res=[(2,none)]:=rfl
theorem P154:PP 154=some p154:=rfl
theorem B154:p154.body=b154:=rfl
theorem N154:p154.n=26:=rfl
theorem R154:p154.res=[(2,none)]:=rfl
theorem P164:PP 164=some p164:=rfl
theorem B164:p164.body=b164:=rfl
theorem N164:p164.n=19:=rfl
theorem R164:p164.res=[(4,none)]:=rfl
theorem P165:PP 165=some p165:=rfl
theorem B165:p165.body=b165:=rfl
theorem N165:p165.n=17:=rfl
theorem R165:p165.res=[(4,none)]:=rfl
theorem P166:PP 166=some p166:=rfl
theorem B166:p166.body=b166:=rfl
theorem N166:p166.n=17:=rfl
theorem R166:p166.res=[(2,none)]:=rfl
theorem P167:PP 167=some p167:=rfl
theorem B167:p167.body=b167:=rfl
theorem N167:p167.n=43:=rfl
theorem R167:p167.res=[(8,none)]:=rfl
theorem P168:PP 168=some p168:=rfl
theorem B168:p168.body=b168:=rfl
theorem N168:p168.n=16:=rfl
theorem R168:p168.res=[(4,none)]:=rfl
theorem P187:PP 187=some p187:=rfl
theorem B187:p187.body=b187:=rfl
theorem N187:p187.n=9:=rfl
theorem R187:p187.res=[(6,none)]:=rfl
end Go.Pi.Top
