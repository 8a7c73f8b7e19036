/- The functions, in the small language. -/
import Derived.Test.YtjgmlngcknehhaaGreatPiI
set_option linter.all false
set_option maxRecDepth 100000
namespace Go.Pi.Top
open Go Go.Pi
abbrev iM (d:Nat)(s:Nat):PIns:=⟨some d,.v .mv [.tmp s],none⟩
abbrev jM (d:Nat)(s:Nat)(g:Nat)(h:Bool):PIns:=⟨some d,.v .mv [.tmp s],some (g,h)⟩
abbrev iL (d:Nat)(s:Nat):PIns:=⟨some d,.ld none (.tmp s),none⟩
abbrev jL (d:Nat)(s:Nat)(g:Nat)(h:Bool):PIns:=⟨some d,.ld none (.tmp s),some (g,h)⟩
abbrev iI (d:Nat)(n:Int):PIns:=⟨some d,.v .mv [.const (.int .i64 n)],none⟩
abbrev iF (d:Nat)(o s:Nat):PIns:=⟨some d,.v (.fa o) [.tmp s],none⟩
abbrev jF (d:Nat)(o s:Nat)(g:Nat)(h:Bool):PIns:=⟨some d,.v (.fa o) [.tmp s],some (g,h)⟩
abbrev iN (d:Nat)(n s:Nat):PIns:=⟨some d,.ld (some n) (.tmp s),none⟩
abbrev jN (d:Nat)(n s:Nat)(g:Nat)(h:Bool):PIns:=⟨some d,.ld (some n) (.tmp s),some (g,h)⟩
abbrev iE (d:Nat)(n s:Nat):PIns:=⟨some d,.v (.ext n) [.tmp s],none⟩
abbrev iW (d:Nat)(f:Nat):PIns:=⟨some d,.call (.func f) [],none⟩
abbrev jW (d:Nat)(f:Nat)(g:Nat)(h:Bool):PIns:=⟨some d,.call (.func f) [],some (g,h)⟩
abbrev iX (d:Nat)(f a:Nat):PIns:=⟨some d,.call (.func f) [.tmp a],none⟩
abbrev jX (d:Nat)(f a:Nat)(g:Nat)(h:Bool):PIns:=⟨some d,.call (.func f) [.tmp a],some (g,h)⟩
abbrev iY (d:Nat)(f a b:Nat):PIns:=⟨some d,.call (.func f) [.tmp a,.tmp b],none⟩
abbrev jY (d:Nat)(f a b:Nat)(g:Nat)(h:Bool):PIns:=⟨some d,.call (.func f) [.tmp a,.tmp b],some (g,h)⟩
abbrev iZ (d:Nat)(f a b c:Nat):PIns:=⟨some d,.call (.func f) [.tmp a,.tmp b,.tmp c],none⟩
abbrev jZ (d:Nat)(f a b c:Nat)(g:Nat)(h:Bool):PIns:=⟨some d,.call (.func f) [.tmp a,.tmp b,.tmp c],some (g,h)⟩
abbrev iK (d:Nat)(s:Nat):PIns:=⟨some d,.v .len [.tmp s],none⟩
abbrev jK (d:Nat)(s:Nat)(g:Nat)(h:Bool):PIns:=⟨some d,.v .len [.tmp s],some (g,h)⟩
abbrev iA (d:Nat)(k a b:Nat):PIns:=⟨some d,.v (.ia k) [.tmp a,.tmp b],none⟩
abbrev jA (d:Nat)(k a b:Nat)(g:Nat)(h:Bool):PIns:=⟨some d,.v (.ia k) [.tmp a,.tmp b],some (g,h)⟩
abbrev iB (d:Nat)(b:Bool):PIns:=⟨some d,.v .mv [.const (.bool b)],none⟩
abbrev iP (d:Nat)(a b:Nat):PIns:=⟨some d,.v .pick [.tmp a,.tmp b,.const (.bool false)],none⟩
abbrev jP (d:Nat)(a b:Nat)(g:Nat)(h:Bool):PIns:=⟨some d,.v .pick [.tmp a,.tmp b,.const (.bool false)],some (g,h)⟩
abbrev iQ (d:Nat)(a b:Nat):PIns:=⟨some d,.v .pick [.tmp a,.const (.bool true),.tmp b],none⟩
abbrev iO (d:Nat)(o:BinOp)(s:Nat)(n:Int):PIns:=⟨some d,.v (.ib o) [.tmp s,.const (.int .i64 n)],none⟩
abbrev jO (d:Nat)(o:BinOp)(s:Nat)(n:Int)(g:Nat)(h:Bool):PIns:=⟨some d,.v (.ib o) [.tmp s,.const (.int .i64 n)],some (g,h)⟩
abbrev iT (d:Nat)(o:BinOp)(a b:Nat):PIns:=⟨some d,.v (.ib o) [.tmp a,.tmp b],none⟩
abbrev jT (d:Nat)(o:BinOp)(a b:Nat)(g:Nat)(h:Bool):PIns:=⟨some d,.v (.ib o) [.tmp a,.tmp b],some (g,h)⟩
abbrev iH (d:Nat) : PIns:=⟨some d,.v .mv [.const (.slice none 0 0)],none⟩
abbrev iR (d:Nat)(s:Nat):PIns:=⟨some d,.v .no [.tmp s],none⟩
abbrev jR (d:Nat)(s:Nat)(g:Nat)(h:Bool):PIns:=⟨some d,.v .no [.tmp s],some (g,h)⟩
abbrev iV (d:Nat)(t s:Nat):PIns:=⟨some d,.lbox t (.tmp s),none⟩
abbrev iS (n a s:Nat):PIns:=⟨none,.st n (.tmp a) (.tmp s),none⟩
abbrev fA:Flag:=⟨0,false,none⟩
abbrev fB:Flag:=⟨1,false,none⟩
abbrev fC:Flag:=⟨0,true,none⟩
abbrev fD:Flag:=⟨1,true,some []⟩
abbrev fE:Flag:=⟨1,true,none⟩

def q4x0:PCode :=
 (.seq (.seq (.reg [
 iM 41 8,iM 42 0,iM 43 7,iA 44 1 42 43,iL 45 44,iK 46 45,iT 47 .lss 41 46])
 (.cond (.tmp 47)
 .skip
 (.exit 2)))
 (.seq (.blk 3
 (.seq (.seq (.dreg [
 iM 50 0,iM 51 7,iA 52 1 50 51,iL 53 52,iM 54 8,iA 55 1 53 54,iL 56 55,iM 57 7,iO 58 .sub 57 1,⟨some 59,.call (.func 6) [.tmp 56,.const (.int .i64 0),.tmp 58],none⟩,iR 60 59,iM 61 60,jM 62 8 61 false,
 jO 63 .gtr 62 0 61 false,
 jM 64 63 61 false,
 jM 65 0 64 true,
 jM 66 7 64 true,
 jA 67 1 65 66 64 true,
 jL 68 67 64 true,
 jM 69 8 64 true,
 jA 70 1 68 69 64 true,
 jL 71 70 64 true,
 jM 72 0 64 true,
 jM 73 7 64 true,
 jA 74 1 72 73 64 true,
 jL 75 74 64 true,
 jM 76 8 64 true,
 jO 77 .sub 76 1 64 true,
 jA 78 1 75 77 64 true,
 jL 79 78 64 true,
 jT 80 .leq 71 79 64 true,
 jP 81 64 80 61 false,
 iQ 82 61 81] [fC,fC,fC,fE,fA,fC,fE,fA,fA,fD,fC,fC,fC,fC,fC,fA,fA,fA,fB,fA,fA,fB,fA,fA,fA,fB,fA,fA,fA,fB,fC,fC,fC])
 (.cond (.tmp 82)
 (.seq (.reg [
 iW 83 7,iM 2 83])
 .ret)
 .skip))
 (.dreg [
 iF 84 1 5,iL 85 84,iM 86 0,iM 87 7,iA 88 1 86 87,iL 89 88,iM 90 8,iA 91 1 89 90,iL 92 91,iM 93 7,⟨some 94,.bs 3 1 [(.int .i64 0)] 2 [(0,.tmp 92),(1,.tmp 93)],none⟩,⟨some 95,.lbs 22 1 [(.slice none 0 0)] 1 [(0,.tmp 94)],none⟩,⟨some 96,.app 22 1 (.tmp 85) (.tmp 95),none⟩,iF 97 1 5,iS 1 97 96] [fA,⟨7,false,none⟩,fC,fC,fC,fE,fA,fC,fE,fA,fE,⟨97,true,none⟩,fE,fC,⟨7,true,none⟩])))
 (.reg [
 iM 48 8,iO 49 .add 48 1,iM 8 49])))
def q4x1:PCode :=
 (.seq (.seq (.reg [
 iM 28 7,iM 29 3,iT 30 .lss 28 29])
 (.cond (.tmp 30)
 .skip
 (.exit 0)))
 (.seq (.blk 1
 (.seq (.seq (.reg [
 iM 33 0,iM 34 7,iA 35 1 33 34,iL 36 35,iK 37 36,iM 38 7,iT 39 .gtr 37 38])
 (.cond (.tmp 39)
 (.seq (.reg [
 iW 40 7,iM 2 40])
 .ret)
 .skip))
 (.seq (.seq (.reg [
 iI 8 0])
 (.blk 2
 (.loop q4x0)))
 (.seq (.dreg [
 iF 98 2 4,iL 99 98,⟨some 100,.v (.bld [(.int .i64 0),(.int .i64 0)] [(0,1),(1,1)]) [.const (.int .i64 1),.const (.int .i64 1)],none⟩,iM 101 0,iM 102 7,iA 103 1 101 102,iL 104 103,⟨some 105,.app 3 1 (.const (.slice none 0 0)) (.tmp 104),none⟩,⟨some 106,.v (.bld [(.int .i64 0),(.bool false),(.int .i64 0),(.int .i64 0),(.slice none 0 0)] [(2,2),(4,1)]) [.tmp 100,.tmp 105],none⟩,⟨some 107,.lbs 57 5 [(.int .i64 0),(.bool false),(.int .i64 0),(.int .i64 0),(.slice none 0 0)] 1 [(0,.tmp 106)],none⟩,⟨some 108,.app 57 5 (.tmp 99) (.tmp 107),none⟩,iF 109 2 4,iS 1 109 108] [fA,⟨6,false,none⟩,fA,fC,fC,fC,fE,fE,fC,⟨109,true,none⟩,fE,fC,⟨6,true,none⟩])
 (.reg [
 iM 110 6,iM 111 7,⟨some 112,.lbs 3 1 [(.int .i64 0)] 1 [(0,.tmp 111)],none⟩,⟨some 113,.app 3 1 (.tmp 110) (.tmp 112),none⟩,iM 6 113])))))
 (.reg [
 iM 31 7,iO 32 .add 31 1,iM 7 32])))
def b4:PCode :=
 (.seq (.reg [
 iB 2 false])
 (.seq (.reg [
 iM 18 0,iK 19 18,iM 3 19])
 (.seq (.seq (.reg [
 iM 20 3,⟨some 21,.call (.func 6) [.tmp 20,.const (.int .i64 1),.const (.int .i64 4)],none⟩,iR 22 21])
 (.cond (.tmp 22)
 (.seq (.reg [
 iW 23 7,iM 2 23])
 .ret)
 .skip))
 (.seq (.reg [
 ⟨some 24,.bs 3 1 [(.int .i64 0)] 1 [(0,.const (.int .i64 60))],none⟩,⟨some 25,.v (.bld [(.int .i64 0),(.slice none 0 0),(.slice none 0 0)] [(0,1),(1,1)]) [.const (.int .i64 3),.tmp 24],none⟩,⟨some 4,.lalloc 53 (.agg #[(.int .i64 0),(.slice none 0 0),(.slice none 0 0)]),none⟩,iS 3 4 25])
 (.seq (.reg [
 iM 26 3,⟨some 27,.v (.bld [(.int .i64 0),(.slice none 0 0)] [(0,1)]) [.tmp 26],none⟩,⟨some 5,.lalloc 55 (.agg #[(.int .i64 0),(.slice none 0 0)]),none⟩,iS 2 5 27])
 (.seq (.reg [
 iH 6])
 (.seq (.seq (.reg [
 iI 7 0])
 (.blk 0
 (.loop q4x1)))
 (.seq (.reg [
 iN 115 3 4,iX 116 13 115,iM 114 116,iE 117 0 114,iE 118 1 114,iE 119 2 114,iM 9 117,iM 10 118,iM 11 119])
 (.seq (.reg [
 iN 121 2 5,iX 122 14 121,iM 120 122,iE 123 0 120,iE 124 1 120,iM 12 123,iM 13 124])
 (.seq (.reg [
 iN 126 2 5,iX 127 15 126,iM 125 127,iE 128 0 125,iE 129 1 125,iM 14 128,iM 15 129])
 (.seq (.seq (.reg [
 iM 130 11,iO 131 .neq 130 0,iM 132 131,jM 133 13 132 false,
 jO 134 .neq 133 0 132 false,
 iQ 135 132 134,iM 136 135,jM 137 15 136 false,
 jO 138 .neq 137 0 136 false,
 iQ 139 136 138,iM 140 139,jM 141 10 140 false,
 jM 142 12 140 false,
 jT 143 .neq 141 142 140 false,
 iQ 144 140 143,iM 145 144,jM 146 10 145 false,
 jM 147 3 145 false,
 ⟨some 148,.call (.func 6) [.tmp 146,.const (.int .i64 1),.tmp 147],some (145,false)⟩,
 jR 149 148 145 false,
 iQ 150 145 149,iM 151 150,jM 152 14 151 false,
 jM 153 6 151 false,
 jY 154 16 152 153 151 false,
 jR 155 154 151 false,
 iQ 156 151 155])
 (.cond (.tmp 156)
 (.seq (.reg [
 iB 2 false])
 .ret)
 .skip))
 (.seq (.reg [
 iN 158 3 4,iM 159 10,iY 160 17 158 159,iM 157 160,iE 161 0 157,iE 162 1 157,iM 16 161,iM 17 162])
 (.seq (.reg [
 iM 163 17,iO 164 .eql 163 0,iM 165 164,jM 166 16 165 true,
 jM 167 3 165 true,
 jO 168 .sub 167 1 165 true,
 ⟨some 169,.call (.func 6) [.tmp 166,.const (.int .i64 0),.tmp 168],some (165,true)⟩,
 iP 170 165 169,iM 171 170,jW 172 7 171 true,
 iP 173 171 172,iM 2 173])
 .ret)))))))))))))
def p4:PFunc:=⟨174,[(2,none)],none,b4⟩
def b6:PCode :=
 (.seq (.reg [
 iB 6 false])
 (.seq (.reg [
 iM 7 0,iM 8 1,iT 9 .geq 7 8,iM 10 9,jM 11 0 10 true,
 jM 12 2 10 true,
 jT 13 .leq 11 12 10 true,
 iP 14 10 13,iM 6 14])
 .ret))
def p6:PFunc:=⟨15,[(6,none)],none,b6⟩
def b7:PCode :=
 (.seq (.reg [
 iB 0 false])
 (.seq (.reg [
 iW 6 23,iX 7 9 6,iM 5 7,iE 8 0 5,iE 9 1 5,iM 1 8,iM 2 9])
 (.seq (.reg [
 iW 11 25,iX 12 24 11,iM 10 12,iE 13 0 10,iE 14 1 10,iM 3 13,iM 4 14])
 (.seq (.reg [
 iM 15 2,iO 16 .eql 15 0,iM 17 16,jM 18 1 17 true,
 jO 19 .eql 18 3 17 true,
 iP 20 17 19,iM 21 20,jM 22 4 21 true,
 jO 23 .eql 22 0 21 true,
 iP 24 21 23,iM 25 24,jM 26 3 25 true,
 ⟨some 27,.bs 3 1 [(.int .i64 0)] 3 [(0,.const (.int .i64 0)),(1,.const (.int .i64 2)),(2,.const (.int .i64 5))],some (25,true)⟩,
 jY 28 16 26 27 25 true,
 iP 29 25 28,iM 0 29])
 .ret))))
def p7:PFunc:=⟨30,[(0,none)],none,b7⟩
def q9x0:PCode :=
 (.seq (.reg [
 iT 26 .lss 25 24])
 (.seq (.cond (.tmp 26)
 .skip
 (.exit 2))
 (.seq (.blk 3
 (.seq (.reg [
 iM 27 25,iM 7 27])
 (.seq (.reg [
 iN 28 10 1,iM 29 4,iM 30 7,iT 31 .sub 29 30,iY 32 28 28 31,iX 33 27 32,⟨some 34,.call (.func 29) [.tmp 33,.const (.slice none 0 0)],none⟩])
 (.cond (.tmp 34)
 (.seq (.reg [
 iM 35 7,iM 2 35,iI 3 0])
 .ret)
 .skip))))
 (.reg [
 iO 36 .add 25 1,iM 25 36]))))
def q9x1:PCode :=
 (.seq (.reg [
 iT 15 .lss 14 13])
 (.seq (.cond (.tmp 15)
 .skip
 (.exit 0))
 (.seq (.blk 1
 (.seq (.reg [
 iA 16 3 12 14,iN 17 3 16,⟨some 6,.lalloc 67 (.agg #[(.slice none 0 0),(.slice none 0 0),(.bool false)]),none⟩,iS 3 6 17])
 (.reg [
 iM 18 4,iF 19 0 6,iL 20 19,iK 21 20,iT 22 .add 18 21,iM 4 22])))
 (.reg [
 iO 23 .add 14 1,iM 14 23]))))
def b9:PCode :=
 (.seq (.reg [
 iV 1 28 0,iI 2 0,iI 3 0])
 (.seq (.seq (.reg [
 iN 8 10 1,iX 9 26 8,iR 10 9])
 (.cond (.tmp 10)
 (.seq (.reg [
 iI 2 0,iI 3 2])
 .ret)
 .skip))
 (.seq (.reg [
 iI 4 0])
 (.seq (.seq (.reg [
 iF 11 7 1,iL 12 11,iK 13 12,iI 14 0])
 (.blk 0
 (.loop q9x1)))
 (.seq (.seq (.reg [
 iM 24 4,iI 25 0])
 (.blk 2
 (.loop q9x0)))
 (.seq (.reg [
 iM 37 4,iM 2 37,iI 3 0])
 .ret))))))
def p9:PFunc:=⟨38,[(2,none),(3,none)],none,b9⟩
def b13:PCode :=
 (.seq (.reg [
 iV 1 53 0,iH 2,iI 3 0,iI 4 0])
 (.seq (.seq (.reg [
 iN 6 3 1,iX 7 36 6,iR 8 7])
 (.cond (.tmp 8)
 (.seq (.reg [
 iH 2,iI 3 0,iI 4 2])
 .ret)
 .skip))
 (.seq (.reg [
 iN 9 3 1,iX 10 37 9,iM 5 10])
 (.seq (.dreg [
 iM 11 5,⟨some 12,.v (.ia 2) [.tmp 11,.const (.int .i64 0)],none⟩,iF 13 0 12,iL 14 13,iM 15 5,⟨some 16,.v (.ia 2) [.tmp 15,.const (.int .i64 0)],none⟩,iF 17 1 16,iL 18 17,iM 2 14,iM 3 18,iI 4 0] [fA,fA,fA,fB,fA,fA,fA,fB,fA,fC,fC])
 .ret))))
def p13:PFunc:=⟨19,[(2,none),(3,none),(4,none)],none,b13⟩
def q14x0:PCode :=
 (.seq (.reg [
 iT 24 .lss 23 22])
 (.seq (.cond (.tmp 24)
 .skip
 (.exit 0))
 (.seq (.blk 1
 (.seq (.reg [
 iM 25 23,iM 8 25])
 (.reg [
 iM 26 7,iN 27 38 6,iM 28 8,iY 29 41 27 28,⟨some 30,.lbs 3 1 [(.int .i64 0)] 1 [(0,.tmp 29)],none⟩,⟨some 31,.app 3 1 (.tmp 26) (.tmp 30),none⟩,iM 7 31])))
 (.reg [
 iO 32 .add 23 1,iM 23 32]))))
def b14:PCode :=
 (.seq (.reg [
 iV 1 55 0,iI 2 0,iI 3 0])
 (.seq (.seq (.dreg [
 iN 10 2 1,iN 11 2 1,iX 12 39 11,iY 13 38 10 12,iM 9 13,iE 14 0 9,iE 15 1 9,iM 4 14,iM 5 15] [⟨3,false,none⟩,⟨3,true,none⟩,⟨1,true,some [10]⟩,fD,fC,fC,fC,fC,fC])
 (.seq (.reg [
 iM 16 5,iO 17 .neq 16 0])
 (.cond (.tmp 17)
 (.seq (.reg [
 iM 18 5,iI 2 0,iM 3 18])
 .ret)
 .skip)))
 (.seq (.reg [
 iN 19 2 1,iX 20 40 19,⟨some 6,.lalloc 107 (.agg #[(.int .i64 0),(.slice none 0 0),(.bool false),(.bool false),(.bool false),(.bool false),(.bool false),(.bool false),(.bool false),(.bool false),(.bool false),(.bool false),(.bool false),(.bool false),(.bool false),(.bool false),(.bool false),(.bool false),(.bool false),(.bool false),(.bool false),(.bool false),(.bool false),(.bool false),(.bool false),(.bool false),(.bool false),(.bool false),(.bool false),(.bool false),(.bool false),(.bool false),(.bool false),(.bool false),(.bool false),(.bool false),(.bool false),(.bool false)]),none⟩,iS 38 6 20])
 (.seq (.reg [
 iH 7])
 (.seq (.seq (.reg [
 iF 21 0 1,iL 22 21,iI 23 0])
 (.blk 0
 (.loop q14x0)))
 (.seq (.reg [
 iM 33 7,⟨some 34,.call (.func 42) [.tmp 33,.func 43],none⟩,iM 2 34,iI 3 0])
 .ret))))))
def p14:PFunc:=⟨35,[(2,none),(3,none)],none,b14⟩
def b15:PCode :=
 (.seq (.reg [
 ⟨some 1,.box 55 (.tmp 0),none⟩,iH 2,iI 3 0])
 (.seq (.seq (.reg [
 iN 5 2 1,iX 6 39 5,iR 7 6])
 (.cond (.tmp 7)
 (.seq (.reg [
 iH 2,iI 3 2])
 .ret)
 .skip))
 (.seq (.reg [
 ⟨some 4,.alloc 22 (.slice none 0 0),none⟩])
 (.seq (.seq (.reg [
 ⟨some 8,.v (.mkf (.func 45) 0) [.tmp 1,.tmp 4],none⟩,iX 9 44 8,iO 10 .neq 9 0])
 (.cond (.tmp 10)
 (.seq (.reg [
 iH 2,iI 3 5])
 .ret)
 .skip))
 (.seq (.reg [
 iL 11 4,iM 2 11,iI 3 0])
 .ret)))))
def p15:PFunc:=⟨12,[(2,none),(3,none)],none,b15⟩
def q16x0:PCode :=
 (.seq (.seq (.reg [
 iM 11 5,iM 12 0,iK 13 12,iT 14 .lss 11 13])
 (.cond (.tmp 14)
 .skip
 (.exit 0)))
 (.seq (.blk 1
 (.seq (.dreg [
 iM 17 0,iM 18 5,iA 19 1 17 18,iL 20 19,iM 21 1,iM 22 5,iA 23 1 21 22,iL 24 23,iT 25 .neq 20 24] [fA,fA,fA,fB,fA,fA,fA,fB,fC])
 (.cond (.tmp 25)
 (.seq (.reg [
 iB 4 false])
 .ret)
 .skip)))
 (.reg [
 iM 15 5,iO 16 .add 15 1,iM 5 16])))
def b16:PCode :=
 (.seq (.reg [
 iB 4 false])
 (.seq (.seq (.reg [
 iM 6 0,iK 7 6,iM 8 1,iK 9 8,iT 10 .neq 7 9])
 (.cond (.tmp 10)
 (.seq (.reg [
 iB 4 false])
 .ret)
 .skip))
 (.seq (.seq (.reg [
 iI 5 0])
 (.blk 0
 (.loop q16x0)))
 (.seq (.reg [
 iB 4 true])
 .ret))))
def p16:PFunc:=⟨26,[(4,none)],none,b16⟩
def q17x0:PCode :=
 (.seq (.reg [
 iO 17 .lss 16 4])
 (.seq (.cond (.tmp 17)
 .skip
 (.exit 0))
 (.seq (.blk 1
 (.seq (.reg [
 iM 18 16,⟨some 6,.alloc 3 (.int .i64 0),none⟩,iS 1 6 18])
 (.seq (.reg [
 iN 19 3 2,iL 20 6,iY 21 49 19 20,iX 22 48 21])
 (.blk 2
 (.rf (.tmp 22) [23]
 (.reg [
 iM 7 23])
 (.blk 3
 (.seq (.dreg [
 iN 24 3 2,iM 25 7,iY 26 50 24 25,iX 27 51 26,iL 28 3,iT 29 .leq 27 28] [fB,fA,fB,fB,fB,fC])
 (.cond (.tmp 29)
 (.seq (.reg [
 iL 30 6,iS 1 4 30,⟨none,.st 1 (.tmp 5) (.const (.int .i64 0)),none⟩])
 .ret)
 .skip))))))))
 (.reg [
 iO 31 .add 16 1,iM 16 31]))))
def b17:PCode :=
 (.seq (.reg [
 ⟨some 2,.box 53 (.tmp 0),none⟩,⟨some 3,.box 3 (.tmp 1),none⟩,⟨some 4,.alloc 3 (.int .i64 0),none⟩,⟨some 5,.alloc 34 (.int .i64 0),none⟩])
 (.seq (.seq (.reg [
 iN 8 3 2,iX 9 36 8,iR 10 9,iM 11 10,jL 12 3 11 false,
 ⟨some 13,.call (.func 47) [.tmp 12,.const (.int .i64 0),.const (.int .i64 60)],some (11,false)⟩,
 jR 14 13 11 false,
 iQ 15 11 14])
 (.cond (.tmp 15)
 (.seq (.reg [
 ⟨none,.st 1 (.tmp 4) (.const (.int .i64 0)),none⟩,⟨none,.st 1 (.tmp 5) (.const (.int .i64 2)),none⟩])
 .ret)
 .skip))
 (.seq (.seq (.reg [
 iI 16 0])
 (.blk 0
 (.loop q17x0)))
 (.seq (.reg [
 ⟨none,.st 1 (.tmp 4) (.const (.int .i64 0)),none⟩,⟨none,.st 1 (.tmp 5) (.const (.int .i64 5)),none⟩])
 .ret))))
def p17:PFunc:=⟨32,[(4,some none),(5,some none)],none,b17⟩
def b23:PCode :=
 (.seq (.reg [
 ⟨some 0,.lalloc 28 (.agg #[(.slice none 0 0),(.slice none 0 0),(.int .i64 0),(.int .i64 0),(.int .i64 0),(.int .i64 0),(.int .i64 0),(.slice none 0 0),(.int .i64 0),(.int .i64 0)]),none⟩])
 (.seq (.reg [
 iW 2 53,⟨some 1,.lalloc 28 (.agg #[(.slice none 0 0),(.slice none 0 0),(.int .i64 0),(.int .i64 0),(.int .i64 0),(.int .i64 0),(.int .i64 0),(.slice none 0 0),(.int .i64 0),(.int .i64 0)]),none⟩,iS 10 1 2])
 (.seq (.reg [
 iF 3 8 1,⟨none,.st 1 (.tmp 3) (.const (.int .i64 18)),none⟩])
 (.seq (.reg [
 iN 4 10 1,iS 10 0 4])
 .ret))))
def p23:PFunc:=⟨5,[(0,some (some 10))],none,b23⟩
def b24:PCode :=
 (.seq (.reg [
 iV 1 75 0,iH 2,iI 3 0])
 (.seq (.reg [
 iN 7 3 1,⟨some 8,.call (.func 54) [.tmp 7,.const (.int .i64 5)],none⟩,iM 6 8,iE 9 0 6,iE 10 1 6,iM 4 9,iM 5 10])
 (.seq (.seq (.reg [
 iM 11 5,iO 12 .neq 11 0])
 (.cond (.tmp 12)
 (.seq (.reg [
 iM 13 5,iH 2,iM 3 13])
 .ret)
 .skip))
 (.seq (.reg [
 iM 14 4,⟨some 15,.v (.ia 1) [.tmp 14,.const (.int .i64 0)],none⟩,iL 16 15,iM 2 16,iI 3 0])
 .ret))))
def p24:PFunc:=⟨17,[(2,none),(3,none)],none,b24⟩
def b25:PCode :=
 (.seq (.reg [
 ⟨some 0,.lalloc 75 (.agg #[(.slice none 0 0),(.slice none 0 0),(.slice none 0 0)]),none⟩])
 (.seq (.reg [
 ⟨some 1,.call (.func 55) [.const (.int .i64 6),.const (.int .i64 8)],none⟩,⟨some 2,.call (.func 55) [.const (.int .i64 4),.const (.int .i64 6)],none⟩,⟨some 3,.call (.func 55) [.const (.int .i64 8),.const (.int .i64 10)],none⟩,⟨some 4,.call (.func 55) [.const (.int .i64 2),.const (.int .i64 4)],none⟩,⟨some 5,.call (.func 55) [.const (.int .i64 6),.const (.int .i64 6)],none⟩,⟨some 6,.call (.func 55) [.const (.int .i64 5),.const (.int .i64 9)],none⟩,⟨some 7,.call (.func 55) [.const (.int .i64 8),.const (.int .i64 12)],none⟩,⟨some 8,.call (.func 55) [.const (.int .i64 4),.const (.int .i64 4)],none⟩,⟨some 9,.bs 25 2 [(.int .i64 0),(.int .i64 0)] 8 [(0,.tmp 1),(1,.tmp 2),(2,.tmp 3),(3,.tmp 4),(4,.tmp 5),(5,.tmp 6),(6,.tmp 7),(7,.tmp 8)],none⟩,⟨some 10,.bs 3 1 [(.int .i64 0)] 5 [(0,.const (.int .i64 0)),(1,.const (.int .i64 2)),(2,.const (.int .i64 3)),(3,.const (.int .i64 5)),(4,.const (.int .i64 6))],none⟩,⟨some 11,.v (.bld [(.int .i64 0),(.int .i64 0)] [(0,1),(1,1)]) [.const (.int .i64 9),.const (.int .i64 20)],none⟩,⟨some 12,.v (.bld [(.int .i64 0),(.int .i64 0)] [(0,1),(1,1)]) [.const (.int .i64 10),.const (.int .i64 20)],none⟩,⟨some 13,.v (.bld [(.int .i64 0),(.int .i64 0)] [(0,1),(1,1)]) [.const (.int .i64 8),.const (.int .i64 30)],none⟩,⟨some 14,.bs 130 2 [(.int .i64 0),(.int .i64 0)] 3 [(0,.tmp 11),(1,.tmp 12),(2,.tmp 13)],none⟩,⟨some 15,.v (.bld [(.slice none 0 0),(.slice none 0 0),(.slice none 0 0)] [(0,1),(1,1),(2,1)]) [.tmp 9,.tmp 10,.tmp 14],none⟩,iS 3 0 15])
 .ret))
def p25:PFunc:=⟨16,[(0,some (some 3))],none,b25⟩
def q26x0:PCode :=
 (.seq (.reg [
 iT 28 .lss 27 26])
 (.seq (.cond (.tmp 28)
 .skip
 (.exit 0))
 (.seq (.blk 1
 (.seq (.reg [
 iM 29 27,iA 30 4 25 27,iN 31 4 30,⟨some 4,.lalloc 125 (.agg #[(.int .i64 0),(.int .i64 0),(.int .i64 0),(.int .i64 0)]),none⟩,iM 3 29,iS 4 4 31])
 (.seq (.dreg [
 iN 32 10 1,iN 33 4 4,iY 34 57 32 33,iR 35 34,iM 36 35,jM 37 3 36 false,
 jO 38 .gtr 37 0 36 false,
 jM 39 38 36 false,
 jF 40 1 1 39 true,
 jL 41 40 39 true,
 jM 42 3 39 true,
 jO 43 .sub 42 1 39 true,
 jA 44 4 41 43 39 true,
 jN 45 4 44 39 true,
 jN 46 4 4 39 true,
 jY 47 58 45 46 39 true,
 jR 48 47 39 true,
 jP 49 39 48 36 false,
 iQ 50 36 49] [fE,⟨6,false,none⟩,fD,fC,fC,fC,fC,fC,fC,fE,fA,fA,fC,fE,⟨6,false,none⟩,fD,fC,fC,fC])
 (.cond (.tmp 50)
 (.seq (.reg [
 iB 2 false])
 .ret)
 .skip))))
 (.reg [
 iO 51 .add 27 1,iM 27 51]))))
def b26:PCode :=
 (.seq (.reg [
 ⟨some 1,.box 28 (.tmp 0),none⟩,iB 2 false])
 (.seq (.seq (.reg [
 iF 6 0 1,iL 7 6,iK 8 7,⟨some 9,.call (.func 56) [.tmp 8,.const (.int .i64 1),.const (.int .i64 6)],none⟩,iR 10 9,iM 11 10,jF 12 1 1 11 false,
 jL 13 12 11 false,
 jK 14 13 11 false,
 jO 15 .gtr 14 6 11 false,
 iQ 16 11 15,iM 17 16,jF 18 7 1 17 false,
 jL 19 18 17 false,
 jK 20 19 17 false,
 ⟨some 21,.call (.func 56) [.tmp 20,.const (.int .i64 1),.const (.int .i64 4)],some (17,false)⟩,
 jR 22 21 17 false,
 iQ 23 17 22])
 (.cond (.tmp 23)
 (.seq (.reg [
 iB 2 false])
 .ret)
 .skip))
 (.seq (.seq (.reg [
 iF 24 1 1,iL 25 24,iK 26 25,iI 27 0])
 (.blk 0
 (.loop q26x0)))
 (.seq (.reg [
 ⟨some 5,.v .mv [.func 59],none⟩])
 (.seq (.reg [
 iF 52 0 1,iL 53 52,iM 54 5,iY 55 60 53 54,iR 56 55,iM 57 56,jF 58 2 1 57 true,
 jN 59 2 58 57 true,
 ⟨some 60,.call (.func 61) [.tmp 59,.const (.int .i64 0),.const (.int .i64 9)],some (57,true)⟩,
 iP 61 57 60,iM 62 61,jF 63 4 1 62 true,
 jN 64 2 63 62 true,
 ⟨some 65,.call (.func 61) [.tmp 64,.const (.int .i64 0),.const (.int .i64 20)],some (62,true)⟩,
 iP 66 62 65,iM 67 66,jF 68 6 1 67 true,
 jL 69 68 67 true,
 ⟨some 70,.call (.func 56) [.tmp 69,.const (.int .i64 1),.const (.int .i64 20)],some (67,true)⟩,
 iP 71 67 70,iM 72 71,jF 73 7 1 72 true,
 jL 74 73 72 true,
 ⟨some 75,.v (.mkf (.func 63) 0) [.tmp 1],some (72,true)⟩,
 jY 76 62 74 75 72 true,
 jR 77 76 72 true,
 iP 78 72 77,iM 79 78,jF 80 8 1 79 true,
 jL 81 80 79 true,
 ⟨some 82,.call (.func 56) [.tmp 81,.const (.int .i64 1),.const (.int .i64 400)],some (79,true)⟩,
 iP 83 79 82,iM 84 83,jF 85 9 1 84 true,
 jL 86 85 84 true,
 ⟨some 87,.call (.func 56) [.tmp 86,.const (.int .i64 1),.const (.int .i64 3)],some (84,true)⟩,
 iP 88 84 87,iM 2 88])
 .ret)))))
def p26:PFunc:=⟨89,[(2,none)],none,b26⟩
def q27x0:PCode :=
 (.seq (.reg [
 iT 13 .lss 12 11])
 (.seq (.cond (.tmp 13)
 .skip
 (.exit 0))
 (.seq (.blk 1
 (.seq (.reg [
 iA 14 4 10 12,iN 15 4 14,⟨some 5,.lalloc 125 (.agg #[(.int .i64 0),(.int .i64 0),(.int .i64 0),(.int .i64 0)]),none⟩,iS 4 5 15])
 (.reg [
 iF 16 10 3,iL 17 16,iF 18 0 5,iL 19 18,iF 20 1 5,iL 21 20,⟨some 22,.v (.bld [(.int .i64 0),(.int .i64 0)] [(0,1),(1,1)]) [.tmp 19,.tmp 21],none⟩,iF 23 2 5,iN 24 2 23,⟨none,.mup (.agg [(.i .i64),(.i .i64)]) (.tmp 17) (.tmp 22) (.tmp 24),none⟩])))
 (.reg [
 iO 25 .add 12 1,iM 12 25]))))
def b27:PCode :=
 (.seq (.reg [
 iV 1 28 0,⟨some 2,.lalloc 79 (.agg #[(.slice none 0 0),(.slice none 0 0),(.int .i64 0),(.int .i64 0),(.int .i64 0),(.int .i64 0),(.int .i64 0),(.slice none 0 0),(.int .i64 0),(.int .i64 0),(.map none)]),none⟩])
 (.seq (.reg [
 iN 6 10 1,⟨some 7,.mkm (.agg [(.i .i64),(.i .i64)]),none⟩,⟨some 8,.v (.bld [(.slice none 0 0),(.slice none 0 0),(.int .i64 0),(.int .i64 0),(.int .i64 0),(.int .i64 0),(.int .i64 0),(.slice none 0 0),(.int .i64 0),(.int .i64 0),(.map none)] [(0,10),(10,1)]) [.tmp 6,.tmp 7],none⟩,⟨some 3,.lalloc 79 (.agg #[(.slice none 0 0),(.slice none 0 0),(.int .i64 0),(.int .i64 0),(.int .i64 0),(.int .i64 0),(.int .i64 0),(.slice none 0 0),(.int .i64 0),(.int .i64 0),(.map none)]),none⟩,iS 11 3 8])
 (.seq (.seq (.reg [
 iF 9 1 1,iL 10 9,iK 11 10,iI 12 0])
 (.blk 0
 (.loop q27x0)))
 (.seq (.reg [
 iN 26 11 3,iS 11 2 26])
 .ret))))
def p27:PFunc:=⟨27,[(2,some (some 11))],none,b27⟩
def q28x0:PCode :=
 (.seq (.reg [
 iT 15 .lss 14 13])
 (.seq (.cond (.tmp 15)
 .skip
 (.exit 0))
 (.seq (.blk 1
 (.seq (.reg [
 iA 16 3 12 14,iN 17 3 16,⟨some 7,.lalloc 67 (.agg #[(.slice none 0 0),(.slice none 0 0),(.bool false)]),none⟩,iS 3 7 17])
 (.seq (.seq (.reg [
 iM 18 1,iO 19 .eql 18 0])
 (.cond (.tmp 19)
 (.exit 0)
 .skip))
 (.seq (.reg [
 iM 20 1,iF 21 0 7,iL 22 21,iK 23 22,⟨some 24,.v .mn [.tmp 20,.tmp 23],none⟩,⟨some 8,.alloc 3 (.int .i64 0),none⟩,iS 1 8 24])
 (.seq (.reg [
 iM 25 1,iL 26 8,iT 27 .sub 25 26,iM 1 27])
 (.seq (.reg [
 iF 28 0 7,iL 29 28,iL 30 8,⟨some 31,.v (.sl 1 false true) [.tmp 29,.tmp 30],none⟩,iF 32 0 7,iS 1 32 31])
 (.seq (.reg [
 iF 33 1 7,iL 34 33,iX 35 66 34,⟨some 36,.v (.mkf (.func 67) 0) [.tmp 8],none⟩,iY 37 65 35 36,iF 38 1 7,iS 1 38 37])
 (.reg [
 iF 39 7 5,iL 40 39,iN 41 3 7,⟨some 42,.lbs 67 3 [(.slice none 0 0),(.slice none 0 0),(.bool false)] 1 [(0,.tmp 41)],none⟩,⟨some 43,.app 67 3 (.tmp 40) (.tmp 42),none⟩,iF 44 7 5,iS 1 44 43]))))))))
 (.reg [
 iO 45 .add 14 1,iM 14 45]))))
def b28:PCode :=
 (.seq (.reg [
 iV 2 28 0,⟨some 4,.lalloc 28 (.agg #[(.slice none 0 0),(.slice none 0 0),(.int .i64 0),(.int .i64 0),(.int .i64 0),(.int .i64 0),(.int .i64 0),(.slice none 0 0),(.int .i64 0),(.int .i64 0)]),none⟩])
 (.seq (.reg [
 iN 9 10 2,⟨some 5,.lalloc 28 (.agg #[(.slice none 0 0),(.slice none 0 0),(.int .i64 0),(.int .i64 0),(.int .i64 0),(.int .i64 0),(.int .i64 0),(.slice none 0 0),(.int .i64 0),(.int .i64 0)]),none⟩,iS 10 5 9])
 (.seq (.reg [
 iF 10 7 5,⟨none,.st 1 (.tmp 10) (.const (.slice none 0 0)),none⟩])
 (.seq (.seq (.reg [
 iF 11 7 2,iL 12 11,iK 13 12,iI 14 0])
 (.blk 0
 (.loop q28x0)))
 (.seq (.reg [
 iN 46 10 5,iS 10 4 46])
 .ret)))))
def p28:PFunc:=⟨47,[(4,some (some 10))],none,b28⟩
def b29:PCode :=
 (.seq (.reg [
 ⟨some 2,.box 79 (.tmp 0),none⟩,iB 4 false])
 (.seq (.reg [
 ⟨some 5,.alloc 4 (.bool false),none⟩,⟨none,.st 1 (.tmp 5) (.const (.bool false)),none⟩])
 (.seq .skip
 (.seq (.seq (.reg [
 iN 7 11 2,iM 8 1,iY 9 68 7 8])
 (.blk 0
 (.rf (.tmp 9) [10]
 (.reg [
 ⟨some 6,.lalloc 85 (.agg #[(.slice none 0 0),(.slice none 0 0)]),none⟩,iS 2 6 10])
 (.blk 1
 (.seq (.reg [
 iN 11 11 2,iN 12 2 6,⟨some 13,.call (.func 69) [.tmp 11,.tmp 12,.const (.int .i64 0)],none⟩])
 (.cond (.tmp 13)
 (.seq (.reg [
 ⟨none,.st 1 (.tmp 5) (.const (.bool true)),none⟩])
 (.exit 0))
 .skip))))))
 (.seq (.reg [
 iL 14 5,iM 4 14])
 .ret)))))
def p29:PFunc:=⟨15,[(4,none)],none,b29⟩
def q36x0:PCode :=
 (.seq (.reg [
 iT 26 .lss 25 24])
 (.seq (.cond (.tmp 26)
 .skip
 (.exit 0))
 (.seq (.blk 1
 (.seq (.reg [
 iM 27 25,iM 3 27])
 (.seq (.reg [
 iN 28 3 1,iM 29 3,iY 30 79 28 29,iR 31 30])
 (.cond (.tmp 31)
 (.seq (.reg [
 iB 2 false])
 .ret)
 .skip))))
 (.reg [
 iO 32 .add 25 1,iM 25 32]))))
def b36:PCode :=
 (.seq (.reg [
 iV 1 53 0,iB 2 false])
 (.seq (.seq (.reg [
 iF 4 0 1,iL 5 4,⟨some 6,.call (.func 47) [.tmp 5,.const (.int .i64 0),.const (.int .i64 3)],none⟩,iR 7 6,iM 8 7,jF 9 1 1 8 false,
 jL 10 9 8 false,
 jK 11 10 8 false,
 ⟨some 12,.call (.func 47) [.tmp 11,.const (.int .i64 1),.const (.int .i64 3)],some (8,false)⟩,
 jR 13 12 8 false,
 iQ 14 8 13,iM 15 14,jF 16 2 1 15 false,
 jL 17 16 15 false,
 jK 18 17 15 false,
 ⟨some 19,.call (.func 47) [.tmp 18,.const (.int .i64 1),.const (.int .i64 6)],some (15,false)⟩,
 jR 20 19 15 false,
 iQ 21 15 20])
 (.cond (.tmp 21)
 (.seq (.reg [
 iB 2 false])
 .ret)
 .skip))
 (.seq (.seq (.reg [
 iF 22 2 1,iL 23 22,iK 24 23,iI 25 0])
 (.blk 0
 (.loop q36x0)))
 (.seq (.reg [
 iF 33 1 1,iL 34 33,⟨some 35,.call (.func 60) [.tmp 34,.func 80],none⟩,iR 36 35,iM 2 36])
 .ret))))
def p36:PFunc:=⟨37,[(2,none)],none,b36⟩
def b37:PCode :=
 (.seq (.reg [
 ⟨some 1,.box 53 (.tmp 0),none⟩,iH 2])
 (.seq (.reg [
 ⟨some 3,.alloc 97 (.slice none 0 0),none⟩])
 (.seq (.seq (.reg [
 iN 5 3 1,iX 6 48 5])
 (.blk 0
 (.rf (.tmp 6) [7]
 (.reg [
 iM 4 7])
 (.blk 1
 (.dreg [
 iL 8 3,iM 9 4,iN 10 3 1,iM 11 4,iY 12 50 10 11,iX 13 51 12,⟨some 14,.v (.bld [(.slice none 0 0),(.int .i64 0)] [(0,1),(1,1)]) [.tmp 9,.tmp 13],none⟩,⟨some 15,.lbs 100 2 [(.slice none 0 0),(.int .i64 0)] 1 [(0,.tmp 14)],none⟩,⟨some 16,.app 100 2 (.tmp 8) (.tmp 15),none⟩,iS 1 3 16] [fB,fA,fB,fA,⟨1,false,some [8,9]⟩,⟨1,false,some [8,9]⟩,fA,⟨17,false,none⟩,fE,fE])))))
 (.seq (.reg [
 iL 17 3,⟨some 18,.call (.func 81) [.tmp 17,.func 82],none⟩,iM 2 18])
 .ret))))
def p37:PFunc:=⟨19,[(2,none)],none,b37⟩
def b38:PCode :=
 (.seq (.reg [
 iV 2 55 0,iI 4 0,iI 5 0])
 (.seq (.seq (.reg [
 iM 7 1,iR 8 7])
 (.cond (.tmp 8)
 (.seq (.reg [
 iI 4 0,iI 5 2])
 .ret)
 .skip))
 (.seq (.reg [
 iN 9 2 2,iX 10 83 9,iM 6 10])
 (.seq (.seq (.reg [
 iM 11 6,iO 12 .eql 11 0])
 (.cond (.tmp 12)
 (.seq (.reg [
 iI 4 0,iI 5 7])
 .ret)
 .skip))
 (.seq (.reg [
 iM 13 6,iM 4 13,iI 5 0])
 .ret)))))
def p38:PFunc:=⟨14,[(4,none),(5,none)],none,b38⟩
def b39:PCode :=
 (.seq (.reg [
 ⟨some 1,.box 55 (.tmp 0),none⟩,iB 2 false])
 (.seq (.reg [
 iF 3 0 1,iL 4 3,⟨some 5,.call (.func 84) [.tmp 4,.const (.int .i64 1),.const (.int .i64 6)],none⟩,iM 6 5,jF 7 1 1 6 true,
 jL 8 7 6 true,
 jK 9 8 6 true,
 jO 10 .leq 9 6 6 true,
 iP 11 6 10,iM 12 11,jF 13 1 1 12 true,
 jL 14 13 12 true,
 ⟨some 15,.v (.mkf (.func 86) 0) [.tmp 1],some (12,true)⟩,
 jY 16 85 14 15 12 true,
 jR 17 16 12 true,
 iP 18 12 17,iM 2 18])
 .ret))
def p39:PFunc:=⟨19,[(2,none)],none,b39⟩
def q40x0:PCode :=
 (.seq (.reg [
 iT 87 .lss 86 85])
 (.seq (.cond (.tmp 87)
 .skip
 (.exit 12))
 (.seq (.blk 13
 (.seq (.reg [
 iM 88 86,iM 13 88])
 (.seq (.reg [
 iM 89 13,iM 90 13,iF 91 2 3,⟨some 92,.v (.iaa 6 6) [.tmp 91,.tmp 89],none⟩,⟨some 93,.v (.iaa 1 6) [.tmp 92,.tmp 90],none⟩,iL 94 93])
 (.cond (.tmp 94)
 (.reg [
 iM 95 13,⟨some 96,.v (.bld [(.int .i64 0)] [(0,1)]) [.tmp 95],none⟩,⟨some 97,.v (.mki 160) [.tmp 96],none⟩,⟨none,.pnc (.tmp 97),none⟩])
 .skip))))
 (.reg [
 iO 98 .add 86 1,iM 86 98]))))
def q40x1:PCode :=
 (.seq (.reg [
 iT 60 .lss 59 58])
 (.seq (.cond (.tmp 60)
 .skip
 (.exit 10))
 (.seq (.blk 11
 (.seq (.reg [
 iM 61 59,iM 12 61])
 (.seq (.reg [
 iM 62 11,iM 63 10,iF 64 2 3,⟨some 65,.v (.iaa 6 6) [.tmp 64,.tmp 62],none⟩,⟨some 66,.v (.iaa 1 6) [.tmp 65,.tmp 63],none⟩,iL 67 66,iM 68 67,jM 69 10 68 true,
 jM 70 12 68 true,
 jF 71 2 3 68 true,
 ⟨some 72,.v (.iaa 6 6) [.tmp 71,.tmp 69],some (68,true)⟩,
 ⟨some 73,.v (.iaa 1 6) [.tmp 72,.tmp 70],some (68,true)⟩,
 jL 74 73 68 true,
 iP 75 68 74])
 (.cond (.tmp 75)
 (.reg [
 iM 76 11,iM 77 12,iF 78 2 3,⟨some 79,.v (.iaa 6 6) [.tmp 78,.tmp 76],none⟩,⟨some 80,.v (.iaa 1 6) [.tmp 79,.tmp 77],none⟩,⟨none,.st 1 (.tmp 80) (.const (.bool true)),none⟩])
 .skip))))
 (.reg [
 iO 81 .add 59 1,iM 59 81]))))
def q40x2:PCode :=
 (.seq (.reg [
 iT 55 .lss 54 53])
 (.seq (.cond (.tmp 55)
 .skip
 (.exit 8))
 (.seq (.blk 9
 (.seq (.reg [
 iM 56 54,iM 11 56])
 (.seq (.reg [
 iF 57 0 1,iL 58 57,iI 59 0])
 (.blk 10
 (.loop q40x1)))))
 (.reg [
 iO 82 .add 54 1,iM 54 82]))))
def q40x3:PCode :=
 (.seq (.reg [
 iT 50 .lss 49 48])
 (.seq (.cond (.tmp 50)
 .skip
 (.exit 6))
 (.seq (.blk 7
 (.seq (.reg [
 iM 51 49,iM 10 51])
 (.seq (.reg [
 iF 52 0 1,iL 53 52,iI 54 0])
 (.blk 8
 (.loop q40x2)))))
 (.reg [
 iO 83 .add 49 1,iM 49 83]))))
def q40x4:PCode :=
 (.seq (.reg [
 iT 36 .lss 35 34])
 (.seq (.cond (.tmp 36)
 .skip
 (.exit 4))
 (.seq (.blk 5
 (.seq (.reg [
 iA 37 1 33 35,iL 38 37,iM 9 38])
 (.reg [
 iM 39 7,iM 40 9,iF 41 2 3,⟨some 42,.v (.iaa 6 6) [.tmp 41,.tmp 39],none⟩,⟨some 43,.v (.iaa 1 6) [.tmp 42,.tmp 40],none⟩,⟨none,.st 1 (.tmp 43) (.const (.bool true)),none⟩])))
 (.reg [
 iO 44 .add 35 1,iM 35 44]))))
def q40x5:PCode :=
 (.seq (.reg [
 iT 26 .lss 25 24])
 (.seq (.cond (.tmp 26)
 .skip
 (.exit 2))
 (.seq (.blk 3
 (.seq (.reg [
 iM 27 25,iA 28 1 23 25,iL 29 28,iM 6 27,iM 7 29])
 (.seq (.reg [
 iM 30 5,iM 31 6,iO 32 .add 31 1,⟨some 33,.v (.sl 1 true false) [.tmp 30,.tmp 32],none⟩,iK 34 33,iI 35 0])
 (.blk 4
 (.loop q40x4)))))
 (.reg [
 iO 45 .add 25 1,iM 25 45]))))
def q40x6:PCode :=
 (.seq (.reg [
 iT 20 .lss 19 18])
 (.seq (.cond (.tmp 20)
 .skip
 (.exit 0))
 (.seq (.blk 1
 (.seq (.reg [
 iA 21 1 17 19,iL 22 21,iM 5 22])
 (.seq (.reg [
 iM 23 5,iK 24 23,iI 25 0])
 (.blk 2
 (.loop q40x5)))))
 (.reg [
 iO 46 .add 19 1,iM 19 46]))))
def b40:PCode :=
 (.seq (.reg [
 iV 1 55 0,⟨some 2,.lalloc 107 (.agg #[(.int .i64 0),(.slice none 0 0),(.bool false),(.bool false),(.bool false),(.bool false),(.bool false),(.bool false),(.bool false),(.bool false),(.bool false),(.bool false),(.bool false),(.bool false),(.bool false),(.bool false),(.bool false),(.bool false),(.bool false),(.bool false),(.bool false),(.bool false),(.bool false),(.bool false),(.bool false),(.bool false),(.bool false),(.bool false),(.bool false),(.bool false),(.bool false),(.bool false),(.bool false),(.bool false),(.bool false),(.bool false),(.bool false),(.bool false)]),none⟩])
 (.seq (.reg [
 iN 14 2 1,⟨some 15,.v (.bld [(.int .i64 0),(.slice none 0 0),(.bool false),(.bool false),(.bool false),(.bool false),(.bool false),(.bool false),(.bool false),(.bool false),(.bool false),(.bool false),(.bool false),(.bool false),(.bool false),(.bool false),(.bool false),(.bool false),(.bool false),(.bool false),(.bool false),(.bool false),(.bool false),(.bool false),(.bool false),(.bool false),(.bool false),(.bool false),(.bool false),(.bool false),(.bool false),(.bool false),(.bool false),(.bool false),(.bool false),(.bool false),(.bool false),(.bool false)] [(0,2)]) [.tmp 14],none⟩,⟨some 3,.lalloc 107 (.agg #[(.int .i64 0),(.slice none 0 0),(.bool false),(.bool false),(.bool false),(.bool false),(.bool false),(.bool false),(.bool false),(.bool false),(.bool false),(.bool false),(.bool false),(.bool false),(.bool false),(.bool false),(.bool false),(.bool false),(.bool false),(.bool false),(.bool false),(.bool false),(.bool false),(.bool false),(.bool false),(.bool false),(.bool false),(.bool false),(.bool false),(.bool false),(.bool false),(.bool false),(.bool false),(.bool false),(.bool false),(.bool false),(.bool false),(.bool false)]),none⟩,iS 38 3 15])
 (.seq (.seq (.reg [
 iF 16 1 1,iL 17 16,iK 18 17,iI 19 0])
 (.blk 0
 (.loop q40x6)))
 (.seq (.seq (.reg [
 iF 47 0 1,iL 48 47,iI 49 0])
 (.blk 6
 (.loop q40x3)))
 (.seq (.seq (.reg [
 iF 84 0 1,iL 85 84,iI 86 0])
 (.blk 12
 (.loop q40x0)))
 (.seq (.reg [
 iN 99 38 3,iS 38 2 99])
 .ret))))))
def p40:PFunc:=⟨100,[(2,some (some 38))],none,b40⟩
def q41x0:PCode :=
 (.seq (.reg [
 iT 11 .lss 10 9])
 (.seq (.cond (.tmp 11)
 .skip
 (.exit 0))
 (.seq (.blk 1
 (.seq (.reg [
 iM 12 10,iM 6 12])
 (.seq (.reg [
 iM 13 1,iM 14 6,iF 15 2 2,⟨some 16,.v (.iaa 6 6) [.tmp 15,.tmp 13],none⟩,⟨some 17,.v (.iaa 1 6) [.tmp 16,.tmp 14],none⟩,iL 18 17])
 (.cond (.tmp 18)
 (.reg [
 iM 19 5,iN 20 38 2,iM 21 6,iY 22 41 20 21,⟨some 23,.v .mx [.tmp 19,.tmp 22],none⟩,iM 5 23])
 .skip))))
 (.reg [
 iO 24 .add 10 1,iM 10 24]))))
def b41:PCode :=
 (.seq (.reg [
 iV 2 107 0,iI 4 0])
 (.seq (.reg [
 iI 5 0])
 (.seq (.seq (.reg [
 iF 7 0 2,iF 8 0 7,iL 9 8,iI 10 0])
 (.blk 0
 (.loop q41x0)))
 (.seq (.reg [
 iM 25 5,iO 26 .add 25 1,iM 4 26])
 .ret))))
def p41:PFunc:=⟨27,[(4,none)],none,b41⟩
def q42x0:PCode :=
 (.seq (.reg [
 iT 15 .lss 14 13])
 (.seq (.cond (.tmp 15)
 .skip
 (.exit 0))
 (.seq (.blk 1
 (.seq (.reg [
 iA 16 1 12 14,iL 17 16,iM 7 17])
 (.seq (.reg [
 iM 18 1,iM 19 7,iM 20 5,⟨some 21,.call (.tmp 18) [.tmp 19,.tmp 20],none⟩])
 (.cond (.tmp 21)
 (.reg [
 iM 22 7,iM 5 22])
 .skip))))
 (.reg [
 iO 23 .add 14 1,iM 14 23]))))
def b42:PCode :=
 (.seq (.reg [
 iI 4 0])
 (.seq (.reg [
 iM 8 0,⟨some 9,.v (.ia 1) [.tmp 8,.const (.int .i64 0)],none⟩,iL 10 9,iM 5 10])
 (.seq (.seq (.reg [
 iM 11 0,⟨some 12,.v (.sl 1 true false) [.tmp 11,.const (.int .i64 1)],none⟩,iK 13 12,iI 14 0])
 (.blk 0
 (.loop q42x0)))
 (.seq (.reg [
 iM 24 5,iM 4 24])
 .ret))))
def p42:PFunc:=⟨25,[(4,none)],none,b42⟩
def b43:PCode :=
 (.seq (.reg [
 iB 4 false])
 (.seq (.reg [
 iM 5 0,iM 6 1,iT 7 .gtr 5 6,iM 4 7])
 .ret))
def p43:PFunc:=⟨8,[(4,none)],none,b43⟩
def b44:PCode :=
 (.seq (.reg [
 ⟨some 2,.alloc 34 (.int .i64 0),none⟩])
 (.seq (.reg [
 ⟨some 3,.v (.mkf (.func 88) 0) [.tmp 2],none⟩,⟨none,.dfr (.tmp 3) [],none⟩])
 (.seq (.reg [
 iM 4 0,⟨some 5,.call (.tmp 4) [],none⟩])
 (.seq (.reg [
 ⟨none,.st 1 (.tmp 2) (.const (.int .i64 0)),none⟩])
 .ret))))
def p44:PFunc:=⟨6,[(2,some none)],none,b44⟩
def b45:PCode :=
 (.seq .skip
 (.seq (.reg [
 iN 3 2 0,iX 4 40 3,iX 5 46 4])
 (.blk 0
 (.rf (.tmp 5) [6]
 (.reg [
 iM 2 6])
 (.blk 1
 (.seq (.reg [
 iM 7 2,iS 1 1 7])
 (.exit 0)))))))
def p45:PFunc:=⟨8,[],none,b45⟩
def b46:PCode :=
 (.seq (.reg [
 ⟨some 1,.box 107 (.tmp 0),none⟩,⟨some 2,.v .mv [.const .nilFunc],none⟩])
 (.seq (.reg [
 ⟨some 3,.v (.mkf (.func 89) 0) [.tmp 1],none⟩,iM 2 3])
 .ret))
def p46:PFunc:=⟨4,[(2,none)],none,b46⟩
def b47:PCode :=
 (.seq (.reg [
 iB 6 false])
 (.seq (.reg [
 iM 7 0,iM 8 1,iT 9 .geq 7 8,iM 10 9,jM 11 0 10 true,
 jM 12 2 10 true,
 jT 13 .leq 11 12 10 true,
 iP 14 10 13,iM 6 14])
 .ret))
def p47:PFunc:=⟨15,[(6,none)],none,b47⟩
def b48:PCode :=
 (.seq (.reg [
 ⟨some 1,.box 53 (.tmp 0),none⟩,⟨some 2,.v .mv [.const .nilFunc],none⟩])
 (.seq (.reg [
 ⟨some 3,.v (.mkf (.func 92) 0) [.tmp 1],none⟩,iM 2 3])
 .ret))
def p48:PFunc:=⟨4,[(2,none)],none,b48⟩
def b49:PCode :=
 (.seq (.reg [
 iV 2 53 0,⟨some 4,.lalloc 53 (.agg #[(.int .i64 0),(.slice none 0 0),(.slice none 0 0)]),none⟩])
 (.seq (.reg [
 iM 5 1,iF 6 0 2,iS 1 6 5])
 (.seq (.reg [
 iN 7 3 2,iS 3 4 7])
 .ret)))
def p49:PFunc:=⟨8,[(4,some (some 3))],none,b49⟩
def b50:PCode :=
 (.seq (.reg [
 iV 2 53 0,⟨some 4,.lalloc 120 (.agg #[(.int .i64 0),(.slice none 0 0),(.slice none 0 0),(.slice none 0 0),(.map none),(.int .i64 0),(.int .i64 0)]),none⟩])
 (.seq (.reg [
 iN 5 3 2,iM 6 1,⟨some 7,.mkm (.agg [(.i .i64),(.i .i64)]),none⟩,⟨some 8,.v (.bld [(.int .i64 0),(.slice none 0 0),(.slice none 0 0),(.slice none 0 0),(.map none),(.int .i64 0),(.int .i64 0)] [(0,3),(3,1),(4,1),(5,1),(6,1)]) [.tmp 5,.tmp 6,.tmp 7,.const (.int .i64 (-1)),.const (.int .i64 0)],none⟩,iS 7 4 8])
 .ret))
def p50:PFunc:=⟨9,[(4,some (some 7))],none,b50⟩
def q51x0:PCode :=
 (.seq (.reg [
 iT 10 .lss 9 8])
 (.seq (.cond (.tmp 10)
 .skip
 (.exit 0))
 (.seq (.blk 1
 (.seq (.reg [
 iM 11 9,iM 4 11])
 (.reg [
 iM 12 3,iN 13 7 1,iM 14 4,⟨some 15,.call (.func 94) [.tmp 13,.tmp 14,.const (.int .i64 1)],none⟩,⟨some 16,.lbs 3 1 [(.int .i64 0)] 1 [(0,.tmp 15)],none⟩,⟨some 17,.app 3 1 (.tmp 12) (.tmp 16),none⟩,iM 3 17])))
 (.reg [
 iO 18 .add 9 1,iM 9 18]))))
def b51:PCode :=
 (.seq (.reg [
 iV 1 120 0,iI 2 0])
 (.seq (.reg [
 iH 3])
 (.seq (.seq (.reg [
 iF 5 0 1,iF 6 2 5,iL 7 6,iK 8 7,iI 9 0])
 (.blk 0
 (.loop q51x0)))
 (.seq (.reg [
 iM 19 3,iX 20 95 19,iM 2 20])
 .ret))))
def p51:PFunc:=⟨21,[(2,none)],none,b51⟩
def b53:PCode :=
 (.seq (.reg [
 ⟨some 0,.lalloc 28 (.agg #[(.slice none 0 0),(.slice none 0 0),(.int .i64 0),(.int .i64 0),(.int .i64 0),(.int .i64 0),(.int .i64 0),(.slice none 0 0),(.int .i64 0),(.int .i64 0)]),none⟩])
 (.seq (.reg [
 ⟨some 1,.bs 3 1 [(.int .i64 0)] 3 [(0,.const (.int .i64 6)),(1,.const (.int .i64 4)),(2,.const (.int .i64 8))],none⟩,⟨some 2,.call (.func 96) [.const (.int .i64 1),.const (.int .i64 3)],none⟩,⟨some 3,.v (.bld [(.int .i64 0),(.int .i64 0),(.int .i64 0),(.int .i64 0)] [(0,1),(1,1),(2,2)]) [.const (.int .i64 0),.const (.int .i64 1),.tmp 2],none⟩,⟨some 4,.call (.func 96) [.const (.int .i64 0),.const (.int .i64 2)],none⟩,⟨some 5,.v (.bld [(.int .i64 0),(.int .i64 0),(.int .i64 0),(.int .i64 0)] [(0,1),(1,1),(2,2)]) [.const (.int .i64 2),.const (.int .i64 0),.tmp 4],none⟩,⟨some 6,.bs 125 4 [(.int .i64 0),(.int .i64 0),(.int .i64 0),(.int .i64 0)] 2 [(0,.tmp 3),(1,.tmp 5)],none⟩,⟨some 7,.call (.func 96) [.const (.int .i64 2),.const (.int .i64 4)],none⟩,⟨some 8,.call (.func 96) [.const (.int .i64 5),.const (.int .i64 8)],none⟩,⟨some 9,.bs 3 1 [(.int .i64 0)] 3 [(0,.const (.int .i64 2)),(1,.const (.int .i64 0)),(2,.const (.int .i64 1))],none⟩,⟨some 10,.v (.bld [(.slice none 0 0),(.slice none 0 0),(.bool false)] [(0,1)]) [.tmp 9],none⟩,⟨some 11,.bs 3 1 [(.int .i64 0)] 2 [(0,.const (.int .i64 0)),(1,.const (.int .i64 2))],none⟩,⟨some 12,.bs 3 1 [(.int .i64 0)] 1 [(0,.const (.int .i64 1))],none⟩,⟨some 13,.v (.bld [(.slice none 0 0),(.slice none 0 0),(.bool false)] [(0,1),(1,1),(2,1)]) [.tmp 11,.tmp 12,.const (.bool true)],none⟩,⟨some 14,.bs 67 3 [(.slice none 0 0),(.slice none 0 0),(.bool false)] 2 [(0,.tmp 10),(1,.tmp 13)],none⟩,⟨some 15,.v (.bld [(.slice none 0 0),(.slice none 0 0),(.int .i64 0),(.int .i64 0),(.int .i64 0),(.int .i64 0),(.int .i64 0),(.slice none 0 0),(.int .i64 0),(.int .i64 0)] [(0,1),(1,1),(2,2),(4,2),(6,1),(7,1),(8,1),(9,1)]) [.tmp 1,.tmp 6,.tmp 7,.tmp 8,.const (.int .i64 3),.tmp 14,.const (.int .i64 21),.const (.int .i64 2)],none⟩,iS 10 0 15])
 .ret))
def p53:PFunc:=⟨16,[(0,some (some 10))],none,b53⟩
def b54:PCode :=
 (.seq (.reg [
 iV 2 75 0,iH 4,iI 5 0])
 (.seq (.seq (.reg [
 iN 7 3 2,iX 8 97 7,iR 9 8])
 (.cond (.tmp 9)
 (.seq (.reg [
 iH 4,iI 5 2])
 .ret)
 .skip))
 (.seq (.reg [
 iN 10 3 2,iX 11 99 10,iX 12 100 11,iX 13 98 12,iM 6 13])
 (.seq (.seq (.reg [
 iM 14 6,iK 15 14,iO 16 .eql 15 0])
 (.cond (.tmp 16)
 (.seq (.reg [
 iM 17 1,iH 4,iM 5 17])
 .ret)
 .skip))
 (.seq (.reg [
 iM 18 6,iM 4 18,iI 5 0])
 .ret)))))
def p54:PFunc:=⟨19,[(4,none),(5,none)],none,b54⟩
def b55:PCode :=
 (.seq (.reg [
 ⟨some 4,.lalloc 25 (.agg #[(.int .i64 0),(.int .i64 0)]),none⟩])
 (.seq (.reg [
 iM 5 0,iM 6 1,⟨some 7,.v (.bld [(.int .i64 0),(.int .i64 0)] [(0,1),(1,1)]) [.tmp 5,.tmp 6],none⟩,iS 2 4 7])
 .ret))
def p55:PFunc:=⟨8,[(4,some (some 2))],none,b55⟩
def b56:PCode :=
 (.seq (.reg [
 iB 6 false])
 (.seq (.reg [
 iM 7 0,iM 8 1,iT 9 .geq 7 8,iM 10 9,jM 11 0 10 true,
 jM 12 2 10 true,
 jT 13 .leq 11 12 10 true,
 iP 14 10 13,iM 6 14])
 .ret))
def p56:PFunc:=⟨15,[(6,none)],none,b56⟩
def b57:PCode :=
 (.seq (.reg [
 iV 2 28 0,iV 3 125 1,iB 4 false])
 (.seq (.reg [
 iF 5 0 3,iL 6 5,iF 7 0 2,iL 8 7,iK 9 8,iO 10 .sub 9 1,⟨some 11,.call (.func 56) [.tmp 6,.const (.int .i64 0),.tmp 10],none⟩,iM 12 11,jF 13 1 3 12 true,
 jL 14 13 12 true,
 jF 15 0 2 12 true,
 jL 16 15 12 true,
 jK 17 16 12 true,
 jO 18 .sub 17 1 12 true,
 ⟨some 19,.call (.func 56) [.tmp 14,.const (.int .i64 0),.tmp 18],some (12,true)⟩,
 iP 20 12 19,iM 21 20,jF 22 2 3 21 true,
 jN 23 2 22 21 true,
 ⟨some 24,.call (.func 61) [.tmp 23,.const (.int .i64 0),.const (.int .i64 9)],some (21,true)⟩,
 iP 25 21 24,iM 4 25])
 .ret))
def p57:PFunc:=⟨26,[(4,none)],none,b57⟩
def b58:PCode :=
 (.seq (.reg [
 iV 2 125 0,iV 3 125 1,iB 4 false])
 (.seq (.reg [
 iF 5 0 2,iL 6 5,iF 7 0 3,iL 8 7,iT 9 .lss 6 8,iM 10 9,jF 11 0 2 10 false,
 jL 12 11 10 false,
 jF 13 0 3 10 false,
 jL 14 13 10 false,
 jT 15 .eql 12 14 10 false,
 jM 16 15 10 false,
 jF 17 1 2 16 true,
 jL 18 17 16 true,
 jF 19 1 3 16 true,
 jL 20 19 16 true,
 jT 21 .lss 18 20 16 true,
 jP 22 16 21 10 false,
 iQ 23 10 22,iM 4 23])
 .ret))
def p58:PFunc:=⟨24,[(4,none)],none,b58⟩
def b59:PCode :=
 (.seq (.reg [
 iB 2 false])
 (.seq (.reg [
 iM 3 0,⟨some 4,.call (.func 56) [.tmp 3,.const (.int .i64 1),.const (.int .i64 20)],none⟩,iR 5 4,iM 2 5])
 .ret))
def p59:PFunc:=⟨6,[(2,none)],none,b59⟩
def b60:PCode :=
 (.seq (.reg [
 iB 4 false])
 (.seq (.reg [
 iM 5 0,iM 6 1,iY 7 101 5 6,iO 8 .geq 7 0,iM 4 8])
 .ret))
def p60:PFunc:=⟨9,[(4,none)],none,b60⟩
def b61:PCode :=
 (.seq (.reg [
 iV 3 25 0,iB 6 false])
 (.seq (.reg [
 iF 7 0 3,iL 8 7,iM 9 1,iM 10 2,iZ 11 56 8 9 10,iM 12 11,jF 13 1 3 12 true,
 jL 14 13 12 true,
 jF 15 0 3 12 true,
 jL 16 15 12 true,
 jM 17 2 12 true,
 jZ 18 56 14 16 17 12 true,
 iP 19 12 18,iM 6 19])
 .ret))
def p61:PFunc:=⟨20,[(6,none)],none,b61⟩
def b62:PCode :=
 (.seq (.reg [
 iB 4 false])
 (.seq (.reg [
 iM 5 0,iM 6 1,iY 7 102 5 6,iO 8 .geq 7 0,iM 4 8])
 .ret))
def p62:PFunc:=⟨9,[(4,none)],none,b62⟩
def b63:PCode :=
 (.seq (.reg [
 iV 2 67 0,iB 3 false])
 (.seq (.reg [
 iN 4 10 1,iN 5 3 2,iY 6 64 4 5,iR 7 6,iM 3 7])
 .ret))
def p63:PFunc:=⟨8,[(3,none)],none,b63⟩
def b64:PCode :=
 (.seq (.reg [
 ⟨some 2,.box 28 (.tmp 0),none⟩,iV 3 67 1,iB 4 false])
 (.seq (.reg [
 iF 7 0 3,iL 8 7,iK 9 8,iM 5 9])
 (.seq (.reg [
 ⟨some 10,.v (.mkf (.func 103) 0) [.tmp 2],none⟩,iM 6 10])
 (.seq (.reg [
 iM 11 5,⟨some 12,.call (.func 56) [.tmp 11,.const (.int .i64 1),.const (.int .i64 6)],none⟩,iM 13 12,jF 14 0 3 13 true,
 jL 15 14 13 true,
 jM 16 6 13 true,
 jY 17 60 15 16 13 true,
 jR 18 17 13 true,
 iP 19 13 18,iM 20 19,jF 21 1 3 20 true,
 jL 22 21 20 true,
 jM 23 5 20 true,
 jO 24 .sub 23 1 20 true,
 ⟨some 25,.call (.func 104) [.tmp 22,.const (.int .i64 1),.tmp 24],some (20,true)⟩,
 iP 26 20 25,iM 4 26])
 .ret))))
def p64:PFunc:=⟨27,[(4,none)],none,b64⟩
def q65x0:PCode :=
 (.seq (.seq (.reg [
 iM 16 6,iM 17 0,iK 18 17,iT 19 .lss 16 18])
 (.cond (.tmp 19)
 .skip
 (.exit 0)))
 (.seq (.blk 1
 (.seq (.reg [
 iM 22 0,iM 23 6,iA 24 1 22 23,iL 25 24,iM 7 25])
 (.seq (.reg [
 iM 26 1,iM 27 7,⟨some 28,.call (.tmp 26) [.tmp 27],none⟩,iR 29 28])
 (.cond (.tmp 29)
 (.seq (.reg [
 iM 30 0,iM 31 5,iM 32 7,iA 33 1 30 31,iS 1 33 32])
 (.reg [
 iM 34 5,iO 35 .add 34 1,iM 5 35]))
 .skip))))
 (.reg [
 iM 20 6,iO 21 .add 20 1,iM 6 21])))
def b65:PCode :=
 (.seq (.reg [
 iH 4])
 (.seq (.reg [
 iM 8 0,iM 9 1,iY 10 101 8 9,iM 5 10])
 (.seq (.seq (.reg [
 iM 11 5,iO 12 .eql 11 (-1)])
 (.cond (.tmp 12)
 (.seq (.reg [
 iM 13 0,iM 4 13])
 .ret)
 .skip))
 (.seq (.seq (.reg [
 iM 14 5,iO 15 .add 14 1,iM 6 15])
 (.blk 0
 (.loop q65x0)))
 (.seq (.reg [
 iM 36 0,iM 37 5,⟨some 38,.v (.sl 1 true false) [.tmp 36,.tmp 37],none⟩,⟨none,.clr [(.int .i64 0)] (.tmp 38),none⟩])
 (.seq (.reg [
 iM 39 0,iM 40 5,⟨some 41,.v (.sl 1 false true) [.tmp 39,.tmp 40],none⟩,iM 4 41])
 .ret))))))
def p65:PFunc:=⟨42,[(4,none)],none,b65⟩
def b66:PCode :=
 (.seq (.reg [
 iH 2])
 (.seq (.seq (.reg [
 iM 3 0,⟨some 4,.v (.nl .slice false) [.tmp 3],none⟩])
 (.cond (.tmp 4)
 (.seq (.reg [
 iH 2])
 .ret)
 .skip))
 (.seq (.reg [
 ⟨some 5,.bs 3 1 [(.int .i64 0)] 0 [],none⟩,iM 6 0,⟨some 7,.app 3 1 (.tmp 5) (.tmp 6),none⟩,iM 2 7])
 .ret)))
def p66:PFunc:=⟨8,[(2,none)],none,b66⟩
def b67:PCode :=
 (.seq (.reg [
 iB 3 false])
 (.seq (.reg [
 iM 4 0,iL 5 1,iT 6 .geq 4 5,iM 3 6])
 .ret))
def p67:PFunc:=⟨7,[(3,none)],none,b67⟩
def b68:PCode :=
 (.seq (.reg [
 ⟨some 2,.box 79 (.tmp 0),none⟩,⟨some 3,.box 22 (.tmp 1),none⟩,⟨some 4,.v .mv [.const .nilFunc],none⟩])
 (.seq (.reg [
 ⟨some 5,.v (.mkf (.func 105) 0) [.tmp 2,.tmp 3],none⟩,iM 4 5])
 .ret))
def p68:PFunc:=⟨6,[(4,none)],none,b68⟩
def b69:PCode :=
 (.seq (.reg [
 ⟨some 3,.box 79 (.tmp 0),none⟩,⟨some 4,.box 85 (.tmp 1),none⟩,⟨some 5,.box 3 (.tmp 2),none⟩,iB 6 false])
 (.seq (.reg [
 iF 7 1 4,iL 8 7,iK 9 8,iF 10 0 3,iF 11 9 10,iL 12 11,iT 13 .leq 9 12,iM 14 13,⟨some 15,.v (.mkf (.func 110) 0) [.tmp 3,.tmp 4,.tmp 5],some (14,true)⟩,
 jX 16 109 15 14 true,
 jO 17 .eql 16 0 14 true,
 iP 18 14 17,iM 6 18])
 .ret))
def p69:PFunc:=⟨19,[(6,none)],none,b69⟩
def q79x0:PCode :=
 (.seq (.reg [
 iT 17 .lss 16 15])
 (.seq (.cond (.tmp 17)
 .skip
 (.exit 0))
 (.seq (.blk 1
 (.seq (.reg [
 iM 18 16,iA 19 1 14 16,iL 20 19,iM 6 18,iM 7 20])
 (.seq (.reg [
 iM 21 7,iM 22 1,iO 23 .sub 22 1,⟨some 24,.call (.func 47) [.tmp 21,.const (.int .i64 0),.tmp 23],none⟩,iR 25 24,iM 26 25,jM 27 6 26 false,
 jO 28 .gtr 27 0 26 false,
 jM 29 28 26 false,
 jM 30 7 29 true,
 jF 31 4 5 29 true,
 jL 32 31 29 true,
 jM 33 6 29 true,
 jO 34 .sub 33 1 29 true,
 jA 35 1 32 34 29 true,
 jL 36 35 29 true,
 jT 37 .leq 30 36 29 true,
 jP 38 29 37 26 false,
 iQ 39 26 38])
 (.cond (.tmp 39)
 (.seq (.reg [
 iB 4 false])
 .ret)
 .skip))))
 (.reg [
 iO 40 .add 16 1,iM 16 40]))))
def b79:PCode :=
 (.seq (.reg [
 iV 2 53 0,iB 4 false])
 (.seq (.reg [
 iF 8 2 2,iL 9 8,iM 10 1,iA 11 5 9 10,iN 12 5 11,⟨some 5,.lalloc 57 (.agg #[(.int .i64 0),(.bool false),(.int .i64 0),(.int .i64 0),(.slice none 0 0)]),none⟩,iS 5 5 12])
 (.seq (.seq (.reg [
 iF 13 4 5,iL 14 13,iK 15 14,iI 16 0])
 (.blk 0
 (.loop q79x0)))
 (.seq (.reg [
 iF 41 0 5,iL 42 41,iF 43 1 2,iL 44 43,iK 45 44,iO 46 .sub 45 1,⟨some 47,.call (.func 47) [.tmp 42,.const (.int .i64 0),.tmp 46],none⟩,iM 48 47,jF 49 2 5 48 true,
 jF 50 0 49 48 true,
 jL 51 50 48 true,
 ⟨some 52,.call (.func 47) [.tmp 51,.const (.int .i64 1),.const (.int .i64 6)],some (48,true)⟩,
 iP 53 48 52,iM 54 53,jF 55 2 5 54 true,
 jF 56 1 55 54 true,
 jL 57 56 54 true,
 jF 58 2 5 54 true,
 jF 59 0 58 54 true,
 jL 60 59 54 true,
 ⟨some 61,.call (.func 47) [.tmp 57,.tmp 60,.const (.int .i64 6)],some (54,true)⟩,
 iP 62 54 61,iM 4 62])
 .ret))))
def p79:PFunc:=⟨63,[(4,none)],none,b79⟩
def b80:PCode :=
 (.seq (.reg [
 iB 2 false])
 (.seq (.reg [
 iM 3 0,⟨some 4,.call (.func 47) [.tmp 3,.const (.int .i64 0),.const (.int .i64 60)],none⟩,iR 5 4,iM 2 5])
 .ret))
def p80:PFunc:=⟨6,[(2,none)],none,b80⟩
def q81x0:PCode :=
 (.seq (.reg [
 iT 11 .lss 10 9])
 (.seq (.cond (.tmp 11)
 .skip
 (.exit 0))
 (.seq (.blk 1
 (.seq (.reg [
 iA 12 2 8 10,iN 13 2 12,⟨some 7,.lalloc 100 (.agg #[(.slice none 0 0),(.int .i64 0)]),none⟩,iS 2 7 13])
 (.seq (.seq (.dreg [
 iM 14 5,iK 15 14,iO 16 .gtr 15 0,iM 17 16,jM 18 1 17 true,
 jN 19 2 7 17 true,
 jM 20 5 17 true,
 ⟨some 21,.v (.ia 2) [.tmp 20,.const (.int .i64 0)],some (17,true)⟩,
 jN 22 2 21 17 true,
 ⟨some 23,.call (.tmp 18) [.tmp 19,.tmp 22],some (17,true)⟩,
 iP 24 17 23] [fC,fC,fC,fC,fA,⟨9,false,none⟩,fC,fC,fE,fD,fC])
 (.cond (.tmp 24)
 (.reg [
 iH 5])
 .skip))
 (.seq (.dreg [
 iM 25 5,iK 26 25,iO 27 .eql 26 0,iM 28 27,jM 29 1 28 false,
 jM 30 5 28 false,
 ⟨some 31,.v (.ia 2) [.tmp 30,.const (.int .i64 0)],some (28,false)⟩,
 jN 32 2 31 28 false,
 jN 33 2 7 28 false,
 ⟨some 34,.call (.tmp 29) [.tmp 32,.tmp 33],some (28,false)⟩,
 jR 35 34 28 false,
 iQ 36 28 35] [fC,fC,fC,fC,fA,fC,fC,fE,⟨9,false,none⟩,fD,fC,fC])
 (.cond (.tmp 36)
 (.reg [
 iM 37 5,iN 38 2 7,⟨some 39,.lbs 100 2 [(.slice none 0 0),(.int .i64 0)] 1 [(0,.tmp 38)],none⟩,⟨some 40,.app 100 2 (.tmp 37) (.tmp 39),none⟩,iM 5 40])
 .skip)))))
 (.reg [
 iO 41 .add 10 1,iM 10 41]))))
def b81:PCode :=
 (.seq (.reg [
 iH 4])
 (.seq (.reg [
 iH 5])
 (.seq (.seq (.reg [
 iM 8 0,iK 9 8,iI 10 0])
 (.blk 0
 (.loop q81x0)))
 (.seq (.reg [
 iM 42 5,iM 4 42])
 .ret))))
def p81:PFunc:=⟨43,[(4,none)],none,b81⟩
def b82:PCode :=
 (.seq (.reg [
 iV 2 100 0,iV 3 100 1,iB 4 false])
 (.seq (.reg [
 iF 5 1 2,iL 6 5,iF 7 1 3,iL 8 7,iT 9 .lss 6 8,iM 4 9])
 .ret))
def p82:PFunc:=⟨10,[(4,none)],none,b82⟩
def b83:PCode :=
 (.seq (.reg [
 ⟨some 1,.box 55 (.tmp 0),none⟩,iI 2 0])
 (.seq (.reg [
 ⟨some 3,.alloc 3 (.int .i64 0),none⟩,⟨none,.st 1 (.tmp 3) (.const (.int .i64 0)),none⟩])
 (.seq (.seq (.reg [
 ⟨some 4,.v (.mkf (.func 123) 0) [.tmp 1,.tmp 3],none⟩,iX 5 44 4,iO 6 .neq 5 0])
 (.cond (.tmp 6)
 (.seq (.reg [
 iI 2 0])
 .ret)
 .skip))
 (.seq (.reg [
 iL 7 3,iM 2 7])
 .ret))))
def p83:PFunc:=⟨8,[(2,none)],none,b83⟩
def b84:PCode :=
 (.seq (.reg [
 iB 6 false])
 (.seq (.reg [
 iM 7 0,iM 8 1,iT 9 .geq 7 8,iM 10 9,jM 11 0 10 true,
 jM 12 2 10 true,
 jT 13 .leq 11 12 10 true,
 iP 14 10 13,iM 6 14])
 .ret))
def p84:PFunc:=⟨15,[(6,none)],none,b84⟩
def b85:PCode :=
 (.seq (.reg [
 iB 4 false])
 (.seq (.reg [
 iM 5 0,iM 6 1,iY 7 125 5 6,iO 8 .geq 7 0,iM 4 8])
 .ret))
def p85:PFunc:=⟨9,[(4,none)],none,b85⟩
def b86:PCode :=
 (.seq (.reg [
 iB 3 false])
 (.seq (.reg [
 iN 4 2 1,iM 5 0,iY 6 87 4 5,iR 7 6,iM 3 7])
 .ret))
def p86:PFunc:=⟨8,[(3,none)],none,b86⟩
def b87:PCode :=
 (.seq (.reg [
 iV 2 55 0,iB 4 false])
 (.seq (.reg [
 iM 5 1,iK 6 5,⟨some 7,.call (.func 84) [.tmp 6,.const (.int .i64 1),.const (.int .i64 5)],none⟩,iM 8 7,jN 9 2 2 8 true,
 jM 10 1 8 true,
 jY 11 126 9 10 8 true,
 iP 12 8 11,iM 4 12])
 .ret))
def p87:PFunc:=⟨13,[(4,none)],none,b87⟩
def b88:PCode :=
 (.blk 0
 (.seq (.reg [
 ⟨some 7,.v (.nl .iface false) [.tmp 5],none⟩])
 (.cond (.tmp 7)
 (.reg [
 iM 1 5])
 (.seq (.reg [
 ⟨some 8,.v (.tas 160 (.agg #[(.int .i64 0)])) [.tmp 5],none⟩,iE 9 1 8,iE 10 0 8])
 (.cond (.tmp 9)
 (.seq (.reg [
 ⟨some 2,.lalloc 160 (.agg #[(.int .i64 0)]),none⟩,iS 1 2 10])
 (.reg [
 ⟨none,.st 1 (.tmp 0) (.const (.int .i64 7)),none⟩]))
 (.seq (.reg [
 ⟨some 11,.v (.tas 162 (.agg #[(.string ⟨#[]⟩)])) [.tmp 5],none⟩,iE 12 1 11,iE 13 0 11])
 (.cond (.tmp 12)
 (.seq (.reg [
 ⟨some 3,.lalloc 162 (.agg #[(.string ⟨#[]⟩)]),none⟩,iS 1 3 13])
 (.reg [
 ⟨none,.st 1 (.tmp 0) (.const (.int .i64 4)),none⟩]))
 (.seq (.reg [
 iM 4 5])
 (.reg [
 iM 6 4,⟨none,.pnc (.tmp 6),none⟩])))))))))
def p88:PFunc:=⟨14,[],(some 5),b88⟩
def b89:PCode :=
 (.seq (.reg [
 ⟨some 2,.box 82 (.tmp 0),none⟩])
 (.seq (.reg [
 ⟨some 3,.alloc 22 (.slice none 0 0),none⟩])
 (.seq (.reg [
 ⟨some 4,.alloc 163 .nilFunc,none⟩])
 (.seq (.reg [
 ⟨some 5,.v (.mkf (.func 90) 0) [.tmp 3,.tmp 1,.tmp 2,.tmp 4],none⟩,iS 1 4 5])
 (.reg [
 iL 6 4,⟨some 7,.v (.bld [(.bool false),(.bool false),(.bool false),(.bool false),(.bool false),(.bool false)] []) [],none⟩,⟨some 8,.call (.tmp 6) [.tmp 7],none⟩])))))
def p89:PFunc:=⟨9,[],none,b89⟩
def q90x0:PCode :=
 (.seq (.reg [
 iT 23 .lss 22 21])
 (.seq (.cond (.tmp 23)
 .skip
 (.exit 0))
 (.seq (.blk 1
 (.seq (.reg [
 iM 24 22,iM 7 24])
 (.seq (.seq (.reg [
 iN 25 38 2,iN 26 6 5,iM 27 7,iZ 28 91 25 26 27,iR 29 28])
 (.cond (.tmp 29)
 (.exit 1)
 .skip))
 (.seq (.reg [
 iN 30 6 5,⟨some 8,.lalloc 104 (.agg #[(.bool false),(.bool false),(.bool false),(.bool false),(.bool false),(.bool false)]),none⟩,iS 6 8 30])
 (.seq (.reg [
 iM 31 7,⟨some 32,.v (.iaa 1 6) [.tmp 8,.tmp 31],none⟩,⟨none,.st 1 (.tmp 32) (.const (.bool true)),none⟩])
 (.seq (.reg [
 iL 33 1,iM 34 7,⟨some 35,.lbs 3 1 [(.int .i64 0)] 1 [(0,.tmp 34)],none⟩,⟨some 36,.app 3 1 (.tmp 33) (.tmp 35),none⟩,iS 1 1 36])
 (.seq (.seq (.reg [
 iL 37 4,iN 38 6 8,⟨some 39,.call (.tmp 37) [.tmp 38],none⟩,iR 40 39])
 (.cond (.tmp 40)
 (.seq (.reg [
 iB 6 false])
 .ret)
 .skip))
 (.reg [
 iL 41 1,iL 42 1,iK 43 42,iO 44 .sub 43 1,⟨some 45,.v (.sl 1 false true) [.tmp 41,.tmp 44],none⟩,iS 1 1 45]))))))))
 (.reg [
 iO 46 .add 22 1,iM 22 46]))))
def b90:PCode :=
 (.seq (.reg [
 iV 5 104 0,iB 6 false])
 (.seq (.seq (.reg [
 iL 9 1,iK 10 9,iF 11 0 2,iF 12 0 11,iL 13 12,iT 14 .eql 10 13])
 (.cond (.tmp 14)
 (.seq (.dreg [
 iL 15 3,iL 16 1,iX 17 66 16,⟨some 18,.call (.tmp 15) [.tmp 17],none⟩,iM 6 18] [fB,fB,⟨1,false,some [15]⟩,fD,fC])
 .ret)
 .skip))
 (.seq (.seq (.reg [
 iF 19 0 2,iF 20 0 19,iL 21 20,iI 22 0])
 (.blk 0
 (.loop q90x0)))
 (.seq (.reg [
 iB 6 true])
 .ret))))
def p90:PFunc:=⟨47,[(6,none)],none,b90⟩
def q91x0:PCode :=
 (.seq (.reg [
 iT 15 .lss 14 13])
 (.seq (.cond (.tmp 15)
 .skip
 (.exit 0))
 (.seq (.blk 1
 (.seq (.reg [
 iM 16 14,iM 7 16])
 (.seq (.reg [
 iM 17 7,iM 18 2,iF 19 2 3,⟨some 20,.v (.iaa 6 6) [.tmp 19,.tmp 17],none⟩,⟨some 21,.v (.iaa 1 6) [.tmp 20,.tmp 18],none⟩,iL 22 21,iM 23 22,jM 24 7 23 true,
 ⟨some 25,.v (.iaa 1 6) [.tmp 4,.tmp 24],some (23,true)⟩,
 jL 26 25 23 true,
 jR 27 26 23 true,
 iP 28 23 27])
 (.cond (.tmp 28)
 (.seq (.reg [
 iB 6 false])
 .ret)
 .skip))))
 (.reg [
 iO 29 .add 14 1,iM 14 29]))))
def b91:PCode :=
 (.seq (.reg [
 iV 3 107 0,iV 4 104 1,iB 6 false])
 (.seq (.seq (.reg [
 iM 8 2,⟨some 9,.v (.iaa 1 6) [.tmp 4,.tmp 8],none⟩,iL 10 9])
 (.cond (.tmp 10)
 (.seq (.reg [
 iB 6 false])
 .ret)
 .skip))
 (.seq (.seq (.reg [
 iF 11 0 3,iF 12 0 11,iL 13 12,iI 14 0])
 (.blk 0
 (.loop q91x0)))
 (.seq (.reg [
 iB 6 true])
 .ret))))
def p91:PFunc:=⟨30,[(6,none)],none,b91⟩
def b92:PCode :=
 (.seq (.reg [
 ⟨some 2,.box 82 (.tmp 0),none⟩])
 (.seq (.reg [
 ⟨some 3,.alloc 82 .nilFunc,none⟩])
 (.seq (.reg [
 ⟨some 4,.v (.mkf (.func 93) 0) [.tmp 1,.tmp 2,.tmp 3],none⟩,iS 1 3 4])
 (.reg [
 iL 5 3,⟨some 6,.call (.tmp 5) [.const (.slice none 0 0)],none⟩]))))
def p92:PFunc:=⟨7,[],none,b92⟩
def q93x0:PCode :=
 (.seq (.reg [
 iT 20 .lss 19 18])
 (.seq (.cond (.tmp 20)
 .skip
 (.exit 0))
 (.seq (.blk 1
 (.seq (.reg [
 iM 21 19,iM 6 21])
 (.seq (.seq (.reg [
 iM 22 6,iO 23 .gtr 22 0,iM 24 23,jF 25 2 1 24 true,
 jL 26 25 24 true,
 jM 27 0 24 true,
 jK 28 27 24 true,
 jA 29 5 26 28 24 true,
 jF 30 1 29 24 true,
 jL 31 30 24 true,
 iP 32 24 31])
 (.cond (.tmp 32)
 (.exit 0)
 .skip))
 (.seq (.dreg [
 iL 33 3,iM 34 0,iX 35 66 34,iM 36 6,⟨some 37,.lbs 3 1 [(.int .i64 0)] 1 [(0,.tmp 36)],none⟩,⟨some 38,.app 3 1 (.tmp 35) (.tmp 37),none⟩,⟨some 39,.call (.tmp 33) [.tmp 38],none⟩,iR 40 39] [fB,fA,fB,fA,⟨39,false,none⟩,fB,fD,fC])
 (.cond (.tmp 40)
 (.seq (.reg [
 iB 5 false])
 .ret)
 .skip)))))
 (.reg [
 iO 41 .add 19 1,iM 19 41]))))
def b93:PCode :=
 (.seq (.reg [
 iB 5 false])
 (.seq (.seq (.reg [
 iM 7 0,iK 8 7,iF 9 2 1,iL 10 9,iK 11 10,iT 12 .eql 8 11])
 (.cond (.tmp 12)
 (.seq (.reg [
 iL 13 2,iM 14 0,⟨some 15,.call (.tmp 13) [.tmp 14],none⟩,iM 5 15])
 .ret)
 .skip))
 (.seq .skip
 (.seq (.seq (.reg [
 iF 16 0 1,iL 17 16,iO 18 .add 17 1,iI 19 0])
 (.blk 0
 (.loop q93x0)))
 (.seq (.reg [
 iB 5 true])
 .ret)))))
def p93:PFunc:=⟨42,[(5,none)],none,b93⟩
def b94:PCode :=
 (.seq (.reg [
 iV 3 120 0,iI 6 0])
 (.seq (.reg [
 iM 12 1,iM 13 2,⟨some 14,.v (.bld [(.int .i64 0),(.int .i64 0)] [(0,1),(1,1)]) [.tmp 12,.tmp 13],none⟩,⟨some 7,.lalloc 206 (.agg #[(.int .i64 0),(.int .i64 0)]),none⟩,iS 2 7 14])
 (.seq (.seq (.reg [
 iF 16 4 3,iL 17 16,iN 18 2 7,⟨some 19,.mlk (.agg [(.i .i64),(.i .i64)]) (.int .i64 0) true (.tmp 17) (.tmp 18),none⟩,iM 15 19,iE 20 0 15,iE 21 1 15,iM 8 20,iM 9 21])
 (.seq (.reg [
 iM 22 9])
 (.cond (.tmp 22)
 (.seq (.reg [
 iM 23 8,iM 6 23])
 .ret)
 .skip)))
 (.seq (.reg [
 ⟨some 24,.v (.bld [.nilFunc,.nilFunc] [(0,1),(1,1)]) [.func 127,.func 128],none⟩,⟨some 10,.lalloc 210 (.agg #[.nilFunc,.nilFunc]),none⟩,iS 2 10 24])
 (.seq (.dreg [
 iN 25 7 3,iM 26 1,iM 27 2,iZ 28 129 25 26 27,iM 29 2,⟨some 30,.v (.iaa 1 2) [.tmp 10,.tmp 29],none⟩,iL 31 30,iF 32 0 3,iF 33 2 32,iL 34 33,iM 35 1,iA 36 5 34 35,iN 37 5 36,⟨some 38,.v (.bld [(.int .i64 0),(.bool false),(.int .i64 0),(.int .i64 0),(.slice none 0 0)] [(0,5)]) [.tmp 37],none⟩,⟨some 39,.call (.tmp 31) [.tmp 38],none⟩,iT 40 .add 28 39,iM 11 40] [⟨5,false,none⟩,fA,fA,fB,fA,fA,⟨12,false,none⟩,fA,fA,⟨5,false,none⟩,fA,fA,fB,fA,fD,fC,fC])
 (.seq (.seq (.reg [
 iM 41 1,iF 42 5 3,iL 43 42,iT 44 .eql 41 43,iM 45 44,jM 46 2 45 true,
 jO 47 .eql 46 1 45 true,
 iP 48 45 47])
 (.cond (.tmp 48)
 (.reg [
 iM 49 11,iF 50 6 3,iL 51 50,iT 52 .add 49 51,iM 11 52])
 .skip))
 (.seq (.reg [
 iF 53 4 3,iL 54 53,iN 55 2 7,iM 56 11,⟨none,.mup (.agg [(.i .i64),(.i .i64)]) (.tmp 54) (.tmp 55) (.tmp 56),none⟩])
 (.seq (.reg [
 iM 57 11,iM 6 57])
 .ret))))))))
def p94:PFunc:=⟨58,[(6,none)],none,b94⟩
def q95x0:PCode :=
 (.seq (.reg [
 iT 9 .lss 8 7])
 (.seq (.cond (.tmp 9)
 .skip
 (.exit 0))
 (.seq (.blk 1
 (.seq (.reg [
 iA 10 1 6 8,iL 11 10,iM 5 11])
 (.reg [
 iM 12 3,iM 13 5,⟨some 14,.v .mx [.tmp 12,.tmp 13],none⟩,iM 3 14])))
 (.reg [
 iO 15 .add 8 1,iM 8 15]))))
def b95:PCode :=
 (.seq (.reg [
 iI 2 0])
 (.seq (.reg [
 iI 3 0])
 (.seq (.seq (.reg [
 iM 6 0,iK 7 6,iI 8 0])
 (.blk 0
 (.loop q95x0)))
 (.seq (.reg [
 iM 16 3,iM 2 16])
 .ret))))
def p95:PFunc:=⟨17,[(2,none)],none,b95⟩
def b96:PCode :=
 (.seq (.reg [
 ⟨some 4,.lalloc 25 (.agg #[(.int .i64 0),(.int .i64 0)]),none⟩])
 (.seq (.reg [
 iM 5 0,iM 6 1,⟨some 7,.v (.bld [(.int .i64 0),(.int .i64 0)] [(0,1),(1,1)]) [.tmp 5,.tmp 6],none⟩,iS 2 4 7])
 .ret))
def p96:PFunc:=⟨8,[(4,some (some 2))],none,b96⟩
def b97:PCode :=
 (.seq (.reg [
 ⟨some 1,.box 75 (.tmp 0),none⟩,iB 2 false])
 (.seq (.reg [
 ⟨some 3,.v .mv [.func 130],none⟩])
 (.seq (.reg [
 ⟨some 4,.v .mv [.func 132],none⟩])
 (.seq (.reg [
 iF 5 0 1,iL 6 5,iK 7 6,⟨some 8,.call (.func 131) [.tmp 7,.const (.int .i64 1),.const (.int .i64 12)],none⟩,iM 9 8,jF 10 2 1 9 true,
 jL 11 10 9 true,
 jK 12 11 9 true,
 ⟨some 13,.call (.func 131) [.tmp 12,.const (.int .i64 1),.const (.int .i64 5)],some (9,true)⟩,
 iP 14 9 13,iM 15 14,jF 16 0 1 15 true,
 jL 17 16 15 true,
 jM 18 3 15 true,
 jY 19 133 17 18 15 true,
 jR 20 19 15 true,
 iP 21 15 20,iM 22 21,jF 23 2 1 22 true,
 jL 24 23 22 true,
 jM 25 4 22 true,
 jY 26 134 24 25 22 true,
 jR 27 26 22 true,
 iP 28 22 27,iM 29 28,jF 30 1 1 29 true,
 jL 31 30 29 true,
 jX 32 135 31 29 true,
 iP 33 29 32,iM 34 33,jF 35 1 1 34 true,
 jL 36 35 34 true,
 ⟨some 37,.v (.mkf (.func 136) 0) [.tmp 1],some (34,true)⟩,
 jY 38 60 36 37 34 true,
 jR 39 38 34 true,
 iP 40 34 39,iM 2 40])
 .ret))))
def p97:PFunc:=⟨41,[(2,none)],none,b97⟩
def b98:PCode :=
 (.seq (.reg [
 iH 2])
 (.seq (.reg [
 iM 3 0,⟨some 4,.call (.func 138) [.const (.slice none 0 0),.tmp 3],none⟩,iM 2 4])
 .ret))
def p98:PFunc:=⟨5,[(2,none)],none,b98⟩
def q99x0:PCode :=
 (.seq (.reg [
 iT 14 .lss 13 12])
 (.seq (.cond (.tmp 14)
 .skip
 (.exit 0))
 (.seq (.blk 1
 (.seq (.reg [
 iM 15 13,iA 16 2 11 13,iN 17 2 16,⟨some 5,.lalloc 25 (.agg #[(.int .i64 0),(.int .i64 0)]),none⟩,iM 4 15,iS 2 5 17])
 (.dreg [
 iF 18 3 3,iL 19 18,iF 20 3 3,iL 21 20,iM 22 4,iA 23 1 21 22,iL 24 23,iF 25 0 5,iL 26 25,iT 27 .add 24 26,⟨some 28,.lbs 3 1 [(.int .i64 0)] 1 [(0,.tmp 27)],none⟩,⟨some 29,.app 3 1 (.tmp 19) (.tmp 28),none⟩,iF 30 4 3,iL 31 30,iF 32 4 3,iL 33 32,iM 34 4,iA 35 1 33 34,iL 36 35,iF 37 1 5,iL 38 37,iT 39 .add 36 38,⟨some 40,.lbs 3 1 [(.int .i64 0)] 1 [(0,.tmp 39)],none⟩,⟨some 41,.app 3 1 (.tmp 31) (.tmp 40),none⟩,iF 42 3 3,iS 1 42 29,iF 43 4 3,iS 1 43 41] [fA,⟨5,false,none⟩,fA,⟨5,false,none⟩,fA,fA,fB,fA,⟨7,false,none⟩,fA,⟨30,false,none⟩,fB,fA,⟨5,false,none⟩,fA,⟨5,false,none⟩,fA,fA,fB,fA,⟨7,false,none⟩,fA,⟨42,false,none⟩,fE,fA,⟨5,true,none⟩,fC,⟨5,true,none⟩])))
 (.reg [
 iO 44 .add 13 1,iM 13 44]))))
def b99:PCode :=
 (.seq (.reg [
 iV 1 75 0,⟨some 2,.lalloc 169 (.agg #[(.slice none 0 0),(.slice none 0 0),(.slice none 0 0),(.slice none 0 0),(.slice none 0 0)]),none⟩])
 (.seq (.reg [
 iN 6 3 1,⟨some 7,.bs 3 1 [(.int .i64 0)] 1 [(0,.const (.int .i64 0))],none⟩,⟨some 8,.bs 3 1 [(.int .i64 0)] 1 [(0,.const (.int .i64 0))],none⟩,⟨some 9,.v (.bld [(.slice none 0 0),(.slice none 0 0),(.slice none 0 0),(.slice none 0 0),(.slice none 0 0)] [(0,3),(3,1),(4,1)]) [.tmp 6,.tmp 7,.tmp 8],none⟩,⟨some 3,.lalloc 169 (.agg #[(.slice none 0 0),(.slice none 0 0),(.slice none 0 0),(.slice none 0 0),(.slice none 0 0)]),none⟩,iS 5 3 9])
 (.seq (.seq (.reg [
 iF 10 0 1,iL 11 10,iK 12 11,iI 13 0])
 (.blk 0
 (.loop q99x0)))
 (.seq (.reg [
 iN 45 5 3,iS 5 2 45])
 .ret))))
def p99:PFunc:=⟨46,[(2,some (some 5))],none,b99⟩
def b100:PCode :=
 (.seq (.reg [
 ⟨some 1,.box 169 (.tmp 0),none⟩,⟨some 2,.v .mv [.const .nilFunc],none⟩])
 (.seq (.reg [
 ⟨some 3,.v (.mkf (.func 139) 0) [.tmp 1],none⟩,iM 2 3])
 .ret))
def p100:PFunc:=⟨4,[(2,none)],none,b100⟩
def q101x0:PCode :=
 (.seq (.reg [
 iT 9 .lss 8 7])
 (.seq (.cond (.tmp 9)
 .skip
 (.exit 0))
 (.seq (.blk 1
 (.seq (.reg [
 iM 10 8,iM 5 10])
 (.seq (.reg [
 iM 11 1,iM 12 0,iM 13 5,iA 14 1 12 13,iL 15 14,⟨some 16,.call (.tmp 11) [.tmp 15],none⟩])
 (.cond (.tmp 16)
 (.seq (.reg [
 iM 17 5,iM 4 17])
 .ret)
 .skip))))
 (.reg [
 iO 18 .add 8 1,iM 8 18]))))
def b101:PCode :=
 (.seq (.reg [
 iI 4 0])
 (.seq (.seq (.reg [
 iM 6 0,iK 7 6,iI 8 0])
 (.blk 0
 (.loop q101x0)))
 (.seq (.reg [
 iI 4 (-1)])
 .ret)))
def p101:PFunc:=⟨19,[(4,none)],none,b101⟩
def q102x0:PCode :=
 (.seq (.reg [
 iT 9 .lss 8 7])
 (.seq (.cond (.tmp 9)
 .skip
 (.exit 0))
 (.seq (.blk 1
 (.seq (.reg [
 iM 10 8,iM 5 10])
 (.seq (.reg [
 iM 11 1,iM 12 0,iM 13 5,iA 14 3 12 13,iN 15 3 14,⟨some 16,.call (.tmp 11) [.tmp 15],none⟩])
 (.cond (.tmp 16)
 (.seq (.reg [
 iM 17 5,iM 4 17])
 .ret)
 .skip))))
 (.reg [
 iO 18 .add 8 1,iM 8 18]))))
def b102:PCode :=
 (.seq (.reg [
 iI 4 0])
 (.seq (.seq (.reg [
 iM 6 0,iK 7 6,iI 8 0])
 (.blk 0
 (.loop q102x0)))
 (.seq (.reg [
 iI 4 (-1)])
 .ret)))
def p102:PFunc:=⟨19,[(4,none)],none,b102⟩
def b103:PCode :=
 (.seq (.reg [
 iB 3 false])
 (.seq (.reg [
 iM 4 0,iF 5 0 1,iL 6 5,iK 7 6,iO 8 .sub 7 1,⟨some 9,.call (.func 56) [.tmp 4,.const (.int .i64 0),.tmp 8],none⟩,iR 10 9,iM 3 10])
 .ret))
def p103:PFunc:=⟨11,[(3,none)],none,b103⟩
def q104x0:PCode :=
 (.seq (.reg [
 iT 12 .lss 11 10])
 (.seq (.cond (.tmp 12)
 .skip
 (.exit 0))
 (.seq (.blk 1
 (.seq (.reg [
 iM 13 11,iA 14 1 9 11,iL 15 14,iM 7 13,iM 8 15])
 (.seq (.reg [
 iM 16 8,iM 17 1,iM 18 2,iZ 19 56 16 17 18,iR 20 19,iM 21 20,jM 22 7 21 false,
 jO 23 .gtr 22 0 21 false,
 jM 24 23 21 false,
 jM 25 8 24 true,
 jM 26 0 24 true,
 jM 27 7 24 true,
 jO 28 .sub 27 1 24 true,
 jA 29 1 26 28 24 true,
 jL 30 29 24 true,
 jT 31 .leq 25 30 24 true,
 jP 32 24 31 21 false,
 iQ 33 21 32])
 (.cond (.tmp 33)
 (.seq (.reg [
 iB 6 false])
 .ret)
 .skip))))
 (.reg [
 iO 34 .add 11 1,iM 11 34]))))
def b104:PCode :=
 (.seq (.reg [
 iB 6 false])
 (.seq (.seq (.reg [
 iM 9 0,iK 10 9,iI 11 0])
 (.blk 0
 (.loop q104x0)))
 (.seq (.reg [
 iB 6 true])
 .ret)))
def p104:PFunc:=⟨35,[(6,none)],none,b104⟩
def b105:PCode :=
 (.seq (.reg [
 ⟨some 3,.box 174 (.tmp 0),none⟩])
 (.seq (.reg [
 iF 7 0 1,iN 8 10 7,iL 9 2,iY 10 106 8 9,⟨some 4,.alloc 83 (.slice none 0 0),none⟩,iS 1 4 10])
 (.seq (.reg [
 ⟨some 5,.alloc 83 (.slice none 0 0),none⟩])
 (.seq (.reg [
 ⟨some 6,.alloc 69 .nilFunc,none⟩])
 (.seq (.reg [
 ⟨some 11,.v (.mkf (.func 107) 0) [.tmp 4,.tmp 3,.tmp 2,.tmp 5,.tmp 1,.tmp 6],none⟩,iS 1 6 11])
 (.reg [
 iL 12 6,⟨some 13,.call (.tmp 12) [.const (.int .i64 0)],none⟩]))))))
def p105:PFunc:=⟨14,[],none,b105⟩
def q106x0:PCode :=
 (.seq (.reg [
 iT 26 .lss 25 24])
 (.seq (.cond (.tmp 26)
 .skip
 (.exit 2))
 (.seq (.blk 3
 (.seq (.reg [
 iA 27 1 23 25,iL 28 27,iM 8 28])
 (.reg [
 iM 29 5,iM 30 6,iM 31 8,⟨some 32,.v (.bld [(.int .i64 0),(.int .i64 0)] [(0,1),(1,1)]) [.tmp 30,.tmp 31],none⟩,⟨some 33,.lbs 178 2 [(.int .i64 0),(.int .i64 0)] 1 [(0,.tmp 32)],none⟩,⟨some 34,.app 178 2 (.tmp 29) (.tmp 33),none⟩,iM 5 34])))
 (.reg [
 iO 35 .add 25 1,iM 25 35]))))
def q106x1:PCode :=
 (.seq (.reg [
 iT 13 .lss 12 11])
 (.seq (.cond (.tmp 13)
 .skip
 (.exit 0))
 (.seq (.blk 1
 (.seq (.reg [
 iM 14 12,iM 6 14])
 (.seq (.seq (.reg [
 iM 15 1,iM 16 6,iY 17 145 15 16])
 (.cond (.tmp 17)
 (.exit 1)
 .skip))
 (.seq (.seq (.reg [
 iF 18 7 2,iL 19 18,iM 20 6,iA 21 3 19 20,iF 22 1 21,iL 23 22,iK 24 23,iI 25 0])
 (.blk 2
 (.loop q106x0)))
 (.reg [
 iM 36 5,iM 37 6,iF 38 7 2,iL 39 38,iM 40 6,iA 41 3 39 40,iF 42 0 41,iL 43 42,iK 44 43,⟨some 45,.v (.bld [(.int .i64 0),(.int .i64 0)] [(0,1),(1,1)]) [.tmp 37,.tmp 44],none⟩,⟨some 46,.lbs 178 2 [(.int .i64 0),(.int .i64 0)] 1 [(0,.tmp 45)],none⟩,⟨some 47,.app 178 2 (.tmp 36) (.tmp 46),none⟩,iM 5 47])))))
 (.reg [
 iO 48 .add 12 1,iM 12 48]))))
def b106:PCode :=
 (.seq (.reg [
 iV 2 28 0,iH 4])
 (.seq (.reg [
 iH 5])
 (.seq (.seq (.reg [
 iF 9 7 2,iL 10 9,iK 11 10,iI 12 0])
 (.blk 0
 (.loop q106x1)))
 (.seq (.reg [
 iM 49 5,iM 4 49])
 .ret))))
def p106:PFunc:=⟨50,[(4,none)],none,b106⟩
def q107x0:PCode :=
 (.seq (.seq (.reg [
 iM 22 9,iL 23 1,iK 24 23,iT 25 .lss 22 24,iM 26 25,jL 27 4 26 true,
 jK 28 27 26 true,
 jF 29 0 5 26 true,
 jF 30 9 29 26 true,
 jL 31 30 26 true,
 jT 32 .lss 28 31 26 true,
 iP 33 26 32])
 (.cond (.tmp 33)
 .skip
 (.exit 0)))
 (.seq (.blk 1
 (.seq (.dreg [
 iL 36 4,iL 37 1,iM 38 9,iA 39 2 37 38,iN 40 2 39,⟨some 41,.lbs 178 2 [(.int .i64 0),(.int .i64 0)] 1 [(0,.tmp 40)],none⟩,⟨some 42,.app 178 2 (.tmp 36) (.tmp 41),none⟩,iS 1 4 42] [fB,fB,fA,fA,fB,⟨43,false,none⟩,fE,fE])
 (.seq (.seq (.reg [
 iL 43 6,iM 44 9,iO 45 .add 44 1,⟨some 46,.call (.tmp 43) [.tmp 45],none⟩,iR 47 46])
 (.cond (.tmp 47)
 (.seq (.reg [
 iB 8 false])
 .ret)
 .skip))
 (.reg [
 iL 48 4,iL 49 4,iK 50 49,iO 51 .sub 50 1,⟨some 52,.v (.sl 2 false true) [.tmp 48,.tmp 51],none⟩,iS 1 4 52]))))
 (.reg [
 iM 34 9,iO 35 .add 34 1,iM 9 35])))
def b107:PCode :=
 (.seq (.reg [
 iB 8 false])
 (.seq (.seq (.reg [
 iM 10 0,iL 11 1,iK 12 11,iT 13 .eql 10 12])
 (.cond (.tmp 13)
 (.seq (.dreg [
 iL 14 2,iL 15 3,iX 16 66 15,iL 17 4,iX 18 108 17,⟨some 19,.v (.bld [(.slice none 0 0),(.slice none 0 0)] [(0,1),(1,1)]) [.tmp 16,.tmp 18],none⟩,⟨some 20,.call (.tmp 14) [.tmp 19],none⟩,iM 8 20] [fB,fB,fB,fB,⟨1,false,some [14]⟩,fA,fD,fC])
 .ret)
 .skip))
 (.seq (.seq (.reg [
 iM 21 0,iM 9 21])
 (.blk 0
 (.loop q107x0)))
 (.seq (.reg [
 iB 8 true])
 .ret))))
def p107:PFunc:=⟨53,[(8,none)],none,b107⟩
def b108:PCode :=
 (.seq (.reg [
 iH 2])
 (.seq (.seq (.reg [
 iM 3 0,⟨some 4,.v (.nl .slice false) [.tmp 3],none⟩])
 (.cond (.tmp 4)
 (.seq (.reg [
 iH 2])
 .ret)
 .skip))
 (.seq (.reg [
 ⟨some 5,.bs 178 2 [(.int .i64 0),(.int .i64 0)] 0 [],none⟩,iM 6 0,⟨some 7,.app 178 2 (.tmp 5) (.tmp 6),none⟩,iM 2 7])
 .ret)))
def p108:PFunc:=⟨8,[(2,none)],none,b108⟩
def b109:PCode :=
 (.seq (.reg [
 ⟨some 2,.alloc 34 (.int .i64 0),none⟩])
 (.seq (.reg [
 ⟨some 3,.v (.mkf (.func 146) 0) [.tmp 2],none⟩,⟨none,.dfr (.tmp 3) [],none⟩])
 (.seq (.reg [
 iM 4 0,⟨some 5,.call (.tmp 4) [],none⟩])
 (.seq (.reg [
 ⟨none,.st 1 (.tmp 2) (.const (.int .i64 0)),none⟩])
 .ret))))
def p109:PFunc:=⟨6,[(2,some none)],none,b109⟩
def q110x0:PCode :=
 (.seq (.reg [
 iT 10 .lss 9 8])
 (.seq (.cond (.tmp 10)
 .skip
 (.exit 0))
 (.seq (.blk 1
 (.seq (.reg [
 iM 11 9,iA 12 2 7 9,iN 13 2 12,⟨some 4,.lalloc 183 (.agg #[(.slice none 0 0),(.bool false)]),none⟩,iM 3 11,iS 2 4 13])
 (.seq (.dreg [
 iN 14 11 0,iN 15 2 4,iL 16 2,iZ 17 112 14 15 16,iF 18 0 0,iF 19 8 18,iL 20 19,iT 21 .gtr 17 20] [fB,⟨6,false,none⟩,fB,fB,fA,fA,fB,fC])
 (.cond (.tmp 21)
 (.reg [
 iM 22 3,⟨some 23,.v (.bld [(.int .i64 0)] [(0,1)]) [.tmp 22],none⟩,⟨some 24,.v (.mki 186) [.tmp 23],none⟩,⟨none,.pnc (.tmp 24),none⟩])
 .skip))))
 (.reg [
 iO 25 .add 9 1,iM 9 25]))))
def b110:PCode :=
 (.seq (.reg [
 iN 5 11 0,iN 6 2 1,iY 7 111 5 6,iK 8 7,iI 9 0])
 (.blk 0
 (.loop q110x0)))
def p110:PFunc:=⟨26,[],none,b110⟩
def q111x0:PCode :=
 (.seq (.seq (.reg [
 iM 31 6,iF 32 0 9,iL 33 32,iT 34 .lss 31 33,iM 35 34,jM 36 6 35 false,
 jF 37 0 9 35 false,
 jL 38 37 35 false,
 jT 39 .eql 36 38 35 false,
 jM 40 39 35 false,
 jM 41 7 40 true,
 jF 42 1 9 40 true,
 jL 43 42 40 true,
 jT 44 .lss 41 43 40 true,
 jP 45 40 44 35 false,
 iQ 46 35 45])
 (.cond (.tmp 46)
 .skip
 (.exit 2)))
 (.seq (.blk 3
 (.seq (.seq (.reg [
 iF 49 0 3,iL 50 49,iM 51 6,iY 52 145 50 51,iM 53 52,jM 54 7 53 false,
 jF 55 0 2 53 false,
 jF 56 7 55 53 false,
 jL 57 56 53 false,
 jM 58 6 53 false,
 jA 59 3 57 58 53 false,
 jF 60 0 59 53 false,
 jL 61 60 53 false,
 jK 62 61 53 false,
 jT 63 .eql 54 62 53 false,
 iQ 64 53 63])
 (.cond (.tmp 64)
 (.seq (.reg [
 iM 65 6,iO 66 .add 65 1,iM 6 66,iI 7 (-1)])
 (.exit 3))
 .skip))
 (.reg [
 iF 67 0 10,iL 68 67,iM 69 6,iM 70 7,⟨some 71,.v (.bld [(.int .i64 0),(.int .i64 0)] [(0,1),(1,1)]) [.tmp 69,.tmp 70],none⟩,⟨some 72,.lbs 229 2 [(.int .i64 0),(.int .i64 0)] 1 [(0,.tmp 71)],none⟩,⟨some 73,.app 229 2 (.tmp 68) (.tmp 72),none⟩,iF 74 0 10,iS 1 74 73])))
 (.reg [
 iM 47 7,iO 48 .add 47 1,iM 7 48])))
def q111x1:PCode :=
 (.seq (.reg [
 iT 15 .lss 14 13])
 (.seq (.cond (.tmp 15)
 .skip
 (.exit 0))
 (.seq (.blk 1
 (.seq (.reg [
 iA 16 2 12 14,iN 17 2 16,⟨some 9,.lalloc 178 (.agg #[(.int .i64 0),(.int .i64 0)]),none⟩,iS 2 9 17])
 (.seq (.dreg [
 iF 18 1 9,iL 19 18,iF 20 0 2,iF 21 7 20,iL 22 21,iF 23 0 9,iL 24 23,iA 25 3 22 24,iF 26 0 25,iL 27 26,iK 28 27,iT 29 .lss 19 28,⟨some 30,.v (.bld [(.slice none 0 0),(.bool false)] [(1,1)]) [.tmp 29],none⟩,⟨some 10,.lalloc 183 (.agg #[(.slice none 0 0),(.bool false)]),none⟩,iS 2 10 30] [fA,⟨11,false,none⟩,fC,fC,⟨4,true,none⟩,fC,⟨11,true,none⟩,fC,fC,fE,fC,fC,fC,⟨12,false,none⟩,⟨12,true,none⟩])
 (.seq (.blk 2
 (.loop q111x0))
 (.reg [
 iM 75 5,iN 76 2 10,⟨some 77,.lbs 183 2 [(.slice none 0 0),(.bool false)] 1 [(0,.tmp 76)],none⟩,⟨some 78,.app 183 2 (.tmp 75) (.tmp 77),none⟩,iM 5 78])))))
 (.reg [
 iO 79 .add 14 1,iM 14 79]))))
def b111:PCode :=
 (.seq (.reg [
 iV 2 79 0,iV 3 85 1,iH 4])
 (.seq (.reg [
 iH 5])
 (.seq (.reg [
 iI 6 0,iI 7 0])
 (.seq (.seq (.reg [
 iF 11 1 3,iL 12 11,iK 13 12,iI 14 0])
 (.blk 0
 (.loop q111x1)))
 (.seq (.reg [
 iM 80 5,iM 4 80])
 .ret)))))
def p111:PFunc:=⟨81,[(4,none)],none,b111⟩
def q112x0:PCode :=
 (.seq (.reg [
 iO 12 .lss 11 2])
 (.seq (.cond (.tmp 12)
 .skip
 (.exit 0))
 (.seq (.blk 1
 (.seq (.reg [
 ⟨some 13,.v (.ixa 1 2 none) [.tmp 10,.tmp 11],none⟩,iM 9 13])
 (.reg [
 iM 14 7,iM 15 9,iN 16 11 3,iN 17 2 4,iM 18 2,⟨some 19,.call (.tmp 15) [.tmp 16,.tmp 17,.tmp 18],none⟩,iT 20 .add 14 19,iM 7 20])))
 (.reg [
 iO 21 .add 11 1,iM 11 21]))))
def b112:PCode :=
 (.seq (.reg [
 iV 3 79 0,iV 4 183 1,iI 6 0])
 (.seq (.reg [
 iI 7 0])
 (.seq (.seq (.reg [
 ⟨some 10,.v (.bld [.nilFunc,.nilFunc] [(0,1),(1,1)]) [.func 147,.func 148],none⟩,iI 11 0])
 (.blk 0
 (.loop q112x0)))
 (.seq (.reg [
 iM 22 7,iM 6 22])
 .ret))))
def p112:PFunc:=⟨23,[(6,none)],none,b112⟩
def b123:PCode :=
 (.dreg [
 iN 2 2 0,⟨some 4,.v (.bld [(.bool false),(.bool false),(.bool false),(.bool false),(.bool false),(.bool false)] []) [],none⟩,iF 5 0 0,iL 6 5,⟨some 7,.mkm (.agg [.b,.b,.b,.b,.b,.b]),none⟩,⟨some 3,.call (.const (.func (.func 40) #[] #[])) [.tmp 2],none⟩,⟨some 8,.call (.func 124) [.tmp 3,.tmp 4,.tmp 6,.tmp 7],none⟩,iS 1 1 8] [fB,fA,fA,fB,fB,fB,fD,fE])
def p123:PFunc:=⟨9,[],none,b123⟩
def q124x0:PCode :=
 (.seq (.reg [
 iT 28 .lss 27 26])
 (.seq (.cond (.tmp 28)
 .skip
 (.exit 0))
 (.seq (.blk 1
 (.seq (.reg [
 iM 29 27,iM 12 29])
 (.seq (.reg [
 iN 30 38 4,iN 31 6 5,iM 32 12,iZ 33 91 30 31 32])
 (.cond (.tmp 33)
 (.seq (.reg [
 iN 34 6 5,⟨some 13,.lalloc 104 (.agg #[(.bool false),(.bool false),(.bool false),(.bool false),(.bool false),(.bool false)]),none⟩,iS 6 13 34])
 (.seq (.reg [
 iM 35 12,⟨some 36,.v (.iaa 1 6) [.tmp 13,.tmp 35],none⟩,⟨none,.st 1 (.tmp 36) (.const (.bool true)),none⟩])
 (.reg [
 iM 37 11,iN 38 38 4,iN 39 6 13,iM 40 2,iO 41 .sub 40 1,iM 42 3,⟨some 43,.call (.func 124) [.tmp 38,.tmp 39,.tmp 41,.tmp 42],none⟩,⟨some 44,.lbs 3 1 [(.int .i64 0)] 1 [(0,.tmp 43)],none⟩,⟨some 45,.app 3 1 (.tmp 37) (.tmp 44),none⟩,iM 11 45])))
 .skip))))
 (.reg [
 iO 46 .add 27 1,iM 27 46]))))
def b124:PCode :=
 (.seq (.reg [
 iV 4 107 0,iV 5 104 1,iI 8 0])
 (.seq (.seq (.reg [
 iM 14 2,iO 15 .eql 14 0])
 (.cond (.tmp 15)
 (.seq (.reg [
 iI 8 1])
 .ret)
 .skip))
 (.seq (.seq (.reg [
 iM 17 3,iN 18 6 5,⟨some 19,.mlk (.agg [.b,.b,.b,.b,.b,.b]) (.int .i64 0) true (.tmp 17) (.tmp 18),none⟩,iM 16 19,iE 20 0 16,iE 21 1 16,iM 9 20,iM 10 21])
 (.seq (.reg [
 iM 22 10])
 (.cond (.tmp 22)
 (.seq (.reg [
 iM 23 9,iM 8 23])
 .ret)
 .skip)))
 (.seq (.reg [
 iH 11])
 (.seq (.seq (.reg [
 iF 24 0 4,iF 25 0 24,iL 26 25,iI 27 0])
 (.blk 0
 (.loop q124x0)))
 (.seq (.dreg [
 iM 47 3,iN 48 6 5,iM 49 11,iX 50 155 49,⟨none,.mup (.agg [.b,.b,.b,.b,.b,.b]) (.tmp 47) (.tmp 48) (.tmp 50),none⟩] [fA,⟨7,false,none⟩,fC,⟨1,true,some [47,48]⟩,fE])
 (.seq (.reg [
 iM 51 3,iN 52 6 5,⟨some 53,.mlk (.agg [.b,.b,.b,.b,.b,.b]) (.int .i64 0) false (.tmp 51) (.tmp 52),none⟩,iM 8 53])
 .ret)))))))
def p124:PFunc:=⟨54,[(8,none)],none,b124⟩
def q125x0:PCode :=
 (.seq (.reg [
 iT 9 .lss 8 7])
 (.seq (.cond (.tmp 9)
 .skip
 (.exit 0))
 (.seq (.blk 1
 (.seq (.reg [
 iM 10 8,iM 5 10])
 (.seq (.reg [
 iM 11 1,iM 12 0,iM 13 5,iA 14 1 12 13,iL 15 14,⟨some 16,.call (.tmp 11) [.tmp 15],none⟩])
 (.cond (.tmp 16)
 (.seq (.reg [
 iM 17 5,iM 4 17])
 .ret)
 .skip))))
 (.reg [
 iO 18 .add 8 1,iM 8 18]))))
def b125:PCode :=
 (.seq (.reg [
 iI 4 0])
 (.seq (.seq (.reg [
 iM 6 0,iK 7 6,iI 8 0])
 (.blk 0
 (.loop q125x0)))
 (.seq (.reg [
 iI 4 (-1)])
 .ret)))
def p125:PFunc:=⟨19,[(4,none)],none,b125⟩
def q126x0:PCode :=
 (.seq (.reg [
 iT 10 .lss 9 8])
 (.seq (.cond (.tmp 10)
 .skip
 (.exit 0))
 (.seq (.blk 1
 (.seq (.reg [
 iM 11 9,iA 12 1 7 9,iL 13 12,iM 5 11,iM 6 13])
 (.seq (.reg [
 iN 14 2 2,iM 15 6,iY 16 156 14 15,iR 17 16,iM 18 17,jM 19 1 18 false,
 jM 20 5 18 false,
 ⟨some 21,.v (.sl 1 false true) [.tmp 19,.tmp 20],some (18,false)⟩,
 jM 22 6 18 false,
 jY 23 145 21 22 18 false,
 iQ 24 18 23])
 (.cond (.tmp 24)
 (.seq (.reg [
 iB 4 false])
 .ret)
 .skip))))
 (.reg [
 iO 25 .add 9 1,iM 9 25]))))
def b126:PCode :=
 (.seq (.reg [
 iV 2 55 0,iB 4 false])
 (.seq (.seq (.reg [
 iM 7 1,iK 8 7,iI 9 0])
 (.blk 0
 (.loop q126x0)))
 (.seq (.reg [
 iB 4 true])
 .ret)))
def p126:PFunc:=⟨26,[(4,none)],none,b126⟩
def b127:PCode :=
 (.seq (.reg [
 iV 1 209 0,iI 2 0])
 (.seq (.reg [
 iF 3 0 1,iF 4 2 3,iF 5 0 4,iL 6 5,iM 2 6])
 .ret))
def p127:PFunc:=⟨7,[(2,none)],none,b127⟩
def b128:PCode :=
 (.seq (.reg [
 iV 1 209 0,iI 2 0])
 (.seq (.reg [
 iF 3 0 1,iF 4 2 3,iF 5 1 4,iL 6 5,iM 2 6])
 .ret))
def p128:PFunc:=⟨7,[(2,none)],none,b128⟩
def q129x0:PCode :=
 (.seq (.reg [
 iT 24 .lss 23 22])
 (.seq (.cond (.tmp 24)
 .skip
 (.exit 0))
 (.seq (.blk 1
 (.seq (.reg [
 iA 25 1 21 23,iL 26 25,iM 9 26])
 (.reg [
 iM 27 7,iN 28 7 3,iM 29 9,iM 30 2,iZ 31 94 28 29 30,⟨some 32,.lbs 3 1 [(.int .i64 0)] 1 [(0,.tmp 31)],none⟩,⟨some 33,.app 3 1 (.tmp 27) (.tmp 32),none⟩,iM 7 33])))
 (.reg [
 iO 34 .add 23 1,iM 23 34]))))
def b129:PCode :=
 (.seq (.reg [
 iV 3 120 0,iI 6 0])
 (.seq (.reg [
 iN 10 7 3,iM 11 1,iM 12 2,iZ 13 157 10 11 12,⟨some 14,.bs 3 1 [(.int .i64 0)] 1 [(0,.tmp 13)],none⟩,iM 7 14])
 (.seq (.seq (.reg [
 iF 15 0 3,iF 16 2 15,iL 17 16,iM 18 1,iA 19 5 17 18,iF 20 4 19,iL 21 20,iK 22 21,iI 23 0])
 (.blk 0
 (.loop q129x0)))
 (.seq (.reg [
 iM 35 7,iX 36 95 35,iM 6 36])
 .ret))))
def p129:PFunc:=⟨37,[(6,none)],none,b129⟩
def b130:PCode :=
 (.seq (.reg [
 iV 1 25 0,iB 2 false])
 (.seq (.reg [
 iF 3 0 1,iL 4 3,⟨some 5,.call (.func 131) [.tmp 4,.const (.int .i64 0),.const (.int .i64 24)],none⟩,iR 6 5,iM 7 6,jF 8 1 1 7 false,
 jL 9 8 7 false,
 jF 10 0 1 7 false,
 jL 11 10 7 false,
 ⟨some 12,.call (.func 131) [.tmp 9,.tmp 11,.const (.int .i64 24)],some (7,false)⟩,
 jR 13 12 7 false,
 iQ 14 7 13,iM 2 14])
 .ret))
def p130:PFunc:=⟨15,[(2,none)],none,b130⟩
def b131:PCode :=
 (.seq (.reg [
 iB 6 false])
 (.seq (.reg [
 iM 7 0,iM 8 1,iT 9 .geq 7 8,iM 10 9,jM 11 0 10 true,
 jM 12 2 10 true,
 jT 13 .leq 11 12 10 true,
 iP 14 10 13,iM 6 14])
 .ret))
def p131:PFunc:=⟨15,[(6,none)],none,b131⟩
def b132:PCode :=
 (.seq (.reg [
 iV 1 130 0,iB 2 false])
 (.seq (.reg [
 iF 3 0 1,iL 4 3,⟨some 5,.call (.func 131) [.tmp 4,.const (.int .i64 1),.const (.int .i64 288)],none⟩,iR 6 5,iM 7 6,jF 8 1 1 7 false,
 jL 9 8 7 false,
 jF 10 0 1 7 false,
 jL 11 10 7 false,
 ⟨some 12,.call (.func 131) [.tmp 9,.tmp 11,.const (.int .i64 400)],some (7,false)⟩,
 jR 13 12 7 false,
 iQ 14 7 13,iM 2 14])
 .ret))
def p132:PFunc:=⟨15,[(2,none)],none,b132⟩
def b133:PCode :=
 (.seq (.reg [
 iB 4 false])
 (.seq (.reg [
 iM 5 0,iM 6 1,iY 7 158 5 6,iO 8 .geq 7 0,iM 4 8])
 .ret))
def p133:PFunc:=⟨9,[(4,none)],none,b133⟩
def b134:PCode :=
 (.seq (.reg [
 iB 4 false])
 (.seq (.reg [
 iM 5 0,iM 6 1,iY 7 159 5 6,iO 8 .geq 7 0,iM 4 8])
 .ret))
def p134:PFunc:=⟨9,[(4,none)],none,b134⟩
def q135x0:PCode :=
 (.seq (.reg [
 iT 8 .lss 7 6])
 (.seq (.cond (.tmp 8)
 .skip
 (.exit 0))
 (.seq (.blk 1
 (.seq (.reg [
 iM 9 7,iA 10 1 5 7,iL 11 10,iM 3 9,iM 4 11])
 (.seq (.reg [
 iM 12 3,iO 13 .gtr 12 0,iM 14 13,jM 15 4 14 true,
 jM 16 0 14 true,
 jM 17 3 14 true,
 jO 18 .sub 17 1 14 true,
 jA 19 1 16 18 14 true,
 jL 20 19 14 true,
 jT 21 .leq 15 20 14 true,
 iP 22 14 21])
 (.cond (.tmp 22)
 (.seq (.reg [
 iB 2 false])
 .ret)
 .skip))))
 (.reg [
 iO 23 .add 7 1,iM 7 23]))))
def b135:PCode :=
 (.seq (.reg [
 iB 2 false])
 (.seq (.seq (.reg [
 iM 5 0,iK 6 5,iI 7 0])
 (.blk 0
 (.loop q135x0)))
 (.seq (.reg [
 iB 2 true])
 .ret)))
def p135:PFunc:=⟨24,[(2,none)],none,b135⟩
def b136:PCode :=
 (.seq (.reg [
 iB 3 false])
 (.seq (.reg [
 iN 4 3 1,iM 5 0,iY 6 137 4 5,iR 7 6,iM 3 7])
 .ret))
def p136:PFunc:=⟨8,[(3,none)],none,b136⟩
def b137:PCode :=
 (.seq (.reg [
 iV 2 75 0,iB 4 false])
 (.seq (.reg [
 iM 5 1,iF 6 0 2,iL 7 6,iK 8 7,iO 9 .sub 8 1,⟨some 10,.call (.func 131) [.tmp 5,.const (.int .i64 0),.tmp 9],none⟩,iM 4 10])
 .ret))
def p137:PFunc:=⟨11,[(4,none)],none,b137⟩
def b138:PCode :=
 (.seq (.reg [
 ⟨some 2,.box 50 (.tmp 0),none⟩,iH 4])
 (.seq (.seq (.reg [
 iM 6 1])
 (.blk 0
 (.rf (.tmp 6) [7]
 (.reg [
 iM 5 7])
 (.blk 1
 (.reg [
 iL 8 2,iM 9 5,⟨some 10,.lbs 22 1 [(.slice none 0 0)] 1 [(0,.tmp 9)],none⟩,⟨some 11,.app 22 1 (.tmp 8) (.tmp 10),none⟩,iS 1 2 11])))))
 (.seq (.reg [
 iL 12 2,iM 4 12])
 .ret)))
def p138:PFunc:=⟨13,[(4,none)],none,b138⟩
def b139:PCode :=
 (.seq (.reg [
 ⟨some 2,.box 82 (.tmp 0),none⟩])
 (.seq (.reg [
 ⟨some 6,.mkm (.agg [(.i .i64),(.i .i64)]),none⟩,⟨some 3,.alloc 217 (.map none),none⟩,iS 1 3 6])
 (.seq (.reg [
 ⟨some 4,.alloc 22 (.slice none 0 0),none⟩])
 (.seq (.reg [
 ⟨some 5,.alloc 32 .nilFunc,none⟩])
 (.seq (.reg [
 ⟨some 7,.v (.mkf (.func 140) 0) [.tmp 4,.tmp 1,.tmp 2,.tmp 3,.tmp 5],none⟩,iS 1 5 7])
 (.reg [
 iL 8 5,⟨some 9,.call (.tmp 8) [],none⟩]))))))
def p139:PFunc:=⟨10,[],none,b139⟩
def q140x0:PCode :=
 (.seq (.reg [
 iT 28 .lss 27 26])
 (.seq (.cond (.tmp 28)
 .skip
 (.exit 0))
 (.seq (.blk 1
 (.seq (.reg [
 iA 29 1 25 27,iL 30 29,⟨some 8,.alloc 3 (.int .i64 0),none⟩,iS 1 8 30])
 (.seq (.seq (.dreg [
 iL 31 6,iO 32 .gtr 31 0,iM 33 32,jL 34 8 33 true,
 jL 35 0 33 true,
 jL 36 6 33 true,
 jO 37 .sub 36 1 33 true,
 jA 38 1 35 37 33 true,
 jL 39 38 33 true,
 jT 40 .leq 34 39 33 true,
 iP 41 33 40,iM 42 41,jN 43 5 1 42 false,
 jL 44 6 42 false,
 jL 45 8 42 false,
 jL 46 3 42 false,
 ⟨some 47,.call (.func 141) [.tmp 43,.tmp 44,.tmp 45,.tmp 46],some (42,false)⟩,
 jR 48 47 42 false,
 iQ 49 42 48] [fE,fC,fC,fB,fB,fB,fA,fA,fB,fC,fC,fC,fB,fB,fB,fB,fD,fC,fC])
 (.cond (.tmp 49)
 (.exit 1)
 .skip))
 (.seq (.seq (.reg [
 iL 50 6,iO 51 .gtr 50 0])
 (.cond (.tmp 51)
 (.seq (.reg [
 ⟨some 53,.v (.mkf (.func 143) 0) [.tmp 1,.tmp 6,.tmp 0,.tmp 8],none⟩,iX 54 142 53,iM 52 54,iE 55 0 52,iE 56 1 52,⟨some 9,.lalloc 221 (.agg #[(.int .i64 0),(.int .i64 0)]),none⟩,iS 2 9 55,iM 10 56])
 (.seq (.reg [
 iM 57 10,iO 58 .neq 57 0])
 (.cond (.tmp 58)
 (.exit 1)
 .skip)))
 .skip))
 (.seq (.reg [
 iL 59 0,iL 60 8,⟨some 61,.lbs 3 1 [(.int .i64 0)] 1 [(0,.tmp 60)],none⟩,⟨some 62,.app 3 1 (.tmp 59) (.tmp 61),none⟩,iS 1 0 62])
 (.seq (.seq (.reg [
 iL 63 4,⟨some 64,.call (.tmp 63) [],none⟩,iR 65 64])
 (.cond (.tmp 65)
 (.seq (.reg [
 iB 5 false])
 .ret)
 .skip))
 (.reg [
 iL 66 0,iL 67 6,⟨some 68,.v (.sl 1 false true) [.tmp 66,.tmp 67],none⟩,iS 1 0 68])))))))
 (.reg [
 iO 69 .add 27 1,iM 27 69]))))
def b140:PCode :=
 (.seq (.reg [
 iB 5 false])
 (.seq (.reg [
 iL 11 0,iK 12 11,⟨some 6,.alloc 3 (.int .i64 0),none⟩,iS 1 6 12])
 (.seq (.seq (.reg [
 iL 13 6,iF 14 0 1,iF 15 2 14,iL 16 15,iK 17 16,iT 18 .eql 13 17])
 (.cond (.tmp 18)
 (.seq (.dreg [
 iL 19 2,iL 20 0,iX 21 66 20,⟨some 22,.call (.tmp 19) [.tmp 21],none⟩,iM 5 22] [fB,fB,⟨1,false,some [19]⟩,fD,fC])
 .ret)
 .skip))
 (.seq (.seq (.reg [
 iF 23 0 1,iF 24 1 23,iL 25 24,iK 26 25,iI 27 0])
 (.blk 0
 (.loop q140x0)))
 (.seq (.reg [
 iB 5 true])
 .ret)))))
def p140:PFunc:=⟨70,[(5,none)],none,b140⟩
def q141x0:PCode :=
 (.seq (.reg [
 iT 49 .lss 48 47])
 (.seq (.cond (.tmp 49)
 .skip
 (.exit 0))
 (.seq (.blk 1
 (.seq (.reg [
 iA 50 1 46 48,iL 51 50,⟨some 16,.alloc 3 (.int .i64 0),none⟩,iS 1 16 51])
 (.seq (.seq (.reg [
 iL 52 16,iL 53 6,iT 54 .leq 52 53])
 (.cond (.tmp 54)
 (.exit 1)
 .skip))
 (.seq (.reg [
 ⟨some 56,.v (.mkf (.func 161) 0) [.tmp 4,.tmp 5,.tmp 6,.tmp 16],none⟩,iX 57 142 56,iM 55 57,iE 58 0 55,iE 59 1 55,⟨some 17,.lalloc 221 (.agg #[(.int .i64 0),(.int .i64 0)]),none⟩,iS 2 17 58,iM 18 59])
 (.seq (.reg [
 iM 60 18,iO 61 .eql 60 0,iM 62 61,jN 63 5 4 62 true,
 jL 64 5 62 true,
 jO 65 .add 64 1 62 true,
 jL 66 16 62 true,
 jM 67 3 62 true,
 ⟨some 68,.call (.func 141) [.tmp 63,.tmp 65,.tmp 66,.tmp 67],some (62,true)⟩,
 iP 69 62 68])
 (.cond (.tmp 69)
 (.seq (.reg [
 iB 12 true])
 (.exit 0))
 .skip))))))
 (.reg [
 iO 70 .add 48 1,iM 48 70]))))
def b141:PCode :=
 (.seq (.reg [
 ⟨some 4,.box 169 (.tmp 0),none⟩,⟨some 5,.box 3 (.tmp 1),none⟩,⟨some 6,.box 3 (.tmp 2),none⟩,iB 8 false])
 (.seq (.reg [
 iL 19 5,iL 20 6,⟨some 21,.v (.bld [(.int .i64 0),(.int .i64 0)] [(0,1),(1,1)]) [.tmp 19,.tmp 20],none⟩,⟨some 9,.lalloc 245 (.agg #[(.int .i64 0),(.int .i64 0)]),none⟩,iS 2 9 21])
 (.seq (.seq (.reg [
 iM 23 3,iN 24 2 9,⟨some 25,.mlk (.agg [(.i .i64),(.i .i64)]) (.bool false) true (.tmp 23) (.tmp 24),none⟩,iM 22 25,iE 26 0 22,iE 27 1 22,iM 10 26,iM 11 27])
 (.seq (.reg [
 iM 28 11])
 (.cond (.tmp 28)
 (.seq (.reg [
 iM 29 10,iM 8 29])
 .ret)
 .skip)))
 (.seq (.reg [
 iB 12 false])
 (.seq (.seq (.reg [
 iL 30 5,iF 31 0 4,iF 32 2 31,iL 33 32,iK 34 33,iO 35 .sub 34 1,iT 36 .eql 30 35])
 (.cond (.tmp 36)
 (.seq (.reg [
 ⟨some 38,.v (.mkf (.func 160) 0) [.tmp 4,.tmp 5,.tmp 6],none⟩,iX 39 142 38,iM 37 39,iE 40 0 37,iE 41 1 37,⟨some 13,.lalloc 221 (.agg #[(.int .i64 0),(.int .i64 0)]),none⟩,iS 2 13 40,iM 14 41])
 (.reg [
 iM 42 14,iO 43 .eql 42 0,iM 12 43]))
 (.seq (.reg [
 iF 44 0 4,iF 45 1 44,iL 46 45,iK 47 46,iI 48 0])
 (.blk 0
 (.loop q141x0)))))
 (.seq (.reg [
 iM 71 3,iN 72 2 9,iM 73 12,⟨none,.mup (.agg [(.i .i64),(.i .i64)]) (.tmp 71) (.tmp 72) (.tmp 73),none⟩])
 (.seq (.reg [
 iM 74 12,iM 8 74])
 .ret)))))))
def p141:PFunc:=⟨75,[(8,none)],none,b141⟩
def b142:PCode :=
 (.seq (.reg [
 ⟨some 2,.alloc 221 (.agg #[(.int .i64 0),(.int .i64 0)]),none⟩,⟨some 3,.alloc 34 (.int .i64 0),none⟩])
 (.seq (.reg [
 ⟨some 4,.v (.mkf (.func 162) 0) [.tmp 2,.tmp 3],none⟩,⟨none,.dfr (.tmp 4) [],none⟩])
 (.seq (.reg [
 iM 5 0,⟨some 6,.call (.tmp 5) [],none⟩])
 (.seq (.reg [
 ⟨some 7,.v (.bld [(.int .i64 0),(.int .i64 0)] []) [],none⟩,iS 2 2 7,⟨none,.st 1 (.tmp 3) (.const (.int .i64 0)),none⟩])
 .ret))))
def p142:PFunc:=⟨8,[(2,some (some 2)),(3,some none)],none,b142⟩
def b143:PCode :=
 (.dreg [
 iN 4 5 0,iL 5 1,iO 6 .sub 5 1,iL 7 2,iL 8 1,iO 9 .sub 8 1,iA 10 1 7 9,iL 11 10,iL 12 3,⟨some 13,.call (.func 144) [.tmp 4,.tmp 6,.tmp 11,.tmp 12,.const (.bool true)],none⟩] [fB,fB,fA,fB,fB,fA,fA,fB,fB,fD])
def p143:PFunc:=⟨14,[],none,b143⟩
def b144:PCode :=
 (.seq (.reg [
 iV 5 169 0])
 (.seq (.dreg [
 iN 12 5 5,iM 13 2,iM 14 3,iZ 15 163 12 13 14,iF 16 0 5,iF 17 2 16,iL 18 17,iM 19 1,iA 20 2 18 19,iN 21 2 20,⟨some 10,.lalloc 25 (.agg #[(.int .i64 0),(.int .i64 0)]),none⟩,⟨some 11,.lalloc 130 (.agg #[(.int .i64 0),(.int .i64 0)]),none⟩,iS 2 10 15,iS 2 11 21] [⟨7,false,none⟩,fA,fA,fB,fA,fA,⟨7,false,none⟩,fA,fA,fB,⟨12,false,none⟩,⟨13,false,none⟩,⟨12,false,none⟩,⟨13,true,none⟩])
 (.seq (.seq (.reg [
 iF 22 0 10,iL 23 22,iF 24 0 11,iL 25 24,iT 26 .lss 23 25])
 (.cond (.tmp 26)
 (.reg [
 iM 27 1,⟨some 28,.v (.bld [(.int .i64 0),(.int .i64 0)] [(0,1),(1,1)]) [.tmp 27,.const (.int .i64 1)],none⟩,⟨some 29,.v (.mki 221) [.tmp 28],none⟩,⟨none,.pnc (.tmp 29),none⟩])
 .skip))
 (.seq (.reg [
 iM 30 4,iM 31 30,jF 32 1 10 31 true,
 jL 33 32 31 true,
 jF 34 1 11 31 true,
 jL 35 34 31 true,
 jT 36 .gtr 33 35 31 true,
 iP 37 31 36])
 (.cond (.tmp 37)
 (.reg [
 iM 38 1,⟨some 39,.v (.bld [(.int .i64 0),(.int .i64 0)] [(0,1),(1,1)]) [.tmp 38,.const (.int .i64 2)],none⟩,⟨some 40,.v (.mki 221) [.tmp 39],none⟩,⟨none,.pnc (.tmp 40),none⟩])
 .skip)))))
def p144:PFunc:=⟨41,[],none,b144⟩
def b145:PCode :=
 (.seq (.reg [
 iB 4 false])
 (.seq (.reg [
 iM 5 0,iM 6 1,iY 7 164 5 6,iO 8 .geq 7 0,iM 4 8])
 .ret))
def p145:PFunc:=⟨9,[(4,none)],none,b145⟩
def b146:PCode :=
 (.blk 0
 (.seq (.reg [
 ⟨some 7,.v (.nl .iface false) [.tmp 5],none⟩])
 (.cond (.tmp 7)
 (.reg [
 iM 1 5])
 (.seq (.reg [
 ⟨some 8,.v (.tas 186 (.agg #[(.int .i64 0)])) [.tmp 5],none⟩,iE 9 1 8,iE 10 0 8])
 (.cond (.tmp 9)
 (.seq (.reg [
 ⟨some 2,.lalloc 186 (.agg #[(.int .i64 0)]),none⟩,iS 1 2 10])
 (.reg [
 ⟨none,.st 1 (.tmp 0) (.const (.int .i64 5)),none⟩]))
 (.seq (.reg [
 ⟨some 11,.v (.tas 227 (.agg #[(.string ⟨#[]⟩)])) [.tmp 5],none⟩,iE 12 1 11,iE 13 0 11])
 (.cond (.tmp 12)
 (.seq (.reg [
 ⟨some 3,.lalloc 227 (.agg #[(.string ⟨#[]⟩)]),none⟩,iS 1 3 13])
 (.reg [
 ⟨none,.st 1 (.tmp 0) (.const (.int .i64 4)),none⟩]))
 (.seq (.reg [
 iM 4 5])
 (.reg [
 iM 6 4,⟨none,.pnc (.tmp 6),none⟩])))))))))
def p146:PFunc:=⟨14,[],(some 5),b146⟩
def q147x0:PCode :=
 (.seq (.reg [
 iT 14 .lss 13 12])
 (.seq (.cond (.tmp 14)
 .skip
 (.exit 0))
 (.seq (.blk 1
 (.seq (.reg [
 iA 15 2 11 13,iN 16 2 15,⟨some 9,.lalloc 229 (.agg #[(.int .i64 0),(.int .i64 0)]),none⟩,iS 2 9 16])
 (.dreg [
 iM 17 7,iF 18 0 3,iF 19 0 18,iL 20 19,iN 21 11 3,iN 22 2 9,iY 23 165 21 22,iA 24 1 20 23,iL 25 24,⟨some 26,.lbs 3 1 [(.int .i64 0)] 1 [(0,.tmp 25)],none⟩,⟨some 27,.app 3 1 (.tmp 17) (.tmp 26),none⟩,iM 7 27] [fA,fA,fA,⟨5,false,none⟩,⟨5,true,none⟩,⟨11,true,none⟩,⟨1,true,some [17,18,19,20]⟩,fC,fE,⟨28,true,none⟩,fE,fC])))
 (.reg [
 iO 28 .add 13 1,iM 13 28]))))
def b147:PCode :=
 (.seq (.reg [
 iV 3 79 0,iV 4 183 1,iI 6 0])
 (.seq (.reg [
 iH 7])
 (.seq (.seq (.reg [
 iF 10 0 4,iL 11 10,iK 12 11,iI 13 0])
 (.blk 0
 (.loop q147x0)))
 (.seq (.seq (.reg [
 iF 29 1 4,iL 30 29])
 (.cond (.tmp 30)
 (.reg [
 iM 31 7,iF 32 0 3,iF 33 6 32,iL 34 33,⟨some 35,.lbs 3 1 [(.int .i64 0)] 1 [(0,.tmp 34)],none⟩,⟨some 36,.app 3 1 (.tmp 31) (.tmp 35),none⟩,iM 7 36])
 .skip))
 (.seq (.reg [
 iM 37 7,iX 38 166 37,iM 6 38])
 .ret)))))
def p147:PFunc:=⟨39,[(6,none)],none,b147⟩
def q148x0:PCode :=
 (.seq (.reg [
 iT 14 .lss 13 12])
 (.seq (.cond (.tmp 14)
 .skip
 (.exit 0))
 (.seq (.blk 1
 (.seq (.reg [
 iM 15 13,iA 16 2 11 13,iN 17 2 16,⟨some 9,.lalloc 229 (.agg #[(.int .i64 0),(.int .i64 0)]),none⟩,iM 8 15,iS 2 9 17])
 (.seq (.reg [
 iM 18 8,iO 19 .gtr 18 0])
 (.cond (.tmp 19)
 (.dreg [
 iM 20 7,iN 21 11 3,iF 22 0 4,iL 23 22,iM 24 8,iO 25 .sub 24 1,iA 26 2 23 25,iN 27 2 26,iN 28 2 9,iM 29 2,⟨some 30,.call (.func 167) [.tmp 21,.tmp 27,.tmp 28,.tmp 29],none⟩,⟨some 31,.lbs 3 1 [(.int .i64 0)] 1 [(0,.tmp 30)],none⟩,⟨some 32,.app 3 1 (.tmp 20) (.tmp 31),none⟩,iM 7 32] [fA,⟨5,false,none⟩,fC,⟨6,true,none⟩,fC,fC,fC,fE,⟨11,false,none⟩,fA,⟨1,true,some [20]⟩,⟨33,true,none⟩,fE,fC])
 .skip))))
 (.reg [
 iO 33 .add 13 1,iM 13 33]))))
def b148:PCode :=
 (.seq (.reg [
 iV 3 79 0,iV 4 183 1,iI 6 0])
 (.seq (.reg [
 iH 7])
 (.seq (.seq (.reg [
 iF 10 0 4,iL 11 10,iK 12 11,iI 13 0])
 (.blk 0
 (.loop q148x0)))
 (.seq (.seq (.reg [
 iF 34 1 4,iL 35 34])
 (.cond (.tmp 35)
 (.reg [
 iM 36 7,iF 37 0 3,iF 38 2 37,iN 39 2 38,iM 40 2,iY 41 168 39 40,⟨some 42,.lbs 3 1 [(.int .i64 0)] 1 [(0,.tmp 41)],none⟩,⟨some 43,.app 3 1 (.tmp 36) (.tmp 42),none⟩,iM 7 43])
 .skip))
 (.seq (.reg [
 iM 44 7,iX 45 166 44,iM 6 45])
 .ret)))))
def p148:PFunc:=⟨46,[(6,none)],none,b148⟩
def q155x0:PCode :=
 (.seq (.reg [
 iT 9 .lss 8 7])
 (.seq (.cond (.tmp 9)
 .skip
 (.exit 0))
 (.seq (.blk 1
 (.seq (.reg [
 iA 10 1 6 8,iL 11 10,iM 5 11])
 (.reg [
 iM 12 3,iM 13 5,iT 14 .add 12 13,iM 3 14])))
 (.reg [
 iO 15 .add 8 1,iM 8 15]))))
def b155:PCode :=
 (.seq (.reg [
 iI 2 0])
 (.seq (.reg [
 iI 3 0])
 (.seq (.seq (.reg [
 iM 6 0,iK 7 6,iI 8 0])
 (.blk 0
 (.loop q155x0)))
 (.seq (.reg [
 iM 16 3,iM 2 16])
 .ret))))
def p155:PFunc:=⟨17,[(2,none)],none,b155⟩
def b156:PCode :=
 (.seq (.reg [
 iV 2 55 0,iB 4 false])
 (.seq (.reg [
 iM 5 1,iF 6 0 2,iL 7 6,iO 8 .sub 7 1,⟨some 9,.call (.func 84) [.tmp 5,.const (.int .i64 0),.tmp 8],none⟩,iM 4 9])
 .ret))
def p156:PFunc:=⟨10,[(4,none)],none,b156⟩
def b157:PCode :=
 (.seq (.reg [
 iV 3 120 0,iI 6 0])
 (.seq (.seq (.reg [
 iN 10 7 3,iM 11 1,iY 12 169 10 11,iM 9 12,iE 13 0 9,iE 14 1 9,iM 7 13,iM 8 14])
 (.seq (.reg [
 iM 15 8])
 (.cond (.tmp 15)
 (.seq (.reg [
 iN 16 7 3,iM 17 7,iM 18 2,iZ 19 94 16 17 18,iM 6 19])
 .ret)
 .skip)))
 (.seq (.reg [
 iI 6 0])
 .ret)))
def p157:PFunc:=⟨20,[(6,none)],none,b157⟩
def q158x0:PCode :=
 (.seq (.reg [
 iT 9 .lss 8 7])
 (.seq (.cond (.tmp 9)
 .skip
 (.exit 0))
 (.seq (.blk 1
 (.seq (.reg [
 iM 10 8,iM 5 10])
 (.seq (.reg [
 iM 11 1,iM 12 0,iM 13 5,iA 14 2 12 13,iN 15 2 14,⟨some 16,.call (.tmp 11) [.tmp 15],none⟩])
 (.cond (.tmp 16)
 (.seq (.reg [
 iM 17 5,iM 4 17])
 .ret)
 .skip))))
 (.reg [
 iO 18 .add 8 1,iM 8 18]))))
def b158:PCode :=
 (.seq (.reg [
 iI 4 0])
 (.seq (.seq (.reg [
 iM 6 0,iK 7 6,iI 8 0])
 (.blk 0
 (.loop q158x0)))
 (.seq (.reg [
 iI 4 (-1)])
 .ret)))
def p158:PFunc:=⟨19,[(4,none)],none,b158⟩
def q159x0:PCode :=
 (.seq (.reg [
 iT 9 .lss 8 7])
 (.seq (.cond (.tmp 9)
 .skip
 (.exit 0))
 (.seq (.blk 1
 (.seq (.reg [
 iM 10 8,iM 5 10])
 (.seq (.reg [
 iM 11 1,iM 12 0,iM 13 5,iA 14 2 12 13,iN 15 2 14,⟨some 16,.call (.tmp 11) [.tmp 15],none⟩])
 (.cond (.tmp 16)
 (.seq (.reg [
 iM 17 5,iM 4 17])
 .ret)
 .skip))))
 (.reg [
 iO 18 .add 8 1,iM 8 18]))))
def b159:PCode :=
 (.seq (.reg [
 iI 4 0])
 (.seq (.seq (.reg [
 iM 6 0,iK 7 6,iI 8 0])
 (.blk 0
 (.loop q159x0)))
 (.seq (.reg [
 iI 4 (-1)])
 .ret)))
def p159:PFunc:=⟨19,[(4,none)],none,b159⟩
def b160:PCode :=
 (.reg [
 iN 3 5 0,iL 4 1,iL 5 2,iF 6 0 0,iF 7 0 6,iL 8 7,iK 9 8,⟨some 10,.call (.func 144) [.tmp 3,.tmp 4,.tmp 5,.tmp 9,.const (.bool false)],none⟩])
def p160:PFunc:=⟨11,[],none,b160⟩
def b161:PCode :=
 (.reg [
 iN 4 5 0,iL 5 1,iL 6 2,iL 7 3,⟨some 8,.call (.func 144) [.tmp 4,.tmp 5,.tmp 6,.tmp 7,.const (.bool true)],none⟩])
def p161:PFunc:=⟨9,[],none,b161⟩
def b162:PCode :=
 (.blk 0
 (.seq (.reg [
 ⟨some 8,.v (.nl .iface false) [.tmp 6],none⟩])
 (.cond (.tmp 8)
 (.reg [
 iM 2 6])
 (.seq (.reg [
 ⟨some 9,.v (.tas 221 (.agg #[(.int .i64 0),(.int .i64 0)])) [.tmp 6],none⟩,iE 10 1 9,iE 11 0 9])
 (.cond (.tmp 10)
 (.seq (.reg [
 ⟨some 3,.lalloc 221 (.agg #[(.int .i64 0),(.int .i64 0)]),none⟩,iS 2 3 11])
 (.reg [
 iN 12 2 3,iS 2 0 12,⟨none,.st 1 (.tmp 1) (.const (.int .i64 7)),none⟩]))
 (.seq (.reg [
 ⟨some 13,.v (.tas 248 (.agg #[(.string ⟨#[]⟩)])) [.tmp 6],none⟩,iE 14 1 13,iE 15 0 13])
 (.cond (.tmp 14)
 (.seq (.reg [
 ⟨some 4,.lalloc 248 (.agg #[(.string ⟨#[]⟩)]),none⟩,iS 1 4 15])
 (.reg [
 ⟨none,.st 1 (.tmp 1) (.const (.int .i64 4)),none⟩]))
 (.seq (.reg [
 iM 5 6])
 (.reg [
 iM 7 5,⟨none,.pnc (.tmp 7),none⟩])))))))))
def p162:PFunc:=⟨16,[],(some 6),b162⟩
def b163:PCode :=
 (.seq (.reg [
 iV 3 169 0,⟨some 6,.lalloc 25 (.agg #[(.int .i64 0),(.int .i64 0)]),none⟩])
 (.seq (.reg [
 iN 8 5 3,⟨some 9,.v (.mkf (.func 170) 1) [.tmp 8],none⟩,iN 10 5 3,⟨some 11,.v (.mkf (.func 171) 1) [.tmp 10],none⟩,⟨some 12,.v (.bld [.nilFunc,.nilFunc] [(0,1),(1,1)]) [.tmp 9,.tmp 11],none⟩,⟨some 7,.lalloc 254 (.agg #[.nilFunc,.nilFunc]),none⟩,iS 2 7 12])
 (.seq (.dreg [
 ⟨some 13,.v (.iaa 1 2) [.tmp 7,.const (.int .i64 0)],none⟩,iL 14 13,iM 15 1,iM 16 2,⟨some 17,.call (.tmp 14) [.tmp 15,.tmp 16],none⟩,⟨some 18,.v (.iaa 1 2) [.tmp 7,.const (.int .i64 1)],none⟩,iL 19 18,iM 20 1,iM 21 2,⟨some 22,.call (.tmp 19) [.tmp 20,.tmp 21],none⟩,⟨some 23,.v (.bld [(.int .i64 0),(.int .i64 0)] [(0,1),(1,1)]) [.tmp 17,.tmp 22],none⟩,iS 2 6 23] [fC,⟨9,true,none⟩,fC,fC,fE,fA,⟨9,false,none⟩,fA,fA,fD,fC,⟨8,true,none⟩])
 .ret)))
def p163:PFunc:=⟨24,[(6,some (some 2))],none,b163⟩
def q164x0:PCode :=
 (.seq (.reg [
 iT 9 .lss 8 7])
 (.seq (.cond (.tmp 9)
 .skip
 (.exit 0))
 (.seq (.blk 1
 (.seq (.reg [
 iM 10 8,iM 5 10])
 (.seq (.reg [
 iM 11 1,iM 12 0,iM 13 5,iA 14 1 12 13,iL 15 14,iT 16 .eql 11 15])
 (.cond (.tmp 16)
 (.seq (.reg [
 iM 17 5,iM 4 17])
 .ret)
 .skip))))
 (.reg [
 iO 18 .add 8 1,iM 8 18]))))
def b164:PCode :=
 (.seq (.reg [
 iI 4 0])
 (.seq (.seq (.reg [
 iM 6 0,iK 7 6,iI 8 0])
 (.blk 0
 (.loop q164x0)))
 (.seq (.reg [
 iI 4 (-1)])
 .ret)))
def p164:PFunc:=⟨19,[(4,none)],none,b164⟩
def b165:PCode :=
 (.seq (.reg [
 iV 2 79 0,iV 3 229 1,iI 4 0])
 (.seq (.dreg [
 iF 5 0 2,iF 6 7 5,iL 7 6,iF 8 0 3,iL 9 8,iA 10 3 7 9,iF 11 0 10,iL 12 11,iF 13 1 3,iL 14 13,iA 15 1 12 14,iL 16 15,iM 4 16] [fC,fC,⟨4,true,none⟩,fC,⟨5,true,none⟩,fC,fC,fE,fA,⟨5,false,none⟩,fC,fE,fC])
 .ret))
def p165:PFunc:=⟨17,[(4,none)],none,b165⟩
def q166x0:PCode :=
 (.seq (.reg [
 iT 9 .lss 8 7])
 (.seq (.cond (.tmp 9)
 .skip
 (.exit 0))
 (.seq (.blk 1
 (.seq (.reg [
 iA 10 1 6 8,iL 11 10,iM 5 11])
 (.reg [
 iM 12 3,iM 13 5,iT 14 .add 12 13,iM 3 14])))
 (.reg [
 iO 15 .add 8 1,iM 8 15]))))
def b166:PCode :=
 (.seq (.reg [
 iI 2 0])
 (.seq (.reg [
 iI 3 0])
 (.seq (.seq (.reg [
 iM 6 0,iK 7 6,iI 8 0])
 (.blk 0
 (.loop q166x0)))
 (.seq (.reg [
 iM 16 3,iM 2 16])
 .ret))))
def p166:PFunc:=⟨17,[(2,none)],none,b166⟩
def b167:PCode :=
 (.seq (.reg [
 iV 4 79 0,iV 5 229 1,iV 6 229 2,iI 8 0])
 (.seq (.seq (.reg [
 iF 11 0 5,iL 12 11,iF 13 0 6,iL 14 13,iT 15 .neq 12 14])
 (.cond (.tmp 15)
 (.seq (.reg [
 iF 16 0 4,iF 17 4 16,iN 18 2 17,iM 19 3,iY 20 168 18 19,iM 8 20])
 .ret)
 .skip))
 (.seq (.seq (.dreg [
 iF 22 10 4,iL 23 22,iN 24 11 4,iN 25 2 5,iY 26 165 24 25,iN 27 11 4,iN 28 2 6,iY 29 165 27 28,⟨some 30,.v (.bld [(.int .i64 0),(.int .i64 0)] [(0,1),(1,1)]) [.tmp 26,.tmp 29],none⟩,⟨some 31,.mlk (.agg [(.i .i64),(.i .i64)]) (.agg #[(.int .i64 0),(.int .i64 0)]) true (.tmp 23) (.tmp 30),none⟩,iM 21 31,iE 32 0 21,iE 33 1 21,⟨some 9,.lalloc 25 (.agg #[(.int .i64 0),(.int .i64 0)]),none⟩,iS 2 9 32,iM 10 33] [fA,⟨6,false,none⟩,⟨6,true,none⟩,⟨7,true,none⟩,fE,⟨6,false,none⟩,⟨8,false,none⟩,fE,fC,fE,fC,fC,fC,⟨11,false,none⟩,⟨11,true,none⟩,fC])
 (.seq (.reg [
 iM 34 10])
 (.cond (.tmp 34)
 (.seq (.reg [
 iN 35 2 9,iM 36 3,iY 37 168 35 36,iM 8 37])
 .ret)
 .skip)))
 (.seq (.reg [
 iF 38 0 4,iF 39 2 38,iN 40 2 39,iM 41 3,iY 42 168 40 41,iM 8 42])
 .ret))))
def p167:PFunc:=⟨43,[(8,none)],none,b167⟩
def b168:PCode :=
 (.seq (.reg [
 iV 2 25 0,iI 4 0])
 (.seq (.reg [
 iF 5 0 2,iL 6 5,iF 7 1 2,iL 8 7,iF 9 0 2,iL 10 9,iT 11 .sub 8 10,iM 12 1,iT 13 .mul 11 12,iO 14 .quo 13 10,iT 15 .add 6 14,iM 4 15])
 .ret))
def p168:PFunc:=⟨16,[(4,none)],none,b168⟩
def q169x0:PCode :=
 (.seq (.seq (.reg [
 iM 9 6,iO 10 .geq 9 0])
 (.cond (.tmp 10)
 .skip
 (.exit 0)))
 (.seq (.blk 1
 (.seq (.dreg [
 iF 13 3 2,iL 14 13,iM 15 6,iA 16 1 14 15,iL 17 16,iF 18 3 2,iL 19 18,iM 20 1,iA 21 1 19 20,iL 22 21,iT 23 .eql 17 22] [fA,⟨4,false,none⟩,fA,fA,fB,fA,⟨4,false,none⟩,fA,fA,fB,fC])
 (.cond (.tmp 23)
 (.seq (.reg [
 iM 24 6,iM 4 24,iB 5 true])
 .ret)
 .skip)))
 (.reg [
 iM 11 6,iO 12 .sub 11 1,iM 6 12])))
def b169:PCode :=
 (.seq (.reg [
 iV 2 120 0,iI 4 0,iB 5 false])
 (.seq (.seq (.reg [
 iM 7 1,iO 8 .sub 7 1,iM 6 8])
 (.blk 0
 (.loop q169x0)))
 (.seq (.reg [
 iI 4 0,iB 5 false])
 .ret)))
def p169:PFunc:=⟨25,[(4,none),(5,none)],none,b169⟩
def b170:PCode :=
 (.seq (.reg [
 iV 3 169 0,iI 6 0])
 (.seq (.dreg [
 iF 7 3 3,iL 8 7,iM 9 2,iA 10 1 8 9,iL 11 10,iF 12 3 3,iL 13 12,iM 14 1,iA 15 1 13 14,iL 16 15,iT 17 .sub 11 16,iM 6 17] [fA,⟨5,false,none⟩,fA,fA,fB,fA,⟨5,false,none⟩,fA,fA,fB,fC,fC])
 .ret))
def p170:PFunc:=⟨18,[(6,none)],none,b170⟩
def b171:PCode :=
 (.seq (.reg [
 iV 3 169 0,iI 6 0])
 (.seq (.dreg [
 iF 7 4 3,iL 8 7,iM 9 2,iA 10 1 8 9,iL 11 10,iF 12 4 3,iL 13 12,iM 14 1,iA 15 1 13 14,iL 16 15,iT 17 .sub 11 16,iM 6 17] [fA,⟨5,false,none⟩,fA,fA,fB,fA,⟨5,false,none⟩,fA,fA,fB,fC,fC])
 .ret))
def p171:PFunc:=⟨18,[(6,none)],none,b171⟩
def PP (f:FuncId):Option PFunc:=if Nat.blt f 93=true then (if Nat.blt f 51=true then (if Nat.blt f 29=true then (if Nat.blt f 16=true then (if Nat.blt f 9=true then (if Nat.blt f 6=true then (if f=4 then some p4 else none) else (if Nat.blt f 7=true then (if f=6 then some p6 else none) else (if f=7 then some p7 else none))) else (if Nat.blt f 14=true then (if Nat.blt f 13=true then (if f=9 then some p9 else none) else (if f=13 then some p13 else none)) else (if Nat.blt f 15=true then (if f=14 then some p14 else none) else (if f=15 then some p15 else none)))) else (if Nat.blt f 25=true then (if Nat.blt f 23=true then (if Nat.blt f 17=true then (if f=16 then some p16 else none) else (if f=17 then some p17 else none)) else (if Nat.blt f 24=true then (if f=23 then some p23 else none) else (if f=24 then some p24 else none))) else (if Nat.blt f 27=true then (if Nat.blt f 26=true then (if f=25 then some p25 else none) else (if f=26 then some p26 else none)) else (if Nat.blt f 28=true then (if f=27 then some p27 else none) else (if f=28 then some p28 else none))))) else (if Nat.blt f 43=true then (if Nat.blt f 39=true then (if Nat.blt f 37=true then (if Nat.blt f 36=true then (if f=29 then some p29 else none) else (if f=36 then some p36 else none)) else (if Nat.blt f 38=true then (if f=37 then some p37 else none) else (if f=38 then some p38 else none))) else (if Nat.blt f 41=true then (if Nat.blt f 40=true then (if f=39 then some p39 else none) else (if f=40 then some p40 else none)) else (if Nat.blt f 42=true then (if f=41 then some p41 else none) else (if f=42 then some p42 else none)))) else (if Nat.blt f 47=true then (if Nat.blt f 45=true then (if Nat.blt f 44=true then (if f=43 then some p43 else none) else (if f=44 then some p44 else none)) else (if Nat.blt f 46=true then (if f=45 then some p45 else none) else (if f=46 then some p46 else none))) else (if Nat.blt f 49=true then (if Nat.blt f 48=true then (if f=47 then some p47 else none) else (if f=48 then some p48 else none)) else (if Nat.blt f 50=true then (if f=49 then some p49 else none) else (if f=50 then some p50 else none)))))) else (if Nat.blt f 68=true then (if Nat.blt f 60=true then (if Nat.blt f 56=true then (if Nat.blt f 54=true then (if Nat.blt f 53=true then (if f=51 then some p51 else none) else (if f=53 then some p53 else none)) else (if Nat.blt f 55=true then (if f=54 then some p54 else none) else (if f=55 then some p55 else none))) else (if Nat.blt f 58=true then (if Nat.blt f 57=true then (if f=56 then some p56 else none) else (if f=57 then some p57 else none)) else (if Nat.blt f 59=true then (if f=58 then some p58 else none) else (if f=59 then some p59 else none)))) else (if Nat.blt f 64=true then (if Nat.blt f 62=true then (if Nat.blt f 61=true then (if f=60 then some p60 else none) else (if f=61 then some p61 else none)) else (if Nat.blt f 63=true then (if f=62 then some p62 else none) else (if f=63 then some p63 else none))) else (if Nat.blt f 66=true then (if Nat.blt f 65=true then (if f=64 then some p64 else none) else (if f=65 then some p65 else none)) else (if Nat.blt f 67=true then (if f=66 then some p66 else none) else (if f=67 then some p67 else none))))) else (if Nat.blt f 85=true then (if Nat.blt f 81=true then (if Nat.blt f 79=true then (if Nat.blt f 69=true then (if f=68 then some p68 else none) else (if f=69 then some p69 else none)) else (if Nat.blt f 80=true then (if f=79 then some p79 else none) else (if f=80 then some p80 else none))) else (if Nat.blt f 83=true then (if Nat.blt f 82=true then (if f=81 then some p81 else none) else (if f=82 then some p82 else none)) else (if Nat.blt f 84=true then (if f=83 then some p83 else none) else (if f=84 then some p84 else none)))) else (if Nat.blt f 89=true then (if Nat.blt f 87=true then (if Nat.blt f 86=true then (if f=85 then some p85 else none) else (if f=86 then some p86 else none)) else (if Nat.blt f 88=true then (if f=87 then some p87 else none) else (if f=88 then some p88 else none))) else (if Nat.blt f 91=true then (if Nat.blt f 90=true then (if f=89 then some p89 else none) else (if f=90 then some p90 else none)) else (if Nat.blt f 92=true then (if f=91 then some p91 else none) else (if f=92 then some p92 else none))))))) else (if Nat.blt f 134=true then (if Nat.blt f 108=true then (if Nat.blt f 100=true then (if Nat.blt f 96=true then (if Nat.blt f 94=true then (if f=93 then some p93 else none) else (if Nat.blt f 95=true then (if f=94 then some p94 else none) else (if f=95 then some p95 else none))) else (if Nat.blt f 98=true then (if Nat.blt f 97=true then (if f=96 then some p96 else none) else (if f=97 then some p97 else none)) else (if Nat.blt f 99=true then (if f=98 then some p98 else none) else (if f=99 then some p99 else none)))) else (if Nat.blt f 104=true then (if Nat.blt f 102=true then (if Nat.blt f 101=true then (if f=100 then some p100 else none) else (if f=101 then some p101 else none)) else (if Nat.blt f 103=true then (if f=102 then some p102 else none) else (if f=103 then some p103 else none))) else (if Nat.blt f 106=true then (if Nat.blt f 105=true then (if f=104 then some p104 else none) else (if f=105 then some p105 else none)) else (if Nat.blt f 107=true then (if f=106 then some p106 else none) else (if f=107 then some p107 else none))))) else (if Nat.blt f 126=true then (if Nat.blt f 112=true then (if Nat.blt f 110=true then (if Nat.blt f 109=true then (if f=108 then some p108 else none) else (if f=109 then some p109 else none)) else (if Nat.blt f 111=true then (if f=110 then some p110 else none) else (if f=111 then some p111 else none))) else (if Nat.blt f 124=true then (if Nat.blt f 123=true then (if f=112 then some p112 else none) else (if f=123 then some p123 else none)) else (if Nat.blt f 125=true then (if f=124 then some p124 else none) else (if f=125 then some p125 else none)))) else (if Nat.blt f 130=true then (if Nat.blt f 128=true then (if Nat.blt f 127=true then (if f=126 then some p126 else none) else (if f=127 then some p127 else none)) else (if Nat.blt f 129=true then (if f=128 then some p128 else none) else (if f=129 then some p129 else none))) else (if Nat.blt f 132=true then (if Nat.blt f 131=true then (if f=130 then some p130 else none) else (if f=131 then some p131 else none)) else (if Nat.blt f 133=true then (if f=132 then some p132 else none) else (if f=133 then some p133 else none)))))) else (if Nat.blt f 156=true then (if Nat.blt f 142=true then (if Nat.blt f 138=true then (if Nat.blt f 136=true then (if Nat.blt f 135=true then (if f=134 then some p134 else none) else (if f=135 then some p135 else none)) else (if Nat.blt f 137=true then (if f=136 then some p136 else none) else (if f=137 then some p137 else none))) else (if Nat.blt f 140=true then (if Nat.blt f 139=true then (if f=138 then some p138 else none) else (if f=139 then some p139 else none)) else (if Nat.blt f 141=true then (if f=140 then some p140 else none) else (if f=141 then some p141 else none)))) else (if Nat.blt f 146=true then (if Nat.blt f 144=true then (if Nat.blt f 143=true then (if f=142 then some p142 else none) else (if f=143 then some p143 else none)) else (if Nat.blt f 145=true then (if f=144 then some p144 else none) else (if f=145 then some p145 else none))) else (if Nat.blt f 148=true then (if Nat.blt f 147=true then (if f=146 then some p146 else none) else (if f=147 then some p147 else none)) else (if Nat.blt f 155=true then (if f=148 then some p148 else none) else (if f=155 then some p155 else none))))) else (if Nat.blt f 164=true then (if Nat.blt f 160=true then (if Nat.blt f 158=true then (if Nat.blt f 157=true then (if f=156 then some p156 else none) else (if f=157 then some p157 else none)) else (if Nat.blt f 159=true then (if f=158 then some p158 else none) else (if f=159 then some p159 else none))) else (if Nat.blt f 162=true then (if Nat.blt f 161=true then (if f=160 then some p160 else none) else (if f=161 then some p161 else none)) else (if Nat.blt f 163=true then (if f=162 then some p162 else none) else (if f=163 then some p163 else none)))) else (if Nat.blt f 168=true then (if Nat.blt f 166=true then (if Nat.blt f 165=true then (if f=164 then some p164 else none) else (if f=165 then some p165 else none)) else (if Nat.blt f 167=true then (if f=166 then some p166 else none) else (if f=167 then some p167 else none))) else (if Nat.blt f 170=true then (if Nat.blt f 169=true then (if f=168 then some p168 else none) else (if f=169 then some p169 else none)) else (if Nat.blt f 171=true then (if f=170 then some p170 else none) else (if f=171 then some p171 else none)))))))
def prims0:Prims:=fun _=>none
theorem P4:PP 4=some p4:=rfl
theorem B4:p4.body=b4:=rfl
theorem N4:p4.n=174:=rfl
theorem R4:p4.res=[(2,none)]:=rfl
theorem P6:PP 6=some p6:=rfl
theorem B6:p6.body=b6:=rfl
theorem N6:p6.n=15:=rfl
theorem R6:p6.res=[(6,none)]:=rfl
theorem P13:PP 13=some p13:=rfl
theorem B13:p13.body=b13:=rfl
theorem N13:p13.n=19:=rfl
theorem R13:p13.res=[(2,none),(3,none),(4,none)]:=rfl
theorem P16:PP 16=some p16:=rfl
theorem B16:p16.body=b16:=rfl
theorem N16:p16.n=26:=rfl
theorem R16:p16.res=[(4,none)]:=rfl
theorem P17:PP 17=some p17:=rfl
theorem B17:p17.body=b17:=rfl
theorem N17:p17.n=32:=rfl
theorem R17:p17.res=[(4,some none),(5,some none)]:=rfl
theorem P36:PP 36=some p36:=rfl
theorem B36:p36.body=b36:=rfl
theorem N36:p36.n=37:=rfl
theorem R36:p36.res=[(2,none)]:=rfl
theorem P37:PP 37=some p37:=rfl
theorem B37:p37.body=b37:=rfl
theorem N37:p37.n=19:=rfl
theorem R37:p37.res=[(2,none)]:=rfl
theorem P47:PP 47=some p47:=rfl
theorem B47:p47.body=b47:=rfl
theorem N47:p47.n=15:=rfl
theorem R47:p47.res=[(6,none)]:=rfl
theorem P48:PP 48=some p48:=rfl
theorem B48:p48.body=b48:=rfl
theorem N48:p48.n=4:=rfl
theorem R48:p48.res=[(2,none)]:=rfl
theorem P49:PP 49=some p49:=rfl
theorem B49:p49.body=b49:=rfl
theorem N49:p49.n=8:=rfl
theorem R49:p49.res=[(4,some (some 3))]:=rfl
theorem P50:PP 50=some p50:=rfl
theorem B50:p50.body=b50:=rfl
theorem N50:p50.n=9:=rfl
theorem R50:p50.res=[(4,some (some 7))]:=rfl
theorem P51:PP 51=some p51:=rfl
theorem B51:p51.body=b51:=rfl
theorem N51:p51.n=21:=rfl
theorem R51:p51.res=[(2,none)]:=rfl
theorem P60:PP 60=some p60:=rfl
theorem B60:p60.body=b60:=rfl
theorem N60:p60.n=9:=rfl
theorem R60:p60.res=[(4,none)]:=rfl
theorem P66:PP 66=some p66:=rfl
theorem B66:p66.body=b66:=rfl
theorem N66:p66.n=8:=rfl
theorem R66:p66.res=[(2,none)]:=rfl
theorem P79:PP 79=some p79:=rfl
theorem B79:p79.body=b79:=rfl
theorem N79:p79.n=63:=rfl
theorem R79:p79.res=[(4,none)]:=rfl
theorem P80:PP 80=some p80:=rfl
theorem B80:p80.body=b80:=rfl
theorem N80:p80.n=6:=rfl
theorem R80:p80.res=[(2,none)]:=rfl
theorem P81:PP 81=some p81:=rfl
theorem B81:p81.body=b81:=rfl
theorem N81:p81.n=43:=rfl
theorem R81:p81.res=[(4,none)]:=rfl
theorem P82:PP 82=some p82:=rfl
theorem B82:p82.body=b82:=rfl
theorem N82:p82.n=10:=rfl
theorem R82:p82.res=[(4,none)]:=rfl
theorem P92:PP 92=some p92:=rfl
theorem B92:p92.body=b92:=rfl
theorem N92:p92.n=7:=rfl
theorem R92:p92.res=[]:=rfl
theorem P93:PP 93=some p93:=rfl
theorem B93:p93.body=b93:=rfl
theorem N93:p93.n=42:=rfl
theorem R93:p93.res=[(5,none)]:=rfl
theorem P94:PP 94=some p94:=rfl
theorem B94:p94.body=b94:=rfl
theorem N94:p94.n=58:=rfl
theorem R94:p94.res=[(6,none)]:=rfl
theorem P95:PP 95=some p95:=rfl
theorem B95:p95.body=b95:=rfl
theorem N95:p95.n=17:=rfl
theorem R95:p95.res=[(2,none)]:=rfl
theorem P101:PP 101=some p101:=rfl
theorem B101:p101.body=b101:=rfl
theorem N101:p101.n=19:=rfl
theorem R101:p101.res=[(4,none)]:=rfl
theorem P127:PP 127=some p127:=rfl
theorem B127:p127.body=b127:=rfl
theorem N127:p127.n=7:=rfl
theorem R127:p127.res=[(2,none)]:=rfl
theorem P128:PP 128=some p128:=rfl
theorem B128:p128.body=b128:=rfl
theorem N128:p128.n=7:=rfl
theorem R128:p128.res=[(2,none)]:=rfl
theorem P129:PP 129=some p129:=rfl
theorem B129:p129.body=b129:=rfl
theorem N129:p129.n=37:=rfl
theorem R129:p129.res=[(6,none)]:=rfl
theorem P157:PP 157=some p157:=rfl
theorem B157:p157.body=b157:=rfl
theorem N157:p157.n=20:=rfl
theorem R157:p157.res=[(6,none)]:=rfl
theorem P169:PP 169=some p169:=rfl
theorem B169:p169.body=b169:=rfl
theorem N169:p169.n=25:=rfl
theorem R169:p169.res=[(4,none),(5,none)]:=rfl
end Go.Pi.Top
