/- The functions of benches, in the small language. -/
import Derived.Test.YtfndfpbdgjoilaaGreatDoorPiI
set_option linter.all false
set_option maxRecDepth 100000
namespace Go.Pi.Ben
open Go Go.Pi
abbrev iM (d:Nat)(s:Nat):PIns:=⟨some d,.v .mv [.tmp s],none⟩
abbrev jM (d:Nat)(s:Nat)(g:Nat)(h:Bool):PIns:=⟨some d,.v .mv [.tmp s],some (g,h)⟩
abbrev iL (d:Nat)(s:Nat):PIns:=⟨some d,.ld none (.tmp s),none⟩
abbrev jL (d:Nat)(s:Nat)(g:Nat)(h:Bool):PIns:=⟨some d,.ld none (.tmp s),some (g,h)⟩
abbrev iI (d:Nat)(n:Int):PIns:=⟨some d,.v .mv [.const (.int .i64 n)],none⟩
abbrev iF (d:Nat)(o s:Nat):PIns:=⟨some d,.v (.fa o) [.tmp s],none⟩
abbrev jF (d:Nat)(o s:Nat)(g:Nat)(h:Bool):PIns:=⟨some d,.v (.fa o) [.tmp s],some (g,h)⟩
abbrev iN (d:Nat)(n s:Nat):PIns:=⟨some d,.ld (some n) (.tmp s),none⟩
abbrev jN (d:Nat)(n s:Nat)(g:Nat)(h:Bool):PIns:=⟨some d,.ld (some n) (.tmp s),some (g,h)⟩
abbrev iE (d:Nat)(n s:Nat):PIns:=⟨some d,.v (.ext n) [.tmp s],none⟩
abbrev iW (d:Nat)(f:Nat):PIns:=⟨some d,.call (.func f) [],none⟩
abbrev jW (d:Nat)(f:Nat)(g:Nat)(h:Bool):PIns:=⟨some d,.call (.func f) [],some (g,h)⟩
abbrev iX (d:Nat)(f a:Nat):PIns:=⟨some d,.call (.func f) [.tmp a],none⟩
abbrev jX (d:Nat)(f a:Nat)(g:Nat)(h:Bool):PIns:=⟨some d,.call (.func f) [.tmp a],some (g,h)⟩
abbrev iY (d:Nat)(f a b:Nat):PIns:=⟨some d,.call (.func f) [.tmp a,.tmp b],none⟩
abbrev jY (d:Nat)(f a b:Nat)(g:Nat)(h:Bool):PIns:=⟨some d,.call (.func f) [.tmp a,.tmp b],some (g,h)⟩
abbrev iZ (d:Nat)(f a b c:Nat):PIns:=⟨some d,.call (.func f) [.tmp a,.tmp b,.tmp c],none⟩
abbrev jZ (d:Nat)(f a b c:Nat)(g:Nat)(h:Bool):PIns:=⟨some d,.call (.func f) [.tmp a,.tmp b,.tmp c],some (g,h)⟩
abbrev iK (d:Nat)(s:Nat):PIns:=⟨some d,.v .len [.tmp s],none⟩
abbrev jK (d:Nat)(s:Nat)(g:Nat)(h:Bool):PIns:=⟨some d,.v .len [.tmp s],some (g,h)⟩
abbrev iA (d:Nat)(k a b:Nat):PIns:=⟨some d,.v (.ia k) [.tmp a,.tmp b],none⟩
abbrev jA (d:Nat)(k a b:Nat)(g:Nat)(h:Bool):PIns:=⟨some d,.v (.ia k) [.tmp a,.tmp b],some (g,h)⟩
abbrev iB (d:Nat)(b:Bool):PIns:=⟨some d,.v .mv [.const (.bool b)],none⟩
abbrev iP (d:Nat)(a b:Nat):PIns:=⟨some d,.v .pick [.tmp a,.tmp b,.const (.bool false)],none⟩
abbrev jP (d:Nat)(a b:Nat)(g:Nat)(h:Bool):PIns:=⟨some d,.v .pick [.tmp a,.tmp b,.const (.bool false)],some (g,h)⟩
abbrev iQ (d:Nat)(a b:Nat):PIns:=⟨some d,.v .pick [.tmp a,.const (.bool true),.tmp b],none⟩
abbrev jQ (d:Nat)(a b:Nat)(g:Nat)(h:Bool):PIns:=⟨some d,.v .pick [.tmp a,.const (.bool true),.tmp b],some (g,h)⟩
abbrev iO (d:Nat)(o:BinOp)(s:Nat)(n:Int):PIns:=⟨some d,.v (.ib o) [.tmp s,.const (.int .i64 n)],none⟩
abbrev jO (d:Nat)(o:BinOp)(s:Nat)(n:Int)(g:Nat)(h:Bool):PIns:=⟨some d,.v (.ib o) [.tmp s,.const (.int .i64 n)],some (g,h)⟩
abbrev iT (d:Nat)(o:BinOp)(a b:Nat):PIns:=⟨some d,.v (.ib o) [.tmp a,.tmp b],none⟩
abbrev jT (d:Nat)(o:BinOp)(a b:Nat)(g:Nat)(h:Bool):PIns:=⟨some d,.v (.ib o) [.tmp a,.tmp b],some (g,h)⟩
abbrev iH (d:Nat) : PIns:=⟨some d,.v .mv [.const (.slice none 0 0)],none⟩
abbrev iR (d:Nat)(s:Nat):PIns:=⟨some d,.v .no [.tmp s],none⟩
abbrev jR (d:Nat)(s:Nat)(g:Nat)(h:Bool):PIns:=⟨some d,.v .no [.tmp s],some (g,h)⟩
abbrev iV (d:Nat)(t s:Nat):PIns:=⟨some d,.lbox t (.tmp s),none⟩
abbrev iS (n a s:Nat):PIns:=⟨none,.st n (.tmp a) (.tmp s),none⟩
abbrev fA:Flag:=⟨0,false,none⟩
abbrev fB:Flag:=⟨1,false,none⟩
abbrev fC:Flag:=⟨0,true,none⟩
abbrev fD:Flag:=⟨1,true,some []⟩
abbrev fE:Flag:=⟨1,true,none⟩

def b4:PCode :=
 (.seq (.reg [
 iV 2 25 0,iB 4 false])
 (.seq (.seq (.reg [
 iN 9 3 2,iX 10 31 9,iR 11 10,iM 12 11,jM 13 1 12 false,
 jX 14 22 13 12 false,
 jR 15 14 12 false,
 iQ 16 12 15])
 (.cond (.tmp 16)
 (.seq (.reg [
 iW 17 25,iM 4 17])
 .ret)
 .skip))
 (.seq (.reg [
 iN 19 3 2,iM 20 1,iY 21 32 19 20,iM 18 21,iE 22 0 18,iE 23 1 18,iM 5 22,iM 6 23])
 (.seq (.reg [
 iN 25 3 2,iM 26 1,iY 27 33 25 26,iM 24 27,iE 28 0 24,iE 29 1 24,iM 7 28,iM 8 29])
 (.seq (.seq (.reg [
 iN 30 3 2,iX 31 34 30,iR 32 31,iM 33 32,jN 34 3 2 33 false,
 jM 35 1 33 false,
 jY 36 23 34 35 33 false,
 jR 37 36 33 false,
 iQ 38 33 37])
 (.cond (.tmp 38)
 (.seq (.reg [
 iM 39 6,iO 40 .eql 39 2,iM 41 40,jM 42 5 41 true,
 jK 43 42 41 true,
 jO 44 .eql 43 0 41 true,
 iP 45 41 44,iM 46 45,jM 47 8 46 true,
 jO 48 .eql 47 2 46 true,
 iP 49 46 48,iM 50 49,jM 51 7 50 true,
 jK 52 51 50 true,
 jO 53 .eql 52 0 50 true,
 iP 54 50 53,iM 55 54,jW 56 25 55 true,
 iP 57 55 56,iM 4 57])
 .ret)
 .skip))
 (.seq (.reg [
 iM 58 6,iO 59 .eql 58 0,iM 60 59,jM 61 5 60 true,
 jN 62 3 2 60 true,
 jM 63 1 60 true,
 jY 64 36 62 63 60 true,
 jY 65 35 61 64 60 true,
 iP 66 60 65,iM 67 66,jM 68 8 67 true,
 jO 69 .eql 68 0 67 true,
 iP 70 67 69,iM 71 70,jM 72 7 71 true,
 jN 73 3 2 71 true,
 jM 74 1 71 true,
 jY 75 38 73 74 71 true,
 jY 76 37 72 75 71 true,
 iP 77 71 76,iM 78 77,jW 79 25 78 true,
 iP 80 78 79,iM 4 80])
 .ret))))))
def p4:PFunc:=⟨81,[(4,none)],none,b4⟩
def b17:PCode :=
 (.seq (.reg [
 iV 3 25 0,iB 6 false])
 (.seq (.seq (.reg [
 iN 13 3 3,iX 14 31 13,iR 15 14,iM 16 15,jM 17 1 16 false,
 jX 18 22 17 16 false,
 jR 19 18 16 false,
 iQ 20 16 19])
 (.cond (.tmp 20)
 (.seq (.reg [
 iW 21 25,iM 6 21])
 .ret)
 .skip))
 (.seq (.reg [
 iN 22 3 3,iX 23 64 22,iM 7 23])
 (.seq (.reg [
 iN 25 3 3,iM 26 1,iY 27 26 25 26,iM 24 27,iE 28 0 24,iE 29 1 24,iM 8 28,iM 9 29])
 (.seq (.reg [
 iN 31 3 3,iM 32 1,iM 33 2,iZ 34 40 31 32 33,iM 30 34,iE 35 0 30,iE 36 1 30,⟨some 10,.lalloc 37 (.agg #[(.int .i64 0),(.int .i64 0)]),none⟩,iS 2 10 35,iM 11 36])
 (.seq (.seq (.reg [
 iN 37 3 3,iX 38 34 37,iR 39 38])
 (.cond (.tmp 39)
 (.seq (.reg [
 iM 40 7,iO 41 .eql 40 2,iM 42 41,jM 43 9 42 true,
 jO 44 .eql 43 2 42 true,
 iP 45 42 44,iM 46 45,jM 47 8 46 true,
 jK 48 47 46 true,
 jO 49 .eql 48 0 46 true,
 iP 50 46 49,iM 51 50,jM 52 11 51 true,
 jO 53 .eql 52 2 51 true,
 iP 54 51 53,iM 55 54,jN 56 2 10 55 true,
 ⟨some 57,.v (.bld [(.int .i64 0),(.int .i64 0)] []) [],some (55,true)⟩,
 ⟨some 58,.v (.ag [(.i .i64),(.i .i64)] false) [.tmp 56,.tmp 57],some (55,true)⟩,
 iP 59 55 58,iM 60 59,jW 61 25 60 true,
 iP 62 60 61,iM 6 62])
 .ret)
 .skip))
 (.seq (.seq (.reg [
 iN 63 3 3,iM 64 1,iY 65 23 63 64,iR 66 65])
 (.cond (.tmp 66)
 (.seq (.reg [
 iM 67 7,iO 68 .eql 67 0,iM 69 68,jM 70 9 69 true,
 jO 71 .eql 70 2 69 true,
 iP 72 69 71,iM 73 72,jM 74 8 73 true,
 jK 75 74 73 true,
 jO 76 .eql 75 0 73 true,
 iP 77 73 76,iM 78 77,jM 79 11 78 true,
 jO 80 .eql 79 2 78 true,
 iP 81 78 80,iM 82 81,jN 83 2 10 82 true,
 ⟨some 84,.v (.bld [(.int .i64 0),(.int .i64 0)] []) [],some (82,true)⟩,
 ⟨some 85,.v (.ag [(.i .i64),(.i .i64)] false) [.tmp 83,.tmp 84],some (82,true)⟩,
 iP 86 82 85,iM 87 86,jW 88 25 87 true,
 iP 89 87 88,iM 6 89])
 .ret)
 .skip))
 (.seq (.reg [
 iN 90 3 3,iM 91 1,iY 92 65 90 91,iM 12 92])
 (.seq (.seq (.reg [
 iM 93 7,iO 94 .neq 93 0,iM 95 94,jM 96 9 95 false,
 jO 97 .neq 96 0 95 false,
 iQ 98 95 97,iM 99 98,jM 100 8 99 false,
 jM 101 12 99 false,
 jY 102 63 100 101 99 false,
 jR 103 102 99 false,
 iQ 104 99 103])
 (.cond (.tmp 104)
 (.seq (.reg [
 iB 6 false])
 .ret)
 .skip))
 (.seq (.seq (.reg [
 iN 105 3 3,iM 106 2,iY 107 39 105 106,iR 108 107])
 (.cond (.tmp 108)
 (.seq (.reg [
 iM 109 11,iO 110 .eql 109 2,iM 111 110,jN 112 2 10 111 true,
 ⟨some 113,.v (.bld [(.int .i64 0),(.int .i64 0)] []) [],some (111,true)⟩,
 ⟨some 114,.v (.ag [(.i .i64),(.i .i64)] false) [.tmp 112,.tmp 113],some (111,true)⟩,
 iP 115 111 114,iM 116 115,jW 117 25 116 true,
 iP 118 116 117,iM 6 118])
 .ret)
 .skip))
 (.seq (.dreg [
 iM 119 11,iO 120 .eql 119 0,iM 121 120,jN 122 2 10 121 true,
 jN 123 3 3 121 true,
 jM 124 12 121 true,
 jM 125 2 121 true,
 jZ 126 66 123 124 125 121 true,
 ⟨some 127,.v (.ag [(.i .i64),(.i .i64)] false) [.tmp 122,.tmp 126],some (121,true)⟩,
 iP 128 121 127,iM 129 128,jW 130 25 129 true,
 iP 131 129 130,iM 6 131] [fC,fC,fC,⟨12,false,none⟩,⟨5,true,none⟩,fC,fC,⟨1,true,some [122]⟩,fC,fC,fC,fD,fC,fC])
 .ret)))))))))))
def p17:PFunc:=⟨132,[(6,none)],none,b17⟩
def b18:PCode :=
 (.seq (.reg [
 iV 1 25 0,iB 2 false])
 (.seq (.seq (.reg [
 iN 7 3 1,iX 8 31 7,iR 9 8])
 (.cond (.tmp 9)
 (.seq (.reg [
 iW 10 25,iM 2 10])
 .ret)
 .skip))
 (.seq (.reg [
 iN 12 3 1,iX 13 67 12,iM 11 13,iE 14 0 11,iE 15 1 11,iM 3 14,iM 4 15])
 (.seq (.seq (.reg [
 iN 16 3 1,iX 17 34 16,iR 18 17])
 (.cond (.tmp 18)
 (.seq (.reg [
 iM 19 4,iO 20 .eql 19 2,iM 21 20,jM 22 3 21 true,
 ⟨some 23,.v (.sb .eql) [.tmp 22,.const (.string ⟨#[]⟩)],some (21,true)⟩,
 iP 24 21 23,iM 25 24,jW 26 25 25 true,
 iP 27 25 26,iM 2 27])
 .ret)
 .skip))
 (.seq (.reg [
 iM 29 3,iX 30 68 29,iM 28 30,iE 31 0 28,iE 32 1 28,⟨some 5,.lalloc 25 (.agg #[(.int .i64 0),(.slice none 0 0),(.slice none 0 0)]),none⟩,iS 3 5 31,iM 6 32])
 (.seq (.reg [
 iM 33 4,iO 34 .eql 33 0,iM 35 34,jM 36 3 35 true,
 jN 37 3 1 35 true,
 jX 38 69 37 35 true,
 ⟨some 39,.v (.sb .eql) [.tmp 36,.tmp 38],some (35,true)⟩,
 iP 40 35 39,iM 41 40,jM 42 6 41 true,
 jO 43 .eql 42 0 41 true,
 iP 44 41 43,iM 45 44,jN 46 3 5 45 true,
 jN 47 3 1 45 true,
 jY 48 70 46 47 45 true,
 iP 49 45 48,iM 50 49,jW 51 25 50 true,
 iP 52 50 51,iM 2 52])
 .ret))))))
def p18:PFunc:=⟨53,[(2,none)],none,b18⟩
def b19:PCode :=
 (.seq (.reg [
 iB 2 false])
 (.seq (.seq (.reg [
 iM 10 0,⟨some 11,.v .slen [.tmp 10],none⟩,iO 12 .gtr 11 280])
 (.cond (.tmp 12)
 (.seq (.reg [
 iW 13 25,iM 2 13])
 .ret)
 .skip))
 (.seq (.reg [
 iM 15 0,iX 16 68 15,iM 14 16,iE 17 0 14,iE 18 1 14,⟨some 3,.lalloc 25 (.agg #[(.int .i64 0),(.slice none 0 0),(.slice none 0 0)]),none⟩,iS 3 3 17,iM 4 18])
 (.seq (.reg [
 iM 20 0,iX 21 71 20,iM 19 21,iE 22 0 19,iE 23 1 19,⟨some 5,.lalloc 25 (.agg #[(.int .i64 0),(.slice none 0 0),(.slice none 0 0)]),none⟩,iS 3 5 22,iM 6 23])
 (.seq (.reg [
 iI 7 0])
 (.seq (.seq (.reg [
 iM 24 0,⟨some 25,.v .slen [.tmp 24],none⟩,iO 26 .gtr 25 180])
 (.cond (.tmp 26)
 (.reg [
 iI 7 3])
 (.seq (.reg [
 iM 27 6,iR 28 27])
 (.cond (.tmp 28)
 (.reg [
 iI 7 4])
 (.seq (.reg [
 iN 29 3 5,iX 30 34 29,iR 31 30])
 (.cond (.tmp 31)
 (.reg [
 iI 7 2])
 .skip))))))
 (.seq (.seq (.reg [
 iM 32 7,iO 33 .neq 32 0])
 (.cond (.tmp 33)
 (.seq (.reg [
 iM 34 4,iM 35 7,iT 36 .eql 34 35,iM 37 36,jN 38 3 3 37 true,
 ⟨some 39,.v (.bld [(.int .i64 0),(.slice none 0 0),(.slice none 0 0)] []) [],some (37,true)⟩,
 jY 40 70 38 39 37 true,
 iP 41 37 40,iM 42 41,jW 43 25 42 true,
 iP 44 42 43,iM 2 44])
 .ret)
 .skip))
 (.seq (.reg [
 iN 46 3 3,iX 47 67 46,iM 45 47,iE 48 0 45,iE 49 1 45,iM 8 48,iM 9 49])
 (.seq (.reg [
 iM 50 4,iO 51 .eql 50 0,iM 52 51,jN 53 3 3 52 true,
 jN 54 3 5 52 true,
 jY 55 70 53 54 52 true,
 iP 56 52 55,iM 57 56,jM 58 9 57 true,
 jO 59 .eql 58 0 57 true,
 iP 60 57 59,iM 61 60,jM 62 8 61 true,
 jM 63 0 61 true,
 ⟨some 64,.v (.sb .eql) [.tmp 62,.tmp 63],some (61,true)⟩,
 iP 65 61 64,iM 66 65,jW 67 25 66 true,
 iP 68 66 67,iM 2 68])
 .ret)))))))))
def p19:PFunc:=⟨69,[(2,none)],none,b19⟩
def b20:PCode :=
 (.seq (.reg [
 iV 3 25 0,iB 6 false])
 (.seq (.seq (.reg [
 iN 12 3 3,iX 13 21 12,iR 14 13,iM 15 14,jM 16 2 15 false,
 jO 17 .lss 16 0 15 false,
 iQ 18 15 17,iM 19 18,jM 20 2 19 false,
 jO 21 .gtr 20 9 19 false,
 iQ 22 19 21])
 (.cond (.tmp 22)
 (.seq (.reg [
 iW 23 25,iM 6 23])
 .ret)
 .skip))
 (.seq (.reg [
 iN 25 3 3,iX 26 67 25,iM 24 26,iE 27 0 24,iE 28 1 24,iM 7 27,iM 8 28])
 (.seq (.seq (.reg [
 iM 29 8,iO 30 .neq 29 0])
 (.cond (.tmp 30)
 (.seq (.reg [
 iB 6 false])
 .ret)
 .skip))
 (.seq (.seq (.reg [
 iM 31 1,iO 32 .lss 31 0,iM 33 32,jM 34 1 33 false,
 jM 35 7 33 false,
 ⟨some 36,.v .slen [.tmp 35],some (33,false)⟩,
 jT 37 .geq 34 36 33 false,
 iQ 38 33 37,iM 39 38,jM 40 7 39 false,
 jM 41 1 39 false,
 ⟨some 42,.v .ix [.tmp 40,.tmp 41],some (39,false)⟩,
 ⟨some 43,.v (.ib .lss) [.tmp 42,.const (.int .u8 48)],some (39,false)⟩,
 iQ 44 39 43,iM 45 44,jM 46 7 45 false,
 jM 47 1 45 false,
 ⟨some 48,.v .ix [.tmp 46,.tmp 47],some (45,false)⟩,
 ⟨some 49,.v (.ib .gtr) [.tmp 48,.const (.int .u8 57)],some (45,false)⟩,
 iQ 50 45 49,iM 51 50,jM 52 7 51 false,
 jM 53 1 51 false,
 ⟨some 54,.v .ix [.tmp 52,.tmp 53],some (51,false)⟩,
 ⟨some 55,.v (.ib .sub) [.tmp 54,.const (.int .u8 48)],some (51,false)⟩,
 ⟨some 56,.v (.cv .i64) [.tmp 55],some (51,false)⟩,
 jM 57 2 51 false,
 jT 58 .eql 56 57 51 false,
 iQ 59 51 58])
 (.cond (.tmp 59)
 (.seq (.reg [
 iW 60 25,iM 6 60])
 .ret)
 .skip))
 (.seq (.reg [
 iM 61 7,⟨some 62,.s2b 5 (.tmp 61),none⟩,iM 9 62])
 (.seq (.reg [
 iM 63 9,iM 64 1,iM 65 2,⟨some 66,.v (.ib .add) [.const (.int .i64 48),.tmp 65],none⟩,⟨some 67,.v (.cv .u8) [.tmp 66],none⟩,iA 68 1 63 64,iS 1 68 67])
 (.seq (.reg [
 iM 70 9,⟨some 71,.b2s (.tmp 70),none⟩,iX 72 68 71,iM 69 72,iE 73 0 69,iE 74 1 69,⟨some 10,.lalloc 25 (.agg #[(.int .i64 0),(.slice none 0 0),(.slice none 0 0)]),none⟩,iS 3 10 73,iM 11 74])
 (.seq (.reg [
 iM 75 11,iO 76 .eql 75 4,iM 77 76,jN 78 3 10 77 true,
 ⟨some 79,.v (.bld [(.int .i64 0),(.slice none 0 0),(.slice none 0 0)] []) [],some (77,true)⟩,
 jY 80 70 78 79 77 true,
 iP 81 77 80,iM 82 81,jW 83 25 82 true,
 iP 84 82 83,iM 6 84])
 .ret)))))))))
def p20:PFunc:=⟨85,[(6,none)],none,b20⟩
def b21:PCode :=
 (.seq (.reg [
 iV 1 25 0,iB 2 false])
 (.seq (.reg [
 iN 3 3 1,iX 4 31 3,iM 5 4,jN 6 3 1 5 true,
 jX 7 34 6 5 true,
 iP 8 5 7,iM 2 8])
 .ret))
def p21:PFunc:=⟨9,[(2,none)],none,b21⟩
def b22:PCode :=
 (.seq (.reg [
 iB 2 false])
 (.seq (.reg [
 iM 3 0,iK 4 3,iO 5 .leq 4 9,iM 2 5])
 .ret))
def p22:PFunc:=⟨6,[(2,none)],none,b22⟩
def q23x0:PCode :=
 (.seq (.seq (.reg [
 iM 12 5,iM 13 1,iK 14 13,iT 15 .lss 12 14])
 (.cond (.tmp 15)
 .skip
 (.exit 0)))
 (.seq (.blk 1
 (.seq (.dreg [
 iM 18 1,iM 19 5,iA 20 1 18 19,iL 21 20,iF 22 0 2,iL 23 22,⟨some 24,.call (.func 72) [.tmp 21,.const (.int .i64 0),.tmp 23],none⟩,iR 25 24,iM 26 25,jF 27 2 2 26 false,
 jL 28 27 26 false,
 jM 29 5 26 false,
 jA 30 5 28 29 26 false,
 jF 31 1 30 26 false,
 jL 32 31 26 false,
 jM 33 32 26 false,
 jM 34 1 33 true,
 jM 35 5 33 true,
 jA 36 1 34 35 33 true,
 jL 37 36 33 true,
 jO 38 .neq 37 0 33 true,
 jP 39 33 38 26 false,
 iQ 40 26 39] [fC,fC,fC,fE,fA,⟨4,false,none⟩,fD,fC,fC,fC,⟨4,true,none⟩,fC,fC,fC,fE,fC,fC,fC,fC,fE,fC,fC,fC])
 (.cond (.tmp 40)
 (.seq (.reg [
 iB 4 false])
 .ret)
 .skip)))
 (.reg [
 iM 16 5,iO 17 .add 16 1,iM 5 17])))
def b23:PCode :=
 (.seq (.reg [
 iV 2 25 0,iB 4 false])
 (.seq (.seq (.reg [
 iM 6 1,iK 7 6,iF 8 2 2,iL 9 8,iK 10 9,iT 11 .neq 7 10])
 (.cond (.tmp 11)
 (.seq (.reg [
 iB 4 false])
 .ret)
 .skip))
 (.seq (.seq (.reg [
 iI 5 0])
 (.blk 0
 (.loop q23x0)))
 (.seq (.reg [
 iB 4 true])
 .ret))))
def p23:PFunc:=⟨41,[(4,none)],none,b23⟩
def q24x0:PCode :=
 (.seq (.seq (.reg [
 iM 12 5,iM 13 1,iK 14 13,iT 15 .lss 12 14])
 (.cond (.tmp 15)
 .skip
 (.exit 0)))
 (.seq (.blk 1
 (.seq (.dreg [
 iM 18 1,iM 19 5,iA 20 1 18 19,iL 21 20,iF 22 2 2,iL 23 22,iM 24 5,iA 25 5 23 24,iF 26 2 25,iF 27 0 26,iL 28 27,iF 29 2 2,iL 30 29,iM 31 5,iA 32 5 30 31,iF 33 2 32,iF 34 1 33,iL 35 34,iZ 36 72 21 28 35,iR 37 36] [fA,fA,fA,fB,fA,⟨4,false,none⟩,fA,fA,fA,fA,fB,fA,⟨4,false,none⟩,fA,fA,fA,fA,fB,fD,fC])
 (.cond (.tmp 37)
 (.seq (.reg [
 iB 4 false])
 .ret)
 .skip)))
 (.reg [
 iM 16 5,iO 17 .add 16 1,iM 5 17])))
def b24:PCode :=
 (.seq (.reg [
 iV 2 25 0,iB 4 false])
 (.seq (.seq (.reg [
 iM 6 1,iK 7 6,iF 8 2 2,iL 9 8,iK 10 9,iT 11 .neq 7 10])
 (.cond (.tmp 11)
 (.seq (.reg [
 iB 4 false])
 .ret)
 .skip))
 (.seq (.seq (.reg [
 iI 5 0])
 (.blk 0
 (.loop q24x0)))
 (.seq (.reg [
 iB 4 true])
 .ret))))
def p24:PFunc:=⟨38,[(4,none)],none,b24⟩
def b25:PCode :=
 (.seq (.reg [
 iB 0 false])
 (.seq (.reg [
 ⟨some 31,.bs 3 1 [(.int .i64 0)] 4 [(0,.const (.int .i64 0)),(1,.const (.int .i64 1)),(2,.const (.int .i64 0)),(3,.const (.int .i64 1))],none⟩,iM 1 31])
 (.seq (.reg [
 ⟨some 32,.bs 3 1 [(.int .i64 0)] 4 [(0,.const (.int .i64 0)),(1,.const (.int .i64 0)),(2,.const (.int .i64 0)),(3,.const (.int .i64 0))],none⟩,iM 2 32])
 (.seq (.reg [
 iW 34 73,iM 35 1,iY 36 26 34 35,iM 33 36,iE 37 0 33,iE 38 1 33,iM 3 37,iM 4 38])
 (.seq (.reg [
 iW 40 73,iM 41 1,⟨some 42,.call (.func 40) [.tmp 40,.tmp 41,.const (.int .i64 0)],none⟩,iM 39 42,iE 43 0 39,iE 44 1 39,⟨some 5,.lalloc 37 (.agg #[(.int .i64 0),(.int .i64 0)]),none⟩,iS 2 5 43,iM 6 44])
 (.seq (.reg [
 iW 46 73,⟨some 47,.bs 3 1 [(.int .i64 0)] 4 [(0,.const (.int .i64 0)),(1,.const (.int .i64 1)),(2,.const (.int .i64 0)),(3,.const (.int .i64 0))],none⟩,iY 48 32 46 47,iM 45 48,iE 49 0 45,iE 50 1 45,iM 7 49,iM 8 50])
 (.seq (.reg [
 iW 52 73,iM 53 1,iY 54 33 52 53,iM 51 54,iE 55 0 51,iE 56 1 51,iM 9 55,iM 10 56])
 (.seq (.reg [
 iW 58 73,iM 59 1,iY 60 41 58 59,iM 57 60,iE 61 0 57,iE 62 1 57,iM 11 61,iM 12 62])
 (.seq (.reg [
 iW 64 73,iM 65 1,⟨some 66,.call (.func 42) [.tmp 64,.tmp 65,.const (.int .i64 0)],none⟩,iM 63 66,iE 67 0 63,iE 68 1 63,iM 13 67,iM 14 68])
 (.seq (.reg [
 iW 70 73,iX 71 50 70,iM 69 71,iE 72 0 69,iE 73 1 69,iE 74 2 69,iM 15 72,iM 16 73,iM 17 74])
 (.seq (.reg [
 iW 76 73,iX 77 51 76,iM 75 77,iE 78 0 75,iE 79 1 75,iM 18 78,iM 19 79])
 (.seq (.reg [
 iW 81 73,⟨some 82,.call (.func 54) [.tmp 81,.const (.int .i64 1)],none⟩,iM 80 82,iE 83 0 80,iE 84 1 80,iM 20 83,iM 21 84])
 (.seq (.reg [
 iW 86 73,iM 87 2,⟨some 88,.call (.func 55) [.tmp 86,.tmp 87,.const (.int .i64 1)],none⟩,iM 85 88,iE 89 0 85,iE 90 1 85,iE 91 2 85,iM 22 89,iM 23 90,iM 24 91])
 (.seq (.reg [
 iW 93 73,iX 94 59 93,iM 92 94,iE 95 0 92,iE 96 1 92,iM 25 95,iM 26 96])
 (.seq (.reg [
 iW 98 73,⟨some 99,.call (.func 60) [.tmp 98,.const (.int .i64 5)],none⟩,iM 97 99,iE 100 0 97,iE 101 1 97,iM 27 100,iM 28 101])
 (.seq (.reg [
 ⟨some 103,.call (.func 68) [.const (.string ⟨#[98,101,110,99,104,32,48,10,98,111,97,114,100,32,48,10,115,116,114,97,105,103,104,116,32,48,32,49,32,49,32,45,10,101,110,100,32,49,55,53,10]⟩)],none⟩,iM 102 103,iE 104 0 102,iE 105 1 102,⟨some 29,.lalloc 25 (.agg #[(.int .i64 0),(.slice none 0 0),(.slice none 0 0)]),none⟩,iS 3 29 104,iM 30 105])
 (.seq (.seq (.reg [
 iM 106 4,iO 107 .neq 106 0,iM 108 107,jM 109 6 108 false,
 jO 110 .neq 109 0 108 false,
 iQ 111 108 110,iM 112 111,jM 113 8 112 false,
 jO 114 .neq 113 0 112 false,
 iQ 115 112 114,iM 116 115,jM 117 10 116 false,
 jO 118 .neq 117 0 116 false,
 iQ 119 116 118,iM 120 119,jM 121 12 120 false,
 jO 122 .neq 121 0 120 false,
 iQ 123 120 122,iM 124 123,jM 125 14 124 false,
 jO 126 .neq 125 0 124 false,
 iQ 127 124 126,iM 128 127,jM 129 17 128 false,
 jO 130 .neq 129 0 128 false,
 iQ 131 128 130,iM 132 131,jM 133 19 132 false,
 jO 134 .neq 133 0 132 false,
 iQ 135 132 134,iM 136 135,jM 137 21 136 false,
 jO 138 .neq 137 0 136 false,
 iQ 139 136 138,iM 140 139,jM 141 24 140 false,
 jO 142 .neq 141 0 140 false,
 iQ 143 140 142,iM 144 143,jM 145 26 144 false,
 jO 146 .neq 145 0 144 false,
 iQ 147 144 146,iM 148 147,jM 149 28 148 false,
 jO 150 .neq 149 0 148 false,
 iQ 151 148 150,iM 152 151,jM 153 30 152 false,
 jO 154 .neq 153 0 152 false,
 iQ 155 152 154])
 (.cond (.tmp 155)
 (.seq (.reg [
 iB 0 false])
 .ret)
 .skip))
 (.seq (.seq (.dreg [
 iM 156 3,⟨some 157,.call (.func 29) [.const (.int .i64 2),.const (.int .i64 2)],none⟩,⟨some 158,.call (.func 29) [.const (.int .i64 2),.const (.int .i64 3)],none⟩,⟨some 159,.call (.func 29) [.const (.int .i64 3),.const (.int .i64 5)],none⟩,⟨some 160,.call (.func 29) [.const (.int .i64 3),.const (.int .i64 6)],none⟩,⟨some 161,.bs 37 2 [(.int .i64 0),(.int .i64 0)] 4 [(0,.tmp 157),(1,.tmp 158),(2,.tmp 159),(3,.tmp 160)],none⟩,iY 162 63 156 161,iR 163 162,iM 164 163,jN 165 2 5 164 false,
 ⟨some 166,.call (.func 29) [.const (.int .i64 3),.const (.int .i64 5)],some (164,false)⟩,
 ⟨some 167,.v (.ag [(.i .i64),(.i .i64)] true) [.tmp 165,.tmp 166],some (164,false)⟩,
 iQ 168 164 167,iM 169 168,jM 170 7 169 false,
 ⟨some 171,.bs 55 1 [(.int .i64 0)] 2 [(0,.const (.int .i64 1)),(1,.const (.int .i64 2))],some (169,false)⟩,
 jY 172 35 170 171 169 false,
 jR 173 172 169 false,
 iQ 174 169 173,iM 175 174,jM 176 9 175 false,
 ⟨some 177,.bs 3 1 [(.int .i64 0)] 4 [(0,.const (.int .i64 0)),(1,.const (.int .i64 0)),(2,.const (.int .i64 1)),(3,.const (.int .i64 0))],some (175,false)⟩,
 jY 178 37 176 177 175 false,
 jR 179 178 175 false,
 iQ 180 175 179,iM 181 180,jM 182 11 181 false,
 ⟨some 183,.bs 3 1 [(.int .i64 0)] 2 [(0,.const (.int .i64 1)),(1,.const (.int .i64 3))],some (181,false)⟩,
 jY 184 37 182 183 181 false,
 jR 185 184 181 false,
 iQ 186 181 185,iM 187 186,jM 188 13 187 false,
 jO 189 .neq 188 1 187 false,
 iQ 190 187 189] [fA,⟨1,true,some [156]⟩,⟨1,true,some [156]⟩,⟨1,true,some [156]⟩,⟨1,true,some [156]⟩,fE,fD,fC,fC,⟨7,false,none⟩,⟨1,true,some [165]⟩,fC,fC,fC,fA,fE,fD,fC,fC,fC,fA,fE,fD,fC,fC,fC,fA,fE,fD,fC,fC,fC,fC,fC,fC])
 (.cond (.tmp 190)
 (.seq (.reg [
 iB 0 false])
 .ret)
 .skip))
 (.seq (.reg [
 iM 191 15,iM 192 1,iY 193 37 191 192,iM 194 193,jM 195 16 194 true,
 jO 196 .eql 195 6 194 true,
 iP 197 194 196,iM 198 197,jM 199 18 198 true,
 jO 200 .eql 199 1 198 true,
 iP 201 198 200,iM 202 201,jM 203 20 202 true,
 ⟨some 204,.bs 3 1 [(.int .i64 0)] 1 [(0,.const (.int .i64 1))],some (202,true)⟩,
 jY 205 37 203 204 202 true,
 iP 206 202 205,iM 207 206,jM 208 22 207 true,
 jO 209 .eql 208 1 207 true,
 iP 210 207 209,iM 211 210,jM 212 23 211 true,
 jO 213 .eql 212 8 211 true,
 iP 214 211 213,iM 215 214,jM 216 25 215 true,
 jO 217 .eql 216 5 215 true,
 iP 218 215 217,iM 219 218,jM 220 27 219 true,
 jO 221 .eql 220 2 219 true,
 iP 222 219 221,iM 223 222,jN 224 3 29 223 true,
 jX 225 69 224 223 true,
 ⟨some 226,.v (.sb .eql) [.tmp 225,.const (.string ⟨#[98,101,110,99,104,32,48,10,98,111,97,114,100,32,48,10,115,116,114,97,105,103,104,116,32,48,32,49,32,49,32,45,10,101,110,100,32,49,55,53,10]⟩)],some (223,true)⟩,
 iP 227 223 226,iM 0 227])
 .ret)))))))))))))))))))
def p25:PFunc:=⟨228,[(0,none)],none,b25⟩
def q26x0:PCode :=
 (.seq (.reg [
 iT 27 .lss 26 25])
 (.seq (.cond (.tmp 27)
 .skip
 (.exit 0))
 (.seq (.blk 1
 (.seq (.reg [
 iM 28 26,iM 8 28])
 (.seq (.dreg [
 iN 29 7 6,iM 30 8,⟨some 31,.call (.func 77) [.tmp 29,.tmp 30,.const (.int .i64 0)],none⟩,iN 32 7 6,iM 33 8,⟨some 34,.call (.func 77) [.tmp 32,.tmp 33,.const (.int .i64 1)],none⟩,iM 9 31,iM 10 34] [⟨8,true,none⟩,fC,fE,⟨8,false,none⟩,fA,fD,fC,fC])
 (.reg [
 iM 35 7,iM 36 9,iM 37 10,⟨some 38,.v (.bld [(.int .i64 0),(.int .i64 0)] [(0,1),(1,1)]) [.tmp 36,.tmp 37],none⟩,⟨some 39,.lbs 37 2 [(.int .i64 0),(.int .i64 0)] 1 [(0,.tmp 38)],none⟩,⟨some 40,.app 37 2 (.tmp 35) (.tmp 39),none⟩,iM 7 40]))))
 (.reg [
 iO 41 .add 26 1,iM 26 41]))))
def b26:PCode :=
 (.seq (.reg [
 iV 2 25 0,iH 4,iI 5 0])
 (.seq (.seq (.reg [
 iN 11 3 2,iX 12 74 11,iR 13 12,iM 14 13,jN 15 3 2 14 false,
 jM 16 1 14 false,
 jY 17 75 15 16 14 false,
 jR 18 17 14 false,
 iQ 19 14 18])
 (.cond (.tmp 19)
 (.seq (.reg [
 iH 4,iI 5 2])
 .ret)
 .skip))
 (.seq (.reg [
 iN 20 3 2,iM 21 1,iY 22 76 20 21,⟨some 6,.lalloc 100 (.agg #[(.int .i64 0),(.slice none 0 0),(.slice none 0 0),(.slice none 0 0),(.map none),(.int .i64 0),(.int .i64 0)]),none⟩,iS 7 6 22])
 (.seq (.reg [
 iH 7])
 (.seq (.seq (.reg [
 iF 23 2 2,iL 24 23,iK 25 24,iI 26 0])
 (.blk 0
 (.loop q26x0)))
 (.seq (.reg [
 iM 42 7,iM 4 42,iI 5 0])
 .ret))))))
def p26:PFunc:=⟨43,[(4,none),(5,none)],none,b26⟩
def q28x0:PCode :=
 (.seq (.seq (.reg [
 iM 7 6,iF 8 2 2,iL 9 8,iK 10 9,iT 11 .lss 7 10])
 (.cond (.tmp 11)
 .skip
 (.exit 0)))
 (.seq (.blk 1
 (.seq (.reg [
 iM 14 1])
 (.cond (.tmp 14)
 (.reg [
 iM 15 5,iF 16 2 2,iL 17 16,iM 18 6,iA 19 5 17 18,iF 20 2 19,iF 21 1 20,iL 22 21,⟨some 23,.lbs 3 1 [(.int .i64 0)] 1 [(0,.tmp 22)],none⟩,⟨some 24,.app 3 1 (.tmp 15) (.tmp 23),none⟩,iM 5 24])
 (.reg [
 iM 25 5,iF 26 2 2,iL 27 26,iM 28 6,iA 29 5 27 28,iF 30 2 29,iF 31 0 30,iL 32 31,⟨some 33,.lbs 3 1 [(.int .i64 0)] 1 [(0,.tmp 32)],none⟩,⟨some 34,.app 3 1 (.tmp 25) (.tmp 33),none⟩,iM 5 34]))))
 (.reg [
 iM 12 6,iO 13 .add 12 1,iM 6 13])))
def b28:PCode :=
 (.seq (.reg [
 iV 2 25 0,iH 4])
 (.seq (.reg [
 iH 5])
 (.seq (.seq (.reg [
 iI 6 0])
 (.blk 0
 (.loop q28x0)))
 (.seq (.reg [
 iM 35 5,iM 4 35])
 .ret))))
def p28:PFunc:=⟨36,[(4,none)],none,b28⟩
def b29:PCode :=
 (.seq (.reg [
 ⟨some 4,.lalloc 37 (.agg #[(.int .i64 0),(.int .i64 0)]),none⟩])
 (.seq (.reg [
 iM 5 0,iM 6 1,⟨some 7,.v (.bld [(.int .i64 0),(.int .i64 0)] [(0,1),(1,1)]) [.tmp 5,.tmp 6],none⟩,iS 2 4 7])
 .ret))
def p29:PFunc:=⟨8,[(4,some (some 2))],none,b29⟩
def q30x0:PCode :=
 (.seq (.seq (.reg [
 iM 6 5,iM 7 0,iK 8 7,iT 9 .lss 6 8])
 (.cond (.tmp 9)
 .skip
 (.exit 0)))
 (.seq (.blk 1
 (.seq (.reg [
 iM 12 0,iM 13 5,iA 14 1 12 13,iL 15 14,iM 16 1,iT 17 .eql 15 16])
 (.cond (.tmp 17)
 (.seq (.reg [
 iB 4 true])
 .ret)
 .skip)))
 (.reg [
 iM 10 5,iO 11 .add 10 1,iM 5 11])))
def b30:PCode :=
 (.seq (.reg [
 iB 4 false])
 (.seq (.seq (.reg [
 iI 5 0])
 (.blk 0
 (.loop q30x0)))
 (.seq (.reg [
 iB 4 false])
 .ret)))
def p30:PFunc:=⟨18,[(4,none)],none,b30⟩
def q31x0:PCode :=
 (.seq (.seq (.reg [
 iM 4 3,iF 5 2 1,iL 6 5,iK 7 6,iT 8 .lss 4 7,iM 9 8,jM 10 3 9 true,
 jO 11 .lss 10 9 9 true,
 iP 12 9 11])
 (.cond (.tmp 12)
 .skip
 (.exit 0)))
 (.seq (.blk 1
 (.seq (.reg [
 iF 15 2 1,iL 16 15,iM 17 3,iA 18 5 16 17,iF 19 4 18,iL 20 19,iK 21 20,iO 22 .gtr 21 8])
 (.cond (.tmp 22)
 (.seq (.reg [
 iB 2 false])
 .ret)
 .skip)))
 (.reg [
 iM 13 3,iO 14 .add 13 1,iM 3 14])))
def b31:PCode :=
 (.seq (.reg [
 iV 1 25 0,iB 2 false])
 (.seq (.seq (.reg [
 iI 3 0])
 (.blk 0
 (.loop q31x0)))
 (.seq (.reg [
 iF 23 1 1,iL 24 23,iK 25 24,iO 26 .leq 25 5,iM 27 26,jF 28 2 1 27 true,
 jL 29 28 27 true,
 jK 30 29 27 true,
 jO 31 .leq 30 8 27 true,
 iP 32 27 31,iM 2 32])
 .ret)))
def p31:PFunc:=⟨33,[(2,none)],none,b31⟩
def q32x0:PCode :=
 (.seq (.reg [
 iT 28 .lss 27 26])
 (.seq (.cond (.tmp 28)
 .skip
 (.exit 0))
 (.seq (.blk 1
 (.seq (.reg [
 iM 29 27,iA 30 1 25 27,iL 31 30,iM 8 29,iM 9 31])
 (.seq (.dreg [
 iN 32 7 6,iM 33 8,⟨some 34,.call (.func 78) [.tmp 32,.tmp 33,.const (.int .i64 0)],none⟩,iN 35 7 6,iM 36 8,⟨some 37,.call (.func 78) [.tmp 35,.tmp 36,.const (.int .i64 1)],none⟩,iM 10 34,iM 11 37] [⟨8,true,none⟩,fC,fE,⟨8,false,none⟩,fA,fD,fC,fC])
 (.blk 2
 (.seq (.reg [
 iM 42 10,iM 43 9,iT 44 .gtr 42 43,iM 41 44])
 (.cond (.tmp 41)
 (.reg [
 iM 45 7,⟨some 46,.lbs 55 1 [(.int .i64 0)] 1 [(0,.const (.int .i64 3))],none⟩,⟨some 47,.app 55 1 (.tmp 45) (.tmp 46),none⟩,iM 7 47])
 (.seq (.reg [
 iM 49 11,iM 50 9,iT 51 .gtr 49 50,iM 48 51])
 (.cond (.tmp 48)
 (.reg [
 iM 52 7,⟨some 53,.lbs 55 1 [(.int .i64 0)] 1 [(0,.const (.int .i64 2))],none⟩,⟨some 54,.app 55 1 (.tmp 52) (.tmp 53),none⟩,iM 7 54])
 (.reg [
 iM 38 7,⟨some 39,.lbs 55 1 [(.int .i64 0)] 1 [(0,.const (.int .i64 1))],none⟩,⟨some 40,.app 55 1 (.tmp 38) (.tmp 39),none⟩,iM 7 40])))))))))
 (.reg [
 iO 55 .add 27 1,iM 27 55]))))
def b32:PCode :=
 (.seq (.reg [
 iV 2 25 0,iH 4,iI 5 0])
 (.seq (.seq (.reg [
 iN 12 3 2,iX 13 74 12,iR 14 13,iM 15 14,jN 16 3 2 15 false,
 jM 17 1 15 false,
 jY 18 75 16 17 15 false,
 jR 19 18 15 false,
 iQ 20 15 19])
 (.cond (.tmp 20)
 (.seq (.reg [
 iH 4,iI 5 2])
 .ret)
 .skip))
 (.seq (.reg [
 iN 21 3 2,iM 22 1,iY 23 76 21 22,⟨some 6,.lalloc 100 (.agg #[(.int .i64 0),(.slice none 0 0),(.slice none 0 0),(.slice none 0 0),(.map none),(.int .i64 0),(.int .i64 0)]),none⟩,iS 7 6 23])
 (.seq (.reg [
 iH 7])
 (.seq (.seq (.reg [
 iF 24 1 2,iL 25 24,iK 26 25,iI 27 0])
 (.blk 0
 (.loop q32x0)))
 (.seq (.reg [
 iM 56 7,iM 4 56,iI 5 0])
 .ret))))))
def p32:PFunc:=⟨57,[(4,none),(5,none)],none,b32⟩
def q33x0:PCode :=
 (.seq (.reg [
 iT 27 .lss 26 25])
 (.seq (.cond (.tmp 27)
 .skip
 (.exit 0))
 (.seq (.blk 1
 (.seq (.reg [
 iM 28 26,iM 8 28])
 (.seq (.dreg [
 iN 29 7 6,iM 30 8,⟨some 31,.call (.func 79) [.tmp 29,.tmp 30,.const (.int .i64 1)],none⟩,iN 32 7 6,iM 33 8,⟨some 34,.call (.func 80) [.tmp 32,.tmp 33,.const (.int .i64 1)],none⟩,iM 9 31,iM 10 34] [⟨8,true,none⟩,fC,fE,⟨8,false,none⟩,fA,fD,fC,fC])
 (.reg [
 iM 35 7,iM 36 9,iM 37 10,iT 38 .sub 36 37,⟨some 39,.lbs 3 1 [(.int .i64 0)] 1 [(0,.tmp 38)],none⟩,⟨some 40,.app 3 1 (.tmp 35) (.tmp 39),none⟩,iM 7 40]))))
 (.reg [
 iO 41 .add 26 1,iM 26 41]))))
def b33:PCode :=
 (.seq (.reg [
 iV 2 25 0,iH 4,iI 5 0])
 (.seq (.seq (.reg [
 iN 11 3 2,iX 12 74 11,iR 13 12,iM 14 13,jN 15 3 2 14 false,
 jM 16 1 14 false,
 jY 17 75 15 16 14 false,
 jR 18 17 14 false,
 iQ 19 14 18])
 (.cond (.tmp 19)
 (.seq (.reg [
 iH 4,iI 5 2])
 .ret)
 .skip))
 (.seq (.reg [
 iN 20 3 2,iM 21 1,iY 22 76 20 21,⟨some 6,.lalloc 100 (.agg #[(.int .i64 0),(.slice none 0 0),(.slice none 0 0),(.slice none 0 0),(.map none),(.int .i64 0),(.int .i64 0)]),none⟩,iS 7 6 22])
 (.seq (.reg [
 iH 7])
 (.seq (.seq (.reg [
 iF 23 2 2,iL 24 23,iK 25 24,iI 26 0])
 (.blk 0
 (.loop q33x0)))
 (.seq (.reg [
 iM 42 7,iM 4 42,iI 5 0])
 .ret))))))
def p33:PFunc:=⟨43,[(4,none),(5,none)],none,b33⟩
def q34x0:PCode :=
 (.seq (.seq (.reg [
 iM 37 4,iF 38 2 1,iL 39 38,iK 40 39,iT 41 .lss 37 40])
 (.cond (.tmp 41)
 .skip
 (.exit 2)))
 (.seq (.blk 3
 (.seq (.reg [
 iN 44 3 1,iM 45 4,iY 46 81 44 45,iR 47 46])
 (.cond (.tmp 47)
 (.seq (.reg [
 iB 2 false])
 .ret)
 .skip)))
 (.reg [
 iM 42 4,iO 43 .add 42 1,iM 4 43])))
def q34x1:PCode :=
 (.seq (.seq (.reg [
 iM 23 3,iF 24 1 1,iL 25 24,iK 26 25,iT 27 .lss 23 26])
 (.cond (.tmp 27)
 .skip
 (.exit 0)))
 (.seq (.blk 1
 (.seq (.reg [
 iF 30 1 1,iL 31 30,iM 32 3,iA 33 1 31 32,iL 34 33,⟨some 35,.call (.func 72) [.tmp 34,.const (.int .i64 0),.const (.int .i64 60)],none⟩,iR 36 35])
 (.cond (.tmp 36)
 (.seq (.reg [
 iB 2 false])
 .ret)
 .skip)))
 (.reg [
 iM 28 3,iO 29 .add 28 1,iM 3 29])))
def b34:PCode :=
 (.seq (.reg [
 iV 1 25 0,iB 2 false])
 (.seq (.seq (.reg [
 iF 5 0 1,iL 6 5,⟨some 7,.call (.func 72) [.tmp 6,.const (.int .i64 0),.const (.int .i64 3)],none⟩,iR 8 7,iM 9 8,jF 10 1 1 9 false,
 jL 11 10 9 false,
 jK 12 11 9 false,
 ⟨some 13,.call (.func 72) [.tmp 12,.const (.int .i64 1),.const (.int .i64 3)],some (9,false)⟩,
 jR 14 13 9 false,
 iQ 15 9 14,iM 16 15,jF 17 2 1 16 false,
 jL 18 17 16 false,
 jK 19 18 16 false,
 ⟨some 20,.call (.func 72) [.tmp 19,.const (.int .i64 1),.const (.int .i64 6)],some (16,false)⟩,
 jR 21 20 16 false,
 iQ 22 16 21])
 (.cond (.tmp 22)
 (.seq (.reg [
 iB 2 false])
 .ret)
 .skip))
 (.seq (.seq (.reg [
 iI 3 0])
 (.blk 0
 (.loop q34x1)))
 (.seq (.seq (.reg [
 iI 4 0])
 (.blk 2
 (.loop q34x0)))
 (.seq (.reg [
 iB 2 true])
 .ret)))))
def p34:PFunc:=⟨48,[(2,none)],none,b34⟩
def q35x0:PCode :=
 (.seq (.seq (.reg [
 iM 11 5,iM 12 0,iK 13 12,iT 14 .lss 11 13])
 (.cond (.tmp 14)
 .skip
 (.exit 0)))
 (.seq (.blk 1
 (.seq (.dreg [
 iM 17 0,iM 18 5,iA 19 1 17 18,iL 20 19,iM 21 1,iM 22 5,iA 23 1 21 22,iL 24 23,iT 25 .neq 20 24] [fA,fA,fA,fB,fA,fA,fA,fB,fC])
 (.cond (.tmp 25)
 (.seq (.reg [
 iB 4 false])
 .ret)
 .skip)))
 (.reg [
 iM 15 5,iO 16 .add 15 1,iM 5 16])))
def b35:PCode :=
 (.seq (.reg [
 iB 4 false])
 (.seq (.seq (.reg [
 iM 6 0,iK 7 6,iM 8 1,iK 9 8,iT 10 .neq 7 9])
 (.cond (.tmp 10)
 (.seq (.reg [
 iB 4 false])
 .ret)
 .skip))
 (.seq (.seq (.reg [
 iI 5 0])
 (.blk 0
 (.loop q35x0)))
 (.seq (.reg [
 iB 4 true])
 .ret))))
def p35:PFunc:=⟨26,[(4,none)],none,b35⟩
def q36x0:PCode :=
 (.seq (.seq (.reg [
 iM 13 7,iF 14 1 2,iL 15 14,iK 16 15,iT 17 .lss 13 16])
 (.cond (.tmp 17)
 .skip
 (.exit 0)))
 (.seq (.blk 1
 (.seq (.reg [
 iI 8 1])
 (.seq (.seq (.reg [
 iN 20 3 2,iM 21 5,iM 22 7,iZ 23 66 20 21 22,⟨some 9,.lalloc 37 (.agg #[(.int .i64 0),(.int .i64 0)]),none⟩,iS 2 9 23])
 (.seq (.dreg [
 iF 24 0 9,iL 25 24,iF 26 1 2,iL 27 26,iM 28 7,iA 29 1 27 28,iL 30 29,iT 31 .gtr 25 30] [fA,⟨11,false,none⟩,fC,⟨4,true,none⟩,fC,fC,fE,fC])
 (.cond (.tmp 31)
 (.reg [
 iI 8 3])
 (.seq (.dreg [
 iF 32 1 9,iL 33 32,iF 34 1 2,iL 35 34,iM 36 7,iA 37 1 35 36,iL 38 37,iT 39 .gtr 33 38] [fA,⟨11,false,none⟩,fC,⟨4,true,none⟩,fC,fC,fE,fC])
 (.cond (.tmp 39)
 (.reg [
 iI 8 2])
 .skip)))))
 (.reg [
 iM 40 6,iM 41 8,⟨some 42,.lbs 55 1 [(.int .i64 0)] 1 [(0,.tmp 41)],none⟩,⟨some 43,.app 55 1 (.tmp 40) (.tmp 42),none⟩,iM 6 43]))))
 (.reg [
 iM 18 7,iO 19 .add 18 1,iM 7 19])))
def b36:PCode :=
 (.seq (.reg [
 iV 2 25 0,iH 4])
 (.seq (.reg [
 iN 10 3 2,iM 11 1,iY 12 65 10 11,iM 5 12])
 (.seq (.reg [
 iH 6])
 (.seq (.seq (.reg [
 iI 7 0])
 (.blk 0
 (.loop q36x0)))
 (.seq (.reg [
 iM 44 6,iM 4 44])
 .ret)))))
def p36:PFunc:=⟨45,[(4,none)],none,b36⟩
def q37x0:PCode :=
 (.seq (.seq (.reg [
 iM 11 5,iM 12 0,iK 13 12,iT 14 .lss 11 13])
 (.cond (.tmp 14)
 .skip
 (.exit 0)))
 (.seq (.blk 1
 (.seq (.dreg [
 iM 17 0,iM 18 5,iA 19 1 17 18,iL 20 19,iM 21 1,iM 22 5,iA 23 1 21 22,iL 24 23,iT 25 .neq 20 24] [fA,fA,fA,fB,fA,fA,fA,fB,fC])
 (.cond (.tmp 25)
 (.seq (.reg [
 iB 4 false])
 .ret)
 .skip)))
 (.reg [
 iM 15 5,iO 16 .add 15 1,iM 5 16])))
def b37:PCode :=
 (.seq (.reg [
 iB 4 false])
 (.seq (.seq (.reg [
 iM 6 0,iK 7 6,iM 8 1,iK 9 8,iT 10 .neq 7 9])
 (.cond (.tmp 10)
 (.seq (.reg [
 iB 4 false])
 .ret)
 .skip))
 (.seq (.seq (.reg [
 iI 5 0])
 (.blk 0
 (.loop q37x0)))
 (.seq (.reg [
 iB 4 true])
 .ret))))
def p37:PFunc:=⟨26,[(4,none)],none,b37⟩
def q38x0:PCode :=
 (.seq (.seq (.reg [
 iM 23 10,iM 24 8,iT 25 .lss 23 24])
 (.cond (.tmp 25)
 .skip
 (.exit 2)))
 (.seq (.blk 3
 (.seq (.dreg [
 iM 28 1,iM 29 10,iA 30 1 28 29,iL 31 30,iM 32 1,iM 33 8,iA 34 1 32 33,iL 35 34,iT 36 .eql 31 35] [fA,fA,fA,fB,fA,fA,fA,fB,fC])
 (.cond (.tmp 36)
 (.dreg [
 iM 37 6,iM 38 10,iA 39 1 37 38,iL 40 39,iM 41 5,iM 42 10,iA 43 1 41 42,iL 44 43,iT 45 .add 40 44,iM 9 45] [fA,fA,fA,fB,fA,fA,fA,fB,fC,fC])
 .skip)))
 (.reg [
 iM 26 10,iO 27 .add 26 1,iM 10 27])))
def q38x1:PCode :=
 (.seq (.seq (.reg [
 iM 17 8,iM 18 1,iK 19 18,iT 20 .lss 17 19])
 (.cond (.tmp 20)
 .skip
 (.exit 0)))
 (.seq (.blk 1
 (.seq (.reg [
 iI 9 0])
 (.seq (.seq (.reg [
 iI 10 0])
 (.blk 2
 (.loop q38x0)))
 (.reg [
 iM 46 7,iM 47 6,iM 48 8,iA 49 1 47 48,iL 50 49,iM 51 9,iT 52 .sub 50 51,⟨some 53,.lbs 3 1 [(.int .i64 0)] 1 [(0,.tmp 52)],none⟩,⟨some 54,.app 3 1 (.tmp 46) (.tmp 53),none⟩,iM 7 54]))))
 (.reg [
 iM 21 8,iO 22 .add 21 1,iM 8 22])))
def b38:PCode :=
 (.seq (.reg [
 iV 2 25 0,iH 4])
 (.seq (.reg [
 iN 11 3 2,⟨some 12,.call (.func 28) [.tmp 11,.const (.bool true)],none⟩,iM 5 12])
 (.seq (.reg [
 iN 13 3 2,iM 14 1,iM 15 5,iZ 16 82 13 14 15,iM 6 16])
 (.seq (.reg [
 iH 7])
 (.seq (.seq (.reg [
 iI 8 0])
 (.blk 0
 (.loop q38x1)))
 (.seq (.reg [
 iM 55 7,iM 4 55])
 .ret))))))
def p38:PFunc:=⟨56,[(4,none)],none,b38⟩
def b39:PCode :=
 (.seq (.reg [
 iV 2 25 0,iB 4 false])
 (.seq (.reg [
 iM 5 1,iF 6 1 2,iL 7 6,iK 8 7,iO 9 .sub 8 1,⟨some 10,.call (.func 72) [.tmp 5,.const (.int .i64 0),.tmp 9],none⟩,iM 4 10])
 .ret))
def p39:PFunc:=⟨11,[(4,none)],none,b39⟩
def b40:PCode :=
 (.seq (.reg [
 iV 3 25 0,⟨some 6,.lalloc 37 (.agg #[(.int .i64 0),(.int .i64 0)]),none⟩,iI 7 0])
 (.seq (.seq (.reg [
 iN 11 3 3,iX 12 74 11,iR 13 12,iM 14 13,jN 15 3 3 14 false,
 jM 16 1 14 false,
 jY 17 75 15 16 14 false,
 jR 18 17 14 false,
 iQ 19 14 18,iM 20 19,jM 21 2 20 false,
 jF 22 1 3 20 false,
 jL 23 22 20 false,
 jK 24 23 20 false,
 jO 25 .sub 24 1 20 false,
 ⟨some 26,.call (.func 83) [.tmp 21,.const (.int .i64 0),.tmp 25],some (20,false)⟩,
 jR 27 26 20 false,
 iQ 28 20 27])
 (.cond (.tmp 28)
 (.seq (.reg [
 ⟨some 29,.v (.bld [(.int .i64 0),(.int .i64 0)] []) [],none⟩,iS 2 6 29,iI 7 2])
 .ret)
 .skip))
 (.seq (.reg [
 iN 30 3 3,iM 31 1,iY 32 76 30 31,⟨some 8,.lalloc 100 (.agg #[(.int .i64 0),(.slice none 0 0),(.slice none 0 0),(.slice none 0 0),(.map none),(.int .i64 0),(.int .i64 0)]),none⟩,iS 7 8 32])
 (.seq (.dreg [
 iN 33 7 8,iM 34 2,⟨some 35,.call (.func 78) [.tmp 33,.tmp 34,.const (.int .i64 0)],none⟩,iN 36 7 8,iM 37 2,⟨some 38,.call (.func 78) [.tmp 36,.tmp 37,.const (.int .i64 1)],none⟩,iM 9 35,iM 10 38] [⟨10,true,none⟩,fC,fE,⟨10,false,none⟩,fA,fD,fC,fC])
 (.seq (.reg [
 iM 39 9,iM 40 10,⟨some 41,.v (.bld [(.int .i64 0),(.int .i64 0)] [(0,1),(1,1)]) [.tmp 39,.tmp 40],none⟩,iS 2 6 41,iI 7 0])
 .ret)))))
def p40:PFunc:=⟨42,[(6,some (some 2)),(7,none)],none,b40⟩
def b41:PCode :=
 (.seq (.reg [
 ⟨some 2,.box 25 (.tmp 0),none⟩,iH 4,iI 5 0])
 (.seq (.seq (.reg [
 iN 7 3 2,iX 8 74 7,iR 9 8,iM 10 9,jN 11 3 2 10 false,
 jM 12 1 10 false,
 jY 13 75 11 12 10 false,
 jR 14 13 10 false,
 iQ 15 10 14])
 (.cond (.tmp 15)
 (.seq (.reg [
 iH 4,iI 5 2])
 .ret)
 .skip))
 (.seq (.reg [
 iN 16 3 2,iM 17 1,iY 18 76 16 17,⟨some 6,.alloc 100 (.agg #[(.int .i64 0),(.slice none 0 0),(.slice none 0 0),(.slice none 0 0),(.map none),(.int .i64 0),(.int .i64 0)]),none⟩,iS 7 6 18])
 (.seq (.reg [
 ⟨some 19,.v (.mkf (.func 85) 0) [.tmp 2,.tmp 6],none⟩,iX 20 84 19,iE 21 0 20,iE 22 1 20,iM 4 21,iM 5 22])
 .ret))))
def p41:PFunc:=⟨23,[(4,none),(5,none)],none,b41⟩
def q42x0:PCode :=
 (.seq (.reg [
 iO 32 .lss 31 10])
 (.seq (.cond (.tmp 32)
 .skip
 (.exit 0))
 (.seq (.blk 1
 (.seq (.reg [
 iM 33 31,iM 10 33])
 (.seq (.reg [
 iN 34 3 3,iM 35 1,iY 36 76 34 35,⟨some 11,.lalloc 100 (.agg #[(.int .i64 0),(.slice none 0 0),(.slice none 0 0),(.slice none 0 0),(.map none),(.int .i64 0),(.int .i64 0)]),none⟩,iS 7 11 36])
 (.seq (.reg [
 iM 37 2,iM 38 10,iF 39 5 11,iS 1 39 37,iF 40 6 11,iS 1 40 38])
 (.seq (.reg [
 iN 41 7 11,iX 42 88 41,iM 43 8,iT 44 .eql 42 43])
 (.cond (.tmp 44)
 (.reg [
 iM 45 10,iM 9 45])
 .skip))))))
 (.reg [
 iO 46 .add 31 1,iM 31 46]))))
def b42:PCode :=
 (.seq (.reg [
 iV 3 25 0,iI 6 0,iI 7 0])
 (.seq (.seq (.reg [
 iN 12 3 3,iX 13 74 12,iR 14 13,iM 15 14,jN 16 3 3 15 false,
 jM 17 1 15 false,
 jY 18 75 16 17 15 false,
 jR 19 18 15 false,
 iQ 20 15 19,iM 21 20,jN 22 3 3 21 false,
 jM 23 2 21 false,
 jY 24 87 22 23 21 false,
 jR 25 24 21 false,
 iQ 26 21 25])
 (.cond (.tmp 26)
 (.seq (.reg [
 iI 6 0,iI 7 2])
 .ret)
 .skip))
 (.seq (.reg [
 iN 27 3 3,iM 28 1,iY 29 76 27 28,iX 30 88 29,iM 8 30])
 (.seq (.reg [
 iI 9 0])
 (.seq (.seq (.reg [
 iI 31 0])
 (.blk 0
 (.loop q42x0)))
 (.seq (.reg [
 iM 47 9,iM 6 47,iI 7 0])
 .ret))))))
def p42:PFunc:=⟨48,[(6,none),(7,none)],none,b42⟩
def b44:PCode :=
 (.seq (.reg [
 iV 2 25 0,iB 4 false])
 (.seq (.reg [
 iM 5 1,iF 6 2 2,iL 7 6,iK 8 7,iO 9 .sub 8 1,⟨some 10,.call (.func 72) [.tmp 5,.const (.int .i64 0),.tmp 9],none⟩,iM 4 10])
 .ret))
def p44:PFunc:=⟨11,[(4,none)],none,b44⟩
def q49x0:PCode :=
 (.seq (.seq (.reg [
 iM 24 8,iM 25 5,iK 26 25,iT 27 .lss 24 26])
 (.cond (.tmp 27)
 .skip
 (.exit 0)))
 (.seq (.blk 1
 (.reg [
 iM 30 7,iM 31 5,iM 32 8,iA 33 2 31 32,iF 34 1 33,iL 35 34,⟨some 36,.v .mx [.tmp 30,.tmp 35],none⟩,iM 7 36]))
 (.reg [
 iM 28 8,iO 29 .add 28 1,iM 8 29])))
def b49:PCode :=
 (.seq (.reg [
 iV 2 25 0,iI 4 0])
 (.seq (.reg [
 iN 10 3 2,iM 11 1,iY 12 26 10 11,iM 9 12,iE 13 0 9,iE 14 1 9,iM 5 13,iM 6 14])
 (.seq (.seq (.reg [
 iM 15 6,iO 16 .neq 15 0,iM 17 16,jM 18 5 17 false,
 jK 19 18 17 false,
 jM 20 1 17 false,
 jK 21 20 17 false,
 jT 22 .neq 19 21 17 false,
 iQ 23 17 22])
 (.cond (.tmp 23)
 (.seq (.reg [
 iI 4 (-1)])
 .ret)
 .skip))
 (.seq (.reg [
 iI 7 0])
 (.seq (.seq (.reg [
 iI 8 0])
 (.blk 0
 (.loop q49x0)))
 (.seq (.reg [
 iM 37 7,iM 4 37])
 .ret))))))
def p49:PFunc:=⟨38,[(4,none)],none,b49⟩
def b50:PCode :=
 (.seq (.reg [
 iV 1 25 0,iH 2,iI 3 0,iI 4 0])
 (.seq (.seq (.reg [
 iN 6 3 1,iX 7 74 6,iR 8 7])
 (.cond (.tmp 8)
 (.seq (.reg [
 iH 2,iI 3 0,iI 4 2])
 .ret)
 .skip))
 (.seq (.reg [
 iN 9 3 1,iX 10 92 9,iM 5 10])
 (.seq (.dreg [
 iM 11 5,⟨some 12,.v (.ia 2) [.tmp 11,.const (.int .i64 0)],none⟩,iF 13 0 12,iL 14 13,iM 15 5,⟨some 16,.v (.ia 2) [.tmp 15,.const (.int .i64 0)],none⟩,iF 17 1 16,iL 18 17,iM 2 14,iM 3 18,iI 4 0] [fA,fA,fA,fB,fA,fA,fA,fB,fA,fC,fC])
 .ret))))
def p50:PFunc:=⟨19,[(2,none),(3,none),(4,none)],none,b50⟩
def b51:PCode :=
 (.seq (.reg [
 iV 1 25 0,iI 2 0,iI 3 0])
 (.seq (.seq (.reg [
 iN 4 3 1,iX 5 74 4,iR 6 5])
 (.cond (.tmp 6)
 (.seq (.reg [
 iI 2 0,iI 3 2])
 .ret)
 .skip))
 (.seq (.reg [
 iN 7 3 1,iX 8 92 7,iK 9 8,iM 2 9,iI 3 0])
 .ret)))
def p51:PFunc:=⟨10,[(2,none),(3,none)],none,b51⟩
def b53:PCode :=
 (.seq (.reg [
 iV 2 25 0,iI 4 0])
 (.seq (.dreg [
 iN 5 3 2,iM 6 1,iN 7 3 2,⟨some 8,.call (.func 28) [.tmp 7,.const (.bool true)],none⟩,iZ 9 95 5 6 8,iX 10 94 9,iM 4 10] [⟨4,false,none⟩,fA,⟨4,true,none⟩,⟨1,true,some [5,6]⟩,fD,fD,fC])
 .ret))
def p53:PFunc:=⟨11,[(4,none)],none,b53⟩
def q54x0:PCode :=
 (.seq (.reg [
 iT 22 .lss 21 20])
 (.seq (.cond (.tmp 22)
 .skip
 (.exit 0))
 (.seq (.blk 1
 (.seq (.reg [
 iA 23 2 19 21,iN 24 2 23,⟨some 8,.lalloc 112 (.agg #[(.slice none 0 0),(.int .i64 0)]),none⟩,iS 2 8 24])
 (.reg [
 iM 25 6,iF 26 0 8,iL 27 26,iM 28 1,iA 29 1 27 28,iL 30 29,⟨some 31,.lbs 3 1 [(.int .i64 0)] 1 [(0,.tmp 30)],none⟩,⟨some 32,.app 3 1 (.tmp 25) (.tmp 31),none⟩,iM 6 32])))
 (.reg [
 iO 33 .add 21 1,iM 21 33]))))
def b54:PCode :=
 (.seq (.reg [
 iV 2 25 0,iH 4,iI 5 0])
 (.seq (.seq (.reg [
 iN 9 3 2,iX 10 74 9,iR 11 10,iM 12 11,jN 13 3 2 12 false,
 jM 14 1 12 false,
 jY 15 87 13 14 12 false,
 jR 16 15 12 false,
 iQ 17 12 16])
 (.cond (.tmp 17)
 (.seq (.reg [
 iH 4,iI 5 2])
 .ret)
 .skip))
 (.seq (.reg [
 iH 6])
 (.seq (.seq (.reg [
 iN 18 3 2,iX 19 92 18,iK 20 19,iI 21 0])
 (.blk 0
 (.loop q54x0)))
 (.seq (.reg [
 iM 34 6,iX 35 96 34])
 (.seq (.reg [
 iM 36 6,iX 37 97 36,iM 4 37,iI 5 0])
 .ret))))))
def p54:PFunc:=⟨38,[(4,none),(5,none)],none,b54⟩
def q55x0:PCode :=
 (.seq (.reg [
 iT 32 .lss 31 30])
 (.seq (.cond (.tmp 32)
 .skip
 (.exit 0))
 (.seq (.blk 1
 (.seq (.reg [
 iM 33 31,iM 10 33])
 (.seq (.reg [
 iM 34 1,iX 35 98 34,iM 11 35])
 (.seq (.reg [
 iM 36 11,iM 37 2,iM 38 10,iA 39 1 36 37,iS 1 39 38])
 (.seq (.reg [
 iN 40 3 3,iM 41 11,iY 42 75 40 41])
 (.cond (.tmp 42)
 (.reg [
 iM 43 9,iM 44 11,iN 45 3 3,iM 46 11,iY 47 76 45 46,iX 48 88 47,⟨some 49,.v (.bld [(.slice none 0 0),(.int .i64 0)] [(0,1),(1,1)]) [.tmp 44,.tmp 48],none⟩,⟨some 50,.lbs 112 2 [(.slice none 0 0),(.int .i64 0)] 1 [(0,.tmp 49)],none⟩,⟨some 51,.app 112 2 (.tmp 43) (.tmp 50),none⟩,iM 9 51])
 .skip))))))
 (.reg [
 iO 52 .add 31 1,iM 31 52]))))
def b55:PCode :=
 (.seq (.reg [
 iV 3 25 0,iI 6 0,iI 7 0,iI 8 0])
 (.seq (.seq (.reg [
 iN 13 3 3,iX 14 74 13,iR 15 14,iM 16 15,jN 17 3 3 16 false,
 jM 18 1 16 false,
 jY 19 75 17 18 16 false,
 jR 20 19 16 false,
 iQ 21 16 20,iM 22 21,jN 23 3 3 22 false,
 jM 24 2 22 false,
 jY 25 87 23 24 22 false,
 jR 26 25 22 false,
 iQ 27 22 26])
 (.cond (.tmp 27)
 (.seq (.reg [
 iI 6 0,iI 7 0,iI 8 2])
 .ret)
 .skip))
 (.seq (.reg [
 iH 9])
 (.seq (.seq (.reg [
 iF 28 0 3,iL 29 28,iO 30 .add 29 1,iI 31 0])
 (.blk 0
 (.loop q55x0)))
 (.seq (.reg [
 iM 53 9,⟨some 54,.call (.func 99) [.tmp 53,.func 100],none⟩,⟨some 55,.v (.ia 2) [.tmp 54,.const (.int .i64 0)],none⟩,iN 56 2 55,⟨some 12,.lalloc 112 (.agg #[(.slice none 0 0),(.int .i64 0)]),none⟩,iS 2 12 56])
 (.seq (.dreg [
 iF 57 0 12,iL 58 57,iM 59 2,iA 60 1 58 59,iL 61 60,iF 62 1 12,iL 63 62,iM 6 61,iM 7 63,iI 8 0] [fC,⟨14,true,none⟩,fC,fC,fE,fA,⟨14,false,none⟩,fC,fC,fC])
 .ret))))))
def p55:PFunc:=⟨64,[(6,none),(7,none),(8,none)],none,b55⟩
def b59:PCode :=
 (.seq (.reg [
 iV 1 25 0,iI 2 0,iI 3 0])
 (.seq (.seq (.reg [
 iN 4 3 1,iX 5 74 4,iR 6 5])
 (.cond (.tmp 6)
 (.seq (.reg [
 iI 2 0,iI 3 2])
 .ret)
 .skip))
 (.seq (.seq (.reg [
 iF 7 0 1,iL 8 7,iO 9 .eql 8 3])
 (.cond (.tmp 9)
 (.seq (.reg [
 iI 2 0,iI 3 3])
 .ret)
 .skip))
 (.seq (.reg [
 iN 10 3 1,iF 11 0 1,iL 12 11,iO 13 .add 12 1,iY 14 101 10 13,iX 15 92 14,⟨some 16,.v (.ia 2) [.tmp 15,.const (.int .i64 0)],none⟩,iF 17 1 16,iL 18 17,iM 2 18,iI 3 0])
 .ret))))
def p59:PFunc:=⟨19,[(2,none),(3,none)],none,b59⟩
def q60x0:PCode :=
 (.seq (.reg [
 iO 17 .lss 16 4])
 (.seq (.cond (.tmp 17)
 .skip
 (.exit 0))
 (.seq (.blk 1
 (.seq (.reg [
 iM 18 16,⟨some 6,.alloc 3 (.int .i64 0),none⟩,iS 1 6 18])
 (.seq (.reg [
 iN 19 3 2,iL 20 6,iY 21 101 19 20,iX 22 102 21])
 (.blk 2
 (.rf (.tmp 22) [23]
 (.reg [
 iM 7 23])
 (.blk 3
 (.seq (.dreg [
 iN 24 3 2,iM 25 7,iY 26 76 24 25,iX 27 88 26,iL 28 3,iT 29 .leq 27 28] [fB,fA,fB,fB,fB,fC])
 (.cond (.tmp 29)
 (.seq (.reg [
 iL 30 6,iS 1 4 30,⟨none,.st 1 (.tmp 5) (.const (.int .i64 0)),none⟩])
 .ret)
 .skip))))))))
 (.reg [
 iO 31 .add 16 1,iM 16 31]))))
def b60:PCode :=
 (.seq (.reg [
 ⟨some 2,.box 25 (.tmp 0),none⟩,⟨some 3,.box 3 (.tmp 1),none⟩,⟨some 4,.alloc 3 (.int .i64 0),none⟩,⟨some 5,.alloc 31 (.int .i64 0),none⟩])
 (.seq (.seq (.reg [
 iN 8 3 2,iX 9 74 8,iR 10 9,iM 11 10,jL 12 3 11 false,
 ⟨some 13,.call (.func 83) [.tmp 12,.const (.int .i64 0),.const (.int .i64 60)],some (11,false)⟩,
 jR 14 13 11 false,
 iQ 15 11 14])
 (.cond (.tmp 15)
 (.seq (.reg [
 ⟨none,.st 1 (.tmp 4) (.const (.int .i64 0)),none⟩,⟨none,.st 1 (.tmp 5) (.const (.int .i64 2)),none⟩])
 .ret)
 .skip))
 (.seq (.seq (.reg [
 iI 16 0])
 (.blk 0
 (.loop q60x0)))
 (.seq (.reg [
 ⟨none,.st 1 (.tmp 4) (.const (.int .i64 0)),none⟩,⟨none,.st 1 (.tmp 5) (.const (.int .i64 5)),none⟩])
 .ret))))
def p60:PFunc:=⟨32,[(4,some none),(5,some none)],none,b60⟩
def b61:PCode :=
 (.seq (.reg [
 iV 2 25 0,⟨some 4,.lalloc 25 (.agg #[(.int .i64 0),(.slice none 0 0),(.slice none 0 0)]),none⟩])
 (.seq (.reg [
 iM 5 1,iF 6 0 2,iS 1 6 5])
 (.seq (.reg [
 iN 7 3 2,iS 3 4 7])
 .ret)))
def p61:PFunc:=⟨8,[(4,some (some 3))],none,b61⟩
def q63x0:PCode :=
 (.seq (.seq (.reg [
 iM 11 5,iM 12 0,iK 13 12,iT 14 .lss 11 13])
 (.cond (.tmp 14)
 .skip
 (.exit 0)))
 (.seq (.blk 1
 (.seq (.dreg [
 iM 17 0,iM 18 5,iA 19 2 17 18,iN 20 2 19,iM 21 1,iM 22 5,iA 23 2 21 22,iN 24 2 23,⟨some 25,.v (.ag [(.i .i64),(.i .i64)] true) [.tmp 20,.tmp 24],none⟩] [fA,fA,fA,fB,fA,fA,fA,fB,fC])
 (.cond (.tmp 25)
 (.seq (.reg [
 iB 4 false])
 .ret)
 .skip)))
 (.reg [
 iM 15 5,iO 16 .add 15 1,iM 5 16])))
def b63:PCode :=
 (.seq (.reg [
 iB 4 false])
 (.seq (.seq (.reg [
 iM 6 0,iK 7 6,iM 8 1,iK 9 8,iT 10 .neq 7 9])
 (.cond (.tmp 10)
 (.seq (.reg [
 iB 4 false])
 .ret)
 .skip))
 (.seq (.seq (.reg [
 iI 5 0])
 (.blk 0
 (.loop q63x0)))
 (.seq (.reg [
 iB 4 true])
 .ret))))
def p63:PFunc:=⟨26,[(4,none)],none,b63⟩
def b64:PCode :=
 (.seq (.reg [
 iV 1 25 0,iI 2 0])
 (.seq (.seq (.reg [
 iN 3 3 1,iX 4 74 3,iR 5 4])
 (.cond (.tmp 5)
 (.seq (.reg [
 iI 2 2])
 .ret)
 .skip))
 (.seq (.reg [
 iI 2 0])
 .ret)))
def p64:PFunc:=⟨6,[(2,none)],none,b64⟩
def q65x0:PCode :=
 (.seq (.seq (.reg [
 iM 19 8,iM 20 5,iK 21 20,iT 22 .lss 19 21])
 (.cond (.tmp 22)
 .skip
 (.exit 0)))
 (.seq (.blk 1
 (.dreg [
 iM 25 7,iM 26 5,iM 27 8,iA 28 1 26 27,iL 29 28,iM 30 6,iM 31 8,iA 32 1 30 31,iL 33 32,⟨some 34,.v (.bld [(.int .i64 0),(.int .i64 0)] [(0,1),(1,1)]) [.tmp 29,.tmp 33],none⟩,⟨some 35,.lbs 37 2 [(.int .i64 0),(.int .i64 0)] 1 [(0,.tmp 34)],none⟩,⟨some 36,.app 37 2 (.tmp 25) (.tmp 35),none⟩,iM 7 36] [fA,fA,fA,fA,fB,fA,fA,fA,fB,fC,⟨37,true,none⟩,fE,fC]))
 (.reg [
 iM 23 8,iO 24 .add 23 1,iM 8 24])))
def b65:PCode :=
 (.seq (.reg [
 iV 2 25 0,iH 4])
 (.seq (.dreg [
 iN 9 3 2,iM 10 1,iN 11 3 2,⟨some 12,.call (.func 28) [.tmp 11,.const (.bool false)],none⟩,iZ 13 95 9 10 12,iN 14 3 2,iM 15 1,iN 16 3 2,⟨some 17,.call (.func 28) [.tmp 16,.const (.bool true)],none⟩,iZ 18 95 14 15 17,iM 5 13,iM 6 18] [⟨4,false,none⟩,fA,⟨4,true,none⟩,fE,fE,⟨4,false,none⟩,fA,⟨4,false,none⟩,⟨1,true,some [14,15]⟩,fD,fC,fC])
 (.seq (.reg [
 iH 7])
 (.seq (.seq (.reg [
 iI 8 0])
 (.blk 0
 (.loop q65x0)))
 (.seq (.reg [
 iM 37 7,iM 4 37])
 .ret)))))
def p65:PFunc:=⟨38,[(4,none)],none,b65⟩
def q66x0:PCode :=
 (.seq (.seq (.reg [
 iM 9 8,iM 10 1,iK 11 10,iT 12 .lss 9 11])
 (.cond (.tmp 12)
 .skip
 (.exit 0)))
 (.seq (.blk 1
 (.seq (.reg [
 iF 15 2 3,iL 16 15,iM 17 8,iA 18 5 16 17,iF 19 0 18,iL 20 19,iM 21 2,iT 22 .eql 20 21])
 (.cond (.tmp 22)
 (.dreg [
 iF 23 0 7,iL 24 23,iM 25 1,iM 26 8,iA 27 2 25 26,iF 28 0 27,iL 29 28,⟨some 30,.v .mx [.tmp 24,.tmp 29],none⟩,iF 31 1 7,iL 32 31,iM 33 1,iM 34 8,iA 35 2 33 34,iF 36 1 35,iL 37 36,⟨some 38,.v .mx [.tmp 32,.tmp 37],none⟩,⟨some 39,.v (.bld [(.int .i64 0),(.int .i64 0)] [(0,1),(1,1)]) [.tmp 30,.tmp 38],none⟩,iS 2 7 39] [fA,⟨9,false,none⟩,fA,fA,fA,fA,fB,fA,fA,⟨9,false,none⟩,fA,fA,fA,fA,fB,fA,fC,⟨9,true,none⟩])
 .skip)))
 (.reg [
 iM 13 8,iO 14 .add 13 1,iM 8 14])))
def b66:PCode :=
 (.seq (.reg [
 iV 3 25 0,⟨some 6,.lalloc 37 (.agg #[(.int .i64 0),(.int .i64 0)]),none⟩])
 (.seq (.reg [
 ⟨some 7,.lalloc 37 (.agg #[(.int .i64 0),(.int .i64 0)]),none⟩])
 (.seq (.seq (.reg [
 iI 8 0])
 (.blk 0
 (.loop q66x0)))
 (.seq (.reg [
 iN 40 2 7,iS 2 6 40])
 .ret))))
def p66:PFunc:=⟨41,[(6,some (some 2))],none,b66⟩
def b67:PCode :=
 (.seq (.reg [
 iV 1 25 0,⟨some 2,.v .mv [.const (.string ⟨#[]⟩)],none⟩,iI 3 0])
 (.seq (.seq (.reg [
 iN 4 3 1,iX 5 74 4,iR 6 5])
 (.cond (.tmp 6)
 (.seq (.reg [
 ⟨some 2,.v .mv [.const (.string ⟨#[]⟩)],none⟩,iI 3 2])
 .ret)
 .skip))
 (.seq (.reg [
 iN 7 3 1,iX 8 103 7,iM 2 8,iI 3 0])
 .ret)))
def p67:PFunc:=⟨9,[(2,none),(3,none)],none,b67⟩
def b68:PCode :=
 (.seq (.reg [
 ⟨some 1,.box 9 (.tmp 0),none⟩,⟨some 2,.lalloc 25 (.agg #[(.int .i64 0),(.slice none 0 0),(.slice none 0 0)]),none⟩,iI 3 0])
 (.seq (.seq (.reg [
 iL 7 1,⟨some 8,.v .slen [.tmp 7],none⟩,iO 9 .gtr 8 180])
 (.cond (.tmp 9)
 (.seq (.reg [
 ⟨some 10,.v (.bld [(.int .i64 0),(.slice none 0 0),(.slice none 0 0)] []) [],none⟩,iS 3 2 10,iI 3 3])
 .ret)
 .skip))
 (.seq (.reg [
 ⟨some 4,.alloc 25 (.agg #[(.int .i64 0),(.slice none 0 0),(.slice none 0 0)]),none⟩])
 (.seq (.seq (.reg [
 ⟨some 12,.v (.mkf (.func 104) 0) [.tmp 1,.tmp 4],none⟩,iX 13 84 12,iM 11 13,iE 14 0 11,iE 15 1 11,iM 5 14,iM 6 15])
 (.seq (.reg [
 iM 16 6,iO 17 .neq 16 0])
 (.cond (.tmp 17)
 (.seq (.reg [
 ⟨some 18,.v (.bld [(.int .i64 0),(.slice none 0 0),(.slice none 0 0)] []) [],none⟩,iM 19 6,iS 3 2 18,iM 3 19])
 .ret)
 .skip)))
 (.seq (.seq (.reg [
 iN 20 3 4,iX 21 74 20,iR 22 21])
 (.cond (.tmp 22)
 (.seq (.reg [
 ⟨some 23,.v (.bld [(.int .i64 0),(.slice none 0 0),(.slice none 0 0)] []) [],none⟩,iS 3 2 23,iI 3 2])
 .ret)
 .skip))
 (.seq (.reg [
 iN 24 3 4,iS 3 2 24,iI 3 0])
 .ret))))))
def p68:PFunc:=⟨25,[(2,some (some 3)),(3,none)],none,b68⟩
def q69x0:PCode :=
 (.seq (.seq (.reg [
 iM 30 5,iF 31 2 1,iL 32 31,iK 33 32,iT 34 .lss 30 33])
 (.cond (.tmp 34)
 .skip
 (.exit 2)))
 (.seq (.blk 3
 (.seq (.reg [
 iF 37 2 1,iL 38 37,iM 39 5,iA 40 5 38 39,iN 41 5 40,⟨some 6,.lalloc 41 (.agg #[(.int .i64 0),(.bool false),(.int .i64 0),(.int .i64 0),(.slice none 0 0)]),none⟩,iS 5 6 41])
 (.seq (.reg [
 ⟨some 7,.v .mv [.const (.string ⟨#[115,116,114,97,105,103,104,116]⟩)],none⟩])
 (.seq (.seq (.reg [
 iF 42 1 6,iL 43 42])
 (.cond (.tmp 43)
 (.reg [
 ⟨some 7,.v .mv [.const (.string ⟨#[114,111,117,110,100]⟩)],none⟩])
 .skip))
 (.dreg [
 iM 44 3,iM 45 7,iF 46 0 6,iL 47 46,iF 48 2 6,iF 49 0 48,iL 50 49,iF 51 2 6,iF 52 1 51,iL 53 52,⟨some 54,.bs 3 1 [(.int .i64 0)] 3 [(0,.tmp 47),(1,.tmp 50),(2,.tmp 53)],none⟩,iY 55 106 45 54,⟨some 56,.v (.sb .add) [.tmp 55,.const (.string ⟨#[32]⟩)],none⟩,iF 57 4 6,iL 58 57,iX 59 107 58,⟨some 60,.v (.sb .add) [.tmp 56,.tmp 59],none⟩,⟨some 61,.lbs 9 1 [(.string ⟨#[]⟩)] 1 [(0,.tmp 60)],none⟩,⟨some 62,.app 9 1 (.tmp 44) (.tmp 61),none⟩,iM 3 62] [fA,fA,fC,⟨8,true,none⟩,fC,fC,⟨8,true,none⟩,fC,fC,⟨8,true,none⟩,fE,fE,fA,fA,⟨8,false,none⟩,⟨1,true,some [44,56]⟩,fC,⟨63,true,none⟩,fE,fC])))))
 (.reg [
 iM 35 5,iO 36 .add 35 1,iM 5 36])))
def q69x1:PCode :=
 (.seq (.seq (.reg [
 iM 13 4,iF 14 1 1,iL 15 14,iK 16 15,iT 17 .lss 13 16])
 (.cond (.tmp 17)
 .skip
 (.exit 0)))
 (.seq (.blk 1
 (.reg [
 iM 20 3,iF 21 1 1,iL 22 21,iM 23 4,iA 24 1 22 23,iL 25 24,⟨some 26,.bs 3 1 [(.int .i64 0)] 1 [(0,.tmp 25)],none⟩,⟨some 27,.call (.func 106) [.const (.string ⟨#[98,111,97,114,100]⟩),.tmp 26],none⟩,⟨some 28,.lbs 9 1 [(.string ⟨#[]⟩)] 1 [(0,.tmp 27)],none⟩,⟨some 29,.app 9 1 (.tmp 20) (.tmp 28),none⟩,iM 3 29]))
 (.reg [
 iM 18 4,iO 19 .add 18 1,iM 4 19])))
def b69:PCode :=
 (.seq (.reg [
 iV 1 25 0,⟨some 2,.v .mv [.const (.string ⟨#[]⟩)],none⟩])
 (.seq (.reg [
 iF 8 0 1,iL 9 8,⟨some 10,.bs 3 1 [(.int .i64 0)] 1 [(0,.tmp 9)],none⟩,⟨some 11,.call (.func 106) [.const (.string ⟨#[98,101,110,99,104]⟩),.tmp 10],none⟩,⟨some 12,.bs 9 1 [(.string ⟨#[]⟩)] 1 [(0,.tmp 11)],none⟩,iM 3 12])
 (.seq (.seq (.reg [
 iI 4 0])
 (.blk 0
 (.loop q69x1)))
 (.seq (.seq (.reg [
 iI 5 0])
 (.blk 2
 (.loop q69x0)))
 (.seq (.reg [
 iM 63 3,⟨some 64,.call (.func 108) [.tmp 63,.const (.int .i64 197)],none⟩,iM 2 64])
 .ret)))))
def p69:PFunc:=⟨65,[(2,none)],none,b69⟩
def q70x0:PCode :=
 (.seq (.seq (.reg [
 iM 30 5,iF 31 2 2,iL 32 31,iK 33 32,iT 34 .lss 30 33])
 (.cond (.tmp 34)
 .skip
 (.exit 0)))
 (.seq (.blk 1
 (.seq (.dreg [
 iF 37 2 2,iL 38 37,iM 39 5,iA 40 5 38 39,iN 41 5 40,iF 42 2 3,iL 43 42,iM 44 5,iA 45 5 43 44,iN 46 5 45,⟨some 6,.lalloc 41 (.agg #[(.int .i64 0),(.bool false),(.int .i64 0),(.int .i64 0),(.slice none 0 0)]),none⟩,⟨some 7,.lalloc 41 (.agg #[(.int .i64 0),(.bool false),(.int .i64 0),(.int .i64 0),(.slice none 0 0)]),none⟩,iS 5 6 41,iS 5 7 46] [fA,⟨4,false,none⟩,fA,fA,fB,fA,⟨5,false,none⟩,fA,fA,fB,⟨8,false,none⟩,⟨9,false,none⟩,⟨8,false,none⟩,⟨9,true,none⟩])
 (.seq (.reg [
 iF 47 0 6,iL 48 47,iF 49 0 7,iL 50 49,iT 51 .neq 48 50,iM 52 51,jF 53 1 6 52 false,
 jL 54 53 52 false,
 jF 55 1 7 52 false,
 jL 56 55 52 false,
 ⟨some 57,.v (.bb true) [.tmp 54,.tmp 56],some (52,false)⟩,
 iQ 58 52 57,iM 59 58,jF 60 2 6 59 false,
 jN 61 2 60 59 false,
 jF 62 2 7 59 false,
 jN 63 2 62 59 false,
 ⟨some 64,.v (.ag [(.i .i64),(.i .i64)] true) [.tmp 61,.tmp 63],some (59,false)⟩,
 iQ 65 59 64,iM 66 65,jF 67 4 6 66 false,
 jL 68 67 66 false,
 jF 69 4 7 66 false,
 jL 70 69 66 false,
 jY 71 37 68 70 66 false,
 jR 72 71 66 false,
 iQ 73 66 72])
 (.cond (.tmp 73)
 (.seq (.reg [
 iB 4 false])
 .ret)
 .skip))))
 (.reg [
 iM 35 5,iO 36 .add 35 1,iM 5 36])))
def b70:PCode :=
 (.seq (.reg [
 iV 2 25 0,iV 3 25 1,iB 4 false])
 (.seq (.seq (.reg [
 iF 8 0 2,iL 9 8,iF 10 0 3,iL 11 10,iT 12 .neq 9 11,iM 13 12,jF 14 1 2 13 false,
 jL 15 14 13 false,
 jF 16 1 3 13 false,
 jL 17 16 13 false,
 jY 18 37 15 17 13 false,
 jR 19 18 13 false,
 iQ 20 13 19,iM 21 20,jF 22 2 2 21 false,
 jL 23 22 21 false,
 jK 24 23 21 false,
 jF 25 2 3 21 false,
 jL 26 25 21 false,
 jK 27 26 21 false,
 jT 28 .neq 24 27 21 false,
 iQ 29 21 28])
 (.cond (.tmp 29)
 (.seq (.reg [
 iB 4 false])
 .ret)
 .skip))
 (.seq (.seq (.reg [
 iI 5 0])
 (.blk 0
 (.loop q70x0)))
 (.seq (.reg [
 iB 4 true])
 .ret))))
def p70:PFunc:=⟨74,[(4,none)],none,b70⟩
def q71x0:PCode :=
 (.seq (.seq (.reg [
 iM 16 6,iM 17 5,iK 18 17,iO 19 .sub 18 2,iT 20 .lss 16 19])
 (.cond (.tmp 20)
 .skip
 (.exit 0)))
 (.seq (.blk 1
 (.seq (.reg [
 iM 23 5,iM 24 6,iA 25 1 23 24,iL 26 25,⟨some 27,.call (.func 109) [.tmp 26,.const (.int .u8 32)],none⟩,iM 7 27])
 (.seq (.seq (.reg [
 iM 28 7,iK 29 28,iO 30 .eql 29 5])
 (.cond (.tmp 30)
 (.seq (.reg [
 iM 32 7,⟨some 33,.v (.sl 1 true true) [.tmp 32,.const (.int .i64 1),.const (.int .i64 4)],none⟩,⟨some 34,.call (.func 110) [.tmp 33,.const (.int .i64 2)],none⟩,iM 31 34,iE 35 0 31,iE 36 1 31,iM 8 35,iM 9 36])
 (.seq (.reg [
 iH 10])
 (.seq (.reg [
 iB 11 true])
 (.seq (.seq (.reg [
 iM 37 7,⟨some 38,.v (.ia 1) [.tmp 37,.const (.int .i64 4)],none⟩,iL 39 38,⟨some 40,.v (.sb .neq) [.tmp 39,.const (.string ⟨#[45]⟩)],none⟩])
 (.cond (.tmp 40)
 (.reg [
 iM 42 7,⟨some 43,.v (.ia 1) [.tmp 42,.const (.int .i64 4)],none⟩,iL 44 43,⟨some 45,.call (.func 109) [.tmp 44,.const (.int .u8 44)],none⟩,⟨some 46,.call (.func 110) [.tmp 45,.const (.int .i64 2)],none⟩,iM 41 46,iE 47 0 41,iE 48 1 41,iM 10 47,iM 11 48])
 .skip))
 (.seq (.seq (.reg [
 iM 49 9,iR 50 49,iM 51 50,jM 52 11 51 false,
 jR 53 52 51 false,
 iQ 54 51 53])
 (.cond (.tmp 54)
 (.seq (.reg [
 ⟨some 55,.v (.bld [(.int .i64 0),(.slice none 0 0),(.slice none 0 0)] []) [],none⟩,iS 3 2 55,iB 3 false])
 .ret)
 .skip))
 (.seq (.dreg [
 iF 56 2 4,iL 57 56,iM 58 8,⟨some 59,.v (.ia 1) [.tmp 58,.const (.int .i64 0)],none⟩,iL 60 59,iM 61 7,⟨some 62,.v (.ia 1) [.tmp 61,.const (.int .i64 0)],none⟩,iL 63 62,⟨some 64,.v (.sb .eql) [.tmp 63,.const (.string ⟨#[114,111,117,110,100]⟩)],none⟩,iM 65 8,⟨some 66,.v (.ia 1) [.tmp 65,.const (.int .i64 1)],none⟩,iL 67 66,iM 68 8,⟨some 69,.v (.ia 1) [.tmp 68,.const (.int .i64 2)],none⟩,iL 70 69,⟨some 71,.v (.bld [(.int .i64 0),(.int .i64 0)] [(0,1),(1,1)]) [.tmp 67,.tmp 70],none⟩,iM 72 10,⟨some 73,.v (.bld [(.int .i64 0),(.bool false),(.int .i64 0),(.int .i64 0),(.slice none 0 0)] [(0,1),(1,1),(2,2),(4,1)]) [.tmp 60,.tmp 64,.tmp 71,.tmp 72],none⟩,⟨some 74,.lbs 41 5 [(.int .i64 0),(.bool false),(.int .i64 0),(.int .i64 0),(.slice none 0 0)] 1 [(0,.tmp 73)],none⟩,⟨some 75,.app 41 5 (.tmp 57) (.tmp 74),none⟩,iF 76 2 4,iS 1 76 75] [fA,⟨6,false,none⟩,fA,fA,fB,fA,fA,fB,fA,fA,fA,fB,fA,fA,fB,fA,fA,fC,⟨76,true,none⟩,fE,fC,⟨6,true,none⟩])
 (.exit 1)))))))
 .skip))
 (.seq (.reg [
 iM 78 7,⟨some 79,.v (.sl 1 true false) [.tmp 78,.const (.int .i64 1)],none⟩,⟨some 80,.call (.func 110) [.tmp 79,.const (.int .i64 2)],none⟩,iM 77 80,iE 81 0 77,iE 82 1 77,iM 12 81,iM 13 82])
 (.seq (.seq (.reg [
 iM 83 13,iR 84 83,iM 85 84,jM 86 12 85 false,
 jK 87 86 85 false,
 jO 88 .neq 87 1 85 false,
 iQ 89 85 88])
 (.cond (.tmp 89)
 (.seq (.reg [
 ⟨some 90,.v (.bld [(.int .i64 0),(.slice none 0 0),(.slice none 0 0)] []) [],none⟩,iS 3 2 90,iB 3 false])
 .ret)
 .skip))
 (.seq (.reg [
 iM 91 6,iO 92 .eql 91 0])
 (.cond (.tmp 92)
 (.reg [
 iM 93 12,⟨some 94,.v (.ia 1) [.tmp 93,.const (.int .i64 0)],none⟩,iL 95 94,iF 96 0 4,iS 1 96 95])
 (.dreg [
 iF 97 1 4,iL 98 97,iM 99 12,⟨some 100,.v (.ia 1) [.tmp 99,.const (.int .i64 0)],none⟩,iL 101 100,⟨some 102,.lbs 3 1 [(.int .i64 0)] 1 [(0,.tmp 101)],none⟩,⟨some 103,.app 3 1 (.tmp 98) (.tmp 102),none⟩,iF 104 1 4,iS 1 104 103] [fA,⟨6,false,none⟩,fC,fC,fE,⟨104,true,none⟩,fE,fC,⟨6,true,none⟩]))))))))
 (.reg [
 iM 21 6,iO 22 .add 21 1,iM 6 22])))
def b71:PCode :=
 (.seq (.reg [
 ⟨some 2,.lalloc 25 (.agg #[(.int .i64 0),(.slice none 0 0),(.slice none 0 0)]),none⟩,iB 3 false])
 (.seq (.reg [
 ⟨some 4,.lalloc 25 (.agg #[(.int .i64 0),(.slice none 0 0),(.slice none 0 0)]),none⟩])
 (.seq (.reg [
 iM 14 0,⟨some 15,.call (.func 109) [.tmp 14,.const (.int .u8 10)],none⟩,iM 5 15])
 (.seq (.seq (.reg [
 iI 6 0])
 (.blk 0
 (.loop q71x0)))
 (.seq (.seq (.reg [
 iN 105 3 4,iX 106 69 105,iM 107 0,⟨some 108,.v (.sb .neq) [.tmp 106,.tmp 107],none⟩])
 (.cond (.tmp 108)
 (.seq (.reg [
 ⟨some 109,.v (.bld [(.int .i64 0),(.slice none 0 0),(.slice none 0 0)] []) [],none⟩,iS 3 2 109,iB 3 false])
 .ret)
 .skip))
 (.seq (.reg [
 iN 110 3 4,iS 3 2 110,iB 3 true])
 .ret))))))
def p71:PFunc:=⟨111,[(2,some (some 3)),(3,none)],none,b71⟩
def b72:PCode :=
 (.seq (.reg [
 iB 6 false])
 (.seq (.reg [
 iM 7 0,iM 8 1,iT 9 .geq 7 8,iM 10 9,jM 11 0 10 true,
 jM 12 2 10 true,
 jT 13 .leq 11 12 10 true,
 iP 14 10 13,iM 6 14])
 .ret))
def p72:PFunc:=⟨15,[(6,none)],none,b72⟩
def b73:PCode :=
 (.seq (.reg [
 ⟨some 0,.lalloc 25 (.agg #[(.int .i64 0),(.slice none 0 0),(.slice none 0 0)]),none⟩])
 (.seq (.reg [
 ⟨some 1,.bs 3 1 [(.int .i64 0)] 2 [(0,.const (.int .i64 5)),(1,.const (.int .i64 6))],none⟩,⟨some 2,.call (.func 29) [.const (.int .i64 2),.const (.int .i64 2)],none⟩,⟨some 3,.v (.bld [(.int .i64 0),(.bool false),(.int .i64 0),(.int .i64 0),(.slice none 0 0)] [(0,1),(1,1),(2,2)]) [.const (.int .i64 1),.const (.bool true),.tmp 2],none⟩,⟨some 4,.call (.func 29) [.const (.int .i64 2),.const (.int .i64 3)],none⟩,⟨some 5,.v (.bld [(.int .i64 0),(.bool false),(.int .i64 0),(.int .i64 0),(.slice none 0 0)] [(2,2)]) [.tmp 4],none⟩,⟨some 6,.call (.func 29) [.const (.int .i64 1),.const (.int .i64 2)],none⟩,⟨some 7,.bs 3 1 [(.int .i64 0)] 1 [(0,.const (.int .i64 1))],none⟩,⟨some 8,.v (.bld [(.int .i64 0),(.bool false),(.int .i64 0),(.int .i64 0),(.slice none 0 0)] [(1,1),(2,2),(4,1)]) [.const (.bool true),.tmp 6,.tmp 7],none⟩,⟨some 9,.call (.func 29) [.const (.int .i64 1),.const (.int .i64 3)],none⟩,⟨some 10,.bs 3 1 [(.int .i64 0)] 1 [(0,.const (.int .i64 0))],none⟩,⟨some 11,.v (.bld [(.int .i64 0),(.bool false),(.int .i64 0),(.int .i64 0),(.slice none 0 0)] [(0,1),(2,2),(4,1)]) [.const (.int .i64 1),.tmp 9,.tmp 10],none⟩,⟨some 12,.bs 41 5 [(.int .i64 0),(.bool false),(.int .i64 0),(.int .i64 0),(.slice none 0 0)] 4 [(0,.tmp 3),(1,.tmp 5),(2,.tmp 8),(3,.tmp 11)],none⟩,⟨some 13,.v (.bld [(.int .i64 0),(.slice none 0 0),(.slice none 0 0)] [(0,1),(1,1),(2,1)]) [.const (.int .i64 1),.tmp 1,.tmp 12],none⟩,iS 3 0 13])
 .ret))
def p73:PFunc:=⟨14,[(0,some (some 3))],none,b73⟩
def q74x0:PCode :=
 (.seq (.reg [
 iT 26 .lss 25 24])
 (.seq (.cond (.tmp 26)
 .skip
 (.exit 0))
 (.seq (.blk 1
 (.seq (.reg [
 iM 27 25,iM 3 27])
 (.seq (.reg [
 iN 28 3 1,iM 29 3,iY 30 111 28 29,iR 31 30])
 (.cond (.tmp 31)
 (.seq (.reg [
 iB 2 false])
 .ret)
 .skip))))
 (.reg [
 iO 32 .add 25 1,iM 25 32]))))
def b74:PCode :=
 (.seq (.reg [
 iV 1 25 0,iB 2 false])
 (.seq (.seq (.reg [
 iF 4 0 1,iL 5 4,⟨some 6,.call (.func 83) [.tmp 5,.const (.int .i64 0),.const (.int .i64 3)],none⟩,iR 7 6,iM 8 7,jF 9 1 1 8 false,
 jL 10 9 8 false,
 jK 11 10 8 false,
 ⟨some 12,.call (.func 83) [.tmp 11,.const (.int .i64 1),.const (.int .i64 3)],some (8,false)⟩,
 jR 13 12 8 false,
 iQ 14 8 13,iM 15 14,jF 16 2 1 15 false,
 jL 17 16 15 false,
 jK 18 17 15 false,
 ⟨some 19,.call (.func 83) [.tmp 18,.const (.int .i64 1),.const (.int .i64 6)],some (15,false)⟩,
 jR 20 19 15 false,
 iQ 21 15 20])
 (.cond (.tmp 21)
 (.seq (.reg [
 iB 2 false])
 .ret)
 .skip))
 (.seq (.seq (.reg [
 iF 22 2 1,iL 23 22,iK 24 23,iI 25 0])
 (.blk 0
 (.loop q74x0)))
 (.seq (.reg [
 iF 33 1 1,iL 34 33,⟨some 35,.call (.func 112) [.tmp 34,.func 113],none⟩,iR 36 35,iM 2 36])
 .ret))))
def p74:PFunc:=⟨37,[(2,none)],none,b74⟩
def q75x0:PCode :=
 (.seq (.reg [
 iT 16 .lss 15 14])
 (.seq (.cond (.tmp 16)
 .skip
 (.exit 0))
 (.seq (.blk 1
 (.seq (.reg [
 iM 17 15,iA 18 1 13 15,iL 19 18,iM 5 17,iM 6 19])
 (.seq (.reg [
 iM 20 6,iF 21 0 2,iL 22 21,⟨some 23,.call (.func 83) [.tmp 20,.const (.int .i64 0),.tmp 22],none⟩,iR 24 23,iM 25 24,jF 26 2 2 25 false,
 jL 27 26 25 false,
 jM 28 5 25 false,
 jA 29 5 27 28 25 false,
 jF 30 1 29 25 false,
 jL 31 30 25 false,
 jM 32 31 25 false,
 jM 33 6 32 true,
 jO 34 .neq 33 0 32 true,
 jP 35 32 34 25 false,
 iQ 36 25 35])
 (.cond (.tmp 36)
 (.seq (.reg [
 iB 4 false])
 .ret)
 .skip))))
 (.reg [
 iO 37 .add 15 1,iM 15 37]))))
def b75:PCode :=
 (.seq (.reg [
 iV 2 25 0,iB 4 false])
 (.seq (.seq (.reg [
 iM 7 1,iK 8 7,iF 9 2 2,iL 10 9,iK 11 10,iT 12 .neq 8 11])
 (.cond (.tmp 12)
 (.seq (.reg [
 iB 4 false])
 .ret)
 .skip))
 (.seq (.seq (.reg [
 iM 13 1,iK 14 13,iI 15 0])
 (.blk 0
 (.loop q75x0)))
 (.seq (.reg [
 iB 4 true])
 .ret))))
def p75:PFunc:=⟨38,[(4,none)],none,b75⟩
def b76:PCode :=
 (.seq (.reg [
 iV 2 25 0,⟨some 4,.lalloc 100 (.agg #[(.int .i64 0),(.slice none 0 0),(.slice none 0 0),(.slice none 0 0),(.map none),(.int .i64 0),(.int .i64 0)]),none⟩])
 (.seq (.reg [
 iN 5 3 2,iM 6 1,⟨some 7,.mkm (.agg [(.i .i64),(.i .i64)]),none⟩,⟨some 8,.v (.bld [(.int .i64 0),(.slice none 0 0),(.slice none 0 0),(.slice none 0 0),(.map none),(.int .i64 0),(.int .i64 0)] [(0,3),(3,1),(4,1),(5,1),(6,1)]) [.tmp 5,.tmp 6,.tmp 7,.const (.int .i64 (-1)),.const (.int .i64 0)],none⟩,iS 7 4 8])
 .ret))
def p76:PFunc:=⟨9,[(4,some (some 7))],none,b76⟩
def b77:PCode :=
 (.seq (.reg [
 iV 3 100 0,iI 6 0])
 (.seq (.reg [
 iM 12 1,iM 13 2,⟨some 14,.v (.bld [(.int .i64 0),(.int .i64 0)] [(0,1),(1,1)]) [.tmp 12,.tmp 13],none⟩,⟨some 7,.lalloc 131 (.agg #[(.int .i64 0),(.int .i64 0)]),none⟩,iS 2 7 14])
 (.seq (.seq (.reg [
 iF 16 4 3,iL 17 16,iN 18 2 7,⟨some 19,.mlk (.agg [(.i .i64),(.i .i64)]) (.int .i64 0) true (.tmp 17) (.tmp 18),none⟩,iM 15 19,iE 20 0 15,iE 21 1 15,iM 8 20,iM 9 21])
 (.seq (.reg [
 iM 22 9])
 (.cond (.tmp 22)
 (.seq (.reg [
 iM 23 8,iM 6 23])
 .ret)
 .skip)))
 (.seq (.reg [
 ⟨some 24,.v (.bld [.nilFunc,.nilFunc] [(0,1),(1,1)]) [.func 114,.func 115],none⟩,⟨some 10,.lalloc 135 (.agg #[.nilFunc,.nilFunc]),none⟩,iS 2 10 24])
 (.seq (.dreg [
 iN 25 7 3,iM 26 1,iM 27 2,iZ 28 79 25 26 27,iM 29 2,⟨some 30,.v (.iaa 1 2) [.tmp 10,.tmp 29],none⟩,iL 31 30,iF 32 0 3,iF 33 2 32,iL 34 33,iM 35 1,iA 36 5 34 35,iN 37 5 36,⟨some 38,.v (.bld [(.int .i64 0),(.bool false),(.int .i64 0),(.int .i64 0),(.slice none 0 0)] [(0,5)]) [.tmp 37],none⟩,⟨some 39,.call (.tmp 31) [.tmp 38],none⟩,iT 40 .add 28 39,iM 11 40] [⟨5,false,none⟩,fA,fA,fB,fA,fA,⟨12,false,none⟩,fA,fA,⟨5,false,none⟩,fA,fA,fB,fA,fD,fC,fC])
 (.seq (.seq (.reg [
 iM 41 1,iF 42 5 3,iL 43 42,iT 44 .eql 41 43,iM 45 44,jM 46 2 45 true,
 jO 47 .eql 46 1 45 true,
 iP 48 45 47])
 (.cond (.tmp 48)
 (.reg [
 iM 49 11,iF 50 6 3,iL 51 50,iT 52 .add 49 51,iM 11 52])
 .skip))
 (.seq (.reg [
 iF 53 4 3,iL 54 53,iN 55 2 7,iM 56 11,⟨none,.mup (.agg [(.i .i64),(.i .i64)]) (.tmp 54) (.tmp 55) (.tmp 56),none⟩])
 (.seq (.reg [
 iM 57 11,iM 6 57])
 .ret))))))))
def p77:PFunc:=⟨58,[(6,none)],none,b77⟩
def q78x0:PCode :=
 (.seq (.reg [
 iT 15 .lss 14 13])
 (.seq (.cond (.tmp 15)
 .skip
 (.exit 0))
 (.seq (.blk 1
 (.seq (.reg [
 iM 16 14,iA 17 5 12 14,iN 18 5 17,⟨some 9,.lalloc 41 (.agg #[(.int .i64 0),(.bool false),(.int .i64 0),(.int .i64 0),(.slice none 0 0)]),none⟩,iM 8 16,iS 5 9 18])
 (.seq (.reg [
 iF 19 0 9,iL 20 19,iM 21 1,iT 22 .eql 20 21])
 (.cond (.tmp 22)
 (.reg [
 iM 23 7,iN 24 7 3,iM 25 8,iM 26 2,iZ 27 77 24 25 26,⟨some 28,.lbs 3 1 [(.int .i64 0)] 1 [(0,.tmp 27)],none⟩,⟨some 29,.app 3 1 (.tmp 23) (.tmp 28),none⟩,iM 7 29])
 .skip))))
 (.reg [
 iO 30 .add 14 1,iM 14 30]))))
def b78:PCode :=
 (.seq (.reg [
 iV 3 100 0,iI 6 0])
 (.seq (.reg [
 iH 7])
 (.seq (.seq (.reg [
 iF 10 0 3,iF 11 2 10,iL 12 11,iK 13 12,iI 14 0])
 (.blk 0
 (.loop q78x0)))
 (.seq (.reg [
 iM 31 7,iX 32 116 31,iM 6 32])
 .ret))))
def p78:PFunc:=⟨33,[(6,none)],none,b78⟩
def q79x0:PCode :=
 (.seq (.reg [
 iT 24 .lss 23 22])
 (.seq (.cond (.tmp 24)
 .skip
 (.exit 0))
 (.seq (.blk 1
 (.seq (.reg [
 iA 25 1 21 23,iL 26 25,iM 9 26])
 (.reg [
 iM 27 7,iN 28 7 3,iM 29 9,iM 30 2,iZ 31 77 28 29 30,⟨some 32,.lbs 3 1 [(.int .i64 0)] 1 [(0,.tmp 31)],none⟩,⟨some 33,.app 3 1 (.tmp 27) (.tmp 32),none⟩,iM 7 33])))
 (.reg [
 iO 34 .add 23 1,iM 23 34]))))
def b79:PCode :=
 (.seq (.reg [
 iV 3 100 0,iI 6 0])
 (.seq (.reg [
 iN 10 7 3,iM 11 1,iM 12 2,iZ 13 80 10 11 12,⟨some 14,.bs 3 1 [(.int .i64 0)] 1 [(0,.tmp 13)],none⟩,iM 7 14])
 (.seq (.seq (.reg [
 iF 15 0 3,iF 16 2 15,iL 17 16,iM 18 1,iA 19 5 17 18,iF 20 4 19,iL 21 20,iK 22 21,iI 23 0])
 (.blk 0
 (.loop q79x0)))
 (.seq (.reg [
 iM 35 7,iX 36 116 35,iM 6 36])
 .ret))))
def p79:PFunc:=⟨37,[(6,none)],none,b79⟩
def b80:PCode :=
 (.seq (.reg [
 iV 3 100 0,iI 6 0])
 (.seq (.seq (.reg [
 iN 10 7 3,iM 11 1,iY 12 117 10 11,iM 9 12,iE 13 0 9,iE 14 1 9,iM 7 13,iM 8 14])
 (.seq (.reg [
 iM 15 8])
 (.cond (.tmp 15)
 (.seq (.reg [
 iN 16 7 3,iM 17 7,iM 18 2,iZ 19 77 16 17 18,iM 6 19])
 .ret)
 .skip)))
 (.seq (.reg [
 iI 6 0])
 .ret)))
def p80:PFunc:=⟨20,[(6,none)],none,b80⟩
def q81x0:PCode :=
 (.seq (.seq (.reg [
 iM 37 6,iF 38 4 5,iL 39 38,iK 40 39,iT 41 .lss 37 40])
 (.cond (.tmp 41)
 .skip
 (.exit 0)))
 (.seq (.blk 1
 (.seq (.dreg [
 iF 44 4 5,iL 45 44,iM 46 6,iA 47 1 45 46,iL 48 47,iM 49 1,iO 50 .sub 49 1,⟨some 51,.call (.func 72) [.tmp 48,.const (.int .i64 0),.tmp 50],none⟩,iR 52 51,iM 53 52,jM 54 6 53 false,
 jO 55 .gtr 54 0 53 false,
 jM 56 55 53 false,
 jF 57 4 5 56 true,
 jL 58 57 56 true,
 jM 59 6 56 true,
 jA 60 1 58 59 56 true,
 jL 61 60 56 true,
 jF 62 4 5 56 true,
 jL 63 62 56 true,
 jM 64 6 56 true,
 jO 65 .sub 64 1 56 true,
 jA 66 1 63 65 56 true,
 jL 67 66 56 true,
 jT 68 .leq 61 67 56 true,
 jP 69 56 68 53 false,
 iQ 70 53 69] [fC,⟨7,true,none⟩,fC,fC,fE,fA,fA,fD,fC,fC,fC,fC,fC,fA,⟨7,false,none⟩,fA,fA,fB,fA,⟨7,false,none⟩,fA,fA,fA,fB,fC,fC,fC])
 (.cond (.tmp 70)
 (.seq (.reg [
 iB 4 false])
 .ret)
 .skip)))
 (.reg [
 iM 42 6,iO 43 .add 42 1,iM 6 43])))
def b81:PCode :=
 (.seq (.reg [
 iV 2 25 0,iB 4 false])
 (.seq (.reg [
 iF 7 2 2,iL 8 7,iM 9 1,iA 10 5 8 9,iN 11 5 10,⟨some 5,.lalloc 41 (.agg #[(.int .i64 0),(.bool false),(.int .i64 0),(.int .i64 0),(.slice none 0 0)]),none⟩,iS 5 5 11])
 (.seq (.seq (.reg [
 iF 12 0 5,iL 13 12,iF 14 1 2,iL 15 14,iK 16 15,iO 17 .sub 16 1,⟨some 18,.call (.func 72) [.tmp 13,.const (.int .i64 0),.tmp 17],none⟩,iR 19 18,iM 20 19,jF 21 2 5 20 false,
 jF 22 0 21 20 false,
 jL 23 22 20 false,
 ⟨some 24,.call (.func 72) [.tmp 23,.const (.int .i64 1),.const (.int .i64 6)],some (20,false)⟩,
 jR 25 24 20 false,
 iQ 26 20 25,iM 27 26,jF 28 2 5 27 false,
 jF 29 1 28 27 false,
 jL 30 29 27 false,
 jF 31 2 5 27 false,
 jF 32 0 31 27 false,
 jL 33 32 27 false,
 ⟨some 34,.call (.func 72) [.tmp 30,.tmp 33,.const (.int .i64 6)],some (27,false)⟩,
 jR 35 34 27 false,
 iQ 36 27 35])
 (.cond (.tmp 36)
 (.seq (.reg [
 iB 4 false])
 .ret)
 .skip))
 (.seq (.seq (.reg [
 iI 6 0])
 (.blk 0
 (.loop q81x0)))
 (.seq (.reg [
 iB 4 true])
 .ret)))))
def p81:PFunc:=⟨71,[(4,none)],none,b81⟩
def q82x0:PCode :=
 (.seq (.seq (.reg [
 iM 54 14,iM 55 7,iT 56 .lss 54 55])
 (.cond (.tmp 56)
 .skip
 (.exit 6)))
 (.seq (.blk 7
 (.seq (.reg [
 iM 59 8,iM 60 14,iA 61 1 59 60,iL 62 61,iO 63 .lss 62 0,iM 64 63,jM 65 9 64 true,
 jM 66 14 64 true,
 jA 67 1 65 66 64 true,
 jL 68 67 64 true,
 jM 69 8 64 true,
 jM 70 2 64 true,
 jM 71 13 64 true,
 ⟨some 72,.call (.func 118) [.tmp 68,.tmp 69,.tmp 70,.tmp 71],some (64,true)⟩,
 iP 73 64 72])
 (.cond (.tmp 73)
 (.seq (.reg [
 iM 74 8,iM 75 14,iM 76 13,iA 77 1 74 75,iS 1 77 76])
 (.reg [
 iM 78 12,iO 79 .sub 78 1,iM 12 79]))
 .skip)))
 (.reg [
 iM 57 14,iO 58 .add 57 1,iM 14 58])))
def q82x1:PCode :=
 (.seq (.seq (.reg [
 iM 50 12,iO 51 .gtr 50 0])
 (.cond (.tmp 51)
 .skip
 (.exit 4)))
 (.seq (.blk 5
 (.seq (.reg [
 iI 14 0])
 (.blk 6
 (.loop q82x0))))
 (.reg [
 iM 52 13,iO 53 .add 52 1,iM 13 53])))
def q82x2:PCode :=
 (.seq (.seq (.reg [
 iM 29 11,iM 30 10,iT 31 .lss 29 30])
 (.cond (.tmp 31)
 .skip
 (.exit 2)))
 (.seq (.blk 3
 (.seq (.reg [
 iN 34 3 3,iM 35 1,iM 36 11,iM 37 10,⟨some 38,.call (.func 91) [.tmp 34,.tmp 35,.tmp 36,.tmp 37],none⟩])
 (.cond (.tmp 38)
 (.reg [
 iM 39 9,iM 40 10,iM 41 9,iM 42 10,iA 43 1 41 42,iL 44 43,iM 45 11,⟨some 46,.lbs 3 1 [(.int .i64 0)] 1 [(0,.tmp 45)],none⟩,⟨some 47,.app 3 1 (.tmp 44) (.tmp 46),none⟩,iA 48 1 39 40,iS 1 48 47])
 .skip)))
 (.reg [
 iM 32 11,iO 33 .add 32 1,iM 11 33])))
def q82x3:PCode :=
 (.seq (.seq (.reg [
 iM 21 10,iM 22 7,iT 23 .lss 21 22])
 (.cond (.tmp 23)
 .skip
 (.exit 0)))
 (.seq (.blk 1
 (.seq (.reg [
 iM 26 8,iM 27 10,iA 28 1 26 27,⟨none,.st 1 (.tmp 28) (.const (.int .i64 (-1))),none⟩])
 (.seq (.reg [
 iI 11 0])
 (.blk 2
 (.loop q82x2)))))
 (.reg [
 iM 24 10,iO 25 .add 24 1,iM 10 25])))
def b82:PCode :=
 (.seq (.reg [
 iV 3 25 0,iH 6])
 (.seq (.reg [
 iM 15 1,iK 16 15,iM 7 16])
 (.seq (.reg [
 iM 17 7,⟨some 18,.mks 3 1 [(.int .i64 0)] 8 (.tmp 17) (.tmp 17),none⟩,iM 8 18])
 (.seq (.reg [
 iM 19 7,⟨some 20,.mks 22 1 [(.slice none 0 0)] 24 (.tmp 19) (.tmp 19),none⟩,iM 9 20])
 (.seq (.seq (.reg [
 iI 10 0])
 (.blk 0
 (.loop q82x3)))
 (.seq (.reg [
 iM 49 7,iM 12 49])
 (.seq (.seq (.reg [
 iI 13 0])
 (.blk 4
 (.loop q82x1)))
 (.seq (.reg [
 iM 80 8,iM 6 80])
 .ret))))))))
def p82:PFunc:=⟨81,[(6,none)],none,b82⟩
def b83:PCode :=
 (.seq (.reg [
 iB 6 false])
 (.seq (.reg [
 iM 7 0,iM 8 1,iT 9 .geq 7 8,iM 10 9,jM 11 0 10 true,
 jM 12 2 10 true,
 jT 13 .leq 11 12 10 true,
 iP 14 10 13,iM 6 14])
 .ret))
def p83:PFunc:=⟨15,[(6,none)],none,b83⟩
def b84:PCode :=
 (.seq (.reg [
 ⟨some 2,.alloc 22 (.slice none 0 0),none⟩,⟨some 3,.alloc 31 (.int .i64 0),none⟩])
 (.seq (.reg [
 ⟨some 4,.v (.mkf (.func 119) 0) [.tmp 2,.tmp 3],none⟩,⟨none,.dfr (.tmp 4) [],none⟩])
 (.seq (.reg [
 iM 5 0,⟨some 6,.call (.tmp 5) [],none⟩])
 (.seq (.reg [
 ⟨none,.st 1 (.tmp 2) (.const (.slice none 0 0)),none⟩,⟨none,.st 1 (.tmp 3) (.const (.int .i64 0)),none⟩])
 .ret))))
def p84:PFunc:=⟨7,[(2,some none),(3,some none)],none,b84⟩
def q85x0:PCode :=
 (.seq (.reg [
 iT 7 .lss 6 5])
 (.seq (.cond (.tmp 7)
 .skip
 (.exit 0))
 (.seq (.blk 1
 (.seq (.reg [
 iM 8 6,iM 2 8])
 (.seq (.reg [
 iN 9 7 1,iM 10 2,⟨some 11,.call (.func 79) [.tmp 9,.tmp 10,.const (.int .i64 1)],none⟩,iO 12 .eql 11 0])
 (.cond (.tmp 12)
 (.reg [
 iN 13 7 1,iM 14 2,⟨some 15,.bs 3 1 [(.int .i64 0)] 1 [(0,.tmp 14)],none⟩,iY 16 86 13 15])
 .skip))))
 (.reg [
 iO 17 .add 6 1,iM 6 17]))))
def b85:PCode :=
 (.seq (.reg [
 iF 3 2 0,iL 4 3,iK 5 4,iI 6 0])
 (.blk 0
 (.loop q85x0)))
def p85:PFunc:=⟨18,[],none,b85⟩
def q86x0:PCode :=
 (.seq (.seq (.reg [
 iM 23 5,iF 24 0 2,iF 25 2 24,iL 26 25,iK 27 26,iT 28 .lss 23 27])
 (.cond (.tmp 28)
 .skip
 (.exit 0)))
 (.seq (.blk 1
 (.seq (.reg [
 iN 31 7 2,iM 32 4,iM 33 5,iZ 34 120 31 32 33])
 (.cond (.tmp 34)
 (.dreg [
 iN 35 7 2,iM 36 1,iX 37 98 36,iM 38 5,⟨some 39,.lbs 3 1 [(.int .i64 0)] 1 [(0,.tmp 38)],none⟩,⟨some 40,.app 3 1 (.tmp 37) (.tmp 39),none⟩,iY 41 86 35 40] [⟨4,false,none⟩,fC,fE,fA,⟨41,false,none⟩,fE,fD])
 .skip)))
 (.reg [
 iM 29 5,iO 30 .add 29 1,iM 5 30])))
def b86:PCode :=
 (.seq (.reg [
 iV 2 100 0])
 (.seq (.reg [
 iM 6 1,iM 7 1,iK 8 7,iO 9 .sub 8 1,iA 10 1 6 9,iL 11 10,iM 4 11])
 (.seq (.seq (.dreg [
 iN 12 7 2,iM 13 4,⟨some 14,.call (.func 77) [.tmp 12,.tmp 13,.const (.int .i64 1)],none⟩,iN 15 7 2,iX 16 88 15,iT 17 .eql 14 16] [⟨4,true,none⟩,fC,fE,⟨4,false,none⟩,fD,fC])
 (.cond (.tmp 17)
 (.reg [
 iM 18 1,⟨some 19,.v (.bld [(.slice none 0 0)] [(0,1)]) [.tmp 18],none⟩,⟨some 20,.v (.mki 140) [.tmp 19],none⟩,⟨none,.pnc (.tmp 20),none⟩])
 .skip))
 (.seq (.reg [
 iM 21 4,iO 22 .add 21 1,iM 5 22])
 (.blk 0
 (.loop q86x0))))))
def p86:PFunc:=⟨42,[],none,b86⟩
def b87:PCode :=
 (.seq (.reg [
 iV 2 25 0,iB 4 false])
 (.seq (.reg [
 iM 5 1,iF 6 2 2,iL 7 6,iK 8 7,iO 9 .sub 8 1,⟨some 10,.call (.func 83) [.tmp 5,.const (.int .i64 0),.tmp 9],none⟩,iM 4 10])
 .ret))
def p87:PFunc:=⟨11,[(4,none)],none,b87⟩
def q88x0:PCode :=
 (.seq (.reg [
 iT 10 .lss 9 8])
 (.seq (.cond (.tmp 10)
 .skip
 (.exit 0))
 (.seq (.blk 1
 (.seq (.reg [
 iM 11 9,iM 4 11])
 (.reg [
 iM 12 3,iN 13 7 1,iM 14 4,⟨some 15,.call (.func 77) [.tmp 13,.tmp 14,.const (.int .i64 1)],none⟩,⟨some 16,.lbs 3 1 [(.int .i64 0)] 1 [(0,.tmp 15)],none⟩,⟨some 17,.app 3 1 (.tmp 12) (.tmp 16),none⟩,iM 3 17])))
 (.reg [
 iO 18 .add 9 1,iM 9 18]))))
def b88:PCode :=
 (.seq (.reg [
 iV 1 100 0,iI 2 0])
 (.seq (.reg [
 iH 3])
 (.seq (.seq (.reg [
 iF 5 0 1,iF 6 2 5,iL 7 6,iK 8 7,iI 9 0])
 (.blk 0
 (.loop q88x0)))
 (.seq (.reg [
 iM 19 3,iX 20 116 19,iM 2 20])
 .ret))))
def p88:PFunc:=⟨21,[(2,none)],none,b88⟩
def b91:PCode :=
 (.seq (.reg [
 iV 4 25 0,iB 8 false])
 (.seq (.dreg [
 iM 9 2,iM 10 3,iT 11 .lss 9 10,iM 12 11,jM 13 1 12 true,
 jM 14 2 12 true,
 jA 15 1 13 14 12 true,
 jL 16 15 12 true,
 jM 17 1 12 true,
 jM 18 3 12 true,
 jA 19 1 17 18 12 true,
 jL 20 19 12 true,
 jT 21 .eql 16 20 12 true,
 jM 22 21 12 true,
 jF 23 2 4 22 false,
 jL 24 23 22 false,
 jM 25 3 22 false,
 jA 26 5 24 25 22 false,
 jF 27 4 26 22 false,
 jL 28 27 22 false,
 jM 29 2 22 false,
 jY 30 30 28 29 22 false,
 jQ 31 22 30 12 true,
 iP 32 12 31,iM 8 32] [fC,fC,fC,fC,fA,fA,fA,fB,fA,fA,fA,fB,fC,fC,fC,⟨6,true,none⟩,fC,fC,fC,fE,fA,fD,fC,fC,fC])
 .ret))
def p91:PFunc:=⟨33,[(8,none)],none,b91⟩
def b92:PCode :=
 (.seq (.reg [
 ⟨some 1,.box 25 (.tmp 0),none⟩,iH 2])
 (.seq (.reg [
 ⟨some 3,.alloc 109 (.slice none 0 0),none⟩])
 (.seq (.seq (.reg [
 iN 5 3 1,iX 6 102 5])
 (.blk 0
 (.rf (.tmp 6) [7]
 (.reg [
 iM 4 7])
 (.blk 1
 (.dreg [
 iL 8 3,iM 9 4,iN 10 3 1,iM 11 4,iY 12 76 10 11,iX 13 88 12,⟨some 14,.v (.bld [(.slice none 0 0),(.int .i64 0)] [(0,1),(1,1)]) [.tmp 9,.tmp 13],none⟩,⟨some 15,.lbs 112 2 [(.slice none 0 0),(.int .i64 0)] 1 [(0,.tmp 14)],none⟩,⟨some 16,.app 112 2 (.tmp 8) (.tmp 15),none⟩,iS 1 3 16] [fB,fA,fB,fA,⟨1,false,some [8,9]⟩,⟨1,false,some [8,9]⟩,fA,⟨17,false,none⟩,fE,fE])))))
 (.seq (.reg [
 iL 17 3,⟨some 18,.call (.func 99) [.tmp 17,.func 100],none⟩,iM 2 18])
 .ret))))
def p92:PFunc:=⟨19,[(2,none)],none,b92⟩
def q94x0:PCode :=
 (.seq (.seq (.reg [
 iM 5 4,iM 6 0,iK 7 6,iT 8 .lss 5 7])
 (.cond (.tmp 8)
 .skip
 (.exit 0)))
 (.seq (.blk 1
 (.reg [
 iM 11 3,iM 12 0,iM 13 4,iA 14 1 12 13,iL 15 14,⟨some 16,.v .mx [.tmp 11,.tmp 15],none⟩,iM 3 16]))
 (.reg [
 iM 9 4,iO 10 .add 9 1,iM 4 10])))
def b94:PCode :=
 (.seq (.reg [
 iI 2 0])
 (.seq (.reg [
 iI 3 0])
 (.seq (.seq (.reg [
 iI 4 0])
 (.blk 0
 (.loop q94x0)))
 (.seq (.reg [
 iM 17 3,iM 2 17])
 .ret))))
def p94:PFunc:=⟨18,[(2,none)],none,b94⟩
def q95x0:PCode :=
 (.seq (.seq (.reg [
 iM 13 8,iM 14 7,iK 15 14,iT 16 .lss 13 15])
 (.cond (.tmp 16)
 .skip
 (.exit 0)))
 (.seq (.blk 1
 (.dreg [
 iM 19 7,iM 20 8,iM 21 7,iM 22 8,iA 23 1 21 22,iL 24 23,iM 25 2,iM 26 8,iA 27 1 25 26,iL 28 27,iT 29 .add 24 28,iA 30 1 19 20,iS 1 30 29] [fA,fA,fA,fA,fA,fB,fA,fA,fA,fB,fC,fC,fE]))
 (.reg [
 iM 17 8,iO 18 .add 17 1,iM 8 18])))
def b95:PCode :=
 (.seq (.reg [
 iV 3 25 0,iH 6])
 (.seq (.reg [
 iN 9 3 3,iM 10 1,iM 11 2,iZ 12 82 9 10 11,iM 7 12])
 (.seq (.seq (.reg [
 iI 8 0])
 (.blk 0
 (.loop q95x0)))
 (.seq (.reg [
 iM 31 7,iM 6 31])
 .ret))))
def p95:PFunc:=⟨32,[(6,none)],none,b95⟩
def b96:PCode :=
 (.seq (.reg [
 iM 3 0,iK 4 3,iM 2 4])
 (.reg [
 iM 5 0,iM 6 2,iM 7 2,⟨some 8,.v (.cv .u64) [.tmp 7],none⟩,iX 9 122 8,⟨some 10,.call (.func 121) [.tmp 5,.const (.int .i64 0),.tmp 6,.tmp 9],none⟩]))
def p96:PFunc:=⟨11,[],none,b96⟩
def q97x0:PCode :=
 (.seq (.seq (.reg [
 iM 29 5,iM 30 4,iK 31 30,iT 32 .lss 29 31])
 (.cond (.tmp 32)
 .skip
 (.exit 2)))
 (.seq (.blk 3
 (.seq (.dreg [
 iM 35 4,iM 36 5,iA 37 1 35 36,iL 38 37,iM 39 4,iM 40 5,iO 41 .sub 40 1,iA 42 1 39 41,iL 43 42,iT 44 .neq 38 43] [fA,fA,fA,fB,fA,fA,fA,fA,fB,fC])
 (.cond (.tmp 44)
 (.seq (.reg [
 iM 45 0,iM 46 3,iM 47 4,iM 48 5,iA 49 1 47 48,iL 50 49,iA 51 1 45 46,iS 1 51 50])
 (.reg [
 iM 52 3,iO 53 .add 52 1,iM 3 53]))
 .skip)))
 (.reg [
 iM 33 5,iO 34 .add 33 1,iM 5 34])))
def q97x1:PCode :=
 (.seq (.seq (.reg [
 iM 10 3,iM 11 0,iK 12 11,iT 13 .lss 10 12])
 (.cond (.tmp 13)
 .skip
 (.exit 0)))
 (.seq (.blk 1
 (.seq (.dreg [
 iM 16 0,iM 17 3,iA 18 1 16 17,iL 19 18,iM 20 0,iM 21 3,iO 22 .sub 21 1,iA 23 1 20 22,iL 24 23,iT 25 .eql 19 24] [fA,fA,fA,fB,fA,fA,fA,fA,fB,fC])
 (.cond (.tmp 25)
 (.seq (.reg [
 iM 26 0,iM 27 3,⟨some 28,.v (.sl 1 true false) [.tmp 26,.tmp 27],none⟩,iM 4 28])
 (.seq (.seq (.reg [
 iI 5 1])
 (.blk 2
 (.loop q97x0)))
 (.seq (.reg [
 iM 54 0,iM 55 3,⟨some 56,.v (.sl 1 true false) [.tmp 54,.tmp 55],none⟩,⟨none,.clr [(.int .i64 0)] (.tmp 56),none⟩])
 (.seq (.reg [
 iM 57 0,iM 58 3,⟨some 59,.v (.sl 1 false true) [.tmp 57,.tmp 58],none⟩,iM 2 59])
 .ret))))
 .skip)))
 (.reg [
 iM 14 3,iO 15 .add 14 1,iM 3 15])))
def b97:PCode :=
 (.seq (.reg [
 iH 2])
 (.seq (.seq (.reg [
 iM 6 0,iK 7 6,iO 8 .lss 7 2])
 (.cond (.tmp 8)
 (.seq (.reg [
 iM 9 0,iM 2 9])
 .ret)
 .skip))
 (.seq (.seq (.reg [
 iI 3 1])
 (.blk 0
 (.loop q97x1)))
 (.seq (.reg [
 iM 60 0,iM 2 60])
 .ret))))
def p97:PFunc:=⟨61,[(2,none)],none,b97⟩
def b98:PCode :=
 (.seq (.reg [
 iH 2])
 (.seq (.seq (.reg [
 iM 3 0,⟨some 4,.v (.nl .slice false) [.tmp 3],none⟩])
 (.cond (.tmp 4)
 (.seq (.reg [
 iH 2])
 .ret)
 .skip))
 (.seq (.reg [
 ⟨some 5,.bs 3 1 [(.int .i64 0)] 0 [],none⟩,iM 6 0,⟨some 7,.app 3 1 (.tmp 5) (.tmp 6),none⟩,iM 2 7])
 .ret)))
def p98:PFunc:=⟨8,[(2,none)],none,b98⟩
def q99x0:PCode :=
 (.seq (.reg [
 iT 11 .lss 10 9])
 (.seq (.cond (.tmp 11)
 .skip
 (.exit 0))
 (.seq (.blk 1
 (.seq (.reg [
 iA 12 2 8 10,iN 13 2 12,⟨some 7,.lalloc 112 (.agg #[(.slice none 0 0),(.int .i64 0)]),none⟩,iS 2 7 13])
 (.seq (.seq (.dreg [
 iM 14 5,iK 15 14,iO 16 .gtr 15 0,iM 17 16,jM 18 1 17 true,
 jN 19 2 7 17 true,
 jM 20 5 17 true,
 ⟨some 21,.v (.ia 2) [.tmp 20,.const (.int .i64 0)],some (17,true)⟩,
 jN 22 2 21 17 true,
 ⟨some 23,.call (.tmp 18) [.tmp 19,.tmp 22],some (17,true)⟩,
 iP 24 17 23] [fC,fC,fC,fC,fA,⟨9,false,none⟩,fC,fC,fE,fD,fC])
 (.cond (.tmp 24)
 (.reg [
 iH 5])
 .skip))
 (.seq (.dreg [
 iM 25 5,iK 26 25,iO 27 .eql 26 0,iM 28 27,jM 29 1 28 false,
 jM 30 5 28 false,
 ⟨some 31,.v (.ia 2) [.tmp 30,.const (.int .i64 0)],some (28,false)⟩,
 jN 32 2 31 28 false,
 jN 33 2 7 28 false,
 ⟨some 34,.call (.tmp 29) [.tmp 32,.tmp 33],some (28,false)⟩,
 jR 35 34 28 false,
 iQ 36 28 35] [fC,fC,fC,fC,fA,fC,fC,fE,⟨9,false,none⟩,fD,fC,fC])
 (.cond (.tmp 36)
 (.reg [
 iM 37 5,iN 38 2 7,⟨some 39,.lbs 112 2 [(.slice none 0 0),(.int .i64 0)] 1 [(0,.tmp 38)],none⟩,⟨some 40,.app 112 2 (.tmp 37) (.tmp 39),none⟩,iM 5 40])
 .skip)))))
 (.reg [
 iO 41 .add 10 1,iM 10 41]))))
def b99:PCode :=
 (.seq (.reg [
 iH 4])
 (.seq (.reg [
 iH 5])
 (.seq (.seq (.reg [
 iM 8 0,iK 9 8,iI 10 0])
 (.blk 0
 (.loop q99x0)))
 (.seq (.reg [
 iM 42 5,iM 4 42])
 .ret))))
def p99:PFunc:=⟨43,[(4,none)],none,b99⟩
def b100:PCode :=
 (.seq (.reg [
 iV 2 112 0,iV 3 112 1,iB 4 false])
 (.seq (.reg [
 iF 5 1 2,iL 6 5,iF 7 1 3,iL 8 7,iT 9 .lss 6 8,iM 4 9])
 .ret))
def p100:PFunc:=⟨10,[(4,none)],none,b100⟩
def b101:PCode :=
 (.seq (.reg [
 iV 2 25 0,⟨some 4,.lalloc 25 (.agg #[(.int .i64 0),(.slice none 0 0),(.slice none 0 0)]),none⟩])
 (.seq (.reg [
 iM 5 1,iF 6 0 2,iS 1 6 5])
 (.seq (.reg [
 iN 7 3 2,iS 3 4 7])
 .ret)))
def p101:PFunc:=⟨8,[(4,some (some 3))],none,b101⟩
def b102:PCode :=
 (.seq (.reg [
 ⟨some 1,.box 25 (.tmp 0),none⟩,⟨some 2,.v .mv [.const .nilFunc],none⟩])
 (.seq (.reg [
 ⟨some 3,.v (.mkf (.func 123) 0) [.tmp 1],none⟩,iM 2 3])
 .ret))
def p102:PFunc:=⟨4,[(2,none)],none,b102⟩
def q103x0:PCode :=
 (.seq (.reg [
 iT 56 .lss 55 54])
 (.seq (.cond (.tmp 56)
 .skip
 (.exit 6))
 (.seq (.blk 7
 (.seq (.reg [
 iM 57 55,iM 11 57])
 (.reg [
 iM 58 8,iM 59 10,iM 60 11,⟨some 61,.v .ix [.tmp 59,.tmp 60],none⟩,⟨some 62,.v (.cv .i64) [.tmp 61],none⟩,iM 63 11,iO 64 .add 63 1,iT 65 .mul 62 64,iM 66 9,iO 67 .add 66 1,iT 68 .mul 65 67,iT 69 .add 58 68,iM 8 69])))
 (.reg [
 iO 70 .add 55 1,iM 55 70]))))
def q103x1:PCode :=
 (.seq (.reg [
 iT 49 .lss 48 47])
 (.seq (.cond (.tmp 49)
 .skip
 (.exit 4))
 (.seq (.blk 5
 (.seq (.reg [
 iM 50 48,iA 51 1 46 48,iL 52 51,iM 9 50,iM 10 52])
 (.seq (.reg [
 iM 53 10,⟨some 54,.v .slen [.tmp 53],none⟩,iI 55 0])
 (.blk 6
 (.loop q103x0)))))
 (.reg [
 iO 71 .add 48 1,iM 48 71]))))
def q103x2:PCode :=
 (.seq (.reg [
 iT 35 .lss 34 33])
 (.seq (.cond (.tmp 35)
 .skip
 (.exit 2))
 (.seq (.blk 3
 (.seq (.reg [
 iA 36 5 32 34,iN 37 5 36,⟨some 7,.lalloc 41 (.agg #[(.int .i64 0),(.bool false),(.int .i64 0),(.int .i64 0),(.slice none 0 0)]),none⟩,iS 5 7 37])
 (.reg [
 iM 38 3,iN 39 5 7,⟨some 40,.v (.bld [(.int .i64 0),(.bool false),(.int .i64 0),(.int .i64 0),(.slice none 0 0)] [(0,5)]) [.tmp 39],none⟩,⟨some 41,.v (.mki 134) [.tmp 40],none⟩,iX 42 125 41,⟨some 43,.lbs 9 1 [(.string ⟨#[]⟩)] 1 [(0,.tmp 42)],none⟩,⟨some 44,.app 9 1 (.tmp 38) (.tmp 43),none⟩,iM 3 44])))
 (.reg [
 iO 45 .add 34 1,iM 34 45]))))
def q103x3:PCode :=
 (.seq (.reg [
 iT 21 .lss 20 19])
 (.seq (.cond (.tmp 21)
 .skip
 (.exit 0))
 (.seq (.blk 1
 (.seq (.reg [
 iA 22 1 18 20,iL 23 22,iM 5 23])
 (.reg [
 iM 24 3,iM 25 5,⟨some 26,.v (.mki 149) [.tmp 25],none⟩,iX 27 125 26,⟨some 28,.lbs 9 1 [(.string ⟨#[]⟩)] 1 [(0,.tmp 27)],none⟩,⟨some 29,.app 9 1 (.tmp 24) (.tmp 28),none⟩,iM 3 29])))
 (.reg [
 iO 30 .add 20 1,iM 20 30]))))
def b103:PCode :=
 (.seq (.reg [
 iV 1 25 0,⟨some 2,.v .mv [.const (.string ⟨#[]⟩)],none⟩])
 (.seq (.reg [
 iF 12 0 1,iL 13 12,⟨some 14,.v (.mki 148) [.tmp 13],none⟩,iX 15 125 14,⟨some 16,.bs 9 1 [(.string ⟨#[]⟩)] 1 [(0,.tmp 15)],none⟩,iM 3 16])
 (.seq (.seq (.reg [
 iF 17 1 1,iL 18 17,iK 19 18,iI 20 0])
 (.blk 0
 (.loop q103x3)))
 (.seq (.seq (.reg [
 iF 31 2 1,iL 32 31,iK 33 32,iI 34 0])
 (.blk 2
 (.loop q103x2)))
 (.seq (.reg [
 iI 8 0])
 (.seq (.seq (.reg [
 iM 46 3,iK 47 46,iI 48 0])
 (.blk 4
 (.loop q103x1)))
 (.seq (.reg [
 iM 72 8,iO 73 .rem 72 197,iM 8 73])
 (.seq (.reg [
 iM 74 3,iM 75 8,iO 76 .quo 75 100,iX 77 126 76,⟨some 78,.v (.sb .add) [.const (.string ⟨#[101,110,100,32]⟩),.tmp 77],none⟩,iM 79 8,iO 80 .quo 79 10,iO 81 .rem 80 10,iX 82 126 81,⟨some 83,.v (.sb .add) [.tmp 78,.tmp 82],none⟩,iM 84 8,iO 85 .rem 84 10,iX 86 126 85,⟨some 87,.v (.sb .add) [.tmp 83,.tmp 86],none⟩,⟨some 88,.lbs 9 1 [(.string ⟨#[]⟩)] 1 [(0,.tmp 87)],none⟩,⟨some 89,.app 9 1 (.tmp 74) (.tmp 88),none⟩,iM 3 89])
 (.seq (.reg [
 iM 90 3,⟨some 91,.call (.func 127) [.tmp 90,.const (.string ⟨#[10]⟩)],none⟩,⟨some 92,.v (.sb .add) [.tmp 91,.const (.string ⟨#[10]⟩)],none⟩,iM 2 92])
 .ret)))))))))
def p103:PFunc:=⟨93,[(2,none)],none,b103⟩
def b104:PCode :=
 (.reg [
 iL 2 0,iX 3 105 2,iS 3 1 3])
def p104:PFunc:=⟨4,[],none,b104⟩
def q105x0:PCode :=
 (.seq (.reg [
 iT 40 .lss 39 38])
 (.seq (.cond (.tmp 40)
 .skip
 (.exit 0))
 (.seq (.blk 1
 (.seq (.reg [
 iA 41 1 37 39,iL 42 41,iM 7 42])
 (.seq (.reg [
 iM 43 7,⟨some 44,.call (.func 128) [.tmp 43,.const (.string ⟨#[32]⟩)],none⟩,iM 8 44])
 (.seq (.seq (.dreg [
 iM 45 8,⟨some 46,.v (.ia 1) [.tmp 45,.const (.int .i64 0)],none⟩,iL 47 46,iW 48 131,⟨some 49,.v (.ixa 1 4 none) [.tmp 48,.const (.int .i64 1)],none⟩,⟨some 50,.v (.sb .eql) [.tmp 47,.tmp 49],none⟩] [fA,fA,fB,⟨1,false,some [45,46,47]⟩,fA,fC])
 (.cond (.tmp 50)
 (.seq (.reg [
 iM 51 8,iK 52 51,iO 53 .eql 52 2,iM 54 7,iY 55 129 53 54])
 (.seq (.dreg [
 iF 56 1 5,iL 57 56,iM 58 8,⟨some 59,.v (.sl 1 true false) [.tmp 58,.const (.int .i64 1)],none⟩,iX 60 130 59,⟨some 61,.app 3 1 (.tmp 57) (.tmp 60),none⟩,iF 62 1 5,iS 1 62 61] [fA,⟨7,false,none⟩,fC,fC,⟨1,true,some [56,57]⟩,fE,fC,⟨7,true,none⟩])
 (.exit 1)))
 .skip))
 (.seq (.reg [
 iM 63 8,iK 64 63,iO 65 .eql 64 5,iM 66 7,iY 67 129 65 66])
 (.seq (.reg [
 iM 68 8,⟨some 69,.v (.sl 1 true true) [.tmp 68,.const (.int .i64 1),.const (.int .i64 4)],none⟩,iX 70 130 69,iM 9 70])
 (.seq (.dreg [
 iM 71 9,⟨some 72,.v (.ia 1) [.tmp 71,.const (.int .i64 0)],none⟩,iL 73 72,iM 74 9,⟨some 75,.v (.ia 1) [.tmp 74,.const (.int .i64 1)],none⟩,iL 76 75,iM 77 9,⟨some 78,.v (.ia 1) [.tmp 77,.const (.int .i64 2)],none⟩,iL 79 78,⟨some 80,.v (.bld [(.int .i64 0),(.int .i64 0)] [(0,1),(1,1)]) [.tmp 76,.tmp 79],none⟩,iM 81 8,⟨some 82,.v (.ia 1) [.tmp 81,.const (.int .i64 0)],none⟩,iL 83 82,iW 84 131,⟨some 85,.v (.ixa 1 4 none) [.tmp 84,.const (.int .i64 3)],none⟩,⟨some 86,.v (.sb .eql) [.tmp 83,.tmp 85],none⟩,⟨some 87,.v (.bld [(.int .i64 0),(.bool false),(.int .i64 0),(.int .i64 0),(.slice none 0 0)] [(0,1),(2,2),(1,1)]) [.tmp 73,.tmp 80,.tmp 86],none⟩,⟨some 10,.lalloc 41 (.agg #[(.int .i64 0),(.bool false),(.int .i64 0),(.int .i64 0),(.slice none 0 0)]),none⟩,iS 5 10 87] [fA,fA,fB,fA,fA,fB,fA,fA,fB,fA,fA,fA,fB,fB,fA,fA,fC,⟨12,false,none⟩,⟨12,true,none⟩])
 (.seq (.seq (.reg [
 iM 88 8,⟨some 89,.v (.ia 1) [.tmp 88,.const (.int .i64 4)],none⟩,iL 90 89,⟨some 91,.v (.sb .neq) [.tmp 90,.const (.string ⟨#[45]⟩)],none⟩])
 (.cond (.tmp 91)
 (.reg [
 iM 92 8,⟨some 93,.v (.ia 1) [.tmp 92,.const (.int .i64 4)],none⟩,iL 94 93,⟨some 95,.call (.func 128) [.tmp 94,.const (.string ⟨#[44]⟩)],none⟩,iX 96 130 95,iF 97 4 10,iS 1 97 96])
 .skip))
 (.reg [
 iF 98 2 5,iL 99 98,iN 100 5 10,⟨some 101,.lbs 41 5 [(.int .i64 0),(.bool false),(.int .i64 0),(.int .i64 0),(.slice none 0 0)] 1 [(0,.tmp 100)],none⟩,⟨some 102,.app 41 5 (.tmp 99) (.tmp 101),none⟩,iF 103 2 5,iS 1 103 102])))))))))
 (.reg [
 iO 104 .add 39 1,iM 39 104]))))
def b105:PCode :=
 (.seq (.reg [
 ⟨some 2,.lalloc 25 (.agg #[(.int .i64 0),(.slice none 0 0),(.slice none 0 0)]),none⟩])
 (.seq (.reg [
 iM 11 0,⟨some 12,.call (.func 128) [.tmp 11,.const (.string ⟨#[10]⟩)],none⟩,iM 3 12])
 (.seq (.reg [
 iM 13 3,iK 14 13,iO 15 .geq 14 3,iM 16 0,iY 17 129 15 16])
 (.seq (.reg [
 iM 18 3,⟨some 19,.v (.ia 1) [.tmp 18,.const (.int .i64 0)],none⟩,iL 20 19,⟨some 21,.call (.func 128) [.tmp 20,.const (.string ⟨#[32]⟩)],none⟩,⟨some 22,.v (.sl 1 true false) [.tmp 21,.const (.int .i64 1)],none⟩,iX 23 130 22,iM 4 23])
 (.seq (.reg [
 iM 24 4,iK 25 24,iO 26 .eql 25 1,iM 27 0,iY 28 129 26 27])
 (.seq (.reg [
 iM 29 4,⟨some 30,.v (.ia 1) [.tmp 29,.const (.int .i64 0)],none⟩,iL 31 30,⟨some 32,.v (.bld [(.int .i64 0),(.slice none 0 0),(.slice none 0 0)] [(0,1)]) [.tmp 31],none⟩,⟨some 5,.lalloc 25 (.agg #[(.int .i64 0),(.slice none 0 0),(.slice none 0 0)]),none⟩,iS 3 5 32])
 (.seq (.seq (.reg [
 iM 33 3,iM 34 3,iK 35 34,iO 36 .sub 35 2,⟨some 37,.v (.sl 1 true true) [.tmp 33,.const (.int .i64 1),.tmp 36],none⟩,iK 38 37,iI 39 0])
 (.blk 0
 (.loop q105x0)))
 (.seq (.reg [
 iN 105 3 5,iX 106 103 105,iM 107 0,⟨some 108,.v (.sb .eql) [.tmp 106,.tmp 107],none⟩,iM 109 0,iY 110 129 108 109])
 (.seq (.reg [
 iN 111 3 5,iS 3 2 111])
 .ret)))))))))
def p105:PFunc:=⟨112,[(2,some (some 3))],none,b105⟩
def q106x0:PCode :=
 (.seq (.seq (.reg [
 iM 6 5,iM 7 1,iK 8 7,iT 9 .lss 6 8])
 (.cond (.tmp 9)
 .skip
 (.exit 0)))
 (.seq (.blk 1
 (.reg [
 iM 12 0,⟨some 13,.v (.sb .add) [.tmp 12,.const (.string ⟨#[32]⟩)],none⟩,iM 14 1,iM 15 5,iA 16 1 14 15,iL 17 16,iX 18 132 17,⟨some 19,.v (.sb .add) [.tmp 13,.tmp 18],none⟩,iM 0 19]))
 (.reg [
 iM 10 5,iO 11 .add 10 1,iM 5 11])))
def b106:PCode :=
 (.seq (.reg [
 ⟨some 4,.v .mv [.const (.string ⟨#[]⟩)],none⟩])
 (.seq (.seq (.reg [
 iI 5 0])
 (.blk 0
 (.loop q106x0)))
 (.seq (.reg [
 iM 20 0,iM 4 20])
 .ret)))
def p106:PFunc:=⟨21,[(4,none)],none,b106⟩
def q107x0:PCode :=
 (.seq (.seq (.reg [
 iM 12 4,iM 13 0,iK 14 13,iT 15 .lss 12 14])
 (.cond (.tmp 15)
 .skip
 (.exit 0)))
 (.seq (.blk 1
 (.reg [
 iM 18 3,⟨some 19,.v (.sb .add) [.tmp 18,.const (.string ⟨#[44]⟩)],none⟩,iM 20 0,iM 21 4,iA 22 1 20 21,iL 23 22,iX 24 132 23,⟨some 25,.v (.sb .add) [.tmp 19,.tmp 24],none⟩,iM 3 25]))
 (.reg [
 iM 16 4,iO 17 .add 16 1,iM 4 17])))
def b107:PCode :=
 (.seq (.reg [
 ⟨some 2,.v .mv [.const (.string ⟨#[]⟩)],none⟩])
 (.seq (.seq (.reg [
 iM 5 0,iK 6 5,iO 7 .eql 6 0])
 (.cond (.tmp 7)
 (.seq (.reg [
 ⟨some 2,.v .mv [.const (.string ⟨#[45]⟩)],none⟩])
 .ret)
 .skip))
 (.seq (.reg [
 iM 8 0,⟨some 9,.v (.ia 1) [.tmp 8,.const (.int .i64 0)],none⟩,iL 10 9,iX 11 132 10,iM 3 11])
 (.seq (.seq (.reg [
 iI 4 1])
 (.blk 0
 (.loop q107x0)))
 (.seq (.reg [
 iM 26 3,iM 2 26])
 .ret)))))
def p107:PFunc:=⟨27,[(2,none)],none,b107⟩
def q108x0:PCode :=
 (.seq (.seq (.reg [
 iM 15 8,iM 16 0,iM 17 7,iA 18 1 16 17,iL 19 18,⟨some 20,.v .slen [.tmp 19],none⟩,iT 21 .lss 15 20])
 (.cond (.tmp 21)
 .skip
 (.exit 2)))
 (.seq (.blk 3
 (.reg [
 iM 24 6,iM 25 0,iM 26 7,iA 27 1 25 26,iL 28 27,iM 29 8,⟨some 30,.v .ix [.tmp 28,.tmp 29],none⟩,⟨some 31,.v (.cv .i64) [.tmp 30],none⟩,iM 32 8,iO 33 .add 32 1,iT 34 .mul 31 33,iM 35 7,iO 36 .add 35 1,iT 37 .mul 34 36,iT 38 .add 24 37,iM 6 38]))
 (.reg [
 iM 22 8,iO 23 .add 22 1,iM 8 23])))
def q108x1:PCode :=
 (.seq (.seq (.reg [
 iM 9 7,iM 10 0,iK 11 10,iT 12 .lss 9 11])
 (.cond (.tmp 12)
 .skip
 (.exit 0)))
 (.seq (.blk 1
 (.seq (.seq (.reg [
 iI 8 0])
 (.blk 2
 (.loop q108x0)))
 (.reg [
 iM 39 5,iM 40 0,iM 41 7,iA 42 1 40 41,iL 43 42,⟨some 44,.v (.sb .add) [.tmp 39,.tmp 43],none⟩,⟨some 45,.v (.sb .add) [.tmp 44,.const (.string ⟨#[10]⟩)],none⟩,iM 5 45])))
 (.reg [
 iM 13 7,iO 14 .add 13 1,iM 7 14])))
def b108:PCode :=
 (.seq (.reg [
 ⟨some 4,.v .mv [.const (.string ⟨#[]⟩)],none⟩])
 (.seq (.reg [
 ⟨some 5,.v .mv [.const (.string ⟨#[]⟩)],none⟩,iI 6 0])
 (.seq (.seq (.reg [
 iI 7 0])
 (.blk 0
 (.loop q108x1)))
 (.seq (.reg [
 iM 46 6,iM 47 1,iT 48 .rem 46 47,iM 6 48])
 (.seq (.reg [
 iM 49 5,⟨some 50,.v (.sb .add) [.tmp 49,.const (.string ⟨#[101,110,100,32]⟩)],none⟩,iM 51 6,iO 52 .quo 51 100,iX 53 132 52,⟨some 54,.v (.sb .add) [.tmp 50,.tmp 53],none⟩,iM 55 6,iO 56 .quo 55 10,iO 57 .rem 56 10,iX 58 132 57,⟨some 59,.v (.sb .add) [.tmp 54,.tmp 58],none⟩,iM 60 6,iO 61 .rem 60 10,iX 62 132 61,⟨some 63,.v (.sb .add) [.tmp 59,.tmp 62],none⟩,⟨some 64,.v (.sb .add) [.tmp 63,.const (.string ⟨#[10]⟩)],none⟩,iM 4 64])
 .ret)))))
def p108:PFunc:=⟨65,[(4,none)],none,b108⟩
def q109x0:PCode :=
 (.seq (.seq (.reg [
 iM 8 7,iM 9 0,⟨some 10,.v .slen [.tmp 9],none⟩,iT 11 .lss 8 10])
 (.cond (.tmp 11)
 .skip
 (.exit 0)))
 (.seq (.blk 1
 (.seq (.reg [
 iM 14 0,iM 15 7,⟨some 16,.v .ix [.tmp 14,.tmp 15],none⟩,iM 17 1,iT 18 .eql 16 17])
 (.cond (.tmp 18)
 (.seq (.reg [
 iM 19 5,iM 20 0,iM 21 6,iM 22 7,⟨some 23,.v (.sls true true) [.tmp 20,.tmp 21,.tmp 22],none⟩,⟨some 24,.lbs 9 1 [(.string ⟨#[]⟩)] 1 [(0,.tmp 23)],none⟩,⟨some 25,.app 9 1 (.tmp 19) (.tmp 24),none⟩,iM 5 25])
 (.reg [
 iM 26 7,iO 27 .add 26 1,iM 6 27]))
 .skip)))
 (.reg [
 iM 12 7,iO 13 .add 12 1,iM 7 13])))
def b109:PCode :=
 (.seq (.reg [
 iH 4])
 (.seq (.reg [
 iH 5])
 (.seq (.reg [
 iI 6 0])
 (.seq (.seq (.reg [
 iI 7 0])
 (.blk 0
 (.loop q109x0)))
 (.seq (.reg [
 iM 28 5,iM 29 0,iM 30 6,⟨some 31,.v (.sls true false) [.tmp 29,.tmp 30],none⟩,⟨some 32,.lbs 9 1 [(.string ⟨#[]⟩)] 1 [(0,.tmp 31)],none⟩,⟨some 33,.app 9 1 (.tmp 28) (.tmp 32),none⟩,iM 4 33])
 .ret)))))
def p109:PFunc:=⟨34,[(4,none)],none,b109⟩
def q110x0:PCode :=
 (.seq (.seq (.reg [
 iM 15 8,iM 16 6,iK 17 16,iT 18 .lss 15 17])
 (.cond (.tmp 18)
 .skip
 (.exit 0)))
 (.seq (.blk 1
 (.reg [
 iM 21 7,iM 22 21,jM 23 6 22 true,
 jM 24 8 22 true,
 jA 25 1 23 24 22 true,
 jL 26 25 22 true,
 jO 27 .geq 26 0 22 true,
 iP 28 22 27,iM 7 28]))
 (.reg [
 iM 19 8,iO 20 .add 19 1,iM 8 20])))
def b110:PCode :=
 (.seq (.reg [
 iH 4,iB 5 false])
 (.seq (.reg [
 iM 10 0,iM 11 1,iY 12 133 10 11,iM 9 12,iE 13 0 9,iE 14 1 9,iM 6 13,iM 7 14])
 (.seq (.seq (.reg [
 iI 8 0])
 (.blk 0
 (.loop q110x0)))
 (.seq (.reg [
 iM 29 6,iM 30 7,iM 4 29,iM 5 30])
 .ret))))
def p110:PFunc:=⟨31,[(4,none),(5,none)],none,b110⟩
def q111x0:PCode :=
 (.seq (.reg [
 iT 17 .lss 16 15])
 (.seq (.cond (.tmp 17)
 .skip
 (.exit 0))
 (.seq (.blk 1
 (.seq (.reg [
 iM 18 16,iA 19 1 14 16,iL 20 19,iM 6 18,iM 7 20])
 (.seq (.reg [
 iM 21 7,iM 22 1,iO 23 .sub 22 1,⟨some 24,.call (.func 83) [.tmp 21,.const (.int .i64 0),.tmp 23],none⟩,iR 25 24,iM 26 25,jM 27 6 26 false,
 jO 28 .gtr 27 0 26 false,
 jM 29 28 26 false,
 jM 30 7 29 true,
 jF 31 4 5 29 true,
 jL 32 31 29 true,
 jM 33 6 29 true,
 jO 34 .sub 33 1 29 true,
 jA 35 1 32 34 29 true,
 jL 36 35 29 true,
 jT 37 .leq 30 36 29 true,
 jP 38 29 37 26 false,
 iQ 39 26 38])
 (.cond (.tmp 39)
 (.seq (.reg [
 iB 4 false])
 .ret)
 .skip))))
 (.reg [
 iO 40 .add 16 1,iM 16 40]))))
def b111:PCode :=
 (.seq (.reg [
 iV 2 25 0,iB 4 false])
 (.seq (.reg [
 iF 8 2 2,iL 9 8,iM 10 1,iA 11 5 9 10,iN 12 5 11,⟨some 5,.lalloc 41 (.agg #[(.int .i64 0),(.bool false),(.int .i64 0),(.int .i64 0),(.slice none 0 0)]),none⟩,iS 5 5 12])
 (.seq (.seq (.reg [
 iF 13 4 5,iL 14 13,iK 15 14,iI 16 0])
 (.blk 0
 (.loop q111x0)))
 (.seq (.reg [
 iF 41 0 5,iL 42 41,iF 43 1 2,iL 44 43,iK 45 44,iO 46 .sub 45 1,⟨some 47,.call (.func 83) [.tmp 42,.const (.int .i64 0),.tmp 46],none⟩,iM 48 47,jF 49 2 5 48 true,
 jF 50 0 49 48 true,
 jL 51 50 48 true,
 ⟨some 52,.call (.func 83) [.tmp 51,.const (.int .i64 1),.const (.int .i64 6)],some (48,true)⟩,
 iP 53 48 52,iM 54 53,jF 55 2 5 54 true,
 jF 56 1 55 54 true,
 jL 57 56 54 true,
 jF 58 2 5 54 true,
 jF 59 0 58 54 true,
 jL 60 59 54 true,
 ⟨some 61,.call (.func 83) [.tmp 57,.tmp 60,.const (.int .i64 6)],some (54,true)⟩,
 iP 62 54 61,iM 4 62])
 .ret))))
def p111:PFunc:=⟨63,[(4,none)],none,b111⟩
def b112:PCode :=
 (.seq (.reg [
 iB 4 false])
 (.seq (.reg [
 iM 5 0,iM 6 1,iY 7 134 5 6,iO 8 .geq 7 0,iM 4 8])
 .ret))
def p112:PFunc:=⟨9,[(4,none)],none,b112⟩
def b113:PCode :=
 (.seq (.reg [
 iB 2 false])
 (.seq (.reg [
 iM 3 0,⟨some 4,.call (.func 83) [.tmp 3,.const (.int .i64 0),.const (.int .i64 60)],none⟩,iR 5 4,iM 2 5])
 .ret))
def p113:PFunc:=⟨6,[(2,none)],none,b113⟩
def b114:PCode :=
 (.seq (.reg [
 iV 1 134 0,iI 2 0])
 (.seq (.reg [
 iF 3 0 1,iF 4 2 3,iF 5 0 4,iL 6 5,iM 2 6])
 .ret))
def p114:PFunc:=⟨7,[(2,none)],none,b114⟩
def b115:PCode :=
 (.seq (.reg [
 iV 1 134 0,iI 2 0])
 (.seq (.reg [
 iF 3 0 1,iF 4 2 3,iF 5 1 4,iL 6 5,iM 2 6])
 .ret))
def p115:PFunc:=⟨7,[(2,none)],none,b115⟩
def q116x0:PCode :=
 (.seq (.reg [
 iT 9 .lss 8 7])
 (.seq (.cond (.tmp 9)
 .skip
 (.exit 0))
 (.seq (.blk 1
 (.seq (.reg [
 iA 10 1 6 8,iL 11 10,iM 5 11])
 (.reg [
 iM 12 3,iM 13 5,⟨some 14,.v .mx [.tmp 12,.tmp 13],none⟩,iM 3 14])))
 (.reg [
 iO 15 .add 8 1,iM 8 15]))))
def b116:PCode :=
 (.seq (.reg [
 iI 2 0])
 (.seq (.reg [
 iI 3 0])
 (.seq (.seq (.reg [
 iM 6 0,iK 7 6,iI 8 0])
 (.blk 0
 (.loop q116x0)))
 (.seq (.reg [
 iM 16 3,iM 2 16])
 .ret))))
def p116:PFunc:=⟨17,[(2,none)],none,b116⟩
def q117x0:PCode :=
 (.seq (.seq (.reg [
 iM 9 6,iO 10 .geq 9 0])
 (.cond (.tmp 10)
 .skip
 (.exit 0)))
 (.seq (.blk 1
 (.seq (.dreg [
 iF 13 3 2,iL 14 13,iM 15 6,iA 16 1 14 15,iL 17 16,iF 18 3 2,iL 19 18,iM 20 1,iA 21 1 19 20,iL 22 21,iT 23 .eql 17 22] [fA,⟨4,false,none⟩,fA,fA,fB,fA,⟨4,false,none⟩,fA,fA,fB,fC])
 (.cond (.tmp 23)
 (.seq (.reg [
 iM 24 6,iM 4 24,iB 5 true])
 .ret)
 .skip)))
 (.reg [
 iM 11 6,iO 12 .sub 11 1,iM 6 12])))
def b117:PCode :=
 (.seq (.reg [
 iV 2 100 0,iI 4 0,iB 5 false])
 (.seq (.seq (.reg [
 iM 7 1,iO 8 .sub 7 1,iM 6 8])
 (.blk 0
 (.loop q117x0)))
 (.seq (.reg [
 iI 4 0,iB 5 false])
 .ret)))
def p117:PFunc:=⟨25,[(4,none),(5,none)],none,b117⟩
def q118x0:PCode :=
 (.seq (.seq (.reg [
 iM 10 9,iM 11 0,iK 12 11,iT 13 .lss 10 12])
 (.cond (.tmp 13)
 .skip
 (.exit 0)))
 (.seq (.blk 1
 (.seq (.dreg [
 iM 16 1,iM 17 0,iM 18 9,iA 19 1 17 18,iL 20 19,iA 21 1 16 20,iL 22 21,iO 23 .lss 22 0,iM 24 23,jM 25 1 24 false,
 jM 26 0 24 false,
 jM 27 9 24 false,
 jA 28 1 26 27 24 false,
 jL 29 28 24 false,
 jA 30 1 25 29 24 false,
 jL 31 30 24 false,
 jM 32 2 24 false,
 jM 33 0 24 false,
 jM 34 9 24 false,
 jA 35 1 33 34 24 false,
 jL 36 35 24 false,
 jA 37 1 32 36 24 false,
 jL 38 37 24 false,
 jT 39 .add 31 38 24 false,
 jM 40 3 24 false,
 jT 41 .gtr 39 40 24 false,
 iQ 42 24 41] [fA,fC,fC,fC,fE,fC,fE,fC,fC,fA,fA,fA,fA,fB,fA,fB,fA,fA,fA,fA,fB,fA,fB,fC,fA,fC,fC])
 (.cond (.tmp 42)
 (.seq (.reg [
 iB 8 false])
 .ret)
 .skip)))
 (.reg [
 iM 14 9,iO 15 .add 14 1,iM 9 15])))
def b118:PCode :=
 (.seq (.reg [
 iB 8 false])
 (.seq (.seq (.reg [
 iI 9 0])
 (.blk 0
 (.loop q118x0)))
 (.seq (.reg [
 iB 8 true])
 .ret)))
def p118:PFunc:=⟨43,[(8,none)],none,b118⟩
def b119:PCode :=
 (.blk 0
 (.seq (.reg [
 ⟨some 8,.v (.nl .iface false) [.tmp 6],none⟩])
 (.cond (.tmp 8)
 (.reg [
 iM 2 6])
 (.seq (.reg [
 ⟨some 9,.v (.tas 140 (.agg #[(.slice none 0 0)])) [.tmp 6],none⟩,iE 10 1 9,iE 11 0 9])
 (.cond (.tmp 10)
 (.seq (.reg [
 ⟨some 3,.lalloc 140 (.agg #[(.slice none 0 0)]),none⟩,iS 1 3 11])
 (.reg [
 iF 12 0 3,iL 13 12,iS 1 0 13]))
 (.seq (.reg [
 ⟨some 14,.v (.tas 142 (.agg #[(.string ⟨#[]⟩)])) [.tmp 6],none⟩,iE 15 1 14,iE 16 0 14])
 (.cond (.tmp 15)
 (.seq (.reg [
 ⟨some 4,.lalloc 142 (.agg #[(.string ⟨#[]⟩)]),none⟩,iS 1 4 16])
 (.reg [
 ⟨none,.st 1 (.tmp 1) (.const (.int .i64 4)),none⟩]))
 (.seq (.reg [
 iM 5 6])
 (.reg [
 iM 7 5,⟨none,.pnc (.tmp 7),none⟩])))))))))
def p119:PFunc:=⟨17,[],(some 6),b119⟩
def b120:PCode :=
 (.seq (.reg [
 iV 3 100 0,iB 6 false])
 (.seq (.dreg [
 iN 7 7 3,iM 8 1,⟨some 9,.call (.func 77) [.tmp 7,.tmp 8,.const (.int .i64 1)],none⟩,iN 10 7 3,iM 11 2,⟨some 12,.call (.func 79) [.tmp 10,.tmp 11,.const (.int .i64 1)],none⟩,iT 13 .eql 9 12,iM 14 13,jF 15 0 3 14 true,
 jF 16 2 15 14 true,
 jL 17 16 14 true,
 jM 18 2 14 true,
 jA 19 5 17 18 14 true,
 jF 20 4 19 14 true,
 jL 21 20 14 true,
 jM 22 1 14 true,
 jY 23 135 21 22 14 true,
 jM 24 23 14 true,
 jF 25 3 3 24 false,
 jL 26 25 24 false,
 jM 27 1 24 false,
 jA 28 1 26 27 24 false,
 jL 29 28 24 false,
 jF 30 3 3 24 false,
 jL 31 30 24 false,
 jM 32 2 24 false,
 jA 33 1 31 32 24 false,
 jL 34 33 24 false,
 jT 35 .eql 29 34 24 false,
 jQ 36 24 35 14 true,
 iP 37 14 36,iM 6 37] [⟨5,true,none⟩,fC,fE,⟨5,false,none⟩,fA,fD,fC,fC,fC,fC,⟨5,true,none⟩,fC,fC,fC,fE,fA,fD,fC,fA,⟨5,false,none⟩,fA,fA,fB,fA,⟨5,false,none⟩,fA,fA,fB,fC,fC,fC,fC])
 .ret))
def p120:PFunc:=⟨38,[(6,none)],none,b120⟩
def q121x0:PCode :=
 (.blk 1
 (.seq (.reg [
 iM 19 2,iM 20 1,iT 21 .sub 19 20,iM 10 21])
 (.seq (.seq (.reg [
 iM 22 10,iO 23 .leq 22 12])
 (.cond (.tmp 23)
 (.seq (.reg [
 iM 24 0,iM 25 1,iM 26 2,iZ 27 136 24 25 26])
 .ret)
 .skip))
 (.seq (.seq (.reg [
 iM 28 3,iO 29 .eql 28 0])
 (.cond (.tmp 29)
 (.seq (.reg [
 iM 30 0,iM 31 1,iM 32 2,iZ 33 137 30 31 32])
 .ret)
 .skip))
 (.seq (.seq (.reg [
 iM 34 8,iR 35 34])
 (.cond (.tmp 35)
 (.seq (.reg [
 iM 36 0,iM 37 1,iM 38 2,iZ 39 138 36 37 38])
 (.reg [
 iM 40 3,iO 41 .sub 40 1,iM 3 41]))
 .skip))
 (.seq (.reg [
 iM 43 0,iM 44 1,iM 45 2,iZ 46 139 43 44 45,iM 42 46,iE 47 0 42,iE 48 1 42,iM 11 47,iM 12 48])
 (.seq (.seq (.reg [
 iM 49 12,iO 50 .eql 49 2])
 (.cond (.tmp 50)
 (.seq (.reg [
 iM 51 0,iM 52 1,iM 53 2,iZ 54 140 51 52 53])
 (.seq (.reg [
 iM 55 2,iO 56 .sub 55 1,iM 57 11,iM 58 1,iT 59 .sub 57 58,iT 60 .sub 56 59,iM 11 60])
 (.reg [
 iI 12 1])))
 .skip))
 (.seq (.seq (.reg [
 iM 61 8,iM 62 61,jM 63 9 62 true,
 iP 64 62 63,iM 65 64,jM 66 12 65 true,
 jO 67 .eql 66 1 65 true,
 iP 68 65 67])
 (.cond (.tmp 68)
 (.seq (.reg [
 iM 69 0,iM 70 1,iM 71 2,iZ 72 141 69 70 71])
 (.cond (.tmp 72)
 .ret
 .skip))
 .skip))
 (.seq (.seq (.dreg [
 iM 73 1,iO 74 .gtr 73 0,iM 75 74,jM 76 0 75 true,
 jM 77 1 75 true,
 jO 78 .sub 77 1 75 true,
 jA 79 1 76 78 75 true,
 jL 80 79 75 true,
 jM 81 0 75 true,
 jM 82 11 75 true,
 jA 83 1 81 82 75 true,
 jL 84 83 75 true,
 jY 85 142 80 84 75 true,
 jR 86 85 75 true,
 iP 87 75 86] [fC,fC,fC,fA,fA,fA,fA,fB,fA,fA,fA,fB,fD,fC,fC])
 (.cond (.tmp 87)
 (.seq (.reg [
 iM 88 0,iM 89 1,iM 90 2,iM 91 11,⟨some 92,.call (.func 143) [.tmp 88,.tmp 89,.tmp 90,.tmp 91],none⟩,iM 13 92])
 (.seq (.reg [
 iM 93 13,iM 1 93])
 (.exit 1)))
 .skip))
 (.seq (.reg [
 iM 95 0,iM 96 1,iM 97 2,iM 98 11,⟨some 99,.call (.func 144) [.tmp 95,.tmp 96,.tmp 97,.tmp 98],none⟩,iM 94 99,iE 100 0 94,iE 101 1 94,iM 14 100,iM 15 101])
 (.seq (.reg [
 iM 102 15,iM 9 102])
 (.seq (.reg [
 iM 103 14,iM 104 1,iT 105 .sub 103 104,iM 106 2,iM 107 14,iT 108 .sub 106 107,iM 16 105,iM 17 108])
 (.seq (.reg [
 iM 109 10,iO 110 .quo 109 8,iM 18 110])
 (.seq (.reg [
 iM 111 16,iM 112 17,iT 113 .lss 111 112])
 (.cond (.tmp 113)
 (.seq (.reg [
 iM 114 16,iM 115 18,iT 116 .geq 114 115,iM 8 116])
 (.seq (.reg [
 iM 117 0,iM 118 1,iM 119 14,iM 120 3,⟨some 121,.call (.func 121) [.tmp 117,.tmp 118,.tmp 119,.tmp 120],none⟩])
 (.reg [
 iM 122 14,iO 123 .add 122 1,iM 1 123])))
 (.seq (.reg [
 iM 124 17,iM 125 18,iT 126 .geq 124 125,iM 8 126])
 (.seq (.reg [
 iM 127 0,iM 128 14,iO 129 .add 128 1,iM 130 2,iM 131 3,⟨some 132,.call (.func 121) [.tmp 127,.tmp 129,.tmp 130,.tmp 131],none⟩])
 (.reg [
 iM 133 14,iM 2 133]))))))))))))))))))
def b121:PCode :=
 (.seq (.reg [
 iB 8 true])
 (.seq (.reg [
 iB 9 true])
 (.blk 0
 (.loop q121x0))))
def p121:PFunc:=⟨134,[],none,b121⟩
def b122:PCode :=
 (.seq (.reg [
 iI 2 0])
 (.seq (.cond (.const (.bool false))
 (.seq (.reg [
 iM 3 0,⟨some 4,.v (.cv .u32) [.tmp 3],none⟩,iX 5 145 4,iM 2 5])
 .ret)
 .skip)
 (.seq (.reg [
 iM 6 0,iX 7 146 6,iM 2 7])
 .ret)))
def p122:PFunc:=⟨8,[(2,none)],none,b122⟩
def b123:PCode :=
 (.seq (.reg [
 ⟨some 2,.box 27 (.tmp 0),none⟩])
 (.seq (.reg [
 ⟨some 3,.alloc 27 .nilFunc,none⟩])
 (.seq (.reg [
 ⟨some 4,.v (.mkf (.func 124) 0) [.tmp 1,.tmp 2,.tmp 3],none⟩,iS 1 3 4])
 (.reg [
 iL 5 3,⟨some 6,.call (.tmp 5) [.const (.slice none 0 0)],none⟩]))))
def p123:PFunc:=⟨7,[],none,b123⟩
def q124x0:PCode :=
 (.seq (.reg [
 iT 20 .lss 19 18])
 (.seq (.cond (.tmp 20)
 .skip
 (.exit 0))
 (.seq (.blk 1
 (.seq (.reg [
 iM 21 19,iM 6 21])
 (.seq (.seq (.reg [
 iM 22 6,iO 23 .gtr 22 0,iM 24 23,jF 25 2 1 24 true,
 jL 26 25 24 true,
 jM 27 0 24 true,
 jK 28 27 24 true,
 jA 29 5 26 28 24 true,
 jF 30 1 29 24 true,
 jL 31 30 24 true,
 iP 32 24 31])
 (.cond (.tmp 32)
 (.exit 0)
 .skip))
 (.seq (.dreg [
 iL 33 3,iM 34 0,iX 35 98 34,iM 36 6,⟨some 37,.lbs 3 1 [(.int .i64 0)] 1 [(0,.tmp 36)],none⟩,⟨some 38,.app 3 1 (.tmp 35) (.tmp 37),none⟩,⟨some 39,.call (.tmp 33) [.tmp 38],none⟩,iR 40 39] [fB,fA,fB,fA,⟨39,false,none⟩,fB,fD,fC])
 (.cond (.tmp 40)
 (.seq (.reg [
 iB 5 false])
 .ret)
 .skip)))))
 (.reg [
 iO 41 .add 19 1,iM 19 41]))))
def b124:PCode :=
 (.seq (.reg [
 iB 5 false])
 (.seq (.seq (.reg [
 iM 7 0,iK 8 7,iF 9 2 1,iL 10 9,iK 11 10,iT 12 .eql 8 11])
 (.cond (.tmp 12)
 (.seq (.reg [
 iL 13 2,iM 14 0,⟨some 15,.call (.tmp 13) [.tmp 14],none⟩,iM 5 15])
 .ret)
 .skip))
 (.seq .skip
 (.seq (.seq (.reg [
 iF 16 0 1,iL 17 16,iO 18 .add 17 1,iI 19 0])
 (.blk 0
 (.loop q124x0)))
 (.seq (.reg [
 iB 5 true])
 .ret)))))
def p124:PFunc:=⟨42,[(5,none)],none,b124⟩
def q125x0:PCode :=
 (.seq (.reg [
 iT 32 .lss 31 30])
 (.seq (.cond (.tmp 32)
 .skip
 (.exit 1))
 (.seq (.blk 2
 (.seq (.reg [
 iA 33 1 29 31,iL 34 33,iM 9 34])
 (.reg [
 iM 35 7,iM 36 9,iX 37 126 36,⟨some 38,.v (.sb .add) [.const (.string ⟨#[32]⟩),.tmp 37],none⟩,⟨some 39,.v (.sb .add) [.tmp 35,.tmp 38],none⟩,iM 7 39])))
 (.reg [
 iO 40 .add 31 1,iM 31 40]))))
def b125:PCode :=
 (.seq (.reg [
 ⟨some 2,.v .mv [.const (.string ⟨#[]⟩)],none⟩])
 (.seq (.reg [
 iI 3 0,⟨some 4,.v .mv [.const (.string ⟨#[]⟩)],none⟩])
 (.seq (.seq (.reg [
 iM 10 0])
 (.blk 0
 (.seq (.reg [
 ⟨some 11,.v (.tas 149 (.int .i64 0)) [.tmp 10],none⟩,iE 12 1 11,iE 13 0 11])
 (.cond (.tmp 12)
 (.seq (.reg [
 iM 5 13])
 (.reg [
 iI 3 1]))
 (.seq (.reg [
 ⟨some 14,.v (.tas 134 (.agg #[(.int .i64 0),(.bool false),(.int .i64 0),(.int .i64 0),(.slice none 0 0)])) [.tmp 10],none⟩,iE 15 1 14,iE 16 0 14])
 (.cond (.tmp 15)
 (.seq (.reg [
 ⟨some 6,.lalloc 134 (.agg #[(.int .i64 0),(.bool false),(.int .i64 0),(.int .i64 0),(.slice none 0 0)]),none⟩,iS 5 6 16])
 (.seq (.reg [
 iF 17 0 6,iF 18 4 17,iL 19 18,iX 20 147 19,⟨some 21,.v (.sb .add) [.const (.string ⟨#[32]⟩),.tmp 20],none⟩,iI 3 2,iM 4 21])
 (.seq (.reg [
 iF 22 0 6,iF 23 1 22,iL 24 23])
 (.cond (.tmp 24)
 (.reg [
 iI 3 3])
 .skip))))
 .skip))))))
 (.seq (.reg [
 iW 25 131,iM 26 3,⟨some 27,.v (.ixa 1 4 none) [.tmp 25,.tmp 26],none⟩,iM 7 27])
 (.seq (.seq (.reg [
 iM 28 0,⟨some 29,.inv (.tmp 28) [(134,206),(148,207),(149,208)] [],none⟩,iK 30 29,iI 31 0])
 (.blk 1
 (.loop q125x0)))
 (.seq (.reg [
 iM 41 7,iM 42 4,⟨some 43,.v (.sb .add) [.tmp 41,.tmp 42],none⟩,iM 2 43])
 .ret))))))
def p125:PFunc:=⟨44,[(2,none)],none,b125⟩
def b128:PCode :=
 (.seq (.reg [
 iH 4])
 (.seq (.reg [
 iM 5 0,iM 6 1,⟨some 7,.call (.func 152) [.tmp 5,.tmp 6,.const (.int .i64 0),.const (.int .i64 (-1))],none⟩,iM 4 7])
 .ret))
def p128:PFunc:=⟨8,[(4,none)],none,b128⟩
def b129:PCode :=
 (.seq (.reg [
 iM 4 0,iR 5 4])
 (.cond (.tmp 5)
 (.reg [
 iM 6 1,⟨some 7,.v (.bld [(.string ⟨#[]⟩)] [(0,1)]) [.tmp 6],none⟩,⟨some 8,.v (.mki 142) [.tmp 7],none⟩,⟨none,.pnc (.tmp 8),none⟩])
 .skip))
def p129:PFunc:=⟨9,[],none,b129⟩
def q130x0:PCode :=
 (.seq (.reg [
 ⟨some 17,.nxt (.tmp 16),none⟩,iE 18 0 17])
 (.seq (.cond (.tmp 18)
 .skip
 (.exit 2))
 (.blk 3
 (.seq (.reg [
 iE 19 2 17,iM 8 19])
 (.seq (.reg [
 iM 20 8,⟨some 21,.v (.ib .geq) [.tmp 20,.const (.int .i32 48)],none⟩,iM 22 21,jM 23 8 22 true,
 ⟨some 24,.v (.ib .leq) [.tmp 23,.const (.int .i32 57)],some (22,true)⟩,
 iP 25 22 24,iM 26 25,jM 27 5 26 true,
 ⟨some 28,.v .slen [.tmp 27],some (26,true)⟩,
 jO 29 .leq 28 2 26 true,
 iP 30 26 29,iM 31 5,iY 32 129 30 31])
 (.reg [
 iM 33 6,⟨some 34,.v (.ib .mul) [.const (.int .i64 10),.tmp 33],none⟩,iM 35 8,⟨some 36,.v (.ib .sub) [.tmp 35,.const (.int .i32 48)],none⟩,⟨some 37,.v (.cv .i64) [.tmp 36],none⟩,iT 38 .add 34 37,iM 6 38]))))))
def q130x1:PCode :=
 (.seq (.reg [
 iT 12 .lss 11 10])
 (.seq (.cond (.tmp 12)
 .skip
 (.exit 0))
 (.seq (.blk 1
 (.seq (.reg [
 iA 13 1 9 11,iL 14 13,iM 5 14])
 (.seq (.reg [
 iI 6 0])
 (.seq (.seq (.reg [
 iM 15 5,⟨some 16,.rng (.tmp 15),none⟩])
 (.blk 2
 (.loop q130x0)))
 (.seq (.reg [
 iM 39 5,⟨some 40,.v (.sb .neq) [.tmp 39,.const (.string ⟨#[]⟩)],none⟩,iM 41 40,jM 42 6 41 true,
 jX 43 126 42 41 true,
 jM 44 5 41 true,
 ⟨some 45,.v (.sb .eql) [.tmp 43,.tmp 44],some (41,true)⟩,
 iP 46 41 45,iM 47 5,iY 48 129 46 47])
 (.reg [
 iM 49 3,iM 50 6,⟨some 51,.lbs 3 1 [(.int .i64 0)] 1 [(0,.tmp 50)],none⟩,⟨some 52,.app 3 1 (.tmp 49) (.tmp 51),none⟩,iM 3 52]))))))
 (.reg [
 iO 53 .add 11 1,iM 11 53]))))
def b130:PCode :=
 (.seq (.reg [
 iH 2])
 (.seq (.reg [
 iH 3])
 (.seq (.seq (.reg [
 iM 9 0,iK 10 9,iI 11 0])
 (.blk 0
 (.loop q130x1)))
 (.seq (.reg [
 iM 54 3,iM 2 54])
 .ret))))
def p130:PFunc:=⟨55,[(2,none)],none,b130⟩
def b131:PCode :=
 (.seq (.reg [
 ⟨some 0,.lalloc 155 (.agg #[(.string ⟨#[]⟩),(.string ⟨#[]⟩),(.string ⟨#[]⟩),(.string ⟨#[]⟩)]),none⟩])
 (.seq (.reg [
 ⟨some 1,.v (.bld [(.string ⟨#[]⟩),(.string ⟨#[]⟩),(.string ⟨#[]⟩),(.string ⟨#[]⟩)] [(0,1),(1,1),(2,1),(3,1)]) [.const (.string ⟨#[98,101,110,99,104]⟩),.const (.string ⟨#[98,111,97,114,100]⟩),.const (.string ⟨#[115,116,114,97,105,103,104,116]⟩),.const (.string ⟨#[114,111,117,110,100]⟩)],none⟩,iS 4 0 1])
 .ret))
def p131:PFunc:=⟨2,[(0,some (some 4))],none,b131⟩
def b132:PCode :=
 (.seq (.reg [
 ⟨some 2,.v .mv [.const (.string ⟨#[]⟩)],none⟩])
 (.seq (.seq (.reg [
 iM 3 0,iO 4 .gtr 3 (-10),iM 5 4,jM 6 0 5 true,
 jO 7 .lss 6 0 5 true,
 iP 8 5 7])
 (.cond (.tmp 8)
 (.seq (.reg [
 iM 9 0,⟨some 10,.v (.ib .sub) [.const (.int .i64 48),.tmp 9],none⟩,⟨some 11,.v (.cv .u8) [.tmp 10],none⟩,⟨some 12,.lbs 5 1 [(.int .u8 0)] 1 [(0,.tmp 11)],none⟩,⟨some 13,.b2s (.tmp 12),none⟩,⟨some 14,.v (.sb .add) [.const (.string ⟨#[45]⟩),.tmp 13],none⟩,iM 2 14])
 .ret)
 .skip))
 (.seq (.seq (.reg [
 iM 15 0,iO 16 .lss 15 0])
 (.cond (.tmp 16)
 (.seq (.dreg [
 iM 17 0,iO 18 .quo 17 10,iX 19 132 18,iM 20 0,iO 21 .rem 20 10,⟨some 22,.v (.ib .sub) [.const (.int .i64 48),.tmp 21],none⟩,⟨some 23,.v (.cv .u8) [.tmp 22],none⟩,⟨some 24,.lbs 5 1 [(.int .u8 0)] 1 [(0,.tmp 23)],none⟩,⟨some 25,.b2s (.tmp 24),none⟩,⟨some 26,.v (.sb .add) [.tmp 19,.tmp 25],none⟩,iM 2 26] [fA,fA,fB,fA,fA,fA,fA,⟨26,false,none⟩,fB,fC,fC])
 .ret)
 .skip))
 (.seq (.seq (.reg [
 iM 27 0,iO 28 .lss 27 10])
 (.cond (.tmp 28)
 (.seq (.reg [
 iM 29 0,⟨some 30,.v (.ib .add) [.const (.int .i64 48),.tmp 29],none⟩,⟨some 31,.v (.cv .u8) [.tmp 30],none⟩,⟨some 32,.lbs 5 1 [(.int .u8 0)] 1 [(0,.tmp 31)],none⟩,⟨some 33,.b2s (.tmp 32),none⟩,iM 2 33])
 .ret)
 .skip))
 (.seq (.dreg [
 iM 34 0,iO 35 .quo 34 10,iX 36 132 35,iM 37 0,iO 38 .rem 37 10,⟨some 39,.v (.ib .add) [.const (.int .i64 48),.tmp 38],none⟩,⟨some 40,.v (.cv .u8) [.tmp 39],none⟩,⟨some 41,.lbs 5 1 [(.int .u8 0)] 1 [(0,.tmp 40)],none⟩,⟨some 42,.b2s (.tmp 41),none⟩,⟨some 43,.v (.sb .add) [.tmp 36,.tmp 42],none⟩,iM 2 43] [fA,fA,fB,fA,fA,fA,fA,⟨43,false,none⟩,fB,fC,fC])
 .ret)))))
def p132:PFunc:=⟨44,[(2,none)],none,b132⟩
def q133x0:PCode :=
 (.seq (.seq (.reg [
 iM 10 7,iM 11 0,iK 12 11,iT 13 .lss 10 12])
 (.cond (.tmp 13)
 .skip
 (.exit 0)))
 (.seq (.blk 1
 (.seq (.reg [
 iM 17 0,iM 18 7,iA 19 1 17 18,iL 20 19,iM 21 1,iY 22 153 20 21,iM 16 22,iE 23 0 16,iE 24 1 16,iM 8 23,iM 9 24])
 (.seq (.seq (.reg [
 iM 25 9,iR 26 25])
 (.cond (.tmp 26)
 (.seq (.reg [
 iH 4,iB 5 false])
 .ret)
 .skip))
 (.reg [
 iM 27 6,iM 28 8,⟨some 29,.lbs 3 1 [(.int .i64 0)] 1 [(0,.tmp 28)],none⟩,⟨some 30,.app 3 1 (.tmp 27) (.tmp 29),none⟩,iM 6 30]))))
 (.reg [
 iM 14 7,iO 15 .add 14 1,iM 7 15])))
def b133:PCode :=
 (.seq (.reg [
 iH 4,iB 5 false])
 (.seq (.reg [
 iH 6])
 (.seq (.seq (.reg [
 iI 7 0])
 (.blk 0
 (.loop q133x0)))
 (.seq (.reg [
 iM 31 6,iM 4 31,iB 5 true])
 .ret))))
def p133:PFunc:=⟨32,[(4,none),(5,none)],none,b133⟩
def q134x0:PCode :=
 (.seq (.reg [
 iT 9 .lss 8 7])
 (.seq (.cond (.tmp 9)
 .skip
 (.exit 0))
 (.seq (.blk 1
 (.seq (.reg [
 iM 10 8,iM 5 10])
 (.seq (.reg [
 iM 11 1,iM 12 0,iM 13 5,iA 14 1 12 13,iL 15 14,⟨some 16,.call (.tmp 11) [.tmp 15],none⟩])
 (.cond (.tmp 16)
 (.seq (.reg [
 iM 17 5,iM 4 17])
 .ret)
 .skip))))
 (.reg [
 iO 18 .add 8 1,iM 8 18]))))
def b134:PCode :=
 (.seq (.reg [
 iI 4 0])
 (.seq (.seq (.reg [
 iM 6 0,iK 7 6,iI 8 0])
 (.blk 0
 (.loop q134x0)))
 (.seq (.reg [
 iI 4 (-1)])
 .ret)))
def p134:PFunc:=⟨19,[(4,none)],none,b134⟩
def b135:PCode :=
 (.seq (.reg [
 iB 4 false])
 (.seq (.reg [
 iM 5 0,iM 6 1,iY 7 154 5 6,iO 8 .geq 7 0,iM 4 8])
 .ret))
def p135:PFunc:=⟨9,[(4,none)],none,b135⟩
def q136x0:PCode :=
 (.seq (.seq (.dreg [
 iM 16 7,iM 17 1,iT 18 .gtr 16 17,iM 19 18,jM 20 0 19 true,
 jM 21 7 19 true,
 jA 22 1 20 21 19 true,
 jL 23 22 19 true,
 jM 24 0 19 true,
 jM 25 7 19 true,
 jO 26 .sub 25 1 19 true,
 jA 27 1 24 26 19 true,
 jL 28 27 19 true,
 jY 29 142 23 28 19 true,
 iP 30 19 29] [fC,fC,fC,fC,fA,fA,fA,fB,fA,fA,fA,fA,fB,fD,fC])
 (.cond (.tmp 30)
 .skip
 (.exit 2)))
 (.seq (.blk 3
 (.dreg [
 iM 33 0,iM 34 7,iM 35 0,iM 36 7,iO 37 .sub 36 1,iM 38 0,iM 39 7,iO 40 .sub 39 1,iA 41 1 38 40,iL 42 41,iM 43 0,iM 44 7,iA 45 1 43 44,iL 46 45,iA 47 1 33 34,iS 1 47 42,iA 48 1 35 37,iS 1 48 46] [fA,fA,fA,fA,fA,fA,fA,fA,fA,fB,fA,fA,fA,fB,fC,fE,fC,fE]))
 (.reg [
 iM 31 7,iO 32 .sub 31 1,iM 7 32])))
def q136x1:PCode :=
 (.seq (.seq (.reg [
 iM 10 6,iM 11 2,iT 12 .lss 10 11])
 (.cond (.tmp 12)
 .skip
 (.exit 0)))
 (.seq (.blk 1
 (.seq (.reg [
 iM 15 6,iM 7 15])
 (.blk 2
 (.loop q136x0))))
 (.reg [
 iM 13 6,iO 14 .add 13 1,iM 6 14])))
def b136:PCode :=
 (.seq (.reg [
 iM 8 1,iO 9 .add 8 1,iM 6 9])
 (.blk 0
 (.loop q136x1)))
def p136:PFunc:=⟨49,[],none,b136⟩
def q137x0:PCode :=
 (.seq (.seq (.reg [
 iM 29 10,iO 30 .geq 29 0])
 (.cond (.tmp 30)
 .skip
 (.exit 2)))
 (.seq (.blk 3
 (.seq (.dreg [
 iM 33 0,iM 34 6,iM 35 0,iM 36 6,iM 37 10,iT 38 .add 36 37,iM 39 0,iM 40 6,iM 41 10,iT 42 .add 40 41,iA 43 1 39 42,iL 44 43,iM 45 0,iM 46 6,iA 47 1 45 46,iL 48 47,iA 49 1 33 34,iS 1 49 44,iA 50 1 35 38,iS 1 50 48] [fA,fA,fA,fA,fA,fA,fA,fA,fA,fA,fA,fB,fA,fA,fA,fB,fC,fE,fC,fE])
 (.reg [
 iM 51 0,iM 52 7,iM 53 10,iM 54 6,⟨some 55,.call (.func 155) [.tmp 51,.tmp 52,.tmp 53,.tmp 54],none⟩])))
 (.reg [
 iM 31 10,iO 32 .sub 31 1,iM 10 32])))
def q137x1:PCode :=
 (.seq (.seq (.reg [
 iM 18 9,iO 19 .geq 18 0])
 (.cond (.tmp 19)
 .skip
 (.exit 0)))
 (.seq (.blk 1
 (.reg [
 iM 22 0,iM 23 9,iM 24 8,iM 25 6,⟨some 26,.call (.func 155) [.tmp 22,.tmp 23,.tmp 24,.tmp 25],none⟩]))
 (.reg [
 iM 20 9,iO 21 .sub 20 1,iM 9 21])))
def b137:PCode :=
 (.seq (.reg [
 iM 11 1,iM 6 11])
 (.seq (.reg [
 iI 7 0])
 (.seq (.reg [
 iM 12 2,iM 13 1,iT 14 .sub 12 13,iM 8 14])
 (.seq (.seq (.reg [
 iM 15 8,iO 16 .sub 15 1,iO 17 .quo 16 2,iM 9 17])
 (.blk 0
 (.loop q137x1)))
 (.seq (.reg [
 iM 27 8,iO 28 .sub 27 1,iM 10 28])
 (.blk 2
 (.loop q137x0)))))))
def p137:PFunc:=⟨56,[],none,b137⟩
def q138x0:PCode :=
 (.seq (.seq (.reg [
 iM 26 9,iM 27 1,iM 28 6,iO 29 .quo 28 4,iO 30 .mul 29 2,iT 31 .add 27 30,iO 32 .add 31 1,iT 33 .leq 26 32])
 (.cond (.tmp 33)
 .skip
 (.exit 0)))
 (.seq (.blk 1
 (.seq (.reg [
 iX 36 157 7,iM 37 8,⟨some 38,.v (.ib .sub) [.tmp 37,.const (.int .u64 1)],none⟩,iT 39 .and 36 38,⟨some 40,.v (.cv .i64) [.tmp 39],none⟩,iM 10 40])
 (.seq (.seq (.reg [
 iM 41 10,iM 42 6,iT 43 .geq 41 42])
 (.cond (.tmp 43)
 (.reg [
 iM 44 10,iM 45 6,iT 46 .sub 44 45,iM 10 46])
 .skip))
 (.dreg [
 iM 47 0,iM 48 9,iM 49 0,iM 50 1,iM 51 10,iT 52 .add 50 51,iM 53 0,iM 54 1,iM 55 10,iT 56 .add 54 55,iA 57 1 53 56,iL 58 57,iM 59 0,iM 60 9,iA 61 1 59 60,iL 62 61,iA 63 1 47 48,iS 1 63 58,iA 64 1 49 52,iS 1 64 62] [fA,fA,fA,fA,fA,fA,fA,fA,fA,fA,fA,fB,fA,fA,fA,fB,fC,fE,fC,fE]))))
 (.reg [
 iM 34 9,iO 35 .add 34 1,iM 9 35])))
def b138:PCode :=
 (.seq (.reg [
 iM 11 2,iM 12 1,iT 13 .sub 11 12,iM 6 13])
 (.seq (.reg [
 iM 14 6,iO 15 .geq 14 8])
 (.cond (.tmp 15)
 (.seq (.reg [
 iM 16 6,⟨some 17,.v (.cv .u64) [.tmp 16],none⟩,⟨some 7,.alloc 184 (.int .u64 0),none⟩,iS 1 7 17])
 (.seq (.reg [
 iM 18 6,iX 19 156 18,iM 8 19])
 (.seq (.reg [
 iM 20 1,iM 21 6,iO 22 .quo 21 4,iO 23 .mul 22 2,iT 24 .add 20 23,iO 25 .sub 24 1,iM 9 25])
 (.blk 0
 (.loop q138x0)))))
 .skip)))
def p138:PFunc:=⟨65,[],none,b138⟩
def b139:PCode :=
 (.seq (.reg [
 iI 6 0,iI 7 0])
 (.seq (.reg [
 iM 13 2,iM 14 1,iT 15 .sub 13 14,iM 8 15])
 (.seq (.reg [
 ⟨some 9,.alloc 3 (.int .i64 0),none⟩])
 (.seq (.reg [
 iM 16 1,iM 17 8,iO 18 .quo 17 4,iO 19 .mul 18 1,iT 20 .add 16 19,iM 10 20])
 (.seq (.reg [
 iM 21 1,iM 22 8,iO 23 .quo 22 4,iO 24 .mul 23 2,iT 25 .add 21 24,iM 11 25])
 (.seq (.reg [
 iM 26 1,iM 27 8,iO 28 .quo 27 4,iO 29 .mul 28 3,iT 30 .add 26 29,iM 12 30])
 (.seq (.seq (.reg [
 iM 31 8,iO 32 .geq 31 8])
 (.cond (.tmp 32)
 (.seq (.seq (.reg [
 iM 33 8,iO 34 .geq 33 50])
 (.cond (.tmp 34)
 (.seq (.reg [
 iM 35 0,iM 36 10,iZ 37 158 35 36 9,iM 10 37])
 (.seq (.reg [
 iM 38 0,iM 39 11,iZ 40 158 38 39 9,iM 11 40])
 (.reg [
 iM 41 0,iM 42 12,iZ 43 158 41 42 9,iM 12 43])))
 .skip))
 (.reg [
 iM 44 0,iM 45 10,iM 46 11,iM 47 12,⟨some 48,.call (.func 159) [.tmp 44,.tmp 45,.tmp 46,.tmp 47,.tmp 9],none⟩,iM 11 48]))
 .skip))
 (.seq (.reg [
 iL 49 9])
 (.blk 0
 (.seq (.reg [
 iO 52 .eql 49 0,iM 51 52])
 (.cond (.tmp 51)
 (.seq (.reg [
 iM 53 11,iM 6 53,iI 7 1])
 .ret)
 (.seq (.reg [
 iO 55 .eql 49 12,iM 54 55])
 (.cond (.tmp 54)
 (.seq (.reg [
 iM 56 11,iM 6 56,iI 7 2])
 .ret)
 (.seq (.reg [
 iM 50 11,iM 6 50,iI 7 0])
 .ret))))))))))))))
def p139:PFunc:=⟨57,[(6,none),(7,none)],none,b139⟩
def q140x0:PCode :=
 (.seq (.seq (.reg [
 iM 11 6,iM 12 7,iT 13 .lss 11 12])
 (.cond (.tmp 13)
 .skip
 (.exit 0)))
 (.blk 1
 (.seq (.dreg [
 iM 14 0,iM 15 6,iM 16 0,iM 17 7,iM 18 0,iM 19 7,iA 20 1 18 19,iL 21 20,iM 22 0,iM 23 6,iA 24 1 22 23,iL 25 24,iA 26 1 14 15,iS 1 26 21,iA 27 1 16 17,iS 1 27 25] [fA,fA,fA,fA,fA,fA,fA,fB,fA,fA,fA,fB,fC,fE,fC,fE])
 (.seq (.reg [
 iM 28 6,iO 29 .add 28 1,iM 6 29])
 (.reg [
 iM 30 7,iO 31 .sub 30 1,iM 7 31])))))
def b140:PCode :=
 (.seq (.reg [
 iM 8 1,iM 6 8])
 (.seq (.reg [
 iM 9 2,iO 10 .sub 9 1,iM 7 10])
 (.blk 0
 (.loop q140x0))))
def p140:PFunc:=⟨32,[],none,b140⟩
def q141x0:PCode :=
 (.seq (.seq (.reg [
 iM 101 10,iM 102 2,iT 103 .lss 101 102])
 (.cond (.tmp 103)
 .skip
 (.exit 6)))
 (.seq (.blk 7
 (.seq (.seq (.dreg [
 iM 106 0,iM 107 10,iA 108 1 106 107,iL 109 108,iM 110 0,iM 111 10,iO 112 .sub 111 1,iA 113 1 110 112,iL 114 113,iY 115 142 109 114,iR 116 115] [fA,fA,fA,fB,fA,fA,fA,fA,fB,fD,fC])
 (.cond (.tmp 116)
 (.exit 6)
 .skip))
 (.dreg [
 iM 117 0,iM 118 10,iM 119 0,iM 120 10,iO 121 .sub 120 1,iM 122 0,iM 123 10,iO 124 .sub 123 1,iA 125 1 122 124,iL 126 125,iM 127 0,iM 128 10,iA 129 1 127 128,iL 130 129,iA 131 1 117 118,iS 1 131 126,iA 132 1 119 121,iS 1 132 130] [fA,fA,fA,fA,fA,fA,fA,fA,fA,fB,fA,fA,fA,fB,fC,fE,fC,fE])))
 (.reg [
 iM 104 10,iO 105 .add 104 1,iM 10 105])))
def q141x1:PCode :=
 (.seq (.seq (.reg [
 iM 64 9,iO 65 .geq 64 1])
 (.cond (.tmp 65)
 .skip
 (.exit 4)))
 (.seq (.blk 5
 (.seq (.seq (.dreg [
 iM 68 0,iM 69 9,iA 70 1 68 69,iL 71 70,iM 72 0,iM 73 9,iO 74 .sub 73 1,iA 75 1 72 74,iL 76 75,iY 77 142 71 76,iR 78 77] [fA,fA,fA,fB,fA,fA,fA,fA,fB,fD,fC])
 (.cond (.tmp 78)
 (.exit 4)
 .skip))
 (.dreg [
 iM 79 0,iM 80 9,iM 81 0,iM 82 9,iO 83 .sub 82 1,iM 84 0,iM 85 9,iO 86 .sub 85 1,iA 87 1 84 86,iL 88 87,iM 89 0,iM 90 9,iA 91 1 89 90,iL 92 91,iA 93 1 79 80,iS 1 93 88,iA 94 1 81 83,iS 1 94 92] [fA,fA,fA,fA,fA,fA,fA,fA,fA,fB,fA,fA,fA,fB,fC,fE,fC,fE])))
 (.reg [
 iM 66 9,iO 67 .sub 66 1,iM 9 67])))
def q141x2:PCode :=
 (.seq (.seq (.dreg [
 iM 17 7,iM 18 2,iT 19 .lss 17 18,iM 20 19,jM 21 0 20 true,
 jM 22 7 20 true,
 jA 23 1 21 22 20 true,
 jL 24 23 20 true,
 jM 25 0 20 true,
 jM 26 7 20 true,
 jO 27 .sub 26 1 20 true,
 jA 28 1 25 27 20 true,
 jL 29 28 20 true,
 jY 30 142 24 29 20 true,
 jR 31 30 20 true,
 iP 32 20 31] [fC,fC,fC,fC,fA,fA,fA,fB,fA,fA,fA,fA,fB,fD,fC,fC])
 (.cond (.tmp 32)
 .skip
 (.exit 2)))
 (.blk 3
 (.reg [
 iM 33 7,iO 34 .add 33 1,iM 7 34])))
def q141x3:PCode :=
 (.seq (.seq (.reg [
 iM 13 8,iO 14 .lss 13 5])
 (.cond (.tmp 14)
 .skip
 (.exit 0)))
 (.seq (.blk 1
 (.seq (.blk 2
 (.loop q141x2))
 (.seq (.seq (.reg [
 iM 35 7,iM 36 2,iT 37 .eql 35 36])
 (.cond (.tmp 37)
 (.seq (.reg [
 iB 6 true])
 .ret)
 .skip))
 (.seq (.seq (.reg [
 iM 38 2,iM 39 1,iT 40 .sub 38 39,iO 41 .lss 40 50])
 (.cond (.tmp 41)
 (.seq (.reg [
 iB 6 false])
 .ret)
 .skip))
 (.seq (.dreg [
 iM 42 0,iM 43 7,iM 44 0,iM 45 7,iO 46 .sub 45 1,iM 47 0,iM 48 7,iO 49 .sub 48 1,iA 50 1 47 49,iL 51 50,iM 52 0,iM 53 7,iA 54 1 52 53,iL 55 54,iA 56 1 42 43,iS 1 56 51,iA 57 1 44 46,iS 1 57 55] [fA,fA,fA,fA,fA,fA,fA,fA,fA,fB,fA,fA,fA,fB,fC,fE,fC,fE])
 (.seq (.seq (.reg [
 iM 58 7,iM 59 1,iT 60 .sub 58 59,iO 61 .geq 60 2])
 (.cond (.tmp 61)
 (.seq (.reg [
 iM 62 7,iO 63 .sub 62 1,iM 9 63])
 (.blk 4
 (.loop q141x1)))
 .skip))
 (.seq (.reg [
 iM 95 2,iM 96 7,iT 97 .sub 95 96,iO 98 .geq 97 2])
 (.cond (.tmp 98)
 (.seq (.reg [
 iM 99 7,iO 100 .add 99 1,iM 10 100])
 (.blk 6
 (.loop q141x0)))
 .skip))))))))
 (.reg [
 iM 15 8,iO 16 .add 15 1,iM 8 16])))
def b141:PCode :=
 (.seq (.reg [
 iB 6 false])
 (.seq (.reg [
 iM 11 1,iO 12 .add 11 1,iM 7 12])
 (.seq (.seq (.reg [
 iI 8 0])
 (.blk 0
 (.loop q141x3)))
 (.seq (.reg [
 iB 6 false])
 .ret))))
def p141:PFunc:=⟨133,[(6,none)],none,b141⟩
def b142:PCode :=
 (.seq (.reg [
 iB 4 false])
 (.seq (.reg [
 iM 5 0,iX 6 160 5,iM 7 6,jM 8 1 7 true,
 jX 9 160 8 7 true,
 jR 10 9 7 true,
 iP 11 7 10,iM 12 11,jM 13 0 12 false,
 jM 14 1 12 false,
 jT 15 .lss 13 14 12 false,
 iQ 16 12 15,iM 4 16])
 .ret))
def p142:PFunc:=⟨17,[(4,none)],none,b142⟩
def q143x0:PCode :=
 (.seq (.seq (.dreg [
 iM 46 9,iM 47 10,iT 48 .leq 46 47,iM 49 48,jM 50 0 49 true,
 jM 51 1 49 true,
 jA 52 1 50 51 49 true,
 jL 53 52 49 true,
 jM 54 0 49 true,
 jM 55 10 49 true,
 jA 56 1 54 55 49 true,
 jL 57 56 49 true,
 jY 58 142 53 57 49 true,
 iP 59 49 58] [fC,fC,fC,fC,fA,fA,fA,fB,fA,fA,fA,fB,fD,fC])
 (.cond (.tmp 59)
 .skip
 (.exit 4)))
 (.blk 5
 (.reg [
 iM 60 10,iO 61 .sub 60 1,iM 10 61])))
def q143x1:PCode :=
 (.seq (.seq (.dreg [
 iM 29 9,iM 30 10,iT 31 .leq 29 30,iM 32 31,jM 33 0 32 true,
 jM 34 1 32 true,
 jA 35 1 33 34 32 true,
 jL 36 35 32 true,
 jM 37 0 32 true,
 jM 38 9 32 true,
 jA 39 1 37 38 32 true,
 jL 40 39 32 true,
 jY 41 142 36 40 32 true,
 jR 42 41 32 true,
 iP 43 32 42] [fC,fC,fC,fC,fA,fA,fA,fB,fA,fA,fA,fB,fD,fC,fC])
 (.cond (.tmp 43)
 .skip
 (.exit 2)))
 (.blk 3
 (.reg [
 iM 44 9,iO 45 .add 44 1,iM 9 45])))
def q143x2:PCode :=
 (.blk 1
 (.seq (.blk 2
 (.loop q143x1))
 (.seq (.blk 4
 (.loop q143x0))
 (.seq (.seq (.reg [
 iM 62 9,iM 63 10,iT 64 .gtr 62 63])
 (.cond (.tmp 64)
 (.exit 0)
 .skip))
 (.seq (.dreg [
 iM 65 0,iM 66 9,iM 67 0,iM 68 10,iM 69 0,iM 70 10,iA 71 1 69 70,iL 72 71,iM 73 0,iM 74 9,iA 75 1 73 74,iL 76 75,iA 77 1 65 66,iS 1 77 72,iA 78 1 67 68,iS 1 78 76] [fA,fA,fA,fA,fA,fA,fA,fB,fA,fA,fA,fB,fC,fE,fC,fE])
 (.seq (.reg [
 iM 79 9,iO 80 .add 79 1,iM 9 80])
 (.reg [
 iM 81 10,iO 82 .sub 81 1,iM 10 82])))))))
def b143:PCode :=
 (.seq (.reg [
 iI 8 0])
 (.seq (.dreg [
 iM 11 0,iM 12 1,iM 13 0,iM 14 3,iM 15 0,iM 16 3,iA 17 1 15 16,iL 18 17,iM 19 0,iM 20 1,iA 21 1 19 20,iL 22 21,iA 23 1 11 12,iS 1 23 18,iA 24 1 13 14,iS 1 24 22] [fA,fA,fA,fA,fA,fA,fA,fB,fA,fA,fA,fB,fC,fE,fC,fE])
 (.seq (.reg [
 iM 25 1,iO 26 .add 25 1,iM 27 2,iO 28 .sub 27 1,iM 9 26,iM 10 28])
 (.seq (.blk 0
 (.loop q143x2))
 (.seq (.reg [
 iM 83 9,iM 8 83])
 .ret)))))
def p143:PFunc:=⟨84,[(8,none)],none,b143⟩
def q144x0:PCode :=
 (.seq (.seq (.dreg [
 iM 115 10,iM 116 11,iT 117 .leq 115 116,iM 118 117,jM 119 0 118 true,
 jM 120 11 118 true,
 jA 121 1 119 120 118 true,
 jL 122 121 118 true,
 jM 123 0 118 true,
 jM 124 1 118 true,
 jA 125 1 123 124 118 true,
 jL 126 125 118 true,
 jY 127 142 122 126 118 true,
 jR 128 127 118 true,
 iP 129 118 128] [fC,fC,fC,fC,fA,fA,fA,fB,fA,fA,fA,fB,fD,fC,fC])
 (.cond (.tmp 129)
 .skip
 (.exit 8)))
 (.blk 9
 (.reg [
 iM 130 11,iO 131 .sub 130 1,iM 11 131])))
def q144x1:PCode :=
 (.seq (.seq (.dreg [
 iM 99 10,iM 100 11,iT 101 .leq 99 100,iM 102 101,jM 103 0 102 true,
 jM 104 10 102 true,
 jA 105 1 103 104 102 true,
 jL 106 105 102 true,
 jM 107 0 102 true,
 jM 108 1 102 true,
 jA 109 1 107 108 102 true,
 jL 110 109 102 true,
 jY 111 142 106 110 102 true,
 iP 112 102 111] [fC,fC,fC,fC,fA,fA,fA,fB,fA,fA,fA,fB,fD,fC])
 (.cond (.tmp 112)
 .skip
 (.exit 6)))
 (.blk 7
 (.reg [
 iM 113 10,iO 114 .add 113 1,iM 10 114])))
def q144x2:PCode :=
 (.blk 5
 (.seq (.blk 6
 (.loop q144x1))
 (.seq (.blk 8
 (.loop q144x0))
 (.seq (.seq (.reg [
 iM 132 10,iM 133 11,iT 134 .gtr 132 133])
 (.cond (.tmp 134)
 (.exit 4)
 .skip))
 (.seq (.dreg [
 iM 135 0,iM 136 10,iM 137 0,iM 138 11,iM 139 0,iM 140 11,iA 141 1 139 140,iL 142 141,iM 143 0,iM 144 10,iA 145 1 143 144,iL 146 145,iA 147 1 135 136,iS 1 147 142,iA 148 1 137 138,iS 1 148 146] [fA,fA,fA,fA,fA,fA,fA,fB,fA,fA,fA,fB,fC,fE,fC,fE])
 (.seq (.reg [
 iM 149 10,iO 150 .add 149 1,iM 10 150])
 (.reg [
 iM 151 11,iO 152 .sub 151 1,iM 11 152])))))))
def q144x3:PCode :=
 (.seq (.seq (.dreg [
 iM 46 10,iM 47 11,iT 48 .leq 46 47,iM 49 48,jM 50 0 49 true,
 jM 51 11 49 true,
 jA 52 1 50 51 49 true,
 jL 53 52 49 true,
 jM 54 0 49 true,
 jM 55 1 49 true,
 jA 56 1 54 55 49 true,
 jL 57 56 49 true,
 jY 58 142 53 57 49 true,
 jR 59 58 49 true,
 iP 60 49 59] [fC,fC,fC,fC,fA,fA,fA,fB,fA,fA,fA,fB,fD,fC,fC])
 (.cond (.tmp 60)
 .skip
 (.exit 2)))
 (.blk 3
 (.reg [
 iM 61 11,iO 62 .sub 61 1,iM 11 62])))
def q144x4:PCode :=
 (.seq (.seq (.dreg [
 iM 30 10,iM 31 11,iT 32 .leq 30 31,iM 33 32,jM 34 0 33 true,
 jM 35 10 33 true,
 jA 36 1 34 35 33 true,
 jL 37 36 33 true,
 jM 38 0 33 true,
 jM 39 1 33 true,
 jA 40 1 38 39 33 true,
 jL 41 40 33 true,
 jY 42 142 37 41 33 true,
 iP 43 33 42] [fC,fC,fC,fC,fA,fA,fA,fB,fA,fA,fA,fB,fD,fC])
 (.cond (.tmp 43)
 .skip
 (.exit 0)))
 (.blk 1
 (.reg [
 iM 44 10,iO 45 .add 44 1,iM 10 45])))
def b144:PCode :=
 (.seq (.reg [
 iI 8 0,iB 9 false])
 (.seq (.dreg [
 iM 12 0,iM 13 1,iM 14 0,iM 15 3,iM 16 0,iM 17 3,iA 18 1 16 17,iL 19 18,iM 20 0,iM 21 1,iA 22 1 20 21,iL 23 22,iA 24 1 12 13,iS 1 24 19,iA 25 1 14 15,iS 1 25 23] [fA,fA,fA,fA,fA,fA,fA,fB,fA,fA,fA,fB,fC,fE,fC,fE])
 (.seq (.reg [
 iM 26 1,iO 27 .add 26 1,iM 28 2,iO 29 .sub 28 1,iM 10 27,iM 11 29])
 (.seq (.blk 0
 (.loop q144x4))
 (.seq (.blk 2
 (.loop q144x3))
 (.seq (.seq (.reg [
 iM 63 10,iM 64 11,iT 65 .gtr 63 64])
 (.cond (.tmp 65)
 (.seq (.dreg [
 iM 66 0,iM 67 11,iM 68 0,iM 69 1,iM 70 0,iM 71 1,iA 72 1 70 71,iL 73 72,iM 74 0,iM 75 11,iA 76 1 74 75,iL 77 76,iA 78 1 66 67,iS 1 78 73,iA 79 1 68 69,iS 1 79 77] [fA,fA,fA,fA,fA,fA,fA,fB,fA,fA,fA,fB,fC,fE,fC,fE])
 (.seq (.reg [
 iM 80 11,iM 8 80,iB 9 true])
 .ret))
 .skip))
 (.seq (.dreg [
 iM 81 0,iM 82 10,iM 83 0,iM 84 11,iM 85 0,iM 86 11,iA 87 1 85 86,iL 88 87,iM 89 0,iM 90 10,iA 91 1 89 90,iL 92 91,iA 93 1 81 82,iS 1 93 88,iA 94 1 83 84,iS 1 94 92] [fA,fA,fA,fA,fA,fA,fA,fB,fA,fA,fA,fB,fC,fE,fC,fE])
 (.seq (.reg [
 iM 95 10,iO 96 .add 95 1,iM 10 96])
 (.seq (.reg [
 iM 97 11,iO 98 .sub 97 1,iM 11 98])
 (.seq (.blk 4
 (.loop q144x2))
 (.seq (.dreg [
 iM 153 0,iM 154 11,iM 155 0,iM 156 1,iM 157 0,iM 158 1,iA 159 1 157 158,iL 160 159,iM 161 0,iM 162 11,iA 163 1 161 162,iL 164 163,iA 165 1 153 154,iS 1 165 160,iA 166 1 155 156,iS 1 166 164] [fA,fA,fA,fA,fA,fA,fA,fB,fA,fA,fA,fB,fC,fE,fC,fE])
 (.seq (.reg [
 iM 167 11,iM 8 167,iB 9 false])
 .ret))))))))))))
def p144:PFunc:=⟨168,[(8,none),(9,none)],none,b144⟩
def b145:PCode :=
 (.seq (.reg [
 iI 2 0])
 (.seq (.seq (.reg [
 iM 3 0,⟨some 4,.v (.ib .geq) [.tmp 3,.const (.int .u32 65536)],none⟩])
 (.cond (.tmp 4)
 (.seq (.reg [
 iM 5 0,⟨some 6,.v (.ib .shr) [.tmp 5,.const (.int .u64 16)],none⟩,iM 0 6])
 (.reg [
 iI 2 16]))
 .skip))
 (.seq (.seq (.reg [
 iM 7 0,⟨some 8,.v (.ib .geq) [.tmp 7,.const (.int .u32 256)],none⟩])
 (.cond (.tmp 8)
 (.seq (.reg [
 iM 9 0,⟨some 10,.v (.ib .shr) [.tmp 9,.const (.int .u64 8)],none⟩,iM 0 10])
 (.reg [
 iM 11 2,iO 12 .add 11 8,iM 2 12]))
 .skip))
 (.seq (.reg [
 iM 13 2,iM 14 0,⟨some 15,.v (.cv .u8) [.tmp 14],none⟩,⟨some 16,.v .ix [.const (.string ⟨#[0,1,2,2,3,3,3,3,4,4,4,4,4,4,4,4,5,5,5,5,5,5,5,5,5,5,5,5,5,5,5,5,6,6,6,6,6,6,6,6,6,6,6,6,6,6,6,6,6,6,6,6,6,6,6,6,6,6,6,6,6,6,6,6,7,7,7,7,7,7,7,7,7,7,7,7,7,7,7,7,7,7,7,7,7,7,7,7,7,7,7,7,7,7,7,7,7,7,7,7,7,7,7,7,7,7,7,7,7,7,7,7,7,7,7,7,7,7,7,7,7,7,7,7,7,7,7,7,8,8,8,8,8,8,8,8,8,8,8,8,8,8,8,8,8,8,8,8,8,8,8,8,8,8,8,8,8,8,8,8,8,8,8,8,8,8,8,8,8,8,8,8,8,8,8,8,8,8,8,8,8,8,8,8,8,8,8,8,8,8,8,8,8,8,8,8,8,8,8,8,8,8,8,8,8,8,8,8,8,8,8,8,8,8,8,8,8,8,8,8,8,8,8,8,8,8,8,8,8,8,8,8,8,8,8,8,8,8,8,8,8,8,8,8,8,8,8,8,8,8,8,8,8,8,8,8]⟩),.tmp 15],none⟩,⟨some 17,.v (.cv .i64) [.tmp 16],none⟩,iT 18 .add 13 17,iM 2 18])
 .ret))))
def p145:PFunc:=⟨19,[(2,none)],none,b145⟩
def b146:PCode :=
 (.seq (.reg [
 iI 2 0])
 (.seq (.seq (.reg [
 iM 3 0,⟨some 4,.v (.ib .geq) [.tmp 3,.const (.int .u64 4294967296)],none⟩])
 (.cond (.tmp 4)
 (.seq (.reg [
 iM 5 0,⟨some 6,.v (.ib .shr) [.tmp 5,.const (.int .u64 32)],none⟩,iM 0 6])
 (.reg [
 iI 2 32]))
 .skip))
 (.seq (.seq (.reg [
 iM 7 0,⟨some 8,.v (.ib .geq) [.tmp 7,.const (.int .u64 65536)],none⟩])
 (.cond (.tmp 8)
 (.seq (.reg [
 iM 9 0,⟨some 10,.v (.ib .shr) [.tmp 9,.const (.int .u64 16)],none⟩,iM 0 10])
 (.reg [
 iM 11 2,iO 12 .add 11 16,iM 2 12]))
 .skip))
 (.seq (.seq (.reg [
 iM 13 0,⟨some 14,.v (.ib .geq) [.tmp 13,.const (.int .u64 256)],none⟩])
 (.cond (.tmp 14)
 (.seq (.reg [
 iM 15 0,⟨some 16,.v (.ib .shr) [.tmp 15,.const (.int .u64 8)],none⟩,iM 0 16])
 (.reg [
 iM 17 2,iO 18 .add 17 8,iM 2 18]))
 .skip))
 (.seq (.reg [
 iM 19 2,iM 20 0,⟨some 21,.v (.cv .u8) [.tmp 20],none⟩,⟨some 22,.v .ix [.const (.string ⟨#[0,1,2,2,3,3,3,3,4,4,4,4,4,4,4,4,5,5,5,5,5,5,5,5,5,5,5,5,5,5,5,5,6,6,6,6,6,6,6,6,6,6,6,6,6,6,6,6,6,6,6,6,6,6,6,6,6,6,6,6,6,6,6,6,7,7,7,7,7,7,7,7,7,7,7,7,7,7,7,7,7,7,7,7,7,7,7,7,7,7,7,7,7,7,7,7,7,7,7,7,7,7,7,7,7,7,7,7,7,7,7,7,7,7,7,7,7,7,7,7,7,7,7,7,7,7,7,7,8,8,8,8,8,8,8,8,8,8,8,8,8,8,8,8,8,8,8,8,8,8,8,8,8,8,8,8,8,8,8,8,8,8,8,8,8,8,8,8,8,8,8,8,8,8,8,8,8,8,8,8,8,8,8,8,8,8,8,8,8,8,8,8,8,8,8,8,8,8,8,8,8,8,8,8,8,8,8,8,8,8,8,8,8,8,8,8,8,8,8,8,8,8,8,8,8,8,8,8,8,8,8,8,8,8,8,8,8,8,8,8,8,8,8,8,8,8,8,8,8,8,8,8,8,8,8,8]⟩),.tmp 21],none⟩,⟨some 23,.v (.cv .i64) [.tmp 22],none⟩,iT 24 .add 19 23,iM 2 24])
 .ret)))))
def p146:PFunc:=⟨25,[(2,none)],none,b146⟩
def q147x0:PCode :=
 (.seq (.reg [
 iT 12 .lss 11 10])
 (.seq (.cond (.tmp 12)
 .skip
 (.exit 0))
 (.seq (.blk 1
 (.seq (.reg [
 iA 13 1 9 11,iL 14 13,iM 5 14])
 (.reg [
 iM 15 3,iM 16 5,iX 17 126 16,⟨some 18,.lbs 9 1 [(.string ⟨#[]⟩)] 1 [(0,.tmp 17)],none⟩,⟨some 19,.app 9 1 (.tmp 15) (.tmp 18),none⟩,iM 3 19])))
 (.reg [
 iO 20 .add 11 1,iM 11 20]))))
def b147:PCode :=
 (.seq (.reg [
 ⟨some 2,.v .mv [.const (.string ⟨#[]⟩)],none⟩])
 (.seq (.seq (.reg [
 iM 6 0,iK 7 6,iO 8 .eql 7 0])
 (.cond (.tmp 8)
 (.seq (.reg [
 ⟨some 2,.v .mv [.const (.string ⟨#[45]⟩)],none⟩])
 .ret)
 .skip))
 (.seq (.reg [
 iH 3])
 (.seq (.seq (.reg [
 iM 9 0,iK 10 9,iI 11 0])
 (.blk 0
 (.loop q147x0)))
 (.seq (.reg [
 iM 21 3,⟨some 22,.call (.func 127) [.tmp 21,.const (.string ⟨#[44]⟩)],none⟩,iM 2 22])
 .ret)))))
def p147:PFunc:=⟨23,[(2,none)],none,b147⟩
def q152x0:PCode :=
 (.seq (.seq (.reg [
 iM 34 10,iM 35 3,iT 36 .lss 34 35])
 (.cond (.tmp 36)
 .skip
 (.exit 0)))
 (.blk 1
 (.seq (.reg [
 iM 37 0,iM 38 1,iY 39 166 37 38,iM 11 39])
 (.seq (.seq (.reg [
 iM 40 11,iO 41 .lss 40 0])
 (.cond (.tmp 41)
 (.exit 0)
 .skip))
 (.seq (.reg [
 iM 42 9,iM 43 10,iM 44 0,iM 45 11,iM 46 2,iT 47 .add 45 46,⟨some 48,.v (.sls false true) [.tmp 44,.tmp 47],none⟩,iA 49 1 42 43,iS 1 49 48])
 (.seq (.reg [
 iM 50 0,iM 51 11,iM 52 1,⟨some 53,.v .slen [.tmp 52],none⟩,iT 54 .add 51 53,⟨some 55,.v (.sls true false) [.tmp 50,.tmp 54],none⟩,iM 0 55])
 (.reg [
 iM 56 10,iO 57 .add 56 1,iM 10 57])))))))
def b152:PCode :=
 (.seq (.reg [
 iH 8])
 (.seq (.seq (.reg [
 iM 12 3,iO 13 .eql 12 0])
 (.cond (.tmp 13)
 (.seq (.reg [
 iH 8])
 .ret)
 .skip))
 (.seq (.seq (.reg [
 iM 14 1,⟨some 15,.v (.sb .eql) [.tmp 14,.const (.string ⟨#[]⟩)],none⟩])
 (.cond (.tmp 15)
 (.seq (.reg [
 iM 16 0,iM 17 3,iY 18 164 16 17,iM 8 18])
 .ret)
 .skip))
 (.seq (.seq (.reg [
 iM 19 3,iO 20 .lss 19 0])
 (.cond (.tmp 20)
 (.reg [
 iM 21 0,iM 22 1,iY 23 165 21 22,iO 24 .add 23 1,iM 3 24])
 .skip))
 (.seq (.reg [
 iM 25 3,iM 26 0,⟨some 27,.v .slen [.tmp 26],none⟩,iO 28 .add 27 1,⟨some 29,.v .mn [.tmp 25,.tmp 28],none⟩,iM 3 29])
 (.seq (.reg [
 iM 30 3,⟨some 31,.mks 9 1 [(.string ⟨#[]⟩)] 16 (.tmp 30) (.tmp 30),none⟩,iM 9 31])
 (.seq (.reg [
 iM 32 3,iO 33 .sub 32 1,iM 3 33])
 (.seq (.reg [
 iI 10 0])
 (.seq (.blk 0
 (.loop q152x0))
 (.seq (.reg [
 iM 58 9,iM 59 10,iM 60 0,iA 61 1 58 59,iS 1 61 60])
 (.seq (.reg [
 iM 62 9,iM 63 10,iO 64 .add 63 1,⟨some 65,.v (.sl 1 false true) [.tmp 62,.tmp 64],none⟩,iM 8 65])
 .ret)))))))))))
def p152:PFunc:=⟨66,[(8,none)],none,b152⟩
def q153x0:PCode :=
 (.seq (.seq (.reg [
 iM 30 9,iM 31 7,⟨some 32,.v .slen [.tmp 31],none⟩,iT 33 .lss 30 32])
 (.cond (.tmp 33)
 .skip
 (.exit 0)))
 (.seq (.blk 1
 (.seq (.seq (.reg [
 iM 36 7,iM 37 9,⟨some 38,.v .ix [.tmp 36,.tmp 37],none⟩,⟨some 39,.v (.ib .lss) [.tmp 38,.const (.int .u8 48)],none⟩,iM 40 39,jM 41 7 40 false,
 jM 42 9 40 false,
 ⟨some 43,.v .ix [.tmp 41,.tmp 42],some (40,false)⟩,
 ⟨some 44,.v (.ib .gtr) [.tmp 43,.const (.int .u8 57)],some (40,false)⟩,
 iQ 45 40 44])
 (.cond (.tmp 45)
 (.seq (.reg [
 iI 4 0,iB 5 false])
 .ret)
 .skip))
 (.reg [
 iM 46 8,⟨some 47,.v (.ib .mul) [.const (.int .i64 10),.tmp 46],none⟩,iM 48 7,iM 49 9,⟨some 50,.v .ix [.tmp 48,.tmp 49],none⟩,⟨some 51,.v (.ib .sub) [.tmp 50,.const (.int .u8 48)],none⟩,⟨some 52,.v (.cv .i64) [.tmp 51],none⟩,iT 53 .add 47 52,iM 8 53])))
 (.reg [
 iM 34 9,iO 35 .add 34 1,iM 9 35])))
def b153:PCode :=
 (.seq (.reg [
 iI 4 0,iB 5 false])
 (.seq (.reg [
 iM 10 0,iI 6 1,iM 7 10])
 (.seq (.seq (.reg [
 iM 11 7,⟨some 12,.v .slen [.tmp 11],none⟩,iO 13 .gtr 12 0,iM 14 13,jM 15 7 14 true,
 ⟨some 16,.v .ix [.tmp 15,.const (.int .i64 0)],some (14,true)⟩,
 ⟨some 17,.v (.ib .eql) [.tmp 16,.const (.int .u8 45)],some (14,true)⟩,
 iP 18 14 17])
 (.cond (.tmp 18)
 (.dreg [
 iM 19 7,⟨some 20,.v (.sls true false) [.tmp 19,.const (.int .i64 1)],none⟩,iI 6 (-1),iM 7 20] [fC,fC,fC,fC])
 .skip))
 (.seq (.seq (.reg [
 iM 21 7,⟨some 22,.v .slen [.tmp 21],none⟩,iO 23 .lss 22 1,iM 24 23,jM 25 7 24 false,
 ⟨some 26,.v .slen [.tmp 25],some (24,false)⟩,
 jM 27 1 24 false,
 jT 28 .gtr 26 27 24 false,
 iQ 29 24 28])
 (.cond (.tmp 29)
 (.seq (.reg [
 iI 4 0,iB 5 false])
 .ret)
 .skip))
 (.seq (.reg [
 iI 8 0])
 (.seq (.seq (.reg [
 iI 9 0])
 (.blk 0
 (.loop q153x0)))
 (.seq (.reg [
 iM 54 6,iM 55 8,iT 56 .mul 54 55,iM 57 6,iM 58 8,iT 59 .mul 57 58,iX 60 132 59,iM 61 0,⟨some 62,.v (.sb .eql) [.tmp 60,.tmp 61],none⟩,iM 4 56,iM 5 62])
 .ret)))))))
def p153:PFunc:=⟨63,[(4,none),(5,none)],none,b153⟩
def q154x0:PCode :=
 (.seq (.reg [
 iT 9 .lss 8 7])
 (.seq (.cond (.tmp 9)
 .skip
 (.exit 0))
 (.seq (.blk 1
 (.seq (.reg [
 iM 10 8,iM 5 10])
 (.seq (.reg [
 iM 11 1,iM 12 0,iM 13 5,iA 14 1 12 13,iL 15 14,iT 16 .eql 11 15])
 (.cond (.tmp 16)
 (.seq (.reg [
 iM 17 5,iM 4 17])
 .ret)
 .skip))))
 (.reg [
 iO 18 .add 8 1,iM 8 18]))))
def b154:PCode :=
 (.seq (.reg [
 iI 4 0])
 (.seq (.seq (.reg [
 iM 6 0,iK 7 6,iI 8 0])
 (.blk 0
 (.loop q154x0)))
 (.seq (.reg [
 iI 4 (-1)])
 .ret)))
def p154:PFunc:=⟨19,[(4,none)],none,b154⟩
def q155x0:PCode :=
 (.blk 1
 (.seq (.reg [
 iM 11 8,⟨some 12,.v (.ib .mul) [.const (.int .i64 2),.tmp 11],none⟩,iO 13 .add 12 1,iM 9 13])
 (.seq (.seq (.reg [
 iM 14 9,iM 15 2,iT 16 .geq 14 15])
 (.cond (.tmp 16)
 (.exit 0)
 .skip))
 (.seq (.seq (.dreg [
 iM 17 9,iO 18 .add 17 1,iM 19 2,iT 20 .lss 18 19,iM 21 20,jM 22 0 21 true,
 jM 23 3 21 true,
 jM 24 9 21 true,
 jT 25 .add 23 24 21 true,
 jA 26 1 22 25 21 true,
 jL 27 26 21 true,
 jM 28 0 21 true,
 jM 29 3 21 true,
 jM 30 9 21 true,
 jT 31 .add 29 30 21 true,
 jO 32 .add 31 1 21 true,
 jA 33 1 28 32 21 true,
 jL 34 33 21 true,
 jY 35 142 27 34 21 true,
 iP 36 21 35] [fC,fC,fC,fC,fC,fA,fA,fA,fA,fA,fB,fA,fA,fA,fA,fA,fA,fB,fD,fC])
 (.cond (.tmp 36)
 (.reg [
 iM 37 9,iO 38 .add 37 1,iM 9 38])
 .skip))
 (.seq (.seq (.dreg [
 iM 39 0,iM 40 3,iM 41 8,iT 42 .add 40 41,iA 43 1 39 42,iL 44 43,iM 45 0,iM 46 3,iM 47 9,iT 48 .add 46 47,iA 49 1 45 48,iL 50 49,iY 51 142 44 50,iR 52 51] [fA,fA,fA,fA,fA,fB,fA,fA,fA,fA,fA,fB,fD,fC])
 (.cond (.tmp 52)
 .ret
 .skip))
 (.seq (.dreg [
 iM 53 0,iM 54 3,iM 55 8,iT 56 .add 54 55,iM 57 0,iM 58 3,iM 59 9,iT 60 .add 58 59,iM 61 0,iM 62 3,iM 63 9,iT 64 .add 62 63,iA 65 1 61 64,iL 66 65,iM 67 0,iM 68 3,iM 69 8,iT 70 .add 68 69,iA 71 1 67 70,iL 72 71,iA 73 1 53 56,iS 1 73 66,iA 74 1 57 60,iS 1 74 72] [fA,fA,fA,fA,fA,fA,fA,fA,fA,fA,fA,fA,fA,fB,fA,fA,fA,fA,fA,fB,fC,fE,fC,fE])
 (.reg [
 iM 75 9,iM 8 75])))))))
def b155:PCode :=
 (.seq (.reg [
 iM 10 1,iM 8 10])
 (.blk 0
 (.loop q155x0)))
def p155:PFunc:=⟨76,[],none,b155⟩
def b156:PCode :=
 (.seq (.reg [
 ⟨some 2,.v .mv [.const (.int .u64 0)],none⟩])
 (.seq (.reg [
 iM 3 0,⟨some 4,.v (.cv .u64) [.tmp 3],none⟩,iX 5 122 4,⟨some 6,.v (.ib .shl) [.const (.int .u64 1),.tmp 5],none⟩,iM 2 6])
 .ret))
def p156:PFunc:=⟨7,[(2,none)],none,b156⟩
def b158:PCode :=
 (.seq (.reg [
 iI 6 0])
 (.seq (.reg [
 iM 7 0,iM 8 1,iO 9 .sub 8 1,iM 10 1,iM 11 1,iO 12 .add 11 1,iM 13 2,⟨some 14,.call (.func 159) [.tmp 7,.tmp 9,.tmp 10,.tmp 12,.tmp 13],none⟩,iM 6 14])
 .ret))
def p158:PFunc:=⟨15,[(6,none)],none,b158⟩
def b159:PCode :=
 (.seq (.reg [
 iI 10 0])
 (.seq (.reg [
 iM 12 0,iM 13 1,iM 14 2,iM 15 4,⟨some 16,.call (.func 167) [.tmp 12,.tmp 13,.tmp 14,.tmp 15],none⟩,iM 11 16,iE 17 0 11,iE 18 1 11,iM 1 17,iM 2 18])
 (.seq (.reg [
 iM 20 0,iM 21 2,iM 22 3,iM 23 4,⟨some 24,.call (.func 167) [.tmp 20,.tmp 21,.tmp 22,.tmp 23],none⟩,iM 19 24,iE 25 0 19,iE 26 1 19,iM 2 25,iM 3 26])
 (.seq (.reg [
 iM 28 0,iM 29 1,iM 30 2,iM 31 4,⟨some 32,.call (.func 167) [.tmp 28,.tmp 29,.tmp 30,.tmp 31],none⟩,iM 27 32,iE 33 0 27,iE 34 1 27,iM 1 33,iM 2 34])
 (.seq (.reg [
 iM 35 2,iM 10 35])
 .ret)))))
def p159:PFunc:=⟨36,[(10,none)],none,b159⟩
def b160:PCode :=
 (.seq (.reg [
 iB 2 false])
 (.seq (.reg [
 iM 3 0,iM 4 0,iT 5 .neq 3 4,iM 2 5])
 .ret))
def p160:PFunc:=⟨6,[(2,none)],none,b160⟩
def q164x0:PCode :=
 (.seq (.seq (.reg [
 iM 22 7,iM 23 1,iO 24 .sub 23 1,iT 25 .lss 22 24])
 (.cond (.tmp 25)
 .skip
 (.exit 0)))
 (.seq (.blk 1
 (.seq (.reg [
 iM 29 0,iX 30 175 29,iM 28 30,iE 31 0 28,iE 32 1 28,iM 8 31,iM 9 32])
 (.seq (.reg [
 iM 33 6,iM 34 7,iM 35 0,iM 36 9,⟨some 37,.v (.sls false true) [.tmp 35,.tmp 36],none⟩,iA 38 1 33 34,iS 1 38 37])
 (.reg [
 iM 39 0,iM 40 9,⟨some 41,.v (.sls true false) [.tmp 39,.tmp 40],none⟩,iM 0 41]))))
 (.reg [
 iM 26 7,iO 27 .add 26 1,iM 7 27])))
def b164:PCode :=
 (.seq (.reg [
 iH 4])
 (.seq (.reg [
 iM 10 0,iX 11 174 10,iM 5 11])
 (.seq (.seq (.reg [
 iM 12 1,iO 13 .lss 12 0,iM 14 13,jM 15 1 14 false,
 jM 16 5 14 false,
 jT 17 .gtr 15 16 14 false,
 iQ 18 14 17])
 (.cond (.tmp 18)
 (.reg [
 iM 19 5,iM 1 19])
 .skip))
 (.seq (.reg [
 iM 20 1,⟨some 21,.mks 9 1 [(.string ⟨#[]⟩)] 16 (.tmp 20) (.tmp 20),none⟩,iM 6 21])
 (.seq (.seq (.reg [
 iI 7 0])
 (.blk 0
 (.loop q164x0)))
 (.seq (.seq (.reg [
 iM 42 1,iO 43 .gtr 42 0])
 (.cond (.tmp 43)
 (.reg [
 iM 44 6,iM 45 1,iO 46 .sub 45 1,iM 47 0,iA 48 1 44 46,iS 1 48 47])
 .skip))
 (.seq (.reg [
 iM 49 6,iM 4 49])
 .ret)))))))
def p164:PFunc:=⟨50,[(4,none)],none,b164⟩
def q174x0:PCode :=
 (.seq (.reg [
 ⟨some 5,.nxt (.tmp 4),none⟩,iE 6 0 5])
 (.seq (.cond (.tmp 6)
 .skip
 (.exit 0))
 (.blk 1
 (.reg [
 iM 7 2,iO 8 .add 7 1,iM 2 8]))))
def b174:PCode :=
 (.seq (.reg [
 iI 2 0])
 (.seq (.seq (.reg [
 iM 3 0,⟨some 4,.rng (.tmp 3),none⟩])
 (.blk 0
 (.loop q174x0)))
 (.seq (.reg [
 iM 9 2,iM 2 9])
 .ret)))
def p174:PFunc:=⟨10,[(2,none)],none,b174⟩
def b175:PCode :=
 (.seq (.reg [
 ⟨some 2,.v .mv [.const (.int .i32 0)],none⟩,iI 3 0])
 (.seq (.seq (.reg [
 iM 4 0,⟨some 5,.v (.sb .neq) [.tmp 4,.const (.string ⟨#[]⟩)],none⟩,iM 6 5,jM 7 0 6 true,
 ⟨some 8,.v .ix [.tmp 7,.const (.int .i64 0)],some (6,true)⟩,
 ⟨some 9,.v (.ib .lss) [.tmp 8,.const (.int .u8 128)],some (6,true)⟩,
 iP 10 6 9])
 (.cond (.tmp 10)
 (.seq (.reg [
 iM 11 0,⟨some 12,.v .ix [.tmp 11,.const (.int .i64 0)],none⟩,⟨some 13,.v (.cv .i32) [.tmp 12],none⟩,iM 2 13,iI 3 1])
 .ret)
 (.reg [
 iM 15 0,iX 16 182 15,iM 14 16,iE 17 0 14,iE 18 1 14,iM 2 17,iM 3 18])))
 .ret))
def p175:PFunc:=⟨19,[(2,none),(3,none)],none,b175⟩
def b206:PCode :=
 (.seq (.reg [
 iV 1 134 0,iH 2])
 (.seq (.reg [
 iF 3 0 1,iF 4 0 3,iL 5 4,iF 6 0 1,iF 7 2 6,iF 8 0 7,iL 9 8,iF 10 0 1,iF 11 2 10,iF 12 1 11,iL 13 12,⟨some 14,.bs 3 1 [(.int .i64 0)] 3 [(0,.tmp 5),(1,.tmp 9),(2,.tmp 13)],none⟩,iM 2 14])
 .ret))
def p206:PFunc:=⟨15,[(2,none)],none,b206⟩
def b207:PCode :=
 (.seq (.reg [
 iH 2])
 (.seq (.reg [
 iM 3 0,⟨some 4,.bs 3 1 [(.int .i64 0)] 1 [(0,.tmp 3)],none⟩,iM 2 4])
 .ret))
def p207:PFunc:=⟨5,[(2,none)],none,b207⟩
def b208:PCode :=
 (.seq (.reg [
 iH 2])
 (.seq (.reg [
 iM 3 0,⟨some 4,.bs 3 1 [(.int .i64 0)] 1 [(0,.tmp 3)],none⟩,iM 2 4])
 .ret))
def p208:PFunc:=⟨5,[(2,none)],none,b208⟩
def PP (f:FuncId):Option PFunc:=if Nat.blt f 95=true then (if Nat.blt f 55=true then (if Nat.blt f 33=true then (if Nat.blt f 24=true then (if Nat.blt f 20=true then (if Nat.blt f 18=true then (if Nat.blt f 17=true then (if f=4 then some p4 else none) else (if f=17 then some p17 else none)) else (if Nat.blt f 19=true then (if f=18 then some p18 else none) else (if f=19 then some p19 else none))) else (if Nat.blt f 22=true then (if Nat.blt f 21=true then (if f=20 then some p20 else none) else (if f=21 then some p21 else none)) else (if Nat.blt f 23=true then (if f=22 then some p22 else none) else (if f=23 then some p23 else none)))) else (if Nat.blt f 29=true then (if Nat.blt f 26=true then (if Nat.blt f 25=true then (if f=24 then some p24 else none) else (if f=25 then some p25 else none)) else (if Nat.blt f 28=true then (if f=26 then some p26 else none) else (if f=28 then some p28 else none))) else (if Nat.blt f 31=true then (if Nat.blt f 30=true then (if f=29 then some p29 else none) else (if f=30 then some p30 else none)) else (if Nat.blt f 32=true then (if f=31 then some p31 else none) else (if f=32 then some p32 else none))))) else (if Nat.blt f 41=true then (if Nat.blt f 37=true then (if Nat.blt f 35=true then (if Nat.blt f 34=true then (if f=33 then some p33 else none) else (if f=34 then some p34 else none)) else (if Nat.blt f 36=true then (if f=35 then some p35 else none) else (if f=36 then some p36 else none))) else (if Nat.blt f 39=true then (if Nat.blt f 38=true then (if f=37 then some p37 else none) else (if f=38 then some p38 else none)) else (if Nat.blt f 40=true then (if f=39 then some p39 else none) else (if f=40 then some p40 else none)))) else (if Nat.blt f 50=true then (if Nat.blt f 44=true then (if Nat.blt f 42=true then (if f=41 then some p41 else none) else (if f=42 then some p42 else none)) else (if Nat.blt f 49=true then (if f=44 then some p44 else none) else (if f=49 then some p49 else none))) else (if Nat.blt f 53=true then (if Nat.blt f 51=true then (if f=50 then some p50 else none) else (if f=51 then some p51 else none)) else (if Nat.blt f 54=true then (if f=53 then some p53 else none) else (if f=54 then some p54 else none)))))) else (if Nat.blt f 75=true then (if Nat.blt f 67=true then (if Nat.blt f 63=true then (if Nat.blt f 60=true then (if Nat.blt f 59=true then (if f=55 then some p55 else none) else (if f=59 then some p59 else none)) else (if Nat.blt f 61=true then (if f=60 then some p60 else none) else (if f=61 then some p61 else none))) else (if Nat.blt f 65=true then (if Nat.blt f 64=true then (if f=63 then some p63 else none) else (if f=64 then some p64 else none)) else (if Nat.blt f 66=true then (if f=65 then some p65 else none) else (if f=66 then some p66 else none)))) else (if Nat.blt f 71=true then (if Nat.blt f 69=true then (if Nat.blt f 68=true then (if f=67 then some p67 else none) else (if f=68 then some p68 else none)) else (if Nat.blt f 70=true then (if f=69 then some p69 else none) else (if f=70 then some p70 else none))) else (if Nat.blt f 73=true then (if Nat.blt f 72=true then (if f=71 then some p71 else none) else (if f=72 then some p72 else none)) else (if Nat.blt f 74=true then (if f=73 then some p73 else none) else (if f=74 then some p74 else none))))) else (if Nat.blt f 83=true then (if Nat.blt f 79=true then (if Nat.blt f 77=true then (if Nat.blt f 76=true then (if f=75 then some p75 else none) else (if f=76 then some p76 else none)) else (if Nat.blt f 78=true then (if f=77 then some p77 else none) else (if f=78 then some p78 else none))) else (if Nat.blt f 81=true then (if Nat.blt f 80=true then (if f=79 then some p79 else none) else (if f=80 then some p80 else none)) else (if Nat.blt f 82=true then (if f=81 then some p81 else none) else (if f=82 then some p82 else none)))) else (if Nat.blt f 87=true then (if Nat.blt f 85=true then (if Nat.blt f 84=true then (if f=83 then some p83 else none) else (if f=84 then some p84 else none)) else (if Nat.blt f 86=true then (if f=85 then some p85 else none) else (if f=86 then some p86 else none))) else (if Nat.blt f 91=true then (if Nat.blt f 88=true then (if f=87 then some p87 else none) else (if f=88 then some p88 else none)) else (if Nat.blt f 92=true then (if f=91 then some p91 else none) else (if Nat.blt f 94=true then (if f=92 then some p92 else none) else (if f=94 then some p94 else none)))))))) else (if Nat.blt f 129=true then (if Nat.blt f 111=true then (if Nat.blt f 103=true then (if Nat.blt f 99=true then (if Nat.blt f 97=true then (if Nat.blt f 96=true then (if f=95 then some p95 else none) else (if f=96 then some p96 else none)) else (if Nat.blt f 98=true then (if f=97 then some p97 else none) else (if f=98 then some p98 else none))) else (if Nat.blt f 101=true then (if Nat.blt f 100=true then (if f=99 then some p99 else none) else (if f=100 then some p100 else none)) else (if Nat.blt f 102=true then (if f=101 then some p101 else none) else (if f=102 then some p102 else none)))) else (if Nat.blt f 107=true then (if Nat.blt f 105=true then (if Nat.blt f 104=true then (if f=103 then some p103 else none) else (if f=104 then some p104 else none)) else (if Nat.blt f 106=true then (if f=105 then some p105 else none) else (if f=106 then some p106 else none))) else (if Nat.blt f 109=true then (if Nat.blt f 108=true then (if f=107 then some p107 else none) else (if f=108 then some p108 else none)) else (if Nat.blt f 110=true then (if f=109 then some p109 else none) else (if f=110 then some p110 else none))))) else (if Nat.blt f 119=true then (if Nat.blt f 115=true then (if Nat.blt f 113=true then (if Nat.blt f 112=true then (if f=111 then some p111 else none) else (if f=112 then some p112 else none)) else (if Nat.blt f 114=true then (if f=113 then some p113 else none) else (if f=114 then some p114 else none))) else (if Nat.blt f 117=true then (if Nat.blt f 116=true then (if f=115 then some p115 else none) else (if f=116 then some p116 else none)) else (if Nat.blt f 118=true then (if f=117 then some p117 else none) else (if f=118 then some p118 else none)))) else (if Nat.blt f 123=true then (if Nat.blt f 121=true then (if Nat.blt f 120=true then (if f=119 then some p119 else none) else (if f=120 then some p120 else none)) else (if Nat.blt f 122=true then (if f=121 then some p121 else none) else (if f=122 then some p122 else none))) else (if Nat.blt f 125=true then (if Nat.blt f 124=true then (if f=123 then some p123 else none) else (if f=124 then some p124 else none)) else (if Nat.blt f 128=true then (if f=125 then some p125 else none) else (if f=128 then some p128 else none)))))) else (if Nat.blt f 145=true then (if Nat.blt f 137=true then (if Nat.blt f 133=true then (if Nat.blt f 131=true then (if Nat.blt f 130=true then (if f=129 then some p129 else none) else (if f=130 then some p130 else none)) else (if Nat.blt f 132=true then (if f=131 then some p131 else none) else (if f=132 then some p132 else none))) else (if Nat.blt f 135=true then (if Nat.blt f 134=true then (if f=133 then some p133 else none) else (if f=134 then some p134 else none)) else (if Nat.blt f 136=true then (if f=135 then some p135 else none) else (if f=136 then some p136 else none)))) else (if Nat.blt f 141=true then (if Nat.blt f 139=true then (if Nat.blt f 138=true then (if f=137 then some p137 else none) else (if f=138 then some p138 else none)) else (if Nat.blt f 140=true then (if f=139 then some p139 else none) else (if f=140 then some p140 else none))) else (if Nat.blt f 143=true then (if Nat.blt f 142=true then (if f=141 then some p141 else none) else (if f=142 then some p142 else none)) else (if Nat.blt f 144=true then (if f=143 then some p143 else none) else (if f=144 then some p144 else none))))) else (if Nat.blt f 158=true then (if Nat.blt f 153=true then (if Nat.blt f 147=true then (if Nat.blt f 146=true then (if f=145 then some p145 else none) else (if f=146 then some p146 else none)) else (if Nat.blt f 152=true then (if f=147 then some p147 else none) else (if f=152 then some p152 else none))) else (if Nat.blt f 155=true then (if Nat.blt f 154=true then (if f=153 then some p153 else none) else (if f=154 then some p154 else none)) else (if Nat.blt f 156=true then (if f=155 then some p155 else none) else (if f=156 then some p156 else none)))) else (if Nat.blt f 174=true then (if Nat.blt f 160=true then (if Nat.blt f 159=true then (if f=158 then some p158 else none) else (if f=159 then some p159 else none)) else (if Nat.blt f 164=true then (if f=160 then some p160 else none) else (if f=164 then some p164 else none))) else (if Nat.blt f 206=true then (if Nat.blt f 175=true then (if f=174 then some p174 else none) else (if f=175 then some p175 else none)) else (if Nat.blt f 207=true then (if f=206 then some p206 else none) else (if Nat.blt f 208=true then (if f=207 then some p207 else none) else (if f=208 then some p208 else none))))))))
theorem P19:PP 19=some p19:=rfl
theorem B19:p19.body=b19:=rfl
theorem N19:p19.n=69:=rfl
theorem R19:p19.res=[(2,none)]:=rfl
theorem P20:PP 20=some p20:=rfl
theorem B20:p20.body=b20:=rfl
theorem N20:p20.n=85:=rfl
theorem R20:p20.res=[(6,none)]:=rfl
theorem P21:PP 21=some p21:=rfl
theorem B21:p21.body=b21:=rfl
theorem N21:p21.n=9:=rfl
theorem R21:p21.res=[(2,none)]:=rfl
theorem P31:PP 31=some p31:=rfl
theorem B31:p31.body=b31:=rfl
theorem N31:p31.n=33:=rfl
theorem R31:p31.res=[(2,none)]:=rfl
theorem P34:PP 34=some p34:=rfl
theorem B34:p34.body=b34:=rfl
theorem N34:p34.n=48:=rfl
theorem R34:p34.res=[(2,none)]:=rfl
theorem P37:PP 37=some p37:=rfl
theorem B37:p37.body=b37:=rfl
theorem N37:p37.n=26:=rfl
theorem R37:p37.res=[(4,none)]:=rfl
theorem P67:PP 67=some p67:=rfl
theorem B67:p67.body=b67:=rfl
theorem N67:p67.n=9:=rfl
theorem R67:p67.res=[(2,none),(3,none)]:=rfl
theorem P68:PP 68=some p68:=rfl
theorem B68:p68.body=b68:=rfl
theorem N68:p68.n=25:=rfl
theorem R68:p68.res=[(2,some (some 3)),(3,none)]:=rfl
theorem P69:PP 69=some p69:=rfl
theorem B69:p69.body=b69:=rfl
theorem N69:p69.n=65:=rfl
theorem R69:p69.res=[(2,none)]:=rfl
theorem P70:PP 70=some p70:=rfl
theorem B70:p70.body=b70:=rfl
theorem N70:p70.n=74:=rfl
theorem R70:p70.res=[(4,none)]:=rfl
theorem P71:PP 71=some p71:=rfl
theorem B71:p71.body=b71:=rfl
theorem N71:p71.n=111:=rfl
theorem R71:p71.res=[(2,some (some 3)),(3,none)]:=rfl
theorem P72:PP 72=some p72:=rfl
theorem B72:p72.body=b72:=rfl
theorem N72:p72.n=15:=rfl
theorem R72:p72.res=[(6,none)]:=rfl
theorem P74:PP 74=some p74:=rfl
theorem B74:p74.body=b74:=rfl
theorem N74:p74.n=37:=rfl
theorem R74:p74.res=[(2,none)]:=rfl
theorem P81:PP 81=some p81:=rfl
theorem B81:p81.body=b81:=rfl
theorem N81:p81.n=71:=rfl
theorem R81:p81.res=[(4,none)]:=rfl
theorem P83:PP 83=some p83:=rfl
theorem B83:p83.body=b83:=rfl
theorem N83:p83.n=15:=rfl
theorem R83:p83.res=[(6,none)]:=rfl
theorem P84:PP 84=some p84:=rfl
theorem B84:p84.body=b84:=rfl
theorem N84:p84.n=7:=rfl
theorem R84:p84.res=[(2,some none),(3,some none)]:=rfl
theorem P103:PP 103=some p103:=rfl
theorem B103:p103.body=b103:=rfl
theorem N103:p103.n=93:=rfl
theorem R103:p103.res=[(2,none)]:=rfl
theorem P104:PP 104=some p104:=rfl
theorem B104:p104.body=b104:=rfl
theorem N104:p104.n=4:=rfl
theorem R104:p104.res=[]:=rfl
theorem P105:PP 105=some p105:=rfl
theorem B105:p105.body=b105:=rfl
theorem N105:p105.n=112:=rfl
theorem R105:p105.res=[(2,some (some 3))]:=rfl
theorem P106:PP 106=some p106:=rfl
theorem B106:p106.body=b106:=rfl
theorem N106:p106.n=21:=rfl
theorem R106:p106.res=[(4,none)]:=rfl
theorem P107:PP 107=some p107:=rfl
theorem B107:p107.body=b107:=rfl
theorem N107:p107.n=27:=rfl
theorem R107:p107.res=[(2,none)]:=rfl
theorem P108:PP 108=some p108:=rfl
theorem B108:p108.body=b108:=rfl
theorem N108:p108.n=65:=rfl
theorem R108:p108.res=[(4,none)]:=rfl
theorem P109:PP 109=some p109:=rfl
theorem B109:p109.body=b109:=rfl
theorem N109:p109.n=34:=rfl
theorem R109:p109.res=[(4,none)]:=rfl
theorem P110:PP 110=some p110:=rfl
theorem B110:p110.body=b110:=rfl
theorem N110:p110.n=31:=rfl
theorem R110:p110.res=[(4,none),(5,none)]:=rfl
theorem P111:PP 111=some p111:=rfl
theorem B111:p111.body=b111:=rfl
theorem N111:p111.n=63:=rfl
theorem R111:p111.res=[(4,none)]:=rfl
theorem P112:PP 112=some p112:=rfl
theorem B112:p112.body=b112:=rfl
theorem N112:p112.n=9:=rfl
theorem R112:p112.res=[(4,none)]:=rfl
theorem P113:PP 113=some p113:=rfl
theorem B113:p113.body=b113:=rfl
theorem N113:p113.n=6:=rfl
theorem R113:p113.res=[(2,none)]:=rfl
theorem P119:PP 119=some p119:=rfl
theorem B119:p119.body=b119:=rfl
theorem N119:p119.n=17:=rfl
theorem R119:p119.res=[]:=rfl
theorem P125:PP 125=some p125:=rfl
theorem B125:p125.body=b125:=rfl
theorem N125:p125.n=44:=rfl
theorem R125:p125.res=[(2,none)]:=rfl
theorem P128:PP 128=some p128:=rfl
theorem B128:p128.body=b128:=rfl
theorem N128:p128.n=8:=rfl
theorem R128:p128.res=[(4,none)]:=rfl
theorem P129:PP 129=some p129:=rfl
theorem B129:p129.body=b129:=rfl
theorem N129:p129.n=9:=rfl
theorem R129:p129.res=[]:=rfl
theorem P130:PP 130=some p130:=rfl
theorem B130:p130.body=b130:=rfl
theorem N130:p130.n=55:=rfl
theorem R130:p130.res=[(2,none)]:=rfl
theorem P131:PP 131=some p131:=rfl
theorem B131:p131.body=b131:=rfl
theorem N131:p131.n=2:=rfl
theorem R131:p131.res=[(0,some (some 4))]:=rfl
theorem P132:PP 132=some p132:=rfl
theorem B132:p132.body=b132:=rfl
theorem N132:p132.n=44:=rfl
theorem R132:p132.res=[(2,none)]:=rfl
theorem P133:PP 133=some p133:=rfl
theorem B133:p133.body=b133:=rfl
theorem N133:p133.n=32:=rfl
theorem R133:p133.res=[(4,none),(5,none)]:=rfl
theorem P134:PP 134=some p134:=rfl
theorem B134:p134.body=b134:=rfl
theorem N134:p134.n=19:=rfl
theorem R134:p134.res=[(4,none)]:=rfl
theorem P147:PP 147=some p147:=rfl
theorem B147:p147.body=b147:=rfl
theorem N147:p147.n=23:=rfl
theorem R147:p147.res=[(2,none)]:=rfl
theorem P152:PP 152=some p152:=rfl
theorem B152:p152.body=b152:=rfl
theorem N152:p152.n=66:=rfl
theorem R152:p152.res=[(8,none)]:=rfl
theorem P153:PP 153=some p153:=rfl
theorem B153:p153.body=b153:=rfl
theorem N153:p153.n=63:=rfl
theorem R153:p153.res=[(4,none),(5,none)]:=rfl
theorem P206:PP 206=some p206:=rfl
theorem B206:p206.body=b206:=rfl
theorem N206:p206.n=15:=rfl
theorem R206:p206.res=[(2,none)]:=rfl
theorem P207:PP 207=some p207:=rfl
theorem B207:p207.body=b207:=rfl
theorem N207:p207.n=5:=rfl
theorem R207:p207.res=[(2,none)]:=rfl
theorem P208:PP 208=some p208:=rfl
theorem B208:p208.body=b208:=rfl
theorem N208:p208.n=5:=rfl
theorem R208:p208.res=[(2,none)]:=rfl
end Go.Pi.Ben
