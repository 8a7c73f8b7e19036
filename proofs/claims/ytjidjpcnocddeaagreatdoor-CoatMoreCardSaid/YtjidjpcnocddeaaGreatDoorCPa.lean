/- The functions of coats, in the small language. -/
import Derived.Test.YtjidjpcnocddeaaGreatDoorPiI
set_option linter.all false
set_option maxRecDepth 100000
namespace Go.Pi.Coa
open Go Go.Pi
abbrev iM (d:Nat)(s:Nat):PIns:=⟨some d,.v .mv [.tmp s],none⟩
abbrev jM (d:Nat)(s:Nat)(g:Nat)(h:Bool):PIns:=⟨some d,.v .mv [.tmp s],some (g,h)⟩
abbrev iL (d:Nat)(s:Nat):PIns:=⟨some d,.ld none (.tmp s),none⟩
abbrev jL (d:Nat)(s:Nat)(g:Nat)(h:Bool):PIns:=⟨some d,.ld none (.tmp s),some (g,h)⟩
abbrev iI (d:Nat)(n:Int):PIns:=⟨some d,.v .mv [.const (.int .i64 n)],none⟩
abbrev iF (d:Nat)(o s:Nat):PIns:=⟨some d,.v (.fa o) [.tmp s],none⟩
abbrev jF (d:Nat)(o s:Nat)(g:Nat)(h:Bool):PIns:=⟨some d,.v (.fa o) [.tmp s],some (g,h)⟩
abbrev iN (d:Nat)(n s:Nat):PIns:=⟨some d,.ld (some n) (.tmp s),none⟩
abbrev jN (d:Nat)(n s:Nat)(g:Nat)(h:Bool):PIns:=⟨some d,.ld (some n) (.tmp s),some (g,h)⟩
abbrev iE (d:Nat)(n s:Nat):PIns:=⟨some d,.v (.ext n) [.tmp s],none⟩
abbrev iW (d:Nat)(f:Nat):PIns:=⟨some d,.call (.func f) [],none⟩
abbrev jW (d:Nat)(f:Nat)(g:Nat)(h:Bool):PIns:=⟨some d,.call (.func f) [],some (g,h)⟩
abbrev iX (d:Nat)(f a:Nat):PIns:=⟨some d,.call (.func f) [.tmp a],none⟩
abbrev jX (d:Nat)(f a:Nat)(g:Nat)(h:Bool):PIns:=⟨some d,.call (.func f) [.tmp a],some (g,h)⟩
abbrev iY (d:Nat)(f a b:Nat):PIns:=⟨some d,.call (.func f) [.tmp a,.tmp b],none⟩
abbrev jY (d:Nat)(f a b:Nat)(g:Nat)(h:Bool):PIns:=⟨some d,.call (.func f) [.tmp a,.tmp b],some (g,h)⟩
abbrev iZ (d:Nat)(f a b c:Nat):PIns:=⟨some d,.call (.func f) [.tmp a,.tmp b,.tmp c],none⟩
abbrev jZ (d:Nat)(f a b c:Nat)(g:Nat)(h:Bool):PIns:=⟨some d,.call (.func f) [.tmp a,.tmp b,.tmp c],some (g,h)⟩
abbrev iK (d:Nat)(s:Nat):PIns:=⟨some d,.v .len [.tmp s],none⟩
abbrev jK (d:Nat)(s:Nat)(g:Nat)(h:Bool):PIns:=⟨some d,.v .len [.tmp s],some (g,h)⟩
abbrev iA (d:Nat)(k a b:Nat):PIns:=⟨some d,.v (.ia k) [.tmp a,.tmp b],none⟩
abbrev jA (d:Nat)(k a b:Nat)(g:Nat)(h:Bool):PIns:=⟨some d,.v (.ia k) [.tmp a,.tmp b],some (g,h)⟩
abbrev iB (d:Nat)(b:Bool):PIns:=⟨some d,.v .mv [.const (.bool b)],none⟩
abbrev iP (d:Nat)(a b:Nat):PIns:=⟨some d,.v .pick [.tmp a,.tmp b,.const (.bool false)],none⟩
abbrev jP (d:Nat)(a b:Nat)(g:Nat)(h:Bool):PIns:=⟨some d,.v .pick [.tmp a,.tmp b,.const (.bool false)],some (g,h)⟩
abbrev iQ (d:Nat)(a b:Nat):PIns:=⟨some d,.v .pick [.tmp a,.const (.bool true),.tmp b],none⟩
abbrev jQ (d:Nat)(a b:Nat)(g:Nat)(h:Bool):PIns:=⟨some d,.v .pick [.tmp a,.const (.bool true),.tmp b],some (g,h)⟩
abbrev iO (d:Nat)(o:BinOp)(s:Nat)(n:Int):PIns:=⟨some d,.v (.ib o) [.tmp s,.const (.int .i64 n)],none⟩
abbrev jO (d:Nat)(o:BinOp)(s:Nat)(n:Int)(g:Nat)(h:Bool):PIns:=⟨some d,.v (.ib o) [.tmp s,.const (.int .i64 n)],some (g,h)⟩
abbrev iT (d:Nat)(o:BinOp)(a b:Nat):PIns:=⟨some d,.v (.ib o) [.tmp a,.tmp b],none⟩
abbrev jT (d:Nat)(o:BinOp)(a b:Nat)(g:Nat)(h:Bool):PIns:=⟨some d,.v (.ib o) [.tmp a,.tmp b],some (g,h)⟩
abbrev iH (d:Nat) : PIns:=⟨some d,.v .mv [.const (.slice none 0 0)],none⟩
abbrev iR (d:Nat)(s:Nat):PIns:=⟨some d,.v .no [.tmp s],none⟩
abbrev jR (d:Nat)(s:Nat)(g:Nat)(h:Bool):PIns:=⟨some d,.v .no [.tmp s],some (g,h)⟩
abbrev iV (d:Nat)(t s:Nat):PIns:=⟨some d,.lbox t (.tmp s),none⟩
abbrev iS (n a s:Nat):PIns:=⟨none,.st n (.tmp a) (.tmp s),none⟩
abbrev fA:Flag:=⟨0,false,false⟩
abbrev fB:Flag:=⟨1,false,false⟩
abbrev fC:Flag:=⟨0,true,true⟩
abbrev fD:Flag:=⟨1,true,true⟩
abbrev fE:Flag:=⟨1,true,false⟩
abbrev fF:Flag:=⟨0,true,false⟩

def b3:PCode :=
 (.seq (.reg [
 iV 3 26 0,iB 6 false])
 (.seq (.seq (.reg [
 iN 9 3 3,iX 10 22 9,iR 11 10,iM 12 11,jM 13 1 12 false,
 jK 14 13 12 false,
 jO 15 .gtr 14 7 12 false,
 iQ 16 12 15,iM 17 16,jM 18 2 17 false,
 jK 19 18 17 false,
 jO 20 .gtr 19 14 17 false,
 iQ 21 17 20])
 (.cond (.tmp 21)
 (.seq (.reg [
 iW 22 23,iM 6 22])
 .ret)
 .skip))
 (.seq (.reg [
 iN 24 3 3,iM 25 1,iM 26 2,iZ 27 24 24 25 26,iM 23 27,iE 28 0 23,iE 29 1 23,iM 7 28,iM 8 29])
 (.seq (.seq (.reg [
 iN 30 3 3,iX 31 25 30,iR 32 31,iM 33 32,jN 34 3 3 33 false,
 jM 35 1 33 false,
 jY 36 26 34 35 33 false,
 jR 37 36 33 false,
 iQ 38 33 37,iM 39 38,jN 40 3 3 39 false,
 jM 41 2 39 false,
 jY 42 27 40 41 39 false,
 jR 43 42 39 false,
 iQ 44 39 43])
 (.cond (.tmp 44)
 (.seq (.reg [
 iM 45 8,iO 46 .eql 45 2,iM 47 46,jM 48 7 47 true,
 jR 49 48 47 true,
 iP 50 47 49,iM 51 50,jW 52 23 51 true,
 iP 53 51 52,iM 6 53])
 .ret)
 .skip))
 (.seq (.reg [
 iM 54 8,iO 55 .eql 54 0,iM 56 55,jM 57 7 56 true,
 jN 58 3 3 56 true,
 jM 59 1 56 true,
 jM 60 2 56 true,
 jZ 61 28 58 59 60 56 true,
 ⟨some 62,.v (.bb false) [.tmp 57,.tmp 61],some (56,true)⟩,
 iP 63 56 62,iM 64 63,jW 65 23 64 true,
 iP 66 64 65,iM 6 66])
 .ret)))))
def p3:PFunc:=⟨67,[(6,none)],none,b3⟩
def b4:PCode :=
 (.seq (.reg [
 iV 3 26 0,iB 6 false])
 (.seq (.seq (.reg [
 iN 15 3 3,iM 16 1,iY 17 29 15 16,iR 18 17,iM 19 18,jM 20 2 19 false,
 jK 21 20 19 false,
 jO 22 .gtr 21 14 19 false,
 iQ 23 19 22,iM 24 23,jN 25 3 3 24 false,
 jM 26 2 24 false,
 jY 27 27 25 26 24 false,
 jR 28 27 24 false,
 iQ 29 24 28])
 (.cond (.tmp 29)
 (.seq (.reg [
 iW 30 23,iM 6 30])
 .ret)
 .skip))
 (.seq (.reg [
 iN 32 3 3,iM 33 1,iM 34 2,iZ 35 24 32 33 34,iM 31 35,iE 36 0 31,iE 37 1 31,iM 7 36,iM 8 37])
 (.seq (.reg [
 iN 39 3 3,iM 40 1,iY 41 30 39 40,iM 38 41,iE 42 0 38,iE 43 1 38,iM 9 42,iM 10 43])
 (.seq (.reg [
 iN 45 3 3,iM 46 1,iY 47 31 45 46,iM 44 47,iE 48 0 44,iE 49 1 44,iM 11 48,iM 12 49])
 (.seq (.seq (.reg [
 iM 50 8,iO 51 .neq 50 0,iM 52 51,jM 53 10 52 false,
 jO 54 .neq 53 0 52 false,
 iQ 55 52 54,iM 56 55,jM 57 9 56 false,
 jO 58 .lss 57 1 56 false,
 iQ 59 56 58,iM 60 59,jM 61 9 60 false,
 jO 62 .gtr 61 3 60 false,
 iQ 63 60 62,iM 64 63,jM 65 12 64 false,
 jO 66 .neq 65 0 64 false,
 jM 67 66 64 false,
 jM 68 12 67 true,
 jO 69 .neq 68 5 67 true,
 jP 70 67 69 64 false,
 iQ 71 64 70,iM 72 71,jM 73 9 72 false,
 jO 74 .eql 73 3 72 false,
 jM 75 12 72 false,
 jO 76 .eql 75 5 72 false,
 ⟨some 77,.v (.bb true) [.tmp 74,.tmp 76],some (72,false)⟩,
 iQ 78 72 77])
 (.cond (.tmp 78)
 (.seq (.reg [
 iB 6 false])
 .ret)
 .skip))
 (.seq (.seq (.reg [
 iM 79 9,iO 80 .eql 79 3,iM 81 80,jM 82 7 81 true,
 jR 83 82 81 true,
 iP 84 81 83,iM 85 84,jM 86 9 85 false,
 jO 87 .eql 86 1 85 false,
 jM 88 87 85 false,
 jM 89 7 88 true,
 jP 90 88 89 85 false,
 iQ 91 85 90])
 (.cond (.tmp 91)
 (.seq (.reg [
 iB 6 false])
 .ret)
 .skip))
 (.seq (.seq (.reg [
 iM 92 12,iO 93 .neq 92 0])
 (.cond (.tmp 93)
 (.seq (.reg [
 iW 94 23,iM 6 94])
 .ret)
 .skip))
 (.seq (.seq (.reg [
 iN 95 3 3,iM 96 11,iY 97 27 95 96,iR 98 97])
 (.cond (.tmp 98)
 (.seq (.reg [
 iB 6 false])
 .ret)
 .skip))
 (.seq (.reg [
 iN 100 3 3,iM 101 1,iM 102 11,iZ 103 24 100 101 102,iM 99 103,iE 104 0 99,iE 105 1 99,iM 13 104,iM 14 105])
 (.seq (.reg [
 iM 106 14,iO 107 .eql 106 0,iM 108 107,jM 109 13 108 true,
 jR 110 109 108 true,
 iP 111 108 110,iM 112 111,jW 113 23 112 true,
 iP 114 112 113,iM 6 114])
 .ret)))))))))))
def p4:PFunc:=⟨115,[(6,none)],none,b4⟩
def b7:PCode :=
 (.seq (.reg [
 iV 1 26 0,iB 2 false])
 (.seq (.seq (.reg [
 iN 8 3 1,iX 9 22 8,iR 10 9])
 (.cond (.tmp 10)
 (.seq (.reg [
 iW 11 23,iM 2 11])
 .ret)
 .skip))
 (.seq (.reg [
 iN 13 3 1,iX 14 41 13,iM 12 14,iE 15 0 12,iE 16 1 12,iM 3 15,iM 4 16])
 (.seq (.reg [
 iN 18 3 1,iX 19 42 18,iM 17 19,iE 20 0 17,iE 21 1 17,iM 5 20,iM 6 21])
 (.seq (.seq (.reg [
 iN 22 3 1,iX 23 25 22,iR 24 23])
 (.cond (.tmp 24)
 (.seq (.reg [
 iM 25 4,iO 26 .eql 25 2,iM 27 26,jM 28 3 27 true,
 jK 29 28 27 true,
 jO 30 .eql 29 0 27 true,
 iP 31 27 30,iM 32 31,jM 33 6 32 true,
 jO 34 .eql 33 2 32 true,
 iP 35 32 34,iM 36 35,jM 37 5 36 true,
 jO 38 .eql 37 0 36 true,
 iP 39 36 38,iM 40 39,jW 41 23 40 true,
 iP 42 40 41,iM 2 42])
 .ret)
 .skip))
 (.seq (.reg [
 iN 43 3 1,iX 44 43 43,iM 7 44])
 (.seq (.seq (.reg [
 iM 45 6,iO 46 .neq 45 0,iM 47 46,jM 48 5 47 false,
 jM 49 7 47 false,
 jK 50 49 47 false,
 jT 51 .neq 48 50 47 false,
 iQ 52 47 51])
 (.cond (.tmp 52)
 (.seq (.reg [
 iB 2 false])
 .ret)
 .skip))
 (.seq (.seq (.reg [
 iM 53 7,iK 54 53,iO 55 .eql 54 0])
 (.cond (.tmp 55)
 (.seq (.reg [
 iM 56 4,iO 57 .eql 56 5,iM 58 57,jM 59 3 58 true,
 jK 60 59 58 true,
 jO 61 .eql 60 0 58 true,
 iP 62 58 61,iM 63 62,jW 64 23 63 true,
 iP 65 63 64,iM 2 65])
 .ret)
 .skip))
 (.seq (.reg [
 iM 66 4,iO 67 .eql 66 0,iM 68 67,jM 69 3 68 true,
 jM 70 7 68 true,
 ⟨some 71,.v (.ia 1) [.tmp 70,.const (.int .i64 0)],some (68,true)⟩,
 jL 72 71 68 true,
 jY 73 35 69 72 68 true,
 iP 74 68 73,iM 75 74,jW 76 23 75 true,
 iP 77 75 76,iM 2 77])
 .ret)))))))))
def p7:PFunc:=⟨78,[(2,none)],none,b7⟩
def b8:PCode :=
 (.seq (.reg [
 iV 2 26 0,iB 4 false])
 (.seq (.seq (.reg [
 iN 13 3 2,iM 14 1,iY 15 29 13 14,iR 16 15])
 (.cond (.tmp 16)
 (.seq (.reg [
 iW 17 23,iM 4 17])
 .ret)
 .skip))
 (.seq (.reg [
 iN 19 3 2,iX 20 41 19,iM 18 20,iE 21 0 18,iE 22 1 18,iM 5 21,iM 6 22])
 (.seq (.reg [
 iN 24 3 2,iX 25 42 24,iM 23 25,iE 26 0 23,iE 27 1 23,iM 7 26,iM 8 27])
 (.seq (.reg [
 iN 29 3 2,iM 30 1,iY 31 44 29 30,iM 28 31,iE 32 0 28,iE 33 1 28,iM 9 32,iM 10 33])
 (.seq (.seq (.reg [
 iM 34 10,iR 35 34,iM 36 35,jM 37 6 36 false,
 jO 38 .neq 37 0 36 false,
 jM 39 38 36 false,
 jM 40 6 39 true,
 jO 41 .neq 40 5 39 true,
 jP 42 39 41 36 false,
 iQ 43 36 42,iM 44 43,jM 45 8 44 false,
 jO 46 .neq 45 0 44 false,
 iQ 47 44 46,iM 48 47,jM 49 7 48 false,
 jO 50 .lss 49 0 48 false,
 iQ 51 48 50,iM 52 51,jM 53 7 52 false,
 jO 54 .gtr 53 792 52 false,
 iQ 55 52 54,iM 56 55,jM 57 7 56 false,
 jO 58 .gtr 57 0 56 false,
 jM 59 6 56 false,
 jO 60 .eql 59 0 56 false,
 ⟨some 61,.v (.bb true) [.tmp 58,.tmp 60],some (56,false)⟩,
 iQ 62 56 61,iM 63 62,jM 64 9 63 false,
 jM 65 64 63 false,
 jM 66 6 65 true,
 jO 67 .neq 66 0 65 true,
 jP 68 65 67 63 false,
 iQ 69 63 68])
 (.cond (.tmp 69)
 (.seq (.reg [
 iB 4 false])
 .ret)
 .skip))
 (.seq (.seq (.reg [
 iM 70 6,iO 71 .neq 70 0])
 (.cond (.tmp 71)
 (.seq (.reg [
 iW 72 23,iM 4 72])
 .ret)
 .skip))
 (.seq (.seq (.reg [
 iN 73 3 2,iM 74 5,iY 75 26 73 74,iR 76 75])
 (.cond (.tmp 76)
 (.seq (.reg [
 iB 4 false])
 .ret)
 .skip))
 (.seq (.reg [
 iN 78 3 2,iM 79 5,iY 80 44 78 79,iM 77 80,iE 81 0 77,iE 82 1 77,iM 11 81,iM 12 82])
 (.seq (.reg [
 iM 83 12,iM 84 83,jM 85 11 84 true,
 iP 86 84 85,iM 87 86,jM 88 9 87 true,
 jR 89 88 87 true,
 jM 90 89 87 true,
 jM 91 1 90 false,
 jM 92 5 90 false,
 jY 93 40 91 92 90 false,
 jR 94 93 90 false,
 jM 95 94 90 false,
 jM 96 1 95 true,
 jM 97 5 95 true,
 jY 98 35 96 97 95 true,
 jM 99 98 95 true,
 jM 100 7 99 false,
 jO 101 .gtr 100 1 99 false,
 jQ 102 99 101 95 true,
 jP 103 95 102 90 false,
 jQ 104 90 103 87 true,
 iP 105 87 104,iM 106 105,jW 107 23 106 true,
 iP 108 106 107,iM 4 108])
 .ret))))))))))
def p8:PFunc:=⟨109,[(4,none)],none,b8⟩
def b9:PCode :=
 (.seq (.reg [
 iV 2 26 0,iB 4 false])
 (.seq (.seq (.reg [
 iN 13 3 2,iX 14 22 13,iR 15 14])
 (.cond (.tmp 15)
 (.seq (.reg [
 iW 16 23,iM 4 16])
 .ret)
 .skip))
 (.seq (.reg [
 iN 18 3 2,iM 19 1,iY 20 45 18 19,iM 17 20,iE 21 0 17,iE 22 1 17,iM 5 21,iM 6 22])
 (.seq (.reg [
 iN 24 3 2,iX 25 46 24,iM 23 25,iE 26 0 23,iE 27 1 23,iM 7 26,iM 8 27])
 (.seq (.reg [
 iN 29 3 2,iX 30 47 29,iM 28 30,iE 31 0 28,iE 32 1 28,iM 9 31,iM 10 32])
 (.seq (.seq (.reg [
 iN 33 3 2,iX 34 25 33,iR 35 34])
 (.cond (.tmp 35)
 (.seq (.reg [
 iM 36 6,iO 37 .eql 36 2,iM 38 37,jM 39 5 38 true,
 jK 40 39 38 true,
 jO 41 .eql 40 0 38 true,
 iP 42 38 41,iM 43 42,jM 44 8 43 true,
 jO 45 .eql 44 2 43 true,
 iP 46 43 45,iM 47 46,jM 48 7 47 true,
 jO 49 .eql 48 0 47 true,
 iP 50 47 49,iM 51 50,jM 52 10 51 true,
 jO 53 .eql 52 2 51 true,
 iP 54 51 53,iM 55 54,jM 56 9 55 true,
 jO 57 .eql 56 0 55 true,
 iP 58 55 57,iM 59 58,jW 60 23 59 true,
 iP 61 59 60,iM 4 61])
 .ret)
 .skip))
 (.seq (.dreg [
 iN 62 3 2,iX 63 48 62,iN 64 3 2,iX 65 49 64,iM 11 63,iM 12 65] [⟨4,true,false⟩,fE,⟨4,false,false⟩,fD,fC,fC])
 (.seq (.seq (.reg [
 iM 66 11,iO 67 .lss 66 0,iM 68 67,jM 69 8 68 true,
 jO 70 .neq 69 5 68 true,
 jM 71 70 68 true,
 jM 72 7 71 false,
 jO 73 .neq 72 0 71 false,
 jQ 74 71 73 68 true,
 jM 75 74 68 true,
 jM 76 10 75 false,
 jO 77 .neq 76 5 75 false,
 jQ 78 75 77 68 true,
 jM 79 78 68 true,
 jM 80 9 79 false,
 jO 81 .neq 80 0 79 false,
 jQ 82 79 81 68 true,
 iP 83 68 82,iM 84 83,jM 85 11 84 false,
 jO 86 .geq 85 0 84 false,
 jM 87 86 84 false,
 jM 88 8 87 true,
 jO 89 .neq 88 0 87 true,
 jM 90 89 87 true,
 jM 91 7 90 false,
 jM 92 11 90 false,
 jT 93 .neq 91 92 90 false,
 jQ 94 90 93 87 true,
 jM 95 94 87 true,
 jM 96 10 95 false,
 jO 97 .neq 96 0 95 false,
 jQ 98 95 97 87 true,
 jM 99 98 87 true,
 jM 100 9 99 false,
 jM 101 12 99 false,
 jT 102 .neq 100 101 99 false,
 jQ 103 99 102 87 true,
 jP 104 87 103 84 false,
 iQ 105 84 104])
 (.cond (.tmp 105)
 (.seq (.reg [
 iB 4 false])
 .ret)
 .skip))
 (.seq (.seq (.reg [
 iN 106 3 2,iM 107 1,iY 108 36 106 107,iR 109 108])
 (.cond (.tmp 109)
 (.seq (.reg [
 iM 110 6,iO 111 .eql 110 2,iM 112 111,jM 113 5 112 true,
 jK 114 113 112 true,
 jO 115 .eql 114 0 112 true,
 iP 116 112 115,iM 117 116,jW 118 23 117 true,
 iP 119 117 118,iM 4 119])
 .ret)
 .skip))
 (.seq (.seq (.reg [
 iM 120 11,iO 121 .lss 120 0])
 (.cond (.tmp 121)
 (.seq (.reg [
 iM 122 6,iO 123 .eql 122 7,iM 124 123,jM 125 5 124 true,
 jK 126 125 124 true,
 jO 127 .eql 126 0 124 true,
 iP 128 124 127,iM 129 128,jW 130 23 129 true,
 iP 131 129 130,iM 4 131])
 .ret)
 .skip))
 (.seq (.reg [
 iM 132 6,iO 133 .eql 132 0,iM 134 133,jM 135 5 134 true,
 jN 136 3 2 134 true,
 jM 137 1 134 true,
 jY 138 50 136 137 134 true,
 jY 139 35 135 138 134 true,
 iP 140 134 139,iM 141 140,jW 142 23 141 true,
 iP 143 141 142,iM 4 143])
 .ret)))))))))))
def p9:PFunc:=⟨144,[(4,none)],none,b9⟩
def q10x0:PCode :=
 (.seq (.seq (.reg [
 iM 150 17,iM 151 9,iK 152 151,iT 153 .lss 150 152])
 (.cond (.tmp 153)
 .skip
 (.exit 0)))
 (.seq (.blk 1
 (.seq (.dreg [
 iF 156 1 3,iL 157 156,iM 158 9,iM 159 17,iA 160 1 158 159,iL 161 160,iY 162 51 157 161,iR 163 162,iM 164 163,jM 165 17 164 false,
 jO 166 .gtr 165 0 164 false,
 jM 167 166 164 false,
 jM 168 9 167 true,
 jM 169 17 167 true,
 jA 170 1 168 169 167 true,
 jL 171 170 167 true,
 jM 172 9 167 true,
 jM 173 17 167 true,
 jO 174 .sub 173 1 167 true,
 jA 175 1 172 174 167 true,
 jL 176 175 167 true,
 jT 177 .leq 171 176 167 true,
 jP 178 167 177 164 false,
 iQ 179 164 178] [fA,⟨5,false,false⟩,fF,fF,fF,fE,fD,fC,fC,fC,fC,fC,fA,fA,fA,fB,fA,fA,fA,fA,fB,fC,fC,fC])
 (.cond (.tmp 179)
 (.seq (.reg [
 iB 6 false])
 .ret)
 .skip)))
 (.reg [
 iM 154 17,iO 155 .add 154 1,iM 17 155])))
def b10:PCode :=
 (.seq (.reg [
 iV 3 26 0,iB 6 false])
 (.seq (.seq (.reg [
 iN 18 3 3,iM 19 1,iY 20 29 18 19,iR 21 20,iM 22 21,jN 23 3 3 22 false,
 jM 24 2 22 false,
 jY 25 36 23 24 22 false,
 jR 26 25 22 false,
 iQ 27 22 26])
 (.cond (.tmp 27)
 (.seq (.reg [
 iW 28 23,iM 6 28])
 .ret)
 .skip))
 (.seq (.reg [
 iN 30 3 3,iM 31 1,iY 32 44 30 31,iM 29 32,iE 33 0 29,iE 34 1 29,iM 7 33,iM 8 34])
 (.seq (.reg [
 iN 36 3 3,iM 37 2,iY 38 45 36 37,iM 35 38,iE 39 0 35,iE 40 1 35,iM 9 39,iM 10 40])
 (.seq (.reg [
 iN 42 3 3,⟨some 43,.call (.func 45) [.tmp 42,.const (.int .i64 0)],none⟩,iM 41 43,iE 44 0 41,iE 45 1 41,iM 11 44,iM 12 45])
 (.seq (.reg [
 iN 47 3 3,iX 48 46 47,iM 46 48,iE 49 0 46,iE 50 1 46,iM 13 49,iM 14 50])
 (.seq (.reg [
 iN 52 3 3,iX 53 47 52,iM 51 53,iE 54 0 51,iE 55 1 51,iM 15 54,iM 16 55])
 (.seq (.seq (.reg [
 iM 56 8,iR 57 56,iM 58 57,jM 59 10 58 false,
 jO 60 .neq 59 0 58 false,
 jM 61 60 58 false,
 jM 62 10 61 true,
 jO 63 .neq 62 7 61 true,
 jP 64 61 63 58 false,
 iQ 65 58 64,iM 66 65,jM 67 12 66 false,
 jM 68 10 66 false,
 jT 69 .neq 67 68 66 false,
 iQ 70 66 69,iM 71 70,jM 72 14 71 false,
 jM 73 16 71 false,
 jT 74 .neq 72 73 71 false,
 iQ 75 71 74,iM 76 75,jM 77 14 76 false,
 jO 78 .neq 77 0 76 false,
 jM 79 78 76 false,
 jM 80 14 79 true,
 jO 81 .neq 80 5 79 true,
 jP 82 79 81 76 false,
 iQ 83 76 82,iM 84 83,jM 85 10 84 false,
 jO 86 .eql 85 0 84 false,
 jM 87 14 84 false,
 jO 88 .eql 87 0 84 false,
 ⟨some 89,.v (.bb true) [.tmp 86,.tmp 88],some (84,false)⟩,
 iQ 90 84 89,iM 91 90,jM 92 7 91 false,
 jM 93 92 91 false,
 jM 94 10 93 true,
 jO 95 .neq 94 0 93 true,
 jP 96 93 95 91 false,
 iQ 97 91 96])
 (.cond (.tmp 97)
 (.seq (.reg [
 iB 6 false])
 .ret)
 .skip))
 (.seq (.seq (.reg [
 iM 98 10,iO 99 .neq 98 0])
 (.cond (.tmp 99)
 (.seq (.reg [
 iW 100 23,iM 6 100])
 .ret)
 .skip))
 (.seq (.seq (.reg [
 iM 101 9,iK 102 101,iO 103 .eql 102 0,iM 104 103,jM 105 9 104 false,
 jK 106 105 104 false,
 jF 107 1 3 104 false,
 jL 108 107 104 false,
 jK 109 108 104 false,
 jT 110 .gtr 106 109 104 false,
 iQ 111 104 110,iM 112 111,jM 113 11 112 false,
 jK 114 113 112 false,
 jO 115 .eql 114 0 112 false,
 iQ 116 112 115,iM 117 116,jM 118 11 117 false,
 jK 119 118 117 false,
 jF 120 1 3 117 false,
 jL 121 120 117 false,
 jK 122 121 117 false,
 jT 123 .gtr 119 122 117 false,
 iQ 124 117 123,iM 125 124,jM 126 11 125 false,
 jM 127 11 125 false,
 jK 128 127 125 false,
 jO 129 .sub 128 1 125 false,
 jA 130 1 126 129 125 false,
 jL 131 130 125 false,
 jM 132 13 125 false,
 jT 133 .neq 131 132 125 false,
 iQ 134 125 133,iM 135 134,jM 136 15 135 false,
 jF 137 2 3 135 false,
 jL 138 137 135 false,
 jK 139 138 135 false,
 jO 140 .sub 139 1 135 false,
 jT 141 .lss 136 140 135 false,
 iQ 142 135 141,iM 143 142,jM 144 15 143 false,
 jF 145 0 3 143 false,
 jL 146 145 143 false,
 jK 147 146 143 false,
 jT 148 .geq 144 147 143 false,
 iQ 149 143 148])
 (.cond (.tmp 149)
 (.seq (.reg [
 iB 6 false])
 .ret)
 .skip))
 (.seq (.seq (.reg [
 iI 17 0])
 (.blk 0
 (.loop q10x0)))
 (.seq (.dreg [
 iM 180 7,iR 181 180,iM 182 181,jM 183 9 182 false,
 jM 184 1 182 false,
 jM 185 2 182 false,
 jA 186 1 184 185 182 false,
 jL 187 186 182 false,
 jY 188 51 183 187 182 false,
 jM 189 188 182 false,
 jM 190 1 189 true,
 ⟨some 191,.v (.ia 1) [.tmp 190,.const (.int .i64 0)],some (189,true)⟩,
 jL 192 191 189 true,
 jM 193 13 189 true,
 jT 194 .leq 192 193 189 true,
 jP 195 189 194 182 false,
 jM 196 195 182 false,
 jM 197 1 196 true,
 jM 198 1 196 true,
 jK 199 198 196 true,
 jO 200 .sub 199 1 196 true,
 jA 201 1 197 200 196 true,
 jL 202 201 196 true,
 jM 203 1 196 true,
 ⟨some 204,.v (.ia 1) [.tmp 203,.const (.int .i64 0)],some (196,true)⟩,
 jL 205 204 196 true,
 jT 206 .sub 202 205 196 true,
 jM 207 15 196 true,
 jT 208 .geq 206 207 196 true,
 jP 209 196 208 182 false,
 iQ 210 182 209,iM 211 210,jW 212 23 211 true,
 iP 213 211 212,iM 6 213] [fC,fC,fC,fA,fF,fF,fF,fE,fD,fC,fF,fF,fE,fA,fC,fC,fC,fA,fA,fA,fA,fA,fB,fA,fA,fB,fF,fA,fC,fC,fC,fC,fD,fC,fC])
 .ret))))))))))))
def p10:PFunc:=⟨214,[(6,none)],none,b10⟩
def b11:PCode :=
 (.seq (.reg [
 iV 1 26 0,iB 2 false])
 (.seq (.seq (.reg [
 iN 6 3 1,iX 7 22 6,iR 8 7])
 (.cond (.tmp 8)
 (.seq (.reg [
 iW 9 23,iM 2 9])
 .ret)
 .skip))
 (.seq (.reg [
 iN 11 3 1,iX 12 52 11,iM 10 12,iE 13 0 10,iE 14 1 10,iM 3 13,iM 4 14])
 (.seq (.seq (.reg [
 iN 15 3 1,iX 16 25 15,iR 17 16])
 (.cond (.tmp 17)
 (.seq (.reg [
 iM 18 4,iO 19 .eql 18 2,iM 20 19,jM 21 3 20 true,
 jO 22 .eql 21 0 20 true,
 iP 23 20 22,iM 24 23,jW 25 23 24 true,
 iP 26 24 25,iM 2 26])
 .ret)
 .skip))
 (.seq (.reg [
 iN 27 3 1,iX 28 53 27,iM 5 28])
 (.seq (.seq (.reg [
 iM 29 5,iO 30 .lss 29 0])
 (.cond (.tmp 30)
 (.seq (.reg [
 iM 31 4,iO 32 .eql 31 5,iM 33 32,jM 34 3 33 true,
 jO 35 .eql 34 0 33 true,
 iP 36 33 35,iM 37 36,jW 38 23 37 true,
 iP 39 37 38,iM 2 39])
 .ret)
 .skip))
 (.seq (.reg [
 iM 40 4,iO 41 .eql 40 0,iM 42 41,jM 43 3 42 true,
 jM 44 5 42 true,
 jT 45 .eql 43 44 42 true,
 iP 46 42 45,iM 47 46,jW 48 23 47 true,
 iP 49 47 48,iM 2 49])
 .ret)))))))
def p11:PFunc:=⟨50,[(2,none)],none,b11⟩
def b12:PCode :=
 (.seq (.reg [
 iV 2 26 0,iB 4 false])
 (.seq (.seq (.reg [
 iN 11 3 2,iX 12 22 11,iR 13 12,iM 14 13,jN 15 3 2 14 false,
 jX 16 25 15 14 false,
 jR 17 16 14 false,
 iQ 18 14 17,iM 19 18,jN 20 3 2 19 false,
 jM 21 1 19 false,
 jY 22 36 20 21 19 false,
 jR 23 22 19 false,
 iQ 24 19 23])
 (.cond (.tmp 24)
 (.seq (.reg [
 iW 25 23,iM 4 25])
 .ret)
 .skip))
 (.seq (.reg [
 iN 27 3 2,iX 28 52 27,iM 26 28,iE 29 0 26,iE 30 1 26,iM 5 29,iM 6 30])
 (.seq (.reg [
 iN 32 3 2,iX 33 54 32,iM 31 33,iE 34 0 31,iE 35 1 31,iM 7 34,iM 8 35])
 (.seq (.reg [
 iN 37 3 2,iM 38 1,iY 39 55 37 38,iX 40 54 39,iM 36 40,iE 41 0 36,iE 42 1 36,iM 9 41,iM 10 42])
 (.seq (.seq (.reg [
 iM 43 8,iR 44 43,iM 45 44,jM 46 10 45 false,
 jR 47 46 45 false,
 iQ 48 45 47,iM 49 48,jM 50 6 49 false,
 jO 51 .neq 50 0 49 false,
 jM 52 51 49 false,
 jM 53 6 52 true,
 jO 54 .neq 53 5 52 true,
 jP 55 52 54 49 false,
 iQ 56 49 55,iM 57 56,jM 58 7 57 false,
 jM 59 6 57 false,
 jO 60 .eql 59 5 57 false,
 ⟨some 61,.v (.bb true) [.tmp 58,.tmp 60],some (57,false)⟩,
 iQ 62 57 61,iM 63 62,jM 64 6 63 false,
 jO 65 .eql 64 0 63 false,
 jM 66 65 63 false,
 jN 67 3 2 66 true,
 jM 68 5 66 true,
 jY 69 36 67 68 66 true,
 jR 70 69 66 true,
 jP 71 66 70 63 false,
 iQ 72 63 71])
 (.cond (.tmp 72)
 (.seq (.reg [
 iB 4 false])
 .ret)
 .skip))
 (.seq (.reg [
 iM 73 9,iM 74 6,iO 75 .eql 74 5,iM 76 75,jM 77 1 76 false,
 jM 78 5 76 false,
 jT 79 .lss 77 78 76 false,
 iQ 80 76 79,⟨some 81,.v (.bb false) [.tmp 73,.tmp 80],none⟩,iM 82 81,jW 83 23 82 true,
 iP 84 82 83,iM 4 84])
 .ret)))))))
def p12:PFunc:=⟨85,[(4,none)],none,b12⟩
def b13:PCode :=
 (.seq (.reg [
 iV 1 26 0,iB 2 false])
 (.seq (.seq (.reg [
 iN 6 3 1,iX 7 22 6,iR 8 7])
 (.cond (.tmp 8)
 (.seq (.reg [
 iW 9 23,iM 2 9])
 .ret)
 .skip))
 (.seq (.reg [
 iN 11 3 1,iX 12 56 11,iM 10 12,iE 13 0 10,iE 14 1 10,iM 3 13,iM 4 14])
 (.seq (.seq (.reg [
 iN 15 3 1,iX 16 25 15,iR 17 16])
 (.cond (.tmp 17)
 (.seq (.reg [
 iM 18 4,iO 19 .eql 18 2,iM 20 19,jM 21 3 20 true,
 jO 22 .eql 21 0 20 true,
 iP 23 20 22,iM 24 23,jW 25 23 24 true,
 iP 26 24 25,iM 2 26])
 .ret)
 .skip))
 (.seq (.reg [
 iN 27 3 1,iX 28 57 27,iM 5 28])
 (.seq (.seq (.reg [
 iM 29 5,iO 30 .lss 29 0])
 (.cond (.tmp 30)
 (.seq (.reg [
 iM 31 4,iO 32 .eql 31 5,iM 33 32,jM 34 3 33 true,
 jO 35 .eql 34 0 33 true,
 iP 36 33 35,iM 37 36,jW 38 23 37 true,
 iP 39 37 38,iM 2 39])
 .ret)
 .skip))
 (.seq (.reg [
 iM 40 4,iO 41 .eql 40 0,iM 42 41,jM 43 3 42 true,
 jM 44 5 42 true,
 jT 45 .eql 43 44 42 true,
 iP 46 42 45,iM 47 46,jW 48 23 47 true,
 iP 49 47 48,iM 2 49])
 .ret)))))))
def p13:PFunc:=⟨50,[(2,none)],none,b13⟩
def b14:PCode :=
 (.seq (.reg [
 iV 2 26 0,iB 4 false])
 (.seq (.seq (.reg [
 iN 11 3 2,iX 12 22 11,iR 13 12,iM 14 13,jN 15 3 2 14 false,
 jX 16 25 15 14 false,
 jR 17 16 14 false,
 iQ 18 14 17,iM 19 18,jM 20 1 19 false,
 jO 21 .lss 20 0 19 false,
 iQ 22 19 21,iM 23 22,jM 24 1 23 false,
 jO 25 .gtr 24 400 23 false,
 iQ 26 23 25,iM 27 26,jN 28 3 2 27 false,
 jM 29 1 27 false,
 jY 30 58 28 29 27 false,
 jX 31 25 30 27 false,
 jR 32 31 27 false,
 iQ 33 27 32])
 (.cond (.tmp 33)
 (.seq (.reg [
 iW 34 23,iM 4 34])
 .ret)
 .skip))
 (.seq (.reg [
 iN 36 3 2,iX 37 56 36,iM 35 37,iE 38 0 35,iE 39 1 35,iM 5 38,iM 6 39])
 (.seq (.reg [
 iN 41 3 2,iX 42 54 41,iM 40 42,iE 43 0 40,iE 44 1 40,iM 7 43,iM 8 44])
 (.seq (.reg [
 iN 46 3 2,iM 47 1,iY 48 58 46 47,iX 49 54 48,iM 45 49,iE 50 0 45,iE 51 1 45,iM 9 50,iM 10 51])
 (.seq (.seq (.reg [
 iM 52 8,iR 53 52,iM 54 53,jM 55 10 54 false,
 jR 56 55 54 false,
 iQ 57 54 56,iM 58 57,jM 59 6 58 false,
 jO 60 .neq 59 0 58 false,
 jM 61 60 58 false,
 jM 62 6 61 true,
 jO 63 .neq 62 5 61 true,
 jP 64 61 63 58 false,
 iQ 65 58 64,iM 66 65,jM 67 5 66 false,
 jO 68 .lss 67 0 66 false,
 iQ 69 66 68,iM 70 69,jM 71 7 70 false,
 jM 72 6 70 false,
 jO 73 .eql 72 0 70 false,
 jM 74 73 70 false,
 jM 75 5 74 true,
 jO 76 .eql 75 0 74 true,
 jP 77 74 76 70 false,
 ⟨some 78,.v (.bb true) [.tmp 71,.tmp 77],some (70,false)⟩,
 iQ 79 70 78])
 (.cond (.tmp 79)
 (.seq (.reg [
 iB 4 false])
 .ret)
 .skip))
 (.seq (.reg [
 iM 80 9,iM 81 6,iO 82 .eql 81 0,iM 83 82,jM 84 1 83 true,
 jM 85 5 83 true,
 jT 86 .geq 84 85 83 true,
 iP 87 83 86,⟨some 88,.v (.bb false) [.tmp 80,.tmp 87],none⟩,iM 89 88,jW 90 23 89 true,
 iP 91 89 90,iM 4 91])
 .ret)))))))
def p14:PFunc:=⟨92,[(4,none)],none,b14⟩
def b15:PCode :=
 (.seq (.reg [
 iV 3 26 0,iB 6 false])
 (.seq (.seq (.reg [
 iN 13 3 3,iX 14 22 13,iR 15 14,iM 16 15,jM 17 1 16 false,
 jK 18 17 16 false,
 jO 19 .gtr 18 7 16 false,
 iQ 20 16 19])
 (.cond (.tmp 20)
 (.seq (.reg [
 iW 21 23,iM 6 21])
 .ret)
 .skip))
 (.seq (.reg [
 iN 23 3 3,iM 24 1,iM 25 2,iZ 26 59 23 24 25,iM 22 26,iE 27 0 22,iE 28 1 22,iE 29 2 22,iM 7 27,iM 8 28,iM 9 29])
 (.seq (.seq (.reg [
 iN 30 3 3,iX 31 25 30,iR 32 31,iM 33 32,jN 34 3 3 33 false,
 jM 35 1 33 false,
 jY 36 26 34 35 33 false,
 jR 37 36 33 false,
 iQ 38 33 37,iM 39 38,jN 40 3 3 39 false,
 jM 41 2 39 false,
 jY 42 60 40 41 39 false,
 jR 43 42 39 false,
 iQ 44 39 43])
 (.cond (.tmp 44)
 (.seq (.reg [
 iM 45 9,iO 46 .eql 45 2,iM 47 46,jM 48 7 47 true,
 jK 49 48 47 true,
 jO 50 .eql 49 0 47 true,
 iP 51 47 50,iM 52 51,jM 53 8 52 true,
 jO 54 .eql 53 0 52 true,
 iP 55 52 54,iM 56 55,jW 57 23 56 true,
 iP 58 56 57,iM 6 58])
 .ret)
 .skip))
 (.seq (.reg [
 iN 60 3 3,iM 61 1,iM 62 2,iZ 63 61 60 61 62,iM 59 63,iE 64 0 59,iE 65 1 59,iE 66 2 59,iM 10 64,iM 11 65,iM 12 66])
 (.seq (.seq (.reg [
 iM 67 12,iR 68 67])
 (.cond (.tmp 68)
 (.seq (.reg [
 iM 69 9,iO 70 .eql 69 5,iM 71 70,jM 72 7 71 true,
 jK 73 72 71 true,
 jO 74 .eql 73 0 71 true,
 iP 75 71 74,iM 76 75,jM 77 8 76 true,
 jO 78 .eql 77 0 76 true,
 iP 79 76 78,iM 80 79,jW 81 23 80 true,
 iP 82 80 81,iM 6 82])
 .ret)
 .skip))
 (.seq (.reg [
 iM 83 9,iO 84 .eql 83 0,iM 85 84,jM 86 7 85 true,
 jM 87 10 85 true,
 jY 88 35 86 87 85 true,
 iP 89 85 88,iM 90 89,jM 91 8 90 true,
 jM 92 11 90 true,
 jT 93 .eql 91 92 90 true,
 iP 94 90 93,iM 95 94,jW 96 23 95 true,
 iP 97 95 96,iM 6 97])
 .ret)))))))
def p15:PFunc:=⟨98,[(6,none)],none,b15⟩
def b16:PCode :=
 (.seq (.reg [
 iV 4 26 0,iB 8 false])
 (.seq (.seq (.reg [
 iN 19 3 4,iM 20 1,iY 21 29 19 20,iR 22 21,iM 23 22,jN 24 3 4 23 false,
 jM 25 2 23 false,
 jY 26 60 24 25 23 false,
 jR 27 26 23 false,
 iQ 28 23 27,iM 29 28,jN 30 3 4 29 false,
 jM 31 3 29 false,
 jY 32 29 30 31 29 false,
 jR 33 32 29 false,
 iQ 34 29 33])
 (.cond (.tmp 34)
 (.seq (.reg [
 iW 35 23,iM 8 35])
 .ret)
 .skip))
 (.seq (.reg [
 iN 37 3 4,iM 38 1,iM 39 2,iZ 40 59 37 38 39,iM 36 40,iE 41 0 36,iE 42 1 36,iE 43 2 36,iM 9 41,iM 10 42,iM 11 43])
 (.seq (.reg [
 iN 45 3 4,iM 46 1,iY 47 44 45 46,iM 44 47,iE 48 0 44,iE 49 1 44,iM 12 48,iM 13 49])
 (.seq (.reg [
 iN 51 3 4,iM 52 3,iY 53 44 51 52,iM 50 53,iE 54 0 50,iE 55 1 50,iM 14 54,iM 15 55])
 (.seq (.reg [
 iM 56 14,iM 57 56,jM 58 3 57 true,
 jM 59 1 57 true,
 jM 60 2 57 true,
 jZ 61 62 58 59 60 57 true,
 iP 62 57 61,iM 14 62])
 (.seq (.seq (.reg [
 iM 63 13,iR 64 63,iM 65 64,jM 66 15 65 false,
 jR 67 66 65 false,
 iQ 68 65 67,iM 69 68,jM 70 11 69 false,
 jO 71 .neq 70 0 69 false,
 jM 72 71 69 false,
 jM 73 11 72 true,
 jO 74 .neq 73 5 72 true,
 jP 75 72 74 69 false,
 iQ 76 69 75,iM 77 76,jM 78 11 77 false,
 jO 79 .neq 78 0 77 false,
 jM 80 79 77 false,
 jM 81 14 80 true,
 jM 82 81 80 true,
 jM 83 12 82 false,
 jQ 84 82 83 80 true,
 jP 85 80 84 77 false,
 iQ 86 77 85])
 (.cond (.tmp 86)
 (.seq (.reg [
 iB 8 false])
 .ret)
 .skip))
 (.seq (.seq (.reg [
 iM 87 11,iO 88 .neq 87 0])
 (.cond (.tmp 88)
 (.seq (.reg [
 iW 89 23,iM 8 89])
 .ret)
 .skip))
 (.seq (.seq (.reg [
 iN 90 3 4,iM 91 9,iY 92 26 90 91,iR 93 92,iM 94 93,jM 95 9 94 false,
 jM 96 1 94 false,
 jM 97 2 94 false,
 jZ 98 62 95 96 97 94 false,
 jR 99 98 94 false,
 iQ 100 94 99,iM 101 100,jM 102 9 101 false,
 jM 103 1 101 false,
 jY 104 63 102 103 101 false,
 jM 105 10 101 false,
 jT 106 .neq 104 105 101 false,
 iQ 107 101 106,iM 108 107,jM 109 12 108 false,
 jM 110 109 108 false,
 jM 111 10 110 true,
 jO 112 .neq 111 0 110 true,
 jP 113 110 112 108 false,
 iQ 114 108 113])
 (.cond (.tmp 114)
 (.seq (.reg [
 iB 8 false])
 .ret)
 .skip))
 (.seq (.reg [
 iN 116 3 4,iM 117 9,iY 118 44 116 117,iM 115 118,iE 119 0 115,iE 120 1 115,iM 16 119,iM 17 120])
 (.seq (.reg [
 iM 121 3,iM 122 1,iY 123 63 121 122,iM 18 123])
 (.seq (.reg [
 iM 124 17,iM 125 124,jM 126 16 125 true,
 iP 127 125 126,iM 128 127,jM 129 14 128 true,
 jR 130 129 128 true,
 jM 131 130 128 true,
 jM 132 18 131 false,
 jM 133 10 131 false,
 jT 134 .gtr 132 133 131 false,
 jQ 135 131 134 128 true,
 jM 136 135 128 true,
 jM 137 18 136 false,
 jM 138 10 136 false,
 jT 139 .eql 137 138 136 false,
 jM 140 139 136 false,
 jM 141 3 140 true,
 jM 142 9 140 true,
 jY 143 40 141 142 140 true,
 jR 144 143 140 true,
 jP 145 140 144 136 false,
 jQ 146 136 145 128 true,
 iP 147 128 146,iM 148 147,jW 149 23 148 true,
 iP 150 148 149,iM 8 150])
 .ret))))))))))))
def p16:PFunc:=⟨151,[(8,none)],none,b16⟩
def b17:PCode :=
 (.seq (.reg [
 iV 7 26 0,iV 10 75 3,iB 14 false])
 (.seq (.seq (.dreg [
 iN 28 3 7,iM 29 1,iY 30 29 28 29,iR 31 30,iM 32 31,jN 33 3 7 32 false,
 jM 34 2 32 false,
 jY 35 60 33 34 32 false,
 jR 36 35 32 false,
 iQ 37 32 36,iM 38 37,jF 39 0 10 38 false,
 jL 40 39 38 false,
 jF 41 0 7 38 false,
 jL 42 41 38 false,
 jM 43 2 38 false,
 jA 44 2 42 43 38 false,
 jF 45 0 44 38 false,
 jL 46 45 38 false,
 jT 47 .lss 40 46 38 false,
 iQ 48 38 47,iM 49 48,jF 50 1 10 49 false,
 jL 51 50 49 false,
 jF 52 0 7 49 false,
 jL 53 52 49 false,
 jM 54 2 49 false,
 jA 55 2 53 54 49 false,
 jF 56 1 55 49 false,
 jL 57 56 49 false,
 jT 58 .gtr 51 57 49 false,
 iQ 59 49 58,iM 60 59,jF 61 0 10 60 false,
 jL 62 61 60 false,
 jF 63 1 10 60 false,
 jL 64 63 60 false,
 jT 65 .gtr 62 64 60 false,
 iQ 66 60 65,iM 67 66,jN 68 3 7 67 false,
 jM 69 4 67 false,
 jY 70 60 68 69 67 false,
 jR 71 70 67 false,
 iQ 72 67 71,iM 73 72,jN 74 3 7 73 false,
 jM 75 5 73 false,
 jY 76 36 74 75 73 false,
 jR 77 76 73 false,
 iQ 78 73 77,iM 79 78,jM 80 6 79 false,
 jO 81 .lss 80 0 79 false,
 iQ 82 79 81,iM 83 82,jM 84 6 83 false,
 jO 85 .gtr 84 288 83 false,
 iQ 86 83 85] [⟨9,true,false⟩,fF,fD,fC,fC,⟨9,true,false⟩,fF,fD,fC,fC,fC,fA,⟨12,false,false⟩,fF,⟨9,true,false⟩,fF,fF,fF,fE,fC,fC,fC,fA,⟨12,false,false⟩,fF,⟨9,true,false⟩,fF,fF,fF,fE,fC,fC,fC,fF,⟨12,true,false⟩,fF,⟨12,true,false⟩,fC,fC,fC,⟨9,true,false⟩,fF,fD,fC,fC,fC,⟨9,true,false⟩,fF,fD,fC,fC,fC,fC,fC,fC,fC,fC,fC,fC])
 (.cond (.tmp 86)
 (.seq (.reg [
 iW 87 23,iM 14 87])
 .ret)
 .skip))
 (.seq (.reg [
 iN 88 3 7,⟨some 15,.lalloc 26 (.agg #[(.slice none 0 0),(.slice none 0 0),(.slice none 0 0)]),none⟩,iS 3 15 88])
 (.seq (.reg [
 iF 89 0 7,iL 90 89,⟨some 91,.app 75 2 (.const (.slice none 0 0)) (.tmp 90),none⟩,iF 92 0 15,iS 1 92 91])
 (.seq (.reg [
 iF 93 0 15,iL 94 93,iM 95 2,iN 96 2 10,iA 97 2 94 95,iS 2 97 96])
 (.seq (.reg [
 iF 98 1 7,iL 99 98,iM 100 4,iY 101 64 99 100,iF 102 1 15,iS 1 102 101])
 (.seq (.reg [
 iF 103 2 7,iL 104 103,⟨some 105,.app 51 2 (.const (.slice none 0 0)) (.tmp 104),none⟩,iF 106 2 15,iS 1 106 105])
 (.seq (.dreg [
 iF 107 2 15,iL 108 107,iM 109 5,iF 110 2 7,iL 111 110,iM 112 5,iA 113 2 111 112,iF 114 0 113,iL 115 114,iM 116 6,iT 117 .sub 115 116,⟨some 118,.v .mx [.const (.int .i64 1),.tmp 117],none⟩,iF 119 2 7,iL 120 119,iM 121 5,iA 122 2 120 121,iF 123 1 122,iL 124 123,iM 125 6,iT 126 .add 124 125,⟨some 127,.v .mn [.const (.int .i64 400),.tmp 126],none⟩,⟨some 128,.v (.bld [(.int .i64 0),(.int .i64 0)] [(0,1),(1,1)]) [.tmp 118,.tmp 127],none⟩,iA 129 2 108 109,iS 2 129 128] [fA,⟨17,false,false⟩,fA,fA,⟨9,false,false⟩,fA,fA,fA,fB,fA,fA,fA,fA,⟨9,false,false⟩,fA,fA,fA,fB,fA,fA,fA,fF,fC,fD])
 (.seq (.reg [
 iN 131 3 7,iM 132 1,iY 133 44 131 132,iM 130 133,iE 134 0 130,iE 135 1 130,iM 16 134,iM 17 135])
 (.seq (.reg [
 iN 137 3 15,iM 138 1,iY 139 44 137 138,iM 136 139,iE 140 0 136,iE 141 1 136,iM 18 140,iM 19 141])
 (.seq (.reg [
 iN 143 3 7,iX 144 42 143,iM 142 144,iE 145 0 142,iE 146 1 142,iM 20 145,iM 21 146])
 (.seq (.reg [
 iN 148 3 15,iX 149 42 148,iM 147 149,iE 150 0 147,iE 151 1 147,iM 22 150,iM 23 151])
 (.seq (.reg [
 iN 153 3 7,iX 154 47 153,iM 152 154,iE 155 0 152,iE 156 1 152,iM 24 155,iM 25 156])
 (.seq (.reg [
 iN 158 3 15,iX 159 47 158,iM 157 159,iE 160 0 157,iE 161 1 157,iM 26 160,iM 27 161])
 (.seq (.seq (.reg [
 iM 162 17,iR 163 162,iM 164 163,jM 165 19 164 false,
 jR 166 165 164 false,
 iQ 167 164 166,iM 168 167,jM 169 16 168 false,
 jM 170 169 168 false,
 jM 171 18 170 true,
 jR 172 171 170 true,
 jP 173 170 172 168 false,
 iQ 174 168 173,iM 175 174,jM 176 21 175 false,
 jO 177 .neq 176 0 175 false,
 iQ 178 175 177,iM 179 178,jM 180 23 179 false,
 jO 181 .neq 180 0 179 false,
 iQ 182 179 181,iM 183 182,jM 184 22 183 false,
 jM 185 20 183 false,
 jT 186 .lss 184 185 183 false,
 iQ 187 183 186,iM 188 187,jM 189 25 188 false,
 jO 190 .neq 189 0 188 false,
 jM 191 190 188 false,
 jM 192 25 191 true,
 jO 193 .neq 192 5 191 true,
 jP 194 191 193 188 false,
 iQ 195 188 194,iM 196 195,jM 197 27 196 false,
 jO 198 .neq 197 0 196 false,
 jM 199 198 196 false,
 jM 200 27 199 true,
 jO 201 .neq 200 5 199 true,
 jP 202 199 201 196 false,
 iQ 203 196 202])
 (.cond (.tmp 203)
 (.seq (.reg [
 iB 14 false])
 .ret)
 .skip))
 (.seq (.reg [
 iM 204 25,iO 205 .neq 204 0,iM 206 205,jM 207 27 206 false,
 jO 208 .eql 207 0 206 false,
 jM 209 208 206 false,
 jM 210 26 209 true,
 jM 211 24 209 true,
 jT 212 .leq 210 211 209 true,
 jP 213 209 212 206 false,
 iQ 214 206 213,iM 215 214,jW 216 23 215 true,
 iP 217 215 216,iM 14 217])
 .ret))))))))))))))))
def p17:PFunc:=⟨218,[(14,none)],none,b17⟩
def b18:PCode :=
 (.seq (.reg [
 iV 2 26 0,iB 4 false])
 (.seq (.seq (.reg [
 iN 8 3 2,iX 9 22 8,iR 10 9,iM 11 10,jM 12 1 11 false,
 jK 13 12 11 false,
 jO 14 .gtr 13 7 11 false,
 iQ 15 11 14])
 (.cond (.tmp 15)
 (.seq (.reg [
 iW 16 23,iM 4 16])
 .ret)
 .skip))
 (.seq (.reg [
 iN 17 3 2,iX 18 65 17,iM 5 18])
 (.seq (.reg [
 iN 20 3 2,iM 21 1,iY 22 30 20 21,iM 19 22,iE 23 0 19,iE 24 1 19,iM 6 23,iM 7 24])
 (.seq (.seq (.reg [
 iN 25 3 2,iX 26 25 25,iR 27 26])
 (.cond (.tmp 27)
 (.seq (.reg [
 iM 28 5,iO 29 .eql 28 2,iM 30 29,jM 31 7 30 true,
 jO 32 .eql 31 2 30 true,
 iP 33 30 32,iM 34 33,jM 35 6 34 true,
 jO 36 .eql 35 0 34 true,
 iP 37 34 36,iM 38 37,jW 39 23 38 true,
 iP 40 38 39,iM 4 40])
 .ret)
 .skip))
 (.seq (.seq (.reg [
 iM 41 5,iO 42 .neq 41 0])
 (.cond (.tmp 42)
 (.seq (.reg [
 iB 4 false])
 .ret)
 .skip))
 (.seq (.seq (.reg [
 iN 43 3 2,iM 44 1,iY 45 26 43 44,iR 46 45])
 (.cond (.tmp 46)
 (.seq (.reg [
 iM 47 7,iO 48 .eql 47 2,iM 49 48,jM 50 6 49 true,
 jO 51 .eql 50 0 49 true,
 iP 52 49 51,iM 53 52,jW 54 23 53 true,
 iP 55 53 54,iM 4 55])
 .ret)
 .skip))
 (.seq (.reg [
 iM 56 7,iO 57 .eql 56 0,iM 58 57,jM 59 6 58 true,
 jN 60 3 2 58 true,
 jM 61 1 58 true,
 jY 62 66 60 61 58 true,
 jT 63 .eql 59 62 58 true,
 iP 64 58 63,iM 65 64,jW 66 23 65 true,
 iP 67 65 66,iM 4 67])
 .ret))))))))
def p18:PFunc:=⟨68,[(4,none)],none,b18⟩
def b22:PCode :=
 (.seq (.reg [
 iV 1 26 0,iB 2 false])
 (.seq (.reg [
 iF 3 0 1,iL 4 3,iK 5 4,iO 6 .leq 5 14,iM 7 6,jF 8 1 1 7 true,
 jL 9 8 7 true,
 jK 10 9 7 true,
 jO 11 .leq 10 16 7 true,
 iP 12 7 11,iM 13 12,jF 14 2 1 13 true,
 jL 15 14 13 true,
 jK 16 15 13 true,
 jO 17 .leq 16 7 13 true,
 iP 18 13 17,iM 2 18])
 .ret))
def p22:PFunc:=⟨19,[(2,none)],none,b22⟩
def b23:PCode :=
 (.seq (.reg [
 iB 0 false])
 (.seq (.reg [
 iW 30 72,⟨some 31,.bs 3 1 [(.int .i64 0)] 3 [(0,.const (.int .i64 0)),(1,.const (.int .i64 3)),(2,.const (.int .i64 6))],none⟩,⟨some 32,.bs 3 1 [(.int .i64 0)] 8 [(0,.const (.int .i64 6)),(1,.const (.int .i64 5)),(2,.const (.int .i64 10)),(3,.const (.int .i64 2)),(4,.const (.int .i64 6)),(5,.const (.int .i64 5)),(6,.const (.int .i64 8)),(7,.const (.int .i64 4))],none⟩,iZ 33 24 30 31 32,iM 29 33,iE 34 0 29,iE 35 1 29,iM 1 34,iM 2 35])
 (.seq (.reg [
 iW 37 72,⟨some 38,.bs 3 1 [(.int .i64 0)] 3 [(0,.const (.int .i64 3)),(1,.const (.int .i64 5)),(2,.const (.int .i64 6))],none⟩,iY 39 30 37 38,iM 36 39,iE 40 0 36,iE 41 1 36,iM 3 40,iM 4 41])
 (.seq (.reg [
 iW 43 72,⟨some 44,.bs 3 1 [(.int .i64 0)] 3 [(0,.const (.int .i64 0)),(1,.const (.int .i64 3)),(2,.const (.int .i64 6))],none⟩,iY 45 32 43 44,iM 42 45,iE 46 0 42,iE 47 1 42,iE 48 2 42,iM 5 46,iM 6 47,iM 7 48])
 (.seq (.reg [
 iW 50 72,⟨some 51,.bs 3 1 [(.int .i64 0)] 3 [(0,.const (.int .i64 0)),(1,.const (.int .i64 3)),(2,.const (.int .i64 6))],none⟩,iY 52 31 50 51,iM 49 52,iE 53 0 49,iE 54 1 49,iM 8 53,iM 9 54])
 (.seq (.reg [
 iW 56 72,iX 57 41 56,iM 55 57,iE 58 0 55,iE 59 1 55,iM 10 58,iM 11 59])
 (.seq (.reg [
 iW 61 73,iX 62 42 61,iM 60 62,iE 63 0 60,iE 64 1 60,iM 12 63,iM 13 64])
 (.seq (.reg [
 iW 66 73,⟨some 67,.call (.func 45) [.tmp 66,.const (.int .i64 1)],none⟩,iM 65 67,iE 68 0 65,iE 69 1 65,iM 14 68,iM 15 69])
 (.seq (.reg [
 iW 71 73,iX 72 46 71,iM 70 72,iE 73 0 70,iE 74 1 70,iM 16 73,iM 17 74])
 (.seq (.reg [
 iW 76 73,iX 77 47 76,iM 75 77,iE 78 0 75,iE 79 1 75,iM 18 78,iM 19 79])
 (.seq (.reg [
 iW 81 74,iX 82 52 81,iM 80 82,iE 83 0 80,iE 84 1 80,iM 20 83,iM 21 84])
 (.seq (.reg [
 iW 86 74,iX 87 56 86,iM 85 87,iE 88 0 85,iE 89 1 85,iM 22 88,iM 23 89])
 (.seq (.reg [
 iW 91 73,⟨some 92,.bs 3 1 [(.int .i64 0)] 3 [(0,.const (.int .i64 0)),(1,.const (.int .i64 3)),(2,.const (.int .i64 6))],none⟩,⟨some 93,.call (.func 59) [.tmp 91,.tmp 92,.const (.int .i64 1)],none⟩,iM 90 93,iE 94 0 90,iE 95 1 90,iE 96 2 90,iM 24 94,iM 25 95,iM 26 96])
 (.seq (.reg [
 ⟨some 98,.call (.func 68) [.const (.string ⟨#[100,97,121,32,49,32,50,32,121,101,115,10,99,111,97,116,32,49,32,51,10,101,110,100,32,49,48,52,10]⟩)],none⟩,iM 97 98,iE 99 0 97,iE 100 1 97,⟨some 27,.lalloc 26 (.agg #[(.slice none 0 0),(.slice none 0 0),(.slice none 0 0)]),none⟩,iS 3 27 99,iM 28 100])
 (.seq (.seq (.reg [
 iM 101 2,iO 102 .neq 101 0,iM 103 102,jM 104 4 103 false,
 jO 105 .neq 104 0 103 false,
 iQ 106 103 105,iM 107 106,jM 108 7 107 false,
 jO 109 .neq 108 0 107 false,
 iQ 110 107 109,iM 111 110,jM 112 9 111 false,
 jO 113 .neq 112 0 111 false,
 iQ 114 111 113,iM 115 114,jM 116 11 115 false,
 jO 117 .neq 116 0 115 false,
 iQ 118 115 117,iM 119 118,jM 120 13 119 false,
 jO 121 .neq 120 0 119 false,
 iQ 122 119 121,iM 123 122,jM 124 15 123 false,
 jO 125 .neq 124 0 123 false,
 iQ 126 123 125,iM 127 126,jM 128 17 127 false,
 jO 129 .neq 128 0 127 false,
 iQ 130 127 129,iM 131 130,jM 132 19 131 false,
 jO 133 .neq 132 0 131 false,
 iQ 134 131 133,iM 135 134,jM 136 21 135 false,
 jO 137 .neq 136 0 135 false,
 iQ 138 135 137,iM 139 138,jM 140 23 139 false,
 jO 141 .neq 140 0 139 false,
 iQ 142 139 141,iM 143 142,jM 144 26 143 false,
 jO 145 .neq 144 0 143 false,
 iQ 146 143 145,iM 147 146,jM 148 28 147 false,
 jO 149 .neq 148 0 147 false,
 iQ 150 147 149])
 (.cond (.tmp 150)
 (.seq (.reg [
 iB 0 false])
 .ret)
 .skip))
 (.seq (.seq (.reg [
 iM 151 1,iM 152 151,jM 153 3 152 false,
 jO 154 .neq 153 1 152 false,
 iQ 155 152 154,iM 156 155,jM 157 5 156 false,
 jO 158 .neq 157 0 156 false,
 iQ 159 156 158,iM 160 159,jM 161 6 160 false,
 jO 162 .neq 161 2 160 false,
 iQ 163 160 162,iM 164 163,jM 165 8 164 false,
 ⟨some 166,.bs 3 1 [(.int .i64 0)] 8 [(0,.const (.int .i64 6)),(1,.const (.int .i64 5)),(2,.const (.int .i64 10)),(3,.const (.int .i64 2)),(4,.const (.int .i64 6)),(5,.const (.int .i64 5)),(6,.const (.int .i64 8)),(7,.const (.int .i64 4))],some (164,false)⟩,
 jY 167 35 165 166 164 false,
 jR 168 167 164 false,
 iQ 169 164 168,iM 170 169,jM 171 10 170 false,
 ⟨some 172,.bs 3 1 [(.int .i64 0)] 3 [(0,.const (.int .i64 0)),(1,.const (.int .i64 2)),(2,.const (.int .i64 5))],some (170,false)⟩,
 jY 173 35 171 172 170 false,
 jR 174 173 170 false,
 iQ 175 170 174,iM 176 175,jM 177 12 176 false,
 jO 178 .neq 177 5 176 false,
 iQ 179 176 178,iM 180 179,jM 181 14 180 false,
 ⟨some 182,.bs 3 1 [(.int .i64 0)] 3 [(0,.const (.int .i64 2)),(1,.const (.int .i64 3)),(2,.const (.int .i64 4))],some (180,false)⟩,
 jY 183 35 181 182 180 false,
 jR 184 183 180 false,
 iQ 185 180 184])
 (.cond (.tmp 185)
 (.seq (.reg [
 iB 0 false])
 .ret)
 .skip))
 (.seq (.reg [
 iM 186 16,iO 187 .eql 186 2,iM 188 187,jM 189 18 188 true,
 jO 190 .eql 189 4 188 true,
 iP 191 188 190,iM 192 191,jM 193 20 192 true,
 jO 194 .eql 193 2 192 true,
 iP 195 192 194,iM 196 195,jM 197 22 196 true,
 jO 198 .eql 197 2 196 true,
 iP 199 196 198,iM 200 199,jM 201 24 200 true,
 ⟨some 202,.bs 3 1 [(.int .i64 0)] 3 [(0,.const (.int .i64 0)),(1,.const (.int .i64 2)),(2,.const (.int .i64 4))],some (200,true)⟩,
 jY 203 35 201 202 200 true,
 iP 204 200 203,iM 205 204,jM 206 25 205 true,
 jO 207 .eql 206 2 205 true,
 iP 208 205 207,iM 209 208,jN 210 3 27 209 true,
 jX 211 69 210 209 true,
 ⟨some 212,.v (.sb .eql) [.tmp 211,.const (.string ⟨#[100,97,121,32,49,32,50,32,121,101,115,10,99,111,97,116,32,49,32,51,10,101,110,100,32,49,48,52,10]⟩)],some (209,true)⟩,
 iP 213 209 212,iM 0 213])
 .ret)))))))))))))))))
def p23:PFunc:=⟨214,[(0,none)],none,b23⟩
def q24x0:PCode :=
 (.seq (.reg [
 iT 34 .lss 33 32])
 (.seq (.cond (.tmp 34)
 .skip
 (.exit 0))
 (.seq (.blk 1
 (.seq (.reg [
 iM 35 33,iA 36 1 31 33,iL 37 36,iM 9 35,iM 10 37])
 (.seq (.reg [
 iN 39 5 8,iM 40 1,iM 41 9,iZ 42 79 39 40 41,iM 38 42,iE 43 0 38,iE 44 1 38,iM 11 43,iM 12 44])
 (.seq (.reg [
 iM 45 2,iM 46 10,iM 47 11,⟨some 48,.v (.sl 1 true true) [.tmp 45,.tmp 46,.tmp 47],none⟩,iX 49 80 48,iM 13 49])
 (.seq (.reg [
 iM 50 13,iF 51 2 3,iL 52 51,iM 53 9,iA 54 2 52 53,iF 55 0 54,iL 56 55,iT 57 .lss 50 56,iM 58 57,jM 59 12 58 false,
 jM 60 59 58 false,
 jM 61 13 60 true,
 jF 62 2 3 60 true,
 jL 63 62 60 true,
 jM 64 9 60 true,
 jA 65 2 63 64 60 true,
 jF 66 1 65 60 true,
 jL 67 66 60 true,
 jT 68 .gtr 61 67 60 true,
 jP 69 60 68 58 false,
 iQ 70 58 69])
 (.cond (.tmp 70)
 (.seq (.reg [
 iB 6 false,iI 7 0])
 .ret)
 .skip))))))
 (.reg [
 iO 71 .add 33 1,iM 33 71]))))
def b24:PCode :=
 (.seq (.reg [
 iV 3 26 0,iB 6 false,iI 7 0])
 (.seq (.seq (.reg [
 iN 14 3 3,iX 15 75 14,iR 16 15,iM 17 16,jN 18 3 3 17 false,
 jM 19 1 17 false,
 jY 20 76 18 19 17 false,
 jR 21 20 17 false,
 iQ 22 17 21,iM 23 22,jN 24 3 3 23 false,
 jM 25 2 23 false,
 jY 26 77 24 25 23 false,
 jR 27 26 23 false,
 iQ 28 23 27])
 (.cond (.tmp 28)
 (.seq (.reg [
 iB 6 false,iI 7 2])
 .ret)
 .skip))
 (.seq (.reg [
 iN 29 3 3,iX 30 78 29,⟨some 8,.lalloc 93 (.agg #[(.slice none 0 0),(.slice none 0 0),(.slice none 0 0),(.slice none 0 0),(.slice none 0 0)]),none⟩,iS 5 8 30])
 (.seq (.seq (.reg [
 iM 31 1,iK 32 31,iI 33 0])
 (.blk 0
 (.loop q24x0)))
 (.seq (.reg [
 iB 6 true,iI 7 0])
 .ret)))))
def p24:PFunc:=⟨72,[(6,none),(7,none)],none,b24⟩
def q25x0:PCode :=
 (.seq (.seq (.reg [
 iM 55 4,iF 56 2 1,iL 57 56,iK 58 57,iT 59 .lss 55 58])
 (.cond (.tmp 59)
 .skip
 (.exit 2)))
 (.seq (.blk 3
 (.seq (.dreg [
 iF 62 2 1,iL 63 62,iM 64 4,iA 65 2 63 64,iF 66 0 65,iL 67 66,⟨some 68,.call (.func 81) [.tmp 67,.const (.int .i64 1),.const (.int .i64 288)],none⟩,iR 69 68,iM 70 69,jF 71 2 1 70 false,
 jL 72 71 70 false,
 jM 73 4 70 false,
 jA 74 2 72 73 70 false,
 jF 75 1 74 70 false,
 jL 76 75 70 false,
 jF 77 2 1 70 false,
 jL 78 77 70 false,
 jM 79 4 70 false,
 jA 80 2 78 79 70 false,
 jF 81 0 80 70 false,
 jL 82 81 70 false,
 ⟨some 83,.call (.func 81) [.tmp 76,.tmp 82,.const (.int .i64 400)],some (70,false)⟩,
 jR 84 83 70 false,
 iQ 85 70 84] [fF,⟨3,true,false⟩,fF,fC,fC,fD,fD,fC,fC,fA,⟨3,false,false⟩,fA,fA,fA,fB,fA,⟨3,false,false⟩,fA,fA,fA,fB,fD,fC,fC])
 (.cond (.tmp 85)
 (.seq (.reg [
 iB 2 false])
 .ret)
 .skip)))
 (.reg [
 iM 60 4,iO 61 .add 60 1,iM 4 61])))
def q25x1:PCode :=
 (.seq (.seq (.reg [
 iM 24 3,iF 25 0 1,iL 26 25,iK 27 26,iT 28 .lss 24 27])
 (.cond (.tmp 28)
 .skip
 (.exit 0)))
 (.seq (.blk 1
 (.seq (.dreg [
 iF 31 0 1,iL 32 31,iM 33 3,iA 34 2 32 33,iF 35 0 34,iL 36 35,⟨some 37,.call (.func 81) [.tmp 36,.const (.int .i64 0),.const (.int .i64 24)],none⟩,iR 38 37,iM 39 38,jF 40 0 1 39 false,
 jL 41 40 39 false,
 jM 42 3 39 false,
 jA 43 2 41 42 39 false,
 jF 44 1 43 39 false,
 jL 45 44 39 false,
 jF 46 0 1 39 false,
 jL 47 46 39 false,
 jM 48 3 39 false,
 jA 49 2 47 48 39 false,
 jF 50 0 49 39 false,
 jL 51 50 39 false,
 ⟨some 52,.call (.func 81) [.tmp 45,.tmp 51,.const (.int .i64 24)],some (39,false)⟩,
 jR 53 52 39 false,
 iQ 54 39 53] [fF,⟨3,true,false⟩,fF,fC,fC,fD,fD,fC,fC,fA,⟨3,false,false⟩,fA,fA,fA,fB,fA,⟨3,false,false⟩,fA,fA,fA,fB,fD,fC,fC])
 (.cond (.tmp 54)
 (.seq (.reg [
 iB 2 false])
 .ret)
 .skip)))
 (.reg [
 iM 29 3,iO 30 .add 29 1,iM 3 30])))
def b25:PCode :=
 (.seq (.reg [
 iV 1 26 0,iB 2 false])
 (.seq (.seq (.reg [
 iF 5 0 1,iL 6 5,iK 7 6,⟨some 8,.call (.func 81) [.tmp 7,.const (.int .i64 1),.const (.int .i64 12)],none⟩,iR 9 8,iM 10 9,jF 11 2 1 10 false,
 jL 12 11 10 false,
 jK 13 12 10 false,
 ⟨some 14,.call (.func 81) [.tmp 13,.const (.int .i64 1),.const (.int .i64 5)],some (10,false)⟩,
 jR 15 14 10 false,
 iQ 16 10 15,iM 17 16,jN 18 3 1 17 false,
 jF 19 1 1 17 false,
 jL 20 19 17 false,
 jY 21 82 18 20 17 false,
 jR 22 21 17 false,
 iQ 23 17 22])
 (.cond (.tmp 23)
 (.seq (.reg [
 iB 2 false])
 .ret)
 .skip))
 (.seq (.seq (.reg [
 iI 3 0])
 (.blk 0
 (.loop q25x1)))
 (.seq (.seq (.reg [
 iI 4 0])
 (.blk 2
 (.loop q25x0)))
 (.seq (.reg [
 iB 2 true])
 .ret)))))
def p25:PFunc:=⟨86,[(2,none)],none,b25⟩
def q26x0:PCode :=
 (.seq (.seq (.reg [
 iM 6 5,iM 7 1,iK 8 7,iT 9 .lss 6 8])
 (.cond (.tmp 9)
 .skip
 (.exit 0)))
 (.seq (.blk 1
 (.seq (.dreg [
 iF 12 1 2,iL 13 12,iM 14 1,iM 15 5,iA 16 1 14 15,iL 17 16,iY 18 51 13 17,iR 19 18] [fA,⟨4,false,false⟩,fF,fF,fF,fE,fD,fC])
 (.cond (.tmp 19)
 (.seq (.reg [
 iB 4 false])
 .ret)
 .skip)))
 (.reg [
 iM 10 5,iO 11 .add 10 1,iM 5 11])))
def b26:PCode :=
 (.seq (.reg [
 iV 2 26 0,iB 4 false])
 (.seq (.seq (.reg [
 iI 5 0])
 (.blk 0
 (.loop q26x0)))
 (.seq (.reg [
 iM 20 1,iK 21 20,iF 22 2 2,iL 23 22,iK 24 23,iT 25 .eql 21 24,iM 26 25,jN 27 3 2 26 true,
 jM 28 1 26 true,
 jY 29 82 27 28 26 true,
 iP 30 26 29,iM 4 30])
 .ret)))
def p26:PFunc:=⟨31,[(4,none)],none,b26⟩
def q27x0:PCode :=
 (.seq (.seq (.reg [
 iM 12 5,iM 13 1,iK 14 13,iT 15 .lss 12 14])
 (.cond (.tmp 15)
 .skip
 (.exit 0)))
 (.seq (.blk 1
 (.seq (.dreg [
 iM 18 1,iM 19 5,iA 20 1 18 19,iL 21 20,iF 22 0 2,iL 23 22,iM 24 5,iA 25 2 23 24,iF 26 0 25,iL 27 26,iF 28 0 2,iL 29 28,iM 30 5,iA 31 2 29 30,iF 32 1 31,iL 33 32,iZ 34 81 21 27 33,iR 35 34] [fA,fA,fA,fB,fA,⟨4,false,false⟩,fA,fA,fA,fB,fA,⟨4,false,false⟩,fA,fA,fA,fB,fD,fC])
 (.cond (.tmp 35)
 (.seq (.reg [
 iB 4 false])
 .ret)
 .skip)))
 (.reg [
 iM 16 5,iO 17 .add 16 1,iM 5 17])))
def b27:PCode :=
 (.seq (.reg [
 iV 2 26 0,iB 4 false])
 (.seq (.seq (.reg [
 iM 6 1,iK 7 6,iF 8 0 2,iL 9 8,iK 10 9,iT 11 .neq 7 10])
 (.cond (.tmp 11)
 (.seq (.reg [
 iB 4 false])
 .ret)
 .skip))
 (.seq (.seq (.reg [
 iI 5 0])
 (.blk 0
 (.loop q27x0)))
 (.seq (.reg [
 iB 4 true])
 .ret))))
def p27:PFunc:=⟨36,[(4,none)],none,b27⟩
def q28x0:PCode :=
 (.seq (.seq (.reg [
 iM 8 7,iM 9 1,iK 10 9,iT 11 .lss 8 10])
 (.cond (.tmp 11)
 .skip
 (.exit 0)))
 (.seq (.blk 1
 (.seq (.reg [
 iN 14 3 3,iM 15 1,iM 16 7,iM 17 2,⟨some 18,.call (.func 83) [.tmp 14,.tmp 15,.tmp 16,.tmp 17],none⟩,iM 19 18,jN 20 3 3 19 false,
 jM 21 1 19 false,
 jM 22 7 19 false,
 jM 23 2 19 false,
 ⟨some 24,.call (.func 84) [.tmp 20,.tmp 21,.tmp 22,.tmp 23],some (19,false)⟩,
 iQ 25 19 24])
 (.cond (.tmp 25)
 (.seq (.reg [
 iB 6 false])
 .ret)
 .skip)))
 (.reg [
 iM 12 7,iO 13 .add 12 1,iM 7 13])))
def b28:PCode :=
 (.seq (.reg [
 iV 3 26 0,iB 6 false])
 (.seq (.seq (.reg [
 iI 7 0])
 (.blk 0
 (.loop q28x0)))
 (.seq (.reg [
 iB 6 true])
 .ret)))
def p28:PFunc:=⟨26,[(6,none)],none,b28⟩
def b29:PCode :=
 (.seq (.reg [
 iV 2 26 0,iB 4 false])
 (.seq (.reg [
 iN 5 3 2,iX 6 22 5,iM 7 6,jM 8 1 7 true,
 jK 9 8 7 true,
 jO 10 .leq 9 7 7 true,
 iP 11 7 10,iM 12 11,jN 13 3 2 12 true,
 jX 14 25 13 12 true,
 iP 15 12 14,iM 16 15,jN 17 3 2 16 true,
 jM 18 1 16 true,
 jY 19 26 17 18 16 true,
 iP 20 16 19,iM 4 20])
 .ret))
def p29:PFunc:=⟨21,[(4,none)],none,b29⟩
def q30x0:PCode :=
 (.seq (.reg [
 iT 36 .lss 35 34])
 (.seq (.cond (.tmp 36)
 .skip
 (.exit 0))
 (.seq (.blk 1
 (.seq (.reg [
 iM 37 35,iA 38 1 33 35,iL 39 38,iM 9 37,iM 10 39])
 (.seq (.reg [
 iN 41 5 6,iM 42 1,iM 43 9,iZ 44 79 41 42 43,iM 40 44,iE 45 0 40,iE 46 1 40,iM 11 45,iM 12 46])
 (.seq (.reg [
 iN 47 5 6,iM 48 10,iM 49 11,iZ 50 86 47 48 49,⟨some 13,.lalloc 75 (.agg #[(.int .i64 0),(.int .i64 0)]),none⟩,iS 2 13 50])
 (.seq (.dreg [
 iF 51 1 13,iL 52 51,iF 53 2 2,iL 54 53,iM 55 9,iA 56 2 54 55,iF 57 0 56,iL 58 57,iT 59 .lss 52 58,iM 60 59,jM 61 12 60 false,
 jM 62 61 60 false,
 jF 63 0 13 62 true,
 jL 64 63 62 true,
 jF 65 2 2 62 true,
 jL 66 65 62 true,
 jM 67 9 62 true,
 jA 68 2 66 67 62 true,
 jF 69 1 68 62 true,
 jL 70 69 62 true,
 jT 71 .gtr 64 70 62 true,
 jP 72 62 71 60 false,
 iQ 73 60 72] [fA,⟨15,false,false⟩,fF,⟨4,true,false⟩,fF,fF,fF,fE,fC,fC,fC,fC,fA,⟨15,false,false⟩,fF,⟨4,true,false⟩,fF,fF,fF,fE,fC,fC,fC])
 (.cond (.tmp 73)
 (.seq (.reg [
 iI 4 1,iI 5 0])
 .ret)
 .skip))))))
 (.reg [
 iO 74 .add 35 1,iM 35 74]))))
def b30:PCode :=
 (.seq (.reg [
 iV 2 26 0,iI 4 0,iI 5 0])
 (.seq (.seq (.reg [
 iN 14 3 2,iX 15 75 14,iR 16 15,iM 17 16,jN 18 3 2 17 false,
 jM 19 1 17 false,
 jY 20 76 18 19 17 false,
 jR 21 20 17 false,
 iQ 22 17 21])
 (.cond (.tmp 22)
 (.seq (.reg [
 iI 4 0,iI 5 2])
 .ret)
 .skip))
 (.seq (.reg [
 iN 23 3 2,iX 24 78 23,⟨some 6,.lalloc 93 (.agg #[(.slice none 0 0),(.slice none 0 0),(.slice none 0 0),(.slice none 0 0),(.slice none 0 0)]),none⟩,iS 5 6 24])
 (.seq (.seq (.reg [
 iN 26 5 6,iM 27 1,iY 28 85 26 27,iM 25 28,iE 29 0 25,iE 30 1 25,⟨some 7,.lalloc 100 (.agg #[(.int .i64 0),(.int .i64 0)]),none⟩,iS 2 7 29,iM 8 30])
 (.seq (.reg [
 iM 31 8,iO 32 .eql 31 0])
 (.cond (.tmp 32)
 (.seq (.reg [
 iI 4 3,iI 5 0])
 .ret)
 .skip)))
 (.seq (.seq (.reg [
 iM 33 1,iK 34 33,iI 35 0])
 (.blk 0
 (.loop q30x0)))
 (.seq (.reg [
 iI 4 2,iI 5 0])
 .ret))))))
def p30:PFunc:=⟨75,[(4,none),(5,none)],none,b30⟩
def q31x0:PCode :=
 (.seq (.seq (.reg [
 iM 49 11,iF 50 1 10,iL 51 50,iT 52 .leq 49 51])
 (.cond (.tmp 52)
 .skip
 (.exit 2)))
 (.seq (.blk 3
 (.seq (.reg [
 iF 55 0 2,iL 56 55,iM 57 9,iM 58 11,iM 59 11,⟨some 60,.v (.bld [(.int .i64 0),(.int .i64 0)] [(0,1),(1,1)]) [.tmp 58,.tmp 59],none⟩,iA 61 2 56 57,iS 2 61 60])
 (.seq (.reg [
 iN 63 3 2,iX 64 78 63,iM 65 1,iY 66 85 64 65,iM 62 66,iE 67 0 62,iE 68 1 62,⟨some 12,.lalloc 100 (.agg #[(.int .i64 0),(.int .i64 0)]),none⟩,iS 2 12 67,iM 13 68])
 (.seq (.reg [
 iM 69 13,iO 70 .neq 69 0])
 (.cond (.tmp 70)
 (.seq (.reg [
 iM 71 8,iM 72 11,⟨some 73,.lbs 3 1 [(.int .i64 0)] 1 [(0,.tmp 72)],none⟩,⟨some 74,.app 3 1 (.tmp 71) (.tmp 73),none⟩,iM 8 74])
 (.exit 2))
 .skip)))))
 (.reg [
 iM 53 11,iO 54 .add 53 1,iM 11 54])))
def q31x1:PCode :=
 (.seq (.reg [
 iT 40 .lss 39 38])
 (.seq (.cond (.tmp 40)
 .skip
 (.exit 0))
 (.seq (.blk 1
 (.seq (.reg [
 iM 41 39,iM 9 41])
 (.seq (.reg [
 iF 42 0 2,iL 43 42,iM 44 9,iA 45 2 43 44,iN 46 2 45,⟨some 10,.lalloc 75 (.agg #[(.int .i64 0),(.int .i64 0)]),none⟩,iS 2 10 46])
 (.seq (.reg [
 iF 47 0 10,iL 48 47,iM 11 48])
 (.blk 2
 (.loop q31x0))))))
 (.reg [
 iO 75 .add 39 1,iM 39 75]))))
def b31:PCode :=
 (.seq (.reg [
 iV 2 26 0,iH 4,iI 5 0])
 (.seq (.seq (.reg [
 iN 14 3 2,iX 15 75 14,iR 16 15,iM 17 16,jN 18 3 2 17 false,
 jM 19 1 17 false,
 jY 20 76 18 19 17 false,
 jR 21 20 17 false,
 iQ 22 17 21])
 (.cond (.tmp 22)
 (.seq (.reg [
 iH 4,iI 5 2])
 .ret)
 .skip))
 (.seq (.seq (.reg [
 iN 24 3 2,iX 25 78 24,iM 26 1,iY 27 85 25 26,iM 23 27,iE 28 0 23,iE 29 1 23,⟨some 6,.lalloc 100 (.agg #[(.int .i64 0),(.int .i64 0)]),none⟩,iS 2 6 28,iM 7 29])
 (.seq (.reg [
 iM 30 7,iO 31 .eql 30 0])
 (.cond (.tmp 31)
 (.seq (.reg [
 iH 4,iI 5 5])
 .ret)
 .skip)))
 (.seq (.reg [
 iF 32 0 2,iL 33 32,iX 34 87 33,iF 35 0 2,iS 1 35 34])
 (.seq (.reg [
 iH 8])
 (.seq (.seq (.reg [
 iF 36 0 2,iL 37 36,iK 38 37,iI 39 0])
 (.blk 0
 (.loop q31x1)))
 (.seq (.reg [
 iM 76 8,iM 4 76,iI 5 0])
 .ret)))))))
def p31:PFunc:=⟨77,[(4,none),(5,none)],none,b31⟩
def b32:PCode :=
 (.seq (.reg [
 iV 2 26 0,iI 4 0,iI 5 0,iI 6 0])
 (.seq (.seq (.reg [
 iN 9 3 2,iX 10 75 9,iR 11 10,iM 12 11,jN 13 3 2 12 false,
 jM 14 1 12 false,
 jY 15 76 13 14 12 false,
 jR 16 15 12 false,
 iQ 17 12 16])
 (.cond (.tmp 17)
 (.seq (.reg [
 iI 4 0,iI 5 0,iI 6 2])
 .ret)
 .skip))
 (.seq (.reg [
 iN 19 3 2,iX 20 78 19,iM 21 1,iY 22 85 20 21,iM 18 22,iE 23 0 18,iE 24 1 18,⟨some 7,.lalloc 100 (.agg #[(.int .i64 0),(.int .i64 0)]),none⟩,iS 2 7 23,iM 8 24])
 (.seq (.seq (.reg [
 iM 25 8,iO 26 .eql 25 0])
 (.cond (.tmp 26)
 (.seq (.reg [
 iI 4 0,iI 5 0,iI 6 5])
 .ret)
 .skip))
 (.seq (.dreg [
 iF 27 0 7,iL 28 27,iF 29 1 7,iL 30 29,iM 4 28,iM 5 30,iI 6 0] [fF,⟨9,true,false⟩,fF,⟨9,true,false⟩,fF,fC,fC])
 .ret)))))
def p32:PFunc:=⟨31,[(4,none),(5,none),(6,none)],none,b32⟩
def q33x0:PCode :=
 (.seq (.seq (.reg [
 iM 8 7,iM 9 1,iK 10 9,iT 11 .lss 8 10])
 (.cond (.tmp 11)
 .skip
 (.exit 0)))
 (.seq (.blk 1
 (.seq (.seq (.dreg [
 iN 14 3 2,iM 15 1,iM 16 7,iN 17 3 2,iX 18 38 17,⟨some 19,.call (.func 83) [.tmp 14,.tmp 15,.tmp 16,.tmp 18],none⟩] [⟨4,false,false⟩,fA,fA,⟨4,true,false⟩,fE,fD])
 (.cond (.tmp 19)
 (.seq (.reg [
 iM 20 7,iM 4 20,iI 5 1,iB 6 true])
 .ret)
 .skip))
 (.seq (.dreg [
 iN 21 3 2,iM 22 1,iM 23 7,iN 24 3 2,iX 25 39 24,⟨some 26,.call (.func 84) [.tmp 21,.tmp 22,.tmp 23,.tmp 25],none⟩] [⟨4,false,false⟩,fA,fA,⟨4,true,false⟩,fE,fD])
 (.cond (.tmp 26)
 (.seq (.reg [
 iM 27 7,iM 4 27,iI 5 2,iB 6 true])
 .ret)
 .skip))))
 (.reg [
 iM 12 7,iO 13 .add 12 1,iM 7 13])))
def b33:PCode :=
 (.seq (.reg [
 iV 2 26 0,iI 4 0,iI 5 0,iB 6 false])
 (.seq (.seq (.reg [
 iI 7 0])
 (.blk 0
 (.loop q33x0)))
 (.seq (.reg [
 iI 4 0,iI 5 0,iB 6 false])
 .ret)))
def p33:PFunc:=⟨28,[(4,none),(5,none),(6,none)],none,b33⟩
def q35x0:PCode :=
 (.seq (.seq (.reg [
 iM 11 5,iM 12 0,iK 13 12,iT 14 .lss 11 13])
 (.cond (.tmp 14)
 .skip
 (.exit 0)))
 (.seq (.blk 1
 (.seq (.dreg [
 iM 17 0,iM 18 5,iA 19 1 17 18,iL 20 19,iM 21 1,iM 22 5,iA 23 1 21 22,iL 24 23,iT 25 .neq 20 24] [fA,fA,fA,fB,fA,fA,fA,fB,fC])
 (.cond (.tmp 25)
 (.seq (.reg [
 iB 4 false])
 .ret)
 .skip)))
 (.reg [
 iM 15 5,iO 16 .add 15 1,iM 5 16])))
def b35:PCode :=
 (.seq (.reg [
 iB 4 false])
 (.seq (.seq (.reg [
 iM 6 0,iK 7 6,iM 8 1,iK 9 8,iT 10 .neq 7 9])
 (.cond (.tmp 10)
 (.seq (.reg [
 iB 4 false])
 .ret)
 .skip))
 (.seq (.seq (.reg [
 iI 5 0])
 (.blk 0
 (.loop q35x0)))
 (.seq (.reg [
 iB 4 true])
 .ret))))
def p35:PFunc:=⟨26,[(4,none)],none,b35⟩
def b36:PCode :=
 (.seq (.reg [
 iV 2 26 0,iB 4 false])
 (.seq (.reg [
 iM 5 1,iF 6 2 2,iL 7 6,iK 8 7,iO 9 .sub 8 1,⟨some 10,.call (.func 81) [.tmp 5,.const (.int .i64 0),.tmp 9],none⟩,iM 4 10])
 .ret))
def p36:PFunc:=⟨11,[(4,none)],none,b36⟩
def q37x0:PCode :=
 (.seq (.seq (.reg [
 iM 26 9,iM 27 7,iT 28 .lss 26 27])
 (.cond (.tmp 28)
 .skip
 (.exit 0)))
 (.seq (.blk 1
 (.reg [
 iM 31 8,iM 32 2,iM 33 9,iA 34 1 32 33,iL 35 34,iT 36 .add 31 35,iM 8 36]))
 (.reg [
 iM 29 9,iO 30 .add 29 1,iM 9 30])))
def b37:PCode :=
 (.seq (.reg [
 iI 6 0])
 (.seq (.reg [
 iM 10 2,iK 11 10,iM 7 11])
 (.seq (.seq (.reg [
 iM 12 1,iO 13 .add 12 1,iM 14 0,iK 15 14,iT 16 .lss 13 15])
 (.cond (.tmp 16)
 (.reg [
 iM 17 0,iM 18 1,iO 19 .add 18 1,iA 20 1 17 19,iL 21 20,iM 7 21])
 .skip))
 (.seq (.reg [
 iI 8 0])
 (.seq (.seq (.reg [
 iM 22 0,iM 23 1,iA 24 1 22 23,iL 25 24,iM 9 25])
 (.blk 0
 (.loop q37x0)))
 (.seq (.reg [
 iM 37 8,iM 6 37])
 .ret))))))
def p37:PFunc:=⟨38,[(6,none)],none,b37⟩
def q38x0:PCode :=
 (.seq (.seq (.reg [
 iM 5 4,iF 6 0 1,iL 7 6,iK 8 7,iT 9 .lss 5 8])
 (.cond (.tmp 9)
 .skip
 (.exit 0)))
 (.seq (.blk 1
 (.reg [
 iM 12 3,iF 13 0 1,iL 14 13,iM 15 4,iA 16 2 14 15,iF 17 0 16,iL 18 17,⟨some 19,.lbs 3 1 [(.int .i64 0)] 1 [(0,.tmp 18)],none⟩,⟨some 20,.app 3 1 (.tmp 12) (.tmp 19),none⟩,iM 3 20]))
 (.reg [
 iM 10 4,iO 11 .add 10 1,iM 4 11])))
def b38:PCode :=
 (.seq (.reg [
 iV 1 26 0,iH 2])
 (.seq (.reg [
 iH 3])
 (.seq (.seq (.reg [
 iI 4 0])
 (.blk 0
 (.loop q38x0)))
 (.seq (.reg [
 iM 21 3,iM 2 21])
 .ret))))
def p38:PFunc:=⟨22,[(2,none)],none,b38⟩
def q39x0:PCode :=
 (.seq (.seq (.reg [
 iM 5 4,iF 6 0 1,iL 7 6,iK 8 7,iT 9 .lss 5 8])
 (.cond (.tmp 9)
 .skip
 (.exit 0)))
 (.seq (.blk 1
 (.reg [
 iM 12 3,iF 13 0 1,iL 14 13,iM 15 4,iA 16 2 14 15,iF 17 1 16,iL 18 17,⟨some 19,.lbs 3 1 [(.int .i64 0)] 1 [(0,.tmp 18)],none⟩,⟨some 20,.app 3 1 (.tmp 12) (.tmp 19),none⟩,iM 3 20]))
 (.reg [
 iM 10 4,iO 11 .add 10 1,iM 4 11])))
def b39:PCode :=
 (.seq (.reg [
 iV 1 26 0,iH 2])
 (.seq (.reg [
 iH 3])
 (.seq (.seq (.reg [
 iI 4 0])
 (.blk 0
 (.loop q39x0)))
 (.seq (.reg [
 iM 21 3,iM 2 21])
 .ret))))
def p39:PFunc:=⟨22,[(2,none)],none,b39⟩
def q40x0:PCode :=
 (.seq (.seq (.reg [
 iM 6 5,iM 7 0,iK 8 7,iT 9 .lss 6 8,iM 10 9,jM 11 5 10 true,
 jM 12 1 10 true,
 jK 13 12 10 true,
 jT 14 .lss 11 13 10 true,
 iP 15 10 14])
 (.cond (.tmp 15)
 .skip
 (.exit 0)))
 (.seq (.blk 1
 (.seq (.dreg [
 iM 18 0,iM 19 5,iA 20 1 18 19,iL 21 20,iM 22 1,iM 23 5,iA 24 1 22 23,iL 25 24,iT 26 .neq 21 25] [fA,fA,fA,fB,fA,fA,fA,fB,fC])
 (.cond (.tmp 26)
 (.seq (.dreg [
 iM 27 0,iM 28 5,iA 29 1 27 28,iL 30 29,iM 31 1,iM 32 5,iA 33 1 31 32,iL 34 33,iT 35 .lss 30 34,iM 4 35] [fA,fA,fA,fB,fA,fA,fA,fB,fC,fC])
 .ret)
 .skip)))
 (.reg [
 iM 16 5,iO 17 .add 16 1,iM 5 17])))
def b40:PCode :=
 (.seq (.reg [
 iB 4 false])
 (.seq (.seq (.reg [
 iI 5 0])
 (.blk 0
 (.loop q40x0)))
 (.seq (.reg [
 iM 36 0,iK 37 36,iM 38 1,iK 39 38,iT 40 .lss 37 39,iM 4 40])
 .ret)))
def p40:PFunc:=⟨41,[(4,none)],none,b40⟩
def b41:PCode :=
 (.seq (.reg [
 iV 1 26 0,iH 2,iI 3 0])
 (.seq (.reg [
 iN 7 3 1,⟨some 8,.call (.func 89) [.tmp 7,.const (.int .i64 5)],none⟩,iM 6 8,iE 9 0 6,iE 10 1 6,iM 4 9,iM 5 10])
 (.seq (.seq (.reg [
 iM 11 5,iO 12 .neq 11 0])
 (.cond (.tmp 12)
 (.seq (.reg [
 iM 13 5,iH 2,iM 3 13])
 .ret)
 .skip))
 (.seq (.reg [
 iM 14 4,⟨some 15,.v (.ia 1) [.tmp 14,.const (.int .i64 0)],none⟩,iL 16 15,iM 2 16,iI 3 0])
 .ret))))
def p41:PFunc:=⟨17,[(2,none),(3,none)],none,b41⟩
def b42:PCode :=
 (.seq (.reg [
 iV 1 26 0,iI 2 0,iI 3 0])
 (.seq (.reg [
 iN 7 3 1,⟨some 8,.call (.func 89) [.tmp 7,.const (.int .i64 0)],none⟩,iM 6 8,iE 9 0 6,iE 10 1 6,iM 4 9,iM 5 10])
 (.seq (.reg [
 iM 11 4,iK 12 11,iM 13 5,iM 2 12,iM 3 13])
 .ret)))
def p42:PFunc:=⟨14,[(2,none),(3,none)],none,b42⟩
def q43x0:PCode :=
 (.seq (.seq (.reg [
 iM 8 5,iM 9 3,iK 10 9,iT 11 .lss 8 10])
 (.cond (.tmp 11)
 .skip
 (.exit 0)))
 (.seq (.blk 1
 (.seq (.dreg [
 iN 14 3 1,iM 15 3,iM 16 5,iA 17 1 15 16,iL 18 17,iY 19 91 14 18] [⟨3,false,false⟩,fF,fF,fF,fE,fD])
 (.cond (.tmp 19)
 (.reg [
 iM 20 4,iM 21 3,iM 22 5,iA 23 1 21 22,iL 24 23,⟨some 25,.lbs 23 1 [(.slice none 0 0)] 1 [(0,.tmp 24)],none⟩,⟨some 26,.app 23 1 (.tmp 20) (.tmp 25),none⟩,iM 4 26])
 .skip)))
 (.reg [
 iM 12 5,iO 13 .add 12 1,iM 5 13])))
def b43:PCode :=
 (.seq (.reg [
 iV 1 26 0,iH 2])
 (.seq (.reg [
 iN 6 3 1,⟨some 7,.call (.func 90) [.tmp 6,.const (.slice none 0 0)],none⟩,iM 3 7])
 (.seq (.reg [
 iH 4])
 (.seq (.seq (.reg [
 iI 5 0])
 (.blk 0
 (.loop q43x0)))
 (.seq (.reg [
 iM 27 4,iM 2 27])
 .ret)))))
def p43:PFunc:=⟨28,[(2,none)],none,b43⟩
def b44:PCode :=
 (.seq (.reg [
 iV 2 26 0,iB 4 false,iB 5 false])
 (.seq (.reg [
 iN 9 3 2,iM 10 1,iY 11 30 9 10,iM 8 11,iE 12 0 8,iE 13 1 8,iM 6 12,iM 7 13])
 (.seq (.reg [
 iM 14 7,iO 15 .eql 14 0,iM 16 15,jM 17 6 16 true,
 jO 18 .eql 17 3 16 true,
 iP 19 16 18,iM 20 7,iO 21 .eql 20 0,iM 22 21,jM 23 6 22 true,
 jO 24 .geq 23 1 22 true,
 iP 25 22 24,iM 26 25,jM 27 6 26 true,
 jO 28 .leq 27 3 26 true,
 iP 29 26 28,iM 4 19,iM 5 29])
 .ret)))
def p44:PFunc:=⟨30,[(4,none),(5,none)],none,b44⟩
def q45x0:PCode :=
 (.seq (.reg [
 iT 31 .lss 30 29])
 (.seq (.cond (.tmp 31)
 .skip
 (.exit 0))
 (.seq (.blk 1
 (.seq (.reg [
 iM 32 30,⟨some 9,.alloc 3 (.int .i64 0),none⟩,iS 1 9 32])
 (.seq (.reg [
 iM 33 6,⟨some 34,.v (.mkf (.func 94) 0) [.tmp 3,.tmp 9],none⟩,iY 35 93 33 34])
 (.cond (.tmp 35)
 (.reg [
 iM 36 8,iL 37 9,⟨some 38,.lbs 3 1 [(.int .i64 0)] 1 [(0,.tmp 37)],none⟩,⟨some 39,.app 3 1 (.tmp 36) (.tmp 38),none⟩,iM 8 39])
 .skip))))
 (.reg [
 iO 40 .add 30 1,iM 30 40]))))
def b45:PCode :=
 (.seq (.reg [
 iV 2 26 0,⟨some 3,.box 3 (.tmp 1),none⟩,iH 4,iI 5 0])
 (.seq (.seq (.reg [
 iN 10 3 2,iX 11 75 10,iR 12 11,iM 13 12,jN 14 3 2 13 false,
 jL 15 3 13 false,
 jY 16 92 14 15 13 false,
 jR 17 16 13 false,
 iQ 18 13 17])
 (.cond (.tmp 18)
 (.seq (.reg [
 iH 4,iI 5 2])
 .ret)
 .skip))
 (.seq (.reg [
 iN 20 3 2,⟨some 21,.call (.func 89) [.tmp 20,.const (.int .i64 7)],none⟩,iM 19 21,iE 22 0 19,iE 23 1 19,iM 6 22,iM 7 23])
 (.seq (.seq (.reg [
 iM 24 7,iO 25 .neq 24 0])
 (.cond (.tmp 25)
 (.seq (.reg [
 iM 26 7,iH 4,iM 5 26])
 .ret)
 .skip))
 (.seq (.reg [
 iH 8])
 (.seq (.seq (.reg [
 iF 27 0 2,iL 28 27,iK 29 28,iI 30 0])
 (.blk 0
 (.loop q45x0)))
 (.seq (.reg [
 iM 41 8,iM 4 41,iI 5 0])
 .ret)))))))
def p45:PFunc:=⟨42,[(4,none),(5,none)],none,b45⟩
def b46:PCode :=
 (.seq (.reg [
 iV 1 26 0,iI 2 0,iI 3 0])
 (.seq (.reg [
 iN 7 3 1,⟨some 8,.call (.func 89) [.tmp 7,.const (.int .i64 5)],none⟩,iM 6 8,iE 9 0 6,iE 10 1 6,iM 4 9,iM 5 10])
 (.seq (.seq (.reg [
 iM 11 5,iO 12 .neq 11 0])
 (.cond (.tmp 12)
 (.seq (.reg [
 iM 13 5,iI 2 0,iM 3 13])
 .ret)
 .skip))
 (.seq (.reg [
 iM 14 4,⟨some 15,.call (.func 95) [.tmp 14,.func 96],none⟩,⟨some 16,.v (.ia 1) [.tmp 15,.const (.int .i64 0)],none⟩,iL 17 16,iM 2 17,iI 3 0])
 .ret))))
def p46:PFunc:=⟨18,[(2,none),(3,none)],none,b46⟩
def b47:PCode :=
 (.seq (.reg [
 iV 1 26 0,iI 2 0,iI 3 0])
 (.seq (.reg [
 iN 7 3 1,⟨some 8,.call (.func 89) [.tmp 7,.const (.int .i64 5)],none⟩,iM 6 8,iE 9 0 6,iE 10 1 6,iM 4 9,iM 5 10])
 (.seq (.seq (.reg [
 iM 11 5,iO 12 .neq 11 0])
 (.cond (.tmp 12)
 (.seq (.reg [
 iM 13 5,iI 2 0,iM 3 13])
 .ret)
 .skip))
 (.seq (.reg [
 iM 14 4,⟨some 15,.call (.func 95) [.tmp 14,.func 98],none⟩,iX 16 97 15,iM 2 16,iI 3 0])
 .ret))))
def p47:PFunc:=⟨17,[(2,none),(3,none)],none,b47⟩
def q48x0:PCode :=
 (.seq (.seq (.reg [
 iM 8 5,iM 9 3,iK 10 9,iT 11 .lss 8 10])
 (.cond (.tmp 11)
 .skip
 (.exit 0)))
 (.seq (.blk 1
 (.reg [
 iM 14 4,iM 15 3,iM 16 5,iA 17 1 15 16,iL 18 17,⟨some 19,.v (.ia 1) [.tmp 18,.const (.int .i64 0)],none⟩,iL 20 19,⟨some 21,.v .mx [.tmp 14,.tmp 20],none⟩,iM 4 21]))
 (.reg [
 iM 12 5,iO 13 .add 12 1,iM 5 13])))
def b48:PCode :=
 (.seq (.reg [
 iV 1 26 0,iI 2 0])
 (.seq (.reg [
 iN 6 3 1,iX 7 43 6,iM 3 7])
 (.seq (.reg [
 iI 4 (-1)])
 (.seq (.seq (.reg [
 iI 5 0])
 (.blk 0
 (.loop q48x0)))
 (.seq (.reg [
 iM 22 4,iM 2 22])
 .ret)))))
def p48:PFunc:=⟨23,[(2,none)],none,b48⟩
def q49x0:PCode :=
 (.seq (.seq (.reg [
 iM 9 5,iM 10 3,iK 11 10,iT 12 .lss 9 11])
 (.cond (.tmp 12)
 .skip
 (.exit 0)))
 (.seq (.blk 1
 (.seq (.dreg [
 iM 15 3,iM 16 5,iA 17 1 15 16,iL 18 17,iM 19 3,iM 20 5,iA 21 1 19 20,iL 22 21,iK 23 22,iO 24 .sub 23 1,iA 25 1 18 24,iL 26 25,iM 27 3,iM 28 5,iA 29 1 27 28,iL 30 29,⟨some 31,.v (.ia 1) [.tmp 30,.const (.int .i64 0)],none⟩,iL 32 31,iT 33 .sub 26 32,iM 6 33] [fA,fA,fA,fB,fA,fA,fA,fB,fA,fA,fA,fB,fA,fA,fA,fB,fA,fB,fC,fC])
 (.seq (.reg [
 iM 34 4,iO 35 .lss 34 0,iM 36 35,jM 37 6 36 false,
 jM 38 4 36 false,
 jT 39 .lss 37 38 36 false,
 iQ 40 36 39])
 (.cond (.tmp 40)
 (.reg [
 iM 41 6,iM 4 41])
 .skip))))
 (.reg [
 iM 13 5,iO 14 .add 13 1,iM 5 14])))
def b49:PCode :=
 (.seq (.reg [
 iV 1 26 0,iI 2 0])
 (.seq (.reg [
 iN 7 3 1,iX 8 43 7,iM 3 8])
 (.seq (.reg [
 iI 4 (-1)])
 (.seq (.seq (.reg [
 iI 5 0])
 (.blk 0
 (.loop q49x0)))
 (.seq (.reg [
 iM 42 4,iM 2 42])
 .ret)))))
def p49:PFunc:=⟨43,[(2,none)],none,b49⟩
def q50x0:PCode :=
 (.seq (.seq (.reg [
 iM 19 9,iM 20 5,iK 21 20,iT 22 .lss 19 21])
 (.cond (.tmp 22)
 .skip
 (.exit 2)))
 (.seq (.blk 3
 (.reg [
 iM 25 8,iM 26 25,jM 27 5 26 false,
 jM 28 9 26 false,
 jA 29 1 27 28 26 false,
 jL 30 29 26 false,
 jM 31 1 26 false,
 jA 32 1 30 31 26 false,
 jL 33 32 26 false,
 jM 34 7 26 false,
 jT 35 .eql 33 34 26 false,
 iQ 36 26 35,iM 8 36]))
 (.reg [
 iM 23 9,iO 24 .add 23 1,iM 9 24])))
def q50x1:PCode :=
 (.seq (.seq (.reg [
 iM 12 7,iF 13 0 2,iL 14 13,iK 15 14,iT 16 .lss 12 15])
 (.cond (.tmp 16)
 .skip
 (.exit 0)))
 (.seq (.blk 1
 (.seq (.reg [
 iB 8 false])
 (.seq (.seq (.reg [
 iI 9 0])
 (.blk 2
 (.loop q50x0)))
 (.seq (.reg [
 iM 37 8])
 (.cond (.tmp 37)
 (.reg [
 iM 38 6,iM 39 7,⟨some 40,.lbs 3 1 [(.int .i64 0)] 1 [(0,.tmp 39)],none⟩,⟨some 41,.app 3 1 (.tmp 38) (.tmp 40),none⟩,iM 6 41])
 .skip)))))
 (.reg [
 iM 17 7,iO 18 .add 17 1,iM 7 18])))
def b50:PCode :=
 (.seq (.reg [
 iV 2 26 0,iH 4])
 (.seq (.reg [
 iN 10 3 2,iX 11 43 10,iM 5 11])
 (.seq (.reg [
 iH 6])
 (.seq (.seq (.reg [
 iI 7 0])
 (.blk 0
 (.loop q50x1)))
 (.seq (.reg [
 iM 42 6,iM 4 42])
 .ret)))))
def p50:PFunc:=⟨43,[(4,none)],none,b50⟩
def q51x0:PCode :=
 (.seq (.seq (.reg [
 iM 6 5,iM 7 0,iK 8 7,iT 9 .lss 6 8])
 (.cond (.tmp 9)
 .skip
 (.exit 0)))
 (.seq (.blk 1
 (.seq (.reg [
 iM 12 0,iM 13 5,iA 14 1 12 13,iL 15 14,iM 16 1,iT 17 .eql 15 16])
 (.cond (.tmp 17)
 (.seq (.reg [
 iB 4 true])
 .ret)
 .skip)))
 (.reg [
 iM 10 5,iO 11 .add 10 1,iM 5 11])))
def b51:PCode :=
 (.seq (.reg [
 iB 4 false])
 (.seq (.seq (.reg [
 iI 5 0])
 (.blk 0
 (.loop q51x0)))
 (.seq (.reg [
 iB 4 false])
 .ret)))
def p51:PFunc:=⟨18,[(4,none)],none,b51⟩
def q52x0:PCode :=
 (.seq (.reg [
 iT 13 .lss 12 11])
 (.seq (.cond (.tmp 13)
 .skip
 (.exit 0))
 (.seq (.blk 1
 (.seq (.reg [
 iM 14 12,iM 4 14])
 (.seq (.reg [
 iN 15 3 1,⟨some 5,.lalloc 26 (.agg #[(.slice none 0 0),(.slice none 0 0),(.slice none 0 0)]),none⟩,iS 3 5 15])
 (.seq (.reg [
 iF 16 2 1,iL 17 16,iM 18 4,iO 19 .add 18 1,⟨some 20,.v (.sl 2 false true) [.tmp 17,.tmp 19],none⟩,iF 21 2 5,iS 1 21 20])
 (.seq (.reg [
 iN 22 3 5,iX 23 99 22,iR 24 23])
 (.cond (.tmp 24)
 (.seq (.reg [
 iM 25 4,iM 2 25,iI 3 0])
 .ret)
 .skip))))))
 (.reg [
 iO 26 .add 12 1,iM 12 26]))))
def b52:PCode :=
 (.seq (.reg [
 iV 1 26 0,iI 2 0,iI 3 0])
 (.seq (.seq (.reg [
 iN 6 3 1,iX 7 75 6,iR 8 7])
 (.cond (.tmp 8)
 (.seq (.reg [
 iI 2 0,iI 3 2])
 .ret)
 .skip))
 (.seq (.seq (.reg [
 iF 9 2 1,iL 10 9,iK 11 10,iI 12 0])
 (.blk 0
 (.loop q52x0)))
 (.seq (.reg [
 iI 2 0,iI 3 5])
 .ret))))
def p52:PFunc:=⟨27,[(2,none),(3,none)],none,b52⟩
def q53x0:PCode :=
 (.seq (.seq (.reg [
 iM 4 3,iF 5 2 1,iL 6 5,iK 7 6,iT 8 .lss 4 7])
 (.cond (.tmp 8)
 .skip
 (.exit 0)))
 (.seq (.blk 1
 (.seq (.reg [
 iN 11 3 1,iM 12 3,iY 13 55 11 12,iX 14 43 13,iK 15 14,iO 16 .eql 15 0])
 (.cond (.tmp 16)
 (.seq (.reg [
 iM 17 3,iM 2 17])
 .ret)
 .skip)))
 (.reg [
 iM 9 3,iO 10 .add 9 1,iM 3 10])))
def b53:PCode :=
 (.seq (.reg [
 iV 1 26 0,iI 2 0])
 (.seq (.seq (.reg [
 iI 3 0])
 (.blk 0
 (.loop q53x0)))
 (.seq (.reg [
 iI 2 (-1)])
 .ret)))
def p53:PFunc:=⟨18,[(2,none)],none,b53⟩
def b54:PCode :=
 (.seq (.reg [
 iV 1 26 0,iB 2 false,iB 3 false])
 (.seq (.reg [
 iN 7 3 1,iX 8 41 7,iM 6 8,iE 9 0 6,iE 10 1 6,iM 4 9,iM 5 10])
 (.seq (.reg [
 iM 11 5,iO 12 .eql 11 0,iM 13 5,iO 14 .eql 13 0,iM 15 14,jM 16 5 15 false,
 jO 17 .eql 16 5 15 false,
 iQ 18 15 17,iM 2 12,iM 3 18])
 .ret)))
def p54:PFunc:=⟨19,[(2,none),(3,none)],none,b54⟩
def b55:PCode :=
 (.seq (.reg [
 iV 2 26 0,⟨some 4,.lalloc 26 (.agg #[(.slice none 0 0),(.slice none 0 0),(.slice none 0 0)]),none⟩])
 (.seq (.reg [
 iF 5 2 2,iL 6 5,iM 7 1,iO 8 .add 7 1,⟨some 9,.v (.sl 2 false true) [.tmp 6,.tmp 8],none⟩,⟨some 10,.app 51 2 (.const (.slice none 0 0)) (.tmp 9),none⟩,iF 11 2 2,iS 1 11 10])
 (.seq (.reg [
 iN 12 3 2,iS 3 4 12])
 .ret)))
def p55:PFunc:=⟨13,[(4,some (some 3))],none,b55⟩
def b56:PCode :=
 (.seq (.reg [
 ⟨some 1,.box 26 (.tmp 0),none⟩,iI 2 0,iI 3 0])
 (.seq (.seq (.reg [
 iN 5 3 1,iX 6 75 5,iR 7 6])
 (.cond (.tmp 7)
 (.seq (.reg [
 iI 2 0,iI 3 2])
 .ret)
 .skip))
 (.seq (.reg [
 ⟨some 8,.v (.mkf (.func 101) 0) [.tmp 1],none⟩,⟨some 9,.call (.func 100) [.const (.int .i64 289),.tmp 8],none⟩,iM 4 9])
 (.seq (.seq (.reg [
 iM 10 4,iO 11 .gtr 10 288])
 (.cond (.tmp 11)
 (.seq (.reg [
 iI 2 0,iI 3 5])
 .ret)
 .skip))
 (.seq (.reg [
 iM 12 4,iM 2 12,iI 3 0])
 .ret)))))
def p56:PFunc:=⟨13,[(2,none),(3,none)],none,b56⟩
def q57x0:PCode :=
 (.seq (.seq (.reg [
 iM 9 5,iM 10 3,iK 11 10,iT 12 .lss 9 11])
 (.cond (.tmp 12)
 .skip
 (.exit 0)))
 (.seq (.blk 1
 (.seq (.dreg [
 iN 15 3 1,iM 16 3,iM 17 5,iA 18 1 16 17,iL 19 18,iY 20 103 15 19,iM 6 20] [⟨3,false,false⟩,fF,fF,fF,fE,fD,fC])
 (.seq (.reg [
 iM 21 6,iO 22 .geq 21 0,iM 23 22,jM 24 4 23 true,
 jO 25 .lss 24 0 23 true,
 jM 26 25 23 true,
 jM 27 6 26 false,
 jM 28 4 26 false,
 jT 29 .lss 27 28 26 false,
 jQ 30 26 29 23 true,
 iP 31 23 30])
 (.cond (.tmp 31)
 (.reg [
 iM 32 6,iM 4 32])
 .skip))))
 (.reg [
 iM 13 5,iO 14 .add 13 1,iM 5 14])))
def b57:PCode :=
 (.seq (.reg [
 iV 1 26 0,iI 2 0])
 (.seq (.reg [
 iN 7 3 1,⟨some 8,.call (.func 90) [.tmp 7,.const (.slice none 0 0)],none⟩,iM 3 8])
 (.seq (.reg [
 iI 4 (-1)])
 (.seq (.seq (.reg [
 iI 5 0])
 (.blk 0
 (.loop q57x0)))
 (.seq (.reg [
 iM 33 4,iM 2 33])
 .ret)))))
def p57:PFunc:=⟨34,[(2,none)],none,b57⟩
def q58x0:PCode :=
 (.seq (.seq (.reg [
 iM 10 6,iM 11 5,iK 12 11,iT 13 .lss 10 12])
 (.cond (.tmp 13)
 .skip
 (.exit 0)))
 (.seq (.blk 1
 (.dreg [
 iF 16 2 2,iL 17 16,iM 18 5,iM 19 6,iA 20 2 18 19,iF 21 0 20,iL 22 21,iM 23 5,iM 24 6,iA 25 2 23 24,iF 26 1 25,iL 27 26,iM 28 1,iT 29 .add 27 28,⟨some 30,.v (.bld [(.int .i64 0),(.int .i64 0)] [(0,1),(1,1)]) [.tmp 22,.tmp 29],none⟩,⟨some 31,.lbs 51 2 [(.int .i64 0),(.int .i64 0)] 1 [(0,.tmp 30)],none⟩,⟨some 32,.app 51 2 (.tmp 17) (.tmp 31),none⟩,iF 33 2 2,iS 1 33 32] [fA,⟨4,false,false⟩,fA,fA,fA,fA,fB,fA,fA,fA,fA,fB,fA,fA,fF,⟨33,true,false⟩,fD,fC,⟨4,true,true⟩]))
 (.reg [
 iM 14 6,iO 15 .add 14 1,iM 6 15])))
def b58:PCode :=
 (.seq (.reg [
 iV 2 26 0,⟨some 4,.lalloc 26 (.agg #[(.slice none 0 0),(.slice none 0 0),(.slice none 0 0)]),none⟩])
 (.seq (.reg [
 iF 7 2 2,iL 8 7,iM 5 8])
 (.seq (.reg [
 iF 9 2 2,⟨none,.st 1 (.tmp 9) (.const (.slice none 0 0)),none⟩])
 (.seq (.seq (.reg [
 iI 6 0])
 (.blk 0
 (.loop q58x0)))
 (.seq (.reg [
 iN 34 3 2,iS 3 4 34])
 .ret)))))
def p58:PFunc:=⟨35,[(4,some (some 3))],none,b58⟩
def q59x0:PCode :=
 (.seq (.reg [
 iT 40 .lss 39 38])
 (.seq (.cond (.tmp 40)
 .skip
 (.exit 2))
 (.seq (.blk 3
 (.seq (.reg [
 iM 41 39,iA 42 1 37 39,iL 43 42,iM 13 41,iM 14 43])
 (.seq (.reg [
 iM 44 14,iL 45 4,iM 46 13,iA 47 1 45 46,iL 48 47,iT 49 .neq 44 48])
 (.cond (.tmp 49)
 (.seq (.reg [
 iF 50 1 11,iL 51 50,iO 52 .add 51 1,iF 53 1 11,iS 1 53 52])
 (.dreg [
 iM 54 12,iM 55 54,jL 56 4 55 true,
 jM 57 13 55 true,
 jA 58 1 56 57 55 true,
 jL 59 58 55 true,
 jL 60 5 55 true,
 jT 61 .geq 59 60 55 true,
 iP 62 55 61,iM 63 62,jM 64 14 63 true,
 jL 65 5 63 true,
 jT 66 .geq 64 65 63 true,
 iP 67 63 66,iM 12 67] [fC,fC,fB,fA,fA,fB,fB,fC,fC,fC,fA,fE,fC,fC,fC]))
 .skip))))
 (.reg [
 iO 68 .add 39 1,iM 39 68]))))
def b59:PCode :=
 (.seq (.reg [
 iV 3 26 0,⟨some 4,.box 23 (.tmp 1),none⟩,⟨some 5,.box 3 (.tmp 2),none⟩,iH 6,iI 7 0,iI 8 0])
 (.seq (.seq (.reg [
 iN 16 3 3,iX 17 75 16,iR 18 17,iM 19 18,jN 20 3 3 19 false,
 jL 21 4 19 false,
 jY 22 76 20 21 19 false,
 jR 23 22 19 false,
 iQ 24 19 23,iM 25 24,jN 26 3 3 25 false,
 jL 27 5 25 false,
 jY 28 104 26 27 25 false,
 jR 29 28 25 false,
 iQ 30 25 29])
 (.cond (.tmp 30)
 (.seq (.reg [
 iH 6,iI 7 0,iI 8 2])
 .ret)
 .skip))
 (.seq (.reg [
 ⟨some 9,.alloc 116 (.slice none 0 0),none⟩])
 (.seq (.seq (.reg [
 iN 31 3 3,iX 32 78 31,iX 33 105 32])
 (.blk 0
 (.rf (.tmp 33) [34]
 (.reg [
 iM 10 34])
 (.blk 1
 (.seq (.reg [
 iM 35 10,⟨some 36,.v (.bld [(.slice none 0 0),(.int .i64 0)] [(0,1)]) [.tmp 35],none⟩,⟨some 11,.lalloc 121 (.agg #[(.slice none 0 0),(.int .i64 0)]),none⟩,iS 2 11 36])
 (.seq (.reg [
 iB 12 true])
 (.seq (.seq (.reg [
 iM 37 10,iK 38 37,iI 39 0])
 (.blk 2
 (.loop q59x0)))
 (.seq (.reg [
 iM 69 12])
 (.cond (.tmp 69)
 (.reg [
 iL 70 9,iN 71 2 11,⟨some 72,.lbs 121 2 [(.slice none 0 0),(.int .i64 0)] 1 [(0,.tmp 71)],none⟩,⟨some 73,.app 121 2 (.tmp 70) (.tmp 72),none⟩,iS 1 9 73])
 .skip)))))))))
 (.seq (.seq (.reg [
 iL 74 9,iK 75 74,iO 76 .eql 75 0])
 (.cond (.tmp 76)
 (.seq (.reg [
 iH 6,iI 7 0,iI 8 5])
 .ret)
 .skip))
 (.seq (.reg [
 iL 77 9,⟨some 78,.call (.func 106) [.tmp 77,.func 107],none⟩,⟨some 15,.lalloc 121 (.agg #[(.slice none 0 0),(.int .i64 0)]),none⟩,iS 2 15 78])
 (.seq (.dreg [
 iF 79 0 15,iL 80 79,iF 81 1 15,iL 82 81,iM 6 80,iM 7 82,iI 8 0] [fF,⟨17,true,false⟩,fF,⟨17,true,false⟩,fF,fC,fC])
 .ret)))))))
def p59:PFunc:=⟨83,[(6,none),(7,none),(8,none)],none,b59⟩
def b60:PCode :=
 (.seq (.reg [
 iV 2 26 0,iB 4 false])
 (.seq (.reg [
 iM 5 1,iF 6 0 2,iL 7 6,iK 8 7,iO 9 .sub 8 1,⟨some 10,.call (.func 81) [.tmp 5,.const (.int .i64 0),.tmp 9],none⟩,iM 4 10])
 .ret))
def p60:PFunc:=⟨11,[(4,none)],none,b60⟩
def q61x0:PCode :=
 (.seq (.seq (.reg [
 iM 14 11,iM 15 9,iK 16 15,iT 17 .lss 14 16])
 (.cond (.tmp 17)
 .skip
 (.exit 0)))
 (.seq (.blk 1
 (.seq (.reg [
 iM 20 9,iM 21 11,iA 22 1 20 21,iL 23 22,iM 24 1,iM 25 2,iZ 26 62 23 24 25,iM 27 26,jM 28 10 27 true,
 ⟨some 29,.v (.nl .slice false) [.tmp 28],some (27,true)⟩,
 jM 30 29 27 true,
 jM 31 9 30 false,
 jM 32 11 30 false,
 jA 33 1 31 32 30 false,
 jL 34 33 30 false,
 jM 35 1 30 false,
 jY 36 63 34 35 30 false,
 jM 37 10 30 false,
 jM 38 1 30 false,
 jY 39 63 37 38 30 false,
 jT 40 .lss 36 39 30 false,
 jQ 41 30 40 27 true,
 iP 42 27 41])
 (.cond (.tmp 42)
 (.reg [
 iM 43 9,iM 44 11,iA 45 1 43 44,iL 46 45,iM 10 46])
 .skip)))
 (.reg [
 iM 18 11,iO 19 .add 18 1,iM 11 19])))
def b61:PCode :=
 (.seq (.reg [
 iV 3 26 0,iH 6,iI 7 0,iB 8 false])
 (.seq (.reg [
 iN 12 3 3,iX 13 43 12,iM 9 13])
 (.seq (.reg [
 iH 10])
 (.seq (.seq (.reg [
 iI 11 0])
 (.blk 0
 (.loop q61x0)))
 (.seq (.seq (.reg [
 iM 47 10,⟨some 48,.v (.nl .slice false) [.tmp 47],none⟩])
 (.cond (.tmp 48)
 (.seq (.reg [
 iH 6,iI 7 0,iB 8 false])
 .ret)
 .skip))
 (.seq (.reg [
 iM 49 10,iM 50 10,iM 51 1,iY 52 63 50 51,iM 6 49,iM 7 52,iB 8 true])
 .ret))))))
def p61:PFunc:=⟨53,[(6,none),(7,none),(8,none)],none,b61⟩
def q62x0:PCode :=
 (.seq (.seq (.reg [
 iM 8 7,iM 9 0,iK 10 9,iT 11 .lss 8 10])
 (.cond (.tmp 11)
 .skip
 (.exit 0)))
 (.seq (.blk 1
 (.seq (.dreg [
 iM 14 1,iM 15 7,iA 16 1 14 15,iL 17 16,iM 18 2,iT 19 .lss 17 18,iM 20 19,jM 21 0 20 true,
 jM 22 7 20 true,
 jA 23 1 21 22 20 true,
 jL 24 23 20 true,
 jM 25 1 20 true,
 jM 26 7 20 true,
 jA 27 1 25 26 20 true,
 jL 28 27 20 true,
 jT 29 .neq 24 28 20 true,
 iP 30 20 29,iM 31 30,jM 32 1 31 false,
 jM 33 7 31 false,
 jA 34 1 32 33 31 false,
 jL 35 34 31 false,
 jM 36 2 31 false,
 jT 37 .geq 35 36 31 false,
 jM 38 37 31 false,
 jM 39 0 38 true,
 jM 40 7 38 true,
 jA 41 1 39 40 38 true,
 jL 42 41 38 true,
 jM 43 2 38 true,
 jT 44 .lss 42 43 38 true,
 jP 45 38 44 31 false,
 iQ 46 31 45] [fF,fF,fF,fE,fA,fC,fC,fA,fA,fA,fB,fA,fA,fA,fB,fC,fC,fC,fF,fF,fF,fE,fA,fC,fC,fF,fF,fF,fE,fA,fC,fC,fC])
 (.cond (.tmp 46)
 (.seq (.reg [
 iB 6 false])
 .ret)
 .skip)))
 (.reg [
 iM 12 7,iO 13 .add 12 1,iM 7 13])))
def b62:PCode :=
 (.seq (.reg [
 iB 6 false])
 (.seq (.seq (.reg [
 iI 7 0])
 (.blk 0
 (.loop q62x0)))
 (.seq (.reg [
 iB 6 true])
 .ret)))
def p62:PFunc:=⟨47,[(6,none)],none,b62⟩
def q63x0:PCode :=
 (.seq (.seq (.reg [
 iM 7 6,iM 8 0,iK 9 8,iT 10 .lss 7 9])
 (.cond (.tmp 10)
 .skip
 (.exit 0)))
 (.seq (.blk 1
 (.seq (.dreg [
 iM 13 0,iM 14 6,iA 15 1 13 14,iL 16 15,iM 17 1,iM 18 6,iA 19 1 17 18,iL 20 19,iT 21 .neq 16 20] [fA,fA,fA,fB,fA,fA,fA,fB,fC])
 (.cond (.tmp 21)
 (.reg [
 iM 22 5,iO 23 .add 22 1,iM 5 23])
 .skip)))
 (.reg [
 iM 11 6,iO 12 .add 11 1,iM 6 12])))
def b63:PCode :=
 (.seq (.reg [
 iI 4 0])
 (.seq (.reg [
 iI 5 0])
 (.seq (.seq (.reg [
 iI 6 0])
 (.blk 0
 (.loop q63x0)))
 (.seq (.reg [
 iM 24 5,iM 4 24])
 .ret))))
def p63:PFunc:=⟨25,[(4,none)],none,b63⟩
def q64x0:PCode :=
 (.seq (.seq (.reg [
 iM 8 6,iM 9 0,iK 10 9,iT 11 .lss 8 10,iM 12 11,jM 13 0 12 true,
 jM 14 6 12 true,
 jA 15 1 13 14 12 true,
 jL 16 15 12 true,
 jM 17 1 12 true,
 jT 18 .lss 16 17 12 true,
 iP 19 12 18])
 (.cond (.tmp 19)
 .skip
 (.exit 0)))
 (.seq (.blk 1
 (.reg [
 iM 22 5,iM 23 0,iM 24 6,iA 25 1 23 24,iL 26 25,⟨some 27,.lbs 3 1 [(.int .i64 0)] 1 [(0,.tmp 26)],none⟩,⟨some 28,.app 3 1 (.tmp 22) (.tmp 27),none⟩,iM 5 28]))
 (.reg [
 iM 20 6,iO 21 .add 20 1,iM 6 21])))
def b64:PCode :=
 (.seq (.reg [
 iH 4])
 (.seq (.reg [
 iH 5])
 (.seq (.seq (.reg [
 iI 6 0])
 (.blk 0
 (.loop q64x0)))
 (.seq (.reg [
 iM 29 5,iK 30 29,iM 7 30])
 (.seq (.reg [
 iM 31 5,iM 32 1,⟨some 33,.lbs 3 1 [(.int .i64 0)] 1 [(0,.tmp 32)],none⟩,⟨some 34,.app 3 1 (.tmp 31) (.tmp 33),none⟩,iM 5 34])
 (.seq (.seq (.reg [
 iM 35 7,iM 36 0,iK 37 36,iT 38 .lss 35 37,iM 39 38,jM 40 0 39 true,
 jM 41 7 39 true,
 jA 42 1 40 41 39 true,
 jL 43 42 39 true,
 jM 44 1 39 true,
 jT 45 .eql 43 44 39 true,
 iP 46 39 45])
 (.cond (.tmp 46)
 (.reg [
 iM 47 7,iO 48 .add 47 1,iM 7 48])
 .skip))
 (.seq (.reg [
 iM 49 5,iM 50 0,iM 51 7,⟨some 52,.v (.sl 1 true false) [.tmp 50,.tmp 51],none⟩,⟨some 53,.app 3 1 (.tmp 49) (.tmp 52),none⟩,iM 4 53])
 .ret)))))))
def p64:PFunc:=⟨54,[(4,none)],none,b64⟩
def b65:PCode :=
 (.seq (.reg [
 iV 1 26 0,iI 2 0])
 (.seq (.seq (.reg [
 iN 3 3 1,iX 4 75 3,iR 5 4])
 (.cond (.tmp 5)
 (.seq (.reg [
 iI 2 2])
 .ret)
 .skip))
 (.seq (.reg [
 iI 2 0])
 .ret)))
def p65:PFunc:=⟨6,[(2,none)],none,b65⟩
def q66x0:PCode :=
 (.seq (.seq (.reg [
 iM 9 5,iM 10 1,iK 11 10,iT 12 .lss 9 11])
 (.cond (.tmp 12)
 .skip
 (.exit 0)))
 (.seq (.blk 1
 (.seq (.dreg [
 iN 15 3 2,iM 16 1,iM 17 5,iN 18 3 2,iX 19 39 18,⟨some 20,.call (.func 83) [.tmp 15,.tmp 16,.tmp 17,.tmp 19],none⟩,iM 21 20,jN 22 3 2 21 false,
 jM 23 1 21 false,
 jM 24 5 21 false,
 jN 25 3 2 21 false,
 jX 26 38 25 21 false,
 ⟨some 27,.call (.func 84) [.tmp 22,.tmp 23,.tmp 24,.tmp 26],some (21,false)⟩,
 iQ 28 21 27] [⟨4,false,false⟩,fA,fA,⟨4,true,false⟩,fE,fD,fC,⟨4,false,false⟩,fA,fA,⟨4,true,false⟩,fE,fD,fC])
 (.cond (.tmp 28)
 (.seq (.reg [
 iI 4 1])
 .ret)
 .skip)))
 (.reg [
 iM 13 5,iO 14 .add 13 1,iM 5 14])))
def b66:PCode :=
 (.seq (.reg [
 iV 2 26 0,iI 4 0])
 (.seq (.seq (.reg [
 iN 6 3 2,iM 7 1,iY 8 91 6 7])
 (.cond (.tmp 8)
 (.seq (.reg [
 iI 4 3])
 .ret)
 .skip))
 (.seq (.seq (.reg [
 iI 5 0])
 (.blk 0
 (.loop q66x0)))
 (.seq (.reg [
 iI 4 2])
 .ret))))
def p66:PFunc:=⟨29,[(4,none)],none,b66⟩
def b68:PCode :=
 (.seq (.reg [
 ⟨some 1,.box 9 (.tmp 0),none⟩,⟨some 2,.lalloc 26 (.agg #[(.slice none 0 0),(.slice none 0 0),(.slice none 0 0)]),none⟩,iI 3 0])
 (.seq (.seq (.reg [
 iL 7 1,⟨some 8,.v .slen [.tmp 7],none⟩,iO 9 .gtr 8 260])
 (.cond (.tmp 9)
 (.seq (.reg [
 ⟨some 10,.v (.bld [(.slice none 0 0),(.slice none 0 0),(.slice none 0 0)] []) [],none⟩,iS 3 2 10,iI 3 3])
 .ret)
 .skip))
 (.seq (.reg [
 ⟨some 4,.alloc 26 (.agg #[(.slice none 0 0),(.slice none 0 0),(.slice none 0 0)]),none⟩])
 (.seq (.seq (.reg [
 ⟨some 12,.v (.mkf (.func 110) 0) [.tmp 1,.tmp 4],none⟩,iX 13 109 12,iM 11 13,iE 14 0 11,iE 15 1 11,⟨some 5,.lalloc 100 (.agg #[(.int .i64 0),(.int .i64 0)]),none⟩,iS 2 5 14,iM 6 15])
 (.seq (.reg [
 iM 16 6,iO 17 .neq 16 0])
 (.cond (.tmp 17)
 (.seq (.reg [
 ⟨some 18,.v (.bld [(.slice none 0 0),(.slice none 0 0),(.slice none 0 0)] []) [],none⟩,iM 19 6,iS 3 2 18,iM 3 19])
 .ret)
 .skip)))
 (.seq (.seq (.reg [
 iN 20 3 4,iX 21 75 20,iR 22 21])
 (.cond (.tmp 22)
 (.seq (.reg [
 ⟨some 23,.v (.bld [(.slice none 0 0),(.slice none 0 0),(.slice none 0 0)] []) [],none⟩,iS 3 2 23,iI 3 2])
 .ret)
 .skip))
 (.seq (.reg [
 iN 24 3 4,iS 3 2 24,iI 3 0])
 .ret))))))
def p68:PFunc:=⟨25,[(2,some (some 3)),(3,none)],none,b68⟩
def q69x0:PCode :=
 (.seq (.seq (.reg [
 iM 37 6,iF 38 2 1,iL 39 38,iK 40 39,iT 41 .lss 37 40])
 (.cond (.tmp 41)
 .skip
 (.exit 2)))
 (.seq (.blk 3
 (.dreg [
 iM 44 3,iF 45 2 1,iL 46 45,iM 47 6,iA 48 2 46 47,iF 49 0 48,iL 50 49,iF 51 2 1,iL 52 51,iM 53 6,iA 54 2 52 53,iF 55 1 54,iL 56 55,⟨some 57,.bs 3 1 [(.int .i64 0)] 2 [(0,.tmp 50),(1,.tmp 56)],none⟩,⟨some 58,.call (.func 112) [.const (.string ⟨#[99,111,97,116]⟩),.tmp 57],none⟩,⟨some 59,.lbs 9 1 [(.string ⟨#[]⟩)] 1 [(0,.tmp 58)],none⟩,⟨some 60,.app 9 1 (.tmp 44) (.tmp 59),none⟩,iM 3 60] [fA,fA,⟨3,false,false⟩,fA,fA,fA,fB,fA,⟨3,false,false⟩,fA,fA,fA,fB,fE,fE,⟨61,true,false⟩,fD,fC]))
 (.reg [
 iM 42 6,iO 43 .add 42 1,iM 6 43])))
def q69x1:PCode :=
 (.seq (.seq (.reg [
 iM 7 4,iF 8 0 1,iL 9 8,iK 10 9,iT 11 .lss 7 10])
 (.cond (.tmp 11)
 .skip
 (.exit 0)))
 (.seq (.blk 1
 (.seq (.reg [
 ⟨some 5,.v .mv [.const (.string ⟨#[32,110,111]⟩)],none⟩])
 (.seq (.seq (.reg [
 iF 14 1 1,iL 15 14,iM 16 4,iY 17 51 15 16])
 (.cond (.tmp 17)
 (.reg [
 ⟨some 5,.v .mv [.const (.string ⟨#[32,121,101,115]⟩)],none⟩])
 .skip))
 (.dreg [
 iM 18 3,iF 19 0 1,iL 20 19,iM 21 4,iA 22 2 20 21,iF 23 0 22,iL 24 23,iF 25 0 1,iL 26 25,iM 27 4,iA 28 2 26 27,iF 29 1 28,iL 30 29,⟨some 31,.bs 3 1 [(.int .i64 0)] 2 [(0,.tmp 24),(1,.tmp 30)],none⟩,⟨some 32,.call (.func 112) [.const (.string ⟨#[100,97,121]⟩),.tmp 31],none⟩,iM 33 5,⟨some 34,.v (.sb .add) [.tmp 32,.tmp 33],none⟩,⟨some 35,.lbs 9 1 [(.string ⟨#[]⟩)] 1 [(0,.tmp 34)],none⟩,⟨some 36,.app 9 1 (.tmp 18) (.tmp 35),none⟩,iM 3 36] [fA,fA,⟨3,false,false⟩,fA,fA,fA,fB,fA,⟨3,false,false⟩,fA,fA,fA,fB,fE,fE,fA,fF,⟨37,true,false⟩,fD,fC]))))
 (.reg [
 iM 12 4,iO 13 .add 12 1,iM 4 13])))
def b69:PCode :=
 (.seq (.reg [
 iV 1 26 0,⟨some 2,.v .mv [.const (.string ⟨#[]⟩)],none⟩])
 (.seq (.reg [
 iH 3])
 (.seq (.seq (.reg [
 iI 4 0])
 (.blk 0
 (.loop q69x1)))
 (.seq (.seq (.reg [
 iI 6 0])
 (.blk 2
 (.loop q69x0)))
 (.seq (.reg [
 iM 61 3,⟨some 62,.call (.func 113) [.tmp 61,.const (.int .i64 181)],none⟩,iM 2 62])
 .ret)))))
def p69:PFunc:=⟨63,[(2,none)],none,b69⟩
def b72:PCode :=
 (.seq (.reg [
 ⟨some 0,.lalloc 26 (.agg #[(.slice none 0 0),(.slice none 0 0),(.slice none 0 0)]),none⟩])
 (.seq (.reg [
 ⟨some 1,.call (.func 116) [.const (.int .i64 6),.const (.int .i64 8)],none⟩,⟨some 2,.call (.func 116) [.const (.int .i64 4),.const (.int .i64 6)],none⟩,⟨some 3,.call (.func 116) [.const (.int .i64 8),.const (.int .i64 10)],none⟩,⟨some 4,.call (.func 116) [.const (.int .i64 2),.const (.int .i64 4)],none⟩,⟨some 5,.call (.func 116) [.const (.int .i64 6),.const (.int .i64 6)],none⟩,⟨some 6,.call (.func 116) [.const (.int .i64 5),.const (.int .i64 9)],none⟩,⟨some 7,.call (.func 116) [.const (.int .i64 8),.const (.int .i64 12)],none⟩,⟨some 8,.call (.func 116) [.const (.int .i64 4),.const (.int .i64 4)],none⟩,⟨some 9,.bs 75 2 [(.int .i64 0),(.int .i64 0)] 8 [(0,.tmp 1),(1,.tmp 2),(2,.tmp 3),(3,.tmp 4),(4,.tmp 5),(5,.tmp 6),(6,.tmp 7),(7,.tmp 8)],none⟩,⟨some 10,.bs 3 1 [(.int .i64 0)] 5 [(0,.const (.int .i64 0)),(1,.const (.int .i64 2)),(2,.const (.int .i64 3)),(3,.const (.int .i64 5)),(4,.const (.int .i64 6))],none⟩,⟨some 11,.v (.bld [(.int .i64 0),(.int .i64 0)] [(0,1),(1,1)]) [.const (.int .i64 9),.const (.int .i64 20)],none⟩,⟨some 12,.v (.bld [(.int .i64 0),(.int .i64 0)] [(0,1),(1,1)]) [.const (.int .i64 10),.const (.int .i64 20)],none⟩,⟨some 13,.v (.bld [(.int .i64 0),(.int .i64 0)] [(0,1),(1,1)]) [.const (.int .i64 8),.const (.int .i64 30)],none⟩,⟨some 14,.bs 51 2 [(.int .i64 0),(.int .i64 0)] 3 [(0,.tmp 11),(1,.tmp 12),(2,.tmp 13)],none⟩,⟨some 15,.v (.bld [(.slice none 0 0),(.slice none 0 0),(.slice none 0 0)] [(0,1),(1,1),(2,1)]) [.tmp 9,.tmp 10,.tmp 14],none⟩,iS 3 0 15])
 .ret))
def p72:PFunc:=⟨16,[(0,some (some 3))],none,b72⟩
def b73:PCode :=
 (.seq (.reg [
 ⟨some 0,.lalloc 26 (.agg #[(.slice none 0 0),(.slice none 0 0),(.slice none 0 0)]),none⟩])
 (.seq (.reg [
 iW 2 72,⟨some 1,.lalloc 26 (.agg #[(.slice none 0 0),(.slice none 0 0),(.slice none 0 0)]),none⟩,iS 3 1 2])
 (.seq (.reg [
 ⟨some 3,.bs 3 1 [(.int .i64 0)] 8 [(0,.const (.int .i64 0)),(1,.const (.int .i64 1)),(2,.const (.int .i64 2)),(3,.const (.int .i64 3)),(4,.const (.int .i64 4)),(5,.const (.int .i64 5)),(6,.const (.int .i64 6)),(7,.const (.int .i64 7))],none⟩,iF 4 1 1,iS 1 4 3])
 (.seq (.reg [
 iN 5 3 1,iS 3 0 5])
 .ret))))
def p73:PFunc:=⟨6,[(0,some (some 3))],none,b73⟩
end Go.Pi.Coa
