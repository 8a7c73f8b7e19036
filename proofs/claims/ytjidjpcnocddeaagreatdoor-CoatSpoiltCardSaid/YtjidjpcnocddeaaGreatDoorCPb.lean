/- The functions of coats, in the small language. -/
import Derived.Test.YtjidjpcnocddeaaGreatDoorPiI
set_option linter.all false
set_option maxRecDepth 100000
namespace Go.Pi.Coa
open Go Go.Pi
abbrev iM (d:Nat)(s:Nat):PIns:=⟨some d,.v .mv [.tmp s],none⟩
abbrev jM (d:Nat)(s:Nat)(g:Nat)(h:Bool):PIns:=⟨some d,.v .mv [.tmp s],some (g,h)⟩
abbrev iL (d:Nat)(s:Nat):PIns:=⟨some d,.ld none (.tmp s),none⟩
abbrev jL (d:Nat)(s:Nat)(g:Nat)(h:Bool):PIns:=⟨some d,.ld none (.tmp s),some (g,h)⟩
abbrev iI (d:Nat)(n:Int):PIns:=⟨some d,.v .mv [.const (.int .i64 n)],none⟩
abbrev iF (d:Nat)(o s:Nat):PIns:=⟨some d,.v (.fa o) [.tmp s],none⟩
abbrev jF (d:Nat)(o s:Nat)(g:Nat)(h:Bool):PIns:=⟨some d,.v (.fa o) [.tmp s],some (g,h)⟩
abbrev iN (d:Nat)(n s:Nat):PIns:=⟨some d,.ld (some n) (.tmp s),none⟩
abbrev jN (d:Nat)(n s:Nat)(g:Nat)(h:Bool):PIns:=⟨some d,.ld (some n) (.tmp s),some (g,h)⟩
abbrev iE (d:Nat)(n s:Nat):PIns:=⟨some d,.v (.ext n) [.tmp s],none⟩
abbrev iW (d:Nat)(f:Nat):PIns:=⟨some d,.call (.func f) [],none⟩
abbrev jW (d:Nat)(f:Nat)(g:Nat)(h:Bool):PIns:=⟨some d,.call (.func f) [],some (g,h)⟩
abbrev iX (d:Nat)(f a:Nat):PIns:=⟨some d,.call (.func f) [.tmp a],none⟩
abbrev jX (d:Nat)(f a:Nat)(g:Nat)(h:Bool):PIns:=⟨some d,.call (.func f) [.tmp a],some (g,h)⟩
abbrev iY (d:Nat)(f a b:Nat):PIns:=⟨some d,.call (.func f) [.tmp a,.tmp b],none⟩
abbrev jY (d:Nat)(f a b:Nat)(g:Nat)(h:Bool):PIns:=⟨some d,.call (.func f) [.tmp a,.tmp b],some (g,h)⟩
abbrev iZ (d:Nat)(f a b c:Nat):PIns:=⟨some d,.call (.func f) [.tmp a,.tmp b,.tmp c],none⟩
abbrev jZ (d:Nat)(f a b c:Nat)(g:Nat)(h:Bool):PIns:=⟨some d,.call (.func f) [.tmp a,.tmp b,.tmp c],some (g,h)⟩
abbrev iK (d:Nat)(s:Nat):PIns:=⟨some d,.v .len [.tmp s],none⟩
abbrev jK (d:Nat)(s:Nat)(g:Nat)(h:Bool):PIns:=⟨some d,.v .len [.tmp s],some (g,h)⟩
abbrev iA (d:Nat)(k a b:Nat):PIns:=⟨some d,.v (.ia k) [.tmp a,.tmp b],none⟩
abbrev jA (d:Nat)(k a b:Nat)(g:Nat)(h:Bool):PIns:=⟨some d,.v (.ia k) [.tmp a,.tmp b],some (g,h)⟩
abbrev iB (d:Nat)(b:Bool):PIns:=⟨some d,.v .mv [.const (.bool b)],none⟩
abbrev iP (d:Nat)(a b:Nat):PIns:=⟨some d,.v .pick [.tmp a,.tmp b,.const (.bool false)],none⟩
abbrev jP (d:Nat)(a b:Nat)(g:Nat)(h:Bool):PIns:=⟨some d,.v .pick [.tmp a,.tmp b,.const (.bool false)],some (g,h)⟩
abbrev iQ (d:Nat)(a b:Nat):PIns:=⟨some d,.v .pick [.tmp a,.const (.bool true),.tmp b],none⟩
abbrev iO (d:Nat)(o:BinOp)(s:Nat)(n:Int):PIns:=⟨some d,.v (.ib o) [.tmp s,.const (.int .i64 n)],none⟩
abbrev jO (d:Nat)(o:BinOp)(s:Nat)(n:Int)(g:Nat)(h:Bool):PIns:=⟨some d,.v (.ib o) [.tmp s,.const (.int .i64 n)],some (g,h)⟩
abbrev iT (d:Nat)(o:BinOp)(a b:Nat):PIns:=⟨some d,.v (.ib o) [.tmp a,.tmp b],none⟩
abbrev jT (d:Nat)(o:BinOp)(a b:Nat)(g:Nat)(h:Bool):PIns:=⟨some d,.v (.ib o) [.tmp a,.tmp b],some (g,h)⟩
abbrev iH (d:Nat) : PIns:=⟨some d,.v .mv [.const (.slice none 0 0)],none⟩
abbrev iR (d:Nat)(s:Nat):PIns:=⟨some d,.v .no [.tmp s],none⟩
abbrev jR (d:Nat)(s:Nat)(g:Nat)(h:Bool):PIns:=⟨some d,.v .no [.tmp s],some (g,h)⟩
abbrev iV (d:Nat)(t s:Nat):PIns:=⟨some d,.lbox t (.tmp s),none⟩
abbrev iS (n a s:Nat):PIns:=⟨none,.st n (.tmp a) (.tmp s),none⟩
abbrev fA:Flag:=⟨0,false,none⟩
abbrev fB:Flag:=⟨1,false,none⟩
abbrev fC:Flag:=⟨0,true,none⟩
abbrev fD:Flag:=⟨1,true,some []⟩
abbrev fE:Flag:=⟨1,true,none⟩

def b3:PCode :=
 (.seq (.reg [
 iV 3 26 0,iB 6 false])
 (.seq (.seq (.reg [
 iN 9 3 3,iX 10 22 9,iR 11 10,iM 12 11,jM 13 1 12 false,
 jK 14 13 12 false,
 jO 15 .gtr 14 7 12 false,
 iQ 16 12 15,iM 17 16,jM 18 2 17 false,
 jK 19 18 17 false,
 jO 20 .gtr 19 14 17 false,
 iQ 21 17 20])
 (.cond (.tmp 21)
 (.seq (.reg [
 iW 22 23,iM 6 22])
 .ret)
 .skip))
 (.seq (.reg [
 iN 24 3 3,iM 25 1,iM 26 2,iZ 27 24 24 25 26,iM 23 27,iE 28 0 23,iE 29 1 23,iM 7 28,iM 8 29])
 (.seq (.seq (.reg [
 iN 30 3 3,iX 31 25 30,iR 32 31,iM 33 32,jN 34 3 3 33 false,
 jM 35 1 33 false,
 jY 36 26 34 35 33 false,
 jR 37 36 33 false,
 iQ 38 33 37,iM 39 38,jN 40 3 3 39 false,
 jM 41 2 39 false,
 jY 42 27 40 41 39 false,
 jR 43 42 39 false,
 iQ 44 39 43])
 (.cond (.tmp 44)
 (.seq (.reg [
 iM 45 8,iO 46 .eql 45 2,iM 47 46,jM 48 7 47 true,
 jR 49 48 47 true,
 iP 50 47 49,iM 51 50,jW 52 23 51 true,
 iP 53 51 52,iM 6 53])
 .ret)
 .skip))
 (.seq (.reg [
 iM 54 8,iO 55 .eql 54 0,iM 56 55,jM 57 7 56 true,
 jN 58 3 3 56 true,
 jM 59 1 56 true,
 jM 60 2 56 true,
 jZ 61 28 58 59 60 56 true,
 ⟨some 62,.v (.bb false) [.tmp 57,.tmp 61],some (56,true)⟩,
 iP 63 56 62,iM 64 63,jW 65 23 64 true,
 iP 66 64 65,iM 6 66])
 .ret)))))
def p3:PFunc:=⟨67,[(6,none)],none,b3⟩
def b18:PCode :=
 (.seq (.reg [
 iV 2 26 0,iB 4 false])
 (.seq (.seq (.reg [
 iN 8 3 2,iX 9 22 8,iR 10 9,iM 11 10,jM 12 1 11 false,
 jK 13 12 11 false,
 jO 14 .gtr 13 7 11 false,
 iQ 15 11 14])
 (.cond (.tmp 15)
 (.seq (.reg [
 iW 16 23,iM 4 16])
 .ret)
 .skip))
 (.seq (.reg [
 iN 17 3 2,iX 18 65 17,iM 5 18])
 (.seq (.reg [
 iN 20 3 2,iM 21 1,iY 22 30 20 21,iM 19 22,iE 23 0 19,iE 24 1 19,iM 6 23,iM 7 24])
 (.seq (.seq (.reg [
 iN 25 3 2,iX 26 25 25,iR 27 26])
 (.cond (.tmp 27)
 (.seq (.reg [
 iM 28 5,iO 29 .eql 28 2,iM 30 29,jM 31 7 30 true,
 jO 32 .eql 31 2 30 true,
 iP 33 30 32,iM 34 33,jM 35 6 34 true,
 jO 36 .eql 35 0 34 true,
 iP 37 34 36,iM 38 37,jW 39 23 38 true,
 iP 40 38 39,iM 4 40])
 .ret)
 .skip))
 (.seq (.seq (.reg [
 iM 41 5,iO 42 .neq 41 0])
 (.cond (.tmp 42)
 (.seq (.reg [
 iB 4 false])
 .ret)
 .skip))
 (.seq (.seq (.reg [
 iN 43 3 2,iM 44 1,iY 45 26 43 44,iR 46 45])
 (.cond (.tmp 46)
 (.seq (.reg [
 iM 47 7,iO 48 .eql 47 2,iM 49 48,jM 50 6 49 true,
 jO 51 .eql 50 0 49 true,
 iP 52 49 51,iM 53 52,jW 54 23 53 true,
 iP 55 53 54,iM 4 55])
 .ret)
 .skip))
 (.seq (.reg [
 iM 56 7,iO 57 .eql 56 0,iM 58 57,jM 59 6 58 true,
 jN 60 3 2 58 true,
 jM 61 1 58 true,
 jY 62 66 60 61 58 true,
 jT 63 .eql 59 62 58 true,
 iP 64 58 63,iM 65 64,jW 66 23 65 true,
 iP 67 65 66,iM 4 67])
 .ret))))))))
def p18:PFunc:=⟨68,[(4,none)],none,b18⟩
def b19:PCode :=
 (.seq (.reg [
 iV 1 26 0,iB 2 false])
 (.seq (.seq (.reg [
 iN 7 3 1,iX 8 22 7,iR 9 8])
 (.cond (.tmp 9)
 (.seq (.reg [
 iW 10 23,iM 2 10])
 .ret)
 .skip))
 (.seq (.reg [
 iN 12 3 1,iX 13 67 12,iM 11 13,iE 14 0 11,iE 15 1 11,iM 3 14,iM 4 15])
 (.seq (.seq (.reg [
 iN 16 3 1,iX 17 25 16,iR 18 17])
 (.cond (.tmp 18)
 (.seq (.reg [
 iM 19 4,iO 20 .eql 19 2,iM 21 20,jM 22 3 21 true,
 ⟨some 23,.v (.sb .eql) [.tmp 22,.const (.string ⟨#[]⟩)],some (21,true)⟩,
 iP 24 21 23,iM 25 24,jW 26 23 25 true,
 iP 27 25 26,iM 2 27])
 .ret)
 .skip))
 (.seq (.reg [
 iM 29 3,iX 30 68 29,iM 28 30,iE 31 0 28,iE 32 1 28,⟨some 5,.lalloc 26 (.agg #[(.slice none 0 0),(.slice none 0 0),(.slice none 0 0)]),none⟩,iS 3 5 31,iM 6 32])
 (.seq (.reg [
 iM 33 4,iO 34 .eql 33 0,iM 35 34,jM 36 3 35 true,
 jN 37 3 1 35 true,
 jX 38 69 37 35 true,
 ⟨some 39,.v (.sb .eql) [.tmp 36,.tmp 38],some (35,true)⟩,
 iP 40 35 39,iM 41 40,jM 42 6 41 true,
 jO 43 .eql 42 0 41 true,
 iP 44 41 43,iM 45 44,jN 46 3 5 45 true,
 jN 47 3 1 45 true,
 jY 48 70 46 47 45 true,
 iP 49 45 48,iM 50 49,jW 51 23 50 true,
 iP 52 50 51,iM 2 52])
 .ret))))))
def p19:PFunc:=⟨53,[(2,none)],none,b19⟩
def b20:PCode :=
 (.seq (.reg [
 iB 2 false])
 (.seq (.seq (.reg [
 iM 10 0,⟨some 11,.v .slen [.tmp 10],none⟩,iO 12 .gtr 11 360])
 (.cond (.tmp 12)
 (.seq (.reg [
 iW 13 23,iM 2 13])
 .ret)
 .skip))
 (.seq (.reg [
 iM 15 0,iX 16 68 15,iM 14 16,iE 17 0 14,iE 18 1 14,⟨some 3,.lalloc 26 (.agg #[(.slice none 0 0),(.slice none 0 0),(.slice none 0 0)]),none⟩,iS 3 3 17,iM 4 18])
 (.seq (.reg [
 iM 20 0,iX 21 71 20,iM 19 21,iE 22 0 19,iE 23 1 19,⟨some 5,.lalloc 26 (.agg #[(.slice none 0 0),(.slice none 0 0),(.slice none 0 0)]),none⟩,iS 3 5 22,iM 6 23])
 (.seq (.reg [
 iI 7 0])
 (.seq (.seq (.reg [
 iM 24 0,⟨some 25,.v .slen [.tmp 24],none⟩,iO 26 .gtr 25 260])
 (.cond (.tmp 26)
 (.reg [
 iI 7 3])
 (.seq (.reg [
 iM 27 6,iR 28 27])
 (.cond (.tmp 28)
 (.reg [
 iI 7 4])
 (.seq (.reg [
 iN 29 3 5,iX 30 25 29,iR 31 30])
 (.cond (.tmp 31)
 (.reg [
 iI 7 2])
 .skip))))))
 (.seq (.seq (.reg [
 iM 32 7,iO 33 .neq 32 0])
 (.cond (.tmp 33)
 (.seq (.reg [
 iM 34 4,iM 35 7,iT 36 .eql 34 35,iM 37 36,jN 38 3 3 37 true,
 ⟨some 39,.v (.bld [(.slice none 0 0),(.slice none 0 0),(.slice none 0 0)] []) [],some (37,true)⟩,
 jY 40 70 38 39 37 true,
 iP 41 37 40,iM 42 41,jW 43 23 42 true,
 iP 44 42 43,iM 2 44])
 .ret)
 .skip))
 (.seq (.reg [
 iN 46 3 3,iX 47 67 46,iM 45 47,iE 48 0 45,iE 49 1 45,iM 8 48,iM 9 49])
 (.seq (.reg [
 iM 50 4,iO 51 .eql 50 0,iM 52 51,jN 53 3 3 52 true,
 jN 54 3 5 52 true,
 jY 55 70 53 54 52 true,
 iP 56 52 55,iM 57 56,jM 58 9 57 true,
 jO 59 .eql 58 0 57 true,
 iP 60 57 59,iM 61 60,jM 62 8 61 true,
 jM 63 0 61 true,
 ⟨some 64,.v (.sb .eql) [.tmp 62,.tmp 63],some (61,true)⟩,
 iP 65 61 64,iM 66 65,jW 67 23 66 true,
 iP 68 66 67,iM 2 68])
 .ret)))))))))
def p20:PFunc:=⟨69,[(2,none)],none,b20⟩
def b21:PCode :=
 (.seq (.reg [
 iV 3 26 0,iB 6 false])
 (.seq (.seq (.reg [
 iN 12 3 3,iX 13 22 12,iR 14 13,iM 15 14,jN 16 3 3 15 false,
 jX 17 25 16 15 false,
 jR 18 17 15 false,
 iQ 19 15 18,iM 20 19,jM 21 2 20 false,
 jO 22 .lss 21 0 20 false,
 iQ 23 20 22,iM 24 23,jM 25 2 24 false,
 jO 26 .gtr 25 9 24 false,
 iQ 27 24 26])
 (.cond (.tmp 27)
 (.seq (.reg [
 iW 28 23,iM 6 28])
 .ret)
 .skip))
 (.seq (.reg [
 iN 30 3 3,iX 31 67 30,iM 29 31,iE 32 0 29,iE 33 1 29,iM 7 32,iM 8 33])
 (.seq (.seq (.reg [
 iM 34 8,iO 35 .neq 34 0])
 (.cond (.tmp 35)
 (.seq (.reg [
 iB 6 false])
 .ret)
 .skip))
 (.seq (.seq (.reg [
 iM 36 1,iO 37 .lss 36 0,iM 38 37,jM 39 1 38 false,
 jM 40 7 38 false,
 ⟨some 41,.v .slen [.tmp 40],some (38,false)⟩,
 jT 42 .geq 39 41 38 false,
 iQ 43 38 42,iM 44 43,jM 45 7 44 false,
 jM 46 1 44 false,
 ⟨some 47,.v .ix [.tmp 45,.tmp 46],some (44,false)⟩,
 ⟨some 48,.v (.ib .lss) [.tmp 47,.const (.int .u8 48)],some (44,false)⟩,
 iQ 49 44 48,iM 50 49,jM 51 7 50 false,
 jM 52 1 50 false,
 ⟨some 53,.v .ix [.tmp 51,.tmp 52],some (50,false)⟩,
 ⟨some 54,.v (.ib .gtr) [.tmp 53,.const (.int .u8 57)],some (50,false)⟩,
 iQ 55 50 54,iM 56 55,jM 57 7 56 false,
 jM 58 1 56 false,
 ⟨some 59,.v .ix [.tmp 57,.tmp 58],some (56,false)⟩,
 ⟨some 60,.v (.ib .sub) [.tmp 59,.const (.int .u8 48)],some (56,false)⟩,
 ⟨some 61,.v (.cv .i64) [.tmp 60],some (56,false)⟩,
 jM 62 2 56 false,
 jT 63 .eql 61 62 56 false,
 iQ 64 56 63])
 (.cond (.tmp 64)
 (.seq (.reg [
 iW 65 23,iM 6 65])
 .ret)
 .skip))
 (.seq (.reg [
 iM 66 7,⟨some 67,.s2b 5 (.tmp 66),none⟩,iM 9 67])
 (.seq (.reg [
 iM 68 9,iM 69 1,iM 70 2,⟨some 71,.v (.ib .add) [.const (.int .i64 48),.tmp 70],none⟩,⟨some 72,.v (.cv .u8) [.tmp 71],none⟩,iA 73 1 68 69,iS 1 73 72])
 (.seq (.reg [
 iM 75 9,⟨some 76,.b2s (.tmp 75),none⟩,iX 77 68 76,iM 74 77,iE 78 0 74,iE 79 1 74,⟨some 10,.lalloc 26 (.agg #[(.slice none 0 0),(.slice none 0 0),(.slice none 0 0)]),none⟩,iS 3 10 78,iM 11 79])
 (.seq (.reg [
 iM 80 11,iO 81 .eql 80 4,iM 82 81,jN 83 3 10 82 true,
 ⟨some 84,.v (.bld [(.slice none 0 0),(.slice none 0 0),(.slice none 0 0)] []) [],some (82,true)⟩,
 jY 85 70 83 84 82 true,
 iP 86 82 85,iM 87 86,jW 88 23 87 true,
 iP 89 87 88,iM 6 89])
 .ret)))))))))
def p21:PFunc:=⟨90,[(6,none)],none,b21⟩
def b22:PCode :=
 (.seq (.reg [
 iV 1 26 0,iB 2 false])
 (.seq (.reg [
 iF 3 0 1,iL 4 3,iK 5 4,iO 6 .leq 5 14,iM 7 6,jF 8 1 1 7 true,
 jL 9 8 7 true,
 jK 10 9 7 true,
 jO 11 .leq 10 16 7 true,
 iP 12 7 11,iM 13 12,jF 14 2 1 13 true,
 jL 15 14 13 true,
 jK 16 15 13 true,
 jO 17 .leq 16 7 13 true,
 iP 18 13 17,iM 2 18])
 .ret))
def p22:PFunc:=⟨19,[(2,none)],none,b22⟩
def b23:PCode :=
 (.seq (.reg [
 iB 0 false])
 (.seq (.reg [
 iW 30 72,⟨some 31,.bs 3 1 [(.int .i64 0)] 3 [(0,.const (.int .i64 0)),(1,.const (.int .i64 3)),(2,.const (.int .i64 6))],none⟩,⟨some 32,.bs 3 1 [(.int .i64 0)] 8 [(0,.const (.int .i64 6)),(1,.const (.int .i64 5)),(2,.const (.int .i64 10)),(3,.const (.int .i64 2)),(4,.const (.int .i64 6)),(5,.const (.int .i64 5)),(6,.const (.int .i64 8)),(7,.const (.int .i64 4))],none⟩,iZ 33 24 30 31 32,iM 29 33,iE 34 0 29,iE 35 1 29,iM 1 34,iM 2 35])
 (.seq (.reg [
 iW 37 72,⟨some 38,.bs 3 1 [(.int .i64 0)] 3 [(0,.const (.int .i64 3)),(1,.const (.int .i64 5)),(2,.const (.int .i64 6))],none⟩,iY 39 30 37 38,iM 36 39,iE 40 0 36,iE 41 1 36,iM 3 40,iM 4 41])
 (.seq (.reg [
 iW 43 72,⟨some 44,.bs 3 1 [(.int .i64 0)] 3 [(0,.const (.int .i64 0)),(1,.const (.int .i64 3)),(2,.const (.int .i64 6))],none⟩,iY 45 32 43 44,iM 42 45,iE 46 0 42,iE 47 1 42,iE 48 2 42,iM 5 46,iM 6 47,iM 7 48])
 (.seq (.reg [
 iW 50 72,⟨some 51,.bs 3 1 [(.int .i64 0)] 3 [(0,.const (.int .i64 0)),(1,.const (.int .i64 3)),(2,.const (.int .i64 6))],none⟩,iY 52 31 50 51,iM 49 52,iE 53 0 49,iE 54 1 49,iM 8 53,iM 9 54])
 (.seq (.reg [
 iW 56 72,iX 57 41 56,iM 55 57,iE 58 0 55,iE 59 1 55,iM 10 58,iM 11 59])
 (.seq (.reg [
 iW 61 73,iX 62 42 61,iM 60 62,iE 63 0 60,iE 64 1 60,iM 12 63,iM 13 64])
 (.seq (.reg [
 iW 66 73,⟨some 67,.call (.func 45) [.tmp 66,.const (.int .i64 1)],none⟩,iM 65 67,iE 68 0 65,iE 69 1 65,iM 14 68,iM 15 69])
 (.seq (.reg [
 iW 71 73,iX 72 46 71,iM 70 72,iE 73 0 70,iE 74 1 70,iM 16 73,iM 17 74])
 (.seq (.reg [
 iW 76 73,iX 77 47 76,iM 75 77,iE 78 0 75,iE 79 1 75,iM 18 78,iM 19 79])
 (.seq (.reg [
 iW 81 74,iX 82 52 81,iM 80 82,iE 83 0 80,iE 84 1 80,iM 20 83,iM 21 84])
 (.seq (.reg [
 iW 86 74,iX 87 56 86,iM 85 87,iE 88 0 85,iE 89 1 85,iM 22 88,iM 23 89])
 (.seq (.reg [
 iW 91 73,⟨some 92,.bs 3 1 [(.int .i64 0)] 3 [(0,.const (.int .i64 0)),(1,.const (.int .i64 3)),(2,.const (.int .i64 6))],none⟩,⟨some 93,.call (.func 59) [.tmp 91,.tmp 92,.const (.int .i64 1)],none⟩,iM 90 93,iE 94 0 90,iE 95 1 90,iE 96 2 90,iM 24 94,iM 25 95,iM 26 96])
 (.seq (.reg [
 ⟨some 98,.call (.func 68) [.const (.string ⟨#[100,97,121,32,49,32,50,32,121,101,115,10,99,111,97,116,32,49,32,51,10,101,110,100,32,49,48,52,10]⟩)],none⟩,iM 97 98,iE 99 0 97,iE 100 1 97,⟨some 27,.lalloc 26 (.agg #[(.slice none 0 0),(.slice none 0 0),(.slice none 0 0)]),none⟩,iS 3 27 99,iM 28 100])
 (.seq (.seq (.reg [
 iM 101 2,iO 102 .neq 101 0,iM 103 102,jM 104 4 103 false,
 jO 105 .neq 104 0 103 false,
 iQ 106 103 105,iM 107 106,jM 108 7 107 false,
 jO 109 .neq 108 0 107 false,
 iQ 110 107 109,iM 111 110,jM 112 9 111 false,
 jO 113 .neq 112 0 111 false,
 iQ 114 111 113,iM 115 114,jM 116 11 115 false,
 jO 117 .neq 116 0 115 false,
 iQ 118 115 117,iM 119 118,jM 120 13 119 false,
 jO 121 .neq 120 0 119 false,
 iQ 122 119 121,iM 123 122,jM 124 15 123 false,
 jO 125 .neq 124 0 123 false,
 iQ 126 123 125,iM 127 126,jM 128 17 127 false,
 jO 129 .neq 128 0 127 false,
 iQ 130 127 129,iM 131 130,jM 132 19 131 false,
 jO 133 .neq 132 0 131 false,
 iQ 134 131 133,iM 135 134,jM 136 21 135 false,
 jO 137 .neq 136 0 135 false,
 iQ 138 135 137,iM 139 138,jM 140 23 139 false,
 jO 141 .neq 140 0 139 false,
 iQ 142 139 141,iM 143 142,jM 144 26 143 false,
 jO 145 .neq 144 0 143 false,
 iQ 146 143 145,iM 147 146,jM 148 28 147 false,
 jO 149 .neq 148 0 147 false,
 iQ 150 147 149])
 (.cond (.tmp 150)
 (.seq (.reg [
 iB 0 false])
 .ret)
 .skip))
 (.seq (.seq (.reg [
 iM 151 1,iM 152 151,jM 153 3 152 false,
 jO 154 .neq 153 1 152 false,
 iQ 155 152 154,iM 156 155,jM 157 5 156 false,
 jO 158 .neq 157 0 156 false,
 iQ 159 156 158,iM 160 159,jM 161 6 160 false,
 jO 162 .neq 161 2 160 false,
 iQ 163 160 162,iM 164 163,jM 165 8 164 false,
 ⟨some 166,.bs 3 1 [(.int .i64 0)] 8 [(0,.const (.int .i64 6)),(1,.const (.int .i64 5)),(2,.const (.int .i64 10)),(3,.const (.int .i64 2)),(4,.const (.int .i64 6)),(5,.const (.int .i64 5)),(6,.const (.int .i64 8)),(7,.const (.int .i64 4))],some (164,false)⟩,
 jY 167 35 165 166 164 false,
 jR 168 167 164 false,
 iQ 169 164 168,iM 170 169,jM 171 10 170 false,
 ⟨some 172,.bs 3 1 [(.int .i64 0)] 3 [(0,.const (.int .i64 0)),(1,.const (.int .i64 2)),(2,.const (.int .i64 5))],some (170,false)⟩,
 jY 173 35 171 172 170 false,
 jR 174 173 170 false,
 iQ 175 170 174,iM 176 175,jM 177 12 176 false,
 jO 178 .neq 177 5 176 false,
 iQ 179 176 178,iM 180 179,jM 181 14 180 false,
 ⟨some 182,.bs 3 1 [(.int .i64 0)] 3 [(0,.const (.int .i64 2)),(1,.const (.int .i64 3)),(2,.const (.int .i64 4))],some (180,false)⟩,
 jY 183 35 181 182 180 false,
 jR 184 183 180 false,
 iQ 185 180 184])
 (.cond (.tmp 185)
 (.seq (.reg [
 iB 0 false])
 .ret)
 .skip))
 (.seq (.reg [
 iM 186 16,iO 187 .eql 186 2,iM 188 187,jM 189 18 188 true,
 jO 190 .eql 189 4 188 true,
 iP 191 188 190,iM 192 191,jM 193 20 192 true,
 jO 194 .eql 193 2 192 true,
 iP 195 192 194,iM 196 195,jM 197 22 196 true,
 jO 198 .eql 197 2 196 true,
 iP 199 196 198,iM 200 199,jM 201 24 200 true,
 ⟨some 202,.bs 3 1 [(.int .i64 0)] 3 [(0,.const (.int .i64 0)),(1,.const (.int .i64 2)),(2,.const (.int .i64 4))],some (200,true)⟩,
 jY 203 35 201 202 200 true,
 iP 204 200 203,iM 205 204,jM 206 25 205 true,
 jO 207 .eql 206 2 205 true,
 iP 208 205 207,iM 209 208,jN 210 3 27 209 true,
 jX 211 69 210 209 true,
 ⟨some 212,.v (.sb .eql) [.tmp 211,.const (.string ⟨#[100,97,121,32,49,32,50,32,121,101,115,10,99,111,97,116,32,49,32,51,10,101,110,100,32,49,48,52,10]⟩)],some (209,true)⟩,
 iP 213 209 212,iM 0 213])
 .ret)))))))))))))))))
def p23:PFunc:=⟨214,[(0,none)],none,b23⟩
def q24x0:PCode :=
 (.seq (.reg [
 iT 34 .lss 33 32])
 (.seq (.cond (.tmp 34)
 .skip
 (.exit 0))
 (.seq (.blk 1
 (.seq (.reg [
 iM 35 33,iA 36 1 31 33,iL 37 36,iM 9 35,iM 10 37])
 (.seq (.reg [
 iN 39 5 8,iM 40 1,iM 41 9,iZ 42 79 39 40 41,iM 38 42,iE 43 0 38,iE 44 1 38,iM 11 43,iM 12 44])
 (.seq (.reg [
 iM 45 2,iM 46 10,iM 47 11,⟨some 48,.v (.sl 1 true true) [.tmp 45,.tmp 46,.tmp 47],none⟩,iX 49 80 48,iM 13 49])
 (.seq (.reg [
 iM 50 13,iF 51 2 3,iL 52 51,iM 53 9,iA 54 2 52 53,iF 55 0 54,iL 56 55,iT 57 .lss 50 56,iM 58 57,jM 59 12 58 false,
 jM 60 59 58 false,
 jM 61 13 60 true,
 jF 62 2 3 60 true,
 jL 63 62 60 true,
 jM 64 9 60 true,
 jA 65 2 63 64 60 true,
 jF 66 1 65 60 true,
 jL 67 66 60 true,
 jT 68 .gtr 61 67 60 true,
 jP 69 60 68 58 false,
 iQ 70 58 69])
 (.cond (.tmp 70)
 (.seq (.reg [
 iB 6 false,iI 7 0])
 .ret)
 .skip))))))
 (.reg [
 iO 71 .add 33 1,iM 33 71]))))
def b24:PCode :=
 (.seq (.reg [
 iV 3 26 0,iB 6 false,iI 7 0])
 (.seq (.seq (.reg [
 iN 14 3 3,iX 15 75 14,iR 16 15,iM 17 16,jN 18 3 3 17 false,
 jM 19 1 17 false,
 jY 20 76 18 19 17 false,
 jR 21 20 17 false,
 iQ 22 17 21,iM 23 22,jN 24 3 3 23 false,
 jM 25 2 23 false,
 jY 26 77 24 25 23 false,
 jR 27 26 23 false,
 iQ 28 23 27])
 (.cond (.tmp 28)
 (.seq (.reg [
 iB 6 false,iI 7 2])
 .ret)
 .skip))
 (.seq (.reg [
 iN 29 3 3,iX 30 78 29,⟨some 8,.lalloc 93 (.agg #[(.slice none 0 0),(.slice none 0 0),(.slice none 0 0),(.slice none 0 0),(.slice none 0 0)]),none⟩,iS 5 8 30])
 (.seq (.seq (.reg [
 iM 31 1,iK 32 31,iI 33 0])
 (.blk 0
 (.loop q24x0)))
 (.seq (.reg [
 iB 6 true,iI 7 0])
 .ret)))))
def p24:PFunc:=⟨72,[(6,none),(7,none)],none,b24⟩
def q25x0:PCode :=
 (.seq (.seq (.reg [
 iM 55 4,iF 56 2 1,iL 57 56,iK 58 57,iT 59 .lss 55 58])
 (.cond (.tmp 59)
 .skip
 (.exit 2)))
 (.seq (.blk 3
 (.seq (.dreg [
 iF 62 2 1,iL 63 62,iM 64 4,iA 65 2 63 64,iF 66 0 65,iL 67 66,⟨some 68,.call (.func 81) [.tmp 67,.const (.int .i64 1),.const (.int .i64 288)],none⟩,iR 69 68,iM 70 69,jF 71 2 1 70 false,
 jL 72 71 70 false,
 jM 73 4 70 false,
 jA 74 2 72 73 70 false,
 jF 75 1 74 70 false,
 jL 76 75 70 false,
 jF 77 2 1 70 false,
 jL 78 77 70 false,
 jM 79 4 70 false,
 jA 80 2 78 79 70 false,
 jF 81 0 80 70 false,
 jL 82 81 70 false,
 ⟨some 83,.call (.func 81) [.tmp 76,.tmp 82,.const (.int .i64 400)],some (70,false)⟩,
 jR 84 83 70 false,
 iQ 85 70 84] [fC,⟨3,true,none⟩,fC,fC,fC,fE,fD,fC,fC,fA,⟨3,false,none⟩,fA,fA,fA,fB,fA,⟨3,false,none⟩,fA,fA,fA,fB,fD,fC,fC])
 (.cond (.tmp 85)
 (.seq (.reg [
 iB 2 false])
 .ret)
 .skip)))
 (.reg [
 iM 60 4,iO 61 .add 60 1,iM 4 61])))
def q25x1:PCode :=
 (.seq (.seq (.reg [
 iM 24 3,iF 25 0 1,iL 26 25,iK 27 26,iT 28 .lss 24 27])
 (.cond (.tmp 28)
 .skip
 (.exit 0)))
 (.seq (.blk 1
 (.seq (.dreg [
 iF 31 0 1,iL 32 31,iM 33 3,iA 34 2 32 33,iF 35 0 34,iL 36 35,⟨some 37,.call (.func 81) [.tmp 36,.const (.int .i64 0),.const (.int .i64 24)],none⟩,iR 38 37,iM 39 38,jF 40 0 1 39 false,
 jL 41 40 39 false,
 jM 42 3 39 false,
 jA 43 2 41 42 39 false,
 jF 44 1 43 39 false,
 jL 45 44 39 false,
 jF 46 0 1 39 false,
 jL 47 46 39 false,
 jM 48 3 39 false,
 jA 49 2 47 48 39 false,
 jF 50 0 49 39 false,
 jL 51 50 39 false,
 ⟨some 52,.call (.func 81) [.tmp 45,.tmp 51,.const (.int .i64 24)],some (39,false)⟩,
 jR 53 52 39 false,
 iQ 54 39 53] [fC,⟨3,true,none⟩,fC,fC,fC,fE,fD,fC,fC,fA,⟨3,false,none⟩,fA,fA,fA,fB,fA,⟨3,false,none⟩,fA,fA,fA,fB,fD,fC,fC])
 (.cond (.tmp 54)
 (.seq (.reg [
 iB 2 false])
 .ret)
 .skip)))
 (.reg [
 iM 29 3,iO 30 .add 29 1,iM 3 30])))
def b25:PCode :=
 (.seq (.reg [
 iV 1 26 0,iB 2 false])
 (.seq (.seq (.reg [
 iF 5 0 1,iL 6 5,iK 7 6,⟨some 8,.call (.func 81) [.tmp 7,.const (.int .i64 1),.const (.int .i64 12)],none⟩,iR 9 8,iM 10 9,jF 11 2 1 10 false,
 jL 12 11 10 false,
 jK 13 12 10 false,
 ⟨some 14,.call (.func 81) [.tmp 13,.const (.int .i64 1),.const (.int .i64 5)],some (10,false)⟩,
 jR 15 14 10 false,
 iQ 16 10 15,iM 17 16,jN 18 3 1 17 false,
 jF 19 1 1 17 false,
 jL 20 19 17 false,
 jY 21 82 18 20 17 false,
 jR 22 21 17 false,
 iQ 23 17 22])
 (.cond (.tmp 23)
 (.seq (.reg [
 iB 2 false])
 .ret)
 .skip))
 (.seq (.seq (.reg [
 iI 3 0])
 (.blk 0
 (.loop q25x1)))
 (.seq (.seq (.reg [
 iI 4 0])
 (.blk 2
 (.loop q25x0)))
 (.seq (.reg [
 iB 2 true])
 .ret)))))
def p25:PFunc:=⟨86,[(2,none)],none,b25⟩
def q26x0:PCode :=
 (.seq (.seq (.reg [
 iM 6 5,iM 7 1,iK 8 7,iT 9 .lss 6 8])
 (.cond (.tmp 9)
 .skip
 (.exit 0)))
 (.seq (.blk 1
 (.seq (.dreg [
 iF 12 1 2,iL 13 12,iM 14 1,iM 15 5,iA 16 1 14 15,iL 17 16,iY 18 51 13 17,iR 19 18] [fA,⟨4,false,none⟩,fC,fC,fC,fE,fD,fC])
 (.cond (.tmp 19)
 (.seq (.reg [
 iB 4 false])
 .ret)
 .skip)))
 (.reg [
 iM 10 5,iO 11 .add 10 1,iM 5 11])))
def b26:PCode :=
 (.seq (.reg [
 iV 2 26 0,iB 4 false])
 (.seq (.seq (.reg [
 iI 5 0])
 (.blk 0
 (.loop q26x0)))
 (.seq (.reg [
 iM 20 1,iK 21 20,iF 22 2 2,iL 23 22,iK 24 23,iT 25 .eql 21 24,iM 26 25,jN 27 3 2 26 true,
 jM 28 1 26 true,
 jY 29 82 27 28 26 true,
 iP 30 26 29,iM 4 30])
 .ret)))
def p26:PFunc:=⟨31,[(4,none)],none,b26⟩
def q27x0:PCode :=
 (.seq (.seq (.reg [
 iM 12 5,iM 13 1,iK 14 13,iT 15 .lss 12 14])
 (.cond (.tmp 15)
 .skip
 (.exit 0)))
 (.seq (.blk 1
 (.seq (.dreg [
 iM 18 1,iM 19 5,iA 20 1 18 19,iL 21 20,iF 22 0 2,iL 23 22,iM 24 5,iA 25 2 23 24,iF 26 0 25,iL 27 26,iF 28 0 2,iL 29 28,iM 30 5,iA 31 2 29 30,iF 32 1 31,iL 33 32,iZ 34 81 21 27 33,iR 35 34] [fA,fA,fA,fB,fA,⟨4,false,none⟩,fA,fA,fA,fB,fA,⟨4,false,none⟩,fA,fA,fA,fB,fD,fC])
 (.cond (.tmp 35)
 (.seq (.reg [
 iB 4 false])
 .ret)
 .skip)))
 (.reg [
 iM 16 5,iO 17 .add 16 1,iM 5 17])))
def b27:PCode :=
 (.seq (.reg [
 iV 2 26 0,iB 4 false])
 (.seq (.seq (.reg [
 iM 6 1,iK 7 6,iF 8 0 2,iL 9 8,iK 10 9,iT 11 .neq 7 10])
 (.cond (.tmp 11)
 (.seq (.reg [
 iB 4 false])
 .ret)
 .skip))
 (.seq (.seq (.reg [
 iI 5 0])
 (.blk 0
 (.loop q27x0)))
 (.seq (.reg [
 iB 4 true])
 .ret))))
def p27:PFunc:=⟨36,[(4,none)],none,b27⟩
def q28x0:PCode :=
 (.seq (.seq (.reg [
 iM 8 7,iM 9 1,iK 10 9,iT 11 .lss 8 10])
 (.cond (.tmp 11)
 .skip
 (.exit 0)))
 (.seq (.blk 1
 (.seq (.reg [
 iN 14 3 3,iM 15 1,iM 16 7,iM 17 2,⟨some 18,.call (.func 83) [.tmp 14,.tmp 15,.tmp 16,.tmp 17],none⟩,iM 19 18,jN 20 3 3 19 false,
 jM 21 1 19 false,
 jM 22 7 19 false,
 jM 23 2 19 false,
 ⟨some 24,.call (.func 84) [.tmp 20,.tmp 21,.tmp 22,.tmp 23],some (19,false)⟩,
 iQ 25 19 24])
 (.cond (.tmp 25)
 (.seq (.reg [
 iB 6 false])
 .ret)
 .skip)))
 (.reg [
 iM 12 7,iO 13 .add 12 1,iM 7 13])))
def b28:PCode :=
 (.seq (.reg [
 iV 3 26 0,iB 6 false])
 (.seq (.seq (.reg [
 iI 7 0])
 (.blk 0
 (.loop q28x0)))
 (.seq (.reg [
 iB 6 true])
 .ret)))
def p28:PFunc:=⟨26,[(6,none)],none,b28⟩
def q30x0:PCode :=
 (.seq (.reg [
 iT 36 .lss 35 34])
 (.seq (.cond (.tmp 36)
 .skip
 (.exit 0))
 (.seq (.blk 1
 (.seq (.reg [
 iM 37 35,iA 38 1 33 35,iL 39 38,iM 9 37,iM 10 39])
 (.seq (.reg [
 iN 41 5 6,iM 42 1,iM 43 9,iZ 44 79 41 42 43,iM 40 44,iE 45 0 40,iE 46 1 40,iM 11 45,iM 12 46])
 (.seq (.reg [
 iN 47 5 6,iM 48 10,iM 49 11,iZ 50 86 47 48 49,⟨some 13,.lalloc 75 (.agg #[(.int .i64 0),(.int .i64 0)]),none⟩,iS 2 13 50])
 (.seq (.dreg [
 iF 51 1 13,iL 52 51,iF 53 2 2,iL 54 53,iM 55 9,iA 56 2 54 55,iF 57 0 56,iL 58 57,iT 59 .lss 52 58,iM 60 59,jM 61 12 60 false,
 jM 62 61 60 false,
 jF 63 0 13 62 true,
 jL 64 63 62 true,
 jF 65 2 2 62 true,
 jL 66 65 62 true,
 jM 67 9 62 true,
 jA 68 2 66 67 62 true,
 jF 69 1 68 62 true,
 jL 70 69 62 true,
 jT 71 .gtr 64 70 62 true,
 jP 72 62 71 60 false,
 iQ 73 60 72] [fA,⟨15,false,none⟩,fC,⟨4,true,none⟩,fC,fC,fC,fE,fC,fC,fC,fC,fA,⟨15,false,none⟩,fC,⟨4,true,none⟩,fC,fC,fC,fE,fC,fC,fC])
 (.cond (.tmp 73)
 (.seq (.reg [
 iI 4 1,iI 5 0])
 .ret)
 .skip))))))
 (.reg [
 iO 74 .add 35 1,iM 35 74]))))
def b30:PCode :=
 (.seq (.reg [
 iV 2 26 0,iI 4 0,iI 5 0])
 (.seq (.seq (.reg [
 iN 14 3 2,iX 15 75 14,iR 16 15,iM 17 16,jN 18 3 2 17 false,
 jM 19 1 17 false,
 jY 20 76 18 19 17 false,
 jR 21 20 17 false,
 iQ 22 17 21])
 (.cond (.tmp 22)
 (.seq (.reg [
 iI 4 0,iI 5 2])
 .ret)
 .skip))
 (.seq (.reg [
 iN 23 3 2,iX 24 78 23,⟨some 6,.lalloc 93 (.agg #[(.slice none 0 0),(.slice none 0 0),(.slice none 0 0),(.slice none 0 0),(.slice none 0 0)]),none⟩,iS 5 6 24])
 (.seq (.seq (.reg [
 iN 26 5 6,iM 27 1,iY 28 85 26 27,iM 25 28,iE 29 0 25,iE 30 1 25,⟨some 7,.lalloc 100 (.agg #[(.int .i64 0),(.int .i64 0)]),none⟩,iS 2 7 29,iM 8 30])
 (.seq (.reg [
 iM 31 8,iO 32 .eql 31 0])
 (.cond (.tmp 32)
 (.seq (.reg [
 iI 4 3,iI 5 0])
 .ret)
 .skip)))
 (.seq (.seq (.reg [
 iM 33 1,iK 34 33,iI 35 0])
 (.blk 0
 (.loop q30x0)))
 (.seq (.reg [
 iI 4 2,iI 5 0])
 .ret))))))
def p30:PFunc:=⟨75,[(4,none),(5,none)],none,b30⟩
def q31x0:PCode :=
 (.seq (.seq (.reg [
 iM 49 11,iF 50 1 10,iL 51 50,iT 52 .leq 49 51])
 (.cond (.tmp 52)
 .skip
 (.exit 2)))
 (.seq (.blk 3
 (.seq (.reg [
 iF 55 0 2,iL 56 55,iM 57 9,iM 58 11,iM 59 11,⟨some 60,.v (.bld [(.int .i64 0),(.int .i64 0)] [(0,1),(1,1)]) [.tmp 58,.tmp 59],none⟩,iA 61 2 56 57,iS 2 61 60])
 (.seq (.reg [
 iN 63 3 2,iX 64 78 63,iM 65 1,iY 66 85 64 65,iM 62 66,iE 67 0 62,iE 68 1 62,⟨some 12,.lalloc 100 (.agg #[(.int .i64 0),(.int .i64 0)]),none⟩,iS 2 12 67,iM 13 68])
 (.seq (.reg [
 iM 69 13,iO 70 .neq 69 0])
 (.cond (.tmp 70)
 (.seq (.reg [
 iM 71 8,iM 72 11,⟨some 73,.lbs 3 1 [(.int .i64 0)] 1 [(0,.tmp 72)],none⟩,⟨some 74,.app 3 1 (.tmp 71) (.tmp 73),none⟩,iM 8 74])
 (.exit 2))
 .skip)))))
 (.reg [
 iM 53 11,iO 54 .add 53 1,iM 11 54])))
def q31x1:PCode :=
 (.seq (.reg [
 iT 40 .lss 39 38])
 (.seq (.cond (.tmp 40)
 .skip
 (.exit 0))
 (.seq (.blk 1
 (.seq (.reg [
 iM 41 39,iM 9 41])
 (.seq (.reg [
 iF 42 0 2,iL 43 42,iM 44 9,iA 45 2 43 44,iN 46 2 45,⟨some 10,.lalloc 75 (.agg #[(.int .i64 0),(.int .i64 0)]),none⟩,iS 2 10 46])
 (.seq (.reg [
 iF 47 0 10,iL 48 47,iM 11 48])
 (.blk 2
 (.loop q31x0))))))
 (.reg [
 iO 75 .add 39 1,iM 39 75]))))
def b31:PCode :=
 (.seq (.reg [
 iV 2 26 0,iH 4,iI 5 0])
 (.seq (.seq (.reg [
 iN 14 3 2,iX 15 75 14,iR 16 15,iM 17 16,jN 18 3 2 17 false,
 jM 19 1 17 false,
 jY 20 76 18 19 17 false,
 jR 21 20 17 false,
 iQ 22 17 21])
 (.cond (.tmp 22)
 (.seq (.reg [
 iH 4,iI 5 2])
 .ret)
 .skip))
 (.seq (.seq (.reg [
 iN 24 3 2,iX 25 78 24,iM 26 1,iY 27 85 25 26,iM 23 27,iE 28 0 23,iE 29 1 23,⟨some 6,.lalloc 100 (.agg #[(.int .i64 0),(.int .i64 0)]),none⟩,iS 2 6 28,iM 7 29])
 (.seq (.reg [
 iM 30 7,iO 31 .eql 30 0])
 (.cond (.tmp 31)
 (.seq (.reg [
 iH 4,iI 5 5])
 .ret)
 .skip)))
 (.seq (.reg [
 iF 32 0 2,iL 33 32,iX 34 87 33,iF 35 0 2,iS 1 35 34])
 (.seq (.reg [
 iH 8])
 (.seq (.seq (.reg [
 iF 36 0 2,iL 37 36,iK 38 37,iI 39 0])
 (.blk 0
 (.loop q31x1)))
 (.seq (.reg [
 iM 76 8,iM 4 76,iI 5 0])
 .ret)))))))
def p31:PFunc:=⟨77,[(4,none),(5,none)],none,b31⟩
def b32:PCode :=
 (.seq (.reg [
 iV 2 26 0,iI 4 0,iI 5 0,iI 6 0])
 (.seq (.seq (.reg [
 iN 9 3 2,iX 10 75 9,iR 11 10,iM 12 11,jN 13 3 2 12 false,
 jM 14 1 12 false,
 jY 15 76 13 14 12 false,
 jR 16 15 12 false,
 iQ 17 12 16])
 (.cond (.tmp 17)
 (.seq (.reg [
 iI 4 0,iI 5 0,iI 6 2])
 .ret)
 .skip))
 (.seq (.reg [
 iN 19 3 2,iX 20 78 19,iM 21 1,iY 22 85 20 21,iM 18 22,iE 23 0 18,iE 24 1 18,⟨some 7,.lalloc 100 (.agg #[(.int .i64 0),(.int .i64 0)]),none⟩,iS 2 7 23,iM 8 24])
 (.seq (.seq (.reg [
 iM 25 8,iO 26 .eql 25 0])
 (.cond (.tmp 26)
 (.seq (.reg [
 iI 4 0,iI 5 0,iI 6 5])
 .ret)
 .skip))
 (.seq (.dreg [
 iF 27 0 7,iL 28 27,iF 29 1 7,iL 30 29,iM 4 28,iM 5 30,iI 6 0] [fC,⟨9,true,none⟩,fC,⟨9,true,none⟩,fC,fC,fC])
 .ret)))))
def p32:PFunc:=⟨31,[(4,none),(5,none),(6,none)],none,b32⟩
def q33x0:PCode :=
 (.seq (.seq (.reg [
 iM 8 7,iM 9 1,iK 10 9,iT 11 .lss 8 10])
 (.cond (.tmp 11)
 .skip
 (.exit 0)))
 (.seq (.blk 1
 (.seq (.seq (.dreg [
 iN 14 3 2,iM 15 1,iM 16 7,iN 17 3 2,iX 18 38 17,⟨some 19,.call (.func 83) [.tmp 14,.tmp 15,.tmp 16,.tmp 18],none⟩] [⟨4,false,none⟩,fA,fA,⟨4,true,none⟩,⟨1,true,some [14,15,16]⟩,fD])
 (.cond (.tmp 19)
 (.seq (.reg [
 iM 20 7,iM 4 20,iI 5 1,iB 6 true])
 .ret)
 .skip))
 (.seq (.dreg [
 iN 21 3 2,iM 22 1,iM 23 7,iN 24 3 2,iX 25 39 24,⟨some 26,.call (.func 84) [.tmp 21,.tmp 22,.tmp 23,.tmp 25],none⟩] [⟨4,false,none⟩,fA,fA,⟨4,true,none⟩,⟨1,true,some [21,22,23]⟩,fD])
 (.cond (.tmp 26)
 (.seq (.reg [
 iM 27 7,iM 4 27,iI 5 2,iB 6 true])
 .ret)
 .skip))))
 (.reg [
 iM 12 7,iO 13 .add 12 1,iM 7 13])))
def b33:PCode :=
 (.seq (.reg [
 iV 2 26 0,iI 4 0,iI 5 0,iB 6 false])
 (.seq (.seq (.reg [
 iI 7 0])
 (.blk 0
 (.loop q33x0)))
 (.seq (.reg [
 iI 4 0,iI 5 0,iB 6 false])
 .ret)))
def p33:PFunc:=⟨28,[(4,none),(5,none),(6,none)],none,b33⟩
def q35x0:PCode :=
 (.seq (.seq (.reg [
 iM 11 5,iM 12 0,iK 13 12,iT 14 .lss 11 13])
 (.cond (.tmp 14)
 .skip
 (.exit 0)))
 (.seq (.blk 1
 (.seq (.dreg [
 iM 17 0,iM 18 5,iA 19 1 17 18,iL 20 19,iM 21 1,iM 22 5,iA 23 1 21 22,iL 24 23,iT 25 .neq 20 24] [fA,fA,fA,fB,fA,fA,fA,fB,fC])
 (.cond (.tmp 25)
 (.seq (.reg [
 iB 4 false])
 .ret)
 .skip)))
 (.reg [
 iM 15 5,iO 16 .add 15 1,iM 5 16])))
def b35:PCode :=
 (.seq (.reg [
 iB 4 false])
 (.seq (.seq (.reg [
 iM 6 0,iK 7 6,iM 8 1,iK 9 8,iT 10 .neq 7 9])
 (.cond (.tmp 10)
 (.seq (.reg [
 iB 4 false])
 .ret)
 .skip))
 (.seq (.seq (.reg [
 iI 5 0])
 (.blk 0
 (.loop q35x0)))
 (.seq (.reg [
 iB 4 true])
 .ret))))
def p35:PFunc:=⟨26,[(4,none)],none,b35⟩
def b36:PCode :=
 (.seq (.reg [
 iV 2 26 0,iB 4 false])
 (.seq (.reg [
 iM 5 1,iF 6 2 2,iL 7 6,iK 8 7,iO 9 .sub 8 1,⟨some 10,.call (.func 81) [.tmp 5,.const (.int .i64 0),.tmp 9],none⟩,iM 4 10])
 .ret))
def p36:PFunc:=⟨11,[(4,none)],none,b36⟩
def q37x0:PCode :=
 (.seq (.seq (.reg [
 iM 26 9,iM 27 7,iT 28 .lss 26 27])
 (.cond (.tmp 28)
 .skip
 (.exit 0)))
 (.seq (.blk 1
 (.reg [
 iM 31 8,iM 32 2,iM 33 9,iA 34 1 32 33,iL 35 34,iT 36 .add 31 35,iM 8 36]))
 (.reg [
 iM 29 9,iO 30 .add 29 1,iM 9 30])))
def b37:PCode :=
 (.seq (.reg [
 iI 6 0])
 (.seq (.reg [
 iM 10 2,iK 11 10,iM 7 11])
 (.seq (.seq (.reg [
 iM 12 1,iO 13 .add 12 1,iM 14 0,iK 15 14,iT 16 .lss 13 15])
 (.cond (.tmp 16)
 (.reg [
 iM 17 0,iM 18 1,iO 19 .add 18 1,iA 20 1 17 19,iL 21 20,iM 7 21])
 .skip))
 (.seq (.reg [
 iI 8 0])
 (.seq (.seq (.reg [
 iM 22 0,iM 23 1,iA 24 1 22 23,iL 25 24,iM 9 25])
 (.blk 0
 (.loop q37x0)))
 (.seq (.reg [
 iM 37 8,iM 6 37])
 .ret))))))
def p37:PFunc:=⟨38,[(6,none)],none,b37⟩
def q38x0:PCode :=
 (.seq (.seq (.reg [
 iM 5 4,iF 6 0 1,iL 7 6,iK 8 7,iT 9 .lss 5 8])
 (.cond (.tmp 9)
 .skip
 (.exit 0)))
 (.seq (.blk 1
 (.reg [
 iM 12 3,iF 13 0 1,iL 14 13,iM 15 4,iA 16 2 14 15,iF 17 0 16,iL 18 17,⟨some 19,.lbs 3 1 [(.int .i64 0)] 1 [(0,.tmp 18)],none⟩,⟨some 20,.app 3 1 (.tmp 12) (.tmp 19),none⟩,iM 3 20]))
 (.reg [
 iM 10 4,iO 11 .add 10 1,iM 4 11])))
def b38:PCode :=
 (.seq (.reg [
 iV 1 26 0,iH 2])
 (.seq (.reg [
 iH 3])
 (.seq (.seq (.reg [
 iI 4 0])
 (.blk 0
 (.loop q38x0)))
 (.seq (.reg [
 iM 21 3,iM 2 21])
 .ret))))
def p38:PFunc:=⟨22,[(2,none)],none,b38⟩
def q39x0:PCode :=
 (.seq (.seq (.reg [
 iM 5 4,iF 6 0 1,iL 7 6,iK 8 7,iT 9 .lss 5 8])
 (.cond (.tmp 9)
 .skip
 (.exit 0)))
 (.seq (.blk 1
 (.reg [
 iM 12 3,iF 13 0 1,iL 14 13,iM 15 4,iA 16 2 14 15,iF 17 1 16,iL 18 17,⟨some 19,.lbs 3 1 [(.int .i64 0)] 1 [(0,.tmp 18)],none⟩,⟨some 20,.app 3 1 (.tmp 12) (.tmp 19),none⟩,iM 3 20]))
 (.reg [
 iM 10 4,iO 11 .add 10 1,iM 4 11])))
def b39:PCode :=
 (.seq (.reg [
 iV 1 26 0,iH 2])
 (.seq (.reg [
 iH 3])
 (.seq (.seq (.reg [
 iI 4 0])
 (.blk 0
 (.loop q39x0)))
 (.seq (.reg [
 iM 21 3,iM 2 21])
 .ret))))
def p39:PFunc:=⟨22,[(2,none)],none,b39⟩
def b41:PCode :=
 (.seq (.reg [
 iV 1 26 0,iH 2,iI 3 0])
 (.seq (.reg [
 iN 7 3 1,⟨some 8,.call (.func 89) [.tmp 7,.const (.int .i64 5)],none⟩,iM 6 8,iE 9 0 6,iE 10 1 6,iM 4 9,iM 5 10])
 (.seq (.seq (.reg [
 iM 11 5,iO 12 .neq 11 0])
 (.cond (.tmp 12)
 (.seq (.reg [
 iM 13 5,iH 2,iM 3 13])
 .ret)
 .skip))
 (.seq (.reg [
 iM 14 4,⟨some 15,.v (.ia 1) [.tmp 14,.const (.int .i64 0)],none⟩,iL 16 15,iM 2 16,iI 3 0])
 .ret))))
def p41:PFunc:=⟨17,[(2,none),(3,none)],none,b41⟩
def b42:PCode :=
 (.seq (.reg [
 iV 1 26 0,iI 2 0,iI 3 0])
 (.seq (.reg [
 iN 7 3 1,⟨some 8,.call (.func 89) [.tmp 7,.const (.int .i64 0)],none⟩,iM 6 8,iE 9 0 6,iE 10 1 6,iM 4 9,iM 5 10])
 (.seq (.reg [
 iM 11 4,iK 12 11,iM 13 5,iM 2 12,iM 3 13])
 .ret)))
def p42:PFunc:=⟨14,[(2,none),(3,none)],none,b42⟩
def q45x0:PCode :=
 (.seq (.reg [
 iT 31 .lss 30 29])
 (.seq (.cond (.tmp 31)
 .skip
 (.exit 0))
 (.seq (.blk 1
 (.seq (.reg [
 iM 32 30,⟨some 9,.alloc 3 (.int .i64 0),none⟩,iS 1 9 32])
 (.seq (.reg [
 iM 33 6,⟨some 34,.v (.mkf (.func 94) 0) [.tmp 3,.tmp 9],none⟩,iY 35 93 33 34])
 (.cond (.tmp 35)
 (.reg [
 iM 36 8,iL 37 9,⟨some 38,.lbs 3 1 [(.int .i64 0)] 1 [(0,.tmp 37)],none⟩,⟨some 39,.app 3 1 (.tmp 36) (.tmp 38),none⟩,iM 8 39])
 .skip))))
 (.reg [
 iO 40 .add 30 1,iM 30 40]))))
def b45:PCode :=
 (.seq (.reg [
 iV 2 26 0,⟨some 3,.box 3 (.tmp 1),none⟩,iH 4,iI 5 0])
 (.seq (.seq (.reg [
 iN 10 3 2,iX 11 75 10,iR 12 11,iM 13 12,jN 14 3 2 13 false,
 jL 15 3 13 false,
 jY 16 92 14 15 13 false,
 jR 17 16 13 false,
 iQ 18 13 17])
 (.cond (.tmp 18)
 (.seq (.reg [
 iH 4,iI 5 2])
 .ret)
 .skip))
 (.seq (.reg [
 iN 20 3 2,⟨some 21,.call (.func 89) [.tmp 20,.const (.int .i64 7)],none⟩,iM 19 21,iE 22 0 19,iE 23 1 19,iM 6 22,iM 7 23])
 (.seq (.seq (.reg [
 iM 24 7,iO 25 .neq 24 0])
 (.cond (.tmp 25)
 (.seq (.reg [
 iM 26 7,iH 4,iM 5 26])
 .ret)
 .skip))
 (.seq (.reg [
 iH 8])
 (.seq (.seq (.reg [
 iF 27 0 2,iL 28 27,iK 29 28,iI 30 0])
 (.blk 0
 (.loop q45x0)))
 (.seq (.reg [
 iM 41 8,iM 4 41,iI 5 0])
 .ret)))))))
def p45:PFunc:=⟨42,[(4,none),(5,none)],none,b45⟩
def b46:PCode :=
 (.seq (.reg [
 iV 1 26 0,iI 2 0,iI 3 0])
 (.seq (.reg [
 iN 7 3 1,⟨some 8,.call (.func 89) [.tmp 7,.const (.int .i64 5)],none⟩,iM 6 8,iE 9 0 6,iE 10 1 6,iM 4 9,iM 5 10])
 (.seq (.seq (.reg [
 iM 11 5,iO 12 .neq 11 0])
 (.cond (.tmp 12)
 (.seq (.reg [
 iM 13 5,iI 2 0,iM 3 13])
 .ret)
 .skip))
 (.seq (.reg [
 iM 14 4,⟨some 15,.call (.func 95) [.tmp 14,.func 96],none⟩,⟨some 16,.v (.ia 1) [.tmp 15,.const (.int .i64 0)],none⟩,iL 17 16,iM 2 17,iI 3 0])
 .ret))))
def p46:PFunc:=⟨18,[(2,none),(3,none)],none,b46⟩
def b47:PCode :=
 (.seq (.reg [
 iV 1 26 0,iI 2 0,iI 3 0])
 (.seq (.reg [
 iN 7 3 1,⟨some 8,.call (.func 89) [.tmp 7,.const (.int .i64 5)],none⟩,iM 6 8,iE 9 0 6,iE 10 1 6,iM 4 9,iM 5 10])
 (.seq (.seq (.reg [
 iM 11 5,iO 12 .neq 11 0])
 (.cond (.tmp 12)
 (.seq (.reg [
 iM 13 5,iI 2 0,iM 3 13])
 .ret)
 .skip))
 (.seq (.reg [
 iM 14 4,⟨some 15,.call (.func 95) [.tmp 14,.func 98],none⟩,iX 16 97 15,iM 2 16,iI 3 0])
 .ret))))
def p47:PFunc:=⟨17,[(2,none),(3,none)],none,b47⟩
def q51x0:PCode :=
 (.seq (.seq (.reg [
 iM 6 5,iM 7 0,iK 8 7,iT 9 .lss 6 8])
 (.cond (.tmp 9)
 .skip
 (.exit 0)))
 (.seq (.blk 1
 (.seq (.reg [
 iM 12 0,iM 13 5,iA 14 1 12 13,iL 15 14,iM 16 1,iT 17 .eql 15 16])
 (.cond (.tmp 17)
 (.seq (.reg [
 iB 4 true])
 .ret)
 .skip)))
 (.reg [
 iM 10 5,iO 11 .add 10 1,iM 5 11])))
def b51:PCode :=
 (.seq (.reg [
 iB 4 false])
 (.seq (.seq (.reg [
 iI 5 0])
 (.blk 0
 (.loop q51x0)))
 (.seq (.reg [
 iB 4 false])
 .ret)))
def p51:PFunc:=⟨18,[(4,none)],none,b51⟩
def q52x0:PCode :=
 (.seq (.reg [
 iT 13 .lss 12 11])
 (.seq (.cond (.tmp 13)
 .skip
 (.exit 0))
 (.seq (.blk 1
 (.seq (.reg [
 iM 14 12,iM 4 14])
 (.seq (.reg [
 iN 15 3 1,⟨some 5,.lalloc 26 (.agg #[(.slice none 0 0),(.slice none 0 0),(.slice none 0 0)]),none⟩,iS 3 5 15])
 (.seq (.reg [
 iF 16 2 1,iL 17 16,iM 18 4,iO 19 .add 18 1,⟨some 20,.v (.sl 2 false true) [.tmp 17,.tmp 19],none⟩,iF 21 2 5,iS 1 21 20])
 (.seq (.reg [
 iN 22 3 5,iX 23 99 22,iR 24 23])
 (.cond (.tmp 24)
 (.seq (.reg [
 iM 25 4,iM 2 25,iI 3 0])
 .ret)
 .skip))))))
 (.reg [
 iO 26 .add 12 1,iM 12 26]))))
def b52:PCode :=
 (.seq (.reg [
 iV 1 26 0,iI 2 0,iI 3 0])
 (.seq (.seq (.reg [
 iN 6 3 1,iX 7 75 6,iR 8 7])
 (.cond (.tmp 8)
 (.seq (.reg [
 iI 2 0,iI 3 2])
 .ret)
 .skip))
 (.seq (.seq (.reg [
 iF 9 2 1,iL 10 9,iK 11 10,iI 12 0])
 (.blk 0
 (.loop q52x0)))
 (.seq (.reg [
 iI 2 0,iI 3 5])
 .ret))))
def p52:PFunc:=⟨27,[(2,none),(3,none)],none,b52⟩
def b56:PCode :=
 (.seq (.reg [
 ⟨some 1,.box 26 (.tmp 0),none⟩,iI 2 0,iI 3 0])
 (.seq (.seq (.reg [
 iN 5 3 1,iX 6 75 5,iR 7 6])
 (.cond (.tmp 7)
 (.seq (.reg [
 iI 2 0,iI 3 2])
 .ret)
 .skip))
 (.seq (.reg [
 ⟨some 8,.v (.mkf (.func 101) 0) [.tmp 1],none⟩,⟨some 9,.call (.func 100) [.const (.int .i64 289),.tmp 8],none⟩,iM 4 9])
 (.seq (.seq (.reg [
 iM 10 4,iO 11 .gtr 10 288])
 (.cond (.tmp 11)
 (.seq (.reg [
 iI 2 0,iI 3 5])
 .ret)
 .skip))
 (.seq (.reg [
 iM 12 4,iM 2 12,iI 3 0])
 .ret)))))
def p56:PFunc:=⟨13,[(2,none),(3,none)],none,b56⟩
def q59x0:PCode :=
 (.seq (.reg [
 iT 40 .lss 39 38])
 (.seq (.cond (.tmp 40)
 .skip
 (.exit 2))
 (.seq (.blk 3
 (.seq (.reg [
 iM 41 39,iA 42 1 37 39,iL 43 42,iM 13 41,iM 14 43])
 (.seq (.reg [
 iM 44 14,iL 45 4,iM 46 13,iA 47 1 45 46,iL 48 47,iT 49 .neq 44 48])
 (.cond (.tmp 49)
 (.seq (.reg [
 iF 50 1 11,iL 51 50,iO 52 .add 51 1,iF 53 1 11,iS 1 53 52])
 (.dreg [
 iM 54 12,iM 55 54,jL 56 4 55 true,
 jM 57 13 55 true,
 jA 58 1 56 57 55 true,
 jL 59 58 55 true,
 jL 60 5 55 true,
 jT 61 .geq 59 60 55 true,
 iP 62 55 61,iM 63 62,jM 64 14 63 true,
 jL 65 5 63 true,
 jT 66 .geq 64 65 63 true,
 iP 67 63 66,iM 12 67] [fC,fC,fB,fA,fA,fB,fB,fC,fC,fC,fA,fE,fC,fC,fC]))
 .skip))))
 (.reg [
 iO 68 .add 39 1,iM 39 68]))))
def b59:PCode :=
 (.seq (.reg [
 iV 3 26 0,⟨some 4,.box 23 (.tmp 1),none⟩,⟨some 5,.box 3 (.tmp 2),none⟩,iH 6,iI 7 0,iI 8 0])
 (.seq (.seq (.reg [
 iN 16 3 3,iX 17 75 16,iR 18 17,iM 19 18,jN 20 3 3 19 false,
 jL 21 4 19 false,
 jY 22 76 20 21 19 false,
 jR 23 22 19 false,
 iQ 24 19 23,iM 25 24,jN 26 3 3 25 false,
 jL 27 5 25 false,
 jY 28 104 26 27 25 false,
 jR 29 28 25 false,
 iQ 30 25 29])
 (.cond (.tmp 30)
 (.seq (.reg [
 iH 6,iI 7 0,iI 8 2])
 .ret)
 .skip))
 (.seq (.reg [
 ⟨some 9,.alloc 116 (.slice none 0 0),none⟩])
 (.seq (.seq (.reg [
 iN 31 3 3,iX 32 78 31,iX 33 105 32])
 (.blk 0
 (.rf (.tmp 33) [34]
 (.reg [
 iM 10 34])
 (.blk 1
 (.seq (.reg [
 iM 35 10,⟨some 36,.v (.bld [(.slice none 0 0),(.int .i64 0)] [(0,1)]) [.tmp 35],none⟩,⟨some 11,.lalloc 121 (.agg #[(.slice none 0 0),(.int .i64 0)]),none⟩,iS 2 11 36])
 (.seq (.reg [
 iB 12 true])
 (.seq (.seq (.reg [
 iM 37 10,iK 38 37,iI 39 0])
 (.blk 2
 (.loop q59x0)))
 (.seq (.reg [
 iM 69 12])
 (.cond (.tmp 69)
 (.reg [
 iL 70 9,iN 71 2 11,⟨some 72,.lbs 121 2 [(.slice none 0 0),(.int .i64 0)] 1 [(0,.tmp 71)],none⟩,⟨some 73,.app 121 2 (.tmp 70) (.tmp 72),none⟩,iS 1 9 73])
 .skip)))))))))
 (.seq (.seq (.reg [
 iL 74 9,iK 75 74,iO 76 .eql 75 0])
 (.cond (.tmp 76)
 (.seq (.reg [
 iH 6,iI 7 0,iI 8 5])
 .ret)
 .skip))
 (.seq (.reg [
 iL 77 9,⟨some 78,.call (.func 106) [.tmp 77,.func 107],none⟩,⟨some 15,.lalloc 121 (.agg #[(.slice none 0 0),(.int .i64 0)]),none⟩,iS 2 15 78])
 (.seq (.dreg [
 iF 79 0 15,iL 80 79,iF 81 1 15,iL 82 81,iM 6 80,iM 7 82,iI 8 0] [fC,⟨17,true,none⟩,fC,⟨17,true,none⟩,fC,fC,fC])
 .ret)))))))
def p59:PFunc:=⟨83,[(6,none),(7,none),(8,none)],none,b59⟩
def b60:PCode :=
 (.seq (.reg [
 iV 2 26 0,iB 4 false])
 (.seq (.reg [
 iM 5 1,iF 6 0 2,iL 7 6,iK 8 7,iO 9 .sub 8 1,⟨some 10,.call (.func 81) [.tmp 5,.const (.int .i64 0),.tmp 9],none⟩,iM 4 10])
 .ret))
def p60:PFunc:=⟨11,[(4,none)],none,b60⟩
def b65:PCode :=
 (.seq (.reg [
 iV 1 26 0,iI 2 0])
 (.seq (.seq (.reg [
 iN 3 3 1,iX 4 75 3,iR 5 4])
 (.cond (.tmp 5)
 (.seq (.reg [
 iI 2 2])
 .ret)
 .skip))
 (.seq (.reg [
 iI 2 0])
 .ret)))
def p65:PFunc:=⟨6,[(2,none)],none,b65⟩
def q66x0:PCode :=
 (.seq (.seq (.reg [
 iM 9 5,iM 10 1,iK 11 10,iT 12 .lss 9 11])
 (.cond (.tmp 12)
 .skip
 (.exit 0)))
 (.seq (.blk 1
 (.seq (.dreg [
 iN 15 3 2,iM 16 1,iM 17 5,iN 18 3 2,iX 19 39 18,⟨some 20,.call (.func 83) [.tmp 15,.tmp 16,.tmp 17,.tmp 19],none⟩,iM 21 20,jN 22 3 2 21 false,
 jM 23 1 21 false,
 jM 24 5 21 false,
 jN 25 3 2 21 false,
 jX 26 38 25 21 false,
 ⟨some 27,.call (.func 84) [.tmp 22,.tmp 23,.tmp 24,.tmp 26],some (21,false)⟩,
 iQ 28 21 27] [⟨4,false,none⟩,fA,fA,⟨4,true,none⟩,⟨1,true,some [15,16,17]⟩,fD,fC,⟨4,false,none⟩,fA,fA,⟨4,true,none⟩,⟨1,true,some [22,23,24]⟩,fD,fC])
 (.cond (.tmp 28)
 (.seq (.reg [
 iI 4 1])
 .ret)
 .skip)))
 (.reg [
 iM 13 5,iO 14 .add 13 1,iM 5 14])))
def b66:PCode :=
 (.seq (.reg [
 iV 2 26 0,iI 4 0])
 (.seq (.seq (.reg [
 iN 6 3 2,iM 7 1,iY 8 91 6 7])
 (.cond (.tmp 8)
 (.seq (.reg [
 iI 4 3])
 .ret)
 .skip))
 (.seq (.seq (.reg [
 iI 5 0])
 (.blk 0
 (.loop q66x0)))
 (.seq (.reg [
 iI 4 2])
 .ret))))
def p66:PFunc:=⟨29,[(4,none)],none,b66⟩
def b67:PCode :=
 (.seq (.reg [
 iV 1 26 0,⟨some 2,.v .mv [.const (.string ⟨#[]⟩)],none⟩,iI 3 0])
 (.seq (.seq (.reg [
 iN 4 3 1,iX 5 75 4,iR 6 5])
 (.cond (.tmp 6)
 (.seq (.reg [
 ⟨some 2,.v .mv [.const (.string ⟨#[]⟩)],none⟩,iI 3 2])
 .ret)
 .skip))
 (.seq (.reg [
 iN 7 3 1,iX 8 108 7,iM 2 8,iI 3 0])
 .ret)))
def p67:PFunc:=⟨9,[(2,none),(3,none)],none,b67⟩
def b68:PCode :=
 (.seq (.reg [
 ⟨some 1,.box 9 (.tmp 0),none⟩,⟨some 2,.lalloc 26 (.agg #[(.slice none 0 0),(.slice none 0 0),(.slice none 0 0)]),none⟩,iI 3 0])
 (.seq (.seq (.reg [
 iL 7 1,⟨some 8,.v .slen [.tmp 7],none⟩,iO 9 .gtr 8 260])
 (.cond (.tmp 9)
 (.seq (.reg [
 ⟨some 10,.v (.bld [(.slice none 0 0),(.slice none 0 0),(.slice none 0 0)] []) [],none⟩,iS 3 2 10,iI 3 3])
 .ret)
 .skip))
 (.seq (.reg [
 ⟨some 4,.alloc 26 (.agg #[(.slice none 0 0),(.slice none 0 0),(.slice none 0 0)]),none⟩])
 (.seq (.seq (.reg [
 ⟨some 12,.v (.mkf (.func 110) 0) [.tmp 1,.tmp 4],none⟩,iX 13 109 12,iM 11 13,iE 14 0 11,iE 15 1 11,⟨some 5,.lalloc 100 (.agg #[(.int .i64 0),(.int .i64 0)]),none⟩,iS 2 5 14,iM 6 15])
 (.seq (.reg [
 iM 16 6,iO 17 .neq 16 0])
 (.cond (.tmp 17)
 (.seq (.reg [
 ⟨some 18,.v (.bld [(.slice none 0 0),(.slice none 0 0),(.slice none 0 0)] []) [],none⟩,iM 19 6,iS 3 2 18,iM 3 19])
 .ret)
 .skip)))
 (.seq (.seq (.reg [
 iN 20 3 4,iX 21 75 20,iR 22 21])
 (.cond (.tmp 22)
 (.seq (.reg [
 ⟨some 23,.v (.bld [(.slice none 0 0),(.slice none 0 0),(.slice none 0 0)] []) [],none⟩,iS 3 2 23,iI 3 2])
 .ret)
 .skip))
 (.seq (.reg [
 iN 24 3 4,iS 3 2 24,iI 3 0])
 .ret))))))
def p68:PFunc:=⟨25,[(2,some (some 3)),(3,none)],none,b68⟩
def q69x0:PCode :=
 (.seq (.seq (.reg [
 iM 37 6,iF 38 2 1,iL 39 38,iK 40 39,iT 41 .lss 37 40])
 (.cond (.tmp 41)
 .skip
 (.exit 2)))
 (.seq (.blk 3
 (.dreg [
 iM 44 3,iF 45 2 1,iL 46 45,iM 47 6,iA 48 2 46 47,iF 49 0 48,iL 50 49,iF 51 2 1,iL 52 51,iM 53 6,iA 54 2 52 53,iF 55 1 54,iL 56 55,⟨some 57,.bs 3 1 [(.int .i64 0)] 2 [(0,.tmp 50),(1,.tmp 56)],none⟩,⟨some 58,.call (.func 112) [.const (.string ⟨#[99,111,97,116]⟩),.tmp 57],none⟩,⟨some 59,.lbs 9 1 [(.string ⟨#[]⟩)] 1 [(0,.tmp 58)],none⟩,⟨some 60,.app 9 1 (.tmp 44) (.tmp 59),none⟩,iM 3 60] [fA,fA,⟨3,false,none⟩,fA,fA,fA,fB,fA,⟨3,false,none⟩,fA,fA,fA,fB,fE,⟨1,true,some [44]⟩,⟨61,true,none⟩,fE,fC]))
 (.reg [
 iM 42 6,iO 43 .add 42 1,iM 6 43])))
def q69x1:PCode :=
 (.seq (.seq (.reg [
 iM 7 4,iF 8 0 1,iL 9 8,iK 10 9,iT 11 .lss 7 10])
 (.cond (.tmp 11)
 .skip
 (.exit 0)))
 (.seq (.blk 1
 (.seq (.reg [
 ⟨some 5,.v .mv [.const (.string ⟨#[32,110,111]⟩)],none⟩])
 (.seq (.seq (.reg [
 iF 14 1 1,iL 15 14,iM 16 4,iY 17 51 15 16])
 (.cond (.tmp 17)
 (.reg [
 ⟨some 5,.v .mv [.const (.string ⟨#[32,121,101,115]⟩)],none⟩])
 .skip))
 (.dreg [
 iM 18 3,iF 19 0 1,iL 20 19,iM 21 4,iA 22 2 20 21,iF 23 0 22,iL 24 23,iF 25 0 1,iL 26 25,iM 27 4,iA 28 2 26 27,iF 29 1 28,iL 30 29,⟨some 31,.bs 3 1 [(.int .i64 0)] 2 [(0,.tmp 24),(1,.tmp 30)],none⟩,⟨some 32,.call (.func 112) [.const (.string ⟨#[100,97,121]⟩),.tmp 31],none⟩,iM 33 5,⟨some 34,.v (.sb .add) [.tmp 32,.tmp 33],none⟩,⟨some 35,.lbs 9 1 [(.string ⟨#[]⟩)] 1 [(0,.tmp 34)],none⟩,⟨some 36,.app 9 1 (.tmp 18) (.tmp 35),none⟩,iM 3 36] [fA,fA,⟨3,false,none⟩,fA,fA,fA,fB,fA,⟨3,false,none⟩,fA,fA,fA,fB,fE,fE,fA,fC,⟨37,true,none⟩,fE,fC]))))
 (.reg [
 iM 12 4,iO 13 .add 12 1,iM 4 13])))
def b69:PCode :=
 (.seq (.reg [
 iV 1 26 0,⟨some 2,.v .mv [.const (.string ⟨#[]⟩)],none⟩])
 (.seq (.reg [
 iH 3])
 (.seq (.seq (.reg [
 iI 4 0])
 (.blk 0
 (.loop q69x1)))
 (.seq (.seq (.reg [
 iI 6 0])
 (.blk 2
 (.loop q69x0)))
 (.seq (.reg [
 iM 61 3,⟨some 62,.call (.func 113) [.tmp 61,.const (.int .i64 181)],none⟩,iM 2 62])
 .ret)))))
def p69:PFunc:=⟨63,[(2,none)],none,b69⟩
def q70x0:PCode :=
 (.seq (.seq (.reg [
 iM 49 6,iF 50 2 2,iL 51 50,iK 52 51,iT 53 .lss 49 52])
 (.cond (.tmp 53)
 .skip
 (.exit 2)))
 (.seq (.blk 3
 (.seq (.dreg [
 iF 56 2 2,iL 57 56,iM 58 6,iA 59 2 57 58,iN 60 2 59,iF 61 2 3,iL 62 61,iM 63 6,iA 64 2 62 63,iN 65 2 64,⟨some 66,.v (.ag [(.i .i64),(.i .i64)] true) [.tmp 60,.tmp 65],none⟩] [fA,⟨4,false,none⟩,fA,fA,fB,fA,⟨5,false,none⟩,fA,fA,fB,fC])
 (.cond (.tmp 66)
 (.seq (.reg [
 iB 4 false])
 .ret)
 .skip)))
 (.reg [
 iM 54 6,iO 55 .add 54 1,iM 6 55])))
def q70x1:PCode :=
 (.seq (.seq (.reg [
 iM 31 5,iF 32 0 2,iL 33 32,iK 34 33,iT 35 .lss 31 34])
 (.cond (.tmp 35)
 .skip
 (.exit 0)))
 (.seq (.blk 1
 (.seq (.dreg [
 iF 38 0 2,iL 39 38,iM 40 5,iA 41 2 39 40,iN 42 2 41,iF 43 0 3,iL 44 43,iM 45 5,iA 46 2 44 45,iN 47 2 46,⟨some 48,.v (.ag [(.i .i64),(.i .i64)] true) [.tmp 42,.tmp 47],none⟩] [fA,⟨4,false,none⟩,fA,fA,fB,fA,⟨5,false,none⟩,fA,fA,fB,fC])
 (.cond (.tmp 48)
 (.seq (.reg [
 iB 4 false])
 .ret)
 .skip)))
 (.reg [
 iM 36 5,iO 37 .add 36 1,iM 5 37])))
def b70:PCode :=
 (.seq (.reg [
 iV 2 26 0,iV 3 26 1,iB 4 false])
 (.seq (.seq (.reg [
 iF 7 0 2,iL 8 7,iK 9 8,iF 10 0 3,iL 11 10,iK 12 11,iT 13 .neq 9 12,iM 14 13,jF 15 2 2 14 false,
 jL 16 15 14 false,
 jK 17 16 14 false,
 jF 18 2 3 14 false,
 jL 19 18 14 false,
 jK 20 19 14 false,
 jT 21 .neq 17 20 14 false,
 iQ 22 14 21,iM 23 22,jF 24 1 2 23 false,
 jL 25 24 23 false,
 jF 26 1 3 23 false,
 jL 27 26 23 false,
 jY 28 35 25 27 23 false,
 jR 29 28 23 false,
 iQ 30 23 29])
 (.cond (.tmp 30)
 (.seq (.reg [
 iB 4 false])
 .ret)
 .skip))
 (.seq (.seq (.reg [
 iI 5 0])
 (.blk 0
 (.loop q70x1)))
 (.seq (.seq (.reg [
 iI 6 0])
 (.blk 2
 (.loop q70x0)))
 (.seq (.reg [
 iB 4 true])
 .ret)))))
def p70:PFunc:=⟨67,[(4,none)],none,b70⟩
def q71x0:PCode :=
 (.seq (.seq (.reg [
 iM 12 6,iM 13 5,iK 14 13,iO 15 .sub 14 2,iT 16 .lss 12 15])
 (.cond (.tmp 16)
 .skip
 (.exit 0)))
 (.seq (.blk 1
 (.seq (.reg [
 iM 19 5,iM 20 6,iA 21 1 19 20,iL 22 21,⟨some 23,.call (.func 114) [.tmp 22,.const (.int .u8 32)],none⟩,iM 7 23])
 (.seq (.seq (.reg [
 iM 24 7,iK 25 24,iO 26 .lss 25 3])
 (.cond (.tmp 26)
 (.seq (.reg [
 ⟨some 27,.v (.bld [(.slice none 0 0),(.slice none 0 0),(.slice none 0 0)] []) [],none⟩,iS 3 2 27,iB 3 false])
 .ret)
 .skip))
 (.seq (.reg [
 iM 29 7,⟨some 30,.v (.sl 1 true true) [.tmp 29,.const (.int .i64 1),.const (.int .i64 3)],none⟩,⟨some 31,.call (.func 115) [.tmp 30,.const (.int .i64 3)],none⟩,iM 28 31,iE 32 0 28,iE 33 1 28,iM 8 32,iM 9 33])
 (.seq (.seq (.reg [
 iM 34 9,iR 35 34,iM 36 35,jM 37 8 36 false,
 ⟨some 38,.v (.ia 1) [.tmp 37,.const (.int .i64 0)],some (36,false)⟩,
 jL 39 38 36 false,
 jO 40 .lss 39 0 36 false,
 iQ 41 36 40,iM 42 41,jM 43 8 42 false,
 ⟨some 44,.v (.ia 1) [.tmp 43,.const (.int .i64 1)],some (42,false)⟩,
 jL 45 44 42 false,
 jO 46 .lss 45 0 42 false,
 iQ 47 42 46])
 (.cond (.tmp 47)
 (.seq (.reg [
 ⟨some 48,.v (.bld [(.slice none 0 0),(.slice none 0 0),(.slice none 0 0)] []) [],none⟩,iS 3 2 48,iB 3 false])
 .ret)
 .skip))
 (.seq (.seq (.reg [
 iM 49 7,iK 50 49,iO 51 .eql 50 3])
 (.cond (.tmp 51)
 (.seq (.dreg [
 iF 52 2 4,iL 53 52,iM 54 8,⟨some 55,.v (.ia 1) [.tmp 54,.const (.int .i64 0)],none⟩,iL 56 55,iM 57 8,⟨some 58,.v (.ia 1) [.tmp 57,.const (.int .i64 1)],none⟩,iL 59 58,⟨some 60,.v (.bld [(.int .i64 0),(.int .i64 0)] [(0,1),(1,1)]) [.tmp 56,.tmp 59],none⟩,⟨some 61,.lbs 51 2 [(.int .i64 0),(.int .i64 0)] 1 [(0,.tmp 60)],none⟩,⟨some 62,.app 51 2 (.tmp 53) (.tmp 61),none⟩,iF 63 2 4,iS 1 63 62] [fA,⟨6,false,none⟩,fA,fA,fB,fA,fA,fB,fC,⟨63,true,none⟩,fE,fC,⟨6,true,none⟩])
 (.exit 1))
 .skip))
 (.seq (.seq (.reg [
 iM 64 7,⟨some 65,.v (.ia 1) [.tmp 64,.const (.int .i64 3)],none⟩,iL 66 65,⟨some 67,.v (.sb .eql) [.tmp 66,.const (.string ⟨#[121,101,115]⟩)],none⟩])
 (.cond (.tmp 67)
 (.reg [
 iF 68 1 4,iL 69 68,iF 70 0 4,iL 71 70,iK 72 71,⟨some 73,.lbs 3 1 [(.int .i64 0)] 1 [(0,.tmp 72)],none⟩,⟨some 74,.app 3 1 (.tmp 69) (.tmp 73),none⟩,iF 75 1 4,iS 1 75 74])
 .skip))
 (.dreg [
 iF 76 0 4,iL 77 76,iM 78 8,⟨some 79,.v (.ia 1) [.tmp 78,.const (.int .i64 0)],none⟩,iL 80 79,iM 81 8,⟨some 82,.v (.ia 1) [.tmp 81,.const (.int .i64 1)],none⟩,iL 83 82,⟨some 84,.v (.bld [(.int .i64 0),(.int .i64 0)] [(0,1),(1,1)]) [.tmp 80,.tmp 83],none⟩,⟨some 85,.lbs 75 2 [(.int .i64 0),(.int .i64 0)] 1 [(0,.tmp 84)],none⟩,⟨some 86,.app 75 2 (.tmp 77) (.tmp 85),none⟩,iF 87 0 4,iS 1 87 86] [fA,⟨6,false,none⟩,fA,fA,fB,fA,fA,fB,fC,⟨87,true,none⟩,fE,fC,⟨6,true,none⟩]))))))))
 (.reg [
 iM 17 6,iO 18 .add 17 1,iM 6 18])))
def b71:PCode :=
 (.seq (.reg [
 ⟨some 2,.lalloc 26 (.agg #[(.slice none 0 0),(.slice none 0 0),(.slice none 0 0)]),none⟩,iB 3 false])
 (.seq (.reg [
 ⟨some 4,.lalloc 26 (.agg #[(.slice none 0 0),(.slice none 0 0),(.slice none 0 0)]),none⟩])
 (.seq (.reg [
 iM 10 0,⟨some 11,.call (.func 114) [.tmp 10,.const (.int .u8 10)],none⟩,iM 5 11])
 (.seq (.seq (.reg [
 iI 6 0])
 (.blk 0
 (.loop q71x0)))
 (.seq (.seq (.reg [
 iN 88 3 4,iX 89 69 88,iM 90 0,⟨some 91,.v (.sb .neq) [.tmp 89,.tmp 90],none⟩])
 (.cond (.tmp 91)
 (.seq (.reg [
 ⟨some 92,.v (.bld [(.slice none 0 0),(.slice none 0 0),(.slice none 0 0)] []) [],none⟩,iS 3 2 92,iB 3 false])
 .ret)
 .skip))
 (.seq (.reg [
 iN 93 3 4,iS 3 2 93,iB 3 true])
 .ret))))))
def p71:PFunc:=⟨94,[(2,some (some 3)),(3,none)],none,b71⟩
def b72:PCode :=
 (.seq (.reg [
 ⟨some 0,.lalloc 26 (.agg #[(.slice none 0 0),(.slice none 0 0),(.slice none 0 0)]),none⟩])
 (.seq (.reg [
 ⟨some 1,.call (.func 116) [.const (.int .i64 6),.const (.int .i64 8)],none⟩,⟨some 2,.call (.func 116) [.const (.int .i64 4),.const (.int .i64 6)],none⟩,⟨some 3,.call (.func 116) [.const (.int .i64 8),.const (.int .i64 10)],none⟩,⟨some 4,.call (.func 116) [.const (.int .i64 2),.const (.int .i64 4)],none⟩,⟨some 5,.call (.func 116) [.const (.int .i64 6),.const (.int .i64 6)],none⟩,⟨some 6,.call (.func 116) [.const (.int .i64 5),.const (.int .i64 9)],none⟩,⟨some 7,.call (.func 116) [.const (.int .i64 8),.const (.int .i64 12)],none⟩,⟨some 8,.call (.func 116) [.const (.int .i64 4),.const (.int .i64 4)],none⟩,⟨some 9,.bs 75 2 [(.int .i64 0),(.int .i64 0)] 8 [(0,.tmp 1),(1,.tmp 2),(2,.tmp 3),(3,.tmp 4),(4,.tmp 5),(5,.tmp 6),(6,.tmp 7),(7,.tmp 8)],none⟩,⟨some 10,.bs 3 1 [(.int .i64 0)] 5 [(0,.const (.int .i64 0)),(1,.const (.int .i64 2)),(2,.const (.int .i64 3)),(3,.const (.int .i64 5)),(4,.const (.int .i64 6))],none⟩,⟨some 11,.v (.bld [(.int .i64 0),(.int .i64 0)] [(0,1),(1,1)]) [.const (.int .i64 9),.const (.int .i64 20)],none⟩,⟨some 12,.v (.bld [(.int .i64 0),(.int .i64 0)] [(0,1),(1,1)]) [.const (.int .i64 10),.const (.int .i64 20)],none⟩,⟨some 13,.v (.bld [(.int .i64 0),(.int .i64 0)] [(0,1),(1,1)]) [.const (.int .i64 8),.const (.int .i64 30)],none⟩,⟨some 14,.bs 51 2 [(.int .i64 0),(.int .i64 0)] 3 [(0,.tmp 11),(1,.tmp 12),(2,.tmp 13)],none⟩,⟨some 15,.v (.bld [(.slice none 0 0),(.slice none 0 0),(.slice none 0 0)] [(0,1),(1,1),(2,1)]) [.tmp 9,.tmp 10,.tmp 14],none⟩,iS 3 0 15])
 .ret))
def p72:PFunc:=⟨16,[(0,some (some 3))],none,b72⟩
def b73:PCode :=
 (.seq (.reg [
 ⟨some 0,.lalloc 26 (.agg #[(.slice none 0 0),(.slice none 0 0),(.slice none 0 0)]),none⟩])
 (.seq (.reg [
 iW 2 72,⟨some 1,.lalloc 26 (.agg #[(.slice none 0 0),(.slice none 0 0),(.slice none 0 0)]),none⟩,iS 3 1 2])
 (.seq (.reg [
 ⟨some 3,.bs 3 1 [(.int .i64 0)] 8 [(0,.const (.int .i64 0)),(1,.const (.int .i64 1)),(2,.const (.int .i64 2)),(3,.const (.int .i64 3)),(4,.const (.int .i64 4)),(5,.const (.int .i64 5)),(6,.const (.int .i64 6)),(7,.const (.int .i64 7))],none⟩,iF 4 1 1,iS 1 4 3])
 (.seq (.reg [
 iN 5 3 1,iS 3 0 5])
 .ret))))
def p73:PFunc:=⟨6,[(0,some (some 3))],none,b73⟩
def b74:PCode :=
 (.seq (.reg [
 ⟨some 0,.lalloc 26 (.agg #[(.slice none 0 0),(.slice none 0 0),(.slice none 0 0)]),none⟩])
 (.seq (.reg [
 iW 2 72,⟨some 1,.lalloc 26 (.agg #[(.slice none 0 0),(.slice none 0 0),(.slice none 0 0)]),none⟩,iS 3 1 2])
 (.seq (.reg [
 iF 3 2 1,iL 4 3,⟨some 5,.v (.ia 2) [.tmp 4,.const (.int .i64 1)],none⟩,iF 6 1 5,⟨none,.st 1 (.tmp 6) (.const (.int .i64 18)),none⟩])
 (.seq (.reg [
 iN 7 3 1,iS 3 0 7])
 .ret))))
def p74:PFunc:=⟨8,[(0,some (some 3))],none,b74⟩
def b75:PCode :=
 (.seq (.reg [
 ⟨some 1,.box 26 (.tmp 0),none⟩,iB 2 false])
 (.seq (.reg [
 ⟨some 3,.v .mv [.func 117],none⟩])
 (.seq (.reg [
 ⟨some 4,.v .mv [.func 119],none⟩])
 (.seq (.reg [
 iF 5 0 1,iL 6 5,iK 7 6,⟨some 8,.call (.func 118) [.tmp 7,.const (.int .i64 1),.const (.int .i64 12)],none⟩,iM 9 8,jF 10 2 1 9 true,
 jL 11 10 9 true,
 jK 12 11 9 true,
 ⟨some 13,.call (.func 118) [.tmp 12,.const (.int .i64 1),.const (.int .i64 5)],some (9,true)⟩,
 iP 14 9 13,iM 15 14,jF 16 0 1 15 true,
 jL 17 16 15 true,
 jM 18 3 15 true,
 jY 19 120 17 18 15 true,
 jR 20 19 15 true,
 iP 21 15 20,iM 22 21,jF 23 2 1 22 true,
 jL 24 23 22 true,
 jM 25 4 22 true,
 jY 26 121 24 25 22 true,
 jR 27 26 22 true,
 iP 28 22 27,iM 29 28,jF 30 1 1 29 true,
 jL 31 30 29 true,
 jX 32 122 31 29 true,
 iP 33 29 32,iM 34 33,jF 35 1 1 34 true,
 jL 36 35 34 true,
 ⟨some 37,.v (.mkf (.func 124) 0) [.tmp 1],some (34,true)⟩,
 jY 38 123 36 37 34 true,
 jR 39 38 34 true,
 iP 40 34 39,iM 2 40])
 .ret))))
def p75:PFunc:=⟨41,[(2,none)],none,b75⟩
def b76:PCode :=
 (.seq (.reg [
 ⟨some 2,.box 26 (.tmp 0),none⟩,iB 4 false])
 (.seq (.reg [
 iM 5 1,iK 6 5,iF 7 2 2,iL 8 7,iK 9 8,iT 10 .eql 6 9,iM 11 10,jM 12 1 11 true,
 jX 13 122 12 11 true,
 iP 14 11 13,iM 15 14,jM 16 1 15 true,
 ⟨some 17,.v (.mkf (.func 125) 0) [.tmp 2],some (15,true)⟩,
 jY 18 123 16 17 15 true,
 jR 19 18 15 true,
 iP 20 15 19,iM 4 20])
 .ret))
def p76:PFunc:=⟨21,[(4,none)],none,b76⟩
def q77x0:PCode :=
 (.seq (.reg [
 iT 10 .lss 9 8])
 (.seq (.cond (.tmp 10)
 .skip
 (.exit 0))
 (.seq (.blk 1
 (.seq (.reg [
 iM 11 9,iA 12 1 7 9,iL 13 12,iM 5 11,iM 6 13])
 (.seq (.dreg [
 iN 14 3 2,iM 15 5,iY 16 104 14 15,iR 17 16,iM 18 17,jM 19 6 18 false,
 jF 20 0 2 18 false,
 jL 21 20 18 false,
 jM 22 5 18 false,
 jA 23 2 21 22 18 false,
 jF 24 0 23 18 false,
 jL 25 24 18 false,
 jF 26 0 2 18 false,
 jL 27 26 18 false,
 jM 28 5 18 false,
 jA 29 2 27 28 18 false,
 jF 30 1 29 18 false,
 jL 31 30 18 false,
 jZ 32 118 19 25 31 18 false,
 jR 33 32 18 false,
 iQ 34 18 33] [⟨4,true,none⟩,fC,fD,fC,fC,fA,fA,⟨4,false,none⟩,fA,fA,fA,fB,fA,⟨4,false,none⟩,fA,fA,fA,fB,fD,fC,fC])
 (.cond (.tmp 34)
 (.seq (.reg [
 iB 4 false])
 .ret)
 .skip))))
 (.reg [
 iO 35 .add 9 1,iM 9 35]))))
def b77:PCode :=
 (.seq (.reg [
 iV 2 26 0,iB 4 false])
 (.seq (.seq (.reg [
 iM 7 1,iK 8 7,iI 9 0])
 (.blk 0
 (.loop q77x0)))
 (.seq (.reg [
 iM 36 1,iK 37 36,iF 38 0 2,iL 39 38,iK 40 39,iT 41 .eql 37 40,iM 4 41])
 .ret)))
def p77:PFunc:=⟨42,[(4,none)],none,b77⟩
def q78x0:PCode :=
 (.seq (.reg [
 iT 14 .lss 13 12])
 (.seq (.cond (.tmp 14)
 .skip
 (.exit 0))
 (.seq (.blk 1
 (.seq (.reg [
 iM 15 13,iA 16 2 11 13,iN 17 2 16,⟨some 5,.lalloc 75 (.agg #[(.int .i64 0),(.int .i64 0)]),none⟩,iM 4 15,iS 2 5 17])
 (.dreg [
 iF 18 3 3,iL 19 18,iF 20 3 3,iL 21 20,iM 22 4,iA 23 1 21 22,iL 24 23,iF 25 0 5,iL 26 25,iT 27 .add 24 26,⟨some 28,.lbs 3 1 [(.int .i64 0)] 1 [(0,.tmp 27)],none⟩,⟨some 29,.app 3 1 (.tmp 19) (.tmp 28),none⟩,iF 30 4 3,iL 31 30,iF 32 4 3,iL 33 32,iM 34 4,iA 35 1 33 34,iL 36 35,iF 37 1 5,iL 38 37,iT 39 .add 36 38,⟨some 40,.lbs 3 1 [(.int .i64 0)] 1 [(0,.tmp 39)],none⟩,⟨some 41,.app 3 1 (.tmp 31) (.tmp 40),none⟩,iF 42 3 3,iS 1 42 29,iF 43 4 3,iS 1 43 41] [fA,⟨5,false,none⟩,fA,⟨5,false,none⟩,fA,fA,fB,fA,⟨7,false,none⟩,fA,⟨30,false,none⟩,fB,fA,⟨5,false,none⟩,fA,⟨5,false,none⟩,fA,fA,fB,fA,⟨7,false,none⟩,fA,⟨42,false,none⟩,fE,fA,⟨5,true,none⟩,fC,⟨5,true,none⟩])))
 (.reg [
 iO 44 .add 13 1,iM 13 44]))))
def b78:PCode :=
 (.seq (.reg [
 iV 1 26 0,⟨some 2,.lalloc 93 (.agg #[(.slice none 0 0),(.slice none 0 0),(.slice none 0 0),(.slice none 0 0),(.slice none 0 0)]),none⟩])
 (.seq (.reg [
 iN 6 3 1,⟨some 7,.bs 3 1 [(.int .i64 0)] 1 [(0,.const (.int .i64 0))],none⟩,⟨some 8,.bs 3 1 [(.int .i64 0)] 1 [(0,.const (.int .i64 0))],none⟩,⟨some 9,.v (.bld [(.slice none 0 0),(.slice none 0 0),(.slice none 0 0),(.slice none 0 0),(.slice none 0 0)] [(0,3),(3,1),(4,1)]) [.tmp 6,.tmp 7,.tmp 8],none⟩,⟨some 3,.lalloc 93 (.agg #[(.slice none 0 0),(.slice none 0 0),(.slice none 0 0),(.slice none 0 0),(.slice none 0 0)]),none⟩,iS 5 3 9])
 (.seq (.seq (.reg [
 iF 10 0 1,iL 11 10,iK 12 11,iI 13 0])
 (.blk 0
 (.loop q78x0)))
 (.seq (.reg [
 iN 45 5 3,iS 5 2 45])
 .ret))))
def p78:PFunc:=⟨46,[(2,some (some 5))],none,b78⟩
def b79:PCode :=
 (.seq (.reg [
 iV 3 93 0,iI 6 0,iB 7 false])
 (.seq (.seq (.reg [
 iM 8 2,iM 9 1,iK 10 9,iO 11 .sub 10 1,iT 12 .eql 8 11])
 (.cond (.tmp 12)
 (.seq (.reg [
 iF 13 0 3,iF 14 0 13,iL 15 14,iK 16 15,iM 6 16,iB 7 false])
 .ret)
 .skip))
 (.seq (.reg [
 iM 17 1,iM 18 2,iO 19 .add 18 1,iA 20 1 17 19,iL 21 20,iM 6 21,iB 7 true])
 .ret)))
def p79:PFunc:=⟨22,[(6,none),(7,none)],none,b79⟩
def q80x0:PCode :=
 (.seq (.reg [
 iT 9 .lss 8 7])
 (.seq (.cond (.tmp 9)
 .skip
 (.exit 0))
 (.seq (.blk 1
 (.seq (.reg [
 iA 10 1 6 8,iL 11 10,iM 5 11])
 (.reg [
 iM 12 3,iM 13 5,iT 14 .add 12 13,iM 3 14])))
 (.reg [
 iO 15 .add 8 1,iM 8 15]))))
def b80:PCode :=
 (.seq (.reg [
 iI 2 0])
 (.seq (.reg [
 iI 3 0])
 (.seq (.seq (.reg [
 iM 6 0,iK 7 6,iI 8 0])
 (.blk 0
 (.loop q80x0)))
 (.seq (.reg [
 iM 16 3,iM 2 16])
 .ret))))
def p80:PFunc:=⟨17,[(2,none)],none,b80⟩
def b81:PCode :=
 (.seq (.reg [
 iB 6 false])
 (.seq (.reg [
 iM 7 0,iM 8 1,iT 9 .geq 7 8,iM 10 9,jM 11 0 10 true,
 jM 12 2 10 true,
 jT 13 .leq 11 12 10 true,
 iP 14 10 13,iM 6 14])
 .ret))
def p81:PFunc:=⟨15,[(6,none)],none,b81⟩
def q82x0:PCode :=
 (.seq (.seq (.reg [
 iM 6 5,iM 7 1,iK 8 7,iT 9 .lss 6 8])
 (.cond (.tmp 9)
 .skip
 (.exit 0)))
 (.seq (.blk 1
 (.seq (.dreg [
 iN 12 3 2,iM 13 1,iM 14 5,iA 15 1 13 14,iL 16 15,iY 17 60 12 16,iR 18 17,iM 19 18,jM 20 5 19 false,
 jO 21 .gtr 20 0 19 false,
 jM 22 21 19 false,
 jM 23 1 22 true,
 jM 24 5 22 true,
 jA 25 1 23 24 22 true,
 jL 26 25 22 true,
 jM 27 1 22 true,
 jM 28 5 22 true,
 jO 29 .sub 28 1 22 true,
 jA 30 1 27 29 22 true,
 jL 31 30 22 true,
 jT 32 .leq 26 31 22 true,
 jP 33 22 32 19 false,
 iQ 34 19 33] [⟨4,false,none⟩,fC,fC,fC,fE,fD,fC,fC,fC,fC,fC,fA,fA,fA,fB,fA,fA,fA,fA,fB,fC,fC,fC])
 (.cond (.tmp 34)
 (.seq (.reg [
 iB 4 false])
 .ret)
 .skip)))
 (.reg [
 iM 10 5,iO 11 .add 10 1,iM 5 11])))
def b82:PCode :=
 (.seq (.reg [
 iV 2 26 0,iB 4 false])
 (.seq (.seq (.reg [
 iI 5 0])
 (.blk 0
 (.loop q82x0)))
 (.seq (.reg [
 iB 4 true])
 .ret)))
def p82:PFunc:=⟨35,[(4,none)],none,b82⟩
def b83:PCode :=
 (.seq (.reg [
 iV 4 26 0,iB 8 false])
 (.seq (.dreg [
 iM 9 1,iM 10 2,iM 11 3,iZ 12 37 9 10 11,iF 13 2 4,iL 14 13,iM 15 2,iA 16 2 14 15,iF 17 0 16,iL 18 17,iT 19 .lss 12 18,iM 8 19] [fA,fA,fA,fB,fA,⟨6,false,none⟩,fA,fA,fA,fB,fC,fC])
 .ret))
def p83:PFunc:=⟨20,[(8,none)],none,b83⟩
def b84:PCode :=
 (.seq (.reg [
 iV 4 26 0,iB 8 false])
 (.seq (.dreg [
 iM 9 2,iO 10 .add 9 1,iM 11 1,iK 12 11,iT 13 .lss 10 12,iM 14 13,jM 15 1 14 true,
 jM 16 2 14 true,
 jM 17 3 14 true,
 jZ 18 37 15 16 17 14 true,
 jF 19 2 4 14 true,
 jL 20 19 14 true,
 jM 21 2 14 true,
 jA 22 2 20 21 14 true,
 jF 23 1 22 14 true,
 jL 24 23 14 true,
 jT 25 .gtr 18 24 14 true,
 iP 26 14 25,iM 8 26] [fC,fC,fC,fC,fC,fC,fA,fA,fA,fB,fA,⟨6,false,none⟩,fA,fA,fA,fB,fC,fC,fC])
 .ret))
def p84:PFunc:=⟨27,[(8,none)],none,b84⟩
def b85:PCode :=
 (.seq (.reg [
 ⟨some 2,.box 93 (.tmp 0),none⟩,⟨some 3,.box 23 (.tmp 1),none⟩,⟨some 4,.lalloc 100 (.agg #[(.int .i64 0),(.int .i64 0)]),none⟩,iI 5 0])
 (.seq (.reg [
 ⟨some 6,.v (.mkf (.func 127) 0) [.tmp 3,.tmp 2],none⟩,iX 7 109 6,iE 8 0 7,iE 9 1 7,iS 2 4 8,iM 5 9])
 .ret))
def p85:PFunc:=⟨10,[(4,some (some 2)),(5,none)],none,b85⟩
def b86:PCode :=
 (.seq (.reg [
 iV 3 93 0,⟨some 6,.lalloc 75 (.agg #[(.int .i64 0),(.int .i64 0)]),none⟩])
 (.seq (.reg [
 iN 8 5 3,⟨some 9,.v (.mkf (.func 129) 1) [.tmp 8],none⟩,iN 10 5 3,⟨some 11,.v (.mkf (.func 130) 1) [.tmp 10],none⟩,⟨some 12,.v (.bld [.nilFunc,.nilFunc] [(0,1),(1,1)]) [.tmp 9,.tmp 11],none⟩,⟨some 7,.lalloc 138 (.agg #[.nilFunc,.nilFunc]),none⟩,iS 2 7 12])
 (.seq (.dreg [
 ⟨some 13,.v (.iaa 1 2) [.tmp 7,.const (.int .i64 0)],none⟩,iL 14 13,iM 15 1,iM 16 2,⟨some 17,.call (.tmp 14) [.tmp 15,.tmp 16],none⟩,⟨some 18,.v (.iaa 1 2) [.tmp 7,.const (.int .i64 1)],none⟩,iL 19 18,iM 20 1,iM 21 2,⟨some 22,.call (.tmp 19) [.tmp 20,.tmp 21],none⟩,⟨some 23,.v (.bld [(.int .i64 0),(.int .i64 0)] [(0,1),(1,1)]) [.tmp 17,.tmp 22],none⟩,iS 2 6 23] [fC,⟨9,true,none⟩,fC,fC,fE,fA,⟨9,false,none⟩,fA,fA,fD,fC,⟨8,true,none⟩])
 .ret)))
def p86:PFunc:=⟨24,[(6,some (some 2))],none,b86⟩
def b87:PCode :=
 (.seq (.reg [
 iH 2])
 (.seq (.seq (.reg [
 iM 3 0,⟨some 4,.v (.nl .slice false) [.tmp 3],none⟩])
 (.cond (.tmp 4)
 (.seq (.reg [
 iH 2])
 .ret)
 .skip))
 (.seq (.reg [
 ⟨some 5,.bs 75 2 [(.int .i64 0),(.int .i64 0)] 0 [],none⟩,iM 6 0,⟨some 7,.app 75 2 (.tmp 5) (.tmp 6),none⟩,iM 2 7])
 .ret)))
def p87:PFunc:=⟨8,[(2,none)],none,b87⟩
def b89:PCode :=
 (.seq (.reg [
 iV 2 26 0,iH 4,iI 5 0])
 (.seq (.seq (.reg [
 iN 7 3 2,iX 8 75 7,iR 9 8])
 (.cond (.tmp 9)
 (.seq (.reg [
 iH 4,iI 5 2])
 .ret)
 .skip))
 (.seq (.reg [
 iN 10 3 2,iX 11 78 10,iX 12 105 11,iX 13 131 12,iM 6 13])
 (.seq (.seq (.reg [
 iM 14 6,iK 15 14,iO 16 .eql 15 0])
 (.cond (.tmp 16)
 (.seq (.reg [
 iM 17 1,iH 4,iM 5 17])
 .ret)
 .skip))
 (.seq (.reg [
 iM 18 6,iM 4 18,iI 5 0])
 .ret)))))
def p89:PFunc:=⟨19,[(4,none),(5,none)],none,b89⟩
def b91:PCode :=
 (.seq (.reg [
 iV 2 26 0,iB 4 false])
 (.seq (.reg [
 iN 9 3 2,iM 10 1,iY 11 33 9 10,iM 8 11,iE 12 0 8,iE 13 1 8,iE 14 2 8,iM 5 12,iM 6 13,iM 7 14])
 (.seq (.reg [
 iM 15 7,iR 16 15,iM 4 16])
 .ret)))
def p91:PFunc:=⟨17,[(4,none)],none,b91⟩
def b92:PCode :=
 (.seq (.reg [
 iV 2 26 0,iB 4 false])
 (.seq (.reg [
 iM 5 1,iF 6 2 2,iL 7 6,iK 8 7,iO 9 .sub 8 1,⟨some 10,.call (.func 118) [.tmp 5,.const (.int .i64 0),.tmp 9],none⟩,iM 4 10])
 .ret))
def p92:PFunc:=⟨11,[(4,none)],none,b92⟩
def b93:PCode :=
 (.seq (.reg [
 iB 4 false])
 (.seq (.reg [
 iM 5 0,iM 6 1,iY 7 132 5 6,iO 8 .geq 7 0,iM 4 8])
 .ret))
def p93:PFunc:=⟨9,[(4,none)],none,b93⟩
def b94:PCode :=
 (.seq (.reg [
 iB 4 false])
 (.seq (.dreg [
 iM 5 0,iL 6 1,iA 7 1 5 6,iL 8 7,iL 9 2,iT 10 .eql 8 9,iM 4 10] [fA,fB,fA,fB,fB,fC,fC])
 .ret))
def p94:PFunc:=⟨11,[(4,none)],none,b94⟩
def q95x0:PCode :=
 (.seq (.reg [
 iT 15 .lss 14 13])
 (.seq (.cond (.tmp 15)
 .skip
 (.exit 0))
 (.seq (.blk 1
 (.seq (.reg [
 iA 16 1 12 14,iL 17 16,iM 7 17])
 (.seq (.reg [
 iM 18 1,iM 19 7,iM 20 5,⟨some 21,.call (.tmp 18) [.tmp 19,.tmp 20],none⟩])
 (.cond (.tmp 21)
 (.reg [
 iM 22 7,iM 5 22])
 .skip))))
 (.reg [
 iO 23 .add 14 1,iM 14 23]))))
def b95:PCode :=
 (.seq (.reg [
 iH 4])
 (.seq (.reg [
 iM 8 0,⟨some 9,.v (.ia 1) [.tmp 8,.const (.int .i64 0)],none⟩,iL 10 9,iM 5 10])
 (.seq (.seq (.reg [
 iM 11 0,⟨some 12,.v (.sl 1 true false) [.tmp 11,.const (.int .i64 1)],none⟩,iK 13 12,iI 14 0])
 (.blk 0
 (.loop q95x0)))
 (.seq (.reg [
 iM 24 5,iM 4 24])
 .ret))))
def p95:PFunc:=⟨25,[(4,none)],none,b95⟩
def b96:PCode :=
 (.seq (.reg [
 iB 4 false])
 (.seq (.dreg [
 iM 5 0,⟨some 6,.v (.ia 1) [.tmp 5,.const (.int .i64 0)],none⟩,iL 7 6,iM 8 1,⟨some 9,.v (.ia 1) [.tmp 8,.const (.int .i64 0)],none⟩,iL 10 9,iT 11 .gtr 7 10,iM 4 11] [fA,fA,fB,fA,fA,fB,fC,fC])
 .ret))
def p96:PFunc:=⟨12,[(4,none)],none,b96⟩
def b97:PCode :=
 (.seq (.reg [
 iI 2 0])
 (.seq (.dreg [
 iM 3 0,iM 4 0,iK 5 4,iO 6 .sub 5 1,iA 7 1 3 6,iL 8 7,iM 9 0,⟨some 10,.v (.ia 1) [.tmp 9,.const (.int .i64 0)],none⟩,iL 11 10,iT 12 .sub 8 11,iM 2 12] [fA,fA,fA,fA,fA,fB,fA,fA,fB,fC,fC])
 .ret))
def p97:PFunc:=⟨13,[(2,none)],none,b97⟩
def b98:PCode :=
 (.seq (.reg [
 iB 4 false])
 (.seq (.reg [
 iM 5 0,iX 6 97 5,iM 7 1,iX 8 97 7,iT 9 .lss 6 8,iM 4 9])
 .ret))
def p98:PFunc:=⟨10,[(4,none)],none,b98⟩
def b99:PCode :=
 (.seq (.reg [
 iV 1 26 0,iB 2 false])
 (.seq (.reg [
 iN 6 3 1,iX 7 78 6,iX 8 133 7,iM 5 8,iE 9 0 5,iE 10 1 5,iM 3 9,iM 4 10])
 (.seq (.reg [
 iM 11 4,iM 2 11])
 .ret)))
def p99:PFunc:=⟨12,[(2,none)],none,b99⟩
def q100x0:PCode :=
 (.seq (.seq (.reg [
 iM 9 5,iM 10 6,iT 11 .lss 9 10])
 (.cond (.tmp 11)
 .skip
 (.exit 0)))
 (.blk 1
 (.seq (.reg [
 iM 12 5,iM 13 6,iT 14 .add 12 13,⟨some 15,.v (.cv .u64) [.tmp 14],none⟩,⟨some 16,.v (.ib .shr) [.tmp 15,.const (.int .u64 1)],none⟩,⟨some 17,.v (.cv .i64) [.tmp 16],none⟩,iM 7 17])
 (.seq (.reg [
 iM 18 1,iM 19 7,⟨some 20,.call (.tmp 18) [.tmp 19],none⟩,iR 21 20])
 (.cond (.tmp 21)
 (.reg [
 iM 22 7,iO 23 .add 22 1,iM 5 23])
 (.reg [
 iM 24 7,iM 6 24]))))))
def b100:PCode :=
 (.seq (.reg [
 iI 4 0])
 (.seq (.reg [
 iM 8 0,iI 5 0,iM 6 8])
 (.seq (.blk 0
 (.loop q100x0))
 (.seq (.reg [
 iM 25 5,iM 4 25])
 .ret))))
def p100:PFunc:=⟨26,[(4,none)],none,b100⟩
def b101:PCode :=
 (.seq (.reg [
 iB 3 false])
 (.seq (.reg [
 iN 4 3 1,iM 5 0,iY 6 102 4 5,iX 7 99 6,iM 3 7])
 .ret))
def p101:PFunc:=⟨8,[(3,none)],none,b101⟩
def q102x0:PCode :=
 (.seq (.reg [
 iT 14 .lss 13 12])
 (.seq (.cond (.tmp 14)
 .skip
 (.exit 0))
 (.seq (.blk 1
 (.seq (.reg [
 iM 15 13,iM 5 15])
 (.reg [
 iF 16 2 2,iL 17 16,iM 18 5,iA 19 2 17 18,iF 20 1 19,iL 21 20,iM 22 1,iT 23 .add 21 22,iA 24 2 17 18,iF 25 1 24,iS 1 25 23])))
 (.reg [
 iO 26 .add 13 1,iM 13 26]))))
def b102:PCode :=
 (.seq (.reg [
 iV 2 26 0,⟨some 4,.lalloc 26 (.agg #[(.slice none 0 0),(.slice none 0 0),(.slice none 0 0)]),none⟩])
 (.seq (.reg [
 iF 6 2 2,iL 7 6,iX 8 134 7,iF 9 2 2,iS 1 9 8])
 (.seq (.seq (.reg [
 iF 10 2 2,iL 11 10,iK 12 11,iI 13 0])
 (.blk 0
 (.loop q102x0)))
 (.seq (.reg [
 iN 27 3 2,iS 3 4 27])
 .ret))))
def p102:PFunc:=⟨28,[(4,some (some 3))],none,b102⟩
def b104:PCode :=
 (.seq (.reg [
 iV 2 26 0,iB 4 false])
 (.seq (.reg [
 iM 5 1,iF 6 0 2,iL 7 6,iK 8 7,iO 9 .sub 8 1,⟨some 10,.call (.func 118) [.tmp 5,.const (.int .i64 0),.tmp 9],none⟩,iM 4 10])
 .ret))
def p104:PFunc:=⟨11,[(4,none)],none,b104⟩
def b105:PCode :=
 (.seq (.reg [
 ⟨some 1,.box 93 (.tmp 0),none⟩,⟨some 2,.v .mv [.const .nilFunc],none⟩])
 (.seq (.reg [
 ⟨some 3,.v (.mkf (.func 135) 0) [.tmp 1],none⟩,iM 2 3])
 .ret))
def p105:PFunc:=⟨4,[(2,none)],none,b105⟩
def q106x0:PCode :=
 (.seq (.reg [
 iT 15 .lss 14 13])
 (.seq (.cond (.tmp 15)
 .skip
 (.exit 0))
 (.seq (.blk 1
 (.seq (.reg [
 iA 16 2 12 14,iN 17 2 16,⟨some 7,.lalloc 121 (.agg #[(.slice none 0 0),(.int .i64 0)]),none⟩,iS 2 7 17])
 (.seq (.reg [
 iM 18 1,iN 19 2 7,iN 20 2 5,⟨some 21,.call (.tmp 18) [.tmp 19,.tmp 20],none⟩])
 (.cond (.tmp 21)
 (.reg [
 iN 22 2 7,iS 2 5 22])
 .skip))))
 (.reg [
 iO 23 .add 14 1,iM 14 23]))))
def b106:PCode :=
 (.seq (.reg [
 ⟨some 4,.lalloc 121 (.agg #[(.slice none 0 0),(.int .i64 0)]),none⟩])
 (.seq (.reg [
 iM 8 0,⟨some 9,.v (.ia 2) [.tmp 8,.const (.int .i64 0)],none⟩,iN 10 2 9,⟨some 5,.lalloc 121 (.agg #[(.slice none 0 0),(.int .i64 0)]),none⟩,iS 2 5 10])
 (.seq (.seq (.reg [
 iM 11 0,⟨some 12,.v (.sl 2 true false) [.tmp 11,.const (.int .i64 1)],none⟩,iK 13 12,iI 14 0])
 (.blk 0
 (.loop q106x0)))
 (.seq (.reg [
 iN 24 2 5,iS 2 4 24])
 .ret))))
def p106:PFunc:=⟨25,[(4,some (some 2))],none,b106⟩
def b107:PCode :=
 (.seq (.reg [
 iV 2 121 0,iV 3 121 1,iB 4 false])
 (.seq (.reg [
 iF 5 1 2,iL 6 5,iF 7 1 3,iL 8 7,iT 9 .lss 6 8,iM 4 9])
 .ret))
def p107:PFunc:=⟨10,[(4,none)],none,b107⟩
def q108x0:PCode :=
 (.seq (.reg [
 iT 59 .lss 58 57])
 (.seq (.cond (.tmp 59)
 .skip
 (.exit 6))
 (.seq (.blk 7
 (.seq (.reg [
 iM 60 58,iM 13 60])
 (.reg [
 iM 61 9,iM 62 12,iM 63 13,⟨some 64,.v .ix [.tmp 62,.tmp 63],none⟩,⟨some 65,.v (.cv .i64) [.tmp 64],none⟩,iM 66 13,iO 67 .add 66 1,iT 68 .mul 65 67,iM 69 10,iO 70 .add 69 1,iT 71 .mul 68 70,iT 72 .add 61 71,iM 9 72])))
 (.reg [
 iO 73 .add 58 1,iM 58 73]))))
def q108x1:PCode :=
 (.seq (.reg [
 iT 50 .lss 49 48])
 (.seq (.cond (.tmp 50)
 .skip
 (.exit 4))
 (.seq (.blk 5
 (.seq (.reg [
 iM 51 49,iA 52 1 47 49,iL 53 52,iM 10 51,iM 11 53])
 (.seq (.reg [
 iM 54 11,iX 55 140 54,iM 12 55])
 (.seq (.seq (.reg [
 iM 56 12,⟨some 57,.v .slen [.tmp 56],none⟩,iI 58 0])
 (.blk 6
 (.loop q108x0)))
 (.reg [
 iM 74 8,iM 75 12,⟨some 76,.v (.sb .add) [.tmp 75,.const (.string ⟨#[10]⟩)],none⟩,⟨some 77,.v (.sb .add) [.tmp 74,.tmp 76],none⟩,iM 8 77])))))
 (.reg [
 iO 78 .add 49 1,iM 49 78]))))
def q108x2:PCode :=
 (.seq (.reg [
 iT 37 .lss 36 35])
 (.seq (.cond (.tmp 37)
 .skip
 (.exit 2))
 (.seq (.blk 3
 (.seq (.reg [
 iA 38 2 34 36,iN 39 2 38,⟨some 7,.lalloc 51 (.agg #[(.int .i64 0),(.int .i64 0)]),none⟩,iS 2 7 39])
 (.reg [
 iM 40 3,iN 41 2 7,⟨some 42,.v (.bld [(.int .i64 0),(.int .i64 0)] [(0,2)]) [.tmp 41],none⟩,⟨some 43,.v (.mki 151) [.tmp 42],none⟩,⟨some 44,.lbs 153 1 [.nilIface] 1 [(0,.tmp 43)],none⟩,⟨some 45,.app 153 1 (.tmp 40) (.tmp 44),none⟩,iM 3 45])))
 (.reg [
 iO 46 .add 36 1,iM 36 46]))))
def q108x3:PCode :=
 (.seq (.reg [
 iT 18 .lss 17 16])
 (.seq (.cond (.tmp 18)
 .skip
 (.exit 0))
 (.seq (.blk 1
 (.seq (.reg [
 iM 19 17,iA 20 2 15 17,iN 21 2 20,⟨some 5,.lalloc 75 (.agg #[(.int .i64 0),(.int .i64 0)]),none⟩,iM 4 19,iS 2 5 21])
 (.dreg [
 iM 22 3,iN 23 2 5,iF 24 1 1,iL 25 24,iM 26 4,iY 27 126 25 26,⟨some 28,.v (.bld [(.int .i64 0),(.int .i64 0),(.bool false)] [(0,2),(2,1)]) [.tmp 23,.tmp 27],none⟩,⟨some 29,.v (.mki 149) [.tmp 28],none⟩,⟨some 30,.lbs 153 1 [.nilIface] 1 [(0,.tmp 29)],none⟩,⟨some 31,.app 153 1 (.tmp 22) (.tmp 30),none⟩,iM 3 31] [fA,⟨7,false,none⟩,fC,⟨3,true,none⟩,fC,⟨1,true,some [22,23]⟩,fC,fC,⟨32,true,none⟩,fE,fC])))
 (.reg [
 iO 32 .add 17 1,iM 17 32]))))
def b108:PCode :=
 (.seq (.reg [
 iV 1 26 0,⟨some 2,.v .mv [.const (.string ⟨#[]⟩)],none⟩])
 (.seq (.reg [
 iH 3])
 (.seq (.seq (.reg [
 iF 14 0 1,iL 15 14,iK 16 15,iI 17 0])
 (.blk 0
 (.loop q108x3)))
 (.seq (.seq (.reg [
 iF 33 2 1,iL 34 33,iK 35 34,iI 36 0])
 (.blk 2
 (.loop q108x2)))
 (.seq (.reg [
 ⟨some 8,.v .mv [.const (.string ⟨#[]⟩)],none⟩,iI 9 0])
 (.seq (.seq (.reg [
 iM 47 3,iK 48 47,iI 49 0])
 (.blk 4
 (.loop q108x1)))
 (.seq (.reg [
 iM 79 9,iO 80 .rem 79 181,iM 9 80])
 (.seq (.reg [
 iM 81 8,⟨some 82,.v (.sb .add) [.tmp 81,.const (.string ⟨#[101,110,100,32]⟩)],none⟩,iM 83 9,iO 84 .quo 83 100,iX 85 141 84,⟨some 86,.v (.sb .add) [.tmp 82,.tmp 85],none⟩,iM 87 9,iO 88 .quo 87 10,iO 89 .rem 88 10,iX 90 141 89,⟨some 91,.v (.sb .add) [.tmp 86,.tmp 90],none⟩,iM 92 9,iO 93 .rem 92 10,iX 94 141 93,⟨some 95,.v (.sb .add) [.tmp 91,.tmp 94],none⟩,⟨some 96,.v (.sb .add) [.tmp 95,.const (.string ⟨#[10]⟩)],none⟩,iM 2 96])
 .ret))))))))
def p108:PFunc:=⟨97,[(2,none)],none,b108⟩
def b109:PCode :=
 (.seq (.reg [
 ⟨some 2,.alloc 100 (.agg #[(.int .i64 0),(.int .i64 0)]),none⟩,⟨some 3,.alloc 29 (.int .i64 0),none⟩])
 (.seq (.reg [
 ⟨some 4,.v (.mkf (.func 142) 0) [.tmp 2,.tmp 3],none⟩,⟨none,.dfr (.tmp 4) [],none⟩])
 (.seq (.reg [
 iM 5 0,⟨some 6,.call (.tmp 5) [],none⟩])
 (.seq (.reg [
 ⟨some 7,.v (.bld [(.int .i64 0),(.int .i64 0)] []) [],none⟩,iS 2 2 7,⟨none,.st 1 (.tmp 3) (.const (.int .i64 0)),none⟩])
 .ret))))
def p109:PFunc:=⟨8,[(2,some (some 2)),(3,some none)],none,b109⟩
def b110:PCode :=
 (.reg [
 iL 2 0,iX 3 111 2,iS 3 1 3])
def p110:PFunc:=⟨4,[],none,b110⟩
def q111x0:PCode :=
 (.seq (.reg [
 iT 22 .lss 21 20])
 (.seq (.cond (.tmp 22)
 .skip
 (.exit 0))
 (.seq (.blk 1
 (.seq (.reg [
 iA 23 1 19 21,iL 24 23,iM 6 24])
 (.seq (.reg [
 iM 25 6,⟨some 26,.call (.func 143) [.tmp 25,.const (.string ⟨#[32]⟩)],none⟩,iM 7 26])
 (.blk 2
 (.seq (.reg [
 iM 30 7,⟨some 31,.v (.ia 1) [.tmp 30,.const (.int .i64 0)],none⟩,iL 32 31,⟨some 33,.v (.sb .eql) [.tmp 32,.const (.string ⟨#[100,97,121]⟩)],none⟩,iM 34 33,jM 35 7 34 true,
 jK 36 35 34 true,
 ⟨some 37,.v (.bld [(.int .i64 0),(.int .i64 0),(.bool false)] []) [],some (34,true)⟩,
 jX 38 145 37 34 true,
 jT 39 .eql 36 38 34 true,
 iP 40 34 39,iM 29 40])
 (.cond (.tmp 29)
 (.seq (.seq (.reg [
 iM 41 7,⟨some 42,.v (.ia 1) [.tmp 41,.const (.int .i64 3)],none⟩,iL 43 42,⟨some 44,.v (.sb .eql) [.tmp 43,.const (.string ⟨#[121,101,115]⟩)],none⟩])
 (.cond (.tmp 44)
 (.reg [
 iF 45 1 4,iL 46 45,iF 47 0 4,iL 48 47,iK 49 48,⟨some 50,.lbs 3 1 [(.int .i64 0)] 1 [(0,.tmp 49)],none⟩,⟨some 51,.app 3 1 (.tmp 46) (.tmp 50),none⟩,iF 52 1 4,iS 1 52 51])
 .skip))
 (.dreg [
 iF 53 0 4,iL 54 53,iM 55 7,⟨some 56,.v (.ia 1) [.tmp 55,.const (.int .i64 1)],none⟩,iL 57 56,iM 59 7,⟨some 60,.v (.ia 1) [.tmp 59,.const (.int .i64 2)],none⟩,iL 61 60,iX 58 146 57,iX 62 146 61,⟨some 63,.v (.bld [(.int .i64 0),(.int .i64 0)] [(0,1),(1,1)]) [.tmp 58,.tmp 62],none⟩,⟨some 64,.lbs 75 2 [(.int .i64 0),(.int .i64 0)] 1 [(0,.tmp 63)],none⟩,⟨some 65,.app 75 2 (.tmp 54) (.tmp 64),none⟩,iF 66 0 4,iS 1 66 65] [fA,⟨6,false,none⟩,fA,fA,fB,fA,fA,fB,⟨1,false,some [53,54,59,60,61]⟩,⟨1,true,some [53,54]⟩,fC,⟨66,true,none⟩,fE,fC,⟨6,true,none⟩]))
 (.seq (.reg [
 iM 68 7,⟨some 69,.v (.ia 1) [.tmp 68,.const (.int .i64 0)],none⟩,iL 70 69,⟨some 71,.v (.sb .eql) [.tmp 70,.const (.string ⟨#[99,111,97,116]⟩)],none⟩,iM 72 71,jM 73 7 72 true,
 jK 74 73 72 true,
 ⟨some 75,.v (.bld [(.int .i64 0),(.int .i64 0)] []) [],some (72,true)⟩,
 jX 76 147 75 72 true,
 jT 77 .eql 74 76 72 true,
 iP 78 72 77,iM 67 78])
 (.cond (.tmp 67)
 (.dreg [
 iF 79 2 4,iL 80 79,iM 81 7,⟨some 82,.v (.ia 1) [.tmp 81,.const (.int .i64 1)],none⟩,iL 83 82,iM 85 7,⟨some 86,.v (.ia 1) [.tmp 85,.const (.int .i64 2)],none⟩,iL 87 86,iX 84 146 83,iX 88 146 87,⟨some 89,.v (.bld [(.int .i64 0),(.int .i64 0)] [(0,1),(1,1)]) [.tmp 84,.tmp 88],none⟩,⟨some 90,.lbs 51 2 [(.int .i64 0),(.int .i64 0)] 1 [(0,.tmp 89)],none⟩,⟨some 91,.app 51 2 (.tmp 80) (.tmp 90),none⟩,iF 92 2 4,iS 1 92 91] [fA,⟨6,false,none⟩,fA,fA,fB,fA,fA,fB,⟨1,false,some [79,80,85,86,87]⟩,⟨1,true,some [79,80]⟩,fC,⟨92,true,none⟩,fE,fC,⟨6,true,none⟩])
 (.reg [
 iM 27 6,⟨some 28,.call (.func 144) [.const (.bool false),.tmp 27],none⟩])))))))))
 (.reg [
 iO 93 .add 21 1,iM 21 93]))))
def b111:PCode :=
 (.seq (.reg [
 ⟨some 2,.lalloc 26 (.agg #[(.slice none 0 0),(.slice none 0 0),(.slice none 0 0)]),none⟩])
 (.seq (.reg [
 iM 8 0,⟨some 9,.call (.func 143) [.tmp 8,.const (.string ⟨#[10]⟩)],none⟩,iM 3 9])
 (.seq (.reg [
 iM 10 3,iK 11 10,iO 12 .geq 11 2,iM 13 0,iY 14 144 12 13])
 (.seq (.reg [
 ⟨some 4,.lalloc 26 (.agg #[(.slice none 0 0),(.slice none 0 0),(.slice none 0 0)]),none⟩])
 (.seq (.seq (.reg [
 iM 15 3,iM 16 3,iK 17 16,iO 18 .sub 17 2,⟨some 19,.v (.sl 1 false true) [.tmp 15,.tmp 18],none⟩,iK 20 19,iI 21 0])
 (.blk 0
 (.loop q111x0)))
 (.seq (.reg [
 iN 94 3 4,iX 95 108 94,iM 96 0,⟨some 97,.v (.sb .eql) [.tmp 95,.tmp 96],none⟩,iM 98 0,iY 99 144 97 98])
 (.seq (.reg [
 iN 100 3 4,iS 3 2 100])
 .ret)))))))
def p111:PFunc:=⟨101,[(2,some (some 3))],none,b111⟩
def q112x0:PCode :=
 (.seq (.seq (.reg [
 iM 6 5,iM 7 1,iK 8 7,iT 9 .lss 6 8])
 (.cond (.tmp 9)
 .skip
 (.exit 0)))
 (.seq (.blk 1
 (.reg [
 iM 12 0,⟨some 13,.v (.sb .add) [.tmp 12,.const (.string ⟨#[32]⟩)],none⟩,iM 14 1,iM 15 5,iA 16 1 14 15,iL 17 16,iX 18 148 17,⟨some 19,.v (.sb .add) [.tmp 13,.tmp 18],none⟩,iM 0 19]))
 (.reg [
 iM 10 5,iO 11 .add 10 1,iM 5 11])))
def b112:PCode :=
 (.seq (.reg [
 ⟨some 4,.v .mv [.const (.string ⟨#[]⟩)],none⟩])
 (.seq (.seq (.reg [
 iI 5 0])
 (.blk 0
 (.loop q112x0)))
 (.seq (.reg [
 iM 20 0,iM 4 20])
 .ret)))
def p112:PFunc:=⟨21,[(4,none)],none,b112⟩
def q113x0:PCode :=
 (.seq (.seq (.reg [
 iM 15 8,iM 16 0,iM 17 7,iA 18 1 16 17,iL 19 18,⟨some 20,.v .slen [.tmp 19],none⟩,iT 21 .lss 15 20])
 (.cond (.tmp 21)
 .skip
 (.exit 2)))
 (.seq (.blk 3
 (.reg [
 iM 24 6,iM 25 0,iM 26 7,iA 27 1 25 26,iL 28 27,iM 29 8,⟨some 30,.v .ix [.tmp 28,.tmp 29],none⟩,⟨some 31,.v (.cv .i64) [.tmp 30],none⟩,iM 32 8,iO 33 .add 32 1,iT 34 .mul 31 33,iM 35 7,iO 36 .add 35 1,iT 37 .mul 34 36,iT 38 .add 24 37,iM 6 38]))
 (.reg [
 iM 22 8,iO 23 .add 22 1,iM 8 23])))
def q113x1:PCode :=
 (.seq (.seq (.reg [
 iM 9 7,iM 10 0,iK 11 10,iT 12 .lss 9 11])
 (.cond (.tmp 12)
 .skip
 (.exit 0)))
 (.seq (.blk 1
 (.seq (.seq (.reg [
 iI 8 0])
 (.blk 2
 (.loop q113x0)))
 (.reg [
 iM 39 5,iM 40 0,iM 41 7,iA 42 1 40 41,iL 43 42,⟨some 44,.v (.sb .add) [.tmp 39,.tmp 43],none⟩,⟨some 45,.v (.sb .add) [.tmp 44,.const (.string ⟨#[10]⟩)],none⟩,iM 5 45])))
 (.reg [
 iM 13 7,iO 14 .add 13 1,iM 7 14])))
def b113:PCode :=
 (.seq (.reg [
 ⟨some 4,.v .mv [.const (.string ⟨#[]⟩)],none⟩])
 (.seq (.reg [
 ⟨some 5,.v .mv [.const (.string ⟨#[]⟩)],none⟩,iI 6 0])
 (.seq (.seq (.reg [
 iI 7 0])
 (.blk 0
 (.loop q113x1)))
 (.seq (.reg [
 iM 46 6,iM 47 1,iT 48 .rem 46 47,iM 6 48])
 (.seq (.reg [
 iM 49 5,⟨some 50,.v (.sb .add) [.tmp 49,.const (.string ⟨#[101,110,100,32]⟩)],none⟩,iM 51 6,iO 52 .quo 51 100,iX 53 148 52,⟨some 54,.v (.sb .add) [.tmp 50,.tmp 53],none⟩,iM 55 6,iO 56 .quo 55 10,iO 57 .rem 56 10,iX 58 148 57,⟨some 59,.v (.sb .add) [.tmp 54,.tmp 58],none⟩,iM 60 6,iO 61 .rem 60 10,iX 62 148 61,⟨some 63,.v (.sb .add) [.tmp 59,.tmp 62],none⟩,⟨some 64,.v (.sb .add) [.tmp 63,.const (.string ⟨#[10]⟩)],none⟩,iM 4 64])
 .ret)))))
def p113:PFunc:=⟨65,[(4,none)],none,b113⟩
def q114x0:PCode :=
 (.seq (.seq (.reg [
 iM 8 7,iM 9 0,⟨some 10,.v .slen [.tmp 9],none⟩,iT 11 .lss 8 10])
 (.cond (.tmp 11)
 .skip
 (.exit 0)))
 (.seq (.blk 1
 (.seq (.reg [
 iM 14 0,iM 15 7,⟨some 16,.v .ix [.tmp 14,.tmp 15],none⟩,iM 17 1,iT 18 .eql 16 17])
 (.cond (.tmp 18)
 (.seq (.reg [
 iM 19 5,iM 20 0,iM 21 6,iM 22 7,⟨some 23,.v (.sls true true) [.tmp 20,.tmp 21,.tmp 22],none⟩,⟨some 24,.lbs 9 1 [(.string ⟨#[]⟩)] 1 [(0,.tmp 23)],none⟩,⟨some 25,.app 9 1 (.tmp 19) (.tmp 24),none⟩,iM 5 25])
 (.reg [
 iM 26 7,iO 27 .add 26 1,iM 6 27]))
 .skip)))
 (.reg [
 iM 12 7,iO 13 .add 12 1,iM 7 13])))
def b114:PCode :=
 (.seq (.reg [
 iH 4])
 (.seq (.reg [
 iH 5])
 (.seq (.reg [
 iI 6 0])
 (.seq (.seq (.reg [
 iI 7 0])
 (.blk 0
 (.loop q114x0)))
 (.seq (.reg [
 iM 28 5,iM 29 0,iM 30 6,⟨some 31,.v (.sls true false) [.tmp 29,.tmp 30],none⟩,⟨some 32,.lbs 9 1 [(.string ⟨#[]⟩)] 1 [(0,.tmp 31)],none⟩,⟨some 33,.app 9 1 (.tmp 28) (.tmp 32),none⟩,iM 4 33])
 .ret)))))
def p114:PFunc:=⟨34,[(4,none)],none,b114⟩
def q115x0:PCode :=
 (.seq (.seq (.reg [
 iM 10 7,iM 11 0,iK 12 11,iT 13 .lss 10 12])
 (.cond (.tmp 13)
 .skip
 (.exit 0)))
 (.seq (.blk 1
 (.seq (.reg [
 iM 17 0,iM 18 7,iA 19 1 17 18,iL 20 19,iM 21 1,iY 22 149 20 21,iM 16 22,iE 23 0 16,iE 24 1 16,iM 8 23,iM 9 24])
 (.seq (.seq (.reg [
 iM 25 9,iR 26 25])
 (.cond (.tmp 26)
 (.seq (.reg [
 iH 4,iB 5 false])
 .ret)
 .skip))
 (.reg [
 iM 27 6,iM 28 8,⟨some 29,.lbs 3 1 [(.int .i64 0)] 1 [(0,.tmp 28)],none⟩,⟨some 30,.app 3 1 (.tmp 27) (.tmp 29),none⟩,iM 6 30]))))
 (.reg [
 iM 14 7,iO 15 .add 14 1,iM 7 15])))
def b115:PCode :=
 (.seq (.reg [
 iH 4,iB 5 false])
 (.seq (.reg [
 iH 6])
 (.seq (.seq (.reg [
 iI 7 0])
 (.blk 0
 (.loop q115x0)))
 (.seq (.reg [
 iM 31 6,iM 4 31,iB 5 true])
 .ret))))
def p115:PFunc:=⟨32,[(4,none),(5,none)],none,b115⟩
def b116:PCode :=
 (.seq (.reg [
 ⟨some 4,.lalloc 75 (.agg #[(.int .i64 0),(.int .i64 0)]),none⟩])
 (.seq (.reg [
 iM 5 0,iM 6 1,⟨some 7,.v (.bld [(.int .i64 0),(.int .i64 0)] [(0,1),(1,1)]) [.tmp 5,.tmp 6],none⟩,iS 2 4 7])
 .ret))
def p116:PFunc:=⟨8,[(4,some (some 2))],none,b116⟩
def b117:PCode :=
 (.seq (.reg [
 iV 1 75 0,iB 2 false])
 (.seq (.reg [
 iF 3 0 1,iL 4 3,⟨some 5,.call (.func 118) [.tmp 4,.const (.int .i64 0),.const (.int .i64 24)],none⟩,iR 6 5,iM 7 6,jF 8 1 1 7 false,
 jL 9 8 7 false,
 jF 10 0 1 7 false,
 jL 11 10 7 false,
 ⟨some 12,.call (.func 118) [.tmp 9,.tmp 11,.const (.int .i64 24)],some (7,false)⟩,
 jR 13 12 7 false,
 iQ 14 7 13,iM 2 14])
 .ret))
def p117:PFunc:=⟨15,[(2,none)],none,b117⟩
def b118:PCode :=
 (.seq (.reg [
 iB 6 false])
 (.seq (.reg [
 iM 7 0,iM 8 1,iT 9 .geq 7 8,iM 10 9,jM 11 0 10 true,
 jM 12 2 10 true,
 jT 13 .leq 11 12 10 true,
 iP 14 10 13,iM 6 14])
 .ret))
def p118:PFunc:=⟨15,[(6,none)],none,b118⟩
def b119:PCode :=
 (.seq (.reg [
 iV 1 51 0,iB 2 false])
 (.seq (.reg [
 iF 3 0 1,iL 4 3,⟨some 5,.call (.func 118) [.tmp 4,.const (.int .i64 1),.const (.int .i64 288)],none⟩,iR 6 5,iM 7 6,jF 8 1 1 7 false,
 jL 9 8 7 false,
 jF 10 0 1 7 false,
 jL 11 10 7 false,
 ⟨some 12,.call (.func 118) [.tmp 9,.tmp 11,.const (.int .i64 400)],some (7,false)⟩,
 jR 13 12 7 false,
 iQ 14 7 13,iM 2 14])
 .ret))
def p119:PFunc:=⟨15,[(2,none)],none,b119⟩
def b120:PCode :=
 (.seq (.reg [
 iB 4 false])
 (.seq (.reg [
 iM 5 0,iM 6 1,iY 7 150 5 6,iO 8 .geq 7 0,iM 4 8])
 .ret))
def p120:PFunc:=⟨9,[(4,none)],none,b120⟩
def b121:PCode :=
 (.seq (.reg [
 iB 4 false])
 (.seq (.reg [
 iM 5 0,iM 6 1,iY 7 151 5 6,iO 8 .geq 7 0,iM 4 8])
 .ret))
def p121:PFunc:=⟨9,[(4,none)],none,b121⟩
def q122x0:PCode :=
 (.seq (.reg [
 iT 8 .lss 7 6])
 (.seq (.cond (.tmp 8)
 .skip
 (.exit 0))
 (.seq (.blk 1
 (.seq (.reg [
 iM 9 7,iA 10 1 5 7,iL 11 10,iM 3 9,iM 4 11])
 (.seq (.reg [
 iM 12 3,iO 13 .gtr 12 0,iM 14 13,jM 15 4 14 true,
 jM 16 0 14 true,
 jM 17 3 14 true,
 jO 18 .sub 17 1 14 true,
 jA 19 1 16 18 14 true,
 jL 20 19 14 true,
 jT 21 .leq 15 20 14 true,
 iP 22 14 21])
 (.cond (.tmp 22)
 (.seq (.reg [
 iB 2 false])
 .ret)
 .skip))))
 (.reg [
 iO 23 .add 7 1,iM 7 23]))))
def b122:PCode :=
 (.seq (.reg [
 iB 2 false])
 (.seq (.seq (.reg [
 iM 5 0,iK 6 5,iI 7 0])
 (.blk 0
 (.loop q122x0)))
 (.seq (.reg [
 iB 2 true])
 .ret)))
def p122:PFunc:=⟨24,[(2,none)],none,b122⟩
def b123:PCode :=
 (.seq (.reg [
 iB 4 false])
 (.seq (.reg [
 iM 5 0,iM 6 1,iY 7 152 5 6,iO 8 .geq 7 0,iM 4 8])
 .ret))
def p123:PFunc:=⟨9,[(4,none)],none,b123⟩
def b124:PCode :=
 (.seq (.reg [
 iB 3 false])
 (.seq (.reg [
 iN 4 3 1,iM 5 0,iY 6 104 4 5,iR 7 6,iM 3 7])
 .ret))
def p124:PFunc:=⟨8,[(3,none)],none,b124⟩
def b125:PCode :=
 (.seq (.reg [
 iB 3 false])
 (.seq (.reg [
 iF 4 1 1,iL 5 4,iM 6 0,iY 7 126 5 6,iR 8 7,iM 3 8])
 .ret))
def p125:PFunc:=⟨9,[(3,none)],none,b125⟩
def b126:PCode :=
 (.seq (.reg [
 iB 4 false])
 (.seq (.reg [
 iM 5 0,iM 6 1,iY 7 153 5 6,iO 8 .geq 7 0,iM 4 8])
 .ret))
def p126:PFunc:=⟨9,[(4,none)],none,b126⟩
def q127x0:PCode :=
 (.seq (.reg [
 iT 9 .lss 8 7])
 (.seq (.cond (.tmp 9)
 .skip
 (.exit 0))
 (.seq (.blk 1
 (.seq (.reg [
 iM 10 8,iA 11 1 6 8,iL 12 11,iM 2 10,iM 3 12])
 (.seq (.reg [
 iN 14 5 1,iL 15 0,iM 16 2,iZ 17 79 14 15 16,iM 13 17,iE 18 0 13,iE 19 1 13,iM 4 18,iM 5 19])
 (.reg [
 iN 20 5 1,iM 21 2,iM 22 3,iM 23 4,iM 24 5,⟨some 25,.call (.func 128) [.tmp 20,.tmp 21,.tmp 22,.tmp 23,.tmp 24],none⟩]))))
 (.reg [
 iO 26 .add 8 1,iM 8 26]))))
def b127:PCode :=
 (.seq (.reg [
 iL 6 0,iK 7 6,iI 8 0])
 (.blk 0
 (.loop q127x0)))
def p127:PFunc:=⟨27,[],none,b127⟩
def b128:PCode :=
 (.seq (.reg [
 iV 5 93 0])
 (.seq (.dreg [
 iN 12 5 5,iM 13 2,iM 14 3,iZ 15 86 12 13 14,iF 16 0 5,iF 17 2 16,iL 18 17,iM 19 1,iA 20 2 18 19,iN 21 2 20,⟨some 10,.lalloc 75 (.agg #[(.int .i64 0),(.int .i64 0)]),none⟩,⟨some 11,.lalloc 51 (.agg #[(.int .i64 0),(.int .i64 0)]),none⟩,iS 2 10 15,iS 2 11 21] [⟨7,false,none⟩,fA,fA,fB,fA,fA,⟨7,false,none⟩,fA,fA,fB,⟨12,false,none⟩,⟨13,false,none⟩,⟨12,false,none⟩,⟨13,true,none⟩])
 (.seq (.seq (.reg [
 iF 22 0 10,iL 23 22,iF 24 0 11,iL 25 24,iT 26 .lss 23 25])
 (.cond (.tmp 26)
 (.reg [
 iM 27 1,⟨some 28,.v (.bld [(.int .i64 0),(.int .i64 0)] [(0,1),(1,1)]) [.tmp 27,.const (.int .i64 1)],none⟩,⟨some 29,.v (.mki 100) [.tmp 28],none⟩,⟨none,.pnc (.tmp 29),none⟩])
 .skip))
 (.seq (.reg [
 iM 30 4,iM 31 30,jF 32 1 10 31 true,
 jL 33 32 31 true,
 jF 34 1 11 31 true,
 jL 35 34 31 true,
 jT 36 .gtr 33 35 31 true,
 iP 37 31 36])
 (.cond (.tmp 37)
 (.reg [
 iM 38 1,⟨some 39,.v (.bld [(.int .i64 0),(.int .i64 0)] [(0,1),(1,1)]) [.tmp 38,.const (.int .i64 2)],none⟩,⟨some 40,.v (.mki 100) [.tmp 39],none⟩,⟨none,.pnc (.tmp 40),none⟩])
 .skip)))))
def p128:PFunc:=⟨41,[],none,b128⟩
def b129:PCode :=
 (.seq (.reg [
 iV 3 93 0,iI 6 0])
 (.seq (.dreg [
 iF 7 3 3,iL 8 7,iM 9 2,iA 10 1 8 9,iL 11 10,iF 12 3 3,iL 13 12,iM 14 1,iA 15 1 13 14,iL 16 15,iT 17 .sub 11 16,iM 6 17] [fA,⟨5,false,none⟩,fA,fA,fB,fA,⟨5,false,none⟩,fA,fA,fB,fC,fC])
 .ret))
def p129:PFunc:=⟨18,[(6,none)],none,b129⟩
def b130:PCode :=
 (.seq (.reg [
 iV 3 93 0,iI 6 0])
 (.seq (.dreg [
 iF 7 4 3,iL 8 7,iM 9 2,iA 10 1 8 9,iL 11 10,iF 12 4 3,iL 13 12,iM 14 1,iA 15 1 13 14,iL 16 15,iT 17 .sub 11 16,iM 6 17] [fA,⟨5,false,none⟩,fA,fA,fB,fA,⟨5,false,none⟩,fA,fA,fB,fC,fC])
 .ret))
def p130:PFunc:=⟨18,[(6,none)],none,b130⟩
def b131:PCode :=
 (.seq (.reg [
 iH 2])
 (.seq (.reg [
 iM 3 0,⟨some 4,.call (.func 154) [.const (.slice none 0 0),.tmp 3],none⟩,iM 2 4])
 .ret))
def p131:PFunc:=⟨5,[(2,none)],none,b131⟩
def q132x0:PCode :=
 (.seq (.reg [
 iT 9 .lss 8 7])
 (.seq (.cond (.tmp 9)
 .skip
 (.exit 0))
 (.seq (.blk 1
 (.seq (.reg [
 iM 10 8,iM 5 10])
 (.seq (.reg [
 iM 11 1,iM 12 0,iM 13 5,iA 14 1 12 13,iL 15 14,⟨some 16,.call (.tmp 11) [.tmp 15],none⟩])
 (.cond (.tmp 16)
 (.seq (.reg [
 iM 17 5,iM 4 17])
 .ret)
 .skip))))
 (.reg [
 iO 18 .add 8 1,iM 8 18]))))
def b132:PCode :=
 (.seq (.reg [
 iI 4 0])
 (.seq (.seq (.reg [
 iM 6 0,iK 7 6,iI 8 0])
 (.blk 0
 (.loop q132x0)))
 (.seq (.reg [
 iI 4 (-1)])
 .ret)))
def p132:PFunc:=⟨19,[(4,none)],none,b132⟩
def b133:PCode :=
 (.seq (.reg [
 iV 1 93 0,iH 2,iB 3 false])
 (.seq (.reg [
 ⟨some 4,.alloc 23 (.slice none 0 0),none⟩])
 (.seq (.reg [
 ⟨some 5,.alloc 4 (.bool false),none⟩,⟨none,.st 1 (.tmp 5) (.const (.bool false)),none⟩])
 (.seq .skip
 (.seq (.seq (.reg [
 iN 7 5 1,iX 8 105 7])
 (.blk 0
 (.rf (.tmp 8) [9]
 (.reg [
 iM 6 9])
 (.blk 1
 (.seq (.reg [
 iM 10 6,iS 1 4 10,⟨none,.st 1 (.tmp 5) (.const (.bool true)),none⟩])
 (.exit 0))))))
 (.seq (.dreg [
 iL 11 4,iL 12 5,iM 2 11,iM 3 12] [fB,fB,fA,fC])
 .ret))))))
def p133:PFunc:=⟨13,[(2,none),(3,none)],none,b133⟩
def b134:PCode :=
 (.seq (.reg [
 iH 2])
 (.seq (.seq (.reg [
 iM 3 0,⟨some 4,.v (.nl .slice false) [.tmp 3],none⟩])
 (.cond (.tmp 4)
 (.seq (.reg [
 iH 2])
 .ret)
 .skip))
 (.seq (.reg [
 ⟨some 5,.bs 51 2 [(.int .i64 0),(.int .i64 0)] 0 [],none⟩,iM 6 0,⟨some 7,.app 51 2 (.tmp 5) (.tmp 6),none⟩,iM 2 7])
 .ret)))
def p134:PFunc:=⟨8,[(2,none)],none,b134⟩
def b135:PCode :=
 (.seq (.reg [
 ⟨some 2,.box 110 (.tmp 0),none⟩])
 (.seq (.reg [
 ⟨some 6,.mkm (.agg [(.i .i64),(.i .i64)]),none⟩,⟨some 3,.alloc 144 (.map none),none⟩,iS 1 3 6])
 (.seq (.reg [
 ⟨some 4,.alloc 23 (.slice none 0 0),none⟩])
 (.seq (.reg [
 ⟨some 5,.alloc 28 .nilFunc,none⟩])
 (.seq (.reg [
 ⟨some 7,.v (.mkf (.func 136) 0) [.tmp 4,.tmp 1,.tmp 2,.tmp 3,.tmp 5],none⟩,iS 1 5 7])
 (.reg [
 iL 8 5,⟨some 9,.call (.tmp 8) [],none⟩]))))))
def p135:PFunc:=⟨10,[],none,b135⟩
def q136x0:PCode :=
 (.seq (.reg [
 iT 28 .lss 27 26])
 (.seq (.cond (.tmp 28)
 .skip
 (.exit 0))
 (.seq (.blk 1
 (.seq (.reg [
 iA 29 1 25 27,iL 30 29,⟨some 8,.alloc 3 (.int .i64 0),none⟩,iS 1 8 30])
 (.seq (.seq (.dreg [
 iL 31 6,iO 32 .gtr 31 0,iM 33 32,jL 34 8 33 true,
 jL 35 0 33 true,
 jL 36 6 33 true,
 jO 37 .sub 36 1 33 true,
 jA 38 1 35 37 33 true,
 jL 39 38 33 true,
 jT 40 .leq 34 39 33 true,
 iP 41 33 40,iM 42 41,jN 43 5 1 42 false,
 jL 44 6 42 false,
 jL 45 8 42 false,
 jL 46 3 42 false,
 ⟨some 47,.call (.func 138) [.tmp 43,.tmp 44,.tmp 45,.tmp 46],some (42,false)⟩,
 jR 48 47 42 false,
 iQ 49 42 48] [fE,fC,fC,fB,fB,fB,fA,fA,fB,fC,fC,fC,fB,fB,fB,fB,fD,fC,fC])
 (.cond (.tmp 49)
 (.exit 1)
 .skip))
 (.seq (.seq (.reg [
 iL 50 6,iO 51 .gtr 50 0])
 (.cond (.tmp 51)
 (.seq (.reg [
 ⟨some 53,.v (.mkf (.func 139) 0) [.tmp 1,.tmp 6,.tmp 0,.tmp 8],none⟩,iX 54 109 53,iM 52 54,iE 55 0 52,iE 56 1 52,⟨some 9,.lalloc 100 (.agg #[(.int .i64 0),(.int .i64 0)]),none⟩,iS 2 9 55,iM 10 56])
 (.seq (.reg [
 iM 57 10,iO 58 .neq 57 0])
 (.cond (.tmp 58)
 (.exit 1)
 .skip)))
 .skip))
 (.seq (.reg [
 iL 59 0,iL 60 8,⟨some 61,.lbs 3 1 [(.int .i64 0)] 1 [(0,.tmp 60)],none⟩,⟨some 62,.app 3 1 (.tmp 59) (.tmp 61),none⟩,iS 1 0 62])
 (.seq (.seq (.reg [
 iL 63 4,⟨some 64,.call (.tmp 63) [],none⟩,iR 65 64])
 (.cond (.tmp 65)
 (.seq (.reg [
 iB 5 false])
 .ret)
 .skip))
 (.reg [
 iL 66 0,iL 67 6,⟨some 68,.v (.sl 1 false true) [.tmp 66,.tmp 67],none⟩,iS 1 0 68])))))))
 (.reg [
 iO 69 .add 27 1,iM 27 69]))))
def b136:PCode :=
 (.seq (.reg [
 iB 5 false])
 (.seq (.reg [
 iL 11 0,iK 12 11,⟨some 6,.alloc 3 (.int .i64 0),none⟩,iS 1 6 12])
 (.seq (.seq (.reg [
 iL 13 6,iF 14 0 1,iF 15 2 14,iL 16 15,iK 17 16,iT 18 .eql 13 17])
 (.cond (.tmp 18)
 (.seq (.dreg [
 iL 19 2,iL 20 0,iX 21 137 20,⟨some 22,.call (.tmp 19) [.tmp 21],none⟩,iM 5 22] [fB,fB,⟨1,false,some [19]⟩,fD,fC])
 .ret)
 .skip))
 (.seq (.seq (.reg [
 iF 23 0 1,iF 24 1 23,iL 25 24,iK 26 25,iI 27 0])
 (.blk 0
 (.loop q136x0)))
 (.seq (.reg [
 iB 5 true])
 .ret)))))
def p136:PFunc:=⟨70,[(5,none)],none,b136⟩
def b137:PCode :=
 (.seq (.reg [
 iH 2])
 (.seq (.seq (.reg [
 iM 3 0,⟨some 4,.v (.nl .slice false) [.tmp 3],none⟩])
 (.cond (.tmp 4)
 (.seq (.reg [
 iH 2])
 .ret)
 .skip))
 (.seq (.reg [
 ⟨some 5,.bs 3 1 [(.int .i64 0)] 0 [],none⟩,iM 6 0,⟨some 7,.app 3 1 (.tmp 5) (.tmp 6),none⟩,iM 2 7])
 .ret)))
def p137:PFunc:=⟨8,[(2,none)],none,b137⟩
def q138x0:PCode :=
 (.seq (.reg [
 iT 49 .lss 48 47])
 (.seq (.cond (.tmp 49)
 .skip
 (.exit 0))
 (.seq (.blk 1
 (.seq (.reg [
 iA 50 1 46 48,iL 51 50,⟨some 16,.alloc 3 (.int .i64 0),none⟩,iS 1 16 51])
 (.seq (.seq (.reg [
 iL 52 16,iL 53 6,iT 54 .leq 52 53])
 (.cond (.tmp 54)
 (.exit 1)
 .skip))
 (.seq (.reg [
 ⟨some 56,.v (.mkf (.func 156) 0) [.tmp 4,.tmp 5,.tmp 6,.tmp 16],none⟩,iX 57 109 56,iM 55 57,iE 58 0 55,iE 59 1 55,⟨some 17,.lalloc 100 (.agg #[(.int .i64 0),(.int .i64 0)]),none⟩,iS 2 17 58,iM 18 59])
 (.seq (.reg [
 iM 60 18,iO 61 .eql 60 0,iM 62 61,jN 63 5 4 62 true,
 jL 64 5 62 true,
 jO 65 .add 64 1 62 true,
 jL 66 16 62 true,
 jM 67 3 62 true,
 ⟨some 68,.call (.func 138) [.tmp 63,.tmp 65,.tmp 66,.tmp 67],some (62,true)⟩,
 iP 69 62 68])
 (.cond (.tmp 69)
 (.seq (.reg [
 iB 12 true])
 (.exit 0))
 .skip))))))
 (.reg [
 iO 70 .add 48 1,iM 48 70]))))
def b138:PCode :=
 (.seq (.reg [
 ⟨some 4,.box 93 (.tmp 0),none⟩,⟨some 5,.box 3 (.tmp 1),none⟩,⟨some 6,.box 3 (.tmp 2),none⟩,iB 8 false])
 (.seq (.reg [
 iL 19 5,iL 20 6,⟨some 21,.v (.bld [(.int .i64 0),(.int .i64 0)] [(0,1),(1,1)]) [.tmp 19,.tmp 20],none⟩,⟨some 9,.lalloc 169 (.agg #[(.int .i64 0),(.int .i64 0)]),none⟩,iS 2 9 21])
 (.seq (.seq (.reg [
 iM 23 3,iN 24 2 9,⟨some 25,.mlk (.agg [(.i .i64),(.i .i64)]) (.bool false) true (.tmp 23) (.tmp 24),none⟩,iM 22 25,iE 26 0 22,iE 27 1 22,iM 10 26,iM 11 27])
 (.seq (.reg [
 iM 28 11])
 (.cond (.tmp 28)
 (.seq (.reg [
 iM 29 10,iM 8 29])
 .ret)
 .skip)))
 (.seq (.reg [
 iB 12 false])
 (.seq (.seq (.reg [
 iL 30 5,iF 31 0 4,iF 32 2 31,iL 33 32,iK 34 33,iO 35 .sub 34 1,iT 36 .eql 30 35])
 (.cond (.tmp 36)
 (.seq (.reg [
 ⟨some 38,.v (.mkf (.func 155) 0) [.tmp 4,.tmp 5,.tmp 6],none⟩,iX 39 109 38,iM 37 39,iE 40 0 37,iE 41 1 37,⟨some 13,.lalloc 100 (.agg #[(.int .i64 0),(.int .i64 0)]),none⟩,iS 2 13 40,iM 14 41])
 (.reg [
 iM 42 14,iO 43 .eql 42 0,iM 12 43]))
 (.seq (.reg [
 iF 44 0 4,iF 45 1 44,iL 46 45,iK 47 46,iI 48 0])
 (.blk 0
 (.loop q138x0)))))
 (.seq (.reg [
 iM 71 3,iN 72 2 9,iM 73 12,⟨none,.mup (.agg [(.i .i64),(.i .i64)]) (.tmp 71) (.tmp 72) (.tmp 73),none⟩])
 (.seq (.reg [
 iM 74 12,iM 8 74])
 .ret)))))))
def p138:PFunc:=⟨75,[(8,none)],none,b138⟩
def b139:PCode :=
 (.dreg [
 iN 4 5 0,iL 5 1,iO 6 .sub 5 1,iL 7 2,iL 8 1,iO 9 .sub 8 1,iA 10 1 7 9,iL 11 10,iL 12 3,⟨some 13,.call (.func 128) [.tmp 4,.tmp 6,.tmp 11,.tmp 12,.const (.bool true)],none⟩] [fB,fB,fA,fB,fB,fA,fA,fB,fB,fD])
def p139:PFunc:=⟨14,[],none,b139⟩
def b142:PCode :=
 (.blk 0
 (.seq (.reg [
 ⟨some 8,.v (.nl .iface false) [.tmp 6],none⟩])
 (.cond (.tmp 8)
 (.reg [
 iM 2 6])
 (.seq (.reg [
 ⟨some 9,.v (.tas 100 (.agg #[(.int .i64 0),(.int .i64 0)])) [.tmp 6],none⟩,iE 10 1 9,iE 11 0 9])
 (.cond (.tmp 10)
 (.seq (.reg [
 ⟨some 3,.lalloc 100 (.agg #[(.int .i64 0),(.int .i64 0)]),none⟩,iS 2 3 11])
 (.reg [
 iN 12 2 3,iS 2 0 12,⟨none,.st 1 (.tmp 1) (.const (.int .i64 7)),none⟩]))
 (.seq (.reg [
 ⟨some 13,.v (.tas 157 (.agg #[(.string ⟨#[]⟩)])) [.tmp 6],none⟩,iE 14 1 13,iE 15 0 13])
 (.cond (.tmp 14)
 (.seq (.reg [
 ⟨some 4,.lalloc 157 (.agg #[(.string ⟨#[]⟩)]),none⟩,iS 1 4 15])
 (.reg [
 ⟨none,.st 1 (.tmp 1) (.const (.int .i64 4)),none⟩]))
 (.seq (.reg [
 iM 5 6])
 (.reg [
 iM 7 5,⟨none,.pnc (.tmp 7),none⟩])))))))))
def p142:PFunc:=⟨16,[],(some 6),b142⟩
def b143:PCode :=
 (.seq (.reg [
 iH 4])
 (.seq (.reg [
 iM 5 0,iM 6 1,⟨some 7,.call (.func 159) [.tmp 5,.tmp 6,.const (.int .i64 0),.const (.int .i64 (-1))],none⟩,iM 4 7])
 .ret))
def p143:PFunc:=⟨8,[(4,none)],none,b143⟩
def b144:PCode :=
 (.seq (.reg [
 iM 4 0,iR 5 4])
 (.cond (.tmp 5)
 (.reg [
 iM 6 1,⟨some 7,.v (.bld [(.string ⟨#[]⟩)] [(0,1)]) [.tmp 6],none⟩,⟨some 8,.v (.mki 157) [.tmp 7],none⟩,⟨none,.pnc (.tmp 8),none⟩])
 .skip))
def p144:PFunc:=⟨9,[],none,b144⟩
def b145:PCode :=
 (.seq (.reg [
 iV 1 149 0,iI 2 0])
 (.seq (.reg [
 iI 2 4])
 .ret))
def p145:PFunc:=⟨3,[(2,none)],none,b145⟩
def q146x0:PCode :=
 (.seq (.reg [
 ⟨some 8,.nxt (.tmp 7),none⟩,iE 9 0 8])
 (.seq (.cond (.tmp 9)
 .skip
 (.exit 0))
 (.blk 1
 (.seq (.reg [
 iE 10 2 8,iM 5 10])
 (.seq (.reg [
 iM 11 5,⟨some 12,.v (.ib .geq) [.tmp 11,.const (.int .i32 48)],none⟩,iM 13 12,jM 14 5 13 true,
 ⟨some 15,.v (.ib .leq) [.tmp 14,.const (.int .i32 57)],some (13,true)⟩,
 iP 16 13 15,iM 17 16,jM 18 0 17 true,
 ⟨some 19,.v .slen [.tmp 18],some (17,true)⟩,
 jO 20 .leq 19 3 17 true,
 iP 21 17 20,iM 22 0,iY 23 144 21 22])
 (.reg [
 iM 24 3,⟨some 25,.v (.ib .mul) [.const (.int .i64 10),.tmp 24],none⟩,iM 26 5,⟨some 27,.v (.ib .sub) [.tmp 26,.const (.int .i32 48)],none⟩,⟨some 28,.v (.cv .i64) [.tmp 27],none⟩,iT 29 .add 25 28,iM 3 29]))))))
def b146:PCode :=
 (.seq (.reg [
 iI 2 0])
 (.seq (.reg [
 iI 3 0])
 (.seq (.seq (.reg [
 iM 6 0,⟨some 7,.rng (.tmp 6),none⟩])
 (.blk 0
 (.loop q146x0)))
 (.seq (.reg [
 iM 30 0,⟨some 31,.v (.sb .neq) [.tmp 30,.const (.string ⟨#[]⟩)],none⟩,iM 32 31,jM 33 3 32 true,
 jX 34 141 33 32 true,
 jM 35 0 32 true,
 ⟨some 36,.v (.sb .eql) [.tmp 34,.tmp 35],some (32,true)⟩,
 iP 37 32 36,iM 38 0,iY 39 144 37 38])
 (.seq (.reg [
 iM 40 3,iM 2 40])
 .ret)))))
def p146:PFunc:=⟨41,[(2,none)],none,b146⟩
def b147:PCode :=
 (.seq (.reg [
 iV 1 151 0,iI 2 0])
 (.seq (.reg [
 iI 2 3])
 .ret))
def p147:PFunc:=⟨3,[(2,none)],none,b147⟩
def b148:PCode :=
 (.seq (.reg [
 ⟨some 2,.v .mv [.const (.string ⟨#[]⟩)],none⟩])
 (.seq (.seq (.reg [
 iM 3 0,iO 4 .gtr 3 (-10),iM 5 4,jM 6 0 5 true,
 jO 7 .lss 6 0 5 true,
 iP 8 5 7])
 (.cond (.tmp 8)
 (.seq (.reg [
 iM 9 0,⟨some 10,.v (.ib .sub) [.const (.int .i64 48),.tmp 9],none⟩,⟨some 11,.v (.cv .u8) [.tmp 10],none⟩,⟨some 12,.lbs 5 1 [(.int .u8 0)] 1 [(0,.tmp 11)],none⟩,⟨some 13,.b2s (.tmp 12),none⟩,⟨some 14,.v (.sb .add) [.const (.string ⟨#[45]⟩),.tmp 13],none⟩,iM 2 14])
 .ret)
 .skip))
 (.seq (.seq (.reg [
 iM 15 0,iO 16 .lss 15 0])
 (.cond (.tmp 16)
 (.seq (.dreg [
 iM 17 0,iO 18 .quo 17 10,iX 19 148 18,iM 20 0,iO 21 .rem 20 10,⟨some 22,.v (.ib .sub) [.const (.int .i64 48),.tmp 21],none⟩,⟨some 23,.v (.cv .u8) [.tmp 22],none⟩,⟨some 24,.lbs 5 1 [(.int .u8 0)] 1 [(0,.tmp 23)],none⟩,⟨some 25,.b2s (.tmp 24),none⟩,⟨some 26,.v (.sb .add) [.tmp 19,.tmp 25],none⟩,iM 2 26] [fA,fA,fB,fA,fA,fA,fA,⟨26,false,none⟩,fB,fC,fC])
 .ret)
 .skip))
 (.seq (.seq (.reg [
 iM 27 0,iO 28 .lss 27 10])
 (.cond (.tmp 28)
 (.seq (.reg [
 iM 29 0,⟨some 30,.v (.ib .add) [.const (.int .i64 48),.tmp 29],none⟩,⟨some 31,.v (.cv .u8) [.tmp 30],none⟩,⟨some 32,.lbs 5 1 [(.int .u8 0)] 1 [(0,.tmp 31)],none⟩,⟨some 33,.b2s (.tmp 32),none⟩,iM 2 33])
 .ret)
 .skip))
 (.seq (.dreg [
 iM 34 0,iO 35 .quo 34 10,iX 36 148 35,iM 37 0,iO 38 .rem 37 10,⟨some 39,.v (.ib .add) [.const (.int .i64 48),.tmp 38],none⟩,⟨some 40,.v (.cv .u8) [.tmp 39],none⟩,⟨some 41,.lbs 5 1 [(.int .u8 0)] 1 [(0,.tmp 40)],none⟩,⟨some 42,.b2s (.tmp 41),none⟩,⟨some 43,.v (.sb .add) [.tmp 36,.tmp 42],none⟩,iM 2 43] [fA,fA,fB,fA,fA,fA,fA,⟨43,false,none⟩,fB,fC,fC])
 .ret)))))
def p148:PFunc:=⟨44,[(2,none)],none,b148⟩
def q149x0:PCode :=
 (.seq (.seq (.reg [
 iM 30 9,iM 31 7,⟨some 32,.v .slen [.tmp 31],none⟩,iT 33 .lss 30 32])
 (.cond (.tmp 33)
 .skip
 (.exit 0)))
 (.seq (.blk 1
 (.seq (.seq (.reg [
 iM 36 7,iM 37 9,⟨some 38,.v .ix [.tmp 36,.tmp 37],none⟩,⟨some 39,.v (.ib .lss) [.tmp 38,.const (.int .u8 48)],none⟩,iM 40 39,jM 41 7 40 false,
 jM 42 9 40 false,
 ⟨some 43,.v .ix [.tmp 41,.tmp 42],some (40,false)⟩,
 ⟨some 44,.v (.ib .gtr) [.tmp 43,.const (.int .u8 57)],some (40,false)⟩,
 iQ 45 40 44])
 (.cond (.tmp 45)
 (.seq (.reg [
 iI 4 0,iB 5 false])
 .ret)
 .skip))
 (.reg [
 iM 46 8,⟨some 47,.v (.ib .mul) [.const (.int .i64 10),.tmp 46],none⟩,iM 48 7,iM 49 9,⟨some 50,.v .ix [.tmp 48,.tmp 49],none⟩,⟨some 51,.v (.ib .sub) [.tmp 50,.const (.int .u8 48)],none⟩,⟨some 52,.v (.cv .i64) [.tmp 51],none⟩,iT 53 .add 47 52,iM 8 53])))
 (.reg [
 iM 34 9,iO 35 .add 34 1,iM 9 35])))
def b149:PCode :=
 (.seq (.reg [
 iI 4 0,iB 5 false])
 (.seq (.reg [
 iM 10 0,iI 6 1,iM 7 10])
 (.seq (.seq (.reg [
 iM 11 7,⟨some 12,.v .slen [.tmp 11],none⟩,iO 13 .gtr 12 0,iM 14 13,jM 15 7 14 true,
 ⟨some 16,.v .ix [.tmp 15,.const (.int .i64 0)],some (14,true)⟩,
 ⟨some 17,.v (.ib .eql) [.tmp 16,.const (.int .u8 45)],some (14,true)⟩,
 iP 18 14 17])
 (.cond (.tmp 18)
 (.dreg [
 iM 19 7,⟨some 20,.v (.sls true false) [.tmp 19,.const (.int .i64 1)],none⟩,iI 6 (-1),iM 7 20] [fC,fC,fC,fC])
 .skip))
 (.seq (.seq (.reg [
 iM 21 7,⟨some 22,.v .slen [.tmp 21],none⟩,iO 23 .lss 22 1,iM 24 23,jM 25 7 24 false,
 ⟨some 26,.v .slen [.tmp 25],some (24,false)⟩,
 jM 27 1 24 false,
 jT 28 .gtr 26 27 24 false,
 iQ 29 24 28])
 (.cond (.tmp 29)
 (.seq (.reg [
 iI 4 0,iB 5 false])
 .ret)
 .skip))
 (.seq (.reg [
 iI 8 0])
 (.seq (.seq (.reg [
 iI 9 0])
 (.blk 0
 (.loop q149x0)))
 (.seq (.reg [
 iM 54 6,iM 55 8,iT 56 .mul 54 55,iM 57 6,iM 58 8,iT 59 .mul 57 58,iX 60 148 59,iM 61 0,⟨some 62,.v (.sb .eql) [.tmp 60,.tmp 61],none⟩,iM 4 56,iM 5 62])
 .ret)))))))
def p149:PFunc:=⟨63,[(4,none),(5,none)],none,b149⟩
def q150x0:PCode :=
 (.seq (.reg [
 iT 9 .lss 8 7])
 (.seq (.cond (.tmp 9)
 .skip
 (.exit 0))
 (.seq (.blk 1
 (.seq (.reg [
 iM 10 8,iM 5 10])
 (.seq (.reg [
 iM 11 1,iM 12 0,iM 13 5,iA 14 2 12 13,iN 15 2 14,⟨some 16,.call (.tmp 11) [.tmp 15],none⟩])
 (.cond (.tmp 16)
 (.seq (.reg [
 iM 17 5,iM 4 17])
 .ret)
 .skip))))
 (.reg [
 iO 18 .add 8 1,iM 8 18]))))
def b150:PCode :=
 (.seq (.reg [
 iI 4 0])
 (.seq (.seq (.reg [
 iM 6 0,iK 7 6,iI 8 0])
 (.blk 0
 (.loop q150x0)))
 (.seq (.reg [
 iI 4 (-1)])
 .ret)))
def p150:PFunc:=⟨19,[(4,none)],none,b150⟩
def q151x0:PCode :=
 (.seq (.reg [
 iT 9 .lss 8 7])
 (.seq (.cond (.tmp 9)
 .skip
 (.exit 0))
 (.seq (.blk 1
 (.seq (.reg [
 iM 10 8,iM 5 10])
 (.seq (.reg [
 iM 11 1,iM 12 0,iM 13 5,iA 14 2 12 13,iN 15 2 14,⟨some 16,.call (.tmp 11) [.tmp 15],none⟩])
 (.cond (.tmp 16)
 (.seq (.reg [
 iM 17 5,iM 4 17])
 .ret)
 .skip))))
 (.reg [
 iO 18 .add 8 1,iM 8 18]))))
def b151:PCode :=
 (.seq (.reg [
 iI 4 0])
 (.seq (.seq (.reg [
 iM 6 0,iK 7 6,iI 8 0])
 (.blk 0
 (.loop q151x0)))
 (.seq (.reg [
 iI 4 (-1)])
 .ret)))
def p151:PFunc:=⟨19,[(4,none)],none,b151⟩
def q152x0:PCode :=
 (.seq (.reg [
 iT 9 .lss 8 7])
 (.seq (.cond (.tmp 9)
 .skip
 (.exit 0))
 (.seq (.blk 1
 (.seq (.reg [
 iM 10 8,iM 5 10])
 (.seq (.reg [
 iM 11 1,iM 12 0,iM 13 5,iA 14 1 12 13,iL 15 14,⟨some 16,.call (.tmp 11) [.tmp 15],none⟩])
 (.cond (.tmp 16)
 (.seq (.reg [
 iM 17 5,iM 4 17])
 .ret)
 .skip))))
 (.reg [
 iO 18 .add 8 1,iM 8 18]))))
def b152:PCode :=
 (.seq (.reg [
 iI 4 0])
 (.seq (.seq (.reg [
 iM 6 0,iK 7 6,iI 8 0])
 (.blk 0
 (.loop q152x0)))
 (.seq (.reg [
 iI 4 (-1)])
 .ret)))
def p152:PFunc:=⟨19,[(4,none)],none,b152⟩
def q153x0:PCode :=
 (.seq (.reg [
 iT 9 .lss 8 7])
 (.seq (.cond (.tmp 9)
 .skip
 (.exit 0))
 (.seq (.blk 1
 (.seq (.reg [
 iM 10 8,iM 5 10])
 (.seq (.reg [
 iM 11 1,iM 12 0,iM 13 5,iA 14 1 12 13,iL 15 14,iT 16 .eql 11 15])
 (.cond (.tmp 16)
 (.seq (.reg [
 iM 17 5,iM 4 17])
 .ret)
 .skip))))
 (.reg [
 iO 18 .add 8 1,iM 8 18]))))
def b153:PCode :=
 (.seq (.reg [
 iI 4 0])
 (.seq (.seq (.reg [
 iM 6 0,iK 7 6,iI 8 0])
 (.blk 0
 (.loop q153x0)))
 (.seq (.reg [
 iI 4 (-1)])
 .ret)))
def p153:PFunc:=⟨19,[(4,none)],none,b153⟩
def b154:PCode :=
 (.seq (.reg [
 ⟨some 2,.box 56 (.tmp 0),none⟩,iH 4])
 (.seq (.seq (.reg [
 iM 6 1])
 (.blk 0
 (.rf (.tmp 6) [7]
 (.reg [
 iM 5 7])
 (.blk 1
 (.reg [
 iL 8 2,iM 9 5,⟨some 10,.lbs 23 1 [(.slice none 0 0)] 1 [(0,.tmp 9)],none⟩,⟨some 11,.app 23 1 (.tmp 8) (.tmp 10),none⟩,iS 1 2 11])))))
 (.seq (.reg [
 iL 12 2,iM 4 12])
 .ret)))
def p154:PFunc:=⟨13,[(4,none)],none,b154⟩
def b155:PCode :=
 (.reg [
 iN 3 5 0,iL 4 1,iL 5 2,iF 6 0 0,iF 7 0 6,iL 8 7,iK 9 8,⟨some 10,.call (.func 128) [.tmp 3,.tmp 4,.tmp 5,.tmp 9,.const (.bool false)],none⟩])
def p155:PFunc:=⟨11,[],none,b155⟩
def b156:PCode :=
 (.reg [
 iN 4 5 0,iL 5 1,iL 6 2,iL 7 3,⟨some 8,.call (.func 128) [.tmp 4,.tmp 5,.tmp 6,.tmp 7,.const (.bool true)],none⟩])
def p156:PFunc:=⟨9,[],none,b156⟩
def q159x0:PCode :=
 (.seq (.seq (.reg [
 iM 34 10,iM 35 3,iT 36 .lss 34 35])
 (.cond (.tmp 36)
 .skip
 (.exit 0)))
 (.blk 1
 (.seq (.reg [
 iM 37 0,iM 38 1,iY 39 166 37 38,iM 11 39])
 (.seq (.seq (.reg [
 iM 40 11,iO 41 .lss 40 0])
 (.cond (.tmp 41)
 (.exit 0)
 .skip))
 (.seq (.reg [
 iM 42 9,iM 43 10,iM 44 0,iM 45 11,iM 46 2,iT 47 .add 45 46,⟨some 48,.v (.sls false true) [.tmp 44,.tmp 47],none⟩,iA 49 1 42 43,iS 1 49 48])
 (.seq (.reg [
 iM 50 0,iM 51 11,iM 52 1,⟨some 53,.v .slen [.tmp 52],none⟩,iT 54 .add 51 53,⟨some 55,.v (.sls true false) [.tmp 50,.tmp 54],none⟩,iM 0 55])
 (.reg [
 iM 56 10,iO 57 .add 56 1,iM 10 57])))))))
def b159:PCode :=
 (.seq (.reg [
 iH 8])
 (.seq (.seq (.reg [
 iM 12 3,iO 13 .eql 12 0])
 (.cond (.tmp 13)
 (.seq (.reg [
 iH 8])
 .ret)
 .skip))
 (.seq (.seq (.reg [
 iM 14 1,⟨some 15,.v (.sb .eql) [.tmp 14,.const (.string ⟨#[]⟩)],none⟩])
 (.cond (.tmp 15)
 (.seq (.reg [
 iM 16 0,iM 17 3,iY 18 164 16 17,iM 8 18])
 .ret)
 .skip))
 (.seq (.seq (.reg [
 iM 19 3,iO 20 .lss 19 0])
 (.cond (.tmp 20)
 (.reg [
 iM 21 0,iM 22 1,iY 23 165 21 22,iO 24 .add 23 1,iM 3 24])
 .skip))
 (.seq (.reg [
 iM 25 3,iM 26 0,⟨some 27,.v .slen [.tmp 26],none⟩,iO 28 .add 27 1,⟨some 29,.v .mn [.tmp 25,.tmp 28],none⟩,iM 3 29])
 (.seq (.reg [
 iM 30 3,⟨some 31,.mks 9 1 [(.string ⟨#[]⟩)] 16 (.tmp 30) (.tmp 30),none⟩,iM 9 31])
 (.seq (.reg [
 iM 32 3,iO 33 .sub 32 1,iM 3 33])
 (.seq (.reg [
 iI 10 0])
 (.seq (.blk 0
 (.loop q159x0))
 (.seq (.reg [
 iM 58 9,iM 59 10,iM 60 0,iA 61 1 58 59,iS 1 61 60])
 (.seq (.reg [
 iM 62 9,iM 63 10,iO 64 .add 63 1,⟨some 65,.v (.sl 1 false true) [.tmp 62,.tmp 64],none⟩,iM 8 65])
 .ret)))))))))))
def p159:PFunc:=⟨66,[(8,none)],none,b159⟩
def q164x0:PCode :=
 (.seq (.seq (.reg [
 iM 22 7,iM 23 1,iO 24 .sub 23 1,iT 25 .lss 22 24])
 (.cond (.tmp 25)
 .skip
 (.exit 0)))
 (.seq (.blk 1
 (.seq (.reg [
 iM 29 0,iX 30 174 29,iM 28 30,iE 31 0 28,iE 32 1 28,iM 8 31,iM 9 32])
 (.seq (.reg [
 iM 33 6,iM 34 7,iM 35 0,iM 36 9,⟨some 37,.v (.sls false true) [.tmp 35,.tmp 36],none⟩,iA 38 1 33 34,iS 1 38 37])
 (.reg [
 iM 39 0,iM 40 9,⟨some 41,.v (.sls true false) [.tmp 39,.tmp 40],none⟩,iM 0 41]))))
 (.reg [
 iM 26 7,iO 27 .add 26 1,iM 7 27])))
def b164:PCode :=
 (.seq (.reg [
 iH 4])
 (.seq (.reg [
 iM 10 0,iX 11 173 10,iM 5 11])
 (.seq (.seq (.reg [
 iM 12 1,iO 13 .lss 12 0,iM 14 13,jM 15 1 14 false,
 jM 16 5 14 false,
 jT 17 .gtr 15 16 14 false,
 iQ 18 14 17])
 (.cond (.tmp 18)
 (.reg [
 iM 19 5,iM 1 19])
 .skip))
 (.seq (.reg [
 iM 20 1,⟨some 21,.mks 9 1 [(.string ⟨#[]⟩)] 16 (.tmp 20) (.tmp 20),none⟩,iM 6 21])
 (.seq (.seq (.reg [
 iI 7 0])
 (.blk 0
 (.loop q164x0)))
 (.seq (.seq (.reg [
 iM 42 1,iO 43 .gtr 42 0])
 (.cond (.tmp 43)
 (.reg [
 iM 44 6,iM 45 1,iO 46 .sub 45 1,iM 47 0,iA 48 1 44 46,iS 1 48 47])
 .skip))
 (.seq (.reg [
 iM 49 6,iM 4 49])
 .ret)))))))
def p164:PFunc:=⟨50,[(4,none)],none,b164⟩
def q173x0:PCode :=
 (.seq (.reg [
 ⟨some 5,.nxt (.tmp 4),none⟩,iE 6 0 5])
 (.seq (.cond (.tmp 6)
 .skip
 (.exit 0))
 (.blk 1
 (.reg [
 iM 7 2,iO 8 .add 7 1,iM 2 8]))))
def b173:PCode :=
 (.seq (.reg [
 iI 2 0])
 (.seq (.seq (.reg [
 iM 3 0,⟨some 4,.rng (.tmp 3),none⟩])
 (.blk 0
 (.loop q173x0)))
 (.seq (.reg [
 iM 9 2,iM 2 9])
 .ret)))
def p173:PFunc:=⟨10,[(2,none)],none,b173⟩
def b174:PCode :=
 (.seq (.reg [
 ⟨some 2,.v .mv [.const (.int .i32 0)],none⟩,iI 3 0])
 (.seq (.seq (.reg [
 iM 4 0,⟨some 5,.v (.sb .neq) [.tmp 4,.const (.string ⟨#[]⟩)],none⟩,iM 6 5,jM 7 0 6 true,
 ⟨some 8,.v .ix [.tmp 7,.const (.int .i64 0)],some (6,true)⟩,
 ⟨some 9,.v (.ib .lss) [.tmp 8,.const (.int .u8 128)],some (6,true)⟩,
 iP 10 6 9])
 (.cond (.tmp 10)
 (.seq (.reg [
 iM 11 0,⟨some 12,.v .ix [.tmp 11,.const (.int .i64 0)],none⟩,⟨some 13,.v (.cv .i32) [.tmp 12],none⟩,iM 2 13,iI 3 1])
 .ret)
 (.reg [
 iM 15 0,iX 16 184 15,iM 14 16,iE 17 0 14,iE 18 1 14,iM 2 17,iM 3 18])))
 .ret))
def p174:PFunc:=⟨19,[(2,none),(3,none)],none,b174⟩
def PP (f:FuncId):Option PFunc:=if Nat.blt f 97=true then (if Nat.blt f 60=true then (if Nat.blt f 33=true then (if Nat.blt f 24=true then (if Nat.blt f 20=true then (if Nat.blt f 18=true then (if f=3 then some p3 else none) else (if Nat.blt f 19=true then (if f=18 then some p18 else none) else (if f=19 then some p19 else none))) else (if Nat.blt f 22=true then (if Nat.blt f 21=true then (if f=20 then some p20 else none) else (if f=21 then some p21 else none)) else (if Nat.blt f 23=true then (if f=22 then some p22 else none) else (if f=23 then some p23 else none)))) else (if Nat.blt f 28=true then (if Nat.blt f 26=true then (if Nat.blt f 25=true then (if f=24 then some p24 else none) else (if f=25 then some p25 else none)) else (if Nat.blt f 27=true then (if f=26 then some p26 else none) else (if f=27 then some p27 else none))) else (if Nat.blt f 31=true then (if Nat.blt f 30=true then (if f=28 then some p28 else none) else (if f=30 then some p30 else none)) else (if Nat.blt f 32=true then (if f=31 then some p31 else none) else (if f=32 then some p32 else none))))) else (if Nat.blt f 42=true then (if Nat.blt f 37=true then (if Nat.blt f 35=true then (if f=33 then some p33 else none) else (if Nat.blt f 36=true then (if f=35 then some p35 else none) else (if f=36 then some p36 else none))) else (if Nat.blt f 39=true then (if Nat.blt f 38=true then (if f=37 then some p37 else none) else (if f=38 then some p38 else none)) else (if Nat.blt f 41=true then (if f=39 then some p39 else none) else (if f=41 then some p41 else none)))) else (if Nat.blt f 51=true then (if Nat.blt f 46=true then (if Nat.blt f 45=true then (if f=42 then some p42 else none) else (if f=45 then some p45 else none)) else (if Nat.blt f 47=true then (if f=46 then some p46 else none) else (if f=47 then some p47 else none))) else (if Nat.blt f 56=true then (if Nat.blt f 52=true then (if f=51 then some p51 else none) else (if f=52 then some p52 else none)) else (if Nat.blt f 59=true then (if f=56 then some p56 else none) else (if f=59 then some p59 else none)))))) else (if Nat.blt f 79=true then (if Nat.blt f 71=true then (if Nat.blt f 67=true then (if Nat.blt f 65=true then (if f=60 then some p60 else none) else (if Nat.blt f 66=true then (if f=65 then some p65 else none) else (if f=66 then some p66 else none))) else (if Nat.blt f 69=true then (if Nat.blt f 68=true then (if f=67 then some p67 else none) else (if f=68 then some p68 else none)) else (if Nat.blt f 70=true then (if f=69 then some p69 else none) else (if f=70 then some p70 else none)))) else (if Nat.blt f 75=true then (if Nat.blt f 73=true then (if Nat.blt f 72=true then (if f=71 then some p71 else none) else (if f=72 then some p72 else none)) else (if Nat.blt f 74=true then (if f=73 then some p73 else none) else (if f=74 then some p74 else none))) else (if Nat.blt f 77=true then (if Nat.blt f 76=true then (if f=75 then some p75 else none) else (if f=76 then some p76 else none)) else (if Nat.blt f 78=true then (if f=77 then some p77 else none) else (if f=78 then some p78 else none))))) else (if Nat.blt f 87=true then (if Nat.blt f 83=true then (if Nat.blt f 81=true then (if Nat.blt f 80=true then (if f=79 then some p79 else none) else (if f=80 then some p80 else none)) else (if Nat.blt f 82=true then (if f=81 then some p81 else none) else (if f=82 then some p82 else none))) else (if Nat.blt f 85=true then (if Nat.blt f 84=true then (if f=83 then some p83 else none) else (if f=84 then some p84 else none)) else (if Nat.blt f 86=true then (if f=85 then some p85 else none) else (if f=86 then some p86 else none)))) else (if Nat.blt f 93=true then (if Nat.blt f 91=true then (if Nat.blt f 89=true then (if f=87 then some p87 else none) else (if f=89 then some p89 else none)) else (if Nat.blt f 92=true then (if f=91 then some p91 else none) else (if f=92 then some p92 else none))) else (if Nat.blt f 95=true then (if Nat.blt f 94=true then (if f=93 then some p93 else none) else (if f=94 then some p94 else none)) else (if Nat.blt f 96=true then (if f=95 then some p95 else none) else (if f=96 then some p96 else none))))))) else (if Nat.blt f 128=true then (if Nat.blt f 113=true then (if Nat.blt f 105=true then (if Nat.blt f 100=true then (if Nat.blt f 98=true then (if f=97 then some p97 else none) else (if Nat.blt f 99=true then (if f=98 then some p98 else none) else (if f=99 then some p99 else none))) else (if Nat.blt f 102=true then (if Nat.blt f 101=true then (if f=100 then some p100 else none) else (if f=101 then some p101 else none)) else (if Nat.blt f 104=true then (if f=102 then some p102 else none) else (if f=104 then some p104 else none)))) else (if Nat.blt f 109=true then (if Nat.blt f 107=true then (if Nat.blt f 106=true then (if f=105 then some p105 else none) else (if f=106 then some p106 else none)) else (if Nat.blt f 108=true then (if f=107 then some p107 else none) else (if f=108 then some p108 else none))) else (if Nat.blt f 111=true then (if Nat.blt f 110=true then (if f=109 then some p109 else none) else (if f=110 then some p110 else none)) else (if Nat.blt f 112=true then (if f=111 then some p111 else none) else (if f=112 then some p112 else none))))) else (if Nat.blt f 120=true then (if Nat.blt f 116=true then (if Nat.blt f 114=true then (if f=113 then some p113 else none) else (if Nat.blt f 115=true then (if f=114 then some p114 else none) else (if f=115 then some p115 else none))) else (if Nat.blt f 118=true then (if Nat.blt f 117=true then (if f=116 then some p116 else none) else (if f=117 then some p117 else none)) else (if Nat.blt f 119=true then (if f=118 then some p118 else none) else (if f=119 then some p119 else none)))) else (if Nat.blt f 124=true then (if Nat.blt f 122=true then (if Nat.blt f 121=true then (if f=120 then some p120 else none) else (if f=121 then some p121 else none)) else (if Nat.blt f 123=true then (if f=122 then some p122 else none) else (if f=123 then some p123 else none))) else (if Nat.blt f 126=true then (if Nat.blt f 125=true then (if f=124 then some p124 else none) else (if f=125 then some p125 else none)) else (if Nat.blt f 127=true then (if f=126 then some p126 else none) else (if f=127 then some p127 else none)))))) else (if Nat.blt f 145=true then (if Nat.blt f 135=true then (if Nat.blt f 131=true then (if Nat.blt f 129=true then (if f=128 then some p128 else none) else (if Nat.blt f 130=true then (if f=129 then some p129 else none) else (if f=130 then some p130 else none))) else (if Nat.blt f 133=true then (if Nat.blt f 132=true then (if f=131 then some p131 else none) else (if f=132 then some p132 else none)) else (if Nat.blt f 134=true then (if f=133 then some p133 else none) else (if f=134 then some p134 else none)))) else (if Nat.blt f 139=true then (if Nat.blt f 137=true then (if Nat.blt f 136=true then (if f=135 then some p135 else none) else (if f=136 then some p136 else none)) else (if Nat.blt f 138=true then (if f=137 then some p137 else none) else (if f=138 then some p138 else none))) else (if Nat.blt f 143=true then (if Nat.blt f 142=true then (if f=139 then some p139 else none) else (if f=142 then some p142 else none)) else (if Nat.blt f 144=true then (if f=143 then some p143 else none) else (if f=144 then some p144 else none))))) else (if Nat.blt f 153=true then (if Nat.blt f 149=true then (if Nat.blt f 147=true then (if Nat.blt f 146=true then (if f=145 then some p145 else none) else (if f=146 then some p146 else none)) else (if Nat.blt f 148=true then (if f=147 then some p147 else none) else (if f=148 then some p148 else none))) else (if Nat.blt f 151=true then (if Nat.blt f 150=true then (if f=149 then some p149 else none) else (if f=150 then some p150 else none)) else (if Nat.blt f 152=true then (if f=151 then some p151 else none) else (if f=152 then some p152 else none)))) else (if Nat.blt f 159=true then (if Nat.blt f 155=true then (if Nat.blt f 154=true then (if f=153 then some p153 else none) else (if f=154 then some p154 else none)) else (if Nat.blt f 156=true then (if f=155 then some p155 else none) else (if f=156 then some p156 else none))) else (if Nat.blt f 173=true then (if Nat.blt f 164=true then (if f=159 then some p159 else none) else (if f=164 then some p164 else none)) else (if Nat.blt f 174=true then (if f=173 then some p173 else none) else (if f=174 then some p174 else none)))))))
theorem P19:PP 19=some p19:=rfl
theorem B19:p19.body=b19:=rfl
theorem N19:p19.n=53:=rfl
theorem R19:p19.res=[(2,none)]:=rfl
theorem P20:PP 20=some p20:=rfl
theorem B20:p20.body=b20:=rfl
theorem N20:p20.n=69:=rfl
theorem R20:p20.res=[(2,none)]:=rfl
theorem P21:PP 21=some p21:=rfl
theorem B21:p21.body=b21:=rfl
theorem N21:p21.n=90:=rfl
theorem R21:p21.res=[(6,none)]:=rfl
theorem P22:PP 22=some p22:=rfl
theorem B22:p22.body=b22:=rfl
theorem N22:p22.n=19:=rfl
theorem R22:p22.res=[(2,none)]:=rfl
theorem P23:PP 23=some p23:=rfl
theorem B23:p23.body=b23:=rfl
theorem N23:p23.n=214:=rfl
theorem R23:p23.res=[(0,none)]:=rfl
theorem P25:PP 25=some p25:=rfl
theorem B25:p25.body=b25:=rfl
theorem N25:p25.n=86:=rfl
theorem R25:p25.res=[(2,none)]:=rfl
theorem P35:PP 35=some p35:=rfl
theorem B35:p35.body=b35:=rfl
theorem N35:p35.n=26:=rfl
theorem R35:p35.res=[(4,none)]:=rfl
theorem P51:PP 51=some p51:=rfl
theorem B51:p51.body=b51:=rfl
theorem N51:p51.n=18:=rfl
theorem R51:p51.res=[(4,none)]:=rfl
theorem P60:PP 60=some p60:=rfl
theorem B60:p60.body=b60:=rfl
theorem N60:p60.n=11:=rfl
theorem R60:p60.res=[(4,none)]:=rfl
theorem P67:PP 67=some p67:=rfl
theorem B67:p67.body=b67:=rfl
theorem N67:p67.n=9:=rfl
theorem R67:p67.res=[(2,none),(3,none)]:=rfl
theorem P68:PP 68=some p68:=rfl
theorem B68:p68.body=b68:=rfl
theorem N68:p68.n=25:=rfl
theorem R68:p68.res=[(2,some (some 3)),(3,none)]:=rfl
theorem P69:PP 69=some p69:=rfl
theorem B69:p69.body=b69:=rfl
theorem N69:p69.n=63:=rfl
theorem R69:p69.res=[(2,none)]:=rfl
theorem P70:PP 70=some p70:=rfl
theorem B70:p70.body=b70:=rfl
theorem N70:p70.n=67:=rfl
theorem R70:p70.res=[(4,none)]:=rfl
theorem P71:PP 71=some p71:=rfl
theorem B71:p71.body=b71:=rfl
theorem N71:p71.n=94:=rfl
theorem R71:p71.res=[(2,some (some 3)),(3,none)]:=rfl
theorem P75:PP 75=some p75:=rfl
theorem B75:p75.body=b75:=rfl
theorem N75:p75.n=41:=rfl
theorem R75:p75.res=[(2,none)]:=rfl
theorem P81:PP 81=some p81:=rfl
theorem B81:p81.body=b81:=rfl
theorem N81:p81.n=15:=rfl
theorem R81:p81.res=[(6,none)]:=rfl
theorem P82:PP 82=some p82:=rfl
theorem B82:p82.body=b82:=rfl
theorem N82:p82.n=35:=rfl
theorem R82:p82.res=[(4,none)]:=rfl
theorem P104:PP 104=some p104:=rfl
theorem B104:p104.body=b104:=rfl
theorem N104:p104.n=11:=rfl
theorem R104:p104.res=[(4,none)]:=rfl
theorem P108:PP 108=some p108:=rfl
theorem B108:p108.body=b108:=rfl
theorem N108:p108.n=97:=rfl
theorem R108:p108.res=[(2,none)]:=rfl
theorem P109:PP 109=some p109:=rfl
theorem B109:p109.body=b109:=rfl
theorem N109:p109.n=8:=rfl
theorem R109:p109.res=[(2,some (some 2)),(3,some none)]:=rfl
theorem P110:PP 110=some p110:=rfl
theorem B110:p110.body=b110:=rfl
theorem N110:p110.n=4:=rfl
theorem R110:p110.res=[]:=rfl
theorem P111:PP 111=some p111:=rfl
theorem B111:p111.body=b111:=rfl
theorem N111:p111.n=101:=rfl
theorem R111:p111.res=[(2,some (some 3))]:=rfl
theorem P112:PP 112=some p112:=rfl
theorem B112:p112.body=b112:=rfl
theorem N112:p112.n=21:=rfl
theorem R112:p112.res=[(4,none)]:=rfl
theorem P113:PP 113=some p113:=rfl
theorem B113:p113.body=b113:=rfl
theorem N113:p113.n=65:=rfl
theorem R113:p113.res=[(4,none)]:=rfl
theorem P114:PP 114=some p114:=rfl
theorem B114:p114.body=b114:=rfl
theorem N114:p114.n=34:=rfl
theorem R114:p114.res=[(4,none)]:=rfl
theorem P115:PP 115=some p115:=rfl
theorem B115:p115.body=b115:=rfl
theorem N115:p115.n=32:=rfl
theorem R115:p115.res=[(4,none),(5,none)]:=rfl
theorem P117:PP 117=some p117:=rfl
theorem B117:p117.body=b117:=rfl
theorem N117:p117.n=15:=rfl
theorem R117:p117.res=[(2,none)]:=rfl
theorem P118:PP 118=some p118:=rfl
theorem B118:p118.body=b118:=rfl
theorem N118:p118.n=15:=rfl
theorem R118:p118.res=[(6,none)]:=rfl
theorem P119:PP 119=some p119:=rfl
theorem B119:p119.body=b119:=rfl
theorem N119:p119.n=15:=rfl
theorem R119:p119.res=[(2,none)]:=rfl
theorem P120:PP 120=some p120:=rfl
theorem B120:p120.body=b120:=rfl
theorem N120:p120.n=9:=rfl
theorem R120:p120.res=[(4,none)]:=rfl
theorem P121:PP 121=some p121:=rfl
theorem B121:p121.body=b121:=rfl
theorem N121:p121.n=9:=rfl
theorem R121:p121.res=[(4,none)]:=rfl
theorem P122:PP 122=some p122:=rfl
theorem B122:p122.body=b122:=rfl
theorem N122:p122.n=24:=rfl
theorem R122:p122.res=[(2,none)]:=rfl
theorem P123:PP 123=some p123:=rfl
theorem B123:p123.body=b123:=rfl
theorem N123:p123.n=9:=rfl
theorem R123:p123.res=[(4,none)]:=rfl
theorem P124:PP 124=some p124:=rfl
theorem B124:p124.body=b124:=rfl
theorem N124:p124.n=8:=rfl
theorem R124:p124.res=[(3,none)]:=rfl
theorem P126:PP 126=some p126:=rfl
theorem B126:p126.body=b126:=rfl
theorem N126:p126.n=9:=rfl
theorem R126:p126.res=[(4,none)]:=rfl
theorem P142:PP 142=some p142:=rfl
theorem B142:p142.body=b142:=rfl
theorem N142:p142.n=16:=rfl
theorem R142:p142.res=[]:=rfl
theorem P143:PP 143=some p143:=rfl
theorem B143:p143.body=b143:=rfl
theorem N143:p143.n=8:=rfl
theorem R143:p143.res=[(4,none)]:=rfl
theorem P144:PP 144=some p144:=rfl
theorem B144:p144.body=b144:=rfl
theorem N144:p144.n=9:=rfl
theorem R144:p144.res=[]:=rfl
theorem P145:PP 145=some p145:=rfl
theorem B145:p145.body=b145:=rfl
theorem N145:p145.n=3:=rfl
theorem R145:p145.res=[(2,none)]:=rfl
theorem P146:PP 146=some p146:=rfl
theorem B146:p146.body=b146:=rfl
theorem N146:p146.n=41:=rfl
theorem R146:p146.res=[(2,none)]:=rfl
theorem P147:PP 147=some p147:=rfl
theorem B147:p147.body=b147:=rfl
theorem N147:p147.n=3:=rfl
theorem R147:p147.res=[(2,none)]:=rfl
theorem P148:PP 148=some p148:=rfl
theorem B148:p148.body=b148:=rfl
theorem N148:p148.n=44:=rfl
theorem R148:p148.res=[(2,none)]:=rfl
theorem P149:PP 149=some p149:=rfl
theorem B149:p149.body=b149:=rfl
theorem N149:p149.n=63:=rfl
theorem R149:p149.res=[(4,none),(5,none)]:=rfl
theorem P150:PP 150=some p150:=rfl
theorem B150:p150.body=b150:=rfl
theorem N150:p150.n=19:=rfl
theorem R150:p150.res=[(4,none)]:=rfl
theorem P151:PP 151=some p151:=rfl
theorem B151:p151.body=b151:=rfl
theorem N151:p151.n=19:=rfl
theorem R151:p151.res=[(4,none)]:=rfl
theorem P152:PP 152=some p152:=rfl
theorem B152:p152.body=b152:=rfl
theorem N152:p152.n=19:=rfl
theorem R152:p152.res=[(4,none)]:=rfl
theorem P153:PP 153=some p153:=rfl
theorem B153:p153.body=b153:=rfl
theorem N153:p153.n=19:=rfl
theorem R153:p153.res=[(4,none)]:=rfl
theorem P159:PP 159=some p159:=rfl
theorem B159:p159.body=b159:=rfl
theorem N159:p159.n=66:=rfl
theorem R159:p159.res=[(8,none)]:=rfl
end Go.Pi.Coa
