/- The functions of coats, in the small language: the others; their table. -/
import Derived.Test.YtjidjpcnocddeaaGreatDoorCPa
set_option linter.all false
set_option maxRecDepth 100000
namespace Go.Pi.Coa
open Go Go.Pi

def b74:PCode :=
 (.seq (.reg [
 ⟨some 0,.lalloc 26 (.agg #[(.slice none 0 0),(.slice none 0 0),(.slice none 0 0)]),none⟩])
 (.seq (.reg [
 iW 2 72,⟨some 1,.lalloc 26 (.agg #[(.slice none 0 0),(.slice none 0 0),(.slice none 0 0)]),none⟩,iS 3 1 2])
 (.seq (.reg [
 iF 3 2 1,iL 4 3,⟨some 5,.v (.ia 2) [.tmp 4,.const (.int .i64 1)],none⟩,iF 6 1 5,⟨none,.st 1 (.tmp 6) (.const (.int .i64 18)),none⟩])
 (.seq (.reg [
 iN 7 3 1,iS 3 0 7])
 .ret))))
def p74:PFunc:=⟨8,[(0,some (some 3))],none,b74⟩
def b75:PCode :=
 (.seq (.reg [
 ⟨some 1,.box 26 (.tmp 0),none⟩,iB 2 false])
 (.seq (.reg [
 ⟨some 3,.v .mv [.func 117],none⟩])
 (.seq (.reg [
 ⟨some 4,.v .mv [.func 119],none⟩])
 (.seq (.reg [
 iF 5 0 1,iL 6 5,iK 7 6,⟨some 8,.call (.func 118) [.tmp 7,.const (.int .i64 1),.const (.int .i64 12)],none⟩,iM 9 8,jF 10 2 1 9 true,
 jL 11 10 9 true,
 jK 12 11 9 true,
 ⟨some 13,.call (.func 118) [.tmp 12,.const (.int .i64 1),.const (.int .i64 5)],some (9,true)⟩,
 iP 14 9 13,iM 15 14,jF 16 0 1 15 true,
 jL 17 16 15 true,
 jM 18 3 15 true,
 jY 19 120 17 18 15 true,
 jR 20 19 15 true,
 iP 21 15 20,iM 22 21,jF 23 2 1 22 true,
 jL 24 23 22 true,
 jM 25 4 22 true,
 jY 26 121 24 25 22 true,
 jR 27 26 22 true,
 iP 28 22 27,iM 29 28,jF 30 1 1 29 true,
 jL 31 30 29 true,
 jX 32 122 31 29 true,
 iP 33 29 32,iM 34 33,jF 35 1 1 34 true,
 jL 36 35 34 true,
 ⟨some 37,.v (.mkf (.func 124) 0) [.tmp 1],some (34,true)⟩,
 jY 38 123 36 37 34 true,
 jR 39 38 34 true,
 iP 40 34 39,iM 2 40])
 .ret))))
def p75:PFunc:=⟨41,[(2,none)],none,b75⟩
def b76:PCode :=
 (.seq (.reg [
 ⟨some 2,.box 26 (.tmp 0),none⟩,iB 4 false])
 (.seq (.reg [
 iM 5 1,iK 6 5,iF 7 2 2,iL 8 7,iK 9 8,iT 10 .eql 6 9,iM 11 10,jM 12 1 11 true,
 jX 13 122 12 11 true,
 iP 14 11 13,iM 15 14,jM 16 1 15 true,
 ⟨some 17,.v (.mkf (.func 125) 0) [.tmp 2],some (15,true)⟩,
 jY 18 123 16 17 15 true,
 jR 19 18 15 true,
 iP 20 15 19,iM 4 20])
 .ret))
def p76:PFunc:=⟨21,[(4,none)],none,b76⟩
def q77x0:PCode :=
 (.seq (.reg [
 iT 10 .lss 9 8])
 (.seq (.cond (.tmp 10)
 .skip
 (.exit 0))
 (.seq (.blk 1
 (.seq (.reg [
 iM 11 9,iA 12 1 7 9,iL 13 12,iM 5 11,iM 6 13])
 (.seq (.dreg [
 iN 14 3 2,iM 15 5,iY 16 104 14 15,iR 17 16,iM 18 17,jM 19 6 18 false,
 jF 20 0 2 18 false,
 jL 21 20 18 false,
 jM 22 5 18 false,
 jA 23 2 21 22 18 false,
 jF 24 0 23 18 false,
 jL 25 24 18 false,
 jF 26 0 2 18 false,
 jL 27 26 18 false,
 jM 28 5 18 false,
 jA 29 2 27 28 18 false,
 jF 30 1 29 18 false,
 jL 31 30 18 false,
 jZ 32 118 19 25 31 18 false,
 jR 33 32 18 false,
 iQ 34 18 33] [⟨4,true,false⟩,fF,fD,fC,fC,fA,fA,⟨4,false,false⟩,fA,fA,fA,fB,fA,⟨4,false,false⟩,fA,fA,fA,fB,fD,fC,fC])
 (.cond (.tmp 34)
 (.seq (.reg [
 iB 4 false])
 .ret)
 .skip))))
 (.reg [
 iO 35 .add 9 1,iM 9 35]))))
def b77:PCode :=
 (.seq (.reg [
 iV 2 26 0,iB 4 false])
 (.seq (.seq (.reg [
 iM 7 1,iK 8 7,iI 9 0])
 (.blk 0
 (.loop q77x0)))
 (.seq (.reg [
 iM 36 1,iK 37 36,iF 38 0 2,iL 39 38,iK 40 39,iT 41 .eql 37 40,iM 4 41])
 .ret)))
def p77:PFunc:=⟨42,[(4,none)],none,b77⟩
def q78x0:PCode :=
 (.seq (.reg [
 iT 14 .lss 13 12])
 (.seq (.cond (.tmp 14)
 .skip
 (.exit 0))
 (.seq (.blk 1
 (.seq (.reg [
 iM 15 13,iA 16 2 11 13,iN 17 2 16,⟨some 5,.lalloc 75 (.agg #[(.int .i64 0),(.int .i64 0)]),none⟩,iM 4 15,iS 2 5 17])
 (.dreg [
 iF 18 3 3,iL 19 18,iF 20 3 3,iL 21 20,iM 22 4,iA 23 1 21 22,iL 24 23,iF 25 0 5,iL 26 25,iT 27 .add 24 26,⟨some 28,.lbs 3 1 [(.int .i64 0)] 1 [(0,.tmp 27)],none⟩,⟨some 29,.app 3 1 (.tmp 19) (.tmp 28),none⟩,iF 30 4 3,iL 31 30,iF 32 4 3,iL 33 32,iM 34 4,iA 35 1 33 34,iL 36 35,iF 37 1 5,iL 38 37,iT 39 .add 36 38,⟨some 40,.lbs 3 1 [(.int .i64 0)] 1 [(0,.tmp 39)],none⟩,⟨some 41,.app 3 1 (.tmp 31) (.tmp 40),none⟩,iF 42 3 3,iS 1 42 29,iF 43 4 3,iS 1 43 41] [fA,⟨5,false,false⟩,fA,⟨5,false,false⟩,fA,fA,fB,fA,⟨7,false,false⟩,fA,⟨30,false,false⟩,fB,fA,⟨5,false,false⟩,fA,⟨5,false,false⟩,fA,fA,fB,fA,⟨7,false,false⟩,fA,⟨42,false,false⟩,fE,fA,⟨5,true,true⟩,fC,⟨5,true,true⟩])))
 (.reg [
 iO 44 .add 13 1,iM 13 44]))))
def b78:PCode :=
 (.seq (.reg [
 iV 1 26 0,⟨some 2,.lalloc 93 (.agg #[(.slice none 0 0),(.slice none 0 0),(.slice none 0 0),(.slice none 0 0),(.slice none 0 0)]),none⟩])
 (.seq (.reg [
 iN 6 3 1,⟨some 7,.bs 3 1 [(.int .i64 0)] 1 [(0,.const (.int .i64 0))],none⟩,⟨some 8,.bs 3 1 [(.int .i64 0)] 1 [(0,.const (.int .i64 0))],none⟩,⟨some 9,.v (.bld [(.slice none 0 0),(.slice none 0 0),(.slice none 0 0),(.slice none 0 0),(.slice none 0 0)] [(0,3),(3,1),(4,1)]) [.tmp 6,.tmp 7,.tmp 8],none⟩,⟨some 3,.lalloc 93 (.agg #[(.slice none 0 0),(.slice none 0 0),(.slice none 0 0),(.slice none 0 0),(.slice none 0 0)]),none⟩,iS 5 3 9])
 (.seq (.seq (.reg [
 iF 10 0 1,iL 11 10,iK 12 11,iI 13 0])
 (.blk 0
 (.loop q78x0)))
 (.seq (.reg [
 iN 45 5 3,iS 5 2 45])
 .ret))))
def p78:PFunc:=⟨46,[(2,some (some 5))],none,b78⟩
def b79:PCode :=
 (.seq (.reg [
 iV 3 93 0,iI 6 0,iB 7 false])
 (.seq (.seq (.reg [
 iM 8 2,iM 9 1,iK 10 9,iO 11 .sub 10 1,iT 12 .eql 8 11])
 (.cond (.tmp 12)
 (.seq (.reg [
 iF 13 0 3,iF 14 0 13,iL 15 14,iK 16 15,iM 6 16,iB 7 false])
 .ret)
 .skip))
 (.seq (.reg [
 iM 17 1,iM 18 2,iO 19 .add 18 1,iA 20 1 17 19,iL 21 20,iM 6 21,iB 7 true])
 .ret)))
def p79:PFunc:=⟨22,[(6,none),(7,none)],none,b79⟩
def q80x0:PCode :=
 (.seq (.reg [
 iT 9 .lss 8 7])
 (.seq (.cond (.tmp 9)
 .skip
 (.exit 0))
 (.seq (.blk 1
 (.seq (.reg [
 iA 10 1 6 8,iL 11 10,iM 5 11])
 (.reg [
 iM 12 3,iM 13 5,iT 14 .add 12 13,iM 3 14])))
 (.reg [
 iO 15 .add 8 1,iM 8 15]))))
def b80:PCode :=
 (.seq (.reg [
 iI 2 0])
 (.seq (.reg [
 iI 3 0])
 (.seq (.seq (.reg [
 iM 6 0,iK 7 6,iI 8 0])
 (.blk 0
 (.loop q80x0)))
 (.seq (.reg [
 iM 16 3,iM 2 16])
 .ret))))
def p80:PFunc:=⟨17,[(2,none)],none,b80⟩
def b81:PCode :=
 (.seq (.reg [
 iB 6 false])
 (.seq (.reg [
 iM 7 0,iM 8 1,iT 9 .geq 7 8,iM 10 9,jM 11 0 10 true,
 jM 12 2 10 true,
 jT 13 .leq 11 12 10 true,
 iP 14 10 13,iM 6 14])
 .ret))
def p81:PFunc:=⟨15,[(6,none)],none,b81⟩
def q82x0:PCode :=
 (.seq (.seq (.reg [
 iM 6 5,iM 7 1,iK 8 7,iT 9 .lss 6 8])
 (.cond (.tmp 9)
 .skip
 (.exit 0)))
 (.seq (.blk 1
 (.seq (.dreg [
 iN 12 3 2,iM 13 1,iM 14 5,iA 15 1 13 14,iL 16 15,iY 17 60 12 16,iR 18 17,iM 19 18,jM 20 5 19 false,
 jO 21 .gtr 20 0 19 false,
 jM 22 21 19 false,
 jM 23 1 22 true,
 jM 24 5 22 true,
 jA 25 1 23 24 22 true,
 jL 26 25 22 true,
 jM 27 1 22 true,
 jM 28 5 22 true,
 jO 29 .sub 28 1 22 true,
 jA 30 1 27 29 22 true,
 jL 31 30 22 true,
 jT 32 .leq 26 31 22 true,
 jP 33 22 32 19 false,
 iQ 34 19 33] [⟨4,false,false⟩,fF,fF,fF,fE,fD,fC,fC,fC,fC,fC,fA,fA,fA,fB,fA,fA,fA,fA,fB,fC,fC,fC])
 (.cond (.tmp 34)
 (.seq (.reg [
 iB 4 false])
 .ret)
 .skip)))
 (.reg [
 iM 10 5,iO 11 .add 10 1,iM 5 11])))
def b82:PCode :=
 (.seq (.reg [
 iV 2 26 0,iB 4 false])
 (.seq (.seq (.reg [
 iI 5 0])
 (.blk 0
 (.loop q82x0)))
 (.seq (.reg [
 iB 4 true])
 .ret)))
def p82:PFunc:=⟨35,[(4,none)],none,b82⟩
def b83:PCode :=
 (.seq (.reg [
 iV 4 26 0,iB 8 false])
 (.seq (.dreg [
 iM 9 1,iM 10 2,iM 11 3,iZ 12 37 9 10 11,iF 13 2 4,iL 14 13,iM 15 2,iA 16 2 14 15,iF 17 0 16,iL 18 17,iT 19 .lss 12 18,iM 8 19] [fA,fA,fA,fB,fA,⟨6,false,false⟩,fA,fA,fA,fB,fC,fC])
 .ret))
def p83:PFunc:=⟨20,[(8,none)],none,b83⟩
def b84:PCode :=
 (.seq (.reg [
 iV 4 26 0,iB 8 false])
 (.seq (.dreg [
 iM 9 2,iO 10 .add 9 1,iM 11 1,iK 12 11,iT 13 .lss 10 12,iM 14 13,jM 15 1 14 true,
 jM 16 2 14 true,
 jM 17 3 14 true,
 jZ 18 37 15 16 17 14 true,
 jF 19 2 4 14 true,
 jL 20 19 14 true,
 jM 21 2 14 true,
 jA 22 2 20 21 14 true,
 jF 23 1 22 14 true,
 jL 24 23 14 true,
 jT 25 .gtr 18 24 14 true,
 iP 26 14 25,iM 8 26] [fF,fF,fF,fF,fC,fC,fA,fA,fA,fB,fA,⟨6,false,false⟩,fA,fA,fA,fB,fC,fC,fC])
 .ret))
def p84:PFunc:=⟨27,[(8,none)],none,b84⟩
def b85:PCode :=
 (.seq (.reg [
 ⟨some 2,.box 93 (.tmp 0),none⟩,⟨some 3,.box 23 (.tmp 1),none⟩,⟨some 4,.lalloc 100 (.agg #[(.int .i64 0),(.int .i64 0)]),none⟩,iI 5 0])
 (.seq (.reg [
 ⟨some 6,.v (.mkf (.func 127) 0) [.tmp 3,.tmp 2],none⟩,iX 7 109 6,iE 8 0 7,iE 9 1 7,iS 2 4 8,iM 5 9])
 .ret))
def p85:PFunc:=⟨10,[(4,some (some 2)),(5,none)],none,b85⟩
def b86:PCode :=
 (.seq (.reg [
 iV 3 93 0,⟨some 6,.lalloc 75 (.agg #[(.int .i64 0),(.int .i64 0)]),none⟩])
 (.seq (.reg [
 iN 8 5 3,⟨some 9,.v (.mkf (.func 129) 1) [.tmp 8],none⟩,iN 10 5 3,⟨some 11,.v (.mkf (.func 130) 1) [.tmp 10],none⟩,⟨some 12,.v (.bld [.nilFunc,.nilFunc] [(0,1),(1,1)]) [.tmp 9,.tmp 11],none⟩,⟨some 7,.lalloc 138 (.agg #[.nilFunc,.nilFunc]),none⟩,iS 2 7 12])
 (.seq (.dreg [
 ⟨some 13,.v (.iaa 1 2) [.tmp 7,.const (.int .i64 0)],none⟩,iL 14 13,iM 15 1,iM 16 2,⟨some 17,.call (.tmp 14) [.tmp 15,.tmp 16],none⟩,⟨some 18,.v (.iaa 1 2) [.tmp 7,.const (.int .i64 1)],none⟩,iL 19 18,iM 20 1,iM 21 2,⟨some 22,.call (.tmp 19) [.tmp 20,.tmp 21],none⟩,⟨some 23,.v (.bld [(.int .i64 0),(.int .i64 0)] [(0,1),(1,1)]) [.tmp 17,.tmp 22],none⟩,iS 2 6 23] [fF,⟨9,true,false⟩,fF,fF,fE,fA,⟨9,false,false⟩,fA,fA,fD,fC,⟨8,true,true⟩])
 .ret)))
def p86:PFunc:=⟨24,[(6,some (some 2))],none,b86⟩
def b87:PCode :=
 (.seq (.reg [
 iH 2])
 (.seq (.seq (.reg [
 iM 3 0,⟨some 4,.v (.nl .slice false) [.tmp 3],none⟩])
 (.cond (.tmp 4)
 (.seq (.reg [
 iH 2])
 .ret)
 .skip))
 (.seq (.reg [
 ⟨some 5,.bs 75 2 [(.int .i64 0),(.int .i64 0)] 0 [],none⟩,iM 6 0,⟨some 7,.app 75 2 (.tmp 5) (.tmp 6),none⟩,iM 2 7])
 .ret)))
def p87:PFunc:=⟨8,[(2,none)],none,b87⟩
def b89:PCode :=
 (.seq (.reg [
 iV 2 26 0,iH 4,iI 5 0])
 (.seq (.seq (.reg [
 iN 7 3 2,iX 8 75 7,iR 9 8])
 (.cond (.tmp 9)
 (.seq (.reg [
 iH 4,iI 5 2])
 .ret)
 .skip))
 (.seq (.reg [
 iN 10 3 2,iX 11 78 10,iX 12 105 11,iX 13 131 12,iM 6 13])
 (.seq (.seq (.reg [
 iM 14 6,iK 15 14,iO 16 .eql 15 0])
 (.cond (.tmp 16)
 (.seq (.reg [
 iM 17 1,iH 4,iM 5 17])
 .ret)
 .skip))
 (.seq (.reg [
 iM 18 6,iM 4 18,iI 5 0])
 .ret)))))
def p89:PFunc:=⟨19,[(4,none),(5,none)],none,b89⟩
def q90x0:PCode :=
 (.seq (.seq (.reg [
 iM 15 6,iF 16 1 2,iL 17 16,iK 18 17,iT 19 .lss 15 18])
 (.cond (.tmp 19)
 .skip
 (.exit 0)))
 (.seq (.blk 1
 (.seq (.dreg [
 iM 22 1,iK 23 22,iO 24 .eql 23 0,iM 25 24,jF 26 1 2 25 false,
 jL 27 26 25 false,
 jM 28 6 25 false,
 jA 29 1 27 28 25 false,
 jL 30 29 25 false,
 jM 31 1 25 false,
 jM 32 1 25 false,
 jK 33 32 25 false,
 jO 34 .sub 33 1 25 false,
 jA 35 1 31 34 25 false,
 jL 36 35 25 false,
 jT 37 .gtr 30 36 25 false,
 iQ 38 25 37] [fC,fC,fC,fC,fA,⟨4,false,false⟩,fA,fA,fB,fA,fA,fA,fA,fA,fB,fC,fC])
 (.cond (.tmp 38)
 (.dreg [
 iM 39 5,iN 40 3 2,iM 41 1,⟨some 42,.app 3 1 (.const (.slice none 0 0)) (.tmp 41),none⟩,iF 43 1 2,iL 44 43,iM 45 6,iA 46 1 44 45,iL 47 46,⟨some 48,.lbs 3 1 [(.int .i64 0)] 1 [(0,.tmp 47)],none⟩,⟨some 49,.app 3 1 (.tmp 42) (.tmp 48),none⟩,iY 50 90 40 49,⟨some 51,.app 23 1 (.tmp 39) (.tmp 50),none⟩,iM 5 51] [fA,⟨4,false,false⟩,fA,fB,fA,⟨4,false,false⟩,fA,fA,fB,⟨50,false,false⟩,fE,fE,fD,fC])
 .skip)))
 (.reg [
 iM 20 6,iO 21 .add 20 1,iM 6 21])))
def b90:PCode :=
 (.seq (.reg [
 iV 2 26 0,iH 4])
 (.seq (.seq (.reg [
 iM 7 1,iK 8 7,iF 9 2 2,iL 10 9,iK 11 10,iT 12 .eql 8 11])
 (.cond (.tmp 12)
 (.seq (.reg [
 iM 13 1,⟨some 14,.bs 23 1 [(.slice none 0 0)] 1 [(0,.tmp 13)],none⟩,iM 4 14])
 .ret)
 .skip))
 (.seq (.reg [
 iH 5])
 (.seq (.seq (.reg [
 iI 6 0])
 (.blk 0
 (.loop q90x0)))
 (.seq (.reg [
 iM 52 5,iM 4 52])
 .ret)))))
def p90:PFunc:=⟨53,[(4,none)],none,b90⟩
def b91:PCode :=
 (.seq (.reg [
 iV 2 26 0,iB 4 false])
 (.seq (.reg [
 iN 9 3 2,iM 10 1,iY 11 33 9 10,iM 8 11,iE 12 0 8,iE 13 1 8,iE 14 2 8,iM 5 12,iM 6 13,iM 7 14])
 (.seq (.reg [
 iM 15 7,iR 16 15,iM 4 16])
 .ret)))
def p91:PFunc:=⟨17,[(4,none)],none,b91⟩
def b92:PCode :=
 (.seq (.reg [
 iV 2 26 0,iB 4 false])
 (.seq (.reg [
 iM 5 1,iF 6 2 2,iL 7 6,iK 8 7,iO 9 .sub 8 1,⟨some 10,.call (.func 118) [.tmp 5,.const (.int .i64 0),.tmp 9],none⟩,iM 4 10])
 .ret))
def p92:PFunc:=⟨11,[(4,none)],none,b92⟩
def b93:PCode :=
 (.seq (.reg [
 iB 4 false])
 (.seq (.reg [
 iM 5 0,iM 6 1,iY 7 132 5 6,iO 8 .geq 7 0,iM 4 8])
 .ret))
def p93:PFunc:=⟨9,[(4,none)],none,b93⟩
def b94:PCode :=
 (.seq (.reg [
 iB 4 false])
 (.seq (.dreg [
 iM 5 0,iL 6 1,iA 7 1 5 6,iL 8 7,iL 9 2,iT 10 .eql 8 9,iM 4 10] [fA,fB,fA,fB,fB,fC,fC])
 .ret))
def p94:PFunc:=⟨11,[(4,none)],none,b94⟩
def q95x0:PCode :=
 (.seq (.reg [
 iT 15 .lss 14 13])
 (.seq (.cond (.tmp 15)
 .skip
 (.exit 0))
 (.seq (.blk 1
 (.seq (.reg [
 iA 16 1 12 14,iL 17 16,iM 7 17])
 (.seq (.reg [
 iM 18 1,iM 19 7,iM 20 5,⟨some 21,.call (.tmp 18) [.tmp 19,.tmp 20],none⟩])
 (.cond (.tmp 21)
 (.reg [
 iM 22 7,iM 5 22])
 .skip))))
 (.reg [
 iO 23 .add 14 1,iM 14 23]))))
def b95:PCode :=
 (.seq (.reg [
 iH 4])
 (.seq (.reg [
 iM 8 0,⟨some 9,.v (.ia 1) [.tmp 8,.const (.int .i64 0)],none⟩,iL 10 9,iM 5 10])
 (.seq (.seq (.reg [
 iM 11 0,⟨some 12,.v (.sl 1 true false) [.tmp 11,.const (.int .i64 1)],none⟩,iK 13 12,iI 14 0])
 (.blk 0
 (.loop q95x0)))
 (.seq (.reg [
 iM 24 5,iM 4 24])
 .ret))))
def p95:PFunc:=⟨25,[(4,none)],none,b95⟩
def b96:PCode :=
 (.seq (.reg [
 iB 4 false])
 (.seq (.dreg [
 iM 5 0,⟨some 6,.v (.ia 1) [.tmp 5,.const (.int .i64 0)],none⟩,iL 7 6,iM 8 1,⟨some 9,.v (.ia 1) [.tmp 8,.const (.int .i64 0)],none⟩,iL 10 9,iT 11 .gtr 7 10,iM 4 11] [fA,fA,fB,fA,fA,fB,fC,fC])
 .ret))
def p96:PFunc:=⟨12,[(4,none)],none,b96⟩
def b97:PCode :=
 (.seq (.reg [
 iI 2 0])
 (.seq (.dreg [
 iM 3 0,iM 4 0,iK 5 4,iO 6 .sub 5 1,iA 7 1 3 6,iL 8 7,iM 9 0,⟨some 10,.v (.ia 1) [.tmp 9,.const (.int .i64 0)],none⟩,iL 11 10,iT 12 .sub 8 11,iM 2 12] [fA,fA,fA,fA,fA,fB,fA,fA,fB,fC,fC])
 .ret))
def p97:PFunc:=⟨13,[(2,none)],none,b97⟩
def b98:PCode :=
 (.seq (.reg [
 iB 4 false])
 (.seq (.reg [
 iM 5 0,iX 6 97 5,iM 7 1,iX 8 97 7,iT 9 .lss 6 8,iM 4 9])
 .ret))
def p98:PFunc:=⟨10,[(4,none)],none,b98⟩
def b99:PCode :=
 (.seq (.reg [
 iV 1 26 0,iB 2 false])
 (.seq (.reg [
 iN 6 3 1,iX 7 78 6,iX 8 133 7,iM 5 8,iE 9 0 5,iE 10 1 5,iM 3 9,iM 4 10])
 (.seq (.reg [
 iM 11 4,iM 2 11])
 .ret)))
def p99:PFunc:=⟨12,[(2,none)],none,b99⟩
def q100x0:PCode :=
 (.seq (.seq (.reg [
 iM 9 5,iM 10 6,iT 11 .lss 9 10])
 (.cond (.tmp 11)
 .skip
 (.exit 0)))
 (.blk 1
 (.seq (.reg [
 iM 12 5,iM 13 6,iT 14 .add 12 13,⟨some 15,.v (.cv .u64) [.tmp 14],none⟩,⟨some 16,.v (.ib .shr) [.tmp 15,.const (.int .u64 1)],none⟩,⟨some 17,.v (.cv .i64) [.tmp 16],none⟩,iM 7 17])
 (.seq (.reg [
 iM 18 1,iM 19 7,⟨some 20,.call (.tmp 18) [.tmp 19],none⟩,iR 21 20])
 (.cond (.tmp 21)
 (.reg [
 iM 22 7,iO 23 .add 22 1,iM 5 23])
 (.reg [
 iM 24 7,iM 6 24]))))))
def b100:PCode :=
 (.seq (.reg [
 iI 4 0])
 (.seq (.reg [
 iM 8 0,iI 5 0,iM 6 8])
 (.seq (.blk 0
 (.loop q100x0))
 (.seq (.reg [
 iM 25 5,iM 4 25])
 .ret))))
def p100:PFunc:=⟨26,[(4,none)],none,b100⟩
def b101:PCode :=
 (.seq (.reg [
 iB 3 false])
 (.seq (.reg [
 iN 4 3 1,iM 5 0,iY 6 102 4 5,iX 7 99 6,iM 3 7])
 .ret))
def p101:PFunc:=⟨8,[(3,none)],none,b101⟩
def q102x0:PCode :=
 (.seq (.reg [
 iT 14 .lss 13 12])
 (.seq (.cond (.tmp 14)
 .skip
 (.exit 0))
 (.seq (.blk 1
 (.seq (.reg [
 iM 15 13,iM 5 15])
 (.reg [
 iF 16 2 2,iL 17 16,iM 18 5,iA 19 2 17 18,iF 20 1 19,iL 21 20,iM 22 1,iT 23 .add 21 22,iA 24 2 17 18,iF 25 1 24,iS 1 25 23])))
 (.reg [
 iO 26 .add 13 1,iM 13 26]))))
def b102:PCode :=
 (.seq (.reg [
 iV 2 26 0,⟨some 4,.lalloc 26 (.agg #[(.slice none 0 0),(.slice none 0 0),(.slice none 0 0)]),none⟩])
 (.seq (.reg [
 iF 6 2 2,iL 7 6,iX 8 134 7,iF 9 2 2,iS 1 9 8])
 (.seq (.seq (.reg [
 iF 10 2 2,iL 11 10,iK 12 11,iI 13 0])
 (.blk 0
 (.loop q102x0)))
 (.seq (.reg [
 iN 27 3 2,iS 3 4 27])
 .ret))))
def p102:PFunc:=⟨28,[(4,some (some 3))],none,b102⟩
def q103x0:PCode :=
 (.seq (.seq (.reg [
 iM 7 6,iM 8 1,iK 9 8,iT 10 .lss 7 9])
 (.cond (.tmp 10)
 .skip
 (.exit 0)))
 (.seq (.blk 1
 (.seq (.seq (.dreg [
 iN 13 3 2,iM 14 1,iM 15 6,iN 16 3 2,iX 17 38 16,⟨some 18,.call (.func 83) [.tmp 13,.tmp 14,.tmp 15,.tmp 17],none⟩] [⟨4,false,false⟩,fA,fA,⟨4,true,false⟩,fE,fD])
 (.cond (.tmp 18)
 (.seq (.reg [
 iI 4 (-1)])
 .ret)
 .skip))
 (.seq (.reg [
 iM 19 6,iO 20 .add 19 1,iM 21 1,iK 22 21,iT 23 .lss 20 22])
 (.cond (.tmp 23)
 (.dreg [
 iM 24 5,iM 25 1,iM 26 6,iN 27 3 2,iX 28 39 27,iZ 29 37 25 26 28,iF 30 2 2,iL 31 30,iM 32 6,iA 33 2 31 32,iF 34 1 33,iL 35 34,iT 36 .sub 29 35,⟨some 37,.v .mx [.tmp 24,.tmp 36],none⟩,iM 5 37] [fA,fA,fA,⟨4,false,false⟩,fB,fB,fA,⟨4,false,false⟩,fA,fA,fA,fB,fF,fC,fC])
 .skip))))
 (.reg [
 iM 11 6,iO 12 .add 11 1,iM 6 12])))
def b103:PCode :=
 (.seq (.reg [
 iV 2 26 0,iI 4 0])
 (.seq (.reg [
 iI 5 0])
 (.seq (.seq (.reg [
 iI 6 0])
 (.blk 0
 (.loop q103x0)))
 (.seq (.reg [
 iM 38 5,iM 4 38])
 .ret))))
def p103:PFunc:=⟨39,[(4,none)],none,b103⟩
def b104:PCode :=
 (.seq (.reg [
 iV 2 26 0,iB 4 false])
 (.seq (.reg [
 iM 5 1,iF 6 0 2,iL 7 6,iK 8 7,iO 9 .sub 8 1,⟨some 10,.call (.func 118) [.tmp 5,.const (.int .i64 0),.tmp 9],none⟩,iM 4 10])
 .ret))
def p104:PFunc:=⟨11,[(4,none)],none,b104⟩
def b105:PCode :=
 (.seq (.reg [
 ⟨some 1,.box 93 (.tmp 0),none⟩,⟨some 2,.v .mv [.const .nilFunc],none⟩])
 (.seq (.reg [
 ⟨some 3,.v (.mkf (.func 135) 0) [.tmp 1],none⟩,iM 2 3])
 .ret))
def p105:PFunc:=⟨4,[(2,none)],none,b105⟩
def q106x0:PCode :=
 (.seq (.reg [
 iT 15 .lss 14 13])
 (.seq (.cond (.tmp 15)
 .skip
 (.exit 0))
 (.seq (.blk 1
 (.seq (.reg [
 iA 16 2 12 14,iN 17 2 16,⟨some 7,.lalloc 121 (.agg #[(.slice none 0 0),(.int .i64 0)]),none⟩,iS 2 7 17])
 (.seq (.reg [
 iM 18 1,iN 19 2 7,iN 20 2 5,⟨some 21,.call (.tmp 18) [.tmp 19,.tmp 20],none⟩])
 (.cond (.tmp 21)
 (.reg [
 iN 22 2 7,iS 2 5 22])
 .skip))))
 (.reg [
 iO 23 .add 14 1,iM 14 23]))))
def b106:PCode :=
 (.seq (.reg [
 ⟨some 4,.lalloc 121 (.agg #[(.slice none 0 0),(.int .i64 0)]),none⟩])
 (.seq (.reg [
 iM 8 0,⟨some 9,.v (.ia 2) [.tmp 8,.const (.int .i64 0)],none⟩,iN 10 2 9,⟨some 5,.lalloc 121 (.agg #[(.slice none 0 0),(.int .i64 0)]),none⟩,iS 2 5 10])
 (.seq (.seq (.reg [
 iM 11 0,⟨some 12,.v (.sl 2 true false) [.tmp 11,.const (.int .i64 1)],none⟩,iK 13 12,iI 14 0])
 (.blk 0
 (.loop q106x0)))
 (.seq (.reg [
 iN 24 2 5,iS 2 4 24])
 .ret))))
def p106:PFunc:=⟨25,[(4,some (some 2))],none,b106⟩
def b107:PCode :=
 (.seq (.reg [
 iV 2 121 0,iV 3 121 1,iB 4 false])
 (.seq (.reg [
 iF 5 1 2,iL 6 5,iF 7 1 3,iL 8 7,iT 9 .lss 6 8,iM 4 9])
 .ret))
def p107:PFunc:=⟨10,[(4,none)],none,b107⟩
def q108x0:PCode :=
 (.seq (.reg [
 iT 59 .lss 58 57])
 (.seq (.cond (.tmp 59)
 .skip
 (.exit 6))
 (.seq (.blk 7
 (.seq (.reg [
 iM 60 58,iM 13 60])
 (.reg [
 iM 61 9,iM 62 12,iM 63 13,⟨some 64,.v .ix [.tmp 62,.tmp 63],none⟩,⟨some 65,.v (.cv .i64) [.tmp 64],none⟩,iM 66 13,iO 67 .add 66 1,iT 68 .mul 65 67,iM 69 10,iO 70 .add 69 1,iT 71 .mul 68 70,iT 72 .add 61 71,iM 9 72])))
 (.reg [
 iO 73 .add 58 1,iM 58 73]))))
def q108x1:PCode :=
 (.seq (.reg [
 iT 50 .lss 49 48])
 (.seq (.cond (.tmp 50)
 .skip
 (.exit 4))
 (.seq (.blk 5
 (.seq (.reg [
 iM 51 49,iA 52 1 47 49,iL 53 52,iM 10 51,iM 11 53])
 (.seq (.reg [
 iM 54 11,iX 55 140 54,iM 12 55])
 (.seq (.seq (.reg [
 iM 56 12,⟨some 57,.v .slen [.tmp 56],none⟩,iI 58 0])
 (.blk 6
 (.loop q108x0)))
 (.reg [
 iM 74 8,iM 75 12,⟨some 76,.v (.sb .add) [.tmp 75,.const (.string ⟨#[10]⟩)],none⟩,⟨some 77,.v (.sb .add) [.tmp 74,.tmp 76],none⟩,iM 8 77])))))
 (.reg [
 iO 78 .add 49 1,iM 49 78]))))
def q108x2:PCode :=
 (.seq (.reg [
 iT 37 .lss 36 35])
 (.seq (.cond (.tmp 37)
 .skip
 (.exit 2))
 (.seq (.blk 3
 (.seq (.reg [
 iA 38 2 34 36,iN 39 2 38,⟨some 7,.lalloc 51 (.agg #[(.int .i64 0),(.int .i64 0)]),none⟩,iS 2 7 39])
 (.reg [
 iM 40 3,iN 41 2 7,⟨some 42,.v (.bld [(.int .i64 0),(.int .i64 0)] [(0,2)]) [.tmp 41],none⟩,⟨some 43,.v (.mki 151) [.tmp 42],none⟩,⟨some 44,.lbs 153 1 [.nilIface] 1 [(0,.tmp 43)],none⟩,⟨some 45,.app 153 1 (.tmp 40) (.tmp 44),none⟩,iM 3 45])))
 (.reg [
 iO 46 .add 36 1,iM 36 46]))))
def q108x3:PCode :=
 (.seq (.reg [
 iT 18 .lss 17 16])
 (.seq (.cond (.tmp 18)
 .skip
 (.exit 0))
 (.seq (.blk 1
 (.seq (.reg [
 iM 19 17,iA 20 2 15 17,iN 21 2 20,⟨some 5,.lalloc 75 (.agg #[(.int .i64 0),(.int .i64 0)]),none⟩,iM 4 19,iS 2 5 21])
 (.dreg [
 iM 22 3,iN 23 2 5,iF 24 1 1,iL 25 24,iM 26 4,iY 27 126 25 26,⟨some 28,.v (.bld [(.int .i64 0),(.int .i64 0),(.bool false)] [(0,2),(2,1)]) [.tmp 23,.tmp 27],none⟩,⟨some 29,.v (.mki 149) [.tmp 28],none⟩,⟨some 30,.lbs 153 1 [.nilIface] 1 [(0,.tmp 29)],none⟩,⟨some 31,.app 153 1 (.tmp 22) (.tmp 30),none⟩,iM 3 31] [fA,⟨7,false,false⟩,fF,⟨3,true,false⟩,fF,fE,fF,fF,⟨32,true,false⟩,fD,fC])))
 (.reg [
 iO 32 .add 17 1,iM 17 32]))))
def b108:PCode :=
 (.seq (.reg [
 iV 1 26 0,⟨some 2,.v .mv [.const (.string ⟨#[]⟩)],none⟩])
 (.seq (.reg [
 iH 3])
 (.seq (.seq (.reg [
 iF 14 0 1,iL 15 14,iK 16 15,iI 17 0])
 (.blk 0
 (.loop q108x3)))
 (.seq (.seq (.reg [
 iF 33 2 1,iL 34 33,iK 35 34,iI 36 0])
 (.blk 2
 (.loop q108x2)))
 (.seq (.reg [
 ⟨some 8,.v .mv [.const (.string ⟨#[]⟩)],none⟩,iI 9 0])
 (.seq (.seq (.reg [
 iM 47 3,iK 48 47,iI 49 0])
 (.blk 4
 (.loop q108x1)))
 (.seq (.reg [
 iM 79 9,iO 80 .rem 79 181,iM 9 80])
 (.seq (.reg [
 iM 81 8,⟨some 82,.v (.sb .add) [.tmp 81,.const (.string ⟨#[101,110,100,32]⟩)],none⟩,iM 83 9,iO 84 .quo 83 100,iX 85 141 84,⟨some 86,.v (.sb .add) [.tmp 82,.tmp 85],none⟩,iM 87 9,iO 88 .quo 87 10,iO 89 .rem 88 10,iX 90 141 89,⟨some 91,.v (.sb .add) [.tmp 86,.tmp 90],none⟩,iM 92 9,iO 93 .rem 92 10,iX 94 141 93,⟨some 95,.v (.sb .add) [.tmp 91,.tmp 94],none⟩,⟨some 96,.v (.sb .add) [.tmp 95,.const (.string ⟨#[10]⟩)],none⟩,iM 2 96])
 .ret))))))))
def p108:PFunc:=⟨97,[(2,none)],none,b108⟩
def b109:PCode :=
 (.seq (.reg [
 ⟨some 2,.alloc 100 (.agg #[(.int .i64 0),(.int .i64 0)]),none⟩,⟨some 3,.alloc 29 (.int .i64 0),none⟩])
 (.seq (.reg [
 ⟨some 4,.v (.mkf (.func 142) 0) [.tmp 2,.tmp 3],none⟩,⟨none,.dfr (.tmp 4) [],none⟩])
 (.seq (.reg [
 iM 5 0,⟨some 6,.call (.tmp 5) [],none⟩])
 (.seq (.reg [
 ⟨some 7,.v (.bld [(.int .i64 0),(.int .i64 0)] []) [],none⟩,iS 2 2 7,⟨none,.st 1 (.tmp 3) (.const (.int .i64 0)),none⟩])
 .ret))))
def p109:PFunc:=⟨8,[(2,some (some 2)),(3,some none)],none,b109⟩
def b110:PCode :=
 (.reg [
 iL 2 0,iX 3 111 2,iS 3 1 3])
def p110:PFunc:=⟨4,[],none,b110⟩
def q111x0:PCode :=
 (.seq (.reg [
 iT 22 .lss 21 20])
 (.seq (.cond (.tmp 22)
 .skip
 (.exit 0))
 (.seq (.blk 1
 (.seq (.reg [
 iA 23 1 19 21,iL 24 23,iM 6 24])
 (.seq (.reg [
 iM 25 6,⟨some 26,.call (.func 143) [.tmp 25,.const (.string ⟨#[32]⟩)],none⟩,iM 7 26])
 (.blk 2
 (.seq (.reg [
 iM 30 7,⟨some 31,.v (.ia 1) [.tmp 30,.const (.int .i64 0)],none⟩,iL 32 31,⟨some 33,.v (.sb .eql) [.tmp 32,.const (.string ⟨#[100,97,121]⟩)],none⟩,iM 34 33,jM 35 7 34 true,
 jK 36 35 34 true,
 ⟨some 37,.v (.bld [(.int .i64 0),(.int .i64 0),(.bool false)] []) [],some (34,true)⟩,
 jX 38 145 37 34 true,
 jT 39 .eql 36 38 34 true,
 iP 40 34 39,iM 29 40])
 (.cond (.tmp 29)
 (.seq (.seq (.reg [
 iM 41 7,⟨some 42,.v (.ia 1) [.tmp 41,.const (.int .i64 3)],none⟩,iL 43 42,⟨some 44,.v (.sb .eql) [.tmp 43,.const (.string ⟨#[121,101,115]⟩)],none⟩])
 (.cond (.tmp 44)
 (.reg [
 iF 45 1 4,iL 46 45,iF 47 0 4,iL 48 47,iK 49 48,⟨some 50,.lbs 3 1 [(.int .i64 0)] 1 [(0,.tmp 49)],none⟩,⟨some 51,.app 3 1 (.tmp 46) (.tmp 50),none⟩,iF 52 1 4,iS 1 52 51])
 .skip))
 (.dreg [
 iF 53 0 4,iL 54 53,iM 55 7,⟨some 56,.v (.ia 1) [.tmp 55,.const (.int .i64 1)],none⟩,iL 57 56,iX 58 146 57,iM 59 7,⟨some 60,.v (.ia 1) [.tmp 59,.const (.int .i64 2)],none⟩,iL 61 60,iX 62 146 61,⟨some 63,.v (.bld [(.int .i64 0),(.int .i64 0)] [(0,1),(1,1)]) [.tmp 58,.tmp 62],none⟩,⟨some 64,.lbs 75 2 [(.int .i64 0),(.int .i64 0)] 1 [(0,.tmp 63)],none⟩,⟨some 65,.app 75 2 (.tmp 54) (.tmp 64),none⟩,iF 66 0 4,iS 1 66 65] [fA,⟨6,false,false⟩,fA,fA,fB,fB,fA,fA,fB,fE,fF,⟨66,true,false⟩,fD,fC,⟨6,true,true⟩]))
 (.seq (.reg [
 iM 68 7,⟨some 69,.v (.ia 1) [.tmp 68,.const (.int .i64 0)],none⟩,iL 70 69,⟨some 71,.v (.sb .eql) [.tmp 70,.const (.string ⟨#[99,111,97,116]⟩)],none⟩,iM 72 71,jM 73 7 72 true,
 jK 74 73 72 true,
 ⟨some 75,.v (.bld [(.int .i64 0),(.int .i64 0)] []) [],some (72,true)⟩,
 jX 76 147 75 72 true,
 jT 77 .eql 74 76 72 true,
 iP 78 72 77,iM 67 78])
 (.cond (.tmp 67)
 (.dreg [
 iF 79 2 4,iL 80 79,iM 81 7,⟨some 82,.v (.ia 1) [.tmp 81,.const (.int .i64 1)],none⟩,iL 83 82,iX 84 146 83,iM 85 7,⟨some 86,.v (.ia 1) [.tmp 85,.const (.int .i64 2)],none⟩,iL 87 86,iX 88 146 87,⟨some 89,.v (.bld [(.int .i64 0),(.int .i64 0)] [(0,1),(1,1)]) [.tmp 84,.tmp 88],none⟩,⟨some 90,.lbs 51 2 [(.int .i64 0),(.int .i64 0)] 1 [(0,.tmp 89)],none⟩,⟨some 91,.app 51 2 (.tmp 80) (.tmp 90),none⟩,iF 92 2 4,iS 1 92 91] [fA,⟨6,false,false⟩,fA,fA,fB,fB,fA,fA,fB,fE,fF,⟨92,true,false⟩,fD,fC,⟨6,true,true⟩])
 (.reg [
 iM 27 6,⟨some 28,.call (.func 144) [.const (.bool false),.tmp 27],none⟩])))))))))
 (.reg [
 iO 93 .add 21 1,iM 21 93]))))
def b111:PCode :=
 (.seq (.reg [
 ⟨some 2,.lalloc 26 (.agg #[(.slice none 0 0),(.slice none 0 0),(.slice none 0 0)]),none⟩])
 (.seq (.reg [
 iM 8 0,⟨some 9,.call (.func 143) [.tmp 8,.const (.string ⟨#[10]⟩)],none⟩,iM 3 9])
 (.seq (.reg [
 iM 10 3,iK 11 10,iO 12 .geq 11 2,iM 13 0,iY 14 144 12 13])
 (.seq (.reg [
 ⟨some 4,.lalloc 26 (.agg #[(.slice none 0 0),(.slice none 0 0),(.slice none 0 0)]),none⟩])
 (.seq (.seq (.reg [
 iM 15 3,iM 16 3,iK 17 16,iO 18 .sub 17 2,⟨some 19,.v (.sl 1 false true) [.tmp 15,.tmp 18],none⟩,iK 20 19,iI 21 0])
 (.blk 0
 (.loop q111x0)))
 (.seq (.reg [
 iN 94 3 4,iX 95 108 94,iM 96 0,⟨some 97,.v (.sb .eql) [.tmp 95,.tmp 96],none⟩,iM 98 0,iY 99 144 97 98])
 (.seq (.reg [
 iN 100 3 4,iS 3 2 100])
 .ret)))))))
def p111:PFunc:=⟨101,[(2,some (some 3))],none,b111⟩
def q112x0:PCode :=
 (.seq (.seq (.reg [
 iM 6 5,iM 7 1,iK 8 7,iT 9 .lss 6 8])
 (.cond (.tmp 9)
 .skip
 (.exit 0)))
 (.seq (.blk 1
 (.reg [
 iM 12 0,⟨some 13,.v (.sb .add) [.tmp 12,.const (.string ⟨#[32]⟩)],none⟩,iM 14 1,iM 15 5,iA 16 1 14 15,iL 17 16,iX 18 148 17,⟨some 19,.v (.sb .add) [.tmp 13,.tmp 18],none⟩,iM 0 19]))
 (.reg [
 iM 10 5,iO 11 .add 10 1,iM 5 11])))
def b112:PCode :=
 (.seq (.reg [
 ⟨some 4,.v .mv [.const (.string ⟨#[]⟩)],none⟩])
 (.seq (.seq (.reg [
 iI 5 0])
 (.blk 0
 (.loop q112x0)))
 (.seq (.reg [
 iM 20 0,iM 4 20])
 .ret)))
def p112:PFunc:=⟨21,[(4,none)],none,b112⟩
def q113x0:PCode :=
 (.seq (.seq (.reg [
 iM 15 8,iM 16 0,iM 17 7,iA 18 1 16 17,iL 19 18,⟨some 20,.v .slen [.tmp 19],none⟩,iT 21 .lss 15 20])
 (.cond (.tmp 21)
 .skip
 (.exit 2)))
 (.seq (.blk 3
 (.reg [
 iM 24 6,iM 25 0,iM 26 7,iA 27 1 25 26,iL 28 27,iM 29 8,⟨some 30,.v .ix [.tmp 28,.tmp 29],none⟩,⟨some 31,.v (.cv .i64) [.tmp 30],none⟩,iM 32 8,iO 33 .add 32 1,iT 34 .mul 31 33,iM 35 7,iO 36 .add 35 1,iT 37 .mul 34 36,iT 38 .add 24 37,iM 6 38]))
 (.reg [
 iM 22 8,iO 23 .add 22 1,iM 8 23])))
def q113x1:PCode :=
 (.seq (.seq (.reg [
 iM 9 7,iM 10 0,iK 11 10,iT 12 .lss 9 11])
 (.cond (.tmp 12)
 .skip
 (.exit 0)))
 (.seq (.blk 1
 (.seq (.seq (.reg [
 iI 8 0])
 (.blk 2
 (.loop q113x0)))
 (.reg [
 iM 39 5,iM 40 0,iM 41 7,iA 42 1 40 41,iL 43 42,⟨some 44,.v (.sb .add) [.tmp 39,.tmp 43],none⟩,⟨some 45,.v (.sb .add) [.tmp 44,.const (.string ⟨#[10]⟩)],none⟩,iM 5 45])))
 (.reg [
 iM 13 7,iO 14 .add 13 1,iM 7 14])))
def b113:PCode :=
 (.seq (.reg [
 ⟨some 4,.v .mv [.const (.string ⟨#[]⟩)],none⟩])
 (.seq (.reg [
 ⟨some 5,.v .mv [.const (.string ⟨#[]⟩)],none⟩,iI 6 0])
 (.seq (.seq (.reg [
 iI 7 0])
 (.blk 0
 (.loop q113x1)))
 (.seq (.reg [
 iM 46 6,iM 47 1,iT 48 .rem 46 47,iM 6 48])
 (.seq (.reg [
 iM 49 5,⟨some 50,.v (.sb .add) [.tmp 49,.const (.string ⟨#[101,110,100,32]⟩)],none⟩,iM 51 6,iO 52 .quo 51 100,iX 53 148 52,⟨some 54,.v (.sb .add) [.tmp 50,.tmp 53],none⟩,iM 55 6,iO 56 .quo 55 10,iO 57 .rem 56 10,iX 58 148 57,⟨some 59,.v (.sb .add) [.tmp 54,.tmp 58],none⟩,iM 60 6,iO 61 .rem 60 10,iX 62 148 61,⟨some 63,.v (.sb .add) [.tmp 59,.tmp 62],none⟩,⟨some 64,.v (.sb .add) [.tmp 63,.const (.string ⟨#[10]⟩)],none⟩,iM 4 64])
 .ret)))))
def p113:PFunc:=⟨65,[(4,none)],none,b113⟩
def b116:PCode :=
 (.seq (.reg [
 ⟨some 4,.lalloc 75 (.agg #[(.int .i64 0),(.int .i64 0)]),none⟩])
 (.seq (.reg [
 iM 5 0,iM 6 1,⟨some 7,.v (.bld [(.int .i64 0),(.int .i64 0)] [(0,1),(1,1)]) [.tmp 5,.tmp 6],none⟩,iS 2 4 7])
 .ret))
def p116:PFunc:=⟨8,[(4,some (some 2))],none,b116⟩
def b117:PCode :=
 (.seq (.reg [
 iV 1 75 0,iB 2 false])
 (.seq (.reg [
 iF 3 0 1,iL 4 3,⟨some 5,.call (.func 118) [.tmp 4,.const (.int .i64 0),.const (.int .i64 24)],none⟩,iR 6 5,iM 7 6,jF 8 1 1 7 false,
 jL 9 8 7 false,
 jF 10 0 1 7 false,
 jL 11 10 7 false,
 ⟨some 12,.call (.func 118) [.tmp 9,.tmp 11,.const (.int .i64 24)],some (7,false)⟩,
 jR 13 12 7 false,
 iQ 14 7 13,iM 2 14])
 .ret))
def p117:PFunc:=⟨15,[(2,none)],none,b117⟩
def b118:PCode :=
 (.seq (.reg [
 iB 6 false])
 (.seq (.reg [
 iM 7 0,iM 8 1,iT 9 .geq 7 8,iM 10 9,jM 11 0 10 true,
 jM 12 2 10 true,
 jT 13 .leq 11 12 10 true,
 iP 14 10 13,iM 6 14])
 .ret))
def p118:PFunc:=⟨15,[(6,none)],none,b118⟩
def b119:PCode :=
 (.seq (.reg [
 iV 1 51 0,iB 2 false])
 (.seq (.reg [
 iF 3 0 1,iL 4 3,⟨some 5,.call (.func 118) [.tmp 4,.const (.int .i64 1),.const (.int .i64 288)],none⟩,iR 6 5,iM 7 6,jF 8 1 1 7 false,
 jL 9 8 7 false,
 jF 10 0 1 7 false,
 jL 11 10 7 false,
 ⟨some 12,.call (.func 118) [.tmp 9,.tmp 11,.const (.int .i64 400)],some (7,false)⟩,
 jR 13 12 7 false,
 iQ 14 7 13,iM 2 14])
 .ret))
def p119:PFunc:=⟨15,[(2,none)],none,b119⟩
def b120:PCode :=
 (.seq (.reg [
 iB 4 false])
 (.seq (.reg [
 iM 5 0,iM 6 1,iY 7 150 5 6,iO 8 .geq 7 0,iM 4 8])
 .ret))
def p120:PFunc:=⟨9,[(4,none)],none,b120⟩
def b121:PCode :=
 (.seq (.reg [
 iB 4 false])
 (.seq (.reg [
 iM 5 0,iM 6 1,iY 7 151 5 6,iO 8 .geq 7 0,iM 4 8])
 .ret))
def p121:PFunc:=⟨9,[(4,none)],none,b121⟩
def q122x0:PCode :=
 (.seq (.reg [
 iT 8 .lss 7 6])
 (.seq (.cond (.tmp 8)
 .skip
 (.exit 0))
 (.seq (.blk 1
 (.seq (.reg [
 iM 9 7,iA 10 1 5 7,iL 11 10,iM 3 9,iM 4 11])
 (.seq (.reg [
 iM 12 3,iO 13 .gtr 12 0,iM 14 13,jM 15 4 14 true,
 jM 16 0 14 true,
 jM 17 3 14 true,
 jO 18 .sub 17 1 14 true,
 jA 19 1 16 18 14 true,
 jL 20 19 14 true,
 jT 21 .leq 15 20 14 true,
 iP 22 14 21])
 (.cond (.tmp 22)
 (.seq (.reg [
 iB 2 false])
 .ret)
 .skip))))
 (.reg [
 iO 23 .add 7 1,iM 7 23]))))
def b122:PCode :=
 (.seq (.reg [
 iB 2 false])
 (.seq (.seq (.reg [
 iM 5 0,iK 6 5,iI 7 0])
 (.blk 0
 (.loop q122x0)))
 (.seq (.reg [
 iB 2 true])
 .ret)))
def p122:PFunc:=⟨24,[(2,none)],none,b122⟩
def b123:PCode :=
 (.seq (.reg [
 iB 4 false])
 (.seq (.reg [
 iM 5 0,iM 6 1,iY 7 152 5 6,iO 8 .geq 7 0,iM 4 8])
 .ret))
def p123:PFunc:=⟨9,[(4,none)],none,b123⟩
def b124:PCode :=
 (.seq (.reg [
 iB 3 false])
 (.seq (.reg [
 iN 4 3 1,iM 5 0,iY 6 104 4 5,iR 7 6,iM 3 7])
 .ret))
def p124:PFunc:=⟨8,[(3,none)],none,b124⟩
def b125:PCode :=
 (.seq (.reg [
 iB 3 false])
 (.seq (.reg [
 iF 4 1 1,iL 5 4,iM 6 0,iY 7 126 5 6,iR 8 7,iM 3 8])
 .ret))
def p125:PFunc:=⟨9,[(3,none)],none,b125⟩
def b126:PCode :=
 (.seq (.reg [
 iB 4 false])
 (.seq (.reg [
 iM 5 0,iM 6 1,iY 7 153 5 6,iO 8 .geq 7 0,iM 4 8])
 .ret))
def p126:PFunc:=⟨9,[(4,none)],none,b126⟩
def q127x0:PCode :=
 (.seq (.reg [
 iT 9 .lss 8 7])
 (.seq (.cond (.tmp 9)
 .skip
 (.exit 0))
 (.seq (.blk 1
 (.seq (.reg [
 iM 10 8,iA 11 1 6 8,iL 12 11,iM 2 10,iM 3 12])
 (.seq (.reg [
 iN 14 5 1,iL 15 0,iM 16 2,iZ 17 79 14 15 16,iM 13 17,iE 18 0 13,iE 19 1 13,iM 4 18,iM 5 19])
 (.reg [
 iN 20 5 1,iM 21 2,iM 22 3,iM 23 4,iM 24 5,⟨some 25,.call (.func 128) [.tmp 20,.tmp 21,.tmp 22,.tmp 23,.tmp 24],none⟩]))))
 (.reg [
 iO 26 .add 8 1,iM 8 26]))))
def b127:PCode :=
 (.seq (.reg [
 iL 6 0,iK 7 6,iI 8 0])
 (.blk 0
 (.loop q127x0)))
def p127:PFunc:=⟨27,[],none,b127⟩
def b128:PCode :=
 (.seq (.reg [
 iV 5 93 0])
 (.seq (.dreg [
 iN 12 5 5,iM 13 2,iM 14 3,iZ 15 86 12 13 14,iF 16 0 5,iF 17 2 16,iL 18 17,iM 19 1,iA 20 2 18 19,iN 21 2 20,⟨some 10,.lalloc 75 (.agg #[(.int .i64 0),(.int .i64 0)]),none⟩,⟨some 11,.lalloc 51 (.agg #[(.int .i64 0),(.int .i64 0)]),none⟩,iS 2 10 15,iS 2 11 21] [⟨7,false,false⟩,fA,fA,fB,fA,fA,⟨7,false,false⟩,fA,fA,fB,⟨12,false,false⟩,⟨13,false,false⟩,⟨12,false,false⟩,⟨13,true,true⟩])
 (.seq (.seq (.reg [
 iF 22 0 10,iL 23 22,iF 24 0 11,iL 25 24,iT 26 .lss 23 25])
 (.cond (.tmp 26)
 (.reg [
 iM 27 1,⟨some 28,.v (.bld [(.int .i64 0),(.int .i64 0)] [(0,1),(1,1)]) [.tmp 27,.const (.int .i64 1)],none⟩,⟨some 29,.v (.mki 100) [.tmp 28],none⟩,⟨none,.pnc (.tmp 29),none⟩])
 .skip))
 (.seq (.reg [
 iM 30 4,iM 31 30,jF 32 1 10 31 true,
 jL 33 32 31 true,
 jF 34 1 11 31 true,
 jL 35 34 31 true,
 jT 36 .gtr 33 35 31 true,
 iP 37 31 36])
 (.cond (.tmp 37)
 (.reg [
 iM 38 1,⟨some 39,.v (.bld [(.int .i64 0),(.int .i64 0)] [(0,1),(1,1)]) [.tmp 38,.const (.int .i64 2)],none⟩,⟨some 40,.v (.mki 100) [.tmp 39],none⟩,⟨none,.pnc (.tmp 40),none⟩])
 .skip)))))
def p128:PFunc:=⟨41,[],none,b128⟩
def b129:PCode :=
 (.seq (.reg [
 iV 3 93 0,iI 6 0])
 (.seq (.dreg [
 iF 7 3 3,iL 8 7,iM 9 2,iA 10 1 8 9,iL 11 10,iF 12 3 3,iL 13 12,iM 14 1,iA 15 1 13 14,iL 16 15,iT 17 .sub 11 16,iM 6 17] [fA,⟨5,false,false⟩,fA,fA,fB,fA,⟨5,false,false⟩,fA,fA,fB,fC,fC])
 .ret))
def p129:PFunc:=⟨18,[(6,none)],none,b129⟩
def b130:PCode :=
 (.seq (.reg [
 iV 3 93 0,iI 6 0])
 (.seq (.dreg [
 iF 7 4 3,iL 8 7,iM 9 2,iA 10 1 8 9,iL 11 10,iF 12 4 3,iL 13 12,iM 14 1,iA 15 1 13 14,iL 16 15,iT 17 .sub 11 16,iM 6 17] [fA,⟨5,false,false⟩,fA,fA,fB,fA,⟨5,false,false⟩,fA,fA,fB,fC,fC])
 .ret))
def p130:PFunc:=⟨18,[(6,none)],none,b130⟩
def b131:PCode :=
 (.seq (.reg [
 iH 2])
 (.seq (.reg [
 iM 3 0,⟨some 4,.call (.func 154) [.const (.slice none 0 0),.tmp 3],none⟩,iM 2 4])
 .ret))
def p131:PFunc:=⟨5,[(2,none)],none,b131⟩
def q132x0:PCode :=
 (.seq (.reg [
 iT 9 .lss 8 7])
 (.seq (.cond (.tmp 9)
 .skip
 (.exit 0))
 (.seq (.blk 1
 (.seq (.reg [
 iM 10 8,iM 5 10])
 (.seq (.reg [
 iM 11 1,iM 12 0,iM 13 5,iA 14 1 12 13,iL 15 14,⟨some 16,.call (.tmp 11) [.tmp 15],none⟩])
 (.cond (.tmp 16)
 (.seq (.reg [
 iM 17 5,iM 4 17])
 .ret)
 .skip))))
 (.reg [
 iO 18 .add 8 1,iM 8 18]))))
def b132:PCode :=
 (.seq (.reg [
 iI 4 0])
 (.seq (.seq (.reg [
 iM 6 0,iK 7 6,iI 8 0])
 (.blk 0
 (.loop q132x0)))
 (.seq (.reg [
 iI 4 (-1)])
 .ret)))
def p132:PFunc:=⟨19,[(4,none)],none,b132⟩
def b133:PCode :=
 (.seq (.reg [
 iV 1 93 0,iH 2,iB 3 false])
 (.seq (.reg [
 ⟨some 4,.alloc 23 (.slice none 0 0),none⟩])
 (.seq (.reg [
 ⟨some 5,.alloc 4 (.bool false),none⟩,⟨none,.st 1 (.tmp 5) (.const (.bool false)),none⟩])
 (.seq .skip
 (.seq (.seq (.reg [
 iN 7 5 1,iX 8 105 7])
 (.blk 0
 (.rf (.tmp 8) [9]
 (.reg [
 iM 6 9])
 (.blk 1
 (.seq (.reg [
 iM 10 6,iS 1 4 10,⟨none,.st 1 (.tmp 5) (.const (.bool true)),none⟩])
 (.exit 0))))))
 (.seq (.dreg [
 iL 11 4,iL 12 5,iM 2 11,iM 3 12] [fB,fB,fA,fC])
 .ret))))))
def p133:PFunc:=⟨13,[(2,none),(3,none)],none,b133⟩
def b134:PCode :=
 (.seq (.reg [
 iH 2])
 (.seq (.seq (.reg [
 iM 3 0,⟨some 4,.v (.nl .slice false) [.tmp 3],none⟩])
 (.cond (.tmp 4)
 (.seq (.reg [
 iH 2])
 .ret)
 .skip))
 (.seq (.reg [
 ⟨some 5,.bs 51 2 [(.int .i64 0),(.int .i64 0)] 0 [],none⟩,iM 6 0,⟨some 7,.app 51 2 (.tmp 5) (.tmp 6),none⟩,iM 2 7])
 .ret)))
def p134:PFunc:=⟨8,[(2,none)],none,b134⟩
def b135:PCode :=
 (.seq (.reg [
 ⟨some 2,.box 110 (.tmp 0),none⟩])
 (.seq (.reg [
 ⟨some 6,.mkm (.agg [(.i .i64),(.i .i64)]),none⟩,⟨some 3,.alloc 144 (.map none),none⟩,iS 1 3 6])
 (.seq (.reg [
 ⟨some 4,.alloc 23 (.slice none 0 0),none⟩])
 (.seq (.reg [
 ⟨some 5,.alloc 28 .nilFunc,none⟩])
 (.seq (.reg [
 ⟨some 7,.v (.mkf (.func 136) 0) [.tmp 4,.tmp 1,.tmp 2,.tmp 3,.tmp 5],none⟩,iS 1 5 7])
 (.reg [
 iL 8 5,⟨some 9,.call (.tmp 8) [],none⟩]))))))
def p135:PFunc:=⟨10,[],none,b135⟩
def q136x0:PCode :=
 (.seq (.reg [
 iT 28 .lss 27 26])
 (.seq (.cond (.tmp 28)
 .skip
 (.exit 0))
 (.seq (.blk 1
 (.seq (.reg [
 iA 29 1 25 27,iL 30 29,⟨some 8,.alloc 3 (.int .i64 0),none⟩,iS 1 8 30])
 (.seq (.seq (.dreg [
 iL 31 6,iO 32 .gtr 31 0,iM 33 32,jL 34 8 33 true,
 jL 35 0 33 true,
 jL 36 6 33 true,
 jO 37 .sub 36 1 33 true,
 jA 38 1 35 37 33 true,
 jL 39 38 33 true,
 jT 40 .leq 34 39 33 true,
 iP 41 33 40,iM 42 41,jN 43 5 1 42 false,
 jL 44 6 42 false,
 jL 45 8 42 false,
 jL 46 3 42 false,
 ⟨some 47,.call (.func 138) [.tmp 43,.tmp 44,.tmp 45,.tmp 46],some (42,false)⟩,
 jR 48 47 42 false,
 iQ 49 42 48] [fD,fC,fC,fB,fB,fB,fA,fA,fB,fC,fC,fC,fB,fB,fB,fB,fD,fC,fC])
 (.cond (.tmp 49)
 (.exit 1)
 .skip))
 (.seq (.seq (.reg [
 iL 50 6,iO 51 .gtr 50 0])
 (.cond (.tmp 51)
 (.seq (.reg [
 ⟨some 53,.v (.mkf (.func 139) 0) [.tmp 1,.tmp 6,.tmp 0,.tmp 8],none⟩,iX 54 109 53,iM 52 54,iE 55 0 52,iE 56 1 52,⟨some 9,.lalloc 100 (.agg #[(.int .i64 0),(.int .i64 0)]),none⟩,iS 2 9 55,iM 10 56])
 (.seq (.reg [
 iM 57 10,iO 58 .neq 57 0])
 (.cond (.tmp 58)
 (.exit 1)
 .skip)))
 .skip))
 (.seq (.reg [
 iL 59 0,iL 60 8,⟨some 61,.lbs 3 1 [(.int .i64 0)] 1 [(0,.tmp 60)],none⟩,⟨some 62,.app 3 1 (.tmp 59) (.tmp 61),none⟩,iS 1 0 62])
 (.seq (.seq (.reg [
 iL 63 4,⟨some 64,.call (.tmp 63) [],none⟩,iR 65 64])
 (.cond (.tmp 65)
 (.seq (.reg [
 iB 5 false])
 .ret)
 .skip))
 (.reg [
 iL 66 0,iL 67 6,⟨some 68,.v (.sl 1 false true) [.tmp 66,.tmp 67],none⟩,iS 1 0 68])))))))
 (.reg [
 iO 69 .add 27 1,iM 27 69]))))
def b136:PCode :=
 (.seq (.reg [
 iB 5 false])
 (.seq (.reg [
 iL 11 0,iK 12 11,⟨some 6,.alloc 3 (.int .i64 0),none⟩,iS 1 6 12])
 (.seq (.seq (.reg [
 iL 13 6,iF 14 0 1,iF 15 2 14,iL 16 15,iK 17 16,iT 18 .eql 13 17])
 (.cond (.tmp 18)
 (.seq (.dreg [
 iL 19 2,iL 20 0,iX 21 137 20,⟨some 22,.call (.tmp 19) [.tmp 21],none⟩,iM 5 22] [fB,fB,fB,fD,fC])
 .ret)
 .skip))
 (.seq (.seq (.reg [
 iF 23 0 1,iF 24 1 23,iL 25 24,iK 26 25,iI 27 0])
 (.blk 0
 (.loop q136x0)))
 (.seq (.reg [
 iB 5 true])
 .ret)))))
def p136:PFunc:=⟨70,[(5,none)],none,b136⟩
def b137:PCode :=
 (.seq (.reg [
 iH 2])
 (.seq (.seq (.reg [
 iM 3 0,⟨some 4,.v (.nl .slice false) [.tmp 3],none⟩])
 (.cond (.tmp 4)
 (.seq (.reg [
 iH 2])
 .ret)
 .skip))
 (.seq (.reg [
 ⟨some 5,.bs 3 1 [(.int .i64 0)] 0 [],none⟩,iM 6 0,⟨some 7,.app 3 1 (.tmp 5) (.tmp 6),none⟩,iM 2 7])
 .ret)))
def p137:PFunc:=⟨8,[(2,none)],none,b137⟩
def q138x0:PCode :=
 (.seq (.reg [
 iT 49 .lss 48 47])
 (.seq (.cond (.tmp 49)
 .skip
 (.exit 0))
 (.seq (.blk 1
 (.seq (.reg [
 iA 50 1 46 48,iL 51 50,⟨some 16,.alloc 3 (.int .i64 0),none⟩,iS 1 16 51])
 (.seq (.seq (.reg [
 iL 52 16,iL 53 6,iT 54 .leq 52 53])
 (.cond (.tmp 54)
 (.exit 1)
 .skip))
 (.seq (.reg [
 ⟨some 56,.v (.mkf (.func 156) 0) [.tmp 4,.tmp 5,.tmp 6,.tmp 16],none⟩,iX 57 109 56,iM 55 57,iE 58 0 55,iE 59 1 55,⟨some 17,.lalloc 100 (.agg #[(.int .i64 0),(.int .i64 0)]),none⟩,iS 2 17 58,iM 18 59])
 (.seq (.reg [
 iM 60 18,iO 61 .eql 60 0,iM 62 61,jN 63 5 4 62 true,
 jL 64 5 62 true,
 jO 65 .add 64 1 62 true,
 jL 66 16 62 true,
 jM 67 3 62 true,
 ⟨some 68,.call (.func 138) [.tmp 63,.tmp 65,.tmp 66,.tmp 67],some (62,true)⟩,
 iP 69 62 68])
 (.cond (.tmp 69)
 (.seq (.reg [
 iB 12 true])
 (.exit 0))
 .skip))))))
 (.reg [
 iO 70 .add 48 1,iM 48 70]))))
def b138:PCode :=
 (.seq (.reg [
 ⟨some 4,.box 93 (.tmp 0),none⟩,⟨some 5,.box 3 (.tmp 1),none⟩,⟨some 6,.box 3 (.tmp 2),none⟩,iB 8 false])
 (.seq (.reg [
 iL 19 5,iL 20 6,⟨some 21,.v (.bld [(.int .i64 0),(.int .i64 0)] [(0,1),(1,1)]) [.tmp 19,.tmp 20],none⟩,⟨some 9,.lalloc 169 (.agg #[(.int .i64 0),(.int .i64 0)]),none⟩,iS 2 9 21])
 (.seq (.seq (.reg [
 iM 23 3,iN 24 2 9,⟨some 25,.mlk (.agg [(.i .i64),(.i .i64)]) (.bool false) true (.tmp 23) (.tmp 24),none⟩,iM 22 25,iE 26 0 22,iE 27 1 22,iM 10 26,iM 11 27])
 (.seq (.reg [
 iM 28 11])
 (.cond (.tmp 28)
 (.seq (.reg [
 iM 29 10,iM 8 29])
 .ret)
 .skip)))
 (.seq (.reg [
 iB 12 false])
 (.seq (.seq (.reg [
 iL 30 5,iF 31 0 4,iF 32 2 31,iL 33 32,iK 34 33,iO 35 .sub 34 1,iT 36 .eql 30 35])
 (.cond (.tmp 36)
 (.seq (.reg [
 ⟨some 38,.v (.mkf (.func 155) 0) [.tmp 4,.tmp 5,.tmp 6],none⟩,iX 39 109 38,iM 37 39,iE 40 0 37,iE 41 1 37,⟨some 13,.lalloc 100 (.agg #[(.int .i64 0),(.int .i64 0)]),none⟩,iS 2 13 40,iM 14 41])
 (.reg [
 iM 42 14,iO 43 .eql 42 0,iM 12 43]))
 (.seq (.reg [
 iF 44 0 4,iF 45 1 44,iL 46 45,iK 47 46,iI 48 0])
 (.blk 0
 (.loop q138x0)))))
 (.seq (.reg [
 iM 71 3,iN 72 2 9,iM 73 12,⟨none,.mup (.agg [(.i .i64),(.i .i64)]) (.tmp 71) (.tmp 72) (.tmp 73),none⟩])
 (.seq (.reg [
 iM 74 12,iM 8 74])
 .ret)))))))
def p138:PFunc:=⟨75,[(8,none)],none,b138⟩
def b139:PCode :=
 (.dreg [
 iN 4 5 0,iL 5 1,iO 6 .sub 5 1,iL 7 2,iL 8 1,iO 9 .sub 8 1,iA 10 1 7 9,iL 11 10,iL 12 3,⟨some 13,.call (.func 128) [.tmp 4,.tmp 6,.tmp 11,.tmp 12,.const (.bool true)],none⟩] [fB,fB,fA,fB,fB,fA,fA,fB,fB,fD])
def p139:PFunc:=⟨14,[],none,b139⟩
def b142:PCode :=
 (.blk 0
 (.seq (.reg [
 ⟨some 8,.v (.nl .iface false) [.tmp 6],none⟩])
 (.cond (.tmp 8)
 (.reg [
 iM 2 6])
 (.seq (.reg [
 ⟨some 9,.v (.tas 100 (.agg #[(.int .i64 0),(.int .i64 0)])) [.tmp 6],none⟩,iE 10 1 9,iE 11 0 9])
 (.cond (.tmp 10)
 (.seq (.reg [
 ⟨some 3,.lalloc 100 (.agg #[(.int .i64 0),(.int .i64 0)]),none⟩,iS 2 3 11])
 (.reg [
 iN 12 2 3,iS 2 0 12,⟨none,.st 1 (.tmp 1) (.const (.int .i64 7)),none⟩]))
 (.seq (.reg [
 ⟨some 13,.v (.tas 157 (.agg #[(.string ⟨#[]⟩)])) [.tmp 6],none⟩,iE 14 1 13,iE 15 0 13])
 (.cond (.tmp 14)
 (.seq (.reg [
 ⟨some 4,.lalloc 157 (.agg #[(.string ⟨#[]⟩)]),none⟩,iS 1 4 15])
 (.reg [
 ⟨none,.st 1 (.tmp 1) (.const (.int .i64 4)),none⟩]))
 (.seq (.reg [
 iM 5 6])
 (.reg [
 iM 7 5,⟨none,.pnc (.tmp 7),none⟩])))))))))
def p142:PFunc:=⟨16,[],(some 6),b142⟩
def b143:PCode :=
 (.seq (.reg [
 iH 4])
 (.seq (.reg [
 iM 5 0,iM 6 1,⟨some 7,.call (.func 159) [.tmp 5,.tmp 6,.const (.int .i64 0),.const (.int .i64 (-1))],none⟩,iM 4 7])
 .ret))
def p143:PFunc:=⟨8,[(4,none)],none,b143⟩
def b144:PCode :=
 (.seq (.reg [
 iM 4 0,iR 5 4])
 (.cond (.tmp 5)
 (.reg [
 iM 6 1,⟨some 7,.v (.bld [(.string ⟨#[]⟩)] [(0,1)]) [.tmp 6],none⟩,⟨some 8,.v (.mki 157) [.tmp 7],none⟩,⟨none,.pnc (.tmp 8),none⟩])
 .skip))
def p144:PFunc:=⟨9,[],none,b144⟩
def b145:PCode :=
 (.seq (.reg [
 iV 1 149 0,iI 2 0])
 (.seq (.reg [
 iI 2 4])
 .ret))
def p145:PFunc:=⟨3,[(2,none)],none,b145⟩
def q146x0:PCode :=
 (.seq (.reg [
 ⟨some 8,.nxt (.tmp 7),none⟩,iE 9 0 8])
 (.seq (.cond (.tmp 9)
 .skip
 (.exit 0))
 (.blk 1
 (.seq (.reg [
 iE 10 2 8,iM 5 10])
 (.seq (.reg [
 iM 11 5,⟨some 12,.v (.ib .geq) [.tmp 11,.const (.int .i32 48)],none⟩,iM 13 12,jM 14 5 13 true,
 ⟨some 15,.v (.ib .leq) [.tmp 14,.const (.int .i32 57)],some (13,true)⟩,
 iP 16 13 15,iM 17 16,jM 18 0 17 true,
 ⟨some 19,.v .slen [.tmp 18],some (17,true)⟩,
 jO 20 .leq 19 3 17 true,
 iP 21 17 20,iM 22 0,iY 23 144 21 22])
 (.reg [
 iM 24 3,⟨some 25,.v (.ib .mul) [.const (.int .i64 10),.tmp 24],none⟩,iM 26 5,⟨some 27,.v (.ib .sub) [.tmp 26,.const (.int .i32 48)],none⟩,⟨some 28,.v (.cv .i64) [.tmp 27],none⟩,iT 29 .add 25 28,iM 3 29]))))))
def b146:PCode :=
 (.seq (.reg [
 iI 2 0])
 (.seq (.reg [
 iI 3 0])
 (.seq (.seq (.reg [
 iM 6 0,⟨some 7,.rng (.tmp 6),none⟩])
 (.blk 0
 (.loop q146x0)))
 (.seq (.reg [
 iM 30 0,⟨some 31,.v (.sb .neq) [.tmp 30,.const (.string ⟨#[]⟩)],none⟩,iM 32 31,jM 33 3 32 true,
 jX 34 141 33 32 true,
 jM 35 0 32 true,
 ⟨some 36,.v (.sb .eql) [.tmp 34,.tmp 35],some (32,true)⟩,
 iP 37 32 36,iM 38 0,iY 39 144 37 38])
 (.seq (.reg [
 iM 40 3,iM 2 40])
 .ret)))))
def p146:PFunc:=⟨41,[(2,none)],none,b146⟩
def b147:PCode :=
 (.seq (.reg [
 iV 1 151 0,iI 2 0])
 (.seq (.reg [
 iI 2 3])
 .ret))
def p147:PFunc:=⟨3,[(2,none)],none,b147⟩
def b148:PCode :=
 (.seq (.reg [
 ⟨some 2,.v .mv [.const (.string ⟨#[]⟩)],none⟩])
 (.seq (.seq (.reg [
 iM 3 0,iO 4 .gtr 3 (-10),iM 5 4,jM 6 0 5 true,
 jO 7 .lss 6 0 5 true,
 iP 8 5 7])
 (.cond (.tmp 8)
 (.seq (.reg [
 iM 9 0,⟨some 10,.v (.ib .sub) [.const (.int .i64 48),.tmp 9],none⟩,⟨some 11,.v (.cv .u8) [.tmp 10],none⟩,⟨some 12,.lbs 5 1 [(.int .u8 0)] 1 [(0,.tmp 11)],none⟩,⟨some 13,.b2s (.tmp 12),none⟩,⟨some 14,.v (.sb .add) [.const (.string ⟨#[45]⟩),.tmp 13],none⟩,iM 2 14])
 .ret)
 .skip))
 (.seq (.seq (.reg [
 iM 15 0,iO 16 .lss 15 0])
 (.cond (.tmp 16)
 (.seq (.dreg [
 iM 17 0,iO 18 .quo 17 10,iX 19 148 18,iM 20 0,iO 21 .rem 20 10,⟨some 22,.v (.ib .sub) [.const (.int .i64 48),.tmp 21],none⟩,⟨some 23,.v (.cv .u8) [.tmp 22],none⟩,⟨some 24,.lbs 5 1 [(.int .u8 0)] 1 [(0,.tmp 23)],none⟩,⟨some 25,.b2s (.tmp 24),none⟩,⟨some 26,.v (.sb .add) [.tmp 19,.tmp 25],none⟩,iM 2 26] [fA,fA,fB,fA,fA,fA,fA,⟨26,false,false⟩,fB,fC,fC])
 .ret)
 .skip))
 (.seq (.seq (.reg [
 iM 27 0,iO 28 .lss 27 10])
 (.cond (.tmp 28)
 (.seq (.reg [
 iM 29 0,⟨some 30,.v (.ib .add) [.const (.int .i64 48),.tmp 29],none⟩,⟨some 31,.v (.cv .u8) [.tmp 30],none⟩,⟨some 32,.lbs 5 1 [(.int .u8 0)] 1 [(0,.tmp 31)],none⟩,⟨some 33,.b2s (.tmp 32),none⟩,iM 2 33])
 .ret)
 .skip))
 (.seq (.dreg [
 iM 34 0,iO 35 .quo 34 10,iX 36 148 35,iM 37 0,iO 38 .rem 37 10,⟨some 39,.v (.ib .add) [.const (.int .i64 48),.tmp 38],none⟩,⟨some 40,.v (.cv .u8) [.tmp 39],none⟩,⟨some 41,.lbs 5 1 [(.int .u8 0)] 1 [(0,.tmp 40)],none⟩,⟨some 42,.b2s (.tmp 41),none⟩,⟨some 43,.v (.sb .add) [.tmp 36,.tmp 42],none⟩,iM 2 43] [fA,fA,fB,fA,fA,fA,fA,⟨43,false,false⟩,fB,fC,fC])
 .ret)))))
def p148:PFunc:=⟨44,[(2,none)],none,b148⟩
def q150x0:PCode :=
 (.seq (.reg [
 iT 9 .lss 8 7])
 (.seq (.cond (.tmp 9)
 .skip
 (.exit 0))
 (.seq (.blk 1
 (.seq (.reg [
 iM 10 8,iM 5 10])
 (.seq (.reg [
 iM 11 1,iM 12 0,iM 13 5,iA 14 2 12 13,iN 15 2 14,⟨some 16,.call (.tmp 11) [.tmp 15],none⟩])
 (.cond (.tmp 16)
 (.seq (.reg [
 iM 17 5,iM 4 17])
 .ret)
 .skip))))
 (.reg [
 iO 18 .add 8 1,iM 8 18]))))
def b150:PCode :=
 (.seq (.reg [
 iI 4 0])
 (.seq (.seq (.reg [
 iM 6 0,iK 7 6,iI 8 0])
 (.blk 0
 (.loop q150x0)))
 (.seq (.reg [
 iI 4 (-1)])
 .ret)))
def p150:PFunc:=⟨19,[(4,none)],none,b150⟩
def q151x0:PCode :=
 (.seq (.reg [
 iT 9 .lss 8 7])
 (.seq (.cond (.tmp 9)
 .skip
 (.exit 0))
 (.seq (.blk 1
 (.seq (.reg [
 iM 10 8,iM 5 10])
 (.seq (.reg [
 iM 11 1,iM 12 0,iM 13 5,iA 14 2 12 13,iN 15 2 14,⟨some 16,.call (.tmp 11) [.tmp 15],none⟩])
 (.cond (.tmp 16)
 (.seq (.reg [
 iM 17 5,iM 4 17])
 .ret)
 .skip))))
 (.reg [
 iO 18 .add 8 1,iM 8 18]))))
def b151:PCode :=
 (.seq (.reg [
 iI 4 0])
 (.seq (.seq (.reg [
 iM 6 0,iK 7 6,iI 8 0])
 (.blk 0
 (.loop q151x0)))
 (.seq (.reg [
 iI 4 (-1)])
 .ret)))
def p151:PFunc:=⟨19,[(4,none)],none,b151⟩
def q152x0:PCode :=
 (.seq (.reg [
 iT 9 .lss 8 7])
 (.seq (.cond (.tmp 9)
 .skip
 (.exit 0))
 (.seq (.blk 1
 (.seq (.reg [
 iM 10 8,iM 5 10])
 (.seq (.reg [
 iM 11 1,iM 12 0,iM 13 5,iA 14 1 12 13,iL 15 14,⟨some 16,.call (.tmp 11) [.tmp 15],none⟩])
 (.cond (.tmp 16)
 (.seq (.reg [
 iM 17 5,iM 4 17])
 .ret)
 .skip))))
 (.reg [
 iO 18 .add 8 1,iM 8 18]))))
def b152:PCode :=
 (.seq (.reg [
 iI 4 0])
 (.seq (.seq (.reg [
 iM 6 0,iK 7 6,iI 8 0])
 (.blk 0
 (.loop q152x0)))
 (.seq (.reg [
 iI 4 (-1)])
 .ret)))
def p152:PFunc:=⟨19,[(4,none)],none,b152⟩
def q153x0:PCode :=
 (.seq (.reg [
 iT 9 .lss 8 7])
 (.seq (.cond (.tmp 9)
 .skip
 (.exit 0))
 (.seq (.blk 1
 (.seq (.reg [
 iM 10 8,iM 5 10])
 (.seq (.reg [
 iM 11 1,iM 12 0,iM 13 5,iA 14 1 12 13,iL 15 14,iT 16 .eql 11 15])
 (.cond (.tmp 16)
 (.seq (.reg [
 iM 17 5,iM 4 17])
 .ret)
 .skip))))
 (.reg [
 iO 18 .add 8 1,iM 8 18]))))
def b153:PCode :=
 (.seq (.reg [
 iI 4 0])
 (.seq (.seq (.reg [
 iM 6 0,iK 7 6,iI 8 0])
 (.blk 0
 (.loop q153x0)))
 (.seq (.reg [
 iI 4 (-1)])
 .ret)))
def p153:PFunc:=⟨19,[(4,none)],none,b153⟩
def b154:PCode :=
 (.seq (.reg [
 ⟨some 2,.box 56 (.tmp 0),none⟩,iH 4])
 (.seq (.seq (.reg [
 iM 6 1])
 (.blk 0
 (.rf (.tmp 6) [7]
 (.reg [
 iM 5 7])
 (.blk 1
 (.reg [
 iL 8 2,iM 9 5,⟨some 10,.lbs 23 1 [(.slice none 0 0)] 1 [(0,.tmp 9)],none⟩,⟨some 11,.app 23 1 (.tmp 8) (.tmp 10),none⟩,iS 1 2 11])))))
 (.seq (.reg [
 iL 12 2,iM 4 12])
 .ret)))
def p154:PFunc:=⟨13,[(4,none)],none,b154⟩
def b155:PCode :=
 (.reg [
 iN 3 5 0,iL 4 1,iL 5 2,iF 6 0 0,iF 7 0 6,iL 8 7,iK 9 8,⟨some 10,.call (.func 128) [.tmp 3,.tmp 4,.tmp 5,.tmp 9,.const (.bool false)],none⟩])
def p155:PFunc:=⟨11,[],none,b155⟩
def b156:PCode :=
 (.reg [
 iN 4 5 0,iL 5 1,iL 6 2,iL 7 3,⟨some 8,.call (.func 128) [.tmp 4,.tmp 5,.tmp 6,.tmp 7,.const (.bool true)],none⟩])
def p156:PFunc:=⟨9,[],none,b156⟩
def q159x0:PCode :=
 (.seq (.seq (.reg [
 iM 34 10,iM 35 3,iT 36 .lss 34 35])
 (.cond (.tmp 36)
 .skip
 (.exit 0)))
 (.blk 1
 (.seq (.reg [
 iM 37 0,iM 38 1,iY 39 166 37 38,iM 11 39])
 (.seq (.seq (.reg [
 iM 40 11,iO 41 .lss 40 0])
 (.cond (.tmp 41)
 (.exit 0)
 .skip))
 (.seq (.reg [
 iM 42 9,iM 43 10,iM 44 0,iM 45 11,iM 46 2,iT 47 .add 45 46,⟨some 48,.v (.sls false true) [.tmp 44,.tmp 47],none⟩,iA 49 1 42 43,iS 1 49 48])
 (.seq (.reg [
 iM 50 0,iM 51 11,iM 52 1,⟨some 53,.v .slen [.tmp 52],none⟩,iT 54 .add 51 53,⟨some 55,.v (.sls true false) [.tmp 50,.tmp 54],none⟩,iM 0 55])
 (.reg [
 iM 56 10,iO 57 .add 56 1,iM 10 57])))))))
def b159:PCode :=
 (.seq (.reg [
 iH 8])
 (.seq (.seq (.reg [
 iM 12 3,iO 13 .eql 12 0])
 (.cond (.tmp 13)
 (.seq (.reg [
 iH 8])
 .ret)
 .skip))
 (.seq (.seq (.reg [
 iM 14 1,⟨some 15,.v (.sb .eql) [.tmp 14,.const (.string ⟨#[]⟩)],none⟩])
 (.cond (.tmp 15)
 (.seq (.reg [
 iM 16 0,iM 17 3,iY 18 164 16 17,iM 8 18])
 .ret)
 .skip))
 (.seq (.seq (.reg [
 iM 19 3,iO 20 .lss 19 0])
 (.cond (.tmp 20)
 (.reg [
 iM 21 0,iM 22 1,iY 23 165 21 22,iO 24 .add 23 1,iM 3 24])
 .skip))
 (.seq (.reg [
 iM 25 3,iM 26 0,⟨some 27,.v .slen [.tmp 26],none⟩,iO 28 .add 27 1,⟨some 29,.v .mn [.tmp 25,.tmp 28],none⟩,iM 3 29])
 (.seq (.reg [
 iM 30 3,⟨some 31,.mks 9 1 [(.string ⟨#[]⟩)] 16 (.tmp 30) (.tmp 30),none⟩,iM 9 31])
 (.seq (.reg [
 iM 32 3,iO 33 .sub 32 1,iM 3 33])
 (.seq (.reg [
 iI 10 0])
 (.seq (.blk 0
 (.loop q159x0))
 (.seq (.reg [
 iM 58 9,iM 59 10,iM 60 0,iA 61 1 58 59,iS 1 61 60])
 (.seq (.reg [
 iM 62 9,iM 63 10,iO 64 .add 63 1,⟨some 65,.v (.sl 1 false true) [.tmp 62,.tmp 64],none⟩,iM 8 65])
 .ret)))))))))))
def p159:PFunc:=⟨66,[(8,none)],none,b159⟩
def q164x0:PCode :=
 (.seq (.seq (.reg [
 iM 22 7,iM 23 1,iO 24 .sub 23 1,iT 25 .lss 22 24])
 (.cond (.tmp 25)
 .skip
 (.exit 0)))
 (.seq (.blk 1
 (.seq (.reg [
 iM 29 0,iX 30 174 29,iM 28 30,iE 31 0 28,iE 32 1 28,iM 8 31,iM 9 32])
 (.seq (.reg [
 iM 33 6,iM 34 7,iM 35 0,iM 36 9,⟨some 37,.v (.sls false true) [.tmp 35,.tmp 36],none⟩,iA 38 1 33 34,iS 1 38 37])
 (.reg [
 iM 39 0,iM 40 9,⟨some 41,.v (.sls true false) [.tmp 39,.tmp 40],none⟩,iM 0 41]))))
 (.reg [
 iM 26 7,iO 27 .add 26 1,iM 7 27])))
def b164:PCode :=
 (.seq (.reg [
 iH 4])
 (.seq (.reg [
 iM 10 0,iX 11 173 10,iM 5 11])
 (.seq (.seq (.reg [
 iM 12 1,iO 13 .lss 12 0,iM 14 13,jM 15 1 14 false,
 jM 16 5 14 false,
 jT 17 .gtr 15 16 14 false,
 iQ 18 14 17])
 (.cond (.tmp 18)
 (.reg [
 iM 19 5,iM 1 19])
 .skip))
 (.seq (.reg [
 iM 20 1,⟨some 21,.mks 9 1 [(.string ⟨#[]⟩)] 16 (.tmp 20) (.tmp 20),none⟩,iM 6 21])
 (.seq (.seq (.reg [
 iI 7 0])
 (.blk 0
 (.loop q164x0)))
 (.seq (.seq (.reg [
 iM 42 1,iO 43 .gtr 42 0])
 (.cond (.tmp 43)
 (.reg [
 iM 44 6,iM 45 1,iO 46 .sub 45 1,iM 47 0,iA 48 1 44 46,iS 1 48 47])
 .skip))
 (.seq (.reg [
 iM 49 6,iM 4 49])
 .ret)))))))
def p164:PFunc:=⟨50,[(4,none)],none,b164⟩
def q173x0:PCode :=
 (.seq (.reg [
 ⟨some 5,.nxt (.tmp 4),none⟩,iE 6 0 5])
 (.seq (.cond (.tmp 6)
 .skip
 (.exit 0))
 (.blk 1
 (.reg [
 iM 7 2,iO 8 .add 7 1,iM 2 8]))))
def b173:PCode :=
 (.seq (.reg [
 iI 2 0])
 (.seq (.seq (.reg [
 iM 3 0,⟨some 4,.rng (.tmp 3),none⟩])
 (.blk 0
 (.loop q173x0)))
 (.seq (.reg [
 iM 9 2,iM 2 9])
 .ret)))
def p173:PFunc:=⟨10,[(2,none)],none,b173⟩
def b174:PCode :=
 (.seq (.reg [
 ⟨some 2,.v .mv [.const (.int .i32 0)],none⟩,iI 3 0])
 (.seq (.seq (.reg [
 iM 4 0,⟨some 5,.v (.sb .neq) [.tmp 4,.const (.string ⟨#[]⟩)],none⟩,iM 6 5,jM 7 0 6 true,
 ⟨some 8,.v .ix [.tmp 7,.const (.int .i64 0)],some (6,true)⟩,
 ⟨some 9,.v (.ib .lss) [.tmp 8,.const (.int .u8 128)],some (6,true)⟩,
 iP 10 6 9])
 (.cond (.tmp 10)
 (.seq (.reg [
 iM 11 0,⟨some 12,.v .ix [.tmp 11,.const (.int .i64 0)],none⟩,⟨some 13,.v (.cv .i32) [.tmp 12],none⟩,iM 2 13,iI 3 1])
 .ret)
 (.reg [
 iM 15 0,iX 16 184 15,iM 14 16,iE 17 0 14,iE 18 1 14,iM 2 17,iM 3 18])))
 .ret))
def p174:PFunc:=⟨19,[(2,none),(3,none)],none,b174⟩
def PP (f:FuncId):Option PFunc:=if Nat.blt f 83=true then (if Nat.blt f 44=true then (if Nat.blt f 25=true then (if Nat.blt f 13=true then (if Nat.blt f 9=true then (if Nat.blt f 7=true then (if Nat.blt f 4=true then (if f=3 then some p3 else none) else (if f=4 then some p4 else none)) else (if Nat.blt f 8=true then (if f=7 then some p7 else none) else (if f=8 then some p8 else none))) else (if Nat.blt f 11=true then (if Nat.blt f 10=true then (if f=9 then some p9 else none) else (if f=10 then some p10 else none)) else (if Nat.blt f 12=true then (if f=11 then some p11 else none) else (if f=12 then some p12 else none)))) else (if Nat.blt f 17=true then (if Nat.blt f 15=true then (if Nat.blt f 14=true then (if f=13 then some p13 else none) else (if f=14 then some p14 else none)) else (if Nat.blt f 16=true then (if f=15 then some p15 else none) else (if f=16 then some p16 else none))) else (if Nat.blt f 22=true then (if Nat.blt f 18=true then (if f=17 then some p17 else none) else (if f=18 then some p18 else none)) else (if Nat.blt f 23=true then (if f=22 then some p22 else none) else (if Nat.blt f 24=true then (if f=23 then some p23 else none) else (if f=24 then some p24 else none)))))) else (if Nat.blt f 35=true then (if Nat.blt f 29=true then (if Nat.blt f 27=true then (if Nat.blt f 26=true then (if f=25 then some p25 else none) else (if f=26 then some p26 else none)) else (if Nat.blt f 28=true then (if f=27 then some p27 else none) else (if f=28 then some p28 else none))) else (if Nat.blt f 31=true then (if Nat.blt f 30=true then (if f=29 then some p29 else none) else (if f=30 then some p30 else none)) else (if Nat.blt f 32=true then (if f=31 then some p31 else none) else (if Nat.blt f 33=true then (if f=32 then some p32 else none) else (if f=33 then some p33 else none))))) else (if Nat.blt f 39=true then (if Nat.blt f 37=true then (if Nat.blt f 36=true then (if f=35 then some p35 else none) else (if f=36 then some p36 else none)) else (if Nat.blt f 38=true then (if f=37 then some p37 else none) else (if f=38 then some p38 else none))) else (if Nat.blt f 41=true then (if Nat.blt f 40=true then (if f=39 then some p39 else none) else (if f=40 then some p40 else none)) else (if Nat.blt f 42=true then (if f=41 then some p41 else none) else (if Nat.blt f 43=true then (if f=42 then some p42 else none) else (if f=43 then some p43 else none))))))) else (if Nat.blt f 62=true then (if Nat.blt f 53=true then (if Nat.blt f 48=true then (if Nat.blt f 46=true then (if Nat.blt f 45=true then (if f=44 then some p44 else none) else (if f=45 then some p45 else none)) else (if Nat.blt f 47=true then (if f=46 then some p46 else none) else (if f=47 then some p47 else none))) else (if Nat.blt f 50=true then (if Nat.blt f 49=true then (if f=48 then some p48 else none) else (if f=49 then some p49 else none)) else (if Nat.blt f 51=true then (if f=50 then some p50 else none) else (if Nat.blt f 52=true then (if f=51 then some p51 else none) else (if f=52 then some p52 else none))))) else (if Nat.blt f 57=true then (if Nat.blt f 55=true then (if Nat.blt f 54=true then (if f=53 then some p53 else none) else (if f=54 then some p54 else none)) else (if Nat.blt f 56=true then (if f=55 then some p55 else none) else (if f=56 then some p56 else none))) else (if Nat.blt f 59=true then (if Nat.blt f 58=true then (if f=57 then some p57 else none) else (if f=58 then some p58 else none)) else (if Nat.blt f 60=true then (if f=59 then some p59 else none) else (if Nat.blt f 61=true then (if f=60 then some p60 else none) else (if f=61 then some p61 else none)))))) else (if Nat.blt f 74=true then (if Nat.blt f 66=true then (if Nat.blt f 64=true then (if Nat.blt f 63=true then (if f=62 then some p62 else none) else (if f=63 then some p63 else none)) else (if Nat.blt f 65=true then (if f=64 then some p64 else none) else (if f=65 then some p65 else none))) else (if Nat.blt f 69=true then (if Nat.blt f 68=true then (if f=66 then some p66 else none) else (if f=68 then some p68 else none)) else (if Nat.blt f 72=true then (if f=69 then some p69 else none) else (if Nat.blt f 73=true then (if f=72 then some p72 else none) else (if f=73 then some p73 else none))))) else (if Nat.blt f 78=true then (if Nat.blt f 76=true then (if Nat.blt f 75=true then (if f=74 then some p74 else none) else (if f=75 then some p75 else none)) else (if Nat.blt f 77=true then (if f=76 then some p76 else none) else (if f=77 then some p77 else none))) else (if Nat.blt f 80=true then (if Nat.blt f 79=true then (if f=78 then some p78 else none) else (if f=79 then some p79 else none)) else (if Nat.blt f 81=true then (if f=80 then some p80 else none) else (if Nat.blt f 82=true then (if f=81 then some p81 else none) else (if f=82 then some p82 else none)))))))) else (if Nat.blt f 122=true then (if Nat.blt f 102=true then (if Nat.blt f 93=true then (if Nat.blt f 87=true then (if Nat.blt f 85=true then (if Nat.blt f 84=true then (if f=83 then some p83 else none) else (if f=84 then some p84 else none)) else (if Nat.blt f 86=true then (if f=85 then some p85 else none) else (if f=86 then some p86 else none))) else (if Nat.blt f 90=true then (if Nat.blt f 89=true then (if f=87 then some p87 else none) else (if f=89 then some p89 else none)) else (if Nat.blt f 91=true then (if f=90 then some p90 else none) else (if Nat.blt f 92=true then (if f=91 then some p91 else none) else (if f=92 then some p92 else none))))) else (if Nat.blt f 97=true then (if Nat.blt f 95=true then (if Nat.blt f 94=true then (if f=93 then some p93 else none) else (if f=94 then some p94 else none)) else (if Nat.blt f 96=true then (if f=95 then some p95 else none) else (if f=96 then some p96 else none))) else (if Nat.blt f 99=true then (if Nat.blt f 98=true then (if f=97 then some p97 else none) else (if f=98 then some p98 else none)) else (if Nat.blt f 100=true then (if f=99 then some p99 else none) else (if Nat.blt f 101=true then (if f=100 then some p100 else none) else (if f=101 then some p101 else none)))))) else (if Nat.blt f 111=true then (if Nat.blt f 106=true then (if Nat.blt f 104=true then (if Nat.blt f 103=true then (if f=102 then some p102 else none) else (if f=103 then some p103 else none)) else (if Nat.blt f 105=true then (if f=104 then some p104 else none) else (if f=105 then some p105 else none))) else (if Nat.blt f 108=true then (if Nat.blt f 107=true then (if f=106 then some p106 else none) else (if f=107 then some p107 else none)) else (if Nat.blt f 109=true then (if f=108 then some p108 else none) else (if Nat.blt f 110=true then (if f=109 then some p109 else none) else (if f=110 then some p110 else none))))) else (if Nat.blt f 117=true then (if Nat.blt f 113=true then (if Nat.blt f 112=true then (if f=111 then some p111 else none) else (if f=112 then some p112 else none)) else (if Nat.blt f 116=true then (if f=113 then some p113 else none) else (if f=116 then some p116 else none))) else (if Nat.blt f 119=true then (if Nat.blt f 118=true then (if f=117 then some p117 else none) else (if f=118 then some p118 else none)) else (if Nat.blt f 120=true then (if f=119 then some p119 else none) else (if Nat.blt f 121=true then (if f=120 then some p120 else none) else (if f=121 then some p121 else none))))))) else (if Nat.blt f 142=true then (if Nat.blt f 131=true then (if Nat.blt f 126=true then (if Nat.blt f 124=true then (if Nat.blt f 123=true then (if f=122 then some p122 else none) else (if f=123 then some p123 else none)) else (if Nat.blt f 125=true then (if f=124 then some p124 else none) else (if f=125 then some p125 else none))) else (if Nat.blt f 128=true then (if Nat.blt f 127=true then (if f=126 then some p126 else none) else (if f=127 then some p127 else none)) else (if Nat.blt f 129=true then (if f=128 then some p128 else none) else (if Nat.blt f 130=true then (if f=129 then some p129 else none) else (if f=130 then some p130 else none))))) else (if Nat.blt f 135=true then (if Nat.blt f 133=true then (if Nat.blt f 132=true then (if f=131 then some p131 else none) else (if f=132 then some p132 else none)) else (if Nat.blt f 134=true then (if f=133 then some p133 else none) else (if f=134 then some p134 else none))) else (if Nat.blt f 137=true then (if Nat.blt f 136=true then (if f=135 then some p135 else none) else (if f=136 then some p136 else none)) else (if Nat.blt f 138=true then (if f=137 then some p137 else none) else (if Nat.blt f 139=true then (if f=138 then some p138 else none) else (if f=139 then some p139 else none)))))) else (if Nat.blt f 152=true then (if Nat.blt f 146=true then (if Nat.blt f 144=true then (if Nat.blt f 143=true then (if f=142 then some p142 else none) else (if f=143 then some p143 else none)) else (if Nat.blt f 145=true then (if f=144 then some p144 else none) else (if f=145 then some p145 else none))) else (if Nat.blt f 148=true then (if Nat.blt f 147=true then (if f=146 then some p146 else none) else (if f=147 then some p147 else none)) else (if Nat.blt f 150=true then (if f=148 then some p148 else none) else (if Nat.blt f 151=true then (if f=150 then some p150 else none) else (if f=151 then some p151 else none))))) else (if Nat.blt f 156=true then (if Nat.blt f 154=true then (if Nat.blt f 153=true then (if f=152 then some p152 else none) else (if f=153 then some p153 else none)) else (if Nat.blt f 155=true then (if f=154 then some p154 else none) else (if f=155 then some p155 else none))) else (if Nat.blt f 164=true then (if Nat.blt f 159=true then (if f=156 then some p156 else none) else (if f=159 then some p159 else none)) else (if Nat.blt f 173=true then (if f=164 then some p164 else none) else (if Nat.blt f 174=true then (if f=173 then some p173 else none) else (if f=174 then some p174 else none))))))))
theorem P3:PP 3=some p3:=rfl
theorem B3:p3.body=b3:=rfl
theorem N3:p3.n=67:=rfl
theorem R3:p3.res=[(6,none)]:=rfl
theorem P4:PP 4=some p4:=rfl
theorem B4:p4.body=b4:=rfl
theorem N4:p4.n=115:=rfl
theorem R4:p4.res=[(6,none)]:=rfl
theorem P11:PP 11=some p11:=rfl
theorem B11:p11.body=b11:=rfl
theorem N11:p11.n=50:=rfl
theorem R11:p11.res=[(2,none)]:=rfl
theorem P12:PP 12=some p12:=rfl
theorem B12:p12.body=b12:=rfl
theorem N12:p12.n=85:=rfl
theorem R12:p12.res=[(4,none)]:=rfl
theorem P13:PP 13=some p13:=rfl
theorem B13:p13.body=b13:=rfl
theorem N13:p13.n=50:=rfl
theorem R13:p13.res=[(2,none)]:=rfl
theorem P14:PP 14=some p14:=rfl
theorem B14:p14.body=b14:=rfl
theorem N14:p14.n=92:=rfl
theorem R14:p14.res=[(4,none)]:=rfl
theorem P15:PP 15=some p15:=rfl
theorem B15:p15.body=b15:=rfl
theorem N15:p15.n=98:=rfl
theorem R15:p15.res=[(6,none)]:=rfl
theorem P16:PP 16=some p16:=rfl
theorem B16:p16.body=b16:=rfl
theorem N16:p16.n=151:=rfl
theorem R16:p16.res=[(8,none)]:=rfl
theorem P17:PP 17=some p17:=rfl
theorem B17:p17.body=b17:=rfl
theorem N17:p17.n=218:=rfl
theorem R17:p17.res=[(14,none)]:=rfl
theorem P22:PP 22=some p22:=rfl
theorem B22:p22.body=b22:=rfl
theorem N22:p22.n=19:=rfl
theorem R22:p22.res=[(2,none)]:=rfl
theorem P23:PP 23=some p23:=rfl
theorem B23:p23.body=b23:=rfl
theorem N23:p23.n=214:=rfl
theorem R23:p23.res=[(0,none)]:=rfl
theorem P24:PP 24=some p24:=rfl
theorem B24:p24.body=b24:=rfl
theorem N24:p24.n=72:=rfl
theorem R24:p24.res=[(6,none),(7,none)]:=rfl
theorem P25:PP 25=some p25:=rfl
theorem B25:p25.body=b25:=rfl
theorem N25:p25.n=86:=rfl
theorem R25:p25.res=[(2,none)]:=rfl
theorem P26:PP 26=some p26:=rfl
theorem B26:p26.body=b26:=rfl
theorem N26:p26.n=31:=rfl
theorem R26:p26.res=[(4,none)]:=rfl
theorem P27:PP 27=some p27:=rfl
theorem B27:p27.body=b27:=rfl
theorem N27:p27.n=36:=rfl
theorem R27:p27.res=[(4,none)]:=rfl
theorem P28:PP 28=some p28:=rfl
theorem B28:p28.body=b28:=rfl
theorem N28:p28.n=26:=rfl
theorem R28:p28.res=[(6,none)]:=rfl
theorem P29:PP 29=some p29:=rfl
theorem B29:p29.body=b29:=rfl
theorem N29:p29.n=21:=rfl
theorem R29:p29.res=[(4,none)]:=rfl
theorem P30:PP 30=some p30:=rfl
theorem B30:p30.body=b30:=rfl
theorem N30:p30.n=75:=rfl
theorem R30:p30.res=[(4,none),(5,none)]:=rfl
theorem P31:PP 31=some p31:=rfl
theorem B31:p31.body=b31:=rfl
theorem N31:p31.n=77:=rfl
theorem R31:p31.res=[(4,none),(5,none)]:=rfl
theorem P33:PP 33=some p33:=rfl
theorem B33:p33.body=b33:=rfl
theorem N33:p33.n=28:=rfl
theorem R33:p33.res=[(4,none),(5,none),(6,none)]:=rfl
theorem P35:PP 35=some p35:=rfl
theorem B35:p35.body=b35:=rfl
theorem N35:p35.n=26:=rfl
theorem R35:p35.res=[(4,none)]:=rfl
theorem P36:PP 36=some p36:=rfl
theorem B36:p36.body=b36:=rfl
theorem N36:p36.n=11:=rfl
theorem R36:p36.res=[(4,none)]:=rfl
theorem P37:PP 37=some p37:=rfl
theorem B37:p37.body=b37:=rfl
theorem N37:p37.n=38:=rfl
theorem R37:p37.res=[(6,none)]:=rfl
theorem P38:PP 38=some p38:=rfl
theorem B38:p38.body=b38:=rfl
theorem N38:p38.n=22:=rfl
theorem R38:p38.res=[(2,none)]:=rfl
theorem P39:PP 39=some p39:=rfl
theorem B39:p39.body=b39:=rfl
theorem N39:p39.n=22:=rfl
theorem R39:p39.res=[(2,none)]:=rfl
theorem P40:PP 40=some p40:=rfl
theorem B40:p40.body=b40:=rfl
theorem N40:p40.n=41:=rfl
theorem R40:p40.res=[(4,none)]:=rfl
theorem P41:PP 41=some p41:=rfl
theorem B41:p41.body=b41:=rfl
theorem N41:p41.n=17:=rfl
theorem R41:p41.res=[(2,none),(3,none)]:=rfl
theorem P42:PP 42=some p42:=rfl
theorem B42:p42.body=b42:=rfl
theorem N42:p42.n=14:=rfl
theorem R42:p42.res=[(2,none),(3,none)]:=rfl
theorem P43:PP 43=some p43:=rfl
theorem B43:p43.body=b43:=rfl
theorem N43:p43.n=28:=rfl
theorem R43:p43.res=[(2,none)]:=rfl
theorem P44:PP 44=some p44:=rfl
theorem B44:p44.body=b44:=rfl
theorem N44:p44.n=30:=rfl
theorem R44:p44.res=[(4,none),(5,none)]:=rfl
theorem P47:PP 47=some p47:=rfl
theorem B47:p47.body=b47:=rfl
theorem N47:p47.n=17:=rfl
theorem R47:p47.res=[(2,none),(3,none)]:=rfl
theorem P51:PP 51=some p51:=rfl
theorem B51:p51.body=b51:=rfl
theorem N51:p51.n=18:=rfl
theorem R51:p51.res=[(4,none)]:=rfl
theorem P52:PP 52=some p52:=rfl
theorem B52:p52.body=b52:=rfl
theorem N52:p52.n=27:=rfl
theorem R52:p52.res=[(2,none),(3,none)]:=rfl
theorem P53:PP 53=some p53:=rfl
theorem B53:p53.body=b53:=rfl
theorem N53:p53.n=18:=rfl
theorem R53:p53.res=[(2,none)]:=rfl
theorem P54:PP 54=some p54:=rfl
theorem B54:p54.body=b54:=rfl
theorem N54:p54.n=19:=rfl
theorem R54:p54.res=[(2,none),(3,none)]:=rfl
theorem P55:PP 55=some p55:=rfl
theorem B55:p55.body=b55:=rfl
theorem N55:p55.n=13:=rfl
theorem R55:p55.res=[(4,some (some 3))]:=rfl
theorem P56:PP 56=some p56:=rfl
theorem B56:p56.body=b56:=rfl
theorem N56:p56.n=13:=rfl
theorem R56:p56.res=[(2,none),(3,none)]:=rfl
theorem P57:PP 57=some p57:=rfl
theorem B57:p57.body=b57:=rfl
theorem N57:p57.n=34:=rfl
theorem R57:p57.res=[(2,none)]:=rfl
theorem P58:PP 58=some p58:=rfl
theorem B58:p58.body=b58:=rfl
theorem N58:p58.n=35:=rfl
theorem R58:p58.res=[(4,some (some 3))]:=rfl
theorem P59:PP 59=some p59:=rfl
theorem B59:p59.body=b59:=rfl
theorem N59:p59.n=83:=rfl
theorem R59:p59.res=[(6,none),(7,none),(8,none)]:=rfl
theorem P60:PP 60=some p60:=rfl
theorem B60:p60.body=b60:=rfl
theorem N60:p60.n=11:=rfl
theorem R60:p60.res=[(4,none)]:=rfl
theorem P61:PP 61=some p61:=rfl
theorem B61:p61.body=b61:=rfl
theorem N61:p61.n=53:=rfl
theorem R61:p61.res=[(6,none),(7,none),(8,none)]:=rfl
theorem P62:PP 62=some p62:=rfl
theorem B62:p62.body=b62:=rfl
theorem N62:p62.n=47:=rfl
theorem R62:p62.res=[(6,none)]:=rfl
theorem P63:PP 63=some p63:=rfl
theorem B63:p63.body=b63:=rfl
theorem N63:p63.n=25:=rfl
theorem R63:p63.res=[(4,none)]:=rfl
theorem P64:PP 64=some p64:=rfl
theorem B64:p64.body=b64:=rfl
theorem N64:p64.n=54:=rfl
theorem R64:p64.res=[(4,none)]:=rfl
theorem P75:PP 75=some p75:=rfl
theorem B75:p75.body=b75:=rfl
theorem N75:p75.n=41:=rfl
theorem R75:p75.res=[(2,none)]:=rfl
theorem P76:PP 76=some p76:=rfl
theorem B76:p76.body=b76:=rfl
theorem N76:p76.n=21:=rfl
theorem R76:p76.res=[(4,none)]:=rfl
theorem P77:PP 77=some p77:=rfl
theorem B77:p77.body=b77:=rfl
theorem N77:p77.n=42:=rfl
theorem R77:p77.res=[(4,none)]:=rfl
theorem P78:PP 78=some p78:=rfl
theorem B78:p78.body=b78:=rfl
theorem N78:p78.n=46:=rfl
theorem R78:p78.res=[(2,some (some 5))]:=rfl
theorem P79:PP 79=some p79:=rfl
theorem B79:p79.body=b79:=rfl
theorem N79:p79.n=22:=rfl
theorem R79:p79.res=[(6,none),(7,none)]:=rfl
theorem P80:PP 80=some p80:=rfl
theorem B80:p80.body=b80:=rfl
theorem N80:p80.n=17:=rfl
theorem R80:p80.res=[(2,none)]:=rfl
theorem P81:PP 81=some p81:=rfl
theorem B81:p81.body=b81:=rfl
theorem N81:p81.n=15:=rfl
theorem R81:p81.res=[(6,none)]:=rfl
theorem P82:PP 82=some p82:=rfl
theorem B82:p82.body=b82:=rfl
theorem N82:p82.n=35:=rfl
theorem R82:p82.res=[(4,none)]:=rfl
theorem P83:PP 83=some p83:=rfl
theorem B83:p83.body=b83:=rfl
theorem N83:p83.n=20:=rfl
theorem R83:p83.res=[(8,none)]:=rfl
theorem P84:PP 84=some p84:=rfl
theorem B84:p84.body=b84:=rfl
theorem N84:p84.n=27:=rfl
theorem R84:p84.res=[(8,none)]:=rfl
theorem P85:PP 85=some p85:=rfl
theorem B85:p85.body=b85:=rfl
theorem N85:p85.n=10:=rfl
theorem R85:p85.res=[(4,some (some 2)),(5,none)]:=rfl
theorem P86:PP 86=some p86:=rfl
theorem B86:p86.body=b86:=rfl
theorem N86:p86.n=24:=rfl
theorem R86:p86.res=[(6,some (some 2))]:=rfl
theorem P87:PP 87=some p87:=rfl
theorem B87:p87.body=b87:=rfl
theorem N87:p87.n=8:=rfl
theorem R87:p87.res=[(2,none)]:=rfl
theorem P89:PP 89=some p89:=rfl
theorem B89:p89.body=b89:=rfl
theorem N89:p89.n=19:=rfl
theorem R89:p89.res=[(4,none),(5,none)]:=rfl
theorem P90:PP 90=some p90:=rfl
theorem B90:p90.body=b90:=rfl
theorem N90:p90.n=53:=rfl
theorem R90:p90.res=[(4,none)]:=rfl
theorem P91:PP 91=some p91:=rfl
theorem B91:p91.body=b91:=rfl
theorem N91:p91.n=17:=rfl
theorem R91:p91.res=[(4,none)]:=rfl
theorem P95:PP 95=some p95:=rfl
theorem B95:p95.body=b95:=rfl
theorem N95:p95.n=25:=rfl
theorem R95:p95.res=[(4,none)]:=rfl
theorem P97:PP 97=some p97:=rfl
theorem B97:p97.body=b97:=rfl
theorem N97:p97.n=13:=rfl
theorem R97:p97.res=[(2,none)]:=rfl
theorem P98:PP 98=some p98:=rfl
theorem B98:p98.body=b98:=rfl
theorem N98:p98.n=10:=rfl
theorem R98:p98.res=[(4,none)]:=rfl
theorem P99:PP 99=some p99:=rfl
theorem B99:p99.body=b99:=rfl
theorem N99:p99.n=12:=rfl
theorem R99:p99.res=[(2,none)]:=rfl
theorem P100:PP 100=some p100:=rfl
theorem B100:p100.body=b100:=rfl
theorem N100:p100.n=26:=rfl
theorem R100:p100.res=[(4,none)]:=rfl
theorem P101:PP 101=some p101:=rfl
theorem B101:p101.body=b101:=rfl
theorem N101:p101.n=8:=rfl
theorem R101:p101.res=[(3,none)]:=rfl
theorem P102:PP 102=some p102:=rfl
theorem B102:p102.body=b102:=rfl
theorem N102:p102.n=28:=rfl
theorem R102:p102.res=[(4,some (some 3))]:=rfl
theorem P103:PP 103=some p103:=rfl
theorem B103:p103.body=b103:=rfl
theorem N103:p103.n=39:=rfl
theorem R103:p103.res=[(4,none)]:=rfl
theorem P104:PP 104=some p104:=rfl
theorem B104:p104.body=b104:=rfl
theorem N104:p104.n=11:=rfl
theorem R104:p104.res=[(4,none)]:=rfl
theorem P105:PP 105=some p105:=rfl
theorem B105:p105.body=b105:=rfl
theorem N105:p105.n=4:=rfl
theorem R105:p105.res=[(2,none)]:=rfl
theorem P106:PP 106=some p106:=rfl
theorem B106:p106.body=b106:=rfl
theorem N106:p106.n=25:=rfl
theorem R106:p106.res=[(4,some (some 2))]:=rfl
theorem P107:PP 107=some p107:=rfl
theorem B107:p107.body=b107:=rfl
theorem N107:p107.n=10:=rfl
theorem R107:p107.res=[(4,none)]:=rfl
theorem P109:PP 109=some p109:=rfl
theorem B109:p109.body=b109:=rfl
theorem N109:p109.n=8:=rfl
theorem R109:p109.res=[(2,some (some 2)),(3,some none)]:=rfl
theorem P117:PP 117=some p117:=rfl
theorem B117:p117.body=b117:=rfl
theorem N117:p117.n=15:=rfl
theorem R117:p117.res=[(2,none)]:=rfl
theorem P118:PP 118=some p118:=rfl
theorem B118:p118.body=b118:=rfl
theorem N118:p118.n=15:=rfl
theorem R118:p118.res=[(6,none)]:=rfl
theorem P119:PP 119=some p119:=rfl
theorem B119:p119.body=b119:=rfl
theorem N119:p119.n=15:=rfl
theorem R119:p119.res=[(2,none)]:=rfl
theorem P120:PP 120=some p120:=rfl
theorem B120:p120.body=b120:=rfl
theorem N120:p120.n=9:=rfl
theorem R120:p120.res=[(4,none)]:=rfl
theorem P121:PP 121=some p121:=rfl
theorem B121:p121.body=b121:=rfl
theorem N121:p121.n=9:=rfl
theorem R121:p121.res=[(4,none)]:=rfl
theorem P122:PP 122=some p122:=rfl
theorem B122:p122.body=b122:=rfl
theorem N122:p122.n=24:=rfl
theorem R122:p122.res=[(2,none)]:=rfl
theorem P123:PP 123=some p123:=rfl
theorem B123:p123.body=b123:=rfl
theorem N123:p123.n=9:=rfl
theorem R123:p123.res=[(4,none)]:=rfl
theorem P124:PP 124=some p124:=rfl
theorem B124:p124.body=b124:=rfl
theorem N124:p124.n=8:=rfl
theorem R124:p124.res=[(3,none)]:=rfl
theorem P125:PP 125=some p125:=rfl
theorem B125:p125.body=b125:=rfl
theorem N125:p125.n=9:=rfl
theorem R125:p125.res=[(3,none)]:=rfl
theorem P126:PP 126=some p126:=rfl
theorem B126:p126.body=b126:=rfl
theorem N126:p126.n=9:=rfl
theorem R126:p126.res=[(4,none)]:=rfl
theorem P127:PP 127=some p127:=rfl
theorem B127:p127.body=b127:=rfl
theorem N127:p127.n=27:=rfl
theorem R127:p127.res=[]:=rfl
theorem P128:PP 128=some p128:=rfl
theorem B128:p128.body=b128:=rfl
theorem N128:p128.n=41:=rfl
theorem R128:p128.res=[]:=rfl
theorem P129:PP 129=some p129:=rfl
theorem B129:p129.body=b129:=rfl
theorem N129:p129.n=18:=rfl
theorem R129:p129.res=[(6,none)]:=rfl
theorem P130:PP 130=some p130:=rfl
theorem B130:p130.body=b130:=rfl
theorem N130:p130.n=18:=rfl
theorem R130:p130.res=[(6,none)]:=rfl
theorem P131:PP 131=some p131:=rfl
theorem B131:p131.body=b131:=rfl
theorem N131:p131.n=5:=rfl
theorem R131:p131.res=[(2,none)]:=rfl
theorem P133:PP 133=some p133:=rfl
theorem B133:p133.body=b133:=rfl
theorem N133:p133.n=13:=rfl
theorem R133:p133.res=[(2,none),(3,none)]:=rfl
theorem P134:PP 134=some p134:=rfl
theorem B134:p134.body=b134:=rfl
theorem N134:p134.n=8:=rfl
theorem R134:p134.res=[(2,none)]:=rfl
theorem P135:PP 135=some p135:=rfl
theorem B135:p135.body=b135:=rfl
theorem N135:p135.n=10:=rfl
theorem R135:p135.res=[]:=rfl
theorem P136:PP 136=some p136:=rfl
theorem B136:p136.body=b136:=rfl
theorem N136:p136.n=70:=rfl
theorem R136:p136.res=[(5,none)]:=rfl
theorem P137:PP 137=some p137:=rfl
theorem B137:p137.body=b137:=rfl
theorem N137:p137.n=8:=rfl
theorem R137:p137.res=[(2,none)]:=rfl
theorem P138:PP 138=some p138:=rfl
theorem B138:p138.body=b138:=rfl
theorem N138:p138.n=75:=rfl
theorem R138:p138.res=[(8,none)]:=rfl
theorem P139:PP 139=some p139:=rfl
theorem B139:p139.body=b139:=rfl
theorem N139:p139.n=14:=rfl
theorem R139:p139.res=[]:=rfl
theorem P142:PP 142=some p142:=rfl
theorem B142:p142.body=b142:=rfl
theorem N142:p142.n=16:=rfl
theorem R142:p142.res=[]:=rfl
theorem P150:PP 150=some p150:=rfl
theorem B150:p150.body=b150:=rfl
theorem N150:p150.n=19:=rfl
theorem R150:p150.res=[(4,none)]:=rfl
theorem P151:PP 151=some p151:=rfl
theorem B151:p151.body=b151:=rfl
theorem N151:p151.n=19:=rfl
theorem R151:p151.res=[(4,none)]:=rfl
theorem P152:PP 152=some p152:=rfl
theorem B152:p152.body=b152:=rfl
theorem N152:p152.n=19:=rfl
theorem R152:p152.res=[(4,none)]:=rfl
theorem P153:PP 153=some p153:=rfl
theorem B153:p153.body=b153:=rfl
theorem N153:p153.n=19:=rfl
theorem R153:p153.res=[(4,none)]:=rfl
theorem P154:PP 154=some p154:=rfl
theorem B154:p154.body=b154:=rfl
theorem N154:p154.n=13:=rfl
theorem R154:p154.res=[(4,none)]:=rfl
theorem P155:PP 155=some p155:=rfl
theorem B155:p155.body=b155:=rfl
theorem N155:p155.n=11:=rfl
theorem R155:p155.res=[]:=rfl
theorem P156:PP 156=some p156:=rfl
theorem B156:p156.body=b156:=rfl
theorem N156:p156.n=9:=rfl
theorem R156:p156.res=[]:=rfl
end Go.Pi.Coa
