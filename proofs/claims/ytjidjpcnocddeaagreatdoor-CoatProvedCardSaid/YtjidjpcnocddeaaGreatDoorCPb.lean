/- The functions of coats, in the small language: the others; their table. -/
import Derived.Test.YtjidjpcnocddeaaGreatDoorCPa
set_option linter.all false
set_option linter.unusedVariables false
set_option linter.unusedSimpArgs false
set_option linter.unusedSectionVars false
set_option maxRecDepth 100000
namespace Go.Pi.Coa
open Go Go.Pi

def b79 : PCode :=
 (.seq (.reg [
 ⟨some 3, .lbox 93 (.tmp 0), none⟩, ⟨some 6, .v .mv [.const (.int .i64 0)], none⟩, ⟨some 7, .v .mv [.const (.bool false)], none⟩])
 (.seq (.seq (.reg [
 ⟨some 8, .v .mv [.tmp 2], none⟩, ⟨some 9, .v .mv [.tmp 1], none⟩, ⟨some 10, .v .len [.tmp 9], none⟩, ⟨some 11, .v (.ib .sub) [.tmp 10, .const (.int .i64 1)], none⟩, ⟨some 12, .v (.ib .eql) [.tmp 8, .tmp 11], none⟩])
 (.cond (.tmp 12)
 (.seq (.reg [
 ⟨some 13, .v (.fa 0) [.tmp 3], none⟩, ⟨some 14, .v (.fa 0) [.tmp 13], none⟩, ⟨some 15, .ld none (.tmp 14), none⟩, ⟨some 16, .v .len [.tmp 15], none⟩, ⟨some 6, .v .mv [.tmp 16], none⟩, ⟨some 7, .v .mv [.const (.bool false)], none⟩])
 .ret)
 .skip))
 (.seq (.reg [
 ⟨some 17, .v .mv [.tmp 1], none⟩, ⟨some 18, .v .mv [.tmp 2], none⟩, ⟨some 19, .v (.ib .add) [.tmp 18, .const (.int .i64 1)], none⟩, ⟨some 20, .v (.ia 1) [.tmp 17, .tmp 19], none⟩, ⟨some 21, .ld none (.tmp 20), none⟩, ⟨some 6, .v .mv [.tmp 21], none⟩, ⟨some 7, .v .mv [.const (.bool true)], none⟩])
 .ret)))
def p79 : PFunc := ⟨22, [(6, none), (7, none)], none, b79⟩
def q80x0 : PCode :=
 (.seq (.reg [
 ⟨some 9, .v (.ib .lss) [.tmp 8, .tmp 7], none⟩])
 (.seq (.cond (.tmp 9)
 .skip
 (.exit 0))
 (.seq (.blk 1
 (.seq (.reg [
 ⟨some 10, .v (.ia 1) [.tmp 6, .tmp 8], none⟩, ⟨some 11, .ld none (.tmp 10), none⟩, ⟨some 5, .v .mv [.tmp 11], none⟩])
 (.reg [
 ⟨some 12, .v .mv [.tmp 3], none⟩, ⟨some 13, .v .mv [.tmp 5], none⟩, ⟨some 14, .v (.ib .add) [.tmp 12, .tmp 13], none⟩, ⟨some 3, .v .mv [.tmp 14], none⟩])))
 (.reg [
 ⟨some 15, .v (.ib .add) [.tmp 8, .const (.int .i64 1)], none⟩, ⟨some 8, .v .mv [.tmp 15], none⟩]))))
def b80 : PCode :=
 (.seq (.reg [
 ⟨some 2, .v .mv [.const (.int .i64 0)], none⟩])
 (.seq (.reg [
 ⟨some 3, .v .mv [.const (.int .i64 0)], none⟩])
 (.seq (.seq (.reg [
 ⟨some 6, .v .mv [.tmp 0], none⟩, ⟨some 7, .v .len [.tmp 6], none⟩, ⟨some 8, .v .mv [.const (.int .i64 0)], none⟩])
 (.blk 0
 (.loop q80x0)))
 (.seq (.reg [
 ⟨some 16, .v .mv [.tmp 3], none⟩, ⟨some 2, .v .mv [.tmp 16], none⟩])
 .ret))))
def p80 : PFunc := ⟨17, [(2, none)], none, b80⟩
def b81 : PCode :=
 (.seq (.reg [
 ⟨some 6, .v .mv [.const (.bool false)], none⟩])
 (.seq (.reg [
 ⟨some 7, .v .mv [.tmp 0], none⟩, ⟨some 8, .v .mv [.tmp 1], none⟩, ⟨some 9, .v (.ib .geq) [.tmp 7, .tmp 8], none⟩, ⟨some 10, .v .mv [.tmp 9], none⟩, ⟨some 11, .v .mv [.tmp 0], some (10, true)⟩,
 ⟨some 12, .v .mv [.tmp 2], some (10, true)⟩,
 ⟨some 13, .v (.ib .leq) [.tmp 11, .tmp 12], some (10, true)⟩,
 ⟨some 14, .v .pick [.tmp 10, .tmp 13, .const (.bool false)], none⟩, ⟨some 6, .v .mv [.tmp 14], none⟩])
 .ret))
def p81 : PFunc := ⟨15, [(6, none)], none, b81⟩
def q82x0 : PCode :=
 (.seq (.seq (.reg [
 ⟨some 6, .v .mv [.tmp 5], none⟩, ⟨some 7, .v .mv [.tmp 1], none⟩, ⟨some 8, .v .len [.tmp 7], none⟩, ⟨some 9, .v (.ib .lss) [.tmp 6, .tmp 8], none⟩])
 (.cond (.tmp 9)
 .skip
 (.exit 0)))
 (.seq (.blk 1
 (.seq (.dreg [
 ⟨some 12, .ld (some 3) (.tmp 2), none⟩, ⟨some 13, .v .mv [.tmp 1], none⟩, ⟨some 14, .v .mv [.tmp 5], none⟩, ⟨some 15, .v (.ia 1) [.tmp 13, .tmp 14], none⟩, ⟨some 16, .ld none (.tmp 15), none⟩, ⟨some 17, .call (.func 60) [.tmp 12, .tmp 16], none⟩, ⟨some 18, .v .no [.tmp 17], none⟩, ⟨some 19, .v .mv [.tmp 18], none⟩, ⟨some 20, .v .mv [.tmp 5], some (19, false)⟩,
 ⟨some 21, .v (.ib .gtr) [.tmp 20, .const (.int .i64 0)], some (19, false)⟩,
 ⟨some 22, .v .mv [.tmp 21], some (19, false)⟩,
 ⟨some 23, .v .mv [.tmp 1], some (22, true)⟩,
 ⟨some 24, .v .mv [.tmp 5], some (22, true)⟩,
 ⟨some 25, .v (.ia 1) [.tmp 23, .tmp 24], some (22, true)⟩,
 ⟨some 26, .ld none (.tmp 25), some (22, true)⟩,
 ⟨some 27, .v .mv [.tmp 1], some (22, true)⟩,
 ⟨some 28, .v .mv [.tmp 5], some (22, true)⟩,
 ⟨some 29, .v (.ib .sub) [.tmp 28, .const (.int .i64 1)], some (22, true)⟩,
 ⟨some 30, .v (.ia 1) [.tmp 27, .tmp 29], some (22, true)⟩,
 ⟨some 31, .ld none (.tmp 30), some (22, true)⟩,
 ⟨some 32, .v (.ib .leq) [.tmp 26, .tmp 31], some (22, true)⟩,
 ⟨some 33, .v .pick [.tmp 22, .tmp 32, .const (.bool false)], some (19, false)⟩,
 ⟨some 34, .v .pick [.tmp 19, .const (.bool true), .tmp 33], none⟩] [⟨4, false, false⟩, ⟨0, true, false⟩, ⟨0, true, false⟩, ⟨0, true, false⟩, ⟨1, true, false⟩, ⟨1, true, true⟩, ⟨0, true, true⟩, ⟨0, true, true⟩, ⟨0, true, true⟩, ⟨0, true, true⟩, ⟨0, true, true⟩, ⟨0, false, false⟩, ⟨0, false, false⟩, ⟨0, false, false⟩, ⟨1, false, false⟩, ⟨0, false, false⟩, ⟨0, false, false⟩, ⟨0, false, false⟩, ⟨0, false, false⟩, ⟨1, false, false⟩, ⟨0, true, true⟩, ⟨0, true, true⟩, ⟨0, true, true⟩])
 (.cond (.tmp 34)
 (.seq (.reg [
 ⟨some 4, .v .mv [.const (.bool false)], none⟩])
 .ret)
 .skip)))
 (.reg [
 ⟨some 10, .v .mv [.tmp 5], none⟩, ⟨some 11, .v (.ib .add) [.tmp 10, .const (.int .i64 1)], none⟩, ⟨some 5, .v .mv [.tmp 11], none⟩])))
def b82 : PCode :=
 (.seq (.reg [
 ⟨some 2, .lbox 26 (.tmp 0), none⟩, ⟨some 4, .v .mv [.const (.bool false)], none⟩])
 (.seq (.seq (.reg [
 ⟨some 5, .v .mv [.const (.int .i64 0)], none⟩])
 (.blk 0
 (.loop q82x0)))
 (.seq (.reg [
 ⟨some 4, .v .mv [.const (.bool true)], none⟩])
 .ret)))
def p82 : PFunc := ⟨35, [(4, none)], none, b82⟩
def b83 : PCode :=
 (.seq (.reg [
 ⟨some 4, .lbox 26 (.tmp 0), none⟩, ⟨some 8, .v .mv [.const (.bool false)], none⟩])
 (.seq (.dreg [
 ⟨some 9, .v .mv [.tmp 1], none⟩, ⟨some 10, .v .mv [.tmp 2], none⟩, ⟨some 11, .v .mv [.tmp 3], none⟩, ⟨some 12, .call (.func 37) [.tmp 9, .tmp 10, .tmp 11], none⟩, ⟨some 13, .v (.fa 2) [.tmp 4], none⟩, ⟨some 14, .ld none (.tmp 13), none⟩, ⟨some 15, .v .mv [.tmp 2], none⟩, ⟨some 16, .v (.ia 2) [.tmp 14, .tmp 15], none⟩, ⟨some 17, .v (.fa 0) [.tmp 16], none⟩, ⟨some 18, .ld none (.tmp 17), none⟩, ⟨some 19, .v (.ib .lss) [.tmp 12, .tmp 18], none⟩, ⟨some 8, .v .mv [.tmp 19], none⟩] [⟨0, false, false⟩, ⟨0, false, false⟩, ⟨0, false, false⟩, ⟨1, false, false⟩, ⟨0, false, false⟩, ⟨6, false, false⟩, ⟨0, false, false⟩, ⟨0, false, false⟩, ⟨0, false, false⟩, ⟨1, false, false⟩, ⟨0, true, true⟩, ⟨0, true, true⟩])
 .ret))
def p83 : PFunc := ⟨20, [(8, none)], none, b83⟩
def b84 : PCode :=
 (.seq (.reg [
 ⟨some 4, .lbox 26 (.tmp 0), none⟩, ⟨some 8, .v .mv [.const (.bool false)], none⟩])
 (.seq (.dreg [
 ⟨some 9, .v .mv [.tmp 2], none⟩, ⟨some 10, .v (.ib .add) [.tmp 9, .const (.int .i64 1)], none⟩, ⟨some 11, .v .mv [.tmp 1], none⟩, ⟨some 12, .v .len [.tmp 11], none⟩, ⟨some 13, .v (.ib .lss) [.tmp 10, .tmp 12], none⟩, ⟨some 14, .v .mv [.tmp 13], none⟩, ⟨some 15, .v .mv [.tmp 1], some (14, true)⟩,
 ⟨some 16, .v .mv [.tmp 2], some (14, true)⟩,
 ⟨some 17, .v .mv [.tmp 3], some (14, true)⟩,
 ⟨some 18, .call (.func 37) [.tmp 15, .tmp 16, .tmp 17], some (14, true)⟩,
 ⟨some 19, .v (.fa 2) [.tmp 4], some (14, true)⟩,
 ⟨some 20, .ld none (.tmp 19), some (14, true)⟩,
 ⟨some 21, .v .mv [.tmp 2], some (14, true)⟩,
 ⟨some 22, .v (.ia 2) [.tmp 20, .tmp 21], some (14, true)⟩,
 ⟨some 23, .v (.fa 1) [.tmp 22], some (14, true)⟩,
 ⟨some 24, .ld none (.tmp 23), some (14, true)⟩,
 ⟨some 25, .v (.ib .gtr) [.tmp 18, .tmp 24], some (14, true)⟩,
 ⟨some 26, .v .pick [.tmp 14, .tmp 25, .const (.bool false)], none⟩, ⟨some 8, .v .mv [.tmp 26], none⟩] [⟨0, true, false⟩, ⟨0, true, false⟩, ⟨0, true, false⟩, ⟨0, true, false⟩, ⟨0, true, true⟩, ⟨0, true, true⟩, ⟨0, false, false⟩, ⟨0, false, false⟩, ⟨0, false, false⟩, ⟨1, false, false⟩, ⟨0, false, false⟩, ⟨6, false, false⟩, ⟨0, false, false⟩, ⟨0, false, false⟩, ⟨0, false, false⟩, ⟨1, false, false⟩, ⟨0, true, true⟩, ⟨0, true, true⟩, ⟨0, true, true⟩])
 .ret))
def p84 : PFunc := ⟨27, [(8, none)], none, b84⟩
def b85 : PCode :=
 (.seq (.reg [
 ⟨some 2, .box 93 (.tmp 0), none⟩, ⟨some 3, .box 23 (.tmp 1), none⟩, ⟨some 4, .lalloc 100 (.agg #[(.int .i64 0), (.int .i64 0)]), none⟩, ⟨some 5, .v .mv [.const (.int .i64 0)], none⟩])
 (.seq (.reg [
 ⟨some 6, .v (.mkf (.func 127) 0) [.tmp 3, .tmp 2], none⟩, ⟨some 7, .call (.func 109) [.tmp 6], none⟩, ⟨some 8, .v (.ext 0) [.tmp 7], none⟩, ⟨some 9, .v (.ext 1) [.tmp 7], none⟩, ⟨none, .st 2 (.tmp 4) (.tmp 8), none⟩, ⟨some 5, .v .mv [.tmp 9], none⟩])
 .ret))
def p85 : PFunc := ⟨10, [(4, some (some 2)), (5, none)], none, b85⟩
def b86 : PCode :=
 (.seq (.reg [
 ⟨some 3, .lbox 93 (.tmp 0), none⟩, ⟨some 6, .lalloc 75 (.agg #[(.int .i64 0), (.int .i64 0)]), none⟩])
 (.seq (.reg [
 ⟨some 8, .ld (some 5) (.tmp 3), none⟩, ⟨some 9, .v (.mkf (.func 129) 1) [.tmp 8], none⟩, ⟨some 10, .ld (some 5) (.tmp 3), none⟩, ⟨some 11, .v (.mkf (.func 130) 1) [.tmp 10], none⟩, ⟨some 12, .v (.bld [.nilFunc, .nilFunc] [(0, 1), (1, 1)]) [.tmp 9, .tmp 11], none⟩, ⟨some 7, .lalloc 138 (.agg #[.nilFunc, .nilFunc]), none⟩, ⟨none, .st 2 (.tmp 7) (.tmp 12), none⟩])
 (.seq (.dreg [
 ⟨some 13, .v (.iaa 1 2) [.tmp 7, .const (.int .i64 0)], none⟩, ⟨some 14, .ld none (.tmp 13), none⟩, ⟨some 15, .v .mv [.tmp 1], none⟩, ⟨some 16, .v .mv [.tmp 2], none⟩, ⟨some 17, .call (.tmp 14) [.tmp 15, .tmp 16], none⟩, ⟨some 18, .v (.iaa 1 2) [.tmp 7, .const (.int .i64 1)], none⟩, ⟨some 19, .ld none (.tmp 18), none⟩, ⟨some 20, .v .mv [.tmp 1], none⟩, ⟨some 21, .v .mv [.tmp 2], none⟩, ⟨some 22, .call (.tmp 19) [.tmp 20, .tmp 21], none⟩, ⟨some 23, .v (.bld [(.int .i64 0), (.int .i64 0)] [(0, 1), (1, 1)]) [.tmp 17, .tmp 22], none⟩, ⟨none, .st 2 (.tmp 6) (.tmp 23), none⟩] [⟨0, true, false⟩, ⟨9, true, false⟩, ⟨0, true, false⟩, ⟨0, true, false⟩, ⟨1, true, false⟩, ⟨0, false, false⟩, ⟨9, false, false⟩, ⟨0, false, false⟩, ⟨0, false, false⟩, ⟨1, true, true⟩, ⟨0, true, true⟩, ⟨8, true, true⟩])
 .ret)))
def p86 : PFunc := ⟨24, [(6, some (some 2))], none, b86⟩
def b87 : PCode :=
 (.seq (.reg [
 ⟨some 2, .v .mv [.const (.slice none 0 0)], none⟩])
 (.seq (.seq (.reg [
 ⟨some 3, .v .mv [.tmp 0], none⟩, ⟨some 4, .v (.nl .slice false) [.tmp 3], none⟩])
 (.cond (.tmp 4)
 (.seq (.reg [
 ⟨some 2, .v .mv [.const (.slice none 0 0)], none⟩])
 .ret)
 .skip))
 (.seq (.reg [
 ⟨some 5, .bs 75 2 [(.int .i64 0), (.int .i64 0)] 0 [], none⟩, ⟨some 6, .v .mv [.tmp 0], none⟩, ⟨some 7, .app 75 2 (.tmp 5) (.tmp 6), none⟩, ⟨some 2, .v .mv [.tmp 7], none⟩])
 .ret)))
def p87 : PFunc := ⟨8, [(2, none)], none, b87⟩
def b89 : PCode :=
 (.seq (.reg [
 ⟨some 2, .lbox 26 (.tmp 0), none⟩, ⟨some 4, .v .mv [.const (.slice none 0 0)], none⟩, ⟨some 5, .v .mv [.const (.int .i64 0)], none⟩])
 (.seq (.seq (.reg [
 ⟨some 7, .ld (some 3) (.tmp 2), none⟩, ⟨some 8, .call (.func 75) [.tmp 7], none⟩, ⟨some 9, .v .no [.tmp 8], none⟩])
 (.cond (.tmp 9)
 (.seq (.reg [
 ⟨some 4, .v .mv [.const (.slice none 0 0)], none⟩, ⟨some 5, .v .mv [.const (.int .i64 2)], none⟩])
 .ret)
 .skip))
 (.seq (.reg [
 ⟨some 10, .ld (some 3) (.tmp 2), none⟩, ⟨some 11, .call (.func 78) [.tmp 10], none⟩, ⟨some 12, .call (.func 105) [.tmp 11], none⟩, ⟨some 13, .call (.func 131) [.tmp 12], none⟩, ⟨some 6, .v .mv [.tmp 13], none⟩])
 (.seq (.seq (.reg [
 ⟨some 14, .v .mv [.tmp 6], none⟩, ⟨some 15, .v .len [.tmp 14], none⟩, ⟨some 16, .v (.ib .eql) [.tmp 15, .const (.int .i64 0)], none⟩])
 (.cond (.tmp 16)
 (.seq (.reg [
 ⟨some 17, .v .mv [.tmp 1], none⟩, ⟨some 4, .v .mv [.const (.slice none 0 0)], none⟩, ⟨some 5, .v .mv [.tmp 17], none⟩])
 .ret)
 .skip))
 (.seq (.reg [
 ⟨some 18, .v .mv [.tmp 6], none⟩, ⟨some 4, .v .mv [.tmp 18], none⟩, ⟨some 5, .v .mv [.const (.int .i64 0)], none⟩])
 .ret)))))
def p89 : PFunc := ⟨19, [(4, none), (5, none)], none, b89⟩
def b91 : PCode :=
 (.seq (.reg [
 ⟨some 2, .lbox 26 (.tmp 0), none⟩, ⟨some 4, .v .mv [.const (.bool false)], none⟩])
 (.seq (.reg [
 ⟨some 9, .ld (some 3) (.tmp 2), none⟩, ⟨some 10, .v .mv [.tmp 1], none⟩, ⟨some 11, .call (.func 33) [.tmp 9, .tmp 10], none⟩, ⟨some 8, .v .mv [.tmp 11], none⟩, ⟨some 12, .v (.ext 0) [.tmp 8], none⟩, ⟨some 13, .v (.ext 1) [.tmp 8], none⟩, ⟨some 14, .v (.ext 2) [.tmp 8], none⟩, ⟨some 5, .v .mv [.tmp 12], none⟩, ⟨some 6, .v .mv [.tmp 13], none⟩, ⟨some 7, .v .mv [.tmp 14], none⟩])
 (.seq (.reg [
 ⟨some 15, .v .mv [.tmp 7], none⟩, ⟨some 16, .v .no [.tmp 15], none⟩, ⟨some 4, .v .mv [.tmp 16], none⟩])
 .ret)))
def p91 : PFunc := ⟨17, [(4, none)], none, b91⟩
def b92 : PCode :=
 (.seq (.reg [
 ⟨some 2, .lbox 26 (.tmp 0), none⟩, ⟨some 4, .v .mv [.const (.bool false)], none⟩])
 (.seq (.reg [
 ⟨some 5, .v .mv [.tmp 1], none⟩, ⟨some 6, .v (.fa 2) [.tmp 2], none⟩, ⟨some 7, .ld none (.tmp 6), none⟩, ⟨some 8, .v .len [.tmp 7], none⟩, ⟨some 9, .v (.ib .sub) [.tmp 8, .const (.int .i64 1)], none⟩, ⟨some 10, .call (.func 118) [.tmp 5, .const (.int .i64 0), .tmp 9], none⟩, ⟨some 4, .v .mv [.tmp 10], none⟩])
 .ret))
def p92 : PFunc := ⟨11, [(4, none)], none, b92⟩
def b93 : PCode :=
 (.seq (.reg [
 ⟨some 4, .v .mv [.const (.bool false)], none⟩])
 (.seq (.reg [
 ⟨some 5, .v .mv [.tmp 0], none⟩, ⟨some 6, .v .mv [.tmp 1], none⟩, ⟨some 7, .call (.func 132) [.tmp 5, .tmp 6], none⟩, ⟨some 8, .v (.ib .geq) [.tmp 7, .const (.int .i64 0)], none⟩, ⟨some 4, .v .mv [.tmp 8], none⟩])
 .ret))
def p93 : PFunc := ⟨9, [(4, none)], none, b93⟩
def b94 : PCode :=
 (.seq (.reg [
 ⟨some 4, .v .mv [.const (.bool false)], none⟩])
 (.seq (.dreg [
 ⟨some 5, .v .mv [.tmp 0], none⟩, ⟨some 6, .ld none (.tmp 1), none⟩, ⟨some 7, .v (.ia 1) [.tmp 5, .tmp 6], none⟩, ⟨some 8, .ld none (.tmp 7), none⟩, ⟨some 9, .ld none (.tmp 2), none⟩, ⟨some 10, .v (.ib .eql) [.tmp 8, .tmp 9], none⟩, ⟨some 4, .v .mv [.tmp 10], none⟩] [⟨0, false, false⟩, ⟨1, false, false⟩, ⟨0, false, false⟩, ⟨1, false, false⟩, ⟨1, false, false⟩, ⟨0, true, true⟩, ⟨0, true, true⟩])
 .ret))
def p94 : PFunc := ⟨11, [(4, none)], none, b94⟩
def q95x0 : PCode :=
 (.seq (.reg [
 ⟨some 15, .v (.ib .lss) [.tmp 14, .tmp 13], none⟩])
 (.seq (.cond (.tmp 15)
 .skip
 (.exit 0))
 (.seq (.blk 1
 (.seq (.reg [
 ⟨some 16, .v (.ia 1) [.tmp 12, .tmp 14], none⟩, ⟨some 17, .ld none (.tmp 16), none⟩, ⟨some 7, .v .mv [.tmp 17], none⟩])
 (.seq (.reg [
 ⟨some 18, .v .mv [.tmp 1], none⟩, ⟨some 19, .v .mv [.tmp 7], none⟩, ⟨some 20, .v .mv [.tmp 5], none⟩, ⟨some 21, .call (.tmp 18) [.tmp 19, .tmp 20], none⟩])
 (.cond (.tmp 21)
 (.reg [
 ⟨some 22, .v .mv [.tmp 7], none⟩, ⟨some 5, .v .mv [.tmp 22], none⟩])
 .skip))))
 (.reg [
 ⟨some 23, .v (.ib .add) [.tmp 14, .const (.int .i64 1)], none⟩, ⟨some 14, .v .mv [.tmp 23], none⟩]))))
def b95 : PCode :=
 (.seq (.reg [
 ⟨some 4, .v .mv [.const (.slice none 0 0)], none⟩])
 (.seq (.reg [
 ⟨some 8, .v .mv [.tmp 0], none⟩, ⟨some 9, .v (.ia 1) [.tmp 8, .const (.int .i64 0)], none⟩, ⟨some 10, .ld none (.tmp 9), none⟩, ⟨some 5, .v .mv [.tmp 10], none⟩])
 (.seq (.seq (.reg [
 ⟨some 11, .v .mv [.tmp 0], none⟩, ⟨some 12, .v (.sl 1 true false) [.tmp 11, .const (.int .i64 1)], none⟩, ⟨some 13, .v .len [.tmp 12], none⟩, ⟨some 14, .v .mv [.const (.int .i64 0)], none⟩])
 (.blk 0
 (.loop q95x0)))
 (.seq (.reg [
 ⟨some 24, .v .mv [.tmp 5], none⟩, ⟨some 4, .v .mv [.tmp 24], none⟩])
 .ret))))
def p95 : PFunc := ⟨25, [(4, none)], none, b95⟩
def b96 : PCode :=
 (.seq (.reg [
 ⟨some 4, .v .mv [.const (.bool false)], none⟩])
 (.seq (.dreg [
 ⟨some 5, .v .mv [.tmp 0], none⟩, ⟨some 6, .v (.ia 1) [.tmp 5, .const (.int .i64 0)], none⟩, ⟨some 7, .ld none (.tmp 6), none⟩, ⟨some 8, .v .mv [.tmp 1], none⟩, ⟨some 9, .v (.ia 1) [.tmp 8, .const (.int .i64 0)], none⟩, ⟨some 10, .ld none (.tmp 9), none⟩, ⟨some 11, .v (.ib .gtr) [.tmp 7, .tmp 10], none⟩, ⟨some 4, .v .mv [.tmp 11], none⟩] [⟨0, false, false⟩, ⟨0, false, false⟩, ⟨1, false, false⟩, ⟨0, false, false⟩, ⟨0, false, false⟩, ⟨1, false, false⟩, ⟨0, true, true⟩, ⟨0, true, true⟩])
 .ret))
def p96 : PFunc := ⟨12, [(4, none)], none, b96⟩
def b97 : PCode :=
 (.seq (.reg [
 ⟨some 2, .v .mv [.const (.int .i64 0)], none⟩])
 (.seq (.dreg [
 ⟨some 3, .v .mv [.tmp 0], none⟩, ⟨some 4, .v .mv [.tmp 0], none⟩, ⟨some 5, .v .len [.tmp 4], none⟩, ⟨some 6, .v (.ib .sub) [.tmp 5, .const (.int .i64 1)], none⟩, ⟨some 7, .v (.ia 1) [.tmp 3, .tmp 6], none⟩, ⟨some 8, .ld none (.tmp 7), none⟩, ⟨some 9, .v .mv [.tmp 0], none⟩, ⟨some 10, .v (.ia 1) [.tmp 9, .const (.int .i64 0)], none⟩, ⟨some 11, .ld none (.tmp 10), none⟩, ⟨some 12, .v (.ib .sub) [.tmp 8, .tmp 11], none⟩, ⟨some 2, .v .mv [.tmp 12], none⟩] [⟨0, false, false⟩, ⟨0, false, false⟩, ⟨0, false, false⟩, ⟨0, false, false⟩, ⟨0, false, false⟩, ⟨1, false, false⟩, ⟨0, false, false⟩, ⟨0, false, false⟩, ⟨1, false, false⟩, ⟨0, true, true⟩, ⟨0, true, true⟩])
 .ret))
def p97 : PFunc := ⟨13, [(2, none)], none, b97⟩
def b98 : PCode :=
 (.seq (.reg [
 ⟨some 4, .v .mv [.const (.bool false)], none⟩])
 (.seq (.reg [
 ⟨some 5, .v .mv [.tmp 0], none⟩, ⟨some 6, .call (.func 97) [.tmp 5], none⟩, ⟨some 7, .v .mv [.tmp 1], none⟩, ⟨some 8, .call (.func 97) [.tmp 7], none⟩, ⟨some 9, .v (.ib .lss) [.tmp 6, .tmp 8], none⟩, ⟨some 4, .v .mv [.tmp 9], none⟩])
 .ret))
def p98 : PFunc := ⟨10, [(4, none)], none, b98⟩
def b99 : PCode :=
 (.seq (.reg [
 ⟨some 1, .lbox 26 (.tmp 0), none⟩, ⟨some 2, .v .mv [.const (.bool false)], none⟩])
 (.seq (.reg [
 ⟨some 6, .ld (some 3) (.tmp 1), none⟩, ⟨some 7, .call (.func 78) [.tmp 6], none⟩, ⟨some 8, .call (.func 133) [.tmp 7], none⟩, ⟨some 5, .v .mv [.tmp 8], none⟩, ⟨some 9, .v (.ext 0) [.tmp 5], none⟩, ⟨some 10, .v (.ext 1) [.tmp 5], none⟩, ⟨some 3, .v .mv [.tmp 9], none⟩, ⟨some 4, .v .mv [.tmp 10], none⟩])
 (.seq (.reg [
 ⟨some 11, .v .mv [.tmp 4], none⟩, ⟨some 2, .v .mv [.tmp 11], none⟩])
 .ret)))
def p99 : PFunc := ⟨12, [(2, none)], none, b99⟩
def q100x0 : PCode :=
 (.seq (.seq (.reg [
 ⟨some 9, .v .mv [.tmp 5], none⟩, ⟨some 10, .v .mv [.tmp 6], none⟩, ⟨some 11, .v (.ib .lss) [.tmp 9, .tmp 10], none⟩])
 (.cond (.tmp 11)
 .skip
 (.exit 0)))
 (.blk 1
 (.seq (.reg [
 ⟨some 12, .v .mv [.tmp 5], none⟩, ⟨some 13, .v .mv [.tmp 6], none⟩, ⟨some 14, .v (.ib .add) [.tmp 12, .tmp 13], none⟩, ⟨some 15, .v (.cv .u64) [.tmp 14], none⟩, ⟨some 16, .v (.ib .shr) [.tmp 15, .const (.int .u64 1)], none⟩, ⟨some 17, .v (.cv .i64) [.tmp 16], none⟩, ⟨some 7, .v .mv [.tmp 17], none⟩])
 (.seq (.reg [
 ⟨some 18, .v .mv [.tmp 1], none⟩, ⟨some 19, .v .mv [.tmp 7], none⟩, ⟨some 20, .call (.tmp 18) [.tmp 19], none⟩, ⟨some 21, .v .no [.tmp 20], none⟩])
 (.cond (.tmp 21)
 (.reg [
 ⟨some 22, .v .mv [.tmp 7], none⟩, ⟨some 23, .v (.ib .add) [.tmp 22, .const (.int .i64 1)], none⟩, ⟨some 5, .v .mv [.tmp 23], none⟩])
 (.reg [
 ⟨some 24, .v .mv [.tmp 7], none⟩, ⟨some 6, .v .mv [.tmp 24], none⟩]))))))
def b100 : PCode :=
 (.seq (.reg [
 ⟨some 4, .v .mv [.const (.int .i64 0)], none⟩])
 (.seq (.reg [
 ⟨some 8, .v .mv [.tmp 0], none⟩, ⟨some 5, .v .mv [.const (.int .i64 0)], none⟩, ⟨some 6, .v .mv [.tmp 8], none⟩])
 (.seq (.blk 0
 (.loop q100x0))
 (.seq (.reg [
 ⟨some 25, .v .mv [.tmp 5], none⟩, ⟨some 4, .v .mv [.tmp 25], none⟩])
 .ret))))
def p100 : PFunc := ⟨26, [(4, none)], none, b100⟩
def b101 : PCode :=
 (.seq (.reg [
 ⟨some 3, .v .mv [.const (.bool false)], none⟩])
 (.seq (.reg [
 ⟨some 4, .ld (some 3) (.tmp 1), none⟩, ⟨some 5, .v .mv [.tmp 0], none⟩, ⟨some 6, .call (.func 102) [.tmp 4, .tmp 5], none⟩, ⟨some 7, .call (.func 99) [.tmp 6], none⟩, ⟨some 3, .v .mv [.tmp 7], none⟩])
 .ret))
def p101 : PFunc := ⟨8, [(3, none)], none, b101⟩
def q102x0 : PCode :=
 (.seq (.reg [
 ⟨some 14, .v (.ib .lss) [.tmp 13, .tmp 12], none⟩])
 (.seq (.cond (.tmp 14)
 .skip
 (.exit 0))
 (.seq (.blk 1
 (.seq (.reg [
 ⟨some 15, .v .mv [.tmp 13], none⟩, ⟨some 5, .v .mv [.tmp 15], none⟩])
 (.reg [
 ⟨some 16, .v (.fa 2) [.tmp 2], none⟩, ⟨some 17, .ld none (.tmp 16), none⟩, ⟨some 18, .v .mv [.tmp 5], none⟩, ⟨some 19, .v (.ia 2) [.tmp 17, .tmp 18], none⟩, ⟨some 20, .v (.fa 1) [.tmp 19], none⟩, ⟨some 21, .ld none (.tmp 20), none⟩, ⟨some 22, .v .mv [.tmp 1], none⟩, ⟨some 23, .v (.ib .add) [.tmp 21, .tmp 22], none⟩, ⟨some 24, .v (.ia 2) [.tmp 17, .tmp 18], none⟩, ⟨some 25, .v (.fa 1) [.tmp 24], none⟩, ⟨none, .st 1 (.tmp 25) (.tmp 23), none⟩])))
 (.reg [
 ⟨some 26, .v (.ib .add) [.tmp 13, .const (.int .i64 1)], none⟩, ⟨some 13, .v .mv [.tmp 26], none⟩]))))
def b102 : PCode :=
 (.seq (.reg [
 ⟨some 2, .lbox 26 (.tmp 0), none⟩, ⟨some 4, .lalloc 26 (.agg #[(.slice none 0 0), (.slice none 0 0), (.slice none 0 0)]), none⟩])
 (.seq (.reg [
 ⟨some 6, .v (.fa 2) [.tmp 2], none⟩, ⟨some 7, .ld none (.tmp 6), none⟩, ⟨some 8, .call (.func 134) [.tmp 7], none⟩, ⟨some 9, .v (.fa 2) [.tmp 2], none⟩, ⟨none, .st 1 (.tmp 9) (.tmp 8), none⟩])
 (.seq (.seq (.reg [
 ⟨some 10, .v (.fa 2) [.tmp 2], none⟩, ⟨some 11, .ld none (.tmp 10), none⟩, ⟨some 12, .v .len [.tmp 11], none⟩, ⟨some 13, .v .mv [.const (.int .i64 0)], none⟩])
 (.blk 0
 (.loop q102x0)))
 (.seq (.reg [
 ⟨some 27, .ld (some 3) (.tmp 2), none⟩, ⟨none, .st 3 (.tmp 4) (.tmp 27), none⟩])
 .ret))))
def p102 : PFunc := ⟨28, [(4, some (some 3))], none, b102⟩
def b104 : PCode :=
 (.seq (.reg [
 ⟨some 2, .lbox 26 (.tmp 0), none⟩, ⟨some 4, .v .mv [.const (.bool false)], none⟩])
 (.seq (.reg [
 ⟨some 5, .v .mv [.tmp 1], none⟩, ⟨some 6, .v (.fa 0) [.tmp 2], none⟩, ⟨some 7, .ld none (.tmp 6), none⟩, ⟨some 8, .v .len [.tmp 7], none⟩, ⟨some 9, .v (.ib .sub) [.tmp 8, .const (.int .i64 1)], none⟩, ⟨some 10, .call (.func 118) [.tmp 5, .const (.int .i64 0), .tmp 9], none⟩, ⟨some 4, .v .mv [.tmp 10], none⟩])
 .ret))
def p104 : PFunc := ⟨11, [(4, none)], none, b104⟩
def b105 : PCode :=
 (.seq (.reg [
 ⟨some 1, .box 93 (.tmp 0), none⟩, ⟨some 2, .v .mv [.const .nilFunc], none⟩])
 (.seq (.reg [
 ⟨some 3, .v (.mkf (.func 135) 0) [.tmp 1], none⟩, ⟨some 2, .v .mv [.tmp 3], none⟩])
 .ret))
def p105 : PFunc := ⟨4, [(2, none)], none, b105⟩
def q106x0 : PCode :=
 (.seq (.reg [
 ⟨some 15, .v (.ib .lss) [.tmp 14, .tmp 13], none⟩])
 (.seq (.cond (.tmp 15)
 .skip
 (.exit 0))
 (.seq (.blk 1
 (.seq (.reg [
 ⟨some 16, .v (.ia 2) [.tmp 12, .tmp 14], none⟩, ⟨some 17, .ld (some 2) (.tmp 16), none⟩, ⟨some 7, .lalloc 121 (.agg #[(.slice none 0 0), (.int .i64 0)]), none⟩, ⟨none, .st 2 (.tmp 7) (.tmp 17), none⟩])
 (.seq (.reg [
 ⟨some 18, .v .mv [.tmp 1], none⟩, ⟨some 19, .ld (some 2) (.tmp 7), none⟩, ⟨some 20, .ld (some 2) (.tmp 5), none⟩, ⟨some 21, .call (.tmp 18) [.tmp 19, .tmp 20], none⟩])
 (.cond (.tmp 21)
 (.reg [
 ⟨some 22, .ld (some 2) (.tmp 7), none⟩, ⟨none, .st 2 (.tmp 5) (.tmp 22), none⟩])
 .skip))))
 (.reg [
 ⟨some 23, .v (.ib .add) [.tmp 14, .const (.int .i64 1)], none⟩, ⟨some 14, .v .mv [.tmp 23], none⟩]))))
def b106 : PCode :=
 (.seq (.reg [
 ⟨some 4, .lalloc 121 (.agg #[(.slice none 0 0), (.int .i64 0)]), none⟩])
 (.seq (.reg [
 ⟨some 8, .v .mv [.tmp 0], none⟩, ⟨some 9, .v (.ia 2) [.tmp 8, .const (.int .i64 0)], none⟩, ⟨some 10, .ld (some 2) (.tmp 9), none⟩, ⟨some 5, .lalloc 121 (.agg #[(.slice none 0 0), (.int .i64 0)]), none⟩, ⟨none, .st 2 (.tmp 5) (.tmp 10), none⟩])
 (.seq (.seq (.reg [
 ⟨some 11, .v .mv [.tmp 0], none⟩, ⟨some 12, .v (.sl 2 true false) [.tmp 11, .const (.int .i64 1)], none⟩, ⟨some 13, .v .len [.tmp 12], none⟩, ⟨some 14, .v .mv [.const (.int .i64 0)], none⟩])
 (.blk 0
 (.loop q106x0)))
 (.seq (.reg [
 ⟨some 24, .ld (some 2) (.tmp 5), none⟩, ⟨none, .st 2 (.tmp 4) (.tmp 24), none⟩])
 .ret))))
def p106 : PFunc := ⟨25, [(4, some (some 2))], none, b106⟩
def b107 : PCode :=
 (.seq (.reg [
 ⟨some 2, .lbox 121 (.tmp 0), none⟩, ⟨some 3, .lbox 121 (.tmp 1), none⟩, ⟨some 4, .v .mv [.const (.bool false)], none⟩])
 (.seq (.reg [
 ⟨some 5, .v (.fa 1) [.tmp 2], none⟩, ⟨some 6, .ld none (.tmp 5), none⟩, ⟨some 7, .v (.fa 1) [.tmp 3], none⟩, ⟨some 8, .ld none (.tmp 7), none⟩, ⟨some 9, .v (.ib .lss) [.tmp 6, .tmp 8], none⟩, ⟨some 4, .v .mv [.tmp 9], none⟩])
 .ret))
def p107 : PFunc := ⟨10, [(4, none)], none, b107⟩
def q108x0 : PCode :=
 (.seq (.reg [
 ⟨some 59, .v (.ib .lss) [.tmp 58, .tmp 57], none⟩])
 (.seq (.cond (.tmp 59)
 .skip
 (.exit 6))
 (.seq (.blk 7
 (.seq (.reg [
 ⟨some 60, .v .mv [.tmp 58], none⟩, ⟨some 13, .v .mv [.tmp 60], none⟩])
 (.reg [
 ⟨some 61, .v .mv [.tmp 9], none⟩, ⟨some 62, .v .mv [.tmp 12], none⟩, ⟨some 63, .v .mv [.tmp 13], none⟩, ⟨some 64, .v .ix [.tmp 62, .tmp 63], none⟩, ⟨some 65, .v (.cv .i64) [.tmp 64], none⟩, ⟨some 66, .v .mv [.tmp 13], none⟩, ⟨some 67, .v (.ib .add) [.tmp 66, .const (.int .i64 1)], none⟩, ⟨some 68, .v (.ib .mul) [.tmp 65, .tmp 67], none⟩, ⟨some 69, .v .mv [.tmp 10], none⟩, ⟨some 70, .v (.ib .add) [.tmp 69, .const (.int .i64 1)], none⟩, ⟨some 71, .v (.ib .mul) [.tmp 68, .tmp 70], none⟩, ⟨some 72, .v (.ib .add) [.tmp 61, .tmp 71], none⟩, ⟨some 9, .v .mv [.tmp 72], none⟩])))
 (.reg [
 ⟨some 73, .v (.ib .add) [.tmp 58, .const (.int .i64 1)], none⟩, ⟨some 58, .v .mv [.tmp 73], none⟩]))))
def q108x1 : PCode :=
 (.seq (.reg [
 ⟨some 50, .v (.ib .lss) [.tmp 49, .tmp 48], none⟩])
 (.seq (.cond (.tmp 50)
 .skip
 (.exit 4))
 (.seq (.blk 5
 (.seq (.reg [
 ⟨some 51, .v .mv [.tmp 49], none⟩, ⟨some 52, .v (.ia 1) [.tmp 47, .tmp 49], none⟩, ⟨some 53, .ld none (.tmp 52), none⟩, ⟨some 10, .v .mv [.tmp 51], none⟩, ⟨some 11, .v .mv [.tmp 53], none⟩])
 (.seq (.reg [
 ⟨some 54, .v .mv [.tmp 11], none⟩, ⟨some 55, .call (.func 140) [.tmp 54], none⟩, ⟨some 12, .v .mv [.tmp 55], none⟩])
 (.seq (.seq (.reg [
 ⟨some 56, .v .mv [.tmp 12], none⟩, ⟨some 57, .v .slen [.tmp 56], none⟩, ⟨some 58, .v .mv [.const (.int .i64 0)], none⟩])
 (.blk 6
 (.loop q108x0)))
 (.reg [
 ⟨some 74, .v .mv [.tmp 8], none⟩, ⟨some 75, .v .mv [.tmp 12], none⟩, ⟨some 76, .v (.sb .add) [.tmp 75, .const (.string ⟨#[10]⟩)], none⟩, ⟨some 77, .v (.sb .add) [.tmp 74, .tmp 76], none⟩, ⟨some 8, .v .mv [.tmp 77], none⟩])))))
 (.reg [
 ⟨some 78, .v (.ib .add) [.tmp 49, .const (.int .i64 1)], none⟩, ⟨some 49, .v .mv [.tmp 78], none⟩]))))
def q108x2 : PCode :=
 (.seq (.reg [
 ⟨some 37, .v (.ib .lss) [.tmp 36, .tmp 35], none⟩])
 (.seq (.cond (.tmp 37)
 .skip
 (.exit 2))
 (.seq (.blk 3
 (.seq (.reg [
 ⟨some 38, .v (.ia 2) [.tmp 34, .tmp 36], none⟩, ⟨some 39, .ld (some 2) (.tmp 38), none⟩, ⟨some 7, .lalloc 51 (.agg #[(.int .i64 0), (.int .i64 0)]), none⟩, ⟨none, .st 2 (.tmp 7) (.tmp 39), none⟩])
 (.reg [
 ⟨some 40, .v .mv [.tmp 3], none⟩, ⟨some 41, .ld (some 2) (.tmp 7), none⟩, ⟨some 42, .v (.bld [(.int .i64 0), (.int .i64 0)] [(0, 2)]) [.tmp 41], none⟩, ⟨some 43, .v (.mki 151) [.tmp 42], none⟩, ⟨some 44, .lbs 153 1 [.nilIface] 1 [(0, .tmp 43)], none⟩, ⟨some 45, .app 153 1 (.tmp 40) (.tmp 44), none⟩, ⟨some 3, .v .mv [.tmp 45], none⟩])))
 (.reg [
 ⟨some 46, .v (.ib .add) [.tmp 36, .const (.int .i64 1)], none⟩, ⟨some 36, .v .mv [.tmp 46], none⟩]))))
def q108x3 : PCode :=
 (.seq (.reg [
 ⟨some 18, .v (.ib .lss) [.tmp 17, .tmp 16], none⟩])
 (.seq (.cond (.tmp 18)
 .skip
 (.exit 0))
 (.seq (.blk 1
 (.seq (.reg [
 ⟨some 19, .v .mv [.tmp 17], none⟩, ⟨some 20, .v (.ia 2) [.tmp 15, .tmp 17], none⟩, ⟨some 21, .ld (some 2) (.tmp 20), none⟩, ⟨some 5, .lalloc 75 (.agg #[(.int .i64 0), (.int .i64 0)]), none⟩, ⟨some 4, .v .mv [.tmp 19], none⟩, ⟨none, .st 2 (.tmp 5) (.tmp 21), none⟩])
 (.dreg [
 ⟨some 22, .v .mv [.tmp 3], none⟩, ⟨some 23, .ld (some 2) (.tmp 5), none⟩, ⟨some 24, .v (.fa 1) [.tmp 1], none⟩, ⟨some 25, .ld none (.tmp 24), none⟩, ⟨some 26, .v .mv [.tmp 4], none⟩, ⟨some 27, .call (.func 126) [.tmp 25, .tmp 26], none⟩, ⟨some 28, .v (.bld [(.int .i64 0), (.int .i64 0), (.bool false)] [(0, 2), (2, 1)]) [.tmp 23, .tmp 27], none⟩, ⟨some 29, .v (.mki 149) [.tmp 28], none⟩, ⟨some 30, .lbs 153 1 [.nilIface] 1 [(0, .tmp 29)], none⟩, ⟨some 31, .app 153 1 (.tmp 22) (.tmp 30), none⟩, ⟨some 3, .v .mv [.tmp 31], none⟩] [⟨0, false, false⟩, ⟨7, false, false⟩, ⟨0, true, false⟩, ⟨3, true, false⟩, ⟨0, true, false⟩, ⟨1, true, false⟩, ⟨0, true, false⟩, ⟨0, true, false⟩, ⟨32, true, false⟩, ⟨1, true, true⟩, ⟨0, true, true⟩])))
 (.reg [
 ⟨some 32, .v (.ib .add) [.tmp 17, .const (.int .i64 1)], none⟩, ⟨some 17, .v .mv [.tmp 32], none⟩]))))
def b108 : PCode :=
 (.seq (.reg [
 ⟨some 1, .lbox 26 (.tmp 0), none⟩, ⟨some 2, .v .mv [.const (.string ⟨#[]⟩)], none⟩])
 (.seq (.reg [
 ⟨some 3, .v .mv [.const (.slice none 0 0)], none⟩])
 (.seq (.seq (.reg [
 ⟨some 14, .v (.fa 0) [.tmp 1], none⟩, ⟨some 15, .ld none (.tmp 14), none⟩, ⟨some 16, .v .len [.tmp 15], none⟩, ⟨some 17, .v .mv [.const (.int .i64 0)], none⟩])
 (.blk 0
 (.loop q108x3)))
 (.seq (.seq (.reg [
 ⟨some 33, .v (.fa 2) [.tmp 1], none⟩, ⟨some 34, .ld none (.tmp 33), none⟩, ⟨some 35, .v .len [.tmp 34], none⟩, ⟨some 36, .v .mv [.const (.int .i64 0)], none⟩])
 (.blk 2
 (.loop q108x2)))
 (.seq (.reg [
 ⟨some 8, .v .mv [.const (.string ⟨#[]⟩)], none⟩, ⟨some 9, .v .mv [.const (.int .i64 0)], none⟩])
 (.seq (.seq (.reg [
 ⟨some 47, .v .mv [.tmp 3], none⟩, ⟨some 48, .v .len [.tmp 47], none⟩, ⟨some 49, .v .mv [.const (.int .i64 0)], none⟩])
 (.blk 4
 (.loop q108x1)))
 (.seq (.reg [
 ⟨some 79, .v .mv [.tmp 9], none⟩, ⟨some 80, .v (.ib .rem) [.tmp 79, .const (.int .i64 181)], none⟩, ⟨some 9, .v .mv [.tmp 80], none⟩])
 (.seq (.reg [
 ⟨some 81, .v .mv [.tmp 8], none⟩, ⟨some 82, .v (.sb .add) [.tmp 81, .const (.string ⟨#[101, 110, 100, 32]⟩)], none⟩, ⟨some 83, .v .mv [.tmp 9], none⟩, ⟨some 84, .v (.ib .quo) [.tmp 83, .const (.int .i64 100)], none⟩, ⟨some 85, .call (.func 141) [.tmp 84], none⟩, ⟨some 86, .v (.sb .add) [.tmp 82, .tmp 85], none⟩, ⟨some 87, .v .mv [.tmp 9], none⟩, ⟨some 88, .v (.ib .quo) [.tmp 87, .const (.int .i64 10)], none⟩, ⟨some 89, .v (.ib .rem) [.tmp 88, .const (.int .i64 10)], none⟩, ⟨some 90, .call (.func 141) [.tmp 89], none⟩, ⟨some 91, .v (.sb .add) [.tmp 86, .tmp 90], none⟩, ⟨some 92, .v .mv [.tmp 9], none⟩, ⟨some 93, .v (.ib .rem) [.tmp 92, .const (.int .i64 10)], none⟩, ⟨some 94, .call (.func 141) [.tmp 93], none⟩, ⟨some 95, .v (.sb .add) [.tmp 91, .tmp 94], none⟩, ⟨some 96, .v (.sb .add) [.tmp 95, .const (.string ⟨#[10]⟩)], none⟩, ⟨some 2, .v .mv [.tmp 96], none⟩])
 .ret))))))))
def p108 : PFunc := ⟨97, [(2, none)], none, b108⟩
def b109 : PCode :=
 (.seq (.reg [
 ⟨some 2, .alloc 100 (.agg #[(.int .i64 0), (.int .i64 0)]), none⟩, ⟨some 3, .alloc 29 (.int .i64 0), none⟩])
 (.seq (.reg [
 ⟨some 4, .v (.mkf (.func 142) 0) [.tmp 2, .tmp 3], none⟩, ⟨none, .dfr (.tmp 4) [], none⟩])
 (.seq (.reg [
 ⟨some 5, .v .mv [.tmp 0], none⟩, ⟨some 6, .call (.tmp 5) [], none⟩])
 (.seq (.reg [
 ⟨some 7, .v (.bld [(.int .i64 0), (.int .i64 0)] []) [], none⟩, ⟨none, .st 2 (.tmp 2) (.tmp 7), none⟩, ⟨none, .st 1 (.tmp 3) (.const (.int .i64 0)), none⟩])
 .ret))))
def p109 : PFunc := ⟨8, [(2, some (some 2)), (3, some none)], none, b109⟩
def b110 : PCode :=
 (.reg [
 ⟨some 2, .ld none (.tmp 0), none⟩, ⟨some 3, .call (.func 111) [.tmp 2], none⟩, ⟨none, .st 3 (.tmp 1) (.tmp 3), none⟩])
def p110 : PFunc := ⟨4, [], none, b110⟩
def q111x0 : PCode :=
 (.seq (.reg [
 ⟨some 22, .v (.ib .lss) [.tmp 21, .tmp 20], none⟩])
 (.seq (.cond (.tmp 22)
 .skip
 (.exit 0))
 (.seq (.blk 1
 (.seq (.reg [
 ⟨some 23, .v (.ia 1) [.tmp 19, .tmp 21], none⟩, ⟨some 24, .ld none (.tmp 23), none⟩, ⟨some 6, .v .mv [.tmp 24], none⟩])
 (.seq (.reg [
 ⟨some 25, .v .mv [.tmp 6], none⟩, ⟨some 26, .call (.func 143) [.tmp 25, .const (.string ⟨#[32]⟩)], none⟩, ⟨some 7, .v .mv [.tmp 26], none⟩])
 (.blk 2
 (.seq (.reg [
 ⟨some 30, .v .mv [.tmp 7], none⟩, ⟨some 31, .v (.ia 1) [.tmp 30, .const (.int .i64 0)], none⟩, ⟨some 32, .ld none (.tmp 31), none⟩, ⟨some 33, .v (.sb .eql) [.tmp 32, .const (.string ⟨#[100, 97, 121]⟩)], none⟩, ⟨some 34, .v .mv [.tmp 33], none⟩, ⟨some 35, .v .mv [.tmp 7], some (34, true)⟩,
 ⟨some 36, .v .len [.tmp 35], some (34, true)⟩,
 ⟨some 37, .v (.bld [(.int .i64 0), (.int .i64 0), (.bool false)] []) [], some (34, true)⟩,
 ⟨some 38, .call (.func 145) [.tmp 37], some (34, true)⟩,
 ⟨some 39, .v (.ib .eql) [.tmp 36, .tmp 38], some (34, true)⟩,
 ⟨some 40, .v .pick [.tmp 34, .tmp 39, .const (.bool false)], none⟩, ⟨some 29, .v .mv [.tmp 40], none⟩])
 (.cond (.tmp 29)
 (.seq (.seq (.reg [
 ⟨some 41, .v .mv [.tmp 7], none⟩, ⟨some 42, .v (.ia 1) [.tmp 41, .const (.int .i64 3)], none⟩, ⟨some 43, .ld none (.tmp 42), none⟩, ⟨some 44, .v (.sb .eql) [.tmp 43, .const (.string ⟨#[121, 101, 115]⟩)], none⟩])
 (.cond (.tmp 44)
 (.reg [
 ⟨some 45, .v (.fa 1) [.tmp 4], none⟩, ⟨some 46, .ld none (.tmp 45), none⟩, ⟨some 47, .v (.fa 0) [.tmp 4], none⟩, ⟨some 48, .ld none (.tmp 47), none⟩, ⟨some 49, .v .len [.tmp 48], none⟩, ⟨some 50, .lbs 3 1 [(.int .i64 0)] 1 [(0, .tmp 49)], none⟩, ⟨some 51, .app 3 1 (.tmp 46) (.tmp 50), none⟩, ⟨some 52, .v (.fa 1) [.tmp 4], none⟩, ⟨none, .st 1 (.tmp 52) (.tmp 51), none⟩])
 .skip))
 (.dreg [
 ⟨some 53, .v (.fa 0) [.tmp 4], none⟩, ⟨some 54, .ld none (.tmp 53), none⟩, ⟨some 55, .v .mv [.tmp 7], none⟩, ⟨some 56, .v (.ia 1) [.tmp 55, .const (.int .i64 1)], none⟩, ⟨some 57, .ld none (.tmp 56), none⟩, ⟨some 58, .call (.func 146) [.tmp 57], none⟩, ⟨some 59, .v .mv [.tmp 7], none⟩, ⟨some 60, .v (.ia 1) [.tmp 59, .const (.int .i64 2)], none⟩, ⟨some 61, .ld none (.tmp 60), none⟩, ⟨some 62, .call (.func 146) [.tmp 61], none⟩, ⟨some 63, .v (.bld [(.int .i64 0), (.int .i64 0)] [(0, 1), (1, 1)]) [.tmp 58, .tmp 62], none⟩, ⟨some 64, .lbs 75 2 [(.int .i64 0), (.int .i64 0)] 1 [(0, .tmp 63)], none⟩, ⟨some 65, .app 75 2 (.tmp 54) (.tmp 64), none⟩, ⟨some 66, .v (.fa 0) [.tmp 4], none⟩, ⟨none, .st 1 (.tmp 66) (.tmp 65), none⟩] [⟨0, false, false⟩, ⟨6, false, false⟩, ⟨0, false, false⟩, ⟨0, false, false⟩, ⟨1, false, false⟩, ⟨1, false, false⟩, ⟨0, false, false⟩, ⟨0, false, false⟩, ⟨1, false, false⟩, ⟨1, true, false⟩, ⟨0, true, false⟩, ⟨66, true, false⟩, ⟨1, true, true⟩, ⟨0, true, true⟩, ⟨6, true, true⟩]))
 (.seq (.reg [
 ⟨some 68, .v .mv [.tmp 7], none⟩, ⟨some 69, .v (.ia 1) [.tmp 68, .const (.int .i64 0)], none⟩, ⟨some 70, .ld none (.tmp 69), none⟩, ⟨some 71, .v (.sb .eql) [.tmp 70, .const (.string ⟨#[99, 111, 97, 116]⟩)], none⟩, ⟨some 72, .v .mv [.tmp 71], none⟩, ⟨some 73, .v .mv [.tmp 7], some (72, true)⟩,
 ⟨some 74, .v .len [.tmp 73], some (72, true)⟩,
 ⟨some 75, .v (.bld [(.int .i64 0), (.int .i64 0)] []) [], some (72, true)⟩,
 ⟨some 76, .call (.func 147) [.tmp 75], some (72, true)⟩,
 ⟨some 77, .v (.ib .eql) [.tmp 74, .tmp 76], some (72, true)⟩,
 ⟨some 78, .v .pick [.tmp 72, .tmp 77, .const (.bool false)], none⟩, ⟨some 67, .v .mv [.tmp 78], none⟩])
 (.cond (.tmp 67)
 (.dreg [
 ⟨some 79, .v (.fa 2) [.tmp 4], none⟩, ⟨some 80, .ld none (.tmp 79), none⟩, ⟨some 81, .v .mv [.tmp 7], none⟩, ⟨some 82, .v (.ia 1) [.tmp 81, .const (.int .i64 1)], none⟩, ⟨some 83, .ld none (.tmp 82), none⟩, ⟨some 84, .call (.func 146) [.tmp 83], none⟩, ⟨some 85, .v .mv [.tmp 7], none⟩, ⟨some 86, .v (.ia 1) [.tmp 85, .const (.int .i64 2)], none⟩, ⟨some 87, .ld none (.tmp 86), none⟩, ⟨some 88, .call (.func 146) [.tmp 87], none⟩, ⟨some 89, .v (.bld [(.int .i64 0), (.int .i64 0)] [(0, 1), (1, 1)]) [.tmp 84, .tmp 88], none⟩, ⟨some 90, .lbs 51 2 [(.int .i64 0), (.int .i64 0)] 1 [(0, .tmp 89)], none⟩, ⟨some 91, .app 51 2 (.tmp 80) (.tmp 90), none⟩, ⟨some 92, .v (.fa 2) [.tmp 4], none⟩, ⟨none, .st 1 (.tmp 92) (.tmp 91), none⟩] [⟨0, false, false⟩, ⟨6, false, false⟩, ⟨0, false, false⟩, ⟨0, false, false⟩, ⟨1, false, false⟩, ⟨1, false, false⟩, ⟨0, false, false⟩, ⟨0, false, false⟩, ⟨1, false, false⟩, ⟨1, true, false⟩, ⟨0, true, false⟩, ⟨92, true, false⟩, ⟨1, true, true⟩, ⟨0, true, true⟩, ⟨6, true, true⟩])
 (.reg [
 ⟨some 27, .v .mv [.tmp 6], none⟩, ⟨some 28, .call (.func 144) [.const (.bool false), .tmp 27], none⟩])))))))))
 (.reg [
 ⟨some 93, .v (.ib .add) [.tmp 21, .const (.int .i64 1)], none⟩, ⟨some 21, .v .mv [.tmp 93], none⟩]))))
def b111 : PCode :=
 (.seq (.reg [
 ⟨some 2, .lalloc 26 (.agg #[(.slice none 0 0), (.slice none 0 0), (.slice none 0 0)]), none⟩])
 (.seq (.reg [
 ⟨some 8, .v .mv [.tmp 0], none⟩, ⟨some 9, .call (.func 143) [.tmp 8, .const (.string ⟨#[10]⟩)], none⟩, ⟨some 3, .v .mv [.tmp 9], none⟩])
 (.seq (.reg [
 ⟨some 10, .v .mv [.tmp 3], none⟩, ⟨some 11, .v .len [.tmp 10], none⟩, ⟨some 12, .v (.ib .geq) [.tmp 11, .const (.int .i64 2)], none⟩, ⟨some 13, .v .mv [.tmp 0], none⟩, ⟨some 14, .call (.func 144) [.tmp 12, .tmp 13], none⟩])
 (.seq (.reg [
 ⟨some 4, .lalloc 26 (.agg #[(.slice none 0 0), (.slice none 0 0), (.slice none 0 0)]), none⟩])
 (.seq (.seq (.reg [
 ⟨some 15, .v .mv [.tmp 3], none⟩, ⟨some 16, .v .mv [.tmp 3], none⟩, ⟨some 17, .v .len [.tmp 16], none⟩, ⟨some 18, .v (.ib .sub) [.tmp 17, .const (.int .i64 2)], none⟩, ⟨some 19, .v (.sl 1 false true) [.tmp 15, .tmp 18], none⟩, ⟨some 20, .v .len [.tmp 19], none⟩, ⟨some 21, .v .mv [.const (.int .i64 0)], none⟩])
 (.blk 0
 (.loop q111x0)))
 (.seq (.reg [
 ⟨some 94, .ld (some 3) (.tmp 4), none⟩, ⟨some 95, .call (.func 108) [.tmp 94], none⟩, ⟨some 96, .v .mv [.tmp 0], none⟩, ⟨some 97, .v (.sb .eql) [.tmp 95, .tmp 96], none⟩, ⟨some 98, .v .mv [.tmp 0], none⟩, ⟨some 99, .call (.func 144) [.tmp 97, .tmp 98], none⟩])
 (.seq (.reg [
 ⟨some 100, .ld (some 3) (.tmp 4), none⟩, ⟨none, .st 3 (.tmp 2) (.tmp 100), none⟩])
 .ret)))))))
def p111 : PFunc := ⟨101, [(2, some (some 3))], none, b111⟩
def q112x0 : PCode :=
 (.seq (.seq (.reg [
 ⟨some 6, .v .mv [.tmp 5], none⟩, ⟨some 7, .v .mv [.tmp 1], none⟩, ⟨some 8, .v .len [.tmp 7], none⟩, ⟨some 9, .v (.ib .lss) [.tmp 6, .tmp 8], none⟩])
 (.cond (.tmp 9)
 .skip
 (.exit 0)))
 (.seq (.blk 1
 (.reg [
 ⟨some 12, .v .mv [.tmp 0], none⟩, ⟨some 13, .v (.sb .add) [.tmp 12, .const (.string ⟨#[32]⟩)], none⟩, ⟨some 14, .v .mv [.tmp 1], none⟩, ⟨some 15, .v .mv [.tmp 5], none⟩, ⟨some 16, .v (.ia 1) [.tmp 14, .tmp 15], none⟩, ⟨some 17, .ld none (.tmp 16), none⟩, ⟨some 18, .call (.func 148) [.tmp 17], none⟩, ⟨some 19, .v (.sb .add) [.tmp 13, .tmp 18], none⟩, ⟨some 0, .v .mv [.tmp 19], none⟩]))
 (.reg [
 ⟨some 10, .v .mv [.tmp 5], none⟩, ⟨some 11, .v (.ib .add) [.tmp 10, .const (.int .i64 1)], none⟩, ⟨some 5, .v .mv [.tmp 11], none⟩])))
def b112 : PCode :=
 (.seq (.reg [
 ⟨some 4, .v .mv [.const (.string ⟨#[]⟩)], none⟩])
 (.seq (.seq (.reg [
 ⟨some 5, .v .mv [.const (.int .i64 0)], none⟩])
 (.blk 0
 (.loop q112x0)))
 (.seq (.reg [
 ⟨some 20, .v .mv [.tmp 0], none⟩, ⟨some 4, .v .mv [.tmp 20], none⟩])
 .ret)))
def p112 : PFunc := ⟨21, [(4, none)], none, b112⟩
def q113x0 : PCode :=
 (.seq (.seq (.reg [
 ⟨some 15, .v .mv [.tmp 8], none⟩, ⟨some 16, .v .mv [.tmp 0], none⟩, ⟨some 17, .v .mv [.tmp 7], none⟩, ⟨some 18, .v (.ia 1) [.tmp 16, .tmp 17], none⟩, ⟨some 19, .ld none (.tmp 18), none⟩, ⟨some 20, .v .slen [.tmp 19], none⟩, ⟨some 21, .v (.ib .lss) [.tmp 15, .tmp 20], none⟩])
 (.cond (.tmp 21)
 .skip
 (.exit 2)))
 (.seq (.blk 3
 (.reg [
 ⟨some 24, .v .mv [.tmp 6], none⟩, ⟨some 25, .v .mv [.tmp 0], none⟩, ⟨some 26, .v .mv [.tmp 7], none⟩, ⟨some 27, .v (.ia 1) [.tmp 25, .tmp 26], none⟩, ⟨some 28, .ld none (.tmp 27), none⟩, ⟨some 29, .v .mv [.tmp 8], none⟩, ⟨some 30, .v .ix [.tmp 28, .tmp 29], none⟩, ⟨some 31, .v (.cv .i64) [.tmp 30], none⟩, ⟨some 32, .v .mv [.tmp 8], none⟩, ⟨some 33, .v (.ib .add) [.tmp 32, .const (.int .i64 1)], none⟩, ⟨some 34, .v (.ib .mul) [.tmp 31, .tmp 33], none⟩, ⟨some 35, .v .mv [.tmp 7], none⟩, ⟨some 36, .v (.ib .add) [.tmp 35, .const (.int .i64 1)], none⟩, ⟨some 37, .v (.ib .mul) [.tmp 34, .tmp 36], none⟩, ⟨some 38, .v (.ib .add) [.tmp 24, .tmp 37], none⟩, ⟨some 6, .v .mv [.tmp 38], none⟩]))
 (.reg [
 ⟨some 22, .v .mv [.tmp 8], none⟩, ⟨some 23, .v (.ib .add) [.tmp 22, .const (.int .i64 1)], none⟩, ⟨some 8, .v .mv [.tmp 23], none⟩])))
def q113x1 : PCode :=
 (.seq (.seq (.reg [
 ⟨some 9, .v .mv [.tmp 7], none⟩, ⟨some 10, .v .mv [.tmp 0], none⟩, ⟨some 11, .v .len [.tmp 10], none⟩, ⟨some 12, .v (.ib .lss) [.tmp 9, .tmp 11], none⟩])
 (.cond (.tmp 12)
 .skip
 (.exit 0)))
 (.seq (.blk 1
 (.seq (.seq (.reg [
 ⟨some 8, .v .mv [.const (.int .i64 0)], none⟩])
 (.blk 2
 (.loop q113x0)))
 (.reg [
 ⟨some 39, .v .mv [.tmp 5], none⟩, ⟨some 40, .v .mv [.tmp 0], none⟩, ⟨some 41, .v .mv [.tmp 7], none⟩, ⟨some 42, .v (.ia 1) [.tmp 40, .tmp 41], none⟩, ⟨some 43, .ld none (.tmp 42), none⟩, ⟨some 44, .v (.sb .add) [.tmp 39, .tmp 43], none⟩, ⟨some 45, .v (.sb .add) [.tmp 44, .const (.string ⟨#[10]⟩)], none⟩, ⟨some 5, .v .mv [.tmp 45], none⟩])))
 (.reg [
 ⟨some 13, .v .mv [.tmp 7], none⟩, ⟨some 14, .v (.ib .add) [.tmp 13, .const (.int .i64 1)], none⟩, ⟨some 7, .v .mv [.tmp 14], none⟩])))
def b113 : PCode :=
 (.seq (.reg [
 ⟨some 4, .v .mv [.const (.string ⟨#[]⟩)], none⟩])
 (.seq (.reg [
 ⟨some 5, .v .mv [.const (.string ⟨#[]⟩)], none⟩, ⟨some 6, .v .mv [.const (.int .i64 0)], none⟩])
 (.seq (.seq (.reg [
 ⟨some 7, .v .mv [.const (.int .i64 0)], none⟩])
 (.blk 0
 (.loop q113x1)))
 (.seq (.reg [
 ⟨some 46, .v .mv [.tmp 6], none⟩, ⟨some 47, .v .mv [.tmp 1], none⟩, ⟨some 48, .v (.ib .rem) [.tmp 46, .tmp 47], none⟩, ⟨some 6, .v .mv [.tmp 48], none⟩])
 (.seq (.reg [
 ⟨some 49, .v .mv [.tmp 5], none⟩, ⟨some 50, .v (.sb .add) [.tmp 49, .const (.string ⟨#[101, 110, 100, 32]⟩)], none⟩, ⟨some 51, .v .mv [.tmp 6], none⟩, ⟨some 52, .v (.ib .quo) [.tmp 51, .const (.int .i64 100)], none⟩, ⟨some 53, .call (.func 148) [.tmp 52], none⟩, ⟨some 54, .v (.sb .add) [.tmp 50, .tmp 53], none⟩, ⟨some 55, .v .mv [.tmp 6], none⟩, ⟨some 56, .v (.ib .quo) [.tmp 55, .const (.int .i64 10)], none⟩, ⟨some 57, .v (.ib .rem) [.tmp 56, .const (.int .i64 10)], none⟩, ⟨some 58, .call (.func 148) [.tmp 57], none⟩, ⟨some 59, .v (.sb .add) [.tmp 54, .tmp 58], none⟩, ⟨some 60, .v .mv [.tmp 6], none⟩, ⟨some 61, .v (.ib .rem) [.tmp 60, .const (.int .i64 10)], none⟩, ⟨some 62, .call (.func 148) [.tmp 61], none⟩, ⟨some 63, .v (.sb .add) [.tmp 59, .tmp 62], none⟩, ⟨some 64, .v (.sb .add) [.tmp 63, .const (.string ⟨#[10]⟩)], none⟩, ⟨some 4, .v .mv [.tmp 64], none⟩])
 .ret)))))
def p113 : PFunc := ⟨65, [(4, none)], none, b113⟩
def b116 : PCode :=
 (.seq (.reg [
 ⟨some 4, .lalloc 75 (.agg #[(.int .i64 0), (.int .i64 0)]), none⟩])
 (.seq (.reg [
 ⟨some 5, .v .mv [.tmp 0], none⟩, ⟨some 6, .v .mv [.tmp 1], none⟩, ⟨some 7, .v (.bld [(.int .i64 0), (.int .i64 0)] [(0, 1), (1, 1)]) [.tmp 5, .tmp 6], none⟩, ⟨none, .st 2 (.tmp 4) (.tmp 7), none⟩])
 .ret))
def p116 : PFunc := ⟨8, [(4, some (some 2))], none, b116⟩
def b117 : PCode :=
 (.seq (.reg [
 ⟨some 1, .lbox 75 (.tmp 0), none⟩, ⟨some 2, .v .mv [.const (.bool false)], none⟩])
 (.seq (.reg [
 ⟨some 3, .v (.fa 0) [.tmp 1], none⟩, ⟨some 4, .ld none (.tmp 3), none⟩, ⟨some 5, .call (.func 118) [.tmp 4, .const (.int .i64 0), .const (.int .i64 24)], none⟩, ⟨some 6, .v .no [.tmp 5], none⟩, ⟨some 7, .v .mv [.tmp 6], none⟩, ⟨some 8, .v (.fa 1) [.tmp 1], some (7, false)⟩,
 ⟨some 9, .ld none (.tmp 8), some (7, false)⟩,
 ⟨some 10, .v (.fa 0) [.tmp 1], some (7, false)⟩,
 ⟨some 11, .ld none (.tmp 10), some (7, false)⟩,
 ⟨some 12, .call (.func 118) [.tmp 9, .tmp 11, .const (.int .i64 24)], some (7, false)⟩,
 ⟨some 13, .v .no [.tmp 12], some (7, false)⟩,
 ⟨some 14, .v .pick [.tmp 7, .const (.bool true), .tmp 13], none⟩, ⟨some 2, .v .mv [.tmp 14], none⟩])
 .ret))
def p117 : PFunc := ⟨15, [(2, none)], none, b117⟩
def b118 : PCode :=
 (.seq (.reg [
 ⟨some 6, .v .mv [.const (.bool false)], none⟩])
 (.seq (.reg [
 ⟨some 7, .v .mv [.tmp 0], none⟩, ⟨some 8, .v .mv [.tmp 1], none⟩, ⟨some 9, .v (.ib .geq) [.tmp 7, .tmp 8], none⟩, ⟨some 10, .v .mv [.tmp 9], none⟩, ⟨some 11, .v .mv [.tmp 0], some (10, true)⟩,
 ⟨some 12, .v .mv [.tmp 2], some (10, true)⟩,
 ⟨some 13, .v (.ib .leq) [.tmp 11, .tmp 12], some (10, true)⟩,
 ⟨some 14, .v .pick [.tmp 10, .tmp 13, .const (.bool false)], none⟩, ⟨some 6, .v .mv [.tmp 14], none⟩])
 .ret))
def p118 : PFunc := ⟨15, [(6, none)], none, b118⟩
def b119 : PCode :=
 (.seq (.reg [
 ⟨some 1, .lbox 51 (.tmp 0), none⟩, ⟨some 2, .v .mv [.const (.bool false)], none⟩])
 (.seq (.reg [
 ⟨some 3, .v (.fa 0) [.tmp 1], none⟩, ⟨some 4, .ld none (.tmp 3), none⟩, ⟨some 5, .call (.func 118) [.tmp 4, .const (.int .i64 1), .const (.int .i64 288)], none⟩, ⟨some 6, .v .no [.tmp 5], none⟩, ⟨some 7, .v .mv [.tmp 6], none⟩, ⟨some 8, .v (.fa 1) [.tmp 1], some (7, false)⟩,
 ⟨some 9, .ld none (.tmp 8), some (7, false)⟩,
 ⟨some 10, .v (.fa 0) [.tmp 1], some (7, false)⟩,
 ⟨some 11, .ld none (.tmp 10), some (7, false)⟩,
 ⟨some 12, .call (.func 118) [.tmp 9, .tmp 11, .const (.int .i64 400)], some (7, false)⟩,
 ⟨some 13, .v .no [.tmp 12], some (7, false)⟩,
 ⟨some 14, .v .pick [.tmp 7, .const (.bool true), .tmp 13], none⟩, ⟨some 2, .v .mv [.tmp 14], none⟩])
 .ret))
def p119 : PFunc := ⟨15, [(2, none)], none, b119⟩
def b120 : PCode :=
 (.seq (.reg [
 ⟨some 4, .v .mv [.const (.bool false)], none⟩])
 (.seq (.reg [
 ⟨some 5, .v .mv [.tmp 0], none⟩, ⟨some 6, .v .mv [.tmp 1], none⟩, ⟨some 7, .call (.func 150) [.tmp 5, .tmp 6], none⟩, ⟨some 8, .v (.ib .geq) [.tmp 7, .const (.int .i64 0)], none⟩, ⟨some 4, .v .mv [.tmp 8], none⟩])
 .ret))
def p120 : PFunc := ⟨9, [(4, none)], none, b120⟩
def b121 : PCode :=
 (.seq (.reg [
 ⟨some 4, .v .mv [.const (.bool false)], none⟩])
 (.seq (.reg [
 ⟨some 5, .v .mv [.tmp 0], none⟩, ⟨some 6, .v .mv [.tmp 1], none⟩, ⟨some 7, .call (.func 151) [.tmp 5, .tmp 6], none⟩, ⟨some 8, .v (.ib .geq) [.tmp 7, .const (.int .i64 0)], none⟩, ⟨some 4, .v .mv [.tmp 8], none⟩])
 .ret))
def p121 : PFunc := ⟨9, [(4, none)], none, b121⟩
def q122x0 : PCode :=
 (.seq (.reg [
 ⟨some 8, .v (.ib .lss) [.tmp 7, .tmp 6], none⟩])
 (.seq (.cond (.tmp 8)
 .skip
 (.exit 0))
 (.seq (.blk 1
 (.seq (.reg [
 ⟨some 9, .v .mv [.tmp 7], none⟩, ⟨some 10, .v (.ia 1) [.tmp 5, .tmp 7], none⟩, ⟨some 11, .ld none (.tmp 10), none⟩, ⟨some 3, .v .mv [.tmp 9], none⟩, ⟨some 4, .v .mv [.tmp 11], none⟩])
 (.seq (.reg [
 ⟨some 12, .v .mv [.tmp 3], none⟩, ⟨some 13, .v (.ib .gtr) [.tmp 12, .const (.int .i64 0)], none⟩, ⟨some 14, .v .mv [.tmp 13], none⟩, ⟨some 15, .v .mv [.tmp 4], some (14, true)⟩,
 ⟨some 16, .v .mv [.tmp 0], some (14, true)⟩,
 ⟨some 17, .v .mv [.tmp 3], some (14, true)⟩,
 ⟨some 18, .v (.ib .sub) [.tmp 17, .const (.int .i64 1)], some (14, true)⟩,
 ⟨some 19, .v (.ia 1) [.tmp 16, .tmp 18], some (14, true)⟩,
 ⟨some 20, .ld none (.tmp 19), some (14, true)⟩,
 ⟨some 21, .v (.ib .leq) [.tmp 15, .tmp 20], some (14, true)⟩,
 ⟨some 22, .v .pick [.tmp 14, .tmp 21, .const (.bool false)], none⟩])
 (.cond (.tmp 22)
 (.seq (.reg [
 ⟨some 2, .v .mv [.const (.bool false)], none⟩])
 .ret)
 .skip))))
 (.reg [
 ⟨some 23, .v (.ib .add) [.tmp 7, .const (.int .i64 1)], none⟩, ⟨some 7, .v .mv [.tmp 23], none⟩]))))
def b122 : PCode :=
 (.seq (.reg [
 ⟨some 2, .v .mv [.const (.bool false)], none⟩])
 (.seq (.seq (.reg [
 ⟨some 5, .v .mv [.tmp 0], none⟩, ⟨some 6, .v .len [.tmp 5], none⟩, ⟨some 7, .v .mv [.const (.int .i64 0)], none⟩])
 (.blk 0
 (.loop q122x0)))
 (.seq (.reg [
 ⟨some 2, .v .mv [.const (.bool true)], none⟩])
 .ret)))
def p122 : PFunc := ⟨24, [(2, none)], none, b122⟩
def b123 : PCode :=
 (.seq (.reg [
 ⟨some 4, .v .mv [.const (.bool false)], none⟩])
 (.seq (.reg [
 ⟨some 5, .v .mv [.tmp 0], none⟩, ⟨some 6, .v .mv [.tmp 1], none⟩, ⟨some 7, .call (.func 152) [.tmp 5, .tmp 6], none⟩, ⟨some 8, .v (.ib .geq) [.tmp 7, .const (.int .i64 0)], none⟩, ⟨some 4, .v .mv [.tmp 8], none⟩])
 .ret))
def p123 : PFunc := ⟨9, [(4, none)], none, b123⟩
def b124 : PCode :=
 (.seq (.reg [
 ⟨some 3, .v .mv [.const (.bool false)], none⟩])
 (.seq (.reg [
 ⟨some 4, .ld (some 3) (.tmp 1), none⟩, ⟨some 5, .v .mv [.tmp 0], none⟩, ⟨some 6, .call (.func 104) [.tmp 4, .tmp 5], none⟩, ⟨some 7, .v .no [.tmp 6], none⟩, ⟨some 3, .v .mv [.tmp 7], none⟩])
 .ret))
def p124 : PFunc := ⟨8, [(3, none)], none, b124⟩
def b125 : PCode :=
 (.seq (.reg [
 ⟨some 3, .v .mv [.const (.bool false)], none⟩])
 (.seq (.reg [
 ⟨some 4, .v (.fa 1) [.tmp 1], none⟩, ⟨some 5, .ld none (.tmp 4), none⟩, ⟨some 6, .v .mv [.tmp 0], none⟩, ⟨some 7, .call (.func 126) [.tmp 5, .tmp 6], none⟩, ⟨some 8, .v .no [.tmp 7], none⟩, ⟨some 3, .v .mv [.tmp 8], none⟩])
 .ret))
def p125 : PFunc := ⟨9, [(3, none)], none, b125⟩
def b126 : PCode :=
 (.seq (.reg [
 ⟨some 4, .v .mv [.const (.bool false)], none⟩])
 (.seq (.reg [
 ⟨some 5, .v .mv [.tmp 0], none⟩, ⟨some 6, .v .mv [.tmp 1], none⟩, ⟨some 7, .call (.func 153) [.tmp 5, .tmp 6], none⟩, ⟨some 8, .v (.ib .geq) [.tmp 7, .const (.int .i64 0)], none⟩, ⟨some 4, .v .mv [.tmp 8], none⟩])
 .ret))
def p126 : PFunc := ⟨9, [(4, none)], none, b126⟩
def q127x0 : PCode :=
 (.seq (.reg [
 ⟨some 9, .v (.ib .lss) [.tmp 8, .tmp 7], none⟩])
 (.seq (.cond (.tmp 9)
 .skip
 (.exit 0))
 (.seq (.blk 1
 (.seq (.reg [
 ⟨some 10, .v .mv [.tmp 8], none⟩, ⟨some 11, .v (.ia 1) [.tmp 6, .tmp 8], none⟩, ⟨some 12, .ld none (.tmp 11), none⟩, ⟨some 2, .v .mv [.tmp 10], none⟩, ⟨some 3, .v .mv [.tmp 12], none⟩])
 (.seq (.reg [
 ⟨some 14, .ld (some 5) (.tmp 1), none⟩, ⟨some 15, .ld none (.tmp 0), none⟩, ⟨some 16, .v .mv [.tmp 2], none⟩, ⟨some 17, .call (.func 79) [.tmp 14, .tmp 15, .tmp 16], none⟩, ⟨some 13, .v .mv [.tmp 17], none⟩, ⟨some 18, .v (.ext 0) [.tmp 13], none⟩, ⟨some 19, .v (.ext 1) [.tmp 13], none⟩, ⟨some 4, .v .mv [.tmp 18], none⟩, ⟨some 5, .v .mv [.tmp 19], none⟩])
 (.reg [
 ⟨some 20, .ld (some 5) (.tmp 1), none⟩, ⟨some 21, .v .mv [.tmp 2], none⟩, ⟨some 22, .v .mv [.tmp 3], none⟩, ⟨some 23, .v .mv [.tmp 4], none⟩, ⟨some 24, .v .mv [.tmp 5], none⟩, ⟨some 25, .call (.func 128) [.tmp 20, .tmp 21, .tmp 22, .tmp 23, .tmp 24], none⟩]))))
 (.reg [
 ⟨some 26, .v (.ib .add) [.tmp 8, .const (.int .i64 1)], none⟩, ⟨some 8, .v .mv [.tmp 26], none⟩]))))
def b127 : PCode :=
 (.seq (.reg [
 ⟨some 6, .ld none (.tmp 0), none⟩, ⟨some 7, .v .len [.tmp 6], none⟩, ⟨some 8, .v .mv [.const (.int .i64 0)], none⟩])
 (.blk 0
 (.loop q127x0)))
def p127 : PFunc := ⟨27, [], none, b127⟩
def b128 : PCode :=
 (.seq (.reg [
 ⟨some 5, .lbox 93 (.tmp 0), none⟩])
 (.seq (.dreg [
 ⟨some 12, .ld (some 5) (.tmp 5), none⟩, ⟨some 13, .v .mv [.tmp 2], none⟩, ⟨some 14, .v .mv [.tmp 3], none⟩, ⟨some 15, .call (.func 86) [.tmp 12, .tmp 13, .tmp 14], none⟩, ⟨some 16, .v (.fa 0) [.tmp 5], none⟩, ⟨some 17, .v (.fa 2) [.tmp 16], none⟩, ⟨some 18, .ld none (.tmp 17), none⟩, ⟨some 19, .v .mv [.tmp 1], none⟩, ⟨some 20, .v (.ia 2) [.tmp 18, .tmp 19], none⟩, ⟨some 21, .ld (some 2) (.tmp 20), none⟩, ⟨some 10, .lalloc 75 (.agg #[(.int .i64 0), (.int .i64 0)]), none⟩, ⟨some 11, .lalloc 51 (.agg #[(.int .i64 0), (.int .i64 0)]), none⟩, ⟨none, .st 2 (.tmp 10) (.tmp 15), none⟩, ⟨none, .st 2 (.tmp 11) (.tmp 21), none⟩] [⟨7, false, false⟩, ⟨0, false, false⟩, ⟨0, false, false⟩, ⟨1, false, false⟩, ⟨0, false, false⟩, ⟨0, false, false⟩, ⟨7, false, false⟩, ⟨0, false, false⟩, ⟨0, false, false⟩, ⟨1, false, false⟩, ⟨12, false, false⟩, ⟨13, false, false⟩, ⟨12, false, false⟩, ⟨13, true, true⟩])
 (.seq (.seq (.reg [
 ⟨some 22, .v (.fa 0) [.tmp 10], none⟩, ⟨some 23, .ld none (.tmp 22), none⟩, ⟨some 24, .v (.fa 0) [.tmp 11], none⟩, ⟨some 25, .ld none (.tmp 24), none⟩, ⟨some 26, .v (.ib .lss) [.tmp 23, .tmp 25], none⟩])
 (.cond (.tmp 26)
 (.reg [
 ⟨some 27, .v .mv [.tmp 1], none⟩, ⟨some 28, .v (.bld [(.int .i64 0), (.int .i64 0)] [(0, 1), (1, 1)]) [.tmp 27, .const (.int .i64 1)], none⟩, ⟨some 29, .v (.mki 100) [.tmp 28], none⟩, ⟨none, .pnc (.tmp 29), none⟩])
 .skip))
 (.seq (.reg [
 ⟨some 30, .v .mv [.tmp 4], none⟩, ⟨some 31, .v .mv [.tmp 30], none⟩, ⟨some 32, .v (.fa 1) [.tmp 10], some (31, true)⟩,
 ⟨some 33, .ld none (.tmp 32), some (31, true)⟩,
 ⟨some 34, .v (.fa 1) [.tmp 11], some (31, true)⟩,
 ⟨some 35, .ld none (.tmp 34), some (31, true)⟩,
 ⟨some 36, .v (.ib .gtr) [.tmp 33, .tmp 35], some (31, true)⟩,
 ⟨some 37, .v .pick [.tmp 31, .tmp 36, .const (.bool false)], none⟩])
 (.cond (.tmp 37)
 (.reg [
 ⟨some 38, .v .mv [.tmp 1], none⟩, ⟨some 39, .v (.bld [(.int .i64 0), (.int .i64 0)] [(0, 1), (1, 1)]) [.tmp 38, .const (.int .i64 2)], none⟩, ⟨some 40, .v (.mki 100) [.tmp 39], none⟩, ⟨none, .pnc (.tmp 40), none⟩])
 .skip)))))
def p128 : PFunc := ⟨41, [], none, b128⟩
def b129 : PCode :=
 (.seq (.reg [
 ⟨some 3, .lbox 93 (.tmp 0), none⟩, ⟨some 6, .v .mv [.const (.int .i64 0)], none⟩])
 (.seq (.dreg [
 ⟨some 7, .v (.fa 3) [.tmp 3], none⟩, ⟨some 8, .ld none (.tmp 7), none⟩, ⟨some 9, .v .mv [.tmp 2], none⟩, ⟨some 10, .v (.ia 1) [.tmp 8, .tmp 9], none⟩, ⟨some 11, .ld none (.tmp 10), none⟩, ⟨some 12, .v (.fa 3) [.tmp 3], none⟩, ⟨some 13, .ld none (.tmp 12), none⟩, ⟨some 14, .v .mv [.tmp 1], none⟩, ⟨some 15, .v (.ia 1) [.tmp 13, .tmp 14], none⟩, ⟨some 16, .ld none (.tmp 15), none⟩, ⟨some 17, .v (.ib .sub) [.tmp 11, .tmp 16], none⟩, ⟨some 6, .v .mv [.tmp 17], none⟩] [⟨0, false, false⟩, ⟨5, false, false⟩, ⟨0, false, false⟩, ⟨0, false, false⟩, ⟨1, false, false⟩, ⟨0, false, false⟩, ⟨5, false, false⟩, ⟨0, false, false⟩, ⟨0, false, false⟩, ⟨1, false, false⟩, ⟨0, true, true⟩, ⟨0, true, true⟩])
 .ret))
def p129 : PFunc := ⟨18, [(6, none)], none, b129⟩
def b130 : PCode :=
 (.seq (.reg [
 ⟨some 3, .lbox 93 (.tmp 0), none⟩, ⟨some 6, .v .mv [.const (.int .i64 0)], none⟩])
 (.seq (.dreg [
 ⟨some 7, .v (.fa 4) [.tmp 3], none⟩, ⟨some 8, .ld none (.tmp 7), none⟩, ⟨some 9, .v .mv [.tmp 2], none⟩, ⟨some 10, .v (.ia 1) [.tmp 8, .tmp 9], none⟩, ⟨some 11, .ld none (.tmp 10), none⟩, ⟨some 12, .v (.fa 4) [.tmp 3], none⟩, ⟨some 13, .ld none (.tmp 12), none⟩, ⟨some 14, .v .mv [.tmp 1], none⟩, ⟨some 15, .v (.ia 1) [.tmp 13, .tmp 14], none⟩, ⟨some 16, .ld none (.tmp 15), none⟩, ⟨some 17, .v (.ib .sub) [.tmp 11, .tmp 16], none⟩, ⟨some 6, .v .mv [.tmp 17], none⟩] [⟨0, false, false⟩, ⟨5, false, false⟩, ⟨0, false, false⟩, ⟨0, false, false⟩, ⟨1, false, false⟩, ⟨0, false, false⟩, ⟨5, false, false⟩, ⟨0, false, false⟩, ⟨0, false, false⟩, ⟨1, false, false⟩, ⟨0, true, true⟩, ⟨0, true, true⟩])
 .ret))
def p130 : PFunc := ⟨18, [(6, none)], none, b130⟩
def b131 : PCode :=
 (.seq (.reg [
 ⟨some 2, .v .mv [.const (.slice none 0 0)], none⟩])
 (.seq (.reg [
 ⟨some 3, .v .mv [.tmp 0], none⟩, ⟨some 4, .call (.func 154) [.const (.slice none 0 0), .tmp 3], none⟩, ⟨some 2, .v .mv [.tmp 4], none⟩])
 .ret))
def p131 : PFunc := ⟨5, [(2, none)], none, b131⟩
def q132x0 : PCode :=
 (.seq (.reg [
 ⟨some 9, .v (.ib .lss) [.tmp 8, .tmp 7], none⟩])
 (.seq (.cond (.tmp 9)
 .skip
 (.exit 0))
 (.seq (.blk 1
 (.seq (.reg [
 ⟨some 10, .v .mv [.tmp 8], none⟩, ⟨some 5, .v .mv [.tmp 10], none⟩])
 (.seq (.reg [
 ⟨some 11, .v .mv [.tmp 1], none⟩, ⟨some 12, .v .mv [.tmp 0], none⟩, ⟨some 13, .v .mv [.tmp 5], none⟩, ⟨some 14, .v (.ia 1) [.tmp 12, .tmp 13], none⟩, ⟨some 15, .ld none (.tmp 14), none⟩, ⟨some 16, .call (.tmp 11) [.tmp 15], none⟩])
 (.cond (.tmp 16)
 (.seq (.reg [
 ⟨some 17, .v .mv [.tmp 5], none⟩, ⟨some 4, .v .mv [.tmp 17], none⟩])
 .ret)
 .skip))))
 (.reg [
 ⟨some 18, .v (.ib .add) [.tmp 8, .const (.int .i64 1)], none⟩, ⟨some 8, .v .mv [.tmp 18], none⟩]))))
def b132 : PCode :=
 (.seq (.reg [
 ⟨some 4, .v .mv [.const (.int .i64 0)], none⟩])
 (.seq (.seq (.reg [
 ⟨some 6, .v .mv [.tmp 0], none⟩, ⟨some 7, .v .len [.tmp 6], none⟩, ⟨some 8, .v .mv [.const (.int .i64 0)], none⟩])
 (.blk 0
 (.loop q132x0)))
 (.seq (.reg [
 ⟨some 4, .v .mv [.const (.int .i64 (-1))], none⟩])
 .ret)))
def p132 : PFunc := ⟨19, [(4, none)], none, b132⟩
def b133 : PCode :=
 (.seq (.reg [
 ⟨some 1, .lbox 93 (.tmp 0), none⟩, ⟨some 2, .v .mv [.const (.slice none 0 0)], none⟩, ⟨some 3, .v .mv [.const (.bool false)], none⟩])
 (.seq (.reg [
 ⟨some 4, .alloc 23 (.slice none 0 0), none⟩])
 (.seq (.reg [
 ⟨some 5, .alloc 4 (.bool false), none⟩, ⟨none, .st 1 (.tmp 5) (.const (.bool false)), none⟩])
 (.seq .skip
 (.seq (.seq (.reg [
 ⟨some 7, .ld (some 5) (.tmp 1), none⟩, ⟨some 8, .call (.func 105) [.tmp 7], none⟩])
 (.blk 0
 (.rf (.tmp 8) [9]
 (.reg [
 ⟨some 6, .v .mv [.tmp 9], none⟩])
 (.blk 1
 (.seq (.reg [
 ⟨some 10, .v .mv [.tmp 6], none⟩, ⟨none, .st 1 (.tmp 4) (.tmp 10), none⟩, ⟨none, .st 1 (.tmp 5) (.const (.bool true)), none⟩])
 (.exit 0))))))
 (.seq (.dreg [
 ⟨some 11, .ld none (.tmp 4), none⟩, ⟨some 12, .ld none (.tmp 5), none⟩, ⟨some 2, .v .mv [.tmp 11], none⟩, ⟨some 3, .v .mv [.tmp 12], none⟩] [⟨1, false, false⟩, ⟨1, false, false⟩, ⟨0, false, false⟩, ⟨0, true, true⟩])
 .ret))))))
def p133 : PFunc := ⟨13, [(2, none), (3, none)], none, b133⟩
def b134 : PCode :=
 (.seq (.reg [
 ⟨some 2, .v .mv [.const (.slice none 0 0)], none⟩])
 (.seq (.seq (.reg [
 ⟨some 3, .v .mv [.tmp 0], none⟩, ⟨some 4, .v (.nl .slice false) [.tmp 3], none⟩])
 (.cond (.tmp 4)
 (.seq (.reg [
 ⟨some 2, .v .mv [.const (.slice none 0 0)], none⟩])
 .ret)
 .skip))
 (.seq (.reg [
 ⟨some 5, .bs 51 2 [(.int .i64 0), (.int .i64 0)] 0 [], none⟩, ⟨some 6, .v .mv [.tmp 0], none⟩, ⟨some 7, .app 51 2 (.tmp 5) (.tmp 6), none⟩, ⟨some 2, .v .mv [.tmp 7], none⟩])
 .ret)))
def p134 : PFunc := ⟨8, [(2, none)], none, b134⟩
def b135 : PCode :=
 (.seq (.reg [
 ⟨some 2, .box 110 (.tmp 0), none⟩])
 (.seq (.reg [
 ⟨some 6, .mkm (.agg [(.i .i64), (.i .i64)]), none⟩, ⟨some 3, .alloc 144 (.map none), none⟩, ⟨none, .st 1 (.tmp 3) (.tmp 6), none⟩])
 (.seq (.reg [
 ⟨some 4, .alloc 23 (.slice none 0 0), none⟩])
 (.seq (.reg [
 ⟨some 5, .alloc 28 .nilFunc, none⟩])
 (.seq (.reg [
 ⟨some 7, .v (.mkf (.func 136) 0) [.tmp 4, .tmp 1, .tmp 2, .tmp 3, .tmp 5], none⟩, ⟨none, .st 1 (.tmp 5) (.tmp 7), none⟩])
 (.reg [
 ⟨some 8, .ld none (.tmp 5), none⟩, ⟨some 9, .call (.tmp 8) [], none⟩]))))))
def p135 : PFunc := ⟨10, [], none, b135⟩
def q136x0 : PCode :=
 (.seq (.reg [
 ⟨some 28, .v (.ib .lss) [.tmp 27, .tmp 26], none⟩])
 (.seq (.cond (.tmp 28)
 .skip
 (.exit 0))
 (.seq (.blk 1
 (.seq (.reg [
 ⟨some 29, .v (.ia 1) [.tmp 25, .tmp 27], none⟩, ⟨some 30, .ld none (.tmp 29), none⟩, ⟨some 8, .alloc 3 (.int .i64 0), none⟩, ⟨none, .st 1 (.tmp 8) (.tmp 30), none⟩])
 (.seq (.seq (.dreg [
 ⟨some 31, .ld none (.tmp 6), none⟩, ⟨some 32, .v (.ib .gtr) [.tmp 31, .const (.int .i64 0)], none⟩, ⟨some 33, .v .mv [.tmp 32], none⟩, ⟨some 34, .ld none (.tmp 8), some (33, true)⟩,
 ⟨some 35, .ld none (.tmp 0), some (33, true)⟩,
 ⟨some 36, .ld none (.tmp 6), some (33, true)⟩,
 ⟨some 37, .v (.ib .sub) [.tmp 36, .const (.int .i64 1)], some (33, true)⟩,
 ⟨some 38, .v (.ia 1) [.tmp 35, .tmp 37], some (33, true)⟩,
 ⟨some 39, .ld none (.tmp 38), some (33, true)⟩,
 ⟨some 40, .v (.ib .leq) [.tmp 34, .tmp 39], some (33, true)⟩,
 ⟨some 41, .v .pick [.tmp 33, .tmp 40, .const (.bool false)], none⟩, ⟨some 42, .v .mv [.tmp 41], none⟩, ⟨some 43, .ld (some 5) (.tmp 1), some (42, false)⟩,
 ⟨some 44, .ld none (.tmp 6), some (42, false)⟩,
 ⟨some 45, .ld none (.tmp 8), some (42, false)⟩,
 ⟨some 46, .ld none (.tmp 3), some (42, false)⟩,
 ⟨some 47, .call (.func 138) [.tmp 43, .tmp 44, .tmp 45, .tmp 46], some (42, false)⟩,
 ⟨some 48, .v .no [.tmp 47], some (42, false)⟩,
 ⟨some 49, .v .pick [.tmp 42, .const (.bool true), .tmp 48], none⟩] [⟨1, true, true⟩, ⟨0, true, true⟩, ⟨0, true, true⟩, ⟨1, false, false⟩, ⟨1, false, false⟩, ⟨1, false, false⟩, ⟨0, false, false⟩, ⟨0, false, false⟩, ⟨1, false, false⟩, ⟨0, true, true⟩, ⟨0, true, true⟩, ⟨0, true, true⟩, ⟨1, false, false⟩, ⟨1, false, false⟩, ⟨1, false, false⟩, ⟨1, false, false⟩, ⟨1, true, true⟩, ⟨0, true, true⟩, ⟨0, true, true⟩])
 (.cond (.tmp 49)
 (.exit 1)
 .skip))
 (.seq (.seq (.reg [
 ⟨some 50, .ld none (.tmp 6), none⟩, ⟨some 51, .v (.ib .gtr) [.tmp 50, .const (.int .i64 0)], none⟩])
 (.cond (.tmp 51)
 (.seq (.reg [
 ⟨some 53, .v (.mkf (.func 139) 0) [.tmp 1, .tmp 6, .tmp 0, .tmp 8], none⟩, ⟨some 54, .call (.func 109) [.tmp 53], none⟩, ⟨some 52, .v .mv [.tmp 54], none⟩, ⟨some 55, .v (.ext 0) [.tmp 52], none⟩, ⟨some 56, .v (.ext 1) [.tmp 52], none⟩, ⟨some 9, .lalloc 100 (.agg #[(.int .i64 0), (.int .i64 0)]), none⟩, ⟨none, .st 2 (.tmp 9) (.tmp 55), none⟩, ⟨some 10, .v .mv [.tmp 56], none⟩])
 (.seq (.reg [
 ⟨some 57, .v .mv [.tmp 10], none⟩, ⟨some 58, .v (.ib .neq) [.tmp 57, .const (.int .i64 0)], none⟩])
 (.cond (.tmp 58)
 (.exit 1)
 .skip)))
 .skip))
 (.seq (.reg [
 ⟨some 59, .ld none (.tmp 0), none⟩, ⟨some 60, .ld none (.tmp 8), none⟩, ⟨some 61, .lbs 3 1 [(.int .i64 0)] 1 [(0, .tmp 60)], none⟩, ⟨some 62, .app 3 1 (.tmp 59) (.tmp 61), none⟩, ⟨none, .st 1 (.tmp 0) (.tmp 62), none⟩])
 (.seq (.seq (.reg [
 ⟨some 63, .ld none (.tmp 4), none⟩, ⟨some 64, .call (.tmp 63) [], none⟩, ⟨some 65, .v .no [.tmp 64], none⟩])
 (.cond (.tmp 65)
 (.seq (.reg [
 ⟨some 5, .v .mv [.const (.bool false)], none⟩])
 .ret)
 .skip))
 (.reg [
 ⟨some 66, .ld none (.tmp 0), none⟩, ⟨some 67, .ld none (.tmp 6), none⟩, ⟨some 68, .v (.sl 1 false true) [.tmp 66, .tmp 67], none⟩, ⟨none, .st 1 (.tmp 0) (.tmp 68), none⟩])))))))
 (.reg [
 ⟨some 69, .v (.ib .add) [.tmp 27, .const (.int .i64 1)], none⟩, ⟨some 27, .v .mv [.tmp 69], none⟩]))))
def b136 : PCode :=
 (.seq (.reg [
 ⟨some 5, .v .mv [.const (.bool false)], none⟩])
 (.seq (.reg [
 ⟨some 11, .ld none (.tmp 0), none⟩, ⟨some 12, .v .len [.tmp 11], none⟩, ⟨some 6, .alloc 3 (.int .i64 0), none⟩, ⟨none, .st 1 (.tmp 6) (.tmp 12), none⟩])
 (.seq (.seq (.reg [
 ⟨some 13, .ld none (.tmp 6), none⟩, ⟨some 14, .v (.fa 0) [.tmp 1], none⟩, ⟨some 15, .v (.fa 2) [.tmp 14], none⟩, ⟨some 16, .ld none (.tmp 15), none⟩, ⟨some 17, .v .len [.tmp 16], none⟩, ⟨some 18, .v (.ib .eql) [.tmp 13, .tmp 17], none⟩])
 (.cond (.tmp 18)
 (.seq (.dreg [
 ⟨some 19, .ld none (.tmp 2), none⟩, ⟨some 20, .ld none (.tmp 0), none⟩, ⟨some 21, .call (.func 137) [.tmp 20], none⟩, ⟨some 22, .call (.tmp 19) [.tmp 21], none⟩, ⟨some 5, .v .mv [.tmp 22], none⟩] [⟨1, false, false⟩, ⟨1, false, false⟩, ⟨1, false, false⟩, ⟨1, true, true⟩, ⟨0, true, true⟩])
 .ret)
 .skip))
 (.seq (.seq (.reg [
 ⟨some 23, .v (.fa 0) [.tmp 1], none⟩, ⟨some 24, .v (.fa 1) [.tmp 23], none⟩, ⟨some 25, .ld none (.tmp 24), none⟩, ⟨some 26, .v .len [.tmp 25], none⟩, ⟨some 27, .v .mv [.const (.int .i64 0)], none⟩])
 (.blk 0
 (.loop q136x0)))
 (.seq (.reg [
 ⟨some 5, .v .mv [.const (.bool true)], none⟩])
 .ret)))))
def p136 : PFunc := ⟨70, [(5, none)], none, b136⟩
def b137 : PCode :=
 (.seq (.reg [
 ⟨some 2, .v .mv [.const (.slice none 0 0)], none⟩])
 (.seq (.seq (.reg [
 ⟨some 3, .v .mv [.tmp 0], none⟩, ⟨some 4, .v (.nl .slice false) [.tmp 3], none⟩])
 (.cond (.tmp 4)
 (.seq (.reg [
 ⟨some 2, .v .mv [.const (.slice none 0 0)], none⟩])
 .ret)
 .skip))
 (.seq (.reg [
 ⟨some 5, .bs 3 1 [(.int .i64 0)] 0 [], none⟩, ⟨some 6, .v .mv [.tmp 0], none⟩, ⟨some 7, .app 3 1 (.tmp 5) (.tmp 6), none⟩, ⟨some 2, .v .mv [.tmp 7], none⟩])
 .ret)))
def p137 : PFunc := ⟨8, [(2, none)], none, b137⟩
def q138x0 : PCode :=
 (.seq (.reg [
 ⟨some 49, .v (.ib .lss) [.tmp 48, .tmp 47], none⟩])
 (.seq (.cond (.tmp 49)
 .skip
 (.exit 0))
 (.seq (.blk 1
 (.seq (.reg [
 ⟨some 50, .v (.ia 1) [.tmp 46, .tmp 48], none⟩, ⟨some 51, .ld none (.tmp 50), none⟩, ⟨some 16, .alloc 3 (.int .i64 0), none⟩, ⟨none, .st 1 (.tmp 16) (.tmp 51), none⟩])
 (.seq (.seq (.reg [
 ⟨some 52, .ld none (.tmp 16), none⟩, ⟨some 53, .ld none (.tmp 6), none⟩, ⟨some 54, .v (.ib .leq) [.tmp 52, .tmp 53], none⟩])
 (.cond (.tmp 54)
 (.exit 1)
 .skip))
 (.seq (.reg [
 ⟨some 56, .v (.mkf (.func 156) 0) [.tmp 4, .tmp 5, .tmp 6, .tmp 16], none⟩, ⟨some 57, .call (.func 109) [.tmp 56], none⟩, ⟨some 55, .v .mv [.tmp 57], none⟩, ⟨some 58, .v (.ext 0) [.tmp 55], none⟩, ⟨some 59, .v (.ext 1) [.tmp 55], none⟩, ⟨some 17, .lalloc 100 (.agg #[(.int .i64 0), (.int .i64 0)]), none⟩, ⟨none, .st 2 (.tmp 17) (.tmp 58), none⟩, ⟨some 18, .v .mv [.tmp 59], none⟩])
 (.seq (.reg [
 ⟨some 60, .v .mv [.tmp 18], none⟩, ⟨some 61, .v (.ib .eql) [.tmp 60, .const (.int .i64 0)], none⟩, ⟨some 62, .v .mv [.tmp 61], none⟩, ⟨some 63, .ld (some 5) (.tmp 4), some (62, true)⟩,
 ⟨some 64, .ld none (.tmp 5), some (62, true)⟩,
 ⟨some 65, .v (.ib .add) [.tmp 64, .const (.int .i64 1)], some (62, true)⟩,
 ⟨some 66, .ld none (.tmp 16), some (62, true)⟩,
 ⟨some 67, .v .mv [.tmp 3], some (62, true)⟩,
 ⟨some 68, .call (.func 138) [.tmp 63, .tmp 65, .tmp 66, .tmp 67], some (62, true)⟩,
 ⟨some 69, .v .pick [.tmp 62, .tmp 68, .const (.bool false)], none⟩])
 (.cond (.tmp 69)
 (.seq (.reg [
 ⟨some 12, .v .mv [.const (.bool true)], none⟩])
 (.exit 0))
 .skip))))))
 (.reg [
 ⟨some 70, .v (.ib .add) [.tmp 48, .const (.int .i64 1)], none⟩, ⟨some 48, .v .mv [.tmp 70], none⟩]))))
def b138 : PCode :=
 (.seq (.reg [
 ⟨some 4, .box 93 (.tmp 0), none⟩, ⟨some 5, .box 3 (.tmp 1), none⟩, ⟨some 6, .box 3 (.tmp 2), none⟩, ⟨some 8, .v .mv [.const (.bool false)], none⟩])
 (.seq (.reg [
 ⟨some 19, .ld none (.tmp 5), none⟩, ⟨some 20, .ld none (.tmp 6), none⟩, ⟨some 21, .v (.bld [(.int .i64 0), (.int .i64 0)] [(0, 1), (1, 1)]) [.tmp 19, .tmp 20], none⟩, ⟨some 9, .lalloc 169 (.agg #[(.int .i64 0), (.int .i64 0)]), none⟩, ⟨none, .st 2 (.tmp 9) (.tmp 21), none⟩])
 (.seq (.seq (.reg [
 ⟨some 23, .v .mv [.tmp 3], none⟩, ⟨some 24, .ld (some 2) (.tmp 9), none⟩, ⟨some 25, .mlk (.agg [(.i .i64), (.i .i64)]) (.bool false) true (.tmp 23) (.tmp 24), none⟩, ⟨some 22, .v .mv [.tmp 25], none⟩, ⟨some 26, .v (.ext 0) [.tmp 22], none⟩, ⟨some 27, .v (.ext 1) [.tmp 22], none⟩, ⟨some 10, .v .mv [.tmp 26], none⟩, ⟨some 11, .v .mv [.tmp 27], none⟩])
 (.seq (.reg [
 ⟨some 28, .v .mv [.tmp 11], none⟩])
 (.cond (.tmp 28)
 (.seq (.reg [
 ⟨some 29, .v .mv [.tmp 10], none⟩, ⟨some 8, .v .mv [.tmp 29], none⟩])
 .ret)
 .skip)))
 (.seq (.reg [
 ⟨some 12, .v .mv [.const (.bool false)], none⟩])
 (.seq (.seq (.reg [
 ⟨some 30, .ld none (.tmp 5), none⟩, ⟨some 31, .v (.fa 0) [.tmp 4], none⟩, ⟨some 32, .v (.fa 2) [.tmp 31], none⟩, ⟨some 33, .ld none (.tmp 32), none⟩, ⟨some 34, .v .len [.tmp 33], none⟩, ⟨some 35, .v (.ib .sub) [.tmp 34, .const (.int .i64 1)], none⟩, ⟨some 36, .v (.ib .eql) [.tmp 30, .tmp 35], none⟩])
 (.cond (.tmp 36)
 (.seq (.reg [
 ⟨some 38, .v (.mkf (.func 155) 0) [.tmp 4, .tmp 5, .tmp 6], none⟩, ⟨some 39, .call (.func 109) [.tmp 38], none⟩, ⟨some 37, .v .mv [.tmp 39], none⟩, ⟨some 40, .v (.ext 0) [.tmp 37], none⟩, ⟨some 41, .v (.ext 1) [.tmp 37], none⟩, ⟨some 13, .lalloc 100 (.agg #[(.int .i64 0), (.int .i64 0)]), none⟩, ⟨none, .st 2 (.tmp 13) (.tmp 40), none⟩, ⟨some 14, .v .mv [.tmp 41], none⟩])
 (.reg [
 ⟨some 42, .v .mv [.tmp 14], none⟩, ⟨some 43, .v (.ib .eql) [.tmp 42, .const (.int .i64 0)], none⟩, ⟨some 12, .v .mv [.tmp 43], none⟩]))
 (.seq (.reg [
 ⟨some 44, .v (.fa 0) [.tmp 4], none⟩, ⟨some 45, .v (.fa 1) [.tmp 44], none⟩, ⟨some 46, .ld none (.tmp 45), none⟩, ⟨some 47, .v .len [.tmp 46], none⟩, ⟨some 48, .v .mv [.const (.int .i64 0)], none⟩])
 (.blk 0
 (.loop q138x0)))))
 (.seq (.reg [
 ⟨some 71, .v .mv [.tmp 3], none⟩, ⟨some 72, .ld (some 2) (.tmp 9), none⟩, ⟨some 73, .v .mv [.tmp 12], none⟩, ⟨none, .mup (.agg [(.i .i64), (.i .i64)]) (.tmp 71) (.tmp 72) (.tmp 73), none⟩])
 (.seq (.reg [
 ⟨some 74, .v .mv [.tmp 12], none⟩, ⟨some 8, .v .mv [.tmp 74], none⟩])
 .ret)))))))
def p138 : PFunc := ⟨75, [(8, none)], none, b138⟩
def b139 : PCode :=
 (.dreg [
 ⟨some 4, .ld (some 5) (.tmp 0), none⟩, ⟨some 5, .ld none (.tmp 1), none⟩, ⟨some 6, .v (.ib .sub) [.tmp 5, .const (.int .i64 1)], none⟩, ⟨some 7, .ld none (.tmp 2), none⟩, ⟨some 8, .ld none (.tmp 1), none⟩, ⟨some 9, .v (.ib .sub) [.tmp 8, .const (.int .i64 1)], none⟩, ⟨some 10, .v (.ia 1) [.tmp 7, .tmp 9], none⟩, ⟨some 11, .ld none (.tmp 10), none⟩, ⟨some 12, .ld none (.tmp 3), none⟩, ⟨some 13, .call (.func 128) [.tmp 4, .tmp 6, .tmp 11, .tmp 12, .const (.bool true)], none⟩] [⟨1, false, false⟩, ⟨1, false, false⟩, ⟨0, false, false⟩, ⟨1, false, false⟩, ⟨1, false, false⟩, ⟨0, false, false⟩, ⟨0, false, false⟩, ⟨1, false, false⟩, ⟨1, false, false⟩, ⟨1, true, true⟩])
def p139 : PFunc := ⟨14, [], none, b139⟩
def b142 : PCode :=
 (.blk 0
 (.seq (.reg [
 ⟨some 8, .v (.nl .iface false) [.tmp 6], none⟩])
 (.cond (.tmp 8)
 (.reg [
 ⟨some 2, .v .mv [.tmp 6], none⟩])
 (.seq (.reg [
 ⟨some 9, .v (.tas 100 (.agg #[(.int .i64 0), (.int .i64 0)])) [.tmp 6], none⟩, ⟨some 10, .v (.ext 1) [.tmp 9], none⟩, ⟨some 11, .v (.ext 0) [.tmp 9], none⟩])
 (.cond (.tmp 10)
 (.seq (.reg [
 ⟨some 3, .lalloc 100 (.agg #[(.int .i64 0), (.int .i64 0)]), none⟩, ⟨none, .st 2 (.tmp 3) (.tmp 11), none⟩])
 (.reg [
 ⟨some 12, .ld (some 2) (.tmp 3), none⟩, ⟨none, .st 2 (.tmp 0) (.tmp 12), none⟩, ⟨none, .st 1 (.tmp 1) (.const (.int .i64 7)), none⟩]))
 (.seq (.reg [
 ⟨some 13, .v (.tas 157 (.agg #[(.string ⟨#[]⟩)])) [.tmp 6], none⟩, ⟨some 14, .v (.ext 1) [.tmp 13], none⟩, ⟨some 15, .v (.ext 0) [.tmp 13], none⟩])
 (.cond (.tmp 14)
 (.seq (.reg [
 ⟨some 4, .lalloc 157 (.agg #[(.string ⟨#[]⟩)]), none⟩, ⟨none, .st 1 (.tmp 4) (.tmp 15), none⟩])
 (.reg [
 ⟨none, .st 1 (.tmp 1) (.const (.int .i64 4)), none⟩]))
 (.seq (.reg [
 ⟨some 5, .v .mv [.tmp 6], none⟩])
 (.reg [
 ⟨some 7, .v .mv [.tmp 5], none⟩, ⟨none, .pnc (.tmp 7), none⟩])))))))))
def p142 : PFunc := ⟨16, [], (some 6), b142⟩
def b143 : PCode :=
 (.seq (.reg [
 ⟨some 4, .v .mv [.const (.slice none 0 0)], none⟩])
 (.seq (.reg [
 ⟨some 5, .v .mv [.tmp 0], none⟩, ⟨some 6, .v .mv [.tmp 1], none⟩, ⟨some 7, .call (.func 159) [.tmp 5, .tmp 6, .const (.int .i64 0), .const (.int .i64 (-1))], none⟩, ⟨some 4, .v .mv [.tmp 7], none⟩])
 .ret))
def p143 : PFunc := ⟨8, [(4, none)], none, b143⟩
def b144 : PCode :=
 (.seq (.reg [
 ⟨some 4, .v .mv [.tmp 0], none⟩, ⟨some 5, .v .no [.tmp 4], none⟩])
 (.cond (.tmp 5)
 (.reg [
 ⟨some 6, .v .mv [.tmp 1], none⟩, ⟨some 7, .v (.bld [(.string ⟨#[]⟩)] [(0, 1)]) [.tmp 6], none⟩, ⟨some 8, .v (.mki 157) [.tmp 7], none⟩, ⟨none, .pnc (.tmp 8), none⟩])
 .skip))
def p144 : PFunc := ⟨9, [], none, b144⟩
def b145 : PCode :=
 (.seq (.reg [
 ⟨some 1, .lbox 149 (.tmp 0), none⟩, ⟨some 2, .v .mv [.const (.int .i64 0)], none⟩])
 (.seq (.reg [
 ⟨some 2, .v .mv [.const (.int .i64 4)], none⟩])
 .ret))
def p145 : PFunc := ⟨3, [(2, none)], none, b145⟩
def q146x0 : PCode :=
 (.seq (.reg [
 ⟨some 8, .nxt (.tmp 7), none⟩, ⟨some 9, .v (.ext 0) [.tmp 8], none⟩])
 (.seq (.cond (.tmp 9)
 .skip
 (.exit 0))
 (.blk 1
 (.seq (.reg [
 ⟨some 10, .v (.ext 2) [.tmp 8], none⟩, ⟨some 5, .v .mv [.tmp 10], none⟩])
 (.seq (.reg [
 ⟨some 11, .v .mv [.tmp 5], none⟩, ⟨some 12, .v (.ib .geq) [.tmp 11, .const (.int .i32 48)], none⟩, ⟨some 13, .v .mv [.tmp 12], none⟩, ⟨some 14, .v .mv [.tmp 5], some (13, true)⟩,
 ⟨some 15, .v (.ib .leq) [.tmp 14, .const (.int .i32 57)], some (13, true)⟩,
 ⟨some 16, .v .pick [.tmp 13, .tmp 15, .const (.bool false)], none⟩, ⟨some 17, .v .mv [.tmp 16], none⟩, ⟨some 18, .v .mv [.tmp 0], some (17, true)⟩,
 ⟨some 19, .v .slen [.tmp 18], some (17, true)⟩,
 ⟨some 20, .v (.ib .leq) [.tmp 19, .const (.int .i64 3)], some (17, true)⟩,
 ⟨some 21, .v .pick [.tmp 17, .tmp 20, .const (.bool false)], none⟩, ⟨some 22, .v .mv [.tmp 0], none⟩, ⟨some 23, .call (.func 144) [.tmp 21, .tmp 22], none⟩])
 (.reg [
 ⟨some 24, .v .mv [.tmp 3], none⟩, ⟨some 25, .v (.ib .mul) [.const (.int .i64 10), .tmp 24], none⟩, ⟨some 26, .v .mv [.tmp 5], none⟩, ⟨some 27, .v (.ib .sub) [.tmp 26, .const (.int .i32 48)], none⟩, ⟨some 28, .v (.cv .i64) [.tmp 27], none⟩, ⟨some 29, .v (.ib .add) [.tmp 25, .tmp 28], none⟩, ⟨some 3, .v .mv [.tmp 29], none⟩]))))))
def b146 : PCode :=
 (.seq (.reg [
 ⟨some 2, .v .mv [.const (.int .i64 0)], none⟩])
 (.seq (.reg [
 ⟨some 3, .v .mv [.const (.int .i64 0)], none⟩])
 (.seq (.seq (.reg [
 ⟨some 6, .v .mv [.tmp 0], none⟩, ⟨some 7, .rng (.tmp 6), none⟩])
 (.blk 0
 (.loop q146x0)))
 (.seq (.reg [
 ⟨some 30, .v .mv [.tmp 0], none⟩, ⟨some 31, .v (.sb .neq) [.tmp 30, .const (.string ⟨#[]⟩)], none⟩, ⟨some 32, .v .mv [.tmp 31], none⟩, ⟨some 33, .v .mv [.tmp 3], some (32, true)⟩,
 ⟨some 34, .call (.func 141) [.tmp 33], some (32, true)⟩,
 ⟨some 35, .v .mv [.tmp 0], some (32, true)⟩,
 ⟨some 36, .v (.sb .eql) [.tmp 34, .tmp 35], some (32, true)⟩,
 ⟨some 37, .v .pick [.tmp 32, .tmp 36, .const (.bool false)], none⟩, ⟨some 38, .v .mv [.tmp 0], none⟩, ⟨some 39, .call (.func 144) [.tmp 37, .tmp 38], none⟩])
 (.seq (.reg [
 ⟨some 40, .v .mv [.tmp 3], none⟩, ⟨some 2, .v .mv [.tmp 40], none⟩])
 .ret)))))
def p146 : PFunc := ⟨41, [(2, none)], none, b146⟩
def b147 : PCode :=
 (.seq (.reg [
 ⟨some 1, .lbox 151 (.tmp 0), none⟩, ⟨some 2, .v .mv [.const (.int .i64 0)], none⟩])
 (.seq (.reg [
 ⟨some 2, .v .mv [.const (.int .i64 3)], none⟩])
 .ret))
def p147 : PFunc := ⟨3, [(2, none)], none, b147⟩
def b148 : PCode :=
 (.seq (.reg [
 ⟨some 2, .v .mv [.const (.string ⟨#[]⟩)], none⟩])
 (.seq (.seq (.reg [
 ⟨some 3, .v .mv [.tmp 0], none⟩, ⟨some 4, .v (.ib .gtr) [.tmp 3, .const (.int .i64 (-10))], none⟩, ⟨some 5, .v .mv [.tmp 4], none⟩, ⟨some 6, .v .mv [.tmp 0], some (5, true)⟩,
 ⟨some 7, .v (.ib .lss) [.tmp 6, .const (.int .i64 0)], some (5, true)⟩,
 ⟨some 8, .v .pick [.tmp 5, .tmp 7, .const (.bool false)], none⟩])
 (.cond (.tmp 8)
 (.seq (.reg [
 ⟨some 9, .v .mv [.tmp 0], none⟩, ⟨some 10, .v (.ib .sub) [.const (.int .i64 48), .tmp 9], none⟩, ⟨some 11, .v (.cv .u8) [.tmp 10], none⟩, ⟨some 12, .lbs 5 1 [(.int .u8 0)] 1 [(0, .tmp 11)], none⟩, ⟨some 13, .b2s (.tmp 12), none⟩, ⟨some 14, .v (.sb .add) [.const (.string ⟨#[45]⟩), .tmp 13], none⟩, ⟨some 2, .v .mv [.tmp 14], none⟩])
 .ret)
 .skip))
 (.seq (.seq (.reg [
 ⟨some 15, .v .mv [.tmp 0], none⟩, ⟨some 16, .v (.ib .lss) [.tmp 15, .const (.int .i64 0)], none⟩])
 (.cond (.tmp 16)
 (.seq (.dreg [
 ⟨some 17, .v .mv [.tmp 0], none⟩, ⟨some 18, .v (.ib .quo) [.tmp 17, .const (.int .i64 10)], none⟩, ⟨some 19, .call (.func 148) [.tmp 18], none⟩, ⟨some 20, .v .mv [.tmp 0], none⟩, ⟨some 21, .v (.ib .rem) [.tmp 20, .const (.int .i64 10)], none⟩, ⟨some 22, .v (.ib .sub) [.const (.int .i64 48), .tmp 21], none⟩, ⟨some 23, .v (.cv .u8) [.tmp 22], none⟩, ⟨some 24, .lbs 5 1 [(.int .u8 0)] 1 [(0, .tmp 23)], none⟩, ⟨some 25, .b2s (.tmp 24), none⟩, ⟨some 26, .v (.sb .add) [.tmp 19, .tmp 25], none⟩, ⟨some 2, .v .mv [.tmp 26], none⟩] [⟨0, false, false⟩, ⟨0, false, false⟩, ⟨1, false, false⟩, ⟨0, false, false⟩, ⟨0, false, false⟩, ⟨0, false, false⟩, ⟨0, false, false⟩, ⟨26, false, false⟩, ⟨1, false, false⟩, ⟨0, true, true⟩, ⟨0, true, true⟩])
 .ret)
 .skip))
 (.seq (.seq (.reg [
 ⟨some 27, .v .mv [.tmp 0], none⟩, ⟨some 28, .v (.ib .lss) [.tmp 27, .const (.int .i64 10)], none⟩])
 (.cond (.tmp 28)
 (.seq (.reg [
 ⟨some 29, .v .mv [.tmp 0], none⟩, ⟨some 30, .v (.ib .add) [.const (.int .i64 48), .tmp 29], none⟩, ⟨some 31, .v (.cv .u8) [.tmp 30], none⟩, ⟨some 32, .lbs 5 1 [(.int .u8 0)] 1 [(0, .tmp 31)], none⟩, ⟨some 33, .b2s (.tmp 32), none⟩, ⟨some 2, .v .mv [.tmp 33], none⟩])
 .ret)
 .skip))
 (.seq (.dreg [
 ⟨some 34, .v .mv [.tmp 0], none⟩, ⟨some 35, .v (.ib .quo) [.tmp 34, .const (.int .i64 10)], none⟩, ⟨some 36, .call (.func 148) [.tmp 35], none⟩, ⟨some 37, .v .mv [.tmp 0], none⟩, ⟨some 38, .v (.ib .rem) [.tmp 37, .const (.int .i64 10)], none⟩, ⟨some 39, .v (.ib .add) [.const (.int .i64 48), .tmp 38], none⟩, ⟨some 40, .v (.cv .u8) [.tmp 39], none⟩, ⟨some 41, .lbs 5 1 [(.int .u8 0)] 1 [(0, .tmp 40)], none⟩, ⟨some 42, .b2s (.tmp 41), none⟩, ⟨some 43, .v (.sb .add) [.tmp 36, .tmp 42], none⟩, ⟨some 2, .v .mv [.tmp 43], none⟩] [⟨0, false, false⟩, ⟨0, false, false⟩, ⟨1, false, false⟩, ⟨0, false, false⟩, ⟨0, false, false⟩, ⟨0, false, false⟩, ⟨0, false, false⟩, ⟨43, false, false⟩, ⟨1, false, false⟩, ⟨0, true, true⟩, ⟨0, true, true⟩])
 .ret)))))
def p148 : PFunc := ⟨44, [(2, none)], none, b148⟩
def q150x0 : PCode :=
 (.seq (.reg [
 ⟨some 9, .v (.ib .lss) [.tmp 8, .tmp 7], none⟩])
 (.seq (.cond (.tmp 9)
 .skip
 (.exit 0))
 (.seq (.blk 1
 (.seq (.reg [
 ⟨some 10, .v .mv [.tmp 8], none⟩, ⟨some 5, .v .mv [.tmp 10], none⟩])
 (.seq (.reg [
 ⟨some 11, .v .mv [.tmp 1], none⟩, ⟨some 12, .v .mv [.tmp 0], none⟩, ⟨some 13, .v .mv [.tmp 5], none⟩, ⟨some 14, .v (.ia 2) [.tmp 12, .tmp 13], none⟩, ⟨some 15, .ld (some 2) (.tmp 14), none⟩, ⟨some 16, .call (.tmp 11) [.tmp 15], none⟩])
 (.cond (.tmp 16)
 (.seq (.reg [
 ⟨some 17, .v .mv [.tmp 5], none⟩, ⟨some 4, .v .mv [.tmp 17], none⟩])
 .ret)
 .skip))))
 (.reg [
 ⟨some 18, .v (.ib .add) [.tmp 8, .const (.int .i64 1)], none⟩, ⟨some 8, .v .mv [.tmp 18], none⟩]))))
def b150 : PCode :=
 (.seq (.reg [
 ⟨some 4, .v .mv [.const (.int .i64 0)], none⟩])
 (.seq (.seq (.reg [
 ⟨some 6, .v .mv [.tmp 0], none⟩, ⟨some 7, .v .len [.tmp 6], none⟩, ⟨some 8, .v .mv [.const (.int .i64 0)], none⟩])
 (.blk 0
 (.loop q150x0)))
 (.seq (.reg [
 ⟨some 4, .v .mv [.const (.int .i64 (-1))], none⟩])
 .ret)))
def p150 : PFunc := ⟨19, [(4, none)], none, b150⟩
def q151x0 : PCode :=
 (.seq (.reg [
 ⟨some 9, .v (.ib .lss) [.tmp 8, .tmp 7], none⟩])
 (.seq (.cond (.tmp 9)
 .skip
 (.exit 0))
 (.seq (.blk 1
 (.seq (.reg [
 ⟨some 10, .v .mv [.tmp 8], none⟩, ⟨some 5, .v .mv [.tmp 10], none⟩])
 (.seq (.reg [
 ⟨some 11, .v .mv [.tmp 1], none⟩, ⟨some 12, .v .mv [.tmp 0], none⟩, ⟨some 13, .v .mv [.tmp 5], none⟩, ⟨some 14, .v (.ia 2) [.tmp 12, .tmp 13], none⟩, ⟨some 15, .ld (some 2) (.tmp 14), none⟩, ⟨some 16, .call (.tmp 11) [.tmp 15], none⟩])
 (.cond (.tmp 16)
 (.seq (.reg [
 ⟨some 17, .v .mv [.tmp 5], none⟩, ⟨some 4, .v .mv [.tmp 17], none⟩])
 .ret)
 .skip))))
 (.reg [
 ⟨some 18, .v (.ib .add) [.tmp 8, .const (.int .i64 1)], none⟩, ⟨some 8, .v .mv [.tmp 18], none⟩]))))
def b151 : PCode :=
 (.seq (.reg [
 ⟨some 4, .v .mv [.const (.int .i64 0)], none⟩])
 (.seq (.seq (.reg [
 ⟨some 6, .v .mv [.tmp 0], none⟩, ⟨some 7, .v .len [.tmp 6], none⟩, ⟨some 8, .v .mv [.const (.int .i64 0)], none⟩])
 (.blk 0
 (.loop q151x0)))
 (.seq (.reg [
 ⟨some 4, .v .mv [.const (.int .i64 (-1))], none⟩])
 .ret)))
def p151 : PFunc := ⟨19, [(4, none)], none, b151⟩
def q152x0 : PCode :=
 (.seq (.reg [
 ⟨some 9, .v (.ib .lss) [.tmp 8, .tmp 7], none⟩])
 (.seq (.cond (.tmp 9)
 .skip
 (.exit 0))
 (.seq (.blk 1
 (.seq (.reg [
 ⟨some 10, .v .mv [.tmp 8], none⟩, ⟨some 5, .v .mv [.tmp 10], none⟩])
 (.seq (.reg [
 ⟨some 11, .v .mv [.tmp 1], none⟩, ⟨some 12, .v .mv [.tmp 0], none⟩, ⟨some 13, .v .mv [.tmp 5], none⟩, ⟨some 14, .v (.ia 1) [.tmp 12, .tmp 13], none⟩, ⟨some 15, .ld none (.tmp 14), none⟩, ⟨some 16, .call (.tmp 11) [.tmp 15], none⟩])
 (.cond (.tmp 16)
 (.seq (.reg [
 ⟨some 17, .v .mv [.tmp 5], none⟩, ⟨some 4, .v .mv [.tmp 17], none⟩])
 .ret)
 .skip))))
 (.reg [
 ⟨some 18, .v (.ib .add) [.tmp 8, .const (.int .i64 1)], none⟩, ⟨some 8, .v .mv [.tmp 18], none⟩]))))
def b152 : PCode :=
 (.seq (.reg [
 ⟨some 4, .v .mv [.const (.int .i64 0)], none⟩])
 (.seq (.seq (.reg [
 ⟨some 6, .v .mv [.tmp 0], none⟩, ⟨some 7, .v .len [.tmp 6], none⟩, ⟨some 8, .v .mv [.const (.int .i64 0)], none⟩])
 (.blk 0
 (.loop q152x0)))
 (.seq (.reg [
 ⟨some 4, .v .mv [.const (.int .i64 (-1))], none⟩])
 .ret)))
def p152 : PFunc := ⟨19, [(4, none)], none, b152⟩
def q153x0 : PCode :=
 (.seq (.reg [
 ⟨some 9, .v (.ib .lss) [.tmp 8, .tmp 7], none⟩])
 (.seq (.cond (.tmp 9)
 .skip
 (.exit 0))
 (.seq (.blk 1
 (.seq (.reg [
 ⟨some 10, .v .mv [.tmp 8], none⟩, ⟨some 5, .v .mv [.tmp 10], none⟩])
 (.seq (.reg [
 ⟨some 11, .v .mv [.tmp 1], none⟩, ⟨some 12, .v .mv [.tmp 0], none⟩, ⟨some 13, .v .mv [.tmp 5], none⟩, ⟨some 14, .v (.ia 1) [.tmp 12, .tmp 13], none⟩, ⟨some 15, .ld none (.tmp 14), none⟩, ⟨some 16, .v (.ib .eql) [.tmp 11, .tmp 15], none⟩])
 (.cond (.tmp 16)
 (.seq (.reg [
 ⟨some 17, .v .mv [.tmp 5], none⟩, ⟨some 4, .v .mv [.tmp 17], none⟩])
 .ret)
 .skip))))
 (.reg [
 ⟨some 18, .v (.ib .add) [.tmp 8, .const (.int .i64 1)], none⟩, ⟨some 8, .v .mv [.tmp 18], none⟩]))))
def b153 : PCode :=
 (.seq (.reg [
 ⟨some 4, .v .mv [.const (.int .i64 0)], none⟩])
 (.seq (.seq (.reg [
 ⟨some 6, .v .mv [.tmp 0], none⟩, ⟨some 7, .v .len [.tmp 6], none⟩, ⟨some 8, .v .mv [.const (.int .i64 0)], none⟩])
 (.blk 0
 (.loop q153x0)))
 (.seq (.reg [
 ⟨some 4, .v .mv [.const (.int .i64 (-1))], none⟩])
 .ret)))
def p153 : PFunc := ⟨19, [(4, none)], none, b153⟩
def b154 : PCode :=
 (.seq (.reg [
 ⟨some 2, .box 56 (.tmp 0), none⟩, ⟨some 4, .v .mv [.const (.slice none 0 0)], none⟩])
 (.seq (.seq (.reg [
 ⟨some 6, .v .mv [.tmp 1], none⟩])
 (.blk 0
 (.rf (.tmp 6) [7]
 (.reg [
 ⟨some 5, .v .mv [.tmp 7], none⟩])
 (.blk 1
 (.reg [
 ⟨some 8, .ld none (.tmp 2), none⟩, ⟨some 9, .v .mv [.tmp 5], none⟩, ⟨some 10, .lbs 23 1 [(.slice none 0 0)] 1 [(0, .tmp 9)], none⟩, ⟨some 11, .app 23 1 (.tmp 8) (.tmp 10), none⟩, ⟨none, .st 1 (.tmp 2) (.tmp 11), none⟩])))))
 (.seq (.reg [
 ⟨some 12, .ld none (.tmp 2), none⟩, ⟨some 4, .v .mv [.tmp 12], none⟩])
 .ret)))
def p154 : PFunc := ⟨13, [(4, none)], none, b154⟩
def b155 : PCode :=
 (.reg [
 ⟨some 3, .ld (some 5) (.tmp 0), none⟩, ⟨some 4, .ld none (.tmp 1), none⟩, ⟨some 5, .ld none (.tmp 2), none⟩, ⟨some 6, .v (.fa 0) [.tmp 0], none⟩, ⟨some 7, .v (.fa 0) [.tmp 6], none⟩, ⟨some 8, .ld none (.tmp 7), none⟩, ⟨some 9, .v .len [.tmp 8], none⟩, ⟨some 10, .call (.func 128) [.tmp 3, .tmp 4, .tmp 5, .tmp 9, .const (.bool false)], none⟩])
def p155 : PFunc := ⟨11, [], none, b155⟩
def b156 : PCode :=
 (.reg [
 ⟨some 4, .ld (some 5) (.tmp 0), none⟩, ⟨some 5, .ld none (.tmp 1), none⟩, ⟨some 6, .ld none (.tmp 2), none⟩, ⟨some 7, .ld none (.tmp 3), none⟩, ⟨some 8, .call (.func 128) [.tmp 4, .tmp 5, .tmp 6, .tmp 7, .const (.bool true)], none⟩])
def p156 : PFunc := ⟨9, [], none, b156⟩
def q159x0 : PCode :=
 (.seq (.seq (.reg [
 ⟨some 34, .v .mv [.tmp 10], none⟩, ⟨some 35, .v .mv [.tmp 3], none⟩, ⟨some 36, .v (.ib .lss) [.tmp 34, .tmp 35], none⟩])
 (.cond (.tmp 36)
 .skip
 (.exit 0)))
 (.blk 1
 (.seq (.reg [
 ⟨some 37, .v .mv [.tmp 0], none⟩, ⟨some 38, .v .mv [.tmp 1], none⟩, ⟨some 39, .call (.func 166) [.tmp 37, .tmp 38], none⟩, ⟨some 11, .v .mv [.tmp 39], none⟩])
 (.seq (.seq (.reg [
 ⟨some 40, .v .mv [.tmp 11], none⟩, ⟨some 41, .v (.ib .lss) [.tmp 40, .const (.int .i64 0)], none⟩])
 (.cond (.tmp 41)
 (.exit 0)
 .skip))
 (.seq (.reg [
 ⟨some 42, .v .mv [.tmp 9], none⟩, ⟨some 43, .v .mv [.tmp 10], none⟩, ⟨some 44, .v .mv [.tmp 0], none⟩, ⟨some 45, .v .mv [.tmp 11], none⟩, ⟨some 46, .v .mv [.tmp 2], none⟩, ⟨some 47, .v (.ib .add) [.tmp 45, .tmp 46], none⟩, ⟨some 48, .v (.sls false true) [.tmp 44, .tmp 47], none⟩, ⟨some 49, .v (.ia 1) [.tmp 42, .tmp 43], none⟩, ⟨none, .st 1 (.tmp 49) (.tmp 48), none⟩])
 (.seq (.reg [
 ⟨some 50, .v .mv [.tmp 0], none⟩, ⟨some 51, .v .mv [.tmp 11], none⟩, ⟨some 52, .v .mv [.tmp 1], none⟩, ⟨some 53, .v .slen [.tmp 52], none⟩, ⟨some 54, .v (.ib .add) [.tmp 51, .tmp 53], none⟩, ⟨some 55, .v (.sls true false) [.tmp 50, .tmp 54], none⟩, ⟨some 0, .v .mv [.tmp 55], none⟩])
 (.reg [
 ⟨some 56, .v .mv [.tmp 10], none⟩, ⟨some 57, .v (.ib .add) [.tmp 56, .const (.int .i64 1)], none⟩, ⟨some 10, .v .mv [.tmp 57], none⟩])))))))
def b159 : PCode :=
 (.seq (.reg [
 ⟨some 8, .v .mv [.const (.slice none 0 0)], none⟩])
 (.seq (.seq (.reg [
 ⟨some 12, .v .mv [.tmp 3], none⟩, ⟨some 13, .v (.ib .eql) [.tmp 12, .const (.int .i64 0)], none⟩])
 (.cond (.tmp 13)
 (.seq (.reg [
 ⟨some 8, .v .mv [.const (.slice none 0 0)], none⟩])
 .ret)
 .skip))
 (.seq (.seq (.reg [
 ⟨some 14, .v .mv [.tmp 1], none⟩, ⟨some 15, .v (.sb .eql) [.tmp 14, .const (.string ⟨#[]⟩)], none⟩])
 (.cond (.tmp 15)
 (.seq (.reg [
 ⟨some 16, .v .mv [.tmp 0], none⟩, ⟨some 17, .v .mv [.tmp 3], none⟩, ⟨some 18, .call (.func 164) [.tmp 16, .tmp 17], none⟩, ⟨some 8, .v .mv [.tmp 18], none⟩])
 .ret)
 .skip))
 (.seq (.seq (.reg [
 ⟨some 19, .v .mv [.tmp 3], none⟩, ⟨some 20, .v (.ib .lss) [.tmp 19, .const (.int .i64 0)], none⟩])
 (.cond (.tmp 20)
 (.reg [
 ⟨some 21, .v .mv [.tmp 0], none⟩, ⟨some 22, .v .mv [.tmp 1], none⟩, ⟨some 23, .call (.func 165) [.tmp 21, .tmp 22], none⟩, ⟨some 24, .v (.ib .add) [.tmp 23, .const (.int .i64 1)], none⟩, ⟨some 3, .v .mv [.tmp 24], none⟩])
 .skip))
 (.seq (.reg [
 ⟨some 25, .v .mv [.tmp 3], none⟩, ⟨some 26, .v .mv [.tmp 0], none⟩, ⟨some 27, .v .slen [.tmp 26], none⟩, ⟨some 28, .v (.ib .add) [.tmp 27, .const (.int .i64 1)], none⟩, ⟨some 29, .v .mn [.tmp 25, .tmp 28], none⟩, ⟨some 3, .v .mv [.tmp 29], none⟩])
 (.seq (.reg [
 ⟨some 30, .v .mv [.tmp 3], none⟩, ⟨some 31, .mks 9 1 [(.string ⟨#[]⟩)] 16 (.tmp 30) (.tmp 30), none⟩, ⟨some 9, .v .mv [.tmp 31], none⟩])
 (.seq (.reg [
 ⟨some 32, .v .mv [.tmp 3], none⟩, ⟨some 33, .v (.ib .sub) [.tmp 32, .const (.int .i64 1)], none⟩, ⟨some 3, .v .mv [.tmp 33], none⟩])
 (.seq (.reg [
 ⟨some 10, .v .mv [.const (.int .i64 0)], none⟩])
 (.seq (.blk 0
 (.loop q159x0))
 (.seq (.reg [
 ⟨some 58, .v .mv [.tmp 9], none⟩, ⟨some 59, .v .mv [.tmp 10], none⟩, ⟨some 60, .v .mv [.tmp 0], none⟩, ⟨some 61, .v (.ia 1) [.tmp 58, .tmp 59], none⟩, ⟨none, .st 1 (.tmp 61) (.tmp 60), none⟩])
 (.seq (.reg [
 ⟨some 62, .v .mv [.tmp 9], none⟩, ⟨some 63, .v .mv [.tmp 10], none⟩, ⟨some 64, .v (.ib .add) [.tmp 63, .const (.int .i64 1)], none⟩, ⟨some 65, .v (.sl 1 false true) [.tmp 62, .tmp 64], none⟩, ⟨some 8, .v .mv [.tmp 65], none⟩])
 .ret)))))))))))
def p159 : PFunc := ⟨66, [(8, none)], none, b159⟩
def q164x0 : PCode :=
 (.seq (.seq (.reg [
 ⟨some 22, .v .mv [.tmp 7], none⟩, ⟨some 23, .v .mv [.tmp 1], none⟩, ⟨some 24, .v (.ib .sub) [.tmp 23, .const (.int .i64 1)], none⟩, ⟨some 25, .v (.ib .lss) [.tmp 22, .tmp 24], none⟩])
 (.cond (.tmp 25)
 .skip
 (.exit 0)))
 (.seq (.blk 1
 (.seq (.reg [
 ⟨some 29, .v .mv [.tmp 0], none⟩, ⟨some 30, .call (.func 174) [.tmp 29], none⟩, ⟨some 28, .v .mv [.tmp 30], none⟩, ⟨some 31, .v (.ext 0) [.tmp 28], none⟩, ⟨some 32, .v (.ext 1) [.tmp 28], none⟩, ⟨some 8, .v .mv [.tmp 31], none⟩, ⟨some 9, .v .mv [.tmp 32], none⟩])
 (.seq (.reg [
 ⟨some 33, .v .mv [.tmp 6], none⟩, ⟨some 34, .v .mv [.tmp 7], none⟩, ⟨some 35, .v .mv [.tmp 0], none⟩, ⟨some 36, .v .mv [.tmp 9], none⟩, ⟨some 37, .v (.sls false true) [.tmp 35, .tmp 36], none⟩, ⟨some 38, .v (.ia 1) [.tmp 33, .tmp 34], none⟩, ⟨none, .st 1 (.tmp 38) (.tmp 37), none⟩])
 (.reg [
 ⟨some 39, .v .mv [.tmp 0], none⟩, ⟨some 40, .v .mv [.tmp 9], none⟩, ⟨some 41, .v (.sls true false) [.tmp 39, .tmp 40], none⟩, ⟨some 0, .v .mv [.tmp 41], none⟩]))))
 (.reg [
 ⟨some 26, .v .mv [.tmp 7], none⟩, ⟨some 27, .v (.ib .add) [.tmp 26, .const (.int .i64 1)], none⟩, ⟨some 7, .v .mv [.tmp 27], none⟩])))
def b164 : PCode :=
 (.seq (.reg [
 ⟨some 4, .v .mv [.const (.slice none 0 0)], none⟩])
 (.seq (.reg [
 ⟨some 10, .v .mv [.tmp 0], none⟩, ⟨some 11, .call (.func 173) [.tmp 10], none⟩, ⟨some 5, .v .mv [.tmp 11], none⟩])
 (.seq (.seq (.reg [
 ⟨some 12, .v .mv [.tmp 1], none⟩, ⟨some 13, .v (.ib .lss) [.tmp 12, .const (.int .i64 0)], none⟩, ⟨some 14, .v .mv [.tmp 13], none⟩, ⟨some 15, .v .mv [.tmp 1], some (14, false)⟩,
 ⟨some 16, .v .mv [.tmp 5], some (14, false)⟩,
 ⟨some 17, .v (.ib .gtr) [.tmp 15, .tmp 16], some (14, false)⟩,
 ⟨some 18, .v .pick [.tmp 14, .const (.bool true), .tmp 17], none⟩])
 (.cond (.tmp 18)
 (.reg [
 ⟨some 19, .v .mv [.tmp 5], none⟩, ⟨some 1, .v .mv [.tmp 19], none⟩])
 .skip))
 (.seq (.reg [
 ⟨some 20, .v .mv [.tmp 1], none⟩, ⟨some 21, .mks 9 1 [(.string ⟨#[]⟩)] 16 (.tmp 20) (.tmp 20), none⟩, ⟨some 6, .v .mv [.tmp 21], none⟩])
 (.seq (.seq (.reg [
 ⟨some 7, .v .mv [.const (.int .i64 0)], none⟩])
 (.blk 0
 (.loop q164x0)))
 (.seq (.seq (.reg [
 ⟨some 42, .v .mv [.tmp 1], none⟩, ⟨some 43, .v (.ib .gtr) [.tmp 42, .const (.int .i64 0)], none⟩])
 (.cond (.tmp 43)
 (.reg [
 ⟨some 44, .v .mv [.tmp 6], none⟩, ⟨some 45, .v .mv [.tmp 1], none⟩, ⟨some 46, .v (.ib .sub) [.tmp 45, .const (.int .i64 1)], none⟩, ⟨some 47, .v .mv [.tmp 0], none⟩, ⟨some 48, .v (.ia 1) [.tmp 44, .tmp 46], none⟩, ⟨none, .st 1 (.tmp 48) (.tmp 47), none⟩])
 .skip))
 (.seq (.reg [
 ⟨some 49, .v .mv [.tmp 6], none⟩, ⟨some 4, .v .mv [.tmp 49], none⟩])
 .ret)))))))
def p164 : PFunc := ⟨50, [(4, none)], none, b164⟩
def q173x0 : PCode :=
 (.seq (.reg [
 ⟨some 5, .nxt (.tmp 4), none⟩, ⟨some 6, .v (.ext 0) [.tmp 5], none⟩])
 (.seq (.cond (.tmp 6)
 .skip
 (.exit 0))
 (.blk 1
 (.reg [
 ⟨some 7, .v .mv [.tmp 2], none⟩, ⟨some 8, .v (.ib .add) [.tmp 7, .const (.int .i64 1)], none⟩, ⟨some 2, .v .mv [.tmp 8], none⟩]))))
def b173 : PCode :=
 (.seq (.reg [
 ⟨some 2, .v .mv [.const (.int .i64 0)], none⟩])
 (.seq (.seq (.reg [
 ⟨some 3, .v .mv [.tmp 0], none⟩, ⟨some 4, .rng (.tmp 3), none⟩])
 (.blk 0
 (.loop q173x0)))
 (.seq (.reg [
 ⟨some 9, .v .mv [.tmp 2], none⟩, ⟨some 2, .v .mv [.tmp 9], none⟩])
 .ret)))
def p173 : PFunc := ⟨10, [(2, none)], none, b173⟩
def b174 : PCode :=
 (.seq (.reg [
 ⟨some 2, .v .mv [.const (.int .i32 0)], none⟩, ⟨some 3, .v .mv [.const (.int .i64 0)], none⟩])
 (.seq (.seq (.reg [
 ⟨some 4, .v .mv [.tmp 0], none⟩, ⟨some 5, .v (.sb .neq) [.tmp 4, .const (.string ⟨#[]⟩)], none⟩, ⟨some 6, .v .mv [.tmp 5], none⟩, ⟨some 7, .v .mv [.tmp 0], some (6, true)⟩,
 ⟨some 8, .v .ix [.tmp 7, .const (.int .i64 0)], some (6, true)⟩,
 ⟨some 9, .v (.ib .lss) [.tmp 8, .const (.int .u8 128)], some (6, true)⟩,
 ⟨some 10, .v .pick [.tmp 6, .tmp 9, .const (.bool false)], none⟩])
 (.cond (.tmp 10)
 (.seq (.reg [
 ⟨some 11, .v .mv [.tmp 0], none⟩, ⟨some 12, .v .ix [.tmp 11, .const (.int .i64 0)], none⟩, ⟨some 13, .v (.cv .i32) [.tmp 12], none⟩, ⟨some 2, .v .mv [.tmp 13], none⟩, ⟨some 3, .v .mv [.const (.int .i64 1)], none⟩])
 .ret)
 (.reg [
 ⟨some 15, .v .mv [.tmp 0], none⟩, ⟨some 16, .call (.func 184) [.tmp 15], none⟩, ⟨some 14, .v .mv [.tmp 16], none⟩, ⟨some 17, .v (.ext 0) [.tmp 14], none⟩, ⟨some 18, .v (.ext 1) [.tmp 14], none⟩, ⟨some 2, .v .mv [.tmp 17], none⟩, ⟨some 3, .v .mv [.tmp 18], none⟩])))
 .ret))
def p174 : PFunc := ⟨19, [(2, none), (3, none)], none, b174⟩
def PP (f : FuncId) : Option PFunc := if Nat.blt f 96 = true then (if Nat.blt f 56 = true then (if Nat.blt f 32 = true then (if Nat.blt f 25 = true then (if Nat.blt f 18 = true then (if Nat.blt f 4 = true then (if f = 3 then some p3 else none) else (if Nat.blt f 6 = true then (if f = 4 then some p4 else none) else (if f = 6 then some p6 else none))) else (if Nat.blt f 23 = true then (if Nat.blt f 22 = true then (if f = 18 then some p18 else none) else (if f = 22 then some p22 else none)) else (if Nat.blt f 24 = true then (if f = 23 then some p23 else none) else (if f = 24 then some p24 else none)))) else (if Nat.blt f 28 = true then (if Nat.blt f 26 = true then (if f = 25 then some p25 else none) else (if Nat.blt f 27 = true then (if f = 26 then some p26 else none) else (if f = 27 then some p27 else none))) else (if Nat.blt f 30 = true then (if Nat.blt f 29 = true then (if f = 28 then some p28 else none) else (if f = 29 then some p29 else none)) else (if Nat.blt f 31 = true then (if f = 30 then some p30 else none) else (if f = 31 then some p31 else none))))) else (if Nat.blt f 40 = true then (if Nat.blt f 36 = true then (if Nat.blt f 33 = true then (if f = 32 then some p32 else none) else (if Nat.blt f 35 = true then (if f = 33 then some p33 else none) else (if f = 35 then some p35 else none))) else (if Nat.blt f 38 = true then (if Nat.blt f 37 = true then (if f = 36 then some p36 else none) else (if f = 37 then some p37 else none)) else (if Nat.blt f 39 = true then (if f = 38 then some p38 else none) else (if f = 39 then some p39 else none)))) else (if Nat.blt f 46 = true then (if Nat.blt f 42 = true then (if Nat.blt f 41 = true then (if f = 40 then some p40 else none) else (if f = 41 then some p41 else none)) else (if Nat.blt f 45 = true then (if f = 42 then some p42 else none) else (if f = 45 then some p45 else none))) else (if Nat.blt f 51 = true then (if Nat.blt f 47 = true then (if f = 46 then some p46 else none) else (if f = 47 then some p47 else none)) else (if Nat.blt f 52 = true then (if f = 51 then some p51 else none) else (if f = 52 then some p52 else none)))))) else (if Nat.blt f 79 = true then (if Nat.blt f 72 = true then (if Nat.blt f 65 = true then (if Nat.blt f 59 = true then (if f = 56 then some p56 else none) else (if Nat.blt f 60 = true then (if f = 59 then some p59 else none) else (if f = 60 then some p60 else none))) else (if Nat.blt f 68 = true then (if Nat.blt f 66 = true then (if f = 65 then some p65 else none) else (if f = 66 then some p66 else none)) else (if Nat.blt f 69 = true then (if f = 68 then some p68 else none) else (if f = 69 then some p69 else none)))) else (if Nat.blt f 75 = true then (if Nat.blt f 73 = true then (if f = 72 then some p72 else none) else (if Nat.blt f 74 = true then (if f = 73 then some p73 else none) else (if f = 74 then some p74 else none))) else (if Nat.blt f 77 = true then (if Nat.blt f 76 = true then (if f = 75 then some p75 else none) else (if f = 76 then some p76 else none)) else (if Nat.blt f 78 = true then (if f = 77 then some p77 else none) else (if f = 78 then some p78 else none))))) else (if Nat.blt f 86 = true then (if Nat.blt f 82 = true then (if Nat.blt f 80 = true then (if f = 79 then some p79 else none) else (if Nat.blt f 81 = true then (if f = 80 then some p80 else none) else (if f = 81 then some p81 else none))) else (if Nat.blt f 84 = true then (if Nat.blt f 83 = true then (if f = 82 then some p82 else none) else (if f = 83 then some p83 else none)) else (if Nat.blt f 85 = true then (if f = 84 then some p84 else none) else (if f = 85 then some p85 else none)))) else (if Nat.blt f 92 = true then (if Nat.blt f 89 = true then (if Nat.blt f 87 = true then (if f = 86 then some p86 else none) else (if f = 87 then some p87 else none)) else (if Nat.blt f 91 = true then (if f = 89 then some p89 else none) else (if f = 91 then some p91 else none))) else (if Nat.blt f 94 = true then (if Nat.blt f 93 = true then (if f = 92 then some p92 else none) else (if f = 93 then some p93 else none)) else (if Nat.blt f 95 = true then (if f = 94 then some p94 else none) else (if f = 95 then some p95 else none))))))) else (if Nat.blt f 128 = true then (if Nat.blt f 111 = true then (if Nat.blt f 104 = true then (if Nat.blt f 99 = true then (if Nat.blt f 97 = true then (if f = 96 then some p96 else none) else (if Nat.blt f 98 = true then (if f = 97 then some p97 else none) else (if f = 98 then some p98 else none))) else (if Nat.blt f 101 = true then (if Nat.blt f 100 = true then (if f = 99 then some p99 else none) else (if f = 100 then some p100 else none)) else (if Nat.blt f 102 = true then (if f = 101 then some p101 else none) else (if f = 102 then some p102 else none)))) else (if Nat.blt f 107 = true then (if Nat.blt f 105 = true then (if f = 104 then some p104 else none) else (if Nat.blt f 106 = true then (if f = 105 then some p105 else none) else (if f = 106 then some p106 else none))) else (if Nat.blt f 109 = true then (if Nat.blt f 108 = true then (if f = 107 then some p107 else none) else (if f = 108 then some p108 else none)) else (if Nat.blt f 110 = true then (if f = 109 then some p109 else none) else (if f = 110 then some p110 else none))))) else (if Nat.blt f 120 = true then (if Nat.blt f 116 = true then (if Nat.blt f 112 = true then (if f = 111 then some p111 else none) else (if Nat.blt f 113 = true then (if f = 112 then some p112 else none) else (if f = 113 then some p113 else none))) else (if Nat.blt f 118 = true then (if Nat.blt f 117 = true then (if f = 116 then some p116 else none) else (if f = 117 then some p117 else none)) else (if Nat.blt f 119 = true then (if f = 118 then some p118 else none) else (if f = 119 then some p119 else none)))) else (if Nat.blt f 124 = true then (if Nat.blt f 122 = true then (if Nat.blt f 121 = true then (if f = 120 then some p120 else none) else (if f = 121 then some p121 else none)) else (if Nat.blt f 123 = true then (if f = 122 then some p122 else none) else (if f = 123 then some p123 else none))) else (if Nat.blt f 126 = true then (if Nat.blt f 125 = true then (if f = 124 then some p124 else none) else (if f = 125 then some p125 else none)) else (if Nat.blt f 127 = true then (if f = 126 then some p126 else none) else (if f = 127 then some p127 else none)))))) else (if Nat.blt f 145 = true then (if Nat.blt f 135 = true then (if Nat.blt f 131 = true then (if Nat.blt f 129 = true then (if f = 128 then some p128 else none) else (if Nat.blt f 130 = true then (if f = 129 then some p129 else none) else (if f = 130 then some p130 else none))) else (if Nat.blt f 133 = true then (if Nat.blt f 132 = true then (if f = 131 then some p131 else none) else (if f = 132 then some p132 else none)) else (if Nat.blt f 134 = true then (if f = 133 then some p133 else none) else (if f = 134 then some p134 else none)))) else (if Nat.blt f 139 = true then (if Nat.blt f 137 = true then (if Nat.blt f 136 = true then (if f = 135 then some p135 else none) else (if f = 136 then some p136 else none)) else (if Nat.blt f 138 = true then (if f = 137 then some p137 else none) else (if f = 138 then some p138 else none))) else (if Nat.blt f 143 = true then (if Nat.blt f 142 = true then (if f = 139 then some p139 else none) else (if f = 142 then some p142 else none)) else (if Nat.blt f 144 = true then (if f = 143 then some p143 else none) else (if f = 144 then some p144 else none))))) else (if Nat.blt f 153 = true then (if Nat.blt f 148 = true then (if Nat.blt f 146 = true then (if f = 145 then some p145 else none) else (if Nat.blt f 147 = true then (if f = 146 then some p146 else none) else (if f = 147 then some p147 else none))) else (if Nat.blt f 151 = true then (if Nat.blt f 150 = true then (if f = 148 then some p148 else none) else (if f = 150 then some p150 else none)) else (if Nat.blt f 152 = true then (if f = 151 then some p151 else none) else (if f = 152 then some p152 else none)))) else (if Nat.blt f 159 = true then (if Nat.blt f 155 = true then (if Nat.blt f 154 = true then (if f = 153 then some p153 else none) else (if f = 154 then some p154 else none)) else (if Nat.blt f 156 = true then (if f = 155 then some p155 else none) else (if f = 156 then some p156 else none))) else (if Nat.blt f 173 = true then (if Nat.blt f 164 = true then (if f = 159 then some p159 else none) else (if f = 164 then some p164 else none)) else (if Nat.blt f 174 = true then (if f = 173 then some p173 else none) else (if f = 174 then some p174 else none)))))))
theorem P3 : PP 3 = some p3 := rfl
theorem B3 : p3.body = b3 := rfl
theorem N3 : p3.n = 67 := rfl
theorem R3 : p3.res = [(6, none)] := rfl
theorem P4 : PP 4 = some p4 := rfl
theorem B4 : p4.body = b4 := rfl
theorem N4 : p4.n = 115 := rfl
theorem R4 : p4.res = [(6, none)] := rfl
theorem P6 : PP 6 = some p6 := rfl
theorem B6 : p6.body = b6 := rfl
theorem N6 : p6.n = 203 := rfl
theorem R6 : p6.res = [(8, none)] := rfl
theorem P22 : PP 22 = some p22 := rfl
theorem B22 : p22.body = b22 := rfl
theorem N22 : p22.n = 19 := rfl
theorem R22 : p22.res = [(2, none)] := rfl
theorem P23 : PP 23 = some p23 := rfl
theorem B23 : p23.body = b23 := rfl
theorem N23 : p23.n = 214 := rfl
theorem R23 : p23.res = [(0, none)] := rfl
theorem P24 : PP 24 = some p24 := rfl
theorem B24 : p24.body = b24 := rfl
theorem N24 : p24.n = 72 := rfl
theorem R24 : p24.res = [(6, none), (7, none)] := rfl
theorem P25 : PP 25 = some p25 := rfl
theorem B25 : p25.body = b25 := rfl
theorem N25 : p25.n = 86 := rfl
theorem R25 : p25.res = [(2, none)] := rfl
theorem P26 : PP 26 = some p26 := rfl
theorem B26 : p26.body = b26 := rfl
theorem N26 : p26.n = 31 := rfl
theorem R26 : p26.res = [(4, none)] := rfl
theorem P27 : PP 27 = some p27 := rfl
theorem B27 : p27.body = b27 := rfl
theorem N27 : p27.n = 36 := rfl
theorem R27 : p27.res = [(4, none)] := rfl
theorem P28 : PP 28 = some p28 := rfl
theorem B28 : p28.body = b28 := rfl
theorem N28 : p28.n = 26 := rfl
theorem R28 : p28.res = [(6, none)] := rfl
theorem P29 : PP 29 = some p29 := rfl
theorem B29 : p29.body = b29 := rfl
theorem N29 : p29.n = 21 := rfl
theorem R29 : p29.res = [(4, none)] := rfl
theorem P30 : PP 30 = some p30 := rfl
theorem B30 : p30.body = b30 := rfl
theorem N30 : p30.n = 75 := rfl
theorem R30 : p30.res = [(4, none), (5, none)] := rfl
theorem P31 : PP 31 = some p31 := rfl
theorem B31 : p31.body = b31 := rfl
theorem N31 : p31.n = 77 := rfl
theorem R31 : p31.res = [(4, none), (5, none)] := rfl
theorem P32 : PP 32 = some p32 := rfl
theorem B32 : p32.body = b32 := rfl
theorem N32 : p32.n = 31 := rfl
theorem R32 : p32.res = [(4, none), (5, none), (6, none)] := rfl
theorem P35 : PP 35 = some p35 := rfl
theorem B35 : p35.body = b35 := rfl
theorem N35 : p35.n = 26 := rfl
theorem R35 : p35.res = [(4, none)] := rfl
theorem P36 : PP 36 = some p36 := rfl
theorem B36 : p36.body = b36 := rfl
theorem N36 : p36.n = 11 := rfl
theorem R36 : p36.res = [(4, none)] := rfl
theorem P37 : PP 37 = some p37 := rfl
theorem B37 : p37.body = b37 := rfl
theorem N37 : p37.n = 38 := rfl
theorem R37 : p37.res = [(6, none)] := rfl
theorem P38 : PP 38 = some p38 := rfl
theorem B38 : p38.body = b38 := rfl
theorem N38 : p38.n = 22 := rfl
theorem R38 : p38.res = [(2, none)] := rfl
theorem P39 : PP 39 = some p39 := rfl
theorem B39 : p39.body = b39 := rfl
theorem N39 : p39.n = 22 := rfl
theorem R39 : p39.res = [(2, none)] := rfl
theorem P40 : PP 40 = some p40 := rfl
theorem B40 : p40.body = b40 := rfl
theorem N40 : p40.n = 41 := rfl
theorem R40 : p40.res = [(4, none)] := rfl
theorem P51 : PP 51 = some p51 := rfl
theorem B51 : p51.body = b51 := rfl
theorem N51 : p51.n = 18 := rfl
theorem R51 : p51.res = [(4, none)] := rfl
theorem P60 : PP 60 = some p60 := rfl
theorem B60 : p60.body = b60 := rfl
theorem N60 : p60.n = 11 := rfl
theorem R60 : p60.res = [(4, none)] := rfl
theorem P75 : PP 75 = some p75 := rfl
theorem B75 : p75.body = b75 := rfl
theorem N75 : p75.n = 41 := rfl
theorem R75 : p75.res = [(2, none)] := rfl
theorem P76 : PP 76 = some p76 := rfl
theorem B76 : p76.body = b76 := rfl
theorem N76 : p76.n = 21 := rfl
theorem R76 : p76.res = [(4, none)] := rfl
theorem P77 : PP 77 = some p77 := rfl
theorem B77 : p77.body = b77 := rfl
theorem N77 : p77.n = 42 := rfl
theorem R77 : p77.res = [(4, none)] := rfl
theorem P78 : PP 78 = some p78 := rfl
theorem B78 : p78.body = b78 := rfl
theorem N78 : p78.n = 46 := rfl
theorem R78 : p78.res = [(2, some (some 5))] := rfl
theorem P79 : PP 79 = some p79 := rfl
theorem B79 : p79.body = b79 := rfl
theorem N79 : p79.n = 22 := rfl
theorem R79 : p79.res = [(6, none), (7, none)] := rfl
theorem P80 : PP 80 = some p80 := rfl
theorem B80 : p80.body = b80 := rfl
theorem N80 : p80.n = 17 := rfl
theorem R80 : p80.res = [(2, none)] := rfl
theorem P81 : PP 81 = some p81 := rfl
theorem B81 : p81.body = b81 := rfl
theorem N81 : p81.n = 15 := rfl
theorem R81 : p81.res = [(6, none)] := rfl
theorem P82 : PP 82 = some p82 := rfl
theorem B82 : p82.body = b82 := rfl
theorem N82 : p82.n = 35 := rfl
theorem R82 : p82.res = [(4, none)] := rfl
theorem P83 : PP 83 = some p83 := rfl
theorem B83 : p83.body = b83 := rfl
theorem N83 : p83.n = 20 := rfl
theorem R83 : p83.res = [(8, none)] := rfl
theorem P84 : PP 84 = some p84 := rfl
theorem B84 : p84.body = b84 := rfl
theorem N84 : p84.n = 27 := rfl
theorem R84 : p84.res = [(8, none)] := rfl
theorem P85 : PP 85 = some p85 := rfl
theorem B85 : p85.body = b85 := rfl
theorem N85 : p85.n = 10 := rfl
theorem R85 : p85.res = [(4, some (some 2)), (5, none)] := rfl
theorem P86 : PP 86 = some p86 := rfl
theorem B86 : p86.body = b86 := rfl
theorem N86 : p86.n = 24 := rfl
theorem R86 : p86.res = [(6, some (some 2))] := rfl
theorem P87 : PP 87 = some p87 := rfl
theorem B87 : p87.body = b87 := rfl
theorem N87 : p87.n = 8 := rfl
theorem R87 : p87.res = [(2, none)] := rfl
theorem P104 : PP 104 = some p104 := rfl
theorem B104 : p104.body = b104 := rfl
theorem N104 : p104.n = 11 := rfl
theorem R104 : p104.res = [(4, none)] := rfl
theorem P109 : PP 109 = some p109 := rfl
theorem B109 : p109.body = b109 := rfl
theorem N109 : p109.n = 8 := rfl
theorem R109 : p109.res = [(2, some (some 2)), (3, some none)] := rfl
theorem P117 : PP 117 = some p117 := rfl
theorem B117 : p117.body = b117 := rfl
theorem N117 : p117.n = 15 := rfl
theorem R117 : p117.res = [(2, none)] := rfl
theorem P118 : PP 118 = some p118 := rfl
theorem B118 : p118.body = b118 := rfl
theorem N118 : p118.n = 15 := rfl
theorem R118 : p118.res = [(6, none)] := rfl
theorem P119 : PP 119 = some p119 := rfl
theorem B119 : p119.body = b119 := rfl
theorem N119 : p119.n = 15 := rfl
theorem R119 : p119.res = [(2, none)] := rfl
theorem P120 : PP 120 = some p120 := rfl
theorem B120 : p120.body = b120 := rfl
theorem N120 : p120.n = 9 := rfl
theorem R120 : p120.res = [(4, none)] := rfl
theorem P121 : PP 121 = some p121 := rfl
theorem B121 : p121.body = b121 := rfl
theorem N121 : p121.n = 9 := rfl
theorem R121 : p121.res = [(4, none)] := rfl
theorem P122 : PP 122 = some p122 := rfl
theorem B122 : p122.body = b122 := rfl
theorem N122 : p122.n = 24 := rfl
theorem R122 : p122.res = [(2, none)] := rfl
theorem P123 : PP 123 = some p123 := rfl
theorem B123 : p123.body = b123 := rfl
theorem N123 : p123.n = 9 := rfl
theorem R123 : p123.res = [(4, none)] := rfl
theorem P124 : PP 124 = some p124 := rfl
theorem B124 : p124.body = b124 := rfl
theorem N124 : p124.n = 8 := rfl
theorem R124 : p124.res = [(3, none)] := rfl
theorem P125 : PP 125 = some p125 := rfl
theorem B125 : p125.body = b125 := rfl
theorem N125 : p125.n = 9 := rfl
theorem R125 : p125.res = [(3, none)] := rfl
theorem P126 : PP 126 = some p126 := rfl
theorem B126 : p126.body = b126 := rfl
theorem N126 : p126.n = 9 := rfl
theorem R126 : p126.res = [(4, none)] := rfl
theorem P127 : PP 127 = some p127 := rfl
theorem B127 : p127.body = b127 := rfl
theorem N127 : p127.n = 27 := rfl
theorem R127 : p127.res = [] := rfl
theorem P128 : PP 128 = some p128 := rfl
theorem B128 : p128.body = b128 := rfl
theorem N128 : p128.n = 41 := rfl
theorem R128 : p128.res = [] := rfl
theorem P129 : PP 129 = some p129 := rfl
theorem B129 : p129.body = b129 := rfl
theorem N129 : p129.n = 18 := rfl
theorem R129 : p129.res = [(6, none)] := rfl
theorem P130 : PP 130 = some p130 := rfl
theorem B130 : p130.body = b130 := rfl
theorem N130 : p130.n = 18 := rfl
theorem R130 : p130.res = [(6, none)] := rfl
theorem P142 : PP 142 = some p142 := rfl
theorem B142 : p142.body = b142 := rfl
theorem N142 : p142.n = 16 := rfl
theorem R142 : p142.res = [] := rfl
theorem P150 : PP 150 = some p150 := rfl
theorem B150 : p150.body = b150 := rfl
theorem N150 : p150.n = 19 := rfl
theorem R150 : p150.res = [(4, none)] := rfl
theorem P151 : PP 151 = some p151 := rfl
theorem B151 : p151.body = b151 := rfl
theorem N151 : p151.n = 19 := rfl
theorem R151 : p151.res = [(4, none)] := rfl
theorem P152 : PP 152 = some p152 := rfl
theorem B152 : p152.body = b152 := rfl
theorem N152 : p152.n = 19 := rfl
theorem R152 : p152.res = [(4, none)] := rfl
theorem P153 : PP 153 = some p153 := rfl
theorem B153 : p153.body = b153 := rfl
theorem N153 : p153.n = 19 := rfl
theorem R153 : p153.res = [(4, none)] := rfl
end Go.Pi.Coa
