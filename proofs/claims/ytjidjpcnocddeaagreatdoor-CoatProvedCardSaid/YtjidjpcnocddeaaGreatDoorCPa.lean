/- The functions of coats, in the small language. -/
import Derived.Test.YtjidjpcnocddeaaGreatDoorPiI
set_option linter.all false
set_option linter.unusedVariables false
set_option linter.unusedSimpArgs false
set_option linter.unusedSectionVars false
set_option maxRecDepth 100000
namespace Go.Pi.Coa
open Go Go.Pi

def b3 : PCode :=
 (.seq (.reg [
 ⟨some 3, .lbox 26 (.tmp 0), none⟩, ⟨some 6, .v .mv [.const (.bool false)], none⟩])
 (.seq (.seq (.reg [
 ⟨some 9, .ld (some 3) (.tmp 3), none⟩, ⟨some 10, .call (.func 22) [.tmp 9], none⟩, ⟨some 11, .v .no [.tmp 10], none⟩, ⟨some 12, .v .mv [.tmp 11], none⟩, ⟨some 13, .v .mv [.tmp 1], some (12, false)⟩,
 ⟨some 14, .v .len [.tmp 13], some (12, false)⟩,
 ⟨some 15, .v (.ib .gtr) [.tmp 14, .const (.int .i64 7)], some (12, false)⟩,
 ⟨some 16, .v .pick [.tmp 12, .const (.bool true), .tmp 15], none⟩, ⟨some 17, .v .mv [.tmp 16], none⟩, ⟨some 18, .v .mv [.tmp 2], some (17, false)⟩,
 ⟨some 19, .v .len [.tmp 18], some (17, false)⟩,
 ⟨some 20, .v (.ib .gtr) [.tmp 19, .const (.int .i64 14)], some (17, false)⟩,
 ⟨some 21, .v .pick [.tmp 17, .const (.bool true), .tmp 20], none⟩])
 (.cond (.tmp 21)
 (.seq (.reg [
 ⟨some 22, .call (.func 23) [], none⟩, ⟨some 6, .v .mv [.tmp 22], none⟩])
 .ret)
 .skip))
 (.seq (.reg [
 ⟨some 24, .ld (some 3) (.tmp 3), none⟩, ⟨some 25, .v .mv [.tmp 1], none⟩, ⟨some 26, .v .mv [.tmp 2], none⟩, ⟨some 27, .call (.func 24) [.tmp 24, .tmp 25, .tmp 26], none⟩, ⟨some 23, .v .mv [.tmp 27], none⟩, ⟨some 28, .v (.ext 0) [.tmp 23], none⟩, ⟨some 29, .v (.ext 1) [.tmp 23], none⟩, ⟨some 7, .v .mv [.tmp 28], none⟩, ⟨some 8, .v .mv [.tmp 29], none⟩])
 (.seq (.seq (.reg [
 ⟨some 30, .ld (some 3) (.tmp 3), none⟩, ⟨some 31, .call (.func 25) [.tmp 30], none⟩, ⟨some 32, .v .no [.tmp 31], none⟩, ⟨some 33, .v .mv [.tmp 32], none⟩, ⟨some 34, .ld (some 3) (.tmp 3), some (33, false)⟩,
 ⟨some 35, .v .mv [.tmp 1], some (33, false)⟩,
 ⟨some 36, .call (.func 26) [.tmp 34, .tmp 35], some (33, false)⟩,
 ⟨some 37, .v .no [.tmp 36], some (33, false)⟩,
 ⟨some 38, .v .pick [.tmp 33, .const (.bool true), .tmp 37], none⟩, ⟨some 39, .v .mv [.tmp 38], none⟩, ⟨some 40, .ld (some 3) (.tmp 3), some (39, false)⟩,
 ⟨some 41, .v .mv [.tmp 2], some (39, false)⟩,
 ⟨some 42, .call (.func 27) [.tmp 40, .tmp 41], some (39, false)⟩,
 ⟨some 43, .v .no [.tmp 42], some (39, false)⟩,
 ⟨some 44, .v .pick [.tmp 39, .const (.bool true), .tmp 43], none⟩])
 (.cond (.tmp 44)
 (.seq (.reg [
 ⟨some 45, .v .mv [.tmp 8], none⟩, ⟨some 46, .v (.ib .eql) [.tmp 45, .const (.int .i64 2)], none⟩, ⟨some 47, .v .mv [.tmp 46], none⟩, ⟨some 48, .v .mv [.tmp 7], some (47, true)⟩,
 ⟨some 49, .v .no [.tmp 48], some (47, true)⟩,
 ⟨some 50, .v .pick [.tmp 47, .tmp 49, .const (.bool false)], none⟩, ⟨some 51, .v .mv [.tmp 50], none⟩, ⟨some 52, .call (.func 23) [], some (51, true)⟩,
 ⟨some 53, .v .pick [.tmp 51, .tmp 52, .const (.bool false)], none⟩, ⟨some 6, .v .mv [.tmp 53], none⟩])
 .ret)
 .skip))
 (.seq (.reg [
 ⟨some 54, .v .mv [.tmp 8], none⟩, ⟨some 55, .v (.ib .eql) [.tmp 54, .const (.int .i64 0)], none⟩, ⟨some 56, .v .mv [.tmp 55], none⟩, ⟨some 57, .v .mv [.tmp 7], some (56, true)⟩,
 ⟨some 58, .ld (some 3) (.tmp 3), some (56, true)⟩,
 ⟨some 59, .v .mv [.tmp 1], some (56, true)⟩,
 ⟨some 60, .v .mv [.tmp 2], some (56, true)⟩,
 ⟨some 61, .call (.func 28) [.tmp 58, .tmp 59, .tmp 60], some (56, true)⟩,
 ⟨some 62, .v (.bb false) [.tmp 57, .tmp 61], some (56, true)⟩,
 ⟨some 63, .v .pick [.tmp 56, .tmp 62, .const (.bool false)], none⟩, ⟨some 64, .v .mv [.tmp 63], none⟩, ⟨some 65, .call (.func 23) [], some (64, true)⟩,
 ⟨some 66, .v .pick [.tmp 64, .tmp 65, .const (.bool false)], none⟩, ⟨some 6, .v .mv [.tmp 66], none⟩])
 .ret)))))
def p3 : PFunc := ⟨67, [(6, none)], none, b3⟩
def b4 : PCode :=
 (.seq (.reg [
 ⟨some 3, .lbox 26 (.tmp 0), none⟩, ⟨some 6, .v .mv [.const (.bool false)], none⟩])
 (.seq (.seq (.reg [
 ⟨some 15, .ld (some 3) (.tmp 3), none⟩, ⟨some 16, .v .mv [.tmp 1], none⟩, ⟨some 17, .call (.func 29) [.tmp 15, .tmp 16], none⟩, ⟨some 18, .v .no [.tmp 17], none⟩, ⟨some 19, .v .mv [.tmp 18], none⟩, ⟨some 20, .v .mv [.tmp 2], some (19, false)⟩,
 ⟨some 21, .v .len [.tmp 20], some (19, false)⟩,
 ⟨some 22, .v (.ib .gtr) [.tmp 21, .const (.int .i64 14)], some (19, false)⟩,
 ⟨some 23, .v .pick [.tmp 19, .const (.bool true), .tmp 22], none⟩, ⟨some 24, .v .mv [.tmp 23], none⟩, ⟨some 25, .ld (some 3) (.tmp 3), some (24, false)⟩,
 ⟨some 26, .v .mv [.tmp 2], some (24, false)⟩,
 ⟨some 27, .call (.func 27) [.tmp 25, .tmp 26], some (24, false)⟩,
 ⟨some 28, .v .no [.tmp 27], some (24, false)⟩,
 ⟨some 29, .v .pick [.tmp 24, .const (.bool true), .tmp 28], none⟩])
 (.cond (.tmp 29)
 (.seq (.reg [
 ⟨some 30, .call (.func 23) [], none⟩, ⟨some 6, .v .mv [.tmp 30], none⟩])
 .ret)
 .skip))
 (.seq (.reg [
 ⟨some 32, .ld (some 3) (.tmp 3), none⟩, ⟨some 33, .v .mv [.tmp 1], none⟩, ⟨some 34, .v .mv [.tmp 2], none⟩, ⟨some 35, .call (.func 24) [.tmp 32, .tmp 33, .tmp 34], none⟩, ⟨some 31, .v .mv [.tmp 35], none⟩, ⟨some 36, .v (.ext 0) [.tmp 31], none⟩, ⟨some 37, .v (.ext 1) [.tmp 31], none⟩, ⟨some 7, .v .mv [.tmp 36], none⟩, ⟨some 8, .v .mv [.tmp 37], none⟩])
 (.seq (.reg [
 ⟨some 39, .ld (some 3) (.tmp 3), none⟩, ⟨some 40, .v .mv [.tmp 1], none⟩, ⟨some 41, .call (.func 30) [.tmp 39, .tmp 40], none⟩, ⟨some 38, .v .mv [.tmp 41], none⟩, ⟨some 42, .v (.ext 0) [.tmp 38], none⟩, ⟨some 43, .v (.ext 1) [.tmp 38], none⟩, ⟨some 9, .v .mv [.tmp 42], none⟩, ⟨some 10, .v .mv [.tmp 43], none⟩])
 (.seq (.reg [
 ⟨some 45, .ld (some 3) (.tmp 3), none⟩, ⟨some 46, .v .mv [.tmp 1], none⟩, ⟨some 47, .call (.func 31) [.tmp 45, .tmp 46], none⟩, ⟨some 44, .v .mv [.tmp 47], none⟩, ⟨some 48, .v (.ext 0) [.tmp 44], none⟩, ⟨some 49, .v (.ext 1) [.tmp 44], none⟩, ⟨some 11, .v .mv [.tmp 48], none⟩, ⟨some 12, .v .mv [.tmp 49], none⟩])
 (.seq (.seq (.reg [
 ⟨some 50, .v .mv [.tmp 8], none⟩, ⟨some 51, .v (.ib .neq) [.tmp 50, .const (.int .i64 0)], none⟩, ⟨some 52, .v .mv [.tmp 51], none⟩, ⟨some 53, .v .mv [.tmp 10], some (52, false)⟩,
 ⟨some 54, .v (.ib .neq) [.tmp 53, .const (.int .i64 0)], some (52, false)⟩,
 ⟨some 55, .v .pick [.tmp 52, .const (.bool true), .tmp 54], none⟩, ⟨some 56, .v .mv [.tmp 55], none⟩, ⟨some 57, .v .mv [.tmp 9], some (56, false)⟩,
 ⟨some 58, .v (.ib .lss) [.tmp 57, .const (.int .i64 1)], some (56, false)⟩,
 ⟨some 59, .v .pick [.tmp 56, .const (.bool true), .tmp 58], none⟩, ⟨some 60, .v .mv [.tmp 59], none⟩, ⟨some 61, .v .mv [.tmp 9], some (60, false)⟩,
 ⟨some 62, .v (.ib .gtr) [.tmp 61, .const (.int .i64 3)], some (60, false)⟩,
 ⟨some 63, .v .pick [.tmp 60, .const (.bool true), .tmp 62], none⟩, ⟨some 64, .v .mv [.tmp 63], none⟩, ⟨some 65, .v .mv [.tmp 12], some (64, false)⟩,
 ⟨some 66, .v (.ib .neq) [.tmp 65, .const (.int .i64 0)], some (64, false)⟩,
 ⟨some 67, .v .mv [.tmp 66], some (64, false)⟩,
 ⟨some 68, .v .mv [.tmp 12], some (67, true)⟩,
 ⟨some 69, .v (.ib .neq) [.tmp 68, .const (.int .i64 5)], some (67, true)⟩,
 ⟨some 70, .v .pick [.tmp 67, .tmp 69, .const (.bool false)], some (64, false)⟩,
 ⟨some 71, .v .pick [.tmp 64, .const (.bool true), .tmp 70], none⟩, ⟨some 72, .v .mv [.tmp 71], none⟩, ⟨some 73, .v .mv [.tmp 9], some (72, false)⟩,
 ⟨some 74, .v (.ib .eql) [.tmp 73, .const (.int .i64 3)], some (72, false)⟩,
 ⟨some 75, .v .mv [.tmp 12], some (72, false)⟩,
 ⟨some 76, .v (.ib .eql) [.tmp 75, .const (.int .i64 5)], some (72, false)⟩,
 ⟨some 77, .v (.bb true) [.tmp 74, .tmp 76], some (72, false)⟩,
 ⟨some 78, .v .pick [.tmp 72, .const (.bool true), .tmp 77], none⟩])
 (.cond (.tmp 78)
 (.seq (.reg [
 ⟨some 6, .v .mv [.const (.bool false)], none⟩])
 .ret)
 .skip))
 (.seq (.seq (.reg [
 ⟨some 79, .v .mv [.tmp 9], none⟩, ⟨some 80, .v (.ib .eql) [.tmp 79, .const (.int .i64 3)], none⟩, ⟨some 81, .v .mv [.tmp 80], none⟩, ⟨some 82, .v .mv [.tmp 7], some (81, true)⟩,
 ⟨some 83, .v .no [.tmp 82], some (81, true)⟩,
 ⟨some 84, .v .pick [.tmp 81, .tmp 83, .const (.bool false)], none⟩, ⟨some 85, .v .mv [.tmp 84], none⟩, ⟨some 86, .v .mv [.tmp 9], some (85, false)⟩,
 ⟨some 87, .v (.ib .eql) [.tmp 86, .const (.int .i64 1)], some (85, false)⟩,
 ⟨some 88, .v .mv [.tmp 87], some (85, false)⟩,
 ⟨some 89, .v .mv [.tmp 7], some (88, true)⟩,
 ⟨some 90, .v .pick [.tmp 88, .tmp 89, .const (.bool false)], some (85, false)⟩,
 ⟨some 91, .v .pick [.tmp 85, .const (.bool true), .tmp 90], none⟩])
 (.cond (.tmp 91)
 (.seq (.reg [
 ⟨some 6, .v .mv [.const (.bool false)], none⟩])
 .ret)
 .skip))
 (.seq (.seq (.reg [
 ⟨some 92, .v .mv [.tmp 12], none⟩, ⟨some 93, .v (.ib .neq) [.tmp 92, .const (.int .i64 0)], none⟩])
 (.cond (.tmp 93)
 (.seq (.reg [
 ⟨some 94, .call (.func 23) [], none⟩, ⟨some 6, .v .mv [.tmp 94], none⟩])
 .ret)
 .skip))
 (.seq (.seq (.reg [
 ⟨some 95, .ld (some 3) (.tmp 3), none⟩, ⟨some 96, .v .mv [.tmp 11], none⟩, ⟨some 97, .call (.func 27) [.tmp 95, .tmp 96], none⟩, ⟨some 98, .v .no [.tmp 97], none⟩])
 (.cond (.tmp 98)
 (.seq (.reg [
 ⟨some 6, .v .mv [.const (.bool false)], none⟩])
 .ret)
 .skip))
 (.seq (.reg [
 ⟨some 100, .ld (some 3) (.tmp 3), none⟩, ⟨some 101, .v .mv [.tmp 1], none⟩, ⟨some 102, .v .mv [.tmp 11], none⟩, ⟨some 103, .call (.func 24) [.tmp 100, .tmp 101, .tmp 102], none⟩, ⟨some 99, .v .mv [.tmp 103], none⟩, ⟨some 104, .v (.ext 0) [.tmp 99], none⟩, ⟨some 105, .v (.ext 1) [.tmp 99], none⟩, ⟨some 13, .v .mv [.tmp 104], none⟩, ⟨some 14, .v .mv [.tmp 105], none⟩])
 (.seq (.reg [
 ⟨some 106, .v .mv [.tmp 14], none⟩, ⟨some 107, .v (.ib .eql) [.tmp 106, .const (.int .i64 0)], none⟩, ⟨some 108, .v .mv [.tmp 107], none⟩, ⟨some 109, .v .mv [.tmp 13], some (108, true)⟩,
 ⟨some 110, .v .no [.tmp 109], some (108, true)⟩,
 ⟨some 111, .v .pick [.tmp 108, .tmp 110, .const (.bool false)], none⟩, ⟨some 112, .v .mv [.tmp 111], none⟩, ⟨some 113, .call (.func 23) [], some (112, true)⟩,
 ⟨some 114, .v .pick [.tmp 112, .tmp 113, .const (.bool false)], none⟩, ⟨some 6, .v .mv [.tmp 114], none⟩])
 .ret)))))))))))
def p4 : PFunc := ⟨115, [(6, none)], none, b4⟩
def b6 : PCode :=
 (.seq (.reg [
 ⟨some 4, .lbox 26 (.tmp 0), none⟩, ⟨some 8, .v .mv [.const (.bool false)], none⟩])
 (.seq (.seq (.reg [
 ⟨some 20, .ld (some 3) (.tmp 4), none⟩, ⟨some 21, .v .mv [.tmp 1], none⟩, ⟨some 22, .call (.func 29) [.tmp 20, .tmp 21], none⟩, ⟨some 23, .v .no [.tmp 22], none⟩, ⟨some 24, .v .mv [.tmp 23], none⟩, ⟨some 25, .v .mv [.tmp 2], some (24, false)⟩,
 ⟨some 26, .v .len [.tmp 25], some (24, false)⟩,
 ⟨some 27, .v (.ib .gtr) [.tmp 26, .const (.int .i64 14)], some (24, false)⟩,
 ⟨some 28, .v .pick [.tmp 24, .const (.bool true), .tmp 27], none⟩, ⟨some 29, .v .mv [.tmp 28], none⟩, ⟨some 30, .ld (some 3) (.tmp 4), some (29, false)⟩,
 ⟨some 31, .v .mv [.tmp 2], some (29, false)⟩,
 ⟨some 32, .call (.func 27) [.tmp 30, .tmp 31], some (29, false)⟩,
 ⟨some 33, .v .no [.tmp 32], some (29, false)⟩,
 ⟨some 34, .v .pick [.tmp 29, .const (.bool true), .tmp 33], none⟩, ⟨some 35, .v .mv [.tmp 34], none⟩, ⟨some 36, .ld (some 3) (.tmp 4), some (35, false)⟩,
 ⟨some 37, .v .mv [.tmp 3], some (35, false)⟩,
 ⟨some 38, .call (.func 36) [.tmp 36, .tmp 37], some (35, false)⟩,
 ⟨some 39, .v .no [.tmp 38], some (35, false)⟩,
 ⟨some 40, .v .pick [.tmp 35, .const (.bool true), .tmp 39], none⟩])
 (.cond (.tmp 40)
 (.seq (.reg [
 ⟨some 41, .call (.func 23) [], none⟩, ⟨some 8, .v .mv [.tmp 41], none⟩])
 .ret)
 .skip))
 (.seq (.reg [
 ⟨some 43, .ld (some 3) (.tmp 4), none⟩, ⟨some 44, .v .mv [.tmp 1], none⟩, ⟨some 45, .call (.func 32) [.tmp 43, .tmp 44], none⟩, ⟨some 42, .v .mv [.tmp 45], none⟩, ⟨some 46, .v (.ext 0) [.tmp 42], none⟩, ⟨some 47, .v (.ext 1) [.tmp 42], none⟩, ⟨some 48, .v (.ext 2) [.tmp 42], none⟩, ⟨some 9, .v .mv [.tmp 46], none⟩, ⟨some 10, .v .mv [.tmp 47], none⟩, ⟨some 11, .v .mv [.tmp 48], none⟩])
 (.seq (.reg [
 ⟨some 50, .ld (some 3) (.tmp 4), none⟩, ⟨some 51, .v .mv [.tmp 1], none⟩, ⟨some 52, .call (.func 31) [.tmp 50, .tmp 51], none⟩, ⟨some 49, .v .mv [.tmp 52], none⟩, ⟨some 53, .v (.ext 0) [.tmp 49], none⟩, ⟨some 54, .v (.ext 1) [.tmp 49], none⟩, ⟨some 12, .v .mv [.tmp 53], none⟩, ⟨some 13, .v .mv [.tmp 54], none⟩])
 (.seq (.reg [
 ⟨some 56, .ld (some 3) (.tmp 4), none⟩, ⟨some 57, .v .mv [.tmp 1], none⟩, ⟨some 58, .v .mv [.tmp 2], none⟩, ⟨some 59, .call (.func 24) [.tmp 56, .tmp 57, .tmp 58], none⟩, ⟨some 55, .v .mv [.tmp 59], none⟩, ⟨some 60, .v (.ext 0) [.tmp 55], none⟩, ⟨some 61, .v (.ext 1) [.tmp 55], none⟩, ⟨some 14, .v .mv [.tmp 60], none⟩, ⟨some 15, .v .mv [.tmp 61], none⟩])
 (.seq (.seq (.reg [
 ⟨some 62, .v .mv [.tmp 11], none⟩, ⟨some 63, .v (.ib .neq) [.tmp 62, .const (.int .i64 0)], none⟩, ⟨some 64, .v .mv [.tmp 63], none⟩, ⟨some 65, .v .mv [.tmp 11], some (64, true)⟩,
 ⟨some 66, .v (.ib .neq) [.tmp 65, .const (.int .i64 5)], some (64, true)⟩,
 ⟨some 67, .v .pick [.tmp 64, .tmp 66, .const (.bool false)], none⟩, ⟨some 68, .v .mv [.tmp 67], none⟩, ⟨some 69, .v .mv [.tmp 13], some (68, false)⟩,
 ⟨some 70, .v .mv [.tmp 11], some (68, false)⟩,
 ⟨some 71, .v (.ib .neq) [.tmp 69, .tmp 70], some (68, false)⟩,
 ⟨some 72, .v .pick [.tmp 68, .const (.bool true), .tmp 71], none⟩, ⟨some 73, .v .mv [.tmp 72], none⟩, ⟨some 74, .v .mv [.tmp 15], some (73, false)⟩,
 ⟨some 75, .v (.ib .neq) [.tmp 74, .const (.int .i64 0)], some (73, false)⟩,
 ⟨some 76, .v .pick [.tmp 73, .const (.bool true), .tmp 75], none⟩, ⟨some 77, .v .mv [.tmp 76], none⟩, ⟨some 78, .v .mv [.tmp 11], some (77, false)⟩,
 ⟨some 79, .v (.ib .neq) [.tmp 78, .const (.int .i64 0)], some (77, false)⟩,
 ⟨some 80, .v .mv [.tmp 79], some (77, false)⟩,
 ⟨some 81, .v .mv [.tmp 14], some (80, true)⟩,
 ⟨some 82, .v .no [.tmp 81], some (80, true)⟩,
 ⟨some 83, .v .pick [.tmp 80, .tmp 82, .const (.bool false)], some (77, false)⟩,
 ⟨some 84, .v .pick [.tmp 77, .const (.bool true), .tmp 83], none⟩])
 (.cond (.tmp 84)
 (.seq (.reg [
 ⟨some 8, .v .mv [.const (.bool false)], none⟩])
 .ret)
 .skip))
 (.seq (.dreg [
 ⟨some 85, .v .mv [.tmp 1], none⟩, ⟨some 86, .v .mv [.tmp 3], none⟩, ⟨some 87, .ld (some 3) (.tmp 4), none⟩, ⟨some 88, .call (.func 38) [.tmp 87], none⟩, ⟨some 89, .call (.func 37) [.tmp 85, .tmp 86, .tmp 88], none⟩, ⟨some 90, .v (.fa 2) [.tmp 4], none⟩, ⟨some 91, .ld none (.tmp 90), none⟩, ⟨some 92, .v .mv [.tmp 3], none⟩, ⟨some 93, .v (.ia 2) [.tmp 91, .tmp 92], none⟩, ⟨some 94, .v (.fa 0) [.tmp 93], none⟩, ⟨some 95, .ld none (.tmp 94), none⟩, ⟨some 96, .v (.ib .lss) [.tmp 89, .tmp 95], none⟩, ⟨some 16, .v .mv [.tmp 96], none⟩] [⟨0, false, false⟩, ⟨0, false, false⟩, ⟨6, false, false⟩, ⟨1, false, false⟩, ⟨1, false, false⟩, ⟨0, false, false⟩, ⟨6, false, false⟩, ⟨0, false, false⟩, ⟨0, false, false⟩, ⟨0, false, false⟩, ⟨1, false, false⟩, ⟨0, true, true⟩, ⟨0, true, true⟩])
 (.seq (.dreg [
 ⟨some 97, .v .mv [.tmp 3], none⟩, ⟨some 98, .v (.ib .add) [.tmp 97, .const (.int .i64 1)], none⟩, ⟨some 99, .v .mv [.tmp 1], none⟩, ⟨some 100, .v .len [.tmp 99], none⟩, ⟨some 101, .v (.ib .lss) [.tmp 98, .tmp 100], none⟩, ⟨some 102, .v .mv [.tmp 101], none⟩, ⟨some 103, .v .mv [.tmp 1], some (102, true)⟩,
 ⟨some 104, .v .mv [.tmp 3], some (102, true)⟩,
 ⟨some 105, .ld (some 3) (.tmp 4), some (102, true)⟩,
 ⟨some 106, .call (.func 39) [.tmp 105], some (102, true)⟩,
 ⟨some 107, .call (.func 37) [.tmp 103, .tmp 104, .tmp 106], some (102, true)⟩,
 ⟨some 108, .v (.fa 2) [.tmp 4], some (102, true)⟩,
 ⟨some 109, .ld none (.tmp 108), some (102, true)⟩,
 ⟨some 110, .v .mv [.tmp 3], some (102, true)⟩,
 ⟨some 111, .v (.ia 2) [.tmp 109, .tmp 110], some (102, true)⟩,
 ⟨some 112, .v (.fa 1) [.tmp 111], some (102, true)⟩,
 ⟨some 113, .ld none (.tmp 112), some (102, true)⟩,
 ⟨some 114, .v (.ib .gtr) [.tmp 107, .tmp 113], some (102, true)⟩,
 ⟨some 115, .v .pick [.tmp 102, .tmp 114, .const (.bool false)], none⟩, ⟨some 17, .v .mv [.tmp 115], none⟩] [⟨0, true, false⟩, ⟨0, true, false⟩, ⟨0, true, false⟩, ⟨0, true, false⟩, ⟨0, true, true⟩, ⟨0, true, true⟩, ⟨0, false, false⟩, ⟨0, false, false⟩, ⟨6, false, false⟩, ⟨1, false, false⟩, ⟨1, false, false⟩, ⟨0, false, false⟩, ⟨6, false, false⟩, ⟨0, false, false⟩, ⟨0, false, false⟩, ⟨0, false, false⟩, ⟨1, false, false⟩, ⟨0, true, true⟩, ⟨0, true, true⟩, ⟨0, true, true⟩])
 (.seq (.seq (.reg [
 ⟨some 116, .v .mv [.tmp 11], none⟩, ⟨some 117, .v (.ib .neq) [.tmp 116, .const (.int .i64 0)], none⟩])
 (.cond (.tmp 117)
 (.seq (.reg [
 ⟨some 118, .v .mv [.tmp 16], none⟩, ⟨some 119, .v .no [.tmp 118], none⟩, ⟨some 120, .v .mv [.tmp 119], none⟩, ⟨some 121, .v .mv [.tmp 17], some (120, true)⟩,
 ⟨some 122, .v .no [.tmp 121], some (120, true)⟩,
 ⟨some 123, .v .pick [.tmp 120, .tmp 122, .const (.bool false)], none⟩, ⟨some 124, .v .mv [.tmp 123], none⟩, ⟨some 125, .call (.func 23) [], some (124, true)⟩,
 ⟨some 126, .v .pick [.tmp 124, .tmp 125, .const (.bool false)], none⟩, ⟨some 8, .v .mv [.tmp 126], none⟩])
 .ret)
 .skip))
 (.seq (.seq (.reg [
 ⟨some 127, .ld (some 3) (.tmp 4), none⟩, ⟨some 128, .v .mv [.tmp 9], none⟩, ⟨some 129, .call (.func 36) [.tmp 127, .tmp 128], none⟩, ⟨some 130, .v .no [.tmp 129], none⟩, ⟨some 131, .v .mv [.tmp 130], none⟩, ⟨some 132, .ld (some 3) (.tmp 4), some (131, false)⟩,
 ⟨some 133, .v .mv [.tmp 12], some (131, false)⟩,
 ⟨some 134, .call (.func 27) [.tmp 132, .tmp 133], some (131, false)⟩,
 ⟨some 135, .v .no [.tmp 134], some (131, false)⟩,
 ⟨some 136, .v .pick [.tmp 131, .const (.bool true), .tmp 135], none⟩, ⟨some 137, .v .mv [.tmp 136], none⟩, ⟨some 138, .v .mv [.tmp 10], some (137, false)⟩,
 ⟨some 139, .v (.ib .neq) [.tmp 138, .const (.int .i64 1)], some (137, false)⟩,
 ⟨some 140, .v .mv [.tmp 139], some (137, false)⟩,
 ⟨some 141, .v .mv [.tmp 10], some (140, true)⟩,
 ⟨some 142, .v (.ib .neq) [.tmp 141, .const (.int .i64 2)], some (140, true)⟩,
 ⟨some 143, .v .pick [.tmp 140, .tmp 142, .const (.bool false)], some (137, false)⟩,
 ⟨some 144, .v .pick [.tmp 137, .const (.bool true), .tmp 143], none⟩, ⟨some 145, .v .mv [.tmp 144], none⟩, ⟨some 146, .v .mv [.tmp 14], some (145, false)⟩,
 ⟨some 147, .v .no [.tmp 146], some (145, false)⟩,
 ⟨some 148, .v .mv [.tmp 147], some (145, false)⟩,
 ⟨some 149, .v .mv [.tmp 2], some (148, true)⟩,
 ⟨some 150, .v .mv [.tmp 12], some (148, true)⟩,
 ⟨some 151, .call (.func 40) [.tmp 149, .tmp 150], some (148, true)⟩,
 ⟨some 152, .v .pick [.tmp 148, .tmp 151, .const (.bool false)], some (145, false)⟩,
 ⟨some 153, .v .pick [.tmp 145, .const (.bool true), .tmp 152], none⟩, ⟨some 154, .v .mv [.tmp 153], none⟩, ⟨some 155, .v .mv [.tmp 16], some (154, false)⟩,
 ⟨some 156, .v .mv [.tmp 155], some (154, false)⟩,
 ⟨some 157, .v .mv [.tmp 17], some (156, false)⟩,
 ⟨some 158, .v .pick [.tmp 156, .const (.bool true), .tmp 157], some (154, false)⟩,
 ⟨some 159, .v .mv [.tmp 158], some (154, false)⟩,
 ⟨some 160, .v .mv [.tmp 9], some (159, true)⟩,
 ⟨some 161, .v .mv [.tmp 3], some (159, true)⟩,
 ⟨some 162, .v (.ib .gtr) [.tmp 160, .tmp 161], some (159, true)⟩,
 ⟨some 163, .v .pick [.tmp 159, .tmp 162, .const (.bool false)], some (154, false)⟩,
 ⟨some 164, .v .pick [.tmp 154, .const (.bool true), .tmp 163], none⟩])
 (.cond (.tmp 164)
 (.seq (.reg [
 ⟨some 8, .v .mv [.const (.bool false)], none⟩])
 .ret)
 .skip))
 (.seq (.seq (.reg [
 ⟨some 165, .v .mv [.tmp 9], none⟩, ⟨some 166, .v .mv [.tmp 3], none⟩, ⟨some 167, .v (.ib .eql) [.tmp 165, .tmp 166], none⟩, ⟨some 168, .v .mv [.tmp 167], none⟩, ⟨some 169, .v .mv [.tmp 10], some (168, true)⟩,
 ⟨some 170, .v (.ib .eql) [.tmp 169, .const (.int .i64 1)], some (168, true)⟩,
 ⟨some 171, .v .mv [.tmp 16], some (168, true)⟩,
 ⟨some 172, .v (.bb true) [.tmp 170, .tmp 171], some (168, true)⟩,
 ⟨some 173, .v .pick [.tmp 168, .tmp 172, .const (.bool false)], none⟩, ⟨some 174, .v .mv [.tmp 173], none⟩, ⟨some 175, .v .mv [.tmp 9], some (174, false)⟩,
 ⟨some 176, .v .mv [.tmp 3], some (174, false)⟩,
 ⟨some 177, .v (.ib .eql) [.tmp 175, .tmp 176], some (174, false)⟩,
 ⟨some 178, .v .mv [.tmp 177], some (174, false)⟩,
 ⟨some 179, .v .mv [.tmp 16], some (178, true)⟩,
 ⟨some 180, .v .no [.tmp 179], some (178, true)⟩,
 ⟨some 181, .v .pick [.tmp 178, .tmp 180, .const (.bool false)], some (174, false)⟩,
 ⟨some 182, .v .mv [.tmp 181], some (174, false)⟩,
 ⟨some 183, .v .mv [.tmp 17], some (182, true)⟩,
 ⟨some 184, .v .no [.tmp 183], some (182, true)⟩,
 ⟨some 185, .v .pick [.tmp 182, .tmp 184, .const (.bool false)], some (174, false)⟩,
 ⟨some 186, .v .pick [.tmp 174, .const (.bool true), .tmp 185], none⟩])
 (.cond (.tmp 186)
 (.seq (.reg [
 ⟨some 8, .v .mv [.const (.bool false)], none⟩])
 .ret)
 .skip))
 (.seq (.reg [
 ⟨some 188, .ld (some 3) (.tmp 4), none⟩, ⟨some 189, .v .mv [.tmp 1], none⟩, ⟨some 190, .v .mv [.tmp 12], none⟩, ⟨some 191, .call (.func 24) [.tmp 188, .tmp 189, .tmp 190], none⟩, ⟨some 187, .v .mv [.tmp 191], none⟩, ⟨some 192, .v (.ext 0) [.tmp 187], none⟩, ⟨some 193, .v (.ext 1) [.tmp 187], none⟩, ⟨some 18, .v .mv [.tmp 192], none⟩, ⟨some 19, .v .mv [.tmp 193], none⟩])
 (.seq (.reg [
 ⟨some 194, .v .mv [.tmp 19], none⟩, ⟨some 195, .v (.ib .eql) [.tmp 194, .const (.int .i64 0)], none⟩, ⟨some 196, .v .mv [.tmp 195], none⟩, ⟨some 197, .v .mv [.tmp 18], some (196, true)⟩,
 ⟨some 198, .v .no [.tmp 197], some (196, true)⟩,
 ⟨some 199, .v .pick [.tmp 196, .tmp 198, .const (.bool false)], none⟩, ⟨some 200, .v .mv [.tmp 199], none⟩, ⟨some 201, .call (.func 23) [], some (200, true)⟩,
 ⟨some 202, .v .pick [.tmp 200, .tmp 201, .const (.bool false)], none⟩, ⟨some 8, .v .mv [.tmp 202], none⟩])
 .ret)))))))))))))
def p6 : PFunc := ⟨203, [(8, none)], none, b6⟩
def b18 : PCode :=
 (.seq (.reg [
 ⟨some 2, .lbox 26 (.tmp 0), none⟩, ⟨some 4, .v .mv [.const (.bool false)], none⟩])
 (.seq (.seq (.reg [
 ⟨some 8, .ld (some 3) (.tmp 2), none⟩, ⟨some 9, .call (.func 22) [.tmp 8], none⟩, ⟨some 10, .v .no [.tmp 9], none⟩, ⟨some 11, .v .mv [.tmp 10], none⟩, ⟨some 12, .v .mv [.tmp 1], some (11, false)⟩,
 ⟨some 13, .v .len [.tmp 12], some (11, false)⟩,
 ⟨some 14, .v (.ib .gtr) [.tmp 13, .const (.int .i64 7)], some (11, false)⟩,
 ⟨some 15, .v .pick [.tmp 11, .const (.bool true), .tmp 14], none⟩])
 (.cond (.tmp 15)
 (.seq (.reg [
 ⟨some 16, .call (.func 23) [], none⟩, ⟨some 4, .v .mv [.tmp 16], none⟩])
 .ret)
 .skip))
 (.seq (.reg [
 ⟨some 17, .ld (some 3) (.tmp 2), none⟩, ⟨some 18, .call (.func 65) [.tmp 17], none⟩, ⟨some 5, .v .mv [.tmp 18], none⟩])
 (.seq (.reg [
 ⟨some 20, .ld (some 3) (.tmp 2), none⟩, ⟨some 21, .v .mv [.tmp 1], none⟩, ⟨some 22, .call (.func 30) [.tmp 20, .tmp 21], none⟩, ⟨some 19, .v .mv [.tmp 22], none⟩, ⟨some 23, .v (.ext 0) [.tmp 19], none⟩, ⟨some 24, .v (.ext 1) [.tmp 19], none⟩, ⟨some 6, .v .mv [.tmp 23], none⟩, ⟨some 7, .v .mv [.tmp 24], none⟩])
 (.seq (.seq (.reg [
 ⟨some 25, .ld (some 3) (.tmp 2), none⟩, ⟨some 26, .call (.func 25) [.tmp 25], none⟩, ⟨some 27, .v .no [.tmp 26], none⟩])
 (.cond (.tmp 27)
 (.seq (.reg [
 ⟨some 28, .v .mv [.tmp 5], none⟩, ⟨some 29, .v (.ib .eql) [.tmp 28, .const (.int .i64 2)], none⟩, ⟨some 30, .v .mv [.tmp 29], none⟩, ⟨some 31, .v .mv [.tmp 7], some (30, true)⟩,
 ⟨some 32, .v (.ib .eql) [.tmp 31, .const (.int .i64 2)], some (30, true)⟩,
 ⟨some 33, .v .pick [.tmp 30, .tmp 32, .const (.bool false)], none⟩, ⟨some 34, .v .mv [.tmp 33], none⟩, ⟨some 35, .v .mv [.tmp 6], some (34, true)⟩,
 ⟨some 36, .v (.ib .eql) [.tmp 35, .const (.int .i64 0)], some (34, true)⟩,
 ⟨some 37, .v .pick [.tmp 34, .tmp 36, .const (.bool false)], none⟩, ⟨some 38, .v .mv [.tmp 37], none⟩, ⟨some 39, .call (.func 23) [], some (38, true)⟩,
 ⟨some 40, .v .pick [.tmp 38, .tmp 39, .const (.bool false)], none⟩, ⟨some 4, .v .mv [.tmp 40], none⟩])
 .ret)
 .skip))
 (.seq (.seq (.reg [
 ⟨some 41, .v .mv [.tmp 5], none⟩, ⟨some 42, .v (.ib .neq) [.tmp 41, .const (.int .i64 0)], none⟩])
 (.cond (.tmp 42)
 (.seq (.reg [
 ⟨some 4, .v .mv [.const (.bool false)], none⟩])
 .ret)
 .skip))
 (.seq (.seq (.reg [
 ⟨some 43, .ld (some 3) (.tmp 2), none⟩, ⟨some 44, .v .mv [.tmp 1], none⟩, ⟨some 45, .call (.func 26) [.tmp 43, .tmp 44], none⟩, ⟨some 46, .v .no [.tmp 45], none⟩])
 (.cond (.tmp 46)
 (.seq (.reg [
 ⟨some 47, .v .mv [.tmp 7], none⟩, ⟨some 48, .v (.ib .eql) [.tmp 47, .const (.int .i64 2)], none⟩, ⟨some 49, .v .mv [.tmp 48], none⟩, ⟨some 50, .v .mv [.tmp 6], some (49, true)⟩,
 ⟨some 51, .v (.ib .eql) [.tmp 50, .const (.int .i64 0)], some (49, true)⟩,
 ⟨some 52, .v .pick [.tmp 49, .tmp 51, .const (.bool false)], none⟩, ⟨some 53, .v .mv [.tmp 52], none⟩, ⟨some 54, .call (.func 23) [], some (53, true)⟩,
 ⟨some 55, .v .pick [.tmp 53, .tmp 54, .const (.bool false)], none⟩, ⟨some 4, .v .mv [.tmp 55], none⟩])
 .ret)
 .skip))
 (.seq (.reg [
 ⟨some 56, .v .mv [.tmp 7], none⟩, ⟨some 57, .v (.ib .eql) [.tmp 56, .const (.int .i64 0)], none⟩, ⟨some 58, .v .mv [.tmp 57], none⟩, ⟨some 59, .v .mv [.tmp 6], some (58, true)⟩,
 ⟨some 60, .ld (some 3) (.tmp 2), some (58, true)⟩,
 ⟨some 61, .v .mv [.tmp 1], some (58, true)⟩,
 ⟨some 62, .call (.func 66) [.tmp 60, .tmp 61], some (58, true)⟩,
 ⟨some 63, .v (.ib .eql) [.tmp 59, .tmp 62], some (58, true)⟩,
 ⟨some 64, .v .pick [.tmp 58, .tmp 63, .const (.bool false)], none⟩, ⟨some 65, .v .mv [.tmp 64], none⟩, ⟨some 66, .call (.func 23) [], some (65, true)⟩,
 ⟨some 67, .v .pick [.tmp 65, .tmp 66, .const (.bool false)], none⟩, ⟨some 4, .v .mv [.tmp 67], none⟩])
 .ret))))))))
def p18 : PFunc := ⟨68, [(4, none)], none, b18⟩
def b22 : PCode :=
 (.seq (.reg [
 ⟨some 1, .lbox 26 (.tmp 0), none⟩, ⟨some 2, .v .mv [.const (.bool false)], none⟩])
 (.seq (.reg [
 ⟨some 3, .v (.fa 0) [.tmp 1], none⟩, ⟨some 4, .ld none (.tmp 3), none⟩, ⟨some 5, .v .len [.tmp 4], none⟩, ⟨some 6, .v (.ib .leq) [.tmp 5, .const (.int .i64 14)], none⟩, ⟨some 7, .v .mv [.tmp 6], none⟩, ⟨some 8, .v (.fa 1) [.tmp 1], some (7, true)⟩,
 ⟨some 9, .ld none (.tmp 8), some (7, true)⟩,
 ⟨some 10, .v .len [.tmp 9], some (7, true)⟩,
 ⟨some 11, .v (.ib .leq) [.tmp 10, .const (.int .i64 16)], some (7, true)⟩,
 ⟨some 12, .v .pick [.tmp 7, .tmp 11, .const (.bool false)], none⟩, ⟨some 13, .v .mv [.tmp 12], none⟩, ⟨some 14, .v (.fa 2) [.tmp 1], some (13, true)⟩,
 ⟨some 15, .ld none (.tmp 14), some (13, true)⟩,
 ⟨some 16, .v .len [.tmp 15], some (13, true)⟩,
 ⟨some 17, .v (.ib .leq) [.tmp 16, .const (.int .i64 7)], some (13, true)⟩,
 ⟨some 18, .v .pick [.tmp 13, .tmp 17, .const (.bool false)], none⟩, ⟨some 2, .v .mv [.tmp 18], none⟩])
 .ret))
def p22 : PFunc := ⟨19, [(2, none)], none, b22⟩
def b23 : PCode :=
 (.seq (.reg [
 ⟨some 0, .v .mv [.const (.bool false)], none⟩])
 (.seq (.reg [
 ⟨some 30, .call (.func 72) [], none⟩, ⟨some 31, .bs 3 1 [(.int .i64 0)] 3 [(0, .const (.int .i64 0)), (1, .const (.int .i64 3)), (2, .const (.int .i64 6))], none⟩, ⟨some 32, .bs 3 1 [(.int .i64 0)] 8 [(0, .const (.int .i64 6)), (1, .const (.int .i64 5)), (2, .const (.int .i64 10)), (3, .const (.int .i64 2)), (4, .const (.int .i64 6)), (5, .const (.int .i64 5)), (6, .const (.int .i64 8)), (7, .const (.int .i64 4))], none⟩, ⟨some 33, .call (.func 24) [.tmp 30, .tmp 31, .tmp 32], none⟩, ⟨some 29, .v .mv [.tmp 33], none⟩, ⟨some 34, .v (.ext 0) [.tmp 29], none⟩, ⟨some 35, .v (.ext 1) [.tmp 29], none⟩, ⟨some 1, .v .mv [.tmp 34], none⟩, ⟨some 2, .v .mv [.tmp 35], none⟩])
 (.seq (.reg [
 ⟨some 37, .call (.func 72) [], none⟩, ⟨some 38, .bs 3 1 [(.int .i64 0)] 3 [(0, .const (.int .i64 3)), (1, .const (.int .i64 5)), (2, .const (.int .i64 6))], none⟩, ⟨some 39, .call (.func 30) [.tmp 37, .tmp 38], none⟩, ⟨some 36, .v .mv [.tmp 39], none⟩, ⟨some 40, .v (.ext 0) [.tmp 36], none⟩, ⟨some 41, .v (.ext 1) [.tmp 36], none⟩, ⟨some 3, .v .mv [.tmp 40], none⟩, ⟨some 4, .v .mv [.tmp 41], none⟩])
 (.seq (.reg [
 ⟨some 43, .call (.func 72) [], none⟩, ⟨some 44, .bs 3 1 [(.int .i64 0)] 3 [(0, .const (.int .i64 0)), (1, .const (.int .i64 3)), (2, .const (.int .i64 6))], none⟩, ⟨some 45, .call (.func 32) [.tmp 43, .tmp 44], none⟩, ⟨some 42, .v .mv [.tmp 45], none⟩, ⟨some 46, .v (.ext 0) [.tmp 42], none⟩, ⟨some 47, .v (.ext 1) [.tmp 42], none⟩, ⟨some 48, .v (.ext 2) [.tmp 42], none⟩, ⟨some 5, .v .mv [.tmp 46], none⟩, ⟨some 6, .v .mv [.tmp 47], none⟩, ⟨some 7, .v .mv [.tmp 48], none⟩])
 (.seq (.reg [
 ⟨some 50, .call (.func 72) [], none⟩, ⟨some 51, .bs 3 1 [(.int .i64 0)] 3 [(0, .const (.int .i64 0)), (1, .const (.int .i64 3)), (2, .const (.int .i64 6))], none⟩, ⟨some 52, .call (.func 31) [.tmp 50, .tmp 51], none⟩, ⟨some 49, .v .mv [.tmp 52], none⟩, ⟨some 53, .v (.ext 0) [.tmp 49], none⟩, ⟨some 54, .v (.ext 1) [.tmp 49], none⟩, ⟨some 8, .v .mv [.tmp 53], none⟩, ⟨some 9, .v .mv [.tmp 54], none⟩])
 (.seq (.reg [
 ⟨some 56, .call (.func 72) [], none⟩, ⟨some 57, .call (.func 41) [.tmp 56], none⟩, ⟨some 55, .v .mv [.tmp 57], none⟩, ⟨some 58, .v (.ext 0) [.tmp 55], none⟩, ⟨some 59, .v (.ext 1) [.tmp 55], none⟩, ⟨some 10, .v .mv [.tmp 58], none⟩, ⟨some 11, .v .mv [.tmp 59], none⟩])
 (.seq (.reg [
 ⟨some 61, .call (.func 73) [], none⟩, ⟨some 62, .call (.func 42) [.tmp 61], none⟩, ⟨some 60, .v .mv [.tmp 62], none⟩, ⟨some 63, .v (.ext 0) [.tmp 60], none⟩, ⟨some 64, .v (.ext 1) [.tmp 60], none⟩, ⟨some 12, .v .mv [.tmp 63], none⟩, ⟨some 13, .v .mv [.tmp 64], none⟩])
 (.seq (.reg [
 ⟨some 66, .call (.func 73) [], none⟩, ⟨some 67, .call (.func 45) [.tmp 66, .const (.int .i64 1)], none⟩, ⟨some 65, .v .mv [.tmp 67], none⟩, ⟨some 68, .v (.ext 0) [.tmp 65], none⟩, ⟨some 69, .v (.ext 1) [.tmp 65], none⟩, ⟨some 14, .v .mv [.tmp 68], none⟩, ⟨some 15, .v .mv [.tmp 69], none⟩])
 (.seq (.reg [
 ⟨some 71, .call (.func 73) [], none⟩, ⟨some 72, .call (.func 46) [.tmp 71], none⟩, ⟨some 70, .v .mv [.tmp 72], none⟩, ⟨some 73, .v (.ext 0) [.tmp 70], none⟩, ⟨some 74, .v (.ext 1) [.tmp 70], none⟩, ⟨some 16, .v .mv [.tmp 73], none⟩, ⟨some 17, .v .mv [.tmp 74], none⟩])
 (.seq (.reg [
 ⟨some 76, .call (.func 73) [], none⟩, ⟨some 77, .call (.func 47) [.tmp 76], none⟩, ⟨some 75, .v .mv [.tmp 77], none⟩, ⟨some 78, .v (.ext 0) [.tmp 75], none⟩, ⟨some 79, .v (.ext 1) [.tmp 75], none⟩, ⟨some 18, .v .mv [.tmp 78], none⟩, ⟨some 19, .v .mv [.tmp 79], none⟩])
 (.seq (.reg [
 ⟨some 81, .call (.func 74) [], none⟩, ⟨some 82, .call (.func 52) [.tmp 81], none⟩, ⟨some 80, .v .mv [.tmp 82], none⟩, ⟨some 83, .v (.ext 0) [.tmp 80], none⟩, ⟨some 84, .v (.ext 1) [.tmp 80], none⟩, ⟨some 20, .v .mv [.tmp 83], none⟩, ⟨some 21, .v .mv [.tmp 84], none⟩])
 (.seq (.reg [
 ⟨some 86, .call (.func 74) [], none⟩, ⟨some 87, .call (.func 56) [.tmp 86], none⟩, ⟨some 85, .v .mv [.tmp 87], none⟩, ⟨some 88, .v (.ext 0) [.tmp 85], none⟩, ⟨some 89, .v (.ext 1) [.tmp 85], none⟩, ⟨some 22, .v .mv [.tmp 88], none⟩, ⟨some 23, .v .mv [.tmp 89], none⟩])
 (.seq (.reg [
 ⟨some 91, .call (.func 73) [], none⟩, ⟨some 92, .bs 3 1 [(.int .i64 0)] 3 [(0, .const (.int .i64 0)), (1, .const (.int .i64 3)), (2, .const (.int .i64 6))], none⟩, ⟨some 93, .call (.func 59) [.tmp 91, .tmp 92, .const (.int .i64 1)], none⟩, ⟨some 90, .v .mv [.tmp 93], none⟩, ⟨some 94, .v (.ext 0) [.tmp 90], none⟩, ⟨some 95, .v (.ext 1) [.tmp 90], none⟩, ⟨some 96, .v (.ext 2) [.tmp 90], none⟩, ⟨some 24, .v .mv [.tmp 94], none⟩, ⟨some 25, .v .mv [.tmp 95], none⟩, ⟨some 26, .v .mv [.tmp 96], none⟩])
 (.seq (.reg [
 ⟨some 98, .call (.func 68) [.const (.string ⟨#[100, 97, 121, 32, 49, 32, 50, 32, 121, 101, 115, 10, 99, 111, 97, 116, 32, 49, 32, 51, 10, 101, 110, 100, 32, 49, 48, 52, 10]⟩)], none⟩, ⟨some 97, .v .mv [.tmp 98], none⟩, ⟨some 99, .v (.ext 0) [.tmp 97], none⟩, ⟨some 100, .v (.ext 1) [.tmp 97], none⟩, ⟨some 27, .lalloc 26 (.agg #[(.slice none 0 0), (.slice none 0 0), (.slice none 0 0)]), none⟩, ⟨none, .st 3 (.tmp 27) (.tmp 99), none⟩, ⟨some 28, .v .mv [.tmp 100], none⟩])
 (.seq (.seq (.reg [
 ⟨some 101, .v .mv [.tmp 2], none⟩, ⟨some 102, .v (.ib .neq) [.tmp 101, .const (.int .i64 0)], none⟩, ⟨some 103, .v .mv [.tmp 102], none⟩, ⟨some 104, .v .mv [.tmp 4], some (103, false)⟩,
 ⟨some 105, .v (.ib .neq) [.tmp 104, .const (.int .i64 0)], some (103, false)⟩,
 ⟨some 106, .v .pick [.tmp 103, .const (.bool true), .tmp 105], none⟩, ⟨some 107, .v .mv [.tmp 106], none⟩, ⟨some 108, .v .mv [.tmp 7], some (107, false)⟩,
 ⟨some 109, .v (.ib .neq) [.tmp 108, .const (.int .i64 0)], some (107, false)⟩,
 ⟨some 110, .v .pick [.tmp 107, .const (.bool true), .tmp 109], none⟩, ⟨some 111, .v .mv [.tmp 110], none⟩, ⟨some 112, .v .mv [.tmp 9], some (111, false)⟩,
 ⟨some 113, .v (.ib .neq) [.tmp 112, .const (.int .i64 0)], some (111, false)⟩,
 ⟨some 114, .v .pick [.tmp 111, .const (.bool true), .tmp 113], none⟩, ⟨some 115, .v .mv [.tmp 114], none⟩, ⟨some 116, .v .mv [.tmp 11], some (115, false)⟩,
 ⟨some 117, .v (.ib .neq) [.tmp 116, .const (.int .i64 0)], some (115, false)⟩,
 ⟨some 118, .v .pick [.tmp 115, .const (.bool true), .tmp 117], none⟩, ⟨some 119, .v .mv [.tmp 118], none⟩, ⟨some 120, .v .mv [.tmp 13], some (119, false)⟩,
 ⟨some 121, .v (.ib .neq) [.tmp 120, .const (.int .i64 0)], some (119, false)⟩,
 ⟨some 122, .v .pick [.tmp 119, .const (.bool true), .tmp 121], none⟩, ⟨some 123, .v .mv [.tmp 122], none⟩, ⟨some 124, .v .mv [.tmp 15], some (123, false)⟩,
 ⟨some 125, .v (.ib .neq) [.tmp 124, .const (.int .i64 0)], some (123, false)⟩,
 ⟨some 126, .v .pick [.tmp 123, .const (.bool true), .tmp 125], none⟩, ⟨some 127, .v .mv [.tmp 126], none⟩, ⟨some 128, .v .mv [.tmp 17], some (127, false)⟩,
 ⟨some 129, .v (.ib .neq) [.tmp 128, .const (.int .i64 0)], some (127, false)⟩,
 ⟨some 130, .v .pick [.tmp 127, .const (.bool true), .tmp 129], none⟩, ⟨some 131, .v .mv [.tmp 130], none⟩, ⟨some 132, .v .mv [.tmp 19], some (131, false)⟩,
 ⟨some 133, .v (.ib .neq) [.tmp 132, .const (.int .i64 0)], some (131, false)⟩,
 ⟨some 134, .v .pick [.tmp 131, .const (.bool true), .tmp 133], none⟩, ⟨some 135, .v .mv [.tmp 134], none⟩, ⟨some 136, .v .mv [.tmp 21], some (135, false)⟩,
 ⟨some 137, .v (.ib .neq) [.tmp 136, .const (.int .i64 0)], some (135, false)⟩,
 ⟨some 138, .v .pick [.tmp 135, .const (.bool true), .tmp 137], none⟩, ⟨some 139, .v .mv [.tmp 138], none⟩, ⟨some 140, .v .mv [.tmp 23], some (139, false)⟩,
 ⟨some 141, .v (.ib .neq) [.tmp 140, .const (.int .i64 0)], some (139, false)⟩,
 ⟨some 142, .v .pick [.tmp 139, .const (.bool true), .tmp 141], none⟩, ⟨some 143, .v .mv [.tmp 142], none⟩, ⟨some 144, .v .mv [.tmp 26], some (143, false)⟩,
 ⟨some 145, .v (.ib .neq) [.tmp 144, .const (.int .i64 0)], some (143, false)⟩,
 ⟨some 146, .v .pick [.tmp 143, .const (.bool true), .tmp 145], none⟩, ⟨some 147, .v .mv [.tmp 146], none⟩, ⟨some 148, .v .mv [.tmp 28], some (147, false)⟩,
 ⟨some 149, .v (.ib .neq) [.tmp 148, .const (.int .i64 0)], some (147, false)⟩,
 ⟨some 150, .v .pick [.tmp 147, .const (.bool true), .tmp 149], none⟩])
 (.cond (.tmp 150)
 (.seq (.reg [
 ⟨some 0, .v .mv [.const (.bool false)], none⟩])
 .ret)
 .skip))
 (.seq (.seq (.reg [
 ⟨some 151, .v .mv [.tmp 1], none⟩, ⟨some 152, .v .mv [.tmp 151], none⟩, ⟨some 153, .v .mv [.tmp 3], some (152, false)⟩,
 ⟨some 154, .v (.ib .neq) [.tmp 153, .const (.int .i64 1)], some (152, false)⟩,
 ⟨some 155, .v .pick [.tmp 152, .const (.bool true), .tmp 154], none⟩, ⟨some 156, .v .mv [.tmp 155], none⟩, ⟨some 157, .v .mv [.tmp 5], some (156, false)⟩,
 ⟨some 158, .v (.ib .neq) [.tmp 157, .const (.int .i64 0)], some (156, false)⟩,
 ⟨some 159, .v .pick [.tmp 156, .const (.bool true), .tmp 158], none⟩, ⟨some 160, .v .mv [.tmp 159], none⟩, ⟨some 161, .v .mv [.tmp 6], some (160, false)⟩,
 ⟨some 162, .v (.ib .neq) [.tmp 161, .const (.int .i64 2)], some (160, false)⟩,
 ⟨some 163, .v .pick [.tmp 160, .const (.bool true), .tmp 162], none⟩, ⟨some 164, .v .mv [.tmp 163], none⟩, ⟨some 165, .v .mv [.tmp 8], some (164, false)⟩,
 ⟨some 166, .bs 3 1 [(.int .i64 0)] 8 [(0, .const (.int .i64 6)), (1, .const (.int .i64 5)), (2, .const (.int .i64 10)), (3, .const (.int .i64 2)), (4, .const (.int .i64 6)), (5, .const (.int .i64 5)), (6, .const (.int .i64 8)), (7, .const (.int .i64 4))], some (164, false)⟩,
 ⟨some 167, .call (.func 35) [.tmp 165, .tmp 166], some (164, false)⟩,
 ⟨some 168, .v .no [.tmp 167], some (164, false)⟩,
 ⟨some 169, .v .pick [.tmp 164, .const (.bool true), .tmp 168], none⟩, ⟨some 170, .v .mv [.tmp 169], none⟩, ⟨some 171, .v .mv [.tmp 10], some (170, false)⟩,
 ⟨some 172, .bs 3 1 [(.int .i64 0)] 3 [(0, .const (.int .i64 0)), (1, .const (.int .i64 2)), (2, .const (.int .i64 5))], some (170, false)⟩,
 ⟨some 173, .call (.func 35) [.tmp 171, .tmp 172], some (170, false)⟩,
 ⟨some 174, .v .no [.tmp 173], some (170, false)⟩,
 ⟨some 175, .v .pick [.tmp 170, .const (.bool true), .tmp 174], none⟩, ⟨some 176, .v .mv [.tmp 175], none⟩, ⟨some 177, .v .mv [.tmp 12], some (176, false)⟩,
 ⟨some 178, .v (.ib .neq) [.tmp 177, .const (.int .i64 5)], some (176, false)⟩,
 ⟨some 179, .v .pick [.tmp 176, .const (.bool true), .tmp 178], none⟩, ⟨some 180, .v .mv [.tmp 179], none⟩, ⟨some 181, .v .mv [.tmp 14], some (180, false)⟩,
 ⟨some 182, .bs 3 1 [(.int .i64 0)] 3 [(0, .const (.int .i64 2)), (1, .const (.int .i64 3)), (2, .const (.int .i64 4))], some (180, false)⟩,
 ⟨some 183, .call (.func 35) [.tmp 181, .tmp 182], some (180, false)⟩,
 ⟨some 184, .v .no [.tmp 183], some (180, false)⟩,
 ⟨some 185, .v .pick [.tmp 180, .const (.bool true), .tmp 184], none⟩])
 (.cond (.tmp 185)
 (.seq (.reg [
 ⟨some 0, .v .mv [.const (.bool false)], none⟩])
 .ret)
 .skip))
 (.seq (.reg [
 ⟨some 186, .v .mv [.tmp 16], none⟩, ⟨some 187, .v (.ib .eql) [.tmp 186, .const (.int .i64 2)], none⟩, ⟨some 188, .v .mv [.tmp 187], none⟩, ⟨some 189, .v .mv [.tmp 18], some (188, true)⟩,
 ⟨some 190, .v (.ib .eql) [.tmp 189, .const (.int .i64 4)], some (188, true)⟩,
 ⟨some 191, .v .pick [.tmp 188, .tmp 190, .const (.bool false)], none⟩, ⟨some 192, .v .mv [.tmp 191], none⟩, ⟨some 193, .v .mv [.tmp 20], some (192, true)⟩,
 ⟨some 194, .v (.ib .eql) [.tmp 193, .const (.int .i64 2)], some (192, true)⟩,
 ⟨some 195, .v .pick [.tmp 192, .tmp 194, .const (.bool false)], none⟩, ⟨some 196, .v .mv [.tmp 195], none⟩, ⟨some 197, .v .mv [.tmp 22], some (196, true)⟩,
 ⟨some 198, .v (.ib .eql) [.tmp 197, .const (.int .i64 2)], some (196, true)⟩,
 ⟨some 199, .v .pick [.tmp 196, .tmp 198, .const (.bool false)], none⟩, ⟨some 200, .v .mv [.tmp 199], none⟩, ⟨some 201, .v .mv [.tmp 24], some (200, true)⟩,
 ⟨some 202, .bs 3 1 [(.int .i64 0)] 3 [(0, .const (.int .i64 0)), (1, .const (.int .i64 2)), (2, .const (.int .i64 4))], some (200, true)⟩,
 ⟨some 203, .call (.func 35) [.tmp 201, .tmp 202], some (200, true)⟩,
 ⟨some 204, .v .pick [.tmp 200, .tmp 203, .const (.bool false)], none⟩, ⟨some 205, .v .mv [.tmp 204], none⟩, ⟨some 206, .v .mv [.tmp 25], some (205, true)⟩,
 ⟨some 207, .v (.ib .eql) [.tmp 206, .const (.int .i64 2)], some (205, true)⟩,
 ⟨some 208, .v .pick [.tmp 205, .tmp 207, .const (.bool false)], none⟩, ⟨some 209, .v .mv [.tmp 208], none⟩, ⟨some 210, .ld (some 3) (.tmp 27), some (209, true)⟩,
 ⟨some 211, .call (.func 69) [.tmp 210], some (209, true)⟩,
 ⟨some 212, .v (.sb .eql) [.tmp 211, .const (.string ⟨#[100, 97, 121, 32, 49, 32, 50, 32, 121, 101, 115, 10, 99, 111, 97, 116, 32, 49, 32, 51, 10, 101, 110, 100, 32, 49, 48, 52, 10]⟩)], some (209, true)⟩,
 ⟨some 213, .v .pick [.tmp 209, .tmp 212, .const (.bool false)], none⟩, ⟨some 0, .v .mv [.tmp 213], none⟩])
 .ret)))))))))))))))))
def p23 : PFunc := ⟨214, [(0, none)], none, b23⟩
def q24x0 : PCode :=
 (.seq (.reg [
 ⟨some 34, .v (.ib .lss) [.tmp 33, .tmp 32], none⟩])
 (.seq (.cond (.tmp 34)
 .skip
 (.exit 0))
 (.seq (.blk 1
 (.seq (.reg [
 ⟨some 35, .v .mv [.tmp 33], none⟩, ⟨some 36, .v (.ia 1) [.tmp 31, .tmp 33], none⟩, ⟨some 37, .ld none (.tmp 36), none⟩, ⟨some 9, .v .mv [.tmp 35], none⟩, ⟨some 10, .v .mv [.tmp 37], none⟩])
 (.seq (.reg [
 ⟨some 39, .ld (some 5) (.tmp 8), none⟩, ⟨some 40, .v .mv [.tmp 1], none⟩, ⟨some 41, .v .mv [.tmp 9], none⟩, ⟨some 42, .call (.func 79) [.tmp 39, .tmp 40, .tmp 41], none⟩, ⟨some 38, .v .mv [.tmp 42], none⟩, ⟨some 43, .v (.ext 0) [.tmp 38], none⟩, ⟨some 44, .v (.ext 1) [.tmp 38], none⟩, ⟨some 11, .v .mv [.tmp 43], none⟩, ⟨some 12, .v .mv [.tmp 44], none⟩])
 (.seq (.reg [
 ⟨some 45, .v .mv [.tmp 2], none⟩, ⟨some 46, .v .mv [.tmp 10], none⟩, ⟨some 47, .v .mv [.tmp 11], none⟩, ⟨some 48, .v (.sl 1 true true) [.tmp 45, .tmp 46, .tmp 47], none⟩, ⟨some 49, .call (.func 80) [.tmp 48], none⟩, ⟨some 13, .v .mv [.tmp 49], none⟩])
 (.seq (.reg [
 ⟨some 50, .v .mv [.tmp 13], none⟩, ⟨some 51, .v (.fa 2) [.tmp 3], none⟩, ⟨some 52, .ld none (.tmp 51), none⟩, ⟨some 53, .v .mv [.tmp 9], none⟩, ⟨some 54, .v (.ia 2) [.tmp 52, .tmp 53], none⟩, ⟨some 55, .v (.fa 0) [.tmp 54], none⟩, ⟨some 56, .ld none (.tmp 55), none⟩, ⟨some 57, .v (.ib .lss) [.tmp 50, .tmp 56], none⟩, ⟨some 58, .v .mv [.tmp 57], none⟩, ⟨some 59, .v .mv [.tmp 12], some (58, false)⟩,
 ⟨some 60, .v .mv [.tmp 59], some (58, false)⟩,
 ⟨some 61, .v .mv [.tmp 13], some (60, true)⟩,
 ⟨some 62, .v (.fa 2) [.tmp 3], some (60, true)⟩,
 ⟨some 63, .ld none (.tmp 62), some (60, true)⟩,
 ⟨some 64, .v .mv [.tmp 9], some (60, true)⟩,
 ⟨some 65, .v (.ia 2) [.tmp 63, .tmp 64], some (60, true)⟩,
 ⟨some 66, .v (.fa 1) [.tmp 65], some (60, true)⟩,
 ⟨some 67, .ld none (.tmp 66), some (60, true)⟩,
 ⟨some 68, .v (.ib .gtr) [.tmp 61, .tmp 67], some (60, true)⟩,
 ⟨some 69, .v .pick [.tmp 60, .tmp 68, .const (.bool false)], some (58, false)⟩,
 ⟨some 70, .v .pick [.tmp 58, .const (.bool true), .tmp 69], none⟩])
 (.cond (.tmp 70)
 (.seq (.reg [
 ⟨some 6, .v .mv [.const (.bool false)], none⟩, ⟨some 7, .v .mv [.const (.int .i64 0)], none⟩])
 .ret)
 .skip))))))
 (.reg [
 ⟨some 71, .v (.ib .add) [.tmp 33, .const (.int .i64 1)], none⟩, ⟨some 33, .v .mv [.tmp 71], none⟩]))))
def b24 : PCode :=
 (.seq (.reg [
 ⟨some 3, .lbox 26 (.tmp 0), none⟩, ⟨some 6, .v .mv [.const (.bool false)], none⟩, ⟨some 7, .v .mv [.const (.int .i64 0)], none⟩])
 (.seq (.seq (.reg [
 ⟨some 14, .ld (some 3) (.tmp 3), none⟩, ⟨some 15, .call (.func 75) [.tmp 14], none⟩, ⟨some 16, .v .no [.tmp 15], none⟩, ⟨some 17, .v .mv [.tmp 16], none⟩, ⟨some 18, .ld (some 3) (.tmp 3), some (17, false)⟩,
 ⟨some 19, .v .mv [.tmp 1], some (17, false)⟩,
 ⟨some 20, .call (.func 76) [.tmp 18, .tmp 19], some (17, false)⟩,
 ⟨some 21, .v .no [.tmp 20], some (17, false)⟩,
 ⟨some 22, .v .pick [.tmp 17, .const (.bool true), .tmp 21], none⟩, ⟨some 23, .v .mv [.tmp 22], none⟩, ⟨some 24, .ld (some 3) (.tmp 3), some (23, false)⟩,
 ⟨some 25, .v .mv [.tmp 2], some (23, false)⟩,
 ⟨some 26, .call (.func 77) [.tmp 24, .tmp 25], some (23, false)⟩,
 ⟨some 27, .v .no [.tmp 26], some (23, false)⟩,
 ⟨some 28, .v .pick [.tmp 23, .const (.bool true), .tmp 27], none⟩])
 (.cond (.tmp 28)
 (.seq (.reg [
 ⟨some 6, .v .mv [.const (.bool false)], none⟩, ⟨some 7, .v .mv [.const (.int .i64 2)], none⟩])
 .ret)
 .skip))
 (.seq (.reg [
 ⟨some 29, .ld (some 3) (.tmp 3), none⟩, ⟨some 30, .call (.func 78) [.tmp 29], none⟩, ⟨some 8, .lalloc 93 (.agg #[(.slice none 0 0), (.slice none 0 0), (.slice none 0 0), (.slice none 0 0), (.slice none 0 0)]), none⟩, ⟨none, .st 5 (.tmp 8) (.tmp 30), none⟩])
 (.seq (.seq (.reg [
 ⟨some 31, .v .mv [.tmp 1], none⟩, ⟨some 32, .v .len [.tmp 31], none⟩, ⟨some 33, .v .mv [.const (.int .i64 0)], none⟩])
 (.blk 0
 (.loop q24x0)))
 (.seq (.reg [
 ⟨some 6, .v .mv [.const (.bool true)], none⟩, ⟨some 7, .v .mv [.const (.int .i64 0)], none⟩])
 .ret)))))
def p24 : PFunc := ⟨72, [(6, none), (7, none)], none, b24⟩
def q25x0 : PCode :=
 (.seq (.seq (.reg [
 ⟨some 55, .v .mv [.tmp 4], none⟩, ⟨some 56, .v (.fa 2) [.tmp 1], none⟩, ⟨some 57, .ld none (.tmp 56), none⟩, ⟨some 58, .v .len [.tmp 57], none⟩, ⟨some 59, .v (.ib .lss) [.tmp 55, .tmp 58], none⟩])
 (.cond (.tmp 59)
 .skip
 (.exit 2)))
 (.seq (.blk 3
 (.seq (.dreg [
 ⟨some 62, .v (.fa 2) [.tmp 1], none⟩, ⟨some 63, .ld none (.tmp 62), none⟩, ⟨some 64, .v .mv [.tmp 4], none⟩, ⟨some 65, .v (.ia 2) [.tmp 63, .tmp 64], none⟩, ⟨some 66, .v (.fa 0) [.tmp 65], none⟩, ⟨some 67, .ld none (.tmp 66), none⟩, ⟨some 68, .call (.func 81) [.tmp 67, .const (.int .i64 1), .const (.int .i64 288)], none⟩, ⟨some 69, .v .no [.tmp 68], none⟩, ⟨some 70, .v .mv [.tmp 69], none⟩, ⟨some 71, .v (.fa 2) [.tmp 1], some (70, false)⟩,
 ⟨some 72, .ld none (.tmp 71), some (70, false)⟩,
 ⟨some 73, .v .mv [.tmp 4], some (70, false)⟩,
 ⟨some 74, .v (.ia 2) [.tmp 72, .tmp 73], some (70, false)⟩,
 ⟨some 75, .v (.fa 1) [.tmp 74], some (70, false)⟩,
 ⟨some 76, .ld none (.tmp 75), some (70, false)⟩,
 ⟨some 77, .v (.fa 2) [.tmp 1], some (70, false)⟩,
 ⟨some 78, .ld none (.tmp 77), some (70, false)⟩,
 ⟨some 79, .v .mv [.tmp 4], some (70, false)⟩,
 ⟨some 80, .v (.ia 2) [.tmp 78, .tmp 79], some (70, false)⟩,
 ⟨some 81, .v (.fa 0) [.tmp 80], some (70, false)⟩,
 ⟨some 82, .ld none (.tmp 81), some (70, false)⟩,
 ⟨some 83, .call (.func 81) [.tmp 76, .tmp 82, .const (.int .i64 400)], some (70, false)⟩,
 ⟨some 84, .v .no [.tmp 83], some (70, false)⟩,
 ⟨some 85, .v .pick [.tmp 70, .const (.bool true), .tmp 84], none⟩] [⟨0, true, false⟩, ⟨3, true, false⟩, ⟨0, true, false⟩, ⟨0, true, true⟩, ⟨0, true, true⟩, ⟨1, true, true⟩, ⟨1, true, true⟩, ⟨0, true, true⟩, ⟨0, true, true⟩, ⟨0, false, false⟩, ⟨3, false, false⟩, ⟨0, false, false⟩, ⟨0, false, false⟩, ⟨0, false, false⟩, ⟨1, false, false⟩, ⟨0, false, false⟩, ⟨3, false, false⟩, ⟨0, false, false⟩, ⟨0, false, false⟩, ⟨0, false, false⟩, ⟨1, false, false⟩, ⟨1, true, true⟩, ⟨0, true, true⟩, ⟨0, true, true⟩])
 (.cond (.tmp 85)
 (.seq (.reg [
 ⟨some 2, .v .mv [.const (.bool false)], none⟩])
 .ret)
 .skip)))
 (.reg [
 ⟨some 60, .v .mv [.tmp 4], none⟩, ⟨some 61, .v (.ib .add) [.tmp 60, .const (.int .i64 1)], none⟩, ⟨some 4, .v .mv [.tmp 61], none⟩])))
def q25x1 : PCode :=
 (.seq (.seq (.reg [
 ⟨some 24, .v .mv [.tmp 3], none⟩, ⟨some 25, .v (.fa 0) [.tmp 1], none⟩, ⟨some 26, .ld none (.tmp 25), none⟩, ⟨some 27, .v .len [.tmp 26], none⟩, ⟨some 28, .v (.ib .lss) [.tmp 24, .tmp 27], none⟩])
 (.cond (.tmp 28)
 .skip
 (.exit 0)))
 (.seq (.blk 1
 (.seq (.dreg [
 ⟨some 31, .v (.fa 0) [.tmp 1], none⟩, ⟨some 32, .ld none (.tmp 31), none⟩, ⟨some 33, .v .mv [.tmp 3], none⟩, ⟨some 34, .v (.ia 2) [.tmp 32, .tmp 33], none⟩, ⟨some 35, .v (.fa 0) [.tmp 34], none⟩, ⟨some 36, .ld none (.tmp 35), none⟩, ⟨some 37, .call (.func 81) [.tmp 36, .const (.int .i64 0), .const (.int .i64 24)], none⟩, ⟨some 38, .v .no [.tmp 37], none⟩, ⟨some 39, .v .mv [.tmp 38], none⟩, ⟨some 40, .v (.fa 0) [.tmp 1], some (39, false)⟩,
 ⟨some 41, .ld none (.tmp 40), some (39, false)⟩,
 ⟨some 42, .v .mv [.tmp 3], some (39, false)⟩,
 ⟨some 43, .v (.ia 2) [.tmp 41, .tmp 42], some (39, false)⟩,
 ⟨some 44, .v (.fa 1) [.tmp 43], some (39, false)⟩,
 ⟨some 45, .ld none (.tmp 44), some (39, false)⟩,
 ⟨some 46, .v (.fa 0) [.tmp 1], some (39, false)⟩,
 ⟨some 47, .ld none (.tmp 46), some (39, false)⟩,
 ⟨some 48, .v .mv [.tmp 3], some (39, false)⟩,
 ⟨some 49, .v (.ia 2) [.tmp 47, .tmp 48], some (39, false)⟩,
 ⟨some 50, .v (.fa 0) [.tmp 49], some (39, false)⟩,
 ⟨some 51, .ld none (.tmp 50), some (39, false)⟩,
 ⟨some 52, .call (.func 81) [.tmp 45, .tmp 51, .const (.int .i64 24)], some (39, false)⟩,
 ⟨some 53, .v .no [.tmp 52], some (39, false)⟩,
 ⟨some 54, .v .pick [.tmp 39, .const (.bool true), .tmp 53], none⟩] [⟨0, true, false⟩, ⟨3, true, false⟩, ⟨0, true, false⟩, ⟨0, true, true⟩, ⟨0, true, true⟩, ⟨1, true, true⟩, ⟨1, true, true⟩, ⟨0, true, true⟩, ⟨0, true, true⟩, ⟨0, false, false⟩, ⟨3, false, false⟩, ⟨0, false, false⟩, ⟨0, false, false⟩, ⟨0, false, false⟩, ⟨1, false, false⟩, ⟨0, false, false⟩, ⟨3, false, false⟩, ⟨0, false, false⟩, ⟨0, false, false⟩, ⟨0, false, false⟩, ⟨1, false, false⟩, ⟨1, true, true⟩, ⟨0, true, true⟩, ⟨0, true, true⟩])
 (.cond (.tmp 54)
 (.seq (.reg [
 ⟨some 2, .v .mv [.const (.bool false)], none⟩])
 .ret)
 .skip)))
 (.reg [
 ⟨some 29, .v .mv [.tmp 3], none⟩, ⟨some 30, .v (.ib .add) [.tmp 29, .const (.int .i64 1)], none⟩, ⟨some 3, .v .mv [.tmp 30], none⟩])))
def b25 : PCode :=
 (.seq (.reg [
 ⟨some 1, .lbox 26 (.tmp 0), none⟩, ⟨some 2, .v .mv [.const (.bool false)], none⟩])
 (.seq (.seq (.reg [
 ⟨some 5, .v (.fa 0) [.tmp 1], none⟩, ⟨some 6, .ld none (.tmp 5), none⟩, ⟨some 7, .v .len [.tmp 6], none⟩, ⟨some 8, .call (.func 81) [.tmp 7, .const (.int .i64 1), .const (.int .i64 12)], none⟩, ⟨some 9, .v .no [.tmp 8], none⟩, ⟨some 10, .v .mv [.tmp 9], none⟩, ⟨some 11, .v (.fa 2) [.tmp 1], some (10, false)⟩,
 ⟨some 12, .ld none (.tmp 11), some (10, false)⟩,
 ⟨some 13, .v .len [.tmp 12], some (10, false)⟩,
 ⟨some 14, .call (.func 81) [.tmp 13, .const (.int .i64 1), .const (.int .i64 5)], some (10, false)⟩,
 ⟨some 15, .v .no [.tmp 14], some (10, false)⟩,
 ⟨some 16, .v .pick [.tmp 10, .const (.bool true), .tmp 15], none⟩, ⟨some 17, .v .mv [.tmp 16], none⟩, ⟨some 18, .ld (some 3) (.tmp 1), some (17, false)⟩,
 ⟨some 19, .v (.fa 1) [.tmp 1], some (17, false)⟩,
 ⟨some 20, .ld none (.tmp 19), some (17, false)⟩,
 ⟨some 21, .call (.func 82) [.tmp 18, .tmp 20], some (17, false)⟩,
 ⟨some 22, .v .no [.tmp 21], some (17, false)⟩,
 ⟨some 23, .v .pick [.tmp 17, .const (.bool true), .tmp 22], none⟩])
 (.cond (.tmp 23)
 (.seq (.reg [
 ⟨some 2, .v .mv [.const (.bool false)], none⟩])
 .ret)
 .skip))
 (.seq (.seq (.reg [
 ⟨some 3, .v .mv [.const (.int .i64 0)], none⟩])
 (.blk 0
 (.loop q25x1)))
 (.seq (.seq (.reg [
 ⟨some 4, .v .mv [.const (.int .i64 0)], none⟩])
 (.blk 2
 (.loop q25x0)))
 (.seq (.reg [
 ⟨some 2, .v .mv [.const (.bool true)], none⟩])
 .ret)))))
def p25 : PFunc := ⟨86, [(2, none)], none, b25⟩
def q26x0 : PCode :=
 (.seq (.seq (.reg [
 ⟨some 6, .v .mv [.tmp 5], none⟩, ⟨some 7, .v .mv [.tmp 1], none⟩, ⟨some 8, .v .len [.tmp 7], none⟩, ⟨some 9, .v (.ib .lss) [.tmp 6, .tmp 8], none⟩])
 (.cond (.tmp 9)
 .skip
 (.exit 0)))
 (.seq (.blk 1
 (.seq (.dreg [
 ⟨some 12, .v (.fa 1) [.tmp 2], none⟩, ⟨some 13, .ld none (.tmp 12), none⟩, ⟨some 14, .v .mv [.tmp 1], none⟩, ⟨some 15, .v .mv [.tmp 5], none⟩, ⟨some 16, .v (.ia 1) [.tmp 14, .tmp 15], none⟩, ⟨some 17, .ld none (.tmp 16), none⟩, ⟨some 18, .call (.func 51) [.tmp 13, .tmp 17], none⟩, ⟨some 19, .v .no [.tmp 18], none⟩] [⟨0, false, false⟩, ⟨4, false, false⟩, ⟨0, true, false⟩, ⟨0, true, false⟩, ⟨0, true, false⟩, ⟨1, true, false⟩, ⟨1, true, true⟩, ⟨0, true, true⟩])
 (.cond (.tmp 19)
 (.seq (.reg [
 ⟨some 4, .v .mv [.const (.bool false)], none⟩])
 .ret)
 .skip)))
 (.reg [
 ⟨some 10, .v .mv [.tmp 5], none⟩, ⟨some 11, .v (.ib .add) [.tmp 10, .const (.int .i64 1)], none⟩, ⟨some 5, .v .mv [.tmp 11], none⟩])))
def b26 : PCode :=
 (.seq (.reg [
 ⟨some 2, .lbox 26 (.tmp 0), none⟩, ⟨some 4, .v .mv [.const (.bool false)], none⟩])
 (.seq (.seq (.reg [
 ⟨some 5, .v .mv [.const (.int .i64 0)], none⟩])
 (.blk 0
 (.loop q26x0)))
 (.seq (.reg [
 ⟨some 20, .v .mv [.tmp 1], none⟩, ⟨some 21, .v .len [.tmp 20], none⟩, ⟨some 22, .v (.fa 2) [.tmp 2], none⟩, ⟨some 23, .ld none (.tmp 22), none⟩, ⟨some 24, .v .len [.tmp 23], none⟩, ⟨some 25, .v (.ib .eql) [.tmp 21, .tmp 24], none⟩, ⟨some 26, .v .mv [.tmp 25], none⟩, ⟨some 27, .ld (some 3) (.tmp 2), some (26, true)⟩,
 ⟨some 28, .v .mv [.tmp 1], some (26, true)⟩,
 ⟨some 29, .call (.func 82) [.tmp 27, .tmp 28], some (26, true)⟩,
 ⟨some 30, .v .pick [.tmp 26, .tmp 29, .const (.bool false)], none⟩, ⟨some 4, .v .mv [.tmp 30], none⟩])
 .ret)))
def p26 : PFunc := ⟨31, [(4, none)], none, b26⟩
def q27x0 : PCode :=
 (.seq (.seq (.reg [
 ⟨some 12, .v .mv [.tmp 5], none⟩, ⟨some 13, .v .mv [.tmp 1], none⟩, ⟨some 14, .v .len [.tmp 13], none⟩, ⟨some 15, .v (.ib .lss) [.tmp 12, .tmp 14], none⟩])
 (.cond (.tmp 15)
 .skip
 (.exit 0)))
 (.seq (.blk 1
 (.seq (.dreg [
 ⟨some 18, .v .mv [.tmp 1], none⟩, ⟨some 19, .v .mv [.tmp 5], none⟩, ⟨some 20, .v (.ia 1) [.tmp 18, .tmp 19], none⟩, ⟨some 21, .ld none (.tmp 20), none⟩, ⟨some 22, .v (.fa 0) [.tmp 2], none⟩, ⟨some 23, .ld none (.tmp 22), none⟩, ⟨some 24, .v .mv [.tmp 5], none⟩, ⟨some 25, .v (.ia 2) [.tmp 23, .tmp 24], none⟩, ⟨some 26, .v (.fa 0) [.tmp 25], none⟩, ⟨some 27, .ld none (.tmp 26), none⟩, ⟨some 28, .v (.fa 0) [.tmp 2], none⟩, ⟨some 29, .ld none (.tmp 28), none⟩, ⟨some 30, .v .mv [.tmp 5], none⟩, ⟨some 31, .v (.ia 2) [.tmp 29, .tmp 30], none⟩, ⟨some 32, .v (.fa 1) [.tmp 31], none⟩, ⟨some 33, .ld none (.tmp 32), none⟩, ⟨some 34, .call (.func 81) [.tmp 21, .tmp 27, .tmp 33], none⟩, ⟨some 35, .v .no [.tmp 34], none⟩] [⟨0, false, false⟩, ⟨0, false, false⟩, ⟨0, false, false⟩, ⟨1, false, false⟩, ⟨0, false, false⟩, ⟨4, false, false⟩, ⟨0, false, false⟩, ⟨0, false, false⟩, ⟨0, false, false⟩, ⟨1, false, false⟩, ⟨0, false, false⟩, ⟨4, false, false⟩, ⟨0, false, false⟩, ⟨0, false, false⟩, ⟨0, false, false⟩, ⟨1, false, false⟩, ⟨1, true, true⟩, ⟨0, true, true⟩])
 (.cond (.tmp 35)
 (.seq (.reg [
 ⟨some 4, .v .mv [.const (.bool false)], none⟩])
 .ret)
 .skip)))
 (.reg [
 ⟨some 16, .v .mv [.tmp 5], none⟩, ⟨some 17, .v (.ib .add) [.tmp 16, .const (.int .i64 1)], none⟩, ⟨some 5, .v .mv [.tmp 17], none⟩])))
def b27 : PCode :=
 (.seq (.reg [
 ⟨some 2, .lbox 26 (.tmp 0), none⟩, ⟨some 4, .v .mv [.const (.bool false)], none⟩])
 (.seq (.seq (.reg [
 ⟨some 6, .v .mv [.tmp 1], none⟩, ⟨some 7, .v .len [.tmp 6], none⟩, ⟨some 8, .v (.fa 0) [.tmp 2], none⟩, ⟨some 9, .ld none (.tmp 8), none⟩, ⟨some 10, .v .len [.tmp 9], none⟩, ⟨some 11, .v (.ib .neq) [.tmp 7, .tmp 10], none⟩])
 (.cond (.tmp 11)
 (.seq (.reg [
 ⟨some 4, .v .mv [.const (.bool false)], none⟩])
 .ret)
 .skip))
 (.seq (.seq (.reg [
 ⟨some 5, .v .mv [.const (.int .i64 0)], none⟩])
 (.blk 0
 (.loop q27x0)))
 (.seq (.reg [
 ⟨some 4, .v .mv [.const (.bool true)], none⟩])
 .ret))))
def p27 : PFunc := ⟨36, [(4, none)], none, b27⟩
def q28x0 : PCode :=
 (.seq (.seq (.reg [
 ⟨some 8, .v .mv [.tmp 7], none⟩, ⟨some 9, .v .mv [.tmp 1], none⟩, ⟨some 10, .v .len [.tmp 9], none⟩, ⟨some 11, .v (.ib .lss) [.tmp 8, .tmp 10], none⟩])
 (.cond (.tmp 11)
 .skip
 (.exit 0)))
 (.seq (.blk 1
 (.seq (.reg [
 ⟨some 14, .ld (some 3) (.tmp 3), none⟩, ⟨some 15, .v .mv [.tmp 1], none⟩, ⟨some 16, .v .mv [.tmp 7], none⟩, ⟨some 17, .v .mv [.tmp 2], none⟩, ⟨some 18, .call (.func 83) [.tmp 14, .tmp 15, .tmp 16, .tmp 17], none⟩, ⟨some 19, .v .mv [.tmp 18], none⟩, ⟨some 20, .ld (some 3) (.tmp 3), some (19, false)⟩,
 ⟨some 21, .v .mv [.tmp 1], some (19, false)⟩,
 ⟨some 22, .v .mv [.tmp 7], some (19, false)⟩,
 ⟨some 23, .v .mv [.tmp 2], some (19, false)⟩,
 ⟨some 24, .call (.func 84) [.tmp 20, .tmp 21, .tmp 22, .tmp 23], some (19, false)⟩,
 ⟨some 25, .v .pick [.tmp 19, .const (.bool true), .tmp 24], none⟩])
 (.cond (.tmp 25)
 (.seq (.reg [
 ⟨some 6, .v .mv [.const (.bool false)], none⟩])
 .ret)
 .skip)))
 (.reg [
 ⟨some 12, .v .mv [.tmp 7], none⟩, ⟨some 13, .v (.ib .add) [.tmp 12, .const (.int .i64 1)], none⟩, ⟨some 7, .v .mv [.tmp 13], none⟩])))
def b28 : PCode :=
 (.seq (.reg [
 ⟨some 3, .lbox 26 (.tmp 0), none⟩, ⟨some 6, .v .mv [.const (.bool false)], none⟩])
 (.seq (.seq (.reg [
 ⟨some 7, .v .mv [.const (.int .i64 0)], none⟩])
 (.blk 0
 (.loop q28x0)))
 (.seq (.reg [
 ⟨some 6, .v .mv [.const (.bool true)], none⟩])
 .ret)))
def p28 : PFunc := ⟨26, [(6, none)], none, b28⟩
def b29 : PCode :=
 (.seq (.reg [
 ⟨some 2, .lbox 26 (.tmp 0), none⟩, ⟨some 4, .v .mv [.const (.bool false)], none⟩])
 (.seq (.reg [
 ⟨some 5, .ld (some 3) (.tmp 2), none⟩, ⟨some 6, .call (.func 22) [.tmp 5], none⟩, ⟨some 7, .v .mv [.tmp 6], none⟩, ⟨some 8, .v .mv [.tmp 1], some (7, true)⟩,
 ⟨some 9, .v .len [.tmp 8], some (7, true)⟩,
 ⟨some 10, .v (.ib .leq) [.tmp 9, .const (.int .i64 7)], some (7, true)⟩,
 ⟨some 11, .v .pick [.tmp 7, .tmp 10, .const (.bool false)], none⟩, ⟨some 12, .v .mv [.tmp 11], none⟩, ⟨some 13, .ld (some 3) (.tmp 2), some (12, true)⟩,
 ⟨some 14, .call (.func 25) [.tmp 13], some (12, true)⟩,
 ⟨some 15, .v .pick [.tmp 12, .tmp 14, .const (.bool false)], none⟩, ⟨some 16, .v .mv [.tmp 15], none⟩, ⟨some 17, .ld (some 3) (.tmp 2), some (16, true)⟩,
 ⟨some 18, .v .mv [.tmp 1], some (16, true)⟩,
 ⟨some 19, .call (.func 26) [.tmp 17, .tmp 18], some (16, true)⟩,
 ⟨some 20, .v .pick [.tmp 16, .tmp 19, .const (.bool false)], none⟩, ⟨some 4, .v .mv [.tmp 20], none⟩])
 .ret))
def p29 : PFunc := ⟨21, [(4, none)], none, b29⟩
def q30x0 : PCode :=
 (.seq (.reg [
 ⟨some 36, .v (.ib .lss) [.tmp 35, .tmp 34], none⟩])
 (.seq (.cond (.tmp 36)
 .skip
 (.exit 0))
 (.seq (.blk 1
 (.seq (.reg [
 ⟨some 37, .v .mv [.tmp 35], none⟩, ⟨some 38, .v (.ia 1) [.tmp 33, .tmp 35], none⟩, ⟨some 39, .ld none (.tmp 38), none⟩, ⟨some 9, .v .mv [.tmp 37], none⟩, ⟨some 10, .v .mv [.tmp 39], none⟩])
 (.seq (.reg [
 ⟨some 41, .ld (some 5) (.tmp 6), none⟩, ⟨some 42, .v .mv [.tmp 1], none⟩, ⟨some 43, .v .mv [.tmp 9], none⟩, ⟨some 44, .call (.func 79) [.tmp 41, .tmp 42, .tmp 43], none⟩, ⟨some 40, .v .mv [.tmp 44], none⟩, ⟨some 45, .v (.ext 0) [.tmp 40], none⟩, ⟨some 46, .v (.ext 1) [.tmp 40], none⟩, ⟨some 11, .v .mv [.tmp 45], none⟩, ⟨some 12, .v .mv [.tmp 46], none⟩])
 (.seq (.reg [
 ⟨some 47, .ld (some 5) (.tmp 6), none⟩, ⟨some 48, .v .mv [.tmp 10], none⟩, ⟨some 49, .v .mv [.tmp 11], none⟩, ⟨some 50, .call (.func 86) [.tmp 47, .tmp 48, .tmp 49], none⟩, ⟨some 13, .lalloc 75 (.agg #[(.int .i64 0), (.int .i64 0)]), none⟩, ⟨none, .st 2 (.tmp 13) (.tmp 50), none⟩])
 (.seq (.dreg [
 ⟨some 51, .v (.fa 1) [.tmp 13], none⟩, ⟨some 52, .ld none (.tmp 51), none⟩, ⟨some 53, .v (.fa 2) [.tmp 2], none⟩, ⟨some 54, .ld none (.tmp 53), none⟩, ⟨some 55, .v .mv [.tmp 9], none⟩, ⟨some 56, .v (.ia 2) [.tmp 54, .tmp 55], none⟩, ⟨some 57, .v (.fa 0) [.tmp 56], none⟩, ⟨some 58, .ld none (.tmp 57), none⟩, ⟨some 59, .v (.ib .lss) [.tmp 52, .tmp 58], none⟩, ⟨some 60, .v .mv [.tmp 59], none⟩, ⟨some 61, .v .mv [.tmp 12], some (60, false)⟩,
 ⟨some 62, .v .mv [.tmp 61], some (60, false)⟩,
 ⟨some 63, .v (.fa 0) [.tmp 13], some (62, true)⟩,
 ⟨some 64, .ld none (.tmp 63), some (62, true)⟩,
 ⟨some 65, .v (.fa 2) [.tmp 2], some (62, true)⟩,
 ⟨some 66, .ld none (.tmp 65), some (62, true)⟩,
 ⟨some 67, .v .mv [.tmp 9], some (62, true)⟩,
 ⟨some 68, .v (.ia 2) [.tmp 66, .tmp 67], some (62, true)⟩,
 ⟨some 69, .v (.fa 1) [.tmp 68], some (62, true)⟩,
 ⟨some 70, .ld none (.tmp 69), some (62, true)⟩,
 ⟨some 71, .v (.ib .gtr) [.tmp 64, .tmp 70], some (62, true)⟩,
 ⟨some 72, .v .pick [.tmp 62, .tmp 71, .const (.bool false)], some (60, false)⟩,
 ⟨some 73, .v .pick [.tmp 60, .const (.bool true), .tmp 72], none⟩] [⟨0, false, false⟩, ⟨15, false, false⟩, ⟨0, true, false⟩, ⟨4, true, false⟩, ⟨0, true, false⟩, ⟨0, true, false⟩, ⟨0, true, false⟩, ⟨1, true, false⟩, ⟨0, true, true⟩, ⟨0, true, true⟩, ⟨0, true, true⟩, ⟨0, true, true⟩, ⟨0, false, false⟩, ⟨15, false, false⟩, ⟨0, true, false⟩, ⟨4, true, false⟩, ⟨0, true, false⟩, ⟨0, true, false⟩, ⟨0, true, false⟩, ⟨1, true, false⟩, ⟨0, true, true⟩, ⟨0, true, true⟩, ⟨0, true, true⟩])
 (.cond (.tmp 73)
 (.seq (.reg [
 ⟨some 4, .v .mv [.const (.int .i64 1)], none⟩, ⟨some 5, .v .mv [.const (.int .i64 0)], none⟩])
 .ret)
 .skip))))))
 (.reg [
 ⟨some 74, .v (.ib .add) [.tmp 35, .const (.int .i64 1)], none⟩, ⟨some 35, .v .mv [.tmp 74], none⟩]))))
def b30 : PCode :=
 (.seq (.reg [
 ⟨some 2, .lbox 26 (.tmp 0), none⟩, ⟨some 4, .v .mv [.const (.int .i64 0)], none⟩, ⟨some 5, .v .mv [.const (.int .i64 0)], none⟩])
 (.seq (.seq (.reg [
 ⟨some 14, .ld (some 3) (.tmp 2), none⟩, ⟨some 15, .call (.func 75) [.tmp 14], none⟩, ⟨some 16, .v .no [.tmp 15], none⟩, ⟨some 17, .v .mv [.tmp 16], none⟩, ⟨some 18, .ld (some 3) (.tmp 2), some (17, false)⟩,
 ⟨some 19, .v .mv [.tmp 1], some (17, false)⟩,
 ⟨some 20, .call (.func 76) [.tmp 18, .tmp 19], some (17, false)⟩,
 ⟨some 21, .v .no [.tmp 20], some (17, false)⟩,
 ⟨some 22, .v .pick [.tmp 17, .const (.bool true), .tmp 21], none⟩])
 (.cond (.tmp 22)
 (.seq (.reg [
 ⟨some 4, .v .mv [.const (.int .i64 0)], none⟩, ⟨some 5, .v .mv [.const (.int .i64 2)], none⟩])
 .ret)
 .skip))
 (.seq (.reg [
 ⟨some 23, .ld (some 3) (.tmp 2), none⟩, ⟨some 24, .call (.func 78) [.tmp 23], none⟩, ⟨some 6, .lalloc 93 (.agg #[(.slice none 0 0), (.slice none 0 0), (.slice none 0 0), (.slice none 0 0), (.slice none 0 0)]), none⟩, ⟨none, .st 5 (.tmp 6) (.tmp 24), none⟩])
 (.seq (.seq (.reg [
 ⟨some 26, .ld (some 5) (.tmp 6), none⟩, ⟨some 27, .v .mv [.tmp 1], none⟩, ⟨some 28, .call (.func 85) [.tmp 26, .tmp 27], none⟩, ⟨some 25, .v .mv [.tmp 28], none⟩, ⟨some 29, .v (.ext 0) [.tmp 25], none⟩, ⟨some 30, .v (.ext 1) [.tmp 25], none⟩, ⟨some 7, .lalloc 100 (.agg #[(.int .i64 0), (.int .i64 0)]), none⟩, ⟨none, .st 2 (.tmp 7) (.tmp 29), none⟩, ⟨some 8, .v .mv [.tmp 30], none⟩])
 (.seq (.reg [
 ⟨some 31, .v .mv [.tmp 8], none⟩, ⟨some 32, .v (.ib .eql) [.tmp 31, .const (.int .i64 0)], none⟩])
 (.cond (.tmp 32)
 (.seq (.reg [
 ⟨some 4, .v .mv [.const (.int .i64 3)], none⟩, ⟨some 5, .v .mv [.const (.int .i64 0)], none⟩])
 .ret)
 .skip)))
 (.seq (.seq (.reg [
 ⟨some 33, .v .mv [.tmp 1], none⟩, ⟨some 34, .v .len [.tmp 33], none⟩, ⟨some 35, .v .mv [.const (.int .i64 0)], none⟩])
 (.blk 0
 (.loop q30x0)))
 (.seq (.reg [
 ⟨some 4, .v .mv [.const (.int .i64 2)], none⟩, ⟨some 5, .v .mv [.const (.int .i64 0)], none⟩])
 .ret))))))
def p30 : PFunc := ⟨75, [(4, none), (5, none)], none, b30⟩
def q31x0 : PCode :=
 (.seq (.seq (.reg [
 ⟨some 49, .v .mv [.tmp 11], none⟩, ⟨some 50, .v (.fa 1) [.tmp 10], none⟩, ⟨some 51, .ld none (.tmp 50), none⟩, ⟨some 52, .v (.ib .leq) [.tmp 49, .tmp 51], none⟩])
 (.cond (.tmp 52)
 .skip
 (.exit 2)))
 (.seq (.blk 3
 (.seq (.reg [
 ⟨some 55, .v (.fa 0) [.tmp 2], none⟩, ⟨some 56, .ld none (.tmp 55), none⟩, ⟨some 57, .v .mv [.tmp 9], none⟩, ⟨some 58, .v .mv [.tmp 11], none⟩, ⟨some 59, .v .mv [.tmp 11], none⟩, ⟨some 60, .v (.bld [(.int .i64 0), (.int .i64 0)] [(0, 1), (1, 1)]) [.tmp 58, .tmp 59], none⟩, ⟨some 61, .v (.ia 2) [.tmp 56, .tmp 57], none⟩, ⟨none, .st 2 (.tmp 61) (.tmp 60), none⟩])
 (.seq (.reg [
 ⟨some 63, .ld (some 3) (.tmp 2), none⟩, ⟨some 64, .call (.func 78) [.tmp 63], none⟩, ⟨some 65, .v .mv [.tmp 1], none⟩, ⟨some 66, .call (.func 85) [.tmp 64, .tmp 65], none⟩, ⟨some 62, .v .mv [.tmp 66], none⟩, ⟨some 67, .v (.ext 0) [.tmp 62], none⟩, ⟨some 68, .v (.ext 1) [.tmp 62], none⟩, ⟨some 12, .lalloc 100 (.agg #[(.int .i64 0), (.int .i64 0)]), none⟩, ⟨none, .st 2 (.tmp 12) (.tmp 67), none⟩, ⟨some 13, .v .mv [.tmp 68], none⟩])
 (.seq (.reg [
 ⟨some 69, .v .mv [.tmp 13], none⟩, ⟨some 70, .v (.ib .neq) [.tmp 69, .const (.int .i64 0)], none⟩])
 (.cond (.tmp 70)
 (.seq (.reg [
 ⟨some 71, .v .mv [.tmp 8], none⟩, ⟨some 72, .v .mv [.tmp 11], none⟩, ⟨some 73, .lbs 3 1 [(.int .i64 0)] 1 [(0, .tmp 72)], none⟩, ⟨some 74, .app 3 1 (.tmp 71) (.tmp 73), none⟩, ⟨some 8, .v .mv [.tmp 74], none⟩])
 (.exit 2))
 .skip)))))
 (.reg [
 ⟨some 53, .v .mv [.tmp 11], none⟩, ⟨some 54, .v (.ib .add) [.tmp 53, .const (.int .i64 1)], none⟩, ⟨some 11, .v .mv [.tmp 54], none⟩])))
def q31x1 : PCode :=
 (.seq (.reg [
 ⟨some 40, .v (.ib .lss) [.tmp 39, .tmp 38], none⟩])
 (.seq (.cond (.tmp 40)
 .skip
 (.exit 0))
 (.seq (.blk 1
 (.seq (.reg [
 ⟨some 41, .v .mv [.tmp 39], none⟩, ⟨some 9, .v .mv [.tmp 41], none⟩])
 (.seq (.reg [
 ⟨some 42, .v (.fa 0) [.tmp 2], none⟩, ⟨some 43, .ld none (.tmp 42), none⟩, ⟨some 44, .v .mv [.tmp 9], none⟩, ⟨some 45, .v (.ia 2) [.tmp 43, .tmp 44], none⟩, ⟨some 46, .ld (some 2) (.tmp 45), none⟩, ⟨some 10, .lalloc 75 (.agg #[(.int .i64 0), (.int .i64 0)]), none⟩, ⟨none, .st 2 (.tmp 10) (.tmp 46), none⟩])
 (.seq (.reg [
 ⟨some 47, .v (.fa 0) [.tmp 10], none⟩, ⟨some 48, .ld none (.tmp 47), none⟩, ⟨some 11, .v .mv [.tmp 48], none⟩])
 (.blk 2
 (.loop q31x0))))))
 (.reg [
 ⟨some 75, .v (.ib .add) [.tmp 39, .const (.int .i64 1)], none⟩, ⟨some 39, .v .mv [.tmp 75], none⟩]))))
def b31 : PCode :=
 (.seq (.reg [
 ⟨some 2, .lbox 26 (.tmp 0), none⟩, ⟨some 4, .v .mv [.const (.slice none 0 0)], none⟩, ⟨some 5, .v .mv [.const (.int .i64 0)], none⟩])
 (.seq (.seq (.reg [
 ⟨some 14, .ld (some 3) (.tmp 2), none⟩, ⟨some 15, .call (.func 75) [.tmp 14], none⟩, ⟨some 16, .v .no [.tmp 15], none⟩, ⟨some 17, .v .mv [.tmp 16], none⟩, ⟨some 18, .ld (some 3) (.tmp 2), some (17, false)⟩,
 ⟨some 19, .v .mv [.tmp 1], some (17, false)⟩,
 ⟨some 20, .call (.func 76) [.tmp 18, .tmp 19], some (17, false)⟩,
 ⟨some 21, .v .no [.tmp 20], some (17, false)⟩,
 ⟨some 22, .v .pick [.tmp 17, .const (.bool true), .tmp 21], none⟩])
 (.cond (.tmp 22)
 (.seq (.reg [
 ⟨some 4, .v .mv [.const (.slice none 0 0)], none⟩, ⟨some 5, .v .mv [.const (.int .i64 2)], none⟩])
 .ret)
 .skip))
 (.seq (.seq (.reg [
 ⟨some 24, .ld (some 3) (.tmp 2), none⟩, ⟨some 25, .call (.func 78) [.tmp 24], none⟩, ⟨some 26, .v .mv [.tmp 1], none⟩, ⟨some 27, .call (.func 85) [.tmp 25, .tmp 26], none⟩, ⟨some 23, .v .mv [.tmp 27], none⟩, ⟨some 28, .v (.ext 0) [.tmp 23], none⟩, ⟨some 29, .v (.ext 1) [.tmp 23], none⟩, ⟨some 6, .lalloc 100 (.agg #[(.int .i64 0), (.int .i64 0)]), none⟩, ⟨none, .st 2 (.tmp 6) (.tmp 28), none⟩, ⟨some 7, .v .mv [.tmp 29], none⟩])
 (.seq (.reg [
 ⟨some 30, .v .mv [.tmp 7], none⟩, ⟨some 31, .v (.ib .eql) [.tmp 30, .const (.int .i64 0)], none⟩])
 (.cond (.tmp 31)
 (.seq (.reg [
 ⟨some 4, .v .mv [.const (.slice none 0 0)], none⟩, ⟨some 5, .v .mv [.const (.int .i64 5)], none⟩])
 .ret)
 .skip)))
 (.seq (.reg [
 ⟨some 32, .v (.fa 0) [.tmp 2], none⟩, ⟨some 33, .ld none (.tmp 32), none⟩, ⟨some 34, .call (.func 87) [.tmp 33], none⟩, ⟨some 35, .v (.fa 0) [.tmp 2], none⟩, ⟨none, .st 1 (.tmp 35) (.tmp 34), none⟩])
 (.seq (.reg [
 ⟨some 8, .v .mv [.const (.slice none 0 0)], none⟩])
 (.seq (.seq (.reg [
 ⟨some 36, .v (.fa 0) [.tmp 2], none⟩, ⟨some 37, .ld none (.tmp 36), none⟩, ⟨some 38, .v .len [.tmp 37], none⟩, ⟨some 39, .v .mv [.const (.int .i64 0)], none⟩])
 (.blk 0
 (.loop q31x1)))
 (.seq (.reg [
 ⟨some 76, .v .mv [.tmp 8], none⟩, ⟨some 4, .v .mv [.tmp 76], none⟩, ⟨some 5, .v .mv [.const (.int .i64 0)], none⟩])
 .ret)))))))
def p31 : PFunc := ⟨77, [(4, none), (5, none)], none, b31⟩
def b32 : PCode :=
 (.seq (.reg [
 ⟨some 2, .lbox 26 (.tmp 0), none⟩, ⟨some 4, .v .mv [.const (.int .i64 0)], none⟩, ⟨some 5, .v .mv [.const (.int .i64 0)], none⟩, ⟨some 6, .v .mv [.const (.int .i64 0)], none⟩])
 (.seq (.seq (.reg [
 ⟨some 9, .ld (some 3) (.tmp 2), none⟩, ⟨some 10, .call (.func 75) [.tmp 9], none⟩, ⟨some 11, .v .no [.tmp 10], none⟩, ⟨some 12, .v .mv [.tmp 11], none⟩, ⟨some 13, .ld (some 3) (.tmp 2), some (12, false)⟩,
 ⟨some 14, .v .mv [.tmp 1], some (12, false)⟩,
 ⟨some 15, .call (.func 76) [.tmp 13, .tmp 14], some (12, false)⟩,
 ⟨some 16, .v .no [.tmp 15], some (12, false)⟩,
 ⟨some 17, .v .pick [.tmp 12, .const (.bool true), .tmp 16], none⟩])
 (.cond (.tmp 17)
 (.seq (.reg [
 ⟨some 4, .v .mv [.const (.int .i64 0)], none⟩, ⟨some 5, .v .mv [.const (.int .i64 0)], none⟩, ⟨some 6, .v .mv [.const (.int .i64 2)], none⟩])
 .ret)
 .skip))
 (.seq (.reg [
 ⟨some 19, .ld (some 3) (.tmp 2), none⟩, ⟨some 20, .call (.func 78) [.tmp 19], none⟩, ⟨some 21, .v .mv [.tmp 1], none⟩, ⟨some 22, .call (.func 85) [.tmp 20, .tmp 21], none⟩, ⟨some 18, .v .mv [.tmp 22], none⟩, ⟨some 23, .v (.ext 0) [.tmp 18], none⟩, ⟨some 24, .v (.ext 1) [.tmp 18], none⟩, ⟨some 7, .lalloc 100 (.agg #[(.int .i64 0), (.int .i64 0)]), none⟩, ⟨none, .st 2 (.tmp 7) (.tmp 23), none⟩, ⟨some 8, .v .mv [.tmp 24], none⟩])
 (.seq (.seq (.reg [
 ⟨some 25, .v .mv [.tmp 8], none⟩, ⟨some 26, .v (.ib .eql) [.tmp 25, .const (.int .i64 0)], none⟩])
 (.cond (.tmp 26)
 (.seq (.reg [
 ⟨some 4, .v .mv [.const (.int .i64 0)], none⟩, ⟨some 5, .v .mv [.const (.int .i64 0)], none⟩, ⟨some 6, .v .mv [.const (.int .i64 5)], none⟩])
 .ret)
 .skip))
 (.seq (.dreg [
 ⟨some 27, .v (.fa 0) [.tmp 7], none⟩, ⟨some 28, .ld none (.tmp 27), none⟩, ⟨some 29, .v (.fa 1) [.tmp 7], none⟩, ⟨some 30, .ld none (.tmp 29), none⟩, ⟨some 4, .v .mv [.tmp 28], none⟩, ⟨some 5, .v .mv [.tmp 30], none⟩, ⟨some 6, .v .mv [.const (.int .i64 0)], none⟩] [⟨0, true, false⟩, ⟨9, true, false⟩, ⟨0, true, false⟩, ⟨9, true, false⟩, ⟨0, true, false⟩, ⟨0, true, true⟩, ⟨0, true, true⟩])
 .ret)))))
def p32 : PFunc := ⟨31, [(4, none), (5, none), (6, none)], none, b32⟩
def q33x0 : PCode :=
 (.seq (.seq (.reg [
 ⟨some 8, .v .mv [.tmp 7], none⟩, ⟨some 9, .v .mv [.tmp 1], none⟩, ⟨some 10, .v .len [.tmp 9], none⟩, ⟨some 11, .v (.ib .lss) [.tmp 8, .tmp 10], none⟩])
 (.cond (.tmp 11)
 .skip
 (.exit 0)))
 (.seq (.blk 1
 (.seq (.seq (.dreg [
 ⟨some 14, .ld (some 3) (.tmp 2), none⟩, ⟨some 15, .v .mv [.tmp 1], none⟩, ⟨some 16, .v .mv [.tmp 7], none⟩, ⟨some 17, .ld (some 3) (.tmp 2), none⟩, ⟨some 18, .call (.func 38) [.tmp 17], none⟩, ⟨some 19, .call (.func 83) [.tmp 14, .tmp 15, .tmp 16, .tmp 18], none⟩] [⟨4, false, false⟩, ⟨0, false, false⟩, ⟨0, false, false⟩, ⟨4, true, false⟩, ⟨1, true, false⟩, ⟨1, true, true⟩])
 (.cond (.tmp 19)
 (.seq (.reg [
 ⟨some 20, .v .mv [.tmp 7], none⟩, ⟨some 4, .v .mv [.tmp 20], none⟩, ⟨some 5, .v .mv [.const (.int .i64 1)], none⟩, ⟨some 6, .v .mv [.const (.bool true)], none⟩])
 .ret)
 .skip))
 (.seq (.dreg [
 ⟨some 21, .ld (some 3) (.tmp 2), none⟩, ⟨some 22, .v .mv [.tmp 1], none⟩, ⟨some 23, .v .mv [.tmp 7], none⟩, ⟨some 24, .ld (some 3) (.tmp 2), none⟩, ⟨some 25, .call (.func 39) [.tmp 24], none⟩, ⟨some 26, .call (.func 84) [.tmp 21, .tmp 22, .tmp 23, .tmp 25], none⟩] [⟨4, false, false⟩, ⟨0, false, false⟩, ⟨0, false, false⟩, ⟨4, true, false⟩, ⟨1, true, false⟩, ⟨1, true, true⟩])
 (.cond (.tmp 26)
 (.seq (.reg [
 ⟨some 27, .v .mv [.tmp 7], none⟩, ⟨some 4, .v .mv [.tmp 27], none⟩, ⟨some 5, .v .mv [.const (.int .i64 2)], none⟩, ⟨some 6, .v .mv [.const (.bool true)], none⟩])
 .ret)
 .skip))))
 (.reg [
 ⟨some 12, .v .mv [.tmp 7], none⟩, ⟨some 13, .v (.ib .add) [.tmp 12, .const (.int .i64 1)], none⟩, ⟨some 7, .v .mv [.tmp 13], none⟩])))
def b33 : PCode :=
 (.seq (.reg [
 ⟨some 2, .lbox 26 (.tmp 0), none⟩, ⟨some 4, .v .mv [.const (.int .i64 0)], none⟩, ⟨some 5, .v .mv [.const (.int .i64 0)], none⟩, ⟨some 6, .v .mv [.const (.bool false)], none⟩])
 (.seq (.seq (.reg [
 ⟨some 7, .v .mv [.const (.int .i64 0)], none⟩])
 (.blk 0
 (.loop q33x0)))
 (.seq (.reg [
 ⟨some 4, .v .mv [.const (.int .i64 0)], none⟩, ⟨some 5, .v .mv [.const (.int .i64 0)], none⟩, ⟨some 6, .v .mv [.const (.bool false)], none⟩])
 .ret)))
def p33 : PFunc := ⟨28, [(4, none), (5, none), (6, none)], none, b33⟩
def q35x0 : PCode :=
 (.seq (.seq (.reg [
 ⟨some 11, .v .mv [.tmp 5], none⟩, ⟨some 12, .v .mv [.tmp 0], none⟩, ⟨some 13, .v .len [.tmp 12], none⟩, ⟨some 14, .v (.ib .lss) [.tmp 11, .tmp 13], none⟩])
 (.cond (.tmp 14)
 .skip
 (.exit 0)))
 (.seq (.blk 1
 (.seq (.dreg [
 ⟨some 17, .v .mv [.tmp 0], none⟩, ⟨some 18, .v .mv [.tmp 5], none⟩, ⟨some 19, .v (.ia 1) [.tmp 17, .tmp 18], none⟩, ⟨some 20, .ld none (.tmp 19), none⟩, ⟨some 21, .v .mv [.tmp 1], none⟩, ⟨some 22, .v .mv [.tmp 5], none⟩, ⟨some 23, .v (.ia 1) [.tmp 21, .tmp 22], none⟩, ⟨some 24, .ld none (.tmp 23), none⟩, ⟨some 25, .v (.ib .neq) [.tmp 20, .tmp 24], none⟩] [⟨0, false, false⟩, ⟨0, false, false⟩, ⟨0, false, false⟩, ⟨1, false, false⟩, ⟨0, false, false⟩, ⟨0, false, false⟩, ⟨0, false, false⟩, ⟨1, false, false⟩, ⟨0, true, true⟩])
 (.cond (.tmp 25)
 (.seq (.reg [
 ⟨some 4, .v .mv [.const (.bool false)], none⟩])
 .ret)
 .skip)))
 (.reg [
 ⟨some 15, .v .mv [.tmp 5], none⟩, ⟨some 16, .v (.ib .add) [.tmp 15, .const (.int .i64 1)], none⟩, ⟨some 5, .v .mv [.tmp 16], none⟩])))
def b35 : PCode :=
 (.seq (.reg [
 ⟨some 4, .v .mv [.const (.bool false)], none⟩])
 (.seq (.seq (.reg [
 ⟨some 6, .v .mv [.tmp 0], none⟩, ⟨some 7, .v .len [.tmp 6], none⟩, ⟨some 8, .v .mv [.tmp 1], none⟩, ⟨some 9, .v .len [.tmp 8], none⟩, ⟨some 10, .v (.ib .neq) [.tmp 7, .tmp 9], none⟩])
 (.cond (.tmp 10)
 (.seq (.reg [
 ⟨some 4, .v .mv [.const (.bool false)], none⟩])
 .ret)
 .skip))
 (.seq (.seq (.reg [
 ⟨some 5, .v .mv [.const (.int .i64 0)], none⟩])
 (.blk 0
 (.loop q35x0)))
 (.seq (.reg [
 ⟨some 4, .v .mv [.const (.bool true)], none⟩])
 .ret))))
def p35 : PFunc := ⟨26, [(4, none)], none, b35⟩
def b36 : PCode :=
 (.seq (.reg [
 ⟨some 2, .lbox 26 (.tmp 0), none⟩, ⟨some 4, .v .mv [.const (.bool false)], none⟩])
 (.seq (.reg [
 ⟨some 5, .v .mv [.tmp 1], none⟩, ⟨some 6, .v (.fa 2) [.tmp 2], none⟩, ⟨some 7, .ld none (.tmp 6), none⟩, ⟨some 8, .v .len [.tmp 7], none⟩, ⟨some 9, .v (.ib .sub) [.tmp 8, .const (.int .i64 1)], none⟩, ⟨some 10, .call (.func 81) [.tmp 5, .const (.int .i64 0), .tmp 9], none⟩, ⟨some 4, .v .mv [.tmp 10], none⟩])
 .ret))
def p36 : PFunc := ⟨11, [(4, none)], none, b36⟩
def q37x0 : PCode :=
 (.seq (.seq (.reg [
 ⟨some 26, .v .mv [.tmp 9], none⟩, ⟨some 27, .v .mv [.tmp 7], none⟩, ⟨some 28, .v (.ib .lss) [.tmp 26, .tmp 27], none⟩])
 (.cond (.tmp 28)
 .skip
 (.exit 0)))
 (.seq (.blk 1
 (.reg [
 ⟨some 31, .v .mv [.tmp 8], none⟩, ⟨some 32, .v .mv [.tmp 2], none⟩, ⟨some 33, .v .mv [.tmp 9], none⟩, ⟨some 34, .v (.ia 1) [.tmp 32, .tmp 33], none⟩, ⟨some 35, .ld none (.tmp 34), none⟩, ⟨some 36, .v (.ib .add) [.tmp 31, .tmp 35], none⟩, ⟨some 8, .v .mv [.tmp 36], none⟩]))
 (.reg [
 ⟨some 29, .v .mv [.tmp 9], none⟩, ⟨some 30, .v (.ib .add) [.tmp 29, .const (.int .i64 1)], none⟩, ⟨some 9, .v .mv [.tmp 30], none⟩])))
def b37 : PCode :=
 (.seq (.reg [
 ⟨some 6, .v .mv [.const (.int .i64 0)], none⟩])
 (.seq (.reg [
 ⟨some 10, .v .mv [.tmp 2], none⟩, ⟨some 11, .v .len [.tmp 10], none⟩, ⟨some 7, .v .mv [.tmp 11], none⟩])
 (.seq (.seq (.reg [
 ⟨some 12, .v .mv [.tmp 1], none⟩, ⟨some 13, .v (.ib .add) [.tmp 12, .const (.int .i64 1)], none⟩, ⟨some 14, .v .mv [.tmp 0], none⟩, ⟨some 15, .v .len [.tmp 14], none⟩, ⟨some 16, .v (.ib .lss) [.tmp 13, .tmp 15], none⟩])
 (.cond (.tmp 16)
 (.reg [
 ⟨some 17, .v .mv [.tmp 0], none⟩, ⟨some 18, .v .mv [.tmp 1], none⟩, ⟨some 19, .v (.ib .add) [.tmp 18, .const (.int .i64 1)], none⟩, ⟨some 20, .v (.ia 1) [.tmp 17, .tmp 19], none⟩, ⟨some 21, .ld none (.tmp 20), none⟩, ⟨some 7, .v .mv [.tmp 21], none⟩])
 .skip))
 (.seq (.reg [
 ⟨some 8, .v .mv [.const (.int .i64 0)], none⟩])
 (.seq (.seq (.reg [
 ⟨some 22, .v .mv [.tmp 0], none⟩, ⟨some 23, .v .mv [.tmp 1], none⟩, ⟨some 24, .v (.ia 1) [.tmp 22, .tmp 23], none⟩, ⟨some 25, .ld none (.tmp 24), none⟩, ⟨some 9, .v .mv [.tmp 25], none⟩])
 (.blk 0
 (.loop q37x0)))
 (.seq (.reg [
 ⟨some 37, .v .mv [.tmp 8], none⟩, ⟨some 6, .v .mv [.tmp 37], none⟩])
 .ret))))))
def p37 : PFunc := ⟨38, [(6, none)], none, b37⟩
def q38x0 : PCode :=
 (.seq (.seq (.reg [
 ⟨some 5, .v .mv [.tmp 4], none⟩, ⟨some 6, .v (.fa 0) [.tmp 1], none⟩, ⟨some 7, .ld none (.tmp 6), none⟩, ⟨some 8, .v .len [.tmp 7], none⟩, ⟨some 9, .v (.ib .lss) [.tmp 5, .tmp 8], none⟩])
 (.cond (.tmp 9)
 .skip
 (.exit 0)))
 (.seq (.blk 1
 (.reg [
 ⟨some 12, .v .mv [.tmp 3], none⟩, ⟨some 13, .v (.fa 0) [.tmp 1], none⟩, ⟨some 14, .ld none (.tmp 13), none⟩, ⟨some 15, .v .mv [.tmp 4], none⟩, ⟨some 16, .v (.ia 2) [.tmp 14, .tmp 15], none⟩, ⟨some 17, .v (.fa 0) [.tmp 16], none⟩, ⟨some 18, .ld none (.tmp 17), none⟩, ⟨some 19, .lbs 3 1 [(.int .i64 0)] 1 [(0, .tmp 18)], none⟩, ⟨some 20, .app 3 1 (.tmp 12) (.tmp 19), none⟩, ⟨some 3, .v .mv [.tmp 20], none⟩]))
 (.reg [
 ⟨some 10, .v .mv [.tmp 4], none⟩, ⟨some 11, .v (.ib .add) [.tmp 10, .const (.int .i64 1)], none⟩, ⟨some 4, .v .mv [.tmp 11], none⟩])))
def b38 : PCode :=
 (.seq (.reg [
 ⟨some 1, .lbox 26 (.tmp 0), none⟩, ⟨some 2, .v .mv [.const (.slice none 0 0)], none⟩])
 (.seq (.reg [
 ⟨some 3, .v .mv [.const (.slice none 0 0)], none⟩])
 (.seq (.seq (.reg [
 ⟨some 4, .v .mv [.const (.int .i64 0)], none⟩])
 (.blk 0
 (.loop q38x0)))
 (.seq (.reg [
 ⟨some 21, .v .mv [.tmp 3], none⟩, ⟨some 2, .v .mv [.tmp 21], none⟩])
 .ret))))
def p38 : PFunc := ⟨22, [(2, none)], none, b38⟩
def q39x0 : PCode :=
 (.seq (.seq (.reg [
 ⟨some 5, .v .mv [.tmp 4], none⟩, ⟨some 6, .v (.fa 0) [.tmp 1], none⟩, ⟨some 7, .ld none (.tmp 6), none⟩, ⟨some 8, .v .len [.tmp 7], none⟩, ⟨some 9, .v (.ib .lss) [.tmp 5, .tmp 8], none⟩])
 (.cond (.tmp 9)
 .skip
 (.exit 0)))
 (.seq (.blk 1
 (.reg [
 ⟨some 12, .v .mv [.tmp 3], none⟩, ⟨some 13, .v (.fa 0) [.tmp 1], none⟩, ⟨some 14, .ld none (.tmp 13), none⟩, ⟨some 15, .v .mv [.tmp 4], none⟩, ⟨some 16, .v (.ia 2) [.tmp 14, .tmp 15], none⟩, ⟨some 17, .v (.fa 1) [.tmp 16], none⟩, ⟨some 18, .ld none (.tmp 17), none⟩, ⟨some 19, .lbs 3 1 [(.int .i64 0)] 1 [(0, .tmp 18)], none⟩, ⟨some 20, .app 3 1 (.tmp 12) (.tmp 19), none⟩, ⟨some 3, .v .mv [.tmp 20], none⟩]))
 (.reg [
 ⟨some 10, .v .mv [.tmp 4], none⟩, ⟨some 11, .v (.ib .add) [.tmp 10, .const (.int .i64 1)], none⟩, ⟨some 4, .v .mv [.tmp 11], none⟩])))
def b39 : PCode :=
 (.seq (.reg [
 ⟨some 1, .lbox 26 (.tmp 0), none⟩, ⟨some 2, .v .mv [.const (.slice none 0 0)], none⟩])
 (.seq (.reg [
 ⟨some 3, .v .mv [.const (.slice none 0 0)], none⟩])
 (.seq (.seq (.reg [
 ⟨some 4, .v .mv [.const (.int .i64 0)], none⟩])
 (.blk 0
 (.loop q39x0)))
 (.seq (.reg [
 ⟨some 21, .v .mv [.tmp 3], none⟩, ⟨some 2, .v .mv [.tmp 21], none⟩])
 .ret))))
def p39 : PFunc := ⟨22, [(2, none)], none, b39⟩
def q40x0 : PCode :=
 (.seq (.seq (.reg [
 ⟨some 6, .v .mv [.tmp 5], none⟩, ⟨some 7, .v .mv [.tmp 0], none⟩, ⟨some 8, .v .len [.tmp 7], none⟩, ⟨some 9, .v (.ib .lss) [.tmp 6, .tmp 8], none⟩, ⟨some 10, .v .mv [.tmp 9], none⟩, ⟨some 11, .v .mv [.tmp 5], some (10, true)⟩,
 ⟨some 12, .v .mv [.tmp 1], some (10, true)⟩,
 ⟨some 13, .v .len [.tmp 12], some (10, true)⟩,
 ⟨some 14, .v (.ib .lss) [.tmp 11, .tmp 13], some (10, true)⟩,
 ⟨some 15, .v .pick [.tmp 10, .tmp 14, .const (.bool false)], none⟩])
 (.cond (.tmp 15)
 .skip
 (.exit 0)))
 (.seq (.blk 1
 (.seq (.dreg [
 ⟨some 18, .v .mv [.tmp 0], none⟩, ⟨some 19, .v .mv [.tmp 5], none⟩, ⟨some 20, .v (.ia 1) [.tmp 18, .tmp 19], none⟩, ⟨some 21, .ld none (.tmp 20), none⟩, ⟨some 22, .v .mv [.tmp 1], none⟩, ⟨some 23, .v .mv [.tmp 5], none⟩, ⟨some 24, .v (.ia 1) [.tmp 22, .tmp 23], none⟩, ⟨some 25, .ld none (.tmp 24), none⟩, ⟨some 26, .v (.ib .neq) [.tmp 21, .tmp 25], none⟩] [⟨0, false, false⟩, ⟨0, false, false⟩, ⟨0, false, false⟩, ⟨1, false, false⟩, ⟨0, false, false⟩, ⟨0, false, false⟩, ⟨0, false, false⟩, ⟨1, false, false⟩, ⟨0, true, true⟩])
 (.cond (.tmp 26)
 (.seq (.dreg [
 ⟨some 27, .v .mv [.tmp 0], none⟩, ⟨some 28, .v .mv [.tmp 5], none⟩, ⟨some 29, .v (.ia 1) [.tmp 27, .tmp 28], none⟩, ⟨some 30, .ld none (.tmp 29), none⟩, ⟨some 31, .v .mv [.tmp 1], none⟩, ⟨some 32, .v .mv [.tmp 5], none⟩, ⟨some 33, .v (.ia 1) [.tmp 31, .tmp 32], none⟩, ⟨some 34, .ld none (.tmp 33), none⟩, ⟨some 35, .v (.ib .lss) [.tmp 30, .tmp 34], none⟩, ⟨some 4, .v .mv [.tmp 35], none⟩] [⟨0, false, false⟩, ⟨0, false, false⟩, ⟨0, false, false⟩, ⟨1, false, false⟩, ⟨0, false, false⟩, ⟨0, false, false⟩, ⟨0, false, false⟩, ⟨1, false, false⟩, ⟨0, true, true⟩, ⟨0, true, true⟩])
 .ret)
 .skip)))
 (.reg [
 ⟨some 16, .v .mv [.tmp 5], none⟩, ⟨some 17, .v (.ib .add) [.tmp 16, .const (.int .i64 1)], none⟩, ⟨some 5, .v .mv [.tmp 17], none⟩])))
def b40 : PCode :=
 (.seq (.reg [
 ⟨some 4, .v .mv [.const (.bool false)], none⟩])
 (.seq (.seq (.reg [
 ⟨some 5, .v .mv [.const (.int .i64 0)], none⟩])
 (.blk 0
 (.loop q40x0)))
 (.seq (.reg [
 ⟨some 36, .v .mv [.tmp 0], none⟩, ⟨some 37, .v .len [.tmp 36], none⟩, ⟨some 38, .v .mv [.tmp 1], none⟩, ⟨some 39, .v .len [.tmp 38], none⟩, ⟨some 40, .v (.ib .lss) [.tmp 37, .tmp 39], none⟩, ⟨some 4, .v .mv [.tmp 40], none⟩])
 .ret)))
def p40 : PFunc := ⟨41, [(4, none)], none, b40⟩
def b41 : PCode :=
 (.seq (.reg [
 ⟨some 1, .lbox 26 (.tmp 0), none⟩, ⟨some 2, .v .mv [.const (.slice none 0 0)], none⟩, ⟨some 3, .v .mv [.const (.int .i64 0)], none⟩])
 (.seq (.reg [
 ⟨some 7, .ld (some 3) (.tmp 1), none⟩, ⟨some 8, .call (.func 89) [.tmp 7, .const (.int .i64 5)], none⟩, ⟨some 6, .v .mv [.tmp 8], none⟩, ⟨some 9, .v (.ext 0) [.tmp 6], none⟩, ⟨some 10, .v (.ext 1) [.tmp 6], none⟩, ⟨some 4, .v .mv [.tmp 9], none⟩, ⟨some 5, .v .mv [.tmp 10], none⟩])
 (.seq (.seq (.reg [
 ⟨some 11, .v .mv [.tmp 5], none⟩, ⟨some 12, .v (.ib .neq) [.tmp 11, .const (.int .i64 0)], none⟩])
 (.cond (.tmp 12)
 (.seq (.reg [
 ⟨some 13, .v .mv [.tmp 5], none⟩, ⟨some 2, .v .mv [.const (.slice none 0 0)], none⟩, ⟨some 3, .v .mv [.tmp 13], none⟩])
 .ret)
 .skip))
 (.seq (.reg [
 ⟨some 14, .v .mv [.tmp 4], none⟩, ⟨some 15, .v (.ia 1) [.tmp 14, .const (.int .i64 0)], none⟩, ⟨some 16, .ld none (.tmp 15), none⟩, ⟨some 2, .v .mv [.tmp 16], none⟩, ⟨some 3, .v .mv [.const (.int .i64 0)], none⟩])
 .ret))))
def p41 : PFunc := ⟨17, [(2, none), (3, none)], none, b41⟩
def b42 : PCode :=
 (.seq (.reg [
 ⟨some 1, .lbox 26 (.tmp 0), none⟩, ⟨some 2, .v .mv [.const (.int .i64 0)], none⟩, ⟨some 3, .v .mv [.const (.int .i64 0)], none⟩])
 (.seq (.reg [
 ⟨some 7, .ld (some 3) (.tmp 1), none⟩, ⟨some 8, .call (.func 89) [.tmp 7, .const (.int .i64 0)], none⟩, ⟨some 6, .v .mv [.tmp 8], none⟩, ⟨some 9, .v (.ext 0) [.tmp 6], none⟩, ⟨some 10, .v (.ext 1) [.tmp 6], none⟩, ⟨some 4, .v .mv [.tmp 9], none⟩, ⟨some 5, .v .mv [.tmp 10], none⟩])
 (.seq (.reg [
 ⟨some 11, .v .mv [.tmp 4], none⟩, ⟨some 12, .v .len [.tmp 11], none⟩, ⟨some 13, .v .mv [.tmp 5], none⟩, ⟨some 2, .v .mv [.tmp 12], none⟩, ⟨some 3, .v .mv [.tmp 13], none⟩])
 .ret)))
def p42 : PFunc := ⟨14, [(2, none), (3, none)], none, b42⟩
def q45x0 : PCode :=
 (.seq (.reg [
 ⟨some 31, .v (.ib .lss) [.tmp 30, .tmp 29], none⟩])
 (.seq (.cond (.tmp 31)
 .skip
 (.exit 0))
 (.seq (.blk 1
 (.seq (.reg [
 ⟨some 32, .v .mv [.tmp 30], none⟩, ⟨some 9, .alloc 3 (.int .i64 0), none⟩, ⟨none, .st 1 (.tmp 9) (.tmp 32), none⟩])
 (.seq (.reg [
 ⟨some 33, .v .mv [.tmp 6], none⟩, ⟨some 34, .v (.mkf (.func 94) 0) [.tmp 3, .tmp 9], none⟩, ⟨some 35, .call (.func 93) [.tmp 33, .tmp 34], none⟩])
 (.cond (.tmp 35)
 (.reg [
 ⟨some 36, .v .mv [.tmp 8], none⟩, ⟨some 37, .ld none (.tmp 9), none⟩, ⟨some 38, .lbs 3 1 [(.int .i64 0)] 1 [(0, .tmp 37)], none⟩, ⟨some 39, .app 3 1 (.tmp 36) (.tmp 38), none⟩, ⟨some 8, .v .mv [.tmp 39], none⟩])
 .skip))))
 (.reg [
 ⟨some 40, .v (.ib .add) [.tmp 30, .const (.int .i64 1)], none⟩, ⟨some 30, .v .mv [.tmp 40], none⟩]))))
def b45 : PCode :=
 (.seq (.reg [
 ⟨some 2, .lbox 26 (.tmp 0), none⟩, ⟨some 3, .box 3 (.tmp 1), none⟩, ⟨some 4, .v .mv [.const (.slice none 0 0)], none⟩, ⟨some 5, .v .mv [.const (.int .i64 0)], none⟩])
 (.seq (.seq (.reg [
 ⟨some 10, .ld (some 3) (.tmp 2), none⟩, ⟨some 11, .call (.func 75) [.tmp 10], none⟩, ⟨some 12, .v .no [.tmp 11], none⟩, ⟨some 13, .v .mv [.tmp 12], none⟩, ⟨some 14, .ld (some 3) (.tmp 2), some (13, false)⟩,
 ⟨some 15, .ld none (.tmp 3), some (13, false)⟩,
 ⟨some 16, .call (.func 92) [.tmp 14, .tmp 15], some (13, false)⟩,
 ⟨some 17, .v .no [.tmp 16], some (13, false)⟩,
 ⟨some 18, .v .pick [.tmp 13, .const (.bool true), .tmp 17], none⟩])
 (.cond (.tmp 18)
 (.seq (.reg [
 ⟨some 4, .v .mv [.const (.slice none 0 0)], none⟩, ⟨some 5, .v .mv [.const (.int .i64 2)], none⟩])
 .ret)
 .skip))
 (.seq (.reg [
 ⟨some 20, .ld (some 3) (.tmp 2), none⟩, ⟨some 21, .call (.func 89) [.tmp 20, .const (.int .i64 7)], none⟩, ⟨some 19, .v .mv [.tmp 21], none⟩, ⟨some 22, .v (.ext 0) [.tmp 19], none⟩, ⟨some 23, .v (.ext 1) [.tmp 19], none⟩, ⟨some 6, .v .mv [.tmp 22], none⟩, ⟨some 7, .v .mv [.tmp 23], none⟩])
 (.seq (.seq (.reg [
 ⟨some 24, .v .mv [.tmp 7], none⟩, ⟨some 25, .v (.ib .neq) [.tmp 24, .const (.int .i64 0)], none⟩])
 (.cond (.tmp 25)
 (.seq (.reg [
 ⟨some 26, .v .mv [.tmp 7], none⟩, ⟨some 4, .v .mv [.const (.slice none 0 0)], none⟩, ⟨some 5, .v .mv [.tmp 26], none⟩])
 .ret)
 .skip))
 (.seq (.reg [
 ⟨some 8, .v .mv [.const (.slice none 0 0)], none⟩])
 (.seq (.seq (.reg [
 ⟨some 27, .v (.fa 0) [.tmp 2], none⟩, ⟨some 28, .ld none (.tmp 27), none⟩, ⟨some 29, .v .len [.tmp 28], none⟩, ⟨some 30, .v .mv [.const (.int .i64 0)], none⟩])
 (.blk 0
 (.loop q45x0)))
 (.seq (.reg [
 ⟨some 41, .v .mv [.tmp 8], none⟩, ⟨some 4, .v .mv [.tmp 41], none⟩, ⟨some 5, .v .mv [.const (.int .i64 0)], none⟩])
 .ret)))))))
def p45 : PFunc := ⟨42, [(4, none), (5, none)], none, b45⟩
def b46 : PCode :=
 (.seq (.reg [
 ⟨some 1, .lbox 26 (.tmp 0), none⟩, ⟨some 2, .v .mv [.const (.int .i64 0)], none⟩, ⟨some 3, .v .mv [.const (.int .i64 0)], none⟩])
 (.seq (.reg [
 ⟨some 7, .ld (some 3) (.tmp 1), none⟩, ⟨some 8, .call (.func 89) [.tmp 7, .const (.int .i64 5)], none⟩, ⟨some 6, .v .mv [.tmp 8], none⟩, ⟨some 9, .v (.ext 0) [.tmp 6], none⟩, ⟨some 10, .v (.ext 1) [.tmp 6], none⟩, ⟨some 4, .v .mv [.tmp 9], none⟩, ⟨some 5, .v .mv [.tmp 10], none⟩])
 (.seq (.seq (.reg [
 ⟨some 11, .v .mv [.tmp 5], none⟩, ⟨some 12, .v (.ib .neq) [.tmp 11, .const (.int .i64 0)], none⟩])
 (.cond (.tmp 12)
 (.seq (.reg [
 ⟨some 13, .v .mv [.tmp 5], none⟩, ⟨some 2, .v .mv [.const (.int .i64 0)], none⟩, ⟨some 3, .v .mv [.tmp 13], none⟩])
 .ret)
 .skip))
 (.seq (.reg [
 ⟨some 14, .v .mv [.tmp 4], none⟩, ⟨some 15, .call (.func 95) [.tmp 14, .func 96], none⟩, ⟨some 16, .v (.ia 1) [.tmp 15, .const (.int .i64 0)], none⟩, ⟨some 17, .ld none (.tmp 16), none⟩, ⟨some 2, .v .mv [.tmp 17], none⟩, ⟨some 3, .v .mv [.const (.int .i64 0)], none⟩])
 .ret))))
def p46 : PFunc := ⟨18, [(2, none), (3, none)], none, b46⟩
def b47 : PCode :=
 (.seq (.reg [
 ⟨some 1, .lbox 26 (.tmp 0), none⟩, ⟨some 2, .v .mv [.const (.int .i64 0)], none⟩, ⟨some 3, .v .mv [.const (.int .i64 0)], none⟩])
 (.seq (.reg [
 ⟨some 7, .ld (some 3) (.tmp 1), none⟩, ⟨some 8, .call (.func 89) [.tmp 7, .const (.int .i64 5)], none⟩, ⟨some 6, .v .mv [.tmp 8], none⟩, ⟨some 9, .v (.ext 0) [.tmp 6], none⟩, ⟨some 10, .v (.ext 1) [.tmp 6], none⟩, ⟨some 4, .v .mv [.tmp 9], none⟩, ⟨some 5, .v .mv [.tmp 10], none⟩])
 (.seq (.seq (.reg [
 ⟨some 11, .v .mv [.tmp 5], none⟩, ⟨some 12, .v (.ib .neq) [.tmp 11, .const (.int .i64 0)], none⟩])
 (.cond (.tmp 12)
 (.seq (.reg [
 ⟨some 13, .v .mv [.tmp 5], none⟩, ⟨some 2, .v .mv [.const (.int .i64 0)], none⟩, ⟨some 3, .v .mv [.tmp 13], none⟩])
 .ret)
 .skip))
 (.seq (.reg [
 ⟨some 14, .v .mv [.tmp 4], none⟩, ⟨some 15, .call (.func 95) [.tmp 14, .func 98], none⟩, ⟨some 16, .call (.func 97) [.tmp 15], none⟩, ⟨some 2, .v .mv [.tmp 16], none⟩, ⟨some 3, .v .mv [.const (.int .i64 0)], none⟩])
 .ret))))
def p47 : PFunc := ⟨17, [(2, none), (3, none)], none, b47⟩
def q51x0 : PCode :=
 (.seq (.seq (.reg [
 ⟨some 6, .v .mv [.tmp 5], none⟩, ⟨some 7, .v .mv [.tmp 0], none⟩, ⟨some 8, .v .len [.tmp 7], none⟩, ⟨some 9, .v (.ib .lss) [.tmp 6, .tmp 8], none⟩])
 (.cond (.tmp 9)
 .skip
 (.exit 0)))
 (.seq (.blk 1
 (.seq (.reg [
 ⟨some 12, .v .mv [.tmp 0], none⟩, ⟨some 13, .v .mv [.tmp 5], none⟩, ⟨some 14, .v (.ia 1) [.tmp 12, .tmp 13], none⟩, ⟨some 15, .ld none (.tmp 14), none⟩, ⟨some 16, .v .mv [.tmp 1], none⟩, ⟨some 17, .v (.ib .eql) [.tmp 15, .tmp 16], none⟩])
 (.cond (.tmp 17)
 (.seq (.reg [
 ⟨some 4, .v .mv [.const (.bool true)], none⟩])
 .ret)
 .skip)))
 (.reg [
 ⟨some 10, .v .mv [.tmp 5], none⟩, ⟨some 11, .v (.ib .add) [.tmp 10, .const (.int .i64 1)], none⟩, ⟨some 5, .v .mv [.tmp 11], none⟩])))
def b51 : PCode :=
 (.seq (.reg [
 ⟨some 4, .v .mv [.const (.bool false)], none⟩])
 (.seq (.seq (.reg [
 ⟨some 5, .v .mv [.const (.int .i64 0)], none⟩])
 (.blk 0
 (.loop q51x0)))
 (.seq (.reg [
 ⟨some 4, .v .mv [.const (.bool false)], none⟩])
 .ret)))
def p51 : PFunc := ⟨18, [(4, none)], none, b51⟩
def q52x0 : PCode :=
 (.seq (.reg [
 ⟨some 13, .v (.ib .lss) [.tmp 12, .tmp 11], none⟩])
 (.seq (.cond (.tmp 13)
 .skip
 (.exit 0))
 (.seq (.blk 1
 (.seq (.reg [
 ⟨some 14, .v .mv [.tmp 12], none⟩, ⟨some 4, .v .mv [.tmp 14], none⟩])
 (.seq (.reg [
 ⟨some 15, .ld (some 3) (.tmp 1), none⟩, ⟨some 5, .lalloc 26 (.agg #[(.slice none 0 0), (.slice none 0 0), (.slice none 0 0)]), none⟩, ⟨none, .st 3 (.tmp 5) (.tmp 15), none⟩])
 (.seq (.reg [
 ⟨some 16, .v (.fa 2) [.tmp 1], none⟩, ⟨some 17, .ld none (.tmp 16), none⟩, ⟨some 18, .v .mv [.tmp 4], none⟩, ⟨some 19, .v (.ib .add) [.tmp 18, .const (.int .i64 1)], none⟩, ⟨some 20, .v (.sl 2 false true) [.tmp 17, .tmp 19], none⟩, ⟨some 21, .v (.fa 2) [.tmp 5], none⟩, ⟨none, .st 1 (.tmp 21) (.tmp 20), none⟩])
 (.seq (.reg [
 ⟨some 22, .ld (some 3) (.tmp 5), none⟩, ⟨some 23, .call (.func 99) [.tmp 22], none⟩, ⟨some 24, .v .no [.tmp 23], none⟩])
 (.cond (.tmp 24)
 (.seq (.reg [
 ⟨some 25, .v .mv [.tmp 4], none⟩, ⟨some 2, .v .mv [.tmp 25], none⟩, ⟨some 3, .v .mv [.const (.int .i64 0)], none⟩])
 .ret)
 .skip))))))
 (.reg [
 ⟨some 26, .v (.ib .add) [.tmp 12, .const (.int .i64 1)], none⟩, ⟨some 12, .v .mv [.tmp 26], none⟩]))))
def b52 : PCode :=
 (.seq (.reg [
 ⟨some 1, .lbox 26 (.tmp 0), none⟩, ⟨some 2, .v .mv [.const (.int .i64 0)], none⟩, ⟨some 3, .v .mv [.const (.int .i64 0)], none⟩])
 (.seq (.seq (.reg [
 ⟨some 6, .ld (some 3) (.tmp 1), none⟩, ⟨some 7, .call (.func 75) [.tmp 6], none⟩, ⟨some 8, .v .no [.tmp 7], none⟩])
 (.cond (.tmp 8)
 (.seq (.reg [
 ⟨some 2, .v .mv [.const (.int .i64 0)], none⟩, ⟨some 3, .v .mv [.const (.int .i64 2)], none⟩])
 .ret)
 .skip))
 (.seq (.seq (.reg [
 ⟨some 9, .v (.fa 2) [.tmp 1], none⟩, ⟨some 10, .ld none (.tmp 9), none⟩, ⟨some 11, .v .len [.tmp 10], none⟩, ⟨some 12, .v .mv [.const (.int .i64 0)], none⟩])
 (.blk 0
 (.loop q52x0)))
 (.seq (.reg [
 ⟨some 2, .v .mv [.const (.int .i64 0)], none⟩, ⟨some 3, .v .mv [.const (.int .i64 5)], none⟩])
 .ret))))
def p52 : PFunc := ⟨27, [(2, none), (3, none)], none, b52⟩
def b56 : PCode :=
 (.seq (.reg [
 ⟨some 1, .box 26 (.tmp 0), none⟩, ⟨some 2, .v .mv [.const (.int .i64 0)], none⟩, ⟨some 3, .v .mv [.const (.int .i64 0)], none⟩])
 (.seq (.seq (.reg [
 ⟨some 5, .ld (some 3) (.tmp 1), none⟩, ⟨some 6, .call (.func 75) [.tmp 5], none⟩, ⟨some 7, .v .no [.tmp 6], none⟩])
 (.cond (.tmp 7)
 (.seq (.reg [
 ⟨some 2, .v .mv [.const (.int .i64 0)], none⟩, ⟨some 3, .v .mv [.const (.int .i64 2)], none⟩])
 .ret)
 .skip))
 (.seq (.reg [
 ⟨some 8, .v (.mkf (.func 101) 0) [.tmp 1], none⟩, ⟨some 9, .call (.func 100) [.const (.int .i64 289), .tmp 8], none⟩, ⟨some 4, .v .mv [.tmp 9], none⟩])
 (.seq (.seq (.reg [
 ⟨some 10, .v .mv [.tmp 4], none⟩, ⟨some 11, .v (.ib .gtr) [.tmp 10, .const (.int .i64 288)], none⟩])
 (.cond (.tmp 11)
 (.seq (.reg [
 ⟨some 2, .v .mv [.const (.int .i64 0)], none⟩, ⟨some 3, .v .mv [.const (.int .i64 5)], none⟩])
 .ret)
 .skip))
 (.seq (.reg [
 ⟨some 12, .v .mv [.tmp 4], none⟩, ⟨some 2, .v .mv [.tmp 12], none⟩, ⟨some 3, .v .mv [.const (.int .i64 0)], none⟩])
 .ret)))))
def p56 : PFunc := ⟨13, [(2, none), (3, none)], none, b56⟩
def q59x0 : PCode :=
 (.seq (.reg [
 ⟨some 40, .v (.ib .lss) [.tmp 39, .tmp 38], none⟩])
 (.seq (.cond (.tmp 40)
 .skip
 (.exit 2))
 (.seq (.blk 3
 (.seq (.reg [
 ⟨some 41, .v .mv [.tmp 39], none⟩, ⟨some 42, .v (.ia 1) [.tmp 37, .tmp 39], none⟩, ⟨some 43, .ld none (.tmp 42), none⟩, ⟨some 13, .v .mv [.tmp 41], none⟩, ⟨some 14, .v .mv [.tmp 43], none⟩])
 (.seq (.reg [
 ⟨some 44, .v .mv [.tmp 14], none⟩, ⟨some 45, .ld none (.tmp 4), none⟩, ⟨some 46, .v .mv [.tmp 13], none⟩, ⟨some 47, .v (.ia 1) [.tmp 45, .tmp 46], none⟩, ⟨some 48, .ld none (.tmp 47), none⟩, ⟨some 49, .v (.ib .neq) [.tmp 44, .tmp 48], none⟩])
 (.cond (.tmp 49)
 (.seq (.reg [
 ⟨some 50, .v (.fa 1) [.tmp 11], none⟩, ⟨some 51, .ld none (.tmp 50), none⟩, ⟨some 52, .v (.ib .add) [.tmp 51, .const (.int .i64 1)], none⟩, ⟨some 53, .v (.fa 1) [.tmp 11], none⟩, ⟨none, .st 1 (.tmp 53) (.tmp 52), none⟩])
 (.dreg [
 ⟨some 54, .v .mv [.tmp 12], none⟩, ⟨some 55, .v .mv [.tmp 54], none⟩, ⟨some 56, .ld none (.tmp 4), some (55, true)⟩,
 ⟨some 57, .v .mv [.tmp 13], some (55, true)⟩,
 ⟨some 58, .v (.ia 1) [.tmp 56, .tmp 57], some (55, true)⟩,
 ⟨some 59, .ld none (.tmp 58), some (55, true)⟩,
 ⟨some 60, .ld none (.tmp 5), some (55, true)⟩,
 ⟨some 61, .v (.ib .geq) [.tmp 59, .tmp 60], some (55, true)⟩,
 ⟨some 62, .v .pick [.tmp 55, .tmp 61, .const (.bool false)], none⟩, ⟨some 63, .v .mv [.tmp 62], none⟩, ⟨some 64, .v .mv [.tmp 14], some (63, true)⟩,
 ⟨some 65, .ld none (.tmp 5), some (63, true)⟩,
 ⟨some 66, .v (.ib .geq) [.tmp 64, .tmp 65], some (63, true)⟩,
 ⟨some 67, .v .pick [.tmp 63, .tmp 66, .const (.bool false)], none⟩, ⟨some 12, .v .mv [.tmp 67], none⟩] [⟨0, true, true⟩, ⟨0, true, true⟩, ⟨1, false, false⟩, ⟨0, false, false⟩, ⟨0, false, false⟩, ⟨1, false, false⟩, ⟨1, false, false⟩, ⟨0, true, true⟩, ⟨0, true, true⟩, ⟨0, true, true⟩, ⟨0, false, false⟩, ⟨1, true, false⟩, ⟨0, true, true⟩, ⟨0, true, true⟩, ⟨0, true, true⟩]))
 .skip))))
 (.reg [
 ⟨some 68, .v (.ib .add) [.tmp 39, .const (.int .i64 1)], none⟩, ⟨some 39, .v .mv [.tmp 68], none⟩]))))
def b59 : PCode :=
 (.seq (.reg [
 ⟨some 3, .lbox 26 (.tmp 0), none⟩, ⟨some 4, .box 23 (.tmp 1), none⟩, ⟨some 5, .box 3 (.tmp 2), none⟩, ⟨some 6, .v .mv [.const (.slice none 0 0)], none⟩, ⟨some 7, .v .mv [.const (.int .i64 0)], none⟩, ⟨some 8, .v .mv [.const (.int .i64 0)], none⟩])
 (.seq (.seq (.reg [
 ⟨some 16, .ld (some 3) (.tmp 3), none⟩, ⟨some 17, .call (.func 75) [.tmp 16], none⟩, ⟨some 18, .v .no [.tmp 17], none⟩, ⟨some 19, .v .mv [.tmp 18], none⟩, ⟨some 20, .ld (some 3) (.tmp 3), some (19, false)⟩,
 ⟨some 21, .ld none (.tmp 4), some (19, false)⟩,
 ⟨some 22, .call (.func 76) [.tmp 20, .tmp 21], some (19, false)⟩,
 ⟨some 23, .v .no [.tmp 22], some (19, false)⟩,
 ⟨some 24, .v .pick [.tmp 19, .const (.bool true), .tmp 23], none⟩, ⟨some 25, .v .mv [.tmp 24], none⟩, ⟨some 26, .ld (some 3) (.tmp 3), some (25, false)⟩,
 ⟨some 27, .ld none (.tmp 5), some (25, false)⟩,
 ⟨some 28, .call (.func 104) [.tmp 26, .tmp 27], some (25, false)⟩,
 ⟨some 29, .v .no [.tmp 28], some (25, false)⟩,
 ⟨some 30, .v .pick [.tmp 25, .const (.bool true), .tmp 29], none⟩])
 (.cond (.tmp 30)
 (.seq (.reg [
 ⟨some 6, .v .mv [.const (.slice none 0 0)], none⟩, ⟨some 7, .v .mv [.const (.int .i64 0)], none⟩, ⟨some 8, .v .mv [.const (.int .i64 2)], none⟩])
 .ret)
 .skip))
 (.seq (.reg [
 ⟨some 9, .alloc 116 (.slice none 0 0), none⟩])
 (.seq (.seq (.reg [
 ⟨some 31, .ld (some 3) (.tmp 3), none⟩, ⟨some 32, .call (.func 78) [.tmp 31], none⟩, ⟨some 33, .call (.func 105) [.tmp 32], none⟩])
 (.blk 0
 (.rf (.tmp 33) [34]
 (.reg [
 ⟨some 10, .v .mv [.tmp 34], none⟩])
 (.blk 1
 (.seq (.reg [
 ⟨some 35, .v .mv [.tmp 10], none⟩, ⟨some 36, .v (.bld [(.slice none 0 0), (.int .i64 0)] [(0, 1)]) [.tmp 35], none⟩, ⟨some 11, .lalloc 121 (.agg #[(.slice none 0 0), (.int .i64 0)]), none⟩, ⟨none, .st 2 (.tmp 11) (.tmp 36), none⟩])
 (.seq (.reg [
 ⟨some 12, .v .mv [.const (.bool true)], none⟩])
 (.seq (.seq (.reg [
 ⟨some 37, .v .mv [.tmp 10], none⟩, ⟨some 38, .v .len [.tmp 37], none⟩, ⟨some 39, .v .mv [.const (.int .i64 0)], none⟩])
 (.blk 2
 (.loop q59x0)))
 (.seq (.reg [
 ⟨some 69, .v .mv [.tmp 12], none⟩])
 (.cond (.tmp 69)
 (.reg [
 ⟨some 70, .ld none (.tmp 9), none⟩, ⟨some 71, .ld (some 2) (.tmp 11), none⟩, ⟨some 72, .lbs 121 2 [(.slice none 0 0), (.int .i64 0)] 1 [(0, .tmp 71)], none⟩, ⟨some 73, .app 121 2 (.tmp 70) (.tmp 72), none⟩, ⟨none, .st 1 (.tmp 9) (.tmp 73), none⟩])
 .skip)))))))))
 (.seq (.seq (.reg [
 ⟨some 74, .ld none (.tmp 9), none⟩, ⟨some 75, .v .len [.tmp 74], none⟩, ⟨some 76, .v (.ib .eql) [.tmp 75, .const (.int .i64 0)], none⟩])
 (.cond (.tmp 76)
 (.seq (.reg [
 ⟨some 6, .v .mv [.const (.slice none 0 0)], none⟩, ⟨some 7, .v .mv [.const (.int .i64 0)], none⟩, ⟨some 8, .v .mv [.const (.int .i64 5)], none⟩])
 .ret)
 .skip))
 (.seq (.reg [
 ⟨some 77, .ld none (.tmp 9), none⟩, ⟨some 78, .call (.func 106) [.tmp 77, .func 107], none⟩, ⟨some 15, .lalloc 121 (.agg #[(.slice none 0 0), (.int .i64 0)]), none⟩, ⟨none, .st 2 (.tmp 15) (.tmp 78), none⟩])
 (.seq (.dreg [
 ⟨some 79, .v (.fa 0) [.tmp 15], none⟩, ⟨some 80, .ld none (.tmp 79), none⟩, ⟨some 81, .v (.fa 1) [.tmp 15], none⟩, ⟨some 82, .ld none (.tmp 81), none⟩, ⟨some 6, .v .mv [.tmp 80], none⟩, ⟨some 7, .v .mv [.tmp 82], none⟩, ⟨some 8, .v .mv [.const (.int .i64 0)], none⟩] [⟨0, true, false⟩, ⟨17, true, false⟩, ⟨0, true, false⟩, ⟨17, true, false⟩, ⟨0, true, false⟩, ⟨0, true, true⟩, ⟨0, true, true⟩])
 .ret)))))))
def p59 : PFunc := ⟨83, [(6, none), (7, none), (8, none)], none, b59⟩
def b60 : PCode :=
 (.seq (.reg [
 ⟨some 2, .lbox 26 (.tmp 0), none⟩, ⟨some 4, .v .mv [.const (.bool false)], none⟩])
 (.seq (.reg [
 ⟨some 5, .v .mv [.tmp 1], none⟩, ⟨some 6, .v (.fa 0) [.tmp 2], none⟩, ⟨some 7, .ld none (.tmp 6), none⟩, ⟨some 8, .v .len [.tmp 7], none⟩, ⟨some 9, .v (.ib .sub) [.tmp 8, .const (.int .i64 1)], none⟩, ⟨some 10, .call (.func 81) [.tmp 5, .const (.int .i64 0), .tmp 9], none⟩, ⟨some 4, .v .mv [.tmp 10], none⟩])
 .ret))
def p60 : PFunc := ⟨11, [(4, none)], none, b60⟩
def b65 : PCode :=
 (.seq (.reg [
 ⟨some 1, .lbox 26 (.tmp 0), none⟩, ⟨some 2, .v .mv [.const (.int .i64 0)], none⟩])
 (.seq (.seq (.reg [
 ⟨some 3, .ld (some 3) (.tmp 1), none⟩, ⟨some 4, .call (.func 75) [.tmp 3], none⟩, ⟨some 5, .v .no [.tmp 4], none⟩])
 (.cond (.tmp 5)
 (.seq (.reg [
 ⟨some 2, .v .mv [.const (.int .i64 2)], none⟩])
 .ret)
 .skip))
 (.seq (.reg [
 ⟨some 2, .v .mv [.const (.int .i64 0)], none⟩])
 .ret)))
def p65 : PFunc := ⟨6, [(2, none)], none, b65⟩
def q66x0 : PCode :=
 (.seq (.seq (.reg [
 ⟨some 9, .v .mv [.tmp 5], none⟩, ⟨some 10, .v .mv [.tmp 1], none⟩, ⟨some 11, .v .len [.tmp 10], none⟩, ⟨some 12, .v (.ib .lss) [.tmp 9, .tmp 11], none⟩])
 (.cond (.tmp 12)
 .skip
 (.exit 0)))
 (.seq (.blk 1
 (.seq (.dreg [
 ⟨some 15, .ld (some 3) (.tmp 2), none⟩, ⟨some 16, .v .mv [.tmp 1], none⟩, ⟨some 17, .v .mv [.tmp 5], none⟩, ⟨some 18, .ld (some 3) (.tmp 2), none⟩, ⟨some 19, .call (.func 39) [.tmp 18], none⟩, ⟨some 20, .call (.func 83) [.tmp 15, .tmp 16, .tmp 17, .tmp 19], none⟩, ⟨some 21, .v .mv [.tmp 20], none⟩, ⟨some 22, .ld (some 3) (.tmp 2), some (21, false)⟩,
 ⟨some 23, .v .mv [.tmp 1], some (21, false)⟩,
 ⟨some 24, .v .mv [.tmp 5], some (21, false)⟩,
 ⟨some 25, .ld (some 3) (.tmp 2), some (21, false)⟩,
 ⟨some 26, .call (.func 38) [.tmp 25], some (21, false)⟩,
 ⟨some 27, .call (.func 84) [.tmp 22, .tmp 23, .tmp 24, .tmp 26], some (21, false)⟩,
 ⟨some 28, .v .pick [.tmp 21, .const (.bool true), .tmp 27], none⟩] [⟨4, false, false⟩, ⟨0, false, false⟩, ⟨0, false, false⟩, ⟨4, true, false⟩, ⟨1, true, false⟩, ⟨1, true, true⟩, ⟨0, true, true⟩, ⟨4, false, false⟩, ⟨0, false, false⟩, ⟨0, false, false⟩, ⟨4, true, false⟩, ⟨1, true, false⟩, ⟨1, true, true⟩, ⟨0, true, true⟩])
 (.cond (.tmp 28)
 (.seq (.reg [
 ⟨some 4, .v .mv [.const (.int .i64 1)], none⟩])
 .ret)
 .skip)))
 (.reg [
 ⟨some 13, .v .mv [.tmp 5], none⟩, ⟨some 14, .v (.ib .add) [.tmp 13, .const (.int .i64 1)], none⟩, ⟨some 5, .v .mv [.tmp 14], none⟩])))
def b66 : PCode :=
 (.seq (.reg [
 ⟨some 2, .lbox 26 (.tmp 0), none⟩, ⟨some 4, .v .mv [.const (.int .i64 0)], none⟩])
 (.seq (.seq (.reg [
 ⟨some 6, .ld (some 3) (.tmp 2), none⟩, ⟨some 7, .v .mv [.tmp 1], none⟩, ⟨some 8, .call (.func 91) [.tmp 6, .tmp 7], none⟩])
 (.cond (.tmp 8)
 (.seq (.reg [
 ⟨some 4, .v .mv [.const (.int .i64 3)], none⟩])
 .ret)
 .skip))
 (.seq (.seq (.reg [
 ⟨some 5, .v .mv [.const (.int .i64 0)], none⟩])
 (.blk 0
 (.loop q66x0)))
 (.seq (.reg [
 ⟨some 4, .v .mv [.const (.int .i64 2)], none⟩])
 .ret))))
def p66 : PFunc := ⟨29, [(4, none)], none, b66⟩
def b68 : PCode :=
 (.seq (.reg [
 ⟨some 1, .box 9 (.tmp 0), none⟩, ⟨some 2, .lalloc 26 (.agg #[(.slice none 0 0), (.slice none 0 0), (.slice none 0 0)]), none⟩, ⟨some 3, .v .mv [.const (.int .i64 0)], none⟩])
 (.seq (.seq (.reg [
 ⟨some 7, .ld none (.tmp 1), none⟩, ⟨some 8, .v .slen [.tmp 7], none⟩, ⟨some 9, .v (.ib .gtr) [.tmp 8, .const (.int .i64 260)], none⟩])
 (.cond (.tmp 9)
 (.seq (.reg [
 ⟨some 10, .v (.bld [(.slice none 0 0), (.slice none 0 0), (.slice none 0 0)] []) [], none⟩, ⟨none, .st 3 (.tmp 2) (.tmp 10), none⟩, ⟨some 3, .v .mv [.const (.int .i64 3)], none⟩])
 .ret)
 .skip))
 (.seq (.reg [
 ⟨some 4, .alloc 26 (.agg #[(.slice none 0 0), (.slice none 0 0), (.slice none 0 0)]), none⟩])
 (.seq (.seq (.reg [
 ⟨some 12, .v (.mkf (.func 110) 0) [.tmp 1, .tmp 4], none⟩, ⟨some 13, .call (.func 109) [.tmp 12], none⟩, ⟨some 11, .v .mv [.tmp 13], none⟩, ⟨some 14, .v (.ext 0) [.tmp 11], none⟩, ⟨some 15, .v (.ext 1) [.tmp 11], none⟩, ⟨some 5, .lalloc 100 (.agg #[(.int .i64 0), (.int .i64 0)]), none⟩, ⟨none, .st 2 (.tmp 5) (.tmp 14), none⟩, ⟨some 6, .v .mv [.tmp 15], none⟩])
 (.seq (.reg [
 ⟨some 16, .v .mv [.tmp 6], none⟩, ⟨some 17, .v (.ib .neq) [.tmp 16, .const (.int .i64 0)], none⟩])
 (.cond (.tmp 17)
 (.seq (.reg [
 ⟨some 18, .v (.bld [(.slice none 0 0), (.slice none 0 0), (.slice none 0 0)] []) [], none⟩, ⟨some 19, .v .mv [.tmp 6], none⟩, ⟨none, .st 3 (.tmp 2) (.tmp 18), none⟩, ⟨some 3, .v .mv [.tmp 19], none⟩])
 .ret)
 .skip)))
 (.seq (.seq (.reg [
 ⟨some 20, .ld (some 3) (.tmp 4), none⟩, ⟨some 21, .call (.func 75) [.tmp 20], none⟩, ⟨some 22, .v .no [.tmp 21], none⟩])
 (.cond (.tmp 22)
 (.seq (.reg [
 ⟨some 23, .v (.bld [(.slice none 0 0), (.slice none 0 0), (.slice none 0 0)] []) [], none⟩, ⟨none, .st 3 (.tmp 2) (.tmp 23), none⟩, ⟨some 3, .v .mv [.const (.int .i64 2)], none⟩])
 .ret)
 .skip))
 (.seq (.reg [
 ⟨some 24, .ld (some 3) (.tmp 4), none⟩, ⟨none, .st 3 (.tmp 2) (.tmp 24), none⟩, ⟨some 3, .v .mv [.const (.int .i64 0)], none⟩])
 .ret))))))
def p68 : PFunc := ⟨25, [(2, some (some 3)), (3, none)], none, b68⟩
def q69x0 : PCode :=
 (.seq (.seq (.reg [
 ⟨some 37, .v .mv [.tmp 6], none⟩, ⟨some 38, .v (.fa 2) [.tmp 1], none⟩, ⟨some 39, .ld none (.tmp 38), none⟩, ⟨some 40, .v .len [.tmp 39], none⟩, ⟨some 41, .v (.ib .lss) [.tmp 37, .tmp 40], none⟩])
 (.cond (.tmp 41)
 .skip
 (.exit 2)))
 (.seq (.blk 3
 (.dreg [
 ⟨some 44, .v .mv [.tmp 3], none⟩, ⟨some 45, .v (.fa 2) [.tmp 1], none⟩, ⟨some 46, .ld none (.tmp 45), none⟩, ⟨some 47, .v .mv [.tmp 6], none⟩, ⟨some 48, .v (.ia 2) [.tmp 46, .tmp 47], none⟩, ⟨some 49, .v (.fa 0) [.tmp 48], none⟩, ⟨some 50, .ld none (.tmp 49), none⟩, ⟨some 51, .v (.fa 2) [.tmp 1], none⟩, ⟨some 52, .ld none (.tmp 51), none⟩, ⟨some 53, .v .mv [.tmp 6], none⟩, ⟨some 54, .v (.ia 2) [.tmp 52, .tmp 53], none⟩, ⟨some 55, .v (.fa 1) [.tmp 54], none⟩, ⟨some 56, .ld none (.tmp 55), none⟩, ⟨some 57, .bs 3 1 [(.int .i64 0)] 2 [(0, .tmp 50), (1, .tmp 56)], none⟩, ⟨some 58, .call (.func 112) [.const (.string ⟨#[99, 111, 97, 116]⟩), .tmp 57], none⟩, ⟨some 59, .lbs 9 1 [(.string ⟨#[]⟩)] 1 [(0, .tmp 58)], none⟩, ⟨some 60, .app 9 1 (.tmp 44) (.tmp 59), none⟩, ⟨some 3, .v .mv [.tmp 60], none⟩] [⟨0, false, false⟩, ⟨0, false, false⟩, ⟨3, false, false⟩, ⟨0, false, false⟩, ⟨0, false, false⟩, ⟨0, false, false⟩, ⟨1, false, false⟩, ⟨0, false, false⟩, ⟨3, false, false⟩, ⟨0, false, false⟩, ⟨0, false, false⟩, ⟨0, false, false⟩, ⟨1, false, false⟩, ⟨1, true, false⟩, ⟨1, true, false⟩, ⟨61, true, false⟩, ⟨1, true, true⟩, ⟨0, true, true⟩]))
 (.reg [
 ⟨some 42, .v .mv [.tmp 6], none⟩, ⟨some 43, .v (.ib .add) [.tmp 42, .const (.int .i64 1)], none⟩, ⟨some 6, .v .mv [.tmp 43], none⟩])))
def q69x1 : PCode :=
 (.seq (.seq (.reg [
 ⟨some 7, .v .mv [.tmp 4], none⟩, ⟨some 8, .v (.fa 0) [.tmp 1], none⟩, ⟨some 9, .ld none (.tmp 8), none⟩, ⟨some 10, .v .len [.tmp 9], none⟩, ⟨some 11, .v (.ib .lss) [.tmp 7, .tmp 10], none⟩])
 (.cond (.tmp 11)
 .skip
 (.exit 0)))
 (.seq (.blk 1
 (.seq (.reg [
 ⟨some 5, .v .mv [.const (.string ⟨#[32, 110, 111]⟩)], none⟩])
 (.seq (.seq (.reg [
 ⟨some 14, .v (.fa 1) [.tmp 1], none⟩, ⟨some 15, .ld none (.tmp 14), none⟩, ⟨some 16, .v .mv [.tmp 4], none⟩, ⟨some 17, .call (.func 51) [.tmp 15, .tmp 16], none⟩])
 (.cond (.tmp 17)
 (.reg [
 ⟨some 5, .v .mv [.const (.string ⟨#[32, 121, 101, 115]⟩)], none⟩])
 .skip))
 (.dreg [
 ⟨some 18, .v .mv [.tmp 3], none⟩, ⟨some 19, .v (.fa 0) [.tmp 1], none⟩, ⟨some 20, .ld none (.tmp 19), none⟩, ⟨some 21, .v .mv [.tmp 4], none⟩, ⟨some 22, .v (.ia 2) [.tmp 20, .tmp 21], none⟩, ⟨some 23, .v (.fa 0) [.tmp 22], none⟩, ⟨some 24, .ld none (.tmp 23), none⟩, ⟨some 25, .v (.fa 0) [.tmp 1], none⟩, ⟨some 26, .ld none (.tmp 25), none⟩, ⟨some 27, .v .mv [.tmp 4], none⟩, ⟨some 28, .v (.ia 2) [.tmp 26, .tmp 27], none⟩, ⟨some 29, .v (.fa 1) [.tmp 28], none⟩, ⟨some 30, .ld none (.tmp 29), none⟩, ⟨some 31, .bs 3 1 [(.int .i64 0)] 2 [(0, .tmp 24), (1, .tmp 30)], none⟩, ⟨some 32, .call (.func 112) [.const (.string ⟨#[100, 97, 121]⟩), .tmp 31], none⟩, ⟨some 33, .v .mv [.tmp 5], none⟩, ⟨some 34, .v (.sb .add) [.tmp 32, .tmp 33], none⟩, ⟨some 35, .lbs 9 1 [(.string ⟨#[]⟩)] 1 [(0, .tmp 34)], none⟩, ⟨some 36, .app 9 1 (.tmp 18) (.tmp 35), none⟩, ⟨some 3, .v .mv [.tmp 36], none⟩] [⟨0, false, false⟩, ⟨0, false, false⟩, ⟨3, false, false⟩, ⟨0, false, false⟩, ⟨0, false, false⟩, ⟨0, false, false⟩, ⟨1, false, false⟩, ⟨0, false, false⟩, ⟨3, false, false⟩, ⟨0, false, false⟩, ⟨0, false, false⟩, ⟨0, false, false⟩, ⟨1, false, false⟩, ⟨1, true, false⟩, ⟨1, true, false⟩, ⟨0, false, false⟩, ⟨0, true, false⟩, ⟨37, true, false⟩, ⟨1, true, true⟩, ⟨0, true, true⟩]))))
 (.reg [
 ⟨some 12, .v .mv [.tmp 4], none⟩, ⟨some 13, .v (.ib .add) [.tmp 12, .const (.int .i64 1)], none⟩, ⟨some 4, .v .mv [.tmp 13], none⟩])))
def b69 : PCode :=
 (.seq (.reg [
 ⟨some 1, .lbox 26 (.tmp 0), none⟩, ⟨some 2, .v .mv [.const (.string ⟨#[]⟩)], none⟩])
 (.seq (.reg [
 ⟨some 3, .v .mv [.const (.slice none 0 0)], none⟩])
 (.seq (.seq (.reg [
 ⟨some 4, .v .mv [.const (.int .i64 0)], none⟩])
 (.blk 0
 (.loop q69x1)))
 (.seq (.seq (.reg [
 ⟨some 6, .v .mv [.const (.int .i64 0)], none⟩])
 (.blk 2
 (.loop q69x0)))
 (.seq (.reg [
 ⟨some 61, .v .mv [.tmp 3], none⟩, ⟨some 62, .call (.func 113) [.tmp 61, .const (.int .i64 181)], none⟩, ⟨some 2, .v .mv [.tmp 62], none⟩])
 .ret)))))
def p69 : PFunc := ⟨63, [(2, none)], none, b69⟩
def b72 : PCode :=
 (.seq (.reg [
 ⟨some 0, .lalloc 26 (.agg #[(.slice none 0 0), (.slice none 0 0), (.slice none 0 0)]), none⟩])
 (.seq (.reg [
 ⟨some 1, .call (.func 116) [.const (.int .i64 6), .const (.int .i64 8)], none⟩, ⟨some 2, .call (.func 116) [.const (.int .i64 4), .const (.int .i64 6)], none⟩, ⟨some 3, .call (.func 116) [.const (.int .i64 8), .const (.int .i64 10)], none⟩, ⟨some 4, .call (.func 116) [.const (.int .i64 2), .const (.int .i64 4)], none⟩, ⟨some 5, .call (.func 116) [.const (.int .i64 6), .const (.int .i64 6)], none⟩, ⟨some 6, .call (.func 116) [.const (.int .i64 5), .const (.int .i64 9)], none⟩, ⟨some 7, .call (.func 116) [.const (.int .i64 8), .const (.int .i64 12)], none⟩, ⟨some 8, .call (.func 116) [.const (.int .i64 4), .const (.int .i64 4)], none⟩, ⟨some 9, .bs 75 2 [(.int .i64 0), (.int .i64 0)] 8 [(0, .tmp 1), (1, .tmp 2), (2, .tmp 3), (3, .tmp 4), (4, .tmp 5), (5, .tmp 6), (6, .tmp 7), (7, .tmp 8)], none⟩, ⟨some 10, .bs 3 1 [(.int .i64 0)] 5 [(0, .const (.int .i64 0)), (1, .const (.int .i64 2)), (2, .const (.int .i64 3)), (3, .const (.int .i64 5)), (4, .const (.int .i64 6))], none⟩, ⟨some 11, .v (.bld [(.int .i64 0), (.int .i64 0)] [(0, 1), (1, 1)]) [.const (.int .i64 9), .const (.int .i64 20)], none⟩, ⟨some 12, .v (.bld [(.int .i64 0), (.int .i64 0)] [(0, 1), (1, 1)]) [.const (.int .i64 10), .const (.int .i64 20)], none⟩, ⟨some 13, .v (.bld [(.int .i64 0), (.int .i64 0)] [(0, 1), (1, 1)]) [.const (.int .i64 8), .const (.int .i64 30)], none⟩, ⟨some 14, .bs 51 2 [(.int .i64 0), (.int .i64 0)] 3 [(0, .tmp 11), (1, .tmp 12), (2, .tmp 13)], none⟩, ⟨some 15, .v (.bld [(.slice none 0 0), (.slice none 0 0), (.slice none 0 0)] [(0, 1), (1, 1), (2, 1)]) [.tmp 9, .tmp 10, .tmp 14], none⟩, ⟨none, .st 3 (.tmp 0) (.tmp 15), none⟩])
 .ret))
def p72 : PFunc := ⟨16, [(0, some (some 3))], none, b72⟩
def b73 : PCode :=
 (.seq (.reg [
 ⟨some 0, .lalloc 26 (.agg #[(.slice none 0 0), (.slice none 0 0), (.slice none 0 0)]), none⟩])
 (.seq (.reg [
 ⟨some 2, .call (.func 72) [], none⟩, ⟨some 1, .lalloc 26 (.agg #[(.slice none 0 0), (.slice none 0 0), (.slice none 0 0)]), none⟩, ⟨none, .st 3 (.tmp 1) (.tmp 2), none⟩])
 (.seq (.reg [
 ⟨some 3, .bs 3 1 [(.int .i64 0)] 8 [(0, .const (.int .i64 0)), (1, .const (.int .i64 1)), (2, .const (.int .i64 2)), (3, .const (.int .i64 3)), (4, .const (.int .i64 4)), (5, .const (.int .i64 5)), (6, .const (.int .i64 6)), (7, .const (.int .i64 7))], none⟩, ⟨some 4, .v (.fa 1) [.tmp 1], none⟩, ⟨none, .st 1 (.tmp 4) (.tmp 3), none⟩])
 (.seq (.reg [
 ⟨some 5, .ld (some 3) (.tmp 1), none⟩, ⟨none, .st 3 (.tmp 0) (.tmp 5), none⟩])
 .ret))))
def p73 : PFunc := ⟨6, [(0, some (some 3))], none, b73⟩
def b74 : PCode :=
 (.seq (.reg [
 ⟨some 0, .lalloc 26 (.agg #[(.slice none 0 0), (.slice none 0 0), (.slice none 0 0)]), none⟩])
 (.seq (.reg [
 ⟨some 2, .call (.func 72) [], none⟩, ⟨some 1, .lalloc 26 (.agg #[(.slice none 0 0), (.slice none 0 0), (.slice none 0 0)]), none⟩, ⟨none, .st 3 (.tmp 1) (.tmp 2), none⟩])
 (.seq (.reg [
 ⟨some 3, .v (.fa 2) [.tmp 1], none⟩, ⟨some 4, .ld none (.tmp 3), none⟩, ⟨some 5, .v (.ia 2) [.tmp 4, .const (.int .i64 1)], none⟩, ⟨some 6, .v (.fa 1) [.tmp 5], none⟩, ⟨none, .st 1 (.tmp 6) (.const (.int .i64 18)), none⟩])
 (.seq (.reg [
 ⟨some 7, .ld (some 3) (.tmp 1), none⟩, ⟨none, .st 3 (.tmp 0) (.tmp 7), none⟩])
 .ret))))
def p74 : PFunc := ⟨8, [(0, some (some 3))], none, b74⟩
def b75 : PCode :=
 (.seq (.reg [
 ⟨some 1, .box 26 (.tmp 0), none⟩, ⟨some 2, .v .mv [.const (.bool false)], none⟩])
 (.seq (.reg [
 ⟨some 3, .v .mv [.func 117], none⟩])
 (.seq (.reg [
 ⟨some 4, .v .mv [.func 119], none⟩])
 (.seq (.reg [
 ⟨some 5, .v (.fa 0) [.tmp 1], none⟩, ⟨some 6, .ld none (.tmp 5), none⟩, ⟨some 7, .v .len [.tmp 6], none⟩, ⟨some 8, .call (.func 118) [.tmp 7, .const (.int .i64 1), .const (.int .i64 12)], none⟩, ⟨some 9, .v .mv [.tmp 8], none⟩, ⟨some 10, .v (.fa 2) [.tmp 1], some (9, true)⟩,
 ⟨some 11, .ld none (.tmp 10), some (9, true)⟩,
 ⟨some 12, .v .len [.tmp 11], some (9, true)⟩,
 ⟨some 13, .call (.func 118) [.tmp 12, .const (.int .i64 1), .const (.int .i64 5)], some (9, true)⟩,
 ⟨some 14, .v .pick [.tmp 9, .tmp 13, .const (.bool false)], none⟩, ⟨some 15, .v .mv [.tmp 14], none⟩, ⟨some 16, .v (.fa 0) [.tmp 1], some (15, true)⟩,
 ⟨some 17, .ld none (.tmp 16), some (15, true)⟩,
 ⟨some 18, .v .mv [.tmp 3], some (15, true)⟩,
 ⟨some 19, .call (.func 120) [.tmp 17, .tmp 18], some (15, true)⟩,
 ⟨some 20, .v .no [.tmp 19], some (15, true)⟩,
 ⟨some 21, .v .pick [.tmp 15, .tmp 20, .const (.bool false)], none⟩, ⟨some 22, .v .mv [.tmp 21], none⟩, ⟨some 23, .v (.fa 2) [.tmp 1], some (22, true)⟩,
 ⟨some 24, .ld none (.tmp 23), some (22, true)⟩,
 ⟨some 25, .v .mv [.tmp 4], some (22, true)⟩,
 ⟨some 26, .call (.func 121) [.tmp 24, .tmp 25], some (22, true)⟩,
 ⟨some 27, .v .no [.tmp 26], some (22, true)⟩,
 ⟨some 28, .v .pick [.tmp 22, .tmp 27, .const (.bool false)], none⟩, ⟨some 29, .v .mv [.tmp 28], none⟩, ⟨some 30, .v (.fa 1) [.tmp 1], some (29, true)⟩,
 ⟨some 31, .ld none (.tmp 30), some (29, true)⟩,
 ⟨some 32, .call (.func 122) [.tmp 31], some (29, true)⟩,
 ⟨some 33, .v .pick [.tmp 29, .tmp 32, .const (.bool false)], none⟩, ⟨some 34, .v .mv [.tmp 33], none⟩, ⟨some 35, .v (.fa 1) [.tmp 1], some (34, true)⟩,
 ⟨some 36, .ld none (.tmp 35), some (34, true)⟩,
 ⟨some 37, .v (.mkf (.func 124) 0) [.tmp 1], some (34, true)⟩,
 ⟨some 38, .call (.func 123) [.tmp 36, .tmp 37], some (34, true)⟩,
 ⟨some 39, .v .no [.tmp 38], some (34, true)⟩,
 ⟨some 40, .v .pick [.tmp 34, .tmp 39, .const (.bool false)], none⟩, ⟨some 2, .v .mv [.tmp 40], none⟩])
 .ret))))
def p75 : PFunc := ⟨41, [(2, none)], none, b75⟩
def b76 : PCode :=
 (.seq (.reg [
 ⟨some 2, .box 26 (.tmp 0), none⟩, ⟨some 4, .v .mv [.const (.bool false)], none⟩])
 (.seq (.reg [
 ⟨some 5, .v .mv [.tmp 1], none⟩, ⟨some 6, .v .len [.tmp 5], none⟩, ⟨some 7, .v (.fa 2) [.tmp 2], none⟩, ⟨some 8, .ld none (.tmp 7), none⟩, ⟨some 9, .v .len [.tmp 8], none⟩, ⟨some 10, .v (.ib .eql) [.tmp 6, .tmp 9], none⟩, ⟨some 11, .v .mv [.tmp 10], none⟩, ⟨some 12, .v .mv [.tmp 1], some (11, true)⟩,
 ⟨some 13, .call (.func 122) [.tmp 12], some (11, true)⟩,
 ⟨some 14, .v .pick [.tmp 11, .tmp 13, .const (.bool false)], none⟩, ⟨some 15, .v .mv [.tmp 14], none⟩, ⟨some 16, .v .mv [.tmp 1], some (15, true)⟩,
 ⟨some 17, .v (.mkf (.func 125) 0) [.tmp 2], some (15, true)⟩,
 ⟨some 18, .call (.func 123) [.tmp 16, .tmp 17], some (15, true)⟩,
 ⟨some 19, .v .no [.tmp 18], some (15, true)⟩,
 ⟨some 20, .v .pick [.tmp 15, .tmp 19, .const (.bool false)], none⟩, ⟨some 4, .v .mv [.tmp 20], none⟩])
 .ret))
def p76 : PFunc := ⟨21, [(4, none)], none, b76⟩
def q77x0 : PCode :=
 (.seq (.reg [
 ⟨some 10, .v (.ib .lss) [.tmp 9, .tmp 8], none⟩])
 (.seq (.cond (.tmp 10)
 .skip
 (.exit 0))
 (.seq (.blk 1
 (.seq (.reg [
 ⟨some 11, .v .mv [.tmp 9], none⟩, ⟨some 12, .v (.ia 1) [.tmp 7, .tmp 9], none⟩, ⟨some 13, .ld none (.tmp 12), none⟩, ⟨some 5, .v .mv [.tmp 11], none⟩, ⟨some 6, .v .mv [.tmp 13], none⟩])
 (.seq (.dreg [
 ⟨some 14, .ld (some 3) (.tmp 2), none⟩, ⟨some 15, .v .mv [.tmp 5], none⟩, ⟨some 16, .call (.func 104) [.tmp 14, .tmp 15], none⟩, ⟨some 17, .v .no [.tmp 16], none⟩, ⟨some 18, .v .mv [.tmp 17], none⟩, ⟨some 19, .v .mv [.tmp 6], some (18, false)⟩,
 ⟨some 20, .v (.fa 0) [.tmp 2], some (18, false)⟩,
 ⟨some 21, .ld none (.tmp 20), some (18, false)⟩,
 ⟨some 22, .v .mv [.tmp 5], some (18, false)⟩,
 ⟨some 23, .v (.ia 2) [.tmp 21, .tmp 22], some (18, false)⟩,
 ⟨some 24, .v (.fa 0) [.tmp 23], some (18, false)⟩,
 ⟨some 25, .ld none (.tmp 24), some (18, false)⟩,
 ⟨some 26, .v (.fa 0) [.tmp 2], some (18, false)⟩,
 ⟨some 27, .ld none (.tmp 26), some (18, false)⟩,
 ⟨some 28, .v .mv [.tmp 5], some (18, false)⟩,
 ⟨some 29, .v (.ia 2) [.tmp 27, .tmp 28], some (18, false)⟩,
 ⟨some 30, .v (.fa 1) [.tmp 29], some (18, false)⟩,
 ⟨some 31, .ld none (.tmp 30), some (18, false)⟩,
 ⟨some 32, .call (.func 118) [.tmp 19, .tmp 25, .tmp 31], some (18, false)⟩,
 ⟨some 33, .v .no [.tmp 32], some (18, false)⟩,
 ⟨some 34, .v .pick [.tmp 18, .const (.bool true), .tmp 33], none⟩] [⟨4, true, false⟩, ⟨0, true, false⟩, ⟨1, true, true⟩, ⟨0, true, true⟩, ⟨0, true, true⟩, ⟨0, false, false⟩, ⟨0, false, false⟩, ⟨4, false, false⟩, ⟨0, false, false⟩, ⟨0, false, false⟩, ⟨0, false, false⟩, ⟨1, false, false⟩, ⟨0, false, false⟩, ⟨4, false, false⟩, ⟨0, false, false⟩, ⟨0, false, false⟩, ⟨0, false, false⟩, ⟨1, false, false⟩, ⟨1, true, true⟩, ⟨0, true, true⟩, ⟨0, true, true⟩])
 (.cond (.tmp 34)
 (.seq (.reg [
 ⟨some 4, .v .mv [.const (.bool false)], none⟩])
 .ret)
 .skip))))
 (.reg [
 ⟨some 35, .v (.ib .add) [.tmp 9, .const (.int .i64 1)], none⟩, ⟨some 9, .v .mv [.tmp 35], none⟩]))))
def b77 : PCode :=
 (.seq (.reg [
 ⟨some 2, .lbox 26 (.tmp 0), none⟩, ⟨some 4, .v .mv [.const (.bool false)], none⟩])
 (.seq (.seq (.reg [
 ⟨some 7, .v .mv [.tmp 1], none⟩, ⟨some 8, .v .len [.tmp 7], none⟩, ⟨some 9, .v .mv [.const (.int .i64 0)], none⟩])
 (.blk 0
 (.loop q77x0)))
 (.seq (.reg [
 ⟨some 36, .v .mv [.tmp 1], none⟩, ⟨some 37, .v .len [.tmp 36], none⟩, ⟨some 38, .v (.fa 0) [.tmp 2], none⟩, ⟨some 39, .ld none (.tmp 38), none⟩, ⟨some 40, .v .len [.tmp 39], none⟩, ⟨some 41, .v (.ib .eql) [.tmp 37, .tmp 40], none⟩, ⟨some 4, .v .mv [.tmp 41], none⟩])
 .ret)))
def p77 : PFunc := ⟨42, [(4, none)], none, b77⟩
def q78x0 : PCode :=
 (.seq (.reg [
 ⟨some 14, .v (.ib .lss) [.tmp 13, .tmp 12], none⟩])
 (.seq (.cond (.tmp 14)
 .skip
 (.exit 0))
 (.seq (.blk 1
 (.seq (.reg [
 ⟨some 15, .v .mv [.tmp 13], none⟩, ⟨some 16, .v (.ia 2) [.tmp 11, .tmp 13], none⟩, ⟨some 17, .ld (some 2) (.tmp 16), none⟩, ⟨some 5, .lalloc 75 (.agg #[(.int .i64 0), (.int .i64 0)]), none⟩, ⟨some 4, .v .mv [.tmp 15], none⟩, ⟨none, .st 2 (.tmp 5) (.tmp 17), none⟩])
 (.dreg [
 ⟨some 18, .v (.fa 3) [.tmp 3], none⟩, ⟨some 19, .ld none (.tmp 18), none⟩, ⟨some 20, .v (.fa 3) [.tmp 3], none⟩, ⟨some 21, .ld none (.tmp 20), none⟩, ⟨some 22, .v .mv [.tmp 4], none⟩, ⟨some 23, .v (.ia 1) [.tmp 21, .tmp 22], none⟩, ⟨some 24, .ld none (.tmp 23), none⟩, ⟨some 25, .v (.fa 0) [.tmp 5], none⟩, ⟨some 26, .ld none (.tmp 25), none⟩, ⟨some 27, .v (.ib .add) [.tmp 24, .tmp 26], none⟩, ⟨some 28, .lbs 3 1 [(.int .i64 0)] 1 [(0, .tmp 27)], none⟩, ⟨some 29, .app 3 1 (.tmp 19) (.tmp 28), none⟩, ⟨some 30, .v (.fa 4) [.tmp 3], none⟩, ⟨some 31, .ld none (.tmp 30), none⟩, ⟨some 32, .v (.fa 4) [.tmp 3], none⟩, ⟨some 33, .ld none (.tmp 32), none⟩, ⟨some 34, .v .mv [.tmp 4], none⟩, ⟨some 35, .v (.ia 1) [.tmp 33, .tmp 34], none⟩, ⟨some 36, .ld none (.tmp 35), none⟩, ⟨some 37, .v (.fa 1) [.tmp 5], none⟩, ⟨some 38, .ld none (.tmp 37), none⟩, ⟨some 39, .v (.ib .add) [.tmp 36, .tmp 38], none⟩, ⟨some 40, .lbs 3 1 [(.int .i64 0)] 1 [(0, .tmp 39)], none⟩, ⟨some 41, .app 3 1 (.tmp 31) (.tmp 40), none⟩, ⟨some 42, .v (.fa 3) [.tmp 3], none⟩, ⟨none, .st 1 (.tmp 42) (.tmp 29), none⟩, ⟨some 43, .v (.fa 4) [.tmp 3], none⟩, ⟨none, .st 1 (.tmp 43) (.tmp 41), none⟩] [⟨0, false, false⟩, ⟨5, false, false⟩, ⟨0, false, false⟩, ⟨5, false, false⟩, ⟨0, false, false⟩, ⟨0, false, false⟩, ⟨1, false, false⟩, ⟨0, false, false⟩, ⟨7, false, false⟩, ⟨0, false, false⟩, ⟨30, false, false⟩, ⟨1, false, false⟩, ⟨0, false, false⟩, ⟨5, false, false⟩, ⟨0, false, false⟩, ⟨5, false, false⟩, ⟨0, false, false⟩, ⟨0, false, false⟩, ⟨1, false, false⟩, ⟨0, false, false⟩, ⟨7, false, false⟩, ⟨0, false, false⟩, ⟨42, false, false⟩, ⟨1, true, false⟩, ⟨0, false, false⟩, ⟨5, true, true⟩, ⟨0, true, true⟩, ⟨5, true, true⟩])))
 (.reg [
 ⟨some 44, .v (.ib .add) [.tmp 13, .const (.int .i64 1)], none⟩, ⟨some 13, .v .mv [.tmp 44], none⟩]))))
def b78 : PCode :=
 (.seq (.reg [
 ⟨some 1, .lbox 26 (.tmp 0), none⟩, ⟨some 2, .lalloc 93 (.agg #[(.slice none 0 0), (.slice none 0 0), (.slice none 0 0), (.slice none 0 0), (.slice none 0 0)]), none⟩])
 (.seq (.reg [
 ⟨some 6, .ld (some 3) (.tmp 1), none⟩, ⟨some 7, .bs 3 1 [(.int .i64 0)] 1 [(0, .const (.int .i64 0))], none⟩, ⟨some 8, .bs 3 1 [(.int .i64 0)] 1 [(0, .const (.int .i64 0))], none⟩, ⟨some 9, .v (.bld [(.slice none 0 0), (.slice none 0 0), (.slice none 0 0), (.slice none 0 0), (.slice none 0 0)] [(0, 3), (3, 1), (4, 1)]) [.tmp 6, .tmp 7, .tmp 8], none⟩, ⟨some 3, .lalloc 93 (.agg #[(.slice none 0 0), (.slice none 0 0), (.slice none 0 0), (.slice none 0 0), (.slice none 0 0)]), none⟩, ⟨none, .st 5 (.tmp 3) (.tmp 9), none⟩])
 (.seq (.seq (.reg [
 ⟨some 10, .v (.fa 0) [.tmp 1], none⟩, ⟨some 11, .ld none (.tmp 10), none⟩, ⟨some 12, .v .len [.tmp 11], none⟩, ⟨some 13, .v .mv [.const (.int .i64 0)], none⟩])
 (.blk 0
 (.loop q78x0)))
 (.seq (.reg [
 ⟨some 45, .ld (some 5) (.tmp 3), none⟩, ⟨none, .st 5 (.tmp 2) (.tmp 45), none⟩])
 .ret))))
def p78 : PFunc := ⟨46, [(2, some (some 5))], none, b78⟩
end Go.Pi.Coa
