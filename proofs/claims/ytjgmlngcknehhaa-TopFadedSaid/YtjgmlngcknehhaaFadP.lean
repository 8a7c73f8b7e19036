/- Helpers. -/
import Derived.Test.YtjgmlngcknehhaaPiI
set_option linter.all false
set_option linter.unusedVariables false
set_option linter.unusedSimpArgs false
set_option linter.unusedSectionVars false
set_option maxRecDepth 100000
namespace Go.Pi.Fad
open Go Go.Pi

def b2 : PCode :=
  (.reg [
    ⟨(some 0), .call (.func 1) [], none⟩])
def p2 : PFunc := ⟨1, [], none, b2⟩
def q3x0 : PCode :=
  (.seq (.seq (.reg [
        ⟨(some 51), .v .mv [.tmp 10], none⟩,
        ⟨(some 52), .v .mv [.tmp 0], none⟩,
        ⟨(some 53), .v (.ib .lss) [.tmp 51, .tmp 52], none⟩])
      (.cond (.tmp 53)
        .skip
        (.exit 0)))
      (.seq (.blk 1
        (.reg [
          ⟨(some 56), .v (.fa 0) [.tmp 9], none⟩,
          ⟨(some 57), .ld none (.tmp 56), none⟩,
          ⟨(some 58), .ld (some 2) (.tmp 5), none⟩,
          ⟨(some 59), .lbs 23 2 [(.int .i64 0), (.int .i64 0)] 1 [(0, .tmp 58)], none⟩,
          ⟨(some 60), .app 23 2 (.tmp 57) (.tmp 59), none⟩,
          ⟨(some 61), .v (.fa 0) [.tmp 9], none⟩,
          ⟨none, .st 1 (.tmp 61) (.tmp 60), none⟩]))
      (.reg [
        ⟨(some 54), .v .mv [.tmp 10], none⟩,
        ⟨(some 55), .v (.ib .add) [.tmp 54, .const (.int .i64 1)], none⟩,
        ⟨(some 10), .v .mv [.tmp 55], none⟩])))
def b3 : PCode :=
  (.seq (.reg [
    ⟨(some 5), .lbox 23 (.tmp 1), none⟩,
    ⟨(some 8), .v .mv [.const (.bool false)], none⟩])
  (.seq (.seq (.reg [
    ⟨(some 16), .v .mv [.tmp 0], none⟩,
    ⟨(some 17), .call (.func 4) [.tmp 16, .const (.int .i64 1), .const (.int .i64 12)], none⟩,
    ⟨(some 18), .v .no [.tmp 17], none⟩,
    ⟨(some 19), .v .mv [.tmp 18], none⟩,
    ⟨(some 20), .v (.fa 0) [.tmp 5], some (19, false)⟩,
    ⟨(some 21), .ld none (.tmp 20), some (19, false)⟩,
    ⟨(some 22), .call (.func 4) [.tmp 21, .const (.int .i64 0), .const (.int .i64 9)], some (19, false)⟩,
    ⟨(some 23), .v .no [.tmp 22], some (19, false)⟩,
    ⟨(some 24), .v .pick [.tmp 19, .const (.bool true), .tmp 23], none⟩,
    ⟨(some 25), .v .mv [.tmp 24], none⟩,
    ⟨(some 26), .v (.fa 1) [.tmp 5], some (25, false)⟩,
    ⟨(some 27), .ld none (.tmp 26), some (25, false)⟩,
    ⟨(some 28), .v (.fa 0) [.tmp 5], some (25, false)⟩,
    ⟨(some 29), .ld none (.tmp 28), some (25, false)⟩,
    ⟨(some 30), .call (.func 4) [.tmp 27, .tmp 29, .const (.int .i64 9)], some (25, false)⟩,
    ⟨(some 31), .v .no [.tmp 30], some (25, false)⟩,
    ⟨(some 32), .v .pick [.tmp 25, .const (.bool true), .tmp 31], none⟩,
    ⟨(some 33), .v .mv [.tmp 32], none⟩,
    ⟨(some 34), .v .mv [.tmp 2], some (33, false)⟩,
    ⟨(some 35), .call (.func 4) [.tmp 34, .const (.int .i64 1), .const (.int .i64 99)], some (33, false)⟩,
    ⟨(some 36), .v .no [.tmp 35], some (33, false)⟩,
    ⟨(some 37), .v .pick [.tmp 33, .const (.bool true), .tmp 36], none⟩,
    ⟨(some 38), .v .mv [.tmp 37], none⟩,
    ⟨(some 39), .v .mv [.tmp 3], some (38, false)⟩,
    ⟨(some 40), .v .mv [.tmp 2], some (38, false)⟩,
    ⟨(some 41), .call (.func 4) [.tmp 39, .const (.int .i64 1), .tmp 40], some (38, false)⟩,
    ⟨(some 42), .v .no [.tmp 41], some (38, false)⟩,
    ⟨(some 43), .v .pick [.tmp 38, .const (.bool true), .tmp 42], none⟩])
  (.cond (.tmp 43)
    (.seq (.reg [
      ⟨(some 44), .call (.func 5) [], none⟩,
      ⟨(some 8), .v .mv [.tmp 44], none⟩])
    .ret)
    .skip))
  (.seq (.reg [
    ⟨(some 45), .bs 3 1 [(.int .i64 0)] 1 [(0, .const (.int .i64 0))], none⟩,
    ⟨(some 46), .v .mv [.tmp 3], none⟩,
    ⟨(some 47), .v .mv [.tmp 3], none⟩,
    ⟨(some 48), .v (.bld [(.int .i64 0), (.int .i64 0)] [(0, 1), (1, 1)]) [.tmp 46, .tmp 47], none⟩,
    ⟨(some 49), .bs 28 2 [(.int .i64 0), (.int .i64 0)] 1 [(0, .tmp 48)], none⟩,
    ⟨(some 50), .v (.bld [(.slice none 0 0), (.slice none 0 0), (.slice none 0 0)] [(1, 1), (2, 1)]) [.tmp 45, .tmp 49], none⟩,
    ⟨(some 9), .lalloc 32 (.agg #[(.slice none 0 0), (.slice none 0 0), (.slice none 0 0)]), none⟩,
    ⟨none, .st 3 (.tmp 9) (.tmp 50), none⟩])
  (.seq (.seq (.reg [
    ⟨(some 10), .v .mv [.const (.int .i64 0)], none⟩])
  (.blk 0
    (.loop q3x0)))
  (.seq (.dreg [
    ⟨(some 62), .v .mv [.tmp 2], none⟩,
    ⟨(some 63), .v (.bld [(.int .i64 0), (.int .i64 0), (.int .i64 0)] [(0, 1), (1, 1), (2, 1)]) [.tmp 62, .const (.int .i64 0), .const (.int .i64 0)], none⟩,
    ⟨(some 64), .ld (some 2) (.tmp 5), none⟩,
    ⟨(some 65), .v (.bld [(.int .i64 0), (.int .i64 0)] []) [], none⟩,
    ⟨(some 66), .v (.bld [(.int .i64 0), (.int .i64 0)] []) [], none⟩,
    ⟨(some 67), .v (.bld [(.int .i64 0), (.int .i64 0), (.int .i64 0), (.int .i64 0), (.int .i64 0), (.int .i64 0)] [(0, 2), (2, 2), (4, 2)]) [.tmp 64, .tmp 65, .tmp 66], none⟩,
    ⟨(some 68), .v .mv [.tmp 0], none⟩,
    ⟨(some 69), .v .mv [.tmp 0], none⟩,
    ⟨(some 70), .v (.bld [(.int .i64 0), (.int .i64 0)] [(0, 1), (1, 1)]) [.tmp 68, .tmp 69], none⟩,
    ⟨(some 71), .mks 86 6 [(.int .i64 0), (.int .i64 0), (.int .i64 0), (.int .i64 0), (.int .i64 0), (.int .i64 0)] 48 (.const (.int .i64 1)) (.const (.int .i64 1)), none⟩,
    ⟨(some 72), .v (.bld [(.int .i64 0), (.int .i64 0), (.int .i64 0), (.int .i64 0), (.int .i64 0), (.int .i64 0), (.int .i64 0), (.int .i64 0), (.int .i64 0), (.int .i64 0), (.int .i64 0), (.int .i64 0), (.slice none 0 0)] [(0, 3), (3, 6), (9, 2), (11, 1), (12, 1)]) [.tmp 63, .tmp 67, .tmp 70, .const (.int .i64 1), .tmp 71], none⟩,
    ⟨(some 11), .lalloc 37 (.agg #[(.int .i64 0), (.int .i64 0), (.int .i64 0), (.int .i64 0), (.int .i64 0), (.int .i64 0), (.int .i64 0), (.int .i64 0), (.int .i64 0), (.int .i64 0), (.int .i64 0), (.int .i64 0), (.slice none 0 0)]), none⟩,
    ⟨none, .st 13 (.tmp 11) (.tmp 72), none⟩] [⟨0, false, false⟩, ⟨0, false, false⟩, ⟨7, false, false⟩, ⟨0, false, false⟩, ⟨0, false, false⟩, ⟨0, false, false⟩, ⟨0, false, false⟩, ⟨0, false, false⟩, ⟨0, false, false⟩, ⟨1, true, false⟩, ⟨0, true, false⟩, ⟨13, false, false⟩, ⟨13, true, true⟩])
  (.seq (.reg [
    ⟨(some 74), .ld (some 13) (.tmp 11), none⟩,
    ⟨(some 75), .call (.func 6) [.tmp 74], none⟩,
    ⟨(some 73), .v .mv [.tmp 75], none⟩,
    ⟨(some 76), .v (.ext 0) [.tmp 73], none⟩,
    ⟨(some 77), .v (.ext 1) [.tmp 73], none⟩,
    ⟨(some 12), .lalloc 34 (.agg #[(.int .i64 0), (.int .i64 0), (.int .i64 0), (.int .i64 0), (.int .i64 0), (.int .i64 0)]), none⟩,
    ⟨none, .st 6 (.tmp 12) (.tmp 76), none⟩,
    ⟨(some 13), .v .mv [.tmp 77], none⟩])
  (.seq (.reg [
    ⟨(some 79), .ld (some 3) (.tmp 9), none⟩,
    ⟨(some 80), .bs 3 1 [(.int .i64 0)] 1 [(0, .const (.int .i64 0))], none⟩,
    ⟨(some 81), .call (.func 7) [.tmp 79, .tmp 80], none⟩,
    ⟨(some 78), .v .mv [.tmp 81], none⟩,
    ⟨(some 82), .v (.ext 0) [.tmp 78], none⟩,
    ⟨(some 83), .v (.ext 1) [.tmp 78], none⟩,
    ⟨(some 14), .v .mv [.tmp 82], none⟩,
    ⟨(some 15), .v .mv [.tmp 83], none⟩])
  (.seq (.seq (.reg [
    ⟨(some 84), .v .mv [.tmp 13], none⟩,
    ⟨(some 85), .v (.ib .neq) [.tmp 84, .const (.int .i64 0)], none⟩,
    ⟨(some 86), .v .mv [.tmp 85], none⟩,
    ⟨(some 87), .v .mv [.tmp 15], some (86, false)⟩,
    ⟨(some 88), .v (.ib .neq) [.tmp 87, .const (.int .i64 0)], some (86, false)⟩,
    ⟨(some 89), .v .pick [.tmp 86, .const (.bool true), .tmp 88], none⟩,
    ⟨(some 90), .v .mv [.tmp 89], none⟩,
    ⟨(some 91), .v (.iaa 2 3) [.tmp 12, .const (.int .i64 0)], some (90, false)⟩,
    ⟨(some 92), .v (.fa 0) [.tmp 91], some (90, false)⟩,
    ⟨(some 93), .ld none (.tmp 92), some (90, false)⟩,
    ⟨(some 94), .v .mv [.tmp 2], some (90, false)⟩,
    ⟨(some 95), .call (.func 4) [.tmp 93, .const (.int .i64 0), .tmp 94], some (90, false)⟩,
    ⟨(some 96), .v .no [.tmp 95], some (90, false)⟩,
    ⟨(some 97), .v .pick [.tmp 90, .const (.bool true), .tmp 96], none⟩,
    ⟨(some 98), .v .mv [.tmp 97], none⟩,
    ⟨(some 99), .v (.iaa 2 3) [.tmp 12, .const (.int .i64 0)], some (98, false)⟩,
    ⟨(some 100), .v (.fa 1) [.tmp 99], some (98, false)⟩,
    ⟨(some 101), .ld none (.tmp 100), some (98, false)⟩,
    ⟨(some 102), .v (.iaa 2 3) [.tmp 12, .const (.int .i64 0)], some (98, false)⟩,
    ⟨(some 103), .v (.fa 0) [.tmp 102], some (98, false)⟩,
    ⟨(some 104), .ld none (.tmp 103), some (98, false)⟩,
    ⟨(some 105), .v .mv [.tmp 2], some (98, false)⟩,
    ⟨(some 106), .call (.func 4) [.tmp 101, .tmp 104, .tmp 105], some (98, false)⟩,
    ⟨(some 107), .v .no [.tmp 106], some (98, false)⟩,
    ⟨(some 108), .v .pick [.tmp 98, .const (.bool true), .tmp 107], none⟩])
  (.cond (.tmp 108)
    (.seq (.reg [
      ⟨(some 8), .v .mv [.const (.bool false)], none⟩])
    .ret)
    .skip))
  (.seq (.reg [
    ⟨(some 109), .v .mv [.tmp 14], none⟩,
    ⟨(some 110), .v (.ib .eql) [.tmp 109, .const (.int .i64 3)], none⟩,
    ⟨(some 111), .v (.iaa 2 3) [.tmp 12, .const (.int .i64 0)], none⟩,
    ⟨(some 112), .v (.fa 1) [.tmp 111], none⟩,
    ⟨(some 113), .ld none (.tmp 112), none⟩,
    ⟨(some 114), .v .mv [.tmp 2], none⟩,
    ⟨(some 115), .v .mv [.tmp 3], none⟩,
    ⟨(some 116), .v (.ib .sub) [.tmp 114, .tmp 115], none⟩,
    ⟨(some 117), .v (.ib .leq) [.tmp 113, .tmp 116], none⟩,
    ⟨(some 118), .v (.bb false) [.tmp 110, .tmp 117], none⟩,
    ⟨(some 119), .v .mv [.tmp 118], none⟩,
    ⟨(some 120), .v .mv [.tmp 14], some (119, true)⟩,
    ⟨(some 121), .v (.ib .eql) [.tmp 120, .const (.int .i64 1)], some (119, true)⟩,
    ⟨(some 122), .v (.iaa 2 3) [.tmp 12, .const (.int .i64 0)], some (119, true)⟩,
    ⟨(some 123), .v (.fa 0) [.tmp 122], some (119, true)⟩,
    ⟨(some 124), .ld none (.tmp 123), some (119, true)⟩,
    ⟨(some 125), .v .mv [.tmp 2], some (119, true)⟩,
    ⟨(some 126), .v .mv [.tmp 3], some (119, true)⟩,
    ⟨(some 127), .v (.ib .sub) [.tmp 125, .tmp 126], some (119, true)⟩,
    ⟨(some 128), .v (.ib .gtr) [.tmp 124, .tmp 127], some (119, true)⟩,
    ⟨(some 129), .v (.bb false) [.tmp 121, .tmp 128], some (119, true)⟩,
    ⟨(some 130), .v .pick [.tmp 119, .tmp 129, .const (.bool false)], none⟩,
    ⟨(some 131), .v .mv [.tmp 130], none⟩,
    ⟨(some 132), .call (.func 5) [], some (131, true)⟩,
    ⟨(some 133), .v .pick [.tmp 131, .tmp 132, .const (.bool false)], none⟩,
    ⟨(some 8), .v .mv [.tmp 133], none⟩])
  .ret)))))))))
def p3 : PFunc := ⟨134, [(8, none)], none, b3⟩
def b4 : PCode :=
  (.seq (.reg [
    ⟨(some 6), .v .mv [.const (.bool false)], none⟩])
  (.seq (.reg [
    ⟨(some 7), .v .mv [.tmp 0], none⟩,
    ⟨(some 8), .v .mv [.tmp 1], none⟩,
    ⟨(some 9), .v (.ib .geq) [.tmp 7, .tmp 8], none⟩,
    ⟨(some 10), .v .mv [.tmp 9], none⟩,
    ⟨(some 11), .v .mv [.tmp 0], some (10, true)⟩,
    ⟨(some 12), .v .mv [.tmp 2], some (10, true)⟩,
    ⟨(some 13), .v (.ib .leq) [.tmp 11, .tmp 12], some (10, true)⟩,
    ⟨(some 14), .v .pick [.tmp 10, .tmp 13, .const (.bool false)], none⟩,
    ⟨(some 6), .v .mv [.tmp 14], none⟩])
  .ret))
def p4 : PFunc := ⟨15, [(6, none)], none, b4⟩
def b5 : PCode :=
  (.seq (.reg [
    ⟨(some 0), .v .mv [.const (.bool false)], none⟩])
  (.seq (.reg [
    ⟨(some 6), .call (.func 9) [], none⟩,
    ⟨(some 7), .call (.func 8) [.tmp 6], none⟩,
    ⟨(some 5), .v .mv [.tmp 7], none⟩,
    ⟨(some 8), .v (.ext 0) [.tmp 5], none⟩,
    ⟨(some 9), .v (.ext 1) [.tmp 5], none⟩,
    ⟨(some 1), .v .mv [.tmp 8], none⟩,
    ⟨(some 2), .v .mv [.tmp 9], none⟩])
  (.seq (.reg [
    ⟨(some 11), .call (.func 11) [], none⟩,
    ⟨(some 12), .call (.func 10) [.tmp 11], none⟩,
    ⟨(some 10), .v .mv [.tmp 12], none⟩,
    ⟨(some 13), .v (.ext 0) [.tmp 10], none⟩,
    ⟨(some 14), .v (.ext 1) [.tmp 10], none⟩,
    ⟨(some 3), .v .mv [.tmp 13], none⟩,
    ⟨(some 4), .v .mv [.tmp 14], none⟩])
  (.seq (.reg [
    ⟨(some 15), .v .mv [.tmp 2], none⟩,
    ⟨(some 16), .v (.ib .eql) [.tmp 15, .const (.int .i64 0)], none⟩,
    ⟨(some 17), .v .mv [.tmp 16], none⟩,
    ⟨(some 18), .v .mv [.tmp 1], some (17, true)⟩,
    ⟨(some 19), .v (.ib .eql) [.tmp 18, .const (.int .i64 3)], some (17, true)⟩,
    ⟨(some 20), .v .pick [.tmp 17, .tmp 19, .const (.bool false)], none⟩,
    ⟨(some 21), .v .mv [.tmp 20], none⟩,
    ⟨(some 22), .v .mv [.tmp 4], some (21, true)⟩,
    ⟨(some 23), .v (.ib .eql) [.tmp 22, .const (.int .i64 0)], some (21, true)⟩,
    ⟨(some 24), .v .pick [.tmp 21, .tmp 23, .const (.bool false)], none⟩,
    ⟨(some 25), .v .mv [.tmp 24], none⟩,
    ⟨(some 26), .v .mv [.tmp 3], some (25, true)⟩,
    ⟨(some 27), .bs 3 1 [(.int .i64 0)] 3 [(0, .const (.int .i64 0)), (1, .const (.int .i64 2)), (2, .const (.int .i64 5))], some (25, true)⟩,
    ⟨(some 28), .call (.func 12) [.tmp 26, .tmp 27], some (25, true)⟩,
    ⟨(some 29), .v .pick [.tmp 25, .tmp 28, .const (.bool false)], none⟩,
    ⟨(some 0), .v .mv [.tmp 29], none⟩])
  .ret))))
def p5 : PFunc := ⟨30, [(0, none)], none, b5⟩
def b6 : PCode :=
  (.seq (.reg [
    ⟨(some 1), .lbox 37 (.tmp 0), none⟩,
    ⟨(some 2), .lalloc 34 (.agg #[(.int .i64 0), (.int .i64 0), (.int .i64 0), (.int .i64 0), (.int .i64 0), (.int .i64 0)]), none⟩,
    ⟨(some 3), .v .mv [.const (.int .i64 0)], none⟩])
  (.seq (.seq (.reg [
    ⟨(some 4), .ld (some 13) (.tmp 1), none⟩,
    ⟨(some 5), .call (.func 13) [.tmp 4], none⟩,
    ⟨(some 6), .v .no [.tmp 5], none⟩])
  (.cond (.tmp 6)
    (.seq (.reg [
      ⟨(some 7), .v (.bld [(.int .i64 0), (.int .i64 0), (.int .i64 0), (.int .i64 0), (.int .i64 0), (.int .i64 0)] []) [], none⟩,
      ⟨none, .st 6 (.tmp 2) (.tmp 7), none⟩,
      ⟨(some 3), .v .mv [.const (.int .i64 2)], none⟩])
    .ret)
    .skip))
  (.seq (.reg [
    ⟨(some 8), .ld (some 13) (.tmp 1), none⟩,
    ⟨(some 9), .call (.func 14) [.tmp 8], none⟩,
    ⟨none, .st 6 (.tmp 2) (.tmp 9), none⟩,
    ⟨(some 3), .v .mv [.const (.int .i64 0)], none⟩])
  .ret)))
def p6 : PFunc := ⟨10, [(2, some (some 6)), (3, none)], none, b6⟩
def q7x0 : PCode :=
  (.seq (.reg [
        ⟨(some 36), .v (.ib .lss) [.tmp 35, .tmp 34], none⟩])
      (.seq (.cond (.tmp 36)
        .skip
        (.exit 0))
      (.seq (.blk 1
        (.seq (.reg [
          ⟨(some 37), .v .mv [.tmp 35], none⟩,
          ⟨(some 38), .v (.ia 1) [.tmp 33, .tmp 35], none⟩,
          ⟨(some 39), .ld none (.tmp 38), none⟩,
          ⟨(some 9), .v .mv [.tmp 37], none⟩,
          ⟨(some 10), .v .mv [.tmp 39], none⟩])
        (.seq (.reg [
          ⟨(some 41), .ld (some 5) (.tmp 6), none⟩,
          ⟨(some 42), .v .mv [.tmp 1], none⟩,
          ⟨(some 43), .v .mv [.tmp 9], none⟩,
          ⟨(some 44), .call (.func 19) [.tmp 41, .tmp 42, .tmp 43], none⟩,
          ⟨(some 40), .v .mv [.tmp 44], none⟩,
          ⟨(some 45), .v (.ext 0) [.tmp 40], none⟩,
          ⟨(some 46), .v (.ext 1) [.tmp 40], none⟩,
          ⟨(some 11), .v .mv [.tmp 45], none⟩,
          ⟨(some 12), .v .mv [.tmp 46], none⟩])
        (.seq (.reg [
          ⟨(some 47), .ld (some 5) (.tmp 6), none⟩,
          ⟨(some 48), .v .mv [.tmp 10], none⟩,
          ⟨(some 49), .v .mv [.tmp 11], none⟩,
          ⟨(some 50), .call (.func 20) [.tmp 47, .tmp 48, .tmp 49], none⟩,
          ⟨(some 13), .lalloc 23 (.agg #[(.int .i64 0), (.int .i64 0)]), none⟩,
          ⟨none, .st 2 (.tmp 13) (.tmp 50), none⟩])
        (.seq (.dreg [
          ⟨(some 51), .v (.fa 1) [.tmp 13], none⟩,
          ⟨(some 52), .ld none (.tmp 51), none⟩,
          ⟨(some 53), .v (.fa 2) [.tmp 2], none⟩,
          ⟨(some 54), .ld none (.tmp 53), none⟩,
          ⟨(some 55), .v .mv [.tmp 9], none⟩,
          ⟨(some 56), .v (.ia 2) [.tmp 54, .tmp 55], none⟩,
          ⟨(some 57), .v (.fa 0) [.tmp 56], none⟩,
          ⟨(some 58), .ld none (.tmp 57), none⟩,
          ⟨(some 59), .v (.ib .lss) [.tmp 52, .tmp 58], none⟩,
          ⟨(some 60), .v .mv [.tmp 59], none⟩,
          ⟨(some 61), .v .mv [.tmp 12], some (60, false)⟩,
          ⟨(some 62), .v .mv [.tmp 61], some (60, false)⟩,
          ⟨(some 63), .v (.fa 0) [.tmp 13], some (62, true)⟩,
          ⟨(some 64), .ld none (.tmp 63), some (62, true)⟩,
          ⟨(some 65), .v (.fa 2) [.tmp 2], some (62, true)⟩,
          ⟨(some 66), .ld none (.tmp 65), some (62, true)⟩,
          ⟨(some 67), .v .mv [.tmp 9], some (62, true)⟩,
          ⟨(some 68), .v (.ia 2) [.tmp 66, .tmp 67], some (62, true)⟩,
          ⟨(some 69), .v (.fa 1) [.tmp 68], some (62, true)⟩,
          ⟨(some 70), .ld none (.tmp 69), some (62, true)⟩,
          ⟨(some 71), .v (.ib .gtr) [.tmp 64, .tmp 70], some (62, true)⟩,
          ⟨(some 72), .v .pick [.tmp 62, .tmp 71, .const (.bool false)], some (60, false)⟩,
          ⟨(some 73), .v .pick [.tmp 60, .const (.bool true), .tmp 72], none⟩] [⟨0, false, false⟩, ⟨15, false, false⟩, ⟨0, true, false⟩, ⟨4, true, false⟩, ⟨0, true, false⟩, ⟨0, true, false⟩, ⟨0, true, false⟩, ⟨1, true, false⟩, ⟨0, true, true⟩, ⟨0, true, true⟩, ⟨0, true, true⟩, ⟨0, true, true⟩, ⟨0, false, false⟩, ⟨15, false, false⟩, ⟨0, true, false⟩, ⟨4, true, false⟩, ⟨0, true, false⟩, ⟨0, true, false⟩, ⟨0, true, false⟩, ⟨1, true, false⟩, ⟨0, true, true⟩, ⟨0, true, true⟩, ⟨0, true, true⟩])
        (.cond (.tmp 73)
          (.seq (.reg [
            ⟨(some 4), .v .mv [.const (.int .i64 1)], none⟩,
            ⟨(some 5), .v .mv [.const (.int .i64 0)], none⟩])
          .ret)
          .skip))))))
      (.reg [
        ⟨(some 74), .v (.ib .add) [.tmp 35, .const (.int .i64 1)], none⟩,
        ⟨(some 35), .v .mv [.tmp 74], none⟩]))))
def b7 : PCode :=
  (.seq (.reg [
    ⟨(some 2), .lbox 32 (.tmp 0), none⟩,
    ⟨(some 4), .v .mv [.const (.int .i64 0)], none⟩,
    ⟨(some 5), .v .mv [.const (.int .i64 0)], none⟩])
  (.seq (.seq (.reg [
    ⟨(some 14), .ld (some 3) (.tmp 2), none⟩,
    ⟨(some 15), .call (.func 15) [.tmp 14], none⟩,
    ⟨(some 16), .v .no [.tmp 15], none⟩,
    ⟨(some 17), .v .mv [.tmp 16], none⟩,
    ⟨(some 18), .ld (some 3) (.tmp 2), some (17, false)⟩,
    ⟨(some 19), .v .mv [.tmp 1], some (17, false)⟩,
    ⟨(some 20), .call (.func 16) [.tmp 18, .tmp 19], some (17, false)⟩,
    ⟨(some 21), .v .no [.tmp 20], some (17, false)⟩,
    ⟨(some 22), .v .pick [.tmp 17, .const (.bool true), .tmp 21], none⟩])
  (.cond (.tmp 22)
    (.seq (.reg [
      ⟨(some 4), .v .mv [.const (.int .i64 0)], none⟩,
      ⟨(some 5), .v .mv [.const (.int .i64 2)], none⟩])
    .ret)
    .skip))
  (.seq (.reg [
    ⟨(some 23), .ld (some 3) (.tmp 2), none⟩,
    ⟨(some 24), .call (.func 17) [.tmp 23], none⟩,
    ⟨(some 6), .lalloc 61 (.agg #[(.slice none 0 0), (.slice none 0 0), (.slice none 0 0), (.slice none 0 0), (.slice none 0 0)]), none⟩,
    ⟨none, .st 5 (.tmp 6) (.tmp 24), none⟩])
  (.seq (.seq (.reg [
    ⟨(some 26), .ld (some 5) (.tmp 6), none⟩,
    ⟨(some 27), .v .mv [.tmp 1], none⟩,
    ⟨(some 28), .call (.func 18) [.tmp 26, .tmp 27], none⟩,
    ⟨(some 25), .v .mv [.tmp 28], none⟩,
    ⟨(some 29), .v (.ext 0) [.tmp 25], none⟩,
    ⟨(some 30), .v (.ext 1) [.tmp 25], none⟩,
    ⟨(some 7), .lalloc 65 (.agg #[(.int .i64 0), (.int .i64 0)]), none⟩,
    ⟨none, .st 2 (.tmp 7) (.tmp 29), none⟩,
    ⟨(some 8), .v .mv [.tmp 30], none⟩])
  (.seq (.reg [
    ⟨(some 31), .v .mv [.tmp 8], none⟩,
    ⟨(some 32), .v (.ib .eql) [.tmp 31, .const (.int .i64 0)], none⟩])
  (.cond (.tmp 32)
    (.seq (.reg [
      ⟨(some 4), .v .mv [.const (.int .i64 3)], none⟩,
      ⟨(some 5), .v .mv [.const (.int .i64 0)], none⟩])
    .ret)
    .skip)))
  (.seq (.seq (.reg [
    ⟨(some 33), .v .mv [.tmp 1], none⟩,
    ⟨(some 34), .v .len [.tmp 33], none⟩,
    ⟨(some 35), .v .mv [.const (.int .i64 0)], none⟩])
  (.blk 0
    (.loop q7x0)))
  (.seq (.reg [
    ⟨(some 4), .v .mv [.const (.int .i64 2)], none⟩,
    ⟨(some 5), .v .mv [.const (.int .i64 0)], none⟩])
  .ret))))))
def p7 : PFunc := ⟨75, [(4, none), (5, none)], none, b7⟩
def q8x0 : PCode :=
  (.seq (.reg [
        ⟨(some 26), .v (.ib .lss) [.tmp 25, .tmp 24], none⟩])
      (.seq (.cond (.tmp 26)
        .skip
        (.exit 2))
      (.seq (.blk 3
        (.seq (.reg [
          ⟨(some 27), .v .mv [.tmp 25], none⟩,
          ⟨(some 7), .v .mv [.tmp 27], none⟩])
        (.seq (.reg [
          ⟨(some 28), .ld (some 10) (.tmp 1), none⟩,
          ⟨(some 29), .v .mv [.tmp 4], none⟩,
          ⟨(some 30), .v .mv [.tmp 7], none⟩,
          ⟨(some 31), .v (.ib .sub) [.tmp 29, .tmp 30], none⟩,
          ⟨(some 32), .call (.func 23) [.tmp 28, .tmp 31], none⟩,
          ⟨(some 33), .call (.func 22) [.tmp 32], none⟩,
          ⟨(some 34), .call (.func 24) [.tmp 33, .const (.slice none 0 0)], none⟩])
        (.cond (.tmp 34)
          (.seq (.reg [
            ⟨(some 35), .v .mv [.tmp 7], none⟩,
            ⟨(some 2), .v .mv [.tmp 35], none⟩,
            ⟨(some 3), .v .mv [.const (.int .i64 0)], none⟩])
          .ret)
          .skip))))
      (.reg [
        ⟨(some 36), .v (.ib .add) [.tmp 25, .const (.int .i64 1)], none⟩,
        ⟨(some 25), .v .mv [.tmp 36], none⟩]))))
def q8x1 : PCode :=
  (.seq (.reg [
        ⟨(some 15), .v (.ib .lss) [.tmp 14, .tmp 13], none⟩])
      (.seq (.cond (.tmp 15)
        .skip
        (.exit 0))
      (.seq (.blk 1
        (.seq (.reg [
          ⟨(some 16), .v (.ia 3) [.tmp 12, .tmp 14], none⟩,
          ⟨(some 17), .ld (some 3) (.tmp 16), none⟩,
          ⟨(some 6), .lalloc 73 (.agg #[(.slice none 0 0), (.slice none 0 0), (.bool false)]), none⟩,
          ⟨none, .st 3 (.tmp 6) (.tmp 17), none⟩])
        (.reg [
          ⟨(some 18), .v .mv [.tmp 4], none⟩,
          ⟨(some 19), .v (.fa 0) [.tmp 6], none⟩,
          ⟨(some 20), .ld none (.tmp 19), none⟩,
          ⟨(some 21), .v .len [.tmp 20], none⟩,
          ⟨(some 22), .v (.ib .add) [.tmp 18, .tmp 21], none⟩,
          ⟨(some 4), .v .mv [.tmp 22], none⟩])))
      (.reg [
        ⟨(some 23), .v (.ib .add) [.tmp 14, .const (.int .i64 1)], none⟩,
        ⟨(some 14), .v .mv [.tmp 23], none⟩]))))
def b8 : PCode :=
  (.seq (.reg [
    ⟨(some 1), .lbox 50 (.tmp 0), none⟩,
    ⟨(some 2), .v .mv [.const (.int .i64 0)], none⟩,
    ⟨(some 3), .v .mv [.const (.int .i64 0)], none⟩])
  (.seq (.seq (.reg [
    ⟨(some 8), .ld (some 10) (.tmp 1), none⟩,
    ⟨(some 9), .call (.func 21) [.tmp 8], none⟩,
    ⟨(some 10), .v .no [.tmp 9], none⟩])
  (.cond (.tmp 10)
    (.seq (.reg [
      ⟨(some 2), .v .mv [.const (.int .i64 0)], none⟩,
      ⟨(some 3), .v .mv [.const (.int .i64 2)], none⟩])
    .ret)
    .skip))
  (.seq (.reg [
    ⟨(some 4), .v .mv [.const (.int .i64 0)], none⟩])
  (.seq (.seq (.reg [
    ⟨(some 11), .v (.fa 7) [.tmp 1], none⟩,
    ⟨(some 12), .ld none (.tmp 11), none⟩,
    ⟨(some 13), .v .len [.tmp 12], none⟩,
    ⟨(some 14), .v .mv [.const (.int .i64 0)], none⟩])
  (.blk 0
    (.loop q8x1)))
  (.seq (.seq (.reg [
    ⟨(some 24), .v .mv [.tmp 4], none⟩,
    ⟨(some 25), .v .mv [.const (.int .i64 0)], none⟩])
  (.blk 2
    (.loop q8x0)))
  (.seq (.reg [
    ⟨(some 37), .v .mv [.tmp 4], none⟩,
    ⟨(some 2), .v .mv [.tmp 37], none⟩,
    ⟨(some 3), .v .mv [.const (.int .i64 0)], none⟩])
  .ret))))))
def p8 : PFunc := ⟨38, [(2, none), (3, none)], none, b8⟩
def b9 : PCode :=
  (.seq (.reg [
    ⟨(some 0), .lalloc 50 (.agg #[(.slice none 0 0), (.slice none 0 0), (.int .i64 0), (.int .i64 0), (.int .i64 0), (.int .i64 0), (.int .i64 0), (.slice none 0 0), (.int .i64 0), (.int .i64 0)]), none⟩])
  (.seq (.reg [
    ⟨(some 2), .call (.func 25) [], none⟩,
    ⟨(some 1), .lalloc 50 (.agg #[(.slice none 0 0), (.slice none 0 0), (.int .i64 0), (.int .i64 0), (.int .i64 0), (.int .i64 0), (.int .i64 0), (.slice none 0 0), (.int .i64 0), (.int .i64 0)]), none⟩,
    ⟨none, .st 10 (.tmp 1) (.tmp 2), none⟩])
  (.seq (.reg [
    ⟨(some 3), .v (.fa 8) [.tmp 1], none⟩,
    ⟨none, .st 1 (.tmp 3) (.const (.int .i64 18)), none⟩])
  (.seq (.reg [
    ⟨(some 4), .ld (some 10) (.tmp 1), none⟩,
    ⟨none, .st 10 (.tmp 0) (.tmp 4), none⟩])
  .ret))))
def p9 : PFunc := ⟨5, [(0, some (some 10))], none, b9⟩
def b10 : PCode :=
  (.seq (.reg [
    ⟨(some 1), .lbox 32 (.tmp 0), none⟩,
    ⟨(some 2), .v .mv [.const (.slice none 0 0)], none⟩,
    ⟨(some 3), .v .mv [.const (.int .i64 0)], none⟩])
  (.seq (.reg [
    ⟨(some 7), .ld (some 3) (.tmp 1), none⟩,
    ⟨(some 8), .call (.func 26) [.tmp 7, .const (.int .i64 5)], none⟩,
    ⟨(some 6), .v .mv [.tmp 8], none⟩,
    ⟨(some 9), .v (.ext 0) [.tmp 6], none⟩,
    ⟨(some 10), .v (.ext 1) [.tmp 6], none⟩,
    ⟨(some 4), .v .mv [.tmp 9], none⟩,
    ⟨(some 5), .v .mv [.tmp 10], none⟩])
  (.seq (.seq (.reg [
    ⟨(some 11), .v .mv [.tmp 5], none⟩,
    ⟨(some 12), .v (.ib .neq) [.tmp 11, .const (.int .i64 0)], none⟩])
  (.cond (.tmp 12)
    (.seq (.reg [
      ⟨(some 13), .v .mv [.tmp 5], none⟩,
      ⟨(some 2), .v .mv [.const (.slice none 0 0)], none⟩,
      ⟨(some 3), .v .mv [.tmp 13], none⟩])
    .ret)
    .skip))
  (.seq (.reg [
    ⟨(some 14), .v .mv [.tmp 4], none⟩,
    ⟨(some 15), .v (.ia 1) [.tmp 14, .const (.int .i64 0)], none⟩,
    ⟨(some 16), .ld none (.tmp 15), none⟩,
    ⟨(some 2), .v .mv [.tmp 16], none⟩,
    ⟨(some 3), .v .mv [.const (.int .i64 0)], none⟩])
  .ret))))
def p10 : PFunc := ⟨17, [(2, none), (3, none)], none, b10⟩
def b11 : PCode :=
  (.seq (.reg [
    ⟨(some 0), .lalloc 32 (.agg #[(.slice none 0 0), (.slice none 0 0), (.slice none 0 0)]), none⟩])
  (.seq (.reg [
    ⟨(some 1), .call (.func 27) [.const (.int .i64 6), .const (.int .i64 8)], none⟩,
    ⟨(some 2), .call (.func 27) [.const (.int .i64 4), .const (.int .i64 6)], none⟩,
    ⟨(some 3), .call (.func 27) [.const (.int .i64 8), .const (.int .i64 10)], none⟩,
    ⟨(some 4), .call (.func 27) [.const (.int .i64 2), .const (.int .i64 4)], none⟩,
    ⟨(some 5), .call (.func 27) [.const (.int .i64 6), .const (.int .i64 6)], none⟩,
    ⟨(some 6), .call (.func 27) [.const (.int .i64 5), .const (.int .i64 9)], none⟩,
    ⟨(some 7), .call (.func 27) [.const (.int .i64 8), .const (.int .i64 12)], none⟩,
    ⟨(some 8), .call (.func 27) [.const (.int .i64 4), .const (.int .i64 4)], none⟩,
    ⟨(some 9), .bs 23 2 [(.int .i64 0), (.int .i64 0)] 8 [(0, .tmp 1), (1, .tmp 2), (2, .tmp 3), (3, .tmp 4), (4, .tmp 5), (5, .tmp 6), (6, .tmp 7), (7, .tmp 8)], none⟩,
    ⟨(some 10), .bs 3 1 [(.int .i64 0)] 5 [(0, .const (.int .i64 0)), (1, .const (.int .i64 2)), (2, .const (.int .i64 3)), (3, .const (.int .i64 5)), (4, .const (.int .i64 6))], none⟩,
    ⟨(some 11), .v (.bld [(.int .i64 0), (.int .i64 0)] [(0, 1), (1, 1)]) [.const (.int .i64 9), .const (.int .i64 20)], none⟩,
    ⟨(some 12), .v (.bld [(.int .i64 0), (.int .i64 0)] [(0, 1), (1, 1)]) [.const (.int .i64 10), .const (.int .i64 20)], none⟩,
    ⟨(some 13), .v (.bld [(.int .i64 0), (.int .i64 0)] [(0, 1), (1, 1)]) [.const (.int .i64 8), .const (.int .i64 30)], none⟩,
    ⟨(some 14), .bs 28 2 [(.int .i64 0), (.int .i64 0)] 3 [(0, .tmp 11), (1, .tmp 12), (2, .tmp 13)], none⟩,
    ⟨(some 15), .v (.bld [(.slice none 0 0), (.slice none 0 0), (.slice none 0 0)] [(0, 1), (1, 1), (2, 1)]) [.tmp 9, .tmp 10, .tmp 14], none⟩,
    ⟨none, .st 3 (.tmp 0) (.tmp 15), none⟩])
  .ret))
def p11 : PFunc := ⟨16, [(0, some (some 3))], none, b11⟩
def q12x0 : PCode :=
  (.seq (.seq (.reg [
        ⟨(some 11), .v .mv [.tmp 5], none⟩,
        ⟨(some 12), .v .mv [.tmp 0], none⟩,
        ⟨(some 13), .v .len [.tmp 12], none⟩,
        ⟨(some 14), .v (.ib .lss) [.tmp 11, .tmp 13], none⟩])
      (.cond (.tmp 14)
        .skip
        (.exit 0)))
      (.seq (.blk 1
        (.seq (.dreg [
          ⟨(some 17), .v .mv [.tmp 0], none⟩,
          ⟨(some 18), .v .mv [.tmp 5], none⟩,
          ⟨(some 19), .v (.ia 1) [.tmp 17, .tmp 18], none⟩,
          ⟨(some 20), .ld none (.tmp 19), none⟩,
          ⟨(some 21), .v .mv [.tmp 1], none⟩,
          ⟨(some 22), .v .mv [.tmp 5], none⟩,
          ⟨(some 23), .v (.ia 1) [.tmp 21, .tmp 22], none⟩,
          ⟨(some 24), .ld none (.tmp 23), none⟩,
          ⟨(some 25), .v (.ib .neq) [.tmp 20, .tmp 24], none⟩] [⟨0, false, false⟩, ⟨0, false, false⟩, ⟨0, false, false⟩, ⟨1, false, false⟩, ⟨0, false, false⟩, ⟨0, false, false⟩, ⟨0, false, false⟩, ⟨1, false, false⟩, ⟨0, true, true⟩])
        (.cond (.tmp 25)
          (.seq (.reg [
            ⟨(some 4), .v .mv [.const (.bool false)], none⟩])
          .ret)
          .skip)))
      (.reg [
        ⟨(some 15), .v .mv [.tmp 5], none⟩,
        ⟨(some 16), .v (.ib .add) [.tmp 15, .const (.int .i64 1)], none⟩,
        ⟨(some 5), .v .mv [.tmp 16], none⟩])))
def b12 : PCode :=
  (.seq (.reg [
    ⟨(some 4), .v .mv [.const (.bool false)], none⟩])
  (.seq (.seq (.reg [
    ⟨(some 6), .v .mv [.tmp 0], none⟩,
    ⟨(some 7), .v .len [.tmp 6], none⟩,
    ⟨(some 8), .v .mv [.tmp 1], none⟩,
    ⟨(some 9), .v .len [.tmp 8], none⟩,
    ⟨(some 10), .v (.ib .neq) [.tmp 7, .tmp 9], none⟩])
  (.cond (.tmp 10)
    (.seq (.reg [
      ⟨(some 4), .v .mv [.const (.bool false)], none⟩])
    .ret)
    .skip))
  (.seq (.seq (.reg [
    ⟨(some 5), .v .mv [.const (.int .i64 0)], none⟩])
  (.blk 0
    (.loop q12x0)))
  (.seq (.reg [
    ⟨(some 4), .v .mv [.const (.bool true)], none⟩])
  .ret))))
def p12 : PFunc := ⟨26, [(4, none)], none, b12⟩
def q13x0 : PCode :=
  (.seq (.reg [
        ⟨(some 5), .v (.ib .lss) [.tmp 4, .const (.int .i64 3)], none⟩])
      (.seq (.cond (.tmp 5)
        .skip
        (.exit 0))
      (.seq (.blk 1
        (.seq (.reg [
          ⟨(some 6), .v .mv [.tmp 4], none⟩,
          ⟨(some 3), .alloc 3 (.int .i64 0), none⟩,
          ⟨none, .st 1 (.tmp 3) (.tmp 6), none⟩])
        (.seq (.seq (.reg [
          ⟨(some 7), .ld none (.tmp 3), none⟩,
          ⟨(some 8), .v (.fa 0) [.tmp 1], none⟩,
          ⟨(some 9), .v (.iaa 1 3) [.tmp 8, .tmp 7], none⟩,
          ⟨(some 10), .ld none (.tmp 9), none⟩,
          ⟨(some 11), .call (.func 28) [.tmp 10, .const (.int .i64 0), .const (.int .i64 99)], none⟩,
          ⟨(some 12), .v .no [.tmp 11], none⟩,
          ⟨(some 13), .v .mv [.tmp 12], none⟩,
          ⟨(some 14), .ld none (.tmp 3), some (13, false)⟩,
          ⟨(some 15), .v (.fa 3) [.tmp 1], some (13, false)⟩,
          ⟨(some 16), .v (.iaa 2 3) [.tmp 15, .tmp 14], some (13, false)⟩,
          ⟨(some 17), .ld (some 2) (.tmp 16), some (13, false)⟩,
          ⟨(some 18), .call (.func 29) [.tmp 17, .const (.int .i64 9)], some (13, false)⟩,
          ⟨(some 19), .v .no [.tmp 18], some (13, false)⟩,
          ⟨(some 20), .v .pick [.tmp 13, .const (.bool true), .tmp 19], none⟩])
        (.cond (.tmp 20)
          (.seq (.reg [
            ⟨(some 2), .v .mv [.const (.bool false)], none⟩])
          .ret)
          .skip))
        (.seq (.reg [
          ⟨(some 21), .v (.fa 12) [.tmp 1], none⟩,
          ⟨(some 22), .ld none (.tmp 21), none⟩,
          ⟨(some 23), .v (.mkf (.func 31) 0) [.tmp 3], none⟩,
          ⟨(some 24), .call (.func 30) [.tmp 22, .tmp 23], none⟩])
        (.cond (.tmp 24)
          (.seq (.reg [
            ⟨(some 2), .v .mv [.const (.bool false)], none⟩])
          .ret)
          .skip)))))
      (.reg [
        ⟨(some 25), .v (.ib .add) [.tmp 4, .const (.int .i64 1)], none⟩,
        ⟨(some 4), .v .mv [.tmp 25], none⟩]))))
def b13 : PCode :=
  (.seq (.reg [
    ⟨(some 1), .lbox 37 (.tmp 0), none⟩,
    ⟨(some 2), .v .mv [.const (.bool false)], none⟩])
  (.seq (.seq (.reg [
    ⟨(some 4), .v .mv [.const (.int .i64 0)], none⟩])
  (.blk 0
    (.loop q13x0)))
  (.seq (.reg [
    ⟨(some 26), .v (.fa 9) [.tmp 1], none⟩,
    ⟨(some 27), .ld (some 2) (.tmp 26), none⟩,
    ⟨(some 28), .call (.func 29) [.tmp 27, .const (.int .i64 20)], none⟩,
    ⟨(some 29), .v .mv [.tmp 28], none⟩,
    ⟨(some 30), .v (.fa 11) [.tmp 1], some (29, true)⟩,
    ⟨(some 31), .ld none (.tmp 30), some (29, true)⟩,
    ⟨(some 32), .call (.func 28) [.tmp 31, .const (.int .i64 1), .const (.int .i64 20)], some (29, true)⟩,
    ⟨(some 33), .v .pick [.tmp 29, .tmp 32, .const (.bool false)], none⟩,
    ⟨(some 34), .v .mv [.tmp 33], none⟩,
    ⟨(some 35), .v (.fa 12) [.tmp 1], some (34, true)⟩,
    ⟨(some 36), .ld none (.tmp 35), some (34, true)⟩,
    ⟨(some 37), .v .len [.tmp 36], some (34, true)⟩,
    ⟨(some 38), .call (.func 28) [.tmp 37, .const (.int .i64 1), .const (.int .i64 4)], some (34, true)⟩,
    ⟨(some 39), .v .pick [.tmp 34, .tmp 38, .const (.bool false)], none⟩,
    ⟨(some 2), .v .mv [.tmp 39], none⟩])
  .ret)))
def p13 : PFunc := ⟨40, [(2, none)], none, b13⟩
def q14x0 : PCode :=
  (.seq (.reg [
        ⟨(some 6), .v (.ib .lss) [.tmp 5, .const (.int .i64 3)], none⟩])
      (.seq (.cond (.tmp 6)
        .skip
        (.exit 0))
      (.seq (.blk 1
        (.seq (.reg [
          ⟨(some 7), .v .mv [.tmp 5], none⟩,
          ⟨(some 4), .v .mv [.tmp 7], none⟩])
        (.dreg [
          ⟨(some 8), .v .mv [.tmp 4], none⟩,
          ⟨(some 9), .ld (some 13) (.tmp 1), none⟩,
          ⟨(some 10), .v .mv [.tmp 4], none⟩,
          ⟨(some 11), .v (.fa 9) [.tmp 1], none⟩,
          ⟨(some 12), .v (.fa 1) [.tmp 11], none⟩,
          ⟨(some 13), .ld none (.tmp 12), none⟩,
          ⟨(some 14), .call (.func 32) [.tmp 9, .tmp 10, .tmp 13], none⟩,
          ⟨(some 15), .v (.fld 0 none) [.tmp 14], none⟩,
          ⟨(some 16), .ld (some 13) (.tmp 1), none⟩,
          ⟨(some 17), .v .mv [.tmp 4], none⟩,
          ⟨(some 18), .v (.fa 9) [.tmp 1], none⟩,
          ⟨(some 19), .v (.fa 0) [.tmp 18], none⟩,
          ⟨(some 20), .ld none (.tmp 19), none⟩,
          ⟨(some 21), .call (.func 32) [.tmp 16, .tmp 17, .tmp 20], none⟩,
          ⟨(some 22), .v (.fld 1 none) [.tmp 21], none⟩,
          ⟨(some 23), .v (.bld [(.int .i64 0), (.int .i64 0)] [(0, 1), (1, 1)]) [.tmp 15, .tmp 22], none⟩,
          ⟨(some 24), .v (.iaa 2 3) [.tmp 3, .tmp 8], none⟩,
          ⟨none, .st 2 (.tmp 24) (.tmp 23), none⟩] [⟨0, false, false⟩, ⟨3, true, false⟩, ⟨0, true, false⟩, ⟨0, true, false⟩, ⟨0, true, false⟩, ⟨3, true, false⟩, ⟨1, true, false⟩, ⟨0, false, false⟩, ⟨3, false, false⟩, ⟨0, false, false⟩, ⟨0, false, false⟩, ⟨0, false, false⟩, ⟨3, false, false⟩, ⟨1, true, false⟩, ⟨0, true, false⟩, ⟨0, true, false⟩, ⟨0, true, true⟩, ⟨5, true, true⟩])))
      (.reg [
        ⟨(some 25), .v (.ib .add) [.tmp 5, .const (.int .i64 1)], none⟩,
        ⟨(some 5), .v .mv [.tmp 25], none⟩]))))
def b14 : PCode :=
  (.seq (.reg [
    ⟨(some 1), .lbox 37 (.tmp 0), none⟩,
    ⟨(some 2), .lalloc 34 (.agg #[(.int .i64 0), (.int .i64 0), (.int .i64 0), (.int .i64 0), (.int .i64 0), (.int .i64 0)]), none⟩])
  (.seq (.reg [
    ⟨(some 3), .lalloc 34 (.agg #[(.int .i64 0), (.int .i64 0), (.int .i64 0), (.int .i64 0), (.int .i64 0), (.int .i64 0)]), none⟩])
  (.seq (.seq (.reg [
    ⟨(some 5), .v .mv [.const (.int .i64 0)], none⟩])
  (.blk 0
    (.loop q14x0)))
  (.seq (.reg [
    ⟨(some 26), .ld (some 6) (.tmp 3), none⟩,
    ⟨none, .st 6 (.tmp 2) (.tmp 26), none⟩])
  .ret))))
def p14 : PFunc := ⟨27, [(2, some (some 6))], none, b14⟩
def b15 : PCode :=
  (.seq (.reg [
    ⟨(some 1), .box 32 (.tmp 0), none⟩,
    ⟨(some 2), .v .mv [.const (.bool false)], none⟩])
  (.seq (.reg [
    ⟨(some 3), .v .mv [.func 33], none⟩])
  (.seq (.reg [
    ⟨(some 4), .v .mv [.func 35], none⟩])
  (.seq (.reg [
    ⟨(some 5), .v (.fa 0) [.tmp 1], none⟩,
    ⟨(some 6), .ld none (.tmp 5), none⟩,
    ⟨(some 7), .v .len [.tmp 6], none⟩,
    ⟨(some 8), .call (.func 34) [.tmp 7, .const (.int .i64 1), .const (.int .i64 12)], none⟩,
    ⟨(some 9), .v .mv [.tmp 8], none⟩,
    ⟨(some 10), .v (.fa 2) [.tmp 1], some (9, true)⟩,
    ⟨(some 11), .ld none (.tmp 10), some (9, true)⟩,
    ⟨(some 12), .v .len [.tmp 11], some (9, true)⟩,
    ⟨(some 13), .call (.func 34) [.tmp 12, .const (.int .i64 1), .const (.int .i64 5)], some (9, true)⟩,
    ⟨(some 14), .v .pick [.tmp 9, .tmp 13, .const (.bool false)], none⟩,
    ⟨(some 15), .v .mv [.tmp 14], none⟩,
    ⟨(some 16), .v (.fa 0) [.tmp 1], some (15, true)⟩,
    ⟨(some 17), .ld none (.tmp 16), some (15, true)⟩,
    ⟨(some 18), .v .mv [.tmp 3], some (15, true)⟩,
    ⟨(some 19), .call (.func 36) [.tmp 17, .tmp 18], some (15, true)⟩,
    ⟨(some 20), .v .no [.tmp 19], some (15, true)⟩,
    ⟨(some 21), .v .pick [.tmp 15, .tmp 20, .const (.bool false)], none⟩,
    ⟨(some 22), .v .mv [.tmp 21], none⟩,
    ⟨(some 23), .v (.fa 2) [.tmp 1], some (22, true)⟩,
    ⟨(some 24), .ld none (.tmp 23), some (22, true)⟩,
    ⟨(some 25), .v .mv [.tmp 4], some (22, true)⟩,
    ⟨(some 26), .call (.func 37) [.tmp 24, .tmp 25], some (22, true)⟩,
    ⟨(some 27), .v .no [.tmp 26], some (22, true)⟩,
    ⟨(some 28), .v .pick [.tmp 22, .tmp 27, .const (.bool false)], none⟩,
    ⟨(some 29), .v .mv [.tmp 28], none⟩,
    ⟨(some 30), .v (.fa 1) [.tmp 1], some (29, true)⟩,
    ⟨(some 31), .ld none (.tmp 30), some (29, true)⟩,
    ⟨(some 32), .call (.func 38) [.tmp 31], some (29, true)⟩,
    ⟨(some 33), .v .pick [.tmp 29, .tmp 32, .const (.bool false)], none⟩,
    ⟨(some 34), .v .mv [.tmp 33], none⟩,
    ⟨(some 35), .v (.fa 1) [.tmp 1], some (34, true)⟩,
    ⟨(some 36), .ld none (.tmp 35), some (34, true)⟩,
    ⟨(some 37), .v (.mkf (.func 40) 0) [.tmp 1], some (34, true)⟩,
    ⟨(some 38), .call (.func 39) [.tmp 36, .tmp 37], some (34, true)⟩,
    ⟨(some 39), .v .no [.tmp 38], some (34, true)⟩,
    ⟨(some 40), .v .pick [.tmp 34, .tmp 39, .const (.bool false)], none⟩,
    ⟨(some 2), .v .mv [.tmp 40], none⟩])
  .ret))))
def p15 : PFunc := ⟨41, [(2, none)], none, b15⟩
def b16 : PCode :=
  (.seq (.reg [
    ⟨(some 2), .box 32 (.tmp 0), none⟩,
    ⟨(some 4), .v .mv [.const (.bool false)], none⟩])
  (.seq (.reg [
    ⟨(some 5), .v .mv [.tmp 1], none⟩,
    ⟨(some 6), .v .len [.tmp 5], none⟩,
    ⟨(some 7), .v (.fa 2) [.tmp 2], none⟩,
    ⟨(some 8), .ld none (.tmp 7), none⟩,
    ⟨(some 9), .v .len [.tmp 8], none⟩,
    ⟨(some 10), .v (.ib .eql) [.tmp 6, .tmp 9], none⟩,
    ⟨(some 11), .v .mv [.tmp 10], none⟩,
    ⟨(some 12), .v .mv [.tmp 1], some (11, true)⟩,
    ⟨(some 13), .call (.func 38) [.tmp 12], some (11, true)⟩,
    ⟨(some 14), .v .pick [.tmp 11, .tmp 13, .const (.bool false)], none⟩,
    ⟨(some 15), .v .mv [.tmp 14], none⟩,
    ⟨(some 16), .v .mv [.tmp 1], some (15, true)⟩,
    ⟨(some 17), .v (.mkf (.func 42) 0) [.tmp 2], some (15, true)⟩,
    ⟨(some 18), .call (.func 39) [.tmp 16, .tmp 17], some (15, true)⟩,
    ⟨(some 19), .v .no [.tmp 18], some (15, true)⟩,
    ⟨(some 20), .v .pick [.tmp 15, .tmp 19, .const (.bool false)], none⟩,
    ⟨(some 4), .v .mv [.tmp 20], none⟩])
  .ret))
def p16 : PFunc := ⟨21, [(4, none)], none, b16⟩
def q17x0 : PCode :=
  (.seq (.reg [
        ⟨(some 14), .v (.ib .lss) [.tmp 13, .tmp 12], none⟩])
      (.seq (.cond (.tmp 14)
        .skip
        (.exit 0))
      (.seq (.blk 1
        (.seq (.reg [
          ⟨(some 15), .v .mv [.tmp 13], none⟩,
          ⟨(some 16), .v (.ia 2) [.tmp 11, .tmp 13], none⟩,
          ⟨(some 17), .ld (some 2) (.tmp 16), none⟩,
          ⟨(some 5), .lalloc 23 (.agg #[(.int .i64 0), (.int .i64 0)]), none⟩,
          ⟨(some 4), .v .mv [.tmp 15], none⟩,
          ⟨none, .st 2 (.tmp 5) (.tmp 17), none⟩])
        (.dreg [
          ⟨(some 18), .v (.fa 3) [.tmp 3], none⟩,
          ⟨(some 19), .ld none (.tmp 18), none⟩,
          ⟨(some 20), .v (.fa 3) [.tmp 3], none⟩,
          ⟨(some 21), .ld none (.tmp 20), none⟩,
          ⟨(some 22), .v .mv [.tmp 4], none⟩,
          ⟨(some 23), .v (.ia 1) [.tmp 21, .tmp 22], none⟩,
          ⟨(some 24), .ld none (.tmp 23), none⟩,
          ⟨(some 25), .v (.fa 0) [.tmp 5], none⟩,
          ⟨(some 26), .ld none (.tmp 25), none⟩,
          ⟨(some 27), .v (.ib .add) [.tmp 24, .tmp 26], none⟩,
          ⟨(some 28), .lbs 3 1 [(.int .i64 0)] 1 [(0, .tmp 27)], none⟩,
          ⟨(some 29), .app 3 1 (.tmp 19) (.tmp 28), none⟩,
          ⟨(some 30), .v (.fa 4) [.tmp 3], none⟩,
          ⟨(some 31), .ld none (.tmp 30), none⟩,
          ⟨(some 32), .v (.fa 4) [.tmp 3], none⟩,
          ⟨(some 33), .ld none (.tmp 32), none⟩,
          ⟨(some 34), .v .mv [.tmp 4], none⟩,
          ⟨(some 35), .v (.ia 1) [.tmp 33, .tmp 34], none⟩,
          ⟨(some 36), .ld none (.tmp 35), none⟩,
          ⟨(some 37), .v (.fa 1) [.tmp 5], none⟩,
          ⟨(some 38), .ld none (.tmp 37), none⟩,
          ⟨(some 39), .v (.ib .add) [.tmp 36, .tmp 38], none⟩,
          ⟨(some 40), .lbs 3 1 [(.int .i64 0)] 1 [(0, .tmp 39)], none⟩,
          ⟨(some 41), .app 3 1 (.tmp 31) (.tmp 40), none⟩,
          ⟨(some 42), .v (.fa 3) [.tmp 3], none⟩,
          ⟨none, .st 1 (.tmp 42) (.tmp 29), none⟩,
          ⟨(some 43), .v (.fa 4) [.tmp 3], none⟩,
          ⟨none, .st 1 (.tmp 43) (.tmp 41), none⟩] [⟨0, false, false⟩, ⟨5, false, false⟩, ⟨0, false, false⟩, ⟨5, false, false⟩, ⟨0, false, false⟩, ⟨0, false, false⟩, ⟨1, false, false⟩, ⟨0, false, false⟩, ⟨7, false, false⟩, ⟨0, false, false⟩, ⟨30, false, false⟩, ⟨1, false, false⟩, ⟨0, false, false⟩, ⟨5, false, false⟩, ⟨0, false, false⟩, ⟨5, false, false⟩, ⟨0, false, false⟩, ⟨0, false, false⟩, ⟨1, false, false⟩, ⟨0, false, false⟩, ⟨7, false, false⟩, ⟨0, false, false⟩, ⟨42, false, false⟩, ⟨1, true, false⟩, ⟨0, false, false⟩, ⟨5, true, true⟩, ⟨0, true, true⟩, ⟨5, true, true⟩])))
      (.reg [
        ⟨(some 44), .v (.ib .add) [.tmp 13, .const (.int .i64 1)], none⟩,
        ⟨(some 13), .v .mv [.tmp 44], none⟩]))))
def b17 : PCode :=
  (.seq (.reg [
    ⟨(some 1), .lbox 32 (.tmp 0), none⟩,
    ⟨(some 2), .lalloc 61 (.agg #[(.slice none 0 0), (.slice none 0 0), (.slice none 0 0), (.slice none 0 0), (.slice none 0 0)]), none⟩])
  (.seq (.reg [
    ⟨(some 6), .ld (some 3) (.tmp 1), none⟩,
    ⟨(some 7), .bs 3 1 [(.int .i64 0)] 1 [(0, .const (.int .i64 0))], none⟩,
    ⟨(some 8), .bs 3 1 [(.int .i64 0)] 1 [(0, .const (.int .i64 0))], none⟩,
    ⟨(some 9), .v (.bld [(.slice none 0 0), (.slice none 0 0), (.slice none 0 0), (.slice none 0 0), (.slice none 0 0)] [(0, 3), (3, 1), (4, 1)]) [.tmp 6, .tmp 7, .tmp 8], none⟩,
    ⟨(some 3), .lalloc 61 (.agg #[(.slice none 0 0), (.slice none 0 0), (.slice none 0 0), (.slice none 0 0), (.slice none 0 0)]), none⟩,
    ⟨none, .st 5 (.tmp 3) (.tmp 9), none⟩])
  (.seq (.seq (.reg [
    ⟨(some 10), .v (.fa 0) [.tmp 1], none⟩,
    ⟨(some 11), .ld none (.tmp 10), none⟩,
    ⟨(some 12), .v .len [.tmp 11], none⟩,
    ⟨(some 13), .v .mv [.const (.int .i64 0)], none⟩])
  (.blk 0
    (.loop q17x0)))
  (.seq (.reg [
    ⟨(some 45), .ld (some 5) (.tmp 3), none⟩,
    ⟨none, .st 5 (.tmp 2) (.tmp 45), none⟩])
  .ret))))
def p17 : PFunc := ⟨46, [(2, some (some 5))], none, b17⟩
def b18 : PCode :=
  (.seq (.reg [
    ⟨(some 2), .box 61 (.tmp 0), none⟩,
    ⟨(some 3), .box 26 (.tmp 1), none⟩,
    ⟨(some 4), .lalloc 65 (.agg #[(.int .i64 0), (.int .i64 0)]), none⟩,
    ⟨(some 5), .v .mv [.const (.int .i64 0)], none⟩])
  (.seq (.reg [
    ⟨(some 6), .v (.mkf (.func 45) 0) [.tmp 3, .tmp 2], none⟩,
    ⟨(some 7), .call (.func 44) [.tmp 6], none⟩,
    ⟨(some 8), .v (.ext 0) [.tmp 7], none⟩,
    ⟨(some 9), .v (.ext 1) [.tmp 7], none⟩,
    ⟨none, .st 2 (.tmp 4) (.tmp 8), none⟩,
    ⟨(some 5), .v .mv [.tmp 9], none⟩])
  .ret))
def p18 : PFunc := ⟨10, [(4, some (some 2)), (5, none)], none, b18⟩
def b19 : PCode :=
  (.seq (.reg [
    ⟨(some 3), .lbox 61 (.tmp 0), none⟩,
    ⟨(some 6), .v .mv [.const (.int .i64 0)], none⟩,
    ⟨(some 7), .v .mv [.const (.bool false)], none⟩])
  (.seq (.seq (.reg [
    ⟨(some 8), .v .mv [.tmp 2], none⟩,
    ⟨(some 9), .v .mv [.tmp 1], none⟩,
    ⟨(some 10), .v .len [.tmp 9], none⟩,
    ⟨(some 11), .v (.ib .sub) [.tmp 10, .const (.int .i64 1)], none⟩,
    ⟨(some 12), .v (.ib .eql) [.tmp 8, .tmp 11], none⟩])
  (.cond (.tmp 12)
    (.seq (.reg [
      ⟨(some 13), .v (.fa 0) [.tmp 3], none⟩,
      ⟨(some 14), .v (.fa 0) [.tmp 13], none⟩,
      ⟨(some 15), .ld none (.tmp 14), none⟩,
      ⟨(some 16), .v .len [.tmp 15], none⟩,
      ⟨(some 6), .v .mv [.tmp 16], none⟩,
      ⟨(some 7), .v .mv [.const (.bool false)], none⟩])
    .ret)
    .skip))
  (.seq (.reg [
    ⟨(some 17), .v .mv [.tmp 1], none⟩,
    ⟨(some 18), .v .mv [.tmp 2], none⟩,
    ⟨(some 19), .v (.ib .add) [.tmp 18, .const (.int .i64 1)], none⟩,
    ⟨(some 20), .v (.ia 1) [.tmp 17, .tmp 19], none⟩,
    ⟨(some 21), .ld none (.tmp 20), none⟩,
    ⟨(some 6), .v .mv [.tmp 21], none⟩,
    ⟨(some 7), .v .mv [.const (.bool true)], none⟩])
  .ret)))
def p19 : PFunc := ⟨22, [(6, none), (7, none)], none, b19⟩
def b20 : PCode :=
  (.seq (.reg [
    ⟨(some 3), .lbox 61 (.tmp 0), none⟩,
    ⟨(some 6), .lalloc 23 (.agg #[(.int .i64 0), (.int .i64 0)]), none⟩])
  (.seq (.reg [
    ⟨(some 8), .ld (some 5) (.tmp 3), none⟩,
    ⟨(some 9), .v (.mkf (.func 47) 1) [.tmp 8], none⟩,
    ⟨(some 10), .ld (some 5) (.tmp 3), none⟩,
    ⟨(some 11), .v (.mkf (.func 48) 1) [.tmp 10], none⟩,
    ⟨(some 12), .v (.bld [.nilFunc, .nilFunc] [(0, 1), (1, 1)]) [.tmp 9, .tmp 11], none⟩,
    ⟨(some 7), .lalloc 100 (.agg #[.nilFunc, .nilFunc]), none⟩,
    ⟨none, .st 2 (.tmp 7) (.tmp 12), none⟩])
  (.seq (.dreg [
    ⟨(some 13), .v (.iaa 1 2) [.tmp 7, .const (.int .i64 0)], none⟩,
    ⟨(some 14), .ld none (.tmp 13), none⟩,
    ⟨(some 15), .v .mv [.tmp 1], none⟩,
    ⟨(some 16), .v .mv [.tmp 2], none⟩,
    ⟨(some 17), .call (.tmp 14) [.tmp 15, .tmp 16], none⟩,
    ⟨(some 18), .v (.iaa 1 2) [.tmp 7, .const (.int .i64 1)], none⟩,
    ⟨(some 19), .ld none (.tmp 18), none⟩,
    ⟨(some 20), .v .mv [.tmp 1], none⟩,
    ⟨(some 21), .v .mv [.tmp 2], none⟩,
    ⟨(some 22), .call (.tmp 19) [.tmp 20, .tmp 21], none⟩,
    ⟨(some 23), .v (.bld [(.int .i64 0), (.int .i64 0)] [(0, 1), (1, 1)]) [.tmp 17, .tmp 22], none⟩,
    ⟨none, .st 2 (.tmp 6) (.tmp 23), none⟩] [⟨0, true, false⟩, ⟨9, true, false⟩, ⟨0, true, false⟩, ⟨0, true, false⟩, ⟨1, true, false⟩, ⟨0, false, false⟩, ⟨9, false, false⟩, ⟨0, false, false⟩, ⟨0, false, false⟩, ⟨1, true, true⟩, ⟨0, true, true⟩, ⟨8, true, true⟩])
  .ret)))
def p20 : PFunc := ⟨24, [(6, some (some 2))], none, b20⟩
def q21x0 : PCode :=
  (.seq (.reg [
        ⟨(some 28), .v (.ib .lss) [.tmp 27, .tmp 26], none⟩])
      (.seq (.cond (.tmp 28)
        .skip
        (.exit 0))
      (.seq (.blk 1
        (.seq (.reg [
          ⟨(some 29), .v .mv [.tmp 27], none⟩,
          ⟨(some 30), .v (.ia 4) [.tmp 25, .tmp 27], none⟩,
          ⟨(some 31), .ld (some 4) (.tmp 30), none⟩,
          ⟨(some 4), .lalloc 102 (.agg #[(.int .i64 0), (.int .i64 0), (.int .i64 0), (.int .i64 0)]), none⟩,
          ⟨(some 3), .v .mv [.tmp 29], none⟩,
          ⟨none, .st 4 (.tmp 4) (.tmp 31), none⟩])
        (.seq (.dreg [
          ⟨(some 32), .ld (some 10) (.tmp 1), none⟩,
          ⟨(some 33), .ld (some 4) (.tmp 4), none⟩,
          ⟨(some 34), .call (.func 50) [.tmp 32, .tmp 33], none⟩,
          ⟨(some 35), .v .no [.tmp 34], none⟩,
          ⟨(some 36), .v .mv [.tmp 35], none⟩,
          ⟨(some 37), .v .mv [.tmp 3], some (36, false)⟩,
          ⟨(some 38), .v (.ib .gtr) [.tmp 37, .const (.int .i64 0)], some (36, false)⟩,
          ⟨(some 39), .v .mv [.tmp 38], some (36, false)⟩,
          ⟨(some 40), .v (.fa 1) [.tmp 1], some (39, true)⟩,
          ⟨(some 41), .ld none (.tmp 40), some (39, true)⟩,
          ⟨(some 42), .v .mv [.tmp 3], some (39, true)⟩,
          ⟨(some 43), .v (.ib .sub) [.tmp 42, .const (.int .i64 1)], some (39, true)⟩,
          ⟨(some 44), .v (.ia 4) [.tmp 41, .tmp 43], some (39, true)⟩,
          ⟨(some 45), .ld (some 4) (.tmp 44), some (39, true)⟩,
          ⟨(some 46), .ld (some 4) (.tmp 4), some (39, true)⟩,
          ⟨(some 47), .call (.func 51) [.tmp 45, .tmp 46], some (39, true)⟩,
          ⟨(some 48), .v .no [.tmp 47], some (39, true)⟩,
          ⟨(some 49), .v .pick [.tmp 39, .tmp 48, .const (.bool false)], some (36, false)⟩,
          ⟨(some 50), .v .pick [.tmp 36, .const (.bool true), .tmp 49], none⟩] [⟨1, true, false⟩, ⟨6, false, false⟩, ⟨1, true, true⟩, ⟨0, true, true⟩, ⟨0, true, true⟩, ⟨0, true, true⟩, ⟨0, true, true⟩, ⟨0, true, true⟩, ⟨0, true, false⟩, ⟨1, true, false⟩, ⟨0, false, false⟩, ⟨0, false, false⟩, ⟨0, true, false⟩, ⟨1, true, false⟩, ⟨6, false, false⟩, ⟨1, true, true⟩, ⟨0, true, true⟩, ⟨0, true, true⟩, ⟨0, true, true⟩])
        (.cond (.tmp 50)
          (.seq (.reg [
            ⟨(some 2), .v .mv [.const (.bool false)], none⟩])
          .ret)
          .skip))))
      (.reg [
        ⟨(some 51), .v (.ib .add) [.tmp 27, .const (.int .i64 1)], none⟩,
        ⟨(some 27), .v .mv [.tmp 51], none⟩]))))
def b21 : PCode :=
  (.seq (.reg [
    ⟨(some 1), .box 50 (.tmp 0), none⟩,
    ⟨(some 2), .v .mv [.const (.bool false)], none⟩])
  (.seq (.seq (.reg [
    ⟨(some 6), .v (.fa 0) [.tmp 1], none⟩,
    ⟨(some 7), .ld none (.tmp 6), none⟩,
    ⟨(some 8), .v .len [.tmp 7], none⟩,
    ⟨(some 9), .call (.func 49) [.tmp 8, .const (.int .i64 1), .const (.int .i64 6)], none⟩,
    ⟨(some 10), .v .no [.tmp 9], none⟩,
    ⟨(some 11), .v .mv [.tmp 10], none⟩,
    ⟨(some 12), .v (.fa 1) [.tmp 1], some (11, false)⟩,
    ⟨(some 13), .ld none (.tmp 12), some (11, false)⟩,
    ⟨(some 14), .v .len [.tmp 13], some (11, false)⟩,
    ⟨(some 15), .v (.ib .gtr) [.tmp 14, .const (.int .i64 6)], some (11, false)⟩,
    ⟨(some 16), .v .pick [.tmp 11, .const (.bool true), .tmp 15], none⟩,
    ⟨(some 17), .v .mv [.tmp 16], none⟩,
    ⟨(some 18), .v (.fa 7) [.tmp 1], some (17, false)⟩,
    ⟨(some 19), .ld none (.tmp 18), some (17, false)⟩,
    ⟨(some 20), .v .len [.tmp 19], some (17, false)⟩,
    ⟨(some 21), .call (.func 49) [.tmp 20, .const (.int .i64 1), .const (.int .i64 4)], some (17, false)⟩,
    ⟨(some 22), .v .no [.tmp 21], some (17, false)⟩,
    ⟨(some 23), .v .pick [.tmp 17, .const (.bool true), .tmp 22], none⟩])
  (.cond (.tmp 23)
    (.seq (.reg [
      ⟨(some 2), .v .mv [.const (.bool false)], none⟩])
    .ret)
    .skip))
  (.seq (.seq (.reg [
    ⟨(some 24), .v (.fa 1) [.tmp 1], none⟩,
    ⟨(some 25), .ld none (.tmp 24), none⟩,
    ⟨(some 26), .v .len [.tmp 25], none⟩,
    ⟨(some 27), .v .mv [.const (.int .i64 0)], none⟩])
  (.blk 0
    (.loop q21x0)))
  (.seq (.reg [
    ⟨(some 5), .v .mv [.func 52], none⟩])
  (.seq (.reg [
    ⟨(some 52), .v (.fa 0) [.tmp 1], none⟩,
    ⟨(some 53), .ld none (.tmp 52), none⟩,
    ⟨(some 54), .v .mv [.tmp 5], none⟩,
    ⟨(some 55), .call (.func 39) [.tmp 53, .tmp 54], none⟩,
    ⟨(some 56), .v .no [.tmp 55], none⟩,
    ⟨(some 57), .v .mv [.tmp 56], none⟩,
    ⟨(some 58), .v (.fa 2) [.tmp 1], some (57, true)⟩,
    ⟨(some 59), .ld (some 2) (.tmp 58), some (57, true)⟩,
    ⟨(some 60), .call (.func 53) [.tmp 59, .const (.int .i64 0), .const (.int .i64 9)], some (57, true)⟩,
    ⟨(some 61), .v .pick [.tmp 57, .tmp 60, .const (.bool false)], none⟩,
    ⟨(some 62), .v .mv [.tmp 61], none⟩,
    ⟨(some 63), .v (.fa 4) [.tmp 1], some (62, true)⟩,
    ⟨(some 64), .ld (some 2) (.tmp 63), some (62, true)⟩,
    ⟨(some 65), .call (.func 53) [.tmp 64, .const (.int .i64 0), .const (.int .i64 20)], some (62, true)⟩,
    ⟨(some 66), .v .pick [.tmp 62, .tmp 65, .const (.bool false)], none⟩,
    ⟨(some 67), .v .mv [.tmp 66], none⟩,
    ⟨(some 68), .v (.fa 6) [.tmp 1], some (67, true)⟩,
    ⟨(some 69), .ld none (.tmp 68), some (67, true)⟩,
    ⟨(some 70), .call (.func 49) [.tmp 69, .const (.int .i64 1), .const (.int .i64 20)], some (67, true)⟩,
    ⟨(some 71), .v .pick [.tmp 67, .tmp 70, .const (.bool false)], none⟩,
    ⟨(some 72), .v .mv [.tmp 71], none⟩,
    ⟨(some 73), .v (.fa 7) [.tmp 1], some (72, true)⟩,
    ⟨(some 74), .ld none (.tmp 73), some (72, true)⟩,
    ⟨(some 75), .v (.mkf (.func 55) 0) [.tmp 1], some (72, true)⟩,
    ⟨(some 76), .call (.func 54) [.tmp 74, .tmp 75], some (72, true)⟩,
    ⟨(some 77), .v .no [.tmp 76], some (72, true)⟩,
    ⟨(some 78), .v .pick [.tmp 72, .tmp 77, .const (.bool false)], none⟩,
    ⟨(some 79), .v .mv [.tmp 78], none⟩,
    ⟨(some 80), .v (.fa 8) [.tmp 1], some (79, true)⟩,
    ⟨(some 81), .ld none (.tmp 80), some (79, true)⟩,
    ⟨(some 82), .call (.func 49) [.tmp 81, .const (.int .i64 1), .const (.int .i64 400)], some (79, true)⟩,
    ⟨(some 83), .v .pick [.tmp 79, .tmp 82, .const (.bool false)], none⟩,
    ⟨(some 84), .v .mv [.tmp 83], none⟩,
    ⟨(some 85), .v (.fa 9) [.tmp 1], some (84, true)⟩,
    ⟨(some 86), .ld none (.tmp 85), some (84, true)⟩,
    ⟨(some 87), .call (.func 49) [.tmp 86, .const (.int .i64 1), .const (.int .i64 3)], some (84, true)⟩,
    ⟨(some 88), .v .pick [.tmp 84, .tmp 87, .const (.bool false)], none⟩,
    ⟨(some 2), .v .mv [.tmp 88], none⟩])
  .ret)))))
def p21 : PFunc := ⟨89, [(2, none)], none, b21⟩
def q22x0 : PCode :=
  (.seq (.reg [
        ⟨(some 13), .v (.ib .lss) [.tmp 12, .tmp 11], none⟩])
      (.seq (.cond (.tmp 13)
        .skip
        (.exit 0))
      (.seq (.blk 1
        (.seq (.reg [
          ⟨(some 14), .v (.ia 4) [.tmp 10, .tmp 12], none⟩,
          ⟨(some 15), .ld (some 4) (.tmp 14), none⟩,
          ⟨(some 5), .lalloc 102 (.agg #[(.int .i64 0), (.int .i64 0), (.int .i64 0), (.int .i64 0)]), none⟩,
          ⟨none, .st 4 (.tmp 5) (.tmp 15), none⟩])
        (.reg [
          ⟨(some 16), .v (.fa 10) [.tmp 3], none⟩,
          ⟨(some 17), .ld none (.tmp 16), none⟩,
          ⟨(some 18), .v (.fa 0) [.tmp 5], none⟩,
          ⟨(some 19), .ld none (.tmp 18), none⟩,
          ⟨(some 20), .v (.fa 1) [.tmp 5], none⟩,
          ⟨(some 21), .ld none (.tmp 20), none⟩,
          ⟨(some 22), .v (.bld [(.int .i64 0), (.int .i64 0)] [(0, 1), (1, 1)]) [.tmp 19, .tmp 21], none⟩,
          ⟨(some 23), .v (.fa 2) [.tmp 5], none⟩,
          ⟨(some 24), .ld (some 2) (.tmp 23), none⟩,
          ⟨none, .mup (.agg [(.i .i64), (.i .i64)]) (.tmp 17) (.tmp 22) (.tmp 24), none⟩])))
      (.reg [
        ⟨(some 25), .v (.ib .add) [.tmp 12, .const (.int .i64 1)], none⟩,
        ⟨(some 12), .v .mv [.tmp 25], none⟩]))))
def b22 : PCode :=
  (.seq (.reg [
    ⟨(some 1), .lbox 50 (.tmp 0), none⟩,
    ⟨(some 2), .lalloc 76 (.agg #[(.slice none 0 0), (.slice none 0 0), (.int .i64 0), (.int .i64 0), (.int .i64 0), (.int .i64 0), (.int .i64 0), (.slice none 0 0), (.int .i64 0), (.int .i64 0), (.map none)]), none⟩])
  (.seq (.reg [
    ⟨(some 6), .ld (some 10) (.tmp 1), none⟩,
    ⟨(some 7), .mkm (.agg [(.i .i64), (.i .i64)]), none⟩,
    ⟨(some 8), .v (.bld [(.slice none 0 0), (.slice none 0 0), (.int .i64 0), (.int .i64 0), (.int .i64 0), (.int .i64 0), (.int .i64 0), (.slice none 0 0), (.int .i64 0), (.int .i64 0), (.map none)] [(0, 10), (10, 1)]) [.tmp 6, .tmp 7], none⟩,
    ⟨(some 3), .lalloc 76 (.agg #[(.slice none 0 0), (.slice none 0 0), (.int .i64 0), (.int .i64 0), (.int .i64 0), (.int .i64 0), (.int .i64 0), (.slice none 0 0), (.int .i64 0), (.int .i64 0), (.map none)]), none⟩,
    ⟨none, .st 11 (.tmp 3) (.tmp 8), none⟩])
  (.seq (.seq (.reg [
    ⟨(some 9), .v (.fa 1) [.tmp 1], none⟩,
    ⟨(some 10), .ld none (.tmp 9), none⟩,
    ⟨(some 11), .v .len [.tmp 10], none⟩,
    ⟨(some 12), .v .mv [.const (.int .i64 0)], none⟩])
  (.blk 0
    (.loop q22x0)))
  (.seq (.reg [
    ⟨(some 26), .ld (some 11) (.tmp 3), none⟩,
    ⟨none, .st 11 (.tmp 2) (.tmp 26), none⟩])
  .ret))))
def p22 : PFunc := ⟨27, [(2, some (some 11))], none, b22⟩
def q23x0 : PCode :=
  (.seq (.reg [
        ⟨(some 15), .v (.ib .lss) [.tmp 14, .tmp 13], none⟩])
      (.seq (.cond (.tmp 15)
        .skip
        (.exit 0))
      (.seq (.blk 1
        (.seq (.reg [
          ⟨(some 16), .v (.ia 3) [.tmp 12, .tmp 14], none⟩,
          ⟨(some 17), .ld (some 3) (.tmp 16), none⟩,
          ⟨(some 7), .lalloc 73 (.agg #[(.slice none 0 0), (.slice none 0 0), (.bool false)]), none⟩,
          ⟨none, .st 3 (.tmp 7) (.tmp 17), none⟩])
        (.seq (.seq (.reg [
          ⟨(some 18), .v .mv [.tmp 1], none⟩,
          ⟨(some 19), .v (.ib .eql) [.tmp 18, .const (.int .i64 0)], none⟩])
        (.cond (.tmp 19)
          (.exit 0)
          .skip))
        (.seq (.reg [
          ⟨(some 20), .v .mv [.tmp 1], none⟩,
          ⟨(some 21), .v (.fa 0) [.tmp 7], none⟩,
          ⟨(some 22), .ld none (.tmp 21), none⟩,
          ⟨(some 23), .v .len [.tmp 22], none⟩,
          ⟨(some 24), .v .mn [.tmp 20, .tmp 23], none⟩,
          ⟨(some 8), .alloc 3 (.int .i64 0), none⟩,
          ⟨none, .st 1 (.tmp 8) (.tmp 24), none⟩])
        (.seq (.reg [
          ⟨(some 25), .v .mv [.tmp 1], none⟩,
          ⟨(some 26), .ld none (.tmp 8), none⟩,
          ⟨(some 27), .v (.ib .sub) [.tmp 25, .tmp 26], none⟩,
          ⟨(some 1), .v .mv [.tmp 27], none⟩])
        (.seq (.reg [
          ⟨(some 28), .v (.fa 0) [.tmp 7], none⟩,
          ⟨(some 29), .ld none (.tmp 28), none⟩,
          ⟨(some 30), .ld none (.tmp 8), none⟩,
          ⟨(some 31), .v (.sl 1 false true) [.tmp 29, .tmp 30], none⟩,
          ⟨(some 32), .v (.fa 0) [.tmp 7], none⟩,
          ⟨none, .st 1 (.tmp 32) (.tmp 31), none⟩])
        (.seq (.reg [
          ⟨(some 33), .v (.fa 1) [.tmp 7], none⟩,
          ⟨(some 34), .ld none (.tmp 33), none⟩,
          ⟨(some 35), .call (.func 58) [.tmp 34], none⟩,
          ⟨(some 36), .v (.mkf (.func 59) 0) [.tmp 8], none⟩,
          ⟨(some 37), .call (.func 57) [.tmp 35, .tmp 36], none⟩,
          ⟨(some 38), .v (.fa 1) [.tmp 7], none⟩,
          ⟨none, .st 1 (.tmp 38) (.tmp 37), none⟩])
        (.reg [
          ⟨(some 39), .v (.fa 7) [.tmp 5], none⟩,
          ⟨(some 40), .ld none (.tmp 39), none⟩,
          ⟨(some 41), .ld (some 3) (.tmp 7), none⟩,
          ⟨(some 42), .lbs 73 3 [(.slice none 0 0), (.slice none 0 0), (.bool false)] 1 [(0, .tmp 41)], none⟩,
          ⟨(some 43), .app 73 3 (.tmp 40) (.tmp 42), none⟩,
          ⟨(some 44), .v (.fa 7) [.tmp 5], none⟩,
          ⟨none, .st 1 (.tmp 44) (.tmp 43), none⟩]))))))))
      (.reg [
        ⟨(some 45), .v (.ib .add) [.tmp 14, .const (.int .i64 1)], none⟩,
        ⟨(some 14), .v .mv [.tmp 45], none⟩]))))
def b23 : PCode :=
  (.seq (.reg [
    ⟨(some 2), .lbox 50 (.tmp 0), none⟩,
    ⟨(some 4), .lalloc 50 (.agg #[(.slice none 0 0), (.slice none 0 0), (.int .i64 0), (.int .i64 0), (.int .i64 0), (.int .i64 0), (.int .i64 0), (.slice none 0 0), (.int .i64 0), (.int .i64 0)]), none⟩])
  (.seq (.reg [
    ⟨(some 9), .ld (some 10) (.tmp 2), none⟩,
    ⟨(some 5), .lalloc 50 (.agg #[(.slice none 0 0), (.slice none 0 0), (.int .i64 0), (.int .i64 0), (.int .i64 0), (.int .i64 0), (.int .i64 0), (.slice none 0 0), (.int .i64 0), (.int .i64 0)]), none⟩,
    ⟨none, .st 10 (.tmp 5) (.tmp 9), none⟩])
  (.seq (.reg [
    ⟨(some 10), .v (.fa 7) [.tmp 5], none⟩,
    ⟨none, .st 1 (.tmp 10) (.const (.slice none 0 0)), none⟩])
  (.seq (.seq (.reg [
    ⟨(some 11), .v (.fa 7) [.tmp 2], none⟩,
    ⟨(some 12), .ld none (.tmp 11), none⟩,
    ⟨(some 13), .v .len [.tmp 12], none⟩,
    ⟨(some 14), .v .mv [.const (.int .i64 0)], none⟩])
  (.blk 0
    (.loop q23x0)))
  (.seq (.reg [
    ⟨(some 46), .ld (some 10) (.tmp 5), none⟩,
    ⟨none, .st 10 (.tmp 4) (.tmp 46), none⟩])
  .ret)))))
def p23 : PFunc := ⟨47, [(4, some (some 10))], none, b23⟩
def b24 : PCode :=
  (.seq (.reg [
    ⟨(some 2), .box 76 (.tmp 0), none⟩,
    ⟨(some 4), .v .mv [.const (.bool false)], none⟩])
  (.seq (.reg [
    ⟨(some 5), .alloc 4 (.bool false), none⟩,
    ⟨none, .st 1 (.tmp 5) (.const (.bool false)), none⟩])
  (.seq .skip
  (.seq (.seq (.reg [
    ⟨(some 7), .ld (some 11) (.tmp 2), none⟩,
    ⟨(some 8), .v .mv [.tmp 1], none⟩,
    ⟨(some 9), .call (.func 60) [.tmp 7, .tmp 8], none⟩])
  (.blk 0
    (.rf (.tmp 9) [10]
      (.reg [
        ⟨(some 6), .lalloc 118 (.agg #[(.slice none 0 0), (.slice none 0 0)]), none⟩,
        ⟨none, .st 2 (.tmp 6) (.tmp 10), none⟩])
      (.blk 1
        (.seq (.reg [
          ⟨(some 11), .ld (some 11) (.tmp 2), none⟩,
          ⟨(some 12), .ld (some 2) (.tmp 6), none⟩,
          ⟨(some 13), .call (.func 61) [.tmp 11, .tmp 12, .const (.int .i64 0)], none⟩])
        (.cond (.tmp 13)
          (.seq (.reg [
            ⟨none, .st 1 (.tmp 5) (.const (.bool true)), none⟩])
          (.exit 0))
          .skip))))))
  (.seq (.reg [
    ⟨(some 14), .ld none (.tmp 5), none⟩,
    ⟨(some 4), .v .mv [.tmp 14], none⟩])
  .ret)))))
def p24 : PFunc := ⟨15, [(4, none)], none, b24⟩
def b25 : PCode :=
  (.seq (.reg [
    ⟨(some 0), .lalloc 50 (.agg #[(.slice none 0 0), (.slice none 0 0), (.int .i64 0), (.int .i64 0), (.int .i64 0), (.int .i64 0), (.int .i64 0), (.slice none 0 0), (.int .i64 0), (.int .i64 0)]), none⟩])
  (.seq (.reg [
    ⟨(some 1), .bs 3 1 [(.int .i64 0)] 3 [(0, .const (.int .i64 6)), (1, .const (.int .i64 4)), (2, .const (.int .i64 8))], none⟩,
    ⟨(some 2), .call (.func 62) [.const (.int .i64 1), .const (.int .i64 3)], none⟩,
    ⟨(some 3), .v (.bld [(.int .i64 0), (.int .i64 0), (.int .i64 0), (.int .i64 0)] [(0, 1), (1, 1), (2, 2)]) [.const (.int .i64 0), .const (.int .i64 1), .tmp 2], none⟩,
    ⟨(some 4), .call (.func 62) [.const (.int .i64 0), .const (.int .i64 2)], none⟩,
    ⟨(some 5), .v (.bld [(.int .i64 0), (.int .i64 0), (.int .i64 0), (.int .i64 0)] [(0, 1), (1, 1), (2, 2)]) [.const (.int .i64 2), .const (.int .i64 0), .tmp 4], none⟩,
    ⟨(some 6), .bs 102 4 [(.int .i64 0), (.int .i64 0), (.int .i64 0), (.int .i64 0)] 2 [(0, .tmp 3), (1, .tmp 5)], none⟩,
    ⟨(some 7), .call (.func 62) [.const (.int .i64 2), .const (.int .i64 4)], none⟩,
    ⟨(some 8), .call (.func 62) [.const (.int .i64 5), .const (.int .i64 8)], none⟩,
    ⟨(some 9), .bs 3 1 [(.int .i64 0)] 3 [(0, .const (.int .i64 2)), (1, .const (.int .i64 0)), (2, .const (.int .i64 1))], none⟩,
    ⟨(some 10), .v (.bld [(.slice none 0 0), (.slice none 0 0), (.bool false)] [(0, 1)]) [.tmp 9], none⟩,
    ⟨(some 11), .bs 3 1 [(.int .i64 0)] 2 [(0, .const (.int .i64 0)), (1, .const (.int .i64 2))], none⟩,
    ⟨(some 12), .bs 3 1 [(.int .i64 0)] 1 [(0, .const (.int .i64 1))], none⟩,
    ⟨(some 13), .v (.bld [(.slice none 0 0), (.slice none 0 0), (.bool false)] [(0, 1), (1, 1), (2, 1)]) [.tmp 11, .tmp 12, .const (.bool true)], none⟩,
    ⟨(some 14), .bs 73 3 [(.slice none 0 0), (.slice none 0 0), (.bool false)] 2 [(0, .tmp 10), (1, .tmp 13)], none⟩,
    ⟨(some 15), .v (.bld [(.slice none 0 0), (.slice none 0 0), (.int .i64 0), (.int .i64 0), (.int .i64 0), (.int .i64 0), (.int .i64 0), (.slice none 0 0), (.int .i64 0), (.int .i64 0)] [(0, 1), (1, 1), (2, 2), (4, 2), (6, 1), (7, 1), (8, 1), (9, 1)]) [.tmp 1, .tmp 6, .tmp 7, .tmp 8, .const (.int .i64 3), .tmp 14, .const (.int .i64 21), .const (.int .i64 2)], none⟩,
    ⟨none, .st 10 (.tmp 0) (.tmp 15), none⟩])
  .ret))
def p25 : PFunc := ⟨16, [(0, some (some 10))], none, b25⟩
def b26 : PCode :=
  (.seq (.reg [
    ⟨(some 2), .lbox 32 (.tmp 0), none⟩,
    ⟨(some 4), .v .mv [.const (.slice none 0 0)], none⟩,
    ⟨(some 5), .v .mv [.const (.int .i64 0)], none⟩])
  (.seq (.seq (.reg [
    ⟨(some 7), .ld (some 3) (.tmp 2), none⟩,
    ⟨(some 8), .call (.func 15) [.tmp 7], none⟩,
    ⟨(some 9), .v .no [.tmp 8], none⟩])
  (.cond (.tmp 9)
    (.seq (.reg [
      ⟨(some 4), .v .mv [.const (.slice none 0 0)], none⟩,
      ⟨(some 5), .v .mv [.const (.int .i64 2)], none⟩])
    .ret)
    .skip))
  (.seq (.reg [
    ⟨(some 10), .ld (some 3) (.tmp 2), none⟩,
    ⟨(some 11), .call (.func 17) [.tmp 10], none⟩,
    ⟨(some 12), .call (.func 64) [.tmp 11], none⟩,
    ⟨(some 13), .call (.func 63) [.tmp 12], none⟩,
    ⟨(some 6), .v .mv [.tmp 13], none⟩])
  (.seq (.seq (.reg [
    ⟨(some 14), .v .mv [.tmp 6], none⟩,
    ⟨(some 15), .v .len [.tmp 14], none⟩,
    ⟨(some 16), .v (.ib .eql) [.tmp 15, .const (.int .i64 0)], none⟩])
  (.cond (.tmp 16)
    (.seq (.reg [
      ⟨(some 17), .v .mv [.tmp 1], none⟩,
      ⟨(some 4), .v .mv [.const (.slice none 0 0)], none⟩,
      ⟨(some 5), .v .mv [.tmp 17], none⟩])
    .ret)
    .skip))
  (.seq (.reg [
    ⟨(some 18), .v .mv [.tmp 6], none⟩,
    ⟨(some 4), .v .mv [.tmp 18], none⟩,
    ⟨(some 5), .v .mv [.const (.int .i64 0)], none⟩])
  .ret)))))
def p26 : PFunc := ⟨19, [(4, none), (5, none)], none, b26⟩
def b27 : PCode :=
  (.seq (.reg [
    ⟨(some 4), .lalloc 23 (.agg #[(.int .i64 0), (.int .i64 0)]), none⟩])
  (.seq (.reg [
    ⟨(some 5), .v .mv [.tmp 0], none⟩,
    ⟨(some 6), .v .mv [.tmp 1], none⟩,
    ⟨(some 7), .v (.bld [(.int .i64 0), (.int .i64 0)] [(0, 1), (1, 1)]) [.tmp 5, .tmp 6], none⟩,
    ⟨none, .st 2 (.tmp 4) (.tmp 7), none⟩])
  .ret))
def p27 : PFunc := ⟨8, [(4, some (some 2))], none, b27⟩
def b28 : PCode :=
  (.seq (.reg [
    ⟨(some 6), .v .mv [.const (.bool false)], none⟩])
  (.seq (.reg [
    ⟨(some 7), .v .mv [.tmp 0], none⟩,
    ⟨(some 8), .v .mv [.tmp 1], none⟩,
    ⟨(some 9), .v (.ib .geq) [.tmp 7, .tmp 8], none⟩,
    ⟨(some 10), .v .mv [.tmp 9], none⟩,
    ⟨(some 11), .v .mv [.tmp 0], some (10, true)⟩,
    ⟨(some 12), .v .mv [.tmp 2], some (10, true)⟩,
    ⟨(some 13), .v (.ib .leq) [.tmp 11, .tmp 12], some (10, true)⟩,
    ⟨(some 14), .v .pick [.tmp 10, .tmp 13, .const (.bool false)], none⟩,
    ⟨(some 6), .v .mv [.tmp 14], none⟩])
  .ret))
def p28 : PFunc := ⟨15, [(6, none)], none, b28⟩
def b29 : PCode :=
  (.seq (.reg [
    ⟨(some 2), .lbox 23 (.tmp 0), none⟩,
    ⟨(some 4), .v .mv [.const (.bool false)], none⟩])
  (.seq (.reg [
    ⟨(some 5), .v (.fa 0) [.tmp 2], none⟩,
    ⟨(some 6), .ld none (.tmp 5), none⟩,
    ⟨(some 7), .v .mv [.tmp 1], none⟩,
    ⟨(some 8), .call (.func 28) [.tmp 6, .const (.int .i64 0), .tmp 7], none⟩,
    ⟨(some 9), .v .mv [.tmp 8], none⟩,
    ⟨(some 10), .v (.fa 1) [.tmp 2], some (9, true)⟩,
    ⟨(some 11), .ld none (.tmp 10), some (9, true)⟩,
    ⟨(some 12), .v (.fa 0) [.tmp 2], some (9, true)⟩,
    ⟨(some 13), .ld none (.tmp 12), some (9, true)⟩,
    ⟨(some 14), .v .mv [.tmp 1], some (9, true)⟩,
    ⟨(some 15), .call (.func 28) [.tmp 11, .tmp 13, .tmp 14], some (9, true)⟩,
    ⟨(some 16), .v .pick [.tmp 9, .tmp 15, .const (.bool false)], none⟩,
    ⟨(some 4), .v .mv [.tmp 16], none⟩])
  .ret))
def p29 : PFunc := ⟨17, [(4, none)], none, b29⟩
def b30 : PCode :=
  (.seq (.reg [
    ⟨(some 4), .v .mv [.const (.bool false)], none⟩])
  (.seq (.reg [
    ⟨(some 5), .v .mv [.tmp 0], none⟩,
    ⟨(some 6), .v .mv [.tmp 1], none⟩,
    ⟨(some 7), .call (.func 65) [.tmp 5, .tmp 6], none⟩,
    ⟨(some 8), .v (.ib .geq) [.tmp 7, .const (.int .i64 0)], none⟩,
    ⟨(some 4), .v .mv [.tmp 8], none⟩])
  .ret))
def p30 : PFunc := ⟨9, [(4, none)], none, b30⟩
def b31 : PCode :=
  (.seq (.reg [
    ⟨(some 2), .lbox 86 (.tmp 0), none⟩,
    ⟨(some 3), .v .mv [.const (.bool false)], none⟩])
  (.seq (.reg [
    ⟨(some 4), .ld none (.tmp 1), none⟩,
    ⟨(some 5), .v (.fa 0) [.tmp 2], none⟩,
    ⟨(some 6), .v (.iaa 2 3) [.tmp 5, .tmp 4], none⟩,
    ⟨(some 7), .ld (some 2) (.tmp 6), none⟩,
    ⟨(some 8), .call (.func 29) [.tmp 7, .const (.int .i64 99)], none⟩,
    ⟨(some 9), .v .no [.tmp 8], none⟩,
    ⟨(some 3), .v .mv [.tmp 9], none⟩])
  .ret))
def p31 : PFunc := ⟨10, [(3, none)], none, b31⟩
def b32 : PCode :=
  (.seq (.reg [
    ⟨(some 3), .lbox 37 (.tmp 0), none⟩,
    ⟨(some 6), .lalloc 23 (.agg #[(.int .i64 0), (.int .i64 0)]), none⟩])
  (.seq (.reg [
    ⟨(some 8), .v .mv [.tmp 1], none⟩,
    ⟨(some 9), .v (.fa 3) [.tmp 3], none⟩,
    ⟨(some 10), .v (.iaa 2 3) [.tmp 9, .tmp 8], none⟩,
    ⟨(some 11), .ld (some 2) (.tmp 10), none⟩,
    ⟨(some 7), .lalloc 23 (.agg #[(.int .i64 0), (.int .i64 0)]), none⟩,
    ⟨none, .st 2 (.tmp 7) (.tmp 11), none⟩])
  (.seq (.dreg [
    ⟨(some 12), .v .mv [.tmp 1], none⟩,
    ⟨(some 13), .v (.fa 0) [.tmp 3], none⟩,
    ⟨(some 14), .v (.iaa 1 3) [.tmp 13, .tmp 12], none⟩,
    ⟨(some 15), .ld none (.tmp 14), none⟩,
    ⟨(some 16), .v .mv [.tmp 2], none⟩,
    ⟨(some 17), .v (.fa 1) [.tmp 7], none⟩,
    ⟨(some 18), .ld none (.tmp 17), none⟩,
    ⟨(some 19), .call (.func 66) [.tmp 15, .tmp 16, .tmp 18], none⟩,
    ⟨(some 20), .v .mv [.tmp 1], none⟩,
    ⟨(some 21), .v (.fa 0) [.tmp 3], none⟩,
    ⟨(some 22), .v (.iaa 1 3) [.tmp 21, .tmp 20], none⟩,
    ⟨(some 23), .ld none (.tmp 22), none⟩,
    ⟨(some 24), .v .mv [.tmp 2], none⟩,
    ⟨(some 25), .v (.fa 0) [.tmp 7], none⟩,
    ⟨(some 26), .ld none (.tmp 25), none⟩,
    ⟨(some 27), .call (.func 66) [.tmp 23, .tmp 24, .tmp 26], none⟩,
    ⟨(some 28), .v (.bld [(.int .i64 0), (.int .i64 0)] [(0, 1), (1, 1)]) [.tmp 19, .tmp 27], none⟩,
    ⟨none, .st 2 (.tmp 6) (.tmp 28), none⟩] [⟨0, true, false⟩, ⟨0, true, false⟩, ⟨0, true, false⟩, ⟨5, true, false⟩, ⟨0, true, false⟩, ⟨0, true, false⟩, ⟨9, true, false⟩, ⟨1, true, false⟩, ⟨0, false, false⟩, ⟨0, false, false⟩, ⟨0, false, false⟩, ⟨5, false, false⟩, ⟨0, false, false⟩, ⟨0, false, false⟩, ⟨9, false, false⟩, ⟨1, true, true⟩, ⟨0, true, true⟩, ⟨8, true, true⟩])
  .ret)))
def p32 : PFunc := ⟨29, [(6, some (some 2))], none, b32⟩
def b33 : PCode :=
  (.seq (.reg [
    ⟨(some 1), .lbox 23 (.tmp 0), none⟩,
    ⟨(some 2), .v .mv [.const (.bool false)], none⟩])
  (.seq (.reg [
    ⟨(some 3), .v (.fa 0) [.tmp 1], none⟩,
    ⟨(some 4), .ld none (.tmp 3), none⟩,
    ⟨(some 5), .call (.func 34) [.tmp 4, .const (.int .i64 0), .const (.int .i64 24)], none⟩,
    ⟨(some 6), .v .no [.tmp 5], none⟩,
    ⟨(some 7), .v .mv [.tmp 6], none⟩,
    ⟨(some 8), .v (.fa 1) [.tmp 1], some (7, false)⟩,
    ⟨(some 9), .ld none (.tmp 8), some (7, false)⟩,
    ⟨(some 10), .v (.fa 0) [.tmp 1], some (7, false)⟩,
    ⟨(some 11), .ld none (.tmp 10), some (7, false)⟩,
    ⟨(some 12), .call (.func 34) [.tmp 9, .tmp 11, .const (.int .i64 24)], some (7, false)⟩,
    ⟨(some 13), .v .no [.tmp 12], some (7, false)⟩,
    ⟨(some 14), .v .pick [.tmp 7, .const (.bool true), .tmp 13], none⟩,
    ⟨(some 2), .v .mv [.tmp 14], none⟩])
  .ret))
def p33 : PFunc := ⟨15, [(2, none)], none, b33⟩
def b34 : PCode :=
  (.seq (.reg [
    ⟨(some 6), .v .mv [.const (.bool false)], none⟩])
  (.seq (.reg [
    ⟨(some 7), .v .mv [.tmp 0], none⟩,
    ⟨(some 8), .v .mv [.tmp 1], none⟩,
    ⟨(some 9), .v (.ib .geq) [.tmp 7, .tmp 8], none⟩,
    ⟨(some 10), .v .mv [.tmp 9], none⟩,
    ⟨(some 11), .v .mv [.tmp 0], some (10, true)⟩,
    ⟨(some 12), .v .mv [.tmp 2], some (10, true)⟩,
    ⟨(some 13), .v (.ib .leq) [.tmp 11, .tmp 12], some (10, true)⟩,
    ⟨(some 14), .v .pick [.tmp 10, .tmp 13, .const (.bool false)], none⟩,
    ⟨(some 6), .v .mv [.tmp 14], none⟩])
  .ret))
def p34 : PFunc := ⟨15, [(6, none)], none, b34⟩
def b35 : PCode :=
  (.seq (.reg [
    ⟨(some 1), .lbox 28 (.tmp 0), none⟩,
    ⟨(some 2), .v .mv [.const (.bool false)], none⟩])
  (.seq (.reg [
    ⟨(some 3), .v (.fa 0) [.tmp 1], none⟩,
    ⟨(some 4), .ld none (.tmp 3), none⟩,
    ⟨(some 5), .call (.func 34) [.tmp 4, .const (.int .i64 1), .const (.int .i64 288)], none⟩,
    ⟨(some 6), .v .no [.tmp 5], none⟩,
    ⟨(some 7), .v .mv [.tmp 6], none⟩,
    ⟨(some 8), .v (.fa 1) [.tmp 1], some (7, false)⟩,
    ⟨(some 9), .ld none (.tmp 8), some (7, false)⟩,
    ⟨(some 10), .v (.fa 0) [.tmp 1], some (7, false)⟩,
    ⟨(some 11), .ld none (.tmp 10), some (7, false)⟩,
    ⟨(some 12), .call (.func 34) [.tmp 9, .tmp 11, .const (.int .i64 400)], some (7, false)⟩,
    ⟨(some 13), .v .no [.tmp 12], some (7, false)⟩,
    ⟨(some 14), .v .pick [.tmp 7, .const (.bool true), .tmp 13], none⟩,
    ⟨(some 2), .v .mv [.tmp 14], none⟩])
  .ret))
def p35 : PFunc := ⟨15, [(2, none)], none, b35⟩
def b36 : PCode :=
  (.seq (.reg [
    ⟨(some 4), .v .mv [.const (.bool false)], none⟩])
  (.seq (.reg [
    ⟨(some 5), .v .mv [.tmp 0], none⟩,
    ⟨(some 6), .v .mv [.tmp 1], none⟩,
    ⟨(some 7), .call (.func 67) [.tmp 5, .tmp 6], none⟩,
    ⟨(some 8), .v (.ib .geq) [.tmp 7, .const (.int .i64 0)], none⟩,
    ⟨(some 4), .v .mv [.tmp 8], none⟩])
  .ret))
def p36 : PFunc := ⟨9, [(4, none)], none, b36⟩
def b37 : PCode :=
  (.seq (.reg [
    ⟨(some 4), .v .mv [.const (.bool false)], none⟩])
  (.seq (.reg [
    ⟨(some 5), .v .mv [.tmp 0], none⟩,
    ⟨(some 6), .v .mv [.tmp 1], none⟩,
    ⟨(some 7), .call (.func 68) [.tmp 5, .tmp 6], none⟩,
    ⟨(some 8), .v (.ib .geq) [.tmp 7, .const (.int .i64 0)], none⟩,
    ⟨(some 4), .v .mv [.tmp 8], none⟩])
  .ret))
def p37 : PFunc := ⟨9, [(4, none)], none, b37⟩
def q38x0 : PCode :=
  (.seq (.reg [
        ⟨(some 8), .v (.ib .lss) [.tmp 7, .tmp 6], none⟩])
      (.seq (.cond (.tmp 8)
        .skip
        (.exit 0))
      (.seq (.blk 1
        (.seq (.reg [
          ⟨(some 9), .v .mv [.tmp 7], none⟩,
          ⟨(some 10), .v (.ia 1) [.tmp 5, .tmp 7], none⟩,
          ⟨(some 11), .ld none (.tmp 10), none⟩,
          ⟨(some 3), .v .mv [.tmp 9], none⟩,
          ⟨(some 4), .v .mv [.tmp 11], none⟩])
        (.seq (.reg [
          ⟨(some 12), .v .mv [.tmp 3], none⟩,
          ⟨(some 13), .v (.ib .gtr) [.tmp 12, .const (.int .i64 0)], none⟩,
          ⟨(some 14), .v .mv [.tmp 13], none⟩,
          ⟨(some 15), .v .mv [.tmp 4], some (14, true)⟩,
          ⟨(some 16), .v .mv [.tmp 0], some (14, true)⟩,
          ⟨(some 17), .v .mv [.tmp 3], some (14, true)⟩,
          ⟨(some 18), .v (.ib .sub) [.tmp 17, .const (.int .i64 1)], some (14, true)⟩,
          ⟨(some 19), .v (.ia 1) [.tmp 16, .tmp 18], some (14, true)⟩,
          ⟨(some 20), .ld none (.tmp 19), some (14, true)⟩,
          ⟨(some 21), .v (.ib .leq) [.tmp 15, .tmp 20], some (14, true)⟩,
          ⟨(some 22), .v .pick [.tmp 14, .tmp 21, .const (.bool false)], none⟩])
        (.cond (.tmp 22)
          (.seq (.reg [
            ⟨(some 2), .v .mv [.const (.bool false)], none⟩])
          .ret)
          .skip))))
      (.reg [
        ⟨(some 23), .v (.ib .add) [.tmp 7, .const (.int .i64 1)], none⟩,
        ⟨(some 7), .v .mv [.tmp 23], none⟩]))))
def b38 : PCode :=
  (.seq (.reg [
    ⟨(some 2), .v .mv [.const (.bool false)], none⟩])
  (.seq (.seq (.reg [
    ⟨(some 5), .v .mv [.tmp 0], none⟩,
    ⟨(some 6), .v .len [.tmp 5], none⟩,
    ⟨(some 7), .v .mv [.const (.int .i64 0)], none⟩])
  (.blk 0
    (.loop q38x0)))
  (.seq (.reg [
    ⟨(some 2), .v .mv [.const (.bool true)], none⟩])
  .ret)))
def p38 : PFunc := ⟨24, [(2, none)], none, b38⟩
def b39 : PCode :=
  (.seq (.reg [
    ⟨(some 4), .v .mv [.const (.bool false)], none⟩])
  (.seq (.reg [
    ⟨(some 5), .v .mv [.tmp 0], none⟩,
    ⟨(some 6), .v .mv [.tmp 1], none⟩,
    ⟨(some 7), .call (.func 69) [.tmp 5, .tmp 6], none⟩,
    ⟨(some 8), .v (.ib .geq) [.tmp 7, .const (.int .i64 0)], none⟩,
    ⟨(some 4), .v .mv [.tmp 8], none⟩])
  .ret))
def p39 : PFunc := ⟨9, [(4, none)], none, b39⟩
def b40 : PCode :=
  (.seq (.reg [
    ⟨(some 3), .v .mv [.const (.bool false)], none⟩])
  (.seq (.reg [
    ⟨(some 4), .ld (some 3) (.tmp 1), none⟩,
    ⟨(some 5), .v .mv [.tmp 0], none⟩,
    ⟨(some 6), .call (.func 41) [.tmp 4, .tmp 5], none⟩,
    ⟨(some 7), .v .no [.tmp 6], none⟩,
    ⟨(some 3), .v .mv [.tmp 7], none⟩])
  .ret))
def p40 : PFunc := ⟨8, [(3, none)], none, b40⟩
def b41 : PCode :=
  (.seq (.reg [
    ⟨(some 2), .lbox 32 (.tmp 0), none⟩,
    ⟨(some 4), .v .mv [.const (.bool false)], none⟩])
  (.seq (.reg [
    ⟨(some 5), .v .mv [.tmp 1], none⟩,
    ⟨(some 6), .v (.fa 0) [.tmp 2], none⟩,
    ⟨(some 7), .ld none (.tmp 6), none⟩,
    ⟨(some 8), .v .len [.tmp 7], none⟩,
    ⟨(some 9), .v (.ib .sub) [.tmp 8, .const (.int .i64 1)], none⟩,
    ⟨(some 10), .call (.func 34) [.tmp 5, .const (.int .i64 0), .tmp 9], none⟩,
    ⟨(some 4), .v .mv [.tmp 10], none⟩])
  .ret))
def p41 : PFunc := ⟨11, [(4, none)], none, b41⟩
def b42 : PCode :=
  (.seq (.reg [
    ⟨(some 3), .v .mv [.const (.bool false)], none⟩])
  (.seq (.reg [
    ⟨(some 4), .v (.fa 1) [.tmp 1], none⟩,
    ⟨(some 5), .ld none (.tmp 4), none⟩,
    ⟨(some 6), .v .mv [.tmp 0], none⟩,
    ⟨(some 7), .call (.func 43) [.tmp 5, .tmp 6], none⟩,
    ⟨(some 8), .v .no [.tmp 7], none⟩,
    ⟨(some 3), .v .mv [.tmp 8], none⟩])
  .ret))
def p42 : PFunc := ⟨9, [(3, none)], none, b42⟩
def b43 : PCode :=
  (.seq (.reg [
    ⟨(some 4), .v .mv [.const (.bool false)], none⟩])
  (.seq (.reg [
    ⟨(some 5), .v .mv [.tmp 0], none⟩,
    ⟨(some 6), .v .mv [.tmp 1], none⟩,
    ⟨(some 7), .call (.func 70) [.tmp 5, .tmp 6], none⟩,
    ⟨(some 8), .v (.ib .geq) [.tmp 7, .const (.int .i64 0)], none⟩,
    ⟨(some 4), .v .mv [.tmp 8], none⟩])
  .ret))
def p43 : PFunc := ⟨9, [(4, none)], none, b43⟩
def b44 : PCode :=
  (.seq (.reg [
    ⟨(some 2), .alloc 65 (.agg #[(.int .i64 0), (.int .i64 0)]), none⟩,
    ⟨(some 3), .alloc 38 (.int .i64 0), none⟩])
  (.seq (.reg [
    ⟨(some 4), .v (.mkf (.func 71) 0) [.tmp 2, .tmp 3], none⟩,
    ⟨none, .dfr (.tmp 4) [], none⟩])
  (.seq (.reg [
    ⟨(some 5), .v .mv [.tmp 0], none⟩,
    ⟨(some 6), .call (.tmp 5) [], none⟩])
  (.seq (.reg [
    ⟨(some 7), .v (.bld [(.int .i64 0), (.int .i64 0)] []) [], none⟩,
    ⟨none, .st 2 (.tmp 2) (.tmp 7), none⟩,
    ⟨none, .st 1 (.tmp 3) (.const (.int .i64 0)), none⟩])
  .ret))))
def p44 : PFunc := ⟨8, [(2, some (some 2)), (3, some none)], none, b44⟩
def q45x0 : PCode :=
  (.seq (.reg [
        ⟨(some 9), .v (.ib .lss) [.tmp 8, .tmp 7], none⟩])
      (.seq (.cond (.tmp 9)
        .skip
        (.exit 0))
      (.seq (.blk 1
        (.seq (.reg [
          ⟨(some 10), .v .mv [.tmp 8], none⟩,
          ⟨(some 11), .v (.ia 1) [.tmp 6, .tmp 8], none⟩,
          ⟨(some 12), .ld none (.tmp 11), none⟩,
          ⟨(some 2), .v .mv [.tmp 10], none⟩,
          ⟨(some 3), .v .mv [.tmp 12], none⟩])
        (.seq (.reg [
          ⟨(some 14), .ld (some 5) (.tmp 1), none⟩,
          ⟨(some 15), .ld none (.tmp 0), none⟩,
          ⟨(some 16), .v .mv [.tmp 2], none⟩,
          ⟨(some 17), .call (.func 19) [.tmp 14, .tmp 15, .tmp 16], none⟩,
          ⟨(some 13), .v .mv [.tmp 17], none⟩,
          ⟨(some 18), .v (.ext 0) [.tmp 13], none⟩,
          ⟨(some 19), .v (.ext 1) [.tmp 13], none⟩,
          ⟨(some 4), .v .mv [.tmp 18], none⟩,
          ⟨(some 5), .v .mv [.tmp 19], none⟩])
        (.reg [
          ⟨(some 20), .ld (some 5) (.tmp 1), none⟩,
          ⟨(some 21), .v .mv [.tmp 2], none⟩,
          ⟨(some 22), .v .mv [.tmp 3], none⟩,
          ⟨(some 23), .v .mv [.tmp 4], none⟩,
          ⟨(some 24), .v .mv [.tmp 5], none⟩,
          ⟨(some 25), .call (.func 46) [.tmp 20, .tmp 21, .tmp 22, .tmp 23, .tmp 24], none⟩]))))
      (.reg [
        ⟨(some 26), .v (.ib .add) [.tmp 8, .const (.int .i64 1)], none⟩,
        ⟨(some 8), .v .mv [.tmp 26], none⟩]))))
def b45 : PCode :=
  (.seq (.reg [
    ⟨(some 6), .ld none (.tmp 0), none⟩,
    ⟨(some 7), .v .len [.tmp 6], none⟩,
    ⟨(some 8), .v .mv [.const (.int .i64 0)], none⟩])
  (.blk 0
    (.loop q45x0)))
def p45 : PFunc := ⟨27, [], none, b45⟩
def b46 : PCode :=
  (.seq (.reg [
    ⟨(some 5), .lbox 61 (.tmp 0), none⟩])
  (.seq (.dreg [
    ⟨(some 12), .ld (some 5) (.tmp 5), none⟩,
    ⟨(some 13), .v .mv [.tmp 2], none⟩,
    ⟨(some 14), .v .mv [.tmp 3], none⟩,
    ⟨(some 15), .call (.func 20) [.tmp 12, .tmp 13, .tmp 14], none⟩,
    ⟨(some 16), .v (.fa 0) [.tmp 5], none⟩,
    ⟨(some 17), .v (.fa 2) [.tmp 16], none⟩,
    ⟨(some 18), .ld none (.tmp 17), none⟩,
    ⟨(some 19), .v .mv [.tmp 1], none⟩,
    ⟨(some 20), .v (.ia 2) [.tmp 18, .tmp 19], none⟩,
    ⟨(some 21), .ld (some 2) (.tmp 20), none⟩,
    ⟨(some 10), .lalloc 23 (.agg #[(.int .i64 0), (.int .i64 0)]), none⟩,
    ⟨(some 11), .lalloc 28 (.agg #[(.int .i64 0), (.int .i64 0)]), none⟩,
    ⟨none, .st 2 (.tmp 10) (.tmp 15), none⟩,
    ⟨none, .st 2 (.tmp 11) (.tmp 21), none⟩] [⟨7, false, false⟩, ⟨0, false, false⟩, ⟨0, false, false⟩, ⟨1, false, false⟩, ⟨0, false, false⟩, ⟨0, false, false⟩, ⟨7, false, false⟩, ⟨0, false, false⟩, ⟨0, false, false⟩, ⟨1, false, false⟩, ⟨12, false, false⟩, ⟨13, false, false⟩, ⟨12, false, false⟩, ⟨13, true, true⟩])
  (.seq (.seq (.reg [
    ⟨(some 22), .v (.fa 0) [.tmp 10], none⟩,
    ⟨(some 23), .ld none (.tmp 22), none⟩,
    ⟨(some 24), .v (.fa 0) [.tmp 11], none⟩,
    ⟨(some 25), .ld none (.tmp 24), none⟩,
    ⟨(some 26), .v (.ib .lss) [.tmp 23, .tmp 25], none⟩])
  (.cond (.tmp 26)
    (.reg [
      ⟨(some 27), .v .mv [.tmp 1], none⟩,
      ⟨(some 28), .v (.bld [(.int .i64 0), (.int .i64 0)] [(0, 1), (1, 1)]) [.tmp 27, .const (.int .i64 1)], none⟩,
      ⟨(some 29), .v (.mki 65) [.tmp 28], none⟩,
      ⟨none, .pnc (.tmp 29), none⟩])
    .skip))
  (.seq (.reg [
    ⟨(some 30), .v .mv [.tmp 4], none⟩,
    ⟨(some 31), .v .mv [.tmp 30], none⟩,
    ⟨(some 32), .v (.fa 1) [.tmp 10], some (31, true)⟩,
    ⟨(some 33), .ld none (.tmp 32), some (31, true)⟩,
    ⟨(some 34), .v (.fa 1) [.tmp 11], some (31, true)⟩,
    ⟨(some 35), .ld none (.tmp 34), some (31, true)⟩,
    ⟨(some 36), .v (.ib .gtr) [.tmp 33, .tmp 35], some (31, true)⟩,
    ⟨(some 37), .v .pick [.tmp 31, .tmp 36, .const (.bool false)], none⟩])
  (.cond (.tmp 37)
    (.reg [
      ⟨(some 38), .v .mv [.tmp 1], none⟩,
      ⟨(some 39), .v (.bld [(.int .i64 0), (.int .i64 0)] [(0, 1), (1, 1)]) [.tmp 38, .const (.int .i64 2)], none⟩,
      ⟨(some 40), .v (.mki 65) [.tmp 39], none⟩,
      ⟨none, .pnc (.tmp 40), none⟩])
    .skip)))))
def p46 : PFunc := ⟨41, [], none, b46⟩
def b47 : PCode :=
  (.seq (.reg [
    ⟨(some 3), .lbox 61 (.tmp 0), none⟩,
    ⟨(some 6), .v .mv [.const (.int .i64 0)], none⟩])
  (.seq (.dreg [
    ⟨(some 7), .v (.fa 3) [.tmp 3], none⟩,
    ⟨(some 8), .ld none (.tmp 7), none⟩,
    ⟨(some 9), .v .mv [.tmp 2], none⟩,
    ⟨(some 10), .v (.ia 1) [.tmp 8, .tmp 9], none⟩,
    ⟨(some 11), .ld none (.tmp 10), none⟩,
    ⟨(some 12), .v (.fa 3) [.tmp 3], none⟩,
    ⟨(some 13), .ld none (.tmp 12), none⟩,
    ⟨(some 14), .v .mv [.tmp 1], none⟩,
    ⟨(some 15), .v (.ia 1) [.tmp 13, .tmp 14], none⟩,
    ⟨(some 16), .ld none (.tmp 15), none⟩,
    ⟨(some 17), .v (.ib .sub) [.tmp 11, .tmp 16], none⟩,
    ⟨(some 6), .v .mv [.tmp 17], none⟩] [⟨0, false, false⟩, ⟨5, false, false⟩, ⟨0, false, false⟩, ⟨0, false, false⟩, ⟨1, false, false⟩, ⟨0, false, false⟩, ⟨5, false, false⟩, ⟨0, false, false⟩, ⟨0, false, false⟩, ⟨1, false, false⟩, ⟨0, true, true⟩, ⟨0, true, true⟩])
  .ret))
def p47 : PFunc := ⟨18, [(6, none)], none, b47⟩
def b48 : PCode :=
  (.seq (.reg [
    ⟨(some 3), .lbox 61 (.tmp 0), none⟩,
    ⟨(some 6), .v .mv [.const (.int .i64 0)], none⟩])
  (.seq (.dreg [
    ⟨(some 7), .v (.fa 4) [.tmp 3], none⟩,
    ⟨(some 8), .ld none (.tmp 7), none⟩,
    ⟨(some 9), .v .mv [.tmp 2], none⟩,
    ⟨(some 10), .v (.ia 1) [.tmp 8, .tmp 9], none⟩,
    ⟨(some 11), .ld none (.tmp 10), none⟩,
    ⟨(some 12), .v (.fa 4) [.tmp 3], none⟩,
    ⟨(some 13), .ld none (.tmp 12), none⟩,
    ⟨(some 14), .v .mv [.tmp 1], none⟩,
    ⟨(some 15), .v (.ia 1) [.tmp 13, .tmp 14], none⟩,
    ⟨(some 16), .ld none (.tmp 15), none⟩,
    ⟨(some 17), .v (.ib .sub) [.tmp 11, .tmp 16], none⟩,
    ⟨(some 6), .v .mv [.tmp 17], none⟩] [⟨0, false, false⟩, ⟨5, false, false⟩, ⟨0, false, false⟩, ⟨0, false, false⟩, ⟨1, false, false⟩, ⟨0, false, false⟩, ⟨5, false, false⟩, ⟨0, false, false⟩, ⟨0, false, false⟩, ⟨1, false, false⟩, ⟨0, true, true⟩, ⟨0, true, true⟩])
  .ret))
def p48 : PFunc := ⟨18, [(6, none)], none, b48⟩
def b49 : PCode :=
  (.seq (.reg [
    ⟨(some 6), .v .mv [.const (.bool false)], none⟩])
  (.seq (.reg [
    ⟨(some 7), .v .mv [.tmp 0], none⟩,
    ⟨(some 8), .v .mv [.tmp 1], none⟩,
    ⟨(some 9), .v (.ib .geq) [.tmp 7, .tmp 8], none⟩,
    ⟨(some 10), .v .mv [.tmp 9], none⟩,
    ⟨(some 11), .v .mv [.tmp 0], some (10, true)⟩,
    ⟨(some 12), .v .mv [.tmp 2], some (10, true)⟩,
    ⟨(some 13), .v (.ib .leq) [.tmp 11, .tmp 12], some (10, true)⟩,
    ⟨(some 14), .v .pick [.tmp 10, .tmp 13, .const (.bool false)], none⟩,
    ⟨(some 6), .v .mv [.tmp 14], none⟩])
  .ret))
def p49 : PFunc := ⟨15, [(6, none)], none, b49⟩
def b50 : PCode :=
  (.seq (.reg [
    ⟨(some 2), .lbox 50 (.tmp 0), none⟩,
    ⟨(some 3), .lbox 102 (.tmp 1), none⟩,
    ⟨(some 4), .v .mv [.const (.bool false)], none⟩])
  (.seq (.reg [
    ⟨(some 5), .v (.fa 0) [.tmp 3], none⟩,
    ⟨(some 6), .ld none (.tmp 5), none⟩,
    ⟨(some 7), .v (.fa 0) [.tmp 2], none⟩,
    ⟨(some 8), .ld none (.tmp 7), none⟩,
    ⟨(some 9), .v .len [.tmp 8], none⟩,
    ⟨(some 10), .v (.ib .sub) [.tmp 9, .const (.int .i64 1)], none⟩,
    ⟨(some 11), .call (.func 49) [.tmp 6, .const (.int .i64 0), .tmp 10], none⟩,
    ⟨(some 12), .v .mv [.tmp 11], none⟩,
    ⟨(some 13), .v (.fa 1) [.tmp 3], some (12, true)⟩,
    ⟨(some 14), .ld none (.tmp 13), some (12, true)⟩,
    ⟨(some 15), .v (.fa 0) [.tmp 2], some (12, true)⟩,
    ⟨(some 16), .ld none (.tmp 15), some (12, true)⟩,
    ⟨(some 17), .v .len [.tmp 16], some (12, true)⟩,
    ⟨(some 18), .v (.ib .sub) [.tmp 17, .const (.int .i64 1)], some (12, true)⟩,
    ⟨(some 19), .call (.func 49) [.tmp 14, .const (.int .i64 0), .tmp 18], some (12, true)⟩,
    ⟨(some 20), .v .pick [.tmp 12, .tmp 19, .const (.bool false)], none⟩,
    ⟨(some 21), .v .mv [.tmp 20], none⟩,
    ⟨(some 22), .v (.fa 2) [.tmp 3], some (21, true)⟩,
    ⟨(some 23), .ld (some 2) (.tmp 22), some (21, true)⟩,
    ⟨(some 24), .call (.func 53) [.tmp 23, .const (.int .i64 0), .const (.int .i64 9)], some (21, true)⟩,
    ⟨(some 25), .v .pick [.tmp 21, .tmp 24, .const (.bool false)], none⟩,
    ⟨(some 4), .v .mv [.tmp 25], none⟩])
  .ret))
def p50 : PFunc := ⟨26, [(4, none)], none, b50⟩
def b51 : PCode :=
  (.seq (.reg [
    ⟨(some 2), .lbox 102 (.tmp 0), none⟩,
    ⟨(some 3), .lbox 102 (.tmp 1), none⟩,
    ⟨(some 4), .v .mv [.const (.bool false)], none⟩])
  (.seq (.reg [
    ⟨(some 5), .v (.fa 0) [.tmp 2], none⟩,
    ⟨(some 6), .ld none (.tmp 5), none⟩,
    ⟨(some 7), .v (.fa 0) [.tmp 3], none⟩,
    ⟨(some 8), .ld none (.tmp 7), none⟩,
    ⟨(some 9), .v (.ib .lss) [.tmp 6, .tmp 8], none⟩,
    ⟨(some 10), .v .mv [.tmp 9], none⟩,
    ⟨(some 11), .v (.fa 0) [.tmp 2], some (10, false)⟩,
    ⟨(some 12), .ld none (.tmp 11), some (10, false)⟩,
    ⟨(some 13), .v (.fa 0) [.tmp 3], some (10, false)⟩,
    ⟨(some 14), .ld none (.tmp 13), some (10, false)⟩,
    ⟨(some 15), .v (.ib .eql) [.tmp 12, .tmp 14], some (10, false)⟩,
    ⟨(some 16), .v .mv [.tmp 15], some (10, false)⟩,
    ⟨(some 17), .v (.fa 1) [.tmp 2], some (16, true)⟩,
    ⟨(some 18), .ld none (.tmp 17), some (16, true)⟩,
    ⟨(some 19), .v (.fa 1) [.tmp 3], some (16, true)⟩,
    ⟨(some 20), .ld none (.tmp 19), some (16, true)⟩,
    ⟨(some 21), .v (.ib .lss) [.tmp 18, .tmp 20], some (16, true)⟩,
    ⟨(some 22), .v .pick [.tmp 16, .tmp 21, .const (.bool false)], some (10, false)⟩,
    ⟨(some 23), .v .pick [.tmp 10, .const (.bool true), .tmp 22], none⟩,
    ⟨(some 4), .v .mv [.tmp 23], none⟩])
  .ret))
def p51 : PFunc := ⟨24, [(4, none)], none, b51⟩
def b52 : PCode :=
  (.seq (.reg [
    ⟨(some 2), .v .mv [.const (.bool false)], none⟩])
  (.seq (.reg [
    ⟨(some 3), .v .mv [.tmp 0], none⟩,
    ⟨(some 4), .call (.func 49) [.tmp 3, .const (.int .i64 1), .const (.int .i64 20)], none⟩,
    ⟨(some 5), .v .no [.tmp 4], none⟩,
    ⟨(some 2), .v .mv [.tmp 5], none⟩])
  .ret))
def p52 : PFunc := ⟨6, [(2, none)], none, b52⟩
def b53 : PCode :=
  (.seq (.reg [
    ⟨(some 3), .lbox 23 (.tmp 0), none⟩,
    ⟨(some 6), .v .mv [.const (.bool false)], none⟩])
  (.seq (.reg [
    ⟨(some 7), .v (.fa 0) [.tmp 3], none⟩,
    ⟨(some 8), .ld none (.tmp 7), none⟩,
    ⟨(some 9), .v .mv [.tmp 1], none⟩,
    ⟨(some 10), .v .mv [.tmp 2], none⟩,
    ⟨(some 11), .call (.func 49) [.tmp 8, .tmp 9, .tmp 10], none⟩,
    ⟨(some 12), .v .mv [.tmp 11], none⟩,
    ⟨(some 13), .v (.fa 1) [.tmp 3], some (12, true)⟩,
    ⟨(some 14), .ld none (.tmp 13), some (12, true)⟩,
    ⟨(some 15), .v (.fa 0) [.tmp 3], some (12, true)⟩,
    ⟨(some 16), .ld none (.tmp 15), some (12, true)⟩,
    ⟨(some 17), .v .mv [.tmp 2], some (12, true)⟩,
    ⟨(some 18), .call (.func 49) [.tmp 14, .tmp 16, .tmp 17], some (12, true)⟩,
    ⟨(some 19), .v .pick [.tmp 12, .tmp 18, .const (.bool false)], none⟩,
    ⟨(some 6), .v .mv [.tmp 19], none⟩])
  .ret))
def p53 : PFunc := ⟨20, [(6, none)], none, b53⟩
def b54 : PCode :=
  (.seq (.reg [
    ⟨(some 4), .v .mv [.const (.bool false)], none⟩])
  (.seq (.reg [
    ⟨(some 5), .v .mv [.tmp 0], none⟩,
    ⟨(some 6), .v .mv [.tmp 1], none⟩,
    ⟨(some 7), .call (.func 72) [.tmp 5, .tmp 6], none⟩,
    ⟨(some 8), .v (.ib .geq) [.tmp 7, .const (.int .i64 0)], none⟩,
    ⟨(some 4), .v .mv [.tmp 8], none⟩])
  .ret))
def p54 : PFunc := ⟨9, [(4, none)], none, b54⟩
def b55 : PCode :=
  (.seq (.reg [
    ⟨(some 2), .lbox 73 (.tmp 0), none⟩,
    ⟨(some 3), .v .mv [.const (.bool false)], none⟩])
  (.seq (.reg [
    ⟨(some 4), .ld (some 10) (.tmp 1), none⟩,
    ⟨(some 5), .ld (some 3) (.tmp 2), none⟩,
    ⟨(some 6), .call (.func 56) [.tmp 4, .tmp 5], none⟩,
    ⟨(some 7), .v .no [.tmp 6], none⟩,
    ⟨(some 3), .v .mv [.tmp 7], none⟩])
  .ret))
def p55 : PFunc := ⟨8, [(3, none)], none, b55⟩
def b56 : PCode :=
  (.seq (.reg [
    ⟨(some 2), .box 50 (.tmp 0), none⟩,
    ⟨(some 3), .lbox 73 (.tmp 1), none⟩,
    ⟨(some 4), .v .mv [.const (.bool false)], none⟩])
  (.seq (.reg [
    ⟨(some 7), .v (.fa 0) [.tmp 3], none⟩,
    ⟨(some 8), .ld none (.tmp 7), none⟩,
    ⟨(some 9), .v .len [.tmp 8], none⟩,
    ⟨(some 5), .v .mv [.tmp 9], none⟩])
  (.seq (.reg [
    ⟨(some 10), .v (.mkf (.func 73) 0) [.tmp 2], none⟩,
    ⟨(some 6), .v .mv [.tmp 10], none⟩])
  (.seq (.reg [
    ⟨(some 11), .v .mv [.tmp 5], none⟩,
    ⟨(some 12), .call (.func 49) [.tmp 11, .const (.int .i64 1), .const (.int .i64 6)], none⟩,
    ⟨(some 13), .v .mv [.tmp 12], none⟩,
    ⟨(some 14), .v (.fa 0) [.tmp 3], some (13, true)⟩,
    ⟨(some 15), .ld none (.tmp 14), some (13, true)⟩,
    ⟨(some 16), .v .mv [.tmp 6], some (13, true)⟩,
    ⟨(some 17), .call (.func 39) [.tmp 15, .tmp 16], some (13, true)⟩,
    ⟨(some 18), .v .no [.tmp 17], some (13, true)⟩,
    ⟨(some 19), .v .pick [.tmp 13, .tmp 18, .const (.bool false)], none⟩,
    ⟨(some 20), .v .mv [.tmp 19], none⟩,
    ⟨(some 21), .v (.fa 1) [.tmp 3], some (20, true)⟩,
    ⟨(some 22), .ld none (.tmp 21), some (20, true)⟩,
    ⟨(some 23), .v .mv [.tmp 5], some (20, true)⟩,
    ⟨(some 24), .v (.ib .sub) [.tmp 23, .const (.int .i64 1)], some (20, true)⟩,
    ⟨(some 25), .call (.func 74) [.tmp 22, .const (.int .i64 1), .tmp 24], some (20, true)⟩,
    ⟨(some 26), .v .pick [.tmp 20, .tmp 25, .const (.bool false)], none⟩,
    ⟨(some 4), .v .mv [.tmp 26], none⟩])
  .ret))))
def p56 : PFunc := ⟨27, [(4, none)], none, b56⟩
def q57x0 : PCode :=
  (.seq (.seq (.reg [
        ⟨(some 16), .v .mv [.tmp 6], none⟩,
        ⟨(some 17), .v .mv [.tmp 0], none⟩,
        ⟨(some 18), .v .len [.tmp 17], none⟩,
        ⟨(some 19), .v (.ib .lss) [.tmp 16, .tmp 18], none⟩])
      (.cond (.tmp 19)
        .skip
        (.exit 0)))
      (.seq (.blk 1
        (.seq (.reg [
          ⟨(some 22), .v .mv [.tmp 0], none⟩,
          ⟨(some 23), .v .mv [.tmp 6], none⟩,
          ⟨(some 24), .v (.ia 1) [.tmp 22, .tmp 23], none⟩,
          ⟨(some 25), .ld none (.tmp 24), none⟩,
          ⟨(some 7), .v .mv [.tmp 25], none⟩])
        (.seq (.reg [
          ⟨(some 26), .v .mv [.tmp 1], none⟩,
          ⟨(some 27), .v .mv [.tmp 7], none⟩,
          ⟨(some 28), .call (.tmp 26) [.tmp 27], none⟩,
          ⟨(some 29), .v .no [.tmp 28], none⟩])
        (.cond (.tmp 29)
          (.seq (.reg [
            ⟨(some 30), .v .mv [.tmp 0], none⟩,
            ⟨(some 31), .v .mv [.tmp 5], none⟩,
            ⟨(some 32), .v .mv [.tmp 7], none⟩,
            ⟨(some 33), .v (.ia 1) [.tmp 30, .tmp 31], none⟩,
            ⟨none, .st 1 (.tmp 33) (.tmp 32), none⟩])
          (.reg [
            ⟨(some 34), .v .mv [.tmp 5], none⟩,
            ⟨(some 35), .v (.ib .add) [.tmp 34, .const (.int .i64 1)], none⟩,
            ⟨(some 5), .v .mv [.tmp 35], none⟩]))
          .skip))))
      (.reg [
        ⟨(some 20), .v .mv [.tmp 6], none⟩,
        ⟨(some 21), .v (.ib .add) [.tmp 20, .const (.int .i64 1)], none⟩,
        ⟨(some 6), .v .mv [.tmp 21], none⟩])))
def b57 : PCode :=
  (.seq (.reg [
    ⟨(some 4), .v .mv [.const (.slice none 0 0)], none⟩])
  (.seq (.reg [
    ⟨(some 8), .v .mv [.tmp 0], none⟩,
    ⟨(some 9), .v .mv [.tmp 1], none⟩,
    ⟨(some 10), .call (.func 69) [.tmp 8, .tmp 9], none⟩,
    ⟨(some 5), .v .mv [.tmp 10], none⟩])
  (.seq (.seq (.reg [
    ⟨(some 11), .v .mv [.tmp 5], none⟩,
    ⟨(some 12), .v (.ib .eql) [.tmp 11, .const (.int .i64 (-1))], none⟩])
  (.cond (.tmp 12)
    (.seq (.reg [
      ⟨(some 13), .v .mv [.tmp 0], none⟩,
      ⟨(some 4), .v .mv [.tmp 13], none⟩])
    .ret)
    .skip))
  (.seq (.seq (.reg [
    ⟨(some 14), .v .mv [.tmp 5], none⟩,
    ⟨(some 15), .v (.ib .add) [.tmp 14, .const (.int .i64 1)], none⟩,
    ⟨(some 6), .v .mv [.tmp 15], none⟩])
  (.blk 0
    (.loop q57x0)))
  (.seq (.reg [
    ⟨(some 36), .v .mv [.tmp 0], none⟩,
    ⟨(some 37), .v .mv [.tmp 5], none⟩,
    ⟨(some 38), .v (.sl 1 true false) [.tmp 36, .tmp 37], none⟩,
    ⟨none, .clr [(.int .i64 0)] (.tmp 38), none⟩])
  (.seq (.reg [
    ⟨(some 39), .v .mv [.tmp 0], none⟩,
    ⟨(some 40), .v .mv [.tmp 5], none⟩,
    ⟨(some 41), .v (.sl 1 false true) [.tmp 39, .tmp 40], none⟩,
    ⟨(some 4), .v .mv [.tmp 41], none⟩])
  .ret))))))
def p57 : PFunc := ⟨42, [(4, none)], none, b57⟩
def b58 : PCode :=
  (.seq (.reg [
    ⟨(some 2), .v .mv [.const (.slice none 0 0)], none⟩])
  (.seq (.seq (.reg [
    ⟨(some 3), .v .mv [.tmp 0], none⟩,
    ⟨(some 4), .v (.nl .slice false) [.tmp 3], none⟩])
  (.cond (.tmp 4)
    (.seq (.reg [
      ⟨(some 2), .v .mv [.const (.slice none 0 0)], none⟩])
    .ret)
    .skip))
  (.seq (.reg [
    ⟨(some 5), .bs 3 1 [(.int .i64 0)] 0 [], none⟩,
    ⟨(some 6), .v .mv [.tmp 0], none⟩,
    ⟨(some 7), .app 3 1 (.tmp 5) (.tmp 6), none⟩,
    ⟨(some 2), .v .mv [.tmp 7], none⟩])
  .ret)))
def p58 : PFunc := ⟨8, [(2, none)], none, b58⟩
def b59 : PCode :=
  (.seq (.reg [
    ⟨(some 3), .v .mv [.const (.bool false)], none⟩])
  (.seq (.reg [
    ⟨(some 4), .v .mv [.tmp 0], none⟩,
    ⟨(some 5), .ld none (.tmp 1), none⟩,
    ⟨(some 6), .v (.ib .geq) [.tmp 4, .tmp 5], none⟩,
    ⟨(some 3), .v .mv [.tmp 6], none⟩])
  .ret))
def p59 : PFunc := ⟨7, [(3, none)], none, b59⟩
def b60 : PCode :=
  (.seq (.reg [
    ⟨(some 2), .box 76 (.tmp 0), none⟩,
    ⟨(some 3), .box 26 (.tmp 1), none⟩,
    ⟨(some 4), .v .mv [.const .nilFunc], none⟩])
  (.seq (.reg [
    ⟨(some 5), .v (.mkf (.func 75) 0) [.tmp 2, .tmp 3], none⟩,
    ⟨(some 4), .v .mv [.tmp 5], none⟩])
  .ret))
def p60 : PFunc := ⟨6, [(4, none)], none, b60⟩
def b61 : PCode :=
  (.seq (.reg [
    ⟨(some 3), .box 76 (.tmp 0), none⟩,
    ⟨(some 4), .box 118 (.tmp 1), none⟩,
    ⟨(some 5), .box 3 (.tmp 2), none⟩,
    ⟨(some 6), .v .mv [.const (.bool false)], none⟩])
  (.seq (.reg [
    ⟨(some 7), .v (.fa 1) [.tmp 4], none⟩,
    ⟨(some 8), .ld none (.tmp 7), none⟩,
    ⟨(some 9), .v .len [.tmp 8], none⟩,
    ⟨(some 10), .v (.fa 0) [.tmp 3], none⟩,
    ⟨(some 11), .v (.fa 9) [.tmp 10], none⟩,
    ⟨(some 12), .ld none (.tmp 11), none⟩,
    ⟨(some 13), .v (.ib .leq) [.tmp 9, .tmp 12], none⟩,
    ⟨(some 14), .v .mv [.tmp 13], none⟩,
    ⟨(some 15), .v (.mkf (.func 80) 0) [.tmp 3, .tmp 4, .tmp 5], some (14, true)⟩,
    ⟨(some 16), .call (.func 79) [.tmp 15], some (14, true)⟩,
    ⟨(some 17), .v (.ib .eql) [.tmp 16, .const (.int .i64 0)], some (14, true)⟩,
    ⟨(some 18), .v .pick [.tmp 14, .tmp 17, .const (.bool false)], none⟩,
    ⟨(some 6), .v .mv [.tmp 18], none⟩])
  .ret))
def p61 : PFunc := ⟨19, [(6, none)], none, b61⟩
def b62 : PCode :=
  (.seq (.reg [
    ⟨(some 4), .lalloc 23 (.agg #[(.int .i64 0), (.int .i64 0)]), none⟩])
  (.seq (.reg [
    ⟨(some 5), .v .mv [.tmp 0], none⟩,
    ⟨(some 6), .v .mv [.tmp 1], none⟩,
    ⟨(some 7), .v (.bld [(.int .i64 0), (.int .i64 0)] [(0, 1), (1, 1)]) [.tmp 5, .tmp 6], none⟩,
    ⟨none, .st 2 (.tmp 4) (.tmp 7), none⟩])
  .ret))
def p62 : PFunc := ⟨8, [(4, some (some 2))], none, b62⟩
def b63 : PCode :=
  (.seq (.reg [
    ⟨(some 2), .v .mv [.const (.slice none 0 0)], none⟩])
  (.seq (.reg [
    ⟨(some 3), .v .mv [.tmp 0], none⟩,
    ⟨(some 4), .call (.func 83) [.const (.slice none 0 0), .tmp 3], none⟩,
    ⟨(some 2), .v .mv [.tmp 4], none⟩])
  .ret))
def p63 : PFunc := ⟨5, [(2, none)], none, b63⟩
def b64 : PCode :=
  (.seq (.reg [
    ⟨(some 1), .box 61 (.tmp 0), none⟩,
    ⟨(some 2), .v .mv [.const .nilFunc], none⟩])
  (.seq (.reg [
    ⟨(some 3), .v (.mkf (.func 84) 0) [.tmp 1], none⟩,
    ⟨(some 2), .v .mv [.tmp 3], none⟩])
  .ret))
def p64 : PFunc := ⟨4, [(2, none)], none, b64⟩
def q65x0 : PCode :=
  (.seq (.reg [
        ⟨(some 9), .v (.ib .lss) [.tmp 8, .tmp 7], none⟩])
      (.seq (.cond (.tmp 9)
        .skip
        (.exit 0))
      (.seq (.blk 1
        (.seq (.reg [
          ⟨(some 10), .v .mv [.tmp 8], none⟩,
          ⟨(some 5), .v .mv [.tmp 10], none⟩])
        (.seq (.reg [
          ⟨(some 11), .v .mv [.tmp 1], none⟩,
          ⟨(some 12), .v .mv [.tmp 0], none⟩,
          ⟨(some 13), .v .mv [.tmp 5], none⟩,
          ⟨(some 14), .v (.ia 6) [.tmp 12, .tmp 13], none⟩,
          ⟨(some 15), .ld (some 6) (.tmp 14), none⟩,
          ⟨(some 16), .call (.tmp 11) [.tmp 15], none⟩])
        (.cond (.tmp 16)
          (.seq (.reg [
            ⟨(some 17), .v .mv [.tmp 5], none⟩,
            ⟨(some 4), .v .mv [.tmp 17], none⟩])
          .ret)
          .skip))))
      (.reg [
        ⟨(some 18), .v (.ib .add) [.tmp 8, .const (.int .i64 1)], none⟩,
        ⟨(some 8), .v .mv [.tmp 18], none⟩]))))
def b65 : PCode :=
  (.seq (.reg [
    ⟨(some 4), .v .mv [.const (.int .i64 0)], none⟩])
  (.seq (.seq (.reg [
    ⟨(some 6), .v .mv [.tmp 0], none⟩,
    ⟨(some 7), .v .len [.tmp 6], none⟩,
    ⟨(some 8), .v .mv [.const (.int .i64 0)], none⟩])
  (.blk 0
    (.loop q65x0)))
  (.seq (.reg [
    ⟨(some 4), .v .mv [.const (.int .i64 (-1))], none⟩])
  .ret)))
def p65 : PFunc := ⟨19, [(4, none)], none, b65⟩
def b66 : PCode :=
  (.seq (.reg [
    ⟨(some 6), .v .mv [.const (.int .i64 0)], none⟩])
  (.seq (.reg [
    ⟨(some 7), .v .mv [.tmp 0], none⟩,
    ⟨(some 8), .v .mv [.tmp 1], none⟩,
    ⟨(some 9), .v .mv [.tmp 2], none⟩,
    ⟨(some 10), .v (.ib .mul) [.tmp 8, .tmp 9], none⟩,
    ⟨(some 11), .v (.ib .sub) [.tmp 7, .tmp 10], none⟩,
    ⟨(some 12), .v .mx [.const (.int .i64 0), .tmp 11], none⟩,
    ⟨(some 6), .v .mv [.tmp 12], none⟩])
  .ret))
def p66 : PFunc := ⟨13, [(6, none)], none, b66⟩
def q67x0 : PCode :=
  (.seq (.reg [
        ⟨(some 9), .v (.ib .lss) [.tmp 8, .tmp 7], none⟩])
      (.seq (.cond (.tmp 9)
        .skip
        (.exit 0))
      (.seq (.blk 1
        (.seq (.reg [
          ⟨(some 10), .v .mv [.tmp 8], none⟩,
          ⟨(some 5), .v .mv [.tmp 10], none⟩])
        (.seq (.reg [
          ⟨(some 11), .v .mv [.tmp 1], none⟩,
          ⟨(some 12), .v .mv [.tmp 0], none⟩,
          ⟨(some 13), .v .mv [.tmp 5], none⟩,
          ⟨(some 14), .v (.ia 2) [.tmp 12, .tmp 13], none⟩,
          ⟨(some 15), .ld (some 2) (.tmp 14), none⟩,
          ⟨(some 16), .call (.tmp 11) [.tmp 15], none⟩])
        (.cond (.tmp 16)
          (.seq (.reg [
            ⟨(some 17), .v .mv [.tmp 5], none⟩,
            ⟨(some 4), .v .mv [.tmp 17], none⟩])
          .ret)
          .skip))))
      (.reg [
        ⟨(some 18), .v (.ib .add) [.tmp 8, .const (.int .i64 1)], none⟩,
        ⟨(some 8), .v .mv [.tmp 18], none⟩]))))
def b67 : PCode :=
  (.seq (.reg [
    ⟨(some 4), .v .mv [.const (.int .i64 0)], none⟩])
  (.seq (.seq (.reg [
    ⟨(some 6), .v .mv [.tmp 0], none⟩,
    ⟨(some 7), .v .len [.tmp 6], none⟩,
    ⟨(some 8), .v .mv [.const (.int .i64 0)], none⟩])
  (.blk 0
    (.loop q67x0)))
  (.seq (.reg [
    ⟨(some 4), .v .mv [.const (.int .i64 (-1))], none⟩])
  .ret)))
def p67 : PFunc := ⟨19, [(4, none)], none, b67⟩
def q68x0 : PCode :=
  (.seq (.reg [
        ⟨(some 9), .v (.ib .lss) [.tmp 8, .tmp 7], none⟩])
      (.seq (.cond (.tmp 9)
        .skip
        (.exit 0))
      (.seq (.blk 1
        (.seq (.reg [
          ⟨(some 10), .v .mv [.tmp 8], none⟩,
          ⟨(some 5), .v .mv [.tmp 10], none⟩])
        (.seq (.reg [
          ⟨(some 11), .v .mv [.tmp 1], none⟩,
          ⟨(some 12), .v .mv [.tmp 0], none⟩,
          ⟨(some 13), .v .mv [.tmp 5], none⟩,
          ⟨(some 14), .v (.ia 2) [.tmp 12, .tmp 13], none⟩,
          ⟨(some 15), .ld (some 2) (.tmp 14), none⟩,
          ⟨(some 16), .call (.tmp 11) [.tmp 15], none⟩])
        (.cond (.tmp 16)
          (.seq (.reg [
            ⟨(some 17), .v .mv [.tmp 5], none⟩,
            ⟨(some 4), .v .mv [.tmp 17], none⟩])
          .ret)
          .skip))))
      (.reg [
        ⟨(some 18), .v (.ib .add) [.tmp 8, .const (.int .i64 1)], none⟩,
        ⟨(some 8), .v .mv [.tmp 18], none⟩]))))
def b68 : PCode :=
  (.seq (.reg [
    ⟨(some 4), .v .mv [.const (.int .i64 0)], none⟩])
  (.seq (.seq (.reg [
    ⟨(some 6), .v .mv [.tmp 0], none⟩,
    ⟨(some 7), .v .len [.tmp 6], none⟩,
    ⟨(some 8), .v .mv [.const (.int .i64 0)], none⟩])
  (.blk 0
    (.loop q68x0)))
  (.seq (.reg [
    ⟨(some 4), .v .mv [.const (.int .i64 (-1))], none⟩])
  .ret)))
def p68 : PFunc := ⟨19, [(4, none)], none, b68⟩
def q69x0 : PCode :=
  (.seq (.reg [
        ⟨(some 9), .v (.ib .lss) [.tmp 8, .tmp 7], none⟩])
      (.seq (.cond (.tmp 9)
        .skip
        (.exit 0))
      (.seq (.blk 1
        (.seq (.reg [
          ⟨(some 10), .v .mv [.tmp 8], none⟩,
          ⟨(some 5), .v .mv [.tmp 10], none⟩])
        (.seq (.reg [
          ⟨(some 11), .v .mv [.tmp 1], none⟩,
          ⟨(some 12), .v .mv [.tmp 0], none⟩,
          ⟨(some 13), .v .mv [.tmp 5], none⟩,
          ⟨(some 14), .v (.ia 1) [.tmp 12, .tmp 13], none⟩,
          ⟨(some 15), .ld none (.tmp 14), none⟩,
          ⟨(some 16), .call (.tmp 11) [.tmp 15], none⟩])
        (.cond (.tmp 16)
          (.seq (.reg [
            ⟨(some 17), .v .mv [.tmp 5], none⟩,
            ⟨(some 4), .v .mv [.tmp 17], none⟩])
          .ret)
          .skip))))
      (.reg [
        ⟨(some 18), .v (.ib .add) [.tmp 8, .const (.int .i64 1)], none⟩,
        ⟨(some 8), .v .mv [.tmp 18], none⟩]))))
def b69 : PCode :=
  (.seq (.reg [
    ⟨(some 4), .v .mv [.const (.int .i64 0)], none⟩])
  (.seq (.seq (.reg [
    ⟨(some 6), .v .mv [.tmp 0], none⟩,
    ⟨(some 7), .v .len [.tmp 6], none⟩,
    ⟨(some 8), .v .mv [.const (.int .i64 0)], none⟩])
  (.blk 0
    (.loop q69x0)))
  (.seq (.reg [
    ⟨(some 4), .v .mv [.const (.int .i64 (-1))], none⟩])
  .ret)))
def p69 : PFunc := ⟨19, [(4, none)], none, b69⟩
def q70x0 : PCode :=
  (.seq (.reg [
        ⟨(some 9), .v (.ib .lss) [.tmp 8, .tmp 7], none⟩])
      (.seq (.cond (.tmp 9)
        .skip
        (.exit 0))
      (.seq (.blk 1
        (.seq (.reg [
          ⟨(some 10), .v .mv [.tmp 8], none⟩,
          ⟨(some 5), .v .mv [.tmp 10], none⟩])
        (.seq (.reg [
          ⟨(some 11), .v .mv [.tmp 1], none⟩,
          ⟨(some 12), .v .mv [.tmp 0], none⟩,
          ⟨(some 13), .v .mv [.tmp 5], none⟩,
          ⟨(some 14), .v (.ia 1) [.tmp 12, .tmp 13], none⟩,
          ⟨(some 15), .ld none (.tmp 14), none⟩,
          ⟨(some 16), .v (.ib .eql) [.tmp 11, .tmp 15], none⟩])
        (.cond (.tmp 16)
          (.seq (.reg [
            ⟨(some 17), .v .mv [.tmp 5], none⟩,
            ⟨(some 4), .v .mv [.tmp 17], none⟩])
          .ret)
          .skip))))
      (.reg [
        ⟨(some 18), .v (.ib .add) [.tmp 8, .const (.int .i64 1)], none⟩,
        ⟨(some 8), .v .mv [.tmp 18], none⟩]))))
def b70 : PCode :=
  (.seq (.reg [
    ⟨(some 4), .v .mv [.const (.int .i64 0)], none⟩])
  (.seq (.seq (.reg [
    ⟨(some 6), .v .mv [.tmp 0], none⟩,
    ⟨(some 7), .v .len [.tmp 6], none⟩,
    ⟨(some 8), .v .mv [.const (.int .i64 0)], none⟩])
  (.blk 0
    (.loop q70x0)))
  (.seq (.reg [
    ⟨(some 4), .v .mv [.const (.int .i64 (-1))], none⟩])
  .ret)))
def p70 : PFunc := ⟨19, [(4, none)], none, b70⟩
def b71 : PCode :=
  (.blk 0
    (.seq (.reg [
      ⟨(some 8), .v (.nl .iface false) [.tmp 6], none⟩])
    (.cond (.tmp 8)
      (.reg [
        ⟨(some 2), .v .mv [.tmp 6], none⟩])
      (.seq (.reg [
        ⟨(some 9), .v (.tas 65 (.agg #[(.int .i64 0), (.int .i64 0)])) [.tmp 6], none⟩,
        ⟨(some 10), .v (.ext 1) [.tmp 9], none⟩,
        ⟨(some 11), .v (.ext 0) [.tmp 9], none⟩])
      (.cond (.tmp 10)
        (.seq (.reg [
          ⟨(some 3), .lalloc 65 (.agg #[(.int .i64 0), (.int .i64 0)]), none⟩,
          ⟨none, .st 2 (.tmp 3) (.tmp 11), none⟩])
        (.reg [
          ⟨(some 12), .ld (some 2) (.tmp 3), none⟩,
          ⟨none, .st 2 (.tmp 0) (.tmp 12), none⟩,
          ⟨none, .st 1 (.tmp 1) (.const (.int .i64 7)), none⟩]))
        (.seq (.reg [
          ⟨(some 13), .v (.tas 131 (.agg #[(.string ⟨#[]⟩)])) [.tmp 6], none⟩,
          ⟨(some 14), .v (.ext 1) [.tmp 13], none⟩,
          ⟨(some 15), .v (.ext 0) [.tmp 13], none⟩])
        (.cond (.tmp 14)
          (.seq (.reg [
            ⟨(some 4), .lalloc 131 (.agg #[(.string ⟨#[]⟩)]), none⟩,
            ⟨none, .st 1 (.tmp 4) (.tmp 15), none⟩])
          (.reg [
            ⟨none, .st 1 (.tmp 1) (.const (.int .i64 4)), none⟩]))
          (.seq (.reg [
            ⟨(some 5), .v .mv [.tmp 6], none⟩])
          (.reg [
            ⟨(some 7), .v .mv [.tmp 5], none⟩,
            ⟨none, .pnc (.tmp 7), none⟩])))))))))
def p71 : PFunc := ⟨16, [], (some 6), b71⟩
def q72x0 : PCode :=
  (.seq (.reg [
        ⟨(some 9), .v (.ib .lss) [.tmp 8, .tmp 7], none⟩])
      (.seq (.cond (.tmp 9)
        .skip
        (.exit 0))
      (.seq (.blk 1
        (.seq (.reg [
          ⟨(some 10), .v .mv [.tmp 8], none⟩,
          ⟨(some 5), .v .mv [.tmp 10], none⟩])
        (.seq (.reg [
          ⟨(some 11), .v .mv [.tmp 1], none⟩,
          ⟨(some 12), .v .mv [.tmp 0], none⟩,
          ⟨(some 13), .v .mv [.tmp 5], none⟩,
          ⟨(some 14), .v (.ia 3) [.tmp 12, .tmp 13], none⟩,
          ⟨(some 15), .ld (some 3) (.tmp 14), none⟩,
          ⟨(some 16), .call (.tmp 11) [.tmp 15], none⟩])
        (.cond (.tmp 16)
          (.seq (.reg [
            ⟨(some 17), .v .mv [.tmp 5], none⟩,
            ⟨(some 4), .v .mv [.tmp 17], none⟩])
          .ret)
          .skip))))
      (.reg [
        ⟨(some 18), .v (.ib .add) [.tmp 8, .const (.int .i64 1)], none⟩,
        ⟨(some 8), .v .mv [.tmp 18], none⟩]))))
def b72 : PCode :=
  (.seq (.reg [
    ⟨(some 4), .v .mv [.const (.int .i64 0)], none⟩])
  (.seq (.seq (.reg [
    ⟨(some 6), .v .mv [.tmp 0], none⟩,
    ⟨(some 7), .v .len [.tmp 6], none⟩,
    ⟨(some 8), .v .mv [.const (.int .i64 0)], none⟩])
  (.blk 0
    (.loop q72x0)))
  (.seq (.reg [
    ⟨(some 4), .v .mv [.const (.int .i64 (-1))], none⟩])
  .ret)))
def p72 : PFunc := ⟨19, [(4, none)], none, b72⟩
def b73 : PCode :=
  (.seq (.reg [
    ⟨(some 3), .v .mv [.const (.bool false)], none⟩])
  (.seq (.reg [
    ⟨(some 4), .v .mv [.tmp 0], none⟩,
    ⟨(some 5), .v (.fa 0) [.tmp 1], none⟩,
    ⟨(some 6), .ld none (.tmp 5), none⟩,
    ⟨(some 7), .v .len [.tmp 6], none⟩,
    ⟨(some 8), .v (.ib .sub) [.tmp 7, .const (.int .i64 1)], none⟩,
    ⟨(some 9), .call (.func 49) [.tmp 4, .const (.int .i64 0), .tmp 8], none⟩,
    ⟨(some 10), .v .no [.tmp 9], none⟩,
    ⟨(some 3), .v .mv [.tmp 10], none⟩])
  .ret))
def p73 : PFunc := ⟨11, [(3, none)], none, b73⟩
def q74x0 : PCode :=
  (.seq (.reg [
        ⟨(some 12), .v (.ib .lss) [.tmp 11, .tmp 10], none⟩])
      (.seq (.cond (.tmp 12)
        .skip
        (.exit 0))
      (.seq (.blk 1
        (.seq (.reg [
          ⟨(some 13), .v .mv [.tmp 11], none⟩,
          ⟨(some 14), .v (.ia 1) [.tmp 9, .tmp 11], none⟩,
          ⟨(some 15), .ld none (.tmp 14), none⟩,
          ⟨(some 7), .v .mv [.tmp 13], none⟩,
          ⟨(some 8), .v .mv [.tmp 15], none⟩])
        (.seq (.reg [
          ⟨(some 16), .v .mv [.tmp 8], none⟩,
          ⟨(some 17), .v .mv [.tmp 1], none⟩,
          ⟨(some 18), .v .mv [.tmp 2], none⟩,
          ⟨(some 19), .call (.func 49) [.tmp 16, .tmp 17, .tmp 18], none⟩,
          ⟨(some 20), .v .no [.tmp 19], none⟩,
          ⟨(some 21), .v .mv [.tmp 20], none⟩,
          ⟨(some 22), .v .mv [.tmp 7], some (21, false)⟩,
          ⟨(some 23), .v (.ib .gtr) [.tmp 22, .const (.int .i64 0)], some (21, false)⟩,
          ⟨(some 24), .v .mv [.tmp 23], some (21, false)⟩,
          ⟨(some 25), .v .mv [.tmp 8], some (24, true)⟩,
          ⟨(some 26), .v .mv [.tmp 0], some (24, true)⟩,
          ⟨(some 27), .v .mv [.tmp 7], some (24, true)⟩,
          ⟨(some 28), .v (.ib .sub) [.tmp 27, .const (.int .i64 1)], some (24, true)⟩,
          ⟨(some 29), .v (.ia 1) [.tmp 26, .tmp 28], some (24, true)⟩,
          ⟨(some 30), .ld none (.tmp 29), some (24, true)⟩,
          ⟨(some 31), .v (.ib .leq) [.tmp 25, .tmp 30], some (24, true)⟩,
          ⟨(some 32), .v .pick [.tmp 24, .tmp 31, .const (.bool false)], some (21, false)⟩,
          ⟨(some 33), .v .pick [.tmp 21, .const (.bool true), .tmp 32], none⟩])
        (.cond (.tmp 33)
          (.seq (.reg [
            ⟨(some 6), .v .mv [.const (.bool false)], none⟩])
          .ret)
          .skip))))
      (.reg [
        ⟨(some 34), .v (.ib .add) [.tmp 11, .const (.int .i64 1)], none⟩,
        ⟨(some 11), .v .mv [.tmp 34], none⟩]))))
def b74 : PCode :=
  (.seq (.reg [
    ⟨(some 6), .v .mv [.const (.bool false)], none⟩])
  (.seq (.seq (.reg [
    ⟨(some 9), .v .mv [.tmp 0], none⟩,
    ⟨(some 10), .v .len [.tmp 9], none⟩,
    ⟨(some 11), .v .mv [.const (.int .i64 0)], none⟩])
  (.blk 0
    (.loop q74x0)))
  (.seq (.reg [
    ⟨(some 6), .v .mv [.const (.bool true)], none⟩])
  .ret)))
def p74 : PFunc := ⟨35, [(6, none)], none, b74⟩
def b75 : PCode :=
  (.seq (.reg [
    ⟨(some 3), .box 134 (.tmp 0), none⟩])
  (.seq (.reg [
    ⟨(some 7), .v (.fa 0) [.tmp 1], none⟩,
    ⟨(some 8), .ld (some 10) (.tmp 7), none⟩,
    ⟨(some 9), .ld none (.tmp 2), none⟩,
    ⟨(some 10), .call (.func 76) [.tmp 8, .tmp 9], none⟩,
    ⟨(some 4), .alloc 116 (.slice none 0 0), none⟩,
    ⟨none, .st 1 (.tmp 4) (.tmp 10), none⟩])
  (.seq (.reg [
    ⟨(some 5), .alloc 116 (.slice none 0 0), none⟩])
  (.seq (.reg [
    ⟨(some 6), .alloc 95 .nilFunc, none⟩])
  (.seq (.reg [
    ⟨(some 11), .v (.mkf (.func 77) 0) [.tmp 4, .tmp 3, .tmp 2, .tmp 5, .tmp 1, .tmp 6], none⟩,
    ⟨none, .st 1 (.tmp 6) (.tmp 11), none⟩])
  (.reg [
    ⟨(some 12), .ld none (.tmp 6), none⟩,
    ⟨(some 13), .call (.tmp 12) [.const (.int .i64 0)], none⟩]))))))
def p75 : PFunc := ⟨14, [], none, b75⟩
def q76x0 : PCode :=
  (.seq (.reg [
              ⟨(some 26), .v (.ib .lss) [.tmp 25, .tmp 24], none⟩])
            (.seq (.cond (.tmp 26)
              .skip
              (.exit 2))
            (.seq (.blk 3
              (.seq (.reg [
                ⟨(some 27), .v (.ia 1) [.tmp 23, .tmp 25], none⟩,
                ⟨(some 28), .ld none (.tmp 27), none⟩,
                ⟨(some 8), .v .mv [.tmp 28], none⟩])
              (.reg [
                ⟨(some 29), .v .mv [.tmp 5], none⟩,
                ⟨(some 30), .v .mv [.tmp 6], none⟩,
                ⟨(some 31), .v .mv [.tmp 8], none⟩,
                ⟨(some 32), .v (.bld [(.int .i64 0), (.int .i64 0)] [(0, 1), (1, 1)]) [.tmp 30, .tmp 31], none⟩,
                ⟨(some 33), .lbs 138 2 [(.int .i64 0), (.int .i64 0)] 1 [(0, .tmp 32)], none⟩,
                ⟨(some 34), .app 138 2 (.tmp 29) (.tmp 33), none⟩,
                ⟨(some 5), .v .mv [.tmp 34], none⟩])))
            (.reg [
              ⟨(some 35), .v (.ib .add) [.tmp 25, .const (.int .i64 1)], none⟩,
              ⟨(some 25), .v .mv [.tmp 35], none⟩]))))
def q76x1 : PCode :=
  (.seq (.reg [
        ⟨(some 13), .v (.ib .lss) [.tmp 12, .tmp 11], none⟩])
      (.seq (.cond (.tmp 13)
        .skip
        (.exit 0))
      (.seq (.blk 1
        (.seq (.reg [
          ⟨(some 14), .v .mv [.tmp 12], none⟩,
          ⟨(some 6), .v .mv [.tmp 14], none⟩])
        (.seq (.seq (.reg [
          ⟨(some 15), .v .mv [.tmp 1], none⟩,
          ⟨(some 16), .v .mv [.tmp 6], none⟩,
          ⟨(some 17), .call (.func 43) [.tmp 15, .tmp 16], none⟩])
        (.cond (.tmp 17)
          (.exit 1)
          .skip))
        (.seq (.seq (.reg [
          ⟨(some 18), .v (.fa 7) [.tmp 2], none⟩,
          ⟨(some 19), .ld none (.tmp 18), none⟩,
          ⟨(some 20), .v .mv [.tmp 6], none⟩,
          ⟨(some 21), .v (.ia 3) [.tmp 19, .tmp 20], none⟩,
          ⟨(some 22), .v (.fa 1) [.tmp 21], none⟩,
          ⟨(some 23), .ld none (.tmp 22), none⟩,
          ⟨(some 24), .v .len [.tmp 23], none⟩,
          ⟨(some 25), .v .mv [.const (.int .i64 0)], none⟩])
        (.blk 2
          (.loop q76x0)))
        (.reg [
          ⟨(some 36), .v .mv [.tmp 5], none⟩,
          ⟨(some 37), .v .mv [.tmp 6], none⟩,
          ⟨(some 38), .v (.fa 7) [.tmp 2], none⟩,
          ⟨(some 39), .ld none (.tmp 38), none⟩,
          ⟨(some 40), .v .mv [.tmp 6], none⟩,
          ⟨(some 41), .v (.ia 3) [.tmp 39, .tmp 40], none⟩,
          ⟨(some 42), .v (.fa 0) [.tmp 41], none⟩,
          ⟨(some 43), .ld none (.tmp 42), none⟩,
          ⟨(some 44), .v .len [.tmp 43], none⟩,
          ⟨(some 45), .v (.bld [(.int .i64 0), (.int .i64 0)] [(0, 1), (1, 1)]) [.tmp 37, .tmp 44], none⟩,
          ⟨(some 46), .lbs 138 2 [(.int .i64 0), (.int .i64 0)] 1 [(0, .tmp 45)], none⟩,
          ⟨(some 47), .app 138 2 (.tmp 36) (.tmp 46), none⟩,
          ⟨(some 5), .v .mv [.tmp 47], none⟩])))))
      (.reg [
        ⟨(some 48), .v (.ib .add) [.tmp 12, .const (.int .i64 1)], none⟩,
        ⟨(some 12), .v .mv [.tmp 48], none⟩]))))
def b76 : PCode :=
  (.seq (.reg [
    ⟨(some 2), .lbox 50 (.tmp 0), none⟩,
    ⟨(some 4), .v .mv [.const (.slice none 0 0)], none⟩])
  (.seq (.reg [
    ⟨(some 5), .v .mv [.const (.slice none 0 0)], none⟩])
  (.seq (.seq (.reg [
    ⟨(some 9), .v (.fa 7) [.tmp 2], none⟩,
    ⟨(some 10), .ld none (.tmp 9), none⟩,
    ⟨(some 11), .v .len [.tmp 10], none⟩,
    ⟨(some 12), .v .mv [.const (.int .i64 0)], none⟩])
  (.blk 0
    (.loop q76x1)))
  (.seq (.reg [
    ⟨(some 49), .v .mv [.tmp 5], none⟩,
    ⟨(some 4), .v .mv [.tmp 49], none⟩])
  .ret))))
def p76 : PFunc := ⟨50, [(4, none)], none, b76⟩
def q77x0 : PCode :=
  (.seq (.seq (.reg [
        ⟨(some 22), .v .mv [.tmp 9], none⟩,
        ⟨(some 23), .ld none (.tmp 1), none⟩,
        ⟨(some 24), .v .len [.tmp 23], none⟩,
        ⟨(some 25), .v (.ib .lss) [.tmp 22, .tmp 24], none⟩,
        ⟨(some 26), .v .mv [.tmp 25], none⟩,
        ⟨(some 27), .ld none (.tmp 4), some (26, true)⟩,
        ⟨(some 28), .v .len [.tmp 27], some (26, true)⟩,
        ⟨(some 29), .v (.fa 0) [.tmp 5], some (26, true)⟩,
        ⟨(some 30), .v (.fa 9) [.tmp 29], some (26, true)⟩,
        ⟨(some 31), .ld none (.tmp 30), some (26, true)⟩,
        ⟨(some 32), .v (.ib .lss) [.tmp 28, .tmp 31], some (26, true)⟩,
        ⟨(some 33), .v .pick [.tmp 26, .tmp 32, .const (.bool false)], none⟩])
      (.cond (.tmp 33)
        .skip
        (.exit 0)))
      (.seq (.blk 1
        (.seq (.dreg [
          ⟨(some 36), .ld none (.tmp 4), none⟩,
          ⟨(some 37), .ld none (.tmp 1), none⟩,
          ⟨(some 38), .v .mv [.tmp 9], none⟩,
          ⟨(some 39), .v (.ia 2) [.tmp 37, .tmp 38], none⟩,
          ⟨(some 40), .ld (some 2) (.tmp 39), none⟩,
          ⟨(some 41), .lbs 138 2 [(.int .i64 0), (.int .i64 0)] 1 [(0, .tmp 40)], none⟩,
          ⟨(some 42), .app 138 2 (.tmp 36) (.tmp 41), none⟩,
          ⟨none, .st 1 (.tmp 4) (.tmp 42), none⟩] [⟨1, false, false⟩, ⟨1, false, false⟩, ⟨0, false, false⟩, ⟨0, false, false⟩, ⟨1, false, false⟩, ⟨43, false, false⟩, ⟨1, true, true⟩, ⟨1, true, true⟩])
        (.seq (.seq (.reg [
          ⟨(some 43), .ld none (.tmp 6), none⟩,
          ⟨(some 44), .v .mv [.tmp 9], none⟩,
          ⟨(some 45), .v (.ib .add) [.tmp 44, .const (.int .i64 1)], none⟩,
          ⟨(some 46), .call (.tmp 43) [.tmp 45], none⟩,
          ⟨(some 47), .v .no [.tmp 46], none⟩])
        (.cond (.tmp 47)
          (.seq (.reg [
            ⟨(some 8), .v .mv [.const (.bool false)], none⟩])
          .ret)
          .skip))
        (.reg [
          ⟨(some 48), .ld none (.tmp 4), none⟩,
          ⟨(some 49), .ld none (.tmp 4), none⟩,
          ⟨(some 50), .v .len [.tmp 49], none⟩,
          ⟨(some 51), .v (.ib .sub) [.tmp 50, .const (.int .i64 1)], none⟩,
          ⟨(some 52), .v (.sl 2 false true) [.tmp 48, .tmp 51], none⟩,
          ⟨none, .st 1 (.tmp 4) (.tmp 52), none⟩]))))
      (.reg [
        ⟨(some 34), .v .mv [.tmp 9], none⟩,
        ⟨(some 35), .v (.ib .add) [.tmp 34, .const (.int .i64 1)], none⟩,
        ⟨(some 9), .v .mv [.tmp 35], none⟩])))
def b77 : PCode :=
  (.seq (.reg [
    ⟨(some 8), .v .mv [.const (.bool false)], none⟩])
  (.seq (.seq (.reg [
    ⟨(some 10), .v .mv [.tmp 0], none⟩,
    ⟨(some 11), .ld none (.tmp 1), none⟩,
    ⟨(some 12), .v .len [.tmp 11], none⟩,
    ⟨(some 13), .v (.ib .eql) [.tmp 10, .tmp 12], none⟩])
  (.cond (.tmp 13)
    (.seq (.dreg [
      ⟨(some 14), .ld none (.tmp 2), none⟩,
      ⟨(some 15), .ld none (.tmp 3), none⟩,
      ⟨(some 16), .call (.func 58) [.tmp 15], none⟩,
      ⟨(some 17), .ld none (.tmp 4), none⟩,
      ⟨(some 18), .call (.func 78) [.tmp 17], none⟩,
      ⟨(some 19), .v (.bld [(.slice none 0 0), (.slice none 0 0)] [(0, 1), (1, 1)]) [.tmp 16, .tmp 18], none⟩,
      ⟨(some 20), .call (.tmp 14) [.tmp 19], none⟩,
      ⟨(some 8), .v .mv [.tmp 20], none⟩] [⟨1, false, false⟩, ⟨1, false, false⟩, ⟨1, false, false⟩, ⟨1, false, false⟩, ⟨1, false, false⟩, ⟨0, false, false⟩, ⟨1, true, true⟩, ⟨0, true, true⟩])
    .ret)
    .skip))
  (.seq (.seq (.reg [
    ⟨(some 21), .v .mv [.tmp 0], none⟩,
    ⟨(some 9), .v .mv [.tmp 21], none⟩])
  (.blk 0
    (.loop q77x0)))
  (.seq (.reg [
    ⟨(some 8), .v .mv [.const (.bool true)], none⟩])
  .ret))))
def p77 : PFunc := ⟨53, [(8, none)], none, b77⟩
def b78 : PCode :=
  (.seq (.reg [
    ⟨(some 2), .v .mv [.const (.slice none 0 0)], none⟩])
  (.seq (.seq (.reg [
    ⟨(some 3), .v .mv [.tmp 0], none⟩,
    ⟨(some 4), .v (.nl .slice false) [.tmp 3], none⟩])
  (.cond (.tmp 4)
    (.seq (.reg [
      ⟨(some 2), .v .mv [.const (.slice none 0 0)], none⟩])
    .ret)
    .skip))
  (.seq (.reg [
    ⟨(some 5), .bs 138 2 [(.int .i64 0), (.int .i64 0)] 0 [], none⟩,
    ⟨(some 6), .v .mv [.tmp 0], none⟩,
    ⟨(some 7), .app 138 2 (.tmp 5) (.tmp 6), none⟩,
    ⟨(some 2), .v .mv [.tmp 7], none⟩])
  .ret)))
def p78 : PFunc := ⟨8, [(2, none)], none, b78⟩
def b79 : PCode :=
  (.seq (.reg [
    ⟨(some 2), .alloc 38 (.int .i64 0), none⟩])
  (.seq (.reg [
    ⟨(some 3), .v (.mkf (.func 88) 0) [.tmp 2], none⟩,
    ⟨none, .dfr (.tmp 3) [], none⟩])
  (.seq (.reg [
    ⟨(some 4), .v .mv [.tmp 0], none⟩,
    ⟨(some 5), .call (.tmp 4) [], none⟩])
  (.seq (.reg [
    ⟨none, .st 1 (.tmp 2) (.const (.int .i64 0)), none⟩])
  .ret))))
def p79 : PFunc := ⟨6, [(2, some none)], none, b79⟩
def q80x0 : PCode :=
  (.seq (.reg [
        ⟨(some 10), .v (.ib .lss) [.tmp 9, .tmp 8], none⟩])
      (.seq (.cond (.tmp 10)
        .skip
        (.exit 0))
      (.seq (.blk 1
        (.seq (.reg [
          ⟨(some 11), .v .mv [.tmp 9], none⟩,
          ⟨(some 12), .v (.ia 2) [.tmp 7, .tmp 9], none⟩,
          ⟨(some 13), .ld (some 2) (.tmp 12), none⟩,
          ⟨(some 4), .lalloc 144 (.agg #[(.slice none 0 0), (.bool false)]), none⟩,
          ⟨(some 3), .v .mv [.tmp 11], none⟩,
          ⟨none, .st 2 (.tmp 4) (.tmp 13), none⟩])
        (.seq (.dreg [
          ⟨(some 14), .ld (some 11) (.tmp 0), none⟩,
          ⟨(some 15), .ld (some 2) (.tmp 4), none⟩,
          ⟨(some 16), .ld none (.tmp 2), none⟩,
          ⟨(some 17), .call (.func 82) [.tmp 14, .tmp 15, .tmp 16], none⟩,
          ⟨(some 18), .v (.fa 0) [.tmp 0], none⟩,
          ⟨(some 19), .v (.fa 8) [.tmp 18], none⟩,
          ⟨(some 20), .ld none (.tmp 19), none⟩,
          ⟨(some 21), .v (.ib .gtr) [.tmp 17, .tmp 20], none⟩] [⟨1, false, false⟩, ⟨6, false, false⟩, ⟨1, false, false⟩, ⟨1, false, false⟩, ⟨0, false, false⟩, ⟨0, false, false⟩, ⟨1, false, false⟩, ⟨0, true, true⟩])
        (.cond (.tmp 21)
          (.reg [
            ⟨(some 22), .v .mv [.tmp 3], none⟩,
            ⟨(some 23), .v (.bld [(.int .i64 0)] [(0, 1)]) [.tmp 22], none⟩,
            ⟨(some 24), .v (.mki 147) [.tmp 23], none⟩,
            ⟨none, .pnc (.tmp 24), none⟩])
          .skip))))
      (.reg [
        ⟨(some 25), .v (.ib .add) [.tmp 9, .const (.int .i64 1)], none⟩,
        ⟨(some 9), .v .mv [.tmp 25], none⟩]))))
def b80 : PCode :=
  (.seq (.reg [
    ⟨(some 5), .ld (some 11) (.tmp 0), none⟩,
    ⟨(some 6), .ld (some 2) (.tmp 1), none⟩,
    ⟨(some 7), .call (.func 81) [.tmp 5, .tmp 6], none⟩,
    ⟨(some 8), .v .len [.tmp 7], none⟩,
    ⟨(some 9), .v .mv [.const (.int .i64 0)], none⟩])
  (.blk 0
    (.loop q80x0)))
def p80 : PFunc := ⟨26, [], none, b80⟩
def q81x0 : PCode :=
  (.seq (.seq (.reg [
              ⟨(some 31), .v .mv [.tmp 6], none⟩,
              ⟨(some 32), .v (.fa 0) [.tmp 9], none⟩,
              ⟨(some 33), .ld none (.tmp 32), none⟩,
              ⟨(some 34), .v (.ib .lss) [.tmp 31, .tmp 33], none⟩,
              ⟨(some 35), .v .mv [.tmp 34], none⟩,
              ⟨(some 36), .v .mv [.tmp 6], some (35, false)⟩,
              ⟨(some 37), .v (.fa 0) [.tmp 9], some (35, false)⟩,
              ⟨(some 38), .ld none (.tmp 37), some (35, false)⟩,
              ⟨(some 39), .v (.ib .eql) [.tmp 36, .tmp 38], some (35, false)⟩,
              ⟨(some 40), .v .mv [.tmp 39], some (35, false)⟩,
              ⟨(some 41), .v .mv [.tmp 7], some (40, true)⟩,
              ⟨(some 42), .v (.fa 1) [.tmp 9], some (40, true)⟩,
              ⟨(some 43), .ld none (.tmp 42), some (40, true)⟩,
              ⟨(some 44), .v (.ib .lss) [.tmp 41, .tmp 43], some (40, true)⟩,
              ⟨(some 45), .v .pick [.tmp 40, .tmp 44, .const (.bool false)], some (35, false)⟩,
              ⟨(some 46), .v .pick [.tmp 35, .const (.bool true), .tmp 45], none⟩])
            (.cond (.tmp 46)
              .skip
              (.exit 2)))
            (.seq (.blk 3
              (.seq (.seq (.reg [
                ⟨(some 49), .v (.fa 0) [.tmp 3], none⟩,
                ⟨(some 50), .ld none (.tmp 49), none⟩,
                ⟨(some 51), .v .mv [.tmp 6], none⟩,
                ⟨(some 52), .call (.func 43) [.tmp 50, .tmp 51], none⟩,
                ⟨(some 53), .v .mv [.tmp 52], none⟩,
                ⟨(some 54), .v .mv [.tmp 7], some (53, false)⟩,
                ⟨(some 55), .v (.fa 0) [.tmp 2], some (53, false)⟩,
                ⟨(some 56), .v (.fa 7) [.tmp 55], some (53, false)⟩,
                ⟨(some 57), .ld none (.tmp 56), some (53, false)⟩,
                ⟨(some 58), .v .mv [.tmp 6], some (53, false)⟩,
                ⟨(some 59), .v (.ia 3) [.tmp 57, .tmp 58], some (53, false)⟩,
                ⟨(some 60), .v (.fa 0) [.tmp 59], some (53, false)⟩,
                ⟨(some 61), .ld none (.tmp 60), some (53, false)⟩,
                ⟨(some 62), .v .len [.tmp 61], some (53, false)⟩,
                ⟨(some 63), .v (.ib .eql) [.tmp 54, .tmp 62], some (53, false)⟩,
                ⟨(some 64), .v .pick [.tmp 53, .const (.bool true), .tmp 63], none⟩])
              (.cond (.tmp 64)
                (.seq (.reg [
                  ⟨(some 65), .v .mv [.tmp 6], none⟩,
                  ⟨(some 66), .v (.ib .add) [.tmp 65, .const (.int .i64 1)], none⟩,
                  ⟨(some 6), .v .mv [.tmp 66], none⟩,
                  ⟨(some 7), .v .mv [.const (.int .i64 (-1))], none⟩])
                (.exit 3))
                .skip))
              (.reg [
                ⟨(some 67), .v (.fa 0) [.tmp 10], none⟩,
                ⟨(some 68), .ld none (.tmp 67), none⟩,
                ⟨(some 69), .v .mv [.tmp 6], none⟩,
                ⟨(some 70), .v .mv [.tmp 7], none⟩,
                ⟨(some 71), .v (.bld [(.int .i64 0), (.int .i64 0)] [(0, 1), (1, 1)]) [.tmp 69, .tmp 70], none⟩,
                ⟨(some 72), .lbs 154 2 [(.int .i64 0), (.int .i64 0)] 1 [(0, .tmp 71)], none⟩,
                ⟨(some 73), .app 154 2 (.tmp 68) (.tmp 72), none⟩,
                ⟨(some 74), .v (.fa 0) [.tmp 10], none⟩,
                ⟨none, .st 1 (.tmp 74) (.tmp 73), none⟩])))
            (.reg [
              ⟨(some 47), .v .mv [.tmp 7], none⟩,
              ⟨(some 48), .v (.ib .add) [.tmp 47, .const (.int .i64 1)], none⟩,
              ⟨(some 7), .v .mv [.tmp 48], none⟩])))
def q81x1 : PCode :=
  (.seq (.reg [
        ⟨(some 15), .v (.ib .lss) [.tmp 14, .tmp 13], none⟩])
      (.seq (.cond (.tmp 15)
        .skip
        (.exit 0))
      (.seq (.blk 1
        (.seq (.reg [
          ⟨(some 16), .v (.ia 2) [.tmp 12, .tmp 14], none⟩,
          ⟨(some 17), .ld (some 2) (.tmp 16), none⟩,
          ⟨(some 9), .lalloc 138 (.agg #[(.int .i64 0), (.int .i64 0)]), none⟩,
          ⟨none, .st 2 (.tmp 9) (.tmp 17), none⟩])
        (.seq (.dreg [
          ⟨(some 18), .v (.fa 1) [.tmp 9], none⟩,
          ⟨(some 19), .ld none (.tmp 18), none⟩,
          ⟨(some 20), .v (.fa 0) [.tmp 2], none⟩,
          ⟨(some 21), .v (.fa 7) [.tmp 20], none⟩,
          ⟨(some 22), .ld none (.tmp 21), none⟩,
          ⟨(some 23), .v (.fa 0) [.tmp 9], none⟩,
          ⟨(some 24), .ld none (.tmp 23), none⟩,
          ⟨(some 25), .v (.ia 3) [.tmp 22, .tmp 24], none⟩,
          ⟨(some 26), .v (.fa 0) [.tmp 25], none⟩,
          ⟨(some 27), .ld none (.tmp 26), none⟩,
          ⟨(some 28), .v .len [.tmp 27], none⟩,
          ⟨(some 29), .v (.ib .lss) [.tmp 19, .tmp 28], none⟩,
          ⟨(some 30), .v (.bld [(.slice none 0 0), (.bool false)] [(1, 1)]) [.tmp 29], none⟩,
          ⟨(some 10), .lalloc 144 (.agg #[(.slice none 0 0), (.bool false)]), none⟩,
          ⟨none, .st 2 (.tmp 10) (.tmp 30), none⟩] [⟨0, false, false⟩, ⟨11, false, false⟩, ⟨0, true, false⟩, ⟨0, true, false⟩, ⟨4, true, false⟩, ⟨0, true, false⟩, ⟨11, true, false⟩, ⟨0, true, false⟩, ⟨0, true, false⟩, ⟨1, true, false⟩, ⟨0, true, false⟩, ⟨0, true, false⟩, ⟨0, true, false⟩, ⟨12, false, false⟩, ⟨12, true, true⟩])
        (.seq (.blk 2
          (.loop q81x0))
        (.reg [
          ⟨(some 75), .v .mv [.tmp 5], none⟩,
          ⟨(some 76), .ld (some 2) (.tmp 10), none⟩,
          ⟨(some 77), .lbs 144 2 [(.slice none 0 0), (.bool false)] 1 [(0, .tmp 76)], none⟩,
          ⟨(some 78), .app 144 2 (.tmp 75) (.tmp 77), none⟩,
          ⟨(some 5), .v .mv [.tmp 78], none⟩])))))
      (.reg [
        ⟨(some 79), .v (.ib .add) [.tmp 14, .const (.int .i64 1)], none⟩,
        ⟨(some 14), .v .mv [.tmp 79], none⟩]))))
def b81 : PCode :=
  (.seq (.reg [
    ⟨(some 2), .lbox 76 (.tmp 0), none⟩,
    ⟨(some 3), .lbox 118 (.tmp 1), none⟩,
    ⟨(some 4), .v .mv [.const (.slice none 0 0)], none⟩])
  (.seq (.reg [
    ⟨(some 5), .v .mv [.const (.slice none 0 0)], none⟩])
  (.seq (.reg [
    ⟨(some 6), .v .mv [.const (.int .i64 0)], none⟩,
    ⟨(some 7), .v .mv [.const (.int .i64 0)], none⟩])
  (.seq (.seq (.reg [
    ⟨(some 11), .v (.fa 1) [.tmp 3], none⟩,
    ⟨(some 12), .ld none (.tmp 11), none⟩,
    ⟨(some 13), .v .len [.tmp 12], none⟩,
    ⟨(some 14), .v .mv [.const (.int .i64 0)], none⟩])
  (.blk 0
    (.loop q81x1)))
  (.seq (.reg [
    ⟨(some 80), .v .mv [.tmp 5], none⟩,
    ⟨(some 4), .v .mv [.tmp 80], none⟩])
  .ret)))))
def p81 : PFunc := ⟨81, [(4, none)], none, b81⟩
def q82x0 : PCode :=
  (.seq (.reg [
        ⟨(some 12), .v (.ib .lss) [.tmp 11, .const (.int .i64 2)], none⟩])
      (.seq (.cond (.tmp 12)
        .skip
        (.exit 0))
      (.seq (.blk 1
        (.seq (.reg [
          ⟨(some 13), .v (.ixa 1 2 none) [.tmp 10, .tmp 11], none⟩,
          ⟨(some 9), .v .mv [.tmp 13], none⟩])
        (.reg [
          ⟨(some 14), .v .mv [.tmp 7], none⟩,
          ⟨(some 15), .v .mv [.tmp 9], none⟩,
          ⟨(some 16), .ld (some 11) (.tmp 3), none⟩,
          ⟨(some 17), .ld (some 2) (.tmp 4), none⟩,
          ⟨(some 18), .v .mv [.tmp 2], none⟩,
          ⟨(some 19), .call (.tmp 15) [.tmp 16, .tmp 17, .tmp 18], none⟩,
          ⟨(some 20), .v (.ib .add) [.tmp 14, .tmp 19], none⟩,
          ⟨(some 7), .v .mv [.tmp 20], none⟩])))
      (.reg [
        ⟨(some 21), .v (.ib .add) [.tmp 11, .const (.int .i64 1)], none⟩,
        ⟨(some 11), .v .mv [.tmp 21], none⟩]))))
def b82 : PCode :=
  (.seq (.reg [
    ⟨(some 3), .lbox 76 (.tmp 0), none⟩,
    ⟨(some 4), .lbox 144 (.tmp 1), none⟩,
    ⟨(some 6), .v .mv [.const (.int .i64 0)], none⟩])
  (.seq (.reg [
    ⟨(some 7), .v .mv [.const (.int .i64 0)], none⟩])
  (.seq (.seq (.reg [
    ⟨(some 10), .v (.bld [.nilFunc, .nilFunc] [(0, 1), (1, 1)]) [.func 89, .func 90], none⟩,
    ⟨(some 11), .v .mv [.const (.int .i64 0)], none⟩])
  (.blk 0
    (.loop q82x0)))
  (.seq (.reg [
    ⟨(some 22), .v .mv [.tmp 7], none⟩,
    ⟨(some 6), .v .mv [.tmp 22], none⟩])
  .ret))))
def p82 : PFunc := ⟨23, [(6, none)], none, b82⟩
def b83 : PCode :=
  (.seq (.reg [
    ⟨(some 2), .box 80 (.tmp 0), none⟩,
    ⟨(some 4), .v .mv [.const (.slice none 0 0)], none⟩])
  (.seq (.seq (.reg [
    ⟨(some 6), .v .mv [.tmp 1], none⟩])
  (.blk 0
    (.rf (.tmp 6) [7]
      (.reg [
        ⟨(some 5), .v .mv [.tmp 7], none⟩])
      (.blk 1
        (.reg [
          ⟨(some 8), .ld none (.tmp 2), none⟩,
          ⟨(some 9), .v .mv [.tmp 5], none⟩,
          ⟨(some 10), .lbs 26 1 [(.slice none 0 0)] 1 [(0, .tmp 9)], none⟩,
          ⟨(some 11), .app 26 1 (.tmp 8) (.tmp 10), none⟩,
          ⟨none, .st 1 (.tmp 2) (.tmp 11), none⟩])))))
  (.seq (.reg [
    ⟨(some 12), .ld none (.tmp 2), none⟩,
    ⟨(some 4), .v .mv [.tmp 12], none⟩])
  .ret)))
def p83 : PFunc := ⟨13, [(4, none)], none, b83⟩
def b84 : PCode :=
  (.seq (.reg [
    ⟨(some 2), .box 79 (.tmp 0), none⟩])
  (.seq (.reg [
    ⟨(some 6), .mkm (.agg [(.i .i64), (.i .i64)]), none⟩,
    ⟨(some 3), .alloc 149 (.map none), none⟩,
    ⟨none, .st 1 (.tmp 3) (.tmp 6), none⟩])
  (.seq (.reg [
    ⟨(some 4), .alloc 26 (.slice none 0 0), none⟩])
  (.seq (.reg [
    ⟨(some 5), .alloc 25 .nilFunc, none⟩])
  (.seq (.reg [
    ⟨(some 7), .v (.mkf (.func 85) 0) [.tmp 4, .tmp 1, .tmp 2, .tmp 3, .tmp 5], none⟩,
    ⟨none, .st 1 (.tmp 5) (.tmp 7), none⟩])
  (.reg [
    ⟨(some 8), .ld none (.tmp 5), none⟩,
    ⟨(some 9), .call (.tmp 8) [], none⟩]))))))
def p84 : PFunc := ⟨10, [], none, b84⟩
def q85x0 : PCode :=
  (.seq (.reg [
        ⟨(some 28), .v (.ib .lss) [.tmp 27, .tmp 26], none⟩])
      (.seq (.cond (.tmp 28)
        .skip
        (.exit 0))
      (.seq (.blk 1
        (.seq (.reg [
          ⟨(some 29), .v (.ia 1) [.tmp 25, .tmp 27], none⟩,
          ⟨(some 30), .ld none (.tmp 29), none⟩,
          ⟨(some 8), .alloc 3 (.int .i64 0), none⟩,
          ⟨none, .st 1 (.tmp 8) (.tmp 30), none⟩])
        (.seq (.seq (.dreg [
          ⟨(some 31), .ld none (.tmp 6), none⟩,
          ⟨(some 32), .v (.ib .gtr) [.tmp 31, .const (.int .i64 0)], none⟩,
          ⟨(some 33), .v .mv [.tmp 32], none⟩,
          ⟨(some 34), .ld none (.tmp 8), some (33, true)⟩,
          ⟨(some 35), .ld none (.tmp 0), some (33, true)⟩,
          ⟨(some 36), .ld none (.tmp 6), some (33, true)⟩,
          ⟨(some 37), .v (.ib .sub) [.tmp 36, .const (.int .i64 1)], some (33, true)⟩,
          ⟨(some 38), .v (.ia 1) [.tmp 35, .tmp 37], some (33, true)⟩,
          ⟨(some 39), .ld none (.tmp 38), some (33, true)⟩,
          ⟨(some 40), .v (.ib .leq) [.tmp 34, .tmp 39], some (33, true)⟩,
          ⟨(some 41), .v .pick [.tmp 33, .tmp 40, .const (.bool false)], none⟩,
          ⟨(some 42), .v .mv [.tmp 41], none⟩,
          ⟨(some 43), .ld (some 5) (.tmp 1), some (42, false)⟩,
          ⟨(some 44), .ld none (.tmp 6), some (42, false)⟩,
          ⟨(some 45), .ld none (.tmp 8), some (42, false)⟩,
          ⟨(some 46), .ld none (.tmp 3), some (42, false)⟩,
          ⟨(some 47), .call (.func 86) [.tmp 43, .tmp 44, .tmp 45, .tmp 46], some (42, false)⟩,
          ⟨(some 48), .v .no [.tmp 47], some (42, false)⟩,
          ⟨(some 49), .v .pick [.tmp 42, .const (.bool true), .tmp 48], none⟩] [⟨1, true, true⟩, ⟨0, true, true⟩, ⟨0, true, true⟩, ⟨1, false, false⟩, ⟨1, false, false⟩, ⟨1, false, false⟩, ⟨0, false, false⟩, ⟨0, false, false⟩, ⟨1, false, false⟩, ⟨0, true, true⟩, ⟨0, true, true⟩, ⟨0, true, true⟩, ⟨1, false, false⟩, ⟨1, false, false⟩, ⟨1, false, false⟩, ⟨1, false, false⟩, ⟨1, true, true⟩, ⟨0, true, true⟩, ⟨0, true, true⟩])
        (.cond (.tmp 49)
          (.exit 1)
          .skip))
        (.seq (.seq (.reg [
          ⟨(some 50), .ld none (.tmp 6), none⟩,
          ⟨(some 51), .v (.ib .gtr) [.tmp 50, .const (.int .i64 0)], none⟩])
        (.cond (.tmp 51)
          (.seq (.reg [
            ⟨(some 53), .v (.mkf (.func 87) 0) [.tmp 1, .tmp 6, .tmp 0, .tmp 8], none⟩,
            ⟨(some 54), .call (.func 44) [.tmp 53], none⟩,
            ⟨(some 52), .v .mv [.tmp 54], none⟩,
            ⟨(some 55), .v (.ext 0) [.tmp 52], none⟩,
            ⟨(some 56), .v (.ext 1) [.tmp 52], none⟩,
            ⟨(some 9), .lalloc 65 (.agg #[(.int .i64 0), (.int .i64 0)]), none⟩,
            ⟨none, .st 2 (.tmp 9) (.tmp 55), none⟩,
            ⟨(some 10), .v .mv [.tmp 56], none⟩])
          (.seq (.reg [
            ⟨(some 57), .v .mv [.tmp 10], none⟩,
            ⟨(some 58), .v (.ib .neq) [.tmp 57, .const (.int .i64 0)], none⟩])
          (.cond (.tmp 58)
            (.exit 1)
            .skip)))
          .skip))
        (.seq (.reg [
          ⟨(some 59), .ld none (.tmp 0), none⟩,
          ⟨(some 60), .ld none (.tmp 8), none⟩,
          ⟨(some 61), .lbs 3 1 [(.int .i64 0)] 1 [(0, .tmp 60)], none⟩,
          ⟨(some 62), .app 3 1 (.tmp 59) (.tmp 61), none⟩,
          ⟨none, .st 1 (.tmp 0) (.tmp 62), none⟩])
        (.seq (.seq (.reg [
          ⟨(some 63), .ld none (.tmp 4), none⟩,
          ⟨(some 64), .call (.tmp 63) [], none⟩,
          ⟨(some 65), .v .no [.tmp 64], none⟩])
        (.cond (.tmp 65)
          (.seq (.reg [
            ⟨(some 5), .v .mv [.const (.bool false)], none⟩])
          .ret)
          .skip))
        (.reg [
          ⟨(some 66), .ld none (.tmp 0), none⟩,
          ⟨(some 67), .ld none (.tmp 6), none⟩,
          ⟨(some 68), .v (.sl 1 false true) [.tmp 66, .tmp 67], none⟩,
          ⟨none, .st 1 (.tmp 0) (.tmp 68), none⟩])))))))
      (.reg [
        ⟨(some 69), .v (.ib .add) [.tmp 27, .const (.int .i64 1)], none⟩,
        ⟨(some 27), .v .mv [.tmp 69], none⟩]))))
def b85 : PCode :=
  (.seq (.reg [
    ⟨(some 5), .v .mv [.const (.bool false)], none⟩])
  (.seq (.reg [
    ⟨(some 11), .ld none (.tmp 0), none⟩,
    ⟨(some 12), .v .len [.tmp 11], none⟩,
    ⟨(some 6), .alloc 3 (.int .i64 0), none⟩,
    ⟨none, .st 1 (.tmp 6) (.tmp 12), none⟩])
  (.seq (.seq (.reg [
    ⟨(some 13), .ld none (.tmp 6), none⟩,
    ⟨(some 14), .v (.fa 0) [.tmp 1], none⟩,
    ⟨(some 15), .v (.fa 2) [.tmp 14], none⟩,
    ⟨(some 16), .ld none (.tmp 15), none⟩,
    ⟨(some 17), .v .len [.tmp 16], none⟩,
    ⟨(some 18), .v (.ib .eql) [.tmp 13, .tmp 17], none⟩])
  (.cond (.tmp 18)
    (.seq (.dreg [
      ⟨(some 19), .ld none (.tmp 2), none⟩,
      ⟨(some 20), .ld none (.tmp 0), none⟩,
      ⟨(some 21), .call (.func 58) [.tmp 20], none⟩,
      ⟨(some 22), .call (.tmp 19) [.tmp 21], none⟩,
      ⟨(some 5), .v .mv [.tmp 22], none⟩] [⟨1, false, false⟩, ⟨1, false, false⟩, ⟨1, false, false⟩, ⟨1, true, true⟩, ⟨0, true, true⟩])
    .ret)
    .skip))
  (.seq (.seq (.reg [
    ⟨(some 23), .v (.fa 0) [.tmp 1], none⟩,
    ⟨(some 24), .v (.fa 1) [.tmp 23], none⟩,
    ⟨(some 25), .ld none (.tmp 24), none⟩,
    ⟨(some 26), .v .len [.tmp 25], none⟩,
    ⟨(some 27), .v .mv [.const (.int .i64 0)], none⟩])
  (.blk 0
    (.loop q85x0)))
  (.seq (.reg [
    ⟨(some 5), .v .mv [.const (.bool true)], none⟩])
  .ret)))))
def p85 : PFunc := ⟨70, [(5, none)], none, b85⟩
def q86x0 : PCode :=
  (.seq (.reg [
          ⟨(some 49), .v (.ib .lss) [.tmp 48, .tmp 47], none⟩])
        (.seq (.cond (.tmp 49)
          .skip
          (.exit 0))
        (.seq (.blk 1
          (.seq (.reg [
            ⟨(some 50), .v (.ia 1) [.tmp 46, .tmp 48], none⟩,
            ⟨(some 51), .ld none (.tmp 50), none⟩,
            ⟨(some 16), .alloc 3 (.int .i64 0), none⟩,
            ⟨none, .st 1 (.tmp 16) (.tmp 51), none⟩])
          (.seq (.seq (.reg [
            ⟨(some 52), .ld none (.tmp 16), none⟩,
            ⟨(some 53), .ld none (.tmp 6), none⟩,
            ⟨(some 54), .v (.ib .leq) [.tmp 52, .tmp 53], none⟩])
          (.cond (.tmp 54)
            (.exit 1)
            .skip))
          (.seq (.reg [
            ⟨(some 56), .v (.mkf (.func 92) 0) [.tmp 4, .tmp 5, .tmp 6, .tmp 16], none⟩,
            ⟨(some 57), .call (.func 44) [.tmp 56], none⟩,
            ⟨(some 55), .v .mv [.tmp 57], none⟩,
            ⟨(some 58), .v (.ext 0) [.tmp 55], none⟩,
            ⟨(some 59), .v (.ext 1) [.tmp 55], none⟩,
            ⟨(some 17), .lalloc 65 (.agg #[(.int .i64 0), (.int .i64 0)]), none⟩,
            ⟨none, .st 2 (.tmp 17) (.tmp 58), none⟩,
            ⟨(some 18), .v .mv [.tmp 59], none⟩])
          (.seq (.reg [
            ⟨(some 60), .v .mv [.tmp 18], none⟩,
            ⟨(some 61), .v (.ib .eql) [.tmp 60, .const (.int .i64 0)], none⟩,
            ⟨(some 62), .v .mv [.tmp 61], none⟩,
            ⟨(some 63), .ld (some 5) (.tmp 4), some (62, true)⟩,
            ⟨(some 64), .ld none (.tmp 5), some (62, true)⟩,
            ⟨(some 65), .v (.ib .add) [.tmp 64, .const (.int .i64 1)], some (62, true)⟩,
            ⟨(some 66), .ld none (.tmp 16), some (62, true)⟩,
            ⟨(some 67), .v .mv [.tmp 3], some (62, true)⟩,
            ⟨(some 68), .call (.func 86) [.tmp 63, .tmp 65, .tmp 66, .tmp 67], some (62, true)⟩,
            ⟨(some 69), .v .pick [.tmp 62, .tmp 68, .const (.bool false)], none⟩])
          (.cond (.tmp 69)
            (.seq (.reg [
              ⟨(some 12), .v .mv [.const (.bool true)], none⟩])
            (.exit 0))
            .skip))))))
        (.reg [
          ⟨(some 70), .v (.ib .add) [.tmp 48, .const (.int .i64 1)], none⟩,
          ⟨(some 48), .v .mv [.tmp 70], none⟩]))))
def b86 : PCode :=
  (.seq (.reg [
    ⟨(some 4), .box 61 (.tmp 0), none⟩,
    ⟨(some 5), .box 3 (.tmp 1), none⟩,
    ⟨(some 6), .box 3 (.tmp 2), none⟩,
    ⟨(some 8), .v .mv [.const (.bool false)], none⟩])
  (.seq (.reg [
    ⟨(some 19), .ld none (.tmp 5), none⟩,
    ⟨(some 20), .ld none (.tmp 6), none⟩,
    ⟨(some 21), .v (.bld [(.int .i64 0), (.int .i64 0)] [(0, 1), (1, 1)]) [.tmp 19, .tmp 20], none⟩,
    ⟨(some 9), .lalloc 158 (.agg #[(.int .i64 0), (.int .i64 0)]), none⟩,
    ⟨none, .st 2 (.tmp 9) (.tmp 21), none⟩])
  (.seq (.seq (.reg [
    ⟨(some 23), .v .mv [.tmp 3], none⟩,
    ⟨(some 24), .ld (some 2) (.tmp 9), none⟩,
    ⟨(some 25), .mlk (.agg [(.i .i64), (.i .i64)]) (.bool false) true (.tmp 23) (.tmp 24), none⟩,
    ⟨(some 22), .v .mv [.tmp 25], none⟩,
    ⟨(some 26), .v (.ext 0) [.tmp 22], none⟩,
    ⟨(some 27), .v (.ext 1) [.tmp 22], none⟩,
    ⟨(some 10), .v .mv [.tmp 26], none⟩,
    ⟨(some 11), .v .mv [.tmp 27], none⟩])
  (.seq (.reg [
    ⟨(some 28), .v .mv [.tmp 11], none⟩])
  (.cond (.tmp 28)
    (.seq (.reg [
      ⟨(some 29), .v .mv [.tmp 10], none⟩,
      ⟨(some 8), .v .mv [.tmp 29], none⟩])
    .ret)
    .skip)))
  (.seq (.reg [
    ⟨(some 12), .v .mv [.const (.bool false)], none⟩])
  (.seq (.seq (.reg [
    ⟨(some 30), .ld none (.tmp 5), none⟩,
    ⟨(some 31), .v (.fa 0) [.tmp 4], none⟩,
    ⟨(some 32), .v (.fa 2) [.tmp 31], none⟩,
    ⟨(some 33), .ld none (.tmp 32), none⟩,
    ⟨(some 34), .v .len [.tmp 33], none⟩,
    ⟨(some 35), .v (.ib .sub) [.tmp 34, .const (.int .i64 1)], none⟩,
    ⟨(some 36), .v (.ib .eql) [.tmp 30, .tmp 35], none⟩])
  (.cond (.tmp 36)
    (.seq (.reg [
      ⟨(some 38), .v (.mkf (.func 91) 0) [.tmp 4, .tmp 5, .tmp 6], none⟩,
      ⟨(some 39), .call (.func 44) [.tmp 38], none⟩,
      ⟨(some 37), .v .mv [.tmp 39], none⟩,
      ⟨(some 40), .v (.ext 0) [.tmp 37], none⟩,
      ⟨(some 41), .v (.ext 1) [.tmp 37], none⟩,
      ⟨(some 13), .lalloc 65 (.agg #[(.int .i64 0), (.int .i64 0)]), none⟩,
      ⟨none, .st 2 (.tmp 13) (.tmp 40), none⟩,
      ⟨(some 14), .v .mv [.tmp 41], none⟩])
    (.reg [
      ⟨(some 42), .v .mv [.tmp 14], none⟩,
      ⟨(some 43), .v (.ib .eql) [.tmp 42, .const (.int .i64 0)], none⟩,
      ⟨(some 12), .v .mv [.tmp 43], none⟩]))
    (.seq (.reg [
      ⟨(some 44), .v (.fa 0) [.tmp 4], none⟩,
      ⟨(some 45), .v (.fa 1) [.tmp 44], none⟩,
      ⟨(some 46), .ld none (.tmp 45), none⟩,
      ⟨(some 47), .v .len [.tmp 46], none⟩,
      ⟨(some 48), .v .mv [.const (.int .i64 0)], none⟩])
    (.blk 0
      (.loop q86x0)))))
  (.seq (.reg [
    ⟨(some 71), .v .mv [.tmp 3], none⟩,
    ⟨(some 72), .ld (some 2) (.tmp 9), none⟩,
    ⟨(some 73), .v .mv [.tmp 12], none⟩,
    ⟨none, .mup (.agg [(.i .i64), (.i .i64)]) (.tmp 71) (.tmp 72) (.tmp 73), none⟩])
  (.seq (.reg [
    ⟨(some 74), .v .mv [.tmp 12], none⟩,
    ⟨(some 8), .v .mv [.tmp 74], none⟩])
  .ret)))))))
def p86 : PFunc := ⟨75, [(8, none)], none, b86⟩
def b87 : PCode :=
  (.dreg [
    ⟨(some 4), .ld (some 5) (.tmp 0), none⟩,
    ⟨(some 5), .ld none (.tmp 1), none⟩,
    ⟨(some 6), .v (.ib .sub) [.tmp 5, .const (.int .i64 1)], none⟩,
    ⟨(some 7), .ld none (.tmp 2), none⟩,
    ⟨(some 8), .ld none (.tmp 1), none⟩,
    ⟨(some 9), .v (.ib .sub) [.tmp 8, .const (.int .i64 1)], none⟩,
    ⟨(some 10), .v (.ia 1) [.tmp 7, .tmp 9], none⟩,
    ⟨(some 11), .ld none (.tmp 10), none⟩,
    ⟨(some 12), .ld none (.tmp 3), none⟩,
    ⟨(some 13), .call (.func 46) [.tmp 4, .tmp 6, .tmp 11, .tmp 12, .const (.bool true)], none⟩] [⟨1, false, false⟩, ⟨1, false, false⟩, ⟨0, false, false⟩, ⟨1, false, false⟩, ⟨1, false, false⟩, ⟨0, false, false⟩, ⟨0, false, false⟩, ⟨1, false, false⟩, ⟨1, false, false⟩, ⟨1, true, true⟩])
def p87 : PFunc := ⟨14, [], none, b87⟩
def b88 : PCode :=
  (.blk 0
    (.seq (.reg [
      ⟨(some 7), .v (.nl .iface false) [.tmp 5], none⟩])
    (.cond (.tmp 7)
      (.reg [
        ⟨(some 1), .v .mv [.tmp 5], none⟩])
      (.seq (.reg [
        ⟨(some 8), .v (.tas 147 (.agg #[(.int .i64 0)])) [.tmp 5], none⟩,
        ⟨(some 9), .v (.ext 1) [.tmp 8], none⟩,
        ⟨(some 10), .v (.ext 0) [.tmp 8], none⟩])
      (.cond (.tmp 9)
        (.seq (.reg [
          ⟨(some 2), .lalloc 147 (.agg #[(.int .i64 0)]), none⟩,
          ⟨none, .st 1 (.tmp 2) (.tmp 10), none⟩])
        (.reg [
          ⟨none, .st 1 (.tmp 0) (.const (.int .i64 5)), none⟩]))
        (.seq (.reg [
          ⟨(some 11), .v (.tas 152 (.agg #[(.string ⟨#[]⟩)])) [.tmp 5], none⟩,
          ⟨(some 12), .v (.ext 1) [.tmp 11], none⟩,
          ⟨(some 13), .v (.ext 0) [.tmp 11], none⟩])
        (.cond (.tmp 12)
          (.seq (.reg [
            ⟨(some 3), .lalloc 152 (.agg #[(.string ⟨#[]⟩)]), none⟩,
            ⟨none, .st 1 (.tmp 3) (.tmp 13), none⟩])
          (.reg [
            ⟨none, .st 1 (.tmp 0) (.const (.int .i64 4)), none⟩]))
          (.seq (.reg [
            ⟨(some 4), .v .mv [.tmp 5], none⟩])
          (.reg [
            ⟨(some 6), .v .mv [.tmp 4], none⟩,
            ⟨none, .pnc (.tmp 6), none⟩])))))))))
def p88 : PFunc := ⟨14, [], (some 5), b88⟩
def q89x0 : PCode :=
  (.seq (.reg [
        ⟨(some 14), .v (.ib .lss) [.tmp 13, .tmp 12], none⟩])
      (.seq (.cond (.tmp 14)
        .skip
        (.exit 0))
      (.seq (.blk 1
        (.seq (.reg [
          ⟨(some 15), .v (.ia 2) [.tmp 11, .tmp 13], none⟩,
          ⟨(some 16), .ld (some 2) (.tmp 15), none⟩,
          ⟨(some 9), .lalloc 154 (.agg #[(.int .i64 0), (.int .i64 0)]), none⟩,
          ⟨none, .st 2 (.tmp 9) (.tmp 16), none⟩])
        (.dreg [
          ⟨(some 17), .v .mv [.tmp 7], none⟩,
          ⟨(some 18), .v (.fa 0) [.tmp 3], none⟩,
          ⟨(some 19), .v (.fa 0) [.tmp 18], none⟩,
          ⟨(some 20), .ld none (.tmp 19), none⟩,
          ⟨(some 21), .ld (some 11) (.tmp 3), none⟩,
          ⟨(some 22), .ld (some 2) (.tmp 9), none⟩,
          ⟨(some 23), .call (.func 93) [.tmp 21, .tmp 22], none⟩,
          ⟨(some 24), .v (.ia 1) [.tmp 20, .tmp 23], none⟩,
          ⟨(some 25), .ld none (.tmp 24), none⟩,
          ⟨(some 26), .lbs 3 1 [(.int .i64 0)] 1 [(0, .tmp 25)], none⟩,
          ⟨(some 27), .app 3 1 (.tmp 17) (.tmp 26), none⟩,
          ⟨(some 7), .v .mv [.tmp 27], none⟩] [⟨0, false, false⟩, ⟨0, false, false⟩, ⟨0, false, false⟩, ⟨5, false, false⟩, ⟨5, true, false⟩, ⟨11, true, false⟩, ⟨1, true, false⟩, ⟨0, true, false⟩, ⟨1, true, false⟩, ⟨28, true, false⟩, ⟨1, true, true⟩, ⟨0, true, true⟩])))
      (.reg [
        ⟨(some 28), .v (.ib .add) [.tmp 13, .const (.int .i64 1)], none⟩,
        ⟨(some 13), .v .mv [.tmp 28], none⟩]))))
def b89 : PCode :=
  (.seq (.reg [
    ⟨(some 3), .lbox 76 (.tmp 0), none⟩,
    ⟨(some 4), .lbox 144 (.tmp 1), none⟩,
    ⟨(some 6), .v .mv [.const (.int .i64 0)], none⟩])
  (.seq (.reg [
    ⟨(some 7), .v .mv [.const (.slice none 0 0)], none⟩])
  (.seq (.seq (.reg [
    ⟨(some 10), .v (.fa 0) [.tmp 4], none⟩,
    ⟨(some 11), .ld none (.tmp 10), none⟩,
    ⟨(some 12), .v .len [.tmp 11], none⟩,
    ⟨(some 13), .v .mv [.const (.int .i64 0)], none⟩])
  (.blk 0
    (.loop q89x0)))
  (.seq (.seq (.reg [
    ⟨(some 29), .v (.fa 1) [.tmp 4], none⟩,
    ⟨(some 30), .ld none (.tmp 29), none⟩])
  (.cond (.tmp 30)
    (.reg [
      ⟨(some 31), .v .mv [.tmp 7], none⟩,
      ⟨(some 32), .v (.fa 0) [.tmp 3], none⟩,
      ⟨(some 33), .v (.fa 6) [.tmp 32], none⟩,
      ⟨(some 34), .ld none (.tmp 33), none⟩,
      ⟨(some 35), .lbs 3 1 [(.int .i64 0)] 1 [(0, .tmp 34)], none⟩,
      ⟨(some 36), .app 3 1 (.tmp 31) (.tmp 35), none⟩,
      ⟨(some 7), .v .mv [.tmp 36], none⟩])
    .skip))
  (.seq (.reg [
    ⟨(some 37), .v .mv [.tmp 7], none⟩,
    ⟨(some 38), .call (.func 94) [.tmp 37], none⟩,
    ⟨(some 6), .v .mv [.tmp 38], none⟩])
  .ret)))))
def p89 : PFunc := ⟨39, [(6, none)], none, b89⟩
def q90x0 : PCode :=
  (.seq (.reg [
        ⟨(some 14), .v (.ib .lss) [.tmp 13, .tmp 12], none⟩])
      (.seq (.cond (.tmp 14)
        .skip
        (.exit 0))
      (.seq (.blk 1
        (.seq (.reg [
          ⟨(some 15), .v .mv [.tmp 13], none⟩,
          ⟨(some 16), .v (.ia 2) [.tmp 11, .tmp 13], none⟩,
          ⟨(some 17), .ld (some 2) (.tmp 16), none⟩,
          ⟨(some 9), .lalloc 154 (.agg #[(.int .i64 0), (.int .i64 0)]), none⟩,
          ⟨(some 8), .v .mv [.tmp 15], none⟩,
          ⟨none, .st 2 (.tmp 9) (.tmp 17), none⟩])
        (.seq (.reg [
          ⟨(some 18), .v .mv [.tmp 8], none⟩,
          ⟨(some 19), .v (.ib .gtr) [.tmp 18, .const (.int .i64 0)], none⟩])
        (.cond (.tmp 19)
          (.dreg [
            ⟨(some 20), .v .mv [.tmp 7], none⟩,
            ⟨(some 21), .ld (some 11) (.tmp 3), none⟩,
            ⟨(some 22), .v (.fa 0) [.tmp 4], none⟩,
            ⟨(some 23), .ld none (.tmp 22), none⟩,
            ⟨(some 24), .v .mv [.tmp 8], none⟩,
            ⟨(some 25), .v (.ib .sub) [.tmp 24, .const (.int .i64 1)], none⟩,
            ⟨(some 26), .v (.ia 2) [.tmp 23, .tmp 25], none⟩,
            ⟨(some 27), .ld (some 2) (.tmp 26), none⟩,
            ⟨(some 28), .ld (some 2) (.tmp 9), none⟩,
            ⟨(some 29), .v .mv [.tmp 2], none⟩,
            ⟨(some 30), .call (.func 95) [.tmp 21, .tmp 27, .tmp 28, .tmp 29], none⟩,
            ⟨(some 31), .lbs 3 1 [(.int .i64 0)] 1 [(0, .tmp 30)], none⟩,
            ⟨(some 32), .app 3 1 (.tmp 20) (.tmp 31), none⟩,
            ⟨(some 7), .v .mv [.tmp 32], none⟩] [⟨0, false, false⟩, ⟨5, false, false⟩, ⟨0, true, false⟩, ⟨6, true, false⟩, ⟨0, true, false⟩, ⟨0, true, false⟩, ⟨0, true, false⟩, ⟨1, true, false⟩, ⟨11, false, false⟩, ⟨0, false, false⟩, ⟨1, true, false⟩, ⟨33, true, false⟩, ⟨1, true, true⟩, ⟨0, true, true⟩])
          .skip))))
      (.reg [
        ⟨(some 33), .v (.ib .add) [.tmp 13, .const (.int .i64 1)], none⟩,
        ⟨(some 13), .v .mv [.tmp 33], none⟩]))))
def b90 : PCode :=
  (.seq (.reg [
    ⟨(some 3), .lbox 76 (.tmp 0), none⟩,
    ⟨(some 4), .lbox 144 (.tmp 1), none⟩,
    ⟨(some 6), .v .mv [.const (.int .i64 0)], none⟩])
  (.seq (.reg [
    ⟨(some 7), .v .mv [.const (.slice none 0 0)], none⟩])
  (.seq (.seq (.reg [
    ⟨(some 10), .v (.fa 0) [.tmp 4], none⟩,
    ⟨(some 11), .ld none (.tmp 10), none⟩,
    ⟨(some 12), .v .len [.tmp 11], none⟩,
    ⟨(some 13), .v .mv [.const (.int .i64 0)], none⟩])
  (.blk 0
    (.loop q90x0)))
  (.seq (.seq (.reg [
    ⟨(some 34), .v (.fa 1) [.tmp 4], none⟩,
    ⟨(some 35), .ld none (.tmp 34), none⟩])
  (.cond (.tmp 35)
    (.reg [
      ⟨(some 36), .v .mv [.tmp 7], none⟩,
      ⟨(some 37), .v (.fa 0) [.tmp 3], none⟩,
      ⟨(some 38), .v (.fa 2) [.tmp 37], none⟩,
      ⟨(some 39), .ld (some 2) (.tmp 38), none⟩,
      ⟨(some 40), .v .mv [.tmp 2], none⟩,
      ⟨(some 41), .call (.func 96) [.tmp 39, .tmp 40], none⟩,
      ⟨(some 42), .lbs 3 1 [(.int .i64 0)] 1 [(0, .tmp 41)], none⟩,
      ⟨(some 43), .app 3 1 (.tmp 36) (.tmp 42), none⟩,
      ⟨(some 7), .v .mv [.tmp 43], none⟩])
    .skip))
  (.seq (.reg [
    ⟨(some 44), .v .mv [.tmp 7], none⟩,
    ⟨(some 45), .call (.func 94) [.tmp 44], none⟩,
    ⟨(some 6), .v .mv [.tmp 45], none⟩])
  .ret)))))
def p90 : PFunc := ⟨46, [(6, none)], none, b90⟩
def b91 : PCode :=
  (.reg [
    ⟨(some 3), .ld (some 5) (.tmp 0), none⟩,
    ⟨(some 4), .ld none (.tmp 1), none⟩,
    ⟨(some 5), .ld none (.tmp 2), none⟩,
    ⟨(some 6), .v (.fa 0) [.tmp 0], none⟩,
    ⟨(some 7), .v (.fa 0) [.tmp 6], none⟩,
    ⟨(some 8), .ld none (.tmp 7), none⟩,
    ⟨(some 9), .v .len [.tmp 8], none⟩,
    ⟨(some 10), .call (.func 46) [.tmp 3, .tmp 4, .tmp 5, .tmp 9, .const (.bool false)], none⟩])
def p91 : PFunc := ⟨11, [], none, b91⟩
def b92 : PCode :=
  (.reg [
    ⟨(some 4), .ld (some 5) (.tmp 0), none⟩,
    ⟨(some 5), .ld none (.tmp 1), none⟩,
    ⟨(some 6), .ld none (.tmp 2), none⟩,
    ⟨(some 7), .ld none (.tmp 3), none⟩,
    ⟨(some 8), .call (.func 46) [.tmp 4, .tmp 5, .tmp 6, .tmp 7, .const (.bool true)], none⟩])
def p92 : PFunc := ⟨9, [], none, b92⟩
def b93 : PCode :=
  (.seq (.reg [
    ⟨(some 2), .lbox 76 (.tmp 0), none⟩,
    ⟨(some 3), .lbox 154 (.tmp 1), none⟩,
    ⟨(some 4), .v .mv [.const (.int .i64 0)], none⟩])
  (.seq (.dreg [
    ⟨(some 5), .v (.fa 0) [.tmp 2], none⟩,
    ⟨(some 6), .v (.fa 7) [.tmp 5], none⟩,
    ⟨(some 7), .ld none (.tmp 6), none⟩,
    ⟨(some 8), .v (.fa 0) [.tmp 3], none⟩,
    ⟨(some 9), .ld none (.tmp 8), none⟩,
    ⟨(some 10), .v (.ia 3) [.tmp 7, .tmp 9], none⟩,
    ⟨(some 11), .v (.fa 0) [.tmp 10], none⟩,
    ⟨(some 12), .ld none (.tmp 11), none⟩,
    ⟨(some 13), .v (.fa 1) [.tmp 3], none⟩,
    ⟨(some 14), .ld none (.tmp 13), none⟩,
    ⟨(some 15), .v (.ia 1) [.tmp 12, .tmp 14], none⟩,
    ⟨(some 16), .ld none (.tmp 15), none⟩,
    ⟨(some 4), .v .mv [.tmp 16], none⟩] [⟨0, true, false⟩, ⟨0, true, false⟩, ⟨4, true, false⟩, ⟨0, true, false⟩, ⟨5, true, false⟩, ⟨0, true, false⟩, ⟨0, true, false⟩, ⟨1, true, false⟩, ⟨0, false, false⟩, ⟨5, false, false⟩, ⟨0, true, true⟩, ⟨1, true, true⟩, ⟨0, true, true⟩])
  .ret))
def p93 : PFunc := ⟨17, [(4, none)], none, b93⟩
def q94x0 : PCode :=
  (.seq (.reg [
        ⟨(some 9), .v (.ib .lss) [.tmp 8, .tmp 7], none⟩])
      (.seq (.cond (.tmp 9)
        .skip
        (.exit 0))
      (.seq (.blk 1
        (.seq (.reg [
          ⟨(some 10), .v (.ia 1) [.tmp 6, .tmp 8], none⟩,
          ⟨(some 11), .ld none (.tmp 10), none⟩,
          ⟨(some 5), .v .mv [.tmp 11], none⟩])
        (.reg [
          ⟨(some 12), .v .mv [.tmp 3], none⟩,
          ⟨(some 13), .v .mv [.tmp 5], none⟩,
          ⟨(some 14), .v (.ib .add) [.tmp 12, .tmp 13], none⟩,
          ⟨(some 3), .v .mv [.tmp 14], none⟩])))
      (.reg [
        ⟨(some 15), .v (.ib .add) [.tmp 8, .const (.int .i64 1)], none⟩,
        ⟨(some 8), .v .mv [.tmp 15], none⟩]))))
def b94 : PCode :=
  (.seq (.reg [
    ⟨(some 2), .v .mv [.const (.int .i64 0)], none⟩])
  (.seq (.reg [
    ⟨(some 3), .v .mv [.const (.int .i64 0)], none⟩])
  (.seq (.seq (.reg [
    ⟨(some 6), .v .mv [.tmp 0], none⟩,
    ⟨(some 7), .v .len [.tmp 6], none⟩,
    ⟨(some 8), .v .mv [.const (.int .i64 0)], none⟩])
  (.blk 0
    (.loop q94x0)))
  (.seq (.reg [
    ⟨(some 16), .v .mv [.tmp 3], none⟩,
    ⟨(some 2), .v .mv [.tmp 16], none⟩])
  .ret))))
def p94 : PFunc := ⟨17, [(2, none)], none, b94⟩
def b95 : PCode :=
  (.seq (.reg [
    ⟨(some 4), .lbox 76 (.tmp 0), none⟩,
    ⟨(some 5), .lbox 154 (.tmp 1), none⟩,
    ⟨(some 6), .lbox 154 (.tmp 2), none⟩,
    ⟨(some 8), .v .mv [.const (.int .i64 0)], none⟩])
  (.seq (.seq (.reg [
    ⟨(some 11), .v (.fa 0) [.tmp 5], none⟩,
    ⟨(some 12), .ld none (.tmp 11), none⟩,
    ⟨(some 13), .v (.fa 0) [.tmp 6], none⟩,
    ⟨(some 14), .ld none (.tmp 13), none⟩,
    ⟨(some 15), .v (.ib .neq) [.tmp 12, .tmp 14], none⟩])
  (.cond (.tmp 15)
    (.seq (.reg [
      ⟨(some 16), .v (.fa 0) [.tmp 4], none⟩,
      ⟨(some 17), .v (.fa 4) [.tmp 16], none⟩,
      ⟨(some 18), .ld (some 2) (.tmp 17), none⟩,
      ⟨(some 19), .v .mv [.tmp 3], none⟩,
      ⟨(some 20), .call (.func 96) [.tmp 18, .tmp 19], none⟩,
      ⟨(some 8), .v .mv [.tmp 20], none⟩])
    .ret)
    .skip))
  (.seq (.seq (.dreg [
    ⟨(some 22), .v (.fa 10) [.tmp 4], none⟩,
    ⟨(some 23), .ld none (.tmp 22), none⟩,
    ⟨(some 24), .ld (some 11) (.tmp 4), none⟩,
    ⟨(some 25), .ld (some 2) (.tmp 5), none⟩,
    ⟨(some 26), .call (.func 93) [.tmp 24, .tmp 25], none⟩,
    ⟨(some 27), .ld (some 11) (.tmp 4), none⟩,
    ⟨(some 28), .ld (some 2) (.tmp 6), none⟩,
    ⟨(some 29), .call (.func 93) [.tmp 27, .tmp 28], none⟩,
    ⟨(some 30), .v (.bld [(.int .i64 0), (.int .i64 0)] [(0, 1), (1, 1)]) [.tmp 26, .tmp 29], none⟩,
    ⟨(some 31), .mlk (.agg [(.i .i64), (.i .i64)]) (.agg #[(.int .i64 0), (.int .i64 0)]) true (.tmp 23) (.tmp 30), none⟩,
    ⟨(some 21), .v .mv [.tmp 31], none⟩,
    ⟨(some 32), .v (.ext 0) [.tmp 21], none⟩,
    ⟨(some 33), .v (.ext 1) [.tmp 21], none⟩,
    ⟨(some 9), .lalloc 23 (.agg #[(.int .i64 0), (.int .i64 0)]), none⟩,
    ⟨none, .st 2 (.tmp 9) (.tmp 32), none⟩,
    ⟨(some 10), .v .mv [.tmp 33], none⟩] [⟨0, false, false⟩, ⟨6, false, false⟩, ⟨6, true, false⟩, ⟨7, true, false⟩, ⟨1, true, false⟩, ⟨6, false, false⟩, ⟨8, false, false⟩, ⟨1, true, false⟩, ⟨0, true, false⟩, ⟨1, true, false⟩, ⟨0, true, false⟩, ⟨0, true, false⟩, ⟨0, true, false⟩, ⟨11, false, false⟩, ⟨11, true, false⟩, ⟨0, true, true⟩])
  (.seq (.reg [
    ⟨(some 34), .v .mv [.tmp 10], none⟩])
  (.cond (.tmp 34)
    (.seq (.reg [
      ⟨(some 35), .ld (some 2) (.tmp 9), none⟩,
      ⟨(some 36), .v .mv [.tmp 3], none⟩,
      ⟨(some 37), .call (.func 96) [.tmp 35, .tmp 36], none⟩,
      ⟨(some 8), .v .mv [.tmp 37], none⟩])
    .ret)
    .skip)))
  (.seq (.reg [
    ⟨(some 38), .v (.fa 0) [.tmp 4], none⟩,
    ⟨(some 39), .v (.fa 2) [.tmp 38], none⟩,
    ⟨(some 40), .ld (some 2) (.tmp 39), none⟩,
    ⟨(some 41), .v .mv [.tmp 3], none⟩,
    ⟨(some 42), .call (.func 96) [.tmp 40, .tmp 41], none⟩,
    ⟨(some 8), .v .mv [.tmp 42], none⟩])
  .ret))))
def p95 : PFunc := ⟨43, [(8, none)], none, b95⟩
def b96 : PCode :=
  (.seq (.reg [
    ⟨(some 2), .lbox 23 (.tmp 0), none⟩,
    ⟨(some 4), .v .mv [.const (.int .i64 0)], none⟩])
  (.seq (.reg [
    ⟨(some 5), .v (.fa 0) [.tmp 2], none⟩,
    ⟨(some 6), .ld none (.tmp 5), none⟩,
    ⟨(some 7), .v (.fa 1) [.tmp 2], none⟩,
    ⟨(some 8), .ld none (.tmp 7), none⟩,
    ⟨(some 9), .v (.fa 0) [.tmp 2], none⟩,
    ⟨(some 10), .ld none (.tmp 9), none⟩,
    ⟨(some 11), .v (.ib .sub) [.tmp 8, .tmp 10], none⟩,
    ⟨(some 12), .v .mv [.tmp 1], none⟩,
    ⟨(some 13), .v (.ib .mul) [.tmp 11, .tmp 12], none⟩,
    ⟨(some 14), .v (.ib .quo) [.tmp 13, .const (.int .i64 10)], none⟩,
    ⟨(some 15), .v (.ib .add) [.tmp 6, .tmp 14], none⟩,
    ⟨(some 4), .v .mv [.tmp 15], none⟩])
  .ret))
def p96 : PFunc := ⟨16, [(4, none)], none, b96⟩
def PP (f : FuncId) : Option PFunc := if Nat.blt f 49 = true then (if Nat.blt f 25 = true then (if Nat.blt f 13 = true then (if Nat.blt f 7 = true then (if Nat.blt f 4 = true then (if Nat.blt f 3 = true then (if f = 2 then some p2 else none) else (if f = 3 then some p3 else none)) else (if Nat.blt f 5 = true then (if f = 4 then some p4 else none) else (if Nat.blt f 6 = true then (if f = 5 then some p5 else none) else (if f = 6 then some p6 else none)))) else (if Nat.blt f 10 = true then (if Nat.blt f 8 = true then (if f = 7 then some p7 else none) else (if Nat.blt f 9 = true then (if f = 8 then some p8 else none) else (if f = 9 then some p9 else none))) else (if Nat.blt f 11 = true then (if f = 10 then some p10 else none) else (if Nat.blt f 12 = true then (if f = 11 then some p11 else none) else (if f = 12 then some p12 else none))))) else (if Nat.blt f 19 = true then (if Nat.blt f 16 = true then (if Nat.blt f 14 = true then (if f = 13 then some p13 else none) else (if Nat.blt f 15 = true then (if f = 14 then some p14 else none) else (if f = 15 then some p15 else none))) else (if Nat.blt f 17 = true then (if f = 16 then some p16 else none) else (if Nat.blt f 18 = true then (if f = 17 then some p17 else none) else (if f = 18 then some p18 else none)))) else (if Nat.blt f 22 = true then (if Nat.blt f 20 = true then (if f = 19 then some p19 else none) else (if Nat.blt f 21 = true then (if f = 20 then some p20 else none) else (if f = 21 then some p21 else none))) else (if Nat.blt f 23 = true then (if f = 22 then some p22 else none) else (if Nat.blt f 24 = true then (if f = 23 then some p23 else none) else (if f = 24 then some p24 else none)))))) else (if Nat.blt f 37 = true then (if Nat.blt f 31 = true then (if Nat.blt f 28 = true then (if Nat.blt f 26 = true then (if f = 25 then some p25 else none) else (if Nat.blt f 27 = true then (if f = 26 then some p26 else none) else (if f = 27 then some p27 else none))) else (if Nat.blt f 29 = true then (if f = 28 then some p28 else none) else (if Nat.blt f 30 = true then (if f = 29 then some p29 else none) else (if f = 30 then some p30 else none)))) else (if Nat.blt f 34 = true then (if Nat.blt f 32 = true then (if f = 31 then some p31 else none) else (if Nat.blt f 33 = true then (if f = 32 then some p32 else none) else (if f = 33 then some p33 else none))) else (if Nat.blt f 35 = true then (if f = 34 then some p34 else none) else (if Nat.blt f 36 = true then (if f = 35 then some p35 else none) else (if f = 36 then some p36 else none))))) else (if Nat.blt f 43 = true then (if Nat.blt f 40 = true then (if Nat.blt f 38 = true then (if f = 37 then some p37 else none) else (if Nat.blt f 39 = true then (if f = 38 then some p38 else none) else (if f = 39 then some p39 else none))) else (if Nat.blt f 41 = true then (if f = 40 then some p40 else none) else (if Nat.blt f 42 = true then (if f = 41 then some p41 else none) else (if f = 42 then some p42 else none)))) else (if Nat.blt f 46 = true then (if Nat.blt f 44 = true then (if f = 43 then some p43 else none) else (if Nat.blt f 45 = true then (if f = 44 then some p44 else none) else (if f = 45 then some p45 else none))) else (if Nat.blt f 47 = true then (if f = 46 then some p46 else none) else (if Nat.blt f 48 = true then (if f = 47 then some p47 else none) else (if f = 48 then some p48 else none))))))) else (if Nat.blt f 73 = true then (if Nat.blt f 61 = true then (if Nat.blt f 55 = true then (if Nat.blt f 52 = true then (if Nat.blt f 50 = true then (if f = 49 then some p49 else none) else (if Nat.blt f 51 = true then (if f = 50 then some p50 else none) else (if f = 51 then some p51 else none))) else (if Nat.blt f 53 = true then (if f = 52 then some p52 else none) else (if Nat.blt f 54 = true then (if f = 53 then some p53 else none) else (if f = 54 then some p54 else none)))) else (if Nat.blt f 58 = true then (if Nat.blt f 56 = true then (if f = 55 then some p55 else none) else (if Nat.blt f 57 = true then (if f = 56 then some p56 else none) else (if f = 57 then some p57 else none))) else (if Nat.blt f 59 = true then (if f = 58 then some p58 else none) else (if Nat.blt f 60 = true then (if f = 59 then some p59 else none) else (if f = 60 then some p60 else none))))) else (if Nat.blt f 67 = true then (if Nat.blt f 64 = true then (if Nat.blt f 62 = true then (if f = 61 then some p61 else none) else (if Nat.blt f 63 = true then (if f = 62 then some p62 else none) else (if f = 63 then some p63 else none))) else (if Nat.blt f 65 = true then (if f = 64 then some p64 else none) else (if Nat.blt f 66 = true then (if f = 65 then some p65 else none) else (if f = 66 then some p66 else none)))) else (if Nat.blt f 70 = true then (if Nat.blt f 68 = true then (if f = 67 then some p67 else none) else (if Nat.blt f 69 = true then (if f = 68 then some p68 else none) else (if f = 69 then some p69 else none))) else (if Nat.blt f 71 = true then (if f = 70 then some p70 else none) else (if Nat.blt f 72 = true then (if f = 71 then some p71 else none) else (if f = 72 then some p72 else none)))))) else (if Nat.blt f 85 = true then (if Nat.blt f 79 = true then (if Nat.blt f 76 = true then (if Nat.blt f 74 = true then (if f = 73 then some p73 else none) else (if Nat.blt f 75 = true then (if f = 74 then some p74 else none) else (if f = 75 then some p75 else none))) else (if Nat.blt f 77 = true then (if f = 76 then some p76 else none) else (if Nat.blt f 78 = true then (if f = 77 then some p77 else none) else (if f = 78 then some p78 else none)))) else (if Nat.blt f 82 = true then (if Nat.blt f 80 = true then (if f = 79 then some p79 else none) else (if Nat.blt f 81 = true then (if f = 80 then some p80 else none) else (if f = 81 then some p81 else none))) else (if Nat.blt f 83 = true then (if f = 82 then some p82 else none) else (if Nat.blt f 84 = true then (if f = 83 then some p83 else none) else (if f = 84 then some p84 else none))))) else (if Nat.blt f 91 = true then (if Nat.blt f 88 = true then (if Nat.blt f 86 = true then (if f = 85 then some p85 else none) else (if Nat.blt f 87 = true then (if f = 86 then some p86 else none) else (if f = 87 then some p87 else none))) else (if Nat.blt f 89 = true then (if f = 88 then some p88 else none) else (if Nat.blt f 90 = true then (if f = 89 then some p89 else none) else (if f = 90 then some p90 else none)))) else (if Nat.blt f 94 = true then (if Nat.blt f 92 = true then (if f = 91 then some p91 else none) else (if Nat.blt f 93 = true then (if f = 92 then some p92 else none) else (if f = 93 then some p93 else none))) else (if Nat.blt f 95 = true then (if f = 94 then some p94 else none) else (if Nat.blt f 96 = true then (if f = 95 then some p95 else none) else (if f = 96 then some p96 else none)))))))
def prims0 : Prims := fun _ => none
/-- What stands outside: the function that runs the examples. -/
def prims : Prims := fun f => if f = 5 then some fun args H => if args.isEmpty = true then some ⟨.ok (.bool true), H, H.length⟩ else none else none
theorem P2 : PP 2 = some p2 := rfl
theorem B2 : p2.body = b2 := rfl
theorem N2 : p2.n = 1 := rfl
theorem R2 : p2.res = [] := rfl
theorem P3 : PP 3 = some p3 := rfl
theorem B3 : p3.body = b3 := rfl
theorem N3 : p3.n = 134 := rfl
theorem R3 : p3.res = [(8, none)] := rfl
theorem P4 : PP 4 = some p4 := rfl
theorem B4 : p4.body = b4 := rfl
theorem N4 : p4.n = 15 := rfl
theorem R4 : p4.res = [(6, none)] := rfl
theorem P5 : PP 5 = some p5 := rfl
theorem B5 : p5.body = b5 := rfl
theorem N5 : p5.n = 30 := rfl
theorem R5 : p5.res = [(0, none)] := rfl
theorem P6 : PP 6 = some p6 := rfl
theorem B6 : p6.body = b6 := rfl
theorem N6 : p6.n = 10 := rfl
theorem R6 : p6.res = [(2, some (some 6)), (3, none)] := rfl
theorem P7 : PP 7 = some p7 := rfl
theorem B7 : p7.body = b7 := rfl
theorem N7 : p7.n = 75 := rfl
theorem R7 : p7.res = [(4, none), (5, none)] := rfl
theorem P8 : PP 8 = some p8 := rfl
theorem B8 : p8.body = b8 := rfl
theorem N8 : p8.n = 38 := rfl
theorem R8 : p8.res = [(2, none), (3, none)] := rfl
theorem P9 : PP 9 = some p9 := rfl
theorem B9 : p9.body = b9 := rfl
theorem N9 : p9.n = 5 := rfl
theorem R9 : p9.res = [(0, some (some 10))] := rfl
theorem P10 : PP 10 = some p10 := rfl
theorem B10 : p10.body = b10 := rfl
theorem N10 : p10.n = 17 := rfl
theorem R10 : p10.res = [(2, none), (3, none)] := rfl
theorem P11 : PP 11 = some p11 := rfl
theorem B11 : p11.body = b11 := rfl
theorem N11 : p11.n = 16 := rfl
theorem R11 : p11.res = [(0, some (some 3))] := rfl
theorem P12 : PP 12 = some p12 := rfl
theorem B12 : p12.body = b12 := rfl
theorem N12 : p12.n = 26 := rfl
theorem R12 : p12.res = [(4, none)] := rfl
theorem P13 : PP 13 = some p13 := rfl
theorem B13 : p13.body = b13 := rfl
theorem N13 : p13.n = 40 := rfl
theorem R13 : p13.res = [(2, none)] := rfl
theorem P14 : PP 14 = some p14 := rfl
theorem B14 : p14.body = b14 := rfl
theorem N14 : p14.n = 27 := rfl
theorem R14 : p14.res = [(2, some (some 6))] := rfl
theorem P15 : PP 15 = some p15 := rfl
theorem B15 : p15.body = b15 := rfl
theorem N15 : p15.n = 41 := rfl
theorem R15 : p15.res = [(2, none)] := rfl
theorem P16 : PP 16 = some p16 := rfl
theorem B16 : p16.body = b16 := rfl
theorem N16 : p16.n = 21 := rfl
theorem R16 : p16.res = [(4, none)] := rfl
theorem P17 : PP 17 = some p17 := rfl
theorem B17 : p17.body = b17 := rfl
theorem N17 : p17.n = 46 := rfl
theorem R17 : p17.res = [(2, some (some 5))] := rfl
theorem P18 : PP 18 = some p18 := rfl
theorem B18 : p18.body = b18 := rfl
theorem N18 : p18.n = 10 := rfl
theorem R18 : p18.res = [(4, some (some 2)), (5, none)] := rfl
theorem P19 : PP 19 = some p19 := rfl
theorem B19 : p19.body = b19 := rfl
theorem N19 : p19.n = 22 := rfl
theorem R19 : p19.res = [(6, none), (7, none)] := rfl
theorem P20 : PP 20 = some p20 := rfl
theorem B20 : p20.body = b20 := rfl
theorem N20 : p20.n = 24 := rfl
theorem R20 : p20.res = [(6, some (some 2))] := rfl
theorem P21 : PP 21 = some p21 := rfl
theorem B21 : p21.body = b21 := rfl
theorem N21 : p21.n = 89 := rfl
theorem R21 : p21.res = [(2, none)] := rfl
theorem P22 : PP 22 = some p22 := rfl
theorem B22 : p22.body = b22 := rfl
theorem N22 : p22.n = 27 := rfl
theorem R22 : p22.res = [(2, some (some 11))] := rfl
theorem P23 : PP 23 = some p23 := rfl
theorem B23 : p23.body = b23 := rfl
theorem N23 : p23.n = 47 := rfl
theorem R23 : p23.res = [(4, some (some 10))] := rfl
theorem P24 : PP 24 = some p24 := rfl
theorem B24 : p24.body = b24 := rfl
theorem N24 : p24.n = 15 := rfl
theorem R24 : p24.res = [(4, none)] := rfl
theorem P25 : PP 25 = some p25 := rfl
theorem B25 : p25.body = b25 := rfl
theorem N25 : p25.n = 16 := rfl
theorem R25 : p25.res = [(0, some (some 10))] := rfl
theorem P26 : PP 26 = some p26 := rfl
theorem B26 : p26.body = b26 := rfl
theorem N26 : p26.n = 19 := rfl
theorem R26 : p26.res = [(4, none), (5, none)] := rfl
theorem P27 : PP 27 = some p27 := rfl
theorem B27 : p27.body = b27 := rfl
theorem N27 : p27.n = 8 := rfl
theorem R27 : p27.res = [(4, some (some 2))] := rfl
theorem P28 : PP 28 = some p28 := rfl
theorem B28 : p28.body = b28 := rfl
theorem N28 : p28.n = 15 := rfl
theorem R28 : p28.res = [(6, none)] := rfl
theorem P29 : PP 29 = some p29 := rfl
theorem B29 : p29.body = b29 := rfl
theorem N29 : p29.n = 17 := rfl
theorem R29 : p29.res = [(4, none)] := rfl
theorem P30 : PP 30 = some p30 := rfl
theorem B30 : p30.body = b30 := rfl
theorem N30 : p30.n = 9 := rfl
theorem R30 : p30.res = [(4, none)] := rfl
theorem P31 : PP 31 = some p31 := rfl
theorem B31 : p31.body = b31 := rfl
theorem N31 : p31.n = 10 := rfl
theorem R31 : p31.res = [(3, none)] := rfl
theorem P32 : PP 32 = some p32 := rfl
theorem B32 : p32.body = b32 := rfl
theorem N32 : p32.n = 29 := rfl
theorem R32 : p32.res = [(6, some (some 2))] := rfl
theorem P33 : PP 33 = some p33 := rfl
theorem B33 : p33.body = b33 := rfl
theorem N33 : p33.n = 15 := rfl
theorem R33 : p33.res = [(2, none)] := rfl
theorem P34 : PP 34 = some p34 := rfl
theorem B34 : p34.body = b34 := rfl
theorem N34 : p34.n = 15 := rfl
theorem R34 : p34.res = [(6, none)] := rfl
theorem P35 : PP 35 = some p35 := rfl
theorem B35 : p35.body = b35 := rfl
theorem N35 : p35.n = 15 := rfl
theorem R35 : p35.res = [(2, none)] := rfl
theorem P36 : PP 36 = some p36 := rfl
theorem B36 : p36.body = b36 := rfl
theorem N36 : p36.n = 9 := rfl
theorem R36 : p36.res = [(4, none)] := rfl
theorem P37 : PP 37 = some p37 := rfl
theorem B37 : p37.body = b37 := rfl
theorem N37 : p37.n = 9 := rfl
theorem R37 : p37.res = [(4, none)] := rfl
theorem P38 : PP 38 = some p38 := rfl
theorem B38 : p38.body = b38 := rfl
theorem N38 : p38.n = 24 := rfl
theorem R38 : p38.res = [(2, none)] := rfl
theorem P39 : PP 39 = some p39 := rfl
theorem B39 : p39.body = b39 := rfl
theorem N39 : p39.n = 9 := rfl
theorem R39 : p39.res = [(4, none)] := rfl
theorem P40 : PP 40 = some p40 := rfl
theorem B40 : p40.body = b40 := rfl
theorem N40 : p40.n = 8 := rfl
theorem R40 : p40.res = [(3, none)] := rfl
theorem P41 : PP 41 = some p41 := rfl
theorem B41 : p41.body = b41 := rfl
theorem N41 : p41.n = 11 := rfl
theorem R41 : p41.res = [(4, none)] := rfl
theorem P42 : PP 42 = some p42 := rfl
theorem B42 : p42.body = b42 := rfl
theorem N42 : p42.n = 9 := rfl
theorem R42 : p42.res = [(3, none)] := rfl
theorem P43 : PP 43 = some p43 := rfl
theorem B43 : p43.body = b43 := rfl
theorem N43 : p43.n = 9 := rfl
theorem R43 : p43.res = [(4, none)] := rfl
theorem P44 : PP 44 = some p44 := rfl
theorem B44 : p44.body = b44 := rfl
theorem N44 : p44.n = 8 := rfl
theorem R44 : p44.res = [(2, some (some 2)), (3, some none)] := rfl
theorem P45 : PP 45 = some p45 := rfl
theorem B45 : p45.body = b45 := rfl
theorem N45 : p45.n = 27 := rfl
theorem R45 : p45.res = [] := rfl
theorem P46 : PP 46 = some p46 := rfl
theorem B46 : p46.body = b46 := rfl
theorem N46 : p46.n = 41 := rfl
theorem R46 : p46.res = [] := rfl
theorem P47 : PP 47 = some p47 := rfl
theorem B47 : p47.body = b47 := rfl
theorem N47 : p47.n = 18 := rfl
theorem R47 : p47.res = [(6, none)] := rfl
theorem P48 : PP 48 = some p48 := rfl
theorem B48 : p48.body = b48 := rfl
theorem N48 : p48.n = 18 := rfl
theorem R48 : p48.res = [(6, none)] := rfl
theorem P49 : PP 49 = some p49 := rfl
theorem B49 : p49.body = b49 := rfl
theorem N49 : p49.n = 15 := rfl
theorem R49 : p49.res = [(6, none)] := rfl
theorem P50 : PP 50 = some p50 := rfl
theorem B50 : p50.body = b50 := rfl
theorem N50 : p50.n = 26 := rfl
theorem R50 : p50.res = [(4, none)] := rfl
theorem P51 : PP 51 = some p51 := rfl
theorem B51 : p51.body = b51 := rfl
theorem N51 : p51.n = 24 := rfl
theorem R51 : p51.res = [(4, none)] := rfl
theorem P52 : PP 52 = some p52 := rfl
theorem B52 : p52.body = b52 := rfl
theorem N52 : p52.n = 6 := rfl
theorem R52 : p52.res = [(2, none)] := rfl
theorem P53 : PP 53 = some p53 := rfl
theorem B53 : p53.body = b53 := rfl
theorem N53 : p53.n = 20 := rfl
theorem R53 : p53.res = [(6, none)] := rfl
theorem P54 : PP 54 = some p54 := rfl
theorem B54 : p54.body = b54 := rfl
theorem N54 : p54.n = 9 := rfl
theorem R54 : p54.res = [(4, none)] := rfl
theorem P55 : PP 55 = some p55 := rfl
theorem B55 : p55.body = b55 := rfl
theorem N55 : p55.n = 8 := rfl
theorem R55 : p55.res = [(3, none)] := rfl
theorem P56 : PP 56 = some p56 := rfl
theorem B56 : p56.body = b56 := rfl
theorem N56 : p56.n = 27 := rfl
theorem R56 : p56.res = [(4, none)] := rfl
theorem P57 : PP 57 = some p57 := rfl
theorem B57 : p57.body = b57 := rfl
theorem N57 : p57.n = 42 := rfl
theorem R57 : p57.res = [(4, none)] := rfl
theorem P58 : PP 58 = some p58 := rfl
theorem B58 : p58.body = b58 := rfl
theorem N58 : p58.n = 8 := rfl
theorem R58 : p58.res = [(2, none)] := rfl
theorem P59 : PP 59 = some p59 := rfl
theorem B59 : p59.body = b59 := rfl
theorem N59 : p59.n = 7 := rfl
theorem R59 : p59.res = [(3, none)] := rfl
theorem P60 : PP 60 = some p60 := rfl
theorem B60 : p60.body = b60 := rfl
theorem N60 : p60.n = 6 := rfl
theorem R60 : p60.res = [(4, none)] := rfl
theorem P61 : PP 61 = some p61 := rfl
theorem B61 : p61.body = b61 := rfl
theorem N61 : p61.n = 19 := rfl
theorem R61 : p61.res = [(6, none)] := rfl
theorem P62 : PP 62 = some p62 := rfl
theorem B62 : p62.body = b62 := rfl
theorem N62 : p62.n = 8 := rfl
theorem R62 : p62.res = [(4, some (some 2))] := rfl
theorem P63 : PP 63 = some p63 := rfl
theorem B63 : p63.body = b63 := rfl
theorem N63 : p63.n = 5 := rfl
theorem R63 : p63.res = [(2, none)] := rfl
theorem P64 : PP 64 = some p64 := rfl
theorem B64 : p64.body = b64 := rfl
theorem N64 : p64.n = 4 := rfl
theorem R64 : p64.res = [(2, none)] := rfl
theorem P65 : PP 65 = some p65 := rfl
theorem B65 : p65.body = b65 := rfl
theorem N65 : p65.n = 19 := rfl
theorem R65 : p65.res = [(4, none)] := rfl
theorem P66 : PP 66 = some p66 := rfl
theorem B66 : p66.body = b66 := rfl
theorem N66 : p66.n = 13 := rfl
theorem R66 : p66.res = [(6, none)] := rfl
theorem P67 : PP 67 = some p67 := rfl
theorem B67 : p67.body = b67 := rfl
theorem N67 : p67.n = 19 := rfl
theorem R67 : p67.res = [(4, none)] := rfl
theorem P68 : PP 68 = some p68 := rfl
theorem B68 : p68.body = b68 := rfl
theorem N68 : p68.n = 19 := rfl
theorem R68 : p68.res = [(4, none)] := rfl
theorem P69 : PP 69 = some p69 := rfl
theorem B69 : p69.body = b69 := rfl
theorem N69 : p69.n = 19 := rfl
theorem R69 : p69.res = [(4, none)] := rfl
theorem P70 : PP 70 = some p70 := rfl
theorem B70 : p70.body = b70 := rfl
theorem N70 : p70.n = 19 := rfl
theorem R70 : p70.res = [(4, none)] := rfl
theorem P71 : PP 71 = some p71 := rfl
theorem B71 : p71.body = b71 := rfl
theorem N71 : p71.n = 16 := rfl
theorem R71 : p71.res = [] := rfl
theorem P72 : PP 72 = some p72 := rfl
theorem B72 : p72.body = b72 := rfl
theorem N72 : p72.n = 19 := rfl
theorem R72 : p72.res = [(4, none)] := rfl
theorem P73 : PP 73 = some p73 := rfl
theorem B73 : p73.body = b73 := rfl
theorem N73 : p73.n = 11 := rfl
theorem R73 : p73.res = [(3, none)] := rfl
theorem P74 : PP 74 = some p74 := rfl
theorem B74 : p74.body = b74 := rfl
theorem N74 : p74.n = 35 := rfl
theorem R74 : p74.res = [(6, none)] := rfl
theorem P75 : PP 75 = some p75 := rfl
theorem B75 : p75.body = b75 := rfl
theorem N75 : p75.n = 14 := rfl
theorem R75 : p75.res = [] := rfl
theorem P76 : PP 76 = some p76 := rfl
theorem B76 : p76.body = b76 := rfl
theorem N76 : p76.n = 50 := rfl
theorem R76 : p76.res = [(4, none)] := rfl
theorem P77 : PP 77 = some p77 := rfl
theorem B77 : p77.body = b77 := rfl
theorem N77 : p77.n = 53 := rfl
theorem R77 : p77.res = [(8, none)] := rfl
theorem P78 : PP 78 = some p78 := rfl
theorem B78 : p78.body = b78 := rfl
theorem N78 : p78.n = 8 := rfl
theorem R78 : p78.res = [(2, none)] := rfl
theorem P79 : PP 79 = some p79 := rfl
theorem B79 : p79.body = b79 := rfl
theorem N79 : p79.n = 6 := rfl
theorem R79 : p79.res = [(2, some none)] := rfl
theorem P80 : PP 80 = some p80 := rfl
theorem B80 : p80.body = b80 := rfl
theorem N80 : p80.n = 26 := rfl
theorem R80 : p80.res = [] := rfl
theorem P81 : PP 81 = some p81 := rfl
theorem B81 : p81.body = b81 := rfl
theorem N81 : p81.n = 81 := rfl
theorem R81 : p81.res = [(4, none)] := rfl
theorem P82 : PP 82 = some p82 := rfl
theorem B82 : p82.body = b82 := rfl
theorem N82 : p82.n = 23 := rfl
theorem R82 : p82.res = [(6, none)] := rfl
theorem P83 : PP 83 = some p83 := rfl
theorem B83 : p83.body = b83 := rfl
theorem N83 : p83.n = 13 := rfl
theorem R83 : p83.res = [(4, none)] := rfl
theorem P84 : PP 84 = some p84 := rfl
theorem B84 : p84.body = b84 := rfl
theorem N84 : p84.n = 10 := rfl
theorem R84 : p84.res = [] := rfl
theorem P85 : PP 85 = some p85 := rfl
theorem B85 : p85.body = b85 := rfl
theorem N85 : p85.n = 70 := rfl
theorem R85 : p85.res = [(5, none)] := rfl
theorem P86 : PP 86 = some p86 := rfl
theorem B86 : p86.body = b86 := rfl
theorem N86 : p86.n = 75 := rfl
theorem R86 : p86.res = [(8, none)] := rfl
theorem P87 : PP 87 = some p87 := rfl
theorem B87 : p87.body = b87 := rfl
theorem N87 : p87.n = 14 := rfl
theorem R87 : p87.res = [] := rfl
theorem P88 : PP 88 = some p88 := rfl
theorem B88 : p88.body = b88 := rfl
theorem N88 : p88.n = 14 := rfl
theorem R88 : p88.res = [] := rfl
theorem P89 : PP 89 = some p89 := rfl
theorem B89 : p89.body = b89 := rfl
theorem N89 : p89.n = 39 := rfl
theorem R89 : p89.res = [(6, none)] := rfl
theorem P90 : PP 90 = some p90 := rfl
theorem B90 : p90.body = b90 := rfl
theorem N90 : p90.n = 46 := rfl
theorem R90 : p90.res = [(6, none)] := rfl
theorem P91 : PP 91 = some p91 := rfl
theorem B91 : p91.body = b91 := rfl
theorem N91 : p91.n = 11 := rfl
theorem R91 : p91.res = [] := rfl
theorem P92 : PP 92 = some p92 := rfl
theorem B92 : p92.body = b92 := rfl
theorem N92 : p92.n = 9 := rfl
theorem R92 : p92.res = [] := rfl
theorem P93 : PP 93 = some p93 := rfl
theorem B93 : p93.body = b93 := rfl
theorem N93 : p93.n = 17 := rfl
theorem R93 : p93.res = [(4, none)] := rfl
theorem P94 : PP 94 = some p94 := rfl
theorem B94 : p94.body = b94 := rfl
theorem N94 : p94.n = 17 := rfl
theorem R94 : p94.res = [(2, none)] := rfl
theorem P95 : PP 95 = some p95 := rfl
theorem B95 : p95.body = b95 := rfl
theorem N95 : p95.n = 43 := rfl
theorem R95 : p95.res = [(8, none)] := rfl
theorem P96 : PP 96 = some p96 := rfl
theorem B96 : p96.body = b96 := rfl
theorem N96 : p96.n = 16 := rfl
theorem R96 : p96.res = [(4, none)] := rfl
theorem pr0 (f : FuncId) : prims0 f = none := rfl
theorem pr (f : FuncId) (h : f ≠ 5 := by decide) : prims f = none := if_neg h
end Go.Pi.Fad
