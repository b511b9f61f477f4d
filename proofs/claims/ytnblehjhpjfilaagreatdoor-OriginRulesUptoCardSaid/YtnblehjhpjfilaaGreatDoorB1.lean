/- Lowered functions, part one. -/
import Derived.Test.YtnblehjhpjfilaaGreatDoorA5
set_option linter.all false
set_option linter.unusedSimpArgs false
set_option linter.unusedVariables false
set_option linter.unnecessarySimpa false
set_option linter.deprecated false
/-
  THE PROGRAM'S FUNCTIONS that are reached, lowered (printed by AeGen).
-/
namespace Go.AE.Fns
open Go Go.AE
set_option maxRecDepth 100000
/-- (*bastion/nfc.taker).put -/
def F1 : LFunc := .code 2 25 []
 (.seq (.seq (.reg false [⟨(some 4), .mv (.t 0), none, []⟩,
 ⟨(some 5), .nilChk (.t 4), none, []⟩,
 ⟨(some 6), .fieldAddr 5 (.t 5), none, []⟩,
 ⟨(some 7), .load 1 false (.t 6), none, []⟩,
 ⟨(some 8), .call (.builtin .lenSl) [(.t 7)], none, []⟩,
 ⟨(some 9), .mv (.t 1), none, []⟩,
 ⟨(some 10), .call (.builtin .lenSl) [(.t 9)], none, []⟩,
 ⟨(some 11), .bin .add (.t 8) (.t 10), none, []⟩,
 ⟨(some 12), .bin .gtr (.t 11) (.c (.int .i64 4096)), none, []⟩])
 (.cond (.t 12)
 (.seq (.reg false [⟨(some 13), .mv (.t 0), none, []⟩,
  ⟨(some 14), .nilChk (.t 13), none, []⟩,
  ⟨(some 15), .fieldAddr 6 (.t 14), none, []⟩,
  ⟨none, .store 1 (.t 15) (.c (.bool true)), none, []⟩])
  .ret)
 .skip))
 (.reg false [⟨(some 16), .mv (.t 0), none, []⟩,
 ⟨(some 17), .mv (.t 0), none, []⟩,
 ⟨(some 18), .nilChk (.t 17), none, []⟩,
 ⟨(some 19), .fieldAddr 5 (.t 18), none, []⟩,
 ⟨(some 20), .load 1 false (.t 19), none, []⟩,
 ⟨(some 21), .mv (.t 1), none, []⟩,
 ⟨(some 22), .call (.builtin (.append 1 4 0 [.int .i32 0])) [(.t 20), (.t 21)], none, []⟩,
 ⟨(some 23), .nilChk (.t 16), none, []⟩,
 ⟨(some 24), .fieldAddr 5 (.t 23), none, []⟩,
 ⟨none, .store 1 (.t 24) (.t 22), none, []⟩]))
/-- (*bastion/nfc.taker).take -/
def F2 : LFunc := .code 2 63 []
 (.seq (.seq (.reg false [⟨(some 8), .mv (.t 0), none, []⟩,
 ⟨(some 9), .nilChk (.t 8), none, []⟩,
 ⟨(some 10), .fieldAddr 6 (.t 9), none, []⟩,
 ⟨(some 11), .load 1 false (.t 10), none, []⟩])
 (.cond (.t 11)
 .ret
 .skip))
 (.seq (.seq (.reg false [⟨(some 13), .mv (.t 1), none, []⟩,
 ⟨(some 14), .call (.fn 69) [(.t 13)], none, []⟩,
 ⟨(some 12), .mv (.t 14), none, []⟩,
 ⟨(some 15), .extract 0 (.t 12), none, []⟩,
 ⟨(some 16), .extract 1 (.t 12), none, []⟩,
 ⟨(some 4), .mv (.t 15), none, []⟩,
 ⟨(some 5), .mv (.t 16), none, []⟩])
 (.seq (.reg false [⟨(some 17), .mv (.t 5), none, []⟩])
 (.cond (.t 17)
 (.seq (.reg false [⟨(some 18), .mv (.t 0), none, []⟩,
  ⟨(some 19), .mv (.t 4), none, []⟩,
  ⟨(some 20), .bin .quo (.t 19) (.c (.int .i32 588)), none, []⟩,
  ⟨(some 21), .bin .add (.c (.int .i32 4352)) (.t 20), none, []⟩,
  ⟨(some 22), .mv (.t 4), none, []⟩,
  ⟨(some 23), .bin .rem (.t 22) (.c (.int .i32 588)), none, []⟩,
  ⟨(some 24), .bin .quo (.t 23) (.c (.int .i32 28)), none, []⟩,
  ⟨(some 25), .bin .add (.c (.int .i32 4449)) (.t 24), none, []⟩,
  ⟨(some 26), .lit [.int .i32 0] 2 1 [(0, 1, (.t 21)), (1, 1, (.t 25))], none, []⟩,
  ⟨(some 27), .call (.fn 1) [(.t 18), (.t 26)], none, []⟩])
  (.seq (.seq (.reg false [⟨(some 28), .mv (.t 4), none, []⟩,
  ⟨(some 29), .bin .rem (.t 28) (.c (.int .i32 28)), none, []⟩,
  ⟨(some 30), .bin .neq (.t 29) (.c (.int .i32 0)), none, []⟩])
  (.cond (.t 30)
  (.reg false [⟨(some 31), .mv (.t 0), none, []⟩,
   ⟨(some 32), .mv (.t 4), none, []⟩,
   ⟨(some 33), .bin .rem (.t 32) (.c (.int .i32 28)), none, []⟩,
   ⟨(some 34), .bin .add (.c (.int .i32 4519)) (.t 33), none, []⟩,
   ⟨(some 35), .lit [.int .i32 0] 1 1 [(0, 1, (.t 34))], none, []⟩,
   ⟨(some 36), .call (.fn 1) [(.t 31), (.t 35)], none, []⟩])
  .skip))
  .ret))
 .skip)))
 (.seq (.reg false [⟨(some 38), .mv (.t 0), none, []⟩,
 ⟨(some 39), .nilChk (.t 38), none, []⟩,
 ⟨(some 40), .fieldAddr 0 (.t 39), none, []⟩,
 ⟨(some 41), .load 5 true (.t 40), none, []⟩,
 ⟨(some 42), .mv (.t 1), none, []⟩,
 ⟨(some 43), .call (.fn 90) [(.t 41), (.t 42)], none, []⟩,
 ⟨(some 37), .mv (.t 43), none, []⟩,
 ⟨(some 44), .extract 0 (.t 37), none, []⟩,
 ⟨(some 45), .extract 1 (.t 37), none, []⟩,
 ⟨(some 6), .alloc [.int .i32 0, .int .i32 0, .int .i32 0, .bool false] 0, none, []⟩,
 ⟨none, .store 4 (.t 6) (.t 44), none, []⟩,
 ⟨(some 7), .mv (.t 45), none, []⟩])
 (.seq (.seq (.reg false [⟨(some 46), .mv (.t 7), none, []⟩,
 ⟨(some 47), .un .not (.t 46), none, []⟩])
 (.cond (.t 47)
 (.seq (.reg false [⟨(some 48), .mv (.t 0), none, []⟩,
  ⟨(some 49), .mv (.t 1), none, []⟩,
  ⟨(some 50), .lit [.int .i32 0] 1 1 [(0, 1, (.t 49))], none, []⟩,
  ⟨(some 51), .call (.fn 1) [(.t 48), (.t 50)], none, []⟩])
  .ret)
 .skip))
 (.seq (.reg false [⟨(some 52), .mv (.t 0), none, []⟩,
 ⟨(some 53), .fieldAddr 1 (.t 6), none, []⟩,
 ⟨(some 54), .load 1 false (.t 53), none, []⟩,
 ⟨(some 55), .call (.fn 2) [(.t 52), (.t 54)], none, []⟩])
 (.seq (.reg false [⟨(some 56), .fieldAddr 2 (.t 6), none, []⟩,
 ⟨(some 57), .load 1 false (.t 56), none, []⟩,
 ⟨(some 58), .bin .neq (.t 57) (.c (.int .i32 0)), none, []⟩])
 (.cond (.t 58)
 (.reg false [⟨(some 59), .mv (.t 0), none, []⟩,
  ⟨(some 60), .fieldAddr 2 (.t 6), none, []⟩,
  ⟨(some 61), .load 1 false (.t 60), none, []⟩,
  ⟨(some 62), .call (.fn 2) [(.t 59), (.t 61)], none, []⟩])
 .skip)))))))
/-- (*bastion/url.reader).authority -/
def F3 : LFunc := .code 2 124 []
 (.seq (.reg false [⟨(some 16), .mv (.t 0), none, []⟩,
 ⟨(some 17), .call (.fn 10) [(.t 16)], none, []⟩,
 ⟨(some 15), .mv (.t 17), none, []⟩,
 ⟨(some 18), .extract 0 (.t 15), none, []⟩,
 ⟨(some 19), .extract 1 (.t 15), none, []⟩,
 ⟨(some 4), .mv (.t 18), none, []⟩,
 ⟨(some 5), .mv (.t 19), none, []⟩])
 (.seq (.seq (.reg false [⟨(some 20), .mv (.t 5), none, []⟩])
 (.cond (.t 20)
 (.reg false [⟨(some 21), .mv (.t 1), none, []⟩,
  ⟨(some 22), .mv (.t 0), none, []⟩,
  ⟨(some 23), .nilChk (.t 22), none, []⟩,
  ⟨(some 24), .fieldAddr 0 (.t 23), none, []⟩,
  ⟨(some 25), .fieldAddr 0 (.t 24), none, []⟩,
  ⟨(some 26), .load 1 false (.t 25), none, []⟩,
  ⟨(some 27), .call (.fn 132) [(.t 26)], none, []⟩,
  ⟨(some 28), .call (.fn 121) [(.t 21), (.t 27)], none, []⟩,
  ⟨(some 1), .mv (.t 28), none, []⟩])
 .skip))
 (.seq (.reg false [⟨(some 30), .mv (.t 0), none, []⟩,
 ⟨(some 31), .mv (.t 1), none, []⟩,
 ⟨(some 32), .call (.fn 11) [(.t 30), (.t 31)], none, []⟩,
 ⟨(some 29), .mv (.t 32), none, []⟩,
 ⟨(some 33), .extract 0 (.t 29), none, []⟩,
 ⟨(some 34), .extract 1 (.t 29), none, []⟩,
 ⟨(some 6), .mv (.t 33), none, []⟩,
 ⟨(some 7), .mv (.t 34), none, []⟩])
 (.seq (.seq (.reg false [⟨(some 35), .mv (.t 6), none, []⟩,
 ⟨(some 36), .call (.fn 193) [(.t 35), (.c (.int .u8 64))], none, []⟩,
 ⟨(some 8), .mv (.t 36), none, []⟩])
 (.seq (.reg false [⟨(some 37), .mv (.t 8), none, []⟩,
 ⟨(some 38), .bin .geq (.t 37) (.c (.int .i64 0)), none, []⟩])
 (.cond (.t 38)
 (.seq (.reg false [⟨(some 40), .mv (.t 6), none, []⟩,
  ⟨(some 41), .mv (.t 8), none, []⟩,
  ⟨(some 42), .slStr (.t 40) none (some (.t 41)), none, []⟩,
  ⟨(some 43), .call (.fn 182) [(.t 42), (.c (.str [58]))], none, []⟩,
  ⟨(some 39), .mv (.t 43), none, []⟩,
  ⟨(some 44), .extract 0 (.t 39), none, []⟩,
  ⟨(some 45), .extract 1 (.t 39), none, []⟩,
  ⟨(some 46), .extract 2 (.t 39), none, []⟩,
  ⟨(some 9), .mv (.t 44), none, []⟩,
  ⟨(some 10), .mv (.t 45), none, []⟩,
  ⟨(some 11), .mv (.t 46), none, []⟩])
  (.seq (.reg false [⟨(some 47), .mv (.t 0), none, []⟩,
  ⟨(some 48), .mv (.t 0), none, []⟩,
  ⟨(some 49), .mv (.t 9), none, []⟩,
  ⟨(some 50), .call (.fn 123) [(.t 49), (.c (.int .u8 6))], none, []⟩,
  ⟨(some 51), .mv (.t 10), none, []⟩,
  ⟨(some 52), .call (.fn 123) [(.t 51), (.c (.int .u8 6))], none, []⟩,
  ⟨(some 53), .nilChk (.t 47), none, []⟩,
  ⟨(some 54), .fieldAddr 0 (.t 53), none, []⟩,
  ⟨(some 55), .fieldAddr 1 (.t 54), none, []⟩,
  ⟨none, .store 1 (.t 55) (.t 50), none, []⟩,
  ⟨(some 56), .nilChk (.t 48), none, []⟩,
  ⟨(some 57), .fieldAddr 0 (.t 56), none, []⟩,
  ⟨(some 58), .fieldAddr 2 (.t 57), none, []⟩,
  ⟨none, .store 1 (.t 58) (.t 52), none, []⟩])
  (.seq (.reg false [⟨(some 59), .mv (.t 6), none, []⟩,
  ⟨(some 60), .mv (.t 8), none, []⟩,
  ⟨(some 61), .bin .add (.t 60) (.c (.int .i64 1)), none, []⟩,
  ⟨(some 62), .slStr (.t 59) (some (.t 61)) none, none, []⟩,
  ⟨(some 6), .mv (.t 62), none, []⟩])
  (.seq (.reg false [⟨(some 63), .mv (.t 6), none, []⟩,
  ⟨(some 64), .bin .eql (.t 63) (.c (.str [])), none, []⟩])
  (.cond (.t 64)
  (.seq (.reg false [⟨(some 65), .mv (.t 0), none, []⟩,
   ⟨(some 66), .fail, none, []⟩])
   .ret)
  .skip)))))
 .skip)))
 (.seq (.reg false [⟨(some 67), .mv (.t 6), none, []⟩,
 ⟨(some 12), .mv (.t 67), none, []⟩,
 ⟨(some 13), .mv (.c (.str [])), none, []⟩])
 (.seq (.reg false [⟨(some 68), .mv (.t 6), none, []⟩,
 ⟨(some 69), .call (.fn 120) [(.t 68)], none, []⟩,
 ⟨(some 14), .mv (.t 69), none, []⟩])
 (.seq (.seq (.reg false [⟨(some 70), .mv (.t 14), none, []⟩,
 ⟨(some 71), .bin .geq (.t 70) (.c (.int .i64 0)), none, []⟩])
 (.cond (.t 71)
 (.reg true [⟨(some 72), .mv (.t 6), none, []⟩,
  ⟨(some 73), .mv (.t 14), none, []⟩,
  ⟨(some 74), .slStr (.t 72) none (some (.t 73)), none, [0, 1]⟩,
  ⟨(some 75), .mv (.t 6), none, []⟩,
  ⟨(some 76), .mv (.t 14), none, []⟩,
  ⟨(some 77), .bin .add (.t 76) (.c (.int .i64 1)), none, [4]⟩,
  ⟨(some 78), .slStr (.t 75) (some (.t 77)) none, none, [3, 5]⟩,
  ⟨(some 12), .mv (.t 74), none, [2, 0, 1, 2]⟩,
  ⟨(some 13), .mv (.t 78), none, [6, 7, 0, 1, 2, 3, 4, 5, 6, 7]⟩])
 .skip))
 (.seq (.seq (.reg false [⟨(some 79), .mv (.t 12), none, []⟩,
 ⟨(some 80), .bin .eql (.t 79) (.c (.str [])), none, []⟩,
 ⟨(some 81), .mv (.t 80), none, []⟩,
 ⟨(some 82), .mv (.t 14), (some (81, true)), []⟩,
 ⟨(some 83), .bin .geq (.t 82) (.c (.int .i64 0)), (some (81, true)), []⟩,
 ⟨(some 84), .mv (.t 83), (some (81, true)), []⟩,
 ⟨(some 85), .mv (.t 5), (some (84, false)), []⟩,
 ⟨(some 86), .pick (.t 84) (.c (.bool true)) (.t 85), (some (81, true)), []⟩,
 ⟨(some 87), .pick (.t 81) (.t 86) (.c (.bool false)), none, []⟩])
 (.cond (.t 87)
 (.seq (.reg false [⟨(some 88), .mv (.t 0), none, []⟩,
  ⟨(some 89), .fail, none, []⟩])
  .ret)
 .skip))
 (.seq (.seq (.reg false [⟨(some 91), .mv (.t 0), none, []⟩,
 ⟨(some 92), .mv (.t 0), none, []⟩,
 ⟨(some 93), .mv (.t 0), none, []⟩,
 ⟨(some 94), .nilChk (.t 93), none, []⟩,
 ⟨(some 95), .fieldAddr 23 (.t 94), none, []⟩,
 ⟨(some 96), .load 5 true (.t 95), none, []⟩,
 ⟨(some 97), .mv (.t 12), none, []⟩,
 ⟨(some 98), .mv (.t 5), none, []⟩,
 ⟨(some 99), .un .not (.t 98), none, []⟩,
 ⟨(some 100), .call (.fn 50) [(.t 96), (.t 97), (.t 99)], none, []⟩,
 ⟨(some 90), .mv (.t 100), none, []⟩,
 ⟨(some 101), .extract 0 (.t 90), none, []⟩,
 ⟨(some 102), .extract 1 (.t 90), none, []⟩,
 ⟨(some 103), .nilChk (.t 91), none, []⟩,
 ⟨(some 104), .fieldAddr 0 (.t 103), none, []⟩,
 ⟨(some 105), .fieldAddr 3 (.t 104), none, []⟩,
 ⟨none, .store 11 (.t 105) (.t 101), none, []⟩,
 ⟨(some 106), .nilChk (.t 92), none, []⟩,
 ⟨(some 107), .fieldAddr 52 (.t 106), none, []⟩,
 ⟨none, .store 1 (.t 107) (.t 102), none, []⟩])
 (.seq (.reg false [⟨(some 108), .mv (.t 0), none, []⟩,
 ⟨(some 109), .nilChk (.t 108), none, []⟩,
 ⟨(some 110), .fieldAddr 52 (.t 109), none, []⟩,
 ⟨(some 111), .load 1 false (.t 110), none, []⟩,
 ⟨(some 112), .bin .neq (.t 111) (.c (.int .i64 0)), none, []⟩])
 (.cond (.t 112)
 .ret
 .skip)))
 (.seq (.reg false [⟨(some 113), .mv (.t 0), none, []⟩,
 ⟨(some 114), .mv (.t 13), none, []⟩,
 ⟨(some 115), .call (.fn 5) [(.t 113), (.t 114)], none, []⟩])
 (.seq (.reg false [⟨(some 116), .mv (.t 0), none, []⟩,
 ⟨(some 117), .nilChk (.t 116), none, []⟩,
 ⟨(some 118), .fieldAddr 52 (.t 117), none, []⟩,
 ⟨(some 119), .load 1 false (.t 118), none, []⟩,
 ⟨(some 120), .bin .eql (.t 119) (.c (.int .i64 0)), none, []⟩])
 (.cond (.t 120)
 (.reg false [⟨(some 121), .mv (.t 0), none, []⟩,
  ⟨(some 122), .mv (.t 7), none, []⟩,
  ⟨(some 123), .call (.fn 12) [(.t 121), (.t 122)], none, []⟩])
 .skip))))))))))))
/-- (*bastion/url.reader).path -/
def F4 : LFunc := .code 2 53 []
 (.seq (.reg false [⟨(some 2), .box 0 (.t 0), none, []⟩])
 (.seq (.reg false [⟨(some 7), .load 1 false (.t 2), none, []⟩,
 ⟨(some 8), .mv (.t 1), none, []⟩,
 ⟨(some 9), .call (.fn 8) [(.t 7), (.t 8)], none, []⟩])
 (.block 0 (.rangeFunc (.t 9) [10, 11]
 (.seq (.reg false [⟨(some 4), .mv (.t 10), none, []⟩])
  (.reg false [⟨(some 5), .mv (.t 11), none, []⟩]))
 (.block 1 (.seq (.reg false [⟨(some 12), .mv (.t 4), none, []⟩,
  ⟨(some 13), .call (.fn 122) [(.t 12)], none, []⟩,
  ⟨(some 6), .mv (.t 13), none, []⟩])
  (.block 2 (.seq (.reg false [⟨(some 19), .mv (.t 6), none, []⟩,
  ⟨(some 20), .bin .gtr (.t 19) (.c (.int .i64 0)), none, []⟩,
  ⟨(some 18), .mv (.t 20), none, []⟩])
  (.cond (.t 18)
  (.seq (.seq (.reg false [⟨(some 21), .mv (.t 6), none, []⟩,
   ⟨(some 22), .bin .eql (.t 21) (.c (.int .i64 2)), none, []⟩])
   (.cond (.t 22)
   (.reg false [⟨(some 23), .load 1 false (.t 2), none, []⟩,
    ⟨(some 24), .fail, none, []⟩])
   .skip))
   (.seq (.reg false [⟨(some 25), .mv (.t 5), none, []⟩])
   (.cond (.t 25)
   (.reg false [⟨(some 26), .load 1 false (.t 2), none, []⟩,
    ⟨(some 27), .call (.fn 6) [(.t 26), (.c (.str []))], none, []⟩])
   .skip)))
  (.seq (.reg false [⟨(some 29), .load 1 false (.t 2), none, []⟩,
   ⟨(some 30), .nilChk (.t 29), none, []⟩,
   ⟨(some 31), .fieldAddr 0 (.t 30), none, []⟩,
   ⟨(some 32), .fieldAddr 0 (.t 31), none, []⟩,
   ⟨(some 33), .load 1 false (.t 32), none, []⟩,
   ⟨(some 34), .bin .eql (.t 33) (.c (.str [102, 105, 108, 101])), none, []⟩,
   ⟨(some 35), .mv (.t 34), none, []⟩,
   ⟨(some 36), .load 1 false (.t 2), (some (35, true)), []⟩,
   ⟨(some 37), .nilChk (.t 36), (some (35, true)), []⟩,
   ⟨(some 38), .fieldAddr 0 (.t 37), (some (35, true)), []⟩,
   ⟨(some 39), .fieldAddr 16 (.t 38), (some (35, true)), []⟩,
   ⟨(some 40), .load 1 false (.t 39), (some (35, true)), []⟩,
   ⟨(some 41), .call (.builtin .lenSl) [(.t 40)], (some (35, true)), []⟩,
   ⟨(some 42), .bin .eql (.t 41) (.c (.int .i64 0)), (some (35, true)), []⟩,
   ⟨(some 43), .pick (.t 35) (.t 42) (.c (.bool false)), none, []⟩,
   ⟨(some 44), .mv (.t 43), none, []⟩,
   ⟨(some 45), .mv (.t 4), (some (44, true)), []⟩,
   ⟨(some 46), .fail, (some (44, true)), []⟩,
   ⟨(some 47), .pick (.t 44) (.t 46) (.c (.bool false)), none, []⟩,
   ⟨(some 28), .mv (.t 47), none, []⟩])
   (.cond (.t 28)
   (.reg true [⟨(some 48), .load 1 false (.t 2), none, []⟩,
    ⟨(some 49), .mv (.t 4), none, []⟩,
    ⟨(some 50), .slStr (.t 49) none (some (.c (.int .i64 1))), none, [1]⟩,
    ⟨(some 51), .bin .add (.t 50) (.c (.str [58])), none, [2]⟩,
    ⟨(some 52), .call (.fn 6) [(.t 48), (.t 51)], none, [0, 3]⟩])
   (.reg true [⟨(some 14), .load 1 false (.t 2), none, []⟩,
    ⟨(some 15), .mv (.t 4), none, []⟩,
    ⟨(some 16), .call (.fn 123) [(.t 15), (.c (.int .u8 5))], none, [1]⟩,
    ⟨(some 17), .call (.fn 6) [(.t 14), (.t 16)], none, [0, 2, 2]⟩]))))))))))))
/-- (*bastion/url.reader).port -/
def F5 : LFunc := .code 2 61 []
 (.seq (.reg false [⟨(some 4), .mv (.c (.int .i64 0)), none, []⟩])
 (.seq (.seq (.reg false [⟨(some 8), .mv (.t 1), none, []⟩,
 ⟨(some 9), .call (.builtin .lenStr) [(.t 8)], none, []⟩,
 ⟨(some 10), .mv (.c (.int .i64 0)), none, []⟩])
 (.block 0 (.loop (.seq (.reg false [⟨(some 11), .bin .lss (.t 10) (.t 9), none, []⟩])
 (.seq (.cond (.t 11)
 .skip
 (.exit 0))
 (.seq (.block 1 (.seq (.reg false [⟨(some 12), .mv (.t 10), none, []⟩,
 ⟨(some 5), .mv (.t 12), none, []⟩])
 (.seq (.seq (.reg false [⟨(some 13), .mv (.t 1), none, []⟩,
 ⟨(some 14), .mv (.t 5), none, []⟩,
 ⟨(some 15), .idxStr (.t 13) (.t 14), none, []⟩,
 ⟨(some 16), .fail, none, []⟩,
 ⟨(some 17), .un .not (.t 16), none, []⟩])
 (.cond (.t 17)
 (.seq (.reg false [⟨(some 18), .mv (.t 0), none, []⟩,
  ⟨(some 19), .fail, none, []⟩])
  .ret)
 .skip))
 (.reg false [⟨(some 20), .mv (.t 4), none, []⟩,
 ⟨(some 21), .bin .mul (.c (.int .i64 10)) (.t 20), none, []⟩,
 ⟨(some 22), .mv (.t 1), none, []⟩,
 ⟨(some 23), .mv (.t 5), none, []⟩,
 ⟨(some 24), .idxStr (.t 22) (.t 23), none, []⟩,
 ⟨(some 25), .bin .sub (.t 24) (.c (.int .u8 48)), none, []⟩,
 ⟨(some 26), .conv (.int .i64) (.t 25), none, []⟩,
 ⟨(some 27), .bin .add (.t 21) (.t 26), none, []⟩,
 ⟨(some 28), .call (.builtin .min) [(.t 27), (.c (.int .i64 65536))], none, []⟩,
 ⟨(some 4), .mv (.t 28), none, []⟩]))))
 (.reg false [⟨(some 29), .bin .add (.t 10) (.c (.int .i64 1)), none, []⟩,
 ⟨(some 10), .mv (.t 29), none, []⟩])))))))
 (.seq (.reg false [⟨(some 31), .mv (.t 0), none, []⟩,
 ⟨(some 32), .call (.fn 10) [(.t 31)], none, []⟩,
 ⟨(some 30), .mv (.t 32), none, []⟩,
 ⟨(some 33), .extract 0 (.t 30), none, []⟩,
 ⟨(some 34), .extract 1 (.t 30), none, []⟩,
 ⟨(some 6), .mv (.t 33), none, []⟩,
 ⟨(some 7), .mv (.t 34), none, []⟩])
 (.block 2 (.seq (.reg false [⟨(some 36), .mv (.t 4), none, []⟩,
 ⟨(some 37), .bin .eql (.t 36) (.c (.int .i64 65536)), none, []⟩,
 ⟨(some 35), .mv (.t 37), none, []⟩])
 (.cond (.t 35)
 (.reg false [⟨(some 38), .mv (.t 0), none, []⟩,
  ⟨(some 39), .fail, none, []⟩])
 (.seq (.reg false [⟨(some 41), .mv (.t 1), none, []⟩,
  ⟨(some 42), .bin .neq (.t 41) (.c (.str [])), none, []⟩,
  ⟨(some 43), .mv (.t 42), none, []⟩,
  ⟨(some 44), .mv (.t 7), (some (43, true)), []⟩,
  ⟨(some 45), .un .not (.t 44), (some (43, true)), []⟩,
  ⟨(some 46), .mv (.t 45), (some (43, true)), []⟩,
  ⟨(some 47), .mv (.t 4), (some (46, false)), []⟩,
  ⟨(some 48), .mv (.t 6), (some (46, false)), []⟩,
  ⟨(some 49), .bin .neq (.t 47) (.t 48), (some (46, false)), []⟩,
  ⟨(some 50), .pick (.t 46) (.c (.bool true)) (.t 49), (some (43, true)), []⟩,
  ⟨(some 51), .pick (.t 43) (.t 50) (.c (.bool false)), none, []⟩,
  ⟨(some 40), .mv (.t 51), none, []⟩])
  (.cond (.t 40)
  (.reg false [⟨(some 52), .mv (.t 0), none, []⟩,
   ⟨(some 53), .mv (.t 0), none, []⟩,
   ⟨(some 54), .mv (.t 4), none, []⟩,
   ⟨(some 55), .nilChk (.t 52), none, []⟩,
   ⟨(some 56), .fieldAddr 0 (.t 55), none, []⟩,
   ⟨(some 57), .fieldAddr 14 (.t 56), none, []⟩,
   ⟨none, .store 1 (.t 57) (.t 54), none, []⟩,
   ⟨(some 58), .nilChk (.t 53), none, []⟩,
   ⟨(some 59), .fieldAddr 0 (.t 58), none, []⟩,
   ⟨(some 60), .fieldAddr 15 (.t 59), none, []⟩,
   ⟨none, .store 1 (.t 60) (.c (.bool true)), none, []⟩])
  .skip))))))))
/-- (*bastion/url.reader).push -/
def F6 : LFunc := .code 2 16 []
 (.reg false [⟨(some 4), .mv (.t 0), none, []⟩,
 ⟨(some 5), .mv (.t 0), none, []⟩,
 ⟨(some 6), .nilChk (.t 5), none, []⟩,
 ⟨(some 7), .fieldAddr 0 (.t 6), none, []⟩,
 ⟨(some 8), .fieldAddr 16 (.t 7), none, []⟩,
 ⟨(some 9), .load 1 false (.t 8), none, []⟩,
 ⟨(some 10), .mv (.t 1), none, []⟩,
 ⟨(some 11), .lit [.str []] 1 1 [(0, 1, (.t 10))], none, []⟩,
 ⟨(some 12), .call (.builtin (.append 1 16 0 [.str []])) [(.t 9), (.t 11)], none, []⟩,
 ⟨(some 13), .nilChk (.t 4), none, []⟩,
 ⟨(some 14), .fieldAddr 0 (.t 13), none, []⟩,
 ⟨(some 15), .fieldAddr 16 (.t 14), none, []⟩,
 ⟨none, .store 1 (.t 15) (.t 12), none, []⟩])
/-- (*bastion/url.reader).read -/
def F7 : LFunc := .code 2 215 []
 (.seq (.reg false [⟨(some 18), .mv (.t 1), none, []⟩,
 ⟨(some 19), .call (.fn 118) [(.t 18)], none, []⟩,
 ⟨(some 20), .call (.fn 182) [(.t 19), (.c (.str [35]))], none, []⟩,
 ⟨(some 17), .mv (.t 20), none, []⟩,
 ⟨(some 21), .extract 0 (.t 17), none, []⟩,
 ⟨(some 22), .extract 1 (.t 17), none, []⟩,
 ⟨(some 23), .extract 2 (.t 17), none, []⟩,
 ⟨(some 4), .mv (.t 21), none, []⟩,
 ⟨(some 5), .mv (.t 22), none, []⟩,
 ⟨(some 6), .mv (.t 23), none, []⟩])
 (.seq (.seq (.reg false [⟨(some 24), .mv (.t 6), none, []⟩])
 (.cond (.t 24)
 (.reg false [⟨(some 25), .mv (.t 0), none, []⟩,
  ⟨(some 26), .mv (.t 0), none, []⟩,
  ⟨(some 27), .mv (.t 5), none, []⟩,
  ⟨(some 28), .call (.fn 123) [(.t 27), (.c (.int .u8 2))], none, []⟩,
  ⟨(some 29), .nilChk (.t 25), none, []⟩,
  ⟨(some 30), .fieldAddr 0 (.t 29), none, []⟩,
  ⟨(some 31), .fieldAddr 21 (.t 30), none, []⟩,
  ⟨none, .store 1 (.t 31) (.t 28), none, []⟩,
  ⟨(some 32), .nilChk (.t 26), none, []⟩,
  ⟨(some 33), .fieldAddr 0 (.t 32), none, []⟩,
  ⟨(some 34), .fieldAddr 22 (.t 33), none, []⟩,
  ⟨none, .store 1 (.t 34) (.c (.bool true)), none, []⟩])
 .skip))
 (.seq (.reg false [⟨(some 36), .mv (.t 4), none, []⟩,
 ⟨(some 37), .call (.fn 182) [(.t 36), (.c (.str [63]))], none, []⟩,
 ⟨(some 35), .mv (.t 37), none, []⟩,
 ⟨(some 38), .extract 0 (.t 35), none, []⟩,
 ⟨(some 39), .extract 1 (.t 35), none, []⟩,
 ⟨(some 40), .extract 2 (.t 35), none, []⟩,
 ⟨(some 4), .mv (.t 38), none, []⟩,
 ⟨(some 7), .mv (.t 39), none, []⟩,
 ⟨(some 8), .mv (.t 40), none, []⟩])
 (.seq (.reg false [⟨(some 42), .mv (.t 4), none, []⟩,
 ⟨(some 43), .call (.fn 130) [(.t 42)], none, []⟩,
 ⟨(some 41), .mv (.t 43), none, []⟩,
 ⟨(some 44), .extract 0 (.t 41), none, []⟩,
 ⟨(some 45), .extract 1 (.t 41), none, []⟩,
 ⟨(some 46), .extract 2 (.t 41), none, []⟩,
 ⟨(some 9), .mv (.t 44), none, []⟩,
 ⟨(some 10), .mv (.t 45), none, []⟩,
 ⟨(some 11), .mv (.t 46), none, []⟩])
 (.seq (.seq (.reg false [⟨(some 47), .mv (.t 11), none, []⟩,
 ⟨(some 48), .un .not (.t 47), none, []⟩])
 (.cond (.t 48)
 (.seq (.seq (.reg false [⟨(some 49), .mv (.t 0), none, []⟩,
  ⟨(some 50), .nilChk (.t 49), none, []⟩,
  ⟨(some 51), .fieldAddr 51 (.t 50), none, []⟩,
  ⟨(some 52), .load 1 false (.t 51), none, []⟩,
  ⟨(some 53), .un .not (.t 52), none, []⟩,
  ⟨(some 54), .mv (.t 53), none, []⟩,
  ⟨(some 55), .mv (.t 0), (some (54, false)), []⟩,
  ⟨(some 56), .nilChk (.t 55), (some (54, false)), []⟩,
  ⟨(some 57), .fieldAddr 28 (.t 56), (some (54, false)), []⟩,
  ⟨(some 58), .fieldAddr 17 (.t 57), (some (54, false)), []⟩,
  ⟨(some 59), .load 1 false (.t 58), (some (54, false)), []⟩,
  ⟨(some 60), .mv (.t 59), (some (54, false)), []⟩,
  ⟨(some 61), .mv (.t 4), (some (60, true)), []⟩,
  ⟨(some 62), .bin .neq (.t 61) (.c (.str [])), (some (60, true)), []⟩,
  ⟨(some 63), .mv (.t 62), (some (60, true)), []⟩,
  ⟨(some 64), .mv (.t 8), (some (63, false)), []⟩,
  ⟨(some 65), .pick (.t 63) (.c (.bool true)) (.t 64), (some (60, true)), []⟩,
  ⟨(some 66), .mv (.t 65), (some (60, true)), []⟩,
  ⟨(some 67), .mv (.t 6), (some (66, false)), []⟩,
  ⟨(some 68), .un .not (.t 67), (some (66, false)), []⟩,
  ⟨(some 69), .pick (.t 66) (.c (.bool true)) (.t 68), (some (60, true)), []⟩,
  ⟨(some 70), .pick (.t 60) (.t 69) (.c (.bool false)), (some (54, false)), []⟩,
  ⟨(some 71), .pick (.t 54) (.c (.bool true)) (.t 70), none, []⟩])
  (.cond (.t 71)
  (.seq (.reg false [⟨(some 72), .mv (.t 0), none, []⟩,
   ⟨(some 73), .fail, none, []⟩])
   .ret)
  .skip))
  (.seq (.seq (.reg false [⟨(some 74), .mv (.t 0), none, []⟩,
  ⟨(some 75), .nilChk (.t 74), none, []⟩,
  ⟨(some 76), .fieldAddr 28 (.t 75), none, []⟩,
  ⟨(some 77), .fieldAddr 17 (.t 76), none, []⟩,
  ⟨(some 78), .load 1 false (.t 77), none, []⟩])
  (.cond (.t 78)
  (.seq (.reg false [⟨(some 79), .mv (.t 0), none, []⟩,
   ⟨(some 80), .nilChk (.t 79), none, []⟩,
   ⟨(some 81), .fieldAddr 0 (.t 80), none, []⟩,
   ⟨(some 82), .fieldAddr 21 (.t 81), none, []⟩,
   ⟨(some 83), .load 1 false (.t 82), none, []⟩,
   ⟨(some 12), .mv (.t 83), none, []⟩])
   (.seq (.reg false [⟨(some 84), .mv (.t 0), none, []⟩,
   ⟨(some 85), .mv (.t 0), none, []⟩,
   ⟨(some 86), .nilChk (.t 85), none, []⟩,
   ⟨(some 87), .fieldAddr 28 (.t 86), none, []⟩,
   ⟨(some 88), .load 23 true (.t 87), none, []⟩,
   ⟨(some 89), .nilChk (.t 84), none, []⟩,
   ⟨(some 90), .fieldAddr 0 (.t 89), none, []⟩,
   ⟨none, .store 23 (.t 90) (.t 88), none, []⟩])
   (.seq (.reg false [⟨(some 91), .mv (.t 0), none, []⟩,
   ⟨(some 92), .mv (.t 0), none, []⟩,
   ⟨(some 93), .mv (.t 12), none, []⟩,
   ⟨(some 94), .nilChk (.t 91), none, []⟩,
   ⟨(some 95), .fieldAddr 0 (.t 94), none, []⟩,
   ⟨(some 96), .fieldAddr 21 (.t 95), none, []⟩,
   ⟨none, .store 1 (.t 96) (.t 93), none, []⟩,
   ⟨(some 97), .nilChk (.t 92), none, []⟩,
   ⟨(some 98), .fieldAddr 0 (.t 97), none, []⟩,
   ⟨(some 99), .fieldAddr 22 (.t 98), none, []⟩,
   ⟨none, .store 1 (.t 99) (.c (.bool true)), none, []⟩])
   .ret)))
  .skip))
  (.reg false [⟨(some 100), .mv (.t 0), none, []⟩,
  ⟨(some 101), .nilChk (.t 100), none, []⟩,
  ⟨(some 102), .fieldAddr 28 (.t 101), none, []⟩,
  ⟨(some 103), .fieldAddr 0 (.t 102), none, []⟩,
  ⟨(some 104), .load 1 false (.t 103), none, []⟩,
  ⟨(some 9), .mv (.t 104), none, []⟩])))
 .skip))
 (.seq (.reg false [⟨(some 105), .mv (.t 0), none, []⟩,
 ⟨(some 106), .mv (.t 9), none, []⟩,
 ⟨(some 107), .nilChk (.t 105), none, []⟩,
 ⟨(some 108), .fieldAddr 0 (.t 107), none, []⟩,
 ⟨(some 109), .fieldAddr 0 (.t 108), none, []⟩,
 ⟨none, .store 1 (.t 109) (.t 106), none, []⟩])
 (.seq (.reg false [⟨(some 110), .mv (.t 0), none, []⟩,
 ⟨(some 111), .mv (.t 0), none, []⟩,
 ⟨(some 112), .nilChk (.t 111), none, []⟩,
 ⟨(some 113), .fieldAddr 51 (.t 112), none, []⟩,
 ⟨(some 114), .load 1 false (.t 113), none, []⟩,
 ⟨(some 115), .mv (.t 114), none, []⟩,
 ⟨(some 116), .mv (.t 0), (some (115, true)), []⟩,
 ⟨(some 117), .nilChk (.t 116), (some (115, true)), []⟩,
 ⟨(some 118), .fieldAddr 28 (.t 117), (some (115, true)), []⟩,
 ⟨(some 119), .fieldAddr 0 (.t 118), (some (115, true)), []⟩,
 ⟨(some 120), .load 1 false (.t 119), (some (115, true)), []⟩,
 ⟨(some 121), .mv (.t 9), (some (115, true)), []⟩,
 ⟨(some 122), .bin .eql (.t 120) (.t 121), (some (115, true)), []⟩,
 ⟨(some 123), .pick (.t 115) (.t 122) (.c (.bool false)), none, []⟩,
 ⟨(some 124), .nilChk (.t 110), none, []⟩,
 ⟨(some 125), .fieldAddr 51 (.t 124), none, []⟩,
 ⟨none, .store 1 (.t 125) (.t 123), none, []⟩])
 (.seq (.seq (.reg false [⟨(some 126), .mv (.t 8), none, []⟩])
 (.cond (.t 126)
 (.reg false [⟨(some 127), .mv (.t 0), none, []⟩,
  ⟨(some 128), .mv (.t 0), none, []⟩,
  ⟨(some 129), .mv (.t 7), none, []⟩,
  ⟨(some 130), .mv (.t 9), none, []⟩,
  ⟨(some 131), .call (.fn 129) [(.t 130)], none, []⟩,
  ⟨(some 132), .call (.fn 123) [(.t 129), (.t 131)], none, []⟩,
  ⟨(some 133), .nilChk (.t 127), none, []⟩,
  ⟨(some 134), .fieldAddr 0 (.t 133), none, []⟩,
  ⟨(some 135), .fieldAddr 19 (.t 134), none, []⟩,
  ⟨none, .store 1 (.t 135) (.t 132), none, []⟩,
  ⟨(some 136), .nilChk (.t 128), none, []⟩,
  ⟨(some 137), .fieldAddr 0 (.t 136), none, []⟩,
  ⟨(some 138), .fieldAddr 20 (.t 137), none, []⟩,
  ⟨none, .store 1 (.t 138) (.c (.bool true)), none, []⟩])
 .skip))
 (.seq (.reg false [⟨(some 140), .mv (.t 0), none, []⟩,
 ⟨(some 141), .call (.fn 10) [(.t 140)], none, []⟩,
 ⟨(some 139), .mv (.t 141), none, []⟩,
 ⟨(some 142), .extract 0 (.t 139), none, []⟩,
 ⟨(some 143), .extract 1 (.t 139), none, []⟩,
 ⟨(some 13), .mv (.t 142), none, []⟩,
 ⟨(some 14), .mv (.t 143), none, []⟩])
 (.block 0 (.seq (.reg false [⟨(some 171), .mv (.t 9), none, []⟩,
 ⟨(some 172), .bin .eql (.t 171) (.c (.str [102, 105, 108, 101])), none, []⟩,
 ⟨(some 170), .mv (.t 172), none, []⟩])
 (.cond (.t 170)
 (.reg false [⟨(some 173), .mv (.t 0), none, []⟩,
  ⟨(some 174), .mv (.t 10), none, []⟩,
  ⟨(some 175), .fail, none, []⟩])
 (.seq (.reg false [⟨(some 177), .mv (.t 11), none, []⟩,
  ⟨(some 178), .un .not (.t 177), none, []⟩,
  ⟨(some 179), .mv (.t 178), none, []⟩,
  ⟨(some 180), .mv (.t 14), (some (179, false)), []⟩,
  ⟨(some 181), .mv (.t 180), (some (179, false)), []⟩,
  ⟨(some 182), .mv (.t 0), (some (181, true)), []⟩,
  ⟨(some 183), .nilChk (.t 182), (some (181, true)), []⟩,
  ⟨(some 184), .fieldAddr 51 (.t 183), (some (181, true)), []⟩,
  ⟨(some 185), .load 1 false (.t 184), (some (181, true)), []⟩,
  ⟨(some 186), .pick (.t 181) (.t 185) (.c (.bool false)), (some (179, false)), []⟩,
  ⟨(some 187), .mv (.t 186), (some (179, false)), []⟩,
  ⟨(some 188), .mv (.t 10), (some (187, true)), []⟩,
  ⟨(some 189), .call (.fn 185) [(.t 188), (.c (.str [47, 47]))], (some (187, true)), []⟩,
  ⟨(some 190), .un .not (.t 189), (some (187, true)), []⟩,
  ⟨(some 191), .pick (.t 187) (.t 190) (.c (.bool false)), (some (179, false)), []⟩,
  ⟨(some 192), .pick (.t 179) (.c (.bool true)) (.t 191), none, []⟩,
  ⟨(some 176), .mv (.t 192), none, []⟩])
  (.cond (.t 176)
  (.reg false [⟨(some 193), .mv (.t 0), none, []⟩,
   ⟨(some 194), .mv (.t 10), none, []⟩,
   ⟨(some 195), .fail, none, []⟩])
  (.seq (.reg false [⟨(some 197), .mv (.t 14), none, []⟩,
   ⟨(some 196), .mv (.t 197), none, []⟩])
   (.cond (.t 196)
   (.reg false [⟨(some 198), .mv (.t 0), none, []⟩,
    ⟨(some 199), .mv (.t 10), none, []⟩,
    ⟨(some 200), .call (.fn 3) [(.t 198), (.t 199)], none, []⟩])
   (.seq (.reg false [⟨(some 202), .mv (.t 10), none, []⟩,
    ⟨(some 203), .call (.fn 185) [(.t 202), (.c (.str [47, 47]))], none, []⟩,
    ⟨(some 201), .mv (.t 203), none, []⟩])
    (.cond (.t 201)
    (.reg false [⟨(some 204), .mv (.t 0), none, []⟩,
     ⟨(some 205), .mv (.t 10), none, []⟩,
     ⟨(some 206), .slStr (.t 205) (some (.c (.int .i64 2))) none, none, []⟩,
     ⟨(some 207), .call (.fn 3) [(.t 204), (.t 206)], none, []⟩])
    (.seq (.reg false [⟨(some 209), .mv (.t 10), none, []⟩,
     ⟨(some 210), .call (.fn 185) [(.t 209), (.c (.str [47]))], none, []⟩,
     ⟨(some 208), .mv (.t 210), none, []⟩])
     (.cond (.t 208)
     (.reg false [⟨(some 211), .mv (.t 0), none, []⟩,
      ⟨(some 212), .mv (.t 10), none, []⟩,
      ⟨(some 213), .slStr (.t 212) (some (.c (.int .i64 1))) none, none, []⟩,
      ⟨(some 214), .call (.fn 4) [(.t 211), (.t 213)], none, []⟩])
     (.seq (.reg false [⟨(some 144), .mv (.t 0), none, []⟩,
      ⟨(some 145), .nilChk (.t 144), none, []⟩,
      ⟨(some 146), .fieldAddr 0 (.t 145), none, []⟩,
      ⟨(some 147), .fieldAddr 17 (.t 146), none, []⟩,
      ⟨none, .store 1 (.t 147) (.c (.bool true)), none, []⟩])
      (.seq (.reg false [⟨(some 148), .mv (.t 0), none, []⟩,
      ⟨(some 149), .mv (.t 10), none, []⟩,
      ⟨(some 150), .call (.fn 123) [(.t 149), (.c (.int .u8 1))], none, []⟩,
      ⟨(some 151), .nilChk (.t 148), none, []⟩,
      ⟨(some 152), .fieldAddr 0 (.t 151), none, []⟩,
      ⟨(some 153), .fieldAddr 18 (.t 152), none, []⟩,
      ⟨none, .store 1 (.t 153) (.t 150), none, []⟩])
      (.seq (.reg false [⟨(some 155), .mv (.t 0), none, []⟩,
      ⟨(some 156), .nilChk (.t 155), none, []⟩,
      ⟨(some 157), .fieldAddr 0 (.t 156), none, []⟩,
      ⟨(some 158), .fieldAddr 18 (.t 157), none, []⟩,
      ⟨(some 159), .load 1 false (.t 158), none, []⟩,
      ⟨(some 160), .call (.fn 184) [(.t 159), (.c (.str [32]))], none, []⟩,
      ⟨(some 154), .mv (.t 160), none, []⟩,
      ⟨(some 161), .extract 0 (.t 154), none, []⟩,
      ⟨(some 162), .extract 1 (.t 154), none, []⟩,
      ⟨(some 15), .mv (.t 161), none, []⟩,
      ⟨(some 16), .mv (.t 162), none, []⟩])
      (.seq (.reg false [⟨(some 163), .mv (.t 16), none, []⟩])
      (.cond (.t 163)
      (.reg false [⟨(some 164), .mv (.t 0), none, []⟩,
       ⟨(some 165), .mv (.t 15), none, []⟩,
       ⟨(some 166), .bin .add (.t 165) (.c (.str [37, 50, 48])), none, []⟩,
       ⟨(some 167), .nilChk (.t 164), none, []⟩,
       ⟨(some 168), .fieldAddr 0 (.t 167), none, []⟩,
       ⟨(some 169), .fieldAddr 18 (.t 168), none, []⟩,
       ⟨none, .store 1 (.t 169) (.t 166), none, []⟩])
      .skip)))))))))))))))))))))))))
/-- (*bastion/url.reader).segments -/
def F8 : LFunc := .code 2 6 [.t 4]
 (.seq (.reg false [⟨(some 2), .box 0 (.t 0), none, []⟩,
 ⟨(some 3), .box 0 (.t 1), none, []⟩,
 ⟨(some 4), .mv (.c (.nilFunc)), none, []⟩])
 (.seq (.reg false [⟨(some 5), .mkFunc 9 [] [(.t 2), (.t 3)], none, []⟩,
 ⟨(some 4), .mv (.t 5), none, []⟩])
 .ret))
/-- (*bastion/url.reader).segments$1 -/
def F9 : LFunc := .code 3 24 []
 (.block 0 (.loop (.block 1 (.seq (.reg false [⟨(some 7), .load 1 false (.t 1), none, []⟩,
 ⟨(some 8), .load 1 false (.t 2), none, []⟩,
 ⟨(some 9), .call (.fn 11) [(.t 7), (.t 8)], none, []⟩,
 ⟨(some 6), .mv (.t 9), none, []⟩,
 ⟨(some 10), .extract 0 (.t 6), none, []⟩,
 ⟨(some 11), .extract 1 (.t 6), none, []⟩,
 ⟨(some 4), .mv (.t 10), none, []⟩,
 ⟨(some 5), .mv (.t 11), none, []⟩])
 (.seq (.seq (.reg false [⟨(some 12), .mv (.t 0), none, []⟩,
 ⟨(some 13), .mv (.t 4), none, []⟩,
 ⟨(some 14), .mv (.t 5), none, []⟩,
 ⟨(some 15), .bin .eql (.t 14) (.c (.str [])), none, []⟩,
 ⟨(some 16), .call (.val (.t 12)) [(.t 13), (.t 15)], none, []⟩,
 ⟨(some 17), .un .not (.t 16), none, []⟩,
 ⟨(some 18), .mv (.t 17), none, []⟩,
 ⟨(some 19), .mv (.t 5), (some (18, false)), []⟩,
 ⟨(some 20), .bin .eql (.t 19) (.c (.str [])), (some (18, false)), []⟩,
 ⟨(some 21), .pick (.t 18) (.c (.bool true)) (.t 20), none, []⟩])
 (.cond (.t 21)
 .ret
 .skip))
 (.reg false [⟨(some 22), .mv (.t 5), none, []⟩,
 ⟨(some 23), .slStr (.t 22) (some (.c (.int .i64 1))) none, none, []⟩,
 ⟨none, .store 1 (.t 2) (.t 23), none, []⟩]))))))
/-- (*bastion/url.reader).special -/
def F10 : LFunc := .code 1 12 [.t 2, .t 3]
 (.seq (.reg false [⟨(some 2), .mv (.c (.int .i64 0)), none, []⟩,
 ⟨(some 3), .mv (.c (.bool false)), none, []⟩])
 (.seq (.reg false [⟨(some 4), .mv (.t 0), none, []⟩,
 ⟨(some 5), .nilChk (.t 4), none, []⟩,
 ⟨(some 6), .fieldAddr 0 (.t 5), none, []⟩,
 ⟨(some 7), .fieldAddr 0 (.t 6), none, []⟩,
 ⟨(some 8), .load 1 false (.t 7), none, []⟩,
 ⟨(some 9), .call (.fn 116) [(.t 8)], none, []⟩,
 ⟨(some 10), .extract 0 (.t 9), none, []⟩,
 ⟨(some 11), .extract 1 (.t 9), none, []⟩,
 ⟨(some 2), .mv (.t 10), none, []⟩,
 ⟨(some 3), .mv (.t 11), none, []⟩])
 .ret))
/-- (*bastion/url.reader).split -/
def F11 : LFunc := .code 2 24 [.t 4, .t 5]
 (.seq (.reg false [⟨(some 4), .mv (.c (.str [])), none, []⟩,
 ⟨(some 5), .mv (.c (.str [])), none, []⟩])
 (.seq (.seq (.reg false [⟨(some 7), .mv (.t 1), none, []⟩,
 ⟨(some 8), .mv (.t 0), none, []⟩,
 ⟨(some 9), .nilChk (.t 8), none, []⟩,
 ⟨(some 10), .fieldAddr 0 (.t 9), none, []⟩,
 ⟨(some 11), .fieldAddr 0 (.t 10), none, []⟩,
 ⟨(some 12), .load 1 false (.t 11), none, []⟩,
 ⟨(some 13), .call (.fn 132) [(.t 12)], none, []⟩,
 ⟨(some 14), .call (.fn 117) [(.t 7), (.t 13)], none, []⟩,
 ⟨(some 6), .mv (.t 14), none, []⟩])
 (.seq (.reg false [⟨(some 15), .mv (.t 6), none, []⟩,
 ⟨(some 16), .bin .geq (.t 15) (.c (.int .i64 0)), none, []⟩])
 (.cond (.t 16)
 (.seq (.reg true [⟨(some 17), .mv (.t 1), none, []⟩,
  ⟨(some 18), .mv (.t 6), none, []⟩,
  ⟨(some 19), .slStr (.t 17) none (some (.t 18)), none, [0, 1]⟩,
  ⟨(some 20), .mv (.t 1), none, []⟩,
  ⟨(some 21), .mv (.t 6), none, []⟩,
  ⟨(some 22), .slStr (.t 20) (some (.t 21)) none, none, [3, 4]⟩,
  ⟨(some 4), .mv (.t 19), none, [2, 0, 1, 2]⟩,
  ⟨(some 5), .mv (.t 22), none, [5, 6, 0, 1, 2, 3, 4, 5, 6]⟩])
  .ret)
 .skip)))
 (.seq (.reg false [⟨(some 23), .mv (.t 1), none, []⟩,
 ⟨(some 4), .mv (.t 23), none, []⟩,
 ⟨(some 5), .mv (.c (.str [])), none, []⟩])
 .ret)))
/-- (*bastion/url.reader).start -/
def F12 : LFunc := .code 2 30 []
 (.seq (.reg false [⟨(some 6), .mv (.t 0), none, []⟩,
 ⟨(some 7), .nilChk (.t 6), none, []⟩,
 ⟨(some 8), .fieldAddr 0 (.t 7), none, []⟩,
 ⟨(some 9), .fieldAddr 0 (.t 8), none, []⟩,
 ⟨(some 10), .load 1 false (.t 9), none, []⟩,
 ⟨(some 11), .mv (.t 1), none, []⟩,
 ⟨(some 12), .call (.fn 131) [(.t 10), (.t 11)], none, []⟩])
 (.cond (.t 12)
 (.reg false [⟨(some 13), .mv (.t 0), none, []⟩,
  ⟨(some 14), .mv (.t 1), none, []⟩,
  ⟨(some 15), .slStr (.t 14) (some (.c (.int .i64 1))) none, none, []⟩,
  ⟨(some 16), .call (.fn 4) [(.t 13), (.t 15)], none, []⟩])
 (.seq (.reg false [⟨(some 18), .mv (.t 0), none, []⟩,
  ⟨(some 19), .call (.fn 10) [(.t 18)], none, []⟩,
  ⟨(some 17), .mv (.t 19), none, []⟩,
  ⟨(some 20), .extract 0 (.t 17), none, []⟩,
  ⟨(some 21), .extract 1 (.t 17), none, []⟩,
  ⟨(some 4), .mv (.t 20), none, []⟩,
  ⟨(some 5), .mv (.t 21), none, []⟩])
  (.seq (.reg false [⟨(some 22), .mv (.t 5), none, []⟩,
  ⟨(some 23), .mv (.t 22), none, []⟩,
  ⟨(some 24), .mv (.t 1), (some (23, false)), []⟩,
  ⟨(some 25), .bin .neq (.t 24) (.c (.str [])), (some (23, false)), []⟩,
  ⟨(some 26), .pick (.t 23) (.c (.bool true)) (.t 25), none, []⟩])
  (.cond (.t 26)
  (.reg false [⟨(some 27), .mv (.t 0), none, []⟩,
   ⟨(some 28), .mv (.t 1), none, []⟩,
   ⟨(some 29), .call (.fn 4) [(.t 27), (.t 28)], none, []⟩])
  .skip)))))
/-- (*internal/sync.Mutex).Lock -/
def F13 : LFunc := .code 1 13 []
 (.seq (.reg false [⟨(some 2), .call (.fn 145) [], none, []⟩])
 (.seq (.seq (.reg false [⟨(some 3), .mv (.t 0), none, []⟩,
 ⟨(some 4), .nilChk (.t 3), none, []⟩,
 ⟨(some 5), .fieldAddr 0 (.t 4), none, []⟩,
 ⟨(some 6), .call (.fn 206) [(.t 5), (.c (.int .i32 0)), (.c (.int .i32 1))], none, []⟩])
 (.cond (.t 6)
 (.seq (.cond (.c (.bool true))
  (.seq (.reg false [⟨(some 7), .call (.fn 146) [], none, []⟩])
   (.reg false [⟨(some 8), .mv (.t 0), none, []⟩,
   ⟨(some 9), .conv .toUns (.t 8), none, []⟩,
   ⟨(some 10), .call (.fn 144) [(.t 9)], none, []⟩]))
  .skip)
  .ret)
 .skip))
 (.reg false [⟨(some 11), .mv (.t 0), none, []⟩,
 ⟨(some 12), .fail, none, []⟩])))
/-- (*internal/sync.Mutex).Unlock -/
def F14 : LFunc := .code 1 21 []
 (.seq (.cond (.c (.bool true))
 (.seq (.reg false [⟨(some 3), .mv (.t 0), none, []⟩,
  ⟨(some 4), .nilChk (.t 3), none, []⟩,
  ⟨(some 5), .fieldAddr 0 (.t 4), none, []⟩,
  ⟨(some 6), .load 1 false (.t 5), none, []⟩])
  (.seq (.reg false [⟨(some 7), .mv (.t 0), none, []⟩,
  ⟨(some 8), .conv .toUns (.t 7), none, []⟩,
  ⟨(some 9), .call (.fn 147) [(.t 8)], none, []⟩])
  (.reg false [⟨(some 10), .call (.fn 145) [], none, []⟩])))
 .skip)
 (.seq (.reg false [⟨(some 11), .mv (.t 0), none, []⟩,
 ⟨(some 12), .nilChk (.t 11), none, []⟩,
 ⟨(some 13), .fieldAddr 0 (.t 12), none, []⟩,
 ⟨(some 14), .call (.fn 205) [(.t 13), (.c (.int .i32 (-1)))], none, []⟩,
 ⟨(some 2), .mv (.t 14), none, []⟩])
 (.seq (.seq (.reg false [⟨(some 15), .mv (.t 2), none, []⟩,
 ⟨(some 16), .bin .neq (.t 15) (.c (.int .i32 0)), none, []⟩])
 (.cond (.t 16)
 (.reg false [⟨(some 17), .mv (.t 0), none, []⟩,
  ⟨(some 18), .mv (.t 2), none, []⟩,
  ⟨(some 19), .fail, none, []⟩])
 .skip))
 (.reg false [⟨(some 20), .call (.fn 146) [], none, []⟩]))))
/-- (*strings.Builder).Grow -/
def F15 : LFunc := .code 2 25 []
 (.seq (.reg false [⟨(some 4), .mv (.t 0), none, []⟩,
 ⟨(some 5), .call (.fn 19) [(.t 4)], none, []⟩])
 (.seq (.seq (.reg false [⟨(some 6), .mv (.t 1), none, []⟩,
 ⟨(some 7), .bin .lss (.t 6) (.c (.int .i64 0)), none, []⟩])
 (.cond (.t 7)
 (.reg false [⟨(some 8), .mkIface 1 (.c (.str [115, 116, 114, 105, 110, 103, 115, 46, 66, 117, 105, 108, 100, 101, 114, 46, 71, 114, 111, 119, 58, 32, 110, 101, 103, 97, 116, 105, 118, 101, 32, 99, 111, 117, 110, 116])), none, []⟩,
  ⟨none, .fail, none, []⟩])
 .skip))
 (.seq (.reg true [⟨(some 9), .mv (.t 0), none, []⟩,
 ⟨(some 10), .nilChk (.t 9), none, [0]⟩,
 ⟨(some 11), .fieldAddr 1 (.t 10), none, [1]⟩,
 ⟨(some 12), .load 1 false (.t 11), none, [2]⟩,
 ⟨(some 13), .call (.builtin .capSl) [(.t 12)], none, [3]⟩,
 ⟨(some 14), .mv (.t 0), none, []⟩,
 ⟨(some 15), .nilChk (.t 14), none, [5]⟩,
 ⟨(some 16), .fieldAddr 1 (.t 15), none, [6]⟩,
 ⟨(some 17), .load 1 false (.t 16), none, [7]⟩,
 ⟨(some 18), .call (.builtin .lenSl) [(.t 17)], none, [8]⟩,
 ⟨(some 19), .bin .sub (.t 13) (.t 18), none, [4, 9]⟩,
 ⟨(some 20), .mv (.t 1), none, []⟩,
 ⟨(some 21), .bin .lss (.t 19) (.t 20), none, [10, 11]⟩])
 (.cond (.t 21)
 (.reg false [⟨(some 22), .mv (.t 0), none, []⟩,
  ⟨(some 23), .mv (.t 1), none, []⟩,
  ⟨(some 24), .call (.fn 20) [(.t 22), (.t 23)], none, []⟩])
 .skip))))
/-- (*strings.Builder).String -/
def F16 : LFunc := .code 1 14 [.t 2]
 (.seq (.reg false [⟨(some 2), .mv (.c (.str [])), none, []⟩])
 (.seq (.reg true [⟨(some 3), .mv (.t 0), none, []⟩,
 ⟨(some 4), .nilChk (.t 3), none, [0]⟩,
 ⟨(some 5), .fieldAddr 1 (.t 4), none, [1]⟩,
 ⟨(some 6), .load 1 false (.t 5), none, [2]⟩,
 ⟨(some 7), .call (.builtin .sliceData) [(.t 6)], none, [3]⟩,
 ⟨(some 8), .mv (.t 0), none, []⟩,
 ⟨(some 9), .nilChk (.t 8), none, [5]⟩,
 ⟨(some 10), .fieldAddr 1 (.t 9), none, [6]⟩,
 ⟨(some 11), .load 1 false (.t 10), none, [7]⟩,
 ⟨(some 12), .call (.builtin .lenSl) [(.t 11)], none, [8]⟩,
 ⟨(some 13), .call (.builtin .string) [(.t 7), (.t 12)], none, [4, 9]⟩,
 ⟨(some 2), .mv (.t 13), none, [10, 0, 1, 2, 3, 4, 5, 6, 7, 8, 9, 10]⟩])
 .ret))
/-- (*strings.Builder).WriteByte -/
def F17 : LFunc := .code 2 17 [.t 4]
 (.seq (.reg false [⟨(some 4), .mv (.c (.nilIface)), none, []⟩])
 (.seq (.reg false [⟨(some 5), .mv (.t 0), none, []⟩,
 ⟨(some 6), .call (.fn 19) [(.t 5)], none, []⟩])
 (.seq (.reg false [⟨(some 7), .mv (.t 0), none, []⟩,
 ⟨(some 8), .mv (.t 0), none, []⟩,
 ⟨(some 9), .nilChk (.t 8), none, []⟩,
 ⟨(some 10), .fieldAddr 1 (.t 9), none, []⟩,
 ⟨(some 11), .load 1 false (.t 10), none, []⟩,
 ⟨(some 12), .mv (.t 1), none, []⟩,
 ⟨(some 13), .lit [.int .u8 0] 1 1 [(0, 1, (.t 12))], none, []⟩,
 ⟨(some 14), .call (.builtin (.append 1 1 1 [.int .u8 0])) [(.t 11), (.t 13)], none, []⟩,
 ⟨(some 15), .nilChk (.t 7), none, []⟩,
 ⟨(some 16), .fieldAddr 1 (.t 15), none, []⟩,
 ⟨none, .store 1 (.t 16) (.t 14), none, []⟩])
 (.seq (.reg false [⟨(some 4), .mv (.c (.nilIface)), none, []⟩])
 .ret))))
/-- (*strings.Builder).WriteString -/
def F18 : LFunc := .code 2 19 [.t 4, .t 5]
 (.seq (.reg false [⟨(some 4), .mv (.c (.int .i64 0)), none, []⟩,
 ⟨(some 5), .mv (.c (.nilIface)), none, []⟩])
 (.seq (.reg false [⟨(some 6), .mv (.t 0), none, []⟩,
 ⟨(some 7), .call (.fn 19) [(.t 6)], none, []⟩])
 (.seq (.reg false [⟨(some 8), .mv (.t 0), none, []⟩,
 ⟨(some 9), .mv (.t 0), none, []⟩,
 ⟨(some 10), .nilChk (.t 9), none, []⟩,
 ⟨(some 11), .fieldAddr 1 (.t 10), none, []⟩,
 ⟨(some 12), .load 1 false (.t 11), none, []⟩,
 ⟨(some 13), .mv (.t 1), none, []⟩,
 ⟨(some 14), .call (.builtin (.append 1 1 1 [.int .u8 0])) [(.t 12), (.t 13)], none, []⟩,
 ⟨(some 15), .nilChk (.t 8), none, []⟩,
 ⟨(some 16), .fieldAddr 1 (.t 15), none, []⟩,
 ⟨none, .store 1 (.t 16) (.t 14), none, []⟩])
 (.seq (.reg false [⟨(some 17), .mv (.t 1), none, []⟩,
 ⟨(some 18), .call (.builtin .lenStr) [(.t 17)], none, []⟩,
 ⟨(some 4), .mv (.t 18), none, []⟩,
 ⟨(some 5), .mv (.c (.nilIface)), none, []⟩])
 .ret))))
/-- (*strings.Builder).copyCheck -/
def F19 : LFunc := .code 1 20 []
 (.seq (.reg false [⟨(some 2), .mv (.t 0), none, []⟩,
 ⟨(some 3), .nilChk (.t 2), none, []⟩,
 ⟨(some 4), .fieldAddr 0 (.t 3), none, []⟩,
 ⟨(some 5), .load 1 false (.t 4), none, []⟩,
 ⟨(some 6), .eq false .p (.t 5) (.c (.nilptr)), none, []⟩])
 (.cond (.t 6)
 (.reg false [⟨(some 7), .mv (.t 0), none, []⟩,
  ⟨(some 8), .mv (.t 0), none, []⟩,
  ⟨(some 9), .conv .toUns (.t 8), none, []⟩,
  ⟨(some 10), .call (.fn 139) [(.t 9)], none, []⟩,
  ⟨(some 11), .conv (.ofUns 2) (.t 10), none, []⟩,
  ⟨(some 12), .nilChk (.t 7), none, []⟩,
  ⟨(some 13), .fieldAddr 0 (.t 12), none, []⟩,
  ⟨none, .store 1 (.t 13) (.t 11), none, []⟩])
 (.seq (.reg false [⟨(some 14), .mv (.t 0), none, []⟩,
  ⟨(some 15), .nilChk (.t 14), none, []⟩,
  ⟨(some 16), .fieldAddr 0 (.t 15), none, []⟩,
  ⟨(some 17), .load 1 false (.t 16), none, []⟩,
  ⟨(some 18), .mv (.t 0), none, []⟩,
  ⟨(some 19), .eq true .p (.t 17) (.t 18), none, []⟩])
  (.cond (.t 19)
  .fail
  .skip))))
/-- (*strings.Builder).grow -/
def F20 : LFunc := .code 2 30 []
 (.seq (.reg true [⟨(some 5), .mv (.t 0), none, []⟩,
 ⟨(some 6), .nilChk (.t 5), none, [0]⟩,
 ⟨(some 7), .fieldAddr 1 (.t 6), none, [1]⟩,
 ⟨(some 8), .load 1 false (.t 7), none, [2]⟩,
 ⟨(some 9), .call (.builtin .capSl) [(.t 8)], none, [3]⟩,
 ⟨(some 10), .bin .mul (.c (.int .i64 2)) (.t 9), none, [4]⟩,
 ⟨(some 11), .mv (.t 1), none, []⟩,
 ⟨(some 12), .bin .add (.t 10) (.t 11), none, [5, 6]⟩,
 ⟨(some 13), .call (.fn 143) [(.t 12)], none, [7]⟩,
 ⟨(some 14), .mv (.t 0), none, []⟩,
 ⟨(some 15), .nilChk (.t 14), none, [9]⟩,
 ⟨(some 16), .fieldAddr 1 (.t 15), none, [10]⟩,
 ⟨(some 17), .load 1 false (.t 16), none, [11]⟩,
 ⟨(some 18), .call (.builtin .lenSl) [(.t 17)], none, [12]⟩,
 ⟨(some 19), .slSl 1 (.t 13) none (some (.t 18)) none, none, [8, 13]⟩,
 ⟨(some 4), .mv (.t 19), none, [14, 8, 0, 1, 2, 3, 4, 5, 6, 7, 8, 9, 10, 11, 12, 13, 14]⟩])
 (.seq (.reg false [⟨(some 20), .mv (.t 4), none, []⟩,
 ⟨(some 21), .mv (.t 0), none, []⟩,
 ⟨(some 22), .nilChk (.t 21), none, []⟩,
 ⟨(some 23), .fieldAddr 1 (.t 22), none, []⟩,
 ⟨(some 24), .load 1 false (.t 23), none, []⟩,
 ⟨(some 25), .call (.builtin (.copy 1)) [(.t 20), (.t 24)], none, []⟩])
 (.reg false [⟨(some 26), .mv (.t 0), none, []⟩,
 ⟨(some 27), .mv (.t 4), none, []⟩,
 ⟨(some 28), .nilChk (.t 26), none, []⟩,
 ⟨(some 29), .fieldAddr 1 (.t 28), none, []⟩,
 ⟨none, .store 1 (.t 29) (.t 27), none, []⟩])))
/-- (*strings.Replacer).Replace -/
def F21 : LFunc := .code 2 17 [.t 4]
 (.seq (.reg false [⟨(some 4), .mv (.c (.str [])), none, []⟩])
 (.seq (.reg false [⟨(some 5), .mv (.t 0), none, []⟩,
 ⟨(some 6), .nilChk (.t 5), none, []⟩,
 ⟨(some 7), .fieldAddr 0 (.t 6), none, []⟩,
 ⟨(some 8), .mv (.t 0), none, []⟩,
 ⟨(some 9), .mkFunc 23 [(.t 8)] [], none, []⟩,
 ⟨(some 10), .call (.fn 27) [(.t 7), (.t 9)], none, []⟩])
 (.seq (.reg false [⟨(some 11), .mv (.t 0), none, []⟩,
 ⟨(some 12), .nilChk (.t 11), none, []⟩,
 ⟨(some 13), .fieldAddr 3 (.t 12), none, []⟩,
 ⟨(some 14), .load 1 false (.t 13), none, []⟩,
 ⟨(some 15), .mv (.t 1), none, []⟩,
 ⟨(some 16), .call (.invoke (.t 14) [(5, 24)]) [(.t 15)], none, []⟩,
 ⟨(some 4), .mv (.t 16), none, []⟩])
 .ret)))
/-- (*strings.Replacer).build -/
def F22 : LFunc := .code 1 132 [.t 2]
 (.seq (.reg false [⟨(some 2), .mv (.c (.nilIface)), none, []⟩])
 (.seq (.reg false [⟨(some 15), .mv (.t 0), none, []⟩,
 ⟨(some 16), .nilChk (.t 15), none, []⟩,
 ⟨(some 17), .fieldAddr 4 (.t 16), none, []⟩,
 ⟨(some 18), .load 1 false (.t 17), none, []⟩,
 ⟨(some 3), .mv (.t 18), none, []⟩])
 (.seq (.seq (.reg false [⟨(some 19), .mv (.t 3), none, []⟩,
 ⟨(some 20), .call (.builtin .lenSl) [(.t 19)], none, []⟩,
 ⟨(some 21), .bin .eql (.t 20) (.c (.int .i64 2)), none, []⟩,
 ⟨(some 22), .mv (.t 21), none, []⟩,
 ⟨(some 23), .mv (.t 3), (some (22, true)), []⟩,
 ⟨(some 24), .idxAddr 1 (.t 23) (.c (.int .i64 0)), (some (22, true)), []⟩,
 ⟨(some 25), .load 1 false (.t 24), (some (22, true)), []⟩,
 ⟨(some 26), .call (.builtin .lenStr) [(.t 25)], (some (22, true)), []⟩,
 ⟨(some 27), .bin .gtr (.t 26) (.c (.int .i64 1)), (some (22, true)), []⟩,
 ⟨(some 28), .pick (.t 22) (.t 27) (.c (.bool false)), none, []⟩])
 (.cond (.t 28)
 (.seq (.reg true [⟨(some 29), .mv (.t 3), none, []⟩,
  ⟨(some 30), .idxAddr 1 (.t 29) (.c (.int .i64 0)), none, [0]⟩,
  ⟨(some 31), .load 1 false (.t 30), none, [1]⟩,
  ⟨(some 32), .mv (.t 3), none, []⟩,
  ⟨(some 33), .idxAddr 1 (.t 32) (.c (.int .i64 1)), none, [3]⟩,
  ⟨(some 34), .load 1 false (.t 33), none, [4]⟩,
  ⟨(some 35), .fail, none, [2, 5]⟩,
  ⟨(some 36), .mkIface 2 (.t 35), none, [6]⟩,
  ⟨(some 2), .mv (.t 36), none, [7, 6, 0, 1, 2, 3, 4, 5, 6, 7]⟩])
  .ret)
 .skip))
 (.seq (.reg false [⟨(some 4), .mv (.c (.bool true)), none, []⟩])
 (.seq (.seq (.reg false [⟨(some 5), .mv (.c (.int .i64 0)), none, []⟩])
 (.block 0 (.loop (.seq (.seq (.reg false [⟨(some 37), .mv (.t 5), none, []⟩,
 ⟨(some 38), .mv (.t 3), none, []⟩,
 ⟨(some 39), .call (.builtin .lenSl) [(.t 38)], none, []⟩,
 ⟨(some 40), .bin .lss (.t 37) (.t 39), none, []⟩])
 (.cond (.t 40)
 .skip
 (.exit 0)))
 (.seq (.block 1 (.seq (.seq (.reg false [⟨(some 43), .mv (.t 3), none, []⟩,
 ⟨(some 44), .mv (.t 5), none, []⟩,
 ⟨(some 45), .idxAddr 1 (.t 43) (.t 44), none, []⟩,
 ⟨(some 46), .load 1 false (.t 45), none, []⟩,
 ⟨(some 47), .call (.builtin .lenStr) [(.t 46)], none, []⟩,
 ⟨(some 48), .bin .neq (.t 47) (.c (.int .i64 1)), none, []⟩])
 (.cond (.t 48)
 (.seq (.reg false [⟨(some 49), .mv (.t 3), none, []⟩,
  ⟨(some 50), .fail, none, []⟩,
  ⟨(some 51), .mkIface 3 (.t 50), none, []⟩,
  ⟨(some 2), .mv (.t 51), none, []⟩])
  .ret)
 .skip))
 (.seq (.reg false [⟨(some 52), .mv (.t 3), none, []⟩,
 ⟨(some 53), .mv (.t 5), none, []⟩,
 ⟨(some 54), .bin .add (.t 53) (.c (.int .i64 1)), none, []⟩,
 ⟨(some 55), .idxAddr 1 (.t 52) (.t 54), none, []⟩,
 ⟨(some 56), .load 1 false (.t 55), none, []⟩,
 ⟨(some 57), .call (.builtin .lenStr) [(.t 56)], none, []⟩,
 ⟨(some 58), .bin .neq (.t 57) (.c (.int .i64 1)), none, []⟩])
 (.cond (.t 58)
 (.reg false [⟨(some 4), .mv (.c (.bool false)), none, []⟩])
 .skip))))
 (.reg false [⟨(some 41), .mv (.t 5), none, []⟩,
 ⟨(some 42), .bin .add (.t 41) (.c (.int .i64 2)), none, []⟩,
 ⟨(some 5), .mv (.t 42), none, []⟩]))))))
 (.seq (.seq (.reg false [⟨(some 59), .mv (.t 4), none, []⟩])
 (.cond (.t 59)
 (.seq (.reg false [⟨(some 60), .build [.int .u8 0, .int .u8 0, .int .u8 0, .int .u8 0, .int .u8 0, .int .u8 0, .int .u8 0, .int .u8 0, .int .u8 0, .int .u8 0, .int .u8 0, .int .u8 0, .int .u8 0, .int .u8 0, .int .u8 0, .int .u8 0, .int .u8 0, .int .u8 0, .int .u8 0, .int .u8 0, .int .u8 0, .int .u8 0, .int .u8 0, .int .u8 0, .int .u8 0, .int .u8 0, .int .u8 0, .int .u8 0, .int .u8 0, .int .u8 0, .int .u8 0, .int .u8 0, .int .u8 0, .int .u8 0, .int .u8 0, .int .u8 0, .int .u8 0, .int .u8 0, .int .u8 0, .int .u8 0, .int .u8 0, .int .u8 0, .int .u8 0, .int .u8 0, .int .u8 0, .int .u8 0, .int .u8 0, .int .u8 0, .int .u8 0, .int .u8 0, .int .u8 0, .int .u8 0, .int .u8 0, .int .u8 0, .int .u8 0, .int .u8 0, .int .u8 0, .int .u8 0, .int .u8 0, .int .u8 0, .int .u8 0, .int .u8 0, .int .u8 0, .int .u8 0, .int .u8 0, .int .u8 0, .int .u8 0, .int .u8 0, .int .u8 0, .int .u8 0, .int .u8 0, .int .u8 0, .int .u8 0, .int .u8 0, .int .u8 0, .int .u8 0, .int .u8 0, .int .u8 0, .int .u8 0, .int .u8 0, .int .u8 0, .int .u8 0, .int .u8 0, .int .u8 0, .int .u8 0, .int .u8 0, .int .u8 0, .int .u8 0, .int .u8 0, .int .u8 0, .int .u8 0, .int .u8 0, .int .u8 0, .int .u8 0, .int .u8 0, .int .u8 0, .int .u8 0, .int .u8 0, .int .u8 0, .int .u8 0, .int .u8 0, .int .u8 0, .int .u8 0, .int .u8 0, .int .u8 0, .int .u8 0, .int .u8 0, .int .u8 0, .int .u8 0, .int .u8 0, .int .u8 0, .int .u8 0, .int .u8 0, .int .u8 0, .int .u8 0, .int .u8 0, .int .u8 0, .int .u8 0, .int .u8 0, .int .u8 0, .int .u8 0, .int .u8 0, .int .u8 0, .int .u8 0, .int .u8 0, .int .u8 0, .int .u8 0, .int .u8 0, .int .u8 0, .int .u8 0, .int .u8 0, .int .u8 0, .int .u8 0, .int .u8 0, .int .u8 0, .int .u8 0, .int .u8 0, .int .u8 0, .int .u8 0, .int .u8 0, .int .u8 0, .int .u8 0, .int .u8 0, .int .u8 0, .int .u8 0, .int .u8 0, .int .u8 0, .int .u8 0, .int .u8 0, .int .u8 0, .int .u8 0, .int .u8 0, .int .u8 0, .int .u8 0, .int .u8 0, .int .u8 0, .int .u8 0, .int .u8 0, .int .u8 0, .int .u8 0, .int .u8 0, .int .u8 0, .int .u8 0, .int .u8 0, .int .u8 0, .int .u8 0, .int .u8 0, .int .u8 0, .int .u8 0, .int .u8 0, .int .u8 0, .int .u8 0, .int .u8 0, .int .u8 0, .int .u8 0, .int .u8 0, .int .u8 0, .int .u8 0, .int .u8 0, .int .u8 0, .int .u8 0, .int .u8 0, .int .u8 0, .int .u8 0, .int .u8 0, .int .u8 0, .int .u8 0, .int .u8 0, .int .u8 0, .int .u8 0, .int .u8 0, .int .u8 0, .int .u8 0, .int .u8 0, .int .u8 0, .int .u8 0, .int .u8 0, .int .u8 0, .int .u8 0, .int .u8 0, .int .u8 0, .int .u8 0, .int .u8 0, .int .u8 0, .int .u8 0, .int .u8 0, .int .u8 0, .int .u8 0, .int .u8 0, .int .u8 0, .int .u8 0, .int .u8 0, .int .u8 0, .int .u8 0, .int .u8 0, .int .u8 0, .int .u8 0, .int .u8 0, .int .u8 0, .int .u8 0, .int .u8 0, .int .u8 0, .int .u8 0, .int .u8 0, .int .u8 0, .int .u8 0, .int .u8 0, .int .u8 0, .int .u8 0, .int .u8 0, .int .u8 0, .int .u8 0, .int .u8 0, .int .u8 0, .int .u8 0, .int .u8 0, .int .u8 0, .int .u8 0, .int .u8 0, .int .u8 0, .int .u8 0, .int .u8 0, .int .u8 0, .int .u8 0, .int .u8 0, .int .u8 0, .int .u8 0, .int .u8 0, .int .u8 0, .int .u8 0, .int .u8 0, .int .u8 0, .int .u8 0, .int .u8 0, .int .u8 0, .int .u8 0] [], none, []⟩,
  ⟨(some 6), .alloc [.int .u8 0, .int .u8 0, .int .u8 0, .int .u8 0, .int .u8 0, .int .u8 0, .int .u8 0, .int .u8 0, .int .u8 0, .int .u8 0, .int .u8 0, .int .u8 0, .int .u8 0, .int .u8 0, .int .u8 0, .int .u8 0, .int .u8 0, .int .u8 0, .int .u8 0, .int .u8 0, .int .u8 0, .int .u8 0, .int .u8 0, .int .u8 0, .int .u8 0, .int .u8 0, .int .u8 0, .int .u8 0, .int .u8 0, .int .u8 0, .int .u8 0, .int .u8 0, .int .u8 0, .int .u8 0, .int .u8 0, .int .u8 0, .int .u8 0, .int .u8 0, .int .u8 0, .int .u8 0, .int .u8 0, .int .u8 0, .int .u8 0, .int .u8 0, .int .u8 0, .int .u8 0, .int .u8 0, .int .u8 0, .int .u8 0, .int .u8 0, .int .u8 0, .int .u8 0, .int .u8 0, .int .u8 0, .int .u8 0, .int .u8 0, .int .u8 0, .int .u8 0, .int .u8 0, .int .u8 0, .int .u8 0, .int .u8 0, .int .u8 0, .int .u8 0, .int .u8 0, .int .u8 0, .int .u8 0, .int .u8 0, .int .u8 0, .int .u8 0, .int .u8 0, .int .u8 0, .int .u8 0, .int .u8 0, .int .u8 0, .int .u8 0, .int .u8 0, .int .u8 0, .int .u8 0, .int .u8 0, .int .u8 0, .int .u8 0, .int .u8 0, .int .u8 0, .int .u8 0, .int .u8 0, .int .u8 0, .int .u8 0, .int .u8 0, .int .u8 0, .int .u8 0, .int .u8 0, .int .u8 0, .int .u8 0, .int .u8 0, .int .u8 0, .int .u8 0, .int .u8 0, .int .u8 0, .int .u8 0, .int .u8 0, .int .u8 0, .int .u8 0, .int .u8 0, .int .u8 0, .int .u8 0, .int .u8 0, .int .u8 0, .int .u8 0, .int .u8 0, .int .u8 0, .int .u8 0, .int .u8 0, .int .u8 0, .int .u8 0, .int .u8 0, .int .u8 0, .int .u8 0, .int .u8 0, .int .u8 0, .int .u8 0, .int .u8 0, .int .u8 0, .int .u8 0, .int .u8 0, .int .u8 0, .int .u8 0, .int .u8 0, .int .u8 0, .int .u8 0, .int .u8 0, .int .u8 0, .int .u8 0, .int .u8 0, .int .u8 0, .int .u8 0, .int .u8 0, .int .u8 0, .int .u8 0, .int .u8 0, .int .u8 0, .int .u8 0, .int .u8 0, .int .u8 0, .int .u8 0, .int .u8 0, .int .u8 0, .int .u8 0, .int .u8 0, .int .u8 0, .int .u8 0, .int .u8 0, .int .u8 0, .int .u8 0, .int .u8 0, .int .u8 0, .int .u8 0, .int .u8 0, .int .u8 0, .int .u8 0, .int .u8 0, .int .u8 0, .int .u8 0, .int .u8 0, .int .u8 0, .int .u8 0, .int .u8 0, .int .u8 0, .int .u8 0, .int .u8 0, .int .u8 0, .int .u8 0, .int .u8 0, .int .u8 0, .int .u8 0, .int .u8 0, .int .u8 0, .int .u8 0, .int .u8 0, .int .u8 0, .int .u8 0, .int .u8 0, .int .u8 0, .int .u8 0, .int .u8 0, .int .u8 0, .int .u8 0, .int .u8 0, .int .u8 0, .int .u8 0, .int .u8 0, .int .u8 0, .int .u8 0, .int .u8 0, .int .u8 0, .int .u8 0, .int .u8 0, .int .u8 0, .int .u8 0, .int .u8 0, .int .u8 0, .int .u8 0, .int .u8 0, .int .u8 0, .int .u8 0, .int .u8 0, .int .u8 0, .int .u8 0, .int .u8 0, .int .u8 0, .int .u8 0, .int .u8 0, .int .u8 0, .int .u8 0, .int .u8 0, .int .u8 0, .int .u8 0, .int .u8 0, .int .u8 0, .int .u8 0, .int .u8 0, .int .u8 0, .int .u8 0, .int .u8 0, .int .u8 0, .int .u8 0, .int .u8 0, .int .u8 0, .int .u8 0, .int .u8 0, .int .u8 0, .int .u8 0, .int .u8 0, .int .u8 0, .int .u8 0, .int .u8 0, .int .u8 0, .int .u8 0, .int .u8 0, .int .u8 0, .int .u8 0, .int .u8 0, .int .u8 0, .int .u8 0, .int .u8 0, .int .u8 0, .int .u8 0, .int .u8 0, .int .u8 0, .int .u8 0, .int .u8 0, .int .u8 0, .int .u8 0, .int .u8 0, .int .u8 0, .int .u8 0] 0, none, []⟩,
  ⟨none, .store 256 (.t 6) (.t 60), none, []⟩])
  (.seq (.seq (.reg false [⟨(some 61), .mv (.c (.int .i64 0)), none, []⟩])
  (.block 2 (.loop (.seq (.reg false [⟨(some 62), .bin .lss (.t 61) (.c (.int .i64 256)), none, []⟩])
  (.seq (.cond (.t 62)
  .skip
  (.exit 2))
  (.seq (.block 3 (.seq (.reg false [⟨(some 63), .mv (.t 61), none, []⟩,
  ⟨(some 7), .mv (.t 63), none, []⟩])
  (.reg false [⟨(some 64), .mv (.t 7), none, []⟩,
  ⟨(some 65), .mv (.t 7), none, []⟩,
  ⟨(some 66), .conv (.int .u8) (.t 65), none, []⟩,
  ⟨(some 67), .idxArrAddr 256 1 (.t 6) (.t 64), none, []⟩,
  ⟨none, .store 1 (.t 67) (.t 66), none, []⟩])))
  (.reg false [⟨(some 68), .bin .add (.t 61) (.c (.int .i64 1)), none, []⟩,
  ⟨(some 61), .mv (.t 68), none, []⟩])))))))
  (.seq (.seq (.reg false [⟨(some 69), .mv (.t 3), none, []⟩,
  ⟨(some 70), .call (.builtin .lenSl) [(.t 69)], none, []⟩,
  ⟨(some 71), .bin .sub (.t 70) (.c (.int .i64 2)), none, []⟩,
  ⟨(some 8), .mv (.t 71), none, []⟩])
  (.block 4 (.loop (.seq (.seq (.reg false [⟨(some 72), .mv (.t 8), none, []⟩,
  ⟨(some 73), .bin .geq (.t 72) (.c (.int .i64 0)), none, []⟩])
  (.cond (.t 73)
  .skip
  (.exit 4)))
  (.seq (.block 5 (.seq (.reg false [⟨(some 76), .mv (.t 3), none, []⟩,
  ⟨(some 77), .mv (.t 8), none, []⟩,
  ⟨(some 78), .idxAddr 1 (.t 76) (.t 77), none, []⟩,
  ⟨(some 79), .load 1 false (.t 78), none, []⟩,
  ⟨(some 80), .idxStr (.t 79) (.c (.int .i64 0)), none, []⟩,
  ⟨(some 9), .mv (.t 80), none, []⟩])
  (.seq (.reg false [⟨(some 81), .mv (.t 3), none, []⟩,
  ⟨(some 82), .mv (.t 8), none, []⟩,
  ⟨(some 83), .bin .add (.t 82) (.c (.int .i64 1)), none, []⟩,
  ⟨(some 84), .idxAddr 1 (.t 81) (.t 83), none, []⟩,
  ⟨(some 85), .load 1 false (.t 84), none, []⟩,
  ⟨(some 86), .idxStr (.t 85) (.c (.int .i64 0)), none, []⟩,
  ⟨(some 10), .mv (.t 86), none, []⟩])
  (.reg false [⟨(some 87), .mv (.t 9), none, []⟩,
  ⟨(some 88), .mv (.t 10), none, []⟩,
  ⟨(some 89), .idxArrAddr 256 1 (.t 6) (.t 87), none, []⟩,
  ⟨none, .store 1 (.t 89) (.t 88), none, []⟩]))))
  (.reg false [⟨(some 74), .mv (.t 8), none, []⟩,
  ⟨(some 75), .bin .sub (.t 74) (.c (.int .i64 2)), none, []⟩,
  ⟨(some 8), .mv (.t 75), none, []⟩]))))))
  (.seq (.reg false [⟨(some 90), .mkIface 4 (.t 6), none, []⟩,
  ⟨(some 2), .mv (.t 90), none, []⟩])
  .ret))))
 .skip))
 (.seq (.reg false [⟨(some 91), .mv (.t 3), none, []⟩,
 ⟨(some 92), .call (.builtin .lenSl) [(.t 91)], none, []⟩,
 ⟨(some 93), .bin .quo (.t 92) (.c (.int .i64 2)), none, []⟩,
 ⟨(some 94), .mkSlice [.str []] 1 16 0 (.c (.int .i64 0)) (.t 93), none, []⟩,
 ⟨(some 95), .build [.nilsl, .nilsl, .nilsl, .nilsl, .nilsl, .nilsl, .nilsl, .nilsl, .nilsl, .nilsl, .nilsl, .nilsl, .nilsl, .nilsl, .nilsl, .nilsl, .nilsl, .nilsl, .nilsl, .nilsl, .nilsl, .nilsl, .nilsl, .nilsl, .nilsl, .nilsl, .nilsl, .nilsl, .nilsl, .nilsl, .nilsl, .nilsl, .nilsl, .nilsl, .nilsl, .nilsl, .nilsl, .nilsl, .nilsl, .nilsl, .nilsl, .nilsl, .nilsl, .nilsl, .nilsl, .nilsl, .nilsl, .nilsl, .nilsl, .nilsl, .nilsl, .nilsl, .nilsl, .nilsl, .nilsl, .nilsl, .nilsl, .nilsl, .nilsl, .nilsl, .nilsl, .nilsl, .nilsl, .nilsl, .nilsl, .nilsl, .nilsl, .nilsl, .nilsl, .nilsl, .nilsl, .nilsl, .nilsl, .nilsl, .nilsl, .nilsl, .nilsl, .nilsl, .nilsl, .nilsl, .nilsl, .nilsl, .nilsl, .nilsl, .nilsl, .nilsl, .nilsl, .nilsl, .nilsl, .nilsl, .nilsl, .nilsl, .nilsl, .nilsl, .nilsl, .nilsl, .nilsl, .nilsl, .nilsl, .nilsl, .nilsl, .nilsl, .nilsl, .nilsl, .nilsl, .nilsl, .nilsl, .nilsl, .nilsl, .nilsl, .nilsl, .nilsl, .nilsl, .nilsl, .nilsl, .nilsl, .nilsl, .nilsl, .nilsl, .nilsl, .nilsl, .nilsl, .nilsl, .nilsl, .nilsl, .nilsl, .nilsl, .nilsl, .nilsl, .nilsl, .nilsl, .nilsl, .nilsl, .nilsl, .nilsl, .nilsl, .nilsl, .nilsl, .nilsl, .nilsl, .nilsl, .nilsl, .nilsl, .nilsl, .nilsl, .nilsl, .nilsl, .nilsl, .nilsl, .nilsl, .nilsl, .nilsl, .nilsl, .nilsl, .nilsl, .nilsl, .nilsl, .nilsl, .nilsl, .nilsl, .nilsl, .nilsl, .nilsl, .nilsl, .nilsl, .nilsl, .nilsl, .nilsl, .nilsl, .nilsl, .nilsl, .nilsl, .nilsl, .nilsl, .nilsl, .nilsl, .nilsl, .nilsl, .nilsl, .nilsl, .nilsl, .nilsl, .nilsl, .nilsl, .nilsl, .nilsl, .nilsl, .nilsl, .nilsl, .nilsl, .nilsl, .nilsl, .nilsl, .nilsl, .nilsl, .nilsl, .nilsl, .nilsl, .nilsl, .nilsl, .nilsl, .nilsl, .nilsl, .nilsl, .nilsl, .nilsl, .nilsl, .nilsl, .nilsl, .nilsl, .nilsl, .nilsl, .nilsl, .nilsl, .nilsl, .nilsl, .nilsl, .nilsl, .nilsl, .nilsl, .nilsl, .nilsl, .nilsl, .nilsl, .nilsl, .nilsl, .nilsl, .nilsl, .nilsl, .nilsl, .nilsl, .nilsl, .nilsl, .nilsl, .nilsl, .nilsl, .nilsl, .nilsl, .nilsl, .nilsl, .nilsl, .nilsl, .nilsl, .nilsl, .nilsl, .nilsl, .nilsl, .nilsl, .nilsl, .nilsl, .nilsl, .nilsl, .nilsl, .nilsl, .nilsl, .nilsl, .nilsl] [(256, 1, (.t 94))], none, []⟩,
 ⟨(some 11), .alloc [.nilsl, .nilsl, .nilsl, .nilsl, .nilsl, .nilsl, .nilsl, .nilsl, .nilsl, .nilsl, .nilsl, .nilsl, .nilsl, .nilsl, .nilsl, .nilsl, .nilsl, .nilsl, .nilsl, .nilsl, .nilsl, .nilsl, .nilsl, .nilsl, .nilsl, .nilsl, .nilsl, .nilsl, .nilsl, .nilsl, .nilsl, .nilsl, .nilsl, .nilsl, .nilsl, .nilsl, .nilsl, .nilsl, .nilsl, .nilsl, .nilsl, .nilsl, .nilsl, .nilsl, .nilsl, .nilsl, .nilsl, .nilsl, .nilsl, .nilsl, .nilsl, .nilsl, .nilsl, .nilsl, .nilsl, .nilsl, .nilsl, .nilsl, .nilsl, .nilsl, .nilsl, .nilsl, .nilsl, .nilsl, .nilsl, .nilsl, .nilsl, .nilsl, .nilsl, .nilsl, .nilsl, .nilsl, .nilsl, .nilsl, .nilsl, .nilsl, .nilsl, .nilsl, .nilsl, .nilsl, .nilsl, .nilsl, .nilsl, .nilsl, .nilsl, .nilsl, .nilsl, .nilsl, .nilsl, .nilsl, .nilsl, .nilsl, .nilsl, .nilsl, .nilsl, .nilsl, .nilsl, .nilsl, .nilsl, .nilsl, .nilsl, .nilsl, .nilsl, .nilsl, .nilsl, .nilsl, .nilsl, .nilsl, .nilsl, .nilsl, .nilsl, .nilsl, .nilsl, .nilsl, .nilsl, .nilsl, .nilsl, .nilsl, .nilsl, .nilsl, .nilsl, .nilsl, .nilsl, .nilsl, .nilsl, .nilsl, .nilsl, .nilsl, .nilsl, .nilsl, .nilsl, .nilsl, .nilsl, .nilsl, .nilsl, .nilsl, .nilsl, .nilsl, .nilsl, .nilsl, .nilsl, .nilsl, .nilsl, .nilsl, .nilsl, .nilsl, .nilsl, .nilsl, .nilsl, .nilsl, .nilsl, .nilsl, .nilsl, .nilsl, .nilsl, .nilsl, .nilsl, .nilsl, .nilsl, .nilsl, .nilsl, .nilsl, .nilsl, .nilsl, .nilsl, .nilsl, .nilsl, .nilsl, .nilsl, .nilsl, .nilsl, .nilsl, .nilsl, .nilsl, .nilsl, .nilsl, .nilsl, .nilsl, .nilsl, .nilsl, .nilsl, .nilsl, .nilsl, .nilsl, .nilsl, .nilsl, .nilsl, .nilsl, .nilsl, .nilsl, .nilsl, .nilsl, .nilsl, .nilsl, .nilsl, .nilsl, .nilsl, .nilsl, .nilsl, .nilsl, .nilsl, .nilsl, .nilsl, .nilsl, .nilsl, .nilsl, .nilsl, .nilsl, .nilsl, .nilsl, .nilsl, .nilsl, .nilsl, .nilsl, .nilsl, .nilsl, .nilsl, .nilsl, .nilsl, .nilsl, .nilsl, .nilsl, .nilsl, .nilsl, .nilsl, .nilsl, .nilsl, .nilsl, .nilsl, .nilsl, .nilsl, .nilsl, .nilsl, .nilsl, .nilsl, .nilsl, .nilsl, .nilsl, .nilsl, .nilsl, .nilsl, .nilsl, .nilsl, .nilsl, .nilsl, .nilsl, .nilsl, .nilsl, .nilsl, .nilsl, .nilsl, .nilsl, .nilsl, .nilsl, .nilsl, .nilsl, .nilsl] 0, none, []⟩,
 ⟨none, .store 257 (.t 11) (.t 95), none, []⟩])
 (.seq (.seq (.reg false [⟨(some 96), .mv (.t 3), none, []⟩,
 ⟨(some 97), .call (.builtin .lenSl) [(.t 96)], none, []⟩,
 ⟨(some 98), .bin .sub (.t 97) (.c (.int .i64 2)), none, []⟩,
 ⟨(some 12), .mv (.t 98), none, []⟩])
 (.block 6 (.loop (.seq (.seq (.reg false [⟨(some 99), .mv (.t 12), none, []⟩,
 ⟨(some 100), .bin .geq (.t 99) (.c (.int .i64 0)), none, []⟩])
 (.cond (.t 100)
 .skip
 (.exit 6)))
 (.seq (.block 7 (.seq (.reg false [⟨(some 103), .mv (.t 3), none, []⟩,
 ⟨(some 104), .mv (.t 12), none, []⟩,
 ⟨(some 105), .idxAddr 1 (.t 103) (.t 104), none, []⟩,
 ⟨(some 106), .load 1 false (.t 105), none, []⟩,
 ⟨(some 107), .idxStr (.t 106) (.c (.int .i64 0)), none, []⟩,
 ⟨(some 13), .mv (.t 107), none, []⟩])
 (.seq (.reg false [⟨(some 108), .mv (.t 3), none, []⟩,
 ⟨(some 109), .mv (.t 12), none, []⟩,
 ⟨(some 110), .bin .add (.t 109) (.c (.int .i64 1)), none, []⟩,
 ⟨(some 111), .idxAddr 1 (.t 108) (.t 110), none, []⟩,
 ⟨(some 112), .load 1 false (.t 111), none, []⟩,
 ⟨(some 14), .mv (.t 112), none, []⟩])
 (.seq (.seq (.reg false [⟨(some 113), .mv (.t 13), none, []⟩,
 ⟨(some 114), .fieldAddr 0 (.t 11), none, []⟩,
 ⟨(some 115), .idxArrAddr 256 1 (.t 114) (.t 113), none, []⟩,
 ⟨(some 116), .load 1 false (.t 115), none, []⟩,
 ⟨(some 117), .eq false .sl (.t 116) (.c (.nilsl)), none, []⟩])
 (.cond (.t 117)
 (.reg false [⟨(some 118), .fieldAddr 256 (.t 11), none, []⟩,
  ⟨(some 119), .load 1 false (.t 118), none, []⟩,
  ⟨(some 120), .mv (.t 13), none, []⟩,
  ⟨(some 121), .lit [.int .u8 0] 1 1 [(0, 1, (.t 120))], none, []⟩,
  ⟨(some 122), .conv .ofBytes (.t 121), none, []⟩,
  ⟨(some 123), .lit [.str []] 1 1 [(0, 1, (.t 122))], none, []⟩,
  ⟨(some 124), .call (.builtin (.append 1 16 0 [.str []])) [(.t 119), (.t 123)], none, []⟩,
  ⟨(some 125), .fieldAddr 256 (.t 11), none, []⟩,
  ⟨none, .store 1 (.t 125) (.t 124), none, []⟩])
 .skip))
 (.reg false [⟨(some 126), .mv (.t 13), none, []⟩,
 ⟨(some 127), .mv (.t 14), none, []⟩,
 ⟨(some 128), .conv (.toBytes 1) (.t 127), none, []⟩,
 ⟨(some 129), .fieldAddr 0 (.t 11), none, []⟩,
 ⟨(some 130), .idxArrAddr 256 1 (.t 129) (.t 126), none, []⟩,
 ⟨none, .store 1 (.t 130) (.t 128), none, []⟩])))))
 (.reg false [⟨(some 101), .mv (.t 12), none, []⟩,
 ⟨(some 102), .bin .sub (.t 101) (.c (.int .i64 2)), none, []⟩,
 ⟨(some 12), .mv (.t 102), none, []⟩]))))))
 (.seq (.reg false [⟨(some 131), .mkIface 5 (.t 11), none, []⟩,
 ⟨(some 2), .mv (.t 131), none, []⟩])
 .ret)))))))))
/-- (*strings.Replacer).buildOnce -/
def F23 : LFunc := .code 1 10 []
 (.seq (.reg false [⟨(some 2), .mv (.t 0), none, []⟩,
 ⟨(some 3), .mv (.t 0), none, []⟩,
 ⟨(some 4), .call (.fn 22) [(.t 3)], none, []⟩,
 ⟨(some 5), .nilChk (.t 2), none, []⟩,
 ⟨(some 6), .fieldAddr 3 (.t 5), none, []⟩,
 ⟨none, .store 1 (.t 6) (.t 4), none, []⟩])
 (.reg false [⟨(some 7), .mv (.t 0), none, []⟩,
 ⟨(some 8), .nilChk (.t 7), none, []⟩,
 ⟨(some 9), .fieldAddr 4 (.t 8), none, []⟩,
 ⟨none, .store 1 (.t 9) (.c (.nilsl)), none, []⟩]))
/-- (*strings.byteStringReplacer).Replace -/
def F24 : LFunc := .code 2 122 [.t 4]
 (.seq (.reg false [⟨(some 4), .mv (.c (.str [])), none, []⟩])
 (.seq (.reg false [⟨(some 16), .mv (.t 1), none, []⟩,
 ⟨(some 17), .call (.builtin .lenStr) [(.t 16)], none, []⟩,
 ⟨(some 5), .mv (.t 17), none, []⟩])
 (.seq (.reg false [⟨(some 6), .mv (.c (.bool false)), none, []⟩])
 (.seq (.seq (.reg false [⟨(some 18), .mv (.t 0), none, []⟩,
 ⟨(some 19), .nilChk (.t 18), none, []⟩,
 ⟨(some 20), .fieldAddr 256 (.t 19), none, []⟩,
 ⟨(some 21), .load 1 false (.t 20), none, []⟩,
 ⟨(some 22), .call (.builtin .lenSl) [(.t 21)], none, []⟩,
 ⟨(some 23), .bin .mul (.t 22) (.c (.int .i64 8)), none, []⟩,
 ⟨(some 24), .mv (.t 1), none, []⟩,
 ⟨(some 25), .call (.builtin .lenStr) [(.t 24)], none, []⟩,
 ⟨(some 26), .bin .leq (.t 23) (.t 25), none, []⟩])
 (.cond (.t 26)
 (.seq (.reg false [⟨(some 27), .mv (.t 0), none, []⟩,
  ⟨(some 28), .nilChk (.t 27), none, []⟩,
  ⟨(some 29), .fieldAddr 256 (.t 28), none, []⟩,
  ⟨(some 30), .load 1 false (.t 29), none, []⟩,
  ⟨(some 31), .call (.builtin .lenSl) [(.t 30)], none, []⟩,
  ⟨(some 32), .mv (.c (.int .i64 0)), none, []⟩])
  (.block 0 (.loop (.seq (.reg false [⟨(some 33), .bin .lss (.t 32) (.t 31), none, []⟩])
  (.seq (.cond (.t 33)
  .skip
  (.exit 0))
  (.seq (.block 1 (.seq (.reg false [⟨(some 34), .idxAddr 1 (.t 30) (.t 32), none, []⟩,
  ⟨(some 35), .load 1 false (.t 34), none, []⟩,
  ⟨(some 8), .mv (.t 35), none, []⟩])
  (.seq (.reg false [⟨(some 36), .mv (.t 1), none, []⟩,
  ⟨(some 37), .mv (.t 8), none, []⟩,
  ⟨(some 38), .call (.fn 181) [(.t 36), (.t 37)], none, []⟩,
  ⟨(some 9), .mv (.t 38), none, []⟩])
  (.seq (.reg false [⟨(some 39), .mv (.t 9), none, []⟩,
  ⟨(some 40), .bin .neq (.t 39) (.c (.int .i64 0)), none, []⟩])
  (.cond (.t 40)
  (.seq (.reg true [⟨(some 41), .mv (.t 5), none, []⟩,
   ⟨(some 42), .mv (.t 9), none, []⟩,
   ⟨(some 43), .mv (.t 0), none, []⟩,
   ⟨(some 44), .mv (.t 8), none, []⟩,
   ⟨(some 45), .idxStr (.t 44) (.c (.int .i64 0)), none, [3]⟩,
   ⟨(some 46), .nilChk (.t 43), none, [2]⟩,
   ⟨(some 47), .fieldAddr 0 (.t 46), none, [5]⟩,
   ⟨(some 48), .idxArrAddr 256 1 (.t 47) (.t 45), none, [6, 4]⟩,
   ⟨(some 49), .load 1 false (.t 48), none, [7]⟩,
   ⟨(some 50), .call (.builtin .lenSl) [(.t 49)], none, [8]⟩,
   ⟨(some 51), .bin .sub (.t 50) (.c (.int .i64 1)), none, [9]⟩,
   ⟨(some 52), .bin .mul (.t 42) (.t 51), none, [1, 10]⟩,
   ⟨(some 53), .bin .add (.t 41) (.t 52), none, [0, 11]⟩,
   ⟨(some 5), .mv (.t 53), none, [12, 0, 1, 2, 3, 4, 5, 6, 7, 8, 9, 10, 11, 12]⟩])
   (.reg false [⟨(some 6), .mv (.c (.bool true)), none, []⟩]))
  .skip)))))
  (.reg false [⟨(some 54), .bin .add (.t 32) (.c (.int .i64 1)), none, []⟩,
  ⟨(some 32), .mv (.t 54), none, []⟩])))))))
 (.seq (.reg false [⟨(some 10), .mv (.c (.int .i64 0)), none, []⟩])
  (.block 2 (.loop (.seq (.seq (.reg false [⟨(some 55), .mv (.t 10), none, []⟩,
  ⟨(some 56), .mv (.t 1), none, []⟩,
  ⟨(some 57), .call (.builtin .lenStr) [(.t 56)], none, []⟩,
  ⟨(some 58), .bin .lss (.t 55) (.t 57), none, []⟩])
  (.cond (.t 58)
  .skip
  (.exit 2)))
  (.seq (.block 3 (.seq (.reg false [⟨(some 61), .mv (.t 1), none, []⟩,
  ⟨(some 62), .mv (.t 10), none, []⟩,
  ⟨(some 63), .idxStr (.t 61) (.t 62), none, []⟩,
  ⟨(some 11), .mv (.t 63), none, []⟩])
  (.seq (.reg false [⟨(some 64), .mv (.t 0), none, []⟩,
  ⟨(some 65), .mv (.t 11), none, []⟩,
  ⟨(some 66), .nilChk (.t 64), none, []⟩,
  ⟨(some 67), .fieldAddr 0 (.t 66), none, []⟩,
  ⟨(some 68), .idxArrAddr 256 1 (.t 67) (.t 65), none, []⟩,
  ⟨(some 69), .load 1 false (.t 68), none, []⟩,
  ⟨(some 70), .eq true .sl (.t 69) (.c (.nilsl)), none, []⟩])
  (.cond (.t 70)
  (.seq (.reg false [⟨(some 71), .mv (.t 5), none, []⟩,
   ⟨(some 72), .mv (.t 0), none, []⟩,
   ⟨(some 73), .mv (.t 11), none, []⟩,
   ⟨(some 74), .nilChk (.t 72), none, []⟩,
   ⟨(some 75), .fieldAddr 0 (.t 74), none, []⟩,
   ⟨(some 76), .idxArrAddr 256 1 (.t 75) (.t 73), none, []⟩,
   ⟨(some 77), .load 1 false (.t 76), none, []⟩,
   ⟨(some 78), .call (.builtin .lenSl) [(.t 77)], none, []⟩,
   ⟨(some 79), .bin .sub (.t 78) (.c (.int .i64 1)), none, []⟩,
   ⟨(some 80), .bin .add (.t 71) (.t 79), none, []⟩,
   ⟨(some 5), .mv (.t 80), none, []⟩])
   (.reg false [⟨(some 6), .mv (.c (.bool true)), none, []⟩]))
  .skip))))
  (.reg false [⟨(some 59), .mv (.t 10), none, []⟩,
  ⟨(some 60), .bin .add (.t 59) (.c (.int .i64 1)), none, []⟩,
  ⟨(some 10), .mv (.t 60), none, []⟩]))))))))
 (.seq (.seq (.reg false [⟨(some 81), .mv (.t 6), none, []⟩,
 ⟨(some 82), .un .not (.t 81), none, []⟩])
 (.cond (.t 82)
 (.seq (.reg false [⟨(some 83), .mv (.t 1), none, []⟩,
  ⟨(some 4), .mv (.t 83), none, []⟩])
  .ret)
 .skip))
 (.seq (.reg false [⟨(some 84), .mv (.t 5), none, []⟩,
 ⟨(some 85), .mkSlice [.int .u8 0] 1 1 1 (.t 84) (.t 84), none, []⟩,
 ⟨(some 12), .mv (.t 85), none, []⟩])
 (.seq (.reg false [⟨(some 13), .mv (.c (.int .i64 0)), none, []⟩])
 (.seq (.seq (.reg false [⟨(some 14), .mv (.c (.int .i64 0)), none, []⟩])
 (.block 4 (.loop (.seq (.seq (.reg false [⟨(some 86), .mv (.t 14), none, []⟩,
 ⟨(some 87), .mv (.t 1), none, []⟩,
 ⟨(some 88), .call (.builtin .lenStr) [(.t 87)], none, []⟩,
 ⟨(some 89), .bin .lss (.t 86) (.t 88), none, []⟩])
 (.cond (.t 89)
 .skip
 (.exit 4)))
 (.seq (.block 5 (.seq (.reg false [⟨(some 92), .mv (.t 1), none, []⟩,
 ⟨(some 93), .mv (.t 14), none, []⟩,
 ⟨(some 94), .idxStr (.t 92) (.t 93), none, []⟩,
 ⟨(some 15), .mv (.t 94), none, []⟩])
 (.seq (.reg false [⟨(some 95), .mv (.t 0), none, []⟩,
 ⟨(some 96), .mv (.t 15), none, []⟩,
 ⟨(some 97), .nilChk (.t 95), none, []⟩,
 ⟨(some 98), .fieldAddr 0 (.t 97), none, []⟩,
 ⟨(some 99), .idxArrAddr 256 1 (.t 98) (.t 96), none, []⟩,
 ⟨(some 100), .load 1 false (.t 99), none, []⟩,
 ⟨(some 101), .eq true .sl (.t 100) (.c (.nilsl)), none, []⟩])
 (.cond (.t 101)
 (.reg true [⟨(some 102), .mv (.t 13), none, []⟩,
  ⟨(some 103), .mv (.t 12), none, []⟩,
  ⟨(some 104), .mv (.t 13), none, []⟩,
  ⟨(some 105), .slSl 1 (.t 103) (some (.t 104)) none none, none, [1, 2]⟩,
  ⟨(some 106), .mv (.t 0), none, []⟩,
  ⟨(some 107), .mv (.t 15), none, []⟩,
  ⟨(some 108), .nilChk (.t 106), none, [4]⟩,
  ⟨(some 109), .fieldAddr 0 (.t 108), none, [6]⟩,
  ⟨(some 110), .idxArrAddr 256 1 (.t 109) (.t 107), none, [7, 5]⟩,
  ⟨(some 111), .load 1 false (.t 110), none, [8]⟩,
  ⟨(some 112), .call (.builtin (.copy 1)) [(.t 105), (.t 111)], none, [3, 9]⟩,
  ⟨(some 113), .bin .add (.t 102) (.t 112), none, [0, 10]⟩,
  ⟨(some 13), .mv (.t 113), none, [11, 10, 0, 1, 2, 3, 4, 5, 6, 7, 8, 9, 10, 11]⟩])
 (.seq (.reg false [⟨(some 114), .mv (.t 12), none, []⟩,
  ⟨(some 115), .mv (.t 13), none, []⟩,
  ⟨(some 116), .mv (.t 15), none, []⟩,
  ⟨(some 117), .idxAddr 1 (.t 114) (.t 115), none, []⟩,
  ⟨none, .store 1 (.t 117) (.t 116), none, []⟩])
  (.reg false [⟨(some 118), .mv (.t 13), none, []⟩,
  ⟨(some 119), .bin .add (.t 118) (.c (.int .i64 1)), none, []⟩,
  ⟨(some 13), .mv (.t 119), none, []⟩]))))))
 (.reg false [⟨(some 90), .mv (.t 14), none, []⟩,
 ⟨(some 91), .bin .add (.t 90) (.c (.int .i64 1)), none, []⟩,
 ⟨(some 14), .mv (.t 91), none, []⟩]))))))
 (.seq (.reg false [⟨(some 120), .mv (.t 12), none, []⟩,
 ⟨(some 121), .conv .ofBytes (.t 120), none, []⟩,
 ⟨(some 4), .mv (.t 121), none, []⟩])
 .ret)))))))))
/-- (*sync.Mutex).Lock -/
def F25 : LFunc := .code 1 6 []
 (.reg false [⟨(some 2), .mv (.t 0), none, []⟩,
 ⟨(some 3), .nilChk (.t 2), none, []⟩,
 ⟨(some 4), .fieldAddr 0 (.t 3), none, []⟩,
 ⟨(some 5), .call (.fn 13) [(.t 4)], none, []⟩])
/-- (*sync.Mutex).Unlock -/
def F26 : LFunc := .code 1 6 []
 (.reg false [⟨(some 2), .mv (.t 0), none, []⟩,
 ⟨(some 3), .nilChk (.t 2), none, []⟩,
 ⟨(some 4), .fieldAddr 0 (.t 3), none, []⟩,
 ⟨(some 5), .call (.fn 14) [(.t 4)], none, []⟩])
/-- (*sync.Once).Do -/
def F27 : LFunc := .code 2 12 []
 (.seq (.reg false [⟨(some 4), .mv (.t 0), none, []⟩,
 ⟨(some 5), .nilChk (.t 4), none, []⟩,
 ⟨(some 6), .fieldAddr 0 (.t 5), none, []⟩,
 ⟨(some 7), .call (.fn 29) [(.t 6)], none, []⟩,
 ⟨(some 8), .un .not (.t 7), none, []⟩])
 (.cond (.t 8)
 (.reg false [⟨(some 9), .mv (.t 0), none, []⟩,
  ⟨(some 10), .mv (.t 1), none, []⟩,
  ⟨(some 11), .call (.fn 28) [(.t 9), (.t 10)], none, []⟩])
 .skip))
/-- (*sync/atomic.Bool).Load -/
def F29 : LFunc := .code 1 8 [.t 2]
 (.seq (.reg false [⟨(some 2), .mv (.c (.bool false)), none, []⟩])
 (.seq (.reg false [⟨(some 3), .mv (.t 0), none, []⟩,
 ⟨(some 4), .nilChk (.t 3), none, []⟩,
 ⟨(some 5), .fieldAddr 0 (.t 4), none, []⟩,
 ⟨(some 6), .call (.fn 207) [(.t 5)], none, []⟩,
 ⟨(some 7), .bin .neq (.t 6) (.c (.int .u32 0)), none, []⟩,
 ⟨(some 2), .mv (.t 7), none, []⟩])
 .ret))
/-- (*sync/atomic.Bool).Store -/
def F30 : LFunc := .code 2 10 []
 (.reg true [⟨(some 4), .mv (.t 0), none, []⟩,
 ⟨(some 5), .nilChk (.t 4), none, [0]⟩,
 ⟨(some 6), .fieldAddr 0 (.t 5), none, [1]⟩,
 ⟨(some 7), .mv (.t 1), none, []⟩,
 ⟨(some 8), .call (.fn 209) [(.t 7)], none, [3]⟩,
 ⟨(some 9), .call (.fn 208) [(.t 6), (.t 8)], none, [2, 4, 4]⟩])
/-- (bastion/idna.look).begins -/
def F31 : LFunc := .code 1 16 [.t 2]
 (.seq (.reg false [⟨(some 1), .box 0 (.t 0), none, []⟩,
 ⟨(some 2), .mv (.c (.int .i64 0)), none, []⟩])
 (.seq (.seq (.reg true [⟨(some 3), .fieldAddr 10 (.t 1), none, []⟩,
 ⟨(some 4), .load 1 false (.t 3), none, [0]⟩,
 ⟨(some 5), .call (.fn 162) [(.t 4), (.c (.int .i32 46))], none, [1]⟩,
 ⟨(some 6), .mv (.t 5), none, [2, 2]⟩,
 ⟨(some 7), .fieldAddr 0 (.t 1), (some (6, false)), [3]⟩,
 ⟨(some 8), .load 5 true (.t 7), (some (6, false)), [4, 3]⟩,
 ⟨(some 9), .fieldAddr 10 (.t 1), (some (6, false)), [3]⟩,
 ⟨(some 10), .load 1 false (.t 9), (some (6, false)), [6, 3]⟩,
 ⟨(some 11), .idxAddr 1 (.t 10) (.c (.int .i64 0)), (some (6, false)), [7, 3]⟩,
 ⟨(some 12), .load 1 false (.t 11), (some (6, false)), [8, 3]⟩,
 ⟨(some 13), .call (.fn 89) [(.t 8), (.t 12)], (some (6, false)), [5, 9, 3, 3]⟩,
 ⟨(some 14), .bin .neq (.t 13) (.c (.int .u8 0)), (some (6, false)), [10, 3]⟩,
 ⟨(some 15), .pick (.t 6) (.c (.bool true)) (.t 14), none, [3, 11]⟩])
 (.cond (.t 15)
 (.seq (.reg false [⟨(some 2), .mv (.c (.int .i64 12)), none, []⟩])
  .ret)
 .skip))
 (.seq (.reg false [⟨(some 2), .mv (.c (.int .i64 0)), none, []⟩])
 .ret)))
/-- (bastion/idna.look).directed -/
def F32 : LFunc := .code 1 7 [.t 2]
 (.seq (.reg false [⟨(some 1), .box 0 (.t 0), none, []⟩,
 ⟨(some 2), .mv (.c (.bool false)), none, []⟩])
 (.seq (.reg false [⟨(some 3), .load 11 true (.t 1), none, []⟩,
 ⟨(some 4), .call (.fn 38) [(.t 3)], none, []⟩,
 ⟨(some 5), .lit [.int .u8 0] 3 1 [(0, 1, (.c (.int .u8 2))), (1, 1, (.c (.int .u8 3))), (2, 1, (.c (.int .u8 4)))], none, []⟩,
 ⟨(some 6), .call (.fn 58) [(.t 4), (.t 5)], none, []⟩,
 ⟨(some 2), .mv (.t 6), none, []⟩])
 .ret))
/-- (bastion/idna.look).formed -/
def F33 : LFunc := .code 1 19 [.t 2]
 (.seq (.reg false [⟨(some 1), .box 0 (.t 0), none, []⟩,
 ⟨(some 2), .mv (.c (.int .i64 0)), none, []⟩])
 (.seq (.seq (.reg false [⟨(some 6), .fieldAddr 0 (.t 1), none, []⟩,
 ⟨(some 7), .load 5 true (.t 6), none, []⟩,
 ⟨(some 8), .fieldAddr 10 (.t 1), none, []⟩,
 ⟨(some 9), .load 1 false (.t 8), none, []⟩,
 ⟨(some 10), .call (.fn 66) [(.t 7), (.t 9)], none, []⟩,
 ⟨(some 5), .mv (.t 10), none, []⟩,
 ⟨(some 11), .extract 0 (.t 5), none, []⟩,
 ⟨(some 12), .extract 1 (.t 5), none, []⟩,
 ⟨(some 3), .mv (.t 11), none, []⟩,
 ⟨(some 4), .mv (.t 12), none, []⟩])
 (.seq (.reg false [⟨(some 13), .mv (.t 4), none, []⟩,
 ⟨(some 14), .bin .neq (.t 13) (.c (.int .i64 0)), none, []⟩,
 ⟨(some 15), .mv (.t 14), none, []⟩,
 ⟨(some 16), .mv (.t 3), (some (15, false)), []⟩,
 ⟨(some 17), .un .not (.t 16), (some (15, false)), []⟩,
 ⟨(some 18), .pick (.t 15) (.c (.bool true)) (.t 17), none, []⟩])
 (.cond (.t 18)
 (.seq (.reg false [⟨(some 2), .mv (.c (.int .i64 12)), none, []⟩])
  .ret)
 .skip)))
 (.seq (.reg false [⟨(some 2), .mv (.c (.int .i64 0)), none, []⟩])
 .ret)))
/-- (bastion/idna.look).hyphens -/
def F34 : LFunc := .code 1 51 [.t 2]
 (.seq (.reg false [⟨(some 1), .box 0 (.t 0), none, []⟩,
 ⟨(some 2), .mv (.c (.int .i64 0)), none, []⟩])
 (.seq (.reg false [⟨(some 4), .fieldAddr 10 (.t 1), none, []⟩,
 ⟨(some 5), .load 1 false (.t 4), none, []⟩,
 ⟨(some 3), .mv (.t 5), none, []⟩])
 (.seq (.block 0 (.seq (.reg false [⟨(some 7), .fieldAddr 5 (.t 1), none, []⟩,
 ⟨(some 8), .fieldAddr 0 (.t 7), none, []⟩,
 ⟨(some 9), .load 1 false (.t 8), none, []⟩,
 ⟨(some 10), .mv (.t 9), none, []⟩,
 ⟨(some 11), .mv (.t 3), (some (10, true)), []⟩,
 ⟨(some 12), .call (.builtin .lenSl) [(.t 11)], (some (10, true)), []⟩,
 ⟨(some 13), .bin .geq (.t 12) (.c (.int .i64 4)), (some (10, true)), []⟩,
 ⟨(some 14), .mv (.t 13), (some (10, true)), []⟩,
 ⟨(some 15), .mv (.t 3), (some (14, true)), []⟩,
 ⟨(some 16), .idxAddr 1 (.t 15) (.c (.int .i64 2)), (some (14, true)), []⟩,
 ⟨(some 17), .load 1 false (.t 16), (some (14, true)), []⟩,
 ⟨(some 18), .bin .eql (.t 17) (.c (.int .i32 45)), (some (14, true)), []⟩,
 ⟨(some 19), .pick (.t 14) (.t 18) (.c (.bool false)), (some (10, true)), []⟩,
 ⟨(some 20), .mv (.t 19), (some (10, true)), []⟩,
 ⟨(some 21), .mv (.t 3), (some (20, true)), []⟩,
 ⟨(some 22), .idxAddr 1 (.t 21) (.c (.int .i64 3)), (some (20, true)), []⟩,
 ⟨(some 23), .load 1 false (.t 22), (some (20, true)), []⟩,
 ⟨(some 24), .bin .eql (.t 23) (.c (.int .i32 45)), (some (20, true)), []⟩,
 ⟨(some 25), .pick (.t 20) (.t 24) (.c (.bool false)), (some (10, true)), []⟩,
 ⟨(some 26), .mv (.t 25), (some (10, true)), []⟩,
 ⟨(some 27), .mv (.t 3), (some (26, false)), []⟩,
 ⟨(some 28), .idxAddr 1 (.t 27) (.c (.int .i64 0)), (some (26, false)), []⟩,
 ⟨(some 29), .load 1 false (.t 28), (some (26, false)), []⟩,
 ⟨(some 30), .bin .eql (.t 29) (.c (.int .i32 45)), (some (26, false)), []⟩,
 ⟨(some 31), .pick (.t 26) (.c (.bool true)) (.t 30), (some (10, true)), []⟩,
 ⟨(some 32), .mv (.t 31), (some (10, true)), []⟩,
 ⟨(some 33), .mv (.t 3), (some (32, false)), []⟩,
 ⟨(some 34), .mv (.t 3), (some (32, false)), []⟩,
 ⟨(some 35), .call (.builtin .lenSl) [(.t 34)], (some (32, false)), []⟩,
 ⟨(some 36), .bin .sub (.t 35) (.c (.int .i64 1)), (some (32, false)), []⟩,
 ⟨(some 37), .idxAddr 1 (.t 33) (.t 36), (some (32, false)), []⟩,
 ⟨(some 38), .load 1 false (.t 37), (some (32, false)), []⟩,
 ⟨(some 39), .bin .eql (.t 38) (.c (.int .i32 45)), (some (32, false)), []⟩,
 ⟨(some 40), .pick (.t 32) (.c (.bool true)) (.t 39), (some (10, true)), []⟩,
 ⟨(some 41), .pick (.t 10) (.t 40) (.c (.bool false)), none, []⟩,
 ⟨(some 6), .mv (.t 41), none, []⟩])
 (.cond (.t 6)
 (.seq (.reg false [⟨(some 2), .mv (.c (.int .i64 13)), none, []⟩])
  .ret)
 (.seq (.reg false [⟨(some 43), .fieldAddr 5 (.t 1), none, []⟩,
  ⟨(some 44), .fieldAddr 0 (.t 43), none, []⟩,
  ⟨(some 45), .load 1 false (.t 44), none, []⟩,
  ⟨(some 46), .un .not (.t 45), none, []⟩,
  ⟨(some 47), .mv (.t 46), none, []⟩,
  ⟨(some 48), .mv (.t 3), (some (47, true)), []⟩,
  ⟨(some 49), .call (.fn 57) [(.t 48)], (some (47, true)), []⟩,
  ⟨(some 50), .pick (.t 47) (.t 49) (.c (.bool false)), none, []⟩,
  ⟨(some 42), .mv (.t 50), none, []⟩])
  (.cond (.t 42)
  (.seq (.reg false [⟨(some 2), .mv (.c (.int .i64 12)), none, []⟩])
   .ret)
  .skip)))))
 (.seq (.reg false [⟨(some 2), .mv (.c (.int .i64 0)), none, []⟩])
 .ret))))
/-- (bastion/idna.look).joiners -/
def F35 : LFunc := .code 1 79 [.t 2]
 (.seq (.reg false [⟨(some 1), .box 0 (.t 0), none, []⟩,
 ⟨(some 2), .mv (.c (.int .i64 0)), none, []⟩])
 (.seq (.seq (.reg false [⟨(some 9), .fieldAddr 5 (.t 1), none, []⟩,
 ⟨(some 10), .fieldAddr 2 (.t 9), none, []⟩,
 ⟨(some 11), .load 1 false (.t 10), none, []⟩,
 ⟨(some 12), .un .not (.t 11), none, []⟩])
 (.cond (.t 12)
 (.seq (.reg false [⟨(some 2), .mv (.c (.int .i64 0)), none, []⟩])
  .ret)
 .skip))
 (.seq (.seq (.reg false [⟨(some 13), .fieldAddr 10 (.t 1), none, []⟩,
 ⟨(some 14), .load 1 false (.t 13), none, []⟩,
 ⟨(some 15), .call (.builtin .lenSl) [(.t 14)], none, []⟩,
 ⟨(some 16), .mv (.c (.int .i64 0)), none, []⟩])
 (.block 0 (.loop (.seq (.reg false [⟨(some 17), .bin .lss (.t 16) (.t 15), none, []⟩])
 (.seq (.cond (.t 17)
 .skip
 (.exit 0))
 (.seq (.block 1 (.seq (.reg false [⟨(some 18), .mv (.t 16), none, []⟩,
 ⟨(some 19), .idxAddr 1 (.t 14) (.t 16), none, []⟩,
 ⟨(some 20), .load 1 false (.t 19), none, []⟩,
 ⟨(some 3), .mv (.t 18), none, []⟩,
 ⟨(some 4), .mv (.t 20), none, []⟩])
 (.seq (.seq (.reg true [⟨(some 21), .mv (.t 4), none, []⟩,
 ⟨(some 22), .bin .neq (.t 21) (.c (.int .i32 8205)), none, [0]⟩,
 ⟨(some 23), .mv (.t 22), none, [1]⟩,
 ⟨(some 24), .mv (.t 4), (some (23, true)), [2]⟩,
 ⟨(some 25), .bin .neq (.t 24) (.c (.int .i32 8204)), (some (23, true)), [3, 2]⟩,
 ⟨(some 26), .pick (.t 23) (.t 25) (.c (.bool false)), none, [2, 4]⟩,
 ⟨(some 27), .mv (.t 26), none, [5, 2]⟩,
 ⟨(some 28), .mv (.t 3), (some (27, false)), [6]⟩,
 ⟨(some 29), .bin .gtr (.t 28) (.c (.int .i64 0)), (some (27, false)), [7, 6]⟩,
 ⟨(some 30), .mv (.t 29), (some (27, false)), [8, 6, 6]⟩,
 ⟨(some 31), .fieldAddr 0 (.t 1), (some (30, true)), [9]⟩,
 ⟨(some 32), .load 5 true (.t 31), (some (30, true)), [10, 9]⟩,
 ⟨(some 33), .fieldAddr 10 (.t 1), (some (30, true)), [9]⟩,
 ⟨(some 34), .load 1 false (.t 33), (some (30, true)), [12, 9]⟩,
 ⟨(some 35), .mv (.t 3), (some (30, true)), [9]⟩,
 ⟨(some 36), .bin .sub (.t 35) (.c (.int .i64 1)), (some (30, true)), [14, 9]⟩,
 ⟨(some 37), .idxAddr 1 (.t 34) (.t 36), (some (30, true)), [13, 15, 9]⟩,
 ⟨(some 38), .load 1 false (.t 37), (some (30, true)), [16, 9]⟩,
 ⟨(some 39), .call (.fn 89) [(.t 32), (.t 38)], (some (30, true)), [11, 17, 9, 9]⟩,
 ⟨(some 40), .bin .eql (.t 39) (.c (.int .u8 9)), (some (30, true)), [18, 9]⟩,
 ⟨(some 41), .pick (.t 30) (.t 40) (.c (.bool false)), (some (27, false)), [9, 19, 6]⟩,
 ⟨(some 42), .pick (.t 27) (.c (.bool true)) (.t 41), none, [6, 20]⟩])
 (.cond (.t 42)
 (.exit 1)
 .skip))
 (.seq (.reg true [⟨(some 43), .load 11 true (.t 1), none, []⟩,
 ⟨(some 44), .fieldAddr 10 (.t 1), none, []⟩,
 ⟨(some 45), .load 1 false (.t 44), none, [1]⟩,
 ⟨(some 46), .mv (.t 3), none, []⟩,
 ⟨(some 47), .slSl 1 (.t 45) none (some (.t 46)) none, none, [2, 3]⟩,
 ⟨(some 48), .fail, none, [0, 4]⟩,
 ⟨(some 49), .load 11 true (.t 1), none, []⟩,
 ⟨(some 50), .fieldAddr 10 (.t 1), none, []⟩,
 ⟨(some 51), .load 1 false (.t 50), none, [7]⟩,
 ⟨(some 52), .mv (.t 3), none, []⟩,
 ⟨(some 53), .bin .add (.t 52) (.c (.int .i64 1)), none, [9]⟩,
 ⟨(some 54), .slSl 1 (.t 51) (some (.t 53)) none none, none, [8, 10]⟩,
 ⟨(some 55), .fail, none, [6, 11, 5]⟩,
 ⟨(some 5), .mv (.t 48), none, [5, 12, 0, 1, 2, 3, 4, 5]⟩,
 ⟨(some 6), .mv (.t 55), none, [12, 13, 0, 1, 2, 3, 4, 5, 6, 7, 8, 9, 10, 11, 12, 13]⟩])
 (.seq (.reg false [⟨(some 56), .mv (.t 5), none, []⟩,
 ⟨(some 57), .bin .eql (.t 56) (.c (.int .u8 1)), none, []⟩,
 ⟨(some 58), .mv (.t 57), none, []⟩,
 ⟨(some 59), .mv (.t 5), (some (58, false)), []⟩,
 ⟨(some 60), .bin .eql (.t 59) (.c (.int .u8 3)), (some (58, false)), []⟩,
 ⟨(some 61), .pick (.t 58) (.c (.bool true)) (.t 60), none, []⟩,
 ⟨(some 7), .mv (.t 61), none, []⟩])
 (.seq (.reg false [⟨(some 62), .mv (.t 6), none, []⟩,
 ⟨(some 63), .bin .eql (.t 62) (.c (.int .u8 2)), none, []⟩,
 ⟨(some 64), .mv (.t 63), none, []⟩,
 ⟨(some 65), .mv (.t 6), (some (64, false)), []⟩,
 ⟨(some 66), .bin .eql (.t 65) (.c (.int .u8 3)), (some (64, false)), []⟩,
 ⟨(some 67), .pick (.t 64) (.c (.bool true)) (.t 66), none, []⟩,
 ⟨(some 8), .mv (.t 67), none, []⟩])
 (.seq (.reg false [⟨(some 68), .mv (.t 4), none, []⟩,
 ⟨(some 69), .bin .eql (.t 68) (.c (.int .i32 8205)), none, []⟩,
 ⟨(some 70), .mv (.t 69), none, []⟩,
 ⟨(some 71), .mv (.t 7), (some (70, false)), []⟩,
 ⟨(some 72), .un .not (.t 71), (some (70, false)), []⟩,
 ⟨(some 73), .pick (.t 70) (.c (.bool true)) (.t 72), none, []⟩,
 ⟨(some 74), .mv (.t 73), none, []⟩,
 ⟨(some 75), .mv (.t 8), (some (74, false)), []⟩,
 ⟨(some 76), .un .not (.t 75), (some (74, false)), []⟩,
 ⟨(some 77), .pick (.t 74) (.c (.bool true)) (.t 76), none, []⟩])
 (.cond (.t 77)
 (.seq (.reg false [⟨(some 2), .mv (.c (.int .i64 15)), none, []⟩])
  .ret)
 .skip))))))))
 (.reg false [⟨(some 78), .bin .add (.t 16) (.c (.int .i64 1)), none, []⟩,
 ⟨(some 16), .mv (.t 78), none, []⟩])))))))
 (.seq (.reg false [⟨(some 2), .mv (.c (.int .i64 0)), none, []⟩])
 .ret))))
/-- (bastion/idna.look).letters -/
def F36 : LFunc := .code 1 9 [.t 2]
 (.seq (.reg false [⟨(some 1), .box 0 (.t 0), none, []⟩,
 ⟨(some 2), .mv (.c (.int .i64 0)), none, []⟩])
 (.seq (.reg false [⟨(some 4), .mkFunc 37 [] [(.t 1)], none, []⟩,
 ⟨(some 3), .mv (.t 4), none, []⟩])
 (.seq (.seq (.reg false [⟨(some 5), .fieldAddr 10 (.t 1), none, []⟩,
 ⟨(some 6), .load 1 false (.t 5), none, []⟩,
 ⟨(some 7), .mv (.t 3), none, []⟩,
 ⟨(some 8), .call (.fn 159) [(.t 6), (.t 7)], none, []⟩])
 (.cond (.t 8)
 (.seq (.reg false [⟨(some 2), .mv (.c (.int .i64 11)), none, []⟩])
  .ret)
 .skip))
 (.seq (.reg false [⟨(some 2), .mv (.c (.int .i64 0)), none, []⟩])
 .ret))))
/-- (bastion/idna.look).letters$1 -/
def F37 : LFunc := .code 2 47 [.t 3]
 (.seq (.reg false [⟨(some 3), .mv (.c (.bool false)), none, []⟩])
 (.seq (.reg false [⟨(some 8), .fieldAddr 0 (.t 1), none, []⟩,
 ⟨(some 9), .load 5 true (.t 8), none, []⟩,
 ⟨(some 10), .mv (.t 0), none, []⟩,
 ⟨(some 11), .call (.fn 93) [(.t 9), (.t 10)], none, []⟩,
 ⟨(some 7), .mv (.t 11), none, []⟩,
 ⟨(some 12), .extract 0 (.t 7), none, []⟩,
 ⟨(some 13), .extract 1 (.t 7), none, []⟩,
 ⟨(some 4), .mv (.t 12), none, []⟩,
 ⟨(some 5), .mv (.t 13), none, []⟩])
 (.seq (.reg false [⟨(some 14), .mv (.t 0), none, []⟩,
 ⟨(some 15), .bin .gtr (.t 14) (.c (.int .i32 127)), none, []⟩,
 ⟨(some 16), .mv (.t 15), none, []⟩,
 ⟨(some 17), .mv (.t 0), (some (16, false)), []⟩,
 ⟨(some 18), .bin .geq (.t 17) (.c (.int .i32 97)), (some (16, false)), []⟩,
 ⟨(some 19), .mv (.t 18), (some (16, false)), []⟩,
 ⟨(some 20), .mv (.t 0), (some (19, true)), []⟩,
 ⟨(some 21), .bin .leq (.t 20) (.c (.int .i32 122)), (some (19, true)), []⟩,
 ⟨(some 22), .pick (.t 19) (.t 21) (.c (.bool false)), (some (16, false)), []⟩,
 ⟨(some 23), .pick (.t 16) (.c (.bool true)) (.t 22), none, []⟩,
 ⟨(some 24), .mv (.t 23), none, []⟩,
 ⟨(some 25), .mv (.t 0), (some (24, false)), []⟩,
 ⟨(some 26), .bin .geq (.t 25) (.c (.int .i32 48)), (some (24, false)), []⟩,
 ⟨(some 27), .mv (.t 26), (some (24, false)), []⟩,
 ⟨(some 28), .mv (.t 0), (some (27, true)), []⟩,
 ⟨(some 29), .bin .leq (.t 28) (.c (.int .i32 57)), (some (27, true)), []⟩,
 ⟨(some 30), .pick (.t 27) (.t 29) (.c (.bool false)), (some (24, false)), []⟩,
 ⟨(some 31), .pick (.t 24) (.c (.bool true)) (.t 30), none, []⟩,
 ⟨(some 32), .mv (.t 31), none, []⟩,
 ⟨(some 33), .mv (.t 0), (some (32, false)), []⟩,
 ⟨(some 34), .bin .eql (.t 33) (.c (.int .i32 45)), (some (32, false)), []⟩,
 ⟨(some 35), .pick (.t 32) (.c (.bool true)) (.t 34), none, []⟩,
 ⟨(some 6), .mv (.t 35), none, []⟩])
 (.seq (.reg false [⟨(some 36), .mv (.t 4), none, []⟩,
 ⟨(some 37), .bin .neq (.t 36) (.c (.int .u8 0)), none, []⟩,
 ⟨(some 38), .mv (.t 37), none, []⟩,
 ⟨(some 39), .fieldAddr 5 (.t 1), (some (38, false)), []⟩,
 ⟨(some 40), .fieldAddr 3 (.t 39), (some (38, false)), []⟩,
 ⟨(some 41), .load 1 false (.t 40), (some (38, false)), []⟩,
 ⟨(some 42), .mv (.t 41), (some (38, false)), []⟩,
 ⟨(some 43), .mv (.t 6), (some (42, true)), []⟩,
 ⟨(some 44), .un .not (.t 43), (some (42, true)), []⟩,
 ⟨(some 45), .pick (.t 42) (.t 44) (.c (.bool false)), (some (38, false)), []⟩,
 ⟨(some 46), .pick (.t 38) (.c (.bool true)) (.t 45), none, []⟩,
 ⟨(some 3), .mv (.t 46), none, []⟩])
 .ret))))
/-- (bastion/idna.look).ways -/
def F38 : LFunc := .code 1 22 [.t 2]
 (.seq (.reg false [⟨(some 1), .box 0 (.t 0), none, []⟩,
 ⟨(some 2), .mv (.c (.nilsl)), none, []⟩])
 (.seq (.reg false [⟨(some 3), .mv (.c (.nilsl)), none, []⟩])
 (.seq (.seq (.reg false [⟨(some 6), .fieldAddr 10 (.t 1), none, []⟩,
 ⟨(some 7), .load 1 false (.t 6), none, []⟩,
 ⟨(some 8), .call (.builtin .lenSl) [(.t 7)], none, []⟩,
 ⟨(some 9), .mv (.c (.int .i64 0)), none, []⟩])
 (.block 0 (.loop (.seq (.reg false [⟨(some 10), .bin .lss (.t 9) (.t 8), none, []⟩])
 (.seq (.cond (.t 10)
 .skip
 (.exit 0))
 (.seq (.block 1 (.seq (.reg false [⟨(some 11), .idxAddr 1 (.t 7) (.t 9), none, []⟩,
 ⟨(some 12), .load 1 false (.t 11), none, []⟩,
 ⟨(some 5), .mv (.t 12), none, []⟩])
 (.reg false [⟨(some 13), .mv (.t 3), none, []⟩,
 ⟨(some 14), .fieldAddr 0 (.t 1), none, []⟩,
 ⟨(some 15), .load 5 true (.t 14), none, []⟩,
 ⟨(some 16), .mv (.t 5), none, []⟩,
 ⟨(some 17), .call (.fn 94) [(.t 15), (.t 16)], none, []⟩,
 ⟨(some 18), .lit [.int .u8 0] 1 1 [(0, 1, (.t 17))], none, []⟩,
 ⟨(some 19), .call (.builtin (.append 1 1 1 [.int .u8 0])) [(.t 13), (.t 18)], none, []⟩,
 ⟨(some 3), .mv (.t 19), none, []⟩])))
 (.reg false [⟨(some 20), .bin .add (.t 9) (.c (.int .i64 1)), none, []⟩,
 ⟨(some 9), .mv (.t 20), none, []⟩])))))))
 (.seq (.reg false [⟨(some 21), .mv (.t 3), none, []⟩,
 ⟨(some 2), .mv (.t 21), none, []⟩])
 .ret))))
/-- (bastion/idna.look).why -/
def F39 : LFunc := .code 1 32 [.t 2]
 (.seq (.reg false [⟨(some 1), .box 0 (.t 0), none, []⟩,
 ⟨(some 2), .mv (.c (.int .i64 0)), none, []⟩])
 (.seq (.seq (.reg false [⟨(some 6), .fieldAddr 10 (.t 1), none, []⟩,
 ⟨(some 7), .load 1 false (.t 6), none, []⟩,
 ⟨(some 8), .call (.builtin .lenSl) [(.t 7)], none, []⟩,
 ⟨(some 9), .bin .eql (.t 8) (.c (.int .i64 0)), none, []⟩])
 (.cond (.t 9)
 (.seq (.reg false [⟨(some 2), .mv (.c (.int .i64 0)), none, []⟩])
  .ret)
 .skip))
 (.seq (.seq (.reg false [⟨(some 10), .load 11 true (.t 1), none, []⟩,
 ⟨(some 11), .mkFunc 33 [(.t 10)] [], none, []⟩,
 ⟨(some 12), .load 11 true (.t 1), none, []⟩,
 ⟨(some 13), .mkFunc 34 [(.t 12)] [], none, []⟩,
 ⟨(some 14), .load 11 true (.t 1), none, []⟩,
 ⟨(some 15), .mkFunc 31 [(.t 14)] [], none, []⟩,
 ⟨(some 16), .load 11 true (.t 1), none, []⟩,
 ⟨(some 17), .mkFunc 36 [(.t 16)] [], none, []⟩,
 ⟨(some 18), .load 11 true (.t 1), none, []⟩,
 ⟨(some 19), .mkFunc 35 [(.t 18)] [], none, []⟩,
 ⟨(some 20), .lit [.nilFunc] 5 1 [(0, 1, (.t 11)), (1, 1, (.t 13)), (2, 1, (.t 15)), (3, 1, (.t 17)), (4, 1, (.t 19))], none, []⟩,
 ⟨(some 21), .call (.builtin .lenSl) [(.t 20)], none, []⟩,
 ⟨(some 22), .mv (.c (.int .i64 0)), none, []⟩])
 (.block 0 (.loop (.seq (.reg false [⟨(some 23), .bin .lss (.t 22) (.t 21), none, []⟩])
 (.seq (.cond (.t 23)
 .skip
 (.exit 0))
 (.seq (.block 1 (.seq (.reg false [⟨(some 24), .idxAddr 1 (.t 20) (.t 22), none, []⟩,
 ⟨(some 25), .load 1 false (.t 24), none, []⟩,
 ⟨(some 4), .mv (.t 25), none, []⟩])
 (.seq (.reg false [⟨(some 26), .mv (.t 4), none, []⟩,
 ⟨(some 27), .call (.val (.t 26)) [], none, []⟩,
 ⟨(some 5), .mv (.t 27), none, []⟩])
 (.seq (.reg false [⟨(some 28), .mv (.t 5), none, []⟩,
 ⟨(some 29), .bin .neq (.t 28) (.c (.int .i64 0)), none, []⟩])
 (.cond (.t 29)
 (.seq (.reg false [⟨(some 30), .mv (.t 5), none, []⟩,
  ⟨(some 2), .mv (.t 30), none, []⟩])
  .ret)
 .skip)))))
 (.reg false [⟨(some 31), .bin .add (.t 22) (.c (.int .i64 1)), none, []⟩,
 ⟨(some 22), .mv (.t 31), none, []⟩])))))))
 (.seq (.reg false [⟨(some 2), .mv (.c (.int .i64 0)), none, []⟩])
 .ret))))
/-- bastion/addr.Ends -/
def F40 : LFunc := .code 1 30 [.t 2]
 (.seq (.reg false [⟨(some 2), .mv (.c (.bool false)), none, []⟩])
 (.seq (.reg false [⟨(some 7), .mv (.t 0), none, []⟩,
 ⟨(some 8), .call (.fn 45) [(.t 7)], none, []⟩,
 ⟨(some 3), .mv (.t 8), none, []⟩])
 (.seq (.reg false [⟨(some 9), .mv (.t 3), none, []⟩,
 ⟨(some 10), .mv (.t 3), none, []⟩,
 ⟨(some 11), .call (.builtin .lenSl) [(.t 10)], none, []⟩,
 ⟨(some 12), .bin .sub (.t 11) (.c (.int .i64 1)), none, []⟩,
 ⟨(some 13), .idxAddr 1 (.t 9) (.t 12), none, []⟩,
 ⟨(some 14), .load 1 false (.t 13), none, []⟩,
 ⟨(some 4), .mv (.t 14), none, []⟩])
 (.seq (.reg false [⟨(some 16), .mv (.t 4), none, []⟩,
 ⟨(some 17), .call (.fn 44) [(.t 16)], none, []⟩,
 ⟨(some 15), .mv (.t 17), none, []⟩,
 ⟨(some 18), .extract 0 (.t 15), none, []⟩,
 ⟨(some 19), .extract 1 (.t 15), none, []⟩,
 ⟨(some 5), .mv (.t 18), none, []⟩,
 ⟨(some 6), .mv (.t 19), none, []⟩])
 (.seq (.reg false [⟨(some 20), .mv (.t 6), none, []⟩,
 ⟨(some 21), .mv (.t 20), none, []⟩,
 ⟨(some 22), .mv (.t 4), (some (21, false)), []⟩,
 ⟨(some 23), .bin .neq (.t 22) (.c (.str [])), (some (21, false)), []⟩,
 ⟨(some 24), .mv (.t 23), (some (21, false)), []⟩,
 ⟨(some 25), .mv (.t 4), (some (24, true)), []⟩,
 ⟨(some 26), .lit [.nilFunc] 1 1 [(0, 1, (.f 43))], (some (24, true)), []⟩,
 ⟨(some 27), .call (.fn 41) [(.t 25), (.t 26)], (some (24, true)), []⟩,
 ⟨(some 28), .pick (.t 24) (.t 27) (.c (.bool false)), (some (21, false)), []⟩,
 ⟨(some 29), .pick (.t 21) (.c (.bool true)) (.t 28), none, []⟩,
 ⟨(some 2), .mv (.t 29), none, []⟩])
 .ret)))))
/-- bastion/addr.all -/
def F41 : LFunc := .code 2 16 [.t 4]
 (.seq (.reg false [⟨(some 2), .box 0 (.t 0), none, []⟩,
 ⟨(some 4), .mv (.c (.bool false)), none, []⟩])
 (.seq (.seq (.reg false [⟨(some 6), .load 1 false (.t 2), none, []⟩,
 ⟨(some 7), .call (.builtin .lenStr) [(.t 6)], none, []⟩,
 ⟨(some 8), .mv (.c (.int .i64 0)), none, []⟩])
 (.block 0 (.loop (.seq (.reg false [⟨(some 9), .bin .lss (.t 8) (.t 7), none, []⟩])
 (.seq (.cond (.t 9)
 .skip
 (.exit 0))
 (.seq (.block 1 (.seq (.reg false [⟨(some 10), .mv (.t 8), none, []⟩,
 ⟨(some 5), .alloc [.int .i64 0] 0, none, []⟩,
 ⟨none, .store 1 (.t 5) (.t 10), none, []⟩])
 (.seq (.reg false [⟨(some 11), .mv (.t 1), none, []⟩,
 ⟨(some 12), .mkFunc 42 [] [(.t 2), (.t 5)], none, []⟩,
 ⟨(some 13), .call (.fn 158) [(.t 11), (.t 12)], none, []⟩,
 ⟨(some 14), .un .not (.t 13), none, []⟩])
 (.cond (.t 14)
 (.seq (.reg false [⟨(some 4), .mv (.c (.bool false)), none, []⟩])
  .ret)
 .skip))))
 (.reg false [⟨(some 15), .bin .add (.t 8) (.c (.int .i64 1)), none, []⟩,
 ⟨(some 8), .mv (.t 15), none, []⟩])))))))
 (.seq (.reg false [⟨(some 4), .mv (.c (.bool true)), none, []⟩])
 .ret)))
/-- bastion/addr.all$1 -/
def F42 : LFunc := .code 3 10 [.t 4]
 (.seq (.reg false [⟨(some 4), .mv (.c (.bool false)), none, []⟩])
 (.seq (.reg false [⟨(some 5), .mv (.t 0), none, []⟩,
 ⟨(some 6), .load 1 false (.t 1), none, []⟩,
 ⟨(some 7), .load 1 false (.t 2), none, []⟩,
 ⟨(some 8), .idxStr (.t 6) (.t 7), none, []⟩,
 ⟨(some 9), .call (.val (.t 5)) [(.t 8)], none, []⟩,
 ⟨(some 4), .mv (.t 9), none, []⟩])
 .ret))
/-- bastion/addr.decimal -/
def F43 : LFunc := .code 1 9 [.t 2]
 (.seq (.reg false [⟨(some 2), .mv (.c (.bool false)), none, []⟩])
 (.seq (.reg false [⟨(some 3), .mv (.t 0), none, []⟩,
 ⟨(some 4), .bin .geq (.t 3) (.c (.int .u8 48)), none, []⟩,
 ⟨(some 5), .mv (.t 4), none, []⟩,
 ⟨(some 6), .mv (.t 0), (some (5, true)), []⟩,
 ⟨(some 7), .bin .leq (.t 6) (.c (.int .u8 57)), (some (5, true)), []⟩,
 ⟨(some 8), .pick (.t 5) (.t 7) (.c (.bool false)), none, []⟩,
 ⟨(some 2), .mv (.t 8), none, []⟩])
 .ret))
/-- bastion/addr.number -/
def F44 : LFunc := .code 1 65 [.t 2, .t 3]
 (.seq (.reg false [⟨(some 2), .mv (.c (.int .u64 0)), none, []⟩,
 ⟨(some 3), .mv (.c (.bool false)), none, []⟩])
 (.seq (.reg false [⟨(some 4), .mv (.c (.int .i64 10)), none, []⟩])
 (.seq (.reg false [⟨(some 8), .mv (.t 0), none, []⟩,
 ⟨(some 9), .bin .neq (.t 8) (.c (.str [])), none, []⟩,
 ⟨(some 10), .mv (.t 9), none, []⟩,
 ⟨(some 11), .mv (.t 0), (some (10, true)), []⟩,
 ⟨(some 12), .lit [.nilFunc] 1 1 [(0, 1, (.f 43))], (some (10, true)), []⟩,
 ⟨(some 13), .call (.fn 41) [(.t 11), (.t 12)], (some (10, true)), []⟩,
 ⟨(some 14), .pick (.t 10) (.t 13) (.c (.bool false)), none, []⟩,
 ⟨(some 5), .mv (.t 14), none, []⟩])
 (.seq (.block 0 (.seq (.reg false [⟨(some 16), .mv (.t 0), none, []⟩,
 ⟨(some 17), .call (.builtin .lenStr) [(.t 16)], none, []⟩,
 ⟨(some 18), .bin .gtr (.t 17) (.c (.int .i64 1)), none, []⟩,
 ⟨(some 19), .mv (.t 18), none, []⟩,
 ⟨(some 20), .mv (.t 0), (some (19, true)), []⟩,
 ⟨(some 21), .idxStr (.t 20) (.c (.int .i64 0)), (some (19, true)), []⟩,
 ⟨(some 22), .bin .eql (.t 21) (.c (.int .u8 48)), (some (19, true)), []⟩,
 ⟨(some 23), .pick (.t 19) (.t 22) (.c (.bool false)), none, []⟩,
 ⟨(some 24), .mv (.t 23), none, []⟩,
 ⟨(some 25), .mv (.t 0), (some (24, true)), []⟩,
 ⟨(some 26), .idxStr (.t 25) (.c (.int .i64 1)), (some (24, true)), []⟩,
 ⟨(some 27), .bin .or (.t 26) (.c (.int .u8 32)), (some (24, true)), []⟩,
 ⟨(some 28), .bin .eql (.t 27) (.c (.int .u8 120)), (some (24, true)), []⟩,
 ⟨(some 29), .pick (.t 24) (.t 28) (.c (.bool false)), none, []⟩,
 ⟨(some 15), .mv (.t 29), none, []⟩])
 (.cond (.t 15)
 (.seq (.reg true [⟨(some 30), .mv (.t 0), none, []⟩,
  ⟨(some 31), .slStr (.t 30) (some (.c (.int .i64 2))) none, none, [0]⟩,
  ⟨(some 4), .mv (.c (.int .i64 16)), none, []⟩,
  ⟨(some 0), .mv (.t 31), none, [1, 2, 0, 1, 2]⟩])
  (.reg false [⟨(some 32), .mv (.t 0), none, []⟩,
  ⟨(some 33), .lit [.nilFunc] 2 1 [(0, 1, (.f 43)), (1, 1, (.f 215))], none, []⟩,
  ⟨(some 34), .call (.fn 41) [(.t 32), (.t 33)], none, []⟩,
  ⟨(some 5), .mv (.t 34), none, []⟩]))
 (.seq (.reg false [⟨(some 36), .mv (.t 0), none, []⟩,
  ⟨(some 37), .call (.builtin .lenStr) [(.t 36)], none, []⟩,
  ⟨(some 38), .bin .gtr (.t 37) (.c (.int .i64 1)), none, []⟩,
  ⟨(some 39), .mv (.t 38), none, []⟩,
  ⟨(some 40), .mv (.t 0), (some (39, true)), []⟩,
  ⟨(some 41), .idxStr (.t 40) (.c (.int .i64 0)), (some (39, true)), []⟩,
  ⟨(some 42), .bin .eql (.t 41) (.c (.int .u8 48)), (some (39, true)), []⟩,
  ⟨(some 43), .pick (.t 39) (.t 42) (.c (.bool false)), none, []⟩,
  ⟨(some 35), .mv (.t 43), none, []⟩])
  (.cond (.t 35)
  (.seq (.reg true [⟨(some 44), .mv (.t 0), none, []⟩,
   ⟨(some 45), .slStr (.t 44) (some (.c (.int .i64 1))) none, none, [0]⟩,
   ⟨(some 4), .mv (.c (.int .i64 8)), none, []⟩,
   ⟨(some 0), .mv (.t 45), none, [1, 2, 0, 1, 2]⟩])
   (.reg false [⟨(some 46), .mv (.t 0), none, []⟩,
   ⟨(some 47), .lit [.nilFunc] 1 1 [(0, 1, (.f 216))], none, []⟩,
   ⟨(some 48), .call (.fn 41) [(.t 46), (.t 47)], none, []⟩,
   ⟨(some 5), .mv (.t 48), none, []⟩]))
  .skip)))))
 (.seq (.seq (.reg false [⟨(some 49), .mv (.t 5), none, []⟩,
 ⟨(some 50), .un .not (.t 49), none, []⟩,
 ⟨(some 51), .mv (.t 50), none, []⟩,
 ⟨(some 52), .mv (.t 0), (some (51, false)), []⟩,
 ⟨(some 53), .bin .eql (.t 52) (.c (.str [])), (some (51, false)), []⟩,
 ⟨(some 54), .pick (.t 51) (.c (.bool true)) (.t 53), none, []⟩])
 (.cond (.t 54)
 (.seq (.reg false [⟨(some 55), .mv (.t 5), none, []⟩,
  ⟨(some 2), .mv (.c (.int .u64 0)), none, []⟩,
  ⟨(some 3), .mv (.t 55), none, []⟩])
  .ret)
 .skip))
 (.seq (.reg false [⟨(some 57), .mv (.t 0), none, []⟩,
 ⟨(some 58), .mv (.t 4), none, []⟩,
 ⟨(some 59), .fail, none, []⟩,
 ⟨(some 56), .mv (.t 59), none, []⟩,
 ⟨(some 60), .extract 0 (.t 56), none, []⟩,
 ⟨(some 61), .extract 1 (.t 56), none, []⟩,
 ⟨(some 6), .mv (.t 60), none, []⟩,
 ⟨(some 7), .mv (.t 61), none, []⟩])
 (.seq (.seq (.reg false [⟨(some 62), .mv (.t 7), none, []⟩,
 ⟨(some 63), .eq true (.ifc true []) (.t 62) (.c (.nilIface)), none, []⟩])
 (.cond (.t 63)
 (.reg false [⟨(some 6), .mv (.c (.int .u64 9223372036854775808)), none, []⟩])
 .skip))
 (.seq (.reg false [⟨(some 64), .mv (.t 6), none, []⟩,
 ⟨(some 2), .mv (.t 64), none, []⟩,
 ⟨(some 3), .mv (.c (.bool true)), none, []⟩])
 .ret))))))))
/-- bastion/addr.parts -/
def F45 : LFunc := .code 1 24 [.t 2]
 (.seq (.reg false [⟨(some 2), .mv (.c (.nilsl)), none, []⟩])
 (.seq (.reg false [⟨(some 5), .mv (.t 0), none, []⟩,
 ⟨(some 6), .call (.fn 197) [(.t 5), (.c (.str [46]))], none, []⟩,
 ⟨(some 3), .mv (.t 6), none, []⟩])
 (.seq (.seq (.reg false [⟨(some 7), .mv (.t 3), none, []⟩,
 ⟨(some 8), .call (.builtin .lenSl) [(.t 7)], none, []⟩,
 ⟨(some 4), .mv (.t 8), none, []⟩])
 (.seq (.reg false [⟨(some 9), .mv (.t 4), none, []⟩,
 ⟨(some 10), .bin .gtr (.t 9) (.c (.int .i64 1)), none, []⟩,
 ⟨(some 11), .mv (.t 10), none, []⟩,
 ⟨(some 12), .mv (.t 3), (some (11, true)), []⟩,
 ⟨(some 13), .mv (.t 4), (some (11, true)), []⟩,
 ⟨(some 14), .bin .sub (.t 13) (.c (.int .i64 1)), (some (11, true)), []⟩,
 ⟨(some 15), .idxAddr 1 (.t 12) (.t 14), (some (11, true)), []⟩,
 ⟨(some 16), .load 1 false (.t 15), (some (11, true)), []⟩,
 ⟨(some 17), .bin .eql (.t 16) (.c (.str [])), (some (11, true)), []⟩,
 ⟨(some 18), .pick (.t 11) (.t 17) (.c (.bool false)), none, []⟩])
 (.cond (.t 18)
 (.seq (.reg false [⟨(some 19), .mv (.t 3), none, []⟩,
  ⟨(some 20), .mv (.t 4), none, []⟩,
  ⟨(some 21), .bin .sub (.t 20) (.c (.int .i64 1)), none, []⟩,
  ⟨(some 22), .slSl 1 (.t 19) none (some (.t 21)) none, none, []⟩,
  ⟨(some 2), .mv (.t 22), none, []⟩])
  .ret)
 .skip)))
 (.seq (.reg false [⟨(some 23), .mv (.t 3), none, []⟩,
 ⟨(some 2), .mv (.t 23), none, []⟩])
 .ret))))
/-- bastion/bastionlaw12.OriginRules -/
def F46 : LFunc := .code 3 91 [.t 6]
 (.seq (.reg false [⟨(some 6), .mv (.c (.bool false)), none, []⟩])
 (.seq (.seq (.reg false [⟨(some 13), .call (.fn 47) [], none, []⟩,
 ⟨(some 14), .un .not (.t 13), none, []⟩])
 (.cond (.t 14)
 (.seq (.reg false [⟨(some 6), .mv (.c (.bool false)), none, []⟩])
  .ret)
 .skip))
 (.seq (.seq (.reg false [⟨(some 15), .mv (.t 0), none, []⟩,
 ⟨(some 16), .call (.builtin .lenSl) [(.t 15)], none, []⟩,
 ⟨(some 17), .bin .geq (.t 16) (.c (.int .i64 256)), none, []⟩,
 ⟨(some 18), .mv (.t 17), none, []⟩,
 ⟨(some 19), .mv (.t 2), (some (18, false)), []⟩,
 ⟨(some 20), .call (.builtin .lenStr) [(.t 19)], (some (18, false)), []⟩,
 ⟨(some 21), .bin .gtr (.t 20) (.c (.int .i64 0)), (some (18, false)), []⟩,
 ⟨(some 22), .mv (.t 21), (some (18, false)), []⟩,
 ⟨(some 23), .mv (.t 2), (some (22, true)), []⟩,
 ⟨(some 24), .idxStr (.t 23) (.c (.int .i64 0)), (some (22, true)), []⟩,
 ⟨(some 25), .bin .eql (.t 24) (.c (.int .u8 33)), (some (22, true)), []⟩,
 ⟨(some 26), .pick (.t 22) (.t 25) (.c (.bool false)), (some (18, false)), []⟩,
 ⟨(some 27), .pick (.t 18) (.c (.bool true)) (.t 26), none, []⟩])
 (.cond (.t 27)
 (.seq (.reg false [⟨(some 6), .mv (.c (.bool true)), none, []⟩])
  .ret)
 .skip))
 (.seq (.reg false [⟨(some 29), .mv (.t 0), none, []⟩,
 ⟨(some 30), .mv (.t 1), none, []⟩,
 ⟨(some 31), .call (.fn 73) [(.t 29), (.t 30)], none, []⟩,
 ⟨(some 28), .mv (.t 31), none, []⟩,
 ⟨(some 32), .extract 0 (.t 28), none, []⟩,
 ⟨(some 33), .extract 1 (.t 28), none, []⟩,
 ⟨(some 7), .mv (.t 32), none, []⟩,
 ⟨(some 8), .mv (.t 33), none, []⟩])
 (.seq (.reg false [⟨(some 35), .mv (.t 2), none, []⟩,
 ⟨(some 36), .lit [.str []] 1 1 [(0, 1, (.t 35))], none, []⟩,
 ⟨(some 37), .mv (.t 0), none, []⟩,
 ⟨(some 38), .call (.builtin (.append 1 16 0 [.str []])) [(.t 36), (.t 37)], none, []⟩,
 ⟨(some 39), .mv (.t 1), none, []⟩,
 ⟨(some 40), .call (.fn 73) [(.t 38), (.t 39)], none, []⟩,
 ⟨(some 34), .mv (.t 40), none, []⟩,
 ⟨(some 41), .extract 0 (.t 34), none, []⟩,
 ⟨(some 42), .extract 1 (.t 34), none, []⟩,
 ⟨(some 9), .mv (.t 41), none, []⟩,
 ⟨(some 10), .mv (.t 42), none, []⟩])
 (.seq (.reg false [⟨(some 44), .lit [.str []] 0 1 [], none, []⟩,
 ⟨(some 45), .mv (.t 0), none, []⟩,
 ⟨(some 46), .call (.builtin (.append 1 16 0 [.str []])) [(.t 44), (.t 45)], none, []⟩,
 ⟨(some 47), .mv (.t 2), none, []⟩,
 ⟨(some 48), .lit [.str []] 1 1 [(0, 1, (.t 47))], none, []⟩,
 ⟨(some 49), .call (.builtin (.append 1 16 0 [.str []])) [(.t 46), (.t 48)], none, []⟩,
 ⟨(some 50), .mv (.t 1), none, []⟩,
 ⟨(some 51), .call (.fn 73) [(.t 49), (.t 50)], none, []⟩,
 ⟨(some 43), .mv (.t 51), none, []⟩,
 ⟨(some 52), .extract 0 (.t 43), none, []⟩,
 ⟨(some 53), .extract 1 (.t 43), none, []⟩,
 ⟨(some 11), .mv (.t 52), none, []⟩,
 ⟨(some 12), .mv (.t 53), none, []⟩])
 (.seq (.seq (.reg false [⟨(some 54), .mv (.t 8), none, []⟩,
 ⟨(some 55), .bin .neq (.t 54) (.c (.int .i64 0)), none, []⟩])
 (.cond (.t 55)
 (.seq (.reg false [⟨(some 56), .mv (.t 10), none, []⟩,
  ⟨(some 57), .mv (.t 8), none, []⟩,
  ⟨(some 58), .bin .eql (.t 56) (.t 57), none, []⟩,
  ⟨(some 59), .mv (.t 58), none, []⟩,
  ⟨(some 60), .mv (.t 12), (some (59, true)), []⟩,
  ⟨(some 61), .mv (.t 8), (some (59, true)), []⟩,
  ⟨(some 62), .bin .eql (.t 60) (.t 61), (some (59, true)), []⟩,
  ⟨(some 63), .pick (.t 59) (.t 62) (.c (.bool false)), none, []⟩,
  ⟨(some 6), .mv (.t 63), none, []⟩])
  .ret)
 .skip))
 (.seq (.reg false [⟨(some 64), .mv (.t 10), none, []⟩,
 ⟨(some 65), .bin .eql (.t 64) (.c (.int .i64 0)), none, []⟩,
 ⟨(some 66), .mv (.t 65), none, []⟩,
 ⟨(some 67), .mv (.t 12), (some (66, true)), []⟩,
 ⟨(some 68), .bin .eql (.t 67) (.c (.int .i64 0)), (some (66, true)), []⟩,
 ⟨(some 69), .pick (.t 66) (.t 68) (.c (.bool false)), none, []⟩,
 ⟨(some 70), .mv (.t 69), none, []⟩,
 ⟨(some 71), .mv (.t 9), (some (70, true)), []⟩,
 ⟨(some 72), .mv (.t 11), (some (70, true)), []⟩,
 ⟨(some 73), .bin .eql (.t 71) (.t 72), (some (70, true)), []⟩,
 ⟨(some 74), .pick (.t 70) (.t 73) (.c (.bool false)), none, []⟩,
 ⟨(some 75), .mv (.t 74), none, []⟩,
 ⟨(some 76), .mv (.t 9), (some (75, true)), []⟩,
 ⟨(some 77), .mv (.t 7), (some (75, true)), []⟩,
 ⟨(some 78), .bin .eql (.t 76) (.t 77), (some (75, true)), []⟩,
 ⟨(some 79), .mv (.t 78), (some (75, true)), []⟩,
 ⟨(some 80), .mv (.t 9), (some (79, false)), []⟩,
 ⟨(some 81), .call (.builtin .lenStr) [(.t 80)], (some (79, false)), []⟩,
 ⟨(some 82), .mv (.t 7), (some (79, false)), []⟩,
 ⟨(some 83), .call (.builtin .lenStr) [(.t 82)], (some (79, false)), []⟩,
 ⟨(some 84), .bin .geq (.t 81) (.t 83), (some (79, false)), []⟩,
 ⟨(some 85), .pick (.t 79) (.c (.bool true)) (.t 84), (some (75, true)), []⟩,
 ⟨(some 86), .mv (.t 85), (some (75, true)), []⟩,
 ⟨(some 87), .mv (.t 9), (some (86, false)), []⟩,
 ⟨(some 88), .bin .eql (.t 87) (.c (.str [])), (some (86, false)), []⟩,
 ⟨(some 89), .pick (.t 86) (.c (.bool true)) (.t 88), (some (75, true)), []⟩,
 ⟨(some 90), .pick (.t 75) (.t 89) (.c (.bool false)), none, []⟩,
 ⟨(some 6), .mv (.t 90), none, []⟩])
 .ret))))))))
/-- bastion/bastionlaw12.lives -/
def F47 : LFunc := .code 0 98 [.t 0]
 (.seq (.reg false [⟨(some 0), .mv (.c (.bool false)), none, []⟩])
 (.seq (.reg false [⟨(some 17), .lit [.str []] 3 1 [(0, 1, (.c (.str [99, 111, 109]))), (1, 1, (.c (.str [42, 46, 99, 107]))), (2, 1, (.c (.str [33, 119, 119, 119, 46, 99, 107])))], none, []⟩,
 ⟨(some 1), .mv (.t 17), none, []⟩])
 (.seq (.reg false [⟨(some 19), .mv (.t 1), none, []⟩,
 ⟨(some 20), .call (.fn 72) [(.t 19), (.c (.str [97, 46, 98, 46, 99, 111, 109]))], none, []⟩,
 ⟨(some 18), .mv (.t 20), none, []⟩,
 ⟨(some 21), .extract 0 (.t 18), none, []⟩,
 ⟨(some 22), .extract 1 (.t 18), none, []⟩,
 ⟨(some 23), .extract 2 (.t 18), none, []⟩,
 ⟨(some 2), .mv (.t 21), none, []⟩,
 ⟨(some 3), .mv (.t 22), none, []⟩,
 ⟨(some 4), .mv (.t 23), none, []⟩])
 (.seq (.reg false [⟨(some 25), .mv (.t 1), none, []⟩,
 ⟨(some 26), .call (.fn 72) [(.t 25), (.c (.str [98, 46, 99, 107]))], none, []⟩,
 ⟨(some 24), .mv (.t 26), none, []⟩,
 ⟨(some 27), .extract 0 (.t 24), none, []⟩,
 ⟨(some 28), .extract 1 (.t 24), none, []⟩,
 ⟨(some 29), .extract 2 (.t 24), none, []⟩,
 ⟨(some 5), .mv (.t 27), none, []⟩,
 ⟨(some 6), .mv (.t 28), none, []⟩,
 ⟨(some 7), .mv (.t 29), none, []⟩])
 (.seq (.reg false [⟨(some 31), .mv (.t 1), none, []⟩,
 ⟨(some 32), .call (.fn 72) [(.t 31), (.c (.str [120, 46, 119, 119, 119, 46, 99, 107]))], none, []⟩,
 ⟨(some 30), .mv (.t 32), none, []⟩,
 ⟨(some 33), .extract 0 (.t 30), none, []⟩,
 ⟨(some 34), .extract 1 (.t 30), none, []⟩,
 ⟨(some 35), .extract 2 (.t 30), none, []⟩,
 ⟨(some 8), .mv (.t 33), none, []⟩,
 ⟨(some 9), .mv (.t 34), none, []⟩,
 ⟨(some 10), .mv (.t 35), none, []⟩])
 (.seq (.reg false [⟨(some 37), .call (.fn 91) [], none, []⟩,
 ⟨(some 38), .build [.str [], .str [], .str [], .int .u8 0, .str [], .int .u32 0, .int .u16 0, .int .u16 0, .int .u16 0, .int .u16 0, .int .u16 0, .int .u16 0, .int .u16 0, .int .u16 0, .int .i64 0, .bool false, .nilsl, .bool false, .str [], .str [], .bool false, .str [], .bool false] [], none, []⟩,
 ⟨(some 39), .call (.fn 115) [(.t 37), (.c (.str [98, 108, 111, 98, 58, 104, 116, 116, 112, 115, 58, 47, 47, 104, 47, 49])), (.t 38), (.c (.bool false))], none, []⟩,
 ⟨(some 36), .mv (.t 39), none, []⟩,
 ⟨(some 40), .extract 0 (.t 36), none, []⟩,
 ⟨(some 41), .extract 1 (.t 36), none, []⟩,
 ⟨(some 11), .alloc [.str [], .str [], .str [], .int .u8 0, .str [], .int .u32 0, .int .u16 0, .int .u16 0, .int .u16 0, .int .u16 0, .int .u16 0, .int .u16 0, .int .u16 0, .int .u16 0, .int .i64 0, .bool false, .nilsl, .bool false, .str [], .str [], .bool false, .str [], .bool false] 0, none, []⟩,
 ⟨none, .store 23 (.t 11) (.t 40), none, []⟩,
 ⟨(some 12), .mv (.t 41), none, []⟩])
 (.seq (.reg true [⟨(some 43), .call (.fn 91) [], none, []⟩,
 ⟨(some 44), .load 23 true (.t 11), none, []⟩,
 ⟨(some 45), .call (.fn 71) [(.t 43), (.t 44), (.c (.int .i64 5))], none, [0, 1, 0]⟩,
 ⟨(some 42), .mv (.t 45), none, [2]⟩,
 ⟨(some 46), .extract 0 (.t 42), none, [3]⟩,
 ⟨(some 47), .extract 1 (.t 42), none, [3]⟩,
 ⟨(some 13), .alloc [.bool false, .int .i64 0, .str [], .int .u8 0, .str [], .int .u32 0, .int .u16 0, .int .u16 0, .int .u16 0, .int .u16 0, .int .u16 0, .int .u16 0, .int .u16 0, .int .u16 0, .int .i64 0, .bool false, .str [], .bool false] 0, none, []⟩,
 ⟨none, .store 18 (.t 13) (.t 46), none, [6, 4, 2, 0, 1, 2, 3, 4, 6]⟩,
 ⟨(some 14), .mv (.t 47), none, [5, 7, 0, 1, 2, 3, 4, 5, 6, 7]⟩])
 (.seq (.reg false [⟨(some 49), .load 18 true (.t 13), none, []⟩,
 ⟨(some 50), .call (.fn 74) [(.t 49)], none, []⟩,
 ⟨(some 48), .mv (.t 50), none, []⟩,
 ⟨(some 51), .extract 0 (.t 48), none, []⟩,
 ⟨(some 52), .extract 1 (.t 48), none, []⟩,
 ⟨(some 15), .mv (.t 51), none, []⟩,
 ⟨(some 16), .mv (.t 52), none, []⟩])
 (.seq (.reg false [⟨(some 53), .mv (.t 2), none, []⟩,
 ⟨(some 54), .bin .eql (.t 53) (.c (.str [98, 46, 99, 111, 109])), none, []⟩,
 ⟨(some 55), .mv (.t 54), none, []⟩,
 ⟨(some 56), .mv (.t 3), (some (55, true)), []⟩,
 ⟨(some 57), .pick (.t 55) (.t 56) (.c (.bool false)), none, []⟩,
 ⟨(some 58), .mv (.t 57), none, []⟩,
 ⟨(some 59), .mv (.t 4), (some (58, true)), []⟩,
 ⟨(some 60), .bin .eql (.t 59) (.c (.int .i64 0)), (some (58, true)), []⟩,
 ⟨(some 61), .pick (.t 58) (.t 60) (.c (.bool false)), none, []⟩,
 ⟨(some 62), .mv (.t 61), none, []⟩,
 ⟨(some 63), .mv (.t 6), (some (62, true)), []⟩,
 ⟨(some 64), .un .not (.t 63), (some (62, true)), []⟩,
 ⟨(some 65), .pick (.t 62) (.t 64) (.c (.bool false)), none, []⟩,
 ⟨(some 66), .mv (.t 65), none, []⟩,
 ⟨(some 67), .mv (.t 7), (some (66, true)), []⟩,
 ⟨(some 68), .bin .eql (.t 67) (.c (.int .i64 0)), (some (66, true)), []⟩,
 ⟨(some 69), .pick (.t 66) (.t 68) (.c (.bool false)), none, []⟩,
 ⟨(some 70), .mv (.t 69), none, []⟩,
 ⟨(some 71), .mv (.t 8), (some (70, true)), []⟩,
 ⟨(some 72), .bin .eql (.t 71) (.c (.str [119, 119, 119, 46, 99, 107])), (some (70, true)), []⟩,
 ⟨(some 73), .pick (.t 70) (.t 72) (.c (.bool false)), none, []⟩,
 ⟨(some 74), .mv (.t 73), none, []⟩,
 ⟨(some 75), .mv (.t 9), (some (74, true)), []⟩,
 ⟨(some 76), .pick (.t 74) (.t 75) (.c (.bool false)), none, []⟩,
 ⟨(some 77), .mv (.t 76), none, []⟩,
 ⟨(some 78), .mv (.t 10), (some (77, true)), []⟩,
 ⟨(some 79), .bin .eql (.t 78) (.c (.int .i64 0)), (some (77, true)), []⟩,
 ⟨(some 80), .pick (.t 77) (.t 79) (.c (.bool false)), none, []⟩,
 ⟨(some 81), .mv (.t 80), none, []⟩,
 ⟨(some 82), .mv (.t 14), (some (81, true)), []⟩,
 ⟨(some 83), .bin .eql (.t 82) (.c (.int .i64 0)), (some (81, true)), []⟩,
 ⟨(some 84), .pick (.t 81) (.t 83) (.c (.bool false)), none, []⟩,
 ⟨(some 85), .mv (.t 84), none, []⟩,
 ⟨(some 86), .mv (.t 15), (some (85, true)), []⟩,
 ⟨(some 87), .bin .eql (.t 86) (.c (.str [104, 116, 116, 112, 115, 58, 47, 47, 104])), (some (85, true)), []⟩,
 ⟨(some 88), .pick (.t 85) (.t 87) (.c (.bool false)), none, []⟩,
 ⟨(some 89), .mv (.t 88), none, []⟩,
 ⟨(some 90), .mv (.t 16), (some (89, true)), []⟩,
 ⟨(some 91), .bin .eql (.t 90) (.c (.int .i64 0)), (some (89, true)), []⟩,
 ⟨(some 92), .pick (.t 89) (.t 91) (.c (.bool false)), none, []⟩,
 ⟨(some 93), .mv (.t 92), none, []⟩,
 ⟨(some 94), .build [.bool false, .int .i64 0, .str [], .int .u8 0, .str [], .int .u32 0, .int .u16 0, .int .u16 0, .int .u16 0, .int .u16 0, .int .u16 0, .int .u16 0, .int .u16 0, .int .u16 0, .int .i64 0, .bool false, .str [], .bool false] [], (some (93, true)), []⟩,
 ⟨(some 95), .call (.fn 70) [(.t 94)], (some (93, true)), []⟩,
 ⟨(some 96), .bin .eql (.t 95) (.c (.int .i64 18)), (some (93, true)), []⟩,
 ⟨(some 97), .pick (.t 93) (.t 96) (.c (.bool false)), none, []⟩,
 ⟨(some 0), .mv (.t 97), none, []⟩])
 .ret)))))))))
/-- bastion/host.Check -/
def F48 : LFunc := .code 1 101 [.t 2]
 (.seq (.reg false [⟨(some 1), .box 0 (.t 0), none, []⟩,
 ⟨(some 2), .mv (.c (.int .i64 0)), none, []⟩])
 (.seq (.reg false [⟨(some 3), .mv (.c (.bool false)), none, []⟩])
 (.seq (.seq (.reg false [⟨(some 7), .fieldAddr 0 (.t 1), none, []⟩,
 ⟨(some 8), .load 1 false (.t 7), none, []⟩])
 (.block 0 (.seq (.reg false [⟨(some 10), .bin .eql (.t 8) (.c (.int .u8 1)), none, []⟩,
 ⟨(some 9), .mv (.t 10), none, []⟩])
 (.cond (.t 9)
 (.seq (.reg false [⟨(some 4), .mv (.f 49), none, []⟩])
  (.reg false [⟨(some 11), .load 11 true (.t 1), none, []⟩,
  ⟨(some 12), .fieldAddr 0 (.t 1), none, []⟩,
  ⟨(some 13), .load 1 false (.t 12), none, []⟩,
  ⟨(some 14), .fieldAddr 1 (.t 1), none, []⟩,
  ⟨(some 15), .load 1 false (.t 14), none, []⟩,
  ⟨(some 16), .build [.int .u8 0, .str [], .int .u32 0, .int .u16 0, .int .u16 0, .int .u16 0, .int .u16 0, .int .u16 0, .int .u16 0, .int .u16 0, .int .u16 0] [(0, 1, (.t 13)), (1, 1, (.t 15))], none, []⟩,
  ⟨(some 17), .eq false (.st [(0, 1, false, .i), (1, 1, false, .s), (2, 1, false, .i), (3, 8, true, (.st [(0, 1, false, .i), (1, 1, false, .i), (2, 1, false, .i), (3, 1, false, .i), (4, 1, false, .i), (5, 1, false, .i), (6, 1, false, .i), (7, 1, false, .i)]))]) (.t 11) (.t 16), none, []⟩,
  ⟨(some 18), .mv (.t 17), none, []⟩,
  ⟨(some 19), .fieldAddr 1 (.t 1), (some (18, true)), []⟩,
  ⟨(some 20), .load 1 false (.t 19), (some (18, true)), []⟩,
  ⟨(some 21), .bin .neq (.t 20) (.c (.str [])), (some (18, true)), []⟩,
  ⟨(some 22), .pick (.t 18) (.t 21) (.c (.bool false)), none, []⟩,
  ⟨(some 23), .mv (.t 22), none, []⟩,
  ⟨(some 24), .fieldAddr 1 (.t 1), (some (23, true)), []⟩,
  ⟨(some 25), .load 1 false (.t 24), (some (23, true)), []⟩,
  ⟨(some 26), .call (.fn 52) [(.t 25), (.c (.bool true))], (some (23, true)), []⟩,
  ⟨(some 27), .un .not (.t 26), (some (23, true)), []⟩,
  ⟨(some 28), .pick (.t 23) (.t 27) (.c (.bool false)), none, []⟩,
  ⟨(some 29), .mv (.t 28), none, []⟩,
  ⟨(some 30), .fieldAddr 1 (.t 1), (some (29, true)), []⟩,
  ⟨(some 31), .load 1 false (.t 30), (some (29, true)), []⟩,
  ⟨(some 32), .mv (.t 4), (some (29, true)), []⟩,
  ⟨(some 33), .call (.fn 190) [(.t 31), (.t 32)], (some (29, true)), []⟩,
  ⟨(some 34), .bin .lss (.t 33) (.c (.int .i64 0)), (some (29, true)), []⟩,
  ⟨(some 35), .pick (.t 29) (.t 34) (.c (.bool false)), none, []⟩,
  ⟨(some 36), .mv (.t 35), none, []⟩,
  ⟨(some 37), .fieldAddr 1 (.t 1), (some (36, true)), []⟩,
  ⟨(some 38), .load 1 false (.t 37), (some (36, true)), []⟩,
  ⟨(some 39), .call (.fn 40) [(.t 38)], (some (36, true)), []⟩,
  ⟨(some 40), .un .not (.t 39), (some (36, true)), []⟩,
  ⟨(some 41), .pick (.t 36) (.t 40) (.c (.bool false)), none, []⟩,
  ⟨(some 3), .mv (.t 41), none, []⟩]))
 (.seq (.reg false [⟨(some 43), .bin .eql (.t 8) (.c (.int .u8 4)), none, []⟩,
  ⟨(some 42), .mv (.t 43), none, []⟩])
  (.cond (.t 42)
  (.seq (.reg false [⟨(some 45), .fieldAddr 1 (.t 1), none, []⟩,
   ⟨(some 46), .load 1 false (.t 45), none, []⟩,
   ⟨(some 47), .call (.fn 80) [(.t 46), (.c (.int .u8 1))], none, []⟩,
   ⟨(some 44), .mv (.t 47), none, []⟩,
   ⟨(some 48), .extract 0 (.t 44), none, []⟩,
   ⟨(some 49), .extract 1 (.t 44), none, []⟩,
   ⟨(some 5), .mv (.t 48), none, []⟩,
   ⟨(some 6), .mv (.t 49), none, []⟩])
   (.reg false [⟨(some 50), .load 11 true (.t 1), none, []⟩,
   ⟨(some 51), .fieldAddr 0 (.t 1), none, []⟩,
   ⟨(some 52), .load 1 false (.t 51), none, []⟩,
   ⟨(some 53), .fieldAddr 1 (.t 1), none, []⟩,
   ⟨(some 54), .load 1 false (.t 53), none, []⟩,
   ⟨(some 55), .build [.int .u8 0, .str [], .int .u32 0, .int .u16 0, .int .u16 0, .int .u16 0, .int .u16 0, .int .u16 0, .int .u16 0, .int .u16 0, .int .u16 0] [(0, 1, (.t 52)), (1, 1, (.t 54))], none, []⟩,
   ⟨(some 56), .eq false (.st [(0, 1, false, .i), (1, 1, false, .s), (2, 1, false, .i), (3, 8, true, (.st [(0, 1, false, .i), (1, 1, false, .i), (2, 1, false, .i), (3, 1, false, .i), (4, 1, false, .i), (5, 1, false, .i), (6, 1, false, .i), (7, 1, false, .i)]))]) (.t 50) (.t 55), none, []⟩,
   ⟨(some 57), .mv (.t 56), none, []⟩,
   ⟨(some 58), .fieldAddr 1 (.t 1), (some (57, true)), []⟩,
   ⟨(some 59), .load 1 false (.t 58), (some (57, true)), []⟩,
   ⟨(some 60), .bin .neq (.t 59) (.c (.str [])), (some (57, true)), []⟩,
   ⟨(some 61), .pick (.t 57) (.t 60) (.c (.bool false)), none, []⟩,
   ⟨(some 62), .mv (.t 61), none, []⟩,
   ⟨(some 63), .fieldAddr 1 (.t 1), (some (62, true)), []⟩,
   ⟨(some 64), .load 1 false (.t 63), (some (62, true)), []⟩,
   ⟨(some 65), .call (.fn 52) [(.t 64), (.c (.bool false))], (some (62, true)), []⟩,
   ⟨(some 66), .un .not (.t 65), (some (62, true)), []⟩,
   ⟨(some 67), .pick (.t 62) (.t 66) (.c (.bool false)), none, []⟩,
   ⟨(some 68), .mv (.t 67), none, []⟩,
   ⟨(some 69), .mv (.t 5), (some (68, true)), []⟩,
   ⟨(some 70), .fieldAddr 1 (.t 1), (some (68, true)), []⟩,
   ⟨(some 71), .load 1 false (.t 70), (some (68, true)), []⟩,
   ⟨(some 72), .bin .eql (.t 69) (.t 71), (some (68, true)), []⟩,
   ⟨(some 73), .pick (.t 68) (.t 72) (.c (.bool false)), none, []⟩,
   ⟨(some 3), .mv (.t 73), none, []⟩]))
  (.seq (.reg false [⟨(some 75), .bin .eql (.t 8) (.c (.int .u8 2)), none, []⟩,
   ⟨(some 74), .mv (.t 75), none, []⟩])
   (.cond (.t 74)
   (.reg false [⟨(some 76), .load 11 true (.t 1), none, []⟩,
    ⟨(some 77), .fieldAddr 0 (.t 1), none, []⟩,
    ⟨(some 78), .load 1 false (.t 77), none, []⟩,
    ⟨(some 79), .fieldAddr 2 (.t 1), none, []⟩,
    ⟨(some 80), .load 1 false (.t 79), none, []⟩,
    ⟨(some 81), .build [.int .u8 0, .str [], .int .u32 0, .int .u16 0, .int .u16 0, .int .u16 0, .int .u16 0, .int .u16 0, .int .u16 0, .int .u16 0, .int .u16 0] [(0, 1, (.t 78)), (2, 1, (.t 80))], none, []⟩,
    ⟨(some 82), .eq false (.st [(0, 1, false, .i), (1, 1, false, .s), (2, 1, false, .i), (3, 8, true, (.st [(0, 1, false, .i), (1, 1, false, .i), (2, 1, false, .i), (3, 1, false, .i), (4, 1, false, .i), (5, 1, false, .i), (6, 1, false, .i), (7, 1, false, .i)]))]) (.t 76) (.t 81), none, []⟩,
    ⟨(some 3), .mv (.t 82), none, []⟩])
   (.seq (.reg false [⟨(some 84), .bin .eql (.t 8) (.c (.int .u8 3)), none, []⟩,
    ⟨(some 83), .mv (.t 84), none, []⟩])
    (.cond (.t 83)
    (.reg false [⟨(some 85), .load 11 true (.t 1), none, []⟩,
     ⟨(some 86), .fieldAddr 0 (.t 1), none, []⟩,
     ⟨(some 87), .load 1 false (.t 86), none, []⟩,
     ⟨(some 88), .fieldAddr 3 (.t 1), none, []⟩,
     ⟨(some 89), .load 8 true (.t 88), none, []⟩,
     ⟨(some 90), .build [.int .u8 0, .str [], .int .u32 0, .int .u16 0, .int .u16 0, .int .u16 0, .int .u16 0, .int .u16 0, .int .u16 0, .int .u16 0, .int .u16 0] [(0, 1, (.t 87)), (3, 8, (.t 89))], none, []⟩,
     ⟨(some 91), .eq false (.st [(0, 1, false, .i), (1, 1, false, .s), (2, 1, false, .i), (3, 8, true, (.st [(0, 1, false, .i), (1, 1, false, .i), (2, 1, false, .i), (3, 1, false, .i), (4, 1, false, .i), (5, 1, false, .i), (6, 1, false, .i), (7, 1, false, .i)]))]) (.t 85) (.t 90), none, []⟩,
     ⟨(some 3), .mv (.t 91), none, []⟩])
    (.seq (.reg false [⟨(some 93), .bin .eql (.t 8) (.c (.int .u8 5)), none, []⟩,
     ⟨(some 92), .mv (.t 93), none, []⟩])
     (.cond (.t 92)
     (.reg false [⟨(some 94), .load 11 true (.t 1), none, []⟩,
      ⟨(some 95), .fieldAddr 0 (.t 1), none, []⟩,
      ⟨(some 96), .load 1 false (.t 95), none, []⟩,
      ⟨(some 97), .build [.int .u8 0, .str [], .int .u32 0, .int .u16 0, .int .u16 0, .int .u16 0, .int .u16 0, .int .u16 0, .int .u16 0, .int .u16 0, .int .u16 0] [(0, 1, (.t 96))], none, []⟩,
      ⟨(some 98), .eq false (.st [(0, 1, false, .i), (1, 1, false, .s), (2, 1, false, .i), (3, 8, true, (.st [(0, 1, false, .i), (1, 1, false, .i), (2, 1, false, .i), (3, 1, false, .i), (4, 1, false, .i), (5, 1, false, .i), (6, 1, false, .i), (7, 1, false, .i)]))]) (.t 94) (.t 97), none, []⟩,
      ⟨(some 3), .mv (.t 98), none, []⟩])
     .skip))))))))))))
 (.seq (.seq (.reg false [⟨(some 99), .mv (.t 3), none, []⟩,
 ⟨(some 100), .un .not (.t 99), none, []⟩])
 (.cond (.t 100)
 (.seq (.reg false [⟨(some 2), .mv (.c (.int .i64 18)), none, []⟩])
  .ret)
 .skip))
 (.seq (.reg false [⟨(some 2), .mv (.c (.int .i64 0)), none, []⟩])
 .ret)))))
/-- bastion/host.Check$1 -/
def F49 : LFunc := .code 1 13 [.t 2]
 (.seq (.reg false [⟨(some 2), .mv (.c (.bool false)), none, []⟩])
 (.seq (.reg false [⟨(some 3), .mv (.t 0), none, []⟩,
 ⟨(some 4), .bin .gtr (.t 3) (.c (.int .i32 127)), none, []⟩,
 ⟨(some 5), .mv (.t 4), none, []⟩,
 ⟨(some 6), .mv (.t 0), (some (5, false)), []⟩,
 ⟨(some 7), .bin .geq (.t 6) (.c (.int .i32 65)), (some (5, false)), []⟩,
 ⟨(some 8), .mv (.t 7), (some (5, false)), []⟩,
 ⟨(some 9), .mv (.t 0), (some (8, true)), []⟩,
 ⟨(some 10), .bin .leq (.t 9) (.c (.int .i32 90)), (some (8, true)), []⟩,
 ⟨(some 11), .pick (.t 8) (.t 10) (.c (.bool false)), (some (5, false)), []⟩,
 ⟨(some 12), .pick (.t 5) (.c (.bool true)) (.t 11), none, []⟩,
 ⟨(some 2), .mv (.t 12), none, []⟩])
 .ret))
/-- bastion/host.Parse -/
def F50 : LFunc := .code 3 31 [.cell 6 11 true, .t 7]
 (.seq (.reg false [⟨(some 3), .box 0 (.t 0), none, []⟩,
 ⟨(some 6), .alloc [.int .u8 0, .str [], .int .u32 0, .int .u16 0, .int .u16 0, .int .u16 0, .int .u16 0, .int .u16 0, .int .u16 0, .int .u16 0, .int .u16 0] 0, none, []⟩,
 ⟨(some 7), .mv (.c (.int .i64 0)), none, []⟩])
 (.seq (.block 0 (.seq (.reg false [⟨(some 9), .mv (.t 1), none, []⟩,
 ⟨(some 10), .call (.builtin .lenStr) [(.t 9)], none, []⟩,
 ⟨(some 11), .bin .gtr (.t 10) (.c (.int .i64 4096)), none, []⟩,
 ⟨(some 8), .mv (.t 11), none, []⟩])
 (.cond (.t 8)
 (.seq (.reg false [⟨(some 12), .build [.int .u8 0, .str [], .int .u32 0, .int .u16 0, .int .u16 0, .int .u16 0, .int .u16 0, .int .u16 0, .int .u16 0, .int .u16 0, .int .u16 0] [], none, []⟩,
  ⟨none, .store 11 (.t 6) (.t 12), none, []⟩,
  ⟨(some 7), .mv (.c (.int .i64 4)), none, []⟩])
  .ret)
 (.seq (.reg false [⟨(some 14), .mv (.t 1), none, []⟩,
  ⟨(some 15), .call (.fn 185) [(.t 14), (.c (.str [91]))], none, []⟩,
  ⟨(some 13), .mv (.t 15), none, []⟩])
  (.cond (.t 13)
  (.seq (.reg false [⟨(some 16), .mv (.t 1), none, []⟩,
   ⟨(some 17), .fail, none, []⟩,
   ⟨(some 18), .extract 0 (.t 17), none, []⟩,
   ⟨(some 19), .extract 1 (.t 17), none, []⟩,
   ⟨none, .store 11 (.t 6) (.t 18), none, []⟩,
   ⟨(some 7), .mv (.t 19), none, []⟩])
   .ret)
  (.seq (.reg false [⟨(some 21), .mv (.t 2), none, []⟩,
   ⟨(some 20), .mv (.t 21), none, []⟩])
   (.cond (.t 20)
   (.seq (.reg false [⟨(some 22), .mv (.t 1), none, []⟩,
    ⟨(some 23), .fail, none, []⟩,
    ⟨(some 24), .extract 0 (.t 23), none, []⟩,
    ⟨(some 25), .extract 1 (.t 23), none, []⟩,
    ⟨none, .store 11 (.t 6) (.t 24), none, []⟩,
    ⟨(some 7), .mv (.t 25), none, []⟩])
    .ret)
   .skip)))))))
 (.seq (.reg false [⟨(some 26), .load 5 true (.t 3), none, []⟩,
 ⟨(some 27), .mv (.t 1), none, []⟩,
 ⟨(some 28), .call (.fn 54) [(.t 26), (.t 27)], none, []⟩,
 ⟨(some 29), .extract 0 (.t 28), none, []⟩,
 ⟨(some 30), .extract 1 (.t 28), none, []⟩,
 ⟨none, .store 11 (.t 6) (.t 29), none, []⟩,
 ⟨(some 7), .mv (.t 30), none, []⟩])
 .ret)))
/-- bastion/host.Text -/
def F51 : LFunc := .code 1 26 [.t 2, .t 3]
 (.seq (.reg false [⟨(some 1), .box 0 (.t 0), none, []⟩,
 ⟨(some 2), .mv (.c (.str [])), none, []⟩,
 ⟨(some 3), .mv (.c (.int .i64 0)), none, []⟩])
 (.seq (.seq (.reg false [⟨(some 5), .load 11 true (.t 1), none, []⟩,
 ⟨(some 6), .call (.fn 48) [(.t 5)], none, []⟩,
 ⟨(some 4), .mv (.t 6), none, []⟩])
 (.seq (.reg false [⟨(some 7), .mv (.t 4), none, []⟩,
 ⟨(some 8), .bin .neq (.t 7) (.c (.int .i64 0)), none, []⟩])
 (.cond (.t 8)
 (.seq (.reg false [⟨(some 9), .mv (.t 4), none, []⟩,
  ⟨(some 2), .mv (.c (.str [])), none, []⟩,
  ⟨(some 3), .mv (.t 9), none, []⟩])
  .ret)
 .skip)))
 (.seq (.seq (.reg false [⟨(some 10), .fieldAddr 0 (.t 1), none, []⟩,
 ⟨(some 11), .load 1 false (.t 10), none, []⟩])
 (.block 0 (.seq (.reg false [⟨(some 13), .bin .eql (.t 11) (.c (.int .u8 2)), none, []⟩,
 ⟨(some 12), .mv (.t 13), none, []⟩])
 (.cond (.t 12)
 (.seq (.reg false [⟨(some 14), .fieldAddr 2 (.t 1), none, []⟩,
  ⟨(some 15), .load 1 false (.t 14), none, []⟩,
  ⟨(some 16), .fail, none, []⟩,
  ⟨(some 2), .mv (.t 16), none, []⟩,
  ⟨(some 3), .mv (.c (.int .i64 0)), none, []⟩])
  .ret)
 (.seq (.reg false [⟨(some 18), .bin .eql (.t 11) (.c (.int .u8 3)), none, []⟩,
  ⟨(some 17), .mv (.t 18), none, []⟩])
  (.cond (.t 17)
  (.seq (.reg false [⟨(some 19), .fieldAddr 3 (.t 1), none, []⟩,
   ⟨(some 20), .load 8 true (.t 19), none, []⟩,
   ⟨(some 21), .fail, none, []⟩,
   ⟨(some 22), .bin .add (.c (.str [91])) (.t 21), none, []⟩,
   ⟨(some 23), .bin .add (.t 22) (.c (.str [93])), none, []⟩,
   ⟨(some 2), .mv (.t 23), none, []⟩,
   ⟨(some 3), .mv (.c (.int .i64 0)), none, []⟩])
   .ret)
  .skip))))))
 (.seq (.reg false [⟨(some 24), .fieldAddr 1 (.t 1), none, []⟩,
 ⟨(some 25), .load 1 false (.t 24), none, []⟩,
 ⟨(some 2), .mv (.t 25), none, []⟩,
 ⟨(some 3), .mv (.c (.int .i64 0)), none, []⟩])
 .ret))))
/-- bastion/host.bad -/
def F52 : LFunc := .code 2 19 [.t 4]
 (.seq (.reg false [⟨(some 4), .mv (.c (.bool false)), none, []⟩])
 (.seq (.seq (.reg false [⟨(some 7), .mv (.t 0), none, []⟩,
 ⟨(some 8), .call (.fn 180) [(.t 7), (.c (.str [0, 9, 10, 13, 32, 35, 47, 58, 60, 62, 63, 64, 91, 92, 93, 94, 124]))], none, []⟩])
 (.cond (.t 8)
 (.seq (.reg false [⟨(some 4), .mv (.c (.bool true)), none, []⟩])
  .ret)
 .skip))
 (.seq (.seq (.reg false [⟨(some 9), .mv (.t 0), none, []⟩,
 ⟨(some 10), .rangeStr (.t 9), none, []⟩])
 (.block 0 (.loop (.seq (.reg false [⟨(some 11), .nextStr (.t 10), none, []⟩,
 ⟨(some 12), .extract 0 (.t 11), none, []⟩])
 (.seq (.cond (.t 12)
 .skip
 (.exit 0))
 (.block 1 (.seq (.reg false [⟨(some 13), .extract 2 (.t 11), none, []⟩,
 ⟨(some 6), .mv (.t 13), none, []⟩])
 (.seq (.reg false [⟨(some 14), .mv (.t 1), none, []⟩,
 ⟨(some 15), .mv (.t 14), none, []⟩,
 ⟨(some 16), .mv (.t 6), (some (15, true)), []⟩,
 ⟨(some 17), .call (.fn 53) [(.t 16)], (some (15, true)), []⟩,
 ⟨(some 18), .pick (.t 15) (.t 17) (.c (.bool false)), none, []⟩])
 (.cond (.t 18)
 (.seq (.reg false [⟨(some 4), .mv (.c (.bool true)), none, []⟩])
  .ret)
 .skip)))))))))
 (.seq (.reg false [⟨(some 4), .mv (.c (.bool false)), none, []⟩])
 .ret))))
/-- bastion/host.control -/
def F53 : LFunc := .code 1 13 [.t 2]
 (.seq (.reg false [⟨(some 2), .mv (.c (.bool false)), none, []⟩])
 (.seq (.reg false [⟨(some 3), .mv (.t 0), none, []⟩,
 ⟨(some 4), .bin .lss (.t 3) (.c (.int .i32 32)), none, []⟩,
 ⟨(some 5), .mv (.t 4), none, []⟩,
 ⟨(some 6), .mv (.t 0), (some (5, false)), []⟩,
 ⟨(some 7), .bin .eql (.t 6) (.c (.int .i32 37)), (some (5, false)), []⟩,
 ⟨(some 8), .pick (.t 5) (.c (.bool true)) (.t 7), none, []⟩,
 ⟨(some 9), .mv (.t 8), none, []⟩,
 ⟨(some 10), .mv (.t 0), (some (9, false)), []⟩,
 ⟨(some 11), .bin .eql (.t 10) (.c (.int .i32 127)), (some (9, false)), []⟩,
 ⟨(some 12), .pick (.t 9) (.c (.bool true)) (.t 11), none, []⟩,
 ⟨(some 2), .mv (.t 12), none, []⟩])
 .ret))
/-- bastion/host.domain -/
def F54 : LFunc := .code 2 53 [.cell 4 11 true, .t 5]
 (.seq (.reg false [⟨(some 2), .box 0 (.t 0), none, []⟩,
 ⟨(some 4), .alloc [.int .u8 0, .str [], .int .u32 0, .int .u16 0, .int .u16 0, .int .u16 0, .int .u16 0, .int .u16 0, .int .u16 0, .int .u16 0, .int .u16 0] 0, none, []⟩,
 ⟨(some 5), .mv (.c (.int .i64 0)), none, []⟩])
 (.seq (.reg true [⟨(some 11), .load 5 true (.t 2), none, []⟩,
 ⟨(some 12), .mv (.t 1), none, []⟩,
 ⟨(some 13), .call (.fn 79) [(.t 12)], none, [1]⟩,
 ⟨(some 14), .call (.fn 135) [(.t 13)], none, [2, 2]⟩,
 ⟨(some 15), .build [.bool false, .bool false, .bool false, .bool false, .bool false] [(1, 1, (.c (.bool true))), (2, 1, (.c (.bool true)))], none, []⟩,
 ⟨(some 16), .call (.fn 56) [(.t 11), (.t 14), (.t 15)], none, [0, 3, 4, 3]⟩,
 ⟨(some 10), .mv (.t 16), none, [5]⟩,
 ⟨(some 17), .extract 0 (.t 10), none, [6]⟩,
 ⟨(some 18), .extract 1 (.t 10), none, [6]⟩,
 ⟨(some 6), .mv (.t 17), none, [7, 5, 0, 1, 2, 3, 4, 5, 6, 7]⟩,
 ⟨(some 7), .mv (.t 18), none, [8, 9, 0, 1, 2, 3, 4, 5, 6, 7, 8, 9]⟩])
 (.seq (.block 0 (.seq (.reg false [⟨(some 20), .mv (.t 7), none, []⟩,
 ⟨(some 21), .bin .neq (.t 20) (.c (.int .i64 0)), none, []⟩,
 ⟨(some 19), .mv (.t 21), none, []⟩])
 (.cond (.t 19)
 (.seq (.reg false [⟨(some 22), .build [.int .u8 0, .str [], .int .u32 0, .int .u16 0, .int .u16 0, .int .u16 0, .int .u16 0, .int .u16 0, .int .u16 0, .int .u16 0, .int .u16 0] [], none, []⟩,
  ⟨(some 23), .mv (.t 7), none, []⟩,
  ⟨none, .store 11 (.t 4) (.t 22), none, []⟩,
  ⟨(some 5), .mv (.t 23), none, []⟩])
  .ret)
 (.seq (.reg false [⟨(some 25), .mv (.t 6), none, []⟩,
  ⟨(some 26), .bin .eql (.t 25) (.c (.str [])), none, []⟩,
  ⟨(some 27), .mv (.t 26), none, []⟩,
  ⟨(some 28), .mv (.t 6), (some (27, false)), []⟩,
  ⟨(some 29), .call (.fn 52) [(.t 28), (.c (.bool true))], (some (27, false)), []⟩,
  ⟨(some 30), .pick (.t 27) (.c (.bool true)) (.t 29), none, []⟩,
  ⟨(some 24), .mv (.t 30), none, []⟩])
  (.cond (.t 24)
  (.seq (.reg false [⟨(some 31), .build [.int .u8 0, .str [], .int .u32 0, .int .u16 0, .int .u16 0, .int .u16 0, .int .u16 0, .int .u16 0, .int .u16 0, .int .u16 0, .int .u16 0] [], none, []⟩,
   ⟨none, .store 11 (.t 4) (.t 31), none, []⟩,
   ⟨(some 5), .mv (.c (.int .i64 18)), none, []⟩])
   .ret)
  (.seq (.reg false [⟨(some 33), .mv (.t 6), none, []⟩,
   ⟨(some 34), .call (.fn 40) [(.t 33)], none, []⟩,
   ⟨(some 32), .mv (.t 34), none, []⟩])
   (.cond (.t 32)
   (.seq (.reg false [⟨(some 36), .mv (.t 6), none, []⟩,
    ⟨(some 37), .fail, none, []⟩,
    ⟨(some 35), .mv (.t 37), none, []⟩,
    ⟨(some 38), .extract 0 (.t 35), none, []⟩,
    ⟨(some 39), .extract 1 (.t 35), none, []⟩,
    ⟨(some 8), .mv (.t 38), none, []⟩,
    ⟨(some 9), .mv (.t 39), none, []⟩])
    (.seq (.seq (.reg false [⟨(some 40), .mv (.t 9), none, []⟩,
    ⟨(some 41), .bin .neq (.t 40) (.c (.int .i64 0)), none, []⟩])
    (.cond (.t 41)
    (.seq (.reg false [⟨(some 42), .build [.int .u8 0, .str [], .int .u32 0, .int .u16 0, .int .u16 0, .int .u16 0, .int .u16 0, .int .u16 0, .int .u16 0, .int .u16 0, .int .u16 0] [], none, []⟩,
     ⟨(some 43), .mv (.t 9), none, []⟩,
     ⟨none, .store 11 (.t 4) (.t 42), none, []⟩,
     ⟨(some 5), .mv (.t 43), none, []⟩])
     .ret)
    .skip))
    (.seq (.reg false [⟨(some 44), .mv (.t 8), none, []⟩,
    ⟨(some 45), .build [.int .u8 0, .str [], .int .u32 0, .int .u16 0, .int .u16 0, .int .u16 0, .int .u16 0, .int .u16 0, .int .u16 0, .int .u16 0, .int .u16 0] [(0, 1, (.c (.int .u8 2))), (2, 1, (.t 44))], none, []⟩,
    ⟨none, .store 11 (.t 4) (.t 45), none, []⟩,
    ⟨(some 5), .mv (.c (.int .i64 0)), none, []⟩])
    .ret)))
   (.seq (.reg false [⟨(some 47), .mv (.t 6), none, []⟩,
    ⟨(some 48), .call (.builtin .lenStr) [(.t 47)], none, []⟩,
    ⟨(some 49), .bin .gtr (.t 48) (.c (.int .i64 4096)), none, []⟩,
    ⟨(some 46), .mv (.t 49), none, []⟩])
    (.cond (.t 46)
    (.seq (.reg false [⟨(some 50), .build [.int .u8 0, .str [], .int .u32 0, .int .u16 0, .int .u16 0, .int .u16 0, .int .u16 0, .int .u16 0, .int .u16 0, .int .u16 0, .int .u16 0] [], none, []⟩,
     ⟨none, .store 11 (.t 4) (.t 50), none, []⟩,
     ⟨(some 5), .mv (.c (.int .i64 4)), none, []⟩])
     .ret)
    .skip)))))))))
 (.seq (.reg false [⟨(some 51), .mv (.t 6), none, []⟩,
 ⟨(some 52), .build [.int .u8 0, .str [], .int .u32 0, .int .u16 0, .int .u16 0, .int .u16 0, .int .u16 0, .int .u16 0, .int .u16 0, .int .u16 0, .int .u16 0] [(0, 1, (.c (.int .u8 1))), (1, 1, (.t 51))], none, []⟩,
 ⟨none, .store 11 (.t 4) (.t 52), none, []⟩,
 ⟨(some 5), .mv (.c (.int .i64 0)), none, []⟩])
 .ret))))
/-- bastion/idna.Map -/
def F55 : LFunc := .code 2 53 [.t 4, .t 5]
 (.seq (.reg false [⟨(some 2), .box 0 (.t 0), none, []⟩,
 ⟨(some 4), .mv (.c (.nilsl)), none, []⟩,
 ⟨(some 5), .mv (.c (.int .i64 0)), none, []⟩])
 (.seq (.seq (.reg false [⟨(some 12), .mv (.t 1), none, []⟩,
 ⟨(some 13), .call (.builtin .lenStr) [(.t 12)], none, []⟩,
 ⟨(some 14), .bin .gtr (.t 13) (.c (.int .i64 4096)), none, []⟩])
 (.cond (.t 14)
 (.seq (.reg false [⟨(some 4), .mv (.c (.nilsl)), none, []⟩,
  ⟨(some 5), .mv (.c (.int .i64 4)), none, []⟩])
  .ret)
 .skip))
 (.seq (.seq (.reg false [⟨(some 15), .load 5 true (.t 2), none, []⟩,
 ⟨(some 16), .call (.fn 85) [(.t 15)], none, []⟩,
 ⟨(some 6), .mv (.t 16), none, []⟩])
 (.seq (.reg false [⟨(some 17), .mv (.t 6), none, []⟩,
 ⟨(some 18), .bin .neq (.t 17) (.c (.int .i64 0)), none, []⟩])
 (.cond (.t 18)
 (.seq (.reg false [⟨(some 19), .mv (.t 6), none, []⟩,
  ⟨(some 4), .mv (.c (.nilsl)), none, []⟩,
  ⟨(some 5), .mv (.t 19), none, []⟩])
  .ret)
 .skip)))
 (.seq (.reg false [⟨(some 7), .mv (.c (.nilsl)), none, []⟩])
 (.seq (.seq (.reg false [⟨(some 20), .mv (.t 1), none, []⟩,
 ⟨(some 21), .call (.fn 133) [(.t 20)], none, []⟩,
 ⟨(some 22), .call (.builtin .lenSl) [(.t 21)], none, []⟩,
 ⟨(some 23), .mv (.c (.int .i64 0)), none, []⟩])
 (.block 0 (.loop (.seq (.reg false [⟨(some 24), .bin .lss (.t 23) (.t 22), none, []⟩])
 (.seq (.cond (.t 24)
 .skip
 (.exit 0))
 (.seq (.block 1 (.seq (.reg false [⟨(some 25), .idxAddr 1 (.t 21) (.t 23), none, []⟩,
 ⟨(some 26), .load 1 false (.t 25), none, []⟩,
 ⟨(some 9), .mv (.t 26), none, []⟩])
 (.seq (.reg false [⟨(some 28), .load 5 true (.t 2), none, []⟩,
 ⟨(some 29), .mv (.t 9), none, []⟩,
 ⟨(some 30), .call (.fn 93) [(.t 28), (.t 29)], none, []⟩,
 ⟨(some 27), .mv (.t 30), none, []⟩,
 ⟨(some 31), .extract 0 (.t 27), none, []⟩,
 ⟨(some 32), .extract 1 (.t 27), none, []⟩,
 ⟨(some 10), .mv (.t 31), none, []⟩,
 ⟨(some 11), .mv (.t 32), none, []⟩])
 (.seq (.reg false [⟨(some 33), .mv (.t 10), none, []⟩])
 (.block 2 (.seq (.reg false [⟨(some 35), .bin .eql (.t 33) (.c (.int .u8 0)), none, []⟩,
 ⟨(some 34), .mv (.t 35), none, []⟩])
 (.cond (.t 34)
 (.reg false [⟨(some 36), .mv (.t 7), none, []⟩,
  ⟨(some 37), .mv (.t 9), none, []⟩,
  ⟨(some 38), .lit [.int .i32 0] 1 1 [(0, 1, (.t 37))], none, []⟩,
  ⟨(some 39), .call (.builtin (.append 1 4 0 [.int .i32 0])) [(.t 36), (.t 38)], none, []⟩,
  ⟨(some 7), .mv (.t 39), none, []⟩])
 (.seq (.reg false [⟨(some 41), .bin .eql (.t 33) (.c (.int .u8 2)), none, []⟩,
  ⟨(some 40), .mv (.t 41), none, []⟩])
  (.cond (.t 40)
  (.reg false [⟨(some 42), .mv (.t 7), none, []⟩,
   ⟨(some 43), .mv (.t 11), none, []⟩,
   ⟨(some 44), .call (.builtin (.append 1 4 0 [.int .i32 0])) [(.t 42), (.t 43)], none, []⟩,
   ⟨(some 7), .mv (.t 44), none, []⟩])
  (.seq (.reg false [⟨(some 46), .bin .eql (.t 33) (.c (.int .u8 3)), none, []⟩,
   ⟨(some 45), .mv (.t 46), none, []⟩])
   (.cond (.t 45)
   (.seq (.reg false [⟨(some 4), .mv (.c (.nilsl)), none, []⟩,
    ⟨(some 5), .mv (.c (.int .i64 11)), none, []⟩])
    .ret)
   .skip)))))))))))
 (.reg false [⟨(some 47), .bin .add (.t 23) (.c (.int .i64 1)), none, []⟩,
 ⟨(some 23), .mv (.t 47), none, []⟩])))))))
 (.seq (.reg false [⟨(some 48), .load 5 true (.t 2), none, []⟩,
 ⟨(some 49), .mv (.t 7), none, []⟩,
 ⟨(some 50), .call (.fn 65) [(.t 48), (.t 49)], none, []⟩,
 ⟨(some 51), .extract 0 (.t 50), none, []⟩,
 ⟨(some 52), .extract 1 (.t 50), none, []⟩,
 ⟨(some 4), .mv (.t 51), none, []⟩,
 ⟨(some 5), .mv (.t 52), none, []⟩])
 .ret))))))
/-- bastion/idna.ToASCII -/
def F56 : LFunc := .code 3 65 [.t 6, .t 7]
 (.seq (.reg false [⟨(some 3), .box 0 (.t 0), none, []⟩,
 ⟨(some 5), .box 0 (.t 2), none, []⟩,
 ⟨(some 6), .mv (.c (.str [])), none, []⟩,
 ⟨(some 7), .mv (.c (.int .i64 0)), none, []⟩])
 (.seq (.reg false [⟨(some 18), .load 5 true (.t 3), none, []⟩,
 ⟨(some 19), .mv (.t 1), none, []⟩,
 ⟨(some 20), .load 5 true (.t 5), none, []⟩,
 ⟨(some 21), .call (.fn 61) [(.t 18), (.t 19), (.t 20)], none, []⟩,
 ⟨(some 17), .mv (.t 21), none, []⟩,
 ⟨(some 22), .extract 0 (.t 17), none, []⟩,
 ⟨(some 23), .extract 1 (.t 17), none, []⟩,
 ⟨(some 8), .mv (.t 22), none, []⟩,
 ⟨(some 9), .mv (.t 23), none, []⟩])
 (.seq (.seq (.reg false [⟨(some 24), .mv (.t 9), none, []⟩,
 ⟨(some 25), .bin .neq (.t 24) (.c (.int .i64 0)), none, []⟩])
 (.cond (.t 25)
 (.seq (.reg false [⟨(some 26), .mv (.t 9), none, []⟩,
  ⟨(some 6), .mv (.c (.str [])), none, []⟩,
  ⟨(some 7), .mv (.t 26), none, []⟩])
  .ret)
 .skip))
 (.seq (.reg false [⟨(some 10), .mv (.c (.nilsl)), none, []⟩])
 (.seq (.seq (.reg false [⟨(some 27), .mv (.t 8), none, []⟩,
 ⟨(some 28), .call (.builtin .lenSl) [(.t 27)], none, []⟩,
 ⟨(some 29), .mv (.c (.int .i64 0)), none, []⟩])
 (.block 0 (.loop (.seq (.reg false [⟨(some 30), .bin .lss (.t 29) (.t 28), none, []⟩])
 (.seq (.cond (.t 30)
 .skip
 (.exit 0))
 (.seq (.block 1 (.seq (.reg false [⟨(some 31), .idxAddr 11 (.t 27) (.t 29), none, []⟩,
 ⟨(some 32), .load 11 true (.t 31), none, []⟩,
 ⟨(some 12), .alloc [.nilsl, .nilsl, .nilsl, .nilsl, .nilsl, .bool false, .bool false, .bool false, .bool false, .bool false, .nilsl] 0, none, []⟩,
 ⟨none, .store 11 (.t 12) (.t 32), none, []⟩])
 (.seq (.reg false [⟨(some 33), .fieldAddr 10 (.t 12), none, []⟩,
 ⟨(some 34), .load 1 false (.t 33), none, []⟩,
 ⟨(some 35), .call (.fn 134) [(.t 34)], none, []⟩,
 ⟨(some 13), .mv (.t 35), none, []⟩])
 (.seq (.seq (.reg false [⟨(some 36), .fieldAddr 10 (.t 12), none, []⟩,
 ⟨(some 37), .load 1 false (.t 36), none, []⟩,
 ⟨(some 38), .call (.fn 62) [(.t 37)], none, []⟩,
 ⟨(some 39), .un .not (.t 38), none, []⟩])
 (.cond (.t 39)
 (.seq (.reg false [⟨(some 41), .fieldAddr 10 (.t 12), none, []⟩,
  ⟨(some 42), .load 1 false (.t 41), none, []⟩,
  ⟨(some 43), .fail, none, []⟩,
  ⟨(some 40), .mv (.t 43), none, []⟩,
  ⟨(some 44), .extract 0 (.t 40), none, []⟩,
  ⟨(some 45), .extract 1 (.t 40), none, []⟩,
  ⟨(some 14), .mv (.t 44), none, []⟩,
  ⟨(some 15), .mv (.t 45), none, []⟩])
  (.seq (.seq (.reg false [⟨(some 46), .mv (.t 15), none, []⟩,
  ⟨(some 47), .bin .neq (.t 46) (.c (.int .i64 0)), none, []⟩])
  (.cond (.t 47)
  (.seq (.reg false [⟨(some 48), .mv (.t 15), none, []⟩,
   ⟨(some 6), .mv (.c (.str [])), none, []⟩,
   ⟨(some 7), .mv (.t 48), none, []⟩])
   .ret)
  .skip))
  (.reg false [⟨(some 49), .mv (.t 14), none, []⟩,
  ⟨(some 50), .bin .add (.c (.str [120, 110, 45, 45])) (.t 49), none, []⟩,
  ⟨(some 13), .mv (.t 50), none, []⟩])))
 .skip))
 (.reg false [⟨(some 51), .mv (.t 10), none, []⟩,
 ⟨(some 52), .mv (.t 13), none, []⟩,
 ⟨(some 53), .lit [.str []] 1 1 [(0, 1, (.t 52))], none, []⟩,
 ⟨(some 54), .call (.builtin (.append 1 16 0 [.str []])) [(.t 51), (.t 53)], none, []⟩,
 ⟨(some 10), .mv (.t 54), none, []⟩])))))
 (.reg false [⟨(some 55), .bin .add (.t 29) (.c (.int .i64 1)), none, []⟩,
 ⟨(some 29), .mv (.t 55), none, []⟩])))))))
 (.seq (.seq (.reg false [⟨(some 56), .fieldAddr 4 (.t 5), none, []⟩,
 ⟨(some 57), .load 1 false (.t 56), none, []⟩])
 (.cond (.t 57)
 (.seq (.reg false [⟨(some 58), .mv (.t 10), none, []⟩,
  ⟨(some 59), .fail, none, []⟩,
  ⟨(some 16), .mv (.t 59), none, []⟩])
  (.seq (.reg false [⟨(some 60), .mv (.t 16), none, []⟩,
  ⟨(some 61), .bin .neq (.t 60) (.c (.int .i64 0)), none, []⟩])
  (.cond (.t 61)
  (.seq (.reg false [⟨(some 62), .mv (.t 16), none, []⟩,
   ⟨(some 6), .mv (.c (.str [])), none, []⟩,
   ⟨(some 7), .mv (.t 62), none, []⟩])
   .ret)
  .skip)))
 .skip))
 (.seq (.reg false [⟨(some 63), .mv (.t 10), none, []⟩,
 ⟨(some 64), .call (.fn 192) [(.t 63), (.c (.str [46]))], none, []⟩,
 ⟨(some 6), .mv (.t 64), none, []⟩,
 ⟨(some 7), .mv (.c (.int .i64 0)), none, []⟩])
 .ret)))))))
/-- bastion/idna.ace -/
def F57 : LFunc := .code 1 12 [.t 2]
 (.seq (.reg false [⟨(some 2), .mv (.c (.bool false)), none, []⟩])
 (.seq (.reg false [⟨(some 3), .mv (.t 0), none, []⟩,
 ⟨(some 4), .call (.builtin .lenSl) [(.t 3)], none, []⟩,
 ⟨(some 5), .bin .geq (.t 4) (.c (.int .i64 4)), none, []⟩,
 ⟨(some 6), .mv (.t 5), none, []⟩,
 ⟨(some 7), .mv (.t 0), (some (6, true)), []⟩,
 ⟨(some 8), .slSl 1 (.t 7) none (some (.c (.int .i64 4))) none, (some (6, true)), []⟩,
 ⟨(some 9), .conv .ofRunes (.t 8), (some (6, true)), []⟩,
 ⟨(some 10), .bin .eql (.t 9) (.c (.str [120, 110, 45, 45])), (some (6, true)), []⟩,
 ⟨(some 11), .pick (.t 6) (.t 10) (.c (.bool false)), none, []⟩,
 ⟨(some 2), .mv (.t 11), none, []⟩])
 .ret))
/-- bastion/idna.anyOf -/
def F58 : LFunc := .code 2 8 [.t 4]
 (.seq (.reg false [⟨(some 3), .box 0 (.t 1), none, []⟩,
 ⟨(some 4), .mv (.c (.bool false)), none, []⟩])
 (.seq (.reg false [⟨(some 5), .mv (.t 0), none, []⟩,
 ⟨(some 6), .mkFunc 59 [] [(.t 3)], none, []⟩,
 ⟨(some 7), .call (.fn 156) [(.t 5), (.t 6)], none, []⟩,
 ⟨(some 4), .mv (.t 7), none, []⟩])
 .ret))
/-- bastion/idna.anyOf$1 -/
def F59 : LFunc := .code 2 7 [.t 3]
 (.seq (.reg false [⟨(some 3), .mv (.c (.bool false)), none, []⟩])
 (.seq (.reg false [⟨(some 4), .load 1 false (.t 1), none, []⟩,
 ⟨(some 5), .mv (.t 0), none, []⟩,
 ⟨(some 6), .call (.fn 161) [(.t 4), (.t 5)], none, []⟩,
 ⟨(some 3), .mv (.t 6), none, []⟩])
 .ret))
/-- bastion/idna.decoded -/
def F60 : LFunc := .code 1 28 [.t 2, .t 3]
 (.seq (.reg false [⟨(some 2), .mv (.c (.nilsl)), none, []⟩,
 ⟨(some 3), .mv (.c (.int .i64 0)), none, []⟩])
 (.seq (.seq (.reg false [⟨(some 6), .mv (.t 0), none, []⟩,
 ⟨(some 7), .call (.fn 57) [(.t 6)], none, []⟩,
 ⟨(some 8), .un .not (.t 7), none, []⟩])
 (.cond (.t 8)
 (.seq (.reg false [⟨(some 9), .mv (.t 0), none, []⟩,
  ⟨(some 2), .mv (.t 9), none, []⟩,
  ⟨(some 3), .mv (.c (.int .i64 0)), none, []⟩])
  .ret)
 .skip))
 (.seq (.seq (.reg false [⟨(some 10), .mv (.t 0), none, []⟩,
 ⟨(some 11), .call (.fn 62) [(.t 10)], none, []⟩,
 ⟨(some 12), .un .not (.t 11), none, []⟩])
 (.cond (.t 12)
 (.seq (.reg false [⟨(some 2), .mv (.c (.nilsl)), none, []⟩,
  ⟨(some 3), .mv (.c (.int .i64 9)), none, []⟩])
  .ret)
 .skip))
 (.seq (.reg false [⟨(some 14), .mv (.t 0), none, []⟩,
 ⟨(some 15), .slSl 1 (.t 14) (some (.c (.int .i64 4))) none none, none, []⟩,
 ⟨(some 16), .conv .ofRunes (.t 15), none, []⟩,
 ⟨(some 17), .fail, none, []⟩,
 ⟨(some 13), .mv (.t 17), none, []⟩,
 ⟨(some 18), .extract 0 (.t 13), none, []⟩,
 ⟨(some 19), .extract 1 (.t 13), none, []⟩,
 ⟨(some 4), .mv (.t 18), none, []⟩,
 ⟨(some 5), .mv (.t 19), none, []⟩])
 (.seq (.seq (.reg false [⟨(some 20), .mv (.t 5), none, []⟩,
 ⟨(some 21), .bin .eql (.t 20) (.c (.int .i64 0)), none, []⟩,
 ⟨(some 22), .mv (.t 21), none, []⟩,
 ⟨(some 23), .mv (.t 4), (some (22, true)), []⟩,
 ⟨(some 24), .call (.fn 62) [(.t 23)], (some (22, true)), []⟩,
 ⟨(some 25), .pick (.t 22) (.t 24) (.c (.bool false)), none, []⟩])
 (.cond (.t 25)
 (.reg false [⟨(some 5), .mv (.c (.int .i64 9)), none, []⟩])
 .skip))
 (.seq (.reg false [⟨(some 26), .mv (.t 4), none, []⟩,
 ⟨(some 27), .mv (.t 5), none, []⟩,
 ⟨(some 2), .mv (.t 26), none, []⟩,
 ⟨(some 3), .mv (.t 27), none, []⟩])
 .ret))))))
/-- bastion/idna.looked -/
def F61 : LFunc := .code 3 71 [.t 6, .t 7]
 (.seq (.reg false [⟨(some 3), .box 0 (.t 0), none, []⟩,
 ⟨(some 5), .box 0 (.t 2), none, []⟩,
 ⟨(some 6), .mv (.c (.nilsl)), none, []⟩,
 ⟨(some 7), .mv (.c (.int .i64 0)), none, []⟩])
 (.seq (.reg false [⟨(some 18), .load 5 true (.t 3), none, []⟩,
 ⟨(some 19), .mv (.t 1), none, []⟩,
 ⟨(some 20), .call (.fn 55) [(.t 18), (.t 19)], none, []⟩,
 ⟨(some 17), .mv (.t 20), none, []⟩,
 ⟨(some 21), .extract 0 (.t 17), none, []⟩,
 ⟨(some 22), .extract 1 (.t 17), none, []⟩,
 ⟨(some 8), .mv (.t 21), none, []⟩,
 ⟨(some 9), .mv (.t 22), none, []⟩])
 (.seq (.seq (.reg false [⟨(some 23), .mv (.t 9), none, []⟩,
 ⟨(some 24), .bin .neq (.t 23) (.c (.int .i64 0)), none, []⟩])
 (.cond (.t 24)
 (.seq (.reg false [⟨(some 25), .mv (.t 9), none, []⟩,
  ⟨(some 6), .mv (.c (.nilsl)), none, []⟩,
  ⟨(some 7), .mv (.t 25), none, []⟩])
  .ret)
 .skip))
 (.seq (.reg false [⟨(some 10), .mv (.c (.nilsl)), none, []⟩])
 (.seq (.seq (.reg false [⟨(some 11), .mv (.c (.bool true)), none, []⟩])
 (.block 0 (.loop (.seq (.seq (.reg false [⟨(some 26), .mv (.t 11), none, []⟩])
 (.cond (.t 26)
 .skip
 (.exit 0)))
 (.block 1 (.seq (.reg false [⟨(some 27), .mv (.t 8), none, []⟩,
 ⟨(some 28), .call (.fn 175) [(.t 27), (.c (.int .i32 46))], none, []⟩,
 ⟨(some 12), .mv (.t 28), none, []⟩])
 (.seq (.reg false [⟨(some 29), .mv (.t 12), none, []⟩,
 ⟨(some 30), .bin .geq (.t 29) (.c (.int .i64 0)), none, []⟩,
 ⟨(some 11), .mv (.t 30), none, []⟩])
 (.seq (.reg false [⟨(some 31), .mv (.t 8), none, []⟩,
 ⟨(some 13), .mv (.t 31), none, []⟩])
 (.seq (.seq (.reg false [⟨(some 32), .mv (.t 11), none, []⟩])
 (.cond (.t 32)
 (.reg true [⟨(some 33), .mv (.t 8), none, []⟩,
  ⟨(some 34), .mv (.t 12), none, []⟩,
  ⟨(some 35), .slSl 1 (.t 33) none (some (.t 34)) none, none, [0, 1]⟩,
  ⟨(some 36), .mv (.t 8), none, []⟩,
  ⟨(some 37), .mv (.t 12), none, []⟩,
  ⟨(some 38), .bin .add (.t 37) (.c (.int .i64 1)), none, [4]⟩,
  ⟨(some 39), .slSl 1 (.t 36) (some (.t 38)) none none, none, [3, 5]⟩,
  ⟨(some 13), .mv (.t 35), none, [2, 0, 1, 2]⟩,
  ⟨(some 8), .mv (.t 39), none, [6, 7, 0, 1, 2, 3, 4, 5, 6, 7]⟩])
 .skip))
 (.seq (.reg false [⟨(some 41), .mv (.t 13), none, []⟩,
 ⟨(some 42), .call (.fn 60) [(.t 41)], none, []⟩,
 ⟨(some 40), .mv (.t 42), none, []⟩,
 ⟨(some 43), .extract 0 (.t 40), none, []⟩,
 ⟨(some 44), .extract 1 (.t 40), none, []⟩,
 ⟨(some 14), .mv (.t 43), none, []⟩,
 ⟨(some 15), .mv (.t 44), none, []⟩])
 (.seq (.reg false [⟨(some 45), .load 5 true (.t 3), none, []⟩,
 ⟨(some 46), .load 5 true (.t 5), none, []⟩,
 ⟨(some 47), .mv (.t 14), none, []⟩,
 ⟨(some 48), .build [.nilsl, .nilsl, .nilsl, .nilsl, .nilsl, .bool false, .bool false, .bool false, .bool false, .bool false, .nilsl] [(0, 5, (.t 45)), (5, 5, (.t 46)), (10, 1, (.t 47))], none, []⟩,
 ⟨(some 16), .alloc [.nilsl, .nilsl, .nilsl, .nilsl, .nilsl, .bool false, .bool false, .bool false, .bool false, .bool false, .nilsl] 0, none, []⟩,
 ⟨none, .store 11 (.t 16) (.t 48), none, []⟩])
 (.seq (.seq (.reg false [⟨(some 49), .mv (.t 15), none, []⟩,
 ⟨(some 50), .bin .eql (.t 49) (.c (.int .i64 0)), none, []⟩])
 (.cond (.t 50)
 (.reg false [⟨(some 51), .load 11 true (.t 16), none, []⟩,
  ⟨(some 52), .call (.fn 39) [(.t 51)], none, []⟩,
  ⟨(some 15), .mv (.t 52), none, []⟩])
 .skip))
 (.seq (.seq (.reg false [⟨(some 53), .mv (.t 15), none, []⟩,
 ⟨(some 54), .bin .neq (.t 53) (.c (.int .i64 0)), none, []⟩])
 (.cond (.t 54)
 (.seq (.reg false [⟨(some 55), .mv (.t 15), none, []⟩,
  ⟨(some 6), .mv (.c (.nilsl)), none, []⟩,
  ⟨(some 7), .mv (.t 55), none, []⟩])
  .ret)
 .skip))
 (.reg false [⟨(some 56), .mv (.t 10), none, []⟩,
 ⟨(some 57), .load 11 true (.t 16), none, []⟩,
 ⟨(some 58), .lit [.nilsl, .nilsl, .nilsl, .nilsl, .nilsl, .bool false, .bool false, .bool false, .bool false, .bool false, .nilsl] 1 11 [(0, 11, (.t 57))], none, []⟩,
 ⟨(some 59), .call (.builtin (.append 11 152 0 [.nilsl, .nilsl, .nilsl, .nilsl, .nilsl, .bool false, .bool false, .bool false, .bool false, .bool false, .nilsl])) [(.t 56), (.t 58)], none, []⟩,
 ⟨(some 10), .mv (.t 59), none, []⟩]))))))))))))))
 (.seq (.seq (.reg false [⟨(some 60), .fieldAddr 1 (.t 5), none, []⟩,
 ⟨(some 61), .load 1 false (.t 60), none, []⟩,
 ⟨(some 62), .mv (.t 61), none, []⟩,
 ⟨(some 63), .mv (.t 10), (some (62, true)), []⟩,
 ⟨(some 64), .call (.fn 157) [(.t 63), (.f 32)], (some (62, true)), []⟩,
 ⟨(some 65), .pick (.t 62) (.t 64) (.c (.bool false)), none, []⟩,
 ⟨(some 66), .mv (.t 65), none, []⟩,
 ⟨(some 67), .mv (.t 10), (some (66, true)), []⟩,
 ⟨(some 68), .call (.fn 157) [(.t 67), (.f 217)], (some (66, true)), []⟩,
 ⟨(some 69), .pick (.t 66) (.t 68) (.c (.bool false)), none, []⟩])
 (.cond (.t 69)
 (.seq (.reg false [⟨(some 6), .mv (.c (.nilsl)), none, []⟩,
  ⟨(some 7), .mv (.c (.int .i64 14)), none, []⟩])
  .ret)
 .skip))
 (.seq (.reg false [⟨(some 70), .mv (.t 10), none, []⟩,
 ⟨(some 6), .mv (.t 70), none, []⟩,
 ⟨(some 7), .mv (.c (.int .i64 0)), none, []⟩])
 .ret)))))))
/-- bastion/idna.plain -/
def F62 : LFunc := .code 1 6 [.t 2]
 (.seq (.reg false [⟨(some 2), .mv (.c (.bool false)), none, []⟩])
 (.seq (.reg false [⟨(some 3), .mv (.t 0), none, []⟩,
 ⟨(some 4), .call (.fn 159) [(.t 3), (.f 63)], none, []⟩,
 ⟨(some 5), .un .not (.t 4), none, []⟩,
 ⟨(some 2), .mv (.t 5), none, []⟩])
 .ret))
/-- bastion/idna.plain$1 -/
def F63 : LFunc := .code 1 5 [.t 2]
 (.seq (.reg false [⟨(some 2), .mv (.c (.bool false)), none, []⟩])
 (.seq (.reg false [⟨(some 3), .mv (.t 0), none, []⟩,
 ⟨(some 4), .bin .gtr (.t 3) (.c (.int .i32 127)), none, []⟩,
 ⟨(some 2), .mv (.t 4), none, []⟩])
 .ret))
/-- bastion/nfc.Apart -/
def F64 : LFunc := .code 2 39 [.t 4, .t 5]
 (.seq (.reg false [⟨(some 2), .box 0 (.t 0), none, []⟩,
 ⟨(some 4), .mv (.c (.nilsl)), none, []⟩,
 ⟨(some 5), .mv (.c (.int .i64 0)), none, []⟩])
 (.seq (.seq (.reg false [⟨(some 10), .load 5 true (.t 2), none, []⟩,
 ⟨(some 11), .call (.fn 85) [(.t 10)], none, []⟩,
 ⟨(some 6), .mv (.t 11), none, []⟩])
 (.seq (.reg false [⟨(some 12), .mv (.t 6), none, []⟩,
 ⟨(some 13), .bin .neq (.t 12) (.c (.int .i64 0)), none, []⟩])
 (.cond (.t 13)
 (.seq (.reg false [⟨(some 14), .mv (.t 6), none, []⟩,
  ⟨(some 4), .mv (.c (.nilsl)), none, []⟩,
  ⟨(some 5), .mv (.t 14), none, []⟩])
  .ret)
 .skip)))
 (.seq (.seq (.reg false [⟨(some 15), .mv (.t 1), none, []⟩,
 ⟨(some 16), .call (.builtin .lenSl) [(.t 15)], none, []⟩,
 ⟨(some 17), .bin .gtr (.t 16) (.c (.int .i64 4096)), none, []⟩])
 (.cond (.t 17)
 (.seq (.reg false [⟨(some 4), .mv (.c (.nilsl)), none, []⟩,
  ⟨(some 5), .mv (.c (.int .i64 3)), none, []⟩])
  .ret)
 .skip))
 (.seq (.reg false [⟨(some 18), .load 5 true (.t 2), none, []⟩,
 ⟨(some 19), .build [.nilsl, .nilsl, .nilsl, .nilsl, .nilsl, .nilsl, .bool false] [(0, 5, (.t 18))], none, []⟩,
 ⟨(some 20), .box 0 (.t 19), none, []⟩,
 ⟨(some 7), .mv (.t 20), none, []⟩])
 (.seq (.seq (.reg false [⟨(some 21), .mv (.t 1), none, []⟩,
 ⟨(some 22), .call (.builtin .lenSl) [(.t 21)], none, []⟩,
 ⟨(some 23), .mv (.c (.int .i64 0)), none, []⟩])
 (.block 0 (.loop (.seq (.reg false [⟨(some 24), .bin .lss (.t 23) (.t 22), none, []⟩])
 (.seq (.cond (.t 24)
 .skip
 (.exit 0))
 (.seq (.block 1 (.seq (.reg false [⟨(some 25), .idxAddr 1 (.t 21) (.t 23), none, []⟩,
 ⟨(some 26), .load 1 false (.t 25), none, []⟩,
 ⟨(some 9), .mv (.t 26), none, []⟩])
 (.reg false [⟨(some 27), .mv (.t 7), none, []⟩,
 ⟨(some 28), .mv (.t 9), none, []⟩,
 ⟨(some 29), .call (.fn 2) [(.t 27), (.t 28)], none, []⟩])))
 (.reg false [⟨(some 30), .bin .add (.t 23) (.c (.int .i64 1)), none, []⟩,
 ⟨(some 23), .mv (.t 30), none, []⟩])))))))
 (.seq (.seq (.reg false [⟨(some 31), .mv (.t 7), none, []⟩,
 ⟨(some 32), .nilChk (.t 31), none, []⟩,
 ⟨(some 33), .fieldAddr 6 (.t 32), none, []⟩,
 ⟨(some 34), .load 1 false (.t 33), none, []⟩])
 (.cond (.t 34)
 (.seq (.reg false [⟨(some 4), .mv (.c (.nilsl)), none, []⟩,
  ⟨(some 5), .mv (.c (.int .i64 3)), none, []⟩])
  .ret)
 .skip))
 (.seq (.reg false [⟨(some 35), .mv (.t 7), none, []⟩,
 ⟨(some 36), .nilChk (.t 35), none, []⟩,
 ⟨(some 37), .fieldAddr 5 (.t 36), none, []⟩,
 ⟨(some 38), .load 1 false (.t 37), none, []⟩,
 ⟨(some 4), .mv (.t 38), none, []⟩,
 ⟨(some 5), .mv (.c (.int .i64 0)), none, []⟩])
 .ret)))))))
/-- bastion/nfc.Form -/
def F65 : LFunc := .code 2 22 [.t 4, .t 5]
 (.seq (.reg false [⟨(some 2), .box 0 (.t 0), none, []⟩,
 ⟨(some 4), .mv (.c (.nilsl)), none, []⟩,
 ⟨(some 5), .mv (.c (.int .i64 0)), none, []⟩])
 (.seq (.reg false [⟨(some 9), .load 5 true (.t 2), none, []⟩,
 ⟨(some 10), .mv (.t 1), none, []⟩,
 ⟨(some 11), .call (.fn 64) [(.t 9), (.t 10)], none, []⟩,
 ⟨(some 8), .mv (.t 11), none, []⟩,
 ⟨(some 12), .extract 0 (.t 8), none, []⟩,
 ⟨(some 13), .extract 1 (.t 8), none, []⟩,
 ⟨(some 6), .mv (.t 12), none, []⟩,
 ⟨(some 7), .mv (.t 13), none, []⟩])
 (.seq (.seq (.reg false [⟨(some 14), .mv (.t 7), none, []⟩,
 ⟨(some 15), .bin .neq (.t 14) (.c (.int .i64 0)), none, []⟩])
 (.cond (.t 15)
 (.seq (.reg false [⟨(some 16), .mv (.t 7), none, []⟩,
  ⟨(some 4), .mv (.c (.nilsl)), none, []⟩,
  ⟨(some 5), .mv (.t 16), none, []⟩])
  .ret)
 .skip))
 (.seq (.reg true [⟨(some 17), .load 5 true (.t 2), none, []⟩,
 ⟨(some 18), .load 5 true (.t 2), none, []⟩,
 ⟨(some 19), .mv (.t 6), none, []⟩,
 ⟨(some 20), .call (.fn 67) [(.t 18), (.t 19)], none, [1, 2]⟩,
 ⟨(some 21), .call (.fn 68) [(.t 17), (.t 20)], none, [0, 3, 3]⟩,
 ⟨(some 4), .mv (.t 21), none, [4, 4, 0, 1, 2, 3, 4]⟩,
 ⟨(some 5), .mv (.c (.int .i64 0)), none, [5, 0, 1, 2, 3, 4, 5]⟩])
 .ret))))
/-- bastion/nfc.Is -/
def F66 : LFunc := .code 2 22 [.t 4, .t 5]
 (.seq (.reg false [⟨(some 2), .box 0 (.t 0), none, []⟩,
 ⟨(some 4), .mv (.c (.bool false)), none, []⟩,
 ⟨(some 5), .mv (.c (.int .i64 0)), none, []⟩])
 (.seq (.reg false [⟨(some 9), .load 5 true (.t 2), none, []⟩,
 ⟨(some 10), .mv (.t 1), none, []⟩,
 ⟨(some 11), .call (.fn 65) [(.t 9), (.t 10)], none, []⟩,
 ⟨(some 8), .mv (.t 11), none, []⟩,
 ⟨(some 12), .extract 0 (.t 8), none, []⟩,
 ⟨(some 13), .extract 1 (.t 8), none, []⟩,
 ⟨(some 6), .mv (.t 12), none, []⟩,
 ⟨(some 7), .mv (.t 13), none, []⟩])
 (.seq (.reg false [⟨(some 14), .mv (.t 7), none, []⟩,
 ⟨(some 15), .bin .eql (.t 14) (.c (.int .i64 0)), none, []⟩,
 ⟨(some 16), .mv (.t 15), none, []⟩,
 ⟨(some 17), .mv (.t 6), (some (16, true)), []⟩,
 ⟨(some 18), .mv (.t 1), (some (16, true)), []⟩,
 ⟨(some 19), .call (.fn 164) [(.t 17), (.t 18)], (some (16, true)), []⟩,
 ⟨(some 20), .pick (.t 16) (.t 19) (.c (.bool false)), none, []⟩,
 ⟨(some 21), .mv (.t 7), none, []⟩,
 ⟨(some 4), .mv (.t 20), none, []⟩,
 ⟨(some 5), .mv (.t 21), none, []⟩])
 .ret)))
/-- bastion/nfc.Ordered -/
def F67 : LFunc := .code 2 39 [.t 4]
 (.seq (.reg false [⟨(some 2), .box 0 (.t 0), none, []⟩,
 ⟨(some 4), .mv (.c (.nilsl)), none, []⟩])
 (.seq (.reg false [⟨(some 8), .mv (.t 1), none, []⟩,
 ⟨(some 9), .call (.fn 155) [(.t 8)], none, []⟩,
 ⟨(some 5), .mv (.t 9), none, []⟩])
 (.seq (.seq (.reg false [⟨(some 6), .mv (.c (.int .i64 0)), none, []⟩])
 (.block 0 (.loop (.seq (.seq (.reg false [⟨(some 10), .mv (.t 6), none, []⟩,
 ⟨(some 11), .mv (.t 5), none, []⟩,
 ⟨(some 12), .call (.builtin .lenSl) [(.t 11)], none, []⟩,
 ⟨(some 13), .bin .lss (.t 10) (.t 12), none, []⟩])
 (.cond (.t 13)
 .skip
 (.exit 0)))
 (.block 1 (.seq (.reg false [⟨(some 14), .mv (.t 6), none, []⟩,
 ⟨(some 7), .mv (.t 14), none, []⟩])
 (.seq (.block 2 (.loop (.seq (.seq (.reg true [⟨(some 15), .mv (.t 7), none, []⟩,
 ⟨(some 16), .mv (.t 5), none, []⟩,
 ⟨(some 17), .call (.builtin .lenSl) [(.t 16)], none, [1]⟩,
 ⟨(some 18), .bin .lss (.t 15) (.t 17), none, [0, 2]⟩,
 ⟨(some 19), .mv (.t 18), none, [3]⟩,
 ⟨(some 20), .load 5 true (.t 2), (some (19, true)), [4]⟩,
 ⟨(some 21), .mv (.t 5), (some (19, true)), [4]⟩,
 ⟨(some 22), .mv (.t 7), (some (19, true)), [4]⟩,
 ⟨(some 23), .idxAddr 1 (.t 21) (.t 22), (some (19, true)), [6, 7, 4]⟩,
 ⟨(some 24), .load 1 false (.t 23), (some (19, true)), [8, 4]⟩,
 ⟨(some 25), .call (.fn 89) [(.t 20), (.t 24)], (some (19, true)), [5, 9, 4, 4]⟩,
 ⟨(some 26), .bin .neq (.t 25) (.c (.int .u8 0)), (some (19, true)), [10, 4]⟩,
 ⟨(some 27), .pick (.t 19) (.t 26) (.c (.bool false)), none, [4, 11]⟩])
 (.cond (.t 27)
 .skip
 (.exit 2)))
 (.block 3 (.reg false [⟨(some 28), .mv (.t 7), none, []⟩,
 ⟨(some 29), .bin .add (.t 28) (.c (.int .i64 1)), none, []⟩,
 ⟨(some 7), .mv (.t 29), none, []⟩])))))
 (.seq (.reg false [⟨(some 30), .mv (.t 5), none, []⟩,
 ⟨(some 31), .mv (.t 6), none, []⟩,
 ⟨(some 32), .mv (.t 7), none, []⟩,
 ⟨(some 33), .slSl 1 (.t 30) (some (.t 31)) (some (.t 32)) none, none, []⟩,
 ⟨(some 34), .mkFunc 218 [] [(.t 2)], none, []⟩,
 ⟨(some 35), .call (.fn 177) [(.t 33), (.t 34)], none, []⟩])
 (.reg false [⟨(some 36), .mv (.t 7), none, []⟩,
 ⟨(some 37), .bin .add (.t 36) (.c (.int .i64 1)), none, []⟩,
 ⟨(some 6), .mv (.t 37), none, []⟩])))))))))
 (.seq (.reg false [⟨(some 38), .mv (.t 5), none, []⟩,
 ⟨(some 4), .mv (.t 38), none, []⟩])
 .ret))))
/-- bastion/nfc.Together -/
def F68 : LFunc := .code 2 76 [.t 4]
 (.seq (.reg false [⟨(some 2), .box 0 (.t 0), none, []⟩,
 ⟨(some 4), .mv (.c (.nilsl)), none, []⟩])
 (.seq (.reg false [⟨(some 5), .mv (.c (.nilsl)), none, []⟩])
 (.seq (.reg false [⟨(some 6), .mv (.c (.int .i64 (-1))), none, []⟩])
 (.seq (.reg false [⟨(some 7), .mv (.c (.int .u8 0)), none, []⟩])
 (.seq (.seq (.reg false [⟨(some 14), .mv (.t 1), none, []⟩,
 ⟨(some 15), .call (.builtin .lenSl) [(.t 14)], none, []⟩,
 ⟨(some 16), .mv (.c (.int .i64 0)), none, []⟩])
 (.block 0 (.loop (.seq (.reg false [⟨(some 17), .bin .lss (.t 16) (.t 15), none, []⟩])
 (.seq (.cond (.t 17)
 .skip
 (.exit 0))
 (.seq (.block 1 (.seq (.reg false [⟨(some 18), .idxAddr 1 (.t 14) (.t 16), none, []⟩,
 ⟨(some 19), .load 1 false (.t 18), none, []⟩,
 ⟨(some 9), .mv (.t 19), none, []⟩])
 (.seq (.reg false [⟨(some 20), .load 5 true (.t 2), none, []⟩,
 ⟨(some 21), .mv (.t 9), none, []⟩,
 ⟨(some 22), .call (.fn 89) [(.t 20), (.t 21)], none, []⟩,
 ⟨(some 10), .mv (.t 22), none, []⟩])
 (.seq (.reg false [⟨(some 23), .mv (.t 6), none, []⟩,
 ⟨(some 24), .bin .geq (.t 23) (.c (.int .i64 0)), none, []⟩,
 ⟨(some 25), .mv (.t 24), none, []⟩,
 ⟨(some 26), .mv (.t 6), (some (25, true)), []⟩,
 ⟨(some 27), .mv (.t 5), (some (25, true)), []⟩,
 ⟨(some 28), .call (.builtin .lenSl) [(.t 27)], (some (25, true)), []⟩,
 ⟨(some 29), .bin .sub (.t 28) (.c (.int .i64 1)), (some (25, true)), []⟩,
 ⟨(some 30), .bin .eql (.t 26) (.t 29), (some (25, true)), []⟩,
 ⟨(some 31), .pick (.t 25) (.t 30) (.c (.bool false)), none, []⟩,
 ⟨(some 11), .mv (.t 31), none, []⟩])
 (.seq (.seq (.reg false [⟨(some 32), .mv (.t 11), none, []⟩,
 ⟨(some 33), .mv (.t 32), none, []⟩,
 ⟨(some 34), .mv (.t 6), (some (33, false)), []⟩,
 ⟨(some 35), .bin .geq (.t 34) (.c (.int .i64 0)), (some (33, false)), []⟩,
 ⟨(some 36), .mv (.t 35), (some (33, false)), []⟩,
 ⟨(some 37), .mv (.t 7), (some (36, true)), []⟩,
 ⟨(some 38), .bin .neq (.t 37) (.c (.int .u8 0)), (some (36, true)), []⟩,
 ⟨(some 39), .pick (.t 36) (.t 38) (.c (.bool false)), (some (33, false)), []⟩,
 ⟨(some 40), .mv (.t 39), (some (33, false)), []⟩,
 ⟨(some 41), .mv (.t 7), (some (40, true)), []⟩,
 ⟨(some 42), .mv (.t 10), (some (40, true)), []⟩,
 ⟨(some 43), .bin .lss (.t 41) (.t 42), (some (40, true)), []⟩,
 ⟨(some 44), .pick (.t 40) (.t 43) (.c (.bool false)), (some (33, false)), []⟩,
 ⟨(some 45), .pick (.t 33) (.c (.bool true)) (.t 44), none, []⟩])
 (.cond (.t 45)
 (.seq (.reg true [⟨(some 47), .load 5 true (.t 2), none, []⟩,
  ⟨(some 48), .mv (.t 5), none, []⟩,
  ⟨(some 49), .mv (.t 6), none, []⟩,
  ⟨(some 50), .idxAddr 1 (.t 48) (.t 49), none, [1, 2]⟩,
  ⟨(some 51), .load 1 false (.t 50), none, [3]⟩,
  ⟨(some 52), .mv (.t 9), none, []⟩,
  ⟨(some 53), .fail, none, [0, 4, 5]⟩,
  ⟨(some 46), .mv (.t 53), none, [6]⟩,
  ⟨(some 54), .extract 0 (.t 46), none, [7]⟩,
  ⟨(some 55), .extract 1 (.t 46), none, [7]⟩,
  ⟨(some 12), .mv (.t 54), none, [8, 6, 0, 1, 2, 3, 4, 5, 6, 7, 8]⟩,
  ⟨(some 13), .mv (.t 55), none, [9, 10, 0, 1, 2, 3, 4, 5, 6, 7, 8, 9, 10]⟩])
  (.seq (.reg false [⟨(some 56), .mv (.t 13), none, []⟩])
  (.cond (.t 56)
  (.seq (.reg false [⟨(some 57), .mv (.t 5), none, []⟩,
   ⟨(some 58), .mv (.t 6), none, []⟩,
   ⟨(some 59), .mv (.t 12), none, []⟩,
   ⟨(some 60), .idxAddr 1 (.t 57) (.t 58), none, []⟩,
   ⟨none, .store 1 (.t 60) (.t 59), none, []⟩])
   (.seq (.seq (.reg false [⟨(some 61), .mv (.t 11), none, []⟩])
   (.cond (.t 61)
   (.reg false [⟨(some 62), .load 5 true (.t 2), none, []⟩,
    ⟨(some 63), .mv (.t 12), none, []⟩,
    ⟨(some 64), .call (.fn 89) [(.t 62), (.t 63)], none, []⟩,
    ⟨(some 7), .mv (.t 64), none, []⟩])
   .skip))
   (.exit 1)))
  .skip)))
 .skip))
 (.seq (.seq (.reg false [⟨(some 65), .mv (.t 10), none, []⟩,
 ⟨(some 66), .bin .eql (.t 65) (.c (.int .u8 0)), none, []⟩])
 (.cond (.t 66)
 (.reg false [⟨(some 67), .mv (.t 5), none, []⟩,
  ⟨(some 68), .call (.builtin .lenSl) [(.t 67)], none, []⟩,
  ⟨(some 6), .mv (.t 68), none, []⟩])
 .skip))
 (.seq (.reg false [⟨(some 69), .mv (.t 5), none, []⟩,
 ⟨(some 70), .mv (.t 9), none, []⟩,
 ⟨(some 71), .lit [.int .i32 0] 1 1 [(0, 1, (.t 70))], none, []⟩,
 ⟨(some 72), .call (.builtin (.append 1 4 0 [.int .i32 0])) [(.t 69), (.t 71)], none, []⟩,
 ⟨(some 5), .mv (.t 72), none, []⟩])
 (.reg false [⟨(some 73), .mv (.t 10), none, []⟩,
 ⟨(some 7), .mv (.t 73), none, []⟩]))))))))
 (.reg false [⟨(some 74), .bin .add (.t 16) (.c (.int .i64 1)), none, []⟩,
 ⟨(some 16), .mv (.t 74), none, []⟩])))))))
 (.seq (.reg false [⟨(some 75), .mv (.t 5), none, []⟩,
 ⟨(some 4), .mv (.t 75), none, []⟩])
 .ret))))))
/-- bastion/nfc.syllable -/
def F69 : LFunc := .code 1 14 [.t 2, .t 3]
 (.seq (.reg false [⟨(some 2), .mv (.c (.int .i32 0)), none, []⟩,
 ⟨(some 3), .mv (.c (.bool false)), none, []⟩])
 (.seq (.reg false [⟨(some 5), .mv (.t 0), none, []⟩,
 ⟨(some 6), .bin .sub (.t 5) (.c (.int .i32 44032)), none, []⟩,
 ⟨(some 4), .mv (.t 6), none, []⟩])
 (.seq (.reg false [⟨(some 7), .mv (.t 4), none, []⟩,
 ⟨(some 8), .mv (.t 4), none, []⟩,
 ⟨(some 9), .bin .geq (.t 8) (.c (.int .i32 0)), none, []⟩,
 ⟨(some 10), .mv (.t 9), none, []⟩,
 ⟨(some 11), .mv (.t 4), (some (10, true)), []⟩,
 ⟨(some 12), .bin .lss (.t 11) (.c (.int .i32 11172)), (some (10, true)), []⟩,
 ⟨(some 13), .pick (.t 10) (.t 12) (.c (.bool false)), none, []⟩,
 ⟨(some 2), .mv (.t 7), none, []⟩,
 ⟨(some 3), .mv (.t 13), none, []⟩])
 .ret)))
/-- bastion/origin.Check -/
def F70 : LFunc := .code 1 93 [.t 2]
 (.seq (.reg false [⟨(some 1), .box 0 (.t 0), none, []⟩,
 ⟨(some 2), .mv (.c (.int .i64 0)), none, []⟩])
 (.seq (.reg false [⟨(some 7), .load 18 true (.t 1), none, []⟩,
 ⟨(some 8), .fieldAddr 1 (.t 1), none, []⟩,
 ⟨(some 9), .load 1 false (.t 8), none, []⟩,
 ⟨(some 10), .build [.bool false, .int .i64 0, .str [], .int .u8 0, .str [], .int .u32 0, .int .u16 0, .int .u16 0, .int .u16 0, .int .u16 0, .int .u16 0, .int .u16 0, .int .u16 0, .int .u16 0, .int .i64 0, .bool false, .str [], .bool false] [(0, 1, (.c (.bool true))), (1, 1, (.t 9))], none, []⟩,
 ⟨(some 11), .eq false (.st [(0, 1, false, .b), (1, 1, false, .i), (2, 1, false, .s), (3, 11, true, (.st [(0, 1, false, .i), (1, 1, false, .s), (2, 1, false, .i), (3, 8, true, (.st [(0, 1, false, .i), (1, 1, false, .i), (2, 1, false, .i), (3, 1, false, .i), (4, 1, false, .i), (5, 1, false, .i), (6, 1, false, .i), (7, 1, false, .i)]))])), (14, 1, false, .i), (15, 1, false, .b), (16, 1, false, .s), (17, 1, false, .b)]) (.t 7) (.t 10), none, []⟩,
 ⟨(some 3), .mv (.t 11), none, []⟩])
 (.seq (.seq (.reg false [⟨(some 12), .fieldAddr 0 (.t 1), none, []⟩,
 ⟨(some 13), .load 1 false (.t 12), none, []⟩,
 ⟨(some 14), .un .not (.t 13), none, []⟩])
 (.cond (.t 14)
 (.seq (.reg false [⟨(some 16), .fieldAddr 2 (.t 1), none, []⟩,
  ⟨(some 17), .load 1 false (.t 16), none, []⟩,
  ⟨(some 18), .call (.fn 116) [(.t 17)], none, []⟩,
  ⟨(some 15), .mv (.t 18), none, []⟩,
  ⟨(some 19), .extract 0 (.t 15), none, []⟩,
  ⟨(some 20), .extract 1 (.t 15), none, []⟩,
  ⟨(some 4), .mv (.t 19), none, []⟩,
  ⟨(some 5), .mv (.t 20), none, []⟩])
  (.seq (.reg false [⟨(some 21), .lit [.int .u8 0] 3 1 [(0, 1, (.c (.int .u8 1))), (1, 1, (.c (.int .u8 2))), (2, 1, (.c (.int .u8 3)))], none, []⟩,
  ⟨(some 6), .mv (.t 21), none, []⟩])
  (.seq (.reg false [⟨(some 22), .fieldAddr 1 (.t 1), none, []⟩,
  ⟨(some 23), .load 1 false (.t 22), none, []⟩,
  ⟨(some 24), .bin .eql (.t 23) (.c (.int .i64 0)), none, []⟩,
  ⟨(some 25), .mv (.t 24), none, []⟩,
  ⟨(some 26), .fieldAddr 2 (.t 1), (some (25, true)), []⟩,
  ⟨(some 27), .load 1 false (.t 26), (some (25, true)), []⟩,
  ⟨(some 28), .call (.fn 78) [(.t 27)], (some (25, true)), []⟩,
  ⟨(some 29), .pick (.t 25) (.t 28) (.c (.bool false)), none, []⟩,
  ⟨(some 30), .mv (.t 29), none, []⟩,
  ⟨(some 31), .fieldAddr 3 (.t 1), (some (30, true)), []⟩,
  ⟨(some 32), .load 11 true (.t 31), (some (30, true)), []⟩,
  ⟨(some 33), .call (.fn 48) [(.t 32)], (some (30, true)), []⟩,
  ⟨(some 34), .bin .eql (.t 33) (.c (.int .i64 0)), (some (30, true)), []⟩,
  ⟨(some 35), .pick (.t 30) (.t 34) (.c (.bool false)), none, []⟩,
  ⟨(some 36), .mv (.t 35), none, []⟩,
  ⟨(some 37), .mv (.t 6), (some (36, true)), []⟩,
  ⟨(some 38), .fieldAddr 3 (.t 1), (some (36, true)), []⟩,
  ⟨(some 39), .fieldAddr 0 (.t 38), (some (36, true)), []⟩,
  ⟨(some 40), .load 1 false (.t 39), (some (36, true)), []⟩,
  ⟨(some 41), .call (.fn 160) [(.t 37), (.t 40)], (some (36, true)), []⟩,
  ⟨(some 42), .pick (.t 36) (.t 41) (.c (.bool false)), none, []⟩,
  ⟨(some 3), .mv (.t 42), none, []⟩])
  (.seq (.seq (.reg false [⟨(some 43), .fieldAddr 15 (.t 1), none, []⟩,
  ⟨(some 44), .load 1 false (.t 43), none, []⟩])
  (.cond (.t 44)
  (.reg false [⟨(some 45), .mv (.t 3), none, []⟩,
   ⟨(some 46), .mv (.t 45), none, []⟩,
   ⟨(some 47), .fieldAddr 14 (.t 1), (some (46, true)), []⟩,
   ⟨(some 48), .load 1 false (.t 47), (some (46, true)), []⟩,
   ⟨(some 49), .bin .geq (.t 48) (.c (.int .i64 0)), (some (46, true)), []⟩,
   ⟨(some 50), .pick (.t 46) (.t 49) (.c (.bool false)), none, []⟩,
   ⟨(some 51), .mv (.t 50), none, []⟩,
   ⟨(some 52), .fieldAddr 14 (.t 1), (some (51, true)), []⟩,
   ⟨(some 53), .load 1 false (.t 52), (some (51, true)), []⟩,
   ⟨(some 54), .bin .lss (.t 53) (.c (.int .i64 65536)), (some (51, true)), []⟩,
   ⟨(some 55), .pick (.t 51) (.t 54) (.c (.bool false)), none, []⟩,
   ⟨(some 56), .mv (.t 55), none, []⟩,
   ⟨(some 57), .fieldAddr 14 (.t 1), (some (56, true)), []⟩,
   ⟨(some 58), .load 1 false (.t 57), (some (56, true)), []⟩,
   ⟨(some 59), .mv (.t 4), (some (56, true)), []⟩,
   ⟨(some 60), .bin .neq (.t 58) (.t 59), (some (56, true)), []⟩,
   ⟨(some 61), .pick (.t 56) (.t 60) (.c (.bool false)), none, []⟩,
   ⟨(some 3), .mv (.t 61), none, []⟩])
  (.reg false [⟨(some 62), .mv (.t 3), none, []⟩,
   ⟨(some 63), .mv (.t 62), none, []⟩,
   ⟨(some 64), .fieldAddr 14 (.t 1), (some (63, true)), []⟩,
   ⟨(some 65), .load 1 false (.t 64), (some (63, true)), []⟩,
   ⟨(some 66), .bin .eql (.t 65) (.c (.int .i64 0)), (some (63, true)), []⟩,
   ⟨(some 67), .pick (.t 63) (.t 66) (.c (.bool false)), none, []⟩,
   ⟨(some 3), .mv (.t 67), none, []⟩])))
  (.seq (.reg false [⟨(some 68), .fieldAddr 17 (.t 1), none, []⟩,
  ⟨(some 69), .load 1 false (.t 68), none, []⟩])
  (.cond (.t 69)
  (.reg false [⟨(some 70), .mv (.t 3), none, []⟩,
   ⟨(some 71), .mv (.t 70), none, []⟩,
   ⟨(some 72), .fieldAddr 3 (.t 1), (some (71, true)), []⟩,
   ⟨(some 73), .fieldAddr 0 (.t 72), (some (71, true)), []⟩,
   ⟨(some 74), .load 1 false (.t 73), (some (71, true)), []⟩,
   ⟨(some 75), .bin .eql (.t 74) (.c (.int .u8 1)), (some (71, true)), []⟩,
   ⟨(some 76), .pick (.t 71) (.t 75) (.c (.bool false)), none, []⟩,
   ⟨(some 77), .mv (.t 76), none, []⟩,
   ⟨(some 78), .fieldAddr 3 (.t 1), (some (77, true)), []⟩,
   ⟨(some 79), .fieldAddr 1 (.t 78), (some (77, true)), []⟩,
   ⟨(some 80), .load 1 false (.t 79), (some (77, true)), []⟩,
   ⟨(some 81), .fieldAddr 16 (.t 1), (some (77, true)), []⟩,
   ⟨(some 82), .load 1 false (.t 81), (some (77, true)), []⟩,
   ⟨(some 83), .fail, (some (77, true)), []⟩,
   ⟨(some 84), .pick (.t 77) (.t 83) (.c (.bool false)), none, []⟩,
   ⟨(some 3), .mv (.t 84), none, []⟩])
  (.reg false [⟨(some 85), .mv (.t 3), none, []⟩,
   ⟨(some 86), .mv (.t 85), none, []⟩,
   ⟨(some 87), .fieldAddr 16 (.t 1), (some (86, true)), []⟩,
   ⟨(some 88), .load 1 false (.t 87), (some (86, true)), []⟩,
   ⟨(some 89), .bin .eql (.t 88) (.c (.str [])), (some (86, true)), []⟩,
   ⟨(some 90), .pick (.t 86) (.t 89) (.c (.bool false)), none, []⟩,
   ⟨(some 3), .mv (.t 90), none, []⟩])))))))
 .skip))
 (.seq (.seq (.reg false [⟨(some 91), .mv (.t 3), none, []⟩,
 ⟨(some 92), .un .not (.t 91), none, []⟩])
 (.cond (.t 92)
 (.seq (.reg false [⟨(some 2), .mv (.c (.int .i64 18)), none, []⟩])
  .ret)
 .skip))
 (.seq (.reg false [⟨(some 2), .mv (.c (.int .i64 0)), none, []⟩])
 .ret)))))
/-- bastion/origin.Of -/
def F71 : LFunc := .code 3 65 [.cell 6 18 true, .t 7]
 (.seq (.reg false [⟨(some 3), .box 0 (.t 0), none, []⟩,
 ⟨(some 4), .box 0 (.t 1), none, []⟩,
 ⟨(some 6), .alloc [.bool false, .int .i64 0, .str [], .int .u8 0, .str [], .int .u32 0, .int .u16 0, .int .u16 0, .int .u16 0, .int .u16 0, .int .u16 0, .int .u16 0, .int .u16 0, .int .u16 0, .int .i64 0, .bool false, .str [], .bool false] 0, none, []⟩,
 ⟨(some 7), .mv (.c (.int .i64 0)), none, []⟩])
 (.seq (.seq (.reg false [⟨(some 11), .load 23 true (.t 4), none, []⟩,
 ⟨(some 12), .call (.fn 114) [(.t 11)], none, []⟩,
 ⟨(some 8), .mv (.t 12), none, []⟩])
 (.seq (.reg false [⟨(some 13), .mv (.t 8), none, []⟩,
 ⟨(some 14), .bin .neq (.t 13) (.c (.int .i64 0)), none, []⟩])
 (.cond (.t 14)
 (.seq (.reg false [⟨(some 15), .build [.bool false, .int .i64 0, .str [], .int .u8 0, .str [], .int .u32 0, .int .u16 0, .int .u16 0, .int .u16 0, .int .u16 0, .int .u16 0, .int .u16 0, .int .u16 0, .int .u16 0, .int .i64 0, .bool false, .str [], .bool false] [], none, []⟩,
  ⟨(some 16), .mv (.t 8), none, []⟩,
  ⟨none, .store 18 (.t 6) (.t 15), none, []⟩,
  ⟨(some 7), .mv (.t 16), none, []⟩])
  .ret)
 .skip)))
 (.seq (.seq (.reg false [⟨(some 17), .fieldAddr 0 (.t 4), none, []⟩,
 ⟨(some 18), .load 1 false (.t 17), none, []⟩,
 ⟨(some 19), .bin .eql (.t 18) (.c (.str [98, 108, 111, 98])), none, []⟩,
 ⟨(some 20), .mv (.t 19), none, []⟩,
 ⟨(some 21), .fieldAddr 17 (.t 4), (some (20, true)), []⟩,
 ⟨(some 22), .load 1 false (.t 21), (some (20, true)), []⟩,
 ⟨(some 23), .pick (.t 20) (.t 22) (.c (.bool false)), none, []⟩])
 (.cond (.t 23)
 (.seq (.reg false [⟨(some 25), .load 5 true (.t 3), none, []⟩,
  ⟨(some 26), .fieldAddr 18 (.t 4), none, []⟩,
  ⟨(some 27), .load 1 false (.t 26), none, []⟩,
  ⟨(some 28), .build [.str [], .str [], .str [], .int .u8 0, .str [], .int .u32 0, .int .u16 0, .int .u16 0, .int .u16 0, .int .u16 0, .int .u16 0, .int .u16 0, .int .u16 0, .int .u16 0, .int .i64 0, .bool false, .nilsl, .bool false, .str [], .str [], .bool false, .str [], .bool false] [], none, []⟩,
  ⟨(some 29), .call (.fn 115) [(.t 25), (.t 27), (.t 28), (.c (.bool false))], none, []⟩,
  ⟨(some 24), .mv (.t 29), none, []⟩,
  ⟨(some 30), .extract 0 (.t 24), none, []⟩,
  ⟨(some 31), .extract 1 (.t 24), none, []⟩,
  ⟨(some 9), .alloc [.str [], .str [], .str [], .int .u8 0, .str [], .int .u32 0, .int .u16 0, .int .u16 0, .int .u16 0, .int .u16 0, .int .u16 0, .int .u16 0, .int .u16 0, .int .u16 0, .int .i64 0, .bool false, .nilsl, .bool false, .str [], .str [], .bool false, .str [], .bool false] 0, none, []⟩,
  ⟨none, .store 23 (.t 9) (.t 30), none, []⟩,
  ⟨(some 10), .mv (.t 31), none, []⟩])
  (.seq (.reg false [⟨(some 32), .mv (.t 10), none, []⟩,
  ⟨(some 33), .bin .eql (.t 32) (.c (.int .i64 0)), none, []⟩,
  ⟨(some 34), .mv (.t 33), none, []⟩,
  ⟨(some 35), .fieldAddr 0 (.t 9), (some (34, true)), []⟩,
  ⟨(some 36), .load 1 false (.t 35), (some (34, true)), []⟩,
  ⟨(some 37), .call (.fn 185) [(.t 36), (.c (.str [104, 116, 116, 112]))], (some (34, true)), []⟩,
  ⟨(some 38), .pick (.t 34) (.t 37) (.c (.bool false)), none, []⟩,
  ⟨(some 39), .mv (.t 38), none, []⟩,
  ⟨(some 40), .fieldAddr 0 (.t 9), (some (39, true)), []⟩,
  ⟨(some 41), .load 1 false (.t 40), (some (39, true)), []⟩,
  ⟨(some 42), .call (.fn 78) [(.t 41)], (some (39, true)), []⟩,
  ⟨(some 43), .pick (.t 39) (.t 42) (.c (.bool false)), none, []⟩,
  ⟨(some 44), .mv (.t 43), none, []⟩,
  ⟨(some 45), .load 23 true (.t 9), (some (44, true)), []⟩,
  ⟨(some 46), .call (.fn 114) [(.t 45)], (some (44, true)), []⟩,
  ⟨(some 47), .bin .eql (.t 46) (.c (.int .i64 0)), (some (44, true)), []⟩,
  ⟨(some 48), .pick (.t 44) (.t 47) (.c (.bool false)), none, []⟩])
  (.cond (.t 48)
  (.reg false [⟨(some 49), .load 23 true (.t 9), none, []⟩,
   ⟨none, .store 23 (.t 4) (.t 49), none, []⟩])
  .skip)))
 .skip))
 (.seq (.seq (.reg false [⟨(some 50), .fieldAddr 0 (.t 4), none, []⟩,
 ⟨(some 51), .load 1 false (.t 50), none, []⟩,
 ⟨(some 52), .call (.fn 78) [(.t 51)], none, []⟩,
 ⟨(some 53), .un .not (.t 52), none, []⟩])
 (.cond (.t 53)
 (.seq (.reg false [⟨(some 54), .mv (.t 2), none, []⟩,
  ⟨(some 55), .build [.bool false, .int .i64 0, .str [], .int .u8 0, .str [], .int .u32 0, .int .u16 0, .int .u16 0, .int .u16 0, .int .u16 0, .int .u16 0, .int .u16 0, .int .u16 0, .int .u16 0, .int .i64 0, .bool false, .str [], .bool false] [(0, 1, (.c (.bool true))), (1, 1, (.t 54))], none, []⟩,
  ⟨none, .store 18 (.t 6) (.t 55), none, []⟩,
  ⟨(some 7), .mv (.c (.int .i64 0)), none, []⟩])
  .ret)
 .skip))
 (.seq (.reg false [⟨(some 56), .fieldAddr 0 (.t 4), none, []⟩,
 ⟨(some 57), .load 1 false (.t 56), none, []⟩,
 ⟨(some 58), .fieldAddr 3 (.t 4), none, []⟩,
 ⟨(some 59), .load 11 true (.t 58), none, []⟩,
 ⟨(some 60), .fieldAddr 14 (.t 4), none, []⟩,
 ⟨(some 61), .load 1 false (.t 60), none, []⟩,
 ⟨(some 62), .fieldAddr 15 (.t 4), none, []⟩,
 ⟨(some 63), .load 1 false (.t 62), none, []⟩,
 ⟨(some 64), .build [.bool false, .int .i64 0, .str [], .int .u8 0, .str [], .int .u32 0, .int .u16 0, .int .u16 0, .int .u16 0, .int .u16 0, .int .u16 0, .int .u16 0, .int .u16 0, .int .u16 0, .int .i64 0, .bool false, .str [], .bool false] [(2, 1, (.t 57)), (3, 11, (.t 59)), (14, 1, (.t 61)), (15, 1, (.t 63))], none, []⟩,
 ⟨none, .store 18 (.t 6) (.t 64), none, []⟩,
 ⟨(some 7), .mv (.c (.int .i64 0)), none, []⟩])
 .ret)))))
/-- bastion/origin.Registrable -/
def F72 : LFunc := .code 2 33 [.t 4, .t 5, .t 6]
 (.seq (.reg false [⟨(some 4), .mv (.c (.str [])), none, []⟩,
 ⟨(some 5), .mv (.c (.bool false)), none, []⟩,
 ⟨(some 6), .mv (.c (.int .i64 0)), none, []⟩])
 (.seq (.seq (.reg false [⟨(some 10), .mv (.t 0), none, []⟩,
 ⟨(some 11), .mv (.t 1), none, []⟩,
 ⟨(some 12), .call (.fn 75) [(.t 10), (.t 11)], none, []⟩,
 ⟨(some 7), .mv (.t 12), none, []⟩])
 (.seq (.reg false [⟨(some 13), .mv (.t 7), none, []⟩,
 ⟨(some 14), .bin .neq (.t 13) (.c (.int .i64 0)), none, []⟩])
 (.cond (.t 14)
 (.seq (.reg false [⟨(some 15), .mv (.t 7), none, []⟩,
  ⟨(some 4), .mv (.c (.str [])), none, []⟩,
  ⟨(some 5), .mv (.c (.bool false)), none, []⟩,
  ⟨(some 6), .mv (.t 15), none, []⟩])
  .ret)
 .skip)))
 (.seq (.reg false [⟨(some 16), .mv (.t 1), none, []⟩,
 ⟨(some 17), .call (.fn 197) [(.t 16), (.c (.str [46]))], none, []⟩,
 ⟨(some 8), .mv (.t 17), none, []⟩])
 (.seq (.reg false [⟨(some 18), .mv (.t 0), none, []⟩,
 ⟨(some 19), .mv (.t 8), none, []⟩,
 ⟨(some 20), .call (.fn 76) [(.t 18), (.t 19)], none, []⟩,
 ⟨(some 21), .bin .add (.t 20) (.c (.int .i64 1)), none, []⟩,
 ⟨(some 9), .mv (.t 21), none, []⟩])
 (.seq (.seq (.reg false [⟨(some 22), .mv (.t 9), none, []⟩,
 ⟨(some 23), .mv (.t 8), none, []⟩,
 ⟨(some 24), .call (.builtin .lenSl) [(.t 23)], none, []⟩,
 ⟨(some 25), .bin .gtr (.t 22) (.t 24), none, []⟩])
 (.cond (.t 25)
 (.seq (.reg false [⟨(some 4), .mv (.c (.str [])), none, []⟩,
  ⟨(some 5), .mv (.c (.bool false)), none, []⟩,
  ⟨(some 6), .mv (.c (.int .i64 0)), none, []⟩])
  .ret)
 .skip))
 (.seq (.reg false [⟨(some 26), .mv (.t 8), none, []⟩,
 ⟨(some 27), .mv (.t 8), none, []⟩,
 ⟨(some 28), .call (.builtin .lenSl) [(.t 27)], none, []⟩,
 ⟨(some 29), .mv (.t 9), none, []⟩,
 ⟨(some 30), .bin .sub (.t 28) (.t 29), none, []⟩,
 ⟨(some 31), .slSl 1 (.t 26) (some (.t 30)) none none, none, []⟩,
 ⟨(some 32), .call (.fn 192) [(.t 31), (.c (.str [46]))], none, []⟩,
 ⟨(some 4), .mv (.t 32), none, []⟩,
 ⟨(some 5), .mv (.c (.bool true)), none, []⟩,
 ⟨(some 6), .mv (.c (.int .i64 0)), none, []⟩])
 .ret))))))
/-- bastion/origin.Suffix -/
def F73 : LFunc := .code 2 25 [.t 4, .t 5]
 (.seq (.reg false [⟨(some 4), .mv (.c (.str [])), none, []⟩,
 ⟨(some 5), .mv (.c (.int .i64 0)), none, []⟩])
 (.seq (.seq (.reg false [⟨(some 8), .mv (.t 0), none, []⟩,
 ⟨(some 9), .mv (.t 1), none, []⟩,
 ⟨(some 10), .call (.fn 75) [(.t 8), (.t 9)], none, []⟩,
 ⟨(some 6), .mv (.t 10), none, []⟩])
 (.seq (.reg false [⟨(some 11), .mv (.t 6), none, []⟩,
 ⟨(some 12), .bin .neq (.t 11) (.c (.int .i64 0)), none, []⟩])
 (.cond (.t 12)
 (.seq (.reg false [⟨(some 13), .mv (.t 6), none, []⟩,
  ⟨(some 4), .mv (.c (.str [])), none, []⟩,
  ⟨(some 5), .mv (.t 13), none, []⟩])
  .ret)
 .skip)))
 (.seq (.reg false [⟨(some 14), .mv (.t 1), none, []⟩,
 ⟨(some 15), .call (.fn 197) [(.t 14), (.c (.str [46]))], none, []⟩,
 ⟨(some 7), .mv (.t 15), none, []⟩])
 (.seq (.reg false [⟨(some 16), .mv (.t 7), none, []⟩,
 ⟨(some 17), .mv (.t 7), none, []⟩,
 ⟨(some 18), .call (.builtin .lenSl) [(.t 17)], none, []⟩,
 ⟨(some 19), .mv (.t 0), none, []⟩,
 ⟨(some 20), .mv (.t 7), none, []⟩,
 ⟨(some 21), .call (.fn 76) [(.t 19), (.t 20)], none, []⟩,
 ⟨(some 22), .bin .sub (.t 18) (.t 21), none, []⟩,
 ⟨(some 23), .slSl 1 (.t 16) (some (.t 22)) none none, none, []⟩,
 ⟨(some 24), .call (.fn 192) [(.t 23), (.c (.str [46]))], none, []⟩,
 ⟨(some 4), .mv (.t 24), none, []⟩,
 ⟨(some 5), .mv (.c (.int .i64 0)), none, []⟩])
 .ret))))
/-- bastion/origin.Text -/
def F74 : LFunc := .code 1 35 [.t 2, .t 3]
 (.seq (.reg false [⟨(some 1), .box 0 (.t 0), none, []⟩,
 ⟨(some 2), .mv (.c (.str [])), none, []⟩,
 ⟨(some 3), .mv (.c (.int .i64 0)), none, []⟩])
 (.seq (.seq (.reg false [⟨(some 8), .load 18 true (.t 1), none, []⟩,
 ⟨(some 9), .call (.fn 70) [(.t 8)], none, []⟩,
 ⟨(some 4), .mv (.t 9), none, []⟩])
 (.seq (.reg false [⟨(some 10), .mv (.t 4), none, []⟩,
 ⟨(some 11), .bin .neq (.t 10) (.c (.int .i64 0)), none, []⟩])
 (.cond (.t 11)
 (.seq (.reg false [⟨(some 12), .mv (.t 4), none, []⟩,
  ⟨(some 2), .mv (.c (.str [])), none, []⟩,
  ⟨(some 3), .mv (.t 12), none, []⟩])
  .ret)
 .skip)))
 (.seq (.seq (.reg false [⟨(some 13), .fieldAddr 0 (.t 1), none, []⟩,
 ⟨(some 14), .load 1 false (.t 13), none, []⟩])
 (.cond (.t 14)
 (.seq (.reg false [⟨(some 2), .mv (.c (.str [110, 117, 108, 108])), none, []⟩,
  ⟨(some 3), .mv (.c (.int .i64 0)), none, []⟩])
  .ret)
 .skip))
 (.seq (.reg false [⟨(some 16), .fieldAddr 3 (.t 1), none, []⟩,
 ⟨(some 17), .load 11 true (.t 16), none, []⟩,
 ⟨(some 18), .call (.fn 51) [(.t 17)], none, []⟩,
 ⟨(some 15), .mv (.t 18), none, []⟩,
 ⟨(some 19), .extract 0 (.t 15), none, []⟩,
 ⟨(some 20), .extract 1 (.t 15), none, []⟩,
 ⟨(some 5), .mv (.t 19), none, []⟩,
 ⟨(some 6), .mv (.t 20), none, []⟩])
 (.seq (.reg false [⟨(some 21), .fieldAddr 2 (.t 1), none, []⟩,
 ⟨(some 22), .load 1 false (.t 21), none, []⟩,
 ⟨(some 23), .bin .add (.t 22) (.c (.str [58, 47, 47])), none, []⟩,
 ⟨(some 24), .mv (.t 5), none, []⟩,
 ⟨(some 25), .bin .add (.t 23) (.t 24), none, []⟩,
 ⟨(some 7), .mv (.t 25), none, []⟩])
 (.seq (.seq (.reg false [⟨(some 26), .fieldAddr 15 (.t 1), none, []⟩,
 ⟨(some 27), .load 1 false (.t 26), none, []⟩])
 (.cond (.t 27)
 (.reg false [⟨(some 28), .mv (.t 7), none, []⟩,
  ⟨(some 29), .fieldAddr 14 (.t 1), none, []⟩,
  ⟨(some 30), .load 1 false (.t 29), none, []⟩,
  ⟨(some 31), .fail, none, []⟩,
  ⟨(some 32), .bin .add (.c (.str [58])) (.t 31), none, []⟩,
  ⟨(some 33), .bin .add (.t 28) (.t 32), none, []⟩,
  ⟨(some 7), .mv (.t 33), none, []⟩])
 .skip))
 (.seq (.reg false [⟨(some 34), .mv (.t 7), none, []⟩,
 ⟨(some 2), .mv (.t 34), none, []⟩,
 ⟨(some 3), .mv (.c (.int .i64 0)), none, []⟩])
 .ret)))))))
/-- bastion/origin.asked -/
def F75 : LFunc := .code 2 13 [.t 4]
 (.seq (.reg false [⟨(some 4), .mv (.c (.int .i64 0)), none, []⟩])
 (.seq (.block 0 (.seq (.reg false [⟨(some 6), .mv (.t 0), none, []⟩,
 ⟨(some 7), .call (.builtin .lenSl) [(.t 6)], none, []⟩,
 ⟨(some 8), .bin .gtr (.t 7) (.c (.int .i64 256)), none, []⟩,
 ⟨(some 5), .mv (.t 8), none, []⟩])
 (.cond (.t 5)
 (.seq (.reg false [⟨(some 4), .mv (.c (.int .i64 3)), none, []⟩])
  .ret)
 (.seq (.reg false [⟨(some 10), .mv (.t 1), none, []⟩,
  ⟨(some 11), .call (.builtin .lenStr) [(.t 10)], none, []⟩,
  ⟨(some 12), .bin .gtr (.t 11) (.c (.int .i64 4096)), none, []⟩,
  ⟨(some 9), .mv (.t 12), none, []⟩])
  (.cond (.t 9)
  (.seq (.reg false [⟨(some 4), .mv (.c (.int .i64 4)), none, []⟩])
   .ret)
  .skip)))))
 (.seq (.reg false [⟨(some 4), .mv (.c (.int .i64 0)), none, []⟩])
 .ret)))
/-- bastion/origin.match -/
def F76 : LFunc := .code 2 59 [.t 4]
 (.seq (.reg false [⟨(some 3), .box 0 (.t 1), none, []⟩,
 ⟨(some 4), .mv (.c (.int .i64 0)), none, []⟩])
 (.seq (.reg false [⟨(some 5), .mv (.c (.int .i64 1)), none, []⟩])
 (.seq (.reg false [⟨(some 13), .mkFunc 77 [] [(.t 3)], none, []⟩,
 ⟨(some 6), .mv (.t 13), none, []⟩])
 (.seq (.reg false [⟨(some 7), .mv (.c (.int .i64 (-1))), none, []⟩])
 (.seq (.seq (.reg false [⟨(some 14), .mv (.t 0), none, []⟩,
 ⟨(some 15), .call (.builtin .lenSl) [(.t 14)], none, []⟩,
 ⟨(some 16), .mv (.c (.int .i64 0)), none, []⟩])
 (.block 0 (.loop (.seq (.reg false [⟨(some 17), .bin .lss (.t 16) (.t 15), none, []⟩])
 (.seq (.cond (.t 17)
 .skip
 (.exit 0))
 (.seq (.block 1 (.seq (.reg false [⟨(some 18), .idxAddr 1 (.t 14) (.t 16), none, []⟩,
 ⟨(some 19), .load 1 false (.t 18), none, []⟩,
 ⟨(some 9), .mv (.t 19), none, []⟩])
 (.seq (.reg false [⟨(some 21), .mv (.t 9), none, []⟩,
 ⟨(some 22), .call (.fn 183) [(.t 21), (.c (.str [33]))], none, []⟩,
 ⟨(some 20), .mv (.t 22), none, []⟩,
 ⟨(some 23), .extract 0 (.t 20), none, []⟩,
 ⟨(some 24), .extract 1 (.t 20), none, []⟩,
 ⟨(some 10), .mv (.t 23), none, []⟩,
 ⟨(some 11), .mv (.t 24), none, []⟩])
 (.seq (.reg false [⟨(some 25), .mv (.t 10), none, []⟩,
 ⟨(some 26), .call (.fn 197) [(.t 25), (.c (.str [46]))], none, []⟩,
 ⟨(some 27), .mv (.t 11), none, []⟩,
 ⟨(some 28), .build [.nilsl, .bool false] [(0, 1, (.t 26)), (1, 1, (.t 27))], none, []⟩,
 ⟨(some 12), .alloc [.nilsl, .bool false] 0, none, []⟩,
 ⟨none, .store 2 (.t 12) (.t 28), none, []⟩])
 (.block 2 (.seq (.reg false [⟨(some 30), .mv (.t 6), none, []⟩,
 ⟨(some 31), .load 2 true (.t 12), none, []⟩,
 ⟨(some 32), .call (.val (.t 30)) [(.t 31)], none, []⟩,
 ⟨(some 33), .un .not (.t 32), none, []⟩,
 ⟨(some 29), .mv (.t 33), none, []⟩])
 (.cond (.t 29)
 .skip
 (.seq (.reg false [⟨(some 35), .fieldAddr 1 (.t 12), none, []⟩,
  ⟨(some 36), .load 1 false (.t 35), none, []⟩,
  ⟨(some 37), .mv (.t 36), none, []⟩,
  ⟨(some 38), .mv (.t 7), (some (37, true)), []⟩,
  ⟨(some 39), .bin .lss (.t 38) (.c (.int .i64 0)), (some (37, true)), []⟩,
  ⟨(some 40), .pick (.t 37) (.t 39) (.c (.bool false)), none, []⟩,
  ⟨(some 34), .mv (.t 40), none, []⟩])
  (.cond (.t 34)
  (.reg false [⟨(some 41), .fieldAddr 0 (.t 12), none, []⟩,
   ⟨(some 42), .load 1 false (.t 41), none, []⟩,
   ⟨(some 43), .call (.builtin .lenSl) [(.t 42)], none, []⟩,
   ⟨(some 44), .bin .sub (.t 43) (.c (.int .i64 1)), none, []⟩,
   ⟨(some 7), .mv (.t 44), none, []⟩])
  (.seq (.reg false [⟨(some 46), .fieldAddr 1 (.t 12), none, []⟩,
   ⟨(some 47), .load 1 false (.t 46), none, []⟩,
   ⟨(some 48), .un .not (.t 47), none, []⟩,
   ⟨(some 45), .mv (.t 48), none, []⟩])
   (.cond (.t 45)
   (.reg false [⟨(some 49), .mv (.t 5), none, []⟩,
    ⟨(some 50), .fieldAddr 0 (.t 12), none, []⟩,
    ⟨(some 51), .load 1 false (.t 50), none, []⟩,
    ⟨(some 52), .call (.builtin .lenSl) [(.t 51)], none, []⟩,
    ⟨(some 53), .call (.builtin .max) [(.t 49), (.t 52)], none, []⟩,
    ⟨(some 5), .mv (.t 53), none, []⟩])
   .skip)))))))))))
 (.reg false [⟨(some 54), .bin .add (.t 16) (.c (.int .i64 1)), none, []⟩,
 ⟨(some 16), .mv (.t 54), none, []⟩])))))))
 (.seq (.seq (.reg false [⟨(some 55), .mv (.t 7), none, []⟩,
 ⟨(some 56), .bin .geq (.t 55) (.c (.int .i64 0)), none, []⟩])
 (.cond (.t 56)
 (.seq (.reg false [⟨(some 57), .mv (.t 7), none, []⟩,
  ⟨(some 4), .mv (.t 57), none, []⟩])
  .ret)
 .skip))
 (.seq (.reg false [⟨(some 58), .mv (.t 5), none, []⟩,
 ⟨(some 4), .mv (.t 58), none, []⟩])
 .ret)))))))
/-- bastion/origin.match$1 -/
def F77 : LFunc := .code 2 41 [.t 3]
 (.seq (.reg false [⟨(some 2), .box 0 (.t 0), none, []⟩,
 ⟨(some 3), .mv (.c (.bool false)), none, []⟩])
 (.seq (.reg false [⟨(some 7), .load 1 false (.t 1), none, []⟩,
 ⟨(some 8), .call (.builtin .lenSl) [(.t 7)], none, []⟩,
 ⟨(some 9), .fieldAddr 0 (.t 2), none, []⟩,
 ⟨(some 10), .load 1 false (.t 9), none, []⟩,
 ⟨(some 11), .call (.builtin .lenSl) [(.t 10)], none, []⟩,
 ⟨(some 12), .bin .sub (.t 8) (.t 11), none, []⟩,
 ⟨(some 4), .mv (.t 12), none, []⟩])
 (.seq (.seq (.reg false [⟨(some 13), .mv (.t 4), none, []⟩,
 ⟨(some 14), .bin .lss (.t 13) (.c (.int .i64 0)), none, []⟩])
 (.cond (.t 14)
 (.seq (.reg false [⟨(some 3), .mv (.c (.bool false)), none, []⟩])
  .ret)
 .skip))
 (.seq (.seq (.reg false [⟨(some 15), .fieldAddr 0 (.t 2), none, []⟩,
 ⟨(some 16), .load 1 false (.t 15), none, []⟩,
 ⟨(some 17), .call (.builtin .lenSl) [(.t 16)], none, []⟩,
 ⟨(some 18), .mv (.c (.int .i64 0)), none, []⟩])
 (.block 0 (.loop (.seq (.reg false [⟨(some 19), .bin .lss (.t 18) (.t 17), none, []⟩])
 (.seq (.cond (.t 19)
 .skip
 (.exit 0))
 (.seq (.block 1 (.seq (.reg false [⟨(some 20), .mv (.t 18), none, []⟩,
 ⟨(some 21), .idxAddr 1 (.t 16) (.t 18), none, []⟩,
 ⟨(some 22), .load 1 false (.t 21), none, []⟩,
 ⟨(some 5), .mv (.t 20), none, []⟩,
 ⟨(some 6), .mv (.t 22), none, []⟩])
 (.seq (.reg false [⟨(some 23), .mv (.t 6), none, []⟩,
 ⟨(some 24), .load 1 false (.t 1), none, []⟩,
 ⟨(some 25), .mv (.t 4), none, []⟩,
 ⟨(some 26), .mv (.t 5), none, []⟩,
 ⟨(some 27), .bin .add (.t 25) (.t 26), none, []⟩,
 ⟨(some 28), .idxAddr 1 (.t 24) (.t 27), none, []⟩,
 ⟨(some 29), .load 1 false (.t 28), none, []⟩,
 ⟨(some 30), .bin .neq (.t 23) (.t 29), none, []⟩,
 ⟨(some 31), .mv (.t 30), none, []⟩,
 ⟨(some 32), .mv (.t 5), (some (31, true)), []⟩,
 ⟨(some 33), .bin .eql (.t 32) (.c (.int .i64 0)), (some (31, true)), []⟩,
 ⟨(some 34), .mv (.t 33), (some (31, true)), []⟩,
 ⟨(some 35), .mv (.t 6), (some (34, true)), []⟩,
 ⟨(some 36), .bin .eql (.t 35) (.c (.str [42])), (some (34, true)), []⟩,
 ⟨(some 37), .pick (.t 34) (.t 36) (.c (.bool false)), (some (31, true)), []⟩,
 ⟨(some 38), .un .not (.t 37), (some (31, true)), []⟩,
 ⟨(some 39), .pick (.t 31) (.t 38) (.c (.bool false)), none, []⟩])
 (.cond (.t 39)
 (.seq (.reg false [⟨(some 3), .mv (.c (.bool false)), none, []⟩])
  .ret)
 .skip))))
 (.reg false [⟨(some 40), .bin .add (.t 18) (.c (.int .i64 1)), none, []⟩,
 ⟨(some 18), .mv (.t 40), none, []⟩])))))))
 (.seq (.reg false [⟨(some 3), .mv (.c (.bool true)), none, []⟩])
 .ret)))))
/-- bastion/origin.tuple -/
def F78 : LFunc := .code 1 6 [.t 2]
 (.seq (.reg false [⟨(some 2), .mv (.c (.bool false)), none, []⟩])
 (.seq (.reg false [⟨(some 3), .lit [.str []] 5 1 [(0, 1, (.c (.str [102, 116, 112]))), (1, 1, (.c (.str [104, 116, 116, 112]))), (2, 1, (.c (.str [104, 116, 116, 112, 115]))), (3, 1, (.c (.str [119, 115]))), (4, 1, (.c (.str [119, 115, 115])))], none, []⟩,
 ⟨(some 4), .mv (.t 0), none, []⟩,
 ⟨(some 5), .call (.fn 163) [(.t 3), (.t 4)], none, []⟩,
 ⟨(some 2), .mv (.t 5), none, []⟩])
 .ret))
/-- bastion/pct.Decode -/
def F79 : LFunc := .code 1 52 [.t 2]
 (.seq (.reg false [⟨(some 2), .mv (.c (.str [])), none, []⟩])
 (.seq (.reg false [⟨(some 3), .mv (.c (.nilsl)), none, []⟩])
 (.seq (.block 0 (.loop (.seq (.seq (.reg false [⟨(some 8), .mv (.t 0), none, []⟩,
 ⟨(some 9), .bin .neq (.t 8) (.c (.str [])), none, []⟩])
 (.cond (.t 9)
 .skip
 (.exit 0)))
 (.block 1 (.seq (.seq (.reg false [⟨(some 10), .mv (.t 0), none, []⟩,
 ⟨(some 11), .idxStr (.t 10) (.c (.int .i64 0)), none, []⟩,
 ⟨(some 12), .bin .eql (.t 11) (.c (.int .u8 37)), none, []⟩,
 ⟨(some 13), .mv (.t 12), none, []⟩,
 ⟨(some 14), .mv (.t 0), (some (13, true)), []⟩,
 ⟨(some 15), .call (.builtin .lenStr) [(.t 14)], (some (13, true)), []⟩,
 ⟨(some 16), .bin .gtr (.t 15) (.c (.int .i64 2)), (some (13, true)), []⟩,
 ⟨(some 17), .pick (.t 13) (.t 16) (.c (.bool false)), none, []⟩])
 (.cond (.t 17)
 (.seq (.reg false [⟨(some 19), .mv (.t 0), none, []⟩,
  ⟨(some 20), .idxStr (.t 19) (.c (.int .i64 1)), none, []⟩,
  ⟨(some 21), .fail, none, []⟩,
  ⟨(some 18), .mv (.t 21), none, []⟩,
  ⟨(some 22), .extract 0 (.t 18), none, []⟩,
  ⟨(some 23), .extract 1 (.t 18), none, []⟩,
  ⟨(some 4), .mv (.t 22), none, []⟩,
  ⟨(some 5), .mv (.t 23), none, []⟩])
  (.seq (.reg false [⟨(some 25), .mv (.t 0), none, []⟩,
  ⟨(some 26), .idxStr (.t 25) (.c (.int .i64 2)), none, []⟩,
  ⟨(some 27), .fail, none, []⟩,
  ⟨(some 24), .mv (.t 27), none, []⟩,
  ⟨(some 28), .extract 0 (.t 24), none, []⟩,
  ⟨(some 29), .extract 1 (.t 24), none, []⟩,
  ⟨(some 6), .mv (.t 28), none, []⟩,
  ⟨(some 7), .mv (.t 29), none, []⟩])
  (.seq (.reg false [⟨(some 30), .mv (.t 5), none, []⟩,
  ⟨(some 31), .mv (.t 30), none, []⟩,
  ⟨(some 32), .mv (.t 7), (some (31, true)), []⟩,
  ⟨(some 33), .pick (.t 31) (.t 32) (.c (.bool false)), none, []⟩])
  (.cond (.t 33)
  (.seq (.reg false [⟨(some 34), .mv (.t 3), none, []⟩,
   ⟨(some 35), .mv (.t 4), none, []⟩,
   ⟨(some 36), .bin .shl (.t 35) (.c (.int .u64 4)), none, []⟩,
   ⟨(some 37), .mv (.t 6), none, []⟩,
   ⟨(some 38), .bin .or (.t 36) (.t 37), none, []⟩,
   ⟨(some 39), .lit [.int .u8 0] 1 1 [(0, 1, (.t 38))], none, []⟩,
   ⟨(some 40), .call (.builtin (.append 1 1 1 [.int .u8 0])) [(.t 34), (.t 39)], none, []⟩,
   ⟨(some 3), .mv (.t 40), none, []⟩])
   (.seq (.reg false [⟨(some 41), .mv (.t 0), none, []⟩,
   ⟨(some 42), .slStr (.t 41) (some (.c (.int .i64 3))) none, none, []⟩,
   ⟨(some 0), .mv (.t 42), none, []⟩])
   (.exit 1)))
  .skip))))
 .skip))
 (.seq (.reg false [⟨(some 43), .mv (.t 3), none, []⟩,
 ⟨(some 44), .mv (.t 0), none, []⟩,
 ⟨(some 45), .idxStr (.t 44) (.c (.int .i64 0)), none, []⟩,
 ⟨(some 46), .lit [.int .u8 0] 1 1 [(0, 1, (.t 45))], none, []⟩,
 ⟨(some 47), .call (.builtin (.append 1 1 1 [.int .u8 0])) [(.t 43), (.t 46)], none, []⟩,
 ⟨(some 3), .mv (.t 47), none, []⟩])
 (.reg false [⟨(some 48), .mv (.t 0), none, []⟩,
 ⟨(some 49), .slStr (.t 48) (some (.c (.int .i64 1))) none, none, []⟩,
 ⟨(some 0), .mv (.t 49), none, []⟩])))))))
 (.seq (.reg false [⟨(some 50), .mv (.t 3), none, []⟩,
 ⟨(some 51), .conv .ofBytes (.t 50), none, []⟩,
 ⟨(some 2), .mv (.t 51), none, []⟩])
 .ret))))
/-- bastion/pct.Encode -/
def F80 : LFunc := .code 2 38 [.t 4, .t 5]
 (.seq (.reg false [⟨(some 4), .mv (.c (.str [])), none, []⟩,
 ⟨(some 5), .mv (.c (.int .i64 0)), none, []⟩])
 (.seq (.seq (.reg false [⟨(some 9), .mv (.t 1), none, []⟩,
 ⟨(some 10), .bin .eql (.t 9) (.c (.int .u8 0)), none, []⟩,
 ⟨(some 11), .mv (.t 10), none, []⟩,
 ⟨(some 12), .mv (.t 1), (some (11, false)), []⟩,
 ⟨(some 13), .bin .geq (.t 12) (.c (.int .u8 9)), (some (11, false)), []⟩,
 ⟨(some 14), .pick (.t 11) (.c (.bool true)) (.t 13), none, []⟩])
 (.cond (.t 14)
 (.seq (.reg false [⟨(some 4), .mv (.c (.str [])), none, []⟩,
  ⟨(some 5), .mv (.c (.int .i64 5)), none, []⟩])
  .ret)
 .skip))
 (.seq (.reg false [⟨(some 6), .alloc [.nilptr, .nilsl] 2, none, []⟩])
 (.seq (.seq (.reg false [⟨(some 15), .mv (.t 0), none, []⟩,
 ⟨(some 16), .call (.builtin .lenStr) [(.t 15)], none, []⟩,
 ⟨(some 17), .mv (.c (.int .i64 0)), none, []⟩])
 (.block 0 (.loop (.seq (.reg false [⟨(some 18), .bin .lss (.t 17) (.t 16), none, []⟩])
 (.seq (.cond (.t 18)
 .skip
 (.exit 0))
 (.seq (.block 1 (.seq (.reg false [⟨(some 19), .mv (.t 17), none, []⟩,
 ⟨(some 7), .mv (.t 19), none, []⟩])
 (.seq (.reg false [⟨(some 20), .mv (.t 0), none, []⟩,
 ⟨(some 21), .mv (.t 7), none, []⟩,
 ⟨(some 22), .idxStr (.t 20) (.t 21), none, []⟩,
 ⟨(some 8), .mv (.t 22), none, []⟩])
 (.seq (.reg false [⟨(some 23), .mv (.t 1), none, []⟩,
 ⟨(some 24), .mv (.t 8), none, []⟩,
 ⟨(some 25), .call (.fn 81) [(.t 23), (.t 24)], none, []⟩])
 (.cond (.t 25)
 (.reg true [⟨(some 26), .mv (.t 8), none, []⟩,
  ⟨(some 27), .bin .shr (.t 26) (.c (.int .u64 4)), none, [0]⟩,
  ⟨(some 28), .idxStr (.c (.str [48, 49, 50, 51, 52, 53, 54, 55, 56, 57, 65, 66, 67, 68, 69, 70])) (.t 27), none, [1]⟩,
  ⟨(some 29), .mv (.t 8), none, []⟩,
  ⟨(some 30), .bin .and (.t 29) (.c (.int .u8 15)), none, [3]⟩,
  ⟨(some 31), .idxStr (.c (.str [48, 49, 50, 51, 52, 53, 54, 55, 56, 57, 65, 66, 67, 68, 69, 70])) (.t 30), none, [4]⟩,
  ⟨(some 32), .lit [.int .u8 0] 3 1 [(0, 1, (.c (.int .u8 37))), (1, 1, (.t 28)), (2, 1, (.t 31))], none, [2, 5]⟩,
  ⟨(some 33), .fail, none, [6]⟩])
 (.reg false [⟨(some 34), .mv (.t 8), none, []⟩,
  ⟨(some 35), .call (.fn 17) [(.t 6), (.t 34)], none, []⟩]))))))
 (.reg false [⟨(some 36), .bin .add (.t 17) (.c (.int .i64 1)), none, []⟩,
 ⟨(some 17), .mv (.t 36), none, []⟩])))))))
 (.seq (.reg false [⟨(some 37), .call (.fn 16) [(.t 6)], none, []⟩,
 ⟨(some 4), .mv (.t 37), none, []⟩,
 ⟨(some 5), .mv (.c (.int .i64 0)), none, []⟩])
 .ret)))))
/-- bastion/pct.In -/
def F81 : LFunc := .code 2 79 [.t 4]
 (.seq (.reg false [⟨(some 4), .mv (.c (.bool false)), none, []⟩])
 (.seq (.reg false [⟨(some 10), .mv (.t 1), none, []⟩,
 ⟨(some 11), .bin .lss (.t 10) (.c (.int .u8 32)), none, []⟩,
 ⟨(some 12), .mv (.t 11), none, []⟩,
 ⟨(some 13), .mv (.t 1), (some (12, false)), []⟩,
 ⟨(some 14), .bin .gtr (.t 13) (.c (.int .u8 126)), (some (12, false)), []⟩,
 ⟨(some 15), .pick (.t 12) (.c (.bool true)) (.t 14), none, []⟩,
 ⟨(some 5), .mv (.t 15), none, []⟩])
 (.seq (.reg false [⟨(some 16), .mv (.t 5), none, []⟩,
 ⟨(some 17), .mv (.t 16), none, []⟩,
 ⟨(some 18), .mv (.t 1), (some (17, false)), []⟩,
 ⟨(some 19), .lit [.int .u8 0] 5 1 [(0, 1, (.c (.int .u8 32))), (1, 1, (.c (.int .u8 34))), (2, 1, (.c (.int .u8 35))), (3, 1, (.c (.int .u8 60))), (4, 1, (.c (.int .u8 62)))], (some (17, false)), []⟩,
 ⟨(some 20), .call (.fn 83) [(.t 18), (.t 19)], (some (17, false)), []⟩,
 ⟨(some 21), .pick (.t 17) (.c (.bool true)) (.t 20), none, []⟩,
 ⟨(some 6), .mv (.t 21), none, []⟩])
 (.seq (.reg false [⟨(some 22), .mv (.t 6), none, []⟩,
 ⟨(some 23), .mv (.t 22), none, []⟩,
 ⟨(some 24), .mv (.t 1), (some (23, false)), []⟩,
 ⟨(some 25), .lit [.int .u8 0] 5 1 [(0, 1, (.c (.int .u8 63))), (1, 1, (.c (.int .u8 94))), (2, 1, (.c (.int .u8 96))), (3, 1, (.c (.int .u8 123))), (4, 1, (.c (.int .u8 125)))], (some (23, false)), []⟩,
 ⟨(some 26), .call (.fn 83) [(.t 24), (.t 25)], (some (23, false)), []⟩,
 ⟨(some 27), .pick (.t 23) (.c (.bool true)) (.t 26), none, []⟩,
 ⟨(some 7), .mv (.t 27), none, []⟩])
 (.seq (.reg false [⟨(some 28), .mv (.t 7), none, []⟩,
 ⟨(some 29), .mv (.t 28), none, []⟩,
 ⟨(some 30), .mv (.t 1), (some (29, false)), []⟩,
 ⟨(some 31), .lit [.int .u8 0] 9 1 [(0, 1, (.c (.int .u8 47))), (1, 1, (.c (.int .u8 58))), (2, 1, (.c (.int .u8 59))), (3, 1, (.c (.int .u8 61))), (4, 1, (.c (.int .u8 64))), (5, 1, (.c (.int .u8 91))), (6, 1, (.c (.int .u8 92))), (7, 1, (.c (.int .u8 93))), (8, 1, (.c (.int .u8 124)))], (some (29, false)), []⟩,
 ⟨(some 32), .call (.fn 83) [(.t 30), (.t 31)], (some (29, false)), []⟩,
 ⟨(some 33), .pick (.t 29) (.c (.bool true)) (.t 32), none, []⟩,
 ⟨(some 8), .mv (.t 33), none, []⟩])
 (.seq (.reg false [⟨(some 34), .mv (.t 8), none, []⟩,
 ⟨(some 35), .mv (.t 34), none, []⟩,
 ⟨(some 36), .mv (.t 1), (some (35, false)), []⟩,
 ⟨(some 37), .lit [.int .u8 0] 5 1 [(0, 1, (.c (.int .u8 36))), (1, 1, (.c (.int .u8 37))), (2, 1, (.c (.int .u8 38))), (3, 1, (.c (.int .u8 43))), (4, 1, (.c (.int .u8 44)))], (some (35, false)), []⟩,
 ⟨(some 38), .call (.fn 83) [(.t 36), (.t 37)], (some (35, false)), []⟩,
 ⟨(some 39), .pick (.t 35) (.c (.bool true)) (.t 38), none, []⟩,
 ⟨(some 9), .mv (.t 39), none, []⟩])
 (.seq (.seq (.reg false [⟨(some 40), .mv (.t 0), none, []⟩])
 (.block 0 (.seq (.reg false [⟨(some 42), .bin .eql (.t 40) (.c (.int .u8 1)), none, []⟩,
 ⟨(some 41), .mv (.t 42), none, []⟩])
 (.cond (.t 41)
 (.seq (.reg false [⟨(some 43), .mv (.t 5), none, []⟩,
  ⟨(some 4), .mv (.t 43), none, []⟩])
  .ret)
 (.seq (.reg false [⟨(some 45), .bin .eql (.t 40) (.c (.int .u8 2)), none, []⟩,
  ⟨(some 44), .mv (.t 45), none, []⟩])
  (.cond (.t 44)
  (.seq (.reg false [⟨(some 46), .mv (.t 5), none, []⟩,
   ⟨(some 47), .mv (.t 46), none, []⟩,
   ⟨(some 48), .mv (.t 1), (some (47, false)), []⟩,
   ⟨(some 49), .lit [.int .u8 0] 5 1 [(0, 1, (.c (.int .u8 32))), (1, 1, (.c (.int .u8 34))), (2, 1, (.c (.int .u8 60))), (3, 1, (.c (.int .u8 62))), (4, 1, (.c (.int .u8 96)))], (some (47, false)), []⟩,
   ⟨(some 50), .call (.fn 83) [(.t 48), (.t 49)], (some (47, false)), []⟩,
   ⟨(some 51), .pick (.t 47) (.c (.bool true)) (.t 50), none, []⟩,
   ⟨(some 4), .mv (.t 51), none, []⟩])
   .ret)
  (.seq (.reg false [⟨(some 53), .bin .eql (.t 40) (.c (.int .u8 3)), none, []⟩,
   ⟨(some 52), .mv (.t 53), none, []⟩])
   (.cond (.t 52)
   (.seq (.reg false [⟨(some 54), .mv (.t 6), none, []⟩,
    ⟨(some 4), .mv (.t 54), none, []⟩])
    .ret)
   (.seq (.reg false [⟨(some 56), .bin .eql (.t 40) (.c (.int .u8 4)), none, []⟩,
    ⟨(some 55), .mv (.t 56), none, []⟩])
    (.cond (.t 55)
    (.seq (.reg false [⟨(some 57), .mv (.t 6), none, []⟩,
     ⟨(some 58), .mv (.t 57), none, []⟩,
     ⟨(some 59), .mv (.t 1), (some (58, false)), []⟩,
     ⟨(some 60), .bin .eql (.t 59) (.c (.int .u8 39)), (some (58, false)), []⟩,
     ⟨(some 61), .pick (.t 58) (.c (.bool true)) (.t 60), none, []⟩,
     ⟨(some 4), .mv (.t 61), none, []⟩])
     .ret)
    (.seq (.reg false [⟨(some 63), .bin .eql (.t 40) (.c (.int .u8 5)), none, []⟩,
     ⟨(some 62), .mv (.t 63), none, []⟩])
     (.cond (.t 62)
     (.seq (.reg false [⟨(some 64), .mv (.t 7), none, []⟩,
      ⟨(some 4), .mv (.t 64), none, []⟩])
      .ret)
     (.seq (.reg false [⟨(some 66), .bin .eql (.t 40) (.c (.int .u8 6)), none, []⟩,
      ⟨(some 65), .mv (.t 66), none, []⟩])
      (.cond (.t 65)
      (.seq (.reg false [⟨(some 67), .mv (.t 8), none, []⟩,
       ⟨(some 4), .mv (.t 67), none, []⟩])
       .ret)
      (.seq (.reg false [⟨(some 69), .bin .eql (.t 40) (.c (.int .u8 7)), none, []⟩,
       ⟨(some 68), .mv (.t 69), none, []⟩])
       (.cond (.t 68)
       (.seq (.reg false [⟨(some 70), .mv (.t 9), none, []⟩,
        ⟨(some 4), .mv (.t 70), none, []⟩])
        .ret)
       (.seq (.reg false [⟨(some 72), .bin .eql (.t 40) (.c (.int .u8 8)), none, []⟩,
        ⟨(some 71), .mv (.t 72), none, []⟩])
        (.cond (.t 71)
        (.seq (.reg false [⟨(some 73), .mv (.t 9), none, []⟩,
         ⟨(some 74), .mv (.t 73), none, []⟩,
         ⟨(some 75), .mv (.t 1), (some (74, false)), []⟩,
         ⟨(some 76), .lit [.int .u8 0] 5 1 [(0, 1, (.c (.int .u8 33))), (1, 1, (.c (.int .u8 39))), (2, 1, (.c (.int .u8 40))), (3, 1, (.c (.int .u8 41))), (4, 1, (.c (.int .u8 126)))], (some (74, false)), []⟩,
         ⟨(some 77), .call (.fn 83) [(.t 75), (.t 76)], (some (74, false)), []⟩,
         ⟨(some 78), .pick (.t 74) (.c (.bool true)) (.t 77), none, []⟩,
         ⟨(some 4), .mv (.t 78), none, []⟩])
         .ret)
        .skip))))))))))))))))))
 (.seq (.reg false [⟨(some 4), .mv (.c (.bool false)), none, []⟩])
 .ret))))))))
/-- bastion/pct.Lower -/
def F82 : LFunc := .code 1 5 [.t 2]
 (.seq (.reg false [⟨(some 2), .mv (.c (.str [])), none, []⟩])
 (.seq (.reg false [⟨(some 3), .mv (.t 0), none, []⟩,
 ⟨(some 4), .call (.fn 84) [(.t 3), (.c (.int .u8 65)), (.c (.int .u8 90)), (.c (.int .u8 32))], none, []⟩,
 ⟨(some 2), .mv (.t 4), none, []⟩])
 .ret))
/-- bastion/pct.more -/
def F83 : LFunc := .code 2 17 [.t 4]
 (.seq (.reg false [⟨(some 4), .mv (.c (.bool false)), none, []⟩])
 (.seq (.seq (.reg false [⟨(some 7), .mv (.t 1), none, []⟩,
 ⟨(some 8), .call (.builtin .lenSl) [(.t 7)], none, []⟩,
 ⟨(some 9), .mv (.c (.int .i64 0)), none, []⟩])
 (.block 0 (.loop (.seq (.reg false [⟨(some 10), .bin .lss (.t 9) (.t 8), none, []⟩])
 (.seq (.cond (.t 10)
 .skip
 (.exit 0))
 (.seq (.block 1 (.seq (.reg false [⟨(some 11), .idxAddr 1 (.t 7) (.t 9), none, []⟩,
 ⟨(some 12), .load 1 false (.t 11), none, []⟩,
 ⟨(some 6), .mv (.t 12), none, []⟩])
 (.seq (.reg false [⟨(some 13), .mv (.t 6), none, []⟩,
 ⟨(some 14), .mv (.t 0), none, []⟩,
 ⟨(some 15), .bin .eql (.t 13) (.t 14), none, []⟩])
 (.cond (.t 15)
 (.seq (.reg false [⟨(some 4), .mv (.c (.bool true)), none, []⟩])
  .ret)
 .skip))))
 (.reg false [⟨(some 16), .bin .add (.t 9) (.c (.int .i64 1)), none, []⟩,
 ⟨(some 9), .mv (.t 16), none, []⟩])))))))
 (.seq (.reg false [⟨(some 4), .mv (.c (.bool false)), none, []⟩])
 .ret)))
/-- bastion/pct.turned -/
def F84 : LFunc := .code 4 38 [.t 8]
 (.seq (.reg false [⟨(some 8), .mv (.c (.str [])), none, []⟩])
 (.seq (.reg false [⟨(some 12), .mv (.t 0), none, []⟩,
 ⟨(some 13), .conv (.toBytes 1) (.t 12), none, []⟩,
 ⟨(some 9), .mv (.t 13), none, []⟩])
 (.seq (.seq (.reg false [⟨(some 14), .mv (.t 9), none, []⟩,
 ⟨(some 15), .call (.builtin .lenSl) [(.t 14)], none, []⟩,
 ⟨(some 16), .mv (.c (.int .i64 0)), none, []⟩])
 (.block 0 (.loop (.seq (.reg false [⟨(some 17), .bin .lss (.t 16) (.t 15), none, []⟩])
 (.seq (.cond (.t 17)
 .skip
 (.exit 0))
 (.seq (.block 1 (.seq (.reg false [⟨(some 18), .mv (.t 16), none, []⟩,
 ⟨(some 19), .idxAddr 1 (.t 14) (.t 16), none, []⟩,
 ⟨(some 20), .load 1 false (.t 19), none, []⟩,
 ⟨(some 10), .mv (.t 18), none, []⟩,
 ⟨(some 11), .mv (.t 20), none, []⟩])
 (.seq (.reg false [⟨(some 21), .mv (.t 11), none, []⟩,
 ⟨(some 22), .mv (.t 1), none, []⟩,
 ⟨(some 23), .bin .geq (.t 21) (.t 22), none, []⟩,
 ⟨(some 24), .mv (.t 23), none, []⟩,
 ⟨(some 25), .mv (.t 11), (some (24, true)), []⟩,
 ⟨(some 26), .mv (.t 2), (some (24, true)), []⟩,
 ⟨(some 27), .bin .leq (.t 25) (.t 26), (some (24, true)), []⟩,
 ⟨(some 28), .pick (.t 24) (.t 27) (.c (.bool false)), none, []⟩])
 (.cond (.t 28)
 (.reg false [⟨(some 29), .mv (.t 9), none, []⟩,
  ⟨(some 30), .mv (.t 10), none, []⟩,
  ⟨(some 31), .mv (.t 11), none, []⟩,
  ⟨(some 32), .mv (.t 3), none, []⟩,
  ⟨(some 33), .bin .xor (.t 31) (.t 32), none, []⟩,
  ⟨(some 34), .idxAddr 1 (.t 29) (.t 30), none, []⟩,
  ⟨none, .store 1 (.t 34) (.t 33), none, []⟩])
 .skip))))
 (.reg false [⟨(some 35), .bin .add (.t 16) (.c (.int .i64 1)), none, []⟩,
 ⟨(some 16), .mv (.t 35), none, []⟩])))))))
 (.seq (.reg false [⟨(some 36), .mv (.t 9), none, []⟩,
 ⟨(some 37), .conv .ofBytes (.t 36), none, []⟩,
 ⟨(some 8), .mv (.t 37), none, []⟩])
 .ret))))
/-- bastion/tables.Check -/
def F85 : LFunc := .code 1 66 [.t 2]
 (.seq (.reg false [⟨(some 1), .box 0 (.t 0), none, []⟩,
 ⟨(some 2), .mv (.c (.int .i64 0)), none, []⟩])
 (.seq (.seq (.reg false [⟨(some 7), .fieldAddr 0 (.t 1), none, []⟩,
 ⟨(some 8), .load 1 false (.t 7), none, []⟩,
 ⟨(some 9), .call (.builtin .lenSl) [(.t 8)], none, []⟩,
 ⟨(some 10), .fieldAddr 1 (.t 1), none, []⟩,
 ⟨(some 11), .load 1 false (.t 10), none, []⟩,
 ⟨(some 12), .call (.builtin .lenSl) [(.t 11)], none, []⟩,
 ⟨(some 13), .fieldAddr 2 (.t 1), none, []⟩,
 ⟨(some 14), .load 1 false (.t 13), none, []⟩,
 ⟨(some 15), .call (.builtin .lenSl) [(.t 14)], none, []⟩,
 ⟨(some 16), .fieldAddr 3 (.t 1), none, []⟩,
 ⟨(some 17), .load 1 false (.t 16), none, []⟩,
 ⟨(some 18), .call (.builtin .lenSl) [(.t 17)], none, []⟩,
 ⟨(some 19), .fieldAddr 4 (.t 1), none, []⟩,
 ⟨(some 20), .load 1 false (.t 19), none, []⟩,
 ⟨(some 21), .call (.builtin .lenSl) [(.t 20)], none, []⟩,
 ⟨(some 22), .call (.builtin .max) [(.t 9), (.t 12), (.t 15), (.t 18), (.t 21)], none, []⟩,
 ⟨(some 23), .bin .gtr (.t 22) (.c (.int .i64 1024)), none, []⟩])
 (.cond (.t 23)
 (.seq (.reg false [⟨(some 2), .mv (.c (.int .i64 3)), none, []⟩])
  .ret)
 .skip))
 (.seq (.reg false [⟨(some 24), .mkMap, none, []⟩,
 ⟨(some 3), .alloc [.nilmap] 0, none, []⟩,
 ⟨none, .store 1 (.t 3) (.t 24), none, []⟩])
 (.seq (.reg false [⟨(some 25), .fieldAddr 0 (.t 1), none, []⟩,
 ⟨(some 26), .load 1 false (.t 25), none, []⟩,
 ⟨(some 27), .call (.fn 107) [(.t 26), (.f 102), (.f 86)], none, []⟩,
 ⟨(some 4), .mv (.t 27), none, []⟩])
 (.seq (.reg false [⟨(some 28), .mv (.t 4), none, []⟩,
 ⟨(some 29), .mv (.t 28), none, []⟩,
 ⟨(some 30), .fieldAddr 1 (.t 1), (some (29, true)), []⟩,
 ⟨(some 31), .load 1 false (.t 30), (some (29, true)), []⟩,
 ⟨(some 32), .call (.fn 104) [(.t 31), (.f 219), (.f 220)], (some (29, true)), []⟩,
 ⟨(some 33), .pick (.t 29) (.t 32) (.c (.bool false)), none, []⟩,
 ⟨(some 4), .mv (.t 33), none, []⟩])
 (.seq (.reg false [⟨(some 34), .mv (.t 4), none, []⟩,
 ⟨(some 35), .mv (.t 34), none, []⟩,
 ⟨(some 36), .fieldAddr 2 (.t 1), (some (35, true)), []⟩,
 ⟨(some 37), .load 1 false (.t 36), (some (35, true)), []⟩,
 ⟨(some 38), .mkFunc 221 [] [(.t 3)], (some (35, true)), []⟩,
 ⟨(some 39), .call (.fn 106) [(.t 37), (.f 222), (.t 38)], (some (35, true)), []⟩,
 ⟨(some 40), .pick (.t 35) (.t 39) (.c (.bool false)), none, []⟩,
 ⟨(some 4), .mv (.t 40), none, []⟩])
 (.seq (.reg false [⟨(some 41), .mv (.t 4), none, []⟩,
 ⟨(some 42), .mv (.t 41), none, []⟩,
 ⟨(some 43), .fieldAddr 3 (.t 1), (some (42, true)), []⟩,
 ⟨(some 44), .load 1 false (.t 43), (some (42, true)), []⟩,
 ⟨(some 45), .call (.fn 108) [(.t 44), (.f 103), (.f 88)], (some (42, true)), []⟩,
 ⟨(some 46), .pick (.t 42) (.t 45) (.c (.bool false)), none, []⟩,
 ⟨(some 4), .mv (.t 46), none, []⟩])
 (.seq (.reg false [⟨(some 47), .mv (.t 4), none, []⟩,
 ⟨(some 48), .mv (.t 47), none, []⟩,
 ⟨(some 49), .fieldAddr 4 (.t 1), (some (48, true)), []⟩,
 ⟨(some 50), .load 1 false (.t 49), (some (48, true)), []⟩,
 ⟨(some 51), .call (.fn 105) [(.t 50), (.f 223), (.f 224)], (some (48, true)), []⟩,
 ⟨(some 52), .pick (.t 48) (.t 51) (.c (.bool false)), none, []⟩,
 ⟨(some 4), .mv (.t 52), none, []⟩])
 (.seq (.seq (.reg false [⟨(some 53), .load 1 false (.t 3), none, []⟩,
 ⟨(some 54), .rangeMap (.t 53), none, []⟩])
 (.block 0 (.loop (.seq (.reg false [⟨(some 55), .nextMap (.t 54), none, []⟩,
 ⟨(some 56), .extract 0 (.t 55), none, []⟩])
 (.seq (.cond (.t 56)
 .skip
 (.exit 0))
 (.block 1 (.seq (.reg false [⟨(some 57), .fail, none, []⟩,
 ⟨(some 58), .extract 1 (.t 57), none, []⟩,
 ⟨(some 6), .mv (.t 58), none, []⟩])
 (.reg false [⟨(some 59), .mv (.t 4), none, []⟩,
 ⟨(some 60), .mv (.t 59), none, []⟩,
 ⟨(some 61), .mv (.t 6), (some (60, true)), []⟩,
 ⟨(some 62), .bin .eql (.t 61) (.c (.int .i64 1)), (some (60, true)), []⟩,
 ⟨(some 63), .pick (.t 60) (.t 62) (.c (.bool false)), none, []⟩,
 ⟨(some 4), .mv (.t 63), none, []⟩]))))))))
 (.seq (.seq (.reg false [⟨(some 64), .mv (.t 4), none, []⟩,
 ⟨(some 65), .un .not (.t 64), none, []⟩])
 (.cond (.t 65)
 (.seq (.reg false [⟨(some 2), .mv (.c (.int .i64 2)), none, []⟩])
  .ret)
 .skip))
 (.seq (.reg false [⟨(some 2), .mv (.c (.int .i64 0)), none, []⟩])
 .ret)))))))))))
/-- bastion/tables.Check$1 -/
def F86 : LFunc := .code 1 31 [.t 2]
 (.seq (.reg false [⟨(some 1), .box 0 (.t 0), none, []⟩,
 ⟨(some 2), .mv (.c (.bool false)), none, []⟩])
 (.seq (.reg false [⟨(some 4), .fieldAddr 3 (.t 1), none, []⟩,
 ⟨(some 5), .load 1 false (.t 4), none, []⟩,
 ⟨(some 6), .call (.fn 159) [(.t 5), (.f 87)], none, []⟩,
 ⟨(some 3), .mv (.t 6), none, []⟩])
 (.seq (.reg false [⟨(some 7), .fieldAddr 2 (.t 1), none, []⟩,
 ⟨(some 8), .load 1 false (.t 7), none, []⟩,
 ⟨(some 9), .bin .lss (.t 8) (.c (.int .u8 4)), none, []⟩,
 ⟨(some 10), .mv (.t 9), none, []⟩,
 ⟨(some 11), .fieldAddr 3 (.t 1), (some (10, true)), []⟩,
 ⟨(some 12), .load 1 false (.t 11), (some (10, true)), []⟩,
 ⟨(some 13), .call (.builtin .lenSl) [(.t 12)], (some (10, true)), []⟩,
 ⟨(some 14), .bin .leq (.t 13) (.c (.int .i64 8)), (some (10, true)), []⟩,
 ⟨(some 15), .pick (.t 10) (.t 14) (.c (.bool false)), none, []⟩,
 ⟨(some 16), .mv (.t 15), none, []⟩,
 ⟨(some 17), .mv (.t 3), (some (16, true)), []⟩,
 ⟨(some 18), .un .not (.t 17), (some (16, true)), []⟩,
 ⟨(some 19), .pick (.t 16) (.t 18) (.c (.bool false)), none, []⟩,
 ⟨(some 20), .mv (.t 19), none, []⟩,
 ⟨(some 21), .fieldAddr 3 (.t 1), (some (20, true)), []⟩,
 ⟨(some 22), .load 1 false (.t 21), (some (20, true)), []⟩,
 ⟨(some 23), .call (.builtin .lenSl) [(.t 22)], (some (20, true)), []⟩,
 ⟨(some 24), .bin .eql (.t 23) (.c (.int .i64 0)), (some (20, true)), []⟩,
 ⟨(some 25), .mv (.t 24), (some (20, true)), []⟩,
 ⟨(some 26), .fieldAddr 2 (.t 1), (some (25, false)), []⟩,
 ⟨(some 27), .load 1 false (.t 26), (some (25, false)), []⟩,
 ⟨(some 28), .bin .eql (.t 27) (.c (.int .u8 2)), (some (25, false)), []⟩,
 ⟨(some 29), .pick (.t 25) (.c (.bool true)) (.t 28), (some (20, true)), []⟩,
 ⟨(some 30), .pick (.t 20) (.t 29) (.c (.bool false)), none, []⟩,
 ⟨(some 2), .mv (.t 30), none, []⟩])
 .ret)))
/-- bastion/tables.Check$1$1 -/
def F87 : LFunc := .code 1 6 [.t 2]
 (.seq (.reg false [⟨(some 2), .mv (.c (.bool false)), none, []⟩])
 (.seq (.reg false [⟨(some 3), .mv (.t 0), none, []⟩,
 ⟨(some 4), .call (.fn 101) [(.t 3)], none, []⟩,
 ⟨(some 5), .un .not (.t 4), none, []⟩,
 ⟨(some 2), .mv (.t 5), none, []⟩])
 .ret))
/-- bastion/tables.Check$4 -/
def F88 : LFunc := .code 1 11 [.t 2]
 (.seq (.reg false [⟨(some 1), .box 0 (.t 0), none, []⟩,
 ⟨(some 2), .mv (.c (.bool false)), none, []⟩])
 (.seq (.reg false [⟨(some 3), .fieldAddr 2 (.t 1), none, []⟩,
 ⟨(some 4), .load 1 false (.t 3), none, []⟩,
 ⟨(some 5), .bin .neq (.t 4) (.c (.int .u8 0)), none, []⟩,
 ⟨(some 6), .mv (.t 5), none, []⟩,
 ⟨(some 7), .fieldAddr 2 (.t 1), (some (6, true)), []⟩,
 ⟨(some 8), .load 1 false (.t 7), (some (6, true)), []⟩,
 ⟨(some 9), .bin .lss (.t 8) (.c (.int .u8 12)), (some (6, true)), []⟩,
 ⟨(some 10), .pick (.t 6) (.t 9) (.c (.bool false)), none, []⟩,
 ⟨(some 2), .mv (.t 10), none, []⟩])
 .ret))
/-- bastion/tables.Class -/
def F89 : LFunc := .code 2 16 [.t 4]
 (.seq (.reg false [⟨(some 2), .box 0 (.t 0), none, []⟩,
 ⟨(some 4), .mv (.c (.int .u8 0)), none, []⟩])
 (.seq (.reg false [⟨(some 8), .fieldAddr 1 (.t 2), none, []⟩,
 ⟨(some 9), .load 1 false (.t 8), none, []⟩,
 ⟨(some 10), .mv (.t 1), none, []⟩,
 ⟨(some 11), .call (.fn 95) [(.t 9), (.t 10), (.f 219)], none, []⟩,
 ⟨(some 7), .mv (.t 11), none, []⟩,
 ⟨(some 12), .extract 0 (.t 7), none, []⟩,
 ⟨(some 13), .extract 1 (.t 7), none, []⟩,
 ⟨(some 5), .alloc [.int .i32 0, .int .u8 0] 0, none, []⟩,
 ⟨none, .store 2 (.t 5) (.t 12), none, []⟩,
 ⟨(some 6), .mv (.t 13), none, []⟩])
 (.seq (.reg false [⟨(some 14), .fieldAddr 1 (.t 5), none, []⟩,
 ⟨(some 15), .load 1 false (.t 14), none, []⟩,
 ⟨(some 4), .mv (.t 15), none, []⟩])
 .ret)))
/-- bastion/tables.Pair -/
def F90 : LFunc := .code 2 12 [.cell 4 4 true, .t 5]
 (.seq (.reg false [⟨(some 2), .box 0 (.t 0), none, []⟩,
 ⟨(some 4), .alloc [.int .i32 0, .int .i32 0, .int .i32 0, .bool false] 0, none, []⟩,
 ⟨(some 5), .mv (.c (.bool false)), none, []⟩])
 (.seq (.reg false [⟨(some 6), .fieldAddr 2 (.t 2), none, []⟩,
 ⟨(some 7), .load 1 false (.t 6), none, []⟩,
 ⟨(some 8), .mv (.t 1), none, []⟩,
 ⟨(some 9), .call (.fn 96) [(.t 7), (.t 8), (.f 222)], none, []⟩,
 ⟨(some 10), .extract 0 (.t 9), none, []⟩,
 ⟨(some 11), .extract 1 (.t 9), none, []⟩,
 ⟨none, .store 4 (.t 4) (.t 10), none, []⟩,
 ⟨(some 5), .mv (.t 11), none, []⟩])
 .ret))
/-- bastion/tables.Plain -/
def F91 : LFunc := .code 0 59 [.cell 0 5 true]
 (.seq (.reg false [⟨(some 0), .alloc [.nilsl, .nilsl, .nilsl, .nilsl, .nilsl] 0, none, []⟩])
 (.seq (.reg false [⟨(some 1), .alloc [.nilsl, .nilsl, .nilsl, .nilsl, .nilsl] 0, none, []⟩])
 (.seq (.reg false [⟨(some 6), .mkFunc 92 [] [(.t 1)], none, []⟩,
 ⟨(some 2), .mv (.t 6), none, []⟩])
 (.seq (.reg false [⟨(some 7), .mv (.t 2), none, []⟩,
 ⟨(some 8), .call (.val (.t 7)) [(.c (.int .i32 0)), (.c (.int .i32 44)), (.c (.int .u8 3))], none, []⟩])
 (.seq (.reg false [⟨(some 9), .mv (.t 2), none, []⟩,
 ⟨(some 10), .call (.val (.t 9)) [(.c (.int .i32 45)), (.c (.int .i32 46)), (.c (.int .u8 0))], none, []⟩])
 (.seq (.reg false [⟨(some 11), .mv (.t 2), none, []⟩,
 ⟨(some 12), .call (.val (.t 11)) [(.c (.int .i32 47)), (.c (.int .i32 47)), (.c (.int .u8 3))], none, []⟩])
 (.seq (.reg false [⟨(some 13), .mv (.t 2), none, []⟩,
 ⟨(some 14), .call (.val (.t 13)) [(.c (.int .i32 48)), (.c (.int .i32 57)), (.c (.int .u8 0))], none, []⟩])
 (.seq (.reg false [⟨(some 15), .mv (.t 2), none, []⟩,
 ⟨(some 16), .call (.val (.t 15)) [(.c (.int .i32 58)), (.c (.int .i32 64)), (.c (.int .u8 3))], none, []⟩])
 (.seq (.seq (.reg false [⟨(some 3), .mv (.c (.int .i32 65)), none, []⟩])
 (.block 0 (.loop (.seq (.seq (.reg false [⟨(some 17), .mv (.t 3), none, []⟩,
 ⟨(some 18), .bin .leq (.t 17) (.c (.int .i32 90)), none, []⟩])
 (.cond (.t 18)
 .skip
 (.exit 0)))
 (.seq (.block 1 (.reg false [⟨(some 21), .fieldAddr 0 (.t 1), none, []⟩,
 ⟨(some 22), .load 1 false (.t 21), none, []⟩,
 ⟨(some 23), .mv (.t 3), none, []⟩,
 ⟨(some 24), .mv (.t 3), none, []⟩,
 ⟨(some 25), .mv (.t 3), none, []⟩,
 ⟨(some 26), .bin .add (.t 25) (.c (.int .i32 32)), none, []⟩,
 ⟨(some 27), .lit [.int .i32 0] 1 1 [(0, 1, (.t 26))], none, []⟩,
 ⟨(some 28), .build [.int .i32 0, .int .i32 0, .int .u8 0, .nilsl] [(0, 1, (.t 23)), (1, 1, (.t 24)), (2, 1, (.c (.int .u8 2))), (3, 1, (.t 27))], none, []⟩,
 ⟨(some 29), .lit [.int .i32 0, .int .i32 0, .int .u8 0, .nilsl] 1 4 [(0, 4, (.t 28))], none, []⟩,
 ⟨(some 30), .call (.builtin (.append 4 40 0 [.int .i32 0, .int .i32 0, .int .u8 0, .nilsl])) [(.t 22), (.t 29)], none, []⟩,
 ⟨(some 31), .fieldAddr 0 (.t 1), none, []⟩,
 ⟨none, .store 1 (.t 31) (.t 30), none, []⟩]))
 (.reg false [⟨(some 19), .mv (.t 3), none, []⟩,
 ⟨(some 20), .bin .add (.t 19) (.c (.int .i32 1)), none, []⟩,
 ⟨(some 3), .mv (.t 20), none, []⟩]))))))
 (.seq (.reg false [⟨(some 32), .mv (.t 2), none, []⟩,
 ⟨(some 33), .call (.val (.t 32)) [(.c (.int .i32 91)), (.c (.int .i32 96)), (.c (.int .u8 3))], none, []⟩])
 (.seq (.reg false [⟨(some 34), .mv (.t 2), none, []⟩,
 ⟨(some 35), .call (.val (.t 34)) [(.c (.int .i32 97)), (.c (.int .i32 122)), (.c (.int .u8 0))], none, []⟩])
 (.seq (.reg false [⟨(some 36), .mv (.t 2), none, []⟩,
 ⟨(some 37), .call (.val (.t 36)) [(.c (.int .i32 123)), (.c (.int .i32 127)), (.c (.int .u8 3))], none, []⟩])
 (.seq (.seq (.reg false [⟨(some 38), .build [.int .i32 0, .int .i32 0, .int .u8 0] [(0, 1, (.c (.int .i32 43))), (1, 1, (.c (.int .i32 43))), (2, 1, (.c (.int .u8 6)))], none, []⟩,
 ⟨(some 39), .build [.int .i32 0, .int .i32 0, .int .u8 0] [(0, 1, (.c (.int .i32 44))), (1, 1, (.c (.int .i32 44))), (2, 1, (.c (.int .u8 7)))], none, []⟩,
 ⟨(some 40), .build [.int .i32 0, .int .i32 0, .int .u8 0] [(0, 1, (.c (.int .i32 45))), (1, 1, (.c (.int .i32 45))), (2, 1, (.c (.int .u8 6)))], none, []⟩,
 ⟨(some 41), .build [.int .i32 0, .int .i32 0, .int .u8 0] [(0, 1, (.c (.int .i32 46))), (1, 1, (.c (.int .i32 47))), (2, 1, (.c (.int .u8 7)))], none, []⟩,
 ⟨(some 42), .build [.int .i32 0, .int .i32 0, .int .u8 0] [(0, 1, (.c (.int .i32 48))), (1, 1, (.c (.int .i32 57))), (2, 1, (.c (.int .u8 5)))], none, []⟩,
 ⟨(some 43), .build [.int .i32 0, .int .i32 0, .int .u8 0] [(0, 1, (.c (.int .i32 65))), (1, 1, (.c (.int .i32 90))), (2, 1, (.c (.int .u8 1)))], none, []⟩,
 ⟨(some 44), .build [.int .i32 0, .int .i32 0, .int .u8 0] [(0, 1, (.c (.int .i32 97))), (1, 1, (.c (.int .i32 122))), (2, 1, (.c (.int .u8 1)))], none, []⟩,
 ⟨(some 45), .lit [.int .i32 0, .int .i32 0, .int .u8 0] 7 3 [(0, 3, (.t 38)), (3, 3, (.t 39)), (6, 3, (.t 40)), (9, 3, (.t 41)), (12, 3, (.t 42)), (15, 3, (.t 43)), (18, 3, (.t 44))], none, []⟩,
 ⟨(some 46), .call (.builtin .lenSl) [(.t 45)], none, []⟩,
 ⟨(some 47), .mv (.c (.int .i64 0)), none, []⟩])
 (.block 2 (.loop (.seq (.reg false [⟨(some 48), .bin .lss (.t 47) (.t 46), none, []⟩])
 (.seq (.cond (.t 48)
 .skip
 (.exit 2))
 (.seq (.block 3 (.seq (.reg false [⟨(some 49), .idxAddr 3 (.t 45) (.t 47), none, []⟩,
 ⟨(some 50), .load 3 true (.t 49), none, []⟩,
 ⟨(some 5), .alloc [.int .i32 0, .int .i32 0, .int .u8 0] 0, none, []⟩,
 ⟨none, .store 3 (.t 5) (.t 50), none, []⟩])
 (.reg false [⟨(some 51), .fieldAddr 3 (.t 1), none, []⟩,
 ⟨(some 52), .load 1 false (.t 51), none, []⟩,
 ⟨(some 53), .load 3 true (.t 5), none, []⟩,
 ⟨(some 54), .lit [.int .i32 0, .int .i32 0, .int .u8 0] 1 3 [(0, 3, (.t 53))], none, []⟩,
 ⟨(some 55), .call (.builtin (.append 3 12 0 [.int .i32 0, .int .i32 0, .int .u8 0])) [(.t 52), (.t 54)], none, []⟩,
 ⟨(some 56), .fieldAddr 3 (.t 1), none, []⟩,
 ⟨none, .store 1 (.t 56) (.t 55), none, []⟩])))
 (.reg false [⟨(some 57), .bin .add (.t 47) (.c (.int .i64 1)), none, []⟩,
 ⟨(some 47), .mv (.t 57), none, []⟩])))))))
 (.seq (.reg false [⟨(some 58), .load 5 true (.t 1), none, []⟩,
 ⟨none, .store 5 (.t 0) (.t 58), none, []⟩])
 .ret))))))))))))))
/-- bastion/tables.Plain$1 -/
def F92 : LFunc := .code 4 16 []
 (.reg false [⟨(some 7), .fieldAddr 0 (.t 3), none, []⟩,
 ⟨(some 8), .load 1 false (.t 7), none, []⟩,
 ⟨(some 9), .mv (.t 0), none, []⟩,
 ⟨(some 10), .mv (.t 1), none, []⟩,
 ⟨(some 11), .mv (.t 2), none, []⟩,
 ⟨(some 12), .build [.int .i32 0, .int .i32 0, .int .u8 0, .nilsl] [(0, 1, (.t 9)), (1, 1, (.t 10)), (2, 1, (.t 11))], none, []⟩,
 ⟨(some 13), .lit [.int .i32 0, .int .i32 0, .int .u8 0, .nilsl] 1 4 [(0, 4, (.t 12))], none, []⟩,
 ⟨(some 14), .call (.builtin (.append 4 40 0 [.int .i32 0, .int .i32 0, .int .u8 0, .nilsl])) [(.t 8), (.t 13)], none, []⟩,
 ⟨(some 15), .fieldAddr 0 (.t 3), none, []⟩,
 ⟨none, .store 1 (.t 15) (.t 14), none, []⟩])
/-- bastion/tables.Status -/
def F93 : LFunc := .code 2 22 [.t 4, .t 5]
 (.seq (.reg false [⟨(some 2), .box 0 (.t 0), none, []⟩,
 ⟨(some 4), .mv (.c (.int .u8 0)), none, []⟩,
 ⟨(some 5), .mv (.c (.nilsl)), none, []⟩])
 (.seq (.reg false [⟨(some 9), .fieldAddr 0 (.t 2), none, []⟩,
 ⟨(some 10), .load 1 false (.t 9), none, []⟩,
 ⟨(some 11), .mv (.t 1), none, []⟩,
 ⟨(some 12), .call (.fn 97) [(.t 10), (.t 11), (.f 102)], none, []⟩,
 ⟨(some 8), .mv (.t 12), none, []⟩,
 ⟨(some 13), .extract 0 (.t 8), none, []⟩,
 ⟨(some 14), .extract 1 (.t 8), none, []⟩,
 ⟨(some 6), .alloc [.int .i32 0, .int .i32 0, .int .u8 0, .nilsl] 0, none, []⟩,
 ⟨none, .store 4 (.t 6) (.t 13), none, []⟩,
 ⟨(some 7), .mv (.t 14), none, []⟩])
 (.seq (.seq (.reg false [⟨(some 15), .mv (.t 7), none, []⟩,
 ⟨(some 16), .un .not (.t 15), none, []⟩])
 (.cond (.t 16)
 (.seq (.reg false [⟨(some 4), .mv (.c (.int .u8 3)), none, []⟩,
  ⟨(some 5), .mv (.c (.nilsl)), none, []⟩])
  .ret)
 .skip))
 (.seq (.reg true [⟨(some 17), .fieldAddr 2 (.t 6), none, []⟩,
 ⟨(some 18), .load 1 false (.t 17), none, [0]⟩,
 ⟨(some 19), .fieldAddr 3 (.t 6), none, []⟩,
 ⟨(some 20), .load 1 false (.t 19), none, [2]⟩,
 ⟨(some 21), .call (.fn 155) [(.t 20)], none, [3]⟩,
 ⟨(some 4), .mv (.t 18), none, [1, 4, 0, 1]⟩,
 ⟨(some 5), .mv (.t 21), none, [4, 5, 0, 1, 2, 3, 4, 5]⟩])
 .ret))))
/-- bastion/tables.Way -/
def F94 : LFunc := .code 2 16 [.t 4]
 (.seq (.reg false [⟨(some 2), .box 0 (.t 0), none, []⟩,
 ⟨(some 4), .mv (.c (.int .u8 0)), none, []⟩])
 (.seq (.reg false [⟨(some 8), .fieldAddr 3 (.t 2), none, []⟩,
 ⟨(some 9), .load 1 false (.t 8), none, []⟩,
 ⟨(some 10), .mv (.t 1), none, []⟩,
 ⟨(some 11), .call (.fn 99) [(.t 9), (.t 10), (.f 103)], none, []⟩,
 ⟨(some 7), .mv (.t 11), none, []⟩,
 ⟨(some 12), .extract 0 (.t 7), none, []⟩,
 ⟨(some 13), .extract 1 (.t 7), none, []⟩,
 ⟨(some 5), .alloc [.int .i32 0, .int .i32 0, .int .u8 0] 0, none, []⟩,
 ⟨none, .store 3 (.t 5) (.t 12), none, []⟩,
 ⟨(some 6), .mv (.t 13), none, []⟩])
 (.seq (.reg false [⟨(some 14), .fieldAddr 2 (.t 5), none, []⟩,
 ⟨(some 15), .load 1 false (.t 14), none, []⟩,
 ⟨(some 4), .mv (.t 15), none, []⟩])
 .ret)))
/-- bastion/tables.find[bastion/api.Class] -/
def F95 : LFunc := .code 3 20 [.cell 6 2 true, .t 7]
 (.seq (.reg false [⟨(some 4), .box 0 (.t 1), none, []⟩,
 ⟨(some 5), .box 0 (.t 2), none, []⟩,
 ⟨(some 6), .alloc [.int .i32 0, .int .u8 0] 0, none, []⟩,
 ⟨(some 7), .mv (.c (.bool false)), none, []⟩])
 (.seq (.reg false [⟨(some 10), .mv (.t 0), none, []⟩,
 ⟨(some 11), .mkFunc 225 [] [(.t 5), (.t 4)], none, []⟩,
 ⟨(some 12), .call (.fn 165) [(.t 10), (.t 11)], none, []⟩,
 ⟨(some 8), .mv (.t 12), none, []⟩])
 (.seq (.seq (.reg false [⟨(some 13), .mv (.t 8), none, []⟩,
 ⟨(some 14), .bin .lss (.t 13) (.c (.int .i64 0)), none, []⟩])
 (.cond (.t 14)
 (.seq (.reg false [⟨(some 9), .alloc [.int .i32 0, .int .u8 0] 0, none, []⟩])
  (.seq (.reg false [⟨(some 15), .load 2 true (.t 9), none, []⟩,
  ⟨none, .store 2 (.t 6) (.t 15), none, []⟩,
  ⟨(some 7), .mv (.c (.bool false)), none, []⟩])
  .ret))
 .skip))
 (.seq (.reg false [⟨(some 16), .mv (.t 0), none, []⟩,
 ⟨(some 17), .mv (.t 8), none, []⟩,
 ⟨(some 18), .idxAddr 2 (.t 16) (.t 17), none, []⟩,
 ⟨(some 19), .load 2 true (.t 18), none, []⟩,
 ⟨none, .store 2 (.t 6) (.t 19), none, []⟩,
 ⟨(some 7), .mv (.c (.bool true)), none, []⟩])
 .ret))))
/-- bastion/tables.find[bastion/api.Pair] -/
def F96 : LFunc := .code 3 20 [.cell 6 4 true, .t 7]
 (.seq (.reg false [⟨(some 4), .box 0 (.t 1), none, []⟩,
 ⟨(some 5), .box 0 (.t 2), none, []⟩,
 ⟨(some 6), .alloc [.int .i32 0, .int .i32 0, .int .i32 0, .bool false] 0, none, []⟩,
 ⟨(some 7), .mv (.c (.bool false)), none, []⟩])
 (.seq (.reg false [⟨(some 10), .mv (.t 0), none, []⟩,
 ⟨(some 11), .mkFunc 226 [] [(.t 5), (.t 4)], none, []⟩,
 ⟨(some 12), .call (.fn 166) [(.t 10), (.t 11)], none, []⟩,
 ⟨(some 8), .mv (.t 12), none, []⟩])
 (.seq (.seq (.reg false [⟨(some 13), .mv (.t 8), none, []⟩,
 ⟨(some 14), .bin .lss (.t 13) (.c (.int .i64 0)), none, []⟩])
 (.cond (.t 14)
 (.seq (.reg false [⟨(some 9), .alloc [.int .i32 0, .int .i32 0, .int .i32 0, .bool false] 0, none, []⟩])
  (.seq (.reg false [⟨(some 15), .load 4 true (.t 9), none, []⟩,
  ⟨none, .store 4 (.t 6) (.t 15), none, []⟩,
  ⟨(some 7), .mv (.c (.bool false)), none, []⟩])
  .ret))
 .skip))
 (.seq (.reg false [⟨(some 16), .mv (.t 0), none, []⟩,
 ⟨(some 17), .mv (.t 8), none, []⟩,
 ⟨(some 18), .idxAddr 4 (.t 16) (.t 17), none, []⟩,
 ⟨(some 19), .load 4 true (.t 18), none, []⟩,
 ⟨none, .store 4 (.t 6) (.t 19), none, []⟩,
 ⟨(some 7), .mv (.c (.bool true)), none, []⟩])
 .ret))))
/-- bastion/tables.find[bastion/api.Span] -/
def F97 : LFunc := .code 3 20 [.cell 6 4 true, .t 7]
 (.seq (.reg false [⟨(some 4), .box 0 (.t 1), none, []⟩,
 ⟨(some 5), .box 0 (.t 2), none, []⟩,
 ⟨(some 6), .alloc [.int .i32 0, .int .i32 0, .int .u8 0, .nilsl] 0, none, []⟩,
 ⟨(some 7), .mv (.c (.bool false)), none, []⟩])
 (.seq (.reg false [⟨(some 10), .mv (.t 0), none, []⟩,
 ⟨(some 11), .mkFunc 98 [] [(.t 5), (.t 4)], none, []⟩,
 ⟨(some 12), .call (.fn 167) [(.t 10), (.t 11)], none, []⟩,
 ⟨(some 8), .mv (.t 12), none, []⟩])
 (.seq (.seq (.reg false [⟨(some 13), .mv (.t 8), none, []⟩,
 ⟨(some 14), .bin .lss (.t 13) (.c (.int .i64 0)), none, []⟩])
 (.cond (.t 14)
 (.seq (.reg false [⟨(some 9), .alloc [.int .i32 0, .int .i32 0, .int .u8 0, .nilsl] 0, none, []⟩])
  (.seq (.reg false [⟨(some 15), .load 4 true (.t 9), none, []⟩,
  ⟨none, .store 4 (.t 6) (.t 15), none, []⟩,
  ⟨(some 7), .mv (.c (.bool false)), none, []⟩])
  .ret))
 .skip))
 (.seq (.reg false [⟨(some 16), .mv (.t 0), none, []⟩,
 ⟨(some 17), .mv (.t 8), none, []⟩,
 ⟨(some 18), .idxAddr 4 (.t 16) (.t 17), none, []⟩,
 ⟨(some 19), .load 4 true (.t 18), none, []⟩,
 ⟨none, .store 4 (.t 6) (.t 19), none, []⟩,
 ⟨(some 7), .mv (.c (.bool true)), none, []⟩])
 .ret))))
/-- bastion/tables.find[bastion/api.Span]$1 -/
def F98 : LFunc := .code 3 21 [.t 4]
 (.seq (.reg false [⟨(some 3), .box 0 (.t 0), none, []⟩,
 ⟨(some 4), .mv (.c (.bool false)), none, []⟩])
 (.seq (.reg false [⟨(some 8), .load 1 false (.t 1), none, []⟩,
 ⟨(some 9), .load 4 true (.t 3), none, []⟩,
 ⟨(some 10), .call (.val (.t 8)) [(.t 9)], none, []⟩,
 ⟨(some 7), .mv (.t 10), none, []⟩,
 ⟨(some 11), .extract 0 (.t 7), none, []⟩,
 ⟨(some 12), .extract 1 (.t 7), none, []⟩,
 ⟨(some 5), .mv (.t 11), none, []⟩,
 ⟨(some 6), .mv (.t 12), none, []⟩])
 (.seq (.reg false [⟨(some 13), .load 1 false (.t 2), none, []⟩,
 ⟨(some 14), .mv (.t 5), none, []⟩,
 ⟨(some 15), .bin .geq (.t 13) (.t 14), none, []⟩,
 ⟨(some 16), .mv (.t 15), none, []⟩,
 ⟨(some 17), .load 1 false (.t 2), (some (16, true)), []⟩,
 ⟨(some 18), .mv (.t 6), (some (16, true)), []⟩,
 ⟨(some 19), .bin .leq (.t 17) (.t 18), (some (16, true)), []⟩,
 ⟨(some 20), .pick (.t 16) (.t 19) (.c (.bool false)), none, []⟩,
 ⟨(some 4), .mv (.t 20), none, []⟩])
 .ret)))
/-- bastion/tables.find[bastion/api.Ways] -/
def F99 : LFunc := .code 3 20 [.cell 6 3 true, .t 7]
 (.seq (.reg false [⟨(some 4), .box 0 (.t 1), none, []⟩,
 ⟨(some 5), .box 0 (.t 2), none, []⟩,
 ⟨(some 6), .alloc [.int .i32 0, .int .i32 0, .int .u8 0] 0, none, []⟩,
 ⟨(some 7), .mv (.c (.bool false)), none, []⟩])
 (.seq (.reg false [⟨(some 10), .mv (.t 0), none, []⟩,
 ⟨(some 11), .mkFunc 100 [] [(.t 5), (.t 4)], none, []⟩,
 ⟨(some 12), .call (.fn 169) [(.t 10), (.t 11)], none, []⟩,
 ⟨(some 8), .mv (.t 12), none, []⟩])
 (.seq (.seq (.reg false [⟨(some 13), .mv (.t 8), none, []⟩,
 ⟨(some 14), .bin .lss (.t 13) (.c (.int .i64 0)), none, []⟩])
 (.cond (.t 14)
 (.seq (.reg false [⟨(some 9), .alloc [.int .i32 0, .int .i32 0, .int .u8 0] 0, none, []⟩])
  (.seq (.reg false [⟨(some 15), .load 3 true (.t 9), none, []⟩,
  ⟨none, .store 3 (.t 6) (.t 15), none, []⟩,
  ⟨(some 7), .mv (.c (.bool false)), none, []⟩])
  .ret))
 .skip))
 (.seq (.reg false [⟨(some 16), .mv (.t 0), none, []⟩,
 ⟨(some 17), .mv (.t 8), none, []⟩,
 ⟨(some 18), .idxAddr 3 (.t 16) (.t 17), none, []⟩,
 ⟨(some 19), .load 3 true (.t 18), none, []⟩,
 ⟨none, .store 3 (.t 6) (.t 19), none, []⟩,
 ⟨(some 7), .mv (.c (.bool true)), none, []⟩])
 .ret))))
/-- bastion/tables.find[bastion/api.Ways]$1 -/
def F100 : LFunc := .code 3 21 [.t 4]
 (.seq (.reg false [⟨(some 3), .box 0 (.t 0), none, []⟩,
 ⟨(some 4), .mv (.c (.bool false)), none, []⟩])
 (.seq (.reg false [⟨(some 8), .load 1 false (.t 1), none, []⟩,
 ⟨(some 9), .load 3 true (.t 3), none, []⟩,
 ⟨(some 10), .call (.val (.t 8)) [(.t 9)], none, []⟩,
 ⟨(some 7), .mv (.t 10), none, []⟩,
 ⟨(some 11), .extract 0 (.t 7), none, []⟩,
 ⟨(some 12), .extract 1 (.t 7), none, []⟩,
 ⟨(some 5), .mv (.t 11), none, []⟩,
 ⟨(some 6), .mv (.t 12), none, []⟩])
 (.seq (.reg false [⟨(some 13), .load 1 false (.t 2), none, []⟩,
 ⟨(some 14), .mv (.t 5), none, []⟩,
 ⟨(some 15), .bin .geq (.t 13) (.t 14), none, []⟩,
 ⟨(some 16), .mv (.t 15), none, []⟩,
 ⟨(some 17), .load 1 false (.t 2), (some (16, true)), []⟩,
 ⟨(some 18), .mv (.t 6), (some (16, true)), []⟩,
 ⟨(some 19), .bin .leq (.t 17) (.t 18), (some (16, true)), []⟩,
 ⟨(some 20), .pick (.t 16) (.t 19) (.c (.bool false)), none, []⟩,
 ⟨(some 4), .mv (.t 20), none, []⟩])
 .ret)))
/-- bastion/tables.may -/
def F101 : LFunc := .code 1 15 [.t 2]
 (.seq (.reg false [⟨(some 2), .mv (.c (.bool false)), none, []⟩])
 (.seq (.reg false [⟨(some 3), .mv (.t 0), none, []⟩,
 ⟨(some 4), .conv .ofInt (.t 3), none, []⟩,
 ⟨(some 5), .call (.fn 136) [(.t 4)], none, []⟩,
 ⟨(some 6), .mv (.t 5), none, []⟩,
 ⟨(some 7), .mv (.t 0), (some (6, true)), []⟩,
 ⟨(some 8), .bin .eql (.t 7) (.c (.int .i32 65533)), (some (6, true)), []⟩,
 ⟨(some 9), .mv (.t 8), (some (6, true)), []⟩,
 ⟨(some 10), .mv (.t 0), (some (9, false)), []⟩,
 ⟨(some 11), .conv .ofInt (.t 10), (some (9, false)), []⟩,
 ⟨(some 12), .bin .neq (.t 11) (.c (.str [239, 191, 189])), (some (9, false)), []⟩,
 ⟨(some 13), .pick (.t 9) (.c (.bool true)) (.t 12), (some (6, true)), []⟩,
 ⟨(some 14), .pick (.t 6) (.t 13) (.c (.bool false)), none, []⟩,
 ⟨(some 2), .mv (.t 14), none, []⟩])
 .ret))
/-- bastion/tables.ofSpan -/
def F102 : LFunc := .code 1 8 [.t 2, .t 3]
 (.seq (.reg false [⟨(some 1), .box 0 (.t 0), none, []⟩,
 ⟨(some 2), .mv (.c (.int .i32 0)), none, []⟩,
 ⟨(some 3), .mv (.c (.int .i32 0)), none, []⟩])
 (.seq (.reg true [⟨(some 4), .fieldAddr 0 (.t 1), none, []⟩,
 ⟨(some 5), .load 1 false (.t 4), none, [0]⟩,
 ⟨(some 6), .fieldAddr 1 (.t 1), none, []⟩,
 ⟨(some 7), .load 1 false (.t 6), none, [2]⟩,
 ⟨(some 2), .mv (.t 5), none, [1, 0, 1]⟩,
 ⟨(some 3), .mv (.t 7), none, [3, 4, 0, 1, 2, 3, 4]⟩])
 .ret))
/-- bastion/tables.ofWays -/
def F103 : LFunc := .code 1 8 [.t 2, .t 3]
 (.seq (.reg false [⟨(some 1), .box 0 (.t 0), none, []⟩,
 ⟨(some 2), .mv (.c (.int .i32 0)), none, []⟩,
 ⟨(some 3), .mv (.c (.int .i32 0)), none, []⟩])
 (.seq (.reg true [⟨(some 4), .fieldAddr 0 (.t 1), none, []⟩,
 ⟨(some 5), .load 1 false (.t 4), none, [0]⟩,
 ⟨(some 6), .fieldAddr 1 (.t 1), none, []⟩,
 ⟨(some 7), .load 1 false (.t 6), none, [2]⟩,
 ⟨(some 2), .mv (.t 5), none, [1, 0, 1]⟩,
 ⟨(some 3), .mv (.t 7), none, [3, 4, 0, 1, 2, 3, 4]⟩])
 .ret))
/-- bastion/tables.right[bastion/api.Class] -/
def F104 : LFunc := .code 3 61 [.t 6]
 (.seq (.reg false [⟨(some 6), .mv (.c (.bool false)), none, []⟩])
 (.seq (.reg false [⟨(some 7), .mv (.c (.int .i32 (-1))), none, []⟩])
 (.seq (.seq (.reg false [⟨(some 10), .mv (.t 0), none, []⟩,
 ⟨(some 11), .mv (.t 1), none, []⟩,
 ⟨(some 12), .call (.fn 109) [(.t 10), (.t 11)], none, []⟩,
 ⟨(some 13), .call (.builtin .lenSl) [(.t 12)], none, []⟩,
 ⟨(some 14), .mv (.c (.int .i64 0)), none, []⟩])
 (.block 0 (.loop (.seq (.reg false [⟨(some 15), .bin .lss (.t 14) (.t 13), none, []⟩])
 (.seq (.cond (.t 15)
 .skip
 (.exit 0))
 (.seq (.block 1 (.seq (.reg false [⟨(some 16), .idxAddr 4 (.t 12) (.t 14), none, []⟩,
 ⟨(some 17), .load 4 true (.t 16), none, []⟩,
 ⟨(some 9), .alloc [.int .i32 0, .int .i32 0, .int .i32 0, .int .u8 0] 0, none, []⟩,
 ⟨none, .store 4 (.t 9) (.t 17), none, []⟩])
 (.seq (.seq (.reg false [⟨(some 18), .fieldAddr 0 (.t 9), none, []⟩,
 ⟨(some 19), .load 1 false (.t 18), none, []⟩,
 ⟨(some 20), .fieldAddr 1 (.t 9), none, []⟩,
 ⟨(some 21), .load 1 false (.t 20), none, []⟩,
 ⟨(some 22), .bin .gtr (.t 19) (.t 21), none, []⟩,
 ⟨(some 23), .mv (.t 22), none, []⟩,
 ⟨(some 24), .fieldAddr 0 (.t 9), (some (23, false)), []⟩,
 ⟨(some 25), .load 1 false (.t 24), (some (23, false)), []⟩,
 ⟨(some 26), .mv (.t 7), (some (23, false)), []⟩,
 ⟨(some 27), .bin .leq (.t 25) (.t 26), (some (23, false)), []⟩,
 ⟨(some 28), .pick (.t 23) (.c (.bool true)) (.t 27), none, []⟩,
 ⟨(some 29), .mv (.t 28), none, []⟩,
 ⟨(some 30), .fieldAddr 0 (.t 9), (some (29, false)), []⟩,
 ⟨(some 31), .load 1 false (.t 30), (some (29, false)), []⟩,
 ⟨(some 32), .call (.fn 101) [(.t 31)], (some (29, false)), []⟩,
 ⟨(some 33), .un .not (.t 32), (some (29, false)), []⟩,
 ⟨(some 34), .pick (.t 29) (.c (.bool true)) (.t 33), none, []⟩,
 ⟨(some 35), .mv (.t 34), none, []⟩,
 ⟨(some 36), .fieldAddr 1 (.t 9), (some (35, false)), []⟩,
 ⟨(some 37), .load 1 false (.t 36), (some (35, false)), []⟩,
 ⟨(some 38), .call (.fn 101) [(.t 37)], (some (35, false)), []⟩,
 ⟨(some 39), .un .not (.t 38), (some (35, false)), []⟩,
 ⟨(some 40), .pick (.t 35) (.c (.bool true)) (.t 39), none, []⟩,
 ⟨(some 41), .mv (.t 40), none, []⟩,
 ⟨(some 42), .fieldAddr 0 (.t 9), (some (41, false)), []⟩,
 ⟨(some 43), .load 1 false (.t 42), (some (41, false)), []⟩,
 ⟨(some 44), .bin .lss (.t 43) (.c (.int .i32 55296)), (some (41, false)), []⟩,
 ⟨(some 45), .mv (.t 44), (some (41, false)), []⟩,
 ⟨(some 46), .fieldAddr 1 (.t 9), (some (45, true)), []⟩,
 ⟨(some 47), .load 1 false (.t 46), (some (45, true)), []⟩,
 ⟨(some 48), .bin .gtr (.t 47) (.c (.int .i32 57343)), (some (45, true)), []⟩,
 ⟨(some 49), .pick (.t 45) (.t 48) (.c (.bool false)), (some (41, false)), []⟩,
 ⟨(some 50), .pick (.t 41) (.c (.bool true)) (.t 49), none, []⟩,
 ⟨(some 51), .mv (.t 50), none, []⟩,
 ⟨(some 52), .mv (.t 2), (some (51, false)), []⟩,
 ⟨(some 53), .fieldAddr 2 (.t 9), (some (51, false)), []⟩,
 ⟨(some 54), .load 2 true (.t 53), (some (51, false)), []⟩,
 ⟨(some 55), .call (.val (.t 52)) [(.t 54)], (some (51, false)), []⟩,
 ⟨(some 56), .un .not (.t 55), (some (51, false)), []⟩,
 ⟨(some 57), .pick (.t 51) (.c (.bool true)) (.t 56), none, []⟩])
 (.cond (.t 57)
 (.seq (.reg false [⟨(some 6), .mv (.c (.bool false)), none, []⟩])
  .ret)
 .skip))
 (.reg false [⟨(some 58), .fieldAddr 1 (.t 9), none, []⟩,
 ⟨(some 59), .load 1 false (.t 58), none, []⟩,
 ⟨(some 7), .mv (.t 59), none, []⟩]))))
 (.reg false [⟨(some 60), .bin .add (.t 14) (.c (.int .i64 1)), none, []⟩,
 ⟨(some 14), .mv (.t 60), none, []⟩])))))))
 (.seq (.reg false [⟨(some 6), .mv (.c (.bool true)), none, []⟩])
 .ret))))
/-- bastion/tables.right[bastion/api.Joins] -/
def F105 : LFunc := .code 3 61 [.t 6]
 (.seq (.reg false [⟨(some 6), .mv (.c (.bool false)), none, []⟩])
 (.seq (.reg false [⟨(some 7), .mv (.c (.int .i32 (-1))), none, []⟩])
 (.seq (.seq (.reg false [⟨(some 10), .mv (.t 0), none, []⟩,
 ⟨(some 11), .mv (.t 1), none, []⟩,
 ⟨(some 12), .call (.fn 110) [(.t 10), (.t 11)], none, []⟩,
 ⟨(some 13), .call (.builtin .lenSl) [(.t 12)], none, []⟩,
 ⟨(some 14), .mv (.c (.int .i64 0)), none, []⟩])
 (.block 0 (.loop (.seq (.reg false [⟨(some 15), .bin .lss (.t 14) (.t 13), none, []⟩])
 (.seq (.cond (.t 15)
 .skip
 (.exit 0))
 (.seq (.block 1 (.seq (.reg false [⟨(some 16), .idxAddr 5 (.t 12) (.t 14), none, []⟩,
 ⟨(some 17), .load 5 true (.t 16), none, []⟩,
 ⟨(some 9), .alloc [.int .i32 0, .int .i32 0, .int .i32 0, .int .i32 0, .int .u8 0] 0, none, []⟩,
 ⟨none, .store 5 (.t 9) (.t 17), none, []⟩])
 (.seq (.seq (.reg false [⟨(some 18), .fieldAddr 0 (.t 9), none, []⟩,
 ⟨(some 19), .load 1 false (.t 18), none, []⟩,
 ⟨(some 20), .fieldAddr 1 (.t 9), none, []⟩,
 ⟨(some 21), .load 1 false (.t 20), none, []⟩,
 ⟨(some 22), .bin .gtr (.t 19) (.t 21), none, []⟩,
 ⟨(some 23), .mv (.t 22), none, []⟩,
 ⟨(some 24), .fieldAddr 0 (.t 9), (some (23, false)), []⟩,
 ⟨(some 25), .load 1 false (.t 24), (some (23, false)), []⟩,
 ⟨(some 26), .mv (.t 7), (some (23, false)), []⟩,
 ⟨(some 27), .bin .leq (.t 25) (.t 26), (some (23, false)), []⟩,
 ⟨(some 28), .pick (.t 23) (.c (.bool true)) (.t 27), none, []⟩,
 ⟨(some 29), .mv (.t 28), none, []⟩,
 ⟨(some 30), .fieldAddr 0 (.t 9), (some (29, false)), []⟩,
 ⟨(some 31), .load 1 false (.t 30), (some (29, false)), []⟩,
 ⟨(some 32), .call (.fn 101) [(.t 31)], (some (29, false)), []⟩,
 ⟨(some 33), .un .not (.t 32), (some (29, false)), []⟩,
 ⟨(some 34), .pick (.t 29) (.c (.bool true)) (.t 33), none, []⟩,
 ⟨(some 35), .mv (.t 34), none, []⟩,
 ⟨(some 36), .fieldAddr 1 (.t 9), (some (35, false)), []⟩,
 ⟨(some 37), .load 1 false (.t 36), (some (35, false)), []⟩,
 ⟨(some 38), .call (.fn 101) [(.t 37)], (some (35, false)), []⟩,
 ⟨(some 39), .un .not (.t 38), (some (35, false)), []⟩,
 ⟨(some 40), .pick (.t 35) (.c (.bool true)) (.t 39), none, []⟩,
 ⟨(some 41), .mv (.t 40), none, []⟩,
 ⟨(some 42), .fieldAddr 0 (.t 9), (some (41, false)), []⟩,
 ⟨(some 43), .load 1 false (.t 42), (some (41, false)), []⟩,
 ⟨(some 44), .bin .lss (.t 43) (.c (.int .i32 55296)), (some (41, false)), []⟩,
 ⟨(some 45), .mv (.t 44), (some (41, false)), []⟩,
 ⟨(some 46), .fieldAddr 1 (.t 9), (some (45, true)), []⟩,
 ⟨(some 47), .load 1 false (.t 46), (some (45, true)), []⟩,
 ⟨(some 48), .bin .gtr (.t 47) (.c (.int .i32 57343)), (some (45, true)), []⟩,
 ⟨(some 49), .pick (.t 45) (.t 48) (.c (.bool false)), (some (41, false)), []⟩,
 ⟨(some 50), .pick (.t 41) (.c (.bool true)) (.t 49), none, []⟩,
 ⟨(some 51), .mv (.t 50), none, []⟩,
 ⟨(some 52), .mv (.t 2), (some (51, false)), []⟩,
 ⟨(some 53), .fieldAddr 2 (.t 9), (some (51, false)), []⟩,
 ⟨(some 54), .load 3 true (.t 53), (some (51, false)), []⟩,
 ⟨(some 55), .call (.val (.t 52)) [(.t 54)], (some (51, false)), []⟩,
 ⟨(some 56), .un .not (.t 55), (some (51, false)), []⟩,
 ⟨(some 57), .pick (.t 51) (.c (.bool true)) (.t 56), none, []⟩])
 (.cond (.t 57)
 (.seq (.reg false [⟨(some 6), .mv (.c (.bool false)), none, []⟩])
  .ret)
 .skip))
 (.reg false [⟨(some 58), .fieldAddr 1 (.t 9), none, []⟩,
 ⟨(some 59), .load 1 false (.t 58), none, []⟩,
 ⟨(some 7), .mv (.t 59), none, []⟩]))))
 (.reg false [⟨(some 60), .bin .add (.t 14) (.c (.int .i64 1)), none, []⟩,
 ⟨(some 14), .mv (.t 60), none, []⟩])))))))
 (.seq (.reg false [⟨(some 6), .mv (.c (.bool true)), none, []⟩])
 .ret))))
/-- bastion/tables.right[bastion/api.Pair] -/
def F106 : LFunc := .code 3 61 [.t 6]
 (.seq (.reg false [⟨(some 6), .mv (.c (.bool false)), none, []⟩])
 (.seq (.reg false [⟨(some 7), .mv (.c (.int .i32 (-1))), none, []⟩])
 (.seq (.seq (.reg false [⟨(some 10), .mv (.t 0), none, []⟩,
 ⟨(some 11), .mv (.t 1), none, []⟩,
 ⟨(some 12), .call (.fn 111) [(.t 10), (.t 11)], none, []⟩,
 ⟨(some 13), .call (.builtin .lenSl) [(.t 12)], none, []⟩,
 ⟨(some 14), .mv (.c (.int .i64 0)), none, []⟩])
 (.block 0 (.loop (.seq (.reg false [⟨(some 15), .bin .lss (.t 14) (.t 13), none, []⟩])
 (.seq (.cond (.t 15)
 .skip
 (.exit 0))
 (.seq (.block 1 (.seq (.reg false [⟨(some 16), .idxAddr 6 (.t 12) (.t 14), none, []⟩,
 ⟨(some 17), .load 6 true (.t 16), none, []⟩,
 ⟨(some 9), .alloc [.int .i32 0, .int .i32 0, .int .i32 0, .int .i32 0, .int .i32 0, .bool false] 0, none, []⟩,
 ⟨none, .store 6 (.t 9) (.t 17), none, []⟩])
 (.seq (.seq (.reg false [⟨(some 18), .fieldAddr 0 (.t 9), none, []⟩,
 ⟨(some 19), .load 1 false (.t 18), none, []⟩,
 ⟨(some 20), .fieldAddr 1 (.t 9), none, []⟩,
 ⟨(some 21), .load 1 false (.t 20), none, []⟩,
 ⟨(some 22), .bin .gtr (.t 19) (.t 21), none, []⟩,
 ⟨(some 23), .mv (.t 22), none, []⟩,
 ⟨(some 24), .fieldAddr 0 (.t 9), (some (23, false)), []⟩,
 ⟨(some 25), .load 1 false (.t 24), (some (23, false)), []⟩,
 ⟨(some 26), .mv (.t 7), (some (23, false)), []⟩,
 ⟨(some 27), .bin .leq (.t 25) (.t 26), (some (23, false)), []⟩,
 ⟨(some 28), .pick (.t 23) (.c (.bool true)) (.t 27), none, []⟩,
 ⟨(some 29), .mv (.t 28), none, []⟩,
 ⟨(some 30), .fieldAddr 0 (.t 9), (some (29, false)), []⟩,
 ⟨(some 31), .load 1 false (.t 30), (some (29, false)), []⟩,
 ⟨(some 32), .call (.fn 101) [(.t 31)], (some (29, false)), []⟩,
 ⟨(some 33), .un .not (.t 32), (some (29, false)), []⟩,
 ⟨(some 34), .pick (.t 29) (.c (.bool true)) (.t 33), none, []⟩,
 ⟨(some 35), .mv (.t 34), none, []⟩,
 ⟨(some 36), .fieldAddr 1 (.t 9), (some (35, false)), []⟩,
 ⟨(some 37), .load 1 false (.t 36), (some (35, false)), []⟩,
 ⟨(some 38), .call (.fn 101) [(.t 37)], (some (35, false)), []⟩,
 ⟨(some 39), .un .not (.t 38), (some (35, false)), []⟩,
 ⟨(some 40), .pick (.t 35) (.c (.bool true)) (.t 39), none, []⟩,
 ⟨(some 41), .mv (.t 40), none, []⟩,
 ⟨(some 42), .fieldAddr 0 (.t 9), (some (41, false)), []⟩,
 ⟨(some 43), .load 1 false (.t 42), (some (41, false)), []⟩,
 ⟨(some 44), .bin .lss (.t 43) (.c (.int .i32 55296)), (some (41, false)), []⟩,
 ⟨(some 45), .mv (.t 44), (some (41, false)), []⟩,
 ⟨(some 46), .fieldAddr 1 (.t 9), (some (45, true)), []⟩,
 ⟨(some 47), .load 1 false (.t 46), (some (45, true)), []⟩,
 ⟨(some 48), .bin .gtr (.t 47) (.c (.int .i32 57343)), (some (45, true)), []⟩,
 ⟨(some 49), .pick (.t 45) (.t 48) (.c (.bool false)), (some (41, false)), []⟩,
 ⟨(some 50), .pick (.t 41) (.c (.bool true)) (.t 49), none, []⟩,
 ⟨(some 51), .mv (.t 50), none, []⟩,
 ⟨(some 52), .mv (.t 2), (some (51, false)), []⟩,
 ⟨(some 53), .fieldAddr 2 (.t 9), (some (51, false)), []⟩,
 ⟨(some 54), .load 4 true (.t 53), (some (51, false)), []⟩,
 ⟨(some 55), .call (.val (.t 52)) [(.t 54)], (some (51, false)), []⟩,
 ⟨(some 56), .un .not (.t 55), (some (51, false)), []⟩,
 ⟨(some 57), .pick (.t 51) (.c (.bool true)) (.t 56), none, []⟩])
 (.cond (.t 57)
 (.seq (.reg false [⟨(some 6), .mv (.c (.bool false)), none, []⟩])
  .ret)
 .skip))
 (.reg false [⟨(some 58), .fieldAddr 1 (.t 9), none, []⟩,
 ⟨(some 59), .load 1 false (.t 58), none, []⟩,
 ⟨(some 7), .mv (.t 59), none, []⟩]))))
 (.reg false [⟨(some 60), .bin .add (.t 14) (.c (.int .i64 1)), none, []⟩,
 ⟨(some 14), .mv (.t 60), none, []⟩])))))))
 (.seq (.reg false [⟨(some 6), .mv (.c (.bool true)), none, []⟩])
 .ret))))
/-- bastion/tables.right[bastion/api.Span] -/
def F107 : LFunc := .code 3 61 [.t 6]
 (.seq (.reg false [⟨(some 6), .mv (.c (.bool false)), none, []⟩])
 (.seq (.reg false [⟨(some 7), .mv (.c (.int .i32 (-1))), none, []⟩])
 (.seq (.seq (.reg false [⟨(some 10), .mv (.t 0), none, []⟩,
 ⟨(some 11), .mv (.t 1), none, []⟩,
 ⟨(some 12), .call (.fn 112) [(.t 10), (.t 11)], none, []⟩,
 ⟨(some 13), .call (.builtin .lenSl) [(.t 12)], none, []⟩,
 ⟨(some 14), .mv (.c (.int .i64 0)), none, []⟩])
 (.block 0 (.loop (.seq (.reg false [⟨(some 15), .bin .lss (.t 14) (.t 13), none, []⟩])
 (.seq (.cond (.t 15)
 .skip
 (.exit 0))
 (.seq (.block 1 (.seq (.reg false [⟨(some 16), .idxAddr 6 (.t 12) (.t 14), none, []⟩,
 ⟨(some 17), .load 6 true (.t 16), none, []⟩,
 ⟨(some 9), .alloc [.int .i32 0, .int .i32 0, .int .i32 0, .int .i32 0, .int .u8 0, .nilsl] 0, none, []⟩,
 ⟨none, .store 6 (.t 9) (.t 17), none, []⟩])
 (.seq (.seq (.reg false [⟨(some 18), .fieldAddr 0 (.t 9), none, []⟩,
 ⟨(some 19), .load 1 false (.t 18), none, []⟩,
 ⟨(some 20), .fieldAddr 1 (.t 9), none, []⟩,
 ⟨(some 21), .load 1 false (.t 20), none, []⟩,
 ⟨(some 22), .bin .gtr (.t 19) (.t 21), none, []⟩,
 ⟨(some 23), .mv (.t 22), none, []⟩,
 ⟨(some 24), .fieldAddr 0 (.t 9), (some (23, false)), []⟩,
 ⟨(some 25), .load 1 false (.t 24), (some (23, false)), []⟩,
 ⟨(some 26), .mv (.t 7), (some (23, false)), []⟩,
 ⟨(some 27), .bin .leq (.t 25) (.t 26), (some (23, false)), []⟩,
 ⟨(some 28), .pick (.t 23) (.c (.bool true)) (.t 27), none, []⟩,
 ⟨(some 29), .mv (.t 28), none, []⟩,
 ⟨(some 30), .fieldAddr 0 (.t 9), (some (29, false)), []⟩,
 ⟨(some 31), .load 1 false (.t 30), (some (29, false)), []⟩,
 ⟨(some 32), .call (.fn 101) [(.t 31)], (some (29, false)), []⟩,
 ⟨(some 33), .un .not (.t 32), (some (29, false)), []⟩,
 ⟨(some 34), .pick (.t 29) (.c (.bool true)) (.t 33), none, []⟩,
 ⟨(some 35), .mv (.t 34), none, []⟩,
 ⟨(some 36), .fieldAddr 1 (.t 9), (some (35, false)), []⟩,
 ⟨(some 37), .load 1 false (.t 36), (some (35, false)), []⟩,
 ⟨(some 38), .call (.fn 101) [(.t 37)], (some (35, false)), []⟩,
 ⟨(some 39), .un .not (.t 38), (some (35, false)), []⟩,
 ⟨(some 40), .pick (.t 35) (.c (.bool true)) (.t 39), none, []⟩,
 ⟨(some 41), .mv (.t 40), none, []⟩,
 ⟨(some 42), .fieldAddr 0 (.t 9), (some (41, false)), []⟩,
 ⟨(some 43), .load 1 false (.t 42), (some (41, false)), []⟩,
 ⟨(some 44), .bin .lss (.t 43) (.c (.int .i32 55296)), (some (41, false)), []⟩,
 ⟨(some 45), .mv (.t 44), (some (41, false)), []⟩,
 ⟨(some 46), .fieldAddr 1 (.t 9), (some (45, true)), []⟩,
 ⟨(some 47), .load 1 false (.t 46), (some (45, true)), []⟩,
 ⟨(some 48), .bin .gtr (.t 47) (.c (.int .i32 57343)), (some (45, true)), []⟩,
 ⟨(some 49), .pick (.t 45) (.t 48) (.c (.bool false)), (some (41, false)), []⟩,
 ⟨(some 50), .pick (.t 41) (.c (.bool true)) (.t 49), none, []⟩,
 ⟨(some 51), .mv (.t 50), none, []⟩,
 ⟨(some 52), .mv (.t 2), (some (51, false)), []⟩,
 ⟨(some 53), .fieldAddr 2 (.t 9), (some (51, false)), []⟩,
 ⟨(some 54), .load 4 true (.t 53), (some (51, false)), []⟩,
 ⟨(some 55), .call (.val (.t 52)) [(.t 54)], (some (51, false)), []⟩,
 ⟨(some 56), .un .not (.t 55), (some (51, false)), []⟩,
 ⟨(some 57), .pick (.t 51) (.c (.bool true)) (.t 56), none, []⟩])
 (.cond (.t 57)
 (.seq (.reg false [⟨(some 6), .mv (.c (.bool false)), none, []⟩])
  .ret)
 .skip))
 (.reg false [⟨(some 58), .fieldAddr 1 (.t 9), none, []⟩,
 ⟨(some 59), .load 1 false (.t 58), none, []⟩,
 ⟨(some 7), .mv (.t 59), none, []⟩]))))
 (.reg false [⟨(some 60), .bin .add (.t 14) (.c (.int .i64 1)), none, []⟩,
 ⟨(some 14), .mv (.t 60), none, []⟩])))))))
 (.seq (.reg false [⟨(some 6), .mv (.c (.bool true)), none, []⟩])
 .ret))))
/-- bastion/tables.right[bastion/api.Ways] -/
def F108 : LFunc := .code 3 61 [.t 6]
 (.seq (.reg false [⟨(some 6), .mv (.c (.bool false)), none, []⟩])
 (.seq (.reg false [⟨(some 7), .mv (.c (.int .i32 (-1))), none, []⟩])
 (.seq (.seq (.reg false [⟨(some 10), .mv (.t 0), none, []⟩,
 ⟨(some 11), .mv (.t 1), none, []⟩,
 ⟨(some 12), .call (.fn 113) [(.t 10), (.t 11)], none, []⟩,
 ⟨(some 13), .call (.builtin .lenSl) [(.t 12)], none, []⟩,
 ⟨(some 14), .mv (.c (.int .i64 0)), none, []⟩])
 (.block 0 (.loop (.seq (.reg false [⟨(some 15), .bin .lss (.t 14) (.t 13), none, []⟩])
 (.seq (.cond (.t 15)
 .skip
 (.exit 0))
 (.seq (.block 1 (.seq (.reg false [⟨(some 16), .idxAddr 5 (.t 12) (.t 14), none, []⟩,
 ⟨(some 17), .load 5 true (.t 16), none, []⟩,
 ⟨(some 9), .alloc [.int .i32 0, .int .i32 0, .int .i32 0, .int .i32 0, .int .u8 0] 0, none, []⟩,
 ⟨none, .store 5 (.t 9) (.t 17), none, []⟩])
 (.seq (.seq (.reg false [⟨(some 18), .fieldAddr 0 (.t 9), none, []⟩,
 ⟨(some 19), .load 1 false (.t 18), none, []⟩,
 ⟨(some 20), .fieldAddr 1 (.t 9), none, []⟩,
 ⟨(some 21), .load 1 false (.t 20), none, []⟩,
 ⟨(some 22), .bin .gtr (.t 19) (.t 21), none, []⟩,
 ⟨(some 23), .mv (.t 22), none, []⟩,
 ⟨(some 24), .fieldAddr 0 (.t 9), (some (23, false)), []⟩,
 ⟨(some 25), .load 1 false (.t 24), (some (23, false)), []⟩,
 ⟨(some 26), .mv (.t 7), (some (23, false)), []⟩,
 ⟨(some 27), .bin .leq (.t 25) (.t 26), (some (23, false)), []⟩,
 ⟨(some 28), .pick (.t 23) (.c (.bool true)) (.t 27), none, []⟩,
 ⟨(some 29), .mv (.t 28), none, []⟩,
 ⟨(some 30), .fieldAddr 0 (.t 9), (some (29, false)), []⟩,
 ⟨(some 31), .load 1 false (.t 30), (some (29, false)), []⟩,
 ⟨(some 32), .call (.fn 101) [(.t 31)], (some (29, false)), []⟩,
 ⟨(some 33), .un .not (.t 32), (some (29, false)), []⟩,
 ⟨(some 34), .pick (.t 29) (.c (.bool true)) (.t 33), none, []⟩,
 ⟨(some 35), .mv (.t 34), none, []⟩,
 ⟨(some 36), .fieldAddr 1 (.t 9), (some (35, false)), []⟩,
 ⟨(some 37), .load 1 false (.t 36), (some (35, false)), []⟩,
 ⟨(some 38), .call (.fn 101) [(.t 37)], (some (35, false)), []⟩,
 ⟨(some 39), .un .not (.t 38), (some (35, false)), []⟩,
 ⟨(some 40), .pick (.t 35) (.c (.bool true)) (.t 39), none, []⟩,
 ⟨(some 41), .mv (.t 40), none, []⟩,
 ⟨(some 42), .fieldAddr 0 (.t 9), (some (41, false)), []⟩,
 ⟨(some 43), .load 1 false (.t 42), (some (41, false)), []⟩,
 ⟨(some 44), .bin .lss (.t 43) (.c (.int .i32 55296)), (some (41, false)), []⟩,
 ⟨(some 45), .mv (.t 44), (some (41, false)), []⟩,
 ⟨(some 46), .fieldAddr 1 (.t 9), (some (45, true)), []⟩,
 ⟨(some 47), .load 1 false (.t 46), (some (45, true)), []⟩,
 ⟨(some 48), .bin .gtr (.t 47) (.c (.int .i32 57343)), (some (45, true)), []⟩,
 ⟨(some 49), .pick (.t 45) (.t 48) (.c (.bool false)), (some (41, false)), []⟩,
 ⟨(some 50), .pick (.t 41) (.c (.bool true)) (.t 49), none, []⟩,
 ⟨(some 51), .mv (.t 50), none, []⟩,
 ⟨(some 52), .mv (.t 2), (some (51, false)), []⟩,
 ⟨(some 53), .fieldAddr 2 (.t 9), (some (51, false)), []⟩,
 ⟨(some 54), .load 3 true (.t 53), (some (51, false)), []⟩,
 ⟨(some 55), .call (.val (.t 52)) [(.t 54)], (some (51, false)), []⟩,
 ⟨(some 56), .un .not (.t 55), (some (51, false)), []⟩,
 ⟨(some 57), .pick (.t 51) (.c (.bool true)) (.t 56), none, []⟩])
 (.cond (.t 57)
 (.seq (.reg false [⟨(some 6), .mv (.c (.bool false)), none, []⟩])
  .ret)
 .skip))
 (.reg false [⟨(some 58), .fieldAddr 1 (.t 9), none, []⟩,
 ⟨(some 59), .load 1 false (.t 58), none, []⟩,
 ⟨(some 7), .mv (.t 59), none, []⟩]))))
 (.reg false [⟨(some 60), .bin .add (.t 14) (.c (.int .i64 1)), none, []⟩,
 ⟨(some 14), .mv (.t 60), none, []⟩])))))))
 (.seq (.reg false [⟨(some 6), .mv (.c (.bool true)), none, []⟩])
 .ret))))
end Go.AE.Fns
