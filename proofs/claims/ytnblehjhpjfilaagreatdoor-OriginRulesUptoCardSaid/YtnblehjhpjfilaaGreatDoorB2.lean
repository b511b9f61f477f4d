/- Lowered functions, part two. -/
import Derived.Test.YtnblehjhpjfilaaGreatDoorB1
set_option linter.all false
set_option linter.unusedSimpArgs false
set_option linter.unusedVariables false
set_option linter.unnecessarySimpa false
set_option linter.deprecated false
namespace Go.AE.Fns
open Go Go.AE
set_option maxRecDepth 100000
/-- bastion/tables.spans[bastion/api.Class] -/
def F109 : LFunc := .code 2 35 [.t 4]
 (.seq (.reg false [⟨(some 4), .mv (.c (.nilsl)), none, []⟩])
 (.seq (.reg false [⟨(some 10), .mv (.t 0), none, []⟩,
 ⟨(some 11), .call (.builtin .lenSl) [(.t 10)], none, []⟩,
 ⟨(some 12), .mkSlice [.int .i32 0, .int .i32 0, .int .i32 0, .int .u8 0] 4 16 0 (.t 11) (.t 11), none, []⟩,
 ⟨(some 5), .mv (.t 12), none, []⟩])
 (.seq (.seq (.reg false [⟨(some 13), .mv (.t 0), none, []⟩,
 ⟨(some 14), .call (.builtin .lenSl) [(.t 13)], none, []⟩,
 ⟨(some 15), .mv (.c (.int .i64 0)), none, []⟩])
 (.block 0 (.loop (.seq (.reg false [⟨(some 16), .bin .lss (.t 15) (.t 14), none, []⟩])
 (.seq (.cond (.t 16)
 .skip
 (.exit 0))
 (.seq (.block 1 (.seq (.reg false [⟨(some 17), .mv (.t 15), none, []⟩,
 ⟨(some 18), .idxAddr 2 (.t 13) (.t 15), none, []⟩,
 ⟨(some 19), .load 2 true (.t 18), none, []⟩,
 ⟨(some 7), .alloc [.int .i32 0, .int .u8 0] 0, none, []⟩,
 ⟨(some 6), .mv (.t 17), none, []⟩,
 ⟨none, .store 2 (.t 7) (.t 19), none, []⟩])
 (.seq (.reg false [⟨(some 21), .mv (.t 1), none, []⟩,
 ⟨(some 22), .load 2 true (.t 7), none, []⟩,
 ⟨(some 23), .call (.val (.t 21)) [(.t 22)], none, []⟩,
 ⟨(some 20), .mv (.t 23), none, []⟩,
 ⟨(some 24), .extract 0 (.t 20), none, []⟩,
 ⟨(some 25), .extract 1 (.t 20), none, []⟩,
 ⟨(some 8), .mv (.t 24), none, []⟩,
 ⟨(some 9), .mv (.t 25), none, []⟩])
 (.reg false [⟨(some 26), .mv (.t 5), none, []⟩,
 ⟨(some 27), .mv (.t 6), none, []⟩,
 ⟨(some 28), .mv (.t 8), none, []⟩,
 ⟨(some 29), .mv (.t 9), none, []⟩,
 ⟨(some 30), .load 2 true (.t 7), none, []⟩,
 ⟨(some 31), .build [.int .i32 0, .int .i32 0, .int .i32 0, .int .u8 0] [(0, 1, (.t 28)), (1, 1, (.t 29)), (2, 2, (.t 30))], none, []⟩,
 ⟨(some 32), .idxAddr 4 (.t 26) (.t 27), none, []⟩,
 ⟨none, .store 4 (.t 32) (.t 31), none, []⟩]))))
 (.reg false [⟨(some 33), .bin .add (.t 15) (.c (.int .i64 1)), none, []⟩,
 ⟨(some 15), .mv (.t 33), none, []⟩])))))))
 (.seq (.reg false [⟨(some 34), .mv (.t 5), none, []⟩,
 ⟨(some 4), .mv (.t 34), none, []⟩])
 .ret))))
/-- bastion/tables.spans[bastion/api.Joins] -/
def F110 : LFunc := .code 2 35 [.t 4]
 (.seq (.reg false [⟨(some 4), .mv (.c (.nilsl)), none, []⟩])
 (.seq (.reg false [⟨(some 10), .mv (.t 0), none, []⟩,
 ⟨(some 11), .call (.builtin .lenSl) [(.t 10)], none, []⟩,
 ⟨(some 12), .mkSlice [.int .i32 0, .int .i32 0, .int .i32 0, .int .i32 0, .int .u8 0] 5 20 0 (.t 11) (.t 11), none, []⟩,
 ⟨(some 5), .mv (.t 12), none, []⟩])
 (.seq (.seq (.reg false [⟨(some 13), .mv (.t 0), none, []⟩,
 ⟨(some 14), .call (.builtin .lenSl) [(.t 13)], none, []⟩,
 ⟨(some 15), .mv (.c (.int .i64 0)), none, []⟩])
 (.block 0 (.loop (.seq (.reg false [⟨(some 16), .bin .lss (.t 15) (.t 14), none, []⟩])
 (.seq (.cond (.t 16)
 .skip
 (.exit 0))
 (.seq (.block 1 (.seq (.reg false [⟨(some 17), .mv (.t 15), none, []⟩,
 ⟨(some 18), .idxAddr 3 (.t 13) (.t 15), none, []⟩,
 ⟨(some 19), .load 3 true (.t 18), none, []⟩,
 ⟨(some 7), .alloc [.int .i32 0, .int .i32 0, .int .u8 0] 0, none, []⟩,
 ⟨(some 6), .mv (.t 17), none, []⟩,
 ⟨none, .store 3 (.t 7) (.t 19), none, []⟩])
 (.seq (.reg false [⟨(some 21), .mv (.t 1), none, []⟩,
 ⟨(some 22), .load 3 true (.t 7), none, []⟩,
 ⟨(some 23), .call (.val (.t 21)) [(.t 22)], none, []⟩,
 ⟨(some 20), .mv (.t 23), none, []⟩,
 ⟨(some 24), .extract 0 (.t 20), none, []⟩,
 ⟨(some 25), .extract 1 (.t 20), none, []⟩,
 ⟨(some 8), .mv (.t 24), none, []⟩,
 ⟨(some 9), .mv (.t 25), none, []⟩])
 (.reg false [⟨(some 26), .mv (.t 5), none, []⟩,
 ⟨(some 27), .mv (.t 6), none, []⟩,
 ⟨(some 28), .mv (.t 8), none, []⟩,
 ⟨(some 29), .mv (.t 9), none, []⟩,
 ⟨(some 30), .load 3 true (.t 7), none, []⟩,
 ⟨(some 31), .build [.int .i32 0, .int .i32 0, .int .i32 0, .int .i32 0, .int .u8 0] [(0, 1, (.t 28)), (1, 1, (.t 29)), (2, 3, (.t 30))], none, []⟩,
 ⟨(some 32), .idxAddr 5 (.t 26) (.t 27), none, []⟩,
 ⟨none, .store 5 (.t 32) (.t 31), none, []⟩]))))
 (.reg false [⟨(some 33), .bin .add (.t 15) (.c (.int .i64 1)), none, []⟩,
 ⟨(some 15), .mv (.t 33), none, []⟩])))))))
 (.seq (.reg false [⟨(some 34), .mv (.t 5), none, []⟩,
 ⟨(some 4), .mv (.t 34), none, []⟩])
 .ret))))
/-- bastion/tables.spans[bastion/api.Pair] -/
def F111 : LFunc := .code 2 35 [.t 4]
 (.seq (.reg false [⟨(some 4), .mv (.c (.nilsl)), none, []⟩])
 (.seq (.reg false [⟨(some 10), .mv (.t 0), none, []⟩,
 ⟨(some 11), .call (.builtin .lenSl) [(.t 10)], none, []⟩,
 ⟨(some 12), .mkSlice [.int .i32 0, .int .i32 0, .int .i32 0, .int .i32 0, .int .i32 0, .bool false] 6 24 0 (.t 11) (.t 11), none, []⟩,
 ⟨(some 5), .mv (.t 12), none, []⟩])
 (.seq (.seq (.reg false [⟨(some 13), .mv (.t 0), none, []⟩,
 ⟨(some 14), .call (.builtin .lenSl) [(.t 13)], none, []⟩,
 ⟨(some 15), .mv (.c (.int .i64 0)), none, []⟩])
 (.block 0 (.loop (.seq (.reg false [⟨(some 16), .bin .lss (.t 15) (.t 14), none, []⟩])
 (.seq (.cond (.t 16)
 .skip
 (.exit 0))
 (.seq (.block 1 (.seq (.reg false [⟨(some 17), .mv (.t 15), none, []⟩,
 ⟨(some 18), .idxAddr 4 (.t 13) (.t 15), none, []⟩,
 ⟨(some 19), .load 4 true (.t 18), none, []⟩,
 ⟨(some 7), .alloc [.int .i32 0, .int .i32 0, .int .i32 0, .bool false] 0, none, []⟩,
 ⟨(some 6), .mv (.t 17), none, []⟩,
 ⟨none, .store 4 (.t 7) (.t 19), none, []⟩])
 (.seq (.reg false [⟨(some 21), .mv (.t 1), none, []⟩,
 ⟨(some 22), .load 4 true (.t 7), none, []⟩,
 ⟨(some 23), .call (.val (.t 21)) [(.t 22)], none, []⟩,
 ⟨(some 20), .mv (.t 23), none, []⟩,
 ⟨(some 24), .extract 0 (.t 20), none, []⟩,
 ⟨(some 25), .extract 1 (.t 20), none, []⟩,
 ⟨(some 8), .mv (.t 24), none, []⟩,
 ⟨(some 9), .mv (.t 25), none, []⟩])
 (.reg false [⟨(some 26), .mv (.t 5), none, []⟩,
 ⟨(some 27), .mv (.t 6), none, []⟩,
 ⟨(some 28), .mv (.t 8), none, []⟩,
 ⟨(some 29), .mv (.t 9), none, []⟩,
 ⟨(some 30), .load 4 true (.t 7), none, []⟩,
 ⟨(some 31), .build [.int .i32 0, .int .i32 0, .int .i32 0, .int .i32 0, .int .i32 0, .bool false] [(0, 1, (.t 28)), (1, 1, (.t 29)), (2, 4, (.t 30))], none, []⟩,
 ⟨(some 32), .idxAddr 6 (.t 26) (.t 27), none, []⟩,
 ⟨none, .store 6 (.t 32) (.t 31), none, []⟩]))))
 (.reg false [⟨(some 33), .bin .add (.t 15) (.c (.int .i64 1)), none, []⟩,
 ⟨(some 15), .mv (.t 33), none, []⟩])))))))
 (.seq (.reg false [⟨(some 34), .mv (.t 5), none, []⟩,
 ⟨(some 4), .mv (.t 34), none, []⟩])
 .ret))))
/-- bastion/tables.spans[bastion/api.Span] -/
def F112 : LFunc := .code 2 35 [.t 4]
 (.seq (.reg false [⟨(some 4), .mv (.c (.nilsl)), none, []⟩])
 (.seq (.reg false [⟨(some 10), .mv (.t 0), none, []⟩,
 ⟨(some 11), .call (.builtin .lenSl) [(.t 10)], none, []⟩,
 ⟨(some 12), .mkSlice [.int .i32 0, .int .i32 0, .int .i32 0, .int .i32 0, .int .u8 0, .nilsl] 6 48 0 (.t 11) (.t 11), none, []⟩,
 ⟨(some 5), .mv (.t 12), none, []⟩])
 (.seq (.seq (.reg false [⟨(some 13), .mv (.t 0), none, []⟩,
 ⟨(some 14), .call (.builtin .lenSl) [(.t 13)], none, []⟩,
 ⟨(some 15), .mv (.c (.int .i64 0)), none, []⟩])
 (.block 0 (.loop (.seq (.reg false [⟨(some 16), .bin .lss (.t 15) (.t 14), none, []⟩])
 (.seq (.cond (.t 16)
 .skip
 (.exit 0))
 (.seq (.block 1 (.seq (.reg false [⟨(some 17), .mv (.t 15), none, []⟩,
 ⟨(some 18), .idxAddr 4 (.t 13) (.t 15), none, []⟩,
 ⟨(some 19), .load 4 true (.t 18), none, []⟩,
 ⟨(some 7), .alloc [.int .i32 0, .int .i32 0, .int .u8 0, .nilsl] 0, none, []⟩,
 ⟨(some 6), .mv (.t 17), none, []⟩,
 ⟨none, .store 4 (.t 7) (.t 19), none, []⟩])
 (.seq (.reg false [⟨(some 21), .mv (.t 1), none, []⟩,
 ⟨(some 22), .load 4 true (.t 7), none, []⟩,
 ⟨(some 23), .call (.val (.t 21)) [(.t 22)], none, []⟩,
 ⟨(some 20), .mv (.t 23), none, []⟩,
 ⟨(some 24), .extract 0 (.t 20), none, []⟩,
 ⟨(some 25), .extract 1 (.t 20), none, []⟩,
 ⟨(some 8), .mv (.t 24), none, []⟩,
 ⟨(some 9), .mv (.t 25), none, []⟩])
 (.reg false [⟨(some 26), .mv (.t 5), none, []⟩,
 ⟨(some 27), .mv (.t 6), none, []⟩,
 ⟨(some 28), .mv (.t 8), none, []⟩,
 ⟨(some 29), .mv (.t 9), none, []⟩,
 ⟨(some 30), .load 4 true (.t 7), none, []⟩,
 ⟨(some 31), .build [.int .i32 0, .int .i32 0, .int .i32 0, .int .i32 0, .int .u8 0, .nilsl] [(0, 1, (.t 28)), (1, 1, (.t 29)), (2, 4, (.t 30))], none, []⟩,
 ⟨(some 32), .idxAddr 6 (.t 26) (.t 27), none, []⟩,
 ⟨none, .store 6 (.t 32) (.t 31), none, []⟩]))))
 (.reg false [⟨(some 33), .bin .add (.t 15) (.c (.int .i64 1)), none, []⟩,
 ⟨(some 15), .mv (.t 33), none, []⟩])))))))
 (.seq (.reg false [⟨(some 34), .mv (.t 5), none, []⟩,
 ⟨(some 4), .mv (.t 34), none, []⟩])
 .ret))))
/-- bastion/tables.spans[bastion/api.Ways] -/
def F113 : LFunc := .code 2 35 [.t 4]
 (.seq (.reg false [⟨(some 4), .mv (.c (.nilsl)), none, []⟩])
 (.seq (.reg false [⟨(some 10), .mv (.t 0), none, []⟩,
 ⟨(some 11), .call (.builtin .lenSl) [(.t 10)], none, []⟩,
 ⟨(some 12), .mkSlice [.int .i32 0, .int .i32 0, .int .i32 0, .int .i32 0, .int .u8 0] 5 20 0 (.t 11) (.t 11), none, []⟩,
 ⟨(some 5), .mv (.t 12), none, []⟩])
 (.seq (.seq (.reg false [⟨(some 13), .mv (.t 0), none, []⟩,
 ⟨(some 14), .call (.builtin .lenSl) [(.t 13)], none, []⟩,
 ⟨(some 15), .mv (.c (.int .i64 0)), none, []⟩])
 (.block 0 (.loop (.seq (.reg false [⟨(some 16), .bin .lss (.t 15) (.t 14), none, []⟩])
 (.seq (.cond (.t 16)
 .skip
 (.exit 0))
 (.seq (.block 1 (.seq (.reg false [⟨(some 17), .mv (.t 15), none, []⟩,
 ⟨(some 18), .idxAddr 3 (.t 13) (.t 15), none, []⟩,
 ⟨(some 19), .load 3 true (.t 18), none, []⟩,
 ⟨(some 7), .alloc [.int .i32 0, .int .i32 0, .int .u8 0] 0, none, []⟩,
 ⟨(some 6), .mv (.t 17), none, []⟩,
 ⟨none, .store 3 (.t 7) (.t 19), none, []⟩])
 (.seq (.reg false [⟨(some 21), .mv (.t 1), none, []⟩,
 ⟨(some 22), .load 3 true (.t 7), none, []⟩,
 ⟨(some 23), .call (.val (.t 21)) [(.t 22)], none, []⟩,
 ⟨(some 20), .mv (.t 23), none, []⟩,
 ⟨(some 24), .extract 0 (.t 20), none, []⟩,
 ⟨(some 25), .extract 1 (.t 20), none, []⟩,
 ⟨(some 8), .mv (.t 24), none, []⟩,
 ⟨(some 9), .mv (.t 25), none, []⟩])
 (.reg false [⟨(some 26), .mv (.t 5), none, []⟩,
 ⟨(some 27), .mv (.t 6), none, []⟩,
 ⟨(some 28), .mv (.t 8), none, []⟩,
 ⟨(some 29), .mv (.t 9), none, []⟩,
 ⟨(some 30), .load 3 true (.t 7), none, []⟩,
 ⟨(some 31), .build [.int .i32 0, .int .i32 0, .int .i32 0, .int .i32 0, .int .u8 0] [(0, 1, (.t 28)), (1, 1, (.t 29)), (2, 3, (.t 30))], none, []⟩,
 ⟨(some 32), .idxAddr 5 (.t 26) (.t 27), none, []⟩,
 ⟨none, .store 5 (.t 32) (.t 31), none, []⟩]))))
 (.reg false [⟨(some 33), .bin .add (.t 15) (.c (.int .i64 1)), none, []⟩,
 ⟨(some 15), .mv (.t 33), none, []⟩])))))))
 (.seq (.reg false [⟨(some 34), .mv (.t 5), none, []⟩,
 ⟨(some 4), .mv (.t 34), none, []⟩])
 .ret))))
/-- bastion/url.Check -/
def F114 : LFunc := .code 1 155 [.t 2]
 (.seq (.reg false [⟨(some 1), .box 0 (.t 0), none, []⟩,
 ⟨(some 2), .mv (.c (.int .i64 0)), none, []⟩])
 (.seq (.reg false [⟨(some 10), .fieldAddr 0 (.t 1), none, []⟩,
 ⟨(some 11), .load 1 false (.t 10), none, []⟩,
 ⟨(some 12), .bin .add (.t 11) (.c (.str [58])), none, []⟩,
 ⟨(some 13), .call (.fn 130) [(.t 12)], none, []⟩,
 ⟨(some 9), .mv (.t 13), none, []⟩,
 ⟨(some 14), .extract 0 (.t 9), none, []⟩,
 ⟨(some 15), .extract 1 (.t 9), none, []⟩,
 ⟨(some 16), .extract 2 (.t 9), none, []⟩,
 ⟨(some 3), .mv (.t 14), none, []⟩,
 ⟨(some 4), .mv (.t 15), none, []⟩,
 ⟨(some 5), .mv (.t 16), none, []⟩])
 (.seq (.reg false [⟨(some 18), .fieldAddr 0 (.t 1), none, []⟩,
 ⟨(some 19), .load 1 false (.t 18), none, []⟩,
 ⟨(some 20), .call (.fn 116) [(.t 19)], none, []⟩,
 ⟨(some 17), .mv (.t 20), none, []⟩,
 ⟨(some 21), .extract 0 (.t 17), none, []⟩,
 ⟨(some 22), .extract 1 (.t 17), none, []⟩,
 ⟨(some 6), .mv (.t 21), none, []⟩,
 ⟨(some 7), .mv (.t 22), none, []⟩])
 (.seq (.reg false [⟨(some 23), .fieldAddr 3 (.t 1), none, []⟩,
 ⟨(some 24), .fieldAddr 0 (.t 23), none, []⟩,
 ⟨(some 25), .load 1 false (.t 24), none, []⟩,
 ⟨(some 26), .bin .eql (.t 25) (.c (.int .u8 0)), none, []⟩,
 ⟨(some 27), .mv (.t 26), none, []⟩,
 ⟨(some 28), .fieldAddr 3 (.t 1), (some (27, false)), []⟩,
 ⟨(some 29), .fieldAddr 0 (.t 28), (some (27, false)), []⟩,
 ⟨(some 30), .load 1 false (.t 29), (some (27, false)), []⟩,
 ⟨(some 31), .bin .eql (.t 30) (.c (.int .u8 5)), (some (27, false)), []⟩,
 ⟨(some 32), .pick (.t 27) (.c (.bool true)) (.t 31), none, []⟩,
 ⟨(some 33), .mv (.t 32), none, []⟩,
 ⟨(some 34), .fieldAddr 0 (.t 1), (some (33, false)), []⟩,
 ⟨(some 35), .load 1 false (.t 34), (some (33, false)), []⟩,
 ⟨(some 36), .bin .eql (.t 35) (.c (.str [102, 105, 108, 101])), (some (33, false)), []⟩,
 ⟨(some 37), .pick (.t 33) (.c (.bool true)) (.t 36), none, []⟩,
 ⟨(some 8), .mv (.t 37), none, []⟩])
 (.seq (.reg false [⟨(some 38), .mv (.t 5), none, []⟩,
 ⟨(some 39), .mv (.t 38), none, []⟩,
 ⟨(some 40), .mv (.t 3), (some (39, true)), []⟩,
 ⟨(some 41), .fieldAddr 0 (.t 1), (some (39, true)), []⟩,
 ⟨(some 42), .load 1 false (.t 41), (some (39, true)), []⟩,
 ⟨(some 43), .bin .eql (.t 40) (.t 42), (some (39, true)), []⟩,
 ⟨(some 44), .pick (.t 39) (.t 43) (.c (.bool false)), none, []⟩,
 ⟨(some 45), .mv (.t 44), none, []⟩,
 ⟨(some 46), .mv (.t 4), (some (45, true)), []⟩,
 ⟨(some 47), .bin .eql (.t 46) (.c (.str [])), (some (45, true)), []⟩,
 ⟨(some 48), .pick (.t 45) (.t 47) (.c (.bool false)), none, []⟩,
 ⟨(some 49), .mv (.t 48), none, []⟩,
 ⟨(some 50), .load 23 true (.t 1), (some (49, true)), []⟩,
 ⟨(some 51), .call (.fn 126) [(.t 50)], (some (49, true)), []⟩,
 ⟨(some 52), .pick (.t 49) (.t 51) (.c (.bool false)), none, []⟩,
 ⟨(some 53), .mv (.t 52), none, []⟩,
 ⟨(some 54), .load 23 true (.t 1), (some (53, true)), []⟩,
 ⟨(some 55), .call (.fn 128) [(.t 54)], (some (53, true)), []⟩,
 ⟨(some 56), .pick (.t 53) (.t 55) (.c (.bool false)), none, []⟩,
 ⟨(some 5), .mv (.t 56), none, []⟩])
 (.seq (.reg false [⟨(some 57), .mv (.t 5), none, []⟩,
 ⟨(some 58), .mv (.t 57), none, []⟩,
 ⟨(some 59), .fieldAddr 1 (.t 1), (some (58, true)), []⟩,
 ⟨(some 60), .load 1 false (.t 59), (some (58, true)), []⟩,
 ⟨(some 61), .fieldAddr 2 (.t 1), (some (58, true)), []⟩,
 ⟨(some 62), .load 1 false (.t 61), (some (58, true)), []⟩,
 ⟨(some 63), .lit [.str []] 2 1 [(0, 1, (.t 60)), (1, 1, (.t 62))], (some (58, true)), []⟩,
 ⟨(some 64), .call (.fn 124) [(.c (.int .u8 6)), (.t 63)], (some (58, true)), []⟩,
 ⟨(some 65), .pick (.t 58) (.t 64) (.c (.bool false)), none, []⟩,
 ⟨(some 66), .mv (.t 65), none, []⟩,
 ⟨(some 67), .mv (.t 8), (some (66, true)), []⟩,
 ⟨(some 68), .mv (.t 67), (some (66, true)), []⟩,
 ⟨(some 69), .fieldAddr 1 (.t 1), (some (68, true)), []⟩,
 ⟨(some 70), .load 1 false (.t 69), (some (68, true)), []⟩,
 ⟨(some 71), .bin .neq (.t 70) (.c (.str [])), (some (68, true)), []⟩,
 ⟨(some 72), .mv (.t 71), (some (68, true)), []⟩,
 ⟨(some 73), .fieldAddr 2 (.t 1), (some (72, false)), []⟩,
 ⟨(some 74), .load 1 false (.t 73), (some (72, false)), []⟩,
 ⟨(some 75), .bin .neq (.t 74) (.c (.str [])), (some (72, false)), []⟩,
 ⟨(some 76), .pick (.t 72) (.c (.bool true)) (.t 75), (some (68, true)), []⟩,
 ⟨(some 77), .mv (.t 76), (some (68, true)), []⟩,
 ⟨(some 78), .fieldAddr 15 (.t 1), (some (77, false)), []⟩,
 ⟨(some 79), .load 1 false (.t 78), (some (77, false)), []⟩,
 ⟨(some 80), .pick (.t 77) (.c (.bool true)) (.t 79), (some (68, true)), []⟩,
 ⟨(some 81), .pick (.t 68) (.t 80) (.c (.bool false)), (some (66, true)), []⟩,
 ⟨(some 82), .un .not (.t 81), (some (66, true)), []⟩,
 ⟨(some 83), .pick (.t 66) (.t 82) (.c (.bool false)), none, []⟩,
 ⟨(some 5), .mv (.t 83), none, []⟩])
 (.seq (.reg false [⟨(some 84), .mv (.t 5), none, []⟩,
 ⟨(some 85), .mv (.t 84), none, []⟩,
 ⟨(some 86), .fieldAddr 15 (.t 1), (some (85, true)), []⟩,
 ⟨(some 87), .load 1 false (.t 86), (some (85, true)), []⟩,
 ⟨(some 88), .mv (.t 87), (some (85, true)), []⟩,
 ⟨(some 89), .fieldAddr 14 (.t 1), (some (88, false)), []⟩,
 ⟨(some 90), .load 1 false (.t 89), (some (88, false)), []⟩,
 ⟨(some 91), .bin .eql (.t 90) (.c (.int .i64 0)), (some (88, false)), []⟩,
 ⟨(some 92), .pick (.t 88) (.c (.bool true)) (.t 91), (some (85, true)), []⟩,
 ⟨(some 93), .pick (.t 85) (.t 92) (.c (.bool false)), none, []⟩,
 ⟨(some 94), .mv (.t 93), none, []⟩,
 ⟨(some 95), .fieldAddr 14 (.t 1), (some (94, true)), []⟩,
 ⟨(some 96), .load 1 false (.t 95), (some (94, true)), []⟩,
 ⟨(some 97), .bin .geq (.t 96) (.c (.int .i64 0)), (some (94, true)), []⟩,
 ⟨(some 98), .pick (.t 94) (.t 97) (.c (.bool false)), none, []⟩,
 ⟨(some 99), .mv (.t 98), none, []⟩,
 ⟨(some 100), .fieldAddr 14 (.t 1), (some (99, true)), []⟩,
 ⟨(some 101), .load 1 false (.t 100), (some (99, true)), []⟩,
 ⟨(some 102), .bin .lss (.t 101) (.c (.int .i64 65536)), (some (99, true)), []⟩,
 ⟨(some 103), .pick (.t 99) (.t 102) (.c (.bool false)), none, []⟩,
 ⟨(some 104), .mv (.t 103), none, []⟩,
 ⟨(some 105), .fieldAddr 15 (.t 1), (some (104, true)), []⟩,
 ⟨(some 106), .load 1 false (.t 105), (some (104, true)), []⟩,
 ⟨(some 107), .mv (.t 106), (some (104, true)), []⟩,
 ⟨(some 108), .mv (.t 7), (some (107, true)), []⟩,
 ⟨(some 109), .pick (.t 107) (.t 108) (.c (.bool false)), (some (104, true)), []⟩,
 ⟨(some 110), .mv (.t 109), (some (104, true)), []⟩,
 ⟨(some 111), .fieldAddr 14 (.t 1), (some (110, true)), []⟩,
 ⟨(some 112), .load 1 false (.t 111), (some (110, true)), []⟩,
 ⟨(some 113), .mv (.t 6), (some (110, true)), []⟩,
 ⟨(some 114), .bin .eql (.t 112) (.t 113), (some (110, true)), []⟩,
 ⟨(some 115), .pick (.t 110) (.t 114) (.c (.bool false)), (some (104, true)), []⟩,
 ⟨(some 116), .un .not (.t 115), (some (104, true)), []⟩,
 ⟨(some 117), .pick (.t 104) (.t 116) (.c (.bool false)), none, []⟩,
 ⟨(some 5), .mv (.t 117), none, []⟩])
 (.seq (.reg true [⟨(some 118), .mv (.t 5), none, []⟩,
 ⟨(some 119), .mv (.t 118), none, [0]⟩,
 ⟨(some 120), .fieldAddr 20 (.t 1), (some (119, true)), [1]⟩,
 ⟨(some 121), .load 1 false (.t 120), (some (119, true)), [2, 1]⟩,
 ⟨(some 122), .mv (.t 121), (some (119, true)), [3, 1, 1]⟩,
 ⟨(some 123), .fieldAddr 19 (.t 1), (some (122, false)), [4]⟩,
 ⟨(some 124), .load 1 false (.t 123), (some (122, false)), [5, 4]⟩,
 ⟨(some 125), .bin .eql (.t 124) (.c (.str [])), (some (122, false)), [6, 4]⟩,
 ⟨(some 126), .pick (.t 122) (.c (.bool true)) (.t 125), (some (119, true)), [4, 7, 1]⟩,
 ⟨(some 127), .pick (.t 119) (.t 126) (.c (.bool false)), none, [1, 8]⟩,
 ⟨(some 128), .mv (.t 127), none, [9, 4]⟩,
 ⟨(some 129), .fieldAddr 0 (.t 1), (some (128, true)), [10]⟩,
 ⟨(some 130), .load 1 false (.t 129), (some (128, true)), [11, 10]⟩,
 ⟨(some 131), .call (.fn 129) [(.t 130)], (some (128, true)), [12, 10, 10]⟩,
 ⟨(some 132), .fieldAddr 19 (.t 1), (some (128, true)), [10]⟩,
 ⟨(some 133), .load 1 false (.t 132), (some (128, true)), [14, 10]⟩,
 ⟨(some 134), .lit [.str []] 1 1 [(0, 1, (.t 133))], (some (128, true)), [15, 10]⟩,
 ⟨(some 135), .call (.fn 124) [(.t 131), (.t 134)], (some (128, true)), [13, 16, 13, 10]⟩,
 ⟨(some 136), .pick (.t 128) (.t 135) (.c (.bool false)), none, [10, 17]⟩,
 ⟨(some 5), .mv (.t 136), none, [18, 17, 0, 1, 2, 3, 4, 5, 6, 7, 8, 9, 10, 11, 12, 13, 14, 15, 16, 17, 18]⟩])
 (.seq (.reg false [⟨(some 137), .mv (.t 5), none, []⟩,
 ⟨(some 138), .mv (.t 137), none, []⟩,
 ⟨(some 139), .fieldAddr 22 (.t 1), (some (138, true)), []⟩,
 ⟨(some 140), .load 1 false (.t 139), (some (138, true)), []⟩,
 ⟨(some 141), .mv (.t 140), (some (138, true)), []⟩,
 ⟨(some 142), .fieldAddr 21 (.t 1), (some (141, false)), []⟩,
 ⟨(some 143), .load 1 false (.t 142), (some (141, false)), []⟩,
 ⟨(some 144), .bin .eql (.t 143) (.c (.str [])), (some (141, false)), []⟩,
 ⟨(some 145), .pick (.t 141) (.c (.bool true)) (.t 144), (some (138, true)), []⟩,
 ⟨(some 146), .pick (.t 138) (.t 145) (.c (.bool false)), none, []⟩,
 ⟨(some 147), .mv (.t 146), none, []⟩,
 ⟨(some 148), .fieldAddr 21 (.t 1), (some (147, true)), []⟩,
 ⟨(some 149), .load 1 false (.t 148), (some (147, true)), []⟩,
 ⟨(some 150), .lit [.str []] 1 1 [(0, 1, (.t 149))], (some (147, true)), []⟩,
 ⟨(some 151), .call (.fn 124) [(.c (.int .u8 2)), (.t 150)], (some (147, true)), []⟩,
 ⟨(some 152), .pick (.t 147) (.t 151) (.c (.bool false)), none, []⟩,
 ⟨(some 5), .mv (.t 152), none, []⟩])
 (.seq (.seq (.reg false [⟨(some 153), .mv (.t 5), none, []⟩,
 ⟨(some 154), .un .not (.t 153), none, []⟩])
 (.cond (.t 154)
 (.seq (.reg false [⟨(some 2), .mv (.c (.int .i64 19)), none, []⟩])
  .ret)
 .skip))
 (.seq (.reg false [⟨(some 2), .mv (.c (.int .i64 0)), none, []⟩])
 .ret)))))))))))
/-- bastion/url.Parse -/
def F115 : LFunc := .code 4 62 [.cell 8 23 true, .t 9]
 (.seq (.reg false [⟨(some 4), .box 0 (.t 0), none, []⟩,
 ⟨(some 6), .box 0 (.t 2), none, []⟩,
 ⟨(some 8), .alloc [.str [], .str [], .str [], .int .u8 0, .str [], .int .u32 0, .int .u16 0, .int .u16 0, .int .u16 0, .int .u16 0, .int .u16 0, .int .u16 0, .int .u16 0, .int .u16 0, .int .i64 0, .bool false, .nilsl, .bool false, .str [], .str [], .bool false, .str [], .bool false] 0, none, []⟩,
 ⟨(some 9), .mv (.c (.int .i64 0)), none, []⟩])
 (.seq (.block 0 (.seq (.reg false [⟨(some 12), .mv (.t 1), none, []⟩,
 ⟨(some 13), .call (.builtin .lenStr) [(.t 12)], none, []⟩,
 ⟨(some 14), .bin .gtr (.t 13) (.c (.int .i64 4096)), none, []⟩,
 ⟨(some 11), .mv (.t 14), none, []⟩])
 (.cond (.t 11)
 (.seq (.reg false [⟨(some 15), .build [.str [], .str [], .str [], .int .u8 0, .str [], .int .u32 0, .int .u16 0, .int .u16 0, .int .u16 0, .int .u16 0, .int .u16 0, .int .u16 0, .int .u16 0, .int .u16 0, .int .i64 0, .bool false, .nilsl, .bool false, .str [], .str [], .bool false, .str [], .bool false] [], none, []⟩,
  ⟨none, .store 23 (.t 8) (.t 15), none, []⟩,
  ⟨(some 9), .mv (.c (.int .i64 4)), none, []⟩])
  .ret)
 (.seq (.reg false [⟨(some 17), .mv (.t 3), none, []⟩,
  ⟨(some 18), .mv (.t 17), none, []⟩,
  ⟨(some 19), .load 23 true (.t 6), (some (18, true)), []⟩,
  ⟨(some 20), .call (.fn 114) [(.t 19)], (some (18, true)), []⟩,
  ⟨(some 21), .bin .neq (.t 20) (.c (.int .i64 0)), (some (18, true)), []⟩,
  ⟨(some 22), .pick (.t 18) (.t 21) (.c (.bool false)), none, []⟩,
  ⟨(some 16), .mv (.t 22), none, []⟩])
  (.cond (.t 16)
  (.seq (.reg false [⟨(some 23), .build [.str [], .str [], .str [], .int .u8 0, .str [], .int .u32 0, .int .u16 0, .int .u16 0, .int .u16 0, .int .u16 0, .int .u16 0, .int .u16 0, .int .u16 0, .int .u16 0, .int .i64 0, .bool false, .nilsl, .bool false, .str [], .str [], .bool false, .str [], .bool false] [], none, []⟩,
   ⟨none, .store 23 (.t 8) (.t 23), none, []⟩,
   ⟨(some 9), .mv (.c (.int .i64 19)), none, []⟩])
   .ret)
  .skip)))))
 (.seq (.reg false [⟨(some 24), .load 5 true (.t 4), none, []⟩,
 ⟨(some 25), .load 23 true (.t 6), none, []⟩,
 ⟨(some 26), .mv (.t 3), none, []⟩,
 ⟨(some 27), .build [.str [], .str [], .str [], .int .u8 0, .str [], .int .u32 0, .int .u16 0, .int .u16 0, .int .u16 0, .int .u16 0, .int .u16 0, .int .u16 0, .int .u16 0, .int .u16 0, .int .i64 0, .bool false, .nilsl, .bool false, .str [], .str [], .bool false, .str [], .bool false, .nilsl, .nilsl, .nilsl, .nilsl, .nilsl, .str [], .str [], .str [], .int .u8 0, .str [], .int .u32 0, .int .u16 0, .int .u16 0, .int .u16 0, .int .u16 0, .int .u16 0, .int .u16 0, .int .u16 0, .int .u16 0, .int .i64 0, .bool false, .nilsl, .bool false, .str [], .str [], .bool false, .str [], .bool false, .bool false, .int .i64 0] [(23, 5, (.t 24)), (28, 23, (.t 25)), (51, 1, (.t 26))], none, []⟩,
 ⟨(some 28), .box 0 (.t 27), none, []⟩,
 ⟨(some 10), .mv (.t 28), none, []⟩])
 (.seq (.reg false [⟨(some 29), .mv (.t 10), none, []⟩,
 ⟨(some 30), .mv (.t 1), none, []⟩,
 ⟨(some 31), .call (.fn 7) [(.t 29), (.t 30)], none, []⟩])
 (.seq (.seq (.reg false [⟨(some 32), .mv (.t 10), none, []⟩,
 ⟨(some 33), .nilChk (.t 32), none, []⟩,
 ⟨(some 34), .fieldAddr 52 (.t 33), none, []⟩,
 ⟨(some 35), .load 1 false (.t 34), none, []⟩,
 ⟨(some 36), .bin .eql (.t 35) (.c (.int .i64 0)), none, []⟩,
 ⟨(some 37), .mv (.t 36), none, []⟩,
 ⟨(some 38), .mv (.t 10), (some (37, true)), []⟩,
 ⟨(some 39), .nilChk (.t 38), (some (37, true)), []⟩,
 ⟨(some 40), .fieldAddr 0 (.t 39), (some (37, true)), []⟩,
 ⟨(some 41), .fieldAddr 16 (.t 40), (some (37, true)), []⟩,
 ⟨(some 42), .load 1 false (.t 41), (some (37, true)), []⟩,
 ⟨(some 43), .call (.builtin .lenSl) [(.t 42)], (some (37, true)), []⟩,
 ⟨(some 44), .bin .gtr (.t 43) (.c (.int .i64 256)), (some (37, true)), []⟩,
 ⟨(some 45), .pick (.t 37) (.t 44) (.c (.bool false)), none, []⟩])
 (.cond (.t 45)
 (.reg false [⟨(some 46), .mv (.t 10), none, []⟩,
  ⟨(some 47), .fail, none, []⟩])
 .skip))
 (.seq (.seq (.reg false [⟨(some 48), .mv (.t 10), none, []⟩,
 ⟨(some 49), .nilChk (.t 48), none, []⟩,
 ⟨(some 50), .fieldAddr 52 (.t 49), none, []⟩,
 ⟨(some 51), .load 1 false (.t 50), none, []⟩,
 ⟨(some 52), .bin .neq (.t 51) (.c (.int .i64 0)), none, []⟩])
 (.cond (.t 52)
 (.seq (.reg true [⟨(some 53), .build [.str [], .str [], .str [], .int .u8 0, .str [], .int .u32 0, .int .u16 0, .int .u16 0, .int .u16 0, .int .u16 0, .int .u16 0, .int .u16 0, .int .u16 0, .int .u16 0, .int .i64 0, .bool false, .nilsl, .bool false, .str [], .str [], .bool false, .str [], .bool false] [], none, []⟩,
  ⟨(some 54), .mv (.t 10), none, []⟩,
  ⟨(some 55), .nilChk (.t 54), none, [1]⟩,
  ⟨(some 56), .fieldAddr 52 (.t 55), none, [2]⟩,
  ⟨(some 57), .load 1 false (.t 56), none, [3]⟩,
  ⟨none, .store 23 (.t 8) (.t 53), none, [0, 0]⟩,
  ⟨(some 9), .mv (.t 57), none, [4, 5, 0, 1, 2, 3, 4, 5]⟩])
  .ret)
 .skip))
 (.seq (.reg false [⟨(some 58), .mv (.t 10), none, []⟩,
 ⟨(some 59), .nilChk (.t 58), none, []⟩,
 ⟨(some 60), .fieldAddr 0 (.t 59), none, []⟩,
 ⟨(some 61), .load 23 true (.t 60), none, []⟩,
 ⟨none, .store 23 (.t 8) (.t 61), none, []⟩,
 ⟨(some 9), .mv (.c (.int .i64 0)), none, []⟩])
 .ret)))))))
/-- bastion/url.Special -/
def F116 : LFunc := .code 1 15 [.t 2, .t 3]
 (.seq (.reg false [⟨(some 2), .mv (.c (.int .i64 0)), none, []⟩,
 ⟨(some 3), .mv (.c (.bool false)), none, []⟩])
 (.seq (.reg false [⟨(some 7), .mkMap, none, []⟩,
 ⟨none, .mapUpd .s (.t 7) (.c (.str [102, 116, 112])) (.c (.int .i64 21)), none, []⟩,
 ⟨none, .mapUpd .s (.t 7) (.c (.str [102, 105, 108, 101])) (.c (.int .i64 0)), none, []⟩,
 ⟨none, .mapUpd .s (.t 7) (.c (.str [104, 116, 116, 112])) (.c (.int .i64 80)), none, []⟩,
 ⟨none, .mapUpd .s (.t 7) (.c (.str [104, 116, 116, 112, 115])) (.c (.int .i64 443)), none, []⟩,
 ⟨none, .mapUpd .s (.t 7) (.c (.str [119, 115])) (.c (.int .i64 80)), none, []⟩,
 ⟨none, .mapUpd .s (.t 7) (.c (.str [119, 115, 115])) (.c (.int .i64 443)), none, []⟩,
 ⟨(some 8), .mv (.t 7), none, []⟩,
 ⟨(some 9), .mv (.t 0), none, []⟩,
 ⟨(some 10), .lookup .s (.int .i64 0) true (.t 8) (.t 9), none, []⟩,
 ⟨(some 6), .mv (.t 10), none, []⟩,
 ⟨(some 11), .extract 0 (.t 6), none, []⟩,
 ⟨(some 12), .extract 1 (.t 6), none, []⟩,
 ⟨(some 4), .mv (.t 11), none, []⟩,
 ⟨(some 5), .mv (.t 12), none, []⟩])
 (.seq (.reg false [⟨(some 13), .mv (.t 4), none, []⟩,
 ⟨(some 14), .mv (.t 5), none, []⟩,
 ⟨(some 2), .mv (.t 13), none, []⟩,
 ⟨(some 3), .mv (.t 14), none, []⟩])
 .ret)))
/-- bastion/url.anyAt -/
def F117 : LFunc := .code 2 24 [.t 4]
 (.seq (.reg false [⟨(some 4), .mv (.c (.int .i64 0)), none, []⟩])
 (.seq (.seq (.reg false [⟨(some 9), .mv (.t 0), none, []⟩,
 ⟨(some 10), .rangeStr (.t 9), none, []⟩])
 (.block 0 (.loop (.seq (.reg false [⟨(some 11), .nextStr (.t 10), none, []⟩,
 ⟨(some 12), .extract 0 (.t 11), none, []⟩])
 (.seq (.cond (.t 12)
 .skip
 (.exit 0))
 (.block 1 (.seq (.reg false [⟨(some 13), .extract 1 (.t 11), none, []⟩,
 ⟨(some 14), .extract 2 (.t 11), none, []⟩,
 ⟨(some 5), .mv (.t 13), none, []⟩,
 ⟨(some 6), .mv (.t 14), none, []⟩])
 (.seq (.reg false [⟨(some 15), .mv (.t 1), none, []⟩,
 ⟨(some 16), .rangeStr (.t 15), none, []⟩])
 (.block 2 (.loop (.seq (.reg false [⟨(some 17), .nextStr (.t 16), none, []⟩,
 ⟨(some 18), .extract 0 (.t 17), none, []⟩])
 (.seq (.cond (.t 18)
 .skip
 (.exit 2))
 (.block 3 (.seq (.reg false [⟨(some 19), .extract 2 (.t 17), none, []⟩,
 ⟨(some 8), .mv (.t 19), none, []⟩])
 (.seq (.reg false [⟨(some 20), .mv (.t 6), none, []⟩,
 ⟨(some 21), .mv (.t 8), none, []⟩,
 ⟨(some 22), .bin .eql (.t 20) (.t 21), none, []⟩])
 (.cond (.t 22)
 (.seq (.reg false [⟨(some 23), .mv (.t 5), none, []⟩,
  ⟨(some 4), .mv (.t 23), none, []⟩])
  .ret)
 .skip))))))))))))))))
 (.seq (.reg false [⟨(some 4), .mv (.c (.int .i64 (-1))), none, []⟩])
 .ret)))
/-- bastion/url.clean -/
def F118 : LFunc := .code 1 10 [.t 2]
 (.seq (.reg false [⟨(some 2), .mv (.c (.str [])), none, []⟩])
 (.seq (.reg false [⟨(some 3), .mv (.t 0), none, []⟩,
 ⟨(some 4), .call (.fn 135) [(.t 3)], none, []⟩,
 ⟨(some 5), .call (.fn 198) [(.t 4), (.f 119)], none, []⟩,
 ⟨(some 0), .mv (.t 5), none, []⟩])
 (.seq (.reg false [⟨(some 6), .lit [.str []] 6 1 [(0, 1, (.c (.str [9]))), (1, 1, (.c (.str []))), (2, 1, (.c (.str [10]))), (3, 1, (.c (.str []))), (4, 1, (.c (.str [13]))), (5, 1, (.c (.str [])))], none, []⟩,
 ⟨(some 7), .call (.fn 194) [(.t 6)], none, []⟩,
 ⟨(some 8), .mv (.t 0), none, []⟩,
 ⟨(some 9), .call (.fn 21) [(.t 7), (.t 8)], none, []⟩,
 ⟨(some 2), .mv (.t 9), none, []⟩])
 .ret)))
/-- bastion/url.clean$1 -/
def F119 : LFunc := .code 1 5 [.t 2]
 (.seq (.reg false [⟨(some 2), .mv (.c (.bool false)), none, []⟩])
 (.seq (.reg false [⟨(some 3), .mv (.t 0), none, []⟩,
 ⟨(some 4), .bin .leq (.t 3) (.c (.int .i32 32)), none, []⟩,
 ⟨(some 2), .mv (.t 4), none, []⟩])
 .ret))
/-- bastion/url.colon -/
def F120 : LFunc := .code 1 32 [.t 2]
 (.seq (.reg false [⟨(some 2), .mv (.c (.int .i64 0)), none, []⟩])
 (.seq (.reg false [⟨(some 3), .mv (.c (.bool false)), none, []⟩])
 (.seq (.seq (.reg false [⟨(some 6), .mv (.t 0), none, []⟩,
 ⟨(some 7), .call (.builtin .lenStr) [(.t 6)], none, []⟩,
 ⟨(some 8), .mv (.c (.int .i64 0)), none, []⟩])
 (.block 0 (.loop (.seq (.reg false [⟨(some 9), .bin .lss (.t 8) (.t 7), none, []⟩])
 (.seq (.cond (.t 9)
 .skip
 (.exit 0))
 (.seq (.block 1 (.seq (.reg false [⟨(some 10), .mv (.t 8), none, []⟩,
 ⟨(some 4), .mv (.t 10), none, []⟩])
 (.seq (.reg false [⟨(some 11), .mv (.t 0), none, []⟩,
 ⟨(some 12), .mv (.t 4), none, []⟩,
 ⟨(some 13), .idxStr (.t 11) (.t 12), none, []⟩,
 ⟨(some 5), .mv (.t 13), none, []⟩])
 (.block 2 (.seq (.reg false [⟨(some 15), .mv (.t 5), none, []⟩,
 ⟨(some 16), .bin .eql (.t 15) (.c (.int .u8 91)), none, []⟩,
 ⟨(some 17), .mv (.t 16), none, []⟩,
 ⟨(some 18), .mv (.t 5), (some (17, false)), []⟩,
 ⟨(some 19), .bin .eql (.t 18) (.c (.int .u8 93)), (some (17, false)), []⟩,
 ⟨(some 20), .pick (.t 17) (.c (.bool true)) (.t 19), none, []⟩,
 ⟨(some 14), .mv (.t 20), none, []⟩])
 (.cond (.t 14)
 (.reg false [⟨(some 21), .mv (.t 5), none, []⟩,
  ⟨(some 22), .bin .eql (.t 21) (.c (.int .u8 91)), none, []⟩,
  ⟨(some 3), .mv (.t 22), none, []⟩])
 (.seq (.reg false [⟨(some 24), .mv (.t 5), none, []⟩,
  ⟨(some 25), .bin .eql (.t 24) (.c (.int .u8 58)), none, []⟩,
  ⟨(some 26), .mv (.t 25), none, []⟩,
  ⟨(some 27), .mv (.t 3), (some (26, true)), []⟩,
  ⟨(some 28), .un .not (.t 27), (some (26, true)), []⟩,
  ⟨(some 29), .pick (.t 26) (.t 28) (.c (.bool false)), none, []⟩,
  ⟨(some 23), .mv (.t 29), none, []⟩])
  (.cond (.t 23)
  (.seq (.reg false [⟨(some 30), .mv (.t 4), none, []⟩,
   ⟨(some 2), .mv (.t 30), none, []⟩])
   .ret)
  .skip))))))))
 (.reg false [⟨(some 31), .bin .add (.t 8) (.c (.int .i64 1)), none, []⟩,
 ⟨(some 8), .mv (.t 31), none, []⟩])))))))
 (.seq (.reg false [⟨(some 2), .mv (.c (.int .i64 (-1))), none, []⟩])
 .ret))))
/-- bastion/url.cutLeft -/
def F121 : LFunc := .code 2 32 [.t 4]
 (.seq (.reg false [⟨(some 4), .mv (.c (.str [])), none, []⟩])
 (.seq (.seq (.reg false [⟨(some 10), .mv (.t 0), none, []⟩,
 ⟨(some 11), .rangeStr (.t 10), none, []⟩])
 (.block 0 (.loop (.seq (.reg false [⟨(some 12), .nextStr (.t 11), none, []⟩,
 ⟨(some 13), .extract 0 (.t 12), none, []⟩])
 (.seq (.cond (.t 13)
 .skip
 (.exit 0))
 (.block 1 (.seq (.reg false [⟨(some 14), .extract 1 (.t 12), none, []⟩,
 ⟨(some 15), .extract 2 (.t 12), none, []⟩,
 ⟨(some 5), .mv (.t 14), none, []⟩,
 ⟨(some 6), .mv (.t 15), none, []⟩])
 (.seq (.reg false [⟨(some 7), .mv (.c (.bool false)), none, []⟩])
 (.seq (.seq (.reg false [⟨(some 16), .mv (.t 1), none, []⟩,
 ⟨(some 17), .rangeStr (.t 16), none, []⟩])
 (.block 2 (.loop (.seq (.reg false [⟨(some 18), .nextStr (.t 17), none, []⟩,
 ⟨(some 19), .extract 0 (.t 18), none, []⟩])
 (.seq (.cond (.t 19)
 .skip
 (.exit 2))
 (.block 3 (.seq (.reg false [⟨(some 20), .extract 2 (.t 18), none, []⟩,
 ⟨(some 9), .mv (.t 20), none, []⟩])
 (.reg false [⟨(some 21), .mv (.t 7), none, []⟩,
 ⟨(some 22), .mv (.t 21), none, []⟩,
 ⟨(some 23), .mv (.t 6), (some (22, false)), []⟩,
 ⟨(some 24), .mv (.t 9), (some (22, false)), []⟩,
 ⟨(some 25), .bin .eql (.t 23) (.t 24), (some (22, false)), []⟩,
 ⟨(some 26), .pick (.t 22) (.c (.bool true)) (.t 25), none, []⟩,
 ⟨(some 7), .mv (.t 26), none, []⟩]))))))))
 (.seq (.reg false [⟨(some 27), .mv (.t 7), none, []⟩,
 ⟨(some 28), .un .not (.t 27), none, []⟩])
 (.cond (.t 28)
 (.seq (.reg false [⟨(some 29), .mv (.t 0), none, []⟩,
  ⟨(some 30), .mv (.t 5), none, []⟩,
  ⟨(some 31), .slStr (.t 29) (some (.t 30)) none, none, []⟩,
  ⟨(some 4), .mv (.t 31), none, []⟩])
  .ret)
 .skip)))))))))))
 (.seq (.reg false [⟨(some 4), .mv (.c (.str [])), none, []⟩])
 .ret)))
/-- bastion/url.dots -/
def F122 : LFunc := .code 1 9 [.t 2]
 (.seq (.reg false [⟨(some 2), .mv (.c (.int .i64 0)), none, []⟩])
 (.seq (.reg false [⟨(some 3), .lit [.str []] 2 1 [(0, 1, (.c (.str [46]))), (1, 1, (.c (.str [46, 46])))], none, []⟩,
 ⟨(some 4), .mv (.t 0), none, []⟩,
 ⟨(some 5), .call (.fn 82) [(.t 4)], none, []⟩,
 ⟨(some 6), .call (.fn 196) [(.t 5), (.c (.str [37, 50, 101])), (.c (.str [46]))], none, []⟩,
 ⟨(some 7), .call (.fn 176) [(.t 3), (.t 6)], none, []⟩,
 ⟨(some 8), .bin .add (.t 7) (.c (.int .i64 1)), none, []⟩,
 ⟨(some 2), .mv (.t 8), none, []⟩])
 .ret))
/-- bastion/url.encode -/
def F123 : LFunc := .code 2 14 [.t 4]
 (.seq (.reg false [⟨(some 4), .mv (.c (.str [])), none, []⟩])
 (.seq (.reg false [⟨(some 8), .mv (.t 0), none, []⟩,
 ⟨(some 9), .mv (.t 1), none, []⟩,
 ⟨(some 10), .call (.fn 80) [(.t 8), (.t 9)], none, []⟩,
 ⟨(some 7), .mv (.t 10), none, []⟩,
 ⟨(some 11), .extract 0 (.t 7), none, []⟩,
 ⟨(some 12), .extract 1 (.t 7), none, []⟩,
 ⟨(some 5), .mv (.t 11), none, []⟩,
 ⟨(some 6), .mv (.t 12), none, []⟩])
 (.seq (.reg false [⟨(some 13), .mv (.t 5), none, []⟩,
 ⟨(some 4), .mv (.t 13), none, []⟩])
 .ret)))
/-- bastion/url.free -/
def F124 : LFunc := .code 2 26 [.t 4]
 (.seq (.reg false [⟨(some 4), .mv (.c (.bool false)), none, []⟩])
 (.seq (.seq (.reg false [⟨(some 8), .mv (.t 1), none, []⟩,
 ⟨(some 9), .call (.builtin .lenSl) [(.t 8)], none, []⟩,
 ⟨(some 10), .mv (.c (.int .i64 0)), none, []⟩])
 (.block 0 (.loop (.seq (.reg false [⟨(some 11), .bin .lss (.t 10) (.t 9), none, []⟩])
 (.seq (.cond (.t 11)
 .skip
 (.exit 0))
 (.seq (.block 1 (.seq (.reg false [⟨(some 12), .idxAddr 1 (.t 8) (.t 10), none, []⟩,
 ⟨(some 13), .load 1 false (.t 12), none, []⟩,
 ⟨(some 6), .mv (.t 13), none, []⟩])
 (.seq (.reg false [⟨(some 14), .mv (.t 6), none, []⟩,
 ⟨(some 15), .call (.builtin .lenStr) [(.t 14)], none, []⟩,
 ⟨(some 16), .mv (.c (.int .i64 0)), none, []⟩])
 (.block 2 (.loop (.seq (.reg false [⟨(some 17), .bin .lss (.t 16) (.t 15), none, []⟩])
 (.seq (.cond (.t 17)
 .skip
 (.exit 2))
 (.seq (.block 3 (.seq (.reg false [⟨(some 18), .mv (.t 16), none, []⟩,
 ⟨(some 7), .mv (.t 18), none, []⟩])
 (.seq (.reg false [⟨(some 19), .mv (.t 0), none, []⟩,
 ⟨(some 20), .mv (.t 6), none, []⟩,
 ⟨(some 21), .mv (.t 7), none, []⟩,
 ⟨(some 22), .idxStr (.t 20) (.t 21), none, []⟩,
 ⟨(some 23), .call (.fn 81) [(.t 19), (.t 22)], none, []⟩])
 (.cond (.t 23)
 (.seq (.reg false [⟨(some 4), .mv (.c (.bool false)), none, []⟩])
  .ret)
 .skip))))
 (.reg false [⟨(some 24), .bin .add (.t 16) (.c (.int .i64 1)), none, []⟩,
 ⟨(some 16), .mv (.t 24), none, []⟩])))))))))
 (.reg false [⟨(some 25), .bin .add (.t 10) (.c (.int .i64 1)), none, []⟩,
 ⟨(some 10), .mv (.t 25), none, []⟩])))))))
 (.seq (.reg false [⟨(some 4), .mv (.c (.bool true)), none, []⟩])
 .ret)))
/-- bastion/url.hasAny -/
def F125 : LFunc := .code 2 22 [.t 4]
 (.seq (.reg false [⟨(some 4), .mv (.c (.bool false)), none, []⟩])
 (.seq (.seq (.reg false [⟨(some 9), .mv (.t 0), none, []⟩,
 ⟨(some 10), .rangeStr (.t 9), none, []⟩])
 (.block 0 (.loop (.seq (.reg false [⟨(some 11), .nextStr (.t 10), none, []⟩,
 ⟨(some 12), .extract 0 (.t 11), none, []⟩])
 (.seq (.cond (.t 12)
 .skip
 (.exit 0))
 (.block 1 (.seq (.reg false [⟨(some 13), .extract 2 (.t 11), none, []⟩,
 ⟨(some 6), .mv (.t 13), none, []⟩])
 (.seq (.reg false [⟨(some 14), .mv (.t 1), none, []⟩,
 ⟨(some 15), .rangeStr (.t 14), none, []⟩])
 (.block 2 (.loop (.seq (.reg false [⟨(some 16), .nextStr (.t 15), none, []⟩,
 ⟨(some 17), .extract 0 (.t 16), none, []⟩])
 (.seq (.cond (.t 17)
 .skip
 (.exit 2))
 (.block 3 (.seq (.reg false [⟨(some 18), .extract 2 (.t 16), none, []⟩,
 ⟨(some 8), .mv (.t 18), none, []⟩])
 (.seq (.reg false [⟨(some 19), .mv (.t 6), none, []⟩,
 ⟨(some 20), .mv (.t 8), none, []⟩,
 ⟨(some 21), .bin .eql (.t 19) (.t 20), none, []⟩])
 (.cond (.t 21)
 (.seq (.reg false [⟨(some 4), .mv (.c (.bool true)), none, []⟩])
  .ret)
 .skip))))))))))))))))
 (.seq (.reg false [⟨(some 4), .mv (.c (.bool false)), none, []⟩])
 .ret)))
/-- bastion/url.hosted -/
def F126 : LFunc := .code 1 52 [.t 2]
 (.seq (.reg false [⟨(some 1), .box 0 (.t 0), none, []⟩,
 ⟨(some 2), .mv (.c (.bool false)), none, []⟩])
 (.seq (.reg false [⟨(some 6), .fieldAddr 0 (.t 1), none, []⟩,
 ⟨(some 7), .load 1 false (.t 6), none, []⟩,
 ⟨(some 8), .call (.fn 116) [(.t 7)], none, []⟩,
 ⟨(some 5), .mv (.t 8), none, []⟩,
 ⟨(some 9), .extract 0 (.t 5), none, []⟩,
 ⟨(some 10), .extract 1 (.t 5), none, []⟩,
 ⟨(some 3), .mv (.t 9), none, []⟩,
 ⟨(some 4), .mv (.t 10), none, []⟩])
 (.seq (.seq (.reg false [⟨(some 11), .fieldAddr 3 (.t 1), none, []⟩,
 ⟨(some 12), .load 11 true (.t 11), none, []⟩,
 ⟨(some 13), .build [.int .u8 0, .str [], .int .u32 0, .int .u16 0, .int .u16 0, .int .u16 0, .int .u16 0, .int .u16 0, .int .u16 0, .int .u16 0, .int .u16 0] [], none, []⟩,
 ⟨(some 14), .eq false (.st [(0, 1, false, .i), (1, 1, false, .s), (2, 1, false, .i), (3, 8, true, (.st [(0, 1, false, .i), (1, 1, false, .i), (2, 1, false, .i), (3, 1, false, .i), (4, 1, false, .i), (5, 1, false, .i), (6, 1, false, .i), (7, 1, false, .i)]))]) (.t 12) (.t 13), none, []⟩])
 (.cond (.t 14)
 (.seq (.reg false [⟨(some 15), .mv (.t 4), none, []⟩,
  ⟨(some 16), .un .not (.t 15), none, []⟩,
  ⟨(some 2), .mv (.t 16), none, []⟩])
  .ret)
 .skip))
 (.seq (.seq (.reg false [⟨(some 17), .fieldAddr 3 (.t 1), none, []⟩,
 ⟨(some 18), .load 11 true (.t 17), none, []⟩,
 ⟨(some 19), .call (.fn 48) [(.t 18)], none, []⟩,
 ⟨(some 20), .bin .neq (.t 19) (.c (.int .i64 0)), none, []⟩,
 ⟨(some 21), .mv (.t 20), none, []⟩,
 ⟨(some 22), .fieldAddr 0 (.t 1), (some (21, false)), []⟩,
 ⟨(some 23), .load 1 false (.t 22), (some (21, false)), []⟩,
 ⟨(some 24), .bin .eql (.t 23) (.c (.str [102, 105, 108, 101])), (some (21, false)), []⟩,
 ⟨(some 25), .mv (.t 24), (some (21, false)), []⟩,
 ⟨(some 26), .fieldAddr 3 (.t 1), (some (25, true)), []⟩,
 ⟨(some 27), .fieldAddr 1 (.t 26), (some (25, true)), []⟩,
 ⟨(some 28), .load 1 false (.t 27), (some (25, true)), []⟩,
 ⟨(some 29), .bin .eql (.t 28) (.c (.str [108, 111, 99, 97, 108, 104, 111, 115, 116])), (some (25, true)), []⟩,
 ⟨(some 30), .pick (.t 25) (.t 29) (.c (.bool false)), (some (21, false)), []⟩,
 ⟨(some 31), .pick (.t 21) (.c (.bool true)) (.t 30), none, []⟩])
 (.cond (.t 31)
 (.seq (.reg false [⟨(some 2), .mv (.c (.bool false)), none, []⟩])
  .ret)
 .skip))
 (.seq (.seq (.reg false [⟨(some 32), .fieldAddr 3 (.t 1), none, []⟩,
 ⟨(some 33), .fieldAddr 0 (.t 32), none, []⟩,
 ⟨(some 34), .load 1 false (.t 33), none, []⟩])
 (.block 0 (.seq (.seq (.reg false [⟨(some 36), .bin .eql (.t 34) (.c (.int .u8 1)), none, []⟩,
 ⟨(some 35), .mv (.t 36), none, []⟩])
 (.cond (.t 35)
 .skip
 (.reg false [⟨(some 37), .bin .eql (.t 34) (.c (.int .u8 2)), none, []⟩,
  ⟨(some 35), .mv (.t 37), none, []⟩])))
 (.cond (.t 35)
 (.seq (.reg false [⟨(some 38), .mv (.t 4), none, []⟩,
  ⟨(some 2), .mv (.t 38), none, []⟩])
  .ret)
 (.seq (.reg false [⟨(some 40), .bin .eql (.t 34) (.c (.int .u8 4)), none, []⟩,
  ⟨(some 39), .mv (.t 40), none, []⟩])
  (.cond (.t 39)
  (.seq (.reg false [⟨(some 41), .mv (.t 4), none, []⟩,
   ⟨(some 42), .un .not (.t 41), none, []⟩,
   ⟨(some 2), .mv (.t 42), none, []⟩])
   .ret)
  (.seq (.reg false [⟨(some 44), .bin .eql (.t 34) (.c (.int .u8 5)), none, []⟩,
   ⟨(some 43), .mv (.t 44), none, []⟩])
   (.cond (.t 43)
   (.seq (.reg false [⟨(some 45), .mv (.t 4), none, []⟩,
    ⟨(some 46), .un .not (.t 45), none, []⟩,
    ⟨(some 47), .mv (.t 46), none, []⟩,
    ⟨(some 48), .fieldAddr 0 (.t 1), (some (47, false)), []⟩,
    ⟨(some 49), .load 1 false (.t 48), (some (47, false)), []⟩,
    ⟨(some 50), .bin .eql (.t 49) (.c (.str [102, 105, 108, 101])), (some (47, false)), []⟩,
    ⟨(some 51), .pick (.t 47) (.c (.bool true)) (.t 50), none, []⟩,
    ⟨(some 2), .mv (.t 51), none, []⟩])
    .ret)
   .skip))))))))
 (.seq (.reg false [⟨(some 2), .mv (.c (.bool true)), none, []⟩])
 .ret))))))
/-- bastion/url.letter -/
def F127 : LFunc := .code 1 11 [.t 2]
 (.seq (.reg false [⟨(some 2), .mv (.c (.bool false)), none, []⟩])
 (.seq (.reg false [⟨(some 3), .mv (.t 0), none, []⟩,
 ⟨(some 4), .bin .or (.t 3) (.c (.int .u8 32)), none, []⟩,
 ⟨(some 5), .bin .geq (.t 4) (.c (.int .u8 97)), none, []⟩,
 ⟨(some 6), .mv (.t 5), none, []⟩,
 ⟨(some 7), .mv (.t 0), (some (6, true)), []⟩,
 ⟨(some 8), .bin .or (.t 7) (.c (.int .u8 32)), (some (6, true)), []⟩,
 ⟨(some 9), .bin .leq (.t 8) (.c (.int .u8 122)), (some (6, true)), []⟩,
 ⟨(some 10), .pick (.t 6) (.t 9) (.c (.bool false)), none, []⟩,
 ⟨(some 2), .mv (.t 10), none, []⟩])
 .ret))
/-- bastion/url.located -/
def F128 : LFunc := .code 1 125 [.t 2]
 (.seq (.reg false [⟨(some 1), .box 0 (.t 0), none, []⟩,
 ⟨(some 2), .mv (.c (.bool false)), none, []⟩])
 (.seq (.reg false [⟨(some 11), .fieldAddr 0 (.t 1), none, []⟩,
 ⟨(some 12), .load 1 false (.t 11), none, []⟩,
 ⟨(some 13), .call (.fn 116) [(.t 12)], none, []⟩,
 ⟨(some 10), .mv (.t 13), none, []⟩,
 ⟨(some 14), .extract 0 (.t 10), none, []⟩,
 ⟨(some 15), .extract 1 (.t 10), none, []⟩,
 ⟨(some 3), .mv (.t 14), none, []⟩,
 ⟨(some 4), .mv (.t 15), none, []⟩])
 (.seq (.seq (.reg false [⟨(some 16), .fieldAddr 17 (.t 1), none, []⟩,
 ⟨(some 17), .load 1 false (.t 16), none, []⟩])
 (.cond (.t 17)
 (.seq (.reg false [⟨(some 18), .fieldAddr 18 (.t 1), none, []⟩,
  ⟨(some 19), .load 1 false (.t 18), none, []⟩,
  ⟨(some 20), .call (.fn 185) [(.t 19), (.c (.str [47]))], none, []⟩,
  ⟨(some 21), .mv (.t 20), none, []⟩,
  ⟨(some 22), .fieldAddr 18 (.t 1), (some (21, false)), []⟩,
  ⟨(some 23), .load 1 false (.t 22), (some (21, false)), []⟩,
  ⟨(some 24), .call (.fn 186) [(.t 23), (.c (.str [32]))], (some (21, false)), []⟩,
  ⟨(some 25), .pick (.t 21) (.c (.bool true)) (.t 24), none, []⟩,
  ⟨(some 5), .mv (.t 25), none, []⟩])
  (.seq (.reg false [⟨(some 26), .mv (.t 4), none, []⟩,
  ⟨(some 27), .un .not (.t 26), none, []⟩,
  ⟨(some 28), .mv (.t 27), none, []⟩,
  ⟨(some 29), .fieldAddr 3 (.t 1), (some (28, true)), []⟩,
  ⟨(some 30), .fieldAddr 0 (.t 29), (some (28, true)), []⟩,
  ⟨(some 31), .load 1 false (.t 30), (some (28, true)), []⟩,
  ⟨(some 32), .bin .eql (.t 31) (.c (.int .u8 0)), (some (28, true)), []⟩,
  ⟨(some 33), .pick (.t 28) (.t 32) (.c (.bool false)), none, []⟩,
  ⟨(some 34), .mv (.t 33), none, []⟩,
  ⟨(some 35), .fieldAddr 16 (.t 1), (some (34, true)), []⟩,
  ⟨(some 36), .load 1 false (.t 35), (some (34, true)), []⟩,
  ⟨(some 37), .call (.builtin .lenSl) [(.t 36)], (some (34, true)), []⟩,
  ⟨(some 38), .bin .eql (.t 37) (.c (.int .i64 0)), (some (34, true)), []⟩,
  ⟨(some 39), .pick (.t 34) (.t 38) (.c (.bool false)), none, []⟩,
  ⟨(some 40), .mv (.t 39), none, []⟩,
  ⟨(some 41), .fieldAddr 18 (.t 1), (some (40, true)), []⟩,
  ⟨(some 42), .load 1 false (.t 41), (some (40, true)), []⟩,
  ⟨(some 43), .lit [.str []] 1 1 [(0, 1, (.t 42))], (some (40, true)), []⟩,
  ⟨(some 44), .call (.fn 124) [(.c (.int .u8 1)), (.t 43)], (some (40, true)), []⟩,
  ⟨(some 45), .pick (.t 40) (.t 44) (.c (.bool false)), none, []⟩,
  ⟨(some 46), .mv (.t 45), none, []⟩,
  ⟨(some 47), .fieldAddr 18 (.t 1), (some (46, true)), []⟩,
  ⟨(some 48), .load 1 false (.t 47), (some (46, true)), []⟩,
  ⟨(some 49), .call (.fn 125) [(.t 48), (.c (.str [63, 35]))], (some (46, true)), []⟩,
  ⟨(some 50), .un .not (.t 49), (some (46, true)), []⟩,
  ⟨(some 51), .pick (.t 46) (.t 50) (.c (.bool false)), none, []⟩,
  ⟨(some 52), .mv (.t 51), none, []⟩,
  ⟨(some 53), .mv (.t 5), (some (52, true)), []⟩,
  ⟨(some 54), .un .not (.t 53), (some (52, true)), []⟩,
  ⟨(some 55), .pick (.t 52) (.t 54) (.c (.bool false)), none, []⟩,
  ⟨(some 2), .mv (.t 55), none, []⟩])
  .ret))
 .skip))
 (.seq (.reg false [⟨(some 56), .mv (.t 4), none, []⟩,
 ⟨(some 57), .mv (.t 56), none, []⟩,
 ⟨(some 58), .fieldAddr 3 (.t 1), (some (57, false)), []⟩,
 ⟨(some 59), .fieldAddr 0 (.t 58), (some (57, false)), []⟩,
 ⟨(some 60), .load 1 false (.t 59), (some (57, false)), []⟩,
 ⟨(some 61), .bin .eql (.t 60) (.c (.int .u8 0)), (some (57, false)), []⟩,
 ⟨(some 62), .pick (.t 57) (.c (.bool true)) (.t 61), none, []⟩,
 ⟨(some 6), .mv (.t 62), none, []⟩])
 (.seq (.seq (.reg false [⟨(some 63), .fieldAddr 18 (.t 1), none, []⟩,
 ⟨(some 64), .load 1 false (.t 63), none, []⟩,
 ⟨(some 65), .bin .neq (.t 64) (.c (.str [])), none, []⟩,
 ⟨(some 66), .mv (.t 65), none, []⟩,
 ⟨(some 67), .fieldAddr 16 (.t 1), (some (66, false)), []⟩,
 ⟨(some 68), .load 1 false (.t 67), (some (66, false)), []⟩,
 ⟨(some 69), .call (.builtin .lenSl) [(.t 68)], (some (66, false)), []⟩,
 ⟨(some 70), .bin .gtr (.t 69) (.c (.int .i64 256)), (some (66, false)), []⟩,
 ⟨(some 71), .pick (.t 66) (.c (.bool true)) (.t 70), none, []⟩,
 ⟨(some 72), .mv (.t 71), none, []⟩,
 ⟨(some 73), .mv (.t 6), (some (72, false)), []⟩,
 ⟨(some 74), .mv (.t 73), (some (72, false)), []⟩,
 ⟨(some 75), .fieldAddr 16 (.t 1), (some (74, true)), []⟩,
 ⟨(some 76), .load 1 false (.t 75), (some (74, true)), []⟩,
 ⟨(some 77), .call (.builtin .lenSl) [(.t 76)], (some (74, true)), []⟩,
 ⟨(some 78), .bin .eql (.t 77) (.c (.int .i64 0)), (some (74, true)), []⟩,
 ⟨(some 79), .pick (.t 74) (.t 78) (.c (.bool false)), (some (72, false)), []⟩,
 ⟨(some 80), .pick (.t 72) (.c (.bool true)) (.t 79), none, []⟩,
 ⟨(some 81), .mv (.t 80), none, []⟩,
 ⟨(some 82), .fieldAddr 16 (.t 1), (some (81, false)), []⟩,
 ⟨(some 83), .load 1 false (.t 82), (some (81, false)), []⟩,
 ⟨(some 84), .call (.fn 124) [(.c (.int .u8 5)), (.t 83)], (some (81, false)), []⟩,
 ⟨(some 85), .un .not (.t 84), (some (81, false)), []⟩,
 ⟨(some 86), .pick (.t 81) (.c (.bool true)) (.t 85), none, []⟩])
 (.cond (.t 86)
 (.seq (.reg false [⟨(some 2), .mv (.c (.bool false)), none, []⟩])
  .ret)
 .skip))
 (.seq (.seq (.reg false [⟨(some 87), .fieldAddr 16 (.t 1), none, []⟩,
 ⟨(some 88), .load 1 false (.t 87), none, []⟩,
 ⟨(some 89), .call (.builtin .lenSl) [(.t 88)], none, []⟩,
 ⟨(some 90), .mv (.c (.int .i64 0)), none, []⟩])
 (.block 0 (.loop (.seq (.reg false [⟨(some 91), .bin .lss (.t 90) (.t 89), none, []⟩])
 (.seq (.cond (.t 91)
 .skip
 (.exit 0))
 (.seq (.block 1 (.seq (.reg false [⟨(some 92), .mv (.t 90), none, []⟩,
 ⟨(some 93), .idxAddr 1 (.t 88) (.t 90), none, []⟩,
 ⟨(some 94), .load 1 false (.t 93), none, []⟩,
 ⟨(some 7), .mv (.t 92), none, []⟩,
 ⟨(some 8), .mv (.t 94), none, []⟩])
 (.seq (.reg false [⟨(some 95), .fieldAddr 0 (.t 1), none, []⟩,
 ⟨(some 96), .load 1 false (.t 95), none, []⟩,
 ⟨(some 97), .bin .eql (.t 96) (.c (.str [102, 105, 108, 101])), none, []⟩,
 ⟨(some 98), .mv (.t 97), none, []⟩,
 ⟨(some 99), .mv (.t 7), (some (98, true)), []⟩,
 ⟨(some 100), .bin .eql (.t 99) (.c (.int .i64 0)), (some (98, true)), []⟩,
 ⟨(some 101), .pick (.t 98) (.t 100) (.c (.bool false)), none, []⟩,
 ⟨(some 102), .mv (.t 101), none, []⟩,
 ⟨(some 103), .mv (.t 8), (some (102, true)), []⟩,
 ⟨(some 104), .fail, (some (102, true)), []⟩,
 ⟨(some 105), .pick (.t 102) (.t 104) (.c (.bool false)), none, []⟩,
 ⟨(some 106), .mv (.t 105), none, []⟩,
 ⟨(some 107), .mv (.t 8), (some (106, true)), []⟩,
 ⟨(some 108), .fail, (some (106, true)), []⟩,
 ⟨(some 109), .un .not (.t 108), (some (106, true)), []⟩,
 ⟨(some 110), .pick (.t 106) (.t 109) (.c (.bool false)), none, []⟩,
 ⟨(some 9), .mv (.t 110), none, []⟩])
 (.seq (.reg false [⟨(some 111), .mv (.t 9), none, []⟩,
 ⟨(some 112), .mv (.t 111), none, []⟩,
 ⟨(some 113), .mv (.t 8), (some (112, false)), []⟩,
 ⟨(some 114), .call (.fn 122) [(.t 113)], (some (112, false)), []⟩,
 ⟨(some 115), .bin .gtr (.t 114) (.c (.int .i64 0)), (some (112, false)), []⟩,
 ⟨(some 116), .pick (.t 112) (.c (.bool true)) (.t 115), none, []⟩,
 ⟨(some 117), .mv (.t 116), none, []⟩,
 ⟨(some 118), .mv (.t 8), (some (117, false)), []⟩,
 ⟨(some 119), .fieldAddr 0 (.t 1), (some (117, false)), []⟩,
 ⟨(some 120), .load 1 false (.t 119), (some (117, false)), []⟩,
 ⟨(some 121), .call (.fn 132) [(.t 120)], (some (117, false)), []⟩,
 ⟨(some 122), .call (.fn 125) [(.t 118), (.t 121)], (some (117, false)), []⟩,
 ⟨(some 123), .pick (.t 117) (.c (.bool true)) (.t 122), none, []⟩])
 (.cond (.t 123)
 (.seq (.reg false [⟨(some 2), .mv (.c (.bool false)), none, []⟩])
  .ret)
 .skip)))))
 (.reg false [⟨(some 124), .bin .add (.t 90) (.c (.int .i64 1)), none, []⟩,
 ⟨(some 90), .mv (.t 124), none, []⟩])))))))
 (.seq (.reg false [⟨(some 2), .mv (.c (.bool true)), none, []⟩])
 .ret)))))))
/-- bastion/url.querySet -/
def F129 : LFunc := .code 1 11 [.t 2]
 (.seq (.reg false [⟨(some 2), .mv (.c (.int .u8 0)), none, []⟩])
 (.seq (.seq (.reg false [⟨(some 6), .mv (.t 0), none, []⟩,
 ⟨(some 7), .call (.fn 116) [(.t 6)], none, []⟩,
 ⟨(some 5), .mv (.t 7), none, []⟩,
 ⟨(some 8), .extract 0 (.t 5), none, []⟩,
 ⟨(some 9), .extract 1 (.t 5), none, []⟩,
 ⟨(some 3), .mv (.t 8), none, []⟩,
 ⟨(some 4), .mv (.t 9), none, []⟩])
 (.seq (.reg false [⟨(some 10), .mv (.t 4), none, []⟩])
 (.cond (.t 10)
 (.seq (.reg false [⟨(some 2), .mv (.c (.int .u8 4)), none, []⟩])
  .ret)
 .skip)))
 (.seq (.reg false [⟨(some 2), .mv (.c (.int .u8 3)), none, []⟩])
 .ret)))
/-- bastion/url.scheme -/
def F130 : LFunc := .code 1 55 [.t 2, .t 3, .t 4]
 (.seq (.reg false [⟨(some 2), .mv (.c (.str [])), none, []⟩,
 ⟨(some 3), .mv (.c (.str [])), none, []⟩,
 ⟨(some 4), .mv (.c (.bool false)), none, []⟩])
 (.seq (.reg false [⟨(some 11), .mv (.t 0), none, []⟩,
 ⟨(some 12), .call (.fn 182) [(.t 11), (.c (.str [58]))], none, []⟩,
 ⟨(some 10), .mv (.t 12), none, []⟩,
 ⟨(some 13), .extract 0 (.t 10), none, []⟩,
 ⟨(some 14), .extract 1 (.t 10), none, []⟩,
 ⟨(some 15), .extract 2 (.t 10), none, []⟩,
 ⟨(some 5), .mv (.t 13), none, []⟩,
 ⟨(some 6), .mv (.t 14), none, []⟩,
 ⟨(some 7), .mv (.t 15), none, []⟩])
 (.seq (.seq (.reg false [⟨(some 16), .mv (.t 7), none, []⟩,
 ⟨(some 17), .un .not (.t 16), none, []⟩,
 ⟨(some 18), .mv (.t 17), none, []⟩,
 ⟨(some 19), .mv (.t 5), (some (18, false)), []⟩,
 ⟨(some 20), .bin .eql (.t 19) (.c (.str [])), (some (18, false)), []⟩,
 ⟨(some 21), .pick (.t 18) (.c (.bool true)) (.t 20), none, []⟩,
 ⟨(some 22), .mv (.t 21), none, []⟩,
 ⟨(some 23), .mv (.t 5), (some (22, false)), []⟩,
 ⟨(some 24), .idxStr (.t 23) (.c (.int .i64 0)), (some (22, false)), []⟩,
 ⟨(some 25), .call (.fn 127) [(.t 24)], (some (22, false)), []⟩,
 ⟨(some 26), .un .not (.t 25), (some (22, false)), []⟩,
 ⟨(some 27), .pick (.t 22) (.c (.bool true)) (.t 26), none, []⟩])
 (.cond (.t 27)
 (.seq (.reg false [⟨(some 28), .mv (.t 0), none, []⟩,
  ⟨(some 2), .mv (.c (.str [])), none, []⟩,
  ⟨(some 3), .mv (.t 28), none, []⟩,
  ⟨(some 4), .mv (.c (.bool false)), none, []⟩])
  .ret)
 .skip))
 (.seq (.seq (.reg false [⟨(some 29), .mv (.t 5), none, []⟩,
 ⟨(some 30), .call (.builtin .lenStr) [(.t 29)], none, []⟩,
 ⟨(some 31), .mv (.c (.int .i64 0)), none, []⟩])
 (.block 0 (.loop (.seq (.reg false [⟨(some 32), .bin .lss (.t 31) (.t 30), none, []⟩])
 (.seq (.cond (.t 32)
 .skip
 (.exit 0))
 (.seq (.block 1 (.seq (.reg false [⟨(some 33), .mv (.t 31), none, []⟩,
 ⟨(some 8), .mv (.t 33), none, []⟩])
 (.seq (.reg false [⟨(some 34), .mv (.t 5), none, []⟩,
 ⟨(some 35), .mv (.t 8), none, []⟩,
 ⟨(some 36), .idxStr (.t 34) (.t 35), none, []⟩,
 ⟨(some 9), .mv (.t 36), none, []⟩])
 (.seq (.reg false [⟨(some 37), .mv (.t 9), none, []⟩,
 ⟨(some 38), .call (.fn 127) [(.t 37)], none, []⟩,
 ⟨(some 39), .un .not (.t 38), none, []⟩,
 ⟨(some 40), .mv (.t 39), none, []⟩,
 ⟨(some 41), .mv (.t 9), (some (40, true)), []⟩,
 ⟨(some 42), .fail, (some (40, true)), []⟩,
 ⟨(some 43), .un .not (.t 42), (some (40, true)), []⟩,
 ⟨(some 44), .pick (.t 40) (.t 43) (.c (.bool false)), none, []⟩,
 ⟨(some 45), .mv (.t 44), none, []⟩,
 ⟨(some 46), .mv (.t 9), (some (45, true)), []⟩,
 ⟨(some 47), .call (.fn 189) [(.c (.str [43, 45, 46])), (.t 46)], (some (45, true)), []⟩,
 ⟨(some 48), .bin .lss (.t 47) (.c (.int .i64 0)), (some (45, true)), []⟩,
 ⟨(some 49), .pick (.t 45) (.t 48) (.c (.bool false)), none, []⟩])
 (.cond (.t 49)
 (.seq (.reg false [⟨(some 50), .mv (.t 0), none, []⟩,
  ⟨(some 2), .mv (.c (.str [])), none, []⟩,
  ⟨(some 3), .mv (.t 50), none, []⟩,
  ⟨(some 4), .mv (.c (.bool false)), none, []⟩])
  .ret)
 .skip)))))
 (.reg false [⟨(some 51), .bin .add (.t 31) (.c (.int .i64 1)), none, []⟩,
 ⟨(some 31), .mv (.t 51), none, []⟩])))))))
 (.seq (.reg false [⟨(some 52), .mv (.t 5), none, []⟩,
 ⟨(some 53), .call (.fn 82) [(.t 52)], none, []⟩,
 ⟨(some 54), .mv (.t 6), none, []⟩,
 ⟨(some 2), .mv (.t 53), none, []⟩,
 ⟨(some 3), .mv (.t 54), none, []⟩,
 ⟨(some 4), .mv (.c (.bool true)), none, []⟩])
 .ret)))))
/-- bastion/url.slashed -/
def F131 : LFunc := .code 2 15 [.t 4]
 (.seq (.reg false [⟨(some 4), .mv (.c (.bool false)), none, []⟩])
 (.seq (.reg true [⟨(some 5), .mv (.t 1), none, []⟩,
 ⟨(some 6), .bin .neq (.t 5) (.c (.str [])), none, [0]⟩,
 ⟨(some 7), .mv (.t 6), none, [1]⟩,
 ⟨(some 8), .mv (.t 0), (some (7, true)), [2]⟩,
 ⟨(some 9), .call (.fn 132) [(.t 8)], (some (7, true)), [3, 2, 2]⟩,
 ⟨(some 10), .mv (.t 1), (some (7, true)), [2]⟩,
 ⟨(some 11), .idxStr (.t 10) (.c (.int .i64 0)), (some (7, true)), [5, 2]⟩,
 ⟨(some 12), .call (.fn 189) [(.t 9), (.t 11)], (some (7, true)), [4, 6, 4, 2]⟩,
 ⟨(some 13), .bin .geq (.t 12) (.c (.int .i64 0)), (some (7, true)), [7, 2]⟩,
 ⟨(some 14), .pick (.t 7) (.t 13) (.c (.bool false)), none, [2, 8]⟩,
 ⟨(some 4), .mv (.t 14), none, [9, 7, 0, 1, 2, 3, 4, 5, 6, 7, 8, 9]⟩])
 .ret))
/-- bastion/url.slashes -/
def F132 : LFunc := .code 1 11 [.t 2]
 (.seq (.reg false [⟨(some 2), .mv (.c (.str [])), none, []⟩])
 (.seq (.seq (.reg false [⟨(some 6), .mv (.t 0), none, []⟩,
 ⟨(some 7), .call (.fn 116) [(.t 6)], none, []⟩,
 ⟨(some 5), .mv (.t 7), none, []⟩,
 ⟨(some 8), .extract 0 (.t 5), none, []⟩,
 ⟨(some 9), .extract 1 (.t 5), none, []⟩,
 ⟨(some 3), .mv (.t 8), none, []⟩,
 ⟨(some 4), .mv (.t 9), none, []⟩])
 (.seq (.reg false [⟨(some 10), .mv (.t 4), none, []⟩])
 (.cond (.t 10)
 (.seq (.reg false [⟨(some 2), .mv (.c (.str [47, 92])), none, []⟩])
  .ret)
 .skip)))
 (.seq (.reg false [⟨(some 2), .mv (.c (.str [47])), none, []⟩])
 .ret)))
/-- bastion/utf.Decode -/
def F133 : LFunc := .code 1 16 [.t 2]
 (.seq (.reg false [⟨(some 2), .mv (.c (.nilsl)), none, []⟩])
 (.seq (.reg false [⟨(some 5), .mv (.t 0), none, []⟩,
 ⟨(some 6), .call (.builtin .lenStr) [(.t 5)], none, []⟩,
 ⟨(some 7), .mkSlice [.int .i32 0] 1 4 0 (.c (.int .i64 0)) (.t 6), none, []⟩,
 ⟨(some 3), .alloc [.nilsl] 0, none, []⟩,
 ⟨none, .store 1 (.t 3) (.t 7), none, []⟩])
 (.seq (.seq (.reg false [⟨(some 8), .mv (.t 0), none, []⟩,
 ⟨(some 9), .call (.fn 137) [(.t 8)], none, []⟩])
 (.block 0 (.rangeFunc (.t 9) [10]
 (.reg false [⟨(some 4), .mv (.t 10), none, []⟩])
 (.block 1 (.reg false [⟨(some 11), .load 1 false (.t 3), none, []⟩,
  ⟨(some 12), .mv (.t 4), none, []⟩,
  ⟨(some 13), .lit [.int .i32 0] 1 1 [(0, 1, (.t 12))], none, []⟩,
  ⟨(some 14), .call (.builtin (.append 1 4 0 [.int .i32 0])) [(.t 11), (.t 13)], none, []⟩,
  ⟨none, .store 1 (.t 3) (.t 14), none, []⟩])))))
 (.seq (.reg false [⟨(some 15), .load 1 false (.t 3), none, []⟩,
 ⟨(some 2), .mv (.t 15), none, []⟩])
 .ret))))
/-- bastion/utf.Encode -/
def F134 : LFunc := .code 1 18 [.t 2]
 (.seq (.reg false [⟨(some 2), .mv (.c (.str [])), none, []⟩])
 (.seq (.reg false [⟨(some 3), .mv (.c (.nilsl)), none, []⟩])
 (.seq (.seq (.reg false [⟨(some 6), .mv (.t 0), none, []⟩,
 ⟨(some 7), .call (.builtin .lenSl) [(.t 6)], none, []⟩,
 ⟨(some 8), .mv (.c (.int .i64 0)), none, []⟩])
 (.block 0 (.loop (.seq (.reg false [⟨(some 9), .bin .lss (.t 8) (.t 7), none, []⟩])
 (.seq (.cond (.t 9)
 .skip
 (.exit 0))
 (.seq (.block 1 (.seq (.reg false [⟨(some 10), .idxAddr 1 (.t 6) (.t 8), none, []⟩,
 ⟨(some 11), .load 1 false (.t 10), none, []⟩,
 ⟨(some 5), .mv (.t 11), none, []⟩])
 (.reg false [⟨(some 12), .mv (.t 3), none, []⟩,
 ⟨(some 13), .mv (.t 5), none, []⟩,
 ⟨(some 14), .call (.fn 210) [(.t 12), (.t 13)], none, []⟩,
 ⟨(some 3), .mv (.t 14), none, []⟩])))
 (.reg false [⟨(some 15), .bin .add (.t 8) (.c (.int .i64 1)), none, []⟩,
 ⟨(some 8), .mv (.t 15), none, []⟩])))))))
 (.seq (.reg false [⟨(some 16), .mv (.t 3), none, []⟩,
 ⟨(some 17), .conv .ofBytes (.t 16), none, []⟩,
 ⟨(some 2), .mv (.t 17), none, []⟩])
 .ret))))
/-- bastion/utf.Scalar -/
def F135 : LFunc := .code 1 9 [.t 2]
 (.seq (.reg false [⟨(some 2), .mv (.c (.str [])), none, []⟩])
 (.seq (.seq (.reg false [⟨(some 3), .mv (.t 0), none, []⟩,
 ⟨(some 4), .call (.fn 136) [(.t 3)], none, []⟩])
 (.cond (.t 4)
 (.seq (.reg false [⟨(some 5), .mv (.t 0), none, []⟩,
  ⟨(some 2), .mv (.t 5), none, []⟩])
  .ret)
 .skip))
 (.seq (.reg false [⟨(some 6), .mv (.t 0), none, []⟩,
 ⟨(some 7), .call (.fn 133) [(.t 6)], none, []⟩,
 ⟨(some 8), .call (.fn 134) [(.t 7)], none, []⟩,
 ⟨(some 2), .mv (.t 8), none, []⟩])
 .ret)))
/-- bastion/utf.Valid -/
def F136 : LFunc := .code 1 5 [.t 2]
 (.seq (.reg false [⟨(some 2), .mv (.c (.bool false)), none, []⟩])
 (.seq (.reg false [⟨(some 3), .mv (.t 0), none, []⟩,
 ⟨(some 4), .call (.fn 213) [(.t 3)], none, []⟩,
 ⟨(some 2), .mv (.t 4), none, []⟩])
 .ret))
/-- bastion/utf.runes -/
def F137 : LFunc := .code 1 4 [.t 2]
 (.seq (.reg false [⟨(some 1), .box 0 (.t 0), none, []⟩,
 ⟨(some 2), .mv (.c (.nilFunc)), none, []⟩])
 (.seq (.reg false [⟨(some 3), .mkFunc 138 [] [(.t 1)], none, []⟩,
 ⟨(some 2), .mv (.t 3), none, []⟩])
 .ret))
/-- bastion/utf.runes$1 -/
def F138 : LFunc := .code 2 27 []
 (.block 0 (.loop (.seq (.seq (.reg false [⟨(some 5), .load 1 false (.t 1), none, []⟩,
 ⟨(some 6), .bin .neq (.t 5) (.c (.str [])), none, []⟩])
 (.cond (.t 6)
 .skip
 (.exit 0)))
 (.block 1 (.seq (.reg false [⟨(some 8), .load 1 false (.t 1), none, []⟩,
 ⟨(some 9), .call (.fn 212) [(.t 8)], none, []⟩,
 ⟨(some 7), .mv (.t 9), none, []⟩,
 ⟨(some 10), .extract 0 (.t 7), none, []⟩,
 ⟨(some 11), .extract 1 (.t 7), none, []⟩,
 ⟨(some 3), .mv (.t 10), none, []⟩,
 ⟨(some 4), .mv (.t 11), none, []⟩])
 (.seq (.seq (.reg false [⟨(some 12), .mv (.t 3), none, []⟩,
 ⟨(some 13), .bin .eql (.t 12) (.c (.int .i32 65533)), none, []⟩,
 ⟨(some 14), .mv (.t 13), none, []⟩,
 ⟨(some 15), .mv (.t 4), (some (14, true)), []⟩,
 ⟨(some 16), .bin .eql (.t 15) (.c (.int .i64 1)), (some (14, true)), []⟩,
 ⟨(some 17), .pick (.t 14) (.t 16) (.c (.bool false)), none, []⟩])
 (.cond (.t 17)
 (.reg false [⟨(some 18), .load 1 false (.t 1), none, []⟩,
  ⟨(some 19), .fail, none, []⟩,
  ⟨(some 4), .mv (.t 19), none, []⟩])
 .skip))
 (.seq (.seq (.reg false [⟨(some 20), .mv (.t 0), none, []⟩,
 ⟨(some 21), .mv (.t 3), none, []⟩,
 ⟨(some 22), .call (.val (.t 20)) [(.t 21)], none, []⟩,
 ⟨(some 23), .un .not (.t 22), none, []⟩])
 (.cond (.t 23)
 .ret
 .skip))
 (.reg false [⟨(some 24), .load 1 false (.t 1), none, []⟩,
 ⟨(some 25), .mv (.t 4), none, []⟩,
 ⟨(some 26), .slStr (.t 24) (some (.t 25)) none, none, []⟩,
 ⟨none, .store 1 (.t 1) (.t 26), none, []⟩]))))))))
/-- internal/abi.NoEscape -/
def F139 : LFunc := .ext .same
/-- internal/bytealg.CountString -/
def F140 : LFunc := .ext .countString
/-- internal/bytealg.IndexByteString -/
def F141 : LFunc := .ext .indexByteString
/-- internal/bytealg.LastIndexByteString -/
def F142 : LFunc := .code 2 19 [.t 4]
 (.seq (.reg false [⟨(some 4), .mv (.c (.int .i64 0)), none, []⟩])
 (.seq (.seq (.reg false [⟨(some 6), .mv (.t 0), none, []⟩,
 ⟨(some 7), .call (.builtin .lenStr) [(.t 6)], none, []⟩,
 ⟨(some 8), .bin .sub (.t 7) (.c (.int .i64 1)), none, []⟩,
 ⟨(some 5), .mv (.t 8), none, []⟩])
 (.block 0 (.loop (.seq (.seq (.reg false [⟨(some 9), .mv (.t 5), none, []⟩,
 ⟨(some 10), .bin .geq (.t 9) (.c (.int .i64 0)), none, []⟩])
 (.cond (.t 10)
 .skip
 (.exit 0)))
 (.seq (.block 1 (.seq (.reg false [⟨(some 13), .mv (.t 0), none, []⟩,
 ⟨(some 14), .mv (.t 5), none, []⟩,
 ⟨(some 15), .idxStr (.t 13) (.t 14), none, []⟩,
 ⟨(some 16), .mv (.t 1), none, []⟩,
 ⟨(some 17), .bin .eql (.t 15) (.t 16), none, []⟩])
 (.cond (.t 17)
 (.seq (.reg false [⟨(some 18), .mv (.t 5), none, []⟩,
  ⟨(some 4), .mv (.t 18), none, []⟩])
  .ret)
 .skip)))
 (.reg false [⟨(some 11), .mv (.t 5), none, []⟩,
 ⟨(some 12), .bin .sub (.t 11) (.c (.int .i64 1)), none, []⟩,
 ⟨(some 5), .mv (.t 12), none, []⟩]))))))
 (.seq (.reg false [⟨(some 4), .mv (.c (.int .i64 (-1))), none, []⟩])
 .ret)))
/-- internal/bytealg.MakeNoZero -/
def F143 : LFunc := .ext (.makeNoZero 1)
/-- internal/race.Acquire -/
def F144 : LFunc := .ext .mark
/-- internal/race.Disable -/
def F145 : LFunc := .ext .nop
/-- internal/race.Enable -/
def F146 : LFunc := .ext .nop
/-- internal/race.ReleaseMerge -/
def F147 : LFunc := .ext .mark
/-- internal/stringslite.Cut -/
def F148 : LFunc := .code 2 23 [.t 4, .t 5, .t 6]
 (.seq (.reg false [⟨(some 4), .mv (.c (.str [])), none, []⟩,
 ⟨(some 5), .mv (.c (.str [])), none, []⟩,
 ⟨(some 6), .mv (.c (.bool false)), none, []⟩])
 (.seq (.seq (.reg false [⟨(some 8), .mv (.t 0), none, []⟩,
 ⟨(some 9), .mv (.t 1), none, []⟩,
 ⟨(some 10), .call (.fn 153) [(.t 8), (.t 9)], none, []⟩,
 ⟨(some 7), .mv (.t 10), none, []⟩])
 (.seq (.reg false [⟨(some 11), .mv (.t 7), none, []⟩,
 ⟨(some 12), .bin .geq (.t 11) (.c (.int .i64 0)), none, []⟩])
 (.cond (.t 12)
 (.seq (.reg true [⟨(some 13), .mv (.t 0), none, []⟩,
  ⟨(some 14), .mv (.t 7), none, []⟩,
  ⟨(some 15), .slStr (.t 13) none (some (.t 14)), none, [0, 1]⟩,
  ⟨(some 16), .mv (.t 0), none, []⟩,
  ⟨(some 17), .mv (.t 7), none, []⟩,
  ⟨(some 18), .mv (.t 1), none, []⟩,
  ⟨(some 19), .call (.builtin .lenStr) [(.t 18)], none, [5]⟩,
  ⟨(some 20), .bin .add (.t 17) (.t 19), none, [4, 6]⟩,
  ⟨(some 21), .slStr (.t 16) (some (.t 20)) none, none, [3, 7]⟩,
  ⟨(some 4), .mv (.t 15), none, [2, 0, 1, 2]⟩,
  ⟨(some 5), .mv (.t 21), none, [8, 9, 0, 1, 2, 3, 4, 5, 6, 7, 8, 9]⟩,
  ⟨(some 6), .mv (.c (.bool true)), none, [10, 0, 1, 2, 3, 4, 5, 6, 7, 8, 9, 10]⟩])
  .ret)
 .skip)))
 (.seq (.reg false [⟨(some 22), .mv (.t 0), none, []⟩,
 ⟨(some 4), .mv (.t 22), none, []⟩,
 ⟨(some 5), .mv (.c (.str [])), none, []⟩,
 ⟨(some 6), .mv (.c (.bool false)), none, []⟩])
 .ret)))
/-- internal/stringslite.CutPrefix -/
def F149 : LFunc := .code 2 15 [.t 4, .t 5]
 (.seq (.reg false [⟨(some 4), .mv (.c (.str [])), none, []⟩,
 ⟨(some 5), .mv (.c (.bool false)), none, []⟩])
 (.seq (.seq (.reg false [⟨(some 6), .mv (.t 0), none, []⟩,
 ⟨(some 7), .mv (.t 1), none, []⟩,
 ⟨(some 8), .call (.fn 151) [(.t 6), (.t 7)], none, []⟩,
 ⟨(some 9), .un .not (.t 8), none, []⟩])
 (.cond (.t 9)
 (.seq (.reg false [⟨(some 10), .mv (.t 0), none, []⟩,
  ⟨(some 4), .mv (.t 10), none, []⟩,
  ⟨(some 5), .mv (.c (.bool false)), none, []⟩])
  .ret)
 .skip))
 (.seq (.reg false [⟨(some 11), .mv (.t 0), none, []⟩,
 ⟨(some 12), .mv (.t 1), none, []⟩,
 ⟨(some 13), .call (.builtin .lenStr) [(.t 12)], none, []⟩,
 ⟨(some 14), .slStr (.t 11) (some (.t 13)) none, none, []⟩,
 ⟨(some 4), .mv (.t 14), none, []⟩,
 ⟨(some 5), .mv (.c (.bool true)), none, []⟩])
 .ret)))
/-- internal/stringslite.CutSuffix -/
def F150 : LFunc := .code 2 18 [.t 4, .t 5]
 (.seq (.reg false [⟨(some 4), .mv (.c (.str [])), none, []⟩,
 ⟨(some 5), .mv (.c (.bool false)), none, []⟩])
 (.seq (.seq (.reg false [⟨(some 6), .mv (.t 0), none, []⟩,
 ⟨(some 7), .mv (.t 1), none, []⟩,
 ⟨(some 8), .call (.fn 152) [(.t 6), (.t 7)], none, []⟩,
 ⟨(some 9), .un .not (.t 8), none, []⟩])
 (.cond (.t 9)
 (.seq (.reg false [⟨(some 10), .mv (.t 0), none, []⟩,
  ⟨(some 4), .mv (.t 10), none, []⟩,
  ⟨(some 5), .mv (.c (.bool false)), none, []⟩])
  .ret)
 .skip))
 (.seq (.reg false [⟨(some 11), .mv (.t 0), none, []⟩,
 ⟨(some 12), .mv (.t 0), none, []⟩,
 ⟨(some 13), .call (.builtin .lenStr) [(.t 12)], none, []⟩,
 ⟨(some 14), .mv (.t 1), none, []⟩,
 ⟨(some 15), .call (.builtin .lenStr) [(.t 14)], none, []⟩,
 ⟨(some 16), .bin .sub (.t 13) (.t 15), none, []⟩,
 ⟨(some 17), .slStr (.t 11) none (some (.t 16)), none, []⟩,
 ⟨(some 4), .mv (.t 17), none, []⟩,
 ⟨(some 5), .mv (.c (.bool true)), none, []⟩])
 .ret)))
/-- internal/stringslite.HasPrefix -/
def F151 : LFunc := .code 2 18 [.t 4]
 (.seq (.reg false [⟨(some 4), .mv (.c (.bool false)), none, []⟩])
 (.seq (.reg false [⟨(some 5), .mv (.t 0), none, []⟩,
 ⟨(some 6), .call (.builtin .lenStr) [(.t 5)], none, []⟩,
 ⟨(some 7), .mv (.t 1), none, []⟩,
 ⟨(some 8), .call (.builtin .lenStr) [(.t 7)], none, []⟩,
 ⟨(some 9), .bin .geq (.t 6) (.t 8), none, []⟩,
 ⟨(some 10), .mv (.t 9), none, []⟩,
 ⟨(some 11), .mv (.t 0), (some (10, true)), []⟩,
 ⟨(some 12), .mv (.t 1), (some (10, true)), []⟩,
 ⟨(some 13), .call (.builtin .lenStr) [(.t 12)], (some (10, true)), []⟩,
 ⟨(some 14), .slStr (.t 11) none (some (.t 13)), (some (10, true)), []⟩,
 ⟨(some 15), .mv (.t 1), (some (10, true)), []⟩,
 ⟨(some 16), .bin .eql (.t 14) (.t 15), (some (10, true)), []⟩,
 ⟨(some 17), .pick (.t 10) (.t 16) (.c (.bool false)), none, []⟩,
 ⟨(some 4), .mv (.t 17), none, []⟩])
 .ret))
/-- internal/stringslite.HasSuffix -/
def F152 : LFunc := .code 2 21 [.t 4]
 (.seq (.reg false [⟨(some 4), .mv (.c (.bool false)), none, []⟩])
 (.seq (.reg false [⟨(some 5), .mv (.t 0), none, []⟩,
 ⟨(some 6), .call (.builtin .lenStr) [(.t 5)], none, []⟩,
 ⟨(some 7), .mv (.t 1), none, []⟩,
 ⟨(some 8), .call (.builtin .lenStr) [(.t 7)], none, []⟩,
 ⟨(some 9), .bin .geq (.t 6) (.t 8), none, []⟩,
 ⟨(some 10), .mv (.t 9), none, []⟩,
 ⟨(some 11), .mv (.t 0), (some (10, true)), []⟩,
 ⟨(some 12), .mv (.t 0), (some (10, true)), []⟩,
 ⟨(some 13), .call (.builtin .lenStr) [(.t 12)], (some (10, true)), []⟩,
 ⟨(some 14), .mv (.t 1), (some (10, true)), []⟩,
 ⟨(some 15), .call (.builtin .lenStr) [(.t 14)], (some (10, true)), []⟩,
 ⟨(some 16), .bin .sub (.t 13) (.t 15), (some (10, true)), []⟩,
 ⟨(some 17), .slStr (.t 11) (some (.t 16)) none, (some (10, true)), []⟩,
 ⟨(some 18), .mv (.t 1), (some (10, true)), []⟩,
 ⟨(some 19), .bin .eql (.t 17) (.t 18), (some (10, true)), []⟩,
 ⟨(some 20), .pick (.t 10) (.t 19) (.c (.bool false)), none, []⟩,
 ⟨(some 4), .mv (.t 20), none, []⟩])
 .ret))
/-- internal/stringslite.Index -/
def F153 : LFunc := .code 2 143 [.t 4]
 (.seq (.reg false [⟨(some 4), .mv (.c (.int .i64 0)), none, []⟩])
 (.seq (.reg false [⟨(some 14), .mv (.t 1), none, []⟩,
 ⟨(some 15), .call (.builtin .lenStr) [(.t 14)], none, []⟩,
 ⟨(some 5), .mv (.t 15), none, []⟩])
 (.seq (.block 0 (.seq (.reg false [⟨(some 17), .mv (.t 5), none, []⟩,
 ⟨(some 18), .bin .eql (.t 17) (.c (.int .i64 0)), none, []⟩,
 ⟨(some 19), .mv (.t 18), none, []⟩,
 ⟨(some 20), .mv (.t 1), (some (19, false)), []⟩,
 ⟨(some 21), .mv (.t 0), (some (19, false)), []⟩,
 ⟨(some 22), .bin .eql (.t 20) (.t 21), (some (19, false)), []⟩,
 ⟨(some 23), .pick (.t 19) (.c (.bool true)) (.t 22), none, []⟩,
 ⟨(some 16), .mv (.t 23), none, []⟩])
 (.cond (.t 16)
 (.seq (.reg false [⟨(some 4), .mv (.c (.int .i64 0)), none, []⟩])
  .ret)
 (.seq (.reg false [⟨(some 25), .mv (.t 5), none, []⟩,
  ⟨(some 26), .bin .eql (.t 25) (.c (.int .i64 1)), none, []⟩,
  ⟨(some 24), .mv (.t 26), none, []⟩])
  (.cond (.t 24)
  (.seq (.reg false [⟨(some 27), .mv (.t 0), none, []⟩,
   ⟨(some 28), .mv (.t 1), none, []⟩,
   ⟨(some 29), .idxStr (.t 28) (.c (.int .i64 0)), none, []⟩,
   ⟨(some 30), .call (.fn 154) [(.t 27), (.t 29)], none, []⟩,
   ⟨(some 4), .mv (.t 30), none, []⟩])
   .ret)
  (.seq (.reg false [⟨(some 32), .mv (.t 5), none, []⟩,
   ⟨(some 33), .mv (.t 0), none, []⟩,
   ⟨(some 34), .call (.builtin .lenStr) [(.t 33)], none, []⟩,
   ⟨(some 35), .bin .geq (.t 32) (.t 34), none, []⟩,
   ⟨(some 31), .mv (.t 35), none, []⟩])
   (.cond (.t 31)
   (.seq (.reg false [⟨(some 4), .mv (.c (.int .i64 (-1))), none, []⟩])
    .ret)
   (.seq (.reg false [⟨(some 37), .mv (.t 5), none, []⟩,
    ⟨(some 38), .fail, none, []⟩,
    ⟨(some 39), .bin .leq (.t 37) (.t 38), none, []⟩,
    ⟨(some 40), .mv (.t 39), none, []⟩,
    ⟨(some 41), .mv (.t 0), (some (40, true)), []⟩,
    ⟨(some 42), .call (.builtin .lenStr) [(.t 41)], (some (40, true)), []⟩,
    ⟨(some 43), .bin .leq (.t 42) (.c (.int .i64 64)), (some (40, true)), []⟩,
    ⟨(some 44), .pick (.t 40) (.t 43) (.c (.bool false)), none, []⟩,
    ⟨(some 36), .mv (.t 44), none, []⟩])
    (.cond (.t 36)
    (.seq (.reg false [⟨(some 45), .mv (.t 0), none, []⟩,
     ⟨(some 46), .mv (.t 1), none, []⟩,
     ⟨(some 47), .fail, none, []⟩,
     ⟨(some 4), .mv (.t 47), none, []⟩])
     .ret)
    .skip)))))))))
 (.seq (.reg false [⟨(some 48), .mv (.t 1), none, []⟩,
 ⟨(some 49), .idxStr (.t 48) (.c (.int .i64 0)), none, []⟩,
 ⟨(some 6), .mv (.t 49), none, []⟩])
 (.seq (.reg false [⟨(some 50), .mv (.t 1), none, []⟩,
 ⟨(some 51), .idxStr (.t 50) (.c (.int .i64 1)), none, []⟩,
 ⟨(some 7), .mv (.t 51), none, []⟩])
 (.seq (.reg false [⟨(some 8), .mv (.c (.int .i64 0)), none, []⟩])
 (.seq (.reg false [⟨(some 52), .mv (.t 0), none, []⟩,
 ⟨(some 53), .call (.builtin .lenStr) [(.t 52)], none, []⟩,
 ⟨(some 54), .mv (.t 5), none, []⟩,
 ⟨(some 55), .bin .sub (.t 53) (.t 54), none, []⟩,
 ⟨(some 56), .bin .add (.t 55) (.c (.int .i64 1)), none, []⟩,
 ⟨(some 9), .mv (.t 56), none, []⟩])
 (.seq (.reg false [⟨(some 10), .mv (.c (.int .i64 0)), none, []⟩])
 (.seq (.block 1 (.loop (.seq (.seq (.reg false [⟨(some 57), .mv (.t 8), none, []⟩,
 ⟨(some 58), .mv (.t 9), none, []⟩,
 ⟨(some 59), .bin .lss (.t 57) (.t 58), none, []⟩])
 (.cond (.t 59)
 .skip
 (.exit 1)))
 (.block 2 (.seq (.seq (.reg false [⟨(some 60), .mv (.t 0), none, []⟩,
 ⟨(some 61), .mv (.t 8), none, []⟩,
 ⟨(some 62), .idxStr (.t 60) (.t 61), none, []⟩,
 ⟨(some 63), .mv (.t 6), none, []⟩,
 ⟨(some 64), .bin .neq (.t 62) (.t 63), none, []⟩])
 (.cond (.t 64)
 (.seq (.reg false [⟨(some 65), .mv (.t 0), none, []⟩,
  ⟨(some 66), .mv (.t 8), none, []⟩,
  ⟨(some 67), .bin .add (.t 66) (.c (.int .i64 1)), none, []⟩,
  ⟨(some 68), .mv (.t 9), none, []⟩,
  ⟨(some 69), .slStr (.t 65) (some (.t 67)) (some (.t 68)), none, []⟩,
  ⟨(some 70), .mv (.t 6), none, []⟩,
  ⟨(some 71), .call (.fn 154) [(.t 69), (.t 70)], none, []⟩,
  ⟨(some 11), .mv (.t 71), none, []⟩])
  (.seq (.seq (.reg false [⟨(some 72), .mv (.t 11), none, []⟩,
  ⟨(some 73), .bin .lss (.t 72) (.c (.int .i64 0)), none, []⟩])
  (.cond (.t 73)
  (.seq (.reg false [⟨(some 4), .mv (.c (.int .i64 (-1))), none, []⟩])
   .ret)
  .skip))
  (.reg false [⟨(some 74), .mv (.t 8), none, []⟩,
  ⟨(some 75), .mv (.t 11), none, []⟩,
  ⟨(some 76), .bin .add (.t 75) (.c (.int .i64 1)), none, []⟩,
  ⟨(some 77), .bin .add (.t 74) (.t 76), none, []⟩,
  ⟨(some 8), .mv (.t 77), none, []⟩])))
 .skip))
 (.seq (.seq (.reg false [⟨(some 78), .mv (.t 0), none, []⟩,
 ⟨(some 79), .mv (.t 8), none, []⟩,
 ⟨(some 80), .bin .add (.t 79) (.c (.int .i64 1)), none, []⟩,
 ⟨(some 81), .idxStr (.t 78) (.t 80), none, []⟩,
 ⟨(some 82), .mv (.t 7), none, []⟩,
 ⟨(some 83), .bin .eql (.t 81) (.t 82), none, []⟩,
 ⟨(some 84), .mv (.t 83), none, []⟩,
 ⟨(some 85), .mv (.t 0), (some (84, true)), []⟩,
 ⟨(some 86), .mv (.t 8), (some (84, true)), []⟩,
 ⟨(some 87), .mv (.t 8), (some (84, true)), []⟩,
 ⟨(some 88), .mv (.t 5), (some (84, true)), []⟩,
 ⟨(some 89), .bin .add (.t 87) (.t 88), (some (84, true)), []⟩,
 ⟨(some 90), .slStr (.t 85) (some (.t 86)) (some (.t 89)), (some (84, true)), []⟩,
 ⟨(some 91), .mv (.t 1), (some (84, true)), []⟩,
 ⟨(some 92), .bin .eql (.t 90) (.t 91), (some (84, true)), []⟩,
 ⟨(some 93), .pick (.t 84) (.t 92) (.c (.bool false)), none, []⟩])
 (.cond (.t 93)
 (.seq (.reg false [⟨(some 94), .mv (.t 8), none, []⟩,
  ⟨(some 4), .mv (.t 94), none, []⟩])
  .ret)
 .skip))
 (.seq (.reg false [⟨(some 95), .mv (.t 8), none, []⟩,
 ⟨(some 96), .bin .add (.t 95) (.c (.int .i64 1)), none, []⟩,
 ⟨(some 8), .mv (.t 96), none, []⟩])
 (.seq (.reg false [⟨(some 97), .mv (.t 10), none, []⟩,
 ⟨(some 98), .bin .add (.t 97) (.c (.int .i64 1)), none, []⟩,
 ⟨(some 10), .mv (.t 98), none, []⟩])
 (.seq (.reg false [⟨(some 99), .mv (.t 5), none, []⟩,
 ⟨(some 100), .fail, none, []⟩,
 ⟨(some 101), .bin .leq (.t 99) (.t 100), none, []⟩,
 ⟨(some 102), .mv (.t 101), none, []⟩,
 ⟨(some 103), .mv (.t 10), (some (102, true)), []⟩,
 ⟨(some 104), .mv (.t 8), (some (102, true)), []⟩,
 ⟨(some 105), .fail, (some (102, true)), []⟩,
 ⟨(some 106), .bin .gtr (.t 103) (.t 105), (some (102, true)), []⟩,
 ⟨(some 107), .pick (.t 102) (.t 106) (.c (.bool false)), none, []⟩])
 (.cond (.t 107)
 (.seq (.reg false [⟨(some 108), .mv (.t 0), none, []⟩,
  ⟨(some 109), .mv (.t 8), none, []⟩,
  ⟨(some 110), .slStr (.t 108) (some (.t 109)) none, none, []⟩,
  ⟨(some 111), .mv (.t 1), none, []⟩,
  ⟨(some 112), .fail, none, []⟩,
  ⟨(some 12), .mv (.t 112), none, []⟩])
  (.seq (.seq (.reg false [⟨(some 113), .mv (.t 12), none, []⟩,
  ⟨(some 114), .bin .geq (.t 113) (.c (.int .i64 0)), none, []⟩])
  (.cond (.t 114)
  (.seq (.reg false [⟨(some 115), .mv (.t 12), none, []⟩,
   ⟨(some 116), .mv (.t 8), none, []⟩,
   ⟨(some 117), .bin .add (.t 115) (.t 116), none, []⟩,
   ⟨(some 4), .mv (.t 117), none, []⟩])
   .ret)
  .skip))
  (.seq (.reg false [⟨(some 4), .mv (.c (.int .i64 (-1))), none, []⟩])
  .ret)))
 (.seq (.reg false [⟨(some 118), .mv (.t 5), none, []⟩,
  ⟨(some 119), .fail, none, []⟩,
  ⟨(some 120), .bin .gtr (.t 118) (.t 119), none, []⟩,
  ⟨(some 121), .mv (.t 120), none, []⟩,
  ⟨(some 122), .mv (.t 10), (some (121, true)), []⟩,
  ⟨(some 123), .mv (.t 8), (some (121, true)), []⟩,
  ⟨(some 124), .bin .shr (.t 123) (.c (.int .u64 4)), (some (121, true)), []⟩,
  ⟨(some 125), .bin .add (.c (.int .i64 4)) (.t 124), (some (121, true)), []⟩,
  ⟨(some 126), .bin .geq (.t 122) (.t 125), (some (121, true)), []⟩,
  ⟨(some 127), .pick (.t 121) (.t 126) (.c (.bool false)), none, []⟩,
  ⟨(some 128), .mv (.t 127), none, []⟩,
  ⟨(some 129), .mv (.t 8), (some (128, true)), []⟩,
  ⟨(some 130), .mv (.t 9), (some (128, true)), []⟩,
  ⟨(some 131), .bin .lss (.t 129) (.t 130), (some (128, true)), []⟩,
  ⟨(some 132), .pick (.t 128) (.t 131) (.c (.bool false)), none, []⟩])
  (.cond (.t 132)
  (.seq (.reg false [⟨(some 133), .mv (.t 0), none, []⟩,
   ⟨(some 134), .mv (.t 8), none, []⟩,
   ⟨(some 135), .slStr (.t 133) (some (.t 134)) none, none, []⟩,
   ⟨(some 136), .mv (.t 1), none, []⟩,
   ⟨(some 137), .fail, none, []⟩,
   ⟨(some 13), .mv (.t 137), none, []⟩])
   (.seq (.seq (.reg false [⟨(some 138), .mv (.t 13), none, []⟩,
   ⟨(some 139), .bin .lss (.t 138) (.c (.int .i64 0)), none, []⟩])
   (.cond (.t 139)
   (.seq (.reg false [⟨(some 4), .mv (.c (.int .i64 (-1))), none, []⟩])
    .ret)
   .skip))
   (.seq (.reg false [⟨(some 140), .mv (.t 8), none, []⟩,
   ⟨(some 141), .mv (.t 13), none, []⟩,
   ⟨(some 142), .bin .add (.t 140) (.t 141), none, []⟩,
   ⟨(some 4), .mv (.t 142), none, []⟩])
   .ret)))
  .skip))))))))))))
 (.seq (.reg false [⟨(some 4), .mv (.c (.int .i64 (-1))), none, []⟩])
 .ret))))))))))
/-- internal/stringslite.IndexByte -/
def F154 : LFunc := .code 2 8 [.t 4]
 (.seq (.reg false [⟨(some 4), .mv (.c (.int .i64 0)), none, []⟩])
 (.seq (.reg false [⟨(some 5), .mv (.t 0), none, []⟩,
 ⟨(some 6), .mv (.t 1), none, []⟩,
 ⟨(some 7), .call (.fn 141) [(.t 5), (.t 6)], none, []⟩,
 ⟨(some 4), .mv (.t 7), none, []⟩])
 .ret))
/-- slices.Clone[[]rune,rune] -/
def F155 : LFunc := .code 1 8 [.t 2]
 (.seq (.reg false [⟨(some 2), .mv (.c (.nilsl)), none, []⟩])
 (.seq (.seq (.reg false [⟨(some 3), .mv (.t 0), none, []⟩,
 ⟨(some 4), .eq false .sl (.t 3) (.c (.nilsl)), none, []⟩])
 (.cond (.t 4)
 (.seq (.reg false [⟨(some 2), .mv (.c (.nilsl)), none, []⟩])
  .ret)
 .skip))
 (.seq (.reg false [⟨(some 5), .lit [.int .i32 0] 0 1 [], none, []⟩,
 ⟨(some 6), .mv (.t 0), none, []⟩,
 ⟨(some 7), .call (.builtin (.append 1 4 0 [.int .i32 0])) [(.t 5), (.t 6)], none, []⟩,
 ⟨(some 2), .mv (.t 7), none, []⟩])
 .ret)))
/-- slices.ContainsFunc[[]bastion/api.Way,bastion/api.Way] -/
def F156 : LFunc := .code 2 9 [.t 4]
 (.seq (.reg false [⟨(some 4), .mv (.c (.bool false)), none, []⟩])
 (.seq (.reg false [⟨(some 5), .mv (.t 0), none, []⟩,
 ⟨(some 6), .mv (.t 1), none, []⟩,
 ⟨(some 7), .call (.fn 168) [(.t 5), (.t 6)], none, []⟩,
 ⟨(some 8), .bin .geq (.t 7) (.c (.int .i64 0)), none, []⟩,
 ⟨(some 4), .mv (.t 8), none, []⟩])
 .ret))
/-- slices.ContainsFunc[[]bastion/idna.look,bastion/idna.look] -/
def F157 : LFunc := .code 2 9 [.t 4]
 (.seq (.reg false [⟨(some 4), .mv (.c (.bool false)), none, []⟩])
 (.seq (.reg false [⟨(some 5), .mv (.t 0), none, []⟩,
 ⟨(some 6), .mv (.t 1), none, []⟩,
 ⟨(some 7), .call (.fn 170) [(.t 5), (.t 6)], none, []⟩,
 ⟨(some 8), .bin .geq (.t 7) (.c (.int .i64 0)), none, []⟩,
 ⟨(some 4), .mv (.t 8), none, []⟩])
 .ret))
/-- slices.ContainsFunc[[]func(b byte) bool,func(byte) bool] -/
def F158 : LFunc := .code 2 9 [.t 4]
 (.seq (.reg false [⟨(some 4), .mv (.c (.bool false)), none, []⟩])
 (.seq (.reg false [⟨(some 5), .mv (.t 0), none, []⟩,
 ⟨(some 6), .mv (.t 1), none, []⟩,
 ⟨(some 7), .call (.fn 171) [(.t 5), (.t 6)], none, []⟩,
 ⟨(some 8), .bin .geq (.t 7) (.c (.int .i64 0)), none, []⟩,
 ⟨(some 4), .mv (.t 8), none, []⟩])
 .ret))
/-- slices.ContainsFunc[[]rune,rune] -/
def F159 : LFunc := .code 2 9 [.t 4]
 (.seq (.reg false [⟨(some 4), .mv (.c (.bool false)), none, []⟩])
 (.seq (.reg false [⟨(some 5), .mv (.t 0), none, []⟩,
 ⟨(some 6), .mv (.t 1), none, []⟩,
 ⟨(some 7), .call (.fn 172) [(.t 5), (.t 6)], none, []⟩,
 ⟨(some 8), .bin .geq (.t 7) (.c (.int .i64 0)), none, []⟩,
 ⟨(some 4), .mv (.t 8), none, []⟩])
 .ret))
/-- slices.Contains[[]bastion/api.HostKind,bastion/api.HostKind] -/
def F160 : LFunc := .code 2 9 [.t 4]
 (.seq (.reg false [⟨(some 4), .mv (.c (.bool false)), none, []⟩])
 (.seq (.reg false [⟨(some 5), .mv (.t 0), none, []⟩,
 ⟨(some 6), .mv (.t 1), none, []⟩,
 ⟨(some 7), .call (.fn 173) [(.t 5), (.t 6)], none, []⟩,
 ⟨(some 8), .bin .geq (.t 7) (.c (.int .i64 0)), none, []⟩,
 ⟨(some 4), .mv (.t 8), none, []⟩])
 .ret))
/-- slices.Contains[[]bastion/api.Way,bastion/api.Way] -/
def F161 : LFunc := .code 2 9 [.t 4]
 (.seq (.reg false [⟨(some 4), .mv (.c (.bool false)), none, []⟩])
 (.seq (.reg false [⟨(some 5), .mv (.t 0), none, []⟩,
 ⟨(some 6), .mv (.t 1), none, []⟩,
 ⟨(some 7), .call (.fn 174) [(.t 5), (.t 6)], none, []⟩,
 ⟨(some 8), .bin .geq (.t 7) (.c (.int .i64 0)), none, []⟩,
 ⟨(some 4), .mv (.t 8), none, []⟩])
 .ret))
/-- slices.Contains[[]rune,rune] -/
def F162 : LFunc := .code 2 9 [.t 4]
 (.seq (.reg false [⟨(some 4), .mv (.c (.bool false)), none, []⟩])
 (.seq (.reg false [⟨(some 5), .mv (.t 0), none, []⟩,
 ⟨(some 6), .mv (.t 1), none, []⟩,
 ⟨(some 7), .call (.fn 175) [(.t 5), (.t 6)], none, []⟩,
 ⟨(some 8), .bin .geq (.t 7) (.c (.int .i64 0)), none, []⟩,
 ⟨(some 4), .mv (.t 8), none, []⟩])
 .ret))
/-- slices.Contains[[]string,string] -/
def F163 : LFunc := .code 2 9 [.t 4]
 (.seq (.reg false [⟨(some 4), .mv (.c (.bool false)), none, []⟩])
 (.seq (.reg false [⟨(some 5), .mv (.t 0), none, []⟩,
 ⟨(some 6), .mv (.t 1), none, []⟩,
 ⟨(some 7), .call (.fn 176) [(.t 5), (.t 6)], none, []⟩,
 ⟨(some 8), .bin .geq (.t 7) (.c (.int .i64 0)), none, []⟩,
 ⟨(some 4), .mv (.t 8), none, []⟩])
 .ret))
/-- slices.Equal[[]rune,rune] -/
def F164 : LFunc := .code 2 26 [.t 4]
 (.seq (.reg false [⟨(some 4), .mv (.c (.bool false)), none, []⟩])
 (.seq (.seq (.reg false [⟨(some 6), .mv (.t 0), none, []⟩,
 ⟨(some 7), .call (.builtin .lenSl) [(.t 6)], none, []⟩,
 ⟨(some 8), .mv (.t 1), none, []⟩,
 ⟨(some 9), .call (.builtin .lenSl) [(.t 8)], none, []⟩,
 ⟨(some 10), .bin .neq (.t 7) (.t 9), none, []⟩])
 (.cond (.t 10)
 (.seq (.reg false [⟨(some 4), .mv (.c (.bool false)), none, []⟩])
  .ret)
 .skip))
 (.seq (.seq (.reg false [⟨(some 11), .mv (.t 0), none, []⟩,
 ⟨(some 12), .call (.builtin .lenSl) [(.t 11)], none, []⟩,
 ⟨(some 13), .mv (.c (.int .i64 0)), none, []⟩])
 (.block 0 (.loop (.seq (.reg false [⟨(some 14), .bin .lss (.t 13) (.t 12), none, []⟩])
 (.seq (.cond (.t 14)
 .skip
 (.exit 0))
 (.seq (.block 1 (.seq (.reg false [⟨(some 15), .mv (.t 13), none, []⟩,
 ⟨(some 5), .mv (.t 15), none, []⟩])
 (.seq (.reg true [⟨(some 16), .mv (.t 0), none, []⟩,
 ⟨(some 17), .mv (.t 5), none, []⟩,
 ⟨(some 18), .idxAddr 1 (.t 16) (.t 17), none, [0, 1]⟩,
 ⟨(some 19), .load 1 false (.t 18), none, [2]⟩,
 ⟨(some 20), .mv (.t 1), none, []⟩,
 ⟨(some 21), .mv (.t 5), none, []⟩,
 ⟨(some 22), .idxAddr 1 (.t 20) (.t 21), none, [4, 5]⟩,
 ⟨(some 23), .load 1 false (.t 22), none, [6]⟩,
 ⟨(some 24), .bin .neq (.t 19) (.t 23), none, [3, 7]⟩])
 (.cond (.t 24)
 (.seq (.reg false [⟨(some 4), .mv (.c (.bool false)), none, []⟩])
  .ret)
 .skip))))
 (.reg false [⟨(some 25), .bin .add (.t 13) (.c (.int .i64 1)), none, []⟩,
 ⟨(some 13), .mv (.t 25), none, []⟩])))))))
 (.seq (.reg false [⟨(some 4), .mv (.c (.bool true)), none, []⟩])
 .ret))))
/-- slices.IndexFunc[[]bastion/api.Class,bastion/api.Class] -/
def F165 : LFunc := .code 2 19 [.t 4]
 (.seq (.reg false [⟨(some 4), .mv (.c (.int .i64 0)), none, []⟩])
 (.seq (.seq (.reg false [⟨(some 6), .mv (.t 0), none, []⟩,
 ⟨(some 7), .call (.builtin .lenSl) [(.t 6)], none, []⟩,
 ⟨(some 8), .mv (.c (.int .i64 0)), none, []⟩])
 (.block 0 (.loop (.seq (.reg false [⟨(some 9), .bin .lss (.t 8) (.t 7), none, []⟩])
 (.seq (.cond (.t 9)
 .skip
 (.exit 0))
 (.seq (.block 1 (.seq (.reg false [⟨(some 10), .mv (.t 8), none, []⟩,
 ⟨(some 5), .mv (.t 10), none, []⟩])
 (.seq (.reg false [⟨(some 11), .mv (.t 1), none, []⟩,
 ⟨(some 12), .mv (.t 0), none, []⟩,
 ⟨(some 13), .mv (.t 5), none, []⟩,
 ⟨(some 14), .idxAddr 2 (.t 12) (.t 13), none, []⟩,
 ⟨(some 15), .load 2 true (.t 14), none, []⟩,
 ⟨(some 16), .call (.val (.t 11)) [(.t 15)], none, []⟩])
 (.cond (.t 16)
 (.seq (.reg false [⟨(some 17), .mv (.t 5), none, []⟩,
  ⟨(some 4), .mv (.t 17), none, []⟩])
  .ret)
 .skip))))
 (.reg false [⟨(some 18), .bin .add (.t 8) (.c (.int .i64 1)), none, []⟩,
 ⟨(some 8), .mv (.t 18), none, []⟩])))))))
 (.seq (.reg false [⟨(some 4), .mv (.c (.int .i64 (-1))), none, []⟩])
 .ret)))
/-- slices.IndexFunc[[]bastion/api.Pair,bastion/api.Pair] -/
def F166 : LFunc := .code 2 19 [.t 4]
 (.seq (.reg false [⟨(some 4), .mv (.c (.int .i64 0)), none, []⟩])
 (.seq (.seq (.reg false [⟨(some 6), .mv (.t 0), none, []⟩,
 ⟨(some 7), .call (.builtin .lenSl) [(.t 6)], none, []⟩,
 ⟨(some 8), .mv (.c (.int .i64 0)), none, []⟩])
 (.block 0 (.loop (.seq (.reg false [⟨(some 9), .bin .lss (.t 8) (.t 7), none, []⟩])
 (.seq (.cond (.t 9)
 .skip
 (.exit 0))
 (.seq (.block 1 (.seq (.reg false [⟨(some 10), .mv (.t 8), none, []⟩,
 ⟨(some 5), .mv (.t 10), none, []⟩])
 (.seq (.reg false [⟨(some 11), .mv (.t 1), none, []⟩,
 ⟨(some 12), .mv (.t 0), none, []⟩,
 ⟨(some 13), .mv (.t 5), none, []⟩,
 ⟨(some 14), .idxAddr 4 (.t 12) (.t 13), none, []⟩,
 ⟨(some 15), .load 4 true (.t 14), none, []⟩,
 ⟨(some 16), .call (.val (.t 11)) [(.t 15)], none, []⟩])
 (.cond (.t 16)
 (.seq (.reg false [⟨(some 17), .mv (.t 5), none, []⟩,
  ⟨(some 4), .mv (.t 17), none, []⟩])
  .ret)
 .skip))))
 (.reg false [⟨(some 18), .bin .add (.t 8) (.c (.int .i64 1)), none, []⟩,
 ⟨(some 8), .mv (.t 18), none, []⟩])))))))
 (.seq (.reg false [⟨(some 4), .mv (.c (.int .i64 (-1))), none, []⟩])
 .ret)))
/-- slices.IndexFunc[[]bastion/api.Span,bastion/api.Span] -/
def F167 : LFunc := .code 2 19 [.t 4]
 (.seq (.reg false [⟨(some 4), .mv (.c (.int .i64 0)), none, []⟩])
 (.seq (.seq (.reg false [⟨(some 6), .mv (.t 0), none, []⟩,
 ⟨(some 7), .call (.builtin .lenSl) [(.t 6)], none, []⟩,
 ⟨(some 8), .mv (.c (.int .i64 0)), none, []⟩])
 (.block 0 (.loop (.seq (.reg false [⟨(some 9), .bin .lss (.t 8) (.t 7), none, []⟩])
 (.seq (.cond (.t 9)
 .skip
 (.exit 0))
 (.seq (.block 1 (.seq (.reg false [⟨(some 10), .mv (.t 8), none, []⟩,
 ⟨(some 5), .mv (.t 10), none, []⟩])
 (.seq (.reg false [⟨(some 11), .mv (.t 1), none, []⟩,
 ⟨(some 12), .mv (.t 0), none, []⟩,
 ⟨(some 13), .mv (.t 5), none, []⟩,
 ⟨(some 14), .idxAddr 4 (.t 12) (.t 13), none, []⟩,
 ⟨(some 15), .load 4 true (.t 14), none, []⟩,
 ⟨(some 16), .call (.val (.t 11)) [(.t 15)], none, []⟩])
 (.cond (.t 16)
 (.seq (.reg false [⟨(some 17), .mv (.t 5), none, []⟩,
  ⟨(some 4), .mv (.t 17), none, []⟩])
  .ret)
 .skip))))
 (.reg false [⟨(some 18), .bin .add (.t 8) (.c (.int .i64 1)), none, []⟩,
 ⟨(some 8), .mv (.t 18), none, []⟩])))))))
 (.seq (.reg false [⟨(some 4), .mv (.c (.int .i64 (-1))), none, []⟩])
 .ret)))
/-- slices.IndexFunc[[]bastion/api.Way,bastion/api.Way] -/
def F168 : LFunc := .code 2 19 [.t 4]
 (.seq (.reg false [⟨(some 4), .mv (.c (.int .i64 0)), none, []⟩])
 (.seq (.seq (.reg false [⟨(some 6), .mv (.t 0), none, []⟩,
 ⟨(some 7), .call (.builtin .lenSl) [(.t 6)], none, []⟩,
 ⟨(some 8), .mv (.c (.int .i64 0)), none, []⟩])
 (.block 0 (.loop (.seq (.reg false [⟨(some 9), .bin .lss (.t 8) (.t 7), none, []⟩])
 (.seq (.cond (.t 9)
 .skip
 (.exit 0))
 (.seq (.block 1 (.seq (.reg false [⟨(some 10), .mv (.t 8), none, []⟩,
 ⟨(some 5), .mv (.t 10), none, []⟩])
 (.seq (.reg false [⟨(some 11), .mv (.t 1), none, []⟩,
 ⟨(some 12), .mv (.t 0), none, []⟩,
 ⟨(some 13), .mv (.t 5), none, []⟩,
 ⟨(some 14), .idxAddr 1 (.t 12) (.t 13), none, []⟩,
 ⟨(some 15), .load 1 false (.t 14), none, []⟩,
 ⟨(some 16), .call (.val (.t 11)) [(.t 15)], none, []⟩])
 (.cond (.t 16)
 (.seq (.reg false [⟨(some 17), .mv (.t 5), none, []⟩,
  ⟨(some 4), .mv (.t 17), none, []⟩])
  .ret)
 .skip))))
 (.reg false [⟨(some 18), .bin .add (.t 8) (.c (.int .i64 1)), none, []⟩,
 ⟨(some 8), .mv (.t 18), none, []⟩])))))))
 (.seq (.reg false [⟨(some 4), .mv (.c (.int .i64 (-1))), none, []⟩])
 .ret)))
/-- slices.IndexFunc[[]bastion/api.Ways,bastion/api.Ways] -/
def F169 : LFunc := .code 2 19 [.t 4]
 (.seq (.reg false [⟨(some 4), .mv (.c (.int .i64 0)), none, []⟩])
 (.seq (.seq (.reg false [⟨(some 6), .mv (.t 0), none, []⟩,
 ⟨(some 7), .call (.builtin .lenSl) [(.t 6)], none, []⟩,
 ⟨(some 8), .mv (.c (.int .i64 0)), none, []⟩])
 (.block 0 (.loop (.seq (.reg false [⟨(some 9), .bin .lss (.t 8) (.t 7), none, []⟩])
 (.seq (.cond (.t 9)
 .skip
 (.exit 0))
 (.seq (.block 1 (.seq (.reg false [⟨(some 10), .mv (.t 8), none, []⟩,
 ⟨(some 5), .mv (.t 10), none, []⟩])
 (.seq (.reg false [⟨(some 11), .mv (.t 1), none, []⟩,
 ⟨(some 12), .mv (.t 0), none, []⟩,
 ⟨(some 13), .mv (.t 5), none, []⟩,
 ⟨(some 14), .idxAddr 3 (.t 12) (.t 13), none, []⟩,
 ⟨(some 15), .load 3 true (.t 14), none, []⟩,
 ⟨(some 16), .call (.val (.t 11)) [(.t 15)], none, []⟩])
 (.cond (.t 16)
 (.seq (.reg false [⟨(some 17), .mv (.t 5), none, []⟩,
  ⟨(some 4), .mv (.t 17), none, []⟩])
  .ret)
 .skip))))
 (.reg false [⟨(some 18), .bin .add (.t 8) (.c (.int .i64 1)), none, []⟩,
 ⟨(some 8), .mv (.t 18), none, []⟩])))))))
 (.seq (.reg false [⟨(some 4), .mv (.c (.int .i64 (-1))), none, []⟩])
 .ret)))
/-- slices.IndexFunc[[]bastion/idna.look,bastion/idna.look] -/
def F170 : LFunc := .code 2 19 [.t 4]
 (.seq (.reg false [⟨(some 4), .mv (.c (.int .i64 0)), none, []⟩])
 (.seq (.seq (.reg false [⟨(some 6), .mv (.t 0), none, []⟩,
 ⟨(some 7), .call (.builtin .lenSl) [(.t 6)], none, []⟩,
 ⟨(some 8), .mv (.c (.int .i64 0)), none, []⟩])
 (.block 0 (.loop (.seq (.reg false [⟨(some 9), .bin .lss (.t 8) (.t 7), none, []⟩])
 (.seq (.cond (.t 9)
 .skip
 (.exit 0))
 (.seq (.block 1 (.seq (.reg false [⟨(some 10), .mv (.t 8), none, []⟩,
 ⟨(some 5), .mv (.t 10), none, []⟩])
 (.seq (.reg false [⟨(some 11), .mv (.t 1), none, []⟩,
 ⟨(some 12), .mv (.t 0), none, []⟩,
 ⟨(some 13), .mv (.t 5), none, []⟩,
 ⟨(some 14), .idxAddr 11 (.t 12) (.t 13), none, []⟩,
 ⟨(some 15), .load 11 true (.t 14), none, []⟩,
 ⟨(some 16), .call (.val (.t 11)) [(.t 15)], none, []⟩])
 (.cond (.t 16)
 (.seq (.reg false [⟨(some 17), .mv (.t 5), none, []⟩,
  ⟨(some 4), .mv (.t 17), none, []⟩])
  .ret)
 .skip))))
 (.reg false [⟨(some 18), .bin .add (.t 8) (.c (.int .i64 1)), none, []⟩,
 ⟨(some 8), .mv (.t 18), none, []⟩])))))))
 (.seq (.reg false [⟨(some 4), .mv (.c (.int .i64 (-1))), none, []⟩])
 .ret)))
/-- slices.IndexFunc[[]func(b byte) bool,func(byte) bool] -/
def F171 : LFunc := .code 2 19 [.t 4]
 (.seq (.reg false [⟨(some 4), .mv (.c (.int .i64 0)), none, []⟩])
 (.seq (.seq (.reg false [⟨(some 6), .mv (.t 0), none, []⟩,
 ⟨(some 7), .call (.builtin .lenSl) [(.t 6)], none, []⟩,
 ⟨(some 8), .mv (.c (.int .i64 0)), none, []⟩])
 (.block 0 (.loop (.seq (.reg false [⟨(some 9), .bin .lss (.t 8) (.t 7), none, []⟩])
 (.seq (.cond (.t 9)
 .skip
 (.exit 0))
 (.seq (.block 1 (.seq (.reg false [⟨(some 10), .mv (.t 8), none, []⟩,
 ⟨(some 5), .mv (.t 10), none, []⟩])
 (.seq (.reg false [⟨(some 11), .mv (.t 1), none, []⟩,
 ⟨(some 12), .mv (.t 0), none, []⟩,
 ⟨(some 13), .mv (.t 5), none, []⟩,
 ⟨(some 14), .idxAddr 1 (.t 12) (.t 13), none, []⟩,
 ⟨(some 15), .load 1 false (.t 14), none, []⟩,
 ⟨(some 16), .call (.val (.t 11)) [(.t 15)], none, []⟩])
 (.cond (.t 16)
 (.seq (.reg false [⟨(some 17), .mv (.t 5), none, []⟩,
  ⟨(some 4), .mv (.t 17), none, []⟩])
  .ret)
 .skip))))
 (.reg false [⟨(some 18), .bin .add (.t 8) (.c (.int .i64 1)), none, []⟩,
 ⟨(some 8), .mv (.t 18), none, []⟩])))))))
 (.seq (.reg false [⟨(some 4), .mv (.c (.int .i64 (-1))), none, []⟩])
 .ret)))
/-- slices.IndexFunc[[]rune,rune] -/
def F172 : LFunc := .code 2 19 [.t 4]
 (.seq (.reg false [⟨(some 4), .mv (.c (.int .i64 0)), none, []⟩])
 (.seq (.seq (.reg false [⟨(some 6), .mv (.t 0), none, []⟩,
 ⟨(some 7), .call (.builtin .lenSl) [(.t 6)], none, []⟩,
 ⟨(some 8), .mv (.c (.int .i64 0)), none, []⟩])
 (.block 0 (.loop (.seq (.reg false [⟨(some 9), .bin .lss (.t 8) (.t 7), none, []⟩])
 (.seq (.cond (.t 9)
 .skip
 (.exit 0))
 (.seq (.block 1 (.seq (.reg false [⟨(some 10), .mv (.t 8), none, []⟩,
 ⟨(some 5), .mv (.t 10), none, []⟩])
 (.seq (.reg false [⟨(some 11), .mv (.t 1), none, []⟩,
 ⟨(some 12), .mv (.t 0), none, []⟩,
 ⟨(some 13), .mv (.t 5), none, []⟩,
 ⟨(some 14), .idxAddr 1 (.t 12) (.t 13), none, []⟩,
 ⟨(some 15), .load 1 false (.t 14), none, []⟩,
 ⟨(some 16), .call (.val (.t 11)) [(.t 15)], none, []⟩])
 (.cond (.t 16)
 (.seq (.reg false [⟨(some 17), .mv (.t 5), none, []⟩,
  ⟨(some 4), .mv (.t 17), none, []⟩])
  .ret)
 .skip))))
 (.reg false [⟨(some 18), .bin .add (.t 8) (.c (.int .i64 1)), none, []⟩,
 ⟨(some 8), .mv (.t 18), none, []⟩])))))))
 (.seq (.reg false [⟨(some 4), .mv (.c (.int .i64 (-1))), none, []⟩])
 .ret)))
/-- slices.Index[[]bastion/api.HostKind,bastion/api.HostKind] -/
def F173 : LFunc := .code 2 19 [.t 4]
 (.seq (.reg false [⟨(some 4), .mv (.c (.int .i64 0)), none, []⟩])
 (.seq (.seq (.reg false [⟨(some 6), .mv (.t 0), none, []⟩,
 ⟨(some 7), .call (.builtin .lenSl) [(.t 6)], none, []⟩,
 ⟨(some 8), .mv (.c (.int .i64 0)), none, []⟩])
 (.block 0 (.loop (.seq (.reg false [⟨(some 9), .bin .lss (.t 8) (.t 7), none, []⟩])
 (.seq (.cond (.t 9)
 .skip
 (.exit 0))
 (.seq (.block 1 (.seq (.reg false [⟨(some 10), .mv (.t 8), none, []⟩,
 ⟨(some 5), .mv (.t 10), none, []⟩])
 (.seq (.reg false [⟨(some 11), .mv (.t 1), none, []⟩,
 ⟨(some 12), .mv (.t 0), none, []⟩,
 ⟨(some 13), .mv (.t 5), none, []⟩,
 ⟨(some 14), .idxAddr 1 (.t 12) (.t 13), none, []⟩,
 ⟨(some 15), .load 1 false (.t 14), none, []⟩,
 ⟨(some 16), .bin .eql (.t 11) (.t 15), none, []⟩])
 (.cond (.t 16)
 (.seq (.reg false [⟨(some 17), .mv (.t 5), none, []⟩,
  ⟨(some 4), .mv (.t 17), none, []⟩])
  .ret)
 .skip))))
 (.reg false [⟨(some 18), .bin .add (.t 8) (.c (.int .i64 1)), none, []⟩,
 ⟨(some 8), .mv (.t 18), none, []⟩])))))))
 (.seq (.reg false [⟨(some 4), .mv (.c (.int .i64 (-1))), none, []⟩])
 .ret)))
/-- slices.Index[[]bastion/api.Way,bastion/api.Way] -/
def F174 : LFunc := .code 2 19 [.t 4]
 (.seq (.reg false [⟨(some 4), .mv (.c (.int .i64 0)), none, []⟩])
 (.seq (.seq (.reg false [⟨(some 6), .mv (.t 0), none, []⟩,
 ⟨(some 7), .call (.builtin .lenSl) [(.t 6)], none, []⟩,
 ⟨(some 8), .mv (.c (.int .i64 0)), none, []⟩])
 (.block 0 (.loop (.seq (.reg false [⟨(some 9), .bin .lss (.t 8) (.t 7), none, []⟩])
 (.seq (.cond (.t 9)
 .skip
 (.exit 0))
 (.seq (.block 1 (.seq (.reg false [⟨(some 10), .mv (.t 8), none, []⟩,
 ⟨(some 5), .mv (.t 10), none, []⟩])
 (.seq (.reg false [⟨(some 11), .mv (.t 1), none, []⟩,
 ⟨(some 12), .mv (.t 0), none, []⟩,
 ⟨(some 13), .mv (.t 5), none, []⟩,
 ⟨(some 14), .idxAddr 1 (.t 12) (.t 13), none, []⟩,
 ⟨(some 15), .load 1 false (.t 14), none, []⟩,
 ⟨(some 16), .bin .eql (.t 11) (.t 15), none, []⟩])
 (.cond (.t 16)
 (.seq (.reg false [⟨(some 17), .mv (.t 5), none, []⟩,
  ⟨(some 4), .mv (.t 17), none, []⟩])
  .ret)
 .skip))))
 (.reg false [⟨(some 18), .bin .add (.t 8) (.c (.int .i64 1)), none, []⟩,
 ⟨(some 8), .mv (.t 18), none, []⟩])))))))
 (.seq (.reg false [⟨(some 4), .mv (.c (.int .i64 (-1))), none, []⟩])
 .ret)))
/-- slices.Index[[]rune,rune] -/
def F175 : LFunc := .code 2 19 [.t 4]
 (.seq (.reg false [⟨(some 4), .mv (.c (.int .i64 0)), none, []⟩])
 (.seq (.seq (.reg false [⟨(some 6), .mv (.t 0), none, []⟩,
 ⟨(some 7), .call (.builtin .lenSl) [(.t 6)], none, []⟩,
 ⟨(some 8), .mv (.c (.int .i64 0)), none, []⟩])
 (.block 0 (.loop (.seq (.reg false [⟨(some 9), .bin .lss (.t 8) (.t 7), none, []⟩])
 (.seq (.cond (.t 9)
 .skip
 (.exit 0))
 (.seq (.block 1 (.seq (.reg false [⟨(some 10), .mv (.t 8), none, []⟩,
 ⟨(some 5), .mv (.t 10), none, []⟩])
 (.seq (.reg false [⟨(some 11), .mv (.t 1), none, []⟩,
 ⟨(some 12), .mv (.t 0), none, []⟩,
 ⟨(some 13), .mv (.t 5), none, []⟩,
 ⟨(some 14), .idxAddr 1 (.t 12) (.t 13), none, []⟩,
 ⟨(some 15), .load 1 false (.t 14), none, []⟩,
 ⟨(some 16), .bin .eql (.t 11) (.t 15), none, []⟩])
 (.cond (.t 16)
 (.seq (.reg false [⟨(some 17), .mv (.t 5), none, []⟩,
  ⟨(some 4), .mv (.t 17), none, []⟩])
  .ret)
 .skip))))
 (.reg false [⟨(some 18), .bin .add (.t 8) (.c (.int .i64 1)), none, []⟩,
 ⟨(some 8), .mv (.t 18), none, []⟩])))))))
 (.seq (.reg false [⟨(some 4), .mv (.c (.int .i64 (-1))), none, []⟩])
 .ret)))
/-- slices.Index[[]string,string] -/
def F176 : LFunc := .code 2 19 [.t 4]
 (.seq (.reg false [⟨(some 4), .mv (.c (.int .i64 0)), none, []⟩])
 (.seq (.seq (.reg false [⟨(some 6), .mv (.t 0), none, []⟩,
 ⟨(some 7), .call (.builtin .lenSl) [(.t 6)], none, []⟩,
 ⟨(some 8), .mv (.c (.int .i64 0)), none, []⟩])
 (.block 0 (.loop (.seq (.reg false [⟨(some 9), .bin .lss (.t 8) (.t 7), none, []⟩])
 (.seq (.cond (.t 9)
 .skip
 (.exit 0))
 (.seq (.block 1 (.seq (.reg false [⟨(some 10), .mv (.t 8), none, []⟩,
 ⟨(some 5), .mv (.t 10), none, []⟩])
 (.seq (.reg false [⟨(some 11), .mv (.t 1), none, []⟩,
 ⟨(some 12), .mv (.t 0), none, []⟩,
 ⟨(some 13), .mv (.t 5), none, []⟩,
 ⟨(some 14), .idxAddr 1 (.t 12) (.t 13), none, []⟩,
 ⟨(some 15), .load 1 false (.t 14), none, []⟩,
 ⟨(some 16), .bin .eql (.t 11) (.t 15), none, []⟩])
 (.cond (.t 16)
 (.seq (.reg false [⟨(some 17), .mv (.t 5), none, []⟩,
  ⟨(some 4), .mv (.t 17), none, []⟩])
  .ret)
 .skip))))
 (.reg false [⟨(some 18), .bin .add (.t 8) (.c (.int .i64 1)), none, []⟩,
 ⟨(some 8), .mv (.t 18), none, []⟩])))))))
 (.seq (.reg false [⟨(some 4), .mv (.c (.int .i64 (-1))), none, []⟩])
 .ret)))
/-- slices.SortStableFunc[[]rune,rune] -/
def F177 : LFunc := .code 2 9 []
 (.reg false [⟨(some 4), .mv (.t 0), none, []⟩,
 ⟨(some 5), .mv (.t 0), none, []⟩,
 ⟨(some 6), .call (.builtin .lenSl) [(.t 5)], none, []⟩,
 ⟨(some 7), .mv (.t 1), none, []⟩,
 ⟨(some 8), .call (.fn 179) [(.t 4), (.t 6), (.t 7)], none, []⟩])
/-- slices.insertionSortCmpFunc[rune] -/
def F178 : LFunc := .code 4 53 []
 (.seq (.reg false [⟨(some 10), .mv (.t 1), none, []⟩,
 ⟨(some 11), .bin .add (.t 10) (.c (.int .i64 1)), none, []⟩,
 ⟨(some 8), .mv (.t 11), none, []⟩])
 (.block 0 (.loop (.seq (.seq (.reg false [⟨(some 12), .mv (.t 8), none, []⟩,
 ⟨(some 13), .mv (.t 2), none, []⟩,
 ⟨(some 14), .bin .lss (.t 12) (.t 13), none, []⟩])
 (.cond (.t 14)
 .skip
 (.exit 0)))
 (.seq (.block 1 (.seq (.reg false [⟨(some 17), .mv (.t 8), none, []⟩,
 ⟨(some 9), .mv (.t 17), none, []⟩])
 (.block 2 (.loop (.seq (.seq (.reg true [⟨(some 18), .mv (.t 9), none, []⟩,
 ⟨(some 19), .mv (.t 1), none, []⟩,
 ⟨(some 20), .bin .gtr (.t 18) (.t 19), none, [0, 1]⟩,
 ⟨(some 21), .mv (.t 20), none, [2]⟩,
 ⟨(some 22), .mv (.t 3), (some (21, true)), [3]⟩,
 ⟨(some 23), .mv (.t 0), (some (21, true)), [3]⟩,
 ⟨(some 24), .mv (.t 9), (some (21, true)), [3]⟩,
 ⟨(some 25), .idxAddr 1 (.t 23) (.t 24), (some (21, true)), [5, 6, 3]⟩,
 ⟨(some 26), .load 1 false (.t 25), (some (21, true)), [7, 3]⟩,
 ⟨(some 27), .mv (.t 0), (some (21, true)), [3]⟩,
 ⟨(some 28), .mv (.t 9), (some (21, true)), [3]⟩,
 ⟨(some 29), .bin .sub (.t 28) (.c (.int .i64 1)), (some (21, true)), [10, 3]⟩,
 ⟨(some 30), .idxAddr 1 (.t 27) (.t 29), (some (21, true)), [9, 11, 3]⟩,
 ⟨(some 31), .load 1 false (.t 30), (some (21, true)), [12, 3]⟩,
 ⟨(some 32), .call (.val (.t 22)) [(.t 26), (.t 31)], (some (21, true)), [4, 8, 13, 3, 3]⟩,
 ⟨(some 33), .bin .lss (.t 32) (.c (.int .i64 0)), (some (21, true)), [14, 3]⟩,
 ⟨(some 34), .pick (.t 21) (.t 33) (.c (.bool false)), none, [3, 15]⟩])
 (.cond (.t 34)
 .skip
 (.exit 2)))
 (.seq (.block 3 (.reg true [⟨(some 37), .mv (.t 0), none, []⟩,
 ⟨(some 38), .mv (.t 9), none, []⟩,
 ⟨(some 39), .mv (.t 0), none, []⟩,
 ⟨(some 40), .mv (.t 9), none, []⟩,
 ⟨(some 41), .bin .sub (.t 40) (.c (.int .i64 1)), none, [3]⟩,
 ⟨(some 42), .mv (.t 0), none, []⟩,
 ⟨(some 43), .mv (.t 9), none, []⟩,
 ⟨(some 44), .bin .sub (.t 43) (.c (.int .i64 1)), none, [6]⟩,
 ⟨(some 45), .idxAddr 1 (.t 42) (.t 44), none, [5, 7]⟩,
 ⟨(some 46), .load 1 false (.t 45), none, [8]⟩,
 ⟨(some 47), .mv (.t 0), none, []⟩,
 ⟨(some 48), .mv (.t 9), none, []⟩,
 ⟨(some 49), .idxAddr 1 (.t 47) (.t 48), none, [10, 11]⟩,
 ⟨(some 50), .load 1 false (.t 49), none, [12]⟩,
 ⟨(some 51), .idxAddr 1 (.t 37) (.t 38), none, [0, 1, 0, 1, 5, 6, 7, 8, 9, 13]⟩,
 ⟨none, .store 1 (.t 51) (.t 46), none, [14, 9, 0, 1, 5, 6, 7, 8, 9, 13]⟩,
 ⟨(some 52), .idxAddr 1 (.t 39) (.t 41), none, [2, 4, 0, 1, 2, 3, 4, 5, 6, 7, 8, 9, 10, 11, 12, 13, 14, 15]⟩,
 ⟨none, .store 1 (.t 52) (.t 50), none, [16, 13, 15, 0, 1, 2, 3, 4, 5, 6, 7, 8, 9, 10, 11, 12, 13, 14, 15]⟩]))
 (.reg false [⟨(some 35), .mv (.t 9), none, []⟩,
 ⟨(some 36), .bin .sub (.t 35) (.c (.int .i64 1)), none, []⟩,
 ⟨(some 9), .mv (.t 36), none, []⟩])))))))
 (.reg false [⟨(some 15), .mv (.t 8), none, []⟩,
 ⟨(some 16), .bin .add (.t 15) (.c (.int .i64 1)), none, []⟩,
 ⟨(some 8), .mv (.t 16), none, []⟩]))))))
/-- slices.stableCmpFunc[rune] -/
def F179 : LFunc := .code 3 63 []
 (.seq (.reg false [⟨(some 6), .mv (.c (.int .i64 20)), none, []⟩])
 (.seq (.reg false [⟨(some 10), .mv (.t 6), none, []⟩,
 ⟨(some 7), .mv (.c (.int .i64 0)), none, []⟩,
 ⟨(some 8), .mv (.t 10), none, []⟩])
 (.seq (.block 0 (.loop (.seq (.seq (.reg false [⟨(some 11), .mv (.t 8), none, []⟩,
 ⟨(some 12), .mv (.t 1), none, []⟩,
 ⟨(some 13), .bin .leq (.t 11) (.t 12), none, []⟩])
 (.cond (.t 13)
 .skip
 (.exit 0)))
 (.block 1 (.seq (.reg false [⟨(some 14), .mv (.t 0), none, []⟩,
 ⟨(some 15), .mv (.t 7), none, []⟩,
 ⟨(some 16), .mv (.t 8), none, []⟩,
 ⟨(some 17), .mv (.t 2), none, []⟩,
 ⟨(some 18), .call (.fn 178) [(.t 14), (.t 15), (.t 16), (.t 17)], none, []⟩])
 (.seq (.reg false [⟨(some 19), .mv (.t 8), none, []⟩,
 ⟨(some 7), .mv (.t 19), none, []⟩])
 (.reg false [⟨(some 20), .mv (.t 8), none, []⟩,
 ⟨(some 21), .mv (.t 6), none, []⟩,
 ⟨(some 22), .bin .add (.t 20) (.t 21), none, []⟩,
 ⟨(some 8), .mv (.t 22), none, []⟩])))))))
 (.seq (.reg false [⟨(some 23), .mv (.t 0), none, []⟩,
 ⟨(some 24), .mv (.t 7), none, []⟩,
 ⟨(some 25), .mv (.t 1), none, []⟩,
 ⟨(some 26), .mv (.t 2), none, []⟩,
 ⟨(some 27), .call (.fn 178) [(.t 23), (.t 24), (.t 25), (.t 26)], none, []⟩])
 (.block 2 (.loop (.seq (.seq (.reg false [⟨(some 28), .mv (.t 6), none, []⟩,
 ⟨(some 29), .mv (.t 1), none, []⟩,
 ⟨(some 30), .bin .lss (.t 28) (.t 29), none, []⟩])
 (.cond (.t 30)
 .skip
 (.exit 2)))
 (.block 3 (.seq (.reg false [⟨(some 31), .mv (.t 6), none, []⟩,
 ⟨(some 32), .bin .mul (.c (.int .i64 2)) (.t 31), none, []⟩,
 ⟨(some 7), .mv (.c (.int .i64 0)), none, []⟩,
 ⟨(some 8), .mv (.t 32), none, []⟩])
 (.seq (.block 4 (.loop (.seq (.seq (.reg false [⟨(some 33), .mv (.t 8), none, []⟩,
 ⟨(some 34), .mv (.t 1), none, []⟩,
 ⟨(some 35), .bin .leq (.t 33) (.t 34), none, []⟩])
 (.cond (.t 35)
 .skip
 (.exit 4)))
 (.block 5 (.seq (.reg false [⟨(some 36), .mv (.t 0), none, []⟩,
 ⟨(some 37), .mv (.t 7), none, []⟩,
 ⟨(some 38), .mv (.t 7), none, []⟩,
 ⟨(some 39), .mv (.t 6), none, []⟩,
 ⟨(some 40), .bin .add (.t 38) (.t 39), none, []⟩,
 ⟨(some 41), .mv (.t 8), none, []⟩,
 ⟨(some 42), .mv (.t 2), none, []⟩,
 ⟨(some 43), .fail, none, []⟩])
 (.seq (.reg false [⟨(some 44), .mv (.t 8), none, []⟩,
 ⟨(some 7), .mv (.t 44), none, []⟩])
 (.reg false [⟨(some 45), .mv (.t 8), none, []⟩,
 ⟨(some 46), .mv (.t 6), none, []⟩,
 ⟨(some 47), .bin .mul (.c (.int .i64 2)) (.t 46), none, []⟩,
 ⟨(some 48), .bin .add (.t 45) (.t 47), none, []⟩,
 ⟨(some 8), .mv (.t 48), none, []⟩])))))))
 (.seq (.seq (.reg false [⟨(some 49), .mv (.t 7), none, []⟩,
 ⟨(some 50), .mv (.t 6), none, []⟩,
 ⟨(some 51), .bin .add (.t 49) (.t 50), none, []⟩,
 ⟨(some 9), .mv (.t 51), none, []⟩])
 (.seq (.reg false [⟨(some 52), .mv (.t 9), none, []⟩,
 ⟨(some 53), .mv (.t 1), none, []⟩,
 ⟨(some 54), .bin .lss (.t 52) (.t 53), none, []⟩])
 (.cond (.t 54)
 (.reg false [⟨(some 55), .mv (.t 0), none, []⟩,
  ⟨(some 56), .mv (.t 7), none, []⟩,
  ⟨(some 57), .mv (.t 9), none, []⟩,
  ⟨(some 58), .mv (.t 1), none, []⟩,
  ⟨(some 59), .mv (.t 2), none, []⟩,
  ⟨(some 60), .fail, none, []⟩])
 .skip)))
 (.reg false [⟨(some 61), .mv (.t 6), none, []⟩,
 ⟨(some 62), .bin .mul (.t 61) (.c (.int .i64 2)), none, []⟩,
 ⟨(some 6), .mv (.t 62), none, []⟩]))))))))))))
/-- strings.ContainsAny -/
def F180 : LFunc := .code 2 9 [.t 4]
 (.seq (.reg false [⟨(some 4), .mv (.c (.bool false)), none, []⟩])
 (.seq (.reg false [⟨(some 5), .mv (.t 0), none, []⟩,
 ⟨(some 6), .mv (.t 1), none, []⟩,
 ⟨(some 7), .call (.fn 188) [(.t 5), (.t 6)], none, []⟩,
 ⟨(some 8), .bin .geq (.t 7) (.c (.int .i64 0)), none, []⟩,
 ⟨(some 4), .mv (.t 8), none, []⟩])
 .ret))
/-- strings.Count -/
def F181 : LFunc := .code 2 34 [.t 4]
 (.seq (.reg false [⟨(some 4), .mv (.c (.int .i64 0)), none, []⟩])
 (.seq (.seq (.reg false [⟨(some 7), .mv (.t 1), none, []⟩,
 ⟨(some 8), .call (.builtin .lenStr) [(.t 7)], none, []⟩,
 ⟨(some 9), .bin .eql (.t 8) (.c (.int .i64 0)), none, []⟩])
 (.cond (.t 9)
 (.seq (.reg false [⟨(some 10), .mv (.t 0), none, []⟩,
  ⟨(some 11), .fail, none, []⟩,
  ⟨(some 12), .bin .add (.t 11) (.c (.int .i64 1)), none, []⟩,
  ⟨(some 4), .mv (.t 12), none, []⟩])
  .ret)
 .skip))
 (.seq (.seq (.reg false [⟨(some 13), .mv (.t 1), none, []⟩,
 ⟨(some 14), .call (.builtin .lenStr) [(.t 13)], none, []⟩,
 ⟨(some 15), .bin .eql (.t 14) (.c (.int .i64 1)), none, []⟩])
 (.cond (.t 15)
 (.seq (.reg false [⟨(some 16), .mv (.t 0), none, []⟩,
  ⟨(some 17), .mv (.t 1), none, []⟩,
  ⟨(some 18), .idxStr (.t 17) (.c (.int .i64 0)), none, []⟩,
  ⟨(some 19), .call (.fn 140) [(.t 16), (.t 18)], none, []⟩,
  ⟨(some 4), .mv (.t 19), none, []⟩])
  .ret)
 .skip))
 (.seq (.reg false [⟨(some 5), .mv (.c (.int .i64 0)), none, []⟩])
 (.block 0 (.loop (.block 1 (.seq (.reg false [⟨(some 20), .mv (.t 0), none, []⟩,
 ⟨(some 21), .mv (.t 1), none, []⟩,
 ⟨(some 22), .call (.fn 187) [(.t 20), (.t 21)], none, []⟩,
 ⟨(some 6), .mv (.t 22), none, []⟩])
 (.seq (.seq (.reg false [⟨(some 23), .mv (.t 6), none, []⟩,
 ⟨(some 24), .bin .eql (.t 23) (.c (.int .i64 (-1))), none, []⟩])
 (.cond (.t 24)
 (.seq (.reg false [⟨(some 25), .mv (.t 5), none, []⟩,
  ⟨(some 4), .mv (.t 25), none, []⟩])
  .ret)
 .skip))
 (.seq (.reg false [⟨(some 26), .mv (.t 5), none, []⟩,
 ⟨(some 27), .bin .add (.t 26) (.c (.int .i64 1)), none, []⟩,
 ⟨(some 5), .mv (.t 27), none, []⟩])
 (.reg false [⟨(some 28), .mv (.t 0), none, []⟩,
 ⟨(some 29), .mv (.t 6), none, []⟩,
 ⟨(some 30), .mv (.t 1), none, []⟩,
 ⟨(some 31), .call (.builtin .lenStr) [(.t 30)], none, []⟩,
 ⟨(some 32), .bin .add (.t 29) (.t 31), none, []⟩,
 ⟨(some 33), .slStr (.t 28) (some (.t 32)) none, none, []⟩,
 ⟨(some 0), .mv (.t 33), none, []⟩])))))))))))
/-- strings.Cut -/
def F182 : LFunc := .code 2 13 [.t 4, .t 5, .t 6]
 (.seq (.reg false [⟨(some 4), .mv (.c (.str [])), none, []⟩,
 ⟨(some 5), .mv (.c (.str [])), none, []⟩,
 ⟨(some 6), .mv (.c (.bool false)), none, []⟩])
 (.seq (.reg false [⟨(some 7), .mv (.t 0), none, []⟩,
 ⟨(some 8), .mv (.t 1), none, []⟩,
 ⟨(some 9), .call (.fn 148) [(.t 7), (.t 8)], none, []⟩,
 ⟨(some 10), .extract 0 (.t 9), none, []⟩,
 ⟨(some 11), .extract 1 (.t 9), none, []⟩,
 ⟨(some 12), .extract 2 (.t 9), none, []⟩,
 ⟨(some 4), .mv (.t 10), none, []⟩,
 ⟨(some 5), .mv (.t 11), none, []⟩,
 ⟨(some 6), .mv (.t 12), none, []⟩])
 .ret))
/-- strings.CutPrefix -/
def F183 : LFunc := .code 2 11 [.t 4, .t 5]
 (.seq (.reg false [⟨(some 4), .mv (.c (.str [])), none, []⟩,
 ⟨(some 5), .mv (.c (.bool false)), none, []⟩])
 (.seq (.reg false [⟨(some 6), .mv (.t 0), none, []⟩,
 ⟨(some 7), .mv (.t 1), none, []⟩,
 ⟨(some 8), .call (.fn 149) [(.t 6), (.t 7)], none, []⟩,
 ⟨(some 9), .extract 0 (.t 8), none, []⟩,
 ⟨(some 10), .extract 1 (.t 8), none, []⟩,
 ⟨(some 4), .mv (.t 9), none, []⟩,
 ⟨(some 5), .mv (.t 10), none, []⟩])
 .ret))
/-- strings.CutSuffix -/
def F184 : LFunc := .code 2 11 [.t 4, .t 5]
 (.seq (.reg false [⟨(some 4), .mv (.c (.str [])), none, []⟩,
 ⟨(some 5), .mv (.c (.bool false)), none, []⟩])
 (.seq (.reg false [⟨(some 6), .mv (.t 0), none, []⟩,
 ⟨(some 7), .mv (.t 1), none, []⟩,
 ⟨(some 8), .call (.fn 150) [(.t 6), (.t 7)], none, []⟩,
 ⟨(some 9), .extract 0 (.t 8), none, []⟩,
 ⟨(some 10), .extract 1 (.t 8), none, []⟩,
 ⟨(some 4), .mv (.t 9), none, []⟩,
 ⟨(some 5), .mv (.t 10), none, []⟩])
 .ret))
/-- strings.HasPrefix -/
def F185 : LFunc := .code 2 8 [.t 4]
 (.seq (.reg false [⟨(some 4), .mv (.c (.bool false)), none, []⟩])
 (.seq (.reg false [⟨(some 5), .mv (.t 0), none, []⟩,
 ⟨(some 6), .mv (.t 1), none, []⟩,
 ⟨(some 7), .call (.fn 151) [(.t 5), (.t 6)], none, []⟩,
 ⟨(some 4), .mv (.t 7), none, []⟩])
 .ret))
/-- strings.HasSuffix -/
def F186 : LFunc := .code 2 8 [.t 4]
 (.seq (.reg false [⟨(some 4), .mv (.c (.bool false)), none, []⟩])
 (.seq (.reg false [⟨(some 5), .mv (.t 0), none, []⟩,
 ⟨(some 6), .mv (.t 1), none, []⟩,
 ⟨(some 7), .call (.fn 152) [(.t 5), (.t 6)], none, []⟩,
 ⟨(some 4), .mv (.t 7), none, []⟩])
 .ret))
/-- strings.Index -/
def F187 : LFunc := .code 2 8 [.t 4]
 (.seq (.reg false [⟨(some 4), .mv (.c (.int .i64 0)), none, []⟩])
 (.seq (.reg false [⟨(some 5), .mv (.t 0), none, []⟩,
 ⟨(some 6), .mv (.t 1), none, []⟩,
 ⟨(some 7), .call (.fn 153) [(.t 5), (.t 6)], none, []⟩,
 ⟨(some 4), .mv (.t 7), none, []⟩])
 .ret))
/-- strings.IndexAny -/
def F188 : LFunc := .code 2 55 [.t 4]
 (.seq (.reg false [⟨(some 4), .mv (.c (.int .i64 0)), none, []⟩])
 (.seq (.seq (.reg false [⟨(some 11), .mv (.t 1), none, []⟩,
 ⟨(some 12), .bin .eql (.t 11) (.c (.str [])), none, []⟩])
 (.cond (.t 12)
 (.seq (.reg false [⟨(some 4), .mv (.c (.int .i64 (-1))), none, []⟩])
  .ret)
 .skip))
 (.seq (.seq (.reg false [⟨(some 13), .mv (.t 1), none, []⟩,
 ⟨(some 14), .call (.builtin .lenStr) [(.t 13)], none, []⟩,
 ⟨(some 15), .bin .eql (.t 14) (.c (.int .i64 1)), none, []⟩])
 (.cond (.t 15)
 (.seq (.reg false [⟨(some 16), .mv (.t 1), none, []⟩,
  ⟨(some 17), .idxStr (.t 16) (.c (.int .i64 0)), none, []⟩,
  ⟨(some 18), .conv (.int .i32) (.t 17), none, []⟩,
  ⟨(some 5), .mv (.t 18), none, []⟩])
  (.seq (.seq (.reg false [⟨(some 19), .mv (.t 5), none, []⟩,
  ⟨(some 20), .bin .geq (.t 19) (.c (.int .i32 128)), none, []⟩])
  (.cond (.t 20)
  (.reg false [⟨(some 5), .mv (.c (.int .i32 65533)), none, []⟩])
  .skip))
  (.seq (.reg false [⟨(some 21), .mv (.t 0), none, []⟩,
  ⟨(some 22), .mv (.t 5), none, []⟩,
  ⟨(some 23), .call (.fn 191) [(.t 21), (.t 22)], none, []⟩,
  ⟨(some 4), .mv (.t 23), none, []⟩])
  .ret)))
 .skip))
 (.seq (.seq (.reg false [⟨(some 24), .mv (.t 0), none, []⟩,
 ⟨(some 25), .call (.builtin .lenStr) [(.t 24)], none, []⟩,
 ⟨(some 26), .call (.fn 204) [(.t 25)], none, []⟩])
 (.cond (.t 26)
 (.seq (.reg false [⟨(some 28), .mv (.t 1), none, []⟩,
  ⟨(some 29), .fail, none, []⟩,
  ⟨(some 27), .mv (.t 29), none, []⟩,
  ⟨(some 30), .extract 0 (.t 27), none, []⟩,
  ⟨(some 31), .extract 1 (.t 27), none, []⟩,
  ⟨(some 6), .alloc [.bool false, .bool false, .bool false, .bool false, .bool false, .bool false, .bool false, .bool false, .bool false, .bool false, .bool false, .bool false, .bool false, .bool false, .bool false, .bool false, .bool false, .bool false, .bool false, .bool false, .bool false, .bool false, .bool false, .bool false, .bool false, .bool false, .bool false, .bool false, .bool false, .bool false, .bool false, .bool false, .bool false, .bool false, .bool false, .bool false, .bool false, .bool false, .bool false, .bool false, .bool false, .bool false, .bool false, .bool false, .bool false, .bool false, .bool false, .bool false, .bool false, .bool false, .bool false, .bool false, .bool false, .bool false, .bool false, .bool false, .bool false, .bool false, .bool false, .bool false, .bool false, .bool false, .bool false, .bool false, .bool false, .bool false, .bool false, .bool false, .bool false, .bool false, .bool false, .bool false, .bool false, .bool false, .bool false, .bool false, .bool false, .bool false, .bool false, .bool false, .bool false, .bool false, .bool false, .bool false, .bool false, .bool false, .bool false, .bool false, .bool false, .bool false, .bool false, .bool false, .bool false, .bool false, .bool false, .bool false, .bool false, .bool false, .bool false, .bool false, .bool false, .bool false, .bool false, .bool false, .bool false, .bool false, .bool false, .bool false, .bool false, .bool false, .bool false, .bool false, .bool false, .bool false, .bool false, .bool false, .bool false, .bool false, .bool false, .bool false, .bool false, .bool false, .bool false, .bool false, .bool false, .bool false, .bool false, .bool false, .bool false, .bool false, .bool false, .bool false, .bool false, .bool false, .bool false, .bool false, .bool false, .bool false, .bool false, .bool false, .bool false, .bool false, .bool false, .bool false, .bool false, .bool false, .bool false, .bool false, .bool false, .bool false, .bool false, .bool false, .bool false, .bool false, .bool false, .bool false, .bool false, .bool false, .bool false, .bool false, .bool false, .bool false, .bool false, .bool false, .bool false, .bool false, .bool false, .bool false, .bool false, .bool false, .bool false, .bool false, .bool false, .bool false, .bool false, .bool false, .bool false, .bool false, .bool false, .bool false, .bool false, .bool false, .bool false, .bool false, .bool false, .bool false, .bool false, .bool false, .bool false, .bool false, .bool false, .bool false, .bool false, .bool false, .bool false, .bool false, .bool false, .bool false, .bool false, .bool false, .bool false, .bool false, .bool false, .bool false, .bool false, .bool false, .bool false, .bool false, .bool false, .bool false, .bool false, .bool false, .bool false, .bool false, .bool false, .bool false, .bool false, .bool false, .bool false, .bool false, .bool false, .bool false, .bool false, .bool false, .bool false, .bool false, .bool false, .bool false, .bool false, .bool false, .bool false, .bool false, .bool false, .bool false, .bool false, .bool false, .bool false, .bool false, .bool false, .bool false, .bool false, .bool false, .bool false, .bool false, .bool false, .bool false, .bool false, .bool false, .bool false, .bool false, .bool false, .bool false, .bool false, .bool false, .bool false, .bool false] 0, none, []⟩,
  ⟨none, .store 256 (.t 6) (.t 30), none, []⟩,
  ⟨(some 7), .mv (.t 31), none, []⟩])
  (.seq (.reg false [⟨(some 32), .mv (.t 7), none, []⟩])
  (.cond (.t 32)
  (.seq (.seq (.reg false [⟨(some 8), .mv (.c (.int .i64 0)), none, []⟩])
   (.block 0 (.loop (.seq (.seq (.reg false [⟨(some 33), .mv (.t 8), none, []⟩,
   ⟨(some 34), .mv (.t 0), none, []⟩,
   ⟨(some 35), .call (.builtin .lenStr) [(.t 34)], none, []⟩,
   ⟨(some 36), .bin .lss (.t 33) (.t 35), none, []⟩])
   (.cond (.t 36)
   .skip
   (.exit 0)))
   (.seq (.block 1 (.seq (.reg false [⟨(some 39), .mv (.t 0), none, []⟩,
   ⟨(some 40), .mv (.t 8), none, []⟩,
   ⟨(some 41), .idxStr (.t 39) (.t 40), none, []⟩,
   ⟨(some 42), .fail, none, []⟩])
   (.cond (.t 42)
   (.seq (.reg false [⟨(some 43), .mv (.t 8), none, []⟩,
    ⟨(some 4), .mv (.t 43), none, []⟩])
    .ret)
   .skip)))
   (.reg false [⟨(some 37), .mv (.t 8), none, []⟩,
   ⟨(some 38), .bin .add (.t 37) (.c (.int .i64 1)), none, []⟩,
   ⟨(some 8), .mv (.t 38), none, []⟩]))))))
   (.seq (.reg false [⟨(some 4), .mv (.c (.int .i64 (-1))), none, []⟩])
   .ret))
  .skip)))
 .skip))
 (.seq (.seq (.reg false [⟨(some 44), .mv (.t 0), none, []⟩,
 ⟨(some 45), .rangeStr (.t 44), none, []⟩])
 (.block 2 (.loop (.seq (.reg false [⟨(some 46), .nextStr (.t 45), none, []⟩,
 ⟨(some 47), .extract 0 (.t 46), none, []⟩])
 (.seq (.cond (.t 47)
 .skip
 (.exit 2))
 (.block 3 (.seq (.reg false [⟨(some 48), .extract 1 (.t 46), none, []⟩,
 ⟨(some 49), .extract 2 (.t 46), none, []⟩,
 ⟨(some 9), .mv (.t 48), none, []⟩,
 ⟨(some 10), .mv (.t 49), none, []⟩])
 (.seq (.reg false [⟨(some 50), .mv (.t 1), none, []⟩,
 ⟨(some 51), .mv (.t 10), none, []⟩,
 ⟨(some 52), .call (.fn 191) [(.t 50), (.t 51)], none, []⟩,
 ⟨(some 53), .bin .geq (.t 52) (.c (.int .i64 0)), none, []⟩])
 (.cond (.t 53)
 (.seq (.reg false [⟨(some 54), .mv (.t 9), none, []⟩,
  ⟨(some 4), .mv (.t 54), none, []⟩])
  .ret)
 .skip)))))))))
 (.seq (.reg false [⟨(some 4), .mv (.c (.int .i64 (-1))), none, []⟩])
 .ret))))))
/-- strings.IndexByte -/
def F189 : LFunc := .code 2 8 [.t 4]
 (.seq (.reg false [⟨(some 4), .mv (.c (.int .i64 0)), none, []⟩])
 (.seq (.reg false [⟨(some 5), .mv (.t 0), none, []⟩,
 ⟨(some 6), .mv (.t 1), none, []⟩,
 ⟨(some 7), .call (.fn 154) [(.t 5), (.t 6)], none, []⟩,
 ⟨(some 4), .mv (.t 7), none, []⟩])
 .ret))
/-- strings.IndexFunc -/
def F190 : LFunc := .code 2 8 [.t 4]
 (.seq (.reg false [⟨(some 4), .mv (.c (.int .i64 0)), none, []⟩])
 (.seq (.reg false [⟨(some 5), .mv (.t 0), none, []⟩,
 ⟨(some 6), .mv (.t 1), none, []⟩,
 ⟨(some 7), .call (.fn 202) [(.t 5), (.t 6), (.c (.bool true))], none, []⟩,
 ⟨(some 4), .mv (.t 7), none, []⟩])
 .ret))
/-- strings.IndexRune -/
def F191 : LFunc := .code 2 187 [.t 4]
 (.seq (.reg false [⟨(some 4), .mv (.c (.int .i64 0)), none, []⟩])
 (.block 0 (.seq (.reg false [⟨(some 161), .mv (.t 1), none, []⟩,
 ⟨(some 162), .bin .leq (.c (.int .i32 0)) (.t 161), none, []⟩,
 ⟨(some 163), .mv (.t 162), none, []⟩,
 ⟨(some 164), .mv (.t 1), (some (163, true)), []⟩,
 ⟨(some 165), .bin .lss (.t 164) (.c (.int .i32 128)), (some (163, true)), []⟩,
 ⟨(some 166), .pick (.t 163) (.t 165) (.c (.bool false)), none, []⟩,
 ⟨(some 160), .mv (.t 166), none, []⟩])
 (.cond (.t 160)
 (.seq (.reg false [⟨(some 167), .mv (.t 0), none, []⟩,
  ⟨(some 168), .mv (.t 1), none, []⟩,
  ⟨(some 169), .conv (.int .u8) (.t 168), none, []⟩,
  ⟨(some 170), .call (.fn 189) [(.t 167), (.t 169)], none, []⟩,
  ⟨(some 4), .mv (.t 170), none, []⟩])
  .ret)
 (.seq (.reg false [⟨(some 172), .mv (.t 1), none, []⟩,
  ⟨(some 173), .bin .eql (.t 172) (.c (.int .i32 65533)), none, []⟩,
  ⟨(some 171), .mv (.t 173), none, []⟩])
  (.cond (.t 171)
  (.seq (.seq (.reg false [⟨(some 174), .mv (.t 0), none, []⟩,
   ⟨(some 175), .rangeStr (.t 174), none, []⟩])
   (.block 9 (.loop (.seq (.reg false [⟨(some 176), .nextStr (.t 175), none, []⟩,
   ⟨(some 177), .extract 0 (.t 176), none, []⟩])
   (.seq (.cond (.t 177)
   .skip
   (.exit 9))
   (.block 10 (.seq (.reg false [⟨(some 178), .extract 1 (.t 176), none, []⟩,
   ⟨(some 179), .extract 2 (.t 176), none, []⟩,
   ⟨(some 5), .mv (.t 178), none, []⟩,
   ⟨(some 6), .mv (.t 179), none, []⟩])
   (.seq (.reg false [⟨(some 180), .mv (.t 6), none, []⟩,
   ⟨(some 181), .bin .eql (.t 180) (.c (.int .i32 65533)), none, []⟩])
   (.cond (.t 181)
   (.seq (.reg false [⟨(some 182), .mv (.t 5), none, []⟩,
    ⟨(some 4), .mv (.t 182), none, []⟩])
    .ret)
   .skip)))))))))
   (.seq (.reg false [⟨(some 4), .mv (.c (.int .i64 (-1))), none, []⟩])
   .ret))
  (.seq (.reg false [⟨(some 184), .mv (.t 1), none, []⟩,
   ⟨(some 185), .fail, none, []⟩,
   ⟨(some 186), .un .not (.t 185), none, []⟩,
   ⟨(some 183), .mv (.t 186), none, []⟩])
   (.cond (.t 183)
   (.seq (.reg false [⟨(some 4), .mv (.c (.int .i64 (-1))), none, []⟩])
    .ret)
   .fail))))))))
/-- strings.Join -/
def F192 : LFunc := .code 2 75 [.t 4]
 (.seq (.reg false [⟨(some 4), .mv (.c (.str [])), none, []⟩])
 (.seq (.seq (.reg false [⟨(some 11), .mv (.t 0), none, []⟩,
 ⟨(some 12), .call (.builtin .lenSl) [(.t 11)], none, []⟩])
 (.block 0 (.seq (.reg false [⟨(some 14), .bin .eql (.t 12) (.c (.int .i64 0)), none, []⟩,
 ⟨(some 13), .mv (.t 14), none, []⟩])
 (.cond (.t 13)
 (.seq (.reg false [⟨(some 4), .mv (.c (.str [])), none, []⟩])
  .ret)
 (.seq (.reg false [⟨(some 16), .bin .eql (.t 12) (.c (.int .i64 1)), none, []⟩,
  ⟨(some 15), .mv (.t 16), none, []⟩])
  (.cond (.t 15)
  (.seq (.reg false [⟨(some 17), .mv (.t 0), none, []⟩,
   ⟨(some 18), .idxAddr 1 (.t 17) (.c (.int .i64 0)), none, []⟩,
   ⟨(some 19), .load 1 false (.t 18), none, []⟩,
   ⟨(some 4), .mv (.t 19), none, []⟩])
   .ret)
  .skip))))))
 (.seq (.reg false [⟨(some 5), .mv (.c (.int .i64 0)), none, []⟩])
 (.seq (.seq (.reg false [⟨(some 20), .mv (.t 1), none, []⟩,
 ⟨(some 21), .call (.builtin .lenStr) [(.t 20)], none, []⟩,
 ⟨(some 22), .bin .gtr (.t 21) (.c (.int .i64 0)), none, []⟩])
 (.cond (.t 22)
 (.seq (.seq (.reg false [⟨(some 23), .mv (.t 1), none, []⟩,
  ⟨(some 24), .call (.builtin .lenStr) [(.t 23)], none, []⟩,
  ⟨(some 25), .mv (.t 0), none, []⟩,
  ⟨(some 26), .call (.builtin .lenSl) [(.t 25)], none, []⟩,
  ⟨(some 27), .bin .sub (.t 26) (.c (.int .i64 1)), none, []⟩,
  ⟨(some 28), .bin .quo (.c (.int .i64 9223372036854775807)) (.t 27), none, []⟩,
  ⟨(some 29), .bin .geq (.t 24) (.t 28), none, []⟩])
  (.cond (.t 29)
  (.reg false [⟨(some 30), .mkIface 1 (.c (.str [115, 116, 114, 105, 110, 103, 115, 58, 32, 74, 111, 105, 110, 32, 111, 117, 116, 112, 117, 116, 32, 108, 101, 110, 103, 116, 104, 32, 111, 118, 101, 114, 102, 108, 111, 119])), none, []⟩,
   ⟨none, .fail, none, []⟩])
  .skip))
  (.reg false [⟨(some 31), .mv (.t 5), none, []⟩,
  ⟨(some 32), .mv (.t 1), none, []⟩,
  ⟨(some 33), .call (.builtin .lenStr) [(.t 32)], none, []⟩,
  ⟨(some 34), .mv (.t 0), none, []⟩,
  ⟨(some 35), .call (.builtin .lenSl) [(.t 34)], none, []⟩,
  ⟨(some 36), .bin .sub (.t 35) (.c (.int .i64 1)), none, []⟩,
  ⟨(some 37), .bin .mul (.t 33) (.t 36), none, []⟩,
  ⟨(some 38), .bin .add (.t 31) (.t 37), none, []⟩,
  ⟨(some 5), .mv (.t 38), none, []⟩]))
 .skip))
 (.seq (.seq (.reg false [⟨(some 39), .mv (.t 0), none, []⟩,
 ⟨(some 40), .call (.builtin .lenSl) [(.t 39)], none, []⟩,
 ⟨(some 41), .mv (.c (.int .i64 0)), none, []⟩])
 (.block 1 (.loop (.seq (.reg false [⟨(some 42), .bin .lss (.t 41) (.t 40), none, []⟩])
 (.seq (.cond (.t 42)
 .skip
 (.exit 1))
 (.seq (.block 2 (.seq (.reg false [⟨(some 43), .idxAddr 1 (.t 39) (.t 41), none, []⟩,
 ⟨(some 44), .load 1 false (.t 43), none, []⟩,
 ⟨(some 7), .mv (.t 44), none, []⟩])
 (.seq (.seq (.reg false [⟨(some 45), .mv (.t 7), none, []⟩,
 ⟨(some 46), .call (.builtin .lenStr) [(.t 45)], none, []⟩,
 ⟨(some 47), .mv (.t 5), none, []⟩,
 ⟨(some 48), .bin .sub (.c (.int .i64 9223372036854775807)) (.t 47), none, []⟩,
 ⟨(some 49), .bin .gtr (.t 46) (.t 48), none, []⟩])
 (.cond (.t 49)
 (.reg false [⟨(some 50), .mkIface 1 (.c (.str [115, 116, 114, 105, 110, 103, 115, 58, 32, 74, 111, 105, 110, 32, 111, 117, 116, 112, 117, 116, 32, 108, 101, 110, 103, 116, 104, 32, 111, 118, 101, 114, 102, 108, 111, 119])), none, []⟩,
  ⟨none, .fail, none, []⟩])
 .skip))
 (.reg false [⟨(some 51), .mv (.t 5), none, []⟩,
 ⟨(some 52), .mv (.t 7), none, []⟩,
 ⟨(some 53), .call (.builtin .lenStr) [(.t 52)], none, []⟩,
 ⟨(some 54), .bin .add (.t 51) (.t 53), none, []⟩,
 ⟨(some 5), .mv (.t 54), none, []⟩]))))
 (.reg false [⟨(some 55), .bin .add (.t 41) (.c (.int .i64 1)), none, []⟩,
 ⟨(some 41), .mv (.t 55), none, []⟩])))))))
 (.seq (.reg false [⟨(some 8), .alloc [.nilptr, .nilsl] 2, none, []⟩])
 (.seq (.reg false [⟨(some 56), .mv (.t 5), none, []⟩,
 ⟨(some 57), .call (.fn 15) [(.t 8), (.t 56)], none, []⟩])
 (.seq (.reg false [⟨(some 58), .mv (.t 0), none, []⟩,
 ⟨(some 59), .idxAddr 1 (.t 58) (.c (.int .i64 0)), none, []⟩,
 ⟨(some 60), .load 1 false (.t 59), none, []⟩,
 ⟨(some 61), .call (.fn 18) [(.t 8), (.t 60)], none, []⟩])
 (.seq (.seq (.reg false [⟨(some 62), .mv (.t 0), none, []⟩,
 ⟨(some 63), .slSl 1 (.t 62) (some (.c (.int .i64 1))) none none, none, []⟩,
 ⟨(some 64), .call (.builtin .lenSl) [(.t 63)], none, []⟩,
 ⟨(some 65), .mv (.c (.int .i64 0)), none, []⟩])
 (.block 3 (.loop (.seq (.reg false [⟨(some 66), .bin .lss (.t 65) (.t 64), none, []⟩])
 (.seq (.cond (.t 66)
 .skip
 (.exit 3))
 (.seq (.block 4 (.seq (.reg false [⟨(some 67), .idxAddr 1 (.t 63) (.t 65), none, []⟩,
 ⟨(some 68), .load 1 false (.t 67), none, []⟩,
 ⟨(some 10), .mv (.t 68), none, []⟩])
 (.seq (.reg false [⟨(some 69), .mv (.t 1), none, []⟩,
 ⟨(some 70), .call (.fn 18) [(.t 8), (.t 69)], none, []⟩])
 (.reg false [⟨(some 71), .mv (.t 10), none, []⟩,
 ⟨(some 72), .call (.fn 18) [(.t 8), (.t 71)], none, []⟩]))))
 (.reg false [⟨(some 73), .bin .add (.t 65) (.c (.int .i64 1)), none, []⟩,
 ⟨(some 65), .mv (.t 73), none, []⟩])))))))
 (.seq (.reg false [⟨(some 74), .call (.fn 16) [(.t 8)], none, []⟩,
 ⟨(some 4), .mv (.t 74), none, []⟩])
 .ret))))))))))
/-- strings.LastIndexByte -/
def F193 : LFunc := .code 2 8 [.t 4]
 (.seq (.reg false [⟨(some 4), .mv (.c (.int .i64 0)), none, []⟩])
 (.seq (.reg false [⟨(some 5), .mv (.t 0), none, []⟩,
 ⟨(some 6), .mv (.t 1), none, []⟩,
 ⟨(some 7), .call (.fn 142) [(.t 5), (.t 6)], none, []⟩,
 ⟨(some 4), .mv (.t 7), none, []⟩])
 .ret))
/-- strings.NewReplacer -/
def F194 : LFunc := .code 1 12 [.t 2]
 (.seq (.reg false [⟨(some 2), .mv (.c (.nilptr)), none, []⟩])
 (.seq (.seq (.reg false [⟨(some 3), .mv (.t 0), none, []⟩,
 ⟨(some 4), .call (.builtin .lenSl) [(.t 3)], none, []⟩,
 ⟨(some 5), .bin .rem (.t 4) (.c (.int .i64 2)), none, []⟩,
 ⟨(some 6), .bin .eql (.t 5) (.c (.int .i64 1)), none, []⟩])
 (.cond (.t 6)
 (.reg false [⟨(some 7), .mkIface 1 (.c (.str [115, 116, 114, 105, 110, 103, 115, 46, 78, 101, 119, 82, 101, 112, 108, 97, 99, 101, 114, 58, 32, 111, 100, 100, 32, 97, 114, 103, 117, 109, 101, 110, 116, 32, 99, 111, 117, 110, 116])), none, []⟩,
  ⟨none, .fail, none, []⟩])
 .skip))
 (.seq (.reg false [⟨(some 8), .mv (.t 0), none, []⟩,
 ⟨(some 9), .call (.builtin (.append 1 16 0 [.str []])) [(.c (.nilsl)), (.t 8)], none, []⟩,
 ⟨(some 10), .build [.int .u32 0, .int .i32 0, .int .u32 0, .nilIface, .nilsl] [(4, 1, (.t 9))], none, []⟩,
 ⟨(some 11), .box 0 (.t 10), none, []⟩,
 ⟨(some 2), .mv (.t 11), none, []⟩])
 .ret)))
/-- strings.Replace -/
def F195 : LFunc := .code 4 104 [.t 8]
 (.seq (.reg false [⟨(some 8), .mv (.c (.str [])), none, []⟩])
 (.seq (.seq (.reg false [⟨(some 16), .mv (.t 1), none, []⟩,
 ⟨(some 17), .mv (.t 2), none, []⟩,
 ⟨(some 18), .bin .eql (.t 16) (.t 17), none, []⟩,
 ⟨(some 19), .mv (.t 18), none, []⟩,
 ⟨(some 20), .mv (.t 3), (some (19, false)), []⟩,
 ⟨(some 21), .bin .eql (.t 20) (.c (.int .i64 0)), (some (19, false)), []⟩,
 ⟨(some 22), .pick (.t 19) (.c (.bool true)) (.t 21), none, []⟩])
 (.cond (.t 22)
 (.seq (.reg false [⟨(some 23), .mv (.t 0), none, []⟩,
  ⟨(some 8), .mv (.t 23), none, []⟩])
  .ret)
 .skip))
 (.seq (.seq (.reg false [⟨(some 24), .mv (.t 0), none, []⟩,
 ⟨(some 25), .mv (.t 1), none, []⟩,
 ⟨(some 26), .call (.fn 181) [(.t 24), (.t 25)], none, []⟩,
 ⟨(some 9), .mv (.t 26), none, []⟩])
 (.seq (.reg false [⟨(some 27), .mv (.t 9), none, []⟩,
 ⟨(some 28), .bin .eql (.t 27) (.c (.int .i64 0)), none, []⟩])
 (.cond (.t 28)
 (.seq (.reg false [⟨(some 29), .mv (.t 0), none, []⟩,
  ⟨(some 8), .mv (.t 29), none, []⟩])
  .ret)
 (.seq (.reg false [⟨(some 30), .mv (.t 3), none, []⟩,
  ⟨(some 31), .bin .lss (.t 30) (.c (.int .i64 0)), none, []⟩,
  ⟨(some 32), .mv (.t 31), none, []⟩,
  ⟨(some 33), .mv (.t 9), (some (32, false)), []⟩,
  ⟨(some 34), .mv (.t 3), (some (32, false)), []⟩,
  ⟨(some 35), .bin .lss (.t 33) (.t 34), (some (32, false)), []⟩,
  ⟨(some 36), .pick (.t 32) (.c (.bool true)) (.t 35), none, []⟩])
  (.cond (.t 36)
  (.reg false [⟨(some 37), .mv (.t 9), none, []⟩,
   ⟨(some 3), .mv (.t 37), none, []⟩])
  .skip)))))
 (.seq (.reg false [⟨(some 10), .alloc [.nilptr, .nilsl] 2, none, []⟩])
 (.seq (.reg false [⟨(some 38), .mv (.t 0), none, []⟩,
 ⟨(some 39), .call (.builtin .lenStr) [(.t 38)], none, []⟩,
 ⟨(some 40), .mv (.t 3), none, []⟩,
 ⟨(some 41), .mv (.t 2), none, []⟩,
 ⟨(some 42), .call (.builtin .lenStr) [(.t 41)], none, []⟩,
 ⟨(some 43), .mv (.t 1), none, []⟩,
 ⟨(some 44), .call (.builtin .lenStr) [(.t 43)], none, []⟩,
 ⟨(some 45), .bin .sub (.t 42) (.t 44), none, []⟩,
 ⟨(some 46), .bin .mul (.t 40) (.t 45), none, []⟩,
 ⟨(some 47), .bin .add (.t 39) (.t 46), none, []⟩,
 ⟨(some 48), .call (.fn 15) [(.t 10), (.t 47)], none, []⟩])
 (.seq (.reg false [⟨(some 11), .mv (.c (.int .i64 0)), none, []⟩])
 (.seq (.seq (.reg false [⟨(some 49), .mv (.t 1), none, []⟩,
 ⟨(some 50), .call (.builtin .lenStr) [(.t 49)], none, []⟩,
 ⟨(some 51), .bin .gtr (.t 50) (.c (.int .i64 0)), none, []⟩])
 (.cond (.t 51)
 (.seq (.reg false [⟨(some 52), .mv (.t 3), none, []⟩,
  ⟨(some 53), .mv (.c (.int .i64 0)), none, []⟩])
  (.block 0 (.loop (.seq (.reg false [⟨(some 54), .bin .lss (.t 53) (.t 52), none, []⟩])
  (.seq (.cond (.t 54)
  .skip
  (.exit 0))
  (.seq (.block 1 (.seq (.reg false [⟨(some 55), .mv (.t 11), none, []⟩,
  ⟨(some 56), .mv (.t 0), none, []⟩,
  ⟨(some 57), .mv (.t 11), none, []⟩,
  ⟨(some 58), .slStr (.t 56) (some (.t 57)) none, none, []⟩,
  ⟨(some 59), .mv (.t 1), none, []⟩,
  ⟨(some 60), .call (.fn 187) [(.t 58), (.t 59)], none, []⟩,
  ⟨(some 61), .bin .add (.t 55) (.t 60), none, []⟩,
  ⟨(some 12), .mv (.t 61), none, []⟩])
  (.seq (.reg false [⟨(some 62), .mv (.t 0), none, []⟩,
  ⟨(some 63), .mv (.t 11), none, []⟩,
  ⟨(some 64), .mv (.t 12), none, []⟩,
  ⟨(some 65), .slStr (.t 62) (some (.t 63)) (some (.t 64)), none, []⟩,
  ⟨(some 66), .call (.fn 18) [(.t 10), (.t 65)], none, []⟩])
  (.seq (.reg false [⟨(some 67), .mv (.t 2), none, []⟩,
  ⟨(some 68), .call (.fn 18) [(.t 10), (.t 67)], none, []⟩])
  (.reg false [⟨(some 69), .mv (.t 12), none, []⟩,
  ⟨(some 70), .mv (.t 1), none, []⟩,
  ⟨(some 71), .call (.builtin .lenStr) [(.t 70)], none, []⟩,
  ⟨(some 72), .bin .add (.t 69) (.t 71), none, []⟩,
  ⟨(some 11), .mv (.t 72), none, []⟩])))))
  (.reg false [⟨(some 73), .bin .add (.t 53) (.c (.int .i64 1)), none, []⟩,
  ⟨(some 53), .mv (.t 73), none, []⟩])))))))
 (.seq (.reg false [⟨(some 74), .mv (.t 2), none, []⟩,
  ⟨(some 75), .call (.fn 18) [(.t 10), (.t 74)], none, []⟩])
  (.seq (.reg false [⟨(some 76), .mv (.t 3), none, []⟩,
  ⟨(some 77), .bin .sub (.t 76) (.c (.int .i64 1)), none, []⟩,
  ⟨(some 78), .mv (.c (.int .i64 0)), none, []⟩])
  (.block 2 (.loop (.seq (.reg false [⟨(some 79), .bin .lss (.t 78) (.t 77), none, []⟩])
  (.seq (.cond (.t 79)
  .skip
  (.exit 2))
  (.seq (.block 3 (.seq (.reg false [⟨(some 81), .mv (.t 0), none, []⟩,
  ⟨(some 82), .mv (.t 11), none, []⟩,
  ⟨(some 83), .slStr (.t 81) (some (.t 82)) none, none, []⟩,
  ⟨(some 84), .call (.fn 212) [(.t 83)], none, []⟩,
  ⟨(some 80), .mv (.t 84), none, []⟩,
  ⟨(some 85), .extract 0 (.t 80), none, []⟩,
  ⟨(some 86), .extract 1 (.t 80), none, []⟩,
  ⟨(some 13), .mv (.t 85), none, []⟩,
  ⟨(some 14), .mv (.t 86), none, []⟩])
  (.seq (.reg false [⟨(some 87), .mv (.t 11), none, []⟩,
  ⟨(some 88), .mv (.t 14), none, []⟩,
  ⟨(some 89), .bin .add (.t 87) (.t 88), none, []⟩,
  ⟨(some 15), .mv (.t 89), none, []⟩])
  (.seq (.reg false [⟨(some 90), .mv (.t 0), none, []⟩,
  ⟨(some 91), .mv (.t 11), none, []⟩,
  ⟨(some 92), .mv (.t 15), none, []⟩,
  ⟨(some 93), .slStr (.t 90) (some (.t 91)) (some (.t 92)), none, []⟩,
  ⟨(some 94), .call (.fn 18) [(.t 10), (.t 93)], none, []⟩])
  (.seq (.reg false [⟨(some 95), .mv (.t 2), none, []⟩,
  ⟨(some 96), .call (.fn 18) [(.t 10), (.t 95)], none, []⟩])
  (.reg false [⟨(some 97), .mv (.t 15), none, []⟩,
  ⟨(some 11), .mv (.t 97), none, []⟩]))))))
  (.reg false [⟨(some 98), .bin .add (.t 78) (.c (.int .i64 1)), none, []⟩,
  ⟨(some 78), .mv (.t 98), none, []⟩]))))))))))
 (.seq (.reg false [⟨(some 99), .mv (.t 0), none, []⟩,
 ⟨(some 100), .mv (.t 11), none, []⟩,
 ⟨(some 101), .slStr (.t 99) (some (.t 100)) none, none, []⟩,
 ⟨(some 102), .call (.fn 18) [(.t 10), (.t 101)], none, []⟩])
 (.seq (.reg false [⟨(some 103), .call (.fn 16) [(.t 10)], none, []⟩,
 ⟨(some 8), .mv (.t 103), none, []⟩])
 .ret)))))))))
/-- strings.ReplaceAll -/
def F196 : LFunc := .code 3 11 [.t 6]
 (.seq (.reg false [⟨(some 6), .mv (.c (.str [])), none, []⟩])
 (.seq (.reg false [⟨(some 7), .mv (.t 0), none, []⟩,
 ⟨(some 8), .mv (.t 1), none, []⟩,
 ⟨(some 9), .mv (.t 2), none, []⟩,
 ⟨(some 10), .call (.fn 195) [(.t 7), (.t 8), (.t 9), (.c (.int .i64 (-1)))], none, []⟩,
 ⟨(some 6), .mv (.t 10), none, []⟩])
 .ret))
/-- strings.Split -/
def F197 : LFunc := .code 2 8 [.t 4]
 (.seq (.reg false [⟨(some 4), .mv (.c (.nilsl)), none, []⟩])
 (.seq (.reg false [⟨(some 5), .mv (.t 0), none, []⟩,
 ⟨(some 6), .mv (.t 1), none, []⟩,
 ⟨(some 7), .call (.fn 201) [(.t 5), (.t 6), (.c (.int .i64 0)), (.c (.int .i64 (-1)))], none, []⟩,
 ⟨(some 4), .mv (.t 7), none, []⟩])
 .ret))
/-- strings.TrimFunc -/
def F198 : LFunc := .code 2 10 [.t 4]
 (.seq (.reg false [⟨(some 4), .mv (.c (.str [])), none, []⟩])
 (.seq (.reg false [⟨(some 5), .mv (.t 0), none, []⟩,
 ⟨(some 6), .mv (.t 1), none, []⟩,
 ⟨(some 7), .call (.fn 199) [(.t 5), (.t 6)], none, []⟩,
 ⟨(some 8), .mv (.t 1), none, []⟩,
 ⟨(some 9), .call (.fn 200) [(.t 7), (.t 8)], none, []⟩,
 ⟨(some 4), .mv (.t 9), none, []⟩])
 .ret))
/-- strings.TrimLeftFunc -/
def F199 : LFunc := .code 2 14 [.t 4]
 (.seq (.reg false [⟨(some 4), .mv (.c (.str [])), none, []⟩])
 (.seq (.reg false [⟨(some 6), .mv (.t 0), none, []⟩,
 ⟨(some 7), .mv (.t 1), none, []⟩,
 ⟨(some 8), .call (.fn 202) [(.t 6), (.t 7), (.c (.bool false))], none, []⟩,
 ⟨(some 5), .mv (.t 8), none, []⟩])
 (.seq (.seq (.reg false [⟨(some 9), .mv (.t 5), none, []⟩,
 ⟨(some 10), .bin .eql (.t 9) (.c (.int .i64 (-1))), none, []⟩])
 (.cond (.t 10)
 (.seq (.reg false [⟨(some 4), .mv (.c (.str [])), none, []⟩])
  .ret)
 .skip))
 (.seq (.reg false [⟨(some 11), .mv (.t 0), none, []⟩,
 ⟨(some 12), .mv (.t 5), none, []⟩,
 ⟨(some 13), .slStr (.t 11) (some (.t 12)) none, none, []⟩,
 ⟨(some 4), .mv (.t 13), none, []⟩])
 .ret))))
/-- strings.TrimRightFunc -/
def F200 : LFunc := .code 2 28 [.t 4]
 (.seq (.reg false [⟨(some 4), .mv (.c (.str [])), none, []⟩])
 (.seq (.reg false [⟨(some 8), .mv (.t 0), none, []⟩,
 ⟨(some 9), .mv (.t 1), none, []⟩,
 ⟨(some 10), .call (.fn 203) [(.t 8), (.t 9), (.c (.bool false))], none, []⟩,
 ⟨(some 5), .mv (.t 10), none, []⟩])
 (.seq (.seq (.reg false [⟨(some 11), .mv (.t 5), none, []⟩,
 ⟨(some 12), .bin .geq (.t 11) (.c (.int .i64 0)), none, []⟩])
 (.cond (.t 12)
 (.seq (.reg false [⟨(some 14), .mv (.t 0), none, []⟩,
  ⟨(some 15), .mv (.t 5), none, []⟩,
  ⟨(some 16), .slStr (.t 14) (some (.t 15)) none, none, []⟩,
  ⟨(some 17), .call (.fn 212) [(.t 16)], none, []⟩,
  ⟨(some 13), .mv (.t 17), none, []⟩,
  ⟨(some 18), .extract 0 (.t 13), none, []⟩,
  ⟨(some 19), .extract 1 (.t 13), none, []⟩,
  ⟨(some 6), .mv (.t 18), none, []⟩,
  ⟨(some 7), .mv (.t 19), none, []⟩])
  (.reg false [⟨(some 20), .mv (.t 5), none, []⟩,
  ⟨(some 21), .mv (.t 7), none, []⟩,
  ⟨(some 22), .bin .add (.t 20) (.t 21), none, []⟩,
  ⟨(some 5), .mv (.t 22), none, []⟩]))
 (.reg false [⟨(some 23), .mv (.t 5), none, []⟩,
  ⟨(some 24), .bin .add (.t 23) (.c (.int .i64 1)), none, []⟩,
  ⟨(some 5), .mv (.t 24), none, []⟩])))
 (.seq (.reg false [⟨(some 25), .mv (.t 0), none, []⟩,
 ⟨(some 26), .mv (.t 5), none, []⟩,
 ⟨(some 27), .slStr (.t 25) (some (.c (.int .i64 0))) (some (.t 26)), none, []⟩,
 ⟨(some 4), .mv (.t 27), none, []⟩])
 .ret))))
/-- strings.genSplit -/
def F201 : LFunc := .code 4 66 [.t 8]
 (.seq (.reg false [⟨(some 8), .mv (.c (.nilsl)), none, []⟩])
 (.seq (.seq (.reg false [⟨(some 12), .mv (.t 3), none, []⟩,
 ⟨(some 13), .bin .eql (.t 12) (.c (.int .i64 0)), none, []⟩])
 (.cond (.t 13)
 (.seq (.reg false [⟨(some 8), .mv (.c (.nilsl)), none, []⟩])
  .ret)
 .skip))
 (.seq (.seq (.reg false [⟨(some 14), .mv (.t 1), none, []⟩,
 ⟨(some 15), .bin .eql (.t 14) (.c (.str [])), none, []⟩])
 (.cond (.t 15)
 (.seq (.reg false [⟨(some 16), .mv (.t 0), none, []⟩,
  ⟨(some 17), .mv (.t 3), none, []⟩,
  ⟨(some 18), .fail, none, []⟩,
  ⟨(some 8), .mv (.t 18), none, []⟩])
  .ret)
 .skip))
 (.seq (.seq (.reg false [⟨(some 19), .mv (.t 3), none, []⟩,
 ⟨(some 20), .bin .lss (.t 19) (.c (.int .i64 0)), none, []⟩])
 (.cond (.t 20)
 (.reg false [⟨(some 21), .mv (.t 0), none, []⟩,
  ⟨(some 22), .mv (.t 1), none, []⟩,
  ⟨(some 23), .call (.fn 181) [(.t 21), (.t 22)], none, []⟩,
  ⟨(some 24), .bin .add (.t 23) (.c (.int .i64 1)), none, []⟩,
  ⟨(some 3), .mv (.t 24), none, []⟩])
 .skip))
 (.seq (.reg false [⟨(some 25), .mv (.t 3), none, []⟩,
 ⟨(some 26), .mv (.t 0), none, []⟩,
 ⟨(some 27), .call (.builtin .lenStr) [(.t 26)], none, []⟩,
 ⟨(some 28), .bin .add (.t 27) (.c (.int .i64 1)), none, []⟩,
 ⟨(some 29), .call (.builtin .min) [(.t 25), (.t 28)], none, []⟩,
 ⟨(some 3), .mv (.t 29), none, []⟩])
 (.seq (.reg false [⟨(some 30), .mv (.t 3), none, []⟩,
 ⟨(some 31), .mkSlice [.str []] 1 16 0 (.t 30) (.t 30), none, []⟩,
 ⟨(some 9), .mv (.t 31), none, []⟩])
 (.seq (.reg false [⟨(some 32), .mv (.t 3), none, []⟩,
 ⟨(some 33), .bin .sub (.t 32) (.c (.int .i64 1)), none, []⟩,
 ⟨(some 3), .mv (.t 33), none, []⟩])
 (.seq (.reg false [⟨(some 10), .mv (.c (.int .i64 0)), none, []⟩])
 (.seq (.block 0 (.loop (.seq (.seq (.reg false [⟨(some 34), .mv (.t 10), none, []⟩,
 ⟨(some 35), .mv (.t 3), none, []⟩,
 ⟨(some 36), .bin .lss (.t 34) (.t 35), none, []⟩])
 (.cond (.t 36)
 .skip
 (.exit 0)))
 (.block 1 (.seq (.reg false [⟨(some 37), .mv (.t 0), none, []⟩,
 ⟨(some 38), .mv (.t 1), none, []⟩,
 ⟨(some 39), .call (.fn 187) [(.t 37), (.t 38)], none, []⟩,
 ⟨(some 11), .mv (.t 39), none, []⟩])
 (.seq (.seq (.reg false [⟨(some 40), .mv (.t 11), none, []⟩,
 ⟨(some 41), .bin .lss (.t 40) (.c (.int .i64 0)), none, []⟩])
 (.cond (.t 41)
 (.exit 0)
 .skip))
 (.seq (.reg false [⟨(some 42), .mv (.t 9), none, []⟩,
 ⟨(some 43), .mv (.t 10), none, []⟩,
 ⟨(some 44), .mv (.t 0), none, []⟩,
 ⟨(some 45), .mv (.t 11), none, []⟩,
 ⟨(some 46), .mv (.t 2), none, []⟩,
 ⟨(some 47), .bin .add (.t 45) (.t 46), none, []⟩,
 ⟨(some 48), .slStr (.t 44) none (some (.t 47)), none, []⟩,
 ⟨(some 49), .idxAddr 1 (.t 42) (.t 43), none, []⟩,
 ⟨none, .store 1 (.t 49) (.t 48), none, []⟩])
 (.seq (.reg false [⟨(some 50), .mv (.t 0), none, []⟩,
 ⟨(some 51), .mv (.t 11), none, []⟩,
 ⟨(some 52), .mv (.t 1), none, []⟩,
 ⟨(some 53), .call (.builtin .lenStr) [(.t 52)], none, []⟩,
 ⟨(some 54), .bin .add (.t 51) (.t 53), none, []⟩,
 ⟨(some 55), .slStr (.t 50) (some (.t 54)) none, none, []⟩,
 ⟨(some 0), .mv (.t 55), none, []⟩])
 (.reg false [⟨(some 56), .mv (.t 10), none, []⟩,
 ⟨(some 57), .bin .add (.t 56) (.c (.int .i64 1)), none, []⟩,
 ⟨(some 10), .mv (.t 57), none, []⟩])))))))))
 (.seq (.reg false [⟨(some 58), .mv (.t 9), none, []⟩,
 ⟨(some 59), .mv (.t 10), none, []⟩,
 ⟨(some 60), .mv (.t 0), none, []⟩,
 ⟨(some 61), .idxAddr 1 (.t 58) (.t 59), none, []⟩,
 ⟨none, .store 1 (.t 61) (.t 60), none, []⟩])
 (.seq (.reg false [⟨(some 62), .mv (.t 9), none, []⟩,
 ⟨(some 63), .mv (.t 10), none, []⟩,
 ⟨(some 64), .bin .add (.t 63) (.c (.int .i64 1)), none, []⟩,
 ⟨(some 65), .slSl 1 (.t 62) none (some (.t 64)) none, none, []⟩,
 ⟨(some 8), .mv (.t 65), none, []⟩])
 .ret)))))))))))
/-- strings.indexFunc -/
def F202 : LFunc := .code 3 21 [.t 6]
 (.seq (.reg false [⟨(some 6), .mv (.c (.int .i64 0)), none, []⟩])
 (.seq (.seq (.reg false [⟨(some 9), .mv (.t 0), none, []⟩,
 ⟨(some 10), .rangeStr (.t 9), none, []⟩])
 (.block 0 (.loop (.seq (.reg false [⟨(some 11), .nextStr (.t 10), none, []⟩,
 ⟨(some 12), .extract 0 (.t 11), none, []⟩])
 (.seq (.cond (.t 12)
 .skip
 (.exit 0))
 (.block 1 (.seq (.reg false [⟨(some 13), .extract 1 (.t 11), none, []⟩,
 ⟨(some 14), .extract 2 (.t 11), none, []⟩,
 ⟨(some 7), .mv (.t 13), none, []⟩,
 ⟨(some 8), .mv (.t 14), none, []⟩])
 (.seq (.reg false [⟨(some 15), .mv (.t 1), none, []⟩,
 ⟨(some 16), .mv (.t 8), none, []⟩,
 ⟨(some 17), .call (.val (.t 15)) [(.t 16)], none, []⟩,
 ⟨(some 18), .mv (.t 2), none, []⟩,
 ⟨(some 19), .eq false .b (.t 17) (.t 18), none, []⟩])
 (.cond (.t 19)
 (.seq (.reg false [⟨(some 20), .mv (.t 7), none, []⟩,
  ⟨(some 6), .mv (.t 20), none, []⟩])
  .ret)
 .skip)))))))))
 (.seq (.reg false [⟨(some 6), .mv (.c (.int .i64 (-1))), none, []⟩])
 .ret)))
/-- strings.lastIndexFunc -/
def F203 : LFunc := .code 3 30 [.t 6]
 (.seq (.reg false [⟨(some 6), .mv (.c (.int .i64 0)), none, []⟩])
 (.seq (.seq (.reg false [⟨(some 10), .mv (.t 0), none, []⟩,
 ⟨(some 11), .call (.builtin .lenStr) [(.t 10)], none, []⟩,
 ⟨(some 7), .mv (.t 11), none, []⟩])
 (.block 0 (.loop (.seq (.seq (.reg false [⟨(some 12), .mv (.t 7), none, []⟩,
 ⟨(some 13), .bin .gtr (.t 12) (.c (.int .i64 0)), none, []⟩])
 (.cond (.t 13)
 .skip
 (.exit 0)))
 (.block 1 (.seq (.reg false [⟨(some 15), .mv (.t 0), none, []⟩,
 ⟨(some 16), .mv (.t 7), none, []⟩,
 ⟨(some 17), .slStr (.t 15) (some (.c (.int .i64 0))) (some (.t 16)), none, []⟩,
 ⟨(some 18), .call (.fn 211) [(.t 17)], none, []⟩,
 ⟨(some 14), .mv (.t 18), none, []⟩,
 ⟨(some 19), .extract 0 (.t 14), none, []⟩,
 ⟨(some 20), .extract 1 (.t 14), none, []⟩,
 ⟨(some 8), .mv (.t 19), none, []⟩,
 ⟨(some 9), .mv (.t 20), none, []⟩])
 (.seq (.reg false [⟨(some 21), .mv (.t 7), none, []⟩,
 ⟨(some 22), .mv (.t 9), none, []⟩,
 ⟨(some 23), .bin .sub (.t 21) (.t 22), none, []⟩,
 ⟨(some 7), .mv (.t 23), none, []⟩])
 (.seq (.reg false [⟨(some 24), .mv (.t 1), none, []⟩,
 ⟨(some 25), .mv (.t 8), none, []⟩,
 ⟨(some 26), .call (.val (.t 24)) [(.t 25)], none, []⟩,
 ⟨(some 27), .mv (.t 2), none, []⟩,
 ⟨(some 28), .eq false .b (.t 26) (.t 27), none, []⟩])
 (.cond (.t 28)
 (.seq (.reg false [⟨(some 29), .mv (.t 7), none, []⟩,
  ⟨(some 6), .mv (.t 29), none, []⟩])
  .ret)
 .skip)))))))))
 (.seq (.reg false [⟨(some 6), .mv (.c (.int .i64 (-1))), none, []⟩])
 .ret)))
/-- strings.shouldUseASCIISet -/
def F204 : LFunc := .code 1 5 [.t 2]
 (.seq (.reg false [⟨(some 2), .mv (.c (.bool false)), none, []⟩])
 (.seq (.reg false [⟨(some 3), .mv (.t 0), none, []⟩,
 ⟨(some 4), .bin .gtr (.t 3) (.c (.int .i64 8)), none, []⟩,
 ⟨(some 2), .mv (.t 4), none, []⟩])
 .ret))
/-- sync/atomic.AddInt32 -/
def F205 : LFunc := .ext (.add .i32)
/-- sync/atomic.CompareAndSwapInt32 -/
def F206 : LFunc := .ext (.cas .i32)
/-- sync/atomic.LoadUint32 -/
def F207 : LFunc := .ext (.load .u32)
/-- sync/atomic.StoreUint32 -/
def F208 : LFunc := .ext .store
/-- sync/atomic.b32 -/
def F209 : LFunc := .code 1 4 [.t 2]
 (.seq (.reg false [⟨(some 2), .mv (.c (.int .u32 0)), none, []⟩])
 (.seq (.seq (.reg false [⟨(some 3), .mv (.t 0), none, []⟩])
 (.cond (.t 3)
 (.seq (.reg false [⟨(some 2), .mv (.c (.int .u32 1)), none, []⟩])
  .ret)
 .skip))
 (.seq (.reg false [⟨(some 2), .mv (.c (.int .u32 0)), none, []⟩])
 .ret)))
/-- unicode/utf8.AppendRune -/
def F210 : LFunc := .code 2 16 [.t 4]
 (.seq (.reg false [⟨(some 4), .mv (.c (.nilsl)), none, []⟩])
 (.seq (.seq (.reg false [⟨(some 5), .mv (.t 1), none, []⟩,
 ⟨(some 6), .conv (.int .u32) (.t 5), none, []⟩,
 ⟨(some 7), .bin .leq (.t 6) (.c (.int .u32 127)), none, []⟩])
 (.cond (.t 7)
 (.seq (.reg false [⟨(some 8), .mv (.t 0), none, []⟩,
  ⟨(some 9), .mv (.t 1), none, []⟩,
  ⟨(some 10), .conv (.int .u8) (.t 9), none, []⟩,
  ⟨(some 11), .lit [.int .u8 0] 1 1 [(0, 1, (.t 10))], none, []⟩,
  ⟨(some 12), .call (.builtin (.append 1 1 1 [.int .u8 0])) [(.t 8), (.t 11)], none, []⟩,
  ⟨(some 4), .mv (.t 12), none, []⟩])
  .ret)
 .skip))
 (.seq (.reg false [⟨(some 13), .mv (.t 0), none, []⟩,
 ⟨(some 14), .mv (.t 1), none, []⟩,
 ⟨(some 15), .fail, none, []⟩,
 ⟨(some 4), .mv (.t 15), none, []⟩])
 .ret)))
/-- unicode/utf8.DecodeLastRuneInString -/
def F211 : LFunc := .code 1 51 [.t 2, .t 3]
 (.seq (.reg false [⟨(some 2), .mv (.c (.int .i32 0)), none, []⟩,
 ⟨(some 3), .mv (.c (.int .i64 0)), none, []⟩])
 (.seq (.reg false [⟨(some 7), .mv (.t 0), none, []⟩,
 ⟨(some 8), .call (.builtin .lenStr) [(.t 7)], none, []⟩,
 ⟨(some 4), .mv (.t 8), none, []⟩])
 (.seq (.seq (.reg false [⟨(some 9), .mv (.t 4), none, []⟩,
 ⟨(some 10), .bin .eql (.t 9) (.c (.int .i64 0)), none, []⟩])
 (.cond (.t 10)
 (.seq (.reg false [⟨(some 2), .mv (.c (.int .i32 65533)), none, []⟩,
  ⟨(some 3), .mv (.c (.int .i64 0)), none, []⟩])
  .ret)
 .skip))
 (.seq (.reg false [⟨(some 11), .mv (.t 4), none, []⟩,
 ⟨(some 12), .bin .sub (.t 11) (.c (.int .i64 1)), none, []⟩,
 ⟨(some 5), .mv (.t 12), none, []⟩])
 (.seq (.reg false [⟨(some 13), .mv (.t 0), none, []⟩,
 ⟨(some 14), .mv (.t 5), none, []⟩,
 ⟨(some 15), .idxStr (.t 13) (.t 14), none, []⟩,
 ⟨(some 16), .conv (.int .i32) (.t 15), none, []⟩,
 ⟨(some 2), .mv (.t 16), none, []⟩])
 (.seq (.seq (.reg false [⟨(some 17), .mv (.t 2), none, []⟩,
 ⟨(some 18), .bin .lss (.t 17) (.c (.int .i32 128)), none, []⟩])
 (.cond (.t 18)
 (.seq (.reg false [⟨(some 19), .mv (.t 2), none, []⟩,
  ⟨(some 2), .mv (.t 19), none, []⟩,
  ⟨(some 3), .mv (.c (.int .i64 1)), none, []⟩])
  .ret)
 .skip))
 (.seq (.reg false [⟨(some 20), .mv (.t 4), none, []⟩,
 ⟨(some 21), .bin .sub (.t 20) (.c (.int .i64 4)), none, []⟩,
 ⟨(some 22), .call (.builtin .max) [(.t 21), (.c (.int .i64 0))], none, []⟩,
 ⟨(some 6), .mv (.t 22), none, []⟩])
 (.seq (.seq (.reg false [⟨(some 23), .mv (.t 5), none, []⟩,
 ⟨(some 24), .bin .sub (.t 23) (.c (.int .i64 1)), none, []⟩,
 ⟨(some 5), .mv (.t 24), none, []⟩])
 (.block 0 (.loop (.seq (.seq (.reg false [⟨(some 25), .mv (.t 5), none, []⟩,
 ⟨(some 26), .mv (.t 6), none, []⟩,
 ⟨(some 27), .bin .geq (.t 25) (.t 26), none, []⟩])
 (.cond (.t 27)
 .skip
 (.exit 0)))
 (.seq (.block 1 (.seq (.reg false [⟨(some 30), .mv (.t 0), none, []⟩,
 ⟨(some 31), .mv (.t 5), none, []⟩,
 ⟨(some 32), .idxStr (.t 30) (.t 31), none, []⟩,
 ⟨(some 33), .fail, none, []⟩])
 (.cond (.t 33)
 (.exit 0)
 .skip)))
 (.reg false [⟨(some 28), .mv (.t 5), none, []⟩,
 ⟨(some 29), .bin .sub (.t 28) (.c (.int .i64 1)), none, []⟩,
 ⟨(some 5), .mv (.t 29), none, []⟩]))))))
 (.seq (.seq (.reg false [⟨(some 34), .mv (.t 5), none, []⟩,
 ⟨(some 35), .bin .lss (.t 34) (.c (.int .i64 0)), none, []⟩])
 (.cond (.t 35)
 (.reg false [⟨(some 5), .mv (.c (.int .i64 0)), none, []⟩])
 .skip))
 (.seq (.reg false [⟨(some 37), .mv (.t 0), none, []⟩,
 ⟨(some 38), .mv (.t 5), none, []⟩,
 ⟨(some 39), .mv (.t 4), none, []⟩,
 ⟨(some 40), .slStr (.t 37) (some (.t 38)) (some (.t 39)), none, []⟩,
 ⟨(some 41), .call (.fn 212) [(.t 40)], none, []⟩,
 ⟨(some 36), .mv (.t 41), none, []⟩,
 ⟨(some 42), .extract 0 (.t 36), none, []⟩,
 ⟨(some 43), .extract 1 (.t 36), none, []⟩,
 ⟨(some 2), .mv (.t 42), none, []⟩,
 ⟨(some 3), .mv (.t 43), none, []⟩])
 (.seq (.seq (.reg false [⟨(some 44), .mv (.t 5), none, []⟩,
 ⟨(some 45), .mv (.t 3), none, []⟩,
 ⟨(some 46), .bin .add (.t 44) (.t 45), none, []⟩,
 ⟨(some 47), .mv (.t 4), none, []⟩,
 ⟨(some 48), .bin .neq (.t 46) (.t 47), none, []⟩])
 (.cond (.t 48)
 (.seq (.reg false [⟨(some 2), .mv (.c (.int .i32 65533)), none, []⟩,
  ⟨(some 3), .mv (.c (.int .i64 1)), none, []⟩])
  .ret)
 .skip))
 (.seq (.reg false [⟨(some 49), .mv (.t 2), none, []⟩,
 ⟨(some 50), .mv (.t 3), none, []⟩,
 ⟨(some 2), .mv (.t 49), none, []⟩,
 ⟨(some 3), .mv (.t 50), none, []⟩])
 .ret))))))))))))
/-- unicode/utf8.DecodeRuneInString -/
def F212 : LFunc := .code 1 19 [.t 2, .t 3]
 (.seq (.reg false [⟨(some 2), .mv (.c (.int .i32 0)), none, []⟩,
 ⟨(some 3), .mv (.c (.int .i64 0)), none, []⟩])
 (.seq (.seq (.reg false [⟨(some 4), .mv (.t 0), none, []⟩,
 ⟨(some 5), .bin .neq (.t 4) (.c (.str [])), none, []⟩,
 ⟨(some 6), .mv (.t 5), none, []⟩,
 ⟨(some 7), .mv (.t 0), (some (6, true)), []⟩,
 ⟨(some 8), .idxStr (.t 7) (.c (.int .i64 0)), (some (6, true)), []⟩,
 ⟨(some 9), .bin .lss (.t 8) (.c (.int .u8 128)), (some (6, true)), []⟩,
 ⟨(some 10), .pick (.t 6) (.t 9) (.c (.bool false)), none, []⟩])
 (.cond (.t 10)
 (.seq (.reg false [⟨(some 11), .mv (.t 0), none, []⟩,
  ⟨(some 12), .idxStr (.t 11) (.c (.int .i64 0)), none, []⟩,
  ⟨(some 13), .conv (.int .i32) (.t 12), none, []⟩,
  ⟨(some 2), .mv (.t 13), none, []⟩,
  ⟨(some 3), .mv (.c (.int .i64 1)), none, []⟩])
  .ret)
 (.reg false [⟨(some 15), .mv (.t 0), none, []⟩,
  ⟨(some 16), .fail, none, []⟩,
  ⟨(some 14), .mv (.t 16), none, []⟩,
  ⟨(some 17), .extract 0 (.t 14), none, []⟩,
  ⟨(some 18), .extract 1 (.t 14), none, []⟩,
  ⟨(some 2), .mv (.t 17), none, []⟩,
  ⟨(some 3), .mv (.t 18), none, []⟩])))
 .ret))
/-- unicode/utf8.ValidString -/
def F213 : LFunc := .code 1 169 [.t 2]
 (.seq (.reg false [⟨(some 2), .mv (.c (.bool false)), none, []⟩])
 (.seq (.block 0 (.loop (.seq (.seq (.reg false [⟨(some 7), .mv (.t 0), none, []⟩,
 ⟨(some 8), .call (.builtin .lenStr) [(.t 7)], none, []⟩,
 ⟨(some 9), .bin .gtr (.t 8) (.c (.int .i64 0)), none, []⟩])
 (.cond (.t 9)
 .skip
 (.exit 0)))
 (.block 1 (.seq (.reg false [⟨(some 10), .mv (.t 0), none, []⟩,
 ⟨(some 11), .idxStr (.t 10) (.c (.int .i64 0)), none, []⟩,
 ⟨(some 3), .mv (.t 11), none, []⟩])
 (.seq (.seq (.reg false [⟨(some 12), .mv (.t 3), none, []⟩,
 ⟨(some 13), .bin .lss (.t 12) (.c (.int .u8 128)), none, []⟩])
 (.cond (.t 13)
 (.seq (.reg false [⟨(some 14), .mv (.t 0), none, []⟩,
  ⟨(some 15), .slStr (.t 14) (some (.c (.int .i64 1))) none, none, []⟩,
  ⟨(some 0), .mv (.t 15), none, []⟩])
  (.seq (.seq (.reg false [⟨(some 16), .mv (.t 0), none, []⟩,
  ⟨(some 17), .call (.builtin .lenStr) [(.t 16)], none, []⟩,
  ⟨(some 18), .bin .gtr (.t 17) (.c (.int .i64 8)), none, []⟩,
  ⟨(some 19), .mv (.t 18), none, []⟩,
  ⟨(some 20), .mv (.t 0), (some (19, true)), []⟩,
  ⟨(some 21), .call (.fn 214) [(.t 20)], (some (19, true)), []⟩,
  ⟨(some 22), .bin .and (.t 21) (.c (.int .u64 9259542123273814144)), (some (19, true)), []⟩,
  ⟨(some 23), .bin .eql (.t 22) (.c (.int .u64 0)), (some (19, true)), []⟩,
  ⟨(some 24), .pick (.t 19) (.t 23) (.c (.bool false)), none, []⟩])
  (.cond (.t 24)
  (.seq (.reg false [⟨(some 25), .mv (.t 0), none, []⟩,
   ⟨(some 26), .slStr (.t 25) (some (.c (.int .i64 8))) none, none, []⟩,
   ⟨(some 0), .mv (.t 26), none, []⟩])
   (.seq (.reg true [⟨(some 27), .mv (.t 0), none, []⟩,
   ⟨(some 28), .call (.builtin .lenStr) [(.t 27)], none, [0]⟩,
   ⟨(some 29), .bin .gtr (.t 28) (.c (.int .i64 16)), none, [1]⟩,
   ⟨(some 30), .mv (.t 29), none, [2]⟩,
   ⟨(some 31), .mv (.t 0), (some (30, true)), [3]⟩,
   ⟨(some 32), .call (.fn 214) [(.t 31)], (some (30, true)), [4, 3, 3]⟩,
   ⟨(some 33), .mv (.t 0), (some (30, true)), [3]⟩,
   ⟨(some 34), .slStr (.t 33) (some (.c (.int .i64 8))) none, (some (30, true)), [6, 3]⟩,
   ⟨(some 35), .call (.fn 214) [(.t 34)], (some (30, true)), [7, 5, 3]⟩,
   ⟨(some 36), .bin .or (.t 32) (.t 35), (some (30, true)), [5, 8, 3]⟩,
   ⟨(some 37), .bin .and (.t 36) (.c (.int .u64 9259542123273814144)), (some (30, true)), [9, 3]⟩,
   ⟨(some 38), .bin .eql (.t 37) (.c (.int .u64 0)), (some (30, true)), [10, 3]⟩,
   ⟨(some 39), .pick (.t 30) (.t 38) (.c (.bool false)), none, [3, 11]⟩])
   (.cond (.t 39)
   (.seq (.reg false [⟨(some 40), .mv (.t 0), none, []⟩,
    ⟨(some 41), .slStr (.t 40) (some (.c (.int .i64 16))) none, none, []⟩,
    ⟨(some 0), .mv (.t 41), none, []⟩])
    (.block 2 (.loop (.seq (.seq (.reg true [⟨(some 42), .mv (.t 0), none, []⟩,
    ⟨(some 43), .call (.builtin .lenStr) [(.t 42)], none, [0]⟩,
    ⟨(some 44), .bin .gtr (.t 43) (.c (.int .i64 32)), none, [1]⟩,
    ⟨(some 45), .mv (.t 44), none, [2]⟩,
    ⟨(some 46), .mv (.t 0), (some (45, true)), [3]⟩,
    ⟨(some 47), .call (.fn 214) [(.t 46)], (some (45, true)), [4, 3, 3]⟩,
    ⟨(some 48), .mv (.t 0), (some (45, true)), [3]⟩,
    ⟨(some 49), .slStr (.t 48) (some (.c (.int .i64 8))) none, (some (45, true)), [6, 3]⟩,
    ⟨(some 50), .call (.fn 214) [(.t 49)], (some (45, true)), [7, 5, 3]⟩,
    ⟨(some 51), .bin .or (.t 47) (.t 50), (some (45, true)), [5, 8, 3]⟩,
    ⟨(some 52), .mv (.t 0), (some (45, true)), [3]⟩,
    ⟨(some 53), .slStr (.t 52) (some (.c (.int .i64 16))) none, (some (45, true)), [10, 3]⟩,
    ⟨(some 54), .call (.fn 214) [(.t 53)], (some (45, true)), [11, 8, 3]⟩,
    ⟨(some 55), .mv (.t 0), (some (45, true)), [3]⟩,
    ⟨(some 56), .slStr (.t 55) (some (.c (.int .i64 24))) none, (some (45, true)), [13, 3]⟩,
    ⟨(some 57), .call (.fn 214) [(.t 56)], (some (45, true)), [14, 12, 3]⟩,
    ⟨(some 58), .bin .or (.t 54) (.t 57), (some (45, true)), [12, 15, 3]⟩,
    ⟨(some 59), .bin .or (.t 51) (.t 58), (some (45, true)), [9, 16, 3]⟩,
    ⟨(some 60), .bin .and (.t 59) (.c (.int .u64 9259542123273814144)), (some (45, true)), [17, 3]⟩,
    ⟨(some 61), .bin .eql (.t 60) (.c (.int .u64 0)), (some (45, true)), [18, 3]⟩,
    ⟨(some 62), .pick (.t 45) (.t 61) (.c (.bool false)), none, [3, 19]⟩])
    (.cond (.t 62)
    .skip
    (.exit 2)))
    (.block 3 (.reg false [⟨(some 63), .mv (.t 0), none, []⟩,
    ⟨(some 64), .slStr (.t 63) (some (.c (.int .i64 32))) none, none, []⟩,
    ⟨(some 0), .mv (.t 64), none, []⟩]))))))
   .skip)))
  .skip))
  (.exit 1)))
 .skip))
 (.seq (.reg false [⟨(some 65), .mv (.t 3), none, []⟩,
 ⟨(some 66), .fail, none, []⟩,
 ⟨(some 67), .load 1 false (.t 66), none, []⟩,
 ⟨(some 4), .mv (.t 67), none, []⟩])
 (.seq (.reg false [⟨(some 68), .mv (.t 4), none, []⟩,
 ⟨(some 69), .bin .and (.t 68) (.c (.int .u8 7)), none, []⟩,
 ⟨(some 70), .conv (.int .i64) (.t 69), none, []⟩,
 ⟨(some 5), .mv (.t 70), none, []⟩])
 (.seq (.reg false [⟨(some 71), .mv (.t 4), none, []⟩,
 ⟨(some 72), .bin .shr (.t 71) (.c (.int .u64 4)), none, []⟩,
 ⟨(some 73), .fail, none, []⟩,
 ⟨(some 74), .load 2 true (.t 73), none, []⟩,
 ⟨(some 6), .alloc [.int .u8 0, .int .u8 0] 0, none, []⟩,
 ⟨none, .store 2 (.t 6) (.t 74), none, []⟩])
 (.seq (.reg false [⟨(some 75), .mv (.t 5), none, []⟩])
 (.block 4 (.seq (.reg false [⟨(some 77), .bin .eql (.t 75) (.c (.int .i64 2)), none, []⟩,
 ⟨(some 76), .mv (.t 77), none, []⟩])
 (.cond (.t 76)
 (.seq (.seq (.reg true [⟨(some 78), .mv (.t 0), none, []⟩,
  ⟨(some 79), .call (.builtin .lenStr) [(.t 78)], none, [0]⟩,
  ⟨(some 80), .bin .lss (.t 79) (.c (.int .i64 2)), none, [1]⟩,
  ⟨(some 81), .mv (.t 80), none, [2]⟩,
  ⟨(some 82), .mv (.t 0), (some (81, false)), [3]⟩,
  ⟨(some 83), .idxStr (.t 82) (.c (.int .i64 1)), (some (81, false)), [4, 3]⟩,
  ⟨(some 84), .fieldAddr 0 (.t 6), (some (81, false)), [3]⟩,
  ⟨(some 85), .load 1 false (.t 84), (some (81, false)), [6, 3]⟩,
  ⟨(some 86), .bin .lss (.t 83) (.t 85), (some (81, false)), [5, 7, 3]⟩,
  ⟨(some 87), .pick (.t 81) (.c (.bool true)) (.t 86), none, [3, 8]⟩,
  ⟨(some 88), .mv (.t 87), none, [9, 3]⟩,
  ⟨(some 89), .fieldAddr 1 (.t 6), (some (88, false)), [10]⟩,
  ⟨(some 90), .load 1 false (.t 89), (some (88, false)), [11, 10]⟩,
  ⟨(some 91), .mv (.t 0), (some (88, false)), [10]⟩,
  ⟨(some 92), .idxStr (.t 91) (.c (.int .i64 1)), (some (88, false)), [13, 10]⟩,
  ⟨(some 93), .bin .lss (.t 90) (.t 92), (some (88, false)), [12, 14, 10]⟩,
  ⟨(some 94), .pick (.t 88) (.c (.bool true)) (.t 93), none, [10, 15]⟩])
  (.cond (.t 94)
  (.seq (.reg false [⟨(some 2), .mv (.c (.bool false)), none, []⟩])
   .ret)
  .skip))
  (.reg false [⟨(some 95), .mv (.t 0), none, []⟩,
  ⟨(some 96), .slStr (.t 95) (some (.c (.int .i64 2))) none, none, []⟩,
  ⟨(some 0), .mv (.t 96), none, []⟩]))
 (.seq (.reg false [⟨(some 98), .bin .eql (.t 75) (.c (.int .i64 3)), none, []⟩,
  ⟨(some 97), .mv (.t 98), none, []⟩])
  (.cond (.t 97)
  (.seq (.seq (.reg true [⟨(some 99), .mv (.t 0), none, []⟩,
   ⟨(some 100), .call (.builtin .lenStr) [(.t 99)], none, [0]⟩,
   ⟨(some 101), .bin .lss (.t 100) (.c (.int .i64 3)), none, [1]⟩,
   ⟨(some 102), .mv (.t 101), none, [2]⟩,
   ⟨(some 103), .mv (.t 0), (some (102, false)), [3]⟩,
   ⟨(some 104), .idxStr (.t 103) (.c (.int .i64 1)), (some (102, false)), [4, 3]⟩,
   ⟨(some 105), .fieldAddr 0 (.t 6), (some (102, false)), [3]⟩,
   ⟨(some 106), .load 1 false (.t 105), (some (102, false)), [6, 3]⟩,
   ⟨(some 107), .bin .lss (.t 104) (.t 106), (some (102, false)), [5, 7, 3]⟩,
   ⟨(some 108), .pick (.t 102) (.c (.bool true)) (.t 107), none, [3, 8]⟩,
   ⟨(some 109), .mv (.t 108), none, [9, 3]⟩,
   ⟨(some 110), .fieldAddr 1 (.t 6), (some (109, false)), [10]⟩,
   ⟨(some 111), .load 1 false (.t 110), (some (109, false)), [11, 10]⟩,
   ⟨(some 112), .mv (.t 0), (some (109, false)), [10]⟩,
   ⟨(some 113), .idxStr (.t 112) (.c (.int .i64 1)), (some (109, false)), [13, 10]⟩,
   ⟨(some 114), .bin .lss (.t 111) (.t 113), (some (109, false)), [12, 14, 10]⟩,
   ⟨(some 115), .pick (.t 109) (.c (.bool true)) (.t 114), none, [10, 15]⟩,
   ⟨(some 116), .mv (.t 115), none, [16, 10]⟩,
   ⟨(some 117), .mv (.t 0), (some (116, false)), [17]⟩,
   ⟨(some 118), .idxStr (.t 117) (.c (.int .i64 2)), (some (116, false)), [18, 17]⟩,
   ⟨(some 119), .bin .lss (.t 118) (.c (.int .u8 128)), (some (116, false)), [19, 17]⟩,
   ⟨(some 120), .pick (.t 116) (.c (.bool true)) (.t 119), none, [17, 20]⟩,
   ⟨(some 121), .mv (.t 120), none, [21, 17]⟩,
   ⟨(some 122), .mv (.t 0), (some (121, false)), [22]⟩,
   ⟨(some 123), .idxStr (.t 122) (.c (.int .i64 2)), (some (121, false)), [23, 22]⟩,
   ⟨(some 124), .bin .lss (.c (.int .u8 191)) (.t 123), (some (121, false)), [24, 22]⟩,
   ⟨(some 125), .pick (.t 121) (.c (.bool true)) (.t 124), none, [22, 25]⟩])
   (.cond (.t 125)
   (.seq (.reg false [⟨(some 2), .mv (.c (.bool false)), none, []⟩])
    .ret)
   .skip))
   (.reg false [⟨(some 126), .mv (.t 0), none, []⟩,
   ⟨(some 127), .slStr (.t 126) (some (.c (.int .i64 3))) none, none, []⟩,
   ⟨(some 0), .mv (.t 127), none, []⟩]))
  (.seq (.reg false [⟨(some 129), .bin .eql (.t 75) (.c (.int .i64 4)), none, []⟩,
   ⟨(some 128), .mv (.t 129), none, []⟩])
   (.cond (.t 128)
   (.seq (.seq (.reg true [⟨(some 130), .mv (.t 0), none, []⟩,
    ⟨(some 131), .call (.builtin .lenStr) [(.t 130)], none, [0]⟩,
    ⟨(some 132), .bin .lss (.t 131) (.c (.int .i64 4)), none, [1]⟩,
    ⟨(some 133), .mv (.t 132), none, [2]⟩,
    ⟨(some 134), .mv (.t 0), (some (133, false)), [3]⟩,
    ⟨(some 135), .idxStr (.t 134) (.c (.int .i64 1)), (some (133, false)), [4, 3]⟩,
    ⟨(some 136), .fieldAddr 0 (.t 6), (some (133, false)), [3]⟩,
    ⟨(some 137), .load 1 false (.t 136), (some (133, false)), [6, 3]⟩,
    ⟨(some 138), .bin .lss (.t 135) (.t 137), (some (133, false)), [5, 7, 3]⟩,
    ⟨(some 139), .pick (.t 133) (.c (.bool true)) (.t 138), none, [3, 8]⟩,
    ⟨(some 140), .mv (.t 139), none, [9, 3]⟩,
    ⟨(some 141), .fieldAddr 1 (.t 6), (some (140, false)), [10]⟩,
    ⟨(some 142), .load 1 false (.t 141), (some (140, false)), [11, 10]⟩,
    ⟨(some 143), .mv (.t 0), (some (140, false)), [10]⟩,
    ⟨(some 144), .idxStr (.t 143) (.c (.int .i64 1)), (some (140, false)), [13, 10]⟩,
    ⟨(some 145), .bin .lss (.t 142) (.t 144), (some (140, false)), [12, 14, 10]⟩,
    ⟨(some 146), .pick (.t 140) (.c (.bool true)) (.t 145), none, [10, 15]⟩,
    ⟨(some 147), .mv (.t 146), none, [16, 10]⟩,
    ⟨(some 148), .mv (.t 0), (some (147, false)), [17]⟩,
    ⟨(some 149), .idxStr (.t 148) (.c (.int .i64 2)), (some (147, false)), [18, 17]⟩,
    ⟨(some 150), .bin .lss (.t 149) (.c (.int .u8 128)), (some (147, false)), [19, 17]⟩,
    ⟨(some 151), .pick (.t 147) (.c (.bool true)) (.t 150), none, [17, 20]⟩,
    ⟨(some 152), .mv (.t 151), none, [21, 17]⟩,
    ⟨(some 153), .mv (.t 0), (some (152, false)), [22]⟩,
    ⟨(some 154), .idxStr (.t 153) (.c (.int .i64 2)), (some (152, false)), [23, 22]⟩,
    ⟨(some 155), .bin .lss (.c (.int .u8 191)) (.t 154), (some (152, false)), [24, 22]⟩,
    ⟨(some 156), .pick (.t 152) (.c (.bool true)) (.t 155), none, [22, 25]⟩,
    ⟨(some 157), .mv (.t 156), none, [26, 22]⟩,
    ⟨(some 158), .mv (.t 0), (some (157, false)), [27]⟩,
    ⟨(some 159), .idxStr (.t 158) (.c (.int .i64 3)), (some (157, false)), [28, 27]⟩,
    ⟨(some 160), .bin .lss (.t 159) (.c (.int .u8 128)), (some (157, false)), [29, 27]⟩,
    ⟨(some 161), .pick (.t 157) (.c (.bool true)) (.t 160), none, [27, 30]⟩,
    ⟨(some 162), .mv (.t 161), none, [31, 27]⟩,
    ⟨(some 163), .mv (.t 0), (some (162, false)), [32]⟩,
    ⟨(some 164), .idxStr (.t 163) (.c (.int .i64 3)), (some (162, false)), [33, 32]⟩,
    ⟨(some 165), .bin .lss (.c (.int .u8 191)) (.t 164), (some (162, false)), [34, 32]⟩,
    ⟨(some 166), .pick (.t 162) (.c (.bool true)) (.t 165), none, [32, 35]⟩])
    (.cond (.t 166)
    (.seq (.reg false [⟨(some 2), .mv (.c (.bool false)), none, []⟩])
     .ret)
    .skip))
    (.reg false [⟨(some 167), .mv (.t 0), none, []⟩,
    ⟨(some 168), .slStr (.t 167) (some (.c (.int .i64 4))) none, none, []⟩,
    ⟨(some 0), .mv (.t 168), none, []⟩]))
   (.seq (.reg false [⟨(some 2), .mv (.c (.bool false)), none, []⟩])
    .ret))))))))))))))))))
 (.seq (.reg false [⟨(some 2), .mv (.c (.bool true)), none, []⟩])
 .ret)))
/-- unicode/utf8.word[string] -/
def F214 : LFunc := .code 1 59 [.t 2]
 (.seq (.reg false [⟨(some 2), .mv (.c (.int .u64 0)), none, []⟩])
 (.seq (.cond (.c (.bool false))
 (.seq (.reg true [⟨(some 3), .mv (.t 0), none, []⟩,
  ⟨(some 4), .idxStr (.t 3) (.c (.int .i64 0)), none, [0]⟩,
  ⟨(some 5), .conv (.int .u64) (.t 4), none, [1]⟩,
  ⟨(some 6), .mv (.t 0), none, []⟩,
  ⟨(some 7), .idxStr (.t 6) (.c (.int .i64 1)), none, [3]⟩,
  ⟨(some 8), .conv (.int .u64) (.t 7), none, [4]⟩,
  ⟨(some 9), .bin .shl (.t 8) (.c (.int .u64 8)), none, [5]⟩,
  ⟨(some 10), .bin .or (.t 5) (.t 9), none, [2, 6]⟩,
  ⟨(some 11), .mv (.t 0), none, []⟩,
  ⟨(some 12), .idxStr (.t 11) (.c (.int .i64 2)), none, [8]⟩,
  ⟨(some 13), .conv (.int .u64) (.t 12), none, [9]⟩,
  ⟨(some 14), .bin .shl (.t 13) (.c (.int .u64 16)), none, [10]⟩,
  ⟨(some 15), .bin .or (.t 10) (.t 14), none, [7, 11]⟩,
  ⟨(some 16), .mv (.t 0), none, []⟩,
  ⟨(some 17), .idxStr (.t 16) (.c (.int .i64 3)), none, [13]⟩,
  ⟨(some 18), .conv (.int .u64) (.t 17), none, [14]⟩,
  ⟨(some 19), .bin .shl (.t 18) (.c (.int .u64 24)), none, [15]⟩,
  ⟨(some 20), .bin .or (.t 15) (.t 19), none, [12, 16]⟩,
  ⟨(some 2), .mv (.t 20), none, [17, 0, 1, 2, 3, 4, 5, 6, 7, 8, 9, 10, 11, 12, 13, 14, 15, 16, 17]⟩])
  .ret)
 .skip)
 (.seq (.reg true [⟨(some 21), .mv (.t 0), none, []⟩,
 ⟨(some 22), .idxStr (.t 21) (.c (.int .i64 0)), none, [0]⟩,
 ⟨(some 23), .conv (.int .u64) (.t 22), none, [1]⟩,
 ⟨(some 24), .mv (.t 0), none, []⟩,
 ⟨(some 25), .idxStr (.t 24) (.c (.int .i64 1)), none, [3]⟩,
 ⟨(some 26), .conv (.int .u64) (.t 25), none, [4]⟩,
 ⟨(some 27), .bin .shl (.t 26) (.c (.int .u64 8)), none, [5]⟩,
 ⟨(some 28), .bin .or (.t 23) (.t 27), none, [2, 6]⟩,
 ⟨(some 29), .mv (.t 0), none, []⟩,
 ⟨(some 30), .idxStr (.t 29) (.c (.int .i64 2)), none, [8]⟩,
 ⟨(some 31), .conv (.int .u64) (.t 30), none, [9]⟩,
 ⟨(some 32), .bin .shl (.t 31) (.c (.int .u64 16)), none, [10]⟩,
 ⟨(some 33), .bin .or (.t 28) (.t 32), none, [7, 11]⟩,
 ⟨(some 34), .mv (.t 0), none, []⟩,
 ⟨(some 35), .idxStr (.t 34) (.c (.int .i64 3)), none, [13]⟩,
 ⟨(some 36), .conv (.int .u64) (.t 35), none, [14]⟩,
 ⟨(some 37), .bin .shl (.t 36) (.c (.int .u64 24)), none, [15]⟩,
 ⟨(some 38), .bin .or (.t 33) (.t 37), none, [12, 16]⟩,
 ⟨(some 39), .mv (.t 0), none, []⟩,
 ⟨(some 40), .idxStr (.t 39) (.c (.int .i64 4)), none, [18]⟩,
 ⟨(some 41), .conv (.int .u64) (.t 40), none, [19]⟩,
 ⟨(some 42), .bin .shl (.t 41) (.c (.int .u64 32)), none, [20]⟩,
 ⟨(some 43), .bin .or (.t 38) (.t 42), none, [17, 21]⟩,
 ⟨(some 44), .mv (.t 0), none, []⟩,
 ⟨(some 45), .idxStr (.t 44) (.c (.int .i64 5)), none, [23]⟩,
 ⟨(some 46), .conv (.int .u64) (.t 45), none, [24]⟩,
 ⟨(some 47), .bin .shl (.t 46) (.c (.int .u64 40)), none, [25]⟩,
 ⟨(some 48), .bin .or (.t 43) (.t 47), none, [22, 26]⟩,
 ⟨(some 49), .mv (.t 0), none, []⟩,
 ⟨(some 50), .idxStr (.t 49) (.c (.int .i64 6)), none, [28]⟩,
 ⟨(some 51), .conv (.int .u64) (.t 50), none, [29]⟩,
 ⟨(some 52), .bin .shl (.t 51) (.c (.int .u64 48)), none, [30]⟩,
 ⟨(some 53), .bin .or (.t 48) (.t 52), none, [27, 31]⟩,
 ⟨(some 54), .mv (.t 0), none, []⟩,
 ⟨(some 55), .idxStr (.t 54) (.c (.int .i64 7)), none, [33]⟩,
 ⟨(some 56), .conv (.int .u64) (.t 55), none, [34]⟩,
 ⟨(some 57), .bin .shl (.t 56) (.c (.int .u64 56)), none, [35]⟩,
 ⟨(some 58), .bin .or (.t 53) (.t 57), none, [32, 36]⟩,
 ⟨(some 2), .mv (.t 58), none, [37, 0, 1, 2, 3, 4, 5, 6, 7, 8, 9, 10, 11, 12, 13, 14, 15, 16, 17, 18, 19, 20, 21, 22, 23, 24, 25, 26, 27, 28, 29, 30, 31, 32, 33, 34, 35, 36, 37]⟩])
 .ret)))
/-- bastion/addr.letter -/
def F215 : LFunc := .code 1 11 [.t 2]
 (.seq (.reg false [⟨(some 2), .mv (.c (.bool false)), none, []⟩])
 (.seq (.reg false [⟨(some 3), .mv (.t 0), none, []⟩,
 ⟨(some 4), .bin .or (.t 3) (.c (.int .u8 32)), none, []⟩,
 ⟨(some 5), .bin .geq (.t 4) (.c (.int .u8 97)), none, []⟩,
 ⟨(some 6), .mv (.t 5), none, []⟩,
 ⟨(some 7), .mv (.t 0), (some (6, true)), []⟩,
 ⟨(some 8), .bin .or (.t 7) (.c (.int .u8 32)), (some (6, true)), []⟩,
 ⟨(some 9), .bin .leq (.t 8) (.c (.int .u8 102)), (some (6, true)), []⟩,
 ⟨(some 10), .pick (.t 6) (.t 9) (.c (.bool false)), none, []⟩,
 ⟨(some 2), .mv (.t 10), none, []⟩])
 .ret))
/-- bastion/addr.octal -/
def F216 : LFunc := .code 1 9 [.t 2]
 (.seq (.reg false [⟨(some 2), .mv (.c (.bool false)), none, []⟩])
 (.seq (.reg false [⟨(some 3), .mv (.t 0), none, []⟩,
 ⟨(some 4), .bin .geq (.t 3) (.c (.int .u8 48)), none, []⟩,
 ⟨(some 5), .mv (.t 4), none, []⟩,
 ⟨(some 6), .mv (.t 0), (some (5, true)), []⟩,
 ⟨(some 7), .bin .leq (.t 6) (.c (.int .u8 55)), (some (5, true)), []⟩,
 ⟨(some 8), .pick (.t 5) (.t 7) (.c (.bool false)), none, []⟩,
 ⟨(some 2), .mv (.t 8), none, []⟩])
 .ret))
/-- (bastion/idna.look).mixed -/
def F217 : LFunc := .code 1 81 [.t 2]
 (.seq (.reg false [⟨(some 1), .box 0 (.t 0), none, []⟩,
 ⟨(some 2), .mv (.c (.bool false)), none, []⟩])
 (.seq (.reg false [⟨(some 5), .load 11 true (.t 1), none, []⟩,
 ⟨(some 6), .call (.fn 38) [(.t 5)], none, []⟩,
 ⟨(some 3), .mv (.t 6), none, []⟩])
 (.seq (.seq (.reg false [⟨(some 7), .mv (.t 3), none, []⟩,
 ⟨(some 8), .call (.builtin .lenSl) [(.t 7)], none, []⟩,
 ⟨(some 9), .bin .eql (.t 8) (.c (.int .i64 0)), none, []⟩])
 (.cond (.t 9)
 (.seq (.reg false [⟨(some 2), .mv (.c (.bool false)), none, []⟩])
  .ret)
 .skip))
 (.seq (.reg false [⟨(some 10), .mv (.t 3), none, []⟩,
 ⟨(some 11), .fail, none, []⟩,
 ⟨(some 4), .mv (.t 11), none, []⟩])
 (.seq (.block 0 (.loop (.seq (.seq (.reg false [⟨(some 12), .mv (.t 4), none, []⟩,
 ⟨(some 13), .call (.builtin .lenSl) [(.t 12)], none, []⟩,
 ⟨(some 14), .bin .gtr (.t 13) (.c (.int .i64 0)), none, []⟩,
 ⟨(some 15), .mv (.t 14), none, []⟩,
 ⟨(some 16), .mv (.t 4), (some (15, true)), []⟩,
 ⟨(some 17), .mv (.t 4), (some (15, true)), []⟩,
 ⟨(some 18), .call (.builtin .lenSl) [(.t 17)], (some (15, true)), []⟩,
 ⟨(some 19), .bin .sub (.t 18) (.c (.int .i64 1)), (some (15, true)), []⟩,
 ⟨(some 20), .idxAddr 1 (.t 16) (.t 19), (some (15, true)), []⟩,
 ⟨(some 21), .load 1 false (.t 20), (some (15, true)), []⟩,
 ⟨(some 22), .bin .eql (.t 21) (.c (.int .u8 11)), (some (15, true)), []⟩,
 ⟨(some 23), .pick (.t 15) (.t 22) (.c (.bool false)), none, []⟩])
 (.cond (.t 23)
 .skip
 (.exit 0)))
 (.block 1 (.reg false [⟨(some 24), .mv (.t 4), none, []⟩,
 ⟨(some 25), .mv (.t 4), none, []⟩,
 ⟨(some 26), .call (.builtin .lenSl) [(.t 25)], none, []⟩,
 ⟨(some 27), .bin .sub (.t 26) (.c (.int .i64 1)), none, []⟩,
 ⟨(some 28), .slSl 1 (.t 24) none (some (.t 27)) none, none, []⟩,
 ⟨(some 4), .mv (.t 28), none, []⟩])))))
 (.seq (.block 2 (.seq (.reg false [⟨(some 30), .mv (.t 3), none, []⟩,
 ⟨(some 31), .idxAddr 1 (.t 30) (.c (.int .i64 0)), none, []⟩,
 ⟨(some 32), .load 1 false (.t 31), none, []⟩,
 ⟨(some 33), .bin .eql (.t 32) (.c (.int .u8 1)), none, []⟩,
 ⟨(some 29), .mv (.t 33), none, []⟩])
 (.cond (.t 29)
 (.seq (.reg false [⟨(some 34), .mv (.t 3), none, []⟩,
  ⟨(some 35), .lit [.int .u8 0] 4 1 [(0, 1, (.c (.int .u8 0))), (1, 1, (.c (.int .u8 2))), (2, 1, (.c (.int .u8 3))), (3, 1, (.c (.int .u8 4)))], none, []⟩,
  ⟨(some 36), .call (.fn 58) [(.t 34), (.t 35)], none, []⟩,
  ⟨(some 37), .mv (.t 36), none, []⟩,
  ⟨(some 38), .mv (.t 4), (some (37, false)), []⟩,
  ⟨(some 39), .mv (.t 4), (some (37, false)), []⟩,
  ⟨(some 40), .call (.builtin .lenSl) [(.t 39)], (some (37, false)), []⟩,
  ⟨(some 41), .bin .sub (.t 40) (.c (.int .i64 1)), (some (37, false)), []⟩,
  ⟨(some 42), .slSl 1 (.t 38) (some (.t 41)) none none, (some (37, false)), []⟩,
  ⟨(some 43), .lit [.int .u8 0] 2 1 [(0, 1, (.c (.int .u8 1))), (1, 1, (.c (.int .u8 5)))], (some (37, false)), []⟩,
  ⟨(some 44), .call (.fn 58) [(.t 42), (.t 43)], (some (37, false)), []⟩,
  ⟨(some 45), .un .not (.t 44), (some (37, false)), []⟩,
  ⟨(some 46), .pick (.t 37) (.c (.bool true)) (.t 45), none, []⟩,
  ⟨(some 2), .mv (.t 46), none, []⟩])
  .ret)
 (.seq (.reg false [⟨(some 48), .mv (.t 3), none, []⟩,
  ⟨(some 49), .idxAddr 1 (.t 48) (.c (.int .i64 0)), none, []⟩,
  ⟨(some 50), .load 1 false (.t 49), none, []⟩,
  ⟨(some 51), .bin .eql (.t 50) (.c (.int .u8 2)), none, []⟩,
  ⟨(some 52), .mv (.t 51), none, []⟩,
  ⟨(some 53), .mv (.t 3), (some (52, false)), []⟩,
  ⟨(some 54), .idxAddr 1 (.t 53) (.c (.int .i64 0)), (some (52, false)), []⟩,
  ⟨(some 55), .load 1 false (.t 54), (some (52, false)), []⟩,
  ⟨(some 56), .bin .eql (.t 55) (.c (.int .u8 3)), (some (52, false)), []⟩,
  ⟨(some 57), .pick (.t 52) (.c (.bool true)) (.t 56), none, []⟩,
  ⟨(some 47), .mv (.t 57), none, []⟩])
  (.cond (.t 47)
  (.seq (.reg false [⟨(some 58), .mv (.t 3), none, []⟩,
   ⟨(some 59), .lit [.int .u8 0] 2 1 [(0, 1, (.c (.int .u8 0))), (1, 1, (.c (.int .u8 1)))], none, []⟩,
   ⟨(some 60), .call (.fn 58) [(.t 58), (.t 59)], none, []⟩,
   ⟨(some 61), .mv (.t 60), none, []⟩,
   ⟨(some 62), .mv (.t 4), (some (61, false)), []⟩,
   ⟨(some 63), .mv (.t 4), (some (61, false)), []⟩,
   ⟨(some 64), .call (.builtin .lenSl) [(.t 63)], (some (61, false)), []⟩,
   ⟨(some 65), .bin .sub (.t 64) (.c (.int .i64 1)), (some (61, false)), []⟩,
   ⟨(some 66), .slSl 1 (.t 62) (some (.t 65)) none none, (some (61, false)), []⟩,
   ⟨(some 67), .lit [.int .u8 0] 4 1 [(0, 1, (.c (.int .u8 2))), (1, 1, (.c (.int .u8 3))), (2, 1, (.c (.int .u8 5))), (3, 1, (.c (.int .u8 4)))], (some (61, false)), []⟩,
   ⟨(some 68), .call (.fn 58) [(.t 66), (.t 67)], (some (61, false)), []⟩,
   ⟨(some 69), .un .not (.t 68), (some (61, false)), []⟩,
   ⟨(some 70), .pick (.t 61) (.c (.bool true)) (.t 69), none, []⟩,
   ⟨(some 71), .mv (.t 70), none, []⟩,
   ⟨(some 72), .mv (.t 3), (some (71, false)), []⟩,
   ⟨(some 73), .lit [.int .u8 0] 1 1 [(0, 1, (.c (.int .u8 5)))], (some (71, false)), []⟩,
   ⟨(some 74), .call (.fn 58) [(.t 72), (.t 73)], (some (71, false)), []⟩,
   ⟨(some 75), .mv (.t 74), (some (71, false)), []⟩,
   ⟨(some 76), .mv (.t 3), (some (75, true)), []⟩,
   ⟨(some 77), .lit [.int .u8 0] 1 1 [(0, 1, (.c (.int .u8 4)))], (some (75, true)), []⟩,
   ⟨(some 78), .call (.fn 58) [(.t 76), (.t 77)], (some (75, true)), []⟩,
   ⟨(some 79), .pick (.t 75) (.t 78) (.c (.bool false)), (some (71, false)), []⟩,
   ⟨(some 80), .pick (.t 71) (.c (.bool true)) (.t 79), none, []⟩,
   ⟨(some 2), .mv (.t 80), none, []⟩])
   .ret)
  .skip)))))
 (.seq (.reg false [⟨(some 2), .mv (.c (.bool true)), none, []⟩])
 .ret)))))))
/-- bastion/nfc.Ordered$1 -/
def F218 : LFunc := .code 3 13 [.t 5]
 (.seq (.reg false [⟨(some 5), .mv (.c (.int .i64 0)), none, []⟩])
 (.seq (.reg true [⟨(some 6), .load 5 true (.t 2), none, []⟩,
 ⟨(some 7), .mv (.t 0), none, []⟩,
 ⟨(some 8), .call (.fn 89) [(.t 6), (.t 7)], none, [0, 1]⟩,
 ⟨(some 9), .load 5 true (.t 2), none, []⟩,
 ⟨(some 10), .mv (.t 1), none, []⟩,
 ⟨(some 11), .call (.fn 89) [(.t 9), (.t 10)], none, [3, 4, 2]⟩,
 ⟨(some 12), .fail, none, [2, 5, 5]⟩,
 ⟨(some 5), .mv (.t 12), none, [6, 6, 0, 1, 2, 3, 4, 5, 6]⟩])
 .ret))
/-- bastion/tables.ofClass -/
def F219 : LFunc := .code 1 8 [.t 2, .t 3]
 (.seq (.reg false [⟨(some 1), .box 0 (.t 0), none, []⟩,
 ⟨(some 2), .mv (.c (.int .i32 0)), none, []⟩,
 ⟨(some 3), .mv (.c (.int .i32 0)), none, []⟩])
 (.seq (.reg true [⟨(some 4), .fieldAddr 0 (.t 1), none, []⟩,
 ⟨(some 5), .load 1 false (.t 4), none, [0]⟩,
 ⟨(some 6), .fieldAddr 0 (.t 1), none, []⟩,
 ⟨(some 7), .load 1 false (.t 6), none, [2]⟩,
 ⟨(some 2), .mv (.t 5), none, [1, 0, 1]⟩,
 ⟨(some 3), .mv (.t 7), none, [3, 4, 0, 1, 2, 3, 4]⟩])
 .ret))
/-- bastion/tables.Check$2 -/
def F220 : LFunc := .code 1 11 [.t 2]
 (.seq (.reg false [⟨(some 1), .box 0 (.t 0), none, []⟩,
 ⟨(some 2), .mv (.c (.bool false)), none, []⟩])
 (.seq (.reg false [⟨(some 3), .fieldAddr 1 (.t 1), none, []⟩,
 ⟨(some 4), .load 1 false (.t 3), none, []⟩,
 ⟨(some 5), .bin .geq (.t 4) (.c (.int .u8 1)), none, []⟩,
 ⟨(some 6), .mv (.t 5), none, []⟩,
 ⟨(some 7), .fieldAddr 1 (.t 1), (some (6, true)), []⟩,
 ⟨(some 8), .load 1 false (.t 7), (some (6, true)), []⟩,
 ⟨(some 9), .bin .leq (.t 8) (.c (.int .u8 254)), (some (6, true)), []⟩,
 ⟨(some 10), .pick (.t 6) (.t 9) (.c (.bool false)), none, []⟩,
 ⟨(some 2), .mv (.t 10), none, []⟩])
 .ret))
/-- bastion/tables.Check$3 -/
def F221 : LFunc := .code 2 48 [.t 3]
 (.seq (.reg false [⟨(some 2), .box 0 (.t 0), none, []⟩,
 ⟨(some 3), .mv (.c (.bool false)), none, []⟩])
 (.seq (.seq (.reg false [⟨(some 4), .fieldAddr 3 (.t 2), none, []⟩,
 ⟨(some 5), .load 1 false (.t 4), none, []⟩,
 ⟨(some 6), .un .not (.t 5), none, []⟩])
 (.cond (.t 6)
 (.reg true [⟨(some 7), .load 1 false (.t 1), none, []⟩,
  ⟨(some 8), .fieldAddr 1 (.t 2), none, []⟩,
  ⟨(some 9), .load 1 false (.t 8), none, [1]⟩,
  ⟨(some 10), .fieldAddr 2 (.t 2), none, []⟩,
  ⟨(some 11), .load 1 false (.t 10), none, [3]⟩,
  ⟨(some 12), .build [.int .i32 0, .int .i32 0] [(0, 1, (.t 9)), (1, 1, (.t 11))], none, [2, 4]⟩,
  ⟨(some 13), .fail, none, [0, 5]⟩,
  ⟨(some 14), .bin .add (.t 13) (.c (.int .i64 1)), none, [6]⟩,
  ⟨(some 15), .fail, none, [0, 5, 0, 1, 2, 3, 4, 5]⟩,
  ⟨(some 16), .extract 1 (.t 15), none, [8]⟩,
  ⟨none, .fail, none, [0, 9, 7, 8, 0, 1, 2, 3, 4, 5, 6, 7, 8, 9]⟩])
 .skip))
 (.seq (.reg false [⟨(some 17), .fieldAddr 1 (.t 2), none, []⟩,
 ⟨(some 18), .load 1 false (.t 17), none, []⟩,
 ⟨(some 19), .call (.fn 101) [(.t 18)], none, []⟩,
 ⟨(some 20), .mv (.t 19), none, []⟩,
 ⟨(some 21), .fieldAddr 2 (.t 2), (some (20, true)), []⟩,
 ⟨(some 22), .load 1 false (.t 21), (some (20, true)), []⟩,
 ⟨(some 23), .call (.fn 101) [(.t 22)], (some (20, true)), []⟩,
 ⟨(some 24), .pick (.t 20) (.t 23) (.c (.bool false)), none, []⟩,
 ⟨(some 25), .mv (.t 24), none, []⟩,
 ⟨(some 26), .fieldAddr 1 (.t 2), (some (25, true)), []⟩,
 ⟨(some 27), .load 1 false (.t 26), (some (25, true)), []⟩,
 ⟨(some 28), .fieldAddr 0 (.t 2), (some (25, true)), []⟩,
 ⟨(some 29), .load 1 false (.t 28), (some (25, true)), []⟩,
 ⟨(some 30), .bin .lss (.t 27) (.t 29), (some (25, true)), []⟩,
 ⟨(some 31), .pick (.t 25) (.t 30) (.c (.bool false)), none, []⟩,
 ⟨(some 32), .mv (.t 31), none, []⟩,
 ⟨(some 33), .fieldAddr 2 (.t 2), (some (32, true)), []⟩,
 ⟨(some 34), .load 1 false (.t 33), (some (32, true)), []⟩,
 ⟨(some 35), .fieldAddr 0 (.t 2), (some (32, true)), []⟩,
 ⟨(some 36), .load 1 false (.t 35), (some (32, true)), []⟩,
 ⟨(some 37), .bin .lss (.t 34) (.t 36), (some (32, true)), []⟩,
 ⟨(some 38), .pick (.t 32) (.t 37) (.c (.bool false)), none, []⟩,
 ⟨(some 39), .mv (.t 38), none, []⟩,
 ⟨(some 40), .fieldAddr 2 (.t 2), (some (39, true)), []⟩,
 ⟨(some 41), .load 1 false (.t 40), (some (39, true)), []⟩,
 ⟨(some 42), .bin .neq (.t 41) (.c (.int .i32 0)), (some (39, true)), []⟩,
 ⟨(some 43), .mv (.t 42), (some (39, true)), []⟩,
 ⟨(some 44), .fieldAddr 3 (.t 2), (some (43, false)), []⟩,
 ⟨(some 45), .load 1 false (.t 44), (some (43, false)), []⟩,
 ⟨(some 46), .pick (.t 43) (.c (.bool true)) (.t 45), (some (39, true)), []⟩,
 ⟨(some 47), .pick (.t 39) (.t 46) (.c (.bool false)), none, []⟩,
 ⟨(some 3), .mv (.t 47), none, []⟩])
 .ret)))
/-- bastion/tables.ofPair -/
def F222 : LFunc := .code 1 8 [.t 2, .t 3]
 (.seq (.reg false [⟨(some 1), .box 0 (.t 0), none, []⟩,
 ⟨(some 2), .mv (.c (.int .i32 0)), none, []⟩,
 ⟨(some 3), .mv (.c (.int .i32 0)), none, []⟩])
 (.seq (.reg true [⟨(some 4), .fieldAddr 0 (.t 1), none, []⟩,
 ⟨(some 5), .load 1 false (.t 4), none, [0]⟩,
 ⟨(some 6), .fieldAddr 0 (.t 1), none, []⟩,
 ⟨(some 7), .load 1 false (.t 6), none, [2]⟩,
 ⟨(some 2), .mv (.t 5), none, [1, 0, 1]⟩,
 ⟨(some 3), .mv (.t 7), none, [3, 4, 0, 1, 2, 3, 4]⟩])
 .ret))
/-- bastion/tables.ofJoins -/
def F223 : LFunc := .code 1 8 [.t 2, .t 3]
 (.seq (.reg false [⟨(some 1), .box 0 (.t 0), none, []⟩,
 ⟨(some 2), .mv (.c (.int .i32 0)), none, []⟩,
 ⟨(some 3), .mv (.c (.int .i32 0)), none, []⟩])
 (.seq (.reg true [⟨(some 4), .fieldAddr 0 (.t 1), none, []⟩,
 ⟨(some 5), .load 1 false (.t 4), none, [0]⟩,
 ⟨(some 6), .fieldAddr 1 (.t 1), none, []⟩,
 ⟨(some 7), .load 1 false (.t 6), none, [2]⟩,
 ⟨(some 2), .mv (.t 5), none, [1, 0, 1]⟩,
 ⟨(some 3), .mv (.t 7), none, [3, 4, 0, 1, 2, 3, 4]⟩])
 .ret))
/-- bastion/tables.Check$5 -/
def F224 : LFunc := .code 1 11 [.t 2]
 (.seq (.reg false [⟨(some 1), .box 0 (.t 0), none, []⟩,
 ⟨(some 2), .mv (.c (.bool false)), none, []⟩])
 (.seq (.reg false [⟨(some 3), .fieldAddr 2 (.t 1), none, []⟩,
 ⟨(some 4), .load 1 false (.t 3), none, []⟩,
 ⟨(some 5), .bin .neq (.t 4) (.c (.int .u8 0)), none, []⟩,
 ⟨(some 6), .mv (.t 5), none, []⟩,
 ⟨(some 7), .fieldAddr 2 (.t 1), (some (6, true)), []⟩,
 ⟨(some 8), .load 1 false (.t 7), (some (6, true)), []⟩,
 ⟨(some 9), .bin .lss (.t 8) (.c (.int .u8 5)), (some (6, true)), []⟩,
 ⟨(some 10), .pick (.t 6) (.t 9) (.c (.bool false)), none, []⟩,
 ⟨(some 2), .mv (.t 10), none, []⟩])
 .ret))
/-- bastion/tables.find[bastion/api.Class]$1 -/
def F225 : LFunc := .code 3 21 [.t 4]
 (.seq (.reg false [⟨(some 3), .box 0 (.t 0), none, []⟩,
 ⟨(some 4), .mv (.c (.bool false)), none, []⟩])
 (.seq (.reg false [⟨(some 8), .load 1 false (.t 1), none, []⟩,
 ⟨(some 9), .load 2 true (.t 3), none, []⟩,
 ⟨(some 10), .call (.val (.t 8)) [(.t 9)], none, []⟩,
 ⟨(some 7), .mv (.t 10), none, []⟩,
 ⟨(some 11), .extract 0 (.t 7), none, []⟩,
 ⟨(some 12), .extract 1 (.t 7), none, []⟩,
 ⟨(some 5), .mv (.t 11), none, []⟩,
 ⟨(some 6), .mv (.t 12), none, []⟩])
 (.seq (.reg false [⟨(some 13), .load 1 false (.t 2), none, []⟩,
 ⟨(some 14), .mv (.t 5), none, []⟩,
 ⟨(some 15), .bin .geq (.t 13) (.t 14), none, []⟩,
 ⟨(some 16), .mv (.t 15), none, []⟩,
 ⟨(some 17), .load 1 false (.t 2), (some (16, true)), []⟩,
 ⟨(some 18), .mv (.t 6), (some (16, true)), []⟩,
 ⟨(some 19), .bin .leq (.t 17) (.t 18), (some (16, true)), []⟩,
 ⟨(some 20), .pick (.t 16) (.t 19) (.c (.bool false)), none, []⟩,
 ⟨(some 4), .mv (.t 20), none, []⟩])
 .ret)))
/-- bastion/tables.find[bastion/api.Pair]$1 -/
def F226 : LFunc := .code 3 21 [.t 4]
 (.seq (.reg false [⟨(some 3), .box 0 (.t 0), none, []⟩,
 ⟨(some 4), .mv (.c (.bool false)), none, []⟩])
 (.seq (.reg false [⟨(some 8), .load 1 false (.t 1), none, []⟩,
 ⟨(some 9), .load 4 true (.t 3), none, []⟩,
 ⟨(some 10), .call (.val (.t 8)) [(.t 9)], none, []⟩,
 ⟨(some 7), .mv (.t 10), none, []⟩,
 ⟨(some 11), .extract 0 (.t 7), none, []⟩,
 ⟨(some 12), .extract 1 (.t 7), none, []⟩,
 ⟨(some 5), .mv (.t 11), none, []⟩,
 ⟨(some 6), .mv (.t 12), none, []⟩])
 (.seq (.reg false [⟨(some 13), .load 1 false (.t 2), none, []⟩,
 ⟨(some 14), .mv (.t 5), none, []⟩,
 ⟨(some 15), .bin .geq (.t 13) (.t 14), none, []⟩,
 ⟨(some 16), .mv (.t 15), none, []⟩,
 ⟨(some 17), .load 1 false (.t 2), (some (16, true)), []⟩,
 ⟨(some 18), .mv (.t 6), (some (16, true)), []⟩,
 ⟨(some 19), .bin .leq (.t 17) (.t 18), (some (16, true)), []⟩,
 ⟨(some 20), .pick (.t 16) (.t 19) (.c (.bool false)), none, []⟩,
 ⟨(some 4), .mv (.t 20), none, []⟩])
 .ret)))
def lpT : NT LFunc := (.n 114 F114 (.n 58 F58 (.n 30 F30 (.n 15 F15 (.n 8 F8 (.n 4 F4 (.n 2 F2 (.n 1 F1 .l .l) (.n 3 F3 .l .l)) (.n 6 F6 (.n 5 F5 .l .l) (.n 7 F7 .l .l))) (.n 12 F12 (.n 10 F10 (.n 9 F9 .l .l) (.n 11 F11 .l .l)) (.n 14 F14 (.n 13 F13 .l .l) .l))) (.n 22 F22 (.n 19 F19 (.n 17 F17 (.n 16 F16 .l .l) (.n 18 F18 .l .l)) (.n 21 F21 (.n 20 F20 .l .l) .l)) (.n 26 F26 (.n 24 F24 (.n 23 F23 .l .l) (.n 25 F25 .l .l)) (.n 29 F29 (.n 27 F27 .l .l) .l)))) (.n 44 F44 (.n 37 F37 (.n 34 F34 (.n 32 F32 (.n 31 F31 .l .l) (.n 33 F33 .l .l)) (.n 36 F36 (.n 35 F35 .l .l) .l)) (.n 41 F41 (.n 39 F39 (.n 38 F38 .l .l) (.n 40 F40 .l .l)) (.n 43 F43 (.n 42 F42 .l .l) .l))) (.n 51 F51 (.n 48 F48 (.n 46 F46 (.n 45 F45 .l .l) (.n 47 F47 .l .l)) (.n 50 F50 (.n 49 F49 .l .l) .l)) (.n 55 F55 (.n 53 F53 (.n 52 F52 .l .l) (.n 54 F54 .l .l)) (.n 57 F57 (.n 56 F56 .l .l) .l))))) (.n 86 F86 (.n 72 F72 (.n 65 F65 (.n 62 F62 (.n 60 F60 (.n 59 F59 .l .l) (.n 61 F61 .l .l)) (.n 64 F64 (.n 63 F63 .l .l) .l)) (.n 69 F69 (.n 67 F67 (.n 66 F66 .l .l) (.n 68 F68 .l .l)) (.n 71 F71 (.n 70 F70 .l .l) .l))) (.n 79 F79 (.n 76 F76 (.n 74 F74 (.n 73 F73 .l .l) (.n 75 F75 .l .l)) (.n 78 F78 (.n 77 F77 .l .l) .l)) (.n 83 F83 (.n 81 F81 (.n 80 F80 .l .l) (.n 82 F82 .l .l)) (.n 85 F85 (.n 84 F84 .l .l) .l)))) (.n 100 F100 (.n 93 F93 (.n 90 F90 (.n 88 F88 (.n 87 F87 .l .l) (.n 89 F89 .l .l)) (.n 92 F92 (.n 91 F91 .l .l) .l)) (.n 97 F97 (.n 95 F95 (.n 94 F94 .l .l) (.n 96 F96 .l .l)) (.n 99 F99 (.n 98 F98 .l .l) .l))) (.n 107 F107 (.n 104 F104 (.n 102 F102 (.n 101 F101 .l .l) (.n 103 F103 .l .l)) (.n 106 F106 (.n 105 F105 .l .l) .l)) (.n 111 F111 (.n 109 F109 (.n 108 F108 .l .l) (.n 110 F110 .l .l)) (.n 113 F113 (.n 112 F112 .l .l) .l)))))) (.n 171 F171 (.n 143 F143 (.n 129 F129 (.n 122 F122 (.n 118 F118 (.n 116 F116 (.n 115 F115 .l .l) (.n 117 F117 .l .l)) (.n 120 F120 (.n 119 F119 .l .l) (.n 121 F121 .l .l))) (.n 126 F126 (.n 124 F124 (.n 123 F123 .l .l) (.n 125 F125 .l .l)) (.n 128 F128 (.n 127 F127 .l .l) .l))) (.n 136 F136 (.n 133 F133 (.n 131 F131 (.n 130 F130 .l .l) (.n 132 F132 .l .l)) (.n 135 F135 (.n 134 F134 .l .l) .l)) (.n 140 F140 (.n 138 F138 (.n 137 F137 .l .l) (.n 139 F139 .l .l)) (.n 142 F142 (.n 141 F141 .l .l) .l)))) (.n 157 F157 (.n 150 F150 (.n 147 F147 (.n 145 F145 (.n 144 F144 .l .l) (.n 146 F146 .l .l)) (.n 149 F149 (.n 148 F148 .l .l) .l)) (.n 154 F154 (.n 152 F152 (.n 151 F151 .l .l) (.n 153 F153 .l .l)) (.n 156 F156 (.n 155 F155 .l .l) .l))) (.n 164 F164 (.n 161 F161 (.n 159 F159 (.n 158 F158 .l .l) (.n 160 F160 .l .l)) (.n 163 F163 (.n 162 F162 .l .l) .l)) (.n 168 F168 (.n 166 F166 (.n 165 F165 .l .l) (.n 167 F167 .l .l)) (.n 170 F170 (.n 169 F169 .l .l) .l))))) (.n 199 F199 (.n 185 F185 (.n 178 F178 (.n 175 F175 (.n 173 F173 (.n 172 F172 .l .l) (.n 174 F174 .l .l)) (.n 177 F177 (.n 176 F176 .l .l) .l)) (.n 182 F182 (.n 180 F180 (.n 179 F179 .l .l) (.n 181 F181 .l .l)) (.n 184 F184 (.n 183 F183 .l .l) .l))) (.n 192 F192 (.n 189 F189 (.n 187 F187 (.n 186 F186 .l .l) (.n 188 F188 .l .l)) (.n 191 F191 (.n 190 F190 .l .l) .l)) (.n 196 F196 (.n 194 F194 (.n 193 F193 .l .l) (.n 195 F195 .l .l)) (.n 198 F198 (.n 197 F197 .l .l) .l)))) (.n 213 F213 (.n 206 F206 (.n 203 F203 (.n 201 F201 (.n 200 F200 .l .l) (.n 202 F202 .l .l)) (.n 205 F205 (.n 204 F204 .l .l) .l)) (.n 210 F210 (.n 208 F208 (.n 207 F207 .l .l) (.n 209 F209 .l .l)) (.n 212 F212 (.n 211 F211 .l .l) .l))) (.n 220 F220 (.n 217 F217 (.n 215 F215 (.n 214 F214 .l .l) (.n 216 F216 .l .l)) (.n 219 F219 (.n 218 F218 .l .l) .l)) (.n 224 F224 (.n 222 F222 (.n 221 F221 .l .l) (.n 223 F223 .l .l)) (.n 226 F226 (.n 225 F225 .l .l) .l)))))))
def once : OnceT := { l0 := [⟨(some 4), .mv (.t 0), none, []⟩, ⟨(some 5), .nilChk (.t 4), none, []⟩, ⟨(some 6), .fieldAddr 1 (.t 5), none, []⟩, ⟨(some 7), .call (.fn 25) [(.t 6)], none, []⟩], l1 := [⟨(some 8), .mv (.t 0), none, []⟩, ⟨(some 9), .nilChk (.t 8), none, []⟩, ⟨(some 10), .fieldAddr 1 (.t 9), none, []⟩], l2 := [⟨(some 11), .mv (.t 0), none, []⟩, ⟨(some 12), .nilChk (.t 11), none, []⟩, ⟨(some 13), .fieldAddr 0 (.t 12), none, []⟩, ⟨(some 14), .call (.fn 29) [(.t 13)], none, []⟩, ⟨(some 15), .un .not (.t 14), none, []⟩], l3 := [⟨(some 16), .mv (.t 0), none, []⟩, ⟨(some 17), .nilChk (.t 16), none, []⟩, ⟨(some 18), .fieldAddr 0 (.t 17), none, []⟩], l4 := [⟨(some 19), .mv (.t 1), none, []⟩, ⟨(some 20), .call (.val (.t 19)) [], none, []⟩], store := 30, unlock := 26 }
def onceN : Nat := 28
end Go.AE.Fns
