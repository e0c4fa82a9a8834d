/- The code of some functions for the small machine (printed by wip/tools/EvPrint.lean). -/
import Derived.Test.YtaafbpniakldpaaEvLim
namespace Go.Proofs.Ytaafbpniakldpaa.Ev.C8
open Go
/-- scutage/scutagelaw08.StatusEnd -/
def h3 : List (List Nat) := [[0], [0], [0, 3, 4], [0, 3, 27], [2], [2], [0, 3, 5], [0, 3, 5], [0, 3, 5, 30], [0, 3], [0, 3, 5, 6, 7], [0, 3, 5, 52], [2], [2], [0, 3, 5], [0, 3, 8, 9], [3, 80], [2], [2], [3, 83], [2], [2], [3, 8, 9], [3, 8, 9, 11], [3, 8, 9, 11, 13], [2], [2]]
def l3_0 : EC := (.seq (.seq (.ops [⟨(some 28), .mov (.t 5), none⟩,
    ⟨(some 29), .mov (.t 0), none⟩,
    ⟨(some 30), .bin .leq (.t 28) (.t 29), none⟩] [0, 3, 5, 30])
  (.cond (.t 30) .skip
  (.exit 0 [0, 3])))
  (.seq (.block 1 (.seq (.ops [⟨(some 34), .mov (.t 3), none⟩,
    ⟨(some 35), .call 14 [(.t 34)], none⟩,
    ⟨(some 33), .mov (.t 35), none⟩,
    ⟨(some 36), .ext (.t 33) 0, none⟩,
    ⟨(some 37), .ext (.t 33) 1, none⟩,
    ⟨(some 6), .mov (.t 36), none⟩,
    ⟨(some 7), .mov (.t 37), none⟩] [0, 3, 5, 6, 7])
  (.seq (.ops [⟨(some 38), .mov (.t 7), none⟩,
    ⟨(some 39), .un .not (.t 38), none⟩,
    ⟨(some 40), .mov (.t 39), none⟩,
    ⟨(some 41), .mov (.t 6), (some (40, false))⟩,
    ⟨(some 42), .mov (.t 0), (some (40, false))⟩,
    ⟨(some 43), .bin .sub (.c (.s (.int .i64 399))) (.t 42), (some (40, false))⟩,
    ⟨(some 44), .mov (.t 5), (some (40, false))⟩,
    ⟨(some 45), .bin .add (.t 43) (.t 44), (some (40, false))⟩,
    ⟨(some 46), .bin .neq (.t 41) (.t 45), (some (40, false))⟩,
    ⟨(some 47), .pick (.t 40) (.c (.s (.bool true))) (.t 46), none⟩,
    ⟨(some 48), .mov (.t 47), none⟩,
    ⟨(some 49), .mov (.t 3), (some (48, false))⟩,
    ⟨(some 50), .call 15 [(.t 49)], (some (48, false))⟩,
    ⟨(some 51), .bin .neq (.t 50) (.c (.s (.int .i64 0))), (some (48, false))⟩,
    ⟨(some 52), .pick (.t 48) (.c (.s (.bool true))) (.t 51), none⟩] [0, 3, 5, 52])
  (.cond (.t 52) (.seq (.ops [⟨(some 2), .mov (.c (.s (.bool false))), none⟩] [2])
  (.ret [2]))
  .skip))))
  (.ops [⟨(some 31), .mov (.t 5), none⟩,
    ⟨(some 32), .bin .add (.t 31) (.c (.s (.int .i64 1))), none⟩,
    ⟨(some 5), .mov (.t 32), none⟩] [0, 3, 5])))
def b3 : EC := (.seq (.ops [⟨(some 2), .mov (.c (.s (.bool false))), none⟩] [0])
  (.seq (.ops [⟨(some 14), .mov (.t 0), none⟩,
    ⟨(some 15), .call 12 [(.t 14), (.c (.s (.int .i64 5)))], none⟩,
    ⟨(some 0), .mov (.t 15), none⟩] [0])
  (.seq (.ops [⟨(some 17), .mov (.t 0), none⟩,
    ⟨(some 18), .bin .sub (.c (.s (.int .i64 399))) (.t 17), none⟩,
    ⟨(some 19), .call 13 [(.t 18)], none⟩,
    ⟨(some 16), .mov (.t 19), none⟩,
    ⟨(some 20), .ext (.t 16) 0, none⟩,
    ⟨(some 21), .ext (.t 16) 1, none⟩,
    ⟨(some 3), .mov (.t 20), none⟩,
    ⟨(some 4), .mov (.t 21), none⟩] [0, 3, 4])
  (.seq (.seq (.ops [⟨(some 22), .mov (.t 4), none⟩,
    ⟨(some 23), .bin .neq (.t 22) (.c (.s (.int .i64 0))), none⟩,
    ⟨(some 24), .mov (.t 23), none⟩,
    ⟨(some 25), .mov (.t 3), (some (24, false))⟩,
    ⟨(some 26), .eqp false (.t 25) (.c (.s .nilp)), (some (24, false))⟩,
    ⟨(some 27), .pick (.t 24) (.c (.s (.bool true))) (.t 26), none⟩] [0, 3, 27])
  (.cond (.t 27) (.seq (.ops [⟨(some 2), .mov (.c (.s (.bool false))), none⟩] [2])
  (.ret [2]))
  .skip))
  (.seq (.seq (.ops [⟨(some 5), .mov (.c (.s (.int .i64 0))), none⟩] [0, 3, 5])
  (.block 0 (.loop [0, 3, 5] l3_0)))
  (.seq (.ops [⟨(some 54), .mov (.t 3), none⟩,
    ⟨(some 55), .call 14 [(.t 54)], none⟩,
    ⟨(some 53), .mov (.t 55), none⟩,
    ⟨(some 56), .ext (.t 53) 0, none⟩,
    ⟨(some 57), .ext (.t 53) 1, none⟩,
    ⟨(some 8), .mov (.t 56), none⟩,
    ⟨(some 9), .mov (.t 57), none⟩] [0, 3, 8, 9])
  (.seq (.seq (.ops [⟨(some 58), .mov (.t 9), none⟩,
    ⟨(some 59), .mov (.t 58), none⟩,
    ⟨(some 60), .mov (.t 8), (some (59, false))⟩,
    ⟨(some 61), .bin .neq (.t 60) (.c (.s (.int .i64 0))), (some (59, false))⟩,
    ⟨(some 62), .pick (.t 59) (.c (.s (.bool true))) (.t 61), none⟩,
    ⟨(some 63), .mov (.t 62), none⟩,
    ⟨(some 64), .mov (.t 3), (some (63, false))⟩,
    ⟨(some 65), .call 16 [(.t 64)], (some (63, false))⟩,
    ⟨(some 66), .bin .neq (.t 65) (.c (.s (.int .i64 8))), (some (63, false))⟩,
    ⟨(some 67), .pick (.t 63) (.c (.s (.bool true))) (.t 66), none⟩,
    ⟨(some 68), .mov (.t 67), none⟩,
    ⟨(some 69), .mov (.t 3), (some (68, false))⟩,
    ⟨(some 70), .call 15 [(.t 69)], (some (68, false))⟩,
    ⟨(some 71), .bin .neq (.t 70) (.c (.s (.int .i64 8))), (some (68, false))⟩,
    ⟨(some 72), .pick (.t 68) (.c (.s (.bool true))) (.t 71), none⟩,
    ⟨(some 73), .mov (.t 72), none⟩,
    ⟨(some 74), .mov (.t 3), (some (73, false))⟩,
    ⟨(some 75), .call 17 [(.t 74)], (some (73, false))⟩,
    ⟨(some 76), .len (.t 75), (some (73, false))⟩,
    ⟨(some 77), .mov (.t 0), (some (73, false))⟩,
    ⟨(some 78), .bin .add (.t 77) (.c (.s (.int .i64 1))), (some (73, false))⟩,
    ⟨(some 79), .bin .neq (.t 76) (.t 78), (some (73, false))⟩,
    ⟨(some 80), .pick (.t 73) (.c (.s (.bool true))) (.t 79), none⟩] [3, 80])
  (.cond (.t 80) (.seq (.ops [⟨(some 2), .mov (.c (.s (.bool false))), none⟩] [2])
  (.ret [2]))
  .skip))
  (.seq (.seq (.ops [⟨(some 81), .mov (.t 3), none⟩,
    ⟨(some 82), .call 18 [(.t 81)], none⟩,
    ⟨(some 83), .bin .neq (.t 82) (.c (.s (.int .i64 0))), none⟩] [3, 83])
  (.cond (.t 83) (.seq (.ops [⟨(some 2), .mov (.c (.s (.bool false))), none⟩] [2])
  (.ret [2]))
  .skip))
  (.seq (.ops [⟨(some 85), .mov (.t 3), none⟩,
    ⟨(some 86), .call 14 [(.t 85)], none⟩,
    ⟨(some 84), .mov (.t 86), none⟩,
    ⟨(some 87), .ext (.t 84) 0, none⟩,
    ⟨(some 88), .ext (.t 84) 1, none⟩,
    ⟨(some 8), .mov (.t 87), none⟩,
    ⟨(some 9), .mov (.t 88), none⟩] [3, 8, 9])
  (.seq (.ops [⟨(some 90), .call 13 [(.c (.s (.int .i64 (-1))))], none⟩,
    ⟨(some 89), .mov (.t 90), none⟩,
    ⟨(some 91), .ext (.t 89) 0, none⟩,
    ⟨(some 92), .ext (.t 89) 1, none⟩,
    ⟨(some 10), .mov (.t 91), none⟩,
    ⟨(some 11), .mov (.t 92), none⟩] [3, 8, 9, 11])
  (.seq (.ops [⟨(some 94), .call 13 [(.c (.s (.int .i64 400)))], none⟩,
    ⟨(some 93), .mov (.t 94), none⟩,
    ⟨(some 95), .ext (.t 93) 0, none⟩,
    ⟨(some 96), .ext (.t 93) 1, none⟩,
    ⟨(some 12), .mov (.t 95), none⟩,
    ⟨(some 13), .mov (.t 96), none⟩] [3, 8, 9, 11, 13])
  (.seq (.ops [⟨(some 97), .mov (.t 9), none⟩,
    ⟨(some 98), .mov (.t 97), none⟩,
    ⟨(some 99), .mov (.t 8), (some (98, true))⟩,
    ⟨(some 100), .bin .eql (.t 99) (.c (.s (.int .i64 399))), (some (98, true))⟩,
    ⟨(some 101), .pick (.t 98) (.t 100) (.c (.s (.bool false))), none⟩,
    ⟨(some 102), .mov (.t 101), none⟩,
    ⟨(some 103), .mov (.t 3), (some (102, true))⟩,
    ⟨(some 104), .call 16 [(.t 103)], (some (102, true))⟩,
    ⟨(some 105), .bin .eql (.t 104) (.c (.s (.int .i64 0))), (some (102, true))⟩,
    ⟨(some 106), .pick (.t 102) (.t 105) (.c (.s (.bool false))), none⟩,
    ⟨(some 107), .mov (.t 106), none⟩,
    ⟨(some 108), .mov (.t 3), (some (107, true))⟩,
    ⟨(some 109), .call 15 [(.t 108)], (some (107, true))⟩,
    ⟨(some 110), .bin .eql (.t 109) (.c (.s (.int .i64 0))), (some (107, true))⟩,
    ⟨(some 111), .pick (.t 107) (.t 110) (.c (.s (.bool false))), none⟩,
    ⟨(some 112), .mov (.t 111), none⟩,
    ⟨(some 113), .mov (.t 11), (some (112, true))⟩,
    ⟨(some 114), .bin .eql (.t 113) (.c (.s (.int .i64 1))), (some (112, true))⟩,
    ⟨(some 115), .pick (.t 112) (.t 114) (.c (.s (.bool false))), none⟩,
    ⟨(some 116), .mov (.t 115), none⟩,
    ⟨(some 117), .mov (.t 13), (some (116, true))⟩,
    ⟨(some 118), .bin .eql (.t 117) (.c (.s (.int .i64 1))), (some (116, true))⟩,
    ⟨(some 119), .pick (.t 116) (.t 118) (.c (.s (.bool false))), none⟩,
    ⟨(some 120), .mov (.t 119), none⟩,
    ⟨(some 121), .call 19 [], (some (120, true))⟩,
    ⟨(some 122), .pick (.t 120) (.t 121) (.c (.s (.bool false))), none⟩,
    ⟨(some 2), .mov (.t 122), none⟩] [2])
  (.ret [2])))))))))))))
def e3 : EF := ⟨123, b3, [.tmp 2]⟩

/-- scutage/scutagelaw08.StatusRow -/
def h4 : List (List Nat) := [[0, 1], [0, 1], [0, 1, 5, 6], [0, 1, 5, 29], [4], [4], [0, 1, 5, 7], [0, 1, 5, 7], [0, 1, 5, 7, 37], [], [0, 1, 5, 7, 8], [0, 1, 5, 7, 8, 10], [0, 1, 5, 7, 8, 10], [0, 1, 5, 7, 8, 10, 12], [0, 1, 5, 7, 8, 10, 12, 52], [0, 1, 5, 7, 8, 10, 12, 52, 55], [0, 1, 5, 7, 8, 10, 12, 52, 55], [0, 1, 5, 7, 8, 10, 11, 12], [0, 1, 5, 7, 8, 10, 12, 60], [0, 1, 5, 7, 8, 10, 11, 12], [0, 1, 5, 7, 8, 10, 11, 12], [0, 1, 5, 7, 8, 10, 12, 65], [0, 1, 5, 7, 8, 10, 12], [0, 1, 5, 7, 8, 10, 12, 13, 14], [0, 1, 5, 7, 8, 10, 12, 13, 14, 15], [0, 1, 5, 7, 15, 97], [4], [4], [0, 1, 5, 7, 15, 99, 100], [0, 1, 5, 7, 15, 99, 100], [0, 1, 5, 7, 15, 99, 100, 101], [0, 1, 5, 7], [0, 1, 5, 7, 15, 16, 99, 100], [0, 1, 5, 7, 15, 99, 100, 110], [4], [4], [0, 1, 5, 7, 15, 99, 100], [0, 1, 5, 7], [4], [4]]
def l4_0 : EC := (.seq (.ops [⟨(some 101), .bin .lss (.t 100) (.t 99), none⟩] [0, 1, 5, 7, 15, 99, 100, 101])
  (.seq (.cond (.t 101) .skip
  (.exit 3 [0, 1, 5, 7]))
  (.seq (.block 4 (.seq (.ops [⟨(some 102), .mov (.t 100), none⟩,
    ⟨(some 16), .mov (.t 102), none⟩] [0, 1, 5, 7, 15, 16, 99, 100])
  (.seq (.ops [⟨(some 103), .mov (.t 15), none⟩,
    ⟨(some 104), .mov (.t 16), none⟩,
    ⟨(some 105), .iad 3 1 (.t 103) (.t 104), none⟩,
    ⟨(some 106), .load false 1 (.t 105), none⟩,
    ⟨(some 107), .mov (.t 0), none⟩,
    ⟨(some 108), .mov (.t 16), none⟩,
    ⟨(some 109), .bin .add (.t 107) (.t 108), none⟩,
    ⟨(some 110), .bin .neq (.t 106) (.t 109), none⟩] [0, 1, 5, 7, 15, 99, 100, 110])
  (.cond (.t 110) (.seq (.ops [⟨(some 4), .mov (.c (.s (.bool false))), none⟩] [4])
  (.ret [4]))
  .skip))))
  (.ops [⟨(some 111), .bin .add (.t 100) (.c (.s (.int .i64 1))), none⟩,
    ⟨(some 100), .mov (.t 111), none⟩] [0, 1, 5, 7, 15, 99, 100]))))
def l4_1 : EC := (.seq (.seq (.ops [⟨(some 30), .mov (.t 7), none⟩,
    ⟨(some 31), .mov (.t 1), none⟩,
    ⟨(some 32), .len (.t 31), none⟩,
    ⟨(some 33), .bin .lss (.t 30) (.t 32), none⟩,
    ⟨(some 34), .mov (.t 33), none⟩,
    ⟨(some 35), .mov (.t 7), (some (34, true))⟩,
    ⟨(some 36), .bin .lss (.t 35) (.c (.s (.int .i64 40))), (some (34, true))⟩,
    ⟨(some 37), .pick (.t 34) (.t 36) (.c (.s (.bool false))), none⟩] [0, 1, 5, 7, 37])
  (.cond (.t 37) .skip
  (.exit 0 [])))
  (.seq (.block 1 (.seq (.ops [⟨(some 41), .mov (.t 5), none⟩,
    ⟨(some 42), .call 14 [(.t 41)], none⟩,
    ⟨(some 40), .mov (.t 42), none⟩,
    ⟨(some 43), .ext (.t 40) 0, none⟩,
    ⟨(some 44), .ext (.t 40) 1, none⟩,
    ⟨(some 8), .mov (.t 43), none⟩,
    ⟨(some 9), .mov (.t 44), none⟩] [0, 1, 5, 7, 8])
  (.seq (.ops [⟨(some 45), .mov (.t 5), none⟩,
    ⟨(some 46), .call 17 [(.t 45)], none⟩,
    ⟨(some 47), .len (.t 46), none⟩,
    ⟨(some 10), .mov (.t 47), none⟩] [0, 1, 5, 7, 8, 10])
  (.seq (.ops [⟨(some 11), .mov (.c (.s (.int .i64 0))), none⟩] [0, 1, 5, 7, 8, 10])
  (.seq (.ops [⟨(some 12), .mov (.c (.s (.int .i64 0))), none⟩] [0, 1, 5, 7, 8, 10, 12])
  (.seq (.seq (.ops [⟨(some 48), .mov (.t 1), none⟩,
    ⟨(some 49), .mov (.t 7), none⟩,
    ⟨(some 50), .iad 3 1 (.t 48) (.t 49), none⟩,
    ⟨(some 51), .load false 1 (.t 50), none⟩,
    ⟨(some 52), .call 12 [(.t 51), (.c (.s (.int .i64 4)))], none⟩] [0, 1, 5, 7, 8, 10, 12, 52])
  (.block 2 (.seq (.seq (.ops [⟨(some 56), .bin .eql (.t 52) (.c (.s (.int .i64 0))), none⟩,
    ⟨(some 55), .mov (.t 56), none⟩] [0, 1, 5, 7, 8, 10, 12, 52, 55])
  (.cond (.t 55) .skip
  (.ops [⟨(some 57), .bin .eql (.t 52) (.c (.s (.int .i64 1))), none⟩,
    ⟨(some 55), .mov (.t 57), none⟩] [0, 1, 5, 7, 8, 10, 12, 52, 55])))
  (.cond (.t 55) (.ops [⟨(some 58), .mov (.t 5), none⟩,
    ⟨(some 59), .call 15 [(.t 58)], none⟩,
    ⟨(some 11), .mov (.t 59), none⟩,
    ⟨(some 12), .mov (.c (.s (.int .i64 1))), none⟩] [0, 1, 5, 7, 8, 10, 11, 12])
  (.seq (.ops [⟨(some 61), .bin .eql (.t 52) (.c (.s (.int .i64 2))), none⟩,
    ⟨(some 60), .mov (.t 61), none⟩] [0, 1, 5, 7, 8, 10, 12, 60])
  (.cond (.t 60) (.ops [⟨(some 62), .mov (.t 5), none⟩,
    ⟨(some 63), .call 18 [(.t 62)], none⟩,
    ⟨(some 11), .mov (.t 63), none⟩,
    ⟨(some 12), .mov (.c (.s (.int .i64 (-1)))), none⟩] [0, 1, 5, 7, 8, 10, 11, 12])
  (.ops [⟨(some 53), .mov (.t 5), none⟩,
    ⟨(some 54), .call 16 [(.t 53)], none⟩,
    ⟨(some 11), .mov (.t 54), none⟩] [0, 1, 5, 7, 8, 10, 11, 12])))))))
  (.seq (.seq (.ops [⟨(some 64), .mov (.t 11), none⟩,
    ⟨(some 65), .bin .neq (.t 64) (.c (.s (.int .i64 0))), none⟩] [0, 1, 5, 7, 8, 10, 12, 65])
  (.cond (.t 65) (.ops [⟨(some 12), .mov (.c (.s (.int .i64 0))), none⟩] [0, 1, 5, 7, 8, 10, 12])
  .skip))
  (.seq (.ops [⟨(some 67), .mov (.t 5), none⟩,
    ⟨(some 68), .call 14 [(.t 67)], none⟩,
    ⟨(some 66), .mov (.t 68), none⟩,
    ⟨(some 69), .ext (.t 66) 0, none⟩,
    ⟨(some 70), .ext (.t 66) 1, none⟩,
    ⟨(some 13), .mov (.t 69), none⟩,
    ⟨(some 14), .mov (.t 70), none⟩] [0, 1, 5, 7, 8, 10, 12, 13, 14])
  (.seq (.ops [⟨(some 71), .mov (.t 5), none⟩,
    ⟨(some 72), .call 17 [(.t 71)], none⟩,
    ⟨(some 15), .mov (.t 72), none⟩] [0, 1, 5, 7, 8, 10, 12, 13, 14, 15])
  (.seq (.seq (.ops [⟨(some 73), .mov (.t 14), none⟩,
    ⟨(some 74), .un .not (.t 73), none⟩,
    ⟨(some 75), .mov (.t 74), none⟩,
    ⟨(some 76), .mov (.t 13), (some (75, false))⟩,
    ⟨(some 77), .mov (.t 8), (some (75, false))⟩,
    ⟨(some 78), .mov (.t 12), (some (75, false))⟩,
    ⟨(some 79), .bin .add (.t 77) (.t 78), (some (75, false))⟩,
    ⟨(some 80), .bin .neq (.t 76) (.t 79), (some (75, false))⟩,
    ⟨(some 81), .pick (.t 75) (.c (.s (.bool true))) (.t 80), none⟩,
    ⟨(some 82), .mov (.t 81), none⟩,
    ⟨(some 83), .mov (.t 15), (some (82, false))⟩,
    ⟨(some 84), .len (.t 83), (some (82, false))⟩,
    ⟨(some 85), .mov (.t 10), (some (82, false))⟩,
    ⟨(some 86), .mov (.t 12), (some (82, false))⟩,
    ⟨(some 87), .bin .add (.t 85) (.t 86), (some (82, false))⟩,
    ⟨(some 88), .bin .neq (.t 84) (.t 87), (some (82, false))⟩,
    ⟨(some 89), .pick (.t 82) (.c (.s (.bool true))) (.t 88), none⟩,
    ⟨(some 90), .mov (.t 89), none⟩,
    ⟨(some 91), .mov (.t 15), (some (90, false))⟩,
    ⟨(some 92), .len (.t 91), (some (90, false))⟩,
    ⟨(some 93), .mov (.t 13), (some (90, false))⟩,
    ⟨(some 94), .mov (.t 0), (some (90, false))⟩,
    ⟨(some 95), .bin .sub (.t 93) (.t 94), (some (90, false))⟩,
    ⟨(some 96), .bin .neq (.t 92) (.t 95), (some (90, false))⟩,
    ⟨(some 97), .pick (.t 90) (.c (.s (.bool true))) (.t 96), none⟩] [0, 1, 5, 7, 15, 97])
  (.cond (.t 97) (.seq (.ops [⟨(some 4), .mov (.c (.s (.bool false))), none⟩] [4])
  (.ret [4]))
  .skip))
  (.seq (.ops [⟨(some 98), .mov (.t 15), none⟩,
    ⟨(some 99), .len (.t 98), none⟩,
    ⟨(some 100), .mov (.c (.s (.int .i64 0))), none⟩] [0, 1, 5, 7, 15, 99, 100])
  (.block 3 (.loop [0, 1, 5, 7, 15, 99, 100] l4_0)))))))))))))
  (.ops [⟨(some 38), .mov (.t 7), none⟩,
    ⟨(some 39), .bin .add (.t 38) (.c (.s (.int .i64 1))), none⟩,
    ⟨(some 7), .mov (.t 39), none⟩] [0, 1, 5, 7])))
def b4 : EC := (.seq (.ops [⟨(some 4), .mov (.c (.s (.bool false))), none⟩] [0, 1])
  (.seq (.ops [⟨(some 17), .mov (.t 0), none⟩,
    ⟨(some 18), .call 12 [(.t 17), (.c (.s (.int .i64 300)))], none⟩,
    ⟨(some 0), .mov (.t 18), none⟩] [0, 1])
  (.seq (.ops [⟨(some 20), .mov (.t 0), none⟩,
    ⟨(some 21), .call 13 [(.t 20)], none⟩,
    ⟨(some 19), .mov (.t 21), none⟩,
    ⟨(some 22), .ext (.t 19) 0, none⟩,
    ⟨(some 23), .ext (.t 19) 1, none⟩,
    ⟨(some 5), .mov (.t 22), none⟩,
    ⟨(some 6), .mov (.t 23), none⟩] [0, 1, 5, 6])
  (.seq (.seq (.ops [⟨(some 24), .mov (.t 6), none⟩,
    ⟨(some 25), .bin .neq (.t 24) (.c (.s (.int .i64 0))), none⟩,
    ⟨(some 26), .mov (.t 25), none⟩,
    ⟨(some 27), .mov (.t 5), (some (26, false))⟩,
    ⟨(some 28), .eqp false (.t 27) (.c (.s .nilp)), (some (26, false))⟩,
    ⟨(some 29), .pick (.t 26) (.c (.s (.bool true))) (.t 28), none⟩] [0, 1, 5, 29])
  (.cond (.t 29) (.seq (.ops [⟨(some 4), .mov (.c (.s (.bool false))), none⟩] [4])
  (.ret [4]))
  .skip))
  (.seq (.seq (.ops [⟨(some 7), .mov (.c (.s (.int .i64 0))), none⟩] [0, 1, 5, 7])
  (.block 0 (.loop [0, 1, 5, 7] l4_1)))
  (.seq (.ops [⟨(some 112), .call 19 [], none⟩,
    ⟨(some 4), .mov (.t 112), none⟩] [4])
  (.ret [4])))))))
def e4 : EF := ⟨113, b4, [.tmp 4]⟩

/-- scutage/scutagelaw08.StatusBack -/
def h5 : List (List Nat) := [[0, 1, 2], [0, 1, 2], [0, 1, 2], [0, 1, 2, 7, 8], [0, 1, 2, 7, 36], [6], [6], [0, 1, 2, 7, 9], [0, 1, 2, 7, 9], [0, 1, 2, 7, 9, 39], [0, 1, 2, 7], [0, 1, 2, 7, 9, 54], [6], [6], [0, 1, 2, 7, 9], [0, 1, 2, 7, 10], [0, 1, 2, 7, 10], [0, 1, 2, 7, 10, 58], [7], [0, 1, 2, 7, 10, 11], [0, 1, 2, 7, 10, 11, 64], [0, 1, 2, 7, 10, 11], [0, 1, 2, 7, 10, 11, 67], [0, 1, 2, 7, 10, 11], [0, 1, 2, 7, 10, 11, 71], [6], [6], [0, 1, 2, 7, 10, 73], [0, 7, 10, 12, 13], [6], [6], [0, 1, 2, 7, 10, 14, 15], [0, 1, 2, 7, 10, 119], [6], [6], [0, 1, 2, 7, 10], [16], [6], [6]]
def l5_0 : EC := (.seq (.seq (.ops [⟨(some 37), .mov (.t 9), none⟩,
    ⟨(some 38), .mov (.t 1), none⟩,
    ⟨(some 39), .bin .lss (.t 37) (.t 38), none⟩] [0, 1, 2, 7, 9, 39])
  (.cond (.t 39) .skip
  (.exit 0 [0, 1, 2, 7])))
  (.seq (.block 1 (.seq (.ops [⟨(some 42), .mov (.t 9), none⟩,
    ⟨(some 43), .mov (.t 2), none⟩,
    ⟨(some 44), .bin .eql (.t 42) (.t 43), none⟩,
    ⟨(some 45), .mov (.t 44), none⟩,
    ⟨(some 46), .mov (.t 7), (some (45, true))⟩,
    ⟨(some 47), .call 16 [(.t 46)], (some (45, true))⟩,
    ⟨(some 48), .bin .neq (.t 47) (.c (.s (.int .i64 0))), (some (45, true))⟩,
    ⟨(some 49), .pick (.t 45) (.t 48) (.c (.s (.bool false))), none⟩,
    ⟨(some 50), .mov (.t 49), none⟩,
    ⟨(some 51), .mov (.t 7), (some (50, false))⟩,
    ⟨(some 52), .call 15 [(.t 51)], (some (50, false))⟩,
    ⟨(some 53), .bin .neq (.t 52) (.c (.s (.int .i64 0))), (some (50, false))⟩,
    ⟨(some 54), .pick (.t 50) (.c (.s (.bool true))) (.t 53), none⟩] [0, 1, 2, 7, 9, 54])
  (.cond (.t 54) (.seq (.ops [⟨(some 6), .mov (.c (.s (.bool false))), none⟩] [6])
  (.ret [6]))
  .skip)))
  (.ops [⟨(some 40), .mov (.t 9), none⟩,
    ⟨(some 41), .bin .add (.t 40) (.c (.s (.int .i64 1))), none⟩,
    ⟨(some 9), .mov (.t 41), none⟩] [0, 1, 2, 7, 9])))
def l5_1 : EC := (.seq (.seq (.ops [⟨(some 57), .mov (.t 10), none⟩,
    ⟨(some 58), .bin .geq (.t 57) (.c (.s (.int .i64 0))), none⟩] [0, 1, 2, 7, 10, 58])
  (.cond (.t 58) .skip
  (.exit 2 [7])))
  (.seq (.block 3 (.seq (.ops [⟨(some 11), .mov (.c (.s (.int .i64 0))), none⟩] [0, 1, 2, 7, 10, 11])
  (.seq (.seq (.ops [⟨(some 61), .mov (.t 10), none⟩,
    ⟨(some 62), .bin .add (.t 61) (.c (.s (.int .i64 1))), none⟩,
    ⟨(some 63), .mov (.t 2), none⟩,
    ⟨(some 64), .bin .eql (.t 62) (.t 63), none⟩] [0, 1, 2, 7, 10, 11, 64])
  (.cond (.t 64) (.seq (.ops [⟨(some 11), .mov (.c (.s (.int .i64 8))), none⟩] [0, 1, 2, 7, 10, 11])
  (.seq (.ops [⟨(some 65), .mov (.t 2), none⟩,
    ⟨(some 66), .mov (.t 1), none⟩,
    ⟨(some 67), .bin .eql (.t 65) (.t 66), none⟩] [0, 1, 2, 7, 10, 11, 67])
  (.cond (.t 67) (.ops [⟨(some 11), .mov (.c (.s (.int .i64 0))), none⟩] [0, 1, 2, 7, 10, 11])
  .skip)))
  .skip))
  (.seq (.seq (.ops [⟨(some 68), .mov (.t 7), none⟩,
    ⟨(some 69), .call 18 [(.t 68)], none⟩,
    ⟨(some 70), .mov (.t 11), none⟩,
    ⟨(some 71), .bin .neq (.t 69) (.t 70), none⟩] [0, 1, 2, 7, 10, 11, 71])
  (.cond (.t 71) (.seq (.ops [⟨(some 6), .mov (.c (.s (.bool false))), none⟩] [6])
  (.ret [6]))
  .skip))
  (.seq (.seq (.ops [⟨(some 72), .mov (.t 11), none⟩,
    ⟨(some 73), .bin .neq (.t 72) (.c (.s (.int .i64 0))), none⟩] [0, 1, 2, 7, 10, 73])
  (.cond (.t 73) (.seq (.ops [⟨(some 75), .mov (.t 7), none⟩,
    ⟨(some 76), .call 14 [(.t 75)], none⟩,
    ⟨(some 74), .mov (.t 76), none⟩,
    ⟨(some 77), .ext (.t 74) 0, none⟩,
    ⟨(some 78), .ext (.t 74) 1, none⟩,
    ⟨(some 12), .mov (.t 77), none⟩,
    ⟨(some 13), .mov (.t 78), none⟩] [0, 7, 10, 12, 13])
  (.seq (.ops [⟨(some 79), .mov (.t 13), none⟩,
    ⟨(some 80), .mov (.t 79), none⟩,
    ⟨(some 81), .mov (.t 12), (some (80, true))⟩,
    ⟨(some 82), .mov (.t 0), (some (80, true))⟩,
    ⟨(some 83), .mov (.t 10), (some (80, true))⟩,
    ⟨(some 84), .bin .add (.t 82) (.t 83), (some (80, true))⟩,
    ⟨(some 85), .bin .add (.t 84) (.c (.s (.int .i64 1))), (some (80, true))⟩,
    ⟨(some 86), .bin .eql (.t 81) (.t 85), (some (80, true))⟩,
    ⟨(some 87), .pick (.t 80) (.t 86) (.c (.s (.bool false))), none⟩,
    ⟨(some 88), .mov (.t 87), none⟩,
    ⟨(some 89), .mov (.t 7), (some (88, true))⟩,
    ⟨(some 90), .call 17 [(.t 89)], (some (88, true))⟩,
    ⟨(some 91), .len (.t 90), (some (88, true))⟩,
    ⟨(some 92), .mov (.t 10), (some (88, true))⟩,
    ⟨(some 93), .bin .add (.t 92) (.c (.s (.int .i64 1))), (some (88, true))⟩,
    ⟨(some 94), .bin .eql (.t 91) (.t 93), (some (88, true))⟩,
    ⟨(some 95), .pick (.t 88) (.t 94) (.c (.s (.bool false))), none⟩,
    ⟨(some 96), .mov (.t 95), none⟩,
    ⟨(some 97), .call 19 [], (some (96, true))⟩,
    ⟨(some 98), .pick (.t 96) (.t 97) (.c (.s (.bool false))), none⟩,
    ⟨(some 6), .mov (.t 98), none⟩] [6])
  (.ret [6])))
  .skip))
  (.seq (.ops [⟨(some 100), .mov (.t 7), none⟩,
    ⟨(some 101), .call 14 [(.t 100)], none⟩,
    ⟨(some 99), .mov (.t 101), none⟩,
    ⟨(some 102), .ext (.t 99) 0, none⟩,
    ⟨(some 103), .ext (.t 99) 1, none⟩,
    ⟨(some 14), .mov (.t 102), none⟩,
    ⟨(some 15), .mov (.t 103), none⟩] [0, 1, 2, 7, 10, 14, 15])
  (.seq (.ops [⟨(some 104), .mov (.t 15), none⟩,
    ⟨(some 105), .un .not (.t 104), none⟩,
    ⟨(some 106), .mov (.t 105), none⟩,
    ⟨(some 107), .mov (.t 14), (some (106, false))⟩,
    ⟨(some 108), .mov (.t 0), (some (106, false))⟩,
    ⟨(some 109), .mov (.t 10), (some (106, false))⟩,
    ⟨(some 110), .bin .add (.t 108) (.t 109), (some (106, false))⟩,
    ⟨(some 111), .bin .neq (.t 107) (.t 110), (some (106, false))⟩,
    ⟨(some 112), .pick (.t 106) (.c (.s (.bool true))) (.t 111), none⟩,
    ⟨(some 113), .mov (.t 112), none⟩,
    ⟨(some 114), .mov (.t 7), (some (113, false))⟩,
    ⟨(some 115), .call 17 [(.t 114)], (some (113, false))⟩,
    ⟨(some 116), .len (.t 115), (some (113, false))⟩,
    ⟨(some 117), .mov (.t 10), (some (113, false))⟩,
    ⟨(some 118), .bin .neq (.t 116) (.t 117), (some (113, false))⟩,
    ⟨(some 119), .pick (.t 113) (.c (.s (.bool true))) (.t 118), none⟩] [0, 1, 2, 7, 10, 119])
  (.cond (.t 119) (.seq (.ops [⟨(some 6), .mov (.c (.s (.bool false))), none⟩] [6])
  (.ret [6]))
  .skip))))))))
  (.ops [⟨(some 59), .mov (.t 10), none⟩,
    ⟨(some 60), .bin .sub (.t 59) (.c (.s (.int .i64 1))), none⟩,
    ⟨(some 10), .mov (.t 60), none⟩] [0, 1, 2, 7, 10])))
def b5 : EC := (.seq (.ops [⟨(some 6), .mov (.c (.s (.bool false))), none⟩] [0, 1, 2])
  (.seq (.ops [⟨(some 17), .mov (.t 0), none⟩,
    ⟨(some 18), .call 12 [(.t 17), (.c (.s (.int .i64 100)))], none⟩,
    ⟨(some 19), .mov (.t 1), none⟩,
    ⟨(some 20), .call 12 [(.t 19), (.c (.s (.int .i64 6)))], none⟩,
    ⟨(some 21), .bin .add (.c (.s (.int .i64 1))) (.t 20), none⟩,
    ⟨(some 0), .mov (.t 18), none⟩,
    ⟨(some 1), .mov (.t 21), none⟩] [0, 1, 2])
  (.seq (.ops [⟨(some 22), .mov (.t 2), none⟩,
    ⟨(some 23), .mov (.t 1), none⟩,
    ⟨(some 24), .bin .add (.t 23) (.c (.s (.int .i64 1))), none⟩,
    ⟨(some 25), .call 12 [(.t 22), (.t 24)], none⟩,
    ⟨(some 2), .mov (.t 25), none⟩] [0, 1, 2])
  (.seq (.ops [⟨(some 27), .mov (.t 0), none⟩,
    ⟨(some 28), .call 13 [(.t 27)], none⟩,
    ⟨(some 26), .mov (.t 28), none⟩,
    ⟨(some 29), .ext (.t 26) 0, none⟩,
    ⟨(some 30), .ext (.t 26) 1, none⟩,
    ⟨(some 7), .mov (.t 29), none⟩,
    ⟨(some 8), .mov (.t 30), none⟩] [0, 1, 2, 7, 8])
  (.seq (.seq (.ops [⟨(some 31), .mov (.t 8), none⟩,
    ⟨(some 32), .bin .neq (.t 31) (.c (.s (.int .i64 0))), none⟩,
    ⟨(some 33), .mov (.t 32), none⟩,
    ⟨(some 34), .mov (.t 7), (some (33, false))⟩,
    ⟨(some 35), .eqp false (.t 34) (.c (.s .nilp)), (some (33, false))⟩,
    ⟨(some 36), .pick (.t 33) (.c (.s (.bool true))) (.t 35), none⟩] [0, 1, 2, 7, 36])
  (.cond (.t 36) (.seq (.ops [⟨(some 6), .mov (.c (.s (.bool false))), none⟩] [6])
  (.ret [6]))
  .skip))
  (.seq (.seq (.ops [⟨(some 9), .mov (.c (.s (.int .i64 0))), none⟩] [0, 1, 2, 7, 9])
  (.block 0 (.loop [0, 1, 2, 7, 9] l5_0)))
  (.seq (.seq (.ops [⟨(some 55), .mov (.t 1), none⟩,
    ⟨(some 56), .bin .sub (.t 55) (.c (.s (.int .i64 1))), none⟩,
    ⟨(some 10), .mov (.t 56), none⟩] [0, 1, 2, 7, 10])
  (.block 2 (.loop [0, 1, 2, 7, 10] l5_1)))
  (.seq (.ops [⟨(some 120), .mov (.t 7), none⟩,
    ⟨(some 121), .call 18 [(.t 120)], none⟩,
    ⟨(some 16), .mov (.t 121), none⟩] [16])
  (.seq (.ops [⟨(some 122), .mov (.t 16), none⟩,
    ⟨(some 123), .bin .eql (.t 122) (.c (.s (.int .i64 3))), none⟩,
    ⟨(some 124), .mov (.t 123), none⟩,
    ⟨(some 125), .call 19 [], (some (124, true))⟩,
    ⟨(some 126), .pick (.t 124) (.t 125) (.c (.s (.bool false))), none⟩,
    ⟨(some 6), .mov (.t 126), none⟩] [6])
  (.ret [6]))))))))))
def e5 : EF := ⟨127, b5, [.tmp 6]⟩

/-- scutage/scutagelaw08.StatusPlays -/
def h6 : List (List Nat) := [[0, 1], [0, 1, 18], [0, 1], [0, 1, 23], [0, 1], [0, 1, 5, 6], [0, 1, 5, 6, 34], [4], [4], [1, 5, 6, 7], [1, 5, 7, 51], [4], [4], [1, 5, 7, 8], [1, 5, 7, 8], [1, 5, 7, 8, 59], [], [1, 5, 7, 8, 9, 10], [1, 5, 7, 8, 9, 10, 66], [1, 5, 7, 8, 9, 10, 66, 75], [1, 5, 7, 8, 9, 10, 66, 75], [1, 5, 7, 8, 9, 10], [1, 5, 7, 8, 9, 10, 66, 82], [1, 5, 7, 8, 9, 10, 66, 82], [1, 5, 7, 8, 9, 10], [1, 5, 7, 8, 9, 10, 89], [1, 5, 7, 8, 9, 10], [1, 5, 7, 8, 9, 10, 11], [1, 5, 7, 8, 9, 10, 11, 70], [4], [4], [1, 5, 7, 8, 9, 10, 11], [1, 5, 7, 8, 9, 10], [1, 5, 7, 8, 9, 10, 12, 13], [1, 5, 7, 8, 9, 10, 12, 13, 14, 15], [1, 5, 7, 8, 125], [4], [4], [1, 5, 7, 8], [4], [4]]
def l6_0 : EC := (.seq (.seq (.ops [⟨(some 52), .mov (.t 8), none⟩,
    ⟨(some 53), .mov (.t 1), none⟩,
    ⟨(some 54), .len (.t 53), none⟩,
    ⟨(some 55), .bin .lss (.t 52) (.t 54), none⟩,
    ⟨(some 56), .mov (.t 55), none⟩,
    ⟨(some 57), .mov (.t 8), (some (56, true))⟩,
    ⟨(some 58), .bin .lss (.t 57) (.c (.s (.int .i64 30))), (some (56, true))⟩,
    ⟨(some 59), .pick (.t 56) (.t 58) (.c (.s (.bool false))), none⟩] [1, 5, 7, 8, 59])
  (.cond (.t 59) .skip
  (.exit 0 [])))
  (.seq (.block 1 (.seq (.ops [⟨(some 9), .mov (.c (.s (.int .i64 0))), none⟩,
    ⟨(some 10), .mov (.c (.s (.int .i64 0))), none⟩] [1, 5, 7, 8, 9, 10])
  (.seq (.seq (.ops [⟨(some 62), .mov (.t 1), none⟩,
    ⟨(some 63), .mov (.t 8), none⟩,
    ⟨(some 64), .iad 3 1 (.t 62) (.t 63), none⟩,
    ⟨(some 65), .load false 1 (.t 64), none⟩,
    ⟨(some 66), .call 12 [(.t 65), (.c (.s (.int .i64 6)))], none⟩] [1, 5, 7, 8, 9, 10, 66])
  (.block 2 (.seq (.seq (.ops [⟨(some 76), .bin .eql (.t 66) (.c (.s (.int .i64 0))), none⟩,
    ⟨(some 75), .mov (.t 76), none⟩] [1, 5, 7, 8, 9, 10, 66, 75])
  (.cond (.t 75) .skip
  (.ops [⟨(some 77), .bin .eql (.t 66) (.c (.s (.int .i64 1))), none⟩,
    ⟨(some 75), .mov (.t 77), none⟩] [1, 5, 7, 8, 9, 10, 66, 75])))
  (.cond (.t 75) (.ops [⟨(some 78), .mov (.t 5), none⟩,
    ⟨(some 79), .call 15 [(.t 78)], none⟩,
    ⟨(some 80), .mov (.t 7), none⟩,
    ⟨(some 81), .call 22 [(.t 80)], none⟩,
    ⟨(some 9), .mov (.t 79), none⟩,
    ⟨(some 10), .mov (.t 81), none⟩] [1, 5, 7, 8, 9, 10])
  (.seq (.seq (.ops [⟨(some 83), .bin .eql (.t 66) (.c (.s (.int .i64 2))), none⟩,
    ⟨(some 82), .mov (.t 83), none⟩] [1, 5, 7, 8, 9, 10, 66, 82])
  (.cond (.t 82) .skip
  (.ops [⟨(some 84), .bin .eql (.t 66) (.c (.s (.int .i64 3))), none⟩,
    ⟨(some 82), .mov (.t 84), none⟩] [1, 5, 7, 8, 9, 10, 66, 82])))
  (.cond (.t 82) (.ops [⟨(some 85), .mov (.t 5), none⟩,
    ⟨(some 86), .call 18 [(.t 85)], none⟩,
    ⟨(some 87), .mov (.t 7), none⟩,
    ⟨(some 88), .call 23 [(.t 87)], none⟩,
    ⟨(some 9), .mov (.t 86), none⟩,
    ⟨(some 10), .mov (.t 88), none⟩] [1, 5, 7, 8, 9, 10])
  (.seq (.ops [⟨(some 90), .bin .eql (.t 66) (.c (.s (.int .i64 4))), none⟩,
    ⟨(some 89), .mov (.t 90), none⟩] [1, 5, 7, 8, 9, 10, 89])
  (.cond (.t 89) (.ops [⟨(some 91), .mov (.t 5), none⟩,
    ⟨(some 92), .call 16 [(.t 91)], none⟩,
    ⟨(some 93), .mov (.t 7), none⟩,
    ⟨(some 94), .call 24 [(.t 93)], none⟩,
    ⟨(some 9), .mov (.t 92), none⟩,
    ⟨(some 10), .mov (.t 94), none⟩] [1, 5, 7, 8, 9, 10])
  (.seq (.ops [⟨(some 67), .mov (.t 5), none⟩,
    ⟨(some 68), .call 25 [(.t 67)], none⟩,
    ⟨(some 11), .mov (.t 68), none⟩] [1, 5, 7, 8, 9, 10, 11])
  (.seq (.seq (.ops [⟨(some 69), .mov (.t 11), none⟩,
    ⟨(some 70), .eqp false (.t 69) (.c (.s .nilp)), none⟩] [1, 5, 7, 8, 9, 10, 11, 70])
  (.cond (.t 70) (.seq (.ops [⟨(some 4), .mov (.c (.s (.bool false))), none⟩] [4])
  (.ret [4]))
  .skip))
  (.seq (.ops [⟨(some 71), .mov (.t 11), none⟩,
    ⟨(some 72), .call 16 [(.t 71)], none⟩] [1, 5, 7, 8, 9, 10, 11])
  (.ops [⟨(some 73), .mov (.t 11), none⟩,
    ⟨(some 74), .call 15 [(.t 73)], none⟩] [1, 5, 7, 8, 9, 10]))))))))))))
  (.seq (.ops [⟨(some 96), .mov (.t 5), none⟩,
    ⟨(some 97), .call 14 [(.t 96)], none⟩,
    ⟨(some 95), .mov (.t 97), none⟩,
    ⟨(some 98), .ext (.t 95) 0, none⟩,
    ⟨(some 99), .ext (.t 95) 1, none⟩,
    ⟨(some 12), .mov (.t 98), none⟩,
    ⟨(some 13), .mov (.t 99), none⟩] [1, 5, 7, 8, 9, 10, 12, 13])
  (.seq (.ops [⟨(some 101), .mov (.t 7), none⟩,
    ⟨(some 102), .call 26 [(.t 101)], none⟩,
    ⟨(some 100), .mov (.t 102), none⟩,
    ⟨(some 103), .ext (.t 100) 0, none⟩,
    ⟨(some 104), .ext (.t 100) 1, none⟩,
    ⟨(some 14), .mov (.t 103), none⟩,
    ⟨(some 15), .mov (.t 104), none⟩] [1, 5, 7, 8, 9, 10, 12, 13, 14, 15])
  (.seq (.ops [⟨(some 105), .mov (.t 9), none⟩,
    ⟨(some 106), .mov (.t 10), none⟩,
    ⟨(some 107), .bin .neq (.t 105) (.t 106), none⟩,
    ⟨(some 108), .mov (.t 107), none⟩,
    ⟨(some 109), .mov (.t 12), (some (108, false))⟩,
    ⟨(some 110), .mov (.t 14), (some (108, false))⟩,
    ⟨(some 111), .bin .neq (.t 109) (.t 110), (some (108, false))⟩,
    ⟨(some 112), .pick (.t 108) (.c (.s (.bool true))) (.t 111), none⟩,
    ⟨(some 113), .mov (.t 112), none⟩,
    ⟨(some 114), .mov (.t 13), (some (113, false))⟩,
    ⟨(some 115), .mov (.t 15), (some (113, false))⟩,
    ⟨(some 116), .eqb true (.t 114) (.t 115), (some (113, false))⟩,
    ⟨(some 117), .pick (.t 113) (.c (.s (.bool true))) (.t 116), none⟩,
    ⟨(some 118), .mov (.t 117), none⟩,
    ⟨(some 119), .mov (.t 5), (some (118, false))⟩,
    ⟨(some 120), .call 17 [(.t 119)], (some (118, false))⟩,
    ⟨(some 121), .mov (.t 7), (some (118, false))⟩,
    ⟨(some 122), .call 28 [(.t 121)], (some (118, false))⟩,
    ⟨(some 123), .call 27 [(.t 120), (.t 122)], (some (118, false))⟩,
    ⟨(some 124), .un .not (.t 123), (some (118, false))⟩,
    ⟨(some 125), .pick (.t 118) (.c (.s (.bool true))) (.t 124), none⟩] [1, 5, 7, 8, 125])
  (.cond (.t 125) (.seq (.ops [⟨(some 4), .mov (.c (.s (.bool false))), none⟩] [4])
  (.ret [4]))
  .skip)))))))
  (.ops [⟨(some 60), .mov (.t 8), none⟩,
    ⟨(some 61), .bin .add (.t 60) (.c (.s (.int .i64 1))), none⟩,
    ⟨(some 8), .mov (.t 61), none⟩] [1, 5, 7, 8])))
def b6 : EC := (.seq (.ops [⟨(some 4), .mov (.c (.s (.bool false))), none⟩] [0, 1])
  (.seq (.seq (.ops [⟨(some 16), .mov (.t 0), none⟩,
    ⟨(some 17), .bin .rem (.t 16) (.c (.s (.int .i64 7))), none⟩,
    ⟨(some 18), .bin .neq (.t 17) (.c (.s (.int .i64 6))), none⟩] [0, 1, 18])
  (.cond (.t 18) (.ops [⟨(some 19), .mov (.t 0), none⟩,
    ⟨(some 20), .call 12 [(.t 19), (.c (.s (.int .i64 8)))], none⟩,
    ⟨(some 0), .mov (.t 20), none⟩] [0, 1])
  .skip))
  (.seq (.seq (.ops [⟨(some 21), .mov (.t 0), none⟩,
    ⟨(some 22), .bin .rem (.t 21) (.c (.s (.int .i64 5))), none⟩,
    ⟨(some 23), .bin .eql (.t 22) (.c (.s (.int .i64 3))), none⟩] [0, 1, 23])
  (.cond (.t 23) (.ops [⟨(some 24), .mov (.t 0), none⟩,
    ⟨(some 25), .call 12 [(.t 24), (.c (.s (.int .i64 4)))], none⟩,
    ⟨(some 26), .bin .sub (.c (.s (.int .i64 399))) (.t 25), none⟩,
    ⟨(some 0), .mov (.t 26), none⟩] [0, 1])
  .skip))
  (.seq (.ops [⟨(some 28), .mov (.t 0), none⟩,
    ⟨(some 29), .call 13 [(.t 28)], none⟩,
    ⟨(some 27), .mov (.t 29), none⟩,
    ⟨(some 30), .ext (.t 27) 0, none⟩,
    ⟨(some 31), .ext (.t 27) 1, none⟩,
    ⟨(some 5), .mov (.t 30), none⟩,
    ⟨(some 6), .mov (.t 31), none⟩] [0, 1, 5, 6])
  (.seq (.seq (.ops [⟨(some 32), .mov (.t 0), none⟩,
    ⟨(some 33), .call 20 [(.t 32)], none⟩,
    ⟨(some 34), .un .not (.t 33), none⟩] [0, 1, 5, 6, 34])
  (.cond (.t 34) (.seq (.ops [⟨(some 35), .mov (.t 6), none⟩,
    ⟨(some 36), .bin .eql (.t 35) (.c (.s (.int .i64 1))), none⟩,
    ⟨(some 37), .mov (.t 36), none⟩,
    ⟨(some 38), .mov (.t 5), (some (37, true))⟩,
    ⟨(some 39), .eqp false (.t 38) (.c (.s .nilp)), (some (37, true))⟩,
    ⟨(some 40), .pick (.t 37) (.t 39) (.c (.s (.bool false))), none⟩,
    ⟨(some 41), .mov (.t 40), none⟩,
    ⟨(some 42), .call 19 [], (some (41, true))⟩,
    ⟨(some 43), .pick (.t 41) (.t 42) (.c (.s (.bool false))), none⟩,
    ⟨(some 4), .mov (.t 43), none⟩] [4])
  (.ret [4]))
  .skip))
  (.seq (.ops [⟨(some 44), .mov (.t 0), none⟩,
    ⟨(some 45), .call 21 [(.t 44)], none⟩,
    ⟨(some 7), .mov (.t 45), none⟩] [1, 5, 6, 7])
  (.seq (.seq (.ops [⟨(some 46), .mov (.t 6), none⟩,
    ⟨(some 47), .bin .neq (.t 46) (.c (.s (.int .i64 0))), none⟩,
    ⟨(some 48), .mov (.t 47), none⟩,
    ⟨(some 49), .mov (.t 5), (some (48, false))⟩,
    ⟨(some 50), .eqp false (.t 49) (.c (.s .nilp)), (some (48, false))⟩,
    ⟨(some 51), .pick (.t 48) (.c (.s (.bool true))) (.t 50), none⟩] [1, 5, 7, 51])
  (.cond (.t 51) (.seq (.ops [⟨(some 4), .mov (.c (.s (.bool false))), none⟩] [4])
  (.ret [4]))
  .skip))
  (.seq (.seq (.ops [⟨(some 8), .mov (.c (.s (.int .i64 0))), none⟩] [1, 5, 7, 8])
  (.block 0 (.loop [1, 5, 7, 8] l6_0)))
  (.seq (.ops [⟨(some 126), .call 19 [], none⟩,
    ⟨(some 4), .mov (.t 126), none⟩] [4])
  (.ret [4]))))))))))
def e6 : EF := ⟨127, b6, [.tmp 4]⟩

/-- scutage/scutagekeep.Within -/
def h12 : List (List Nat) := [[0, 1], [0, 1, 7], [4], [4], [1, 5], [1, 5, 12], [5], [4], [4]]
def b12 : EC := (.seq (.ops [⟨(some 4), .mov (.c (.s (.int .i64 0))), none⟩] [0, 1])
  (.seq (.seq (.ops [⟨(some 6), .mov (.t 1), none⟩,
    ⟨(some 7), .bin .lss (.t 6) (.c (.s (.int .i64 1))), none⟩] [0, 1, 7])
  (.cond (.t 7) (.seq (.ops [⟨(some 4), .mov (.c (.s (.int .i64 0))), none⟩] [4])
  (.ret [4]))
  .skip))
  (.seq (.ops [⟨(some 8), .mov (.t 0), none⟩,
    ⟨(some 9), .mov (.t 1), none⟩,
    ⟨(some 10), .bin .rem (.t 8) (.t 9), none⟩,
    ⟨(some 5), .mov (.t 10), none⟩] [1, 5])
  (.seq (.seq (.ops [⟨(some 11), .mov (.t 5), none⟩,
    ⟨(some 12), .bin .lss (.t 11) (.c (.s (.int .i64 0))), none⟩] [1, 5, 12])
  (.cond (.t 12) (.ops [⟨(some 13), .mov (.t 5), none⟩,
    ⟨(some 14), .mov (.t 1), none⟩,
    ⟨(some 15), .bin .add (.t 13) (.t 14), none⟩,
    ⟨(some 5), .mov (.t 15), none⟩] [5])
  .skip))
  (.seq (.ops [⟨(some 16), .mov (.t 5), none⟩,
    ⟨(some 4), .mov (.t 16), none⟩] [4])
  (.ret [4]))))))
def e12 : EF := ⟨17, b12, [.tmp 4]⟩

/-- scutage/status.New -/
def h13 : List (List Nat) := [[0], [0, 6], [2, 3], [2, 3], [2, 3], [2, 3]]
def b13 : EC := (.seq (.ops [⟨(some 2), .mov (.c (.s .nilp)), none⟩,
    ⟨(some 3), .mov (.c (.s (.int .i64 0))), none⟩] [0])
  (.seq (.seq (.ops [⟨(some 4), .mov (.t 0), none⟩,
    ⟨(some 5), .call 38 [(.t 4)], none⟩,
    ⟨(some 6), .un .not (.t 5), none⟩] [0, 6])
  (.cond (.t 6) (.seq (.ops [⟨(some 2), .mov (.c (.s .nilp)), none⟩,
    ⟨(some 3), .mov (.c (.s (.int .i64 1))), none⟩] [2, 3])
  (.ret [2, 3]))
  .skip))
  (.seq (.ops [⟨(some 7), .mov (.t 0), none⟩,
    ⟨(some 8), .bsl 4 1 [(.bool false)] [(0, 1, (.c (.s (.bool false))))], none⟩,
    ⟨(some 9), .build [(.int .i64 0), .nils] [(0, 1, (.t 7)), (1, 1, (.t 8))], none⟩,
    ⟨(some 10), .new 67 2 (.t 9), none⟩,
    ⟨(some 2), .mov (.t 10), none⟩,
    ⟨(some 3), .mov (.c (.s (.int .i64 0))), none⟩] [2, 3])
  (.ret [2, 3]))))
def e13 : EF := ⟨11, b13, [.tmp 2, .tmp 3]⟩

/-- (*scutage/status.Status).Open -/
def h14 : List (List Nat) := [[0], [4], [4, 9], [2, 3], [2, 3], [2, 3], [2, 3]]
def b14 : EC := (.seq (.ops [⟨(some 2), .mov (.c (.s (.int .i64 0))), none⟩,
    ⟨(some 3), .mov (.c (.s (.bool false))), none⟩] [0])
  (.seq (.ops [⟨(some 5), .mov (.t 0), none⟩,
    ⟨(some 6), .call 39 [(.t 5)], none⟩,
    ⟨(some 4), .mov (.t 6), none⟩] [4])
  (.seq (.seq (.ops [⟨(some 7), .mov (.t 4), none⟩,
    ⟨(some 8), .call 38 [(.t 7)], none⟩,
    ⟨(some 9), .un .not (.t 8), none⟩] [4, 9])
  (.cond (.t 9) (.seq (.ops [⟨(some 2), .mov (.c (.s (.int .i64 0))), none⟩,
    ⟨(some 3), .mov (.c (.s (.bool false))), none⟩] [2, 3])
  (.ret [2, 3]))
  .skip))
  (.seq (.ops [⟨(some 10), .mov (.t 4), none⟩,
    ⟨(some 2), .mov (.t 10), none⟩,
    ⟨(some 3), .mov (.c (.s (.bool true))), none⟩] [2, 3])
  (.ret [2, 3])))))
def e14 : EF := ⟨11, b14, [.tmp 2, .tmp 3]⟩

/-- (*scutage/status.Status).Close -/
def h15 : List (List Nat) := [[0], [0, 4], [0, 11], [2], [2], [], [2], [2]]
def b15 : EC := (.seq (.ops [⟨(some 2), .mov (.c (.s (.int .i64 0))), none⟩] [0])
  (.seq (.seq (.ops [⟨(some 6), .mov (.t 0), none⟩,
    ⟨(some 7), .call 14 [(.t 6)], none⟩,
    ⟨(some 5), .mov (.t 7), none⟩,
    ⟨(some 8), .ext (.t 5) 0, none⟩,
    ⟨(some 9), .ext (.t 5) 1, none⟩,
    ⟨(some 3), .mov (.t 8), none⟩,
    ⟨(some 4), .mov (.t 9), none⟩] [0, 4])
  (.seq (.ops [⟨(some 10), .mov (.t 4), none⟩,
    ⟨(some 11), .un .not (.t 10), none⟩] [0, 11])
  (.cond (.t 11) (.seq (.ops [⟨(some 2), .mov (.c (.s (.int .i64 8))), none⟩] [2])
  (.ret [2]))
  .skip)))
  (.seq (.ops [⟨(some 12), .mov (.t 0), none⟩,
    ⟨(some 13), .mov (.t 0), none⟩,
    ⟨(some 14), .nilc (.t 13), none⟩,
    ⟨(some 15), .fad 1 (.t 14), none⟩,
    ⟨(some 16), .load false 1 (.t 15), none⟩,
    ⟨(some 17), .bsl 4 1 [(.bool false)] [(0, 1, (.c (.s (.bool false))))], none⟩,
    ⟨(some 18), .app 4 1 1 (.t 16) (.t 17), none⟩,
    ⟨(some 19), .nilc (.t 12), none⟩,
    ⟨(some 20), .fad 1 (.t 19), none⟩,
    ⟨none, .store 1 (.t 20) (.t 18), none⟩] [])
  (.seq (.ops [⟨(some 2), .mov (.c (.s (.int .i64 0))), none⟩] [2])
  (.ret [2])))))
def e15 : EF := ⟨21, b15, [.tmp 2]⟩

/-- (*scutage/status.Status).Touch -/
def h16 : List (List Nat) := [[0], [0, 4], [0, 11], [2], [2], [], [2], [2]]
def b16 : EC := (.seq (.ops [⟨(some 2), .mov (.c (.s (.int .i64 0))), none⟩] [0])
  (.seq (.seq (.ops [⟨(some 6), .mov (.t 0), none⟩,
    ⟨(some 7), .call 14 [(.t 6)], none⟩,
    ⟨(some 5), .mov (.t 7), none⟩,
    ⟨(some 8), .ext (.t 5) 0, none⟩,
    ⟨(some 9), .ext (.t 5) 1, none⟩,
    ⟨(some 3), .mov (.t 8), none⟩,
    ⟨(some 4), .mov (.t 9), none⟩] [0, 4])
  (.seq (.ops [⟨(some 10), .mov (.t 4), none⟩,
    ⟨(some 11), .un .not (.t 10), none⟩] [0, 11])
  (.cond (.t 11) (.seq (.ops [⟨(some 2), .mov (.c (.s (.int .i64 8))), none⟩] [2])
  (.ret [2]))
  .skip)))
  (.seq (.draw [⟨(some 12), .mov (.t 0), none⟩,
    ⟨(some 13), .nilc (.t 12), none⟩,
    ⟨(some 14), .fad 1 (.t 13), none⟩,
    ⟨(some 15), .load false 1 (.t 14), none⟩,
    ⟨(some 16), .mov (.t 0), none⟩,
    ⟨(some 17), .nilc (.t 16), none⟩,
    ⟨(some 18), .fad 1 (.t 17), none⟩,
    ⟨(some 19), .load false 1 (.t 18), none⟩,
    ⟨(some 20), .len (.t 19), none⟩,
    ⟨(some 21), .bin .sub (.t 20) (.c (.s (.int .i64 1))), none⟩,
    ⟨(some 22), .iad 4 1 (.t 15) (.t 21), none⟩,
    ⟨none, .store 1 (.t 22) (.c (.s (.bool true))), none⟩] [] [])
  (.seq (.ops [⟨(some 2), .mov (.c (.s (.int .i64 0))), none⟩] [2])
  (.ret [2])))))
def e16 : EF := ⟨23, b16, [.tmp 2]⟩

/-- (*scutage/status.Status).Closed -/
def h17 : List (List Nat) := [[0], [0, 3], [0, 3, 4], [0, 3, 4], [0, 3, 4, 12], [3], [0, 3, 4], [0, 3, 4], [2], [2]]
def l17_0 : EC := (.seq (.seq (.ops [⟨(some 9), .mov (.t 4), none⟩,
    ⟨(some 10), .mov (.t 0), none⟩,
    ⟨(some 11), .call 39 [(.t 10)], none⟩,
    ⟨(some 12), .bin .lss (.t 9) (.t 11), none⟩] [0, 3, 4, 12])
  (.cond (.t 12) .skip
  (.exit 0 [3])))
  (.seq (.block 1 (.ops [⟨(some 15), .mov (.t 3), none⟩,
    ⟨(some 16), .mov (.t 4), none⟩,
    ⟨(some 17), .bsl 3 1 [(.int .i64 0)] [(0, 1, (.t 16))], none⟩,
    ⟨(some 18), .app 3 1 8 (.t 15) (.t 17), none⟩,
    ⟨(some 3), .mov (.t 18), none⟩] [0, 3, 4]))
  (.ops [⟨(some 13), .mov (.t 4), none⟩,
    ⟨(some 14), .bin .add (.t 13) (.c (.s (.int .i64 1))), none⟩,
    ⟨(some 4), .mov (.t 14), none⟩] [0, 3, 4])))
def b17 : EC := (.seq (.ops [⟨(some 2), .mov (.c (.s .nils)), none⟩] [0])
  (.seq (.ops [⟨(some 3), .mov (.c (.s .nils)), none⟩] [0, 3])
  (.seq (.seq (.ops [⟨(some 5), .mov (.t 0), none⟩,
    ⟨(some 6), .nilc (.t 5), none⟩,
    ⟨(some 7), .fad 0 (.t 6), none⟩,
    ⟨(some 8), .load false 1 (.t 7), none⟩,
    ⟨(some 4), .mov (.t 8), none⟩] [0, 3, 4])
  (.block 0 (.loop [0, 3, 4] l17_0)))
  (.seq (.ops [⟨(some 19), .mov (.t 3), none⟩,
    ⟨(some 2), .mov (.t 19), none⟩] [2])
  (.ret [2])))))
def e17 : EF := ⟨20, b17, [.tmp 2]⟩

/-- (*scutage/status.Status).Reopen -/
def h18 : List (List Nat) := [[0], [0, 3], [0, 3, 10], [2], [2], [0, 3, 13], [2], [2], [], [2], [2]]
def b18 : EC := (.seq (.ops [⟨(some 2), .mov (.c (.s (.int .i64 0))), none⟩] [0])
  (.seq (.ops [⟨(some 4), .mov (.t 0), none⟩,
    ⟨(some 5), .nilc (.t 4), none⟩,
    ⟨(some 6), .fad 1 (.t 5), none⟩,
    ⟨(some 7), .load false 1 (.t 6), none⟩,
    ⟨(some 8), .len (.t 7), none⟩,
    ⟨(some 9), .bin .sub (.t 8) (.c (.s (.int .i64 1))), none⟩,
    ⟨(some 3), .mov (.t 9), none⟩] [0, 3])
  (.seq (.block 0 (.seq (.ops [⟨(some 11), .mov (.t 3), none⟩,
    ⟨(some 12), .bin .eql (.t 11) (.c (.s (.int .i64 0))), none⟩,
    ⟨(some 10), .mov (.t 12), none⟩] [0, 3, 10])
  (.cond (.t 10) (.seq (.ops [⟨(some 2), .mov (.c (.s (.int .i64 3))), none⟩] [2])
  (.ret [2]))
  (.seq (.ops [⟨(some 14), .mov (.t 0), none⟩,
    ⟨(some 15), .nilc (.t 14), none⟩,
    ⟨(some 16), .fad 1 (.t 15), none⟩,
    ⟨(some 17), .load false 1 (.t 16), none⟩,
    ⟨(some 18), .mov (.t 3), none⟩,
    ⟨(some 19), .iad 4 1 (.t 17) (.t 18), none⟩,
    ⟨(some 20), .load false 1 (.t 19), none⟩,
    ⟨(some 13), .mov (.t 20), none⟩] [0, 3, 13])
  (.cond (.t 13) (.seq (.ops [⟨(some 2), .mov (.c (.s (.int .i64 8))), none⟩] [2])
  (.ret [2]))
  .skip)))))
  (.seq (.ops [⟨(some 21), .mov (.t 0), none⟩,
    ⟨(some 22), .mov (.t 0), none⟩,
    ⟨(some 23), .nilc (.t 22), none⟩,
    ⟨(some 24), .fad 1 (.t 23), none⟩,
    ⟨(some 25), .load false 1 (.t 24), none⟩,
    ⟨(some 26), .mov (.t 3), none⟩,
    ⟨(some 27), .sli 4 1 (.t 25) none (some (.t 26)), none⟩,
    ⟨(some 28), .nilc (.t 21), none⟩,
    ⟨(some 29), .fad 1 (.t 28), none⟩,
    ⟨none, .store 1 (.t 29) (.t 27), none⟩] [])
  (.seq (.ops [⟨(some 2), .mov (.c (.s (.int .i64 0))), none⟩] [2])
  (.ret [2]))))))
def e18 : EF := ⟨30, b18, [.tmp 2]⟩

/-- scutage/scutagelaw08.wakes -/
def h19 : List (List Nat) := [[], [1, 2], [1, 14], [0], [0], [3, 4], [0], [0]]
def b19 : EC := (.seq (.ops [⟨(some 0), .mov (.c (.s (.bool false))), none⟩] [])
  (.seq (.ops [⟨(some 6), .call 13 [(.c (.s (.int .i64 7)))], none⟩,
    ⟨(some 5), .mov (.t 6), none⟩,
    ⟨(some 7), .ext (.t 5) 0, none⟩,
    ⟨(some 8), .ext (.t 5) 1, none⟩,
    ⟨(some 1), .mov (.t 7), none⟩,
    ⟨(some 2), .mov (.t 8), none⟩] [1, 2])
  (.seq (.seq (.ops [⟨(some 9), .mov (.t 2), none⟩,
    ⟨(some 10), .bin .neq (.t 9) (.c (.s (.int .i64 0))), none⟩,
    ⟨(some 11), .mov (.t 10), none⟩,
    ⟨(some 12), .mov (.t 1), (some (11, false))⟩,
    ⟨(some 13), .eqp false (.t 12) (.c (.s .nilp)), (some (11, false))⟩,
    ⟨(some 14), .pick (.t 11) (.c (.s (.bool true))) (.t 13), none⟩] [1, 14])
  (.cond (.t 14) (.seq (.ops [⟨(some 0), .mov (.c (.s (.bool false))), none⟩] [0])
  (.ret [0]))
  .skip))
  (.seq (.ops [⟨(some 16), .mov (.t 1), none⟩,
    ⟨(some 17), .call 14 [(.t 16)], none⟩,
    ⟨(some 15), .mov (.t 17), none⟩,
    ⟨(some 18), .ext (.t 15) 0, none⟩,
    ⟨(some 19), .ext (.t 15) 1, none⟩,
    ⟨(some 3), .mov (.t 18), none⟩,
    ⟨(some 4), .mov (.t 19), none⟩] [3, 4])
  (.seq (.ops [⟨(some 20), .mov (.t 4), none⟩,
    ⟨(some 21), .mov (.t 20), none⟩,
    ⟨(some 22), .mov (.t 3), (some (21, true))⟩,
    ⟨(some 23), .bin .eql (.t 22) (.c (.s (.int .i64 7))), (some (21, true))⟩,
    ⟨(some 24), .pick (.t 21) (.t 23) (.c (.s (.bool false))), none⟩,
    ⟨(some 0), .mov (.t 24), none⟩] [0])
  (.ret [0]))))))
def e19 : EF := ⟨25, b19, [.tmp 0]⟩

/-- scutage/scutageref01.Period -/
def h20 : List (List Nat) := [[0], [2], [2]]
def b20 : EC := (.seq (.ops [⟨(some 2), .mov (.c (.s (.bool false))), none⟩] [0])
  (.seq (.ops [⟨(some 3), .mov (.t 0), none⟩,
    ⟨(some 4), .bin .geq (.t 3) (.c (.s (.int .i64 0))), none⟩,
    ⟨(some 5), .mov (.t 4), none⟩,
    ⟨(some 6), .mov (.t 0), (some (5, true))⟩,
    ⟨(some 7), .bin .leq (.t 6) (.c (.s (.int .i64 399))), (some (5, true))⟩,
    ⟨(some 8), .pick (.t 5) (.t 7) (.c (.s (.bool false))), none⟩,
    ⟨(some 2), .mov (.t 8), none⟩] [2])
  (.ret [2])))
def e20 : EF := ⟨9, b20, [.tmp 2]⟩

/-- scutage/scutageref01.NewStatus -/
def h21 : List (List Nat) := [[0], [2], [2]]
def b21 : EC := (.seq (.ops [⟨(some 2), .mov (.c (.s .nilp)), none⟩] [0])
  (.seq (.ops [⟨(some 3), .mov (.t 0), none⟩,
    ⟨(some 4), .mov (.t 0), none⟩,
    ⟨(some 5), .bsl 4 1 [(.bool false)] [(0, 1, (.c (.s (.bool false))))], none⟩,
    ⟨(some 6), .build [(.int .i64 0), (.int .i64 0), .nils] [(0, 1, (.t 3)), (1, 1, (.t 4)), (2, 1, (.t 5))], none⟩,
    ⟨(some 7), .new 70 3 (.t 6), none⟩,
    ⟨(some 2), .mov (.t 7), none⟩] [2])
  (.ret [2])))
def e21 : EF := ⟨8, b21, [.tmp 2]⟩

/-- (*scutage/scutageref01.Status).Close -/
def h22 : List (List Nat) := [[0], [0, 8], [2], [2], [0], [], [2], [2]]
def b22 : EC := (.seq (.ops [⟨(some 2), .mov (.c (.s (.int .i64 0))), none⟩] [0])
  (.seq (.seq (.ops [⟨(some 3), .mov (.t 0), none⟩,
    ⟨(some 4), .nilc (.t 3), none⟩,
    ⟨(some 5), .fad 1 (.t 4), none⟩,
    ⟨(some 6), .load false 1 (.t 5), none⟩,
    ⟨(some 7), .call 20 [(.t 6)], none⟩,
    ⟨(some 8), .un .not (.t 7), none⟩] [0, 8])
  (.cond (.t 8) (.seq (.ops [⟨(some 2), .mov (.c (.s (.int .i64 8))), none⟩] [2])
  (.ret [2]))
  .skip))
  (.seq (.ops [⟨(some 9), .mov (.t 0), none⟩,
    ⟨(some 10), .nilc (.t 9), none⟩,
    ⟨(some 11), .fad 1 (.t 10), none⟩,
    ⟨(some 12), .load false 1 (.t 11), none⟩,
    ⟨(some 13), .bin .add (.t 12) (.c (.s (.int .i64 1))), none⟩,
    ⟨(some 14), .nilc (.t 9), none⟩,
    ⟨(some 15), .fad 1 (.t 14), none⟩,
    ⟨none, .store 1 (.t 15) (.t 13), none⟩] [0])
  (.seq (.ops [⟨(some 16), .mov (.t 0), none⟩,
    ⟨(some 17), .mov (.t 0), none⟩,
    ⟨(some 18), .nilc (.t 17), none⟩,
    ⟨(some 19), .fad 2 (.t 18), none⟩,
    ⟨(some 20), .load false 1 (.t 19), none⟩,
    ⟨(some 21), .bsl 4 1 [(.bool false)] [(0, 1, (.c (.s (.bool false))))], none⟩,
    ⟨(some 22), .app 4 1 1 (.t 20) (.t 21), none⟩,
    ⟨(some 23), .nilc (.t 16), none⟩,
    ⟨(some 24), .fad 2 (.t 23), none⟩,
    ⟨none, .store 1 (.t 24) (.t 22), none⟩] [])
  (.seq (.ops [⟨(some 2), .mov (.c (.s (.int .i64 0))), none⟩] [2])
  (.ret [2]))))))
def e22 : EF := ⟨25, b22, [.tmp 2]⟩

/-- (*scutage/scutageref01.Status).Reopen -/
def h23 : List (List Nat) := [[0], [0, 3], [2], [2], [0, 13], [2], [2], [0], [], [2], [2]]
def b23 : EC := (.seq (.ops [⟨(some 2), .mov (.c (.s (.int .i64 0))), none⟩] [0])
  (.seq (.block 0 (.seq (.draw [⟨(some 4), .mov (.t 0), none⟩,
    ⟨(some 5), .nilc (.t 4), none⟩,
    ⟨(some 6), .fad 1 (.t 5), none⟩,
    ⟨(some 7), .load false 1 (.t 6), none⟩,
    ⟨(some 8), .mov (.t 0), none⟩,
    ⟨(some 9), .nilc (.t 8), none⟩,
    ⟨(some 10), .fad 0 (.t 9), none⟩,
    ⟨(some 11), .load false 1 (.t 10), none⟩,
    ⟨(some 12), .bin .eql (.t 7) (.t 11), none⟩,
    ⟨(some 3), .mov (.t 12), none⟩] [] [0, 3])
  (.cond (.t 3) (.seq (.ops [⟨(some 2), .mov (.c (.s (.int .i64 3))), none⟩] [2])
  (.ret [2]))
  (.seq (.draw [⟨(some 14), .mov (.t 0), none⟩,
    ⟨(some 15), .nilc (.t 14), none⟩,
    ⟨(some 16), .fad 2 (.t 15), none⟩,
    ⟨(some 17), .load false 1 (.t 16), none⟩,
    ⟨(some 18), .mov (.t 0), none⟩,
    ⟨(some 19), .nilc (.t 18), none⟩,
    ⟨(some 20), .fad 2 (.t 19), none⟩,
    ⟨(some 21), .load false 1 (.t 20), none⟩,
    ⟨(some 22), .len (.t 21), none⟩,
    ⟨(some 23), .bin .sub (.t 22) (.c (.s (.int .i64 1))), none⟩,
    ⟨(some 24), .iad 4 1 (.t 17) (.t 23), none⟩,
    ⟨(some 25), .load false 1 (.t 24), none⟩,
    ⟨(some 13), .mov (.t 25), none⟩] [] [0, 13])
  (.cond (.t 13) (.seq (.ops [⟨(some 2), .mov (.c (.s (.int .i64 8))), none⟩] [2])
  (.ret [2]))
  .skip)))))
  (.seq (.ops [⟨(some 26), .mov (.t 0), none⟩,
    ⟨(some 27), .nilc (.t 26), none⟩,
    ⟨(some 28), .fad 1 (.t 27), none⟩,
    ⟨(some 29), .load false 1 (.t 28), none⟩,
    ⟨(some 30), .bin .sub (.t 29) (.c (.s (.int .i64 1))), none⟩,
    ⟨(some 31), .nilc (.t 26), none⟩,
    ⟨(some 32), .fad 1 (.t 31), none⟩,
    ⟨none, .store 1 (.t 32) (.t 30), none⟩] [0])
  (.seq (.draw [⟨(some 33), .mov (.t 0), none⟩,
    ⟨(some 34), .mov (.t 0), none⟩,
    ⟨(some 35), .nilc (.t 34), none⟩,
    ⟨(some 36), .fad 2 (.t 35), none⟩,
    ⟨(some 37), .load false 1 (.t 36), none⟩,
    ⟨(some 38), .mov (.t 0), none⟩,
    ⟨(some 39), .nilc (.t 38), none⟩,
    ⟨(some 40), .fad 2 (.t 39), none⟩,
    ⟨(some 41), .load false 1 (.t 40), none⟩,
    ⟨(some 42), .len (.t 41), none⟩,
    ⟨(some 43), .bin .sub (.t 42) (.c (.s (.int .i64 1))), none⟩,
    ⟨(some 44), .sli 4 1 (.t 37) none (some (.t 43)), none⟩,
    ⟨(some 45), .nilc (.t 33), none⟩,
    ⟨(some 46), .fad 2 (.t 45), none⟩,
    ⟨none, .store 1 (.t 46) (.t 44), none⟩] [] [])
  (.seq (.ops [⟨(some 2), .mov (.c (.s (.int .i64 0))), none⟩] [2])
  (.ret [2]))))))
def e23 : EF := ⟨47, b23, [.tmp 2]⟩

/-- (*scutage/scutageref01.Status).Touch -/
def h24 : List (List Nat) := [[0], [0, 8], [2], [2], [], [2], [2]]
def b24 : EC := (.seq (.ops [⟨(some 2), .mov (.c (.s (.int .i64 0))), none⟩] [0])
  (.seq (.seq (.ops [⟨(some 3), .mov (.t 0), none⟩,
    ⟨(some 4), .nilc (.t 3), none⟩,
    ⟨(some 5), .fad 1 (.t 4), none⟩,
    ⟨(some 6), .load false 1 (.t 5), none⟩,
    ⟨(some 7), .call 20 [(.t 6)], none⟩,
    ⟨(some 8), .un .not (.t 7), none⟩] [0, 8])
  (.cond (.t 8) (.seq (.ops [⟨(some 2), .mov (.c (.s (.int .i64 8))), none⟩] [2])
  (.ret [2]))
  .skip))
  (.seq (.draw [⟨(some 9), .mov (.t 0), none⟩,
    ⟨(some 10), .nilc (.t 9), none⟩,
    ⟨(some 11), .fad 2 (.t 10), none⟩,
    ⟨(some 12), .load false 1 (.t 11), none⟩,
    ⟨(some 13), .mov (.t 0), none⟩,
    ⟨(some 14), .nilc (.t 13), none⟩,
    ⟨(some 15), .fad 2 (.t 14), none⟩,
    ⟨(some 16), .load false 1 (.t 15), none⟩,
    ⟨(some 17), .len (.t 16), none⟩,
    ⟨(some 18), .bin .sub (.t 17) (.c (.s (.int .i64 1))), none⟩,
    ⟨(some 19), .iad 4 1 (.t 12) (.t 18), none⟩,
    ⟨none, .store 1 (.t 19) (.c (.s (.bool true))), none⟩] [] [])
  (.seq (.ops [⟨(some 2), .mov (.c (.s (.int .i64 0))), none⟩] [2])
  (.ret [2])))))
def e24 : EF := ⟨20, b24, [.tmp 2]⟩

/-- (*scutage/status.Status).Clone -/
def h25 : List (List Nat) := [[0], [2], [2]]
def b25 : EC := (.seq (.ops [⟨(some 2), .mov (.c (.s .nilp)), none⟩] [0])
  (.seq (.draw [⟨(some 3), .mov (.t 0), none⟩,
    ⟨(some 4), .nilc (.t 3), none⟩,
    ⟨(some 5), .fad 0 (.t 4), none⟩,
    ⟨(some 6), .load false 1 (.t 5), none⟩,
    ⟨(some 7), .mov (.t 0), none⟩,
    ⟨(some 8), .nilc (.t 7), none⟩,
    ⟨(some 9), .fad 1 (.t 8), none⟩,
    ⟨(some 10), .load false 1 (.t 9), none⟩,
    ⟨(some 11), .call 40 [(.t 10)], none⟩,
    ⟨(some 12), .build [(.int .i64 0), .nils] [(0, 1, (.t 6)), (1, 1, (.t 11))], none⟩,
    ⟨(some 13), .new 67 2 (.t 12), none⟩,
    ⟨(some 2), .mov (.t 13), none⟩] [(3, 8)] [2])
  (.ret [2])))
def e25 : EF := ⟨14, b25, [.tmp 2]⟩

/-- (*scutage/scutageref01.Status).Open -/
def h26 : List (List Nat) := [[0], [0, 9], [2, 3], [2, 3], [2, 3], [2, 3]]
def b26 : EC := (.seq (.ops [⟨(some 2), .mov (.c (.s (.int .i64 0))), none⟩,
    ⟨(some 3), .mov (.c (.s (.bool false))), none⟩] [0])
  (.seq (.seq (.ops [⟨(some 4), .mov (.t 0), none⟩,
    ⟨(some 5), .nilc (.t 4), none⟩,
    ⟨(some 6), .fad 1 (.t 5), none⟩,
    ⟨(some 7), .load false 1 (.t 6), none⟩,
    ⟨(some 8), .call 20 [(.t 7)], none⟩,
    ⟨(some 9), .un .not (.t 8), none⟩] [0, 9])
  (.cond (.t 9) (.seq (.ops [⟨(some 2), .mov (.c (.s (.int .i64 0))), none⟩,
    ⟨(some 3), .mov (.c (.s (.bool false))), none⟩] [2, 3])
  (.ret [2, 3]))
  .skip))
  (.seq (.ops [⟨(some 10), .mov (.t 0), none⟩,
    ⟨(some 11), .nilc (.t 10), none⟩,
    ⟨(some 12), .fad 1 (.t 11), none⟩,
    ⟨(some 13), .load false 1 (.t 12), none⟩,
    ⟨(some 2), .mov (.t 13), none⟩,
    ⟨(some 3), .mov (.c (.s (.bool true))), none⟩] [2, 3])
  (.ret [2, 3]))))
def e26 : EF := ⟨14, b26, [.tmp 2, .tmp 3]⟩

/-- scutage/scutagekeep.Same[int] -/
def h27 : List (List Nat) := [[0, 1], [0, 1, 10], [4], [4], [0, 1, 5], [0, 1, 5], [0, 1, 5, 14], [], [0, 1, 5, 25], [4], [4], [0, 1, 5], [4], [4]]
def l27_0 : EC := (.seq (.seq (.ops [⟨(some 11), .mov (.t 5), none⟩,
    ⟨(some 12), .mov (.t 0), none⟩,
    ⟨(some 13), .len (.t 12), none⟩,
    ⟨(some 14), .bin .lss (.t 11) (.t 13), none⟩] [0, 1, 5, 14])
  (.cond (.t 14) .skip
  (.exit 0 [])))
  (.seq (.block 1 (.seq (.draw [⟨(some 17), .mov (.t 0), none⟩,
    ⟨(some 18), .mov (.t 5), none⟩,
    ⟨(some 19), .iad 3 1 (.t 17) (.t 18), none⟩,
    ⟨(some 20), .load false 1 (.t 19), none⟩,
    ⟨(some 21), .mov (.t 1), none⟩,
    ⟨(some 22), .mov (.t 5), none⟩,
    ⟨(some 23), .iad 3 1 (.t 21) (.t 22), none⟩,
    ⟨(some 24), .load false 1 (.t 23), none⟩,
    ⟨(some 25), .bin .neq (.t 20) (.t 24), none⟩] [] [0, 1, 5, 25])
  (.cond (.t 25) (.seq (.ops [⟨(some 4), .mov (.c (.s (.bool false))), none⟩] [4])
  (.ret [4]))
  .skip)))
  (.ops [⟨(some 15), .mov (.t 5), none⟩,
    ⟨(some 16), .bin .add (.t 15) (.c (.s (.int .i64 1))), none⟩,
    ⟨(some 5), .mov (.t 16), none⟩] [0, 1, 5])))
def b27 : EC := (.seq (.ops [⟨(some 4), .mov (.c (.s (.bool false))), none⟩] [0, 1])
  (.seq (.seq (.ops [⟨(some 6), .mov (.t 0), none⟩,
    ⟨(some 7), .len (.t 6), none⟩,
    ⟨(some 8), .mov (.t 1), none⟩,
    ⟨(some 9), .len (.t 8), none⟩,
    ⟨(some 10), .bin .neq (.t 7) (.t 9), none⟩] [0, 1, 10])
  (.cond (.t 10) (.seq (.ops [⟨(some 4), .mov (.c (.s (.bool false))), none⟩] [4])
  (.ret [4]))
  .skip))
  (.seq (.seq (.ops [⟨(some 5), .mov (.c (.s (.int .i64 0))), none⟩] [0, 1, 5])
  (.block 0 (.loop [0, 1, 5] l27_0)))
  (.seq (.ops [⟨(some 4), .mov (.c (.s (.bool true))), none⟩] [4])
  (.ret [4])))))
def e27 : EF := ⟨26, b27, [.tmp 4]⟩

/-- (*scutage/scutageref01.Status).Closed -/
def h28 : List (List Nat) := [[0], [0, 3], [0, 3, 4], [0, 3, 4], [0, 3, 4, 14], [3], [0, 3, 4], [0, 3, 4], [2], [2]]
def l28_0 : EC := (.seq (.seq (.ops [⟨(some 9), .mov (.t 4), none⟩,
    ⟨(some 10), .mov (.t 0), none⟩,
    ⟨(some 11), .nilc (.t 10), none⟩,
    ⟨(some 12), .fad 1 (.t 11), none⟩,
    ⟨(some 13), .load false 1 (.t 12), none⟩,
    ⟨(some 14), .bin .lss (.t 9) (.t 13), none⟩] [0, 3, 4, 14])
  (.cond (.t 14) .skip
  (.exit 0 [3])))
  (.seq (.block 1 (.ops [⟨(some 17), .mov (.t 3), none⟩,
    ⟨(some 18), .mov (.t 4), none⟩,
    ⟨(some 19), .bsl 3 1 [(.int .i64 0)] [(0, 1, (.t 18))], none⟩,
    ⟨(some 20), .app 3 1 8 (.t 17) (.t 19), none⟩,
    ⟨(some 3), .mov (.t 20), none⟩] [0, 3, 4]))
  (.ops [⟨(some 15), .mov (.t 4), none⟩,
    ⟨(some 16), .bin .add (.t 15) (.c (.s (.int .i64 1))), none⟩,
    ⟨(some 4), .mov (.t 16), none⟩] [0, 3, 4])))
def b28 : EC := (.seq (.ops [⟨(some 2), .mov (.c (.s .nils)), none⟩] [0])
  (.seq (.ops [⟨(some 3), .mov (.c (.s .nils)), none⟩] [0, 3])
  (.seq (.seq (.ops [⟨(some 5), .mov (.t 0), none⟩,
    ⟨(some 6), .nilc (.t 5), none⟩,
    ⟨(some 7), .fad 0 (.t 6), none⟩,
    ⟨(some 8), .load false 1 (.t 7), none⟩,
    ⟨(some 4), .mov (.t 8), none⟩] [0, 3, 4])
  (.block 0 (.loop [0, 3, 4] l28_0)))
  (.seq (.ops [⟨(some 21), .mov (.t 3), none⟩,
    ⟨(some 2), .mov (.t 21), none⟩] [2])
  (.ret [2])))))
def e28 : EF := ⟨22, b28, [.tmp 2]⟩

/-- scutage/period.Right -/
def h38 : List (List Nat) := [[0], [2], [2]]
def b38 : EC := (.seq (.ops [⟨(some 2), .mov (.c (.s (.bool false))), none⟩] [0])
  (.seq (.ops [⟨(some 3), .mov (.t 0), none⟩,
    ⟨(some 4), .bin .geq (.t 3) (.c (.s (.int .i64 0))), none⟩,
    ⟨(some 5), .mov (.t 4), none⟩,
    ⟨(some 6), .mov (.t 0), (some (5, true))⟩,
    ⟨(some 7), .bin .leq (.t 6) (.c (.s (.int .i64 399))), (some (5, true))⟩,
    ⟨(some 8), .pick (.t 5) (.t 7) (.c (.s (.bool false))), none⟩,
    ⟨(some 2), .mov (.t 8), none⟩] [2])
  (.ret [2])))
def e38 : EF := ⟨9, b38, [.tmp 2]⟩

/-- (*scutage/status.Status).last -/
def h39 : List (List Nat) := [[0], [2], [2]]
def b39 : EC := (.seq (.ops [⟨(some 2), .mov (.c (.s (.int .i64 0))), none⟩] [0])
  (.seq (.draw [⟨(some 3), .mov (.t 0), none⟩,
    ⟨(some 4), .nilc (.t 3), none⟩,
    ⟨(some 5), .fad 0 (.t 4), none⟩,
    ⟨(some 6), .load false 1 (.t 5), none⟩,
    ⟨(some 7), .mov (.t 0), none⟩,
    ⟨(some 8), .nilc (.t 7), none⟩,
    ⟨(some 9), .fad 1 (.t 8), none⟩,
    ⟨(some 10), .load false 1 (.t 9), none⟩,
    ⟨(some 11), .len (.t 10), none⟩,
    ⟨(some 12), .bin .add (.t 6) (.t 11), none⟩,
    ⟨(some 13), .bin .sub (.t 12) (.c (.s (.int .i64 1))), none⟩,
    ⟨(some 2), .mov (.t 13), none⟩] [] [2])
  (.ret [2])))
def e39 : EF := ⟨14, b39, [.tmp 2]⟩

/-- slices.Clone[[]bool,bool] -/
def h40 : List (List Nat) := [[0], [0, 4], [2], [2], [2], [2]]
def b40 : EC := (.seq (.ops [⟨(some 2), .mov (.c (.s .nils)), none⟩] [0])
  (.seq (.seq (.ops [⟨(some 3), .mov (.t 0), none⟩,
    ⟨(some 4), .eqn false (.t 3) (.c (.s .nils)), none⟩] [0, 4])
  (.cond (.t 4) (.seq (.ops [⟨(some 2), .mov (.c (.s .nils)), none⟩] [2])
  (.ret [2]))
  .skip))
  (.seq (.ops [⟨(some 5), .bsl 4 0 [(.bool false)] [], none⟩,
    ⟨(some 6), .mov (.t 0), none⟩,
    ⟨(some 7), .app 4 1 1 (.t 5) (.t 6), none⟩,
    ⟨(some 2), .mov (.t 7), none⟩] [2])
  (.ret [2]))))
def e40 : EF := ⟨8, b40, [.tmp 2]⟩

/-- scutage/scutageref01.Right -/
def h46 : List (List Nat) := [[0], [2], [2]]
def b46 : EC := (.seq (.ops [⟨(some 2), .mov (.c (.s (.bool false))), none⟩] [0])
  (.seq (.ops [⟨(some 3), .mov (.t 0), none⟩,
    ⟨(some 4), .bin .geq (.t 3) (.c (.s (.int .i64 0))), none⟩,
    ⟨(some 5), .mov (.t 4), none⟩,
    ⟨(some 6), .mov (.t 0), (some (5, true))⟩,
    ⟨(some 7), .bin .leq (.t 6) (.c (.s (.int .i64 1000000))), (some (5, true))⟩,
    ⟨(some 8), .pick (.t 5) (.t 7) (.c (.s (.bool false))), none⟩,
    ⟨(some 2), .mov (.t 8), none⟩] [2])
  (.ret [2])))
def e46 : EF := ⟨9, b46, [.tmp 2]⟩

def C : Nat → Option EF
  | 3 => some e3
  | 4 => some e4
  | 5 => some e5
  | 6 => some e6
  | 12 => some e12
  | 13 => some e13
  | 14 => some e14
  | 15 => some e15
  | 16 => some e16
  | 17 => some e17
  | 18 => some e18
  | 19 => some e19
  | 20 => some e20
  | 21 => some e21
  | 22 => some e22
  | 23 => some e23
  | 24 => some e24
  | 25 => some e25
  | 26 => some e26
  | 27 => some e27
  | 28 => some e28
  | 38 => some e38
  | 39 => some e39
  | 40 => some e40
  | 46 => some e46
  | _ => none
end Go.Proofs.Ytaafbpniakldpaa.Ev.C8
