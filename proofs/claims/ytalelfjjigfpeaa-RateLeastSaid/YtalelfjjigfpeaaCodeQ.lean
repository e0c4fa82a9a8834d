/- The code of some functions for the small machine (printed by wip/tools/EvPrint.lean). -/
import Derived.Test.YtalelfjjigfpeaaEvKit
namespace Go.Proofs.Ytalelfjjigfpeaa.Ev.CQ
open Go
/-- scutage/scutagelaw01.RateSums -/
def h7 : List (List Nat) := [[0, 1], [1, 5], [1, 5, 22, 23], [1, 5, 22, 23], [1, 5, 22, 23, 24], [1, 5], [1, 5, 6, 22, 23], [1, 5, 22, 23], [1, 5, 22, 23], [1, 5, 7, 8], [1, 5, 7, 8, 9], [1, 5, 7, 8, 9, 42, 43], [1, 5, 7, 8, 9, 42, 43], [1, 5, 7, 8, 9, 42, 43, 44], [1, 5, 7, 8, 9], [1, 5, 7, 8, 9, 10, 42, 43], [1, 5, 7, 8, 9, 42, 43], [1, 5, 7, 8, 9, 42, 43], [1, 5, 7, 8, 11, 12], [1, 5, 7, 8, 11, 12, 13, 14], [1, 5, 7, 8, 11, 12, 13, 14, 16], [1, 5, 7, 8, 91], [4], [4], [1, 5, 7, 8, 94], [4], [4], [5], [18], [4], [4]]
def l7_0_2 : EC := (.seq (.block 1 (.seq (.ops [⟨(some 25), .mov (.t 23), none⟩,
    ⟨(some 6), .mov (.t 25), none⟩] [1, 5, 6, 22, 23])
  (.ops [⟨(some 26), .mov (.t 5), none⟩,
    ⟨(some 27), .mov (.t 6), none⟩,
    ⟨(some 28), .mov (.t 5), none⟩,
    ⟨(some 29), .mov (.t 6), none⟩,
    ⟨(some 30), .iad 3 1 (.t 28) (.t 29), none⟩,
    ⟨(some 31), .load false 1 (.t 30), none⟩,
    ⟨(some 32), .call 13 [(.t 31), (.c (.s (.int .i64 200000000001)))], none⟩,
    ⟨(some 33), .bin .sub (.t 32) (.c (.s (.int .i64 100000000000))), none⟩,
    ⟨(some 34), .iad 3 1 (.t 26) (.t 27), none⟩,
    ⟨none, .store 1 (.t 34) (.t 33), none⟩] [1, 5, 22, 23])))
  (.ops [⟨(some 35), .bin .add (.t 23) (.c (.s (.int .i64 1))), none⟩,
    ⟨(some 23), .mov (.t 35), none⟩] [1, 5, 22, 23]))
def l7_0_1 : EC := (.seq (.cond (.t 24) .skip
  (.exit 0 [1, 5]))
  l7_0_2)
def l7_0 : EC := (.seq (.ops [⟨(some 24), .bin .lss (.t 23) (.t 22), none⟩] [1, 5, 22, 23, 24])
  l7_0_1)
def l7_1_2 : EC := (.seq (.block 3 (.seq (.ops [⟨(some 45), .mov (.t 43), none⟩,
    ⟨(some 10), .mov (.t 45), none⟩] [1, 5, 7, 8, 9, 10, 42, 43])
  (.ops [⟨(some 46), .mov (.t 9), none⟩,
    ⟨(some 47), .mov (.t 5), none⟩,
    ⟨(some 48), .mov (.t 5), none⟩,
    ⟨(some 49), .len (.t 48), none⟩,
    ⟨(some 50), .bin .sub (.t 49) (.c (.s (.int .i64 1))), none⟩,
    ⟨(some 51), .mov (.t 10), none⟩,
    ⟨(some 52), .bin .sub (.t 50) (.t 51), none⟩,
    ⟨(some 53), .iad 3 1 (.t 47) (.t 52), none⟩,
    ⟨(some 54), .load false 1 (.t 53), none⟩,
    ⟨(some 55), .bsl 3 1 [(.int .i64 0)] [(0, 1, (.t 54))], none⟩,
    ⟨(some 56), .app 3 1 8 (.t 46) (.t 55), none⟩,
    ⟨(some 9), .mov (.t 56), none⟩] [1, 5, 7, 8, 9, 42, 43])))
  (.ops [⟨(some 57), .bin .add (.t 43) (.c (.s (.int .i64 1))), none⟩,
    ⟨(some 43), .mov (.t 57), none⟩] [1, 5, 7, 8, 9, 42, 43]))
def l7_1_1 : EC := (.seq (.cond (.t 44) .skip
  (.exit 2 [1, 5, 7, 8, 9]))
  l7_1_2)
def l7_1 : EC := (.seq (.ops [⟨(some 44), .bin .lss (.t 43) (.t 42), none⟩] [1, 5, 7, 8, 9, 42, 43, 44])
  l7_1_1)
def s7_13 : EC := (.seq (.ops [⟨(some 114), .mov (.t 18), none⟩,
    ⟨(some 115), .un .not (.t 114), none⟩,
    ⟨(some 116), .mov (.t 115), none⟩,
    ⟨(some 117), .call 15 [], (some (116, true))⟩,
    ⟨(some 118), .pick (.t 116) (.t 117) (.c (.s (.bool false))), none⟩,
    ⟨(some 4), .mov (.t 118), none⟩] [4])
  (.ret [4]))
def s7_12 : EC := (.seq (.ops [⟨(some 110), .mov (.t 5), none⟩,
    ⟨(some 111), .call 20 [(.t 110)], none⟩,
    ⟨(some 109), .mov (.t 111), none⟩,
    ⟨(some 112), .ext (.t 109) 0, none⟩,
    ⟨(some 113), .ext (.t 109) 1, none⟩,
    ⟨(some 17), .mov (.t 112), none⟩,
    ⟨(some 18), .mov (.t 113), none⟩] [18])
  s7_13)
def s7_11 : EC := (.seq (.ops [⟨(some 103), .mov (.t 5), none⟩,
    ⟨(some 104), .mov (.t 1), none⟩,
    ⟨(some 105), .mov (.t 5), none⟩,
    ⟨(some 106), .len (.t 105), none⟩,
    ⟨(some 107), .call 13 [(.t 104), (.t 106)], none⟩,
    ⟨(some 108), .iad 3 1 (.t 103) (.t 107), none⟩,
    ⟨none, .store 1 (.t 108) (.c (.s (.int .i64 100000000001))), none⟩] [5])
  s7_12)
def s7_10 : EC := (.seq (.seq (.ops [⟨(some 92), .mov (.t 5), none⟩,
    ⟨(some 93), .len (.t 92), none⟩,
    ⟨(some 94), .bin .eql (.t 93) (.c (.s (.int .i64 0))), none⟩] [1, 5, 7, 8, 94])
  (.cond (.t 94) (.seq (.ops [⟨(some 95), .mov (.t 8), none⟩,
    ⟨(some 96), .mov (.t 95), none⟩,
    ⟨(some 97), .mov (.t 7), (some (96, true))⟩,
    ⟨(some 98), .bin .eql (.t 97) (.c (.s (.int .i64 0))), (some (96, true))⟩,
    ⟨(some 99), .pick (.t 96) (.t 98) (.c (.s (.bool false))), none⟩,
    ⟨(some 100), .mov (.t 99), none⟩,
    ⟨(some 101), .call 15 [], (some (100, true))⟩,
    ⟨(some 102), .pick (.t 100) (.t 101) (.c (.s (.bool false))), none⟩,
    ⟨(some 4), .mov (.t 102), none⟩] [4])
  (.ret [4]))
  .skip))
  s7_11)
def s7_9 : EC := (.seq (.seq (.ops [⟨(some 73), .mov (.t 7), none⟩,
    ⟨(some 74), .mov (.t 11), none⟩,
    ⟨(some 75), .bin .neq (.t 73) (.t 74), none⟩,
    ⟨(some 76), .mov (.t 75), none⟩,
    ⟨(some 77), .mov (.t 8), (some (76, false))⟩,
    ⟨(some 78), .mov (.t 12), (some (76, false))⟩,
    ⟨(some 79), .eqb true (.t 77) (.t 78), (some (76, false))⟩,
    ⟨(some 80), .pick (.t 76) (.c (.s (.bool true))) (.t 79), none⟩,
    ⟨(some 81), .mov (.t 80), none⟩,
    ⟨(some 82), .mov (.t 14), (some (81, false))⟩,
    ⟨(some 83), .un .not (.t 82), (some (81, false))⟩,
    ⟨(some 84), .pick (.t 81) (.c (.s (.bool true))) (.t 83), none⟩,
    ⟨(some 85), .mov (.t 84), none⟩,
    ⟨(some 86), .mov (.t 13), (some (85, false))⟩,
    ⟨(some 87), .bin .neq (.t 86) (.c (.s (.int .i64 100000000000))), (some (85, false))⟩,
    ⟨(some 88), .pick (.t 85) (.c (.s (.bool true))) (.t 87), none⟩,
    ⟨(some 89), .mov (.t 88), none⟩,
    ⟨(some 90), .mov (.t 16), (some (89, false))⟩,
    ⟨(some 91), .pick (.t 89) (.c (.s (.bool true))) (.t 90), none⟩] [1, 5, 7, 8, 91])
  (.cond (.t 91) (.seq (.ops [⟨(some 4), .mov (.c (.s (.bool false))), none⟩] [4])
  (.ret [4]))
  .skip))
  s7_10)
def s7_8 : EC := (.seq (.ops [⟨(some 69), .bsl 3 2 [(.int .i64 0)] [(0, 1, (.c (.s (.int .i64 100000000000)))), (1, 1, (.c (.s (.int .i64 1))))], none⟩,
    ⟨(some 70), .call 20 [(.t 69)], none⟩,
    ⟨(some 68), .mov (.t 70), none⟩,
    ⟨(some 71), .ext (.t 68) 0, none⟩,
    ⟨(some 72), .ext (.t 68) 1, none⟩,
    ⟨(some 15), .mov (.t 71), none⟩,
    ⟨(some 16), .mov (.t 72), none⟩] [1, 5, 7, 8, 11, 12, 13, 14, 16])
  s7_9)
def s7_7 : EC := (.seq (.ops [⟨(some 64), .bsl 3 3 [(.int .i64 0)] [(0, 1, (.c (.s (.int .i64 100000000000)))), (1, 1, (.c (.s (.int .i64 100000000000)))), (2, 1, (.c (.s (.int .i64 (-100000000000)))))], none⟩,
    ⟨(some 65), .call 20 [(.t 64)], none⟩,
    ⟨(some 63), .mov (.t 65), none⟩,
    ⟨(some 66), .ext (.t 63) 0, none⟩,
    ⟨(some 67), .ext (.t 63) 1, none⟩,
    ⟨(some 13), .mov (.t 66), none⟩,
    ⟨(some 14), .mov (.t 67), none⟩] [1, 5, 7, 8, 11, 12, 13, 14])
  s7_8)
def s7_6 : EC := (.seq (.ops [⟨(some 59), .mov (.t 9), none⟩,
    ⟨(some 60), .call 20 [(.t 59)], none⟩,
    ⟨(some 58), .mov (.t 60), none⟩,
    ⟨(some 61), .ext (.t 58) 0, none⟩,
    ⟨(some 62), .ext (.t 58) 1, none⟩,
    ⟨(some 11), .mov (.t 61), none⟩,
    ⟨(some 12), .mov (.t 62), none⟩] [1, 5, 7, 8, 11, 12])
  s7_7)
def s7_5 : EC := (.seq (.seq (.ops [⟨(some 41), .mov (.t 5), none⟩,
    ⟨(some 42), .len (.t 41), none⟩,
    ⟨(some 43), .mov (.c (.s (.int .i64 0))), none⟩] [1, 5, 7, 8, 9, 42, 43])
  (.block 2 (.loop [1, 5, 7, 8, 9, 42, 43] l7_1)))
  s7_6)
def s7_4 : EC := (.seq (.ops [⟨(some 9), .mov (.c (.s .nils)), none⟩] [1, 5, 7, 8, 9])
  s7_5)
def s7_3 : EC := (.seq (.ops [⟨(some 37), .mov (.t 5), none⟩,
    ⟨(some 38), .call 20 [(.t 37)], none⟩,
    ⟨(some 36), .mov (.t 38), none⟩,
    ⟨(some 39), .ext (.t 36) 0, none⟩,
    ⟨(some 40), .ext (.t 36) 1, none⟩,
    ⟨(some 7), .mov (.t 39), none⟩,
    ⟨(some 8), .mov (.t 40), none⟩] [1, 5, 7, 8])
  s7_4)
def s7_2 : EC := (.seq (.seq (.ops [⟨(some 21), .mov (.t 5), none⟩,
    ⟨(some 22), .len (.t 21), none⟩,
    ⟨(some 23), .mov (.c (.s (.int .i64 0))), none⟩] [1, 5, 22, 23])
  (.block 0 (.loop [1, 5, 22, 23] l7_0)))
  s7_3)
def s7_1 : EC := (.seq (.ops [⟨(some 19), .mov (.t 0), none⟩,
    ⟨(some 20), .call 19 [(.t 19), (.c (.s (.int .i64 10)))], none⟩,
    ⟨(some 5), .mov (.t 20), none⟩] [1, 5])
  s7_2)
def b7 : EC := (.seq (.ops [⟨(some 4), .mov (.c (.s (.bool false))), none⟩] [0, 1])
  s7_1)
def e7 : EF := ⟨119, b7, [.tmp 4]⟩

/-- scutage/scutagelaw01.RateLeast -/
def h8 : List (List Nat) := [[0, 1], [0, 1, 5, 6], [0, 1, 5, 6, 7, 8], [1, 5, 6, 7, 42], [4], [4], [1, 5, 6, 7, 9], [1, 5, 7, 9, 44], [1, 7, 9], [1, 7, 9, 10, 11], [4], [4]]
def s8_7 : EC := (.seq (.ops [⟨(some 54), .mov (.t 7), none⟩,
    ⟨(some 55), .mov (.t 9), none⟩,
    ⟨(some 56), .bin .eql (.t 54) (.t 55), none⟩,
    ⟨(some 57), .mov (.t 56), none⟩,
    ⟨(some 58), .mov (.t 11), (some (57, true))⟩,
    ⟨(some 59), .pick (.t 57) (.t 58) (.c (.s (.bool false))), none⟩,
    ⟨(some 60), .mov (.t 59), none⟩,
    ⟨(some 61), .mov (.t 10), (some (60, true))⟩,
    ⟨(some 62), .mov (.t 1), (some (60, true))⟩,
    ⟨(some 63), .bin .eql (.t 61) (.t 62), (some (60, true))⟩,
    ⟨(some 64), .pick (.t 60) (.t 63) (.c (.s (.bool false))), none⟩,
    ⟨(some 65), .mov (.t 64), none⟩,
    ⟨(some 66), .call 15 [], (some (65, true))⟩,
    ⟨(some 67), .pick (.t 65) (.t 66) (.c (.s (.bool false))), none⟩,
    ⟨(some 4), .mov (.t 67), none⟩] [4])
  (.ret [4]))
def s8_6 : EC := (.seq (.ops [⟨(some 49), .mov (.t 1), none⟩,
    ⟨(some 50), .bsl 3 1 [(.int .i64 0)] [(0, 1, (.t 49))], none⟩,
    ⟨(some 51), .call 21 [(.t 50)], none⟩,
    ⟨(some 48), .mov (.t 51), none⟩,
    ⟨(some 52), .ext (.t 48) 0, none⟩,
    ⟨(some 53), .ext (.t 48) 1, none⟩,
    ⟨(some 10), .mov (.t 52), none⟩,
    ⟨(some 11), .mov (.t 53), none⟩] [1, 7, 9, 10, 11])
  s8_7)
def s8_5 : EC := (.seq (.seq (.ops [⟨(some 44), .mov (.t 6), none⟩] [1, 5, 7, 9, 44])
  (.cond (.t 44) (.ops [⟨(some 45), .mov (.t 5), none⟩,
    ⟨(some 46), .mov (.t 1), none⟩,
    ⟨(some 47), .mn (.t 45) [(.t 46)], none⟩,
    ⟨(some 9), .mov (.t 47), none⟩] [1, 7, 9])
  .skip))
  s8_6)
def s8_4 : EC := (.seq (.ops [⟨(some 43), .mov (.t 1), none⟩,
    ⟨(some 9), .mov (.t 43), none⟩] [1, 5, 6, 7, 9])
  s8_5)
def s8_3 : EC := (.seq (.seq (.ops [⟨(some 26), .mov (.t 8), none⟩,
    ⟨(some 27), .un .not (.t 26), none⟩,
    ⟨(some 28), .mov (.t 27), none⟩,
    ⟨(some 29), .mov (.t 6), (some (28, false))⟩,
    ⟨(some 30), .mov (.t 0), (some (28, false))⟩,
    ⟨(some 31), .len (.t 30), (some (28, false))⟩,
    ⟨(some 32), .bin .gtr (.t 31) (.c (.s (.int .i64 0))), (some (28, false))⟩,
    ⟨(some 33), .eqb true (.t 29) (.t 32), (some (28, false))⟩,
    ⟨(some 34), .pick (.t 28) (.c (.s (.bool true))) (.t 33), none⟩,
    ⟨(some 35), .mov (.t 34), none⟩,
    ⟨(some 36), .mov (.t 6), (some (35, false))⟩,
    ⟨(some 37), .un .not (.t 36), (some (35, false))⟩,
    ⟨(some 38), .mov (.t 37), (some (35, false))⟩,
    ⟨(some 39), .mov (.t 5), (some (38, true))⟩,
    ⟨(some 40), .bin .neq (.t 39) (.c (.s (.int .i64 0))), (some (38, true))⟩,
    ⟨(some 41), .pick (.t 38) (.t 40) (.c (.s (.bool false))), (some (35, false))⟩,
    ⟨(some 42), .pick (.t 35) (.c (.s (.bool true))) (.t 41), none⟩] [1, 5, 6, 7, 42])
  (.cond (.t 42) (.seq (.ops [⟨(some 4), .mov (.c (.s (.bool false))), none⟩] [4])
  (.ret [4]))
  .skip))
  s8_4)
def s8_2 : EC := (.seq (.ops [⟨(some 18), .mov (.t 0), none⟩,
    ⟨(some 19), .call 22 [(.t 18)], none⟩,
    ⟨(some 20), .mov (.t 1), none⟩,
    ⟨(some 21), .bsl 3 1 [(.int .i64 0)] [(0, 1, (.t 20))], none⟩,
    ⟨(some 22), .app 3 1 8 (.t 19) (.t 21), none⟩,
    ⟨(some 23), .call 21 [(.t 22)], none⟩,
    ⟨(some 17), .mov (.t 23), none⟩,
    ⟨(some 24), .ext (.t 17) 0, none⟩,
    ⟨(some 25), .ext (.t 17) 1, none⟩,
    ⟨(some 7), .mov (.t 24), none⟩,
    ⟨(some 8), .mov (.t 25), none⟩] [0, 1, 5, 6, 7, 8])
  s8_3)
def s8_1 : EC := (.seq (.ops [⟨(some 13), .mov (.t 0), none⟩,
    ⟨(some 14), .call 21 [(.t 13)], none⟩,
    ⟨(some 12), .mov (.t 14), none⟩,
    ⟨(some 15), .ext (.t 12) 0, none⟩,
    ⟨(some 16), .ext (.t 12) 1, none⟩,
    ⟨(some 5), .mov (.t 15), none⟩,
    ⟨(some 6), .mov (.t 16), none⟩] [0, 1, 5, 6])
  s8_2)
def b8 : EC := (.seq (.ops [⟨(some 4), .mov (.c (.s (.bool false))), none⟩] [0, 1])
  s8_1)
def e8 : EF := ⟨68, b8, [.tmp 4]⟩

/-- scutage/scutagelaw01.RateTells -/
def h9 : List (List Nat) := [[0, 1, 2, 3], [0, 1, 2, 3, 32], [0, 1, 2, 3], [0, 1, 3, 39], [0, 1, 3], [0, 1, 3, 9, 10], [0, 1, 3, 9, 10, 11, 12], [0, 1, 3, 9, 10, 11, 12, 13, 14], [0, 1, 3, 9, 10, 11, 12, 13, 14, 15, 16], [3, 102], [8], [8], [17], [17, 106, 107], [17, 106, 107], [17, 106, 107, 108], [17], [17, 18, 106, 107], [17, 106, 107], [17, 106, 107], [17, 19, 20], [17, 19, 20, 21, 22], [17, 19, 20, 21, 22, 23, 24], [17, 19, 20, 21, 22, 23, 24, 134, 135, 136], [17, 19, 20, 21, 22, 23, 24, 134, 135, 136], [17, 19, 20, 21, 22, 23, 24, 134, 135, 136, 137], [17, 19, 20, 21, 22, 23, 24], [17, 19, 20, 21, 22, 23, 24, 26, 134, 135, 136], [17, 19, 20, 21, 22, 23, 24, 134, 135, 136, 142], [8], [8], [17, 19, 20, 21, 22, 23, 24, 134, 135, 136], [17, 19, 20, 21, 22, 23, 24, 27], [17, 19, 20, 21, 22, 23, 24, 27, 147, 148, 149], [17, 19, 20, 21, 22, 23, 24, 27, 147, 148, 149], [17, 19, 20, 21, 22, 23, 24, 27, 147, 148, 149, 150], [17, 19, 20, 21, 22, 23, 24, 27], [17, 19, 20, 21, 22, 23, 24, 27, 29, 147, 148, 149], [17, 19, 20, 21, 22, 23, 24, 27, 147, 148, 149], [17, 19, 20, 21, 22, 23, 24, 27, 147, 148, 149], [8], [8]]
def l9_0_2 : EC := (.seq (.block 1 (.seq (.ops [⟨(some 109), .mov (.t 107), none⟩,
    ⟨(some 18), .mov (.t 109), none⟩] [17, 18, 106, 107])
  (.ops [⟨(some 110), .mov (.t 17), none⟩,
    ⟨(some 111), .mov (.t 18), none⟩,
    ⟨(some 112), .mov (.t 17), none⟩,
    ⟨(some 113), .mov (.t 18), none⟩,
    ⟨(some 114), .iad 3 1 (.t 112) (.t 113), none⟩,
    ⟨(some 115), .load false 1 (.t 114), none⟩,
    ⟨(some 116), .call 23 [(.t 115)], none⟩,
    ⟨(some 117), .iad 3 1 (.t 110) (.t 111), none⟩,
    ⟨none, .store 1 (.t 117) (.t 116), none⟩] [17, 106, 107])))
  (.ops [⟨(some 118), .bin .add (.t 107) (.c (.s (.int .i64 1))), none⟩,
    ⟨(some 107), .mov (.t 118), none⟩] [17, 106, 107]))
def l9_0_1 : EC := (.seq (.cond (.t 108) .skip
  (.exit 0 [17]))
  l9_0_2)
def l9_0 : EC := (.seq (.ops [⟨(some 108), .bin .lss (.t 107) (.t 106), none⟩] [17, 106, 107, 108])
  l9_0_1)
def l9_1_2 : EC := (.seq (.block 3 (.seq (.ops [⟨(some 138), .iad 3 1 (.t 134) (.t 136), none⟩,
    ⟨(some 139), .load false 1 (.t 138), none⟩,
    ⟨(some 26), .mov (.t 139), none⟩] [17, 19, 20, 21, 22, 23, 24, 26, 134, 135, 136])
  (.seq (.ops [⟨(some 140), .mov (.t 26), none⟩,
    ⟨(some 141), .mov (.t 23), none⟩,
    ⟨(some 142), .bin .lss (.t 140) (.t 141), none⟩] [17, 19, 20, 21, 22, 23, 24, 134, 135, 136, 142])
  (.cond (.t 142) (.seq (.ops [⟨(some 8), .mov (.c (.s (.bool false))), none⟩] [8])
  (.ret [8]))
  .skip))))
  (.ops [⟨(some 143), .bin .add (.t 136) (.c (.s (.int .i64 1))), none⟩,
    ⟨(some 136), .mov (.t 143), none⟩] [17, 19, 20, 21, 22, 23, 24, 134, 135, 136]))
def l9_1_1 : EC := (.seq (.cond (.t 137) .skip
  (.exit 2 [17, 19, 20, 21, 22, 23, 24]))
  l9_1_2)
def l9_1 : EC := (.seq (.ops [⟨(some 137), .bin .lss (.t 136) (.t 135), none⟩] [17, 19, 20, 21, 22, 23, 24, 134, 135, 136, 137])
  l9_1_1)
def l9_2_2 : EC := (.seq (.block 5 (.seq (.ops [⟨(some 151), .iad 3 1 (.t 147) (.t 149), none⟩,
    ⟨(some 152), .load false 1 (.t 151), none⟩,
    ⟨(some 29), .mov (.t 152), none⟩] [17, 19, 20, 21, 22, 23, 24, 27, 29, 147, 148, 149])
  (.ops [⟨(some 153), .mov (.t 27), none⟩,
    ⟨(some 154), .mov (.t 153), none⟩,
    ⟨(some 155), .mov (.t 29), (some (154, false))⟩,
    ⟨(some 156), .mov (.t 23), (some (154, false))⟩,
    ⟨(some 157), .bin .eql (.t 155) (.t 156), (some (154, false))⟩,
    ⟨(some 158), .pick (.t 154) (.c (.s (.bool true))) (.t 157), none⟩,
    ⟨(some 27), .mov (.t 158), none⟩] [17, 19, 20, 21, 22, 23, 24, 27, 147, 148, 149])))
  (.ops [⟨(some 159), .bin .add (.t 149) (.c (.s (.int .i64 1))), none⟩,
    ⟨(some 149), .mov (.t 159), none⟩] [17, 19, 20, 21, 22, 23, 24, 27, 147, 148, 149]))
def l9_2_1 : EC := (.seq (.cond (.t 150) .skip
  (.exit 4 [17, 19, 20, 21, 22, 23, 24, 27]))
  l9_2_2)
def l9_2 : EC := (.seq (.ops [⟨(some 150), .bin .lss (.t 149) (.t 148), none⟩] [17, 19, 20, 21, 22, 23, 24, 27, 147, 148, 149, 150])
  l9_2_1)
def s9_16 : EC := (.seq (.ops [⟨(some 160), .mov (.t 19), none⟩,
    ⟨(some 161), .mov (.t 21), none⟩,
    ⟨(some 162), .bin .eql (.t 160) (.t 161), none⟩,
    ⟨(some 163), .mov (.t 162), none⟩,
    ⟨(some 164), .mov (.t 20), (some (163, true))⟩,
    ⟨(some 165), .mov (.t 22), (some (163, true))⟩,
    ⟨(some 166), .eqb false (.t 164) (.t 165), (some (163, true))⟩,
    ⟨(some 167), .pick (.t 163) (.t 166) (.c (.s (.bool false))), none⟩,
    ⟨(some 168), .mov (.t 167), none⟩,
    ⟨(some 169), .mov (.t 24), (some (168, true))⟩,
    ⟨(some 170), .mov (.t 17), (some (168, true))⟩,
    ⟨(some 171), .len (.t 170), (some (168, true))⟩,
    ⟨(some 172), .bin .gtr (.t 171) (.c (.s (.int .i64 0))), (some (168, true))⟩,
    ⟨(some 173), .eqb false (.t 169) (.t 172), (some (168, true))⟩,
    ⟨(some 174), .pick (.t 168) (.t 173) (.c (.s (.bool false))), none⟩,
    ⟨(some 175), .mov (.t 174), none⟩,
    ⟨(some 176), .mov (.t 27), (some (175, true))⟩,
    ⟨(some 177), .pick (.t 175) (.t 176) (.c (.s (.bool false))), none⟩,
    ⟨(some 178), .mov (.t 177), none⟩,
    ⟨(some 179), .mov (.t 24), (some (178, true))⟩,
    ⟨(some 180), .mov (.t 179), (some (178, true))⟩,
    ⟨(some 181), .mov (.t 23), (some (180, false))⟩,
    ⟨(some 182), .bin .eql (.t 181) (.c (.s (.int .i64 0))), (some (180, false))⟩,
    ⟨(some 183), .pick (.t 180) (.c (.s (.bool true))) (.t 182), (some (178, true))⟩,
    ⟨(some 184), .pick (.t 178) (.t 183) (.c (.s (.bool false))), none⟩,
    ⟨(some 185), .mov (.t 184), none⟩,
    ⟨(some 186), .call 15 [], (some (185, true))⟩,
    ⟨(some 187), .pick (.t 185) (.t 186) (.c (.s (.bool false))), none⟩,
    ⟨(some 8), .mov (.t 187), none⟩] [8])
  (.ret [8]))
def s9_15 : EC := (.seq (.seq (.ops [⟨(some 147), .mov (.t 17), none⟩,
    ⟨(some 148), .len (.t 147), none⟩,
    ⟨(some 149), .mov (.c (.s (.int .i64 0))), none⟩] [17, 19, 20, 21, 22, 23, 24, 27, 147, 148, 149])
  (.block 4 (.loop [17, 19, 20, 21, 22, 23, 24, 27, 147, 148, 149] l9_2)))
  s9_16)
def s9_14 : EC := (.seq (.ops [⟨(some 144), .mov (.t 17), none⟩,
    ⟨(some 145), .len (.t 144), none⟩,
    ⟨(some 146), .bin .eql (.t 145) (.c (.s (.int .i64 0))), none⟩,
    ⟨(some 27), .mov (.t 146), none⟩] [17, 19, 20, 21, 22, 23, 24, 27])
  s9_15)
def s9_13 : EC := (.seq (.seq (.ops [⟨(some 134), .mov (.t 17), none⟩,
    ⟨(some 135), .len (.t 134), none⟩,
    ⟨(some 136), .mov (.c (.s (.int .i64 0))), none⟩] [17, 19, 20, 21, 22, 23, 24, 134, 135, 136])
  (.block 2 (.loop [17, 19, 20, 21, 22, 23, 24, 134, 135, 136] l9_1)))
  s9_14)
def s9_12 : EC := (.seq (.ops [⟨(some 130), .mov (.t 17), none⟩,
    ⟨(some 131), .call 21 [(.t 130)], none⟩,
    ⟨(some 129), .mov (.t 131), none⟩,
    ⟨(some 132), .ext (.t 129) 0, none⟩,
    ⟨(some 133), .ext (.t 129) 1, none⟩,
    ⟨(some 23), .mov (.t 132), none⟩,
    ⟨(some 24), .mov (.t 133), none⟩] [17, 19, 20, 21, 22, 23, 24])
  s9_13)
def s9_11 : EC := (.seq (.ops [⟨(some 125), .mov (.t 17), none⟩,
    ⟨(some 126), .call 29 [(.t 125)], none⟩,
    ⟨(some 124), .mov (.t 126), none⟩,
    ⟨(some 127), .ext (.t 124) 0, none⟩,
    ⟨(some 128), .ext (.t 124) 1, none⟩,
    ⟨(some 21), .mov (.t 127), none⟩,
    ⟨(some 22), .mov (.t 128), none⟩] [17, 19, 20, 21, 22])
  s9_12)
def s9_10 : EC := (.seq (.ops [⟨(some 120), .mov (.t 17), none⟩,
    ⟨(some 121), .call 20 [(.t 120)], none⟩,
    ⟨(some 119), .mov (.t 121), none⟩,
    ⟨(some 122), .ext (.t 119) 0, none⟩,
    ⟨(some 123), .ext (.t 119) 1, none⟩,
    ⟨(some 19), .mov (.t 122), none⟩,
    ⟨(some 20), .mov (.t 123), none⟩] [17, 19, 20])
  s9_11)
def s9_9 : EC := (.seq (.seq (.ops [⟨(some 105), .mov (.t 17), none⟩,
    ⟨(some 106), .len (.t 105), none⟩,
    ⟨(some 107), .mov (.c (.s (.int .i64 0))), none⟩] [17, 106, 107])
  (.block 0 (.loop [17, 106, 107] l9_0)))
  s9_10)
def s9_8 : EC := (.seq (.ops [⟨(some 103), .mov (.t 3), none⟩,
    ⟨(some 104), .call 19 [(.t 103), (.c (.s (.int .i64 12)))], none⟩,
    ⟨(some 17), .mov (.t 104), none⟩] [17])
  s9_9)
def s9_7 : EC := (.seq (.seq (.ops [⟨(some 71), .mov (.t 9), none⟩,
    ⟨(some 72), .mov (.t 11), none⟩,
    ⟨(some 73), .bin .neq (.t 71) (.t 72), none⟩,
    ⟨(some 74), .mov (.t 73), none⟩,
    ⟨(some 75), .mov (.t 10), (some (74, false))⟩,
    ⟨(some 76), .mov (.t 12), (some (74, false))⟩,
    ⟨(some 77), .eqb true (.t 75) (.t 76), (some (74, false))⟩,
    ⟨(some 78), .pick (.t 74) (.c (.s (.bool true))) (.t 77), none⟩,
    ⟨(some 79), .mov (.t 78), none⟩,
    ⟨(some 80), .mov (.t 13), (some (79, false))⟩,
    ⟨(some 81), .mov (.t 15), (some (79, false))⟩,
    ⟨(some 82), .bin .neq (.t 80) (.t 81), (some (79, false))⟩,
    ⟨(some 83), .pick (.t 79) (.c (.s (.bool true))) (.t 82), none⟩,
    ⟨(some 84), .mov (.t 83), none⟩,
    ⟨(some 85), .mov (.t 14), (some (84, false))⟩,
    ⟨(some 86), .mov (.t 16), (some (84, false))⟩,
    ⟨(some 87), .eqb true (.t 85) (.t 86), (some (84, false))⟩,
    ⟨(some 88), .pick (.t 84) (.c (.s (.bool true))) (.t 87), none⟩,
    ⟨(some 89), .mov (.t 88), none⟩,
    ⟨(some 90), .mov (.t 0), (some (89, false))⟩,
    ⟨(some 91), .call 17 [(.t 90)], (some (89, false))⟩,
    ⟨(some 92), .mov (.t 0), (some (89, false))⟩,
    ⟨(some 93), .call 27 [(.t 92)], (some (89, false))⟩,
    ⟨(some 94), .eqb true (.t 91) (.t 93), (some (89, false))⟩,
    ⟨(some 95), .pick (.t 89) (.c (.s (.bool true))) (.t 94), none⟩,
    ⟨(some 96), .mov (.t 95), none⟩,
    ⟨(some 97), .mov (.t 1), (some (96, false))⟩,
    ⟨(some 98), .call 18 [(.t 97)], (some (96, false))⟩,
    ⟨(some 99), .mov (.t 1), (some (96, false))⟩,
    ⟨(some 100), .call 28 [(.t 99)], (some (96, false))⟩,
    ⟨(some 101), .eqb true (.t 98) (.t 100), (some (96, false))⟩,
    ⟨(some 102), .pick (.t 96) (.c (.s (.bool true))) (.t 101), none⟩] [3, 102])
  (.cond (.t 102) (.seq (.ops [⟨(some 8), .mov (.c (.s (.bool false))), none⟩] [8])
  (.ret [8]))
  .skip))
  s9_8)
def s9_6 : EC := (.seq (.ops [⟨(some 66), .mov (.t 0), none⟩,
    ⟨(some 67), .mov (.t 1), none⟩,
    ⟨(some 68), .call 26 [(.t 66), (.t 67)], none⟩,
    ⟨(some 65), .mov (.t 68), none⟩,
    ⟨(some 69), .ext (.t 65) 0, none⟩,
    ⟨(some 70), .ext (.t 65) 1, none⟩,
    ⟨(some 15), .mov (.t 69), none⟩,
    ⟨(some 16), .mov (.t 70), none⟩] [0, 1, 3, 9, 10, 11, 12, 13, 14, 15, 16])
  s9_7)
def s9_5 : EC := (.seq (.ops [⟨(some 60), .mov (.t 0), none⟩,
    ⟨(some 61), .mov (.t 1), none⟩,
    ⟨(some 62), .call 16 [(.t 60), (.t 61)], none⟩,
    ⟨(some 59), .mov (.t 62), none⟩,
    ⟨(some 63), .ext (.t 59) 0, none⟩,
    ⟨(some 64), .ext (.t 59) 1, none⟩,
    ⟨(some 13), .mov (.t 63), none⟩,
    ⟨(some 14), .mov (.t 64), none⟩] [0, 1, 3, 9, 10, 11, 12, 13, 14])
  s9_6)
def s9_4 : EC := (.seq (.ops [⟨(some 54), .mov (.t 0), none⟩,
    ⟨(some 55), .mov (.t 1), none⟩,
    ⟨(some 56), .call 25 [(.t 54), (.t 55)], none⟩,
    ⟨(some 53), .mov (.t 56), none⟩,
    ⟨(some 57), .ext (.t 53) 0, none⟩,
    ⟨(some 58), .ext (.t 53) 1, none⟩,
    ⟨(some 11), .mov (.t 57), none⟩,
    ⟨(some 12), .mov (.t 58), none⟩] [0, 1, 3, 9, 10, 11, 12])
  s9_5)
def s9_3 : EC := (.seq (.ops [⟨(some 48), .mov (.t 0), none⟩,
    ⟨(some 49), .mov (.t 1), none⟩,
    ⟨(some 50), .call 14 [(.t 48), (.t 49)], none⟩,
    ⟨(some 47), .mov (.t 50), none⟩,
    ⟨(some 51), .ext (.t 47) 0, none⟩,
    ⟨(some 52), .ext (.t 47) 1, none⟩,
    ⟨(some 9), .mov (.t 51), none⟩,
    ⟨(some 10), .mov (.t 52), none⟩] [0, 1, 3, 9, 10])
  s9_4)
def s9_2 : EC := (.seq (.seq (.ops [⟨(some 37), .mov (.t 2), none⟩,
    ⟨(some 38), .bin .rem (.t 37) (.c (.s (.int .i64 7))), none⟩,
    ⟨(some 39), .bin .eql (.t 38) (.c (.s (.int .i64 1))), none⟩] [0, 1, 3, 39])
  (.cond (.t 39) (.ops [⟨(some 40), .mov (.t 0), none⟩,
    ⟨(some 41), .call 13 [(.t 40), (.c (.s (.int .i64 800000000005)))], none⟩,
    ⟨(some 42), .bin .sub (.t 41) (.c (.s (.int .i64 400000000000))), none⟩,
    ⟨(some 43), .bin .sub (.t 42) (.c (.s (.int .i64 2))), none⟩,
    ⟨(some 44), .mov (.t 1), none⟩,
    ⟨(some 45), .call 13 [(.t 44), (.c (.s (.int .i64 10000003)))], none⟩,
    ⟨(some 46), .bin .sub (.t 45) (.c (.s (.int .i64 1))), none⟩,
    ⟨(some 0), .mov (.t 43), none⟩,
    ⟨(some 1), .mov (.t 46), none⟩] [0, 1, 3])
  .skip))
  s9_3)
def s9_1 : EC := (.seq (.seq (.ops [⟨(some 30), .mov (.t 2), none⟩,
    ⟨(some 31), .bin .rem (.t 30) (.c (.s (.int .i64 3))), none⟩,
    ⟨(some 32), .bin .neq (.t 31) (.c (.s (.int .i64 0))), none⟩] [0, 1, 2, 3, 32])
  (.cond (.t 32) (.ops [⟨(some 33), .mov (.t 0), none⟩,
    ⟨(some 34), .call 23 [(.t 33)], none⟩,
    ⟨(some 35), .mov (.t 1), none⟩,
    ⟨(some 36), .call 24 [(.t 35)], none⟩,
    ⟨(some 0), .mov (.t 34), none⟩,
    ⟨(some 1), .mov (.t 36), none⟩] [0, 1, 2, 3])
  .skip))
  s9_2)
def b9 : EC := (.seq (.ops [⟨(some 8), .mov (.c (.s (.bool false))), none⟩] [0, 1, 2, 3])
  s9_1)
def e9 : EF := ⟨188, b9, [.tmp 8]⟩

/-- scutage/scutagekeep.Within -/
def h13 : List (List Nat) := [[0, 1], [0, 1, 7], [4], [4], [1, 5], [1, 5, 12], [5], [4], [4]]
def s13_4 : EC := (.seq (.ops [⟨(some 16), .mov (.t 5), none⟩,
    ⟨(some 4), .mov (.t 16), none⟩] [4])
  (.ret [4]))
def s13_3 : EC := (.seq (.seq (.ops [⟨(some 11), .mov (.t 5), none⟩,
    ⟨(some 12), .bin .lss (.t 11) (.c (.s (.int .i64 0))), none⟩] [1, 5, 12])
  (.cond (.t 12) (.ops [⟨(some 13), .mov (.t 5), none⟩,
    ⟨(some 14), .mov (.t 1), none⟩,
    ⟨(some 15), .bin .add (.t 13) (.t 14), none⟩,
    ⟨(some 5), .mov (.t 15), none⟩] [5])
  .skip))
  s13_4)
def s13_2 : EC := (.seq (.ops [⟨(some 8), .mov (.t 0), none⟩,
    ⟨(some 9), .mov (.t 1), none⟩,
    ⟨(some 10), .bin .rem (.t 8) (.t 9), none⟩,
    ⟨(some 5), .mov (.t 10), none⟩] [1, 5])
  s13_3)
def s13_1 : EC := (.seq (.seq (.ops [⟨(some 6), .mov (.t 1), none⟩,
    ⟨(some 7), .bin .lss (.t 6) (.c (.s (.int .i64 1))), none⟩] [0, 1, 7])
  (.cond (.t 7) (.seq (.ops [⟨(some 4), .mov (.c (.s (.int .i64 0))), none⟩] [4])
  (.ret [4]))
  .skip))
  s13_2)
def b13 : EC := (.seq (.ops [⟨(some 4), .mov (.c (.s (.int .i64 0))), none⟩] [0, 1])
  s13_1)
def e13 : EF := ⟨17, b13, [.tmp 4]⟩

/-- scutage/rate.Of -/
def h14 : List (List Nat) := [[0, 1], [0, 1, 20], [4, 5], [4, 5], [0, 6], [6, 26], [4, 5], [4, 5], [4, 5], [4, 5]]
def s14_4 : EC := (.seq (.ops [⟨(some 30), .mov (.t 6), none⟩,
    ⟨(some 31), .bin .add (.t 30) (.c (.s (.int .i64 1000000))), none⟩,
    ⟨(some 32), .bin .quo (.t 31) (.c (.s (.int .i64 2000000))), none⟩,
    ⟨(some 4), .mov (.t 32), none⟩,
    ⟨(some 5), .mov (.c (.s (.bool true))), none⟩] [4, 5])
  (.ret [4, 5]))
def s14_3 : EC := (.seq (.seq (.ops [⟨(some 25), .mov (.t 0), none⟩,
    ⟨(some 26), .bin .lss (.t 25) (.c (.s (.int .i64 0))), none⟩] [6, 26])
  (.cond (.t 26) (.seq (.ops [⟨(some 27), .mov (.t 6), none⟩,
    ⟨(some 28), .bin .sub (.t 27) (.c (.s (.int .i64 1000000))), none⟩,
    ⟨(some 29), .bin .quo (.t 28) (.c (.s (.int .i64 2000000))), none⟩,
    ⟨(some 4), .mov (.t 29), none⟩,
    ⟨(some 5), .mov (.c (.s (.bool true))), none⟩] [4, 5])
  (.ret [4, 5]))
  .skip))
  s14_4)
def s14_2 : EC := (.seq (.ops [⟨(some 21), .mov (.t 0), none⟩,
    ⟨(some 22), .bin .mul (.c (.s (.int .i64 2))) (.t 21), none⟩,
    ⟨(some 23), .mov (.t 1), none⟩,
    ⟨(some 24), .bin .mul (.t 22) (.t 23), none⟩,
    ⟨(some 6), .mov (.t 24), none⟩] [0, 6])
  s14_3)
def s14_1 : EC := (.seq (.seq (.ops [⟨(some 7), .mov (.t 0), none⟩,
    ⟨(some 8), .bin .lss (.t 7) (.c (.s (.int .i64 (-400000000000)))), none⟩,
    ⟨(some 9), .mov (.t 8), none⟩,
    ⟨(some 10), .mov (.t 0), (some (9, false))⟩,
    ⟨(some 11), .bin .gtr (.t 10) (.c (.s (.int .i64 400000000000))), (some (9, false))⟩,
    ⟨(some 12), .pick (.t 9) (.c (.s (.bool true))) (.t 11), none⟩,
    ⟨(some 13), .mov (.t 12), none⟩,
    ⟨(some 14), .mov (.t 1), (some (13, false))⟩,
    ⟨(some 15), .bin .lss (.t 14) (.c (.s (.int .i64 0))), (some (13, false))⟩,
    ⟨(some 16), .pick (.t 13) (.c (.s (.bool true))) (.t 15), none⟩,
    ⟨(some 17), .mov (.t 16), none⟩,
    ⟨(some 18), .mov (.t 1), (some (17, false))⟩,
    ⟨(some 19), .bin .gtr (.t 18) (.c (.s (.int .i64 10000000))), (some (17, false))⟩,
    ⟨(some 20), .pick (.t 17) (.c (.s (.bool true))) (.t 19), none⟩] [0, 1, 20])
  (.cond (.t 20) (.seq (.ops [⟨(some 4), .mov (.c (.s (.int .i64 0))), none⟩,
    ⟨(some 5), .mov (.c (.s (.bool false))), none⟩] [4, 5])
  (.ret [4, 5]))
  .skip))
  s14_2)
def b14 : EC := (.seq (.ops [⟨(some 4), .mov (.c (.s (.int .i64 0))), none⟩,
    ⟨(some 5), .mov (.c (.s (.bool false))), none⟩] [0, 1])
  s14_1)
def e14 : EF := ⟨33, b14, [.tmp 4, .tmp 5]⟩

/-- scutage/scutagelaw01.wakes -/
def h15 : List (List Nat) := [[], [1, 2], [1, 2, 3, 4], [0], [0]]
def s15_3 : EC := (.seq (.ops [⟨(some 13), .mov (.t 2), none⟩,
    ⟨(some 14), .mov (.t 13), none⟩,
    ⟨(some 15), .mov (.t 4), (some (14, true))⟩,
    ⟨(some 16), .pick (.t 14) (.t 15) (.c (.s (.bool false))), none⟩,
    ⟨(some 17), .mov (.t 16), none⟩,
    ⟨(some 18), .mov (.t 1), (some (17, true))⟩,
    ⟨(some 19), .bin .eql (.t 18) (.c (.s (.int .i64 2))), (some (17, true))⟩,
    ⟨(some 20), .pick (.t 17) (.t 19) (.c (.s (.bool false))), none⟩,
    ⟨(some 21), .mov (.t 20), none⟩,
    ⟨(some 22), .mov (.t 3), (some (21, true))⟩,
    ⟨(some 23), .bin .eql (.t 22) (.c (.s (.int .i64 (-2)))), (some (21, true))⟩,
    ⟨(some 24), .pick (.t 21) (.t 23) (.c (.s (.bool false))), none⟩,
    ⟨(some 0), .mov (.t 24), none⟩] [0])
  (.ret [0]))
def s15_2 : EC := (.seq (.ops [⟨(some 10), .call 14 [(.c (.s (.int .i64 (-5)))), (.c (.s (.int .i64 300000)))], none⟩,
    ⟨(some 9), .mov (.t 10), none⟩,
    ⟨(some 11), .ext (.t 9) 0, none⟩,
    ⟨(some 12), .ext (.t 9) 1, none⟩,
    ⟨(some 3), .mov (.t 11), none⟩,
    ⟨(some 4), .mov (.t 12), none⟩] [1, 2, 3, 4])
  s15_3)
def s15_1 : EC := (.seq (.ops [⟨(some 6), .call 14 [(.c (.s (.int .i64 5))), (.c (.s (.int .i64 300000)))], none⟩,
    ⟨(some 5), .mov (.t 6), none⟩,
    ⟨(some 7), .ext (.t 5) 0, none⟩,
    ⟨(some 8), .ext (.t 5) 1, none⟩,
    ⟨(some 1), .mov (.t 7), none⟩,
    ⟨(some 2), .mov (.t 8), none⟩] [1, 2])
  s15_2)
def b15 : EC := (.seq (.ops [⟨(some 0), .mov (.c (.s (.bool false))), none⟩] [])
  s15_1)
def e15 : EF := ⟨25, b15, [.tmp 0]⟩

/-- scutage/rate.Floor -/
def h16 : List (List Nat) := [[0, 1], [0, 1, 17], [4, 5], [4, 5], [4, 5], [4, 5]]
def s16_2 : EC := (.seq (.ops [⟨(some 18), .mov (.t 0), none⟩,
    ⟨(some 19), .mov (.t 1), none⟩,
    ⟨(some 20), .bin .mul (.t 18) (.t 19), none⟩,
    ⟨(some 21), .bin .quo (.t 20) (.c (.s (.int .i64 1000000))), none⟩,
    ⟨(some 4), .mov (.t 21), none⟩,
    ⟨(some 5), .mov (.c (.s (.bool true))), none⟩] [4, 5])
  (.ret [4, 5]))
def s16_1 : EC := (.seq (.seq (.ops [⟨(some 6), .mov (.t 0), none⟩,
    ⟨(some 7), .call 17 [(.t 6)], none⟩,
    ⟨(some 8), .un .not (.t 7), none⟩,
    ⟨(some 9), .mov (.t 8), none⟩,
    ⟨(some 10), .mov (.t 0), (some (9, false))⟩,
    ⟨(some 11), .bin .lss (.t 10) (.c (.s (.int .i64 0))), (some (9, false))⟩,
    ⟨(some 12), .pick (.t 9) (.c (.s (.bool true))) (.t 11), none⟩,
    ⟨(some 13), .mov (.t 12), none⟩,
    ⟨(some 14), .mov (.t 1), (some (13, false))⟩,
    ⟨(some 15), .call 18 [(.t 14)], (some (13, false))⟩,
    ⟨(some 16), .un .not (.t 15), (some (13, false))⟩,
    ⟨(some 17), .pick (.t 13) (.c (.s (.bool true))) (.t 16), none⟩] [0, 1, 17])
  (.cond (.t 17) (.seq (.ops [⟨(some 4), .mov (.c (.s (.int .i64 0))), none⟩,
    ⟨(some 5), .mov (.c (.s (.bool false))), none⟩] [4, 5])
  (.ret [4, 5]))
  .skip))
  s16_2)
def b16 : EC := (.seq (.ops [⟨(some 4), .mov (.c (.s (.int .i64 0))), none⟩,
    ⟨(some 5), .mov (.c (.s (.bool false))), none⟩] [0, 1])
  s16_1)
def e16 : EF := ⟨22, b16, [.tmp 4, .tmp 5]⟩

/-- scutage/rate.Money -/
def h17 : List (List Nat) := [[0], [2], [2]]
def s17_1 : EC := (.seq (.ops [⟨(some 3), .mov (.t 0), none⟩,
    ⟨(some 4), .bin .geq (.t 3) (.c (.s (.int .i64 (-100000000000)))), none⟩,
    ⟨(some 5), .mov (.t 4), none⟩,
    ⟨(some 6), .mov (.t 0), (some (5, true))⟩,
    ⟨(some 7), .bin .leq (.t 6) (.c (.s (.int .i64 100000000000))), (some (5, true))⟩,
    ⟨(some 8), .pick (.t 5) (.t 7) (.c (.s (.bool false))), none⟩,
    ⟨(some 2), .mov (.t 8), none⟩] [2])
  (.ret [2]))
def b17 : EC := (.seq (.ops [⟨(some 2), .mov (.c (.s (.bool false))), none⟩] [0])
  s17_1)
def e17 : EF := ⟨9, b17, [.tmp 2]⟩

/-- scutage/rate.Right -/
def h18 : List (List Nat) := [[0], [2], [2]]
def s18_1 : EC := (.seq (.ops [⟨(some 3), .mov (.t 0), none⟩,
    ⟨(some 4), .bin .geq (.t 3) (.c (.s (.int .i64 0))), none⟩,
    ⟨(some 5), .mov (.t 4), none⟩,
    ⟨(some 6), .mov (.t 0), (some (5, true))⟩,
    ⟨(some 7), .bin .leq (.t 6) (.c (.s (.int .i64 1000000))), (some (5, true))⟩,
    ⟨(some 8), .pick (.t 5) (.t 7) (.c (.s (.bool false))), none⟩,
    ⟨(some 2), .mov (.t 8), none⟩] [2])
  (.ret [2]))
def b18 : EC := (.seq (.ops [⟨(some 2), .mov (.c (.s (.bool false))), none⟩] [0])
  s18_1)
def e18 : EF := ⟨9, b18, [.tmp 2]⟩

/-- scutage/scutagekeep.Cut[int] -/
def h19 : List (List Nat) := [[0, 1], [4], [4]]
def s19_1 : EC := (.seq (.ops [⟨(some 5), .mov (.t 0), none⟩,
    ⟨(some 6), .mov (.t 0), none⟩,
    ⟨(some 7), .len (.t 6), none⟩,
    ⟨(some 8), .mov (.t 1), none⟩,
    ⟨(some 9), .mn (.t 7) [(.t 8)], none⟩,
    ⟨(some 10), .sli 3 1 (.t 5) none (some (.t 9)), none⟩,
    ⟨(some 11), .call 22 [(.t 10)], none⟩,
    ⟨(some 4), .mov (.t 11), none⟩] [4])
  (.ret [4]))
def b19 : EC := (.seq (.ops [⟨(some 4), .mov (.c (.s .nils)), none⟩] [0, 1])
  s19_1)
def e19 : EF := ⟨12, b19, [.tmp 4]⟩

/-- scutage/rate.Sum -/
def h20 : List (List Nat) := [[0], [0, 4], [4, 7, 8, 9], [4, 7, 8, 9], [4, 7, 8, 9, 10], [4], [4, 6, 7, 8, 9], [4, 6, 7, 8, 9, 15], [2, 3], [2, 3], [4, 7, 8, 9], [4, 7, 8, 9], [4, 22], [2, 3], [2, 3], [2, 3], [2, 3]]
def l20_0_2 : EC := (.seq (.block 1 (.seq (.ops [⟨(some 11), .iad 3 1 (.t 7) (.t 9), none⟩,
    ⟨(some 12), .load false 1 (.t 11), none⟩,
    ⟨(some 6), .mov (.t 12), none⟩] [4, 6, 7, 8, 9])
  (.seq (.seq (.ops [⟨(some 13), .mov (.t 6), none⟩,
    ⟨(some 14), .call 17 [(.t 13)], none⟩,
    ⟨(some 15), .un .not (.t 14), none⟩] [4, 6, 7, 8, 9, 15])
  (.cond (.t 15) (.seq (.ops [⟨(some 2), .mov (.c (.s (.int .i64 0))), none⟩,
    ⟨(some 3), .mov (.c (.s (.bool false))), none⟩] [2, 3])
  (.ret [2, 3]))
  .skip))
  (.ops [⟨(some 16), .mov (.t 4), none⟩,
    ⟨(some 17), .mov (.t 6), none⟩,
    ⟨(some 18), .bin .add (.t 16) (.t 17), none⟩,
    ⟨(some 4), .mov (.t 18), none⟩] [4, 7, 8, 9]))))
  (.ops [⟨(some 19), .bin .add (.t 9) (.c (.s (.int .i64 1))), none⟩,
    ⟨(some 9), .mov (.t 19), none⟩] [4, 7, 8, 9]))
def l20_0_1 : EC := (.seq (.cond (.t 10) .skip
  (.exit 0 [4]))
  l20_0_2)
def l20_0 : EC := (.seq (.ops [⟨(some 10), .bin .lss (.t 9) (.t 8), none⟩] [4, 7, 8, 9, 10])
  l20_0_1)
def s20_4 : EC := (.seq (.ops [⟨(some 23), .mov (.t 4), none⟩,
    ⟨(some 2), .mov (.t 23), none⟩,
    ⟨(some 3), .mov (.c (.s (.bool true))), none⟩] [2, 3])
  (.ret [2, 3]))
def s20_3 : EC := (.seq (.seq (.ops [⟨(some 20), .mov (.t 4), none⟩,
    ⟨(some 21), .call 17 [(.t 20)], none⟩,
    ⟨(some 22), .un .not (.t 21), none⟩] [4, 22])
  (.cond (.t 22) (.seq (.ops [⟨(some 2), .mov (.c (.s (.int .i64 0))), none⟩,
    ⟨(some 3), .mov (.c (.s (.bool false))), none⟩] [2, 3])
  (.ret [2, 3]))
  .skip))
  s20_4)
def s20_2 : EC := (.seq (.seq (.ops [⟨(some 7), .mov (.t 0), none⟩,
    ⟨(some 8), .len (.t 7), none⟩,
    ⟨(some 9), .mov (.c (.s (.int .i64 0))), none⟩] [4, 7, 8, 9])
  (.block 0 (.loop [4, 7, 8, 9] l20_0)))
  s20_3)
def s20_1 : EC := (.seq (.ops [⟨(some 4), .mov (.c (.s (.int .i64 0))), none⟩] [0, 4])
  s20_2)
def b20 : EC := (.seq (.ops [⟨(some 2), .mov (.c (.s (.int .i64 0))), none⟩,
    ⟨(some 3), .mov (.c (.s (.bool false))), none⟩] [0])
  s20_1)
def e20 : EF := ⟨24, b20, [.tmp 2, .tmp 3]⟩

/-- scutage/rate.Least -/
def h21 : List (List Nat) := [[0], [0, 6], [2, 3], [2, 3], [2, 3], [2, 3]]
def s21_2 : EC := (.seq (.ops [⟨(some 7), .mov (.t 0), none⟩,
    ⟨(some 8), .call 35 [(.t 7)], none⟩,
    ⟨(some 2), .mov (.t 8), none⟩,
    ⟨(some 3), .mov (.c (.s (.bool true))), none⟩] [2, 3])
  (.ret [2, 3]))
def s21_1 : EC := (.seq (.seq (.ops [⟨(some 4), .mov (.t 0), none⟩,
    ⟨(some 5), .len (.t 4), none⟩,
    ⟨(some 6), .bin .eql (.t 5) (.c (.s (.int .i64 0))), none⟩] [0, 6])
  (.cond (.t 6) (.seq (.ops [⟨(some 2), .mov (.c (.s (.int .i64 0))), none⟩,
    ⟨(some 3), .mov (.c (.s (.bool false))), none⟩] [2, 3])
  (.ret [2, 3]))
  .skip))
  s21_2)
def b21 : EC := (.seq (.ops [⟨(some 2), .mov (.c (.s (.int .i64 0))), none⟩,
    ⟨(some 3), .mov (.c (.s (.bool false))), none⟩] [0])
  s21_1)
def e21 : EF := ⟨9, b21, [.tmp 2, .tmp 3]⟩

/-- scutage/scutagekeep.Copy[int] -/
def h22 : List (List Nat) := [[0], [2], [2]]
def s22_1 : EC := (.seq (.ops [⟨(some 3), .mov (.t 0), none⟩,
    ⟨(some 4), .app 3 1 8 (.c (.s .nils)) (.t 3), none⟩,
    ⟨(some 2), .mov (.t 4), none⟩] [2])
  (.ret [2]))
def b22 : EC := (.seq (.ops [⟨(some 2), .mov (.c (.s .nils)), none⟩] [0])
  s22_1)
def e22 : EF := ⟨5, b22, [.tmp 2]⟩

/-- scutage/scutageplay.Amount -/
def h23 : List (List Nat) := [[0], [0, 4], [0, 4, 5], [2], [2], [0, 4, 12], [2], [2], [0, 4, 19], [2], [2], [0, 22], [2], [2], [2], [2]]
def s23_2 : EC := (.seq (.ops [⟨(some 28), .mov (.t 0), none⟩,
    ⟨(some 29), .call 13 [(.t 28), (.c (.s (.int .i64 4001)))], none⟩,
    ⟨(some 30), .bin .sub (.t 29) (.c (.s (.int .i64 2000))), none⟩,
    ⟨(some 2), .mov (.t 30), none⟩] [2])
  (.ret [2]))
def s23_1 : EC := (.seq (.seq (.ops [⟨(some 3), .mov (.t 0), none⟩,
    ⟨(some 4), .bin .rem (.t 3) (.c (.s (.int .i64 23))), none⟩] [0, 4])
  (.block 0 (.seq (.ops [⟨(some 6), .bin .eql (.t 4) (.c (.s (.int .i64 20))), none⟩,
    ⟨(some 5), .mov (.t 6), none⟩] [0, 4, 5])
  (.cond (.t 5) (.seq (.ops [⟨(some 7), .mov (.t 0), none⟩,
    ⟨(some 8), .bin .quo (.t 7) (.c (.s (.int .i64 23))), none⟩,
    ⟨(some 9), .call 13 [(.t 8), (.c (.s (.int .i64 5)))], none⟩,
    ⟨(some 10), .bin .sub (.c (.s (.int .i64 100000000000))) (.t 9), none⟩,
    ⟨(some 11), .bin .add (.t 10) (.c (.s (.int .i64 2))), none⟩,
    ⟨(some 2), .mov (.t 11), none⟩] [2])
  (.ret [2]))
  (.seq (.ops [⟨(some 13), .bin .eql (.t 4) (.c (.s (.int .i64 21))), none⟩,
    ⟨(some 12), .mov (.t 13), none⟩] [0, 4, 12])
  (.cond (.t 12) (.seq (.ops [⟨(some 14), .mov (.t 0), none⟩,
    ⟨(some 15), .bin .quo (.t 14) (.c (.s (.int .i64 23))), none⟩,
    ⟨(some 16), .call 13 [(.t 15), (.c (.s (.int .i64 5)))], none⟩,
    ⟨(some 17), .bin .add (.c (.s (.int .i64 (-100000000000)))) (.t 16), none⟩,
    ⟨(some 18), .bin .sub (.t 17) (.c (.s (.int .i64 2))), none⟩,
    ⟨(some 2), .mov (.t 18), none⟩] [2])
  (.ret [2]))
  (.seq (.ops [⟨(some 20), .bin .eql (.t 4) (.c (.s (.int .i64 22))), none⟩,
    ⟨(some 19), .mov (.t 20), none⟩] [0, 4, 19])
  (.cond (.t 19) (.seq (.ops [⟨(some 21), .mov (.t 0), none⟩,
    ⟨(some 2), .mov (.t 21), none⟩] [2])
  (.ret [2]))
  (.seq (.ops [⟨(some 23), .bin .eql (.t 4) (.c (.s (.int .i64 19))), none⟩,
    ⟨(some 22), .mov (.t 23), none⟩] [0, 22])
  (.cond (.t 22) (.seq (.ops [⟨(some 24), .mov (.t 0), none⟩,
    ⟨(some 25), .bin .quo (.t 24) (.c (.s (.int .i64 23))), none⟩,
    ⟨(some 26), .call 13 [(.t 25), (.c (.s (.int .i64 200000000001)))], none⟩,
    ⟨(some 27), .bin .sub (.t 26) (.c (.s (.int .i64 100000000000))), none⟩,
    ⟨(some 2), .mov (.t 27), none⟩] [2])
  (.ret [2]))
  .skip))))))))))
  s23_2)
def b23 : EC := (.seq (.ops [⟨(some 2), .mov (.c (.s (.int .i64 0))), none⟩] [0])
  s23_1)
def e23 : EF := ⟨31, b23, [.tmp 2]⟩

/-- scutage/scutageplay.Rate -/
def h24 : List (List Nat) := [[0], [0, 5], [2], [2], [2], [2]]
def s24_2 : EC := (.seq (.ops [⟨(some 7), .bsl 3 10 [(.int .i64 0)] [(0, 1, (.c (.s (.int .i64 250000)))), (1, 1, (.c (.s (.int .i64 300000)))), (2, 1, (.c (.s (.int .i64 190000)))), (3, 1, (.c (.s (.int .i64 0)))), (4, 1, (.c (.s (.int .i64 1000000)))), (5, 1, (.c (.s (.int .i64 333333)))), (6, 1, (.c (.s (.int .i64 500000)))), (7, 1, (.c (.s (.int .i64 1)))), (8, 1, (.c (.s (.int .i64 125000)))), (9, 1, (.c (.s (.int .i64 999999))))], none⟩,
    ⟨(some 8), .mov (.t 0), none⟩,
    ⟨(some 9), .call 13 [(.t 8), (.c (.s (.int .i64 10)))], none⟩,
    ⟨(some 10), .iad 3 1 (.t 7) (.t 9), none⟩,
    ⟨(some 11), .load false 1 (.t 10), none⟩,
    ⟨(some 2), .mov (.t 11), none⟩] [2])
  (.ret [2]))
def s24_1 : EC := (.seq (.seq (.ops [⟨(some 3), .mov (.t 0), none⟩,
    ⟨(some 4), .bin .rem (.t 3) (.c (.s (.int .i64 29))), none⟩,
    ⟨(some 5), .bin .eql (.t 4) (.c (.s (.int .i64 28))), none⟩] [0, 5])
  (.cond (.t 5) (.seq (.ops [⟨(some 6), .mov (.t 0), none⟩,
    ⟨(some 2), .mov (.t 6), none⟩] [2])
  (.ret [2]))
  .skip))
  s24_2)
def b24 : EC := (.seq (.ops [⟨(some 2), .mov (.c (.s (.int .i64 0))), none⟩] [0])
  s24_1)
def e24 : EF := ⟨12, b24, [.tmp 2]⟩

/-- scutage/scutageref01.Of -/
def h25 : List (List Nat) := [[0, 1], [0, 1, 24], [4, 5], [4, 5], [0, 1, 26], [6], [4, 5], [4, 5], [8], [9, 10], [9, 45], [9], [4, 5], [4, 5]]
def s25_6 : EC := (.seq (.ops [⟨(some 48), .mov (.t 9), none⟩,
    ⟨(some 4), .mov (.t 48), none⟩,
    ⟨(some 5), .mov (.c (.s (.bool true))), none⟩] [4, 5])
  (.ret [4, 5]))
def s25_5 : EC := (.seq (.seq (.ops [⟨(some 43), .mov (.t 10), none⟩,
    ⟨(some 44), .bin .mul (.c (.s (.int .i64 2))) (.t 43), none⟩,
    ⟨(some 45), .bin .geq (.t 44) (.c (.s (.int .i64 1000000))), none⟩] [9, 45])
  (.cond (.t 45) (.ops [⟨(some 46), .mov (.t 9), none⟩,
    ⟨(some 47), .bin .add (.t 46) (.c (.s (.int .i64 1))), none⟩,
    ⟨(some 9), .mov (.t 47), none⟩] [9])
  .skip))
  s25_6)
def s25_4 : EC := (.seq (.ops [⟨(some 39), .mov (.t 8), none⟩,
    ⟨(some 40), .bin .quo (.t 39) (.c (.s (.int .i64 1000000))), none⟩,
    ⟨(some 41), .mov (.t 8), none⟩,
    ⟨(some 42), .bin .rem (.t 41) (.c (.s (.int .i64 1000000))), none⟩,
    ⟨(some 9), .mov (.t 40), none⟩,
    ⟨(some 10), .mov (.t 42), none⟩] [9, 10])
  s25_5)
def s25_3 : EC := (.seq (.ops [⟨(some 36), .mov (.t 0), none⟩,
    ⟨(some 37), .mov (.t 1), none⟩,
    ⟨(some 38), .bin .mul (.t 36) (.t 37), none⟩,
    ⟨(some 8), .mov (.t 38), none⟩] [8])
  s25_4)
def s25_2 : EC := (.seq (.seq (.ops [⟨(some 25), .mov (.t 0), none⟩,
    ⟨(some 26), .bin .lss (.t 25) (.c (.s (.int .i64 0))), none⟩] [0, 1, 26])
  (.cond (.t 26) (.seq (.ops [⟨(some 28), .mov (.t 0), none⟩,
    ⟨(some 29), .un .neg (.t 28), none⟩,
    ⟨(some 30), .mov (.t 1), none⟩,
    ⟨(some 31), .call 25 [(.t 29), (.t 30)], none⟩,
    ⟨(some 27), .mov (.t 31), none⟩,
    ⟨(some 32), .ext (.t 27) 0, none⟩,
    ⟨(some 33), .ext (.t 27) 1, none⟩,
    ⟨(some 6), .mov (.t 32), none⟩,
    ⟨(some 7), .mov (.t 33), none⟩] [6])
  (.seq (.ops [⟨(some 34), .mov (.t 6), none⟩,
    ⟨(some 35), .un .neg (.t 34), none⟩,
    ⟨(some 4), .mov (.t 35), none⟩,
    ⟨(some 5), .mov (.c (.s (.bool true))), none⟩] [4, 5])
  (.ret [4, 5])))
  .skip))
  s25_3)
def s25_1 : EC := (.seq (.seq (.ops [⟨(some 11), .mov (.t 0), none⟩,
    ⟨(some 12), .bin .lss (.t 11) (.c (.s (.int .i64 (-400000000000)))), none⟩,
    ⟨(some 13), .mov (.t 12), none⟩,
    ⟨(some 14), .mov (.t 0), (some (13, false))⟩,
    ⟨(some 15), .bin .gtr (.t 14) (.c (.s (.int .i64 400000000000))), (some (13, false))⟩,
    ⟨(some 16), .pick (.t 13) (.c (.s (.bool true))) (.t 15), none⟩,
    ⟨(some 17), .mov (.t 16), none⟩,
    ⟨(some 18), .mov (.t 1), (some (17, false))⟩,
    ⟨(some 19), .bin .lss (.t 18) (.c (.s (.int .i64 0))), (some (17, false))⟩,
    ⟨(some 20), .pick (.t 17) (.c (.s (.bool true))) (.t 19), none⟩,
    ⟨(some 21), .mov (.t 20), none⟩,
    ⟨(some 22), .mov (.t 1), (some (21, false))⟩,
    ⟨(some 23), .bin .gtr (.t 22) (.c (.s (.int .i64 10000000))), (some (21, false))⟩,
    ⟨(some 24), .pick (.t 21) (.c (.s (.bool true))) (.t 23), none⟩] [0, 1, 24])
  (.cond (.t 24) (.seq (.ops [⟨(some 4), .mov (.c (.s (.int .i64 0))), none⟩,
    ⟨(some 5), .mov (.c (.s (.bool false))), none⟩] [4, 5])
  (.ret [4, 5]))
  .skip))
  s25_2)
def b25 : EC := (.seq (.ops [⟨(some 4), .mov (.c (.s (.int .i64 0))), none⟩,
    ⟨(some 5), .mov (.c (.s (.bool false))), none⟩] [0, 1])
  s25_1)
def e25 : EF := ⟨49, b25, [.tmp 4, .tmp 5]⟩

/-- scutage/scutageref01.Floor -/
def h26 : List (List Nat) := [[0, 1], [0, 1, 17], [4, 5], [4, 5], [4, 5], [4, 5]]
def s26_2 : EC := (.seq (.ops [⟨(some 18), .mov (.t 0), none⟩,
    ⟨(some 19), .mov (.t 1), none⟩,
    ⟨(some 20), .bin .mul (.t 18) (.t 19), none⟩,
    ⟨(some 21), .bin .quo (.t 20) (.c (.s (.int .i64 1000000))), none⟩,
    ⟨(some 4), .mov (.t 21), none⟩,
    ⟨(some 5), .mov (.c (.s (.bool true))), none⟩] [4, 5])
  (.ret [4, 5]))
def s26_1 : EC := (.seq (.seq (.ops [⟨(some 6), .mov (.t 0), none⟩,
    ⟨(some 7), .bin .lss (.t 6) (.c (.s (.int .i64 0))), none⟩,
    ⟨(some 8), .mov (.t 7), none⟩,
    ⟨(some 9), .mov (.t 0), (some (8, false))⟩,
    ⟨(some 10), .call 27 [(.t 9)], (some (8, false))⟩,
    ⟨(some 11), .un .not (.t 10), (some (8, false))⟩,
    ⟨(some 12), .pick (.t 8) (.c (.s (.bool true))) (.t 11), none⟩,
    ⟨(some 13), .mov (.t 12), none⟩,
    ⟨(some 14), .mov (.t 1), (some (13, false))⟩,
    ⟨(some 15), .call 28 [(.t 14)], (some (13, false))⟩,
    ⟨(some 16), .un .not (.t 15), (some (13, false))⟩,
    ⟨(some 17), .pick (.t 13) (.c (.s (.bool true))) (.t 16), none⟩] [0, 1, 17])
  (.cond (.t 17) (.seq (.ops [⟨(some 4), .mov (.c (.s (.int .i64 0))), none⟩,
    ⟨(some 5), .mov (.c (.s (.bool false))), none⟩] [4, 5])
  (.ret [4, 5]))
  .skip))
  s26_2)
def b26 : EC := (.seq (.ops [⟨(some 4), .mov (.c (.s (.int .i64 0))), none⟩,
    ⟨(some 5), .mov (.c (.s (.bool false))), none⟩] [0, 1])
  s26_1)
def e26 : EF := ⟨22, b26, [.tmp 4, .tmp 5]⟩

/-- scutage/scutageref01.Money -/
def h27 : List (List Nat) := [[0], [2], [2]]
def s27_1 : EC := (.seq (.ops [⟨(some 3), .mov (.t 0), none⟩,
    ⟨(some 4), .bin .geq (.t 3) (.c (.s (.int .i64 (-100000000000)))), none⟩,
    ⟨(some 5), .mov (.t 4), none⟩,
    ⟨(some 6), .mov (.t 0), (some (5, true))⟩,
    ⟨(some 7), .bin .leq (.t 6) (.c (.s (.int .i64 100000000000))), (some (5, true))⟩,
    ⟨(some 8), .pick (.t 5) (.t 7) (.c (.s (.bool false))), none⟩,
    ⟨(some 2), .mov (.t 8), none⟩] [2])
  (.ret [2]))
def b27 : EC := (.seq (.ops [⟨(some 2), .mov (.c (.s (.bool false))), none⟩] [0])
  s27_1)
def e27 : EF := ⟨9, b27, [.tmp 2]⟩

/-- scutage/scutageref01.Right -/
def h28 : List (List Nat) := [[0], [2], [2]]
def s28_1 : EC := (.seq (.ops [⟨(some 3), .mov (.t 0), none⟩,
    ⟨(some 4), .bin .geq (.t 3) (.c (.s (.int .i64 0))), none⟩,
    ⟨(some 5), .mov (.t 4), none⟩,
    ⟨(some 6), .mov (.t 0), (some (5, true))⟩,
    ⟨(some 7), .bin .leq (.t 6) (.c (.s (.int .i64 1000000))), (some (5, true))⟩,
    ⟨(some 8), .pick (.t 5) (.t 7) (.c (.s (.bool false))), none⟩,
    ⟨(some 2), .mov (.t 8), none⟩] [2])
  (.ret [2]))
def b28 : EC := (.seq (.ops [⟨(some 2), .mov (.c (.s (.bool false))), none⟩] [0])
  s28_1)
def e28 : EF := ⟨9, b28, [.tmp 2]⟩

/-- scutage/scutageref01.Sum -/
def h29 : List (List Nat) := [[0], [0, 4], [4, 7, 8, 9], [4, 7, 8, 9], [4, 7, 8, 9, 10], [4], [4, 6, 7, 8, 9], [4, 6, 7, 8, 9, 15], [2, 3], [2, 3], [4, 7, 8, 9], [4, 7, 8, 9], [4, 22], [2, 3], [2, 3], [2, 3], [2, 3]]
def l29_0_2 : EC := (.seq (.block 1 (.seq (.ops [⟨(some 11), .iad 3 1 (.t 7) (.t 9), none⟩,
    ⟨(some 12), .load false 1 (.t 11), none⟩,
    ⟨(some 6), .mov (.t 12), none⟩] [4, 6, 7, 8, 9])
  (.seq (.seq (.ops [⟨(some 13), .mov (.t 6), none⟩,
    ⟨(some 14), .call 27 [(.t 13)], none⟩,
    ⟨(some 15), .un .not (.t 14), none⟩] [4, 6, 7, 8, 9, 15])
  (.cond (.t 15) (.seq (.ops [⟨(some 2), .mov (.c (.s (.int .i64 0))), none⟩,
    ⟨(some 3), .mov (.c (.s (.bool false))), none⟩] [2, 3])
  (.ret [2, 3]))
  .skip))
  (.ops [⟨(some 16), .mov (.t 4), none⟩,
    ⟨(some 17), .mov (.t 6), none⟩,
    ⟨(some 18), .bin .add (.t 16) (.t 17), none⟩,
    ⟨(some 4), .mov (.t 18), none⟩] [4, 7, 8, 9]))))
  (.ops [⟨(some 19), .bin .add (.t 9) (.c (.s (.int .i64 1))), none⟩,
    ⟨(some 9), .mov (.t 19), none⟩] [4, 7, 8, 9]))
def l29_0_1 : EC := (.seq (.cond (.t 10) .skip
  (.exit 0 [4]))
  l29_0_2)
def l29_0 : EC := (.seq (.ops [⟨(some 10), .bin .lss (.t 9) (.t 8), none⟩] [4, 7, 8, 9, 10])
  l29_0_1)
def s29_4 : EC := (.seq (.ops [⟨(some 23), .mov (.t 4), none⟩,
    ⟨(some 2), .mov (.t 23), none⟩,
    ⟨(some 3), .mov (.c (.s (.bool true))), none⟩] [2, 3])
  (.ret [2, 3]))
def s29_3 : EC := (.seq (.seq (.ops [⟨(some 20), .mov (.t 4), none⟩,
    ⟨(some 21), .call 27 [(.t 20)], none⟩,
    ⟨(some 22), .un .not (.t 21), none⟩] [4, 22])
  (.cond (.t 22) (.seq (.ops [⟨(some 2), .mov (.c (.s (.int .i64 0))), none⟩,
    ⟨(some 3), .mov (.c (.s (.bool false))), none⟩] [2, 3])
  (.ret [2, 3]))
  .skip))
  s29_4)
def s29_2 : EC := (.seq (.seq (.ops [⟨(some 7), .mov (.t 0), none⟩,
    ⟨(some 8), .len (.t 7), none⟩,
    ⟨(some 9), .mov (.c (.s (.int .i64 0))), none⟩] [4, 7, 8, 9])
  (.block 0 (.loop [4, 7, 8, 9] l29_0)))
  s29_3)
def s29_1 : EC := (.seq (.ops [⟨(some 4), .mov (.c (.s (.int .i64 0))), none⟩] [0, 4])
  s29_2)
def b29 : EC := (.seq (.ops [⟨(some 2), .mov (.c (.s (.int .i64 0))), none⟩,
    ⟨(some 3), .mov (.c (.s (.bool false))), none⟩] [0])
  s29_1)
def e29 : EF := ⟨24, b29, [.tmp 2, .tmp 3]⟩

/-- slices.Min[[]int,int] -/
def h35 : List (List Nat) := [[0], [0, 7], [0], [0, 3], [0, 3, 4], [0, 3, 4], [0, 3, 4, 15], [3], [0, 3, 4], [0, 3, 4], [2], [2]]
def l35_0_1 : EC := (.seq (.block 1 (.ops [⟨(some 18), .mov (.t 3), none⟩,
    ⟨(some 19), .mov (.t 0), none⟩,
    ⟨(some 20), .mov (.t 4), none⟩,
    ⟨(some 21), .iad 3 1 (.t 19) (.t 20), none⟩,
    ⟨(some 22), .load false 1 (.t 21), none⟩,
    ⟨(some 23), .mn (.t 18) [(.t 22)], none⟩,
    ⟨(some 3), .mov (.t 23), none⟩] [0, 3, 4]))
  (.ops [⟨(some 16), .mov (.t 4), none⟩,
    ⟨(some 17), .bin .add (.t 16) (.c (.s (.int .i64 1))), none⟩,
    ⟨(some 4), .mov (.t 17), none⟩] [0, 3, 4]))
def l35_0 : EC := (.seq (.seq (.ops [⟨(some 12), .mov (.t 4), none⟩,
    ⟨(some 13), .mov (.t 0), none⟩,
    ⟨(some 14), .len (.t 13), none⟩,
    ⟨(some 15), .bin .lss (.t 12) (.t 14), none⟩] [0, 3, 4, 15])
  (.cond (.t 15) .skip
  (.exit 0 [3])))
  l35_0_1)
def s35_4 : EC := (.seq (.ops [⟨(some 24), .mov (.t 3), none⟩,
    ⟨(some 2), .mov (.t 24), none⟩] [2])
  (.ret [2]))
def s35_3 : EC := (.seq (.seq (.ops [⟨(some 4), .mov (.c (.s (.int .i64 1))), none⟩] [0, 3, 4])
  (.block 0 (.loop [0, 3, 4] l35_0)))
  s35_4)
def s35_2 : EC := (.seq (.ops [⟨(some 9), .mov (.t 0), none⟩,
    ⟨(some 10), .iad 3 1 (.t 9) (.c (.s (.int .i64 0))), none⟩,
    ⟨(some 11), .load false 1 (.t 10), none⟩,
    ⟨(some 3), .mov (.t 11), none⟩] [0, 3])
  s35_3)
def s35_1 : EC := (.seq (.seq (.ops [⟨(some 5), .mov (.t 0), none⟩,
    ⟨(some 6), .len (.t 5), none⟩,
    ⟨(some 7), .bin .lss (.t 6) (.c (.s (.int .i64 1))), none⟩] [0, 7])
  (.cond (.t 7) (.ops [⟨(some 8), .mki 9 (.c (.s (.str ⟨#[115, 108, 105, 99, 101, 115, 46, 77, 105, 110, 58, 32, 101, 109, 112, 116, 121, 32, 108, 105, 115, 116]⟩))), none⟩,
    ⟨none, .re (.c (.s .nilp)), none⟩] [0])
  .skip))
  s35_2)
def b35 : EC := (.seq (.ops [⟨(some 2), .mov (.c (.s (.int .i64 0))), none⟩] [0])
  s35_1)
def e35 : EF := ⟨25, b35, [.tmp 2]⟩

def C : Nat → Option EF
  | 7 => some e7
  | 8 => some e8
  | 9 => some e9
  | 13 => some e13
  | 14 => some e14
  | 15 => some e15
  | 16 => some e16
  | 17 => some e17
  | 18 => some e18
  | 19 => some e19
  | 20 => some e20
  | 21 => some e21
  | 22 => some e22
  | 23 => some e23
  | 24 => some e24
  | 25 => some e25
  | 26 => some e26
  | 27 => some e27
  | 28 => some e28
  | 29 => some e29
  | 35 => some e35
  | _ => none
end Go.Proofs.Ytalelfjjigfpeaa.Ev.CQ
