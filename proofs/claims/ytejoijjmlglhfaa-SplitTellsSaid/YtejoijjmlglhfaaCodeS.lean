/- The code of some functions for the small machine (printed by wip/tools/EvPrint.lean). -/
import Derived.Test.YtejoijjmlglhfaaEvKit
namespace Go.Proofs.Ytejoijjmlglhfaa.Ev.CS
open Go
/-- scutage/scutagelaw02.SplitEven -/
def h3 : List (List Nat) := [[0, 1, 2, 3], [0, 1, 2, 3], [0, 1, 2, 3, 9], [0, 1, 2, 3, 9, 33, 34], [0, 1, 2, 3, 9, 33, 34], [0, 1, 2, 3, 9, 33, 34, 35], [0, 1, 2, 3, 9], [0, 1, 2, 3, 9, 10, 33, 34], [0, 1, 2, 3, 9, 33, 34], [0, 1, 2, 3, 9, 33, 34], [0, 1, 2, 3, 11, 12], [0, 1, 2, 3, 11, 54], [8], [8], [0, 1, 2, 3, 11, 56, 57], [0, 1, 2, 3, 11, 56, 57], [0, 1, 2, 3, 11, 56, 57, 58], [0, 2, 3], [0, 1, 2, 3, 11, 13, 56, 57], [0, 1, 2, 3, 11, 13, 14, 56, 57], [0, 1, 2, 3, 11, 13, 14, 56, 57, 67], [0, 1, 2, 3, 11, 13, 14, 56, 57], [0, 1, 2, 3, 11, 56, 57, 75], [8], [8], [0, 1, 2, 3, 11, 56, 57], [0, 2, 3, 15, 16], [0, 2, 3, 15, 16, 17], [0, 2, 3, 15, 16, 17], [0, 2, 3, 15, 16, 17, 84], [0, 15, 16], [0, 2, 3, 15, 16, 17], [0, 2, 3, 15, 16, 17], [0, 2, 3, 15, 16, 17], [0, 15, 16, 107], [8], [8], [0, 16, 18, 19], [18, 19, 20, 21], [8], [8]]
def l3_0_2 : EC := (.seq (.block 1 (.seq (.ops [⟨(some 36), .mov (.t 34), none⟩,
    ⟨(some 10), .mov (.t 36), none⟩] [0, 1, 2, 3, 9, 10, 33, 34])
  (.ops [⟨(some 37), .mov (.t 9), none⟩,
    ⟨(some 38), .mov (.t 10), none⟩,
    ⟨(some 39), .iad 3 1 (.t 37) (.t 38), none⟩,
    ⟨none, .store 1 (.t 39) (.c (.s (.int .i64 7))), none⟩] [0, 1, 2, 3, 9, 33, 34])))
  (.ops [⟨(some 40), .bin .add (.t 34) (.c (.s (.int .i64 1))), none⟩,
    ⟨(some 34), .mov (.t 40), none⟩] [0, 1, 2, 3, 9, 33, 34]))
def l3_0_1 : EC := (.seq (.cond (.t 35) .skip
  (.exit 0 [0, 1, 2, 3, 9]))
  l3_0_2)
def l3_0 : EC := (.seq (.ops [⟨(some 35), .bin .lss (.t 34) (.t 33), none⟩] [0, 1, 2, 3, 9, 33, 34, 35])
  l3_0_1)
def l3_1_2 : EC := (.seq (.block 3 (.seq (.ops [⟨(some 59), .mov (.t 57), none⟩,
    ⟨(some 13), .mov (.t 59), none⟩] [0, 1, 2, 3, 11, 13, 56, 57])
  (.seq (.ops [⟨(some 60), .mov (.t 0), none⟩,
    ⟨(some 61), .mov (.t 1), none⟩,
    ⟨(some 62), .bin .quo (.t 60) (.t 61), none⟩,
    ⟨(some 14), .mov (.t 62), none⟩] [0, 1, 2, 3, 11, 13, 14, 56, 57])
  (.seq (.seq (.ops [⟨(some 63), .mov (.t 13), none⟩,
    ⟨(some 64), .mov (.t 0), none⟩,
    ⟨(some 65), .mov (.t 1), none⟩,
    ⟨(some 66), .bin .rem (.t 64) (.t 65), none⟩,
    ⟨(some 67), .bin .lss (.t 63) (.t 66), none⟩] [0, 1, 2, 3, 11, 13, 14, 56, 57, 67])
  (.cond (.t 67) (.ops [⟨(some 68), .mov (.t 14), none⟩,
    ⟨(some 69), .bin .add (.t 68) (.c (.s (.int .i64 1))), none⟩,
    ⟨(some 14), .mov (.t 69), none⟩] [0, 1, 2, 3, 11, 13, 14, 56, 57])
  .skip))
  (.seq (.ops [⟨(some 70), .mov (.t 11), none⟩,
    ⟨(some 71), .mov (.t 13), none⟩,
    ⟨(some 72), .iad 3 1 (.t 70) (.t 71), none⟩,
    ⟨(some 73), .load false 1 (.t 72), none⟩,
    ⟨(some 74), .mov (.t 14), none⟩,
    ⟨(some 75), .bin .neq (.t 73) (.t 74), none⟩] [0, 1, 2, 3, 11, 56, 57, 75])
  (.cond (.t 75) (.seq (.ops [⟨(some 8), .mov (.c (.s (.bool false))), none⟩] [8])
  (.ret [8]))
  .skip))))))
  (.ops [⟨(some 76), .bin .add (.t 57) (.c (.s (.int .i64 1))), none⟩,
    ⟨(some 57), .mov (.t 76), none⟩] [0, 1, 2, 3, 11, 56, 57]))
def l3_1_1 : EC := (.seq (.cond (.t 58) .skip
  (.exit 2 [0, 2, 3]))
  l3_1_2)
def l3_1 : EC := (.seq (.ops [⟨(some 58), .bin .lss (.t 57) (.t 56), none⟩] [0, 1, 2, 3, 11, 56, 57, 58])
  l3_1_1)
def l3_2_1 : EC := (.seq (.block 5 (.seq (.ops [⟨(some 87), .mov (.t 15), none⟩,
    ⟨(some 88), .mov (.t 3), none⟩,
    ⟨(some 89), .mov (.t 17), none⟩,
    ⟨(some 90), .iad 3 1 (.t 88) (.t 89), none⟩,
    ⟨(some 91), .load false 1 (.t 90), none⟩,
    ⟨(some 92), .call 8 [(.t 91), (.c (.s (.int .i64 1000)))], none⟩,
    ⟨(some 93), .bin .add (.c (.s (.int .i64 1))) (.t 92), none⟩,
    ⟨(some 94), .bsl 3 1 [(.int .i64 0)] [(0, 1, (.t 93))], none⟩,
    ⟨(some 95), .app 3 1 8 (.t 87) (.t 94), none⟩,
    ⟨(some 15), .mov (.t 95), none⟩] [0, 2, 3, 15, 16, 17])
  (.ops [⟨(some 96), .mov (.t 16), none⟩,
    ⟨(some 97), .mov (.t 15), none⟩,
    ⟨(some 98), .mov (.t 17), none⟩,
    ⟨(some 99), .iad 3 1 (.t 97) (.t 98), none⟩,
    ⟨(some 100), .load false 1 (.t 99), none⟩,
    ⟨(some 101), .mov (.t 2), none⟩,
    ⟨(some 102), .bin .mul (.t 100) (.t 101), none⟩,
    ⟨(some 103), .bsl 3 1 [(.int .i64 0)] [(0, 1, (.t 102))], none⟩,
    ⟨(some 104), .app 3 1 8 (.t 96) (.t 103), none⟩,
    ⟨(some 16), .mov (.t 104), none⟩] [0, 2, 3, 15, 16, 17])))
  (.ops [⟨(some 85), .mov (.t 17), none⟩,
    ⟨(some 86), .bin .add (.t 85) (.c (.s (.int .i64 1))), none⟩,
    ⟨(some 17), .mov (.t 86), none⟩] [0, 2, 3, 15, 16, 17]))
def l3_2 : EC := (.seq (.seq (.ops [⟨(some 77), .mov (.t 17), none⟩,
    ⟨(some 78), .mov (.t 3), none⟩,
    ⟨(some 79), .len (.t 78), none⟩,
    ⟨(some 80), .bin .lss (.t 77) (.t 79), none⟩,
    ⟨(some 81), .mov (.t 80), none⟩,
    ⟨(some 82), .mov (.t 17), (some (81, true))⟩,
    ⟨(some 83), .bin .lss (.t 82) (.c (.s (.int .i64 16))), (some (81, true))⟩,
    ⟨(some 84), .pick (.t 81) (.t 83) (.c (.s (.bool false))), none⟩] [0, 2, 3, 15, 16, 17, 84])
  (.cond (.t 84) .skip
  (.exit 4 [0, 15, 16])))
  l3_2_1)
def s3_12 : EC := (.seq (.ops [⟨(some 121), .mov (.t 19), none⟩,
    ⟨(some 122), .mov (.t 121), none⟩,
    ⟨(some 123), .mov (.t 21), (some (122, true))⟩,
    ⟨(some 124), .pick (.t 122) (.t 123) (.c (.s (.bool false))), none⟩,
    ⟨(some 125), .mov (.t 124), none⟩,
    ⟨(some 126), .mov (.t 18), (some (125, true))⟩,
    ⟨(some 127), .mov (.t 20), (some (125, true))⟩,
    ⟨(some 128), .call 11 [(.t 126), (.t 127)], (some (125, true))⟩,
    ⟨(some 129), .pick (.t 125) (.t 128) (.c (.s (.bool false))), none⟩,
    ⟨(some 130), .mov (.t 129), none⟩,
    ⟨(some 131), .call 10 [], (some (130, true))⟩,
    ⟨(some 132), .pick (.t 130) (.t 131) (.c (.s (.bool false))), none⟩,
    ⟨(some 8), .mov (.t 132), none⟩] [8])
  (.ret [8]))
def s3_11 : EC := (.seq (.ops [⟨(some 116), .mov (.t 0), none⟩,
    ⟨(some 117), .mov (.t 16), none⟩,
    ⟨(some 118), .call 9 [(.t 116), (.t 117)], none⟩,
    ⟨(some 115), .mov (.t 118), none⟩,
    ⟨(some 119), .ext (.t 115) 0, none⟩,
    ⟨(some 120), .ext (.t 115) 1, none⟩,
    ⟨(some 20), .mov (.t 119), none⟩,
    ⟨(some 21), .mov (.t 120), none⟩] [18, 19, 20, 21])
  s3_12)
def s3_10 : EC := (.seq (.ops [⟨(some 110), .mov (.t 0), none⟩,
    ⟨(some 111), .mov (.t 15), none⟩,
    ⟨(some 112), .call 9 [(.t 110), (.t 111)], none⟩,
    ⟨(some 109), .mov (.t 112), none⟩,
    ⟨(some 113), .ext (.t 109) 0, none⟩,
    ⟨(some 114), .ext (.t 109) 1, none⟩,
    ⟨(some 18), .mov (.t 113), none⟩,
    ⟨(some 19), .mov (.t 114), none⟩] [0, 16, 18, 19])
  s3_11)
def s3_9 : EC := (.seq (.seq (.ops [⟨(some 105), .mov (.t 15), none⟩,
    ⟨(some 106), .len (.t 105), none⟩,
    ⟨(some 107), .bin .eql (.t 106) (.c (.s (.int .i64 0))), none⟩] [0, 15, 16, 107])
  (.cond (.t 107) (.seq (.ops [⟨(some 108), .call 10 [], none⟩,
    ⟨(some 8), .mov (.t 108), none⟩] [8])
  (.ret [8]))
  .skip))
  s3_10)
def s3_8 : EC := (.seq (.seq (.ops [⟨(some 17), .mov (.c (.s (.int .i64 0))), none⟩] [0, 2, 3, 15, 16, 17])
  (.block 4 (.loop [0, 2, 3, 15, 16, 17] l3_2)))
  s3_9)
def s3_7 : EC := (.seq (.ops [⟨(some 15), .mov (.c (.s .nils)), none⟩,
    ⟨(some 16), .mov (.c (.s .nils)), none⟩] [0, 2, 3, 15, 16])
  s3_8)
def s3_6 : EC := (.seq (.seq (.ops [⟨(some 55), .mov (.t 11), none⟩,
    ⟨(some 56), .len (.t 55), none⟩,
    ⟨(some 57), .mov (.c (.s (.int .i64 0))), none⟩] [0, 1, 2, 3, 11, 56, 57])
  (.block 2 (.loop [0, 1, 2, 3, 11, 56, 57] l3_1)))
  s3_7)
def s3_5 : EC := (.seq (.seq (.ops [⟨(some 47), .mov (.t 12), none⟩,
    ⟨(some 48), .un .not (.t 47), none⟩,
    ⟨(some 49), .mov (.t 48), none⟩,
    ⟨(some 50), .mov (.t 11), (some (49, false))⟩,
    ⟨(some 51), .len (.t 50), (some (49, false))⟩,
    ⟨(some 52), .mov (.t 1), (some (49, false))⟩,
    ⟨(some 53), .bin .neq (.t 51) (.t 52), (some (49, false))⟩,
    ⟨(some 54), .pick (.t 49) (.c (.s (.bool true))) (.t 53), none⟩] [0, 1, 2, 3, 11, 54])
  (.cond (.t 54) (.seq (.ops [⟨(some 8), .mov (.c (.s (.bool false))), none⟩] [8])
  (.ret [8]))
  .skip))
  s3_6)
def s3_4 : EC := (.seq (.ops [⟨(some 42), .mov (.t 0), none⟩,
    ⟨(some 43), .mov (.t 9), none⟩,
    ⟨(some 44), .call 9 [(.t 42), (.t 43)], none⟩,
    ⟨(some 41), .mov (.t 44), none⟩,
    ⟨(some 45), .ext (.t 41) 0, none⟩,
    ⟨(some 46), .ext (.t 41) 1, none⟩,
    ⟨(some 11), .mov (.t 45), none⟩,
    ⟨(some 12), .mov (.t 46), none⟩] [0, 1, 2, 3, 11, 12])
  s3_5)
def s3_3 : EC := (.seq (.seq (.ops [⟨(some 32), .mov (.t 9), none⟩,
    ⟨(some 33), .len (.t 32), none⟩,
    ⟨(some 34), .mov (.c (.s (.int .i64 0))), none⟩] [0, 1, 2, 3, 9, 33, 34])
  (.block 0 (.loop [0, 1, 2, 3, 9, 33, 34] l3_0)))
  s3_4)
def s3_2 : EC := (.seq (.ops [⟨(some 30), .mov (.t 1), none⟩,
    ⟨(some 31), .mks 3 8 [(.int .i64 0)] (.t 30), none⟩,
    ⟨(some 9), .mov (.t 31), none⟩] [0, 1, 2, 3, 9])
  s3_3)
def s3_1 : EC := (.seq (.ops [⟨(some 22), .mov (.t 0), none⟩,
    ⟨(some 23), .call 8 [(.t 22), (.c (.s (.int .i64 100000)))], none⟩,
    ⟨(some 24), .mov (.t 1), none⟩,
    ⟨(some 25), .call 8 [(.t 24), (.c (.s (.int .i64 16)))], none⟩,
    ⟨(some 26), .bin .add (.c (.s (.int .i64 1))) (.t 25), none⟩,
    ⟨(some 27), .mov (.t 2), none⟩,
    ⟨(some 28), .call 8 [(.t 27), (.c (.s (.int .i64 900)))], none⟩,
    ⟨(some 29), .bin .add (.c (.s (.int .i64 1))) (.t 28), none⟩,
    ⟨(some 0), .mov (.t 23), none⟩,
    ⟨(some 1), .mov (.t 26), none⟩,
    ⟨(some 2), .mov (.t 29), none⟩] [0, 1, 2, 3])
  s3_2)
def b3 : EC := (.seq (.ops [⟨(some 8), .mov (.c (.s (.bool false))), none⟩] [0, 1, 2, 3])
  s3_1)
def e3 : EF := ⟨133, b3, [.tmp 8]⟩

/-- scutage/scutagelaw02.SplitWhole -/
def h4 : List (List Nat) := [[0, 1], [0, 1], [0, 1, 5, 6], [0, 1, 5, 6, 7], [0, 1, 5, 6, 7, 8], [0, 1, 5, 6, 7, 8], [0, 1, 5, 6, 7, 8, 21], [1, 5, 6, 7], [0, 1, 5, 6, 7, 8, 9], [0, 1, 5, 6, 7, 8, 9], [0, 1, 5, 6, 7, 8], [0, 1, 5, 6, 7, 8], [1, 5, 6, 7, 43], [4], [4], [6, 10, 11], [4], [4]]
def l4_0_1 : EC := (.seq (.block 1 (.seq (.ops [⟨(some 24), .mov (.t 0), none⟩,
    ⟨(some 25), .mov (.t 8), none⟩,
    ⟨(some 26), .iad 3 1 (.t 24) (.t 25), none⟩,
    ⟨(some 27), .load false 1 (.t 26), none⟩,
    ⟨(some 28), .call 8 [(.t 27), (.c (.s (.int .i64 100)))], none⟩,
    ⟨(some 9), .mov (.t 28), none⟩] [0, 1, 5, 6, 7, 8, 9])
  (.seq (.ops [⟨(some 29), .mov (.t 5), none⟩,
    ⟨(some 30), .mov (.t 9), none⟩,
    ⟨(some 31), .bsl 3 1 [(.int .i64 0)] [(0, 1, (.t 30))], none⟩,
    ⟨(some 32), .app 3 1 8 (.t 29) (.t 31), none⟩,
    ⟨(some 33), .mov (.t 6), none⟩,
    ⟨(some 34), .mov (.t 9), none⟩,
    ⟨(some 35), .mov (.t 1), none⟩,
    ⟨(some 36), .bin .mul (.t 34) (.t 35), none⟩,
    ⟨(some 37), .bsl 3 1 [(.int .i64 0)] [(0, 1, (.t 36))], none⟩,
    ⟨(some 38), .app 3 1 8 (.t 33) (.t 37), none⟩,
    ⟨(some 5), .mov (.t 32), none⟩,
    ⟨(some 6), .mov (.t 38), none⟩] [0, 1, 5, 6, 7, 8, 9])
  (.ops [⟨(some 39), .mov (.t 7), none⟩,
    ⟨(some 40), .mov (.t 9), none⟩,
    ⟨(some 41), .bin .add (.t 39) (.t 40), none⟩,
    ⟨(some 7), .mov (.t 41), none⟩] [0, 1, 5, 6, 7, 8]))))
  (.ops [⟨(some 22), .mov (.t 8), none⟩,
    ⟨(some 23), .bin .add (.t 22) (.c (.s (.int .i64 1))), none⟩,
    ⟨(some 8), .mov (.t 23), none⟩] [0, 1, 5, 6, 7, 8]))
def l4_0 : EC := (.seq (.seq (.ops [⟨(some 14), .mov (.t 8), none⟩,
    ⟨(some 15), .mov (.t 0), none⟩,
    ⟨(some 16), .len (.t 15), none⟩,
    ⟨(some 17), .bin .lss (.t 14) (.t 16), none⟩,
    ⟨(some 18), .mov (.t 17), none⟩,
    ⟨(some 19), .mov (.t 8), (some (18, true))⟩,
    ⟨(some 20), .bin .lss (.t 19) (.c (.s (.int .i64 16))), (some (18, true))⟩,
    ⟨(some 21), .pick (.t 18) (.t 20) (.c (.s (.bool false))), none⟩] [0, 1, 5, 6, 7, 8, 21])
  (.cond (.t 21) .skip
  (.exit 0 [1, 5, 6, 7])))
  l4_0_1)
def s4_7 : EC := (.seq (.ops [⟨(some 53), .mov (.t 11), none⟩,
    ⟨(some 54), .mov (.t 53), none⟩,
    ⟨(some 55), .mov (.t 10), (some (54, true))⟩,
    ⟨(some 56), .mov (.t 6), (some (54, true))⟩,
    ⟨(some 57), .call 11 [(.t 55), (.t 56)], (some (54, true))⟩,
    ⟨(some 58), .pick (.t 54) (.t 57) (.c (.s (.bool false))), none⟩,
    ⟨(some 59), .mov (.t 58), none⟩,
    ⟨(some 60), .call 10 [], (some (59, true))⟩,
    ⟨(some 61), .pick (.t 59) (.t 60) (.c (.s (.bool false))), none⟩,
    ⟨(some 4), .mov (.t 61), none⟩] [4])
  (.ret [4]))
def s4_6 : EC := (.seq (.ops [⟨(some 46), .mov (.t 7), none⟩,
    ⟨(some 47), .mov (.t 1), none⟩,
    ⟨(some 48), .bin .mul (.t 46) (.t 47), none⟩,
    ⟨(some 49), .mov (.t 5), none⟩,
    ⟨(some 50), .call 9 [(.t 48), (.t 49)], none⟩,
    ⟨(some 45), .mov (.t 50), none⟩,
    ⟨(some 51), .ext (.t 45) 0, none⟩,
    ⟨(some 52), .ext (.t 45) 1, none⟩,
    ⟨(some 10), .mov (.t 51), none⟩,
    ⟨(some 11), .mov (.t 52), none⟩] [6, 10, 11])
  s4_7)
def s4_5 : EC := (.seq (.seq (.ops [⟨(some 42), .mov (.t 7), none⟩,
    ⟨(some 43), .bin .eql (.t 42) (.c (.s (.int .i64 0))), none⟩] [1, 5, 6, 7, 43])
  (.cond (.t 43) (.seq (.ops [⟨(some 44), .call 10 [], none⟩,
    ⟨(some 4), .mov (.t 44), none⟩] [4])
  (.ret [4]))
  .skip))
  s4_6)
def s4_4 : EC := (.seq (.seq (.ops [⟨(some 8), .mov (.c (.s (.int .i64 0))), none⟩] [0, 1, 5, 6, 7, 8])
  (.block 0 (.loop [0, 1, 5, 6, 7, 8] l4_0)))
  s4_5)
def s4_3 : EC := (.seq (.ops [⟨(some 7), .mov (.c (.s (.int .i64 0))), none⟩] [0, 1, 5, 6, 7])
  s4_4)
def s4_2 : EC := (.seq (.ops [⟨(some 5), .mov (.c (.s .nils)), none⟩,
    ⟨(some 6), .mov (.c (.s .nils)), none⟩] [0, 1, 5, 6])
  s4_3)
def s4_1 : EC := (.seq (.ops [⟨(some 12), .mov (.t 1), none⟩,
    ⟨(some 13), .call 8 [(.t 12), (.c (.s (.int .i64 100000)))], none⟩,
    ⟨(some 1), .mov (.t 13), none⟩] [0, 1])
  s4_2)
def b4 : EC := (.seq (.ops [⟨(some 4), .mov (.c (.s (.bool false))), none⟩] [0, 1])
  s4_1)
def e4 : EF := ⟨62, b4, [.tmp 4]⟩

/-- scutage/scutagelaw02.SplitTells -/
def h5 : List (List Nat) := [[0, 1, 2], [0, 2, 7], [0, 2, 7, 17, 18], [0, 2, 7, 17, 18], [0, 2, 7, 17, 18, 19], [0, 7], [0, 2, 7, 8, 17, 18], [0, 2, 7, 8, 17, 18, 23], [0, 2, 7, 17, 18], [0, 2, 7, 17, 18], [0, 7], [0, 7, 9], [0, 7, 9, 10, 11], [7, 9, 10, 11, 12, 13], [6], [6]]
def l5_0_2 : EC := (.seq (.block 1 (.seq (.ops [⟨(some 20), .mov (.t 18), none⟩,
    ⟨(some 8), .mov (.t 20), none⟩] [0, 2, 7, 8, 17, 18])
  (.seq (.ops [⟨(some 21), .mov (.t 2), none⟩,
    ⟨(some 22), .bin .rem (.t 21) (.c (.s (.int .i64 5))), none⟩,
    ⟨(some 23), .bin .neq (.t 22) (.c (.s (.int .i64 4))), none⟩] [0, 2, 7, 8, 17, 18, 23])
  (.cond (.t 23) (.draw [⟨(some 24), .mov (.t 7), none⟩,
    ⟨(some 25), .mov (.t 8), none⟩,
    ⟨(some 26), .mov (.t 7), none⟩,
    ⟨(some 27), .mov (.t 8), none⟩,
    ⟨(some 28), .iad 3 1 (.t 26) (.t 27), none⟩,
    ⟨(some 29), .load false 1 (.t 28), none⟩,
    ⟨(some 31), .mov (.t 2), none⟩,
    ⟨(some 32), .call 8 [(.t 31), (.c (.s (.int .i64 4)))], none⟩,
    ⟨(some 30), .bsl 3 4 [(.int .i64 0)] [(0, 1, (.c (.s (.int .i64 3)))), (1, 1, (.c (.s (.int .i64 10)))), (2, 1, (.c (.s (.int .i64 1000001)))), (3, 1, (.c (.s (.int .i64 100))))], none⟩,
    ⟨(some 33), .iad 3 1 (.t 30) (.t 32), none⟩,
    ⟨(some 34), .load false 1 (.t 33), none⟩,
    ⟨(some 35), .call 8 [(.t 29), (.t 34)], none⟩,
    ⟨(some 36), .iad 3 1 (.t 24) (.t 25), none⟩,
    ⟨none, .store 1 (.t 36) (.t 35), none⟩] [(4, 7), (5, 7)] [0, 2, 7, 17, 18])
  .skip))))
  (.ops [⟨(some 37), .bin .add (.t 18) (.c (.s (.int .i64 1))), none⟩,
    ⟨(some 18), .mov (.t 37), none⟩] [0, 2, 7, 17, 18]))
def l5_0_1 : EC := (.seq (.cond (.t 19) .skip
  (.exit 0 [0, 7]))
  l5_0_2)
def l5_0 : EC := (.seq (.ops [⟨(some 19), .bin .lss (.t 18) (.t 17), none⟩] [0, 2, 7, 17, 18, 19])
  l5_0_1)
def s5_7 : EC := (.seq (.ops [⟨(some 54), .mov (.t 11), none⟩,
    ⟨(some 55), .mov (.t 13), none⟩,
    ⟨(some 56), .eqb false (.t 54) (.t 55), none⟩,
    ⟨(some 57), .mov (.t 56), none⟩,
    ⟨(some 58), .mov (.t 10), (some (57, true))⟩,
    ⟨(some 59), .mov (.t 12), (some (57, true))⟩,
    ⟨(some 60), .call 11 [(.t 58), (.t 59)], (some (57, true))⟩,
    ⟨(some 61), .pick (.t 57) (.t 60) (.c (.s (.bool false))), none⟩,
    ⟨(some 62), .mov (.t 61), none⟩,
    ⟨(some 63), .mov (.t 7), (some (62, true))⟩,
    ⟨(some 64), .mov (.t 9), (some (62, true))⟩,
    ⟨(some 65), .call 11 [(.t 63), (.t 64)], (some (62, true))⟩,
    ⟨(some 66), .pick (.t 62) (.t 65) (.c (.s (.bool false))), none⟩,
    ⟨(some 67), .mov (.t 66), none⟩,
    ⟨(some 68), .call 10 [], (some (67, true))⟩,
    ⟨(some 69), .pick (.t 67) (.t 68) (.c (.s (.bool false))), none⟩,
    ⟨(some 6), .mov (.t 69), none⟩] [6])
  (.ret [6]))
def s5_6 : EC := (.seq (.ops [⟨(some 49), .mov (.t 0), none⟩,
    ⟨(some 50), .mov (.t 7), none⟩,
    ⟨(some 51), .call 15 [(.t 49), (.t 50)], none⟩,
    ⟨(some 48), .mov (.t 51), none⟩,
    ⟨(some 52), .ext (.t 48) 0, none⟩,
    ⟨(some 53), .ext (.t 48) 1, none⟩,
    ⟨(some 12), .mov (.t 52), none⟩,
    ⟨(some 13), .mov (.t 53), none⟩] [7, 9, 10, 11, 12, 13])
  s5_7)
def s5_5 : EC := (.seq (.ops [⟨(some 43), .mov (.t 0), none⟩,
    ⟨(some 44), .mov (.t 7), none⟩,
    ⟨(some 45), .call 9 [(.t 43), (.t 44)], none⟩,
    ⟨(some 42), .mov (.t 45), none⟩,
    ⟨(some 46), .ext (.t 42) 0, none⟩,
    ⟨(some 47), .ext (.t 42) 1, none⟩,
    ⟨(some 10), .mov (.t 46), none⟩,
    ⟨(some 11), .mov (.t 47), none⟩] [0, 7, 9, 10, 11])
  s5_6)
def s5_4 : EC := (.seq (.ops [⟨(some 40), .mov (.t 7), none⟩,
    ⟨(some 41), .call 14 [(.t 40)], none⟩,
    ⟨(some 9), .mov (.t 41), none⟩] [0, 7, 9])
  s5_5)
def s5_3 : EC := (.seq (.ops [⟨(some 38), .mov (.t 0), none⟩,
    ⟨(some 39), .call 13 [(.t 38)], none⟩,
    ⟨(some 0), .mov (.t 39), none⟩] [0, 7])
  s5_4)
def s5_2 : EC := (.seq (.seq (.ops [⟨(some 16), .mov (.t 7), none⟩,
    ⟨(some 17), .len (.t 16), none⟩,
    ⟨(some 18), .mov (.c (.s (.int .i64 0))), none⟩] [0, 2, 7, 17, 18])
  (.block 0 (.loop [0, 2, 7, 17, 18] l5_0)))
  s5_3)
def s5_1 : EC := (.seq (.ops [⟨(some 14), .mov (.t 1), none⟩,
    ⟨(some 15), .call 12 [(.t 14), (.c (.s (.int .i64 18)))], none⟩,
    ⟨(some 7), .mov (.t 15), none⟩] [0, 2, 7])
  s5_2)
def b5 : EC := (.seq (.ops [⟨(some 6), .mov (.c (.s (.bool false))), none⟩] [0, 1, 2])
  s5_1)
def e5 : EF := ⟨70, b5, [.tmp 6]⟩

/-- scutage/scutagelaw02.SplitSums -/
def h6 : List (List Nat) := [[0, 1], [0, 1, 5], [0, 1, 5, 6], [0, 1, 5, 6, 7], [0, 1, 5, 6, 7], [0, 1, 5, 6, 7, 21], [0, 5, 6], [0, 1, 5, 6, 7], [0, 1, 5, 6, 7], [0, 1, 5, 6, 7], [0, 5, 6], [0, 5, 6, 8, 9], [0, 5, 6, 8, 9, 48], [4], [4], [0, 5, 6, 8, 67], [4], [4], [0, 5, 6, 8, 10], [0, 5, 6, 8, 10, 69, 70], [0, 5, 6, 8, 10, 69, 70], [0, 5, 6, 8, 10, 69, 70, 71], [0, 10], [0, 5, 6, 8, 10, 11, 69, 70], [0, 5, 6, 8, 10, 11, 69, 70], [0, 5, 6, 8, 10, 11, 12, 69, 70], [0, 5, 6, 8, 10, 11, 69, 70, 100], [4], [4], [0, 5, 6, 8, 10, 11, 69, 70, 102, 103], [0, 5, 6, 8, 10, 11, 69, 70, 102, 103], [0, 5, 6, 8, 10, 11, 69, 70, 102, 103, 104], [0, 5, 6, 8, 10, 69, 70], [0, 5, 6, 8, 10, 11, 13, 69, 70, 102, 103], [0, 5, 6, 8, 10, 11, 69, 70, 102, 103, 144], [4], [4], [0, 5, 6, 8, 10, 11, 69, 70, 102, 103], [0, 5, 6, 8, 10, 69, 70], [4], [4]]
def l6_0_1 : EC := (.seq (.block 1 (.seq (.ops [⟨(some 24), .mov (.t 5), none⟩,
    ⟨(some 25), .mov (.t 1), none⟩,
    ⟨(some 26), .mov (.t 7), none⟩,
    ⟨(some 27), .iad 3 1 (.t 25) (.t 26), none⟩,
    ⟨(some 28), .load false 1 (.t 27), none⟩,
    ⟨(some 29), .call 8 [(.t 28), (.c (.s (.int .i64 1000)))], none⟩,
    ⟨(some 30), .bsl 3 1 [(.int .i64 0)] [(0, 1, (.t 29))], none⟩,
    ⟨(some 31), .app 3 1 8 (.t 24) (.t 30), none⟩,
    ⟨(some 5), .mov (.t 31), none⟩] [0, 1, 5, 6, 7])
  (.ops [⟨(some 32), .mov (.t 6), none⟩,
    ⟨(some 33), .mov (.t 5), none⟩,
    ⟨(some 34), .mov (.t 7), none⟩,
    ⟨(some 35), .iad 3 1 (.t 33) (.t 34), none⟩,
    ⟨(some 36), .load false 1 (.t 35), none⟩,
    ⟨(some 37), .bin .add (.t 32) (.t 36), none⟩,
    ⟨(some 6), .mov (.t 37), none⟩] [0, 1, 5, 6, 7])))
  (.ops [⟨(some 22), .mov (.t 7), none⟩,
    ⟨(some 23), .bin .add (.t 22) (.c (.s (.int .i64 1))), none⟩,
    ⟨(some 7), .mov (.t 23), none⟩] [0, 1, 5, 6, 7]))
def l6_0 : EC := (.seq (.seq (.ops [⟨(some 14), .mov (.t 7), none⟩,
    ⟨(some 15), .mov (.t 1), none⟩,
    ⟨(some 16), .len (.t 15), none⟩,
    ⟨(some 17), .bin .lss (.t 14) (.t 16), none⟩,
    ⟨(some 18), .mov (.t 17), none⟩,
    ⟨(some 19), .mov (.t 7), (some (18, true))⟩,
    ⟨(some 20), .bin .lss (.t 19) (.c (.s (.int .i64 16))), (some (18, true))⟩,
    ⟨(some 21), .pick (.t 18) (.t 20) (.c (.s (.bool false))), none⟩] [0, 1, 5, 6, 7, 21])
  (.cond (.t 21) .skip
  (.exit 0 [0, 5, 6])))
  l6_0_1)
def l6_1_2 : EC := (.seq (.block 5 (.seq (.ops [⟨(some 105), .mov (.t 103), none⟩,
    ⟨(some 13), .mov (.t 105), none⟩] [0, 5, 6, 8, 10, 11, 13, 69, 70, 102, 103])
  (.seq (.draw [⟨(some 106), .mov (.t 5), none⟩,
    ⟨(some 107), .mov (.t 13), none⟩,
    ⟨(some 108), .iad 3 1 (.t 106) (.t 107), none⟩,
    ⟨(some 109), .load false 1 (.t 108), none⟩,
    ⟨(some 110), .mov (.t 5), none⟩,
    ⟨(some 111), .mov (.t 11), none⟩,
    ⟨(some 112), .iad 3 1 (.t 110) (.t 111), none⟩,
    ⟨(some 113), .load false 1 (.t 112), none⟩,
    ⟨(some 114), .bin .gtr (.t 109) (.t 113), none⟩,
    ⟨(some 115), .mov (.t 114), none⟩,
    ⟨(some 116), .mov (.t 0), (some (115, true))⟩,
    ⟨(some 117), .bin .geq (.t 116) (.c (.s (.int .i64 0))), (some (115, true))⟩,
    ⟨(some 118), .mov (.t 117), (some (115, true))⟩,
    ⟨(some 119), .mov (.t 8), (some (118, true))⟩,
    ⟨(some 120), .mov (.t 13), (some (118, true))⟩,
    ⟨(some 121), .iad 3 1 (.t 119) (.t 120), (some (118, true))⟩,
    ⟨(some 122), .load false 1 (.t 121), (some (118, true))⟩,
    ⟨(some 123), .mov (.t 8), (some (118, true))⟩,
    ⟨(some 124), .mov (.t 11), (some (118, true))⟩,
    ⟨(some 125), .iad 3 1 (.t 123) (.t 124), (some (118, true))⟩,
    ⟨(some 126), .load false 1 (.t 125), (some (118, true))⟩,
    ⟨(some 127), .bin .lss (.t 122) (.t 126), (some (118, true))⟩,
    ⟨(some 128), .pick (.t 118) (.t 127) (.c (.s (.bool false))), (some (115, true))⟩,
    ⟨(some 129), .mov (.t 128), (some (115, true))⟩,
    ⟨(some 130), .mov (.t 0), (some (129, false))⟩,
    ⟨(some 131), .bin .leq (.t 130) (.c (.s (.int .i64 0))), (some (129, false))⟩,
    ⟨(some 132), .mov (.t 131), (some (129, false))⟩,
    ⟨(some 133), .mov (.t 8), (some (132, true))⟩,
    ⟨(some 134), .mov (.t 13), (some (132, true))⟩,
    ⟨(some 135), .iad 3 1 (.t 133) (.t 134), (some (132, true))⟩,
    ⟨(some 136), .load false 1 (.t 135), (some (132, true))⟩,
    ⟨(some 137), .mov (.t 8), (some (132, true))⟩,
    ⟨(some 138), .mov (.t 11), (some (132, true))⟩,
    ⟨(some 139), .iad 3 1 (.t 137) (.t 138), (some (132, true))⟩,
    ⟨(some 140), .load false 1 (.t 139), (some (132, true))⟩,
    ⟨(some 141), .bin .gtr (.t 136) (.t 140), (some (132, true))⟩,
    ⟨(some 142), .pick (.t 132) (.t 141) (.c (.s (.bool false))), (some (129, false))⟩,
    ⟨(some 143), .pick (.t 129) (.c (.s (.bool true))) (.t 142), (some (115, true))⟩,
    ⟨(some 144), .pick (.t 115) (.t 143) (.c (.s (.bool false))), none⟩] [] [0, 5, 6, 8, 10, 11, 69, 70, 102, 103, 144])
  (.cond (.t 144) (.seq (.ops [⟨(some 4), .mov (.c (.s (.bool false))), none⟩] [4])
  (.ret [4]))
  .skip))))
  (.ops [⟨(some 145), .bin .add (.t 103) (.c (.s (.int .i64 1))), none⟩,
    ⟨(some 103), .mov (.t 145), none⟩] [0, 5, 6, 8, 10, 11, 69, 70, 102, 103]))
def l6_1_1 : EC := (.seq (.cond (.t 104) .skip
  (.exit 4 [0, 5, 6, 8, 10, 69, 70]))
  l6_1_2)
def l6_1 : EC := (.seq (.ops [⟨(some 104), .bin .lss (.t 103) (.t 102), none⟩] [0, 5, 6, 8, 10, 11, 69, 70, 102, 103, 104])
  l6_1_1)
def l6_2_2 : EC := (.seq (.block 3 (.seq (.ops [⟨(some 72), .mov (.t 70), none⟩,
    ⟨(some 11), .mov (.t 72), none⟩] [0, 5, 6, 8, 10, 11, 69, 70])
  (.seq (.ops [⟨(some 73), .mov (.t 10), none⟩,
    ⟨(some 74), .mov (.t 8), none⟩,
    ⟨(some 75), .mov (.t 11), none⟩,
    ⟨(some 76), .iad 3 1 (.t 74) (.t 75), none⟩,
    ⟨(some 77), .load false 1 (.t 76), none⟩,
    ⟨(some 78), .bin .add (.t 73) (.t 77), none⟩,
    ⟨(some 10), .mov (.t 78), none⟩] [0, 5, 6, 8, 10, 11, 69, 70])
  (.seq (.draw [⟨(some 79), .mov (.t 0), none⟩,
    ⟨(some 80), .mov (.t 5), none⟩,
    ⟨(some 81), .mov (.t 11), none⟩,
    ⟨(some 82), .iad 3 1 (.t 80) (.t 81), none⟩,
    ⟨(some 83), .load false 1 (.t 82), none⟩,
    ⟨(some 84), .bin .mul (.t 79) (.t 83), none⟩,
    ⟨(some 85), .mov (.t 8), none⟩,
    ⟨(some 86), .mov (.t 11), none⟩,
    ⟨(some 87), .iad 3 1 (.t 85) (.t 86), none⟩,
    ⟨(some 88), .load false 1 (.t 87), none⟩,
    ⟨(some 89), .mov (.t 6), none⟩,
    ⟨(some 90), .bin .mul (.t 88) (.t 89), none⟩,
    ⟨(some 91), .bin .sub (.t 84) (.t 90), none⟩,
    ⟨(some 12), .mov (.t 91), none⟩] [] [0, 5, 6, 8, 10, 11, 12, 69, 70])
  (.seq (.seq (.ops [⟨(some 92), .mov (.t 12), none⟩,
    ⟨(some 93), .mov (.t 6), none⟩,
    ⟨(some 94), .un .neg (.t 93), none⟩,
    ⟨(some 95), .bin .leq (.t 92) (.t 94), none⟩,
    ⟨(some 96), .mov (.t 95), none⟩,
    ⟨(some 97), .mov (.t 12), (some (96, false))⟩,
    ⟨(some 98), .mov (.t 6), (some (96, false))⟩,
    ⟨(some 99), .bin .geq (.t 97) (.t 98), (some (96, false))⟩,
    ⟨(some 100), .pick (.t 96) (.c (.s (.bool true))) (.t 99), none⟩] [0, 5, 6, 8, 10, 11, 69, 70, 100])
  (.cond (.t 100) (.seq (.ops [⟨(some 4), .mov (.c (.s (.bool false))), none⟩] [4])
  (.ret [4]))
  .skip))
  (.seq (.ops [⟨(some 101), .mov (.t 8), none⟩,
    ⟨(some 102), .len (.t 101), none⟩,
    ⟨(some 103), .mov (.c (.s (.int .i64 0))), none⟩] [0, 5, 6, 8, 10, 11, 69, 70, 102, 103])
  (.block 4 (.loop [0, 5, 6, 8, 10, 11, 69, 70, 102, 103] l6_1))))))))
  (.ops [⟨(some 146), .bin .add (.t 70) (.c (.s (.int .i64 1))), none⟩,
    ⟨(some 70), .mov (.t 146), none⟩] [0, 5, 6, 8, 10, 69, 70]))
def l6_2_1 : EC := (.seq (.cond (.t 71) .skip
  (.exit 2 [0, 10]))
  l6_2_2)
def l6_2 : EC := (.seq (.ops [⟨(some 71), .bin .lss (.t 70) (.t 69), none⟩] [0, 5, 6, 8, 10, 69, 70, 71])
  l6_2_1)
def s6_10 : EC := (.seq (.ops [⟨(some 147), .mov (.t 10), none⟩,
    ⟨(some 148), .mov (.t 0), none⟩,
    ⟨(some 149), .bin .eql (.t 147) (.t 148), none⟩,
    ⟨(some 150), .mov (.t 149), none⟩,
    ⟨(some 151), .call 10 [], (some (150, true))⟩,
    ⟨(some 152), .pick (.t 150) (.t 151) (.c (.s (.bool false))), none⟩,
    ⟨(some 4), .mov (.t 152), none⟩] [4])
  (.ret [4]))
def s6_9 : EC := (.seq (.seq (.ops [⟨(some 68), .mov (.t 8), none⟩,
    ⟨(some 69), .len (.t 68), none⟩,
    ⟨(some 70), .mov (.c (.s (.int .i64 0))), none⟩] [0, 5, 6, 8, 10, 69, 70])
  (.block 2 (.loop [0, 5, 6, 8, 10, 69, 70] l6_2)))
  s6_10)
def s6_8 : EC := (.seq (.ops [⟨(some 10), .mov (.c (.s (.int .i64 0))), none⟩] [0, 5, 6, 8, 10])
  s6_9)
def s6_7 : EC := (.seq (.seq (.ops [⟨(some 59), .mov (.t 9), none⟩,
    ⟨(some 60), .un .not (.t 59), none⟩,
    ⟨(some 61), .mov (.t 60), none⟩,
    ⟨(some 62), .mov (.t 8), (some (61, false))⟩,
    ⟨(some 63), .len (.t 62), (some (61, false))⟩,
    ⟨(some 64), .mov (.t 5), (some (61, false))⟩,
    ⟨(some 65), .len (.t 64), (some (61, false))⟩,
    ⟨(some 66), .bin .neq (.t 63) (.t 65), (some (61, false))⟩,
    ⟨(some 67), .pick (.t 61) (.c (.s (.bool true))) (.t 66), none⟩] [0, 5, 6, 8, 67])
  (.cond (.t 67) (.seq (.ops [⟨(some 4), .mov (.c (.s (.bool false))), none⟩] [4])
  (.ret [4]))
  .skip))
  s6_8)
def s6_6 : EC := (.seq (.seq (.ops [⟨(some 47), .mov (.t 6), none⟩,
    ⟨(some 48), .bin .eql (.t 47) (.c (.s (.int .i64 0))), none⟩] [0, 5, 6, 8, 9, 48])
  (.cond (.t 48) (.seq (.ops [⟨(some 49), .mov (.t 9), none⟩,
    ⟨(some 50), .un .not (.t 49), none⟩,
    ⟨(some 51), .mov (.t 50), none⟩,
    ⟨(some 52), .mov (.t 8), (some (51, true))⟩,
    ⟨(some 53), .len (.t 52), (some (51, true))⟩,
    ⟨(some 54), .bin .eql (.t 53) (.c (.s (.int .i64 0))), (some (51, true))⟩,
    ⟨(some 55), .pick (.t 51) (.t 54) (.c (.s (.bool false))), none⟩,
    ⟨(some 56), .mov (.t 55), none⟩,
    ⟨(some 57), .call 10 [], (some (56, true))⟩,
    ⟨(some 58), .pick (.t 56) (.t 57) (.c (.s (.bool false))), none⟩,
    ⟨(some 4), .mov (.t 58), none⟩] [4])
  (.ret [4]))
  .skip))
  s6_7)
def s6_5 : EC := (.seq (.ops [⟨(some 42), .mov (.t 0), none⟩,
    ⟨(some 43), .mov (.t 5), none⟩,
    ⟨(some 44), .call 9 [(.t 42), (.t 43)], none⟩,
    ⟨(some 41), .mov (.t 44), none⟩,
    ⟨(some 45), .ext (.t 41) 0, none⟩,
    ⟨(some 46), .ext (.t 41) 1, none⟩,
    ⟨(some 8), .mov (.t 45), none⟩,
    ⟨(some 9), .mov (.t 46), none⟩] [0, 5, 6, 8, 9])
  s6_6)
def s6_4 : EC := (.seq (.ops [⟨(some 38), .mov (.t 0), none⟩,
    ⟨(some 39), .call 8 [(.t 38), (.c (.s (.int .i64 200000000001)))], none⟩,
    ⟨(some 40), .bin .sub (.t 39) (.c (.s (.int .i64 100000000000))), none⟩,
    ⟨(some 0), .mov (.t 40), none⟩] [0, 5, 6])
  s6_5)
def s6_3 : EC := (.seq (.seq (.ops [⟨(some 7), .mov (.c (.s (.int .i64 0))), none⟩] [0, 1, 5, 6, 7])
  (.block 0 (.loop [0, 1, 5, 6, 7] l6_0)))
  s6_4)
def s6_2 : EC := (.seq (.ops [⟨(some 6), .mov (.c (.s (.int .i64 0))), none⟩] [0, 1, 5, 6])
  s6_3)
def s6_1 : EC := (.seq (.ops [⟨(some 5), .mov (.c (.s .nils)), none⟩] [0, 1, 5])
  s6_2)
def b6 : EC := (.seq (.ops [⟨(some 4), .mov (.c (.s (.bool false))), none⟩] [0, 1])
  s6_1)
def e6 : EF := ⟨153, b6, [.tmp 4]⟩

/-- scutage/scutagelaw02.SplitTurns -/
def h7 : List (List Nat) := [[0, 1], [0, 1], [0, 1, 5], [0, 1, 5, 6], [0, 1, 5, 6], [0, 1, 5, 6, 32], [0, 5], [0, 1, 5, 6], [0, 1, 5, 6], [0, 5, 7, 8], [0, 5, 7, 8, 9, 10], [0, 5, 7, 8, 9, 10, 11, 12], [0, 5, 7, 9, 92], [4], [4], [0, 5, 7, 9, 94, 95], [0, 5, 7, 9, 94, 95], [0, 5, 7, 9, 94, 95, 96], [0], [0, 5, 7, 9, 13, 94, 95], [0, 5, 7, 9, 94, 95, 128], [4], [4], [0, 5, 7, 9, 94, 95], [0, 15], [0, 15, 17], [0, 15, 17, 19], [15, 17, 19, 21], [4], [4]]
def l7_0_1 : EC := (.seq (.block 1 (.ops [⟨(some 35), .mov (.t 5), none⟩,
    ⟨(some 36), .mov (.t 1), none⟩,
    ⟨(some 37), .mov (.t 6), none⟩,
    ⟨(some 38), .iad 3 1 (.t 36) (.t 37), none⟩,
    ⟨(some 39), .load false 1 (.t 38), none⟩,
    ⟨(some 40), .call 8 [(.t 39), (.c (.s (.int .i64 50)))], none⟩,
    ⟨(some 41), .bsl 3 1 [(.int .i64 0)] [(0, 1, (.t 40))], none⟩,
    ⟨(some 42), .app 3 1 8 (.t 35) (.t 41), none⟩,
    ⟨(some 5), .mov (.t 42), none⟩] [0, 1, 5, 6]))
  (.ops [⟨(some 33), .mov (.t 6), none⟩,
    ⟨(some 34), .bin .add (.t 33) (.c (.s (.int .i64 1))), none⟩,
    ⟨(some 6), .mov (.t 34), none⟩] [0, 1, 5, 6]))
def l7_0 : EC := (.seq (.seq (.ops [⟨(some 25), .mov (.t 6), none⟩,
    ⟨(some 26), .mov (.t 1), none⟩,
    ⟨(some 27), .len (.t 26), none⟩,
    ⟨(some 28), .bin .lss (.t 25) (.t 27), none⟩,
    ⟨(some 29), .mov (.t 28), none⟩,
    ⟨(some 30), .mov (.t 6), (some (29, true))⟩,
    ⟨(some 31), .bin .lss (.t 30) (.c (.s (.int .i64 13))), (some (29, true))⟩,
    ⟨(some 32), .pick (.t 29) (.t 31) (.c (.s (.bool false))), none⟩] [0, 1, 5, 6, 32])
  (.cond (.t 32) .skip
  (.exit 0 [0, 5])))
  l7_0_1)
def l7_1_2 : EC := (.seq (.block 3 (.seq (.ops [⟨(some 97), .mov (.t 95), none⟩,
    ⟨(some 13), .mov (.t 97), none⟩] [0, 5, 7, 9, 13, 94, 95])
  (.seq (.draw [⟨(some 98), .mov (.t 7), none⟩,
    ⟨(some 99), .mov (.t 13), none⟩,
    ⟨(some 100), .iad 3 1 (.t 98) (.t 99), none⟩,
    ⟨(some 101), .load false 1 (.t 100), none⟩,
    ⟨(some 102), .mov (.t 9), none⟩,
    ⟨(some 103), .mov (.t 13), none⟩,
    ⟨(some 104), .iad 3 1 (.t 102) (.t 103), none⟩,
    ⟨(some 105), .load false 1 (.t 104), none⟩,
    ⟨(some 106), .un .neg (.t 105), none⟩,
    ⟨(some 107), .bin .neq (.t 101) (.t 106), none⟩,
    ⟨(some 108), .mov (.t 107), none⟩,
    ⟨(some 109), .mov (.t 7), (some (108, false))⟩,
    ⟨(some 110), .mov (.t 13), (some (108, false))⟩,
    ⟨(some 111), .iad 3 1 (.t 109) (.t 110), (some (108, false))⟩,
    ⟨(some 112), .load false 1 (.t 111), (some (108, false))⟩,
    ⟨(some 113), .bin .lss (.t 112) (.c (.s (.int .i64 0))), (some (108, false))⟩,
    ⟨(some 114), .pick (.t 108) (.c (.s (.bool true))) (.t 113), none⟩,
    ⟨(some 115), .mov (.t 114), none⟩,
    ⟨(some 116), .mov (.t 5), (some (115, false))⟩,
    ⟨(some 117), .mov (.t 13), (some (115, false))⟩,
    ⟨(some 118), .iad 3 1 (.t 116) (.t 117), (some (115, false))⟩,
    ⟨(some 119), .load false 1 (.t 118), (some (115, false))⟩,
    ⟨(some 120), .bin .eql (.t 119) (.c (.s (.int .i64 0))), (some (115, false))⟩,
    ⟨(some 121), .mov (.t 120), (some (115, false))⟩,
    ⟨(some 122), .mov (.t 7), (some (121, true))⟩,
    ⟨(some 123), .mov (.t 13), (some (121, true))⟩,
    ⟨(some 124), .iad 3 1 (.t 122) (.t 123), (some (121, true))⟩,
    ⟨(some 125), .load false 1 (.t 124), (some (121, true))⟩,
    ⟨(some 126), .bin .neq (.t 125) (.c (.s (.int .i64 0))), (some (121, true))⟩,
    ⟨(some 127), .pick (.t 121) (.t 126) (.c (.s (.bool false))), (some (115, false))⟩,
    ⟨(some 128), .pick (.t 115) (.c (.s (.bool true))) (.t 127), none⟩] [] [0, 5, 7, 9, 94, 95, 128])
  (.cond (.t 128) (.seq (.ops [⟨(some 4), .mov (.c (.s (.bool false))), none⟩] [4])
  (.ret [4]))
  .skip))))
  (.ops [⟨(some 129), .bin .add (.t 95) (.c (.s (.int .i64 1))), none⟩,
    ⟨(some 95), .mov (.t 129), none⟩] [0, 5, 7, 9, 94, 95]))
def l7_1_1 : EC := (.seq (.cond (.t 96) .skip
  (.exit 2 [0]))
  l7_1_2)
def l7_1 : EC := (.seq (.ops [⟨(some 96), .bin .lss (.t 95) (.t 94), none⟩] [0, 5, 7, 9, 94, 95, 96])
  l7_1_1)
def s7_13 : EC := (.seq (.ops [⟨(some 153), .mov (.t 15), none⟩,
    ⟨(some 154), .un .not (.t 153), none⟩,
    ⟨(some 155), .mov (.t 154), none⟩,
    ⟨(some 156), .mov (.t 17), (some (155, true))⟩,
    ⟨(some 157), .un .not (.t 156), (some (155, true))⟩,
    ⟨(some 158), .pick (.t 155) (.t 157) (.c (.s (.bool false))), none⟩,
    ⟨(some 159), .mov (.t 158), none⟩,
    ⟨(some 160), .mov (.t 19), (some (159, true))⟩,
    ⟨(some 161), .un .not (.t 160), (some (159, true))⟩,
    ⟨(some 162), .pick (.t 159) (.t 161) (.c (.s (.bool false))), none⟩,
    ⟨(some 163), .mov (.t 162), none⟩,
    ⟨(some 164), .mov (.t 21), (some (163, true))⟩,
    ⟨(some 165), .un .not (.t 164), (some (163, true))⟩,
    ⟨(some 166), .pick (.t 163) (.t 165) (.c (.s (.bool false))), none⟩,
    ⟨(some 167), .mov (.t 166), none⟩,
    ⟨(some 168), .call 10 [], (some (167, true))⟩,
    ⟨(some 169), .pick (.t 167) (.t 168) (.c (.s (.bool false))), none⟩,
    ⟨(some 4), .mov (.t 169), none⟩] [4])
  (.ret [4]))
def s7_12 : EC := (.seq (.ops [⟨(some 148), .mov (.t 0), none⟩,
    ⟨(some 149), .mks 3 8 [(.int .i64 0)] (.c (.s (.int .i64 17))), none⟩,
    ⟨(some 150), .call 9 [(.t 148), (.t 149)], none⟩,
    ⟨(some 147), .mov (.t 150), none⟩,
    ⟨(some 151), .ext (.t 147) 0, none⟩,
    ⟨(some 152), .ext (.t 147) 1, none⟩,
    ⟨(some 20), .mov (.t 151), none⟩,
    ⟨(some 21), .mov (.t 152), none⟩] [15, 17, 19, 21])
  s7_13)
def s7_11 : EC := (.seq (.ops [⟨(some 142), .mov (.t 0), none⟩,
    ⟨(some 143), .bsl 3 1 [(.int .i64 0)] [(0, 1, (.c (.s (.int .i64 1000001))))], none⟩,
    ⟨(some 144), .call 9 [(.t 142), (.t 143)], none⟩,
    ⟨(some 141), .mov (.t 144), none⟩,
    ⟨(some 145), .ext (.t 141) 0, none⟩,
    ⟨(some 146), .ext (.t 141) 1, none⟩,
    ⟨(some 18), .mov (.t 145), none⟩,
    ⟨(some 19), .mov (.t 146), none⟩] [0, 15, 17, 19])
  s7_12)
def s7_10 : EC := (.seq (.ops [⟨(some 136), .mov (.t 0), none⟩,
    ⟨(some 137), .bsl 3 2 [(.int .i64 0)] [(0, 1, (.c (.s (.int .i64 1)))), (1, 1, (.c (.s (.int .i64 (-1)))))], none⟩,
    ⟨(some 138), .call 9 [(.t 136), (.t 137)], none⟩,
    ⟨(some 135), .mov (.t 138), none⟩,
    ⟨(some 139), .ext (.t 135) 0, none⟩,
    ⟨(some 140), .ext (.t 135) 1, none⟩,
    ⟨(some 16), .mov (.t 139), none⟩,
    ⟨(some 17), .mov (.t 140), none⟩] [0, 15, 17])
  s7_11)
def s7_9 : EC := (.seq (.ops [⟨(some 131), .mov (.t 0), none⟩,
    ⟨(some 132), .call 9 [(.t 131), (.c (.s .nils))], none⟩,
    ⟨(some 130), .mov (.t 132), none⟩,
    ⟨(some 133), .ext (.t 130) 0, none⟩,
    ⟨(some 134), .ext (.t 130) 1, none⟩,
    ⟨(some 14), .mov (.t 133), none⟩,
    ⟨(some 15), .mov (.t 134), none⟩] [0, 15])
  s7_10)
def s7_8 : EC := (.seq (.seq (.ops [⟨(some 93), .mov (.t 7), none⟩,
    ⟨(some 94), .len (.t 93), none⟩,
    ⟨(some 95), .mov (.c (.s (.int .i64 0))), none⟩] [0, 5, 7, 9, 94, 95])
  (.block 2 (.loop [0, 5, 7, 9, 94, 95] l7_1)))
  s7_9)
def s7_7 : EC := (.seq (.seq (.ops [⟨(some 62), .mov (.t 8), none⟩,
    ⟨(some 63), .un .not (.t 62), none⟩,
    ⟨(some 64), .mov (.t 63), none⟩,
    ⟨(some 65), .mov (.t 10), (some (64, false))⟩,
    ⟨(some 66), .un .not (.t 65), (some (64, false))⟩,
    ⟨(some 67), .pick (.t 64) (.c (.s (.bool true))) (.t 66), none⟩,
    ⟨(some 68), .mov (.t 67), none⟩,
    ⟨(some 69), .mov (.t 12), (some (68, false))⟩,
    ⟨(some 70), .un .not (.t 69), (some (68, false))⟩,
    ⟨(some 71), .pick (.t 68) (.c (.s (.bool true))) (.t 70), none⟩,
    ⟨(some 72), .mov (.t 71), none⟩,
    ⟨(some 73), .mov (.t 7), (some (72, false))⟩,
    ⟨(some 74), .len (.t 73), (some (72, false))⟩,
    ⟨(some 75), .mov (.t 5), (some (72, false))⟩,
    ⟨(some 76), .len (.t 75), (some (72, false))⟩,
    ⟨(some 77), .bin .neq (.t 74) (.t 76), (some (72, false))⟩,
    ⟨(some 78), .pick (.t 72) (.c (.s (.bool true))) (.t 77), none⟩,
    ⟨(some 79), .mov (.t 78), none⟩,
    ⟨(some 80), .mov (.t 9), (some (79, false))⟩,
    ⟨(some 81), .len (.t 80), (some (79, false))⟩,
    ⟨(some 82), .mov (.t 5), (some (79, false))⟩,
    ⟨(some 83), .len (.t 82), (some (79, false))⟩,
    ⟨(some 84), .bin .neq (.t 81) (.t 83), (some (79, false))⟩,
    ⟨(some 85), .pick (.t 79) (.c (.s (.bool true))) (.t 84), none⟩,
    ⟨(some 86), .mov (.t 85), none⟩,
    ⟨(some 87), .mov (.t 11), (some (86, false))⟩,
    ⟨(some 88), .mov (.t 0), (some (86, false))⟩,
    ⟨(some 89), .bsl 3 1 [(.int .i64 0)] [(0, 1, (.t 88))], (some (86, false))⟩,
    ⟨(some 90), .call 11 [(.t 87), (.t 89)], (some (86, false))⟩,
    ⟨(some 91), .un .not (.t 90), (some (86, false))⟩,
    ⟨(some 92), .pick (.t 86) (.c (.s (.bool true))) (.t 91), none⟩] [0, 5, 7, 9, 92])
  (.cond (.t 92) (.seq (.ops [⟨(some 4), .mov (.c (.s (.bool false))), none⟩] [4])
  (.ret [4]))
  .skip))
  s7_8)
def s7_6 : EC := (.seq (.ops [⟨(some 57), .mov (.t 0), none⟩,
    ⟨(some 58), .bsl 3 1 [(.int .i64 0)] [(0, 1, (.c (.s (.int .i64 77))))], none⟩,
    ⟨(some 59), .call 9 [(.t 57), (.t 58)], none⟩,
    ⟨(some 56), .mov (.t 59), none⟩,
    ⟨(some 60), .ext (.t 56) 0, none⟩,
    ⟨(some 61), .ext (.t 56) 1, none⟩,
    ⟨(some 11), .mov (.t 60), none⟩,
    ⟨(some 12), .mov (.t 61), none⟩] [0, 5, 7, 8, 9, 10, 11, 12])
  s7_7)
def s7_5 : EC := (.seq (.ops [⟨(some 50), .mov (.t 0), none⟩,
    ⟨(some 51), .un .neg (.t 50), none⟩,
    ⟨(some 52), .mov (.t 5), none⟩,
    ⟨(some 53), .call 9 [(.t 51), (.t 52)], none⟩,
    ⟨(some 49), .mov (.t 53), none⟩,
    ⟨(some 54), .ext (.t 49) 0, none⟩,
    ⟨(some 55), .ext (.t 49) 1, none⟩,
    ⟨(some 9), .mov (.t 54), none⟩,
    ⟨(some 10), .mov (.t 55), none⟩] [0, 5, 7, 8, 9, 10])
  s7_6)
def s7_4 : EC := (.seq (.ops [⟨(some 44), .mov (.t 0), none⟩,
    ⟨(some 45), .mov (.t 5), none⟩,
    ⟨(some 46), .call 9 [(.t 44), (.t 45)], none⟩,
    ⟨(some 43), .mov (.t 46), none⟩,
    ⟨(some 47), .ext (.t 43) 0, none⟩,
    ⟨(some 48), .ext (.t 43) 1, none⟩,
    ⟨(some 7), .mov (.t 47), none⟩,
    ⟨(some 8), .mov (.t 48), none⟩] [0, 5, 7, 8])
  s7_5)
def s7_3 : EC := (.seq (.seq (.ops [⟨(some 6), .mov (.c (.s (.int .i64 0))), none⟩] [0, 1, 5, 6])
  (.block 0 (.loop [0, 1, 5, 6] l7_0)))
  s7_4)
def s7_2 : EC := (.seq (.ops [⟨(some 24), .bsl 3 2 [(.int .i64 0)] [(0, 1, (.c (.s (.int .i64 0)))), (1, 1, (.c (.s (.int .i64 1))))], none⟩,
    ⟨(some 5), .mov (.t 24), none⟩] [0, 1, 5])
  s7_3)
def s7_1 : EC := (.seq (.ops [⟨(some 22), .mov (.t 0), none⟩,
    ⟨(some 23), .call 8 [(.t 22), (.c (.s (.int .i64 100000000001)))], none⟩,
    ⟨(some 0), .mov (.t 23), none⟩] [0, 1])
  s7_2)
def b7 : EC := (.seq (.ops [⟨(some 4), .mov (.c (.s (.bool false))), none⟩] [0, 1])
  s7_1)
def e7 : EF := ⟨170, b7, [.tmp 4]⟩

/-- scutage/scutagekeep.Within -/
def h8 : List (List Nat) := [[0, 1], [0, 1, 7], [4], [4], [1, 5], [1, 5, 12], [5], [4], [4]]
def s8_4 : EC := (.seq (.ops [⟨(some 16), .mov (.t 5), none⟩,
    ⟨(some 4), .mov (.t 16), none⟩] [4])
  (.ret [4]))
def s8_3 : EC := (.seq (.seq (.ops [⟨(some 11), .mov (.t 5), none⟩,
    ⟨(some 12), .bin .lss (.t 11) (.c (.s (.int .i64 0))), none⟩] [1, 5, 12])
  (.cond (.t 12) (.ops [⟨(some 13), .mov (.t 5), none⟩,
    ⟨(some 14), .mov (.t 1), none⟩,
    ⟨(some 15), .bin .add (.t 13) (.t 14), none⟩,
    ⟨(some 5), .mov (.t 15), none⟩] [5])
  .skip))
  s8_4)
def s8_2 : EC := (.seq (.ops [⟨(some 8), .mov (.t 0), none⟩,
    ⟨(some 9), .mov (.t 1), none⟩,
    ⟨(some 10), .bin .rem (.t 8) (.t 9), none⟩,
    ⟨(some 5), .mov (.t 10), none⟩] [1, 5])
  s8_3)
def s8_1 : EC := (.seq (.seq (.ops [⟨(some 6), .mov (.t 1), none⟩,
    ⟨(some 7), .bin .lss (.t 6) (.c (.s (.int .i64 1))), none⟩] [0, 1, 7])
  (.cond (.t 7) (.seq (.ops [⟨(some 4), .mov (.c (.s (.int .i64 0))), none⟩] [4])
  (.ret [4]))
  .skip))
  s8_2)
def b8 : EC := (.seq (.ops [⟨(some 4), .mov (.c (.s (.int .i64 0))), none⟩] [0, 1])
  s8_1)
def e8 : EF := ⟨17, b8, [.tmp 4]⟩

/-- scutage/split.Split -/
def h9 : List (List Nat) := [[0, 1], [0, 1, 6, 7], [0, 1, 6, 21], [4, 5], [4, 5], [0, 8], [8, 30], [8, 32, 33], [8, 32, 33], [8, 32, 33, 34], [8], [8, 9, 32, 33], [8, 32, 33], [8, 32, 33], [4, 5], [4, 5]]
def l9_0_2 : EC := (.seq (.block 1 (.seq (.ops [⟨(some 35), .mov (.t 33), none⟩,
    ⟨(some 9), .mov (.t 35), none⟩] [8, 9, 32, 33])
  (.ops [⟨(some 36), .mov (.t 8), none⟩,
    ⟨(some 37), .mov (.t 9), none⟩,
    ⟨(some 38), .mov (.t 8), none⟩,
    ⟨(some 39), .mov (.t 9), none⟩,
    ⟨(some 40), .iad 3 1 (.t 38) (.t 39), none⟩,
    ⟨(some 41), .load false 1 (.t 40), none⟩,
    ⟨(some 42), .un .neg (.t 41), none⟩,
    ⟨(some 43), .iad 3 1 (.t 36) (.t 37), none⟩,
    ⟨none, .store 1 (.t 43) (.t 42), none⟩] [8, 32, 33])))
  (.ops [⟨(some 44), .bin .add (.t 33) (.c (.s (.int .i64 1))), none⟩,
    ⟨(some 33), .mov (.t 44), none⟩] [8, 32, 33]))
def l9_0_1 : EC := (.seq (.cond (.t 34) .skip
  (.exit 0 [8]))
  l9_0_2)
def l9_0 : EC := (.seq (.ops [⟨(some 34), .bin .lss (.t 33) (.t 32), none⟩] [8, 32, 33, 34])
  l9_0_1)
def s9_5 : EC := (.seq (.ops [⟨(some 45), .mov (.t 8), none⟩,
    ⟨(some 4), .mov (.t 45), none⟩,
    ⟨(some 5), .mov (.c (.s (.bool true))), none⟩] [4, 5])
  (.ret [4, 5]))
def s9_4 : EC := (.seq (.seq (.ops [⟨(some 29), .mov (.t 0), none⟩,
    ⟨(some 30), .bin .lss (.t 29) (.c (.s (.int .i64 0))), none⟩] [8, 30])
  (.cond (.t 30) (.seq (.ops [⟨(some 31), .mov (.t 8), none⟩,
    ⟨(some 32), .len (.t 31), none⟩,
    ⟨(some 33), .mov (.c (.s (.int .i64 0))), none⟩] [8, 32, 33])
  (.block 0 (.loop [8, 32, 33] l9_0)))
  .skip))
  s9_5)
def s9_3 : EC := (.seq (.ops [⟨(some 22), .mov (.t 0), none⟩,
    ⟨(some 23), .mov (.t 0), none⟩,
    ⟨(some 24), .un .neg (.t 23), none⟩,
    ⟨(some 25), .mx (.t 22) [(.t 24)], none⟩,
    ⟨(some 26), .mov (.t 1), none⟩,
    ⟨(some 27), .mov (.t 6), none⟩,
    ⟨(some 28), .call 18 [(.t 25), (.t 26), (.t 27)], none⟩,
    ⟨(some 8), .mov (.t 28), none⟩] [0, 8])
  s9_4)
def s9_2 : EC := (.seq (.seq (.ops [⟨(some 15), .mov (.t 7), none⟩,
    ⟨(some 16), .un .not (.t 15), none⟩,
    ⟨(some 17), .mov (.t 16), none⟩,
    ⟨(some 18), .mov (.t 0), (some (17, false))⟩,
    ⟨(some 19), .call 17 [(.t 18)], (some (17, false))⟩,
    ⟨(some 20), .un .not (.t 19), (some (17, false))⟩,
    ⟨(some 21), .pick (.t 17) (.c (.s (.bool true))) (.t 20), none⟩] [0, 1, 6, 21])
  (.cond (.t 21) (.seq (.ops [⟨(some 4), .mov (.c (.s .nils)), none⟩,
    ⟨(some 5), .mov (.c (.s (.bool false))), none⟩] [4, 5])
  (.ret [4, 5]))
  .skip))
  s9_3)
def s9_1 : EC := (.seq (.ops [⟨(some 11), .mov (.t 1), none⟩,
    ⟨(some 12), .call 16 [(.t 11)], none⟩,
    ⟨(some 10), .mov (.t 12), none⟩,
    ⟨(some 13), .ext (.t 10) 0, none⟩,
    ⟨(some 14), .ext (.t 10) 1, none⟩,
    ⟨(some 6), .mov (.t 13), none⟩,
    ⟨(some 7), .mov (.t 14), none⟩] [0, 1, 6, 7])
  s9_2)
def b9 : EC := (.seq (.ops [⟨(some 4), .mov (.c (.s .nils)), none⟩,
    ⟨(some 5), .mov (.c (.s (.bool false))), none⟩] [0, 1])
  s9_1)
def e9 : EF := ⟨46, b9, [.tmp 4, .tmp 5]⟩

/-- scutage/scutagelaw02.wakes -/
def h10 : List (List Nat) := [[], [1, 2], [0], [0]]
def s10_2 : EC := (.seq (.ops [⟨(some 8), .mov (.t 2), none⟩,
    ⟨(some 9), .mov (.t 8), none⟩,
    ⟨(some 10), .mov (.t 1), (some (9, true))⟩,
    ⟨(some 11), .bsl 3 3 [(.int .i64 0)] [(0, 1, (.c (.s (.int .i64 4)))), (1, 1, (.c (.s (.int .i64 3)))), (2, 1, (.c (.s (.int .i64 3))))], (some (9, true))⟩,
    ⟨(some 12), .call 11 [(.t 10), (.t 11)], (some (9, true))⟩,
    ⟨(some 13), .pick (.t 9) (.t 12) (.c (.s (.bool false))), none⟩,
    ⟨(some 0), .mov (.t 13), none⟩] [0])
  (.ret [0]))
def s10_1 : EC := (.seq (.ops [⟨(some 4), .bsl 3 3 [(.int .i64 0)] [(0, 1, (.c (.s (.int .i64 1)))), (1, 1, (.c (.s (.int .i64 1)))), (2, 1, (.c (.s (.int .i64 1))))], none⟩,
    ⟨(some 5), .call 9 [(.c (.s (.int .i64 10))), (.t 4)], none⟩,
    ⟨(some 3), .mov (.t 5), none⟩,
    ⟨(some 6), .ext (.t 3) 0, none⟩,
    ⟨(some 7), .ext (.t 3) 1, none⟩,
    ⟨(some 1), .mov (.t 6), none⟩,
    ⟨(some 2), .mov (.t 7), none⟩] [1, 2])
  s10_2)
def b10 : EC := (.seq (.ops [⟨(some 0), .mov (.c (.s (.bool false))), none⟩] [])
  s10_1)
def e10 : EF := ⟨14, b10, [.tmp 0]⟩

/-- scutage/scutagekeep.Same[int] -/
def h11 : List (List Nat) := [[0, 1], [0, 1, 10], [4], [4], [0, 1, 5], [0, 1, 5], [0, 1, 5, 14], [], [0, 1, 5, 25], [4], [4], [0, 1, 5], [4], [4]]
def l11_0_1 : EC := (.seq (.block 1 (.seq (.draw [⟨(some 17), .mov (.t 0), none⟩,
    ⟨(some 18), .mov (.t 5), none⟩,
    ⟨(some 19), .iad 3 1 (.t 17) (.t 18), none⟩,
    ⟨(some 20), .load false 1 (.t 19), none⟩,
    ⟨(some 21), .mov (.t 1), none⟩,
    ⟨(some 22), .mov (.t 5), none⟩,
    ⟨(some 23), .iad 3 1 (.t 21) (.t 22), none⟩,
    ⟨(some 24), .load false 1 (.t 23), none⟩,
    ⟨(some 25), .bin .neq (.t 20) (.t 24), none⟩] [] [0, 1, 5, 25])
  (.cond (.t 25) (.seq (.ops [⟨(some 4), .mov (.c (.s (.bool false))), none⟩] [4])
  (.ret [4]))
  .skip)))
  (.ops [⟨(some 15), .mov (.t 5), none⟩,
    ⟨(some 16), .bin .add (.t 15) (.c (.s (.int .i64 1))), none⟩,
    ⟨(some 5), .mov (.t 16), none⟩] [0, 1, 5]))
def l11_0 : EC := (.seq (.seq (.ops [⟨(some 11), .mov (.t 5), none⟩,
    ⟨(some 12), .mov (.t 0), none⟩,
    ⟨(some 13), .len (.t 12), none⟩,
    ⟨(some 14), .bin .lss (.t 11) (.t 13), none⟩] [0, 1, 5, 14])
  (.cond (.t 14) .skip
  (.exit 0 [])))
  l11_0_1)
def s11_3 : EC := (.seq (.ops [⟨(some 4), .mov (.c (.s (.bool true))), none⟩] [4])
  (.ret [4]))
def s11_2 : EC := (.seq (.seq (.ops [⟨(some 5), .mov (.c (.s (.int .i64 0))), none⟩] [0, 1, 5])
  (.block 0 (.loop [0, 1, 5] l11_0)))
  s11_3)
def s11_1 : EC := (.seq (.seq (.ops [⟨(some 6), .mov (.t 0), none⟩,
    ⟨(some 7), .len (.t 6), none⟩,
    ⟨(some 8), .mov (.t 1), none⟩,
    ⟨(some 9), .len (.t 8), none⟩,
    ⟨(some 10), .bin .neq (.t 7) (.t 9), none⟩] [0, 1, 10])
  (.cond (.t 10) (.seq (.ops [⟨(some 4), .mov (.c (.s (.bool false))), none⟩] [4])
  (.ret [4]))
  .skip))
  s11_2)
def b11 : EC := (.seq (.ops [⟨(some 4), .mov (.c (.s (.bool false))), none⟩] [0, 1])
  s11_1)
def e11 : EF := ⟨26, b11, [.tmp 4]⟩

/-- scutage/scutagekeep.Cut[int] -/
def h12 : List (List Nat) := [[0, 1], [4], [4]]
def s12_1 : EC := (.seq (.ops [⟨(some 5), .mov (.t 0), none⟩,
    ⟨(some 6), .mov (.t 0), none⟩,
    ⟨(some 7), .len (.t 6), none⟩,
    ⟨(some 8), .mov (.t 1), none⟩,
    ⟨(some 9), .mn (.t 7) [(.t 8)], none⟩,
    ⟨(some 10), .sli 3 1 (.t 5) none (some (.t 9)), none⟩,
    ⟨(some 11), .call 14 [(.t 10)], none⟩,
    ⟨(some 4), .mov (.t 11), none⟩] [4])
  (.ret [4]))
def b12 : EC := (.seq (.ops [⟨(some 4), .mov (.c (.s .nils)), none⟩] [0, 1])
  s12_1)
def e12 : EF := ⟨12, b12, [.tmp 4]⟩

/-- scutage/scutageplay.Amount -/
def h13 : List (List Nat) := [[0], [0, 4], [0, 4, 5], [2], [2], [0, 4, 12], [2], [2], [0, 4, 19], [2], [2], [0, 22], [2], [2], [2], [2]]
def s13_2 : EC := (.seq (.ops [⟨(some 28), .mov (.t 0), none⟩,
    ⟨(some 29), .call 8 [(.t 28), (.c (.s (.int .i64 4001)))], none⟩,
    ⟨(some 30), .bin .sub (.t 29) (.c (.s (.int .i64 2000))), none⟩,
    ⟨(some 2), .mov (.t 30), none⟩] [2])
  (.ret [2]))
def s13_1 : EC := (.seq (.seq (.ops [⟨(some 3), .mov (.t 0), none⟩,
    ⟨(some 4), .bin .rem (.t 3) (.c (.s (.int .i64 23))), none⟩] [0, 4])
  (.block 0 (.seq (.ops [⟨(some 6), .bin .eql (.t 4) (.c (.s (.int .i64 20))), none⟩,
    ⟨(some 5), .mov (.t 6), none⟩] [0, 4, 5])
  (.cond (.t 5) (.seq (.ops [⟨(some 7), .mov (.t 0), none⟩,
    ⟨(some 8), .bin .quo (.t 7) (.c (.s (.int .i64 23))), none⟩,
    ⟨(some 9), .call 8 [(.t 8), (.c (.s (.int .i64 5)))], none⟩,
    ⟨(some 10), .bin .sub (.c (.s (.int .i64 100000000000))) (.t 9), none⟩,
    ⟨(some 11), .bin .add (.t 10) (.c (.s (.int .i64 2))), none⟩,
    ⟨(some 2), .mov (.t 11), none⟩] [2])
  (.ret [2]))
  (.seq (.ops [⟨(some 13), .bin .eql (.t 4) (.c (.s (.int .i64 21))), none⟩,
    ⟨(some 12), .mov (.t 13), none⟩] [0, 4, 12])
  (.cond (.t 12) (.seq (.ops [⟨(some 14), .mov (.t 0), none⟩,
    ⟨(some 15), .bin .quo (.t 14) (.c (.s (.int .i64 23))), none⟩,
    ⟨(some 16), .call 8 [(.t 15), (.c (.s (.int .i64 5)))], none⟩,
    ⟨(some 17), .bin .add (.c (.s (.int .i64 (-100000000000)))) (.t 16), none⟩,
    ⟨(some 18), .bin .sub (.t 17) (.c (.s (.int .i64 2))), none⟩,
    ⟨(some 2), .mov (.t 18), none⟩] [2])
  (.ret [2]))
  (.seq (.ops [⟨(some 20), .bin .eql (.t 4) (.c (.s (.int .i64 22))), none⟩,
    ⟨(some 19), .mov (.t 20), none⟩] [0, 4, 19])
  (.cond (.t 19) (.seq (.ops [⟨(some 21), .mov (.t 0), none⟩,
    ⟨(some 2), .mov (.t 21), none⟩] [2])
  (.ret [2]))
  (.seq (.ops [⟨(some 23), .bin .eql (.t 4) (.c (.s (.int .i64 19))), none⟩,
    ⟨(some 22), .mov (.t 23), none⟩] [0, 22])
  (.cond (.t 22) (.seq (.ops [⟨(some 24), .mov (.t 0), none⟩,
    ⟨(some 25), .bin .quo (.t 24) (.c (.s (.int .i64 23))), none⟩,
    ⟨(some 26), .call 8 [(.t 25), (.c (.s (.int .i64 200000000001)))], none⟩,
    ⟨(some 27), .bin .sub (.t 26) (.c (.s (.int .i64 100000000000))), none⟩,
    ⟨(some 2), .mov (.t 27), none⟩] [2])
  (.ret [2]))
  .skip))))))))))
  s13_2)
def b13 : EC := (.seq (.ops [⟨(some 2), .mov (.c (.s (.int .i64 0))), none⟩] [0])
  s13_1)
def e13 : EF := ⟨31, b13, [.tmp 2]⟩

/-- scutage/scutagekeep.Copy[int] -/
def h14 : List (List Nat) := [[0], [2], [2]]
def s14_1 : EC := (.seq (.ops [⟨(some 3), .mov (.t 0), none⟩,
    ⟨(some 4), .app 3 1 8 (.c (.s .nils)) (.t 3), none⟩,
    ⟨(some 2), .mov (.t 4), none⟩] [2])
  (.ret [2]))
def b14 : EC := (.seq (.ops [⟨(some 2), .mov (.c (.s .nils)), none⟩] [0])
  s14_1)
def e14 : EF := ⟨5, b14, [.tmp 2]⟩

/-- scutage/scutageref01.Split -/
def h15 : List (List Nat) := [[0, 1], [0, 1, 6], [0, 1, 6, 19, 20, 21], [0, 1, 6, 19, 20, 21], [0, 1, 6, 19, 20, 21, 22], [0, 1, 6], [0, 1, 6, 8, 19, 20, 21], [0, 1, 6, 8, 19, 20, 21, 30], [4, 5], [4, 5], [0, 1, 6, 19, 20, 21], [0, 1, 6, 19, 20, 21], [0, 1, 6, 51], [4, 5], [4, 5], [0, 1, 6, 53], [9], [9, 62, 63], [9, 62, 63], [9, 62, 63, 64], [9], [9, 11, 62, 63], [9, 62, 63], [9, 62, 63], [4, 5], [4, 5], [0, 1, 6, 12, 13], [0, 1, 6, 12, 13, 14], [0, 6, 12, 13, 14, 77, 78, 79], [0, 6, 12, 13, 14, 77, 78, 79], [0, 6, 12, 13, 14, 77, 78, 79, 80], [12, 13, 14], [0, 6, 12, 13, 14, 16, 77, 78, 79], [0, 6, 12, 13, 14, 16, 77, 78, 79], [0, 6, 12, 13, 14, 77, 78, 79], [0, 6, 12, 13, 14, 77, 78, 79], [12, 13, 14], [12, 13, 14, 108], [12], [12, 13, 14, 17], [12, 13, 14, 17, 112, 113], [12, 13, 14, 17, 112, 113], [12, 13, 14, 17, 112, 113, 114], [12, 13, 14, 17], [12, 13, 14, 17, 18, 112, 113], [12, 13, 14, 17, 18, 112, 113, 124], [12, 13, 14, 17, 112, 113], [12, 13, 14, 17, 112, 113], [12, 13, 14, 17], [12, 13, 14], [12, 13, 14], [4, 5], [4, 5]]
def l15_0_2 : EC := (.seq (.block 1 (.seq (.ops [⟨(some 23), .iad 3 1 (.t 19) (.t 21), none⟩,
    ⟨(some 24), .load false 1 (.t 23), none⟩,
    ⟨(some 8), .mov (.t 24), none⟩] [0, 1, 6, 8, 19, 20, 21])
  (.seq (.seq (.ops [⟨(some 25), .mov (.t 8), none⟩,
    ⟨(some 26), .bin .lss (.t 25) (.c (.s (.int .i64 0))), none⟩,
    ⟨(some 27), .mov (.t 26), none⟩,
    ⟨(some 28), .mov (.t 8), (some (27, false))⟩,
    ⟨(some 29), .bin .gtr (.t 28) (.c (.s (.int .i64 1000000))), (some (27, false))⟩,
    ⟨(some 30), .pick (.t 27) (.c (.s (.bool true))) (.t 29), none⟩] [0, 1, 6, 8, 19, 20, 21, 30])
  (.cond (.t 30) (.seq (.ops [⟨(some 4), .mov (.c (.s .nils)), none⟩,
    ⟨(some 5), .mov (.c (.s (.bool false))), none⟩] [4, 5])
  (.ret [4, 5]))
  .skip))
  (.ops [⟨(some 31), .mov (.t 6), none⟩,
    ⟨(some 32), .mov (.t 8), none⟩,
    ⟨(some 33), .bin .add (.t 31) (.t 32), none⟩,
    ⟨(some 6), .mov (.t 33), none⟩] [0, 1, 6, 19, 20, 21]))))
  (.ops [⟨(some 34), .bin .add (.t 21) (.c (.s (.int .i64 1))), none⟩,
    ⟨(some 21), .mov (.t 34), none⟩] [0, 1, 6, 19, 20, 21]))
def l15_0_1 : EC := (.seq (.cond (.t 22) .skip
  (.exit 0 [0, 1, 6]))
  l15_0_2)
def l15_0 : EC := (.seq (.ops [⟨(some 22), .bin .lss (.t 21) (.t 20), none⟩] [0, 1, 6, 19, 20, 21, 22])
  l15_0_1)
def l15_1_2 : EC := (.seq (.block 3 (.seq (.ops [⟨(some 65), .mov (.t 63), none⟩,
    ⟨(some 11), .mov (.t 65), none⟩] [9, 11, 62, 63])
  (.ops [⟨(some 66), .mov (.t 9), none⟩,
    ⟨(some 67), .mov (.t 11), none⟩,
    ⟨(some 68), .mov (.t 9), none⟩,
    ⟨(some 69), .mov (.t 11), none⟩,
    ⟨(some 70), .iad 3 1 (.t 68) (.t 69), none⟩,
    ⟨(some 71), .load false 1 (.t 70), none⟩,
    ⟨(some 72), .un .neg (.t 71), none⟩,
    ⟨(some 73), .iad 3 1 (.t 66) (.t 67), none⟩,
    ⟨none, .store 1 (.t 73) (.t 72), none⟩] [9, 62, 63])))
  (.ops [⟨(some 74), .bin .add (.t 63) (.c (.s (.int .i64 1))), none⟩,
    ⟨(some 63), .mov (.t 74), none⟩] [9, 62, 63]))
def l15_1_1 : EC := (.seq (.cond (.t 64) .skip
  (.exit 2 [9]))
  l15_1_2)
def l15_1 : EC := (.seq (.ops [⟨(some 64), .bin .lss (.t 63) (.t 62), none⟩] [9, 62, 63, 64])
  l15_1_1)
def l15_2_2 : EC := (.seq (.block 5 (.seq (.ops [⟨(some 81), .iad 3 1 (.t 77) (.t 79), none⟩,
    ⟨(some 82), .load false 1 (.t 81), none⟩,
    ⟨(some 16), .mov (.t 82), none⟩] [0, 6, 12, 13, 14, 16, 77, 78, 79])
  (.seq (.draw [⟨(some 83), .mov (.t 12), none⟩,
    ⟨(some 84), .mov (.t 0), none⟩,
    ⟨(some 85), .mov (.t 16), none⟩,
    ⟨(some 86), .bin .mul (.t 84) (.t 85), none⟩,
    ⟨(some 87), .mov (.t 6), none⟩,
    ⟨(some 88), .bin .quo (.t 86) (.t 87), none⟩,
    ⟨(some 89), .bsl 3 1 [(.int .i64 0)] [(0, 1, (.t 88))], none⟩,
    ⟨(some 90), .app 3 1 8 (.t 83) (.t 89), none⟩,
    ⟨(some 91), .mov (.t 13), none⟩,
    ⟨(some 92), .mov (.t 0), none⟩,
    ⟨(some 93), .mov (.t 16), none⟩,
    ⟨(some 94), .bin .mul (.t 92) (.t 93), none⟩,
    ⟨(some 95), .mov (.t 6), none⟩,
    ⟨(some 96), .bin .rem (.t 94) (.t 95), none⟩,
    ⟨(some 97), .bsl 3 1 [(.int .i64 0)] [(0, 1, (.t 96))], none⟩,
    ⟨(some 98), .app 3 1 8 (.t 91) (.t 97), none⟩,
    ⟨(some 12), .mov (.t 90), none⟩,
    ⟨(some 13), .mov (.t 98), none⟩] [] [0, 6, 12, 13, 14, 16, 77, 78, 79])
  (.ops [⟨(some 99), .mov (.t 14), none⟩,
    ⟨(some 100), .mov (.t 0), none⟩,
    ⟨(some 101), .mov (.t 16), none⟩,
    ⟨(some 102), .bin .mul (.t 100) (.t 101), none⟩,
    ⟨(some 103), .mov (.t 6), none⟩,
    ⟨(some 104), .bin .quo (.t 102) (.t 103), none⟩,
    ⟨(some 105), .bin .sub (.t 99) (.t 104), none⟩,
    ⟨(some 14), .mov (.t 105), none⟩] [0, 6, 12, 13, 14, 77, 78, 79]))))
  (.ops [⟨(some 106), .bin .add (.t 79) (.c (.s (.int .i64 1))), none⟩,
    ⟨(some 79), .mov (.t 106), none⟩] [0, 6, 12, 13, 14, 77, 78, 79]))
def l15_2_1 : EC := (.seq (.cond (.t 80) .skip
  (.exit 4 [12, 13, 14]))
  l15_2_2)
def l15_2 : EC := (.seq (.ops [⟨(some 80), .bin .lss (.t 79) (.t 78), none⟩] [0, 6, 12, 13, 14, 77, 78, 79, 80])
  l15_2_1)
def l15_3_2 : EC := (.seq (.block 9 (.seq (.ops [⟨(some 115), .mov (.t 113), none⟩,
    ⟨(some 18), .mov (.t 115), none⟩] [12, 13, 14, 17, 18, 112, 113])
  (.seq (.draw [⟨(some 116), .mov (.t 13), none⟩,
    ⟨(some 117), .mov (.t 18), none⟩,
    ⟨(some 118), .iad 3 1 (.t 116) (.t 117), none⟩,
    ⟨(some 119), .load false 1 (.t 118), none⟩,
    ⟨(some 120), .mov (.t 13), none⟩,
    ⟨(some 121), .mov (.t 17), none⟩,
    ⟨(some 122), .iad 3 1 (.t 120) (.t 121), none⟩,
    ⟨(some 123), .load false 1 (.t 122), none⟩,
    ⟨(some 124), .bin .gtr (.t 119) (.t 123), none⟩] [] [12, 13, 14, 17, 18, 112, 113, 124])
  (.cond (.t 124) (.ops [⟨(some 125), .mov (.t 18), none⟩,
    ⟨(some 17), .mov (.t 125), none⟩] [12, 13, 14, 17, 112, 113])
  .skip))))
  (.ops [⟨(some 126), .bin .add (.t 113) (.c (.s (.int .i64 1))), none⟩,
    ⟨(some 113), .mov (.t 126), none⟩] [12, 13, 14, 17, 112, 113]))
def l15_3_1 : EC := (.seq (.cond (.t 114) .skip
  (.exit 8 [12, 13, 14, 17]))
  l15_3_2)
def l15_3 : EC := (.seq (.ops [⟨(some 114), .bin .lss (.t 113) (.t 112), none⟩] [12, 13, 14, 17, 112, 113, 114])
  l15_3_1)
def l15_4_1 : EC := (.seq (.block 7 (.seq (.ops [⟨(some 17), .mov (.c (.s (.int .i64 0))), none⟩] [12, 13, 14, 17])
  (.seq (.seq (.ops [⟨(some 111), .mov (.t 13), none⟩,
    ⟨(some 112), .len (.t 111), none⟩,
    ⟨(some 113), .mov (.c (.s (.int .i64 0))), none⟩] [12, 13, 14, 17, 112, 113])
  (.block 8 (.loop [12, 13, 14, 17, 112, 113] l15_3)))
  (.seq (.ops [⟨(some 127), .mov (.t 12), none⟩,
    ⟨(some 128), .mov (.t 17), none⟩,
    ⟨(some 129), .iad 3 1 (.t 127) (.t 128), none⟩,
    ⟨(some 130), .load false 1 (.t 129), none⟩,
    ⟨(some 131), .bin .add (.t 130) (.c (.s (.int .i64 1))), none⟩,
    ⟨(some 132), .iad 3 1 (.t 127) (.t 128), none⟩,
    ⟨none, .store 1 (.t 132) (.t 131), none⟩] [12, 13, 14, 17])
  (.ops [⟨(some 133), .mov (.t 13), none⟩,
    ⟨(some 134), .mov (.t 17), none⟩,
    ⟨(some 135), .iad 3 1 (.t 133) (.t 134), none⟩,
    ⟨none, .store 1 (.t 135) (.c (.s (.int .i64 (-1)))), none⟩] [12, 13, 14])))))
  (.ops [⟨(some 109), .mov (.t 14), none⟩,
    ⟨(some 110), .bin .sub (.t 109) (.c (.s (.int .i64 1))), none⟩,
    ⟨(some 14), .mov (.t 110), none⟩] [12, 13, 14]))
def l15_4 : EC := (.seq (.seq (.ops [⟨(some 107), .mov (.t 14), none⟩,
    ⟨(some 108), .bin .gtr (.t 107) (.c (.s (.int .i64 0))), none⟩] [12, 13, 14, 108])
  (.cond (.t 108) .skip
  (.exit 6 [12])))
  l15_4_1)
def s15_9 : EC := (.seq (.ops [⟨(some 136), .mov (.t 12), none⟩,
    ⟨(some 4), .mov (.t 136), none⟩,
    ⟨(some 5), .mov (.c (.s (.bool true))), none⟩] [4, 5])
  (.ret [4, 5]))
def s15_8 : EC := (.seq (.block 6 (.loop [12, 13, 14] l15_4))
  s15_9)
def s15_7 : EC := (.seq (.seq (.ops [⟨(some 77), .mov (.t 1), none⟩,
    ⟨(some 78), .len (.t 77), none⟩,
    ⟨(some 79), .mov (.c (.s (.int .i64 0))), none⟩] [0, 6, 12, 13, 14, 77, 78, 79])
  (.block 4 (.loop [0, 6, 12, 13, 14, 77, 78, 79] l15_2)))
  s15_8)
def s15_6 : EC := (.seq (.ops [⟨(some 76), .mov (.t 0), none⟩,
    ⟨(some 14), .mov (.t 76), none⟩] [0, 1, 6, 12, 13, 14])
  s15_7)
def s15_5 : EC := (.seq (.ops [⟨(some 12), .mov (.c (.s .nils)), none⟩,
    ⟨(some 13), .mov (.c (.s .nils)), none⟩] [0, 1, 6, 12, 13])
  s15_6)
def s15_4 : EC := (.seq (.seq (.ops [⟨(some 52), .mov (.t 0), none⟩,
    ⟨(some 53), .bin .lss (.t 52) (.c (.s (.int .i64 0))), none⟩] [0, 1, 6, 53])
  (.cond (.t 53) (.seq (.ops [⟨(some 55), .mov (.t 0), none⟩,
    ⟨(some 56), .un .neg (.t 55), none⟩,
    ⟨(some 57), .mov (.t 1), none⟩,
    ⟨(some 58), .call 15 [(.t 56), (.t 57)], none⟩,
    ⟨(some 54), .mov (.t 58), none⟩,
    ⟨(some 59), .ext (.t 54) 0, none⟩,
    ⟨(some 60), .ext (.t 54) 1, none⟩,
    ⟨(some 9), .mov (.t 59), none⟩,
    ⟨(some 10), .mov (.t 60), none⟩] [9])
  (.seq (.seq (.ops [⟨(some 61), .mov (.t 9), none⟩,
    ⟨(some 62), .len (.t 61), none⟩,
    ⟨(some 63), .mov (.c (.s (.int .i64 0))), none⟩] [9, 62, 63])
  (.block 2 (.loop [9, 62, 63] l15_1)))
  (.seq (.ops [⟨(some 75), .mov (.t 9), none⟩,
    ⟨(some 4), .mov (.t 75), none⟩,
    ⟨(some 5), .mov (.c (.s (.bool true))), none⟩] [4, 5])
  (.ret [4, 5]))))
  .skip))
  s15_5)
def s15_3 : EC := (.seq (.seq (.ops [⟨(some 35), .mov (.t 0), none⟩,
    ⟨(some 36), .call 19 [(.t 35)], none⟩,
    ⟨(some 37), .un .not (.t 36), none⟩,
    ⟨(some 38), .mov (.t 37), none⟩,
    ⟨(some 39), .mov (.t 1), (some (38, false))⟩,
    ⟨(some 40), .len (.t 39), (some (38, false))⟩,
    ⟨(some 41), .bin .lss (.t 40) (.c (.s (.int .i64 1))), (some (38, false))⟩,
    ⟨(some 42), .pick (.t 38) (.c (.s (.bool true))) (.t 41), none⟩,
    ⟨(some 43), .mov (.t 42), none⟩,
    ⟨(some 44), .mov (.t 1), (some (43, false))⟩,
    ⟨(some 45), .len (.t 44), (some (43, false))⟩,
    ⟨(some 46), .bin .gtr (.t 45) (.c (.s (.int .i64 16))), (some (43, false))⟩,
    ⟨(some 47), .pick (.t 43) (.c (.s (.bool true))) (.t 46), none⟩,
    ⟨(some 48), .mov (.t 47), none⟩,
    ⟨(some 49), .mov (.t 6), (some (48, false))⟩,
    ⟨(some 50), .bin .eql (.t 49) (.c (.s (.int .i64 0))), (some (48, false))⟩,
    ⟨(some 51), .pick (.t 48) (.c (.s (.bool true))) (.t 50), none⟩] [0, 1, 6, 51])
  (.cond (.t 51) (.seq (.ops [⟨(some 4), .mov (.c (.s .nils)), none⟩,
    ⟨(some 5), .mov (.c (.s (.bool false))), none⟩] [4, 5])
  (.ret [4, 5]))
  .skip))
  s15_4)
def s15_2 : EC := (.seq (.seq (.ops [⟨(some 19), .mov (.t 1), none⟩,
    ⟨(some 20), .len (.t 19), none⟩,
    ⟨(some 21), .mov (.c (.s (.int .i64 0))), none⟩] [0, 1, 6, 19, 20, 21])
  (.block 0 (.loop [0, 1, 6, 19, 20, 21] l15_0)))
  s15_3)
def s15_1 : EC := (.seq (.ops [⟨(some 6), .mov (.c (.s (.int .i64 0))), none⟩] [0, 1, 6])
  s15_2)
def b15 : EC := (.seq (.ops [⟨(some 4), .mov (.c (.s .nils)), none⟩,
    ⟨(some 5), .mov (.c (.s (.bool false))), none⟩] [0, 1])
  s15_1)
def e15 : EF := ⟨137, b15, [.tmp 4, .tmp 5]⟩

/-- scutage/split.right -/
def h16 : List (List Nat) := [[0], [0, 4], [0, 4, 7, 8, 9], [0, 4, 7, 8, 9], [0, 4, 7, 8, 9, 10], [0, 4], [0, 4, 6, 7, 8, 9], [0, 4, 6, 7, 8, 9, 18], [2, 3], [2, 3], [0, 4, 7, 8, 9], [0, 4, 7, 8, 9], [2, 3], [2, 3]]
def l16_0_2 : EC := (.seq (.block 1 (.seq (.ops [⟨(some 11), .iad 3 1 (.t 7) (.t 9), none⟩,
    ⟨(some 12), .load false 1 (.t 11), none⟩,
    ⟨(some 6), .mov (.t 12), none⟩] [0, 4, 6, 7, 8, 9])
  (.seq (.seq (.ops [⟨(some 13), .mov (.t 6), none⟩,
    ⟨(some 14), .bin .lss (.t 13) (.c (.s (.int .i64 0))), none⟩,
    ⟨(some 15), .mov (.t 14), none⟩,
    ⟨(some 16), .mov (.t 6), (some (15, false))⟩,
    ⟨(some 17), .bin .gtr (.t 16) (.c (.s (.int .i64 1000000))), (some (15, false))⟩,
    ⟨(some 18), .pick (.t 15) (.c (.s (.bool true))) (.t 17), none⟩] [0, 4, 6, 7, 8, 9, 18])
  (.cond (.t 18) (.seq (.ops [⟨(some 2), .mov (.c (.s (.int .i64 0))), none⟩,
    ⟨(some 3), .mov (.c (.s (.bool false))), none⟩] [2, 3])
  (.ret [2, 3]))
  .skip))
  (.ops [⟨(some 19), .mov (.t 4), none⟩,
    ⟨(some 20), .mov (.t 6), none⟩,
    ⟨(some 21), .bin .add (.t 19) (.t 20), none⟩,
    ⟨(some 4), .mov (.t 21), none⟩] [0, 4, 7, 8, 9]))))
  (.ops [⟨(some 22), .bin .add (.t 9) (.c (.s (.int .i64 1))), none⟩,
    ⟨(some 9), .mov (.t 22), none⟩] [0, 4, 7, 8, 9]))
def l16_0_1 : EC := (.seq (.cond (.t 10) .skip
  (.exit 0 [0, 4]))
  l16_0_2)
def l16_0 : EC := (.seq (.ops [⟨(some 10), .bin .lss (.t 9) (.t 8), none⟩] [0, 4, 7, 8, 9, 10])
  l16_0_1)
def s16_3 : EC := (.seq (.ops [⟨(some 23), .mov (.t 4), none⟩,
    ⟨(some 24), .mov (.t 4), none⟩,
    ⟨(some 25), .bin .gtr (.t 24) (.c (.s (.int .i64 0))), none⟩,
    ⟨(some 26), .mov (.t 25), none⟩,
    ⟨(some 27), .mov (.t 0), (some (26, true))⟩,
    ⟨(some 28), .len (.t 27), (some (26, true))⟩,
    ⟨(some 29), .bin .leq (.t 28) (.c (.s (.int .i64 16))), (some (26, true))⟩,
    ⟨(some 30), .pick (.t 26) (.t 29) (.c (.s (.bool false))), none⟩,
    ⟨(some 2), .mov (.t 23), none⟩,
    ⟨(some 3), .mov (.t 30), none⟩] [2, 3])
  (.ret [2, 3]))
def s16_2 : EC := (.seq (.seq (.ops [⟨(some 7), .mov (.t 0), none⟩,
    ⟨(some 8), .len (.t 7), none⟩,
    ⟨(some 9), .mov (.c (.s (.int .i64 0))), none⟩] [0, 4, 7, 8, 9])
  (.block 0 (.loop [0, 4, 7, 8, 9] l16_0)))
  s16_3)
def s16_1 : EC := (.seq (.ops [⟨(some 4), .mov (.c (.s (.int .i64 0))), none⟩] [0, 4])
  s16_2)
def b16 : EC := (.seq (.ops [⟨(some 2), .mov (.c (.s (.int .i64 0))), none⟩,
    ⟨(some 3), .mov (.c (.s (.bool false))), none⟩] [0])
  s16_1)
def e16 : EF := ⟨31, b16, [.tmp 2, .tmp 3]⟩

/-- scutage/rate.Money -/
def h17 : List (List Nat) := [[0], [2], [2]]
def s17_1 : EC := (.seq (.ops [⟨(some 3), .mov (.t 0), none⟩,
    ⟨(some 4), .bin .geq (.t 3) (.c (.s (.int .i64 (-100000000000)))), none⟩,
    ⟨(some 5), .mov (.t 4), none⟩,
    ⟨(some 6), .mov (.t 0), (some (5, true))⟩,
    ⟨(some 7), .bin .leq (.t 6) (.c (.s (.int .i64 100000000000))), (some (5, true))⟩,
    ⟨(some 8), .pick (.t 5) (.t 7) (.c (.s (.bool false))), none⟩,
    ⟨(some 2), .mov (.t 8), none⟩] [2])
  (.ret [2]))
def b17 : EC := (.seq (.ops [⟨(some 2), .mov (.c (.s (.bool false))), none⟩] [0])
  s17_1)
def e17 : EF := ⟨9, b17, [.tmp 2]⟩

/-- scutage/split.share -/
def h18 : List (List Nat) := [[0, 1, 2], [0, 1, 2, 7], [0, 1, 2, 7, 8], [0, 1, 2, 7, 8, 9], [0, 2, 7, 8, 9, 20, 21, 22], [0, 2, 7, 8, 9, 20, 21, 22], [0, 2, 7, 8, 9, 20, 21, 22, 23], [7, 8, 9], [0, 2, 7, 8, 9, 10, 11, 20, 21, 22], [0, 2, 7, 8, 9, 10, 20, 21, 22], [0, 2, 7, 8, 9, 20, 21, 22], [0, 2, 7, 8, 9, 20, 21, 22], [7, 8, 50, 51], [7, 8, 50, 51], [7, 8, 50, 51, 52], [7], [7, 8, 12, 50, 51], [7, 8, 12, 50, 51], [7, 8, 50, 51], [7, 8, 50, 51], [6], [6]]
def l18_0_2 : EC := (.seq (.block 1 (.seq (.ops [⟨(some 24), .mov (.t 22), none⟩,
    ⟨(some 25), .iad 3 1 (.t 20) (.t 22), none⟩,
    ⟨(some 26), .load false 1 (.t 25), none⟩,
    ⟨(some 10), .mov (.t 24), none⟩,
    ⟨(some 11), .mov (.t 26), none⟩] [0, 2, 7, 8, 9, 10, 11, 20, 21, 22])
  (.seq (.draw [⟨(some 27), .mov (.t 7), none⟩,
    ⟨(some 28), .mov (.t 10), none⟩,
    ⟨(some 29), .mov (.t 8), none⟩,
    ⟨(some 30), .mov (.t 10), none⟩,
    ⟨(some 31), .mov (.t 0), none⟩,
    ⟨(some 32), .mov (.t 11), none⟩,
    ⟨(some 33), .bin .mul (.t 31) (.t 32), none⟩,
    ⟨(some 34), .mov (.t 2), none⟩,
    ⟨(some 35), .bin .quo (.t 33) (.t 34), none⟩,
    ⟨(some 36), .mov (.t 0), none⟩,
    ⟨(some 37), .mov (.t 11), none⟩,
    ⟨(some 38), .bin .mul (.t 36) (.t 37), none⟩,
    ⟨(some 39), .mov (.t 2), none⟩,
    ⟨(some 40), .bin .rem (.t 38) (.t 39), none⟩,
    ⟨(some 41), .iad 3 1 (.t 27) (.t 28), none⟩,
    ⟨none, .store 1 (.t 41) (.t 35), none⟩,
    ⟨(some 42), .iad 3 1 (.t 29) (.t 30), none⟩,
    ⟨none, .store 1 (.t 42) (.t 40), none⟩] [] [0, 2, 7, 8, 9, 10, 20, 21, 22])
  (.ops [⟨(some 43), .mov (.t 9), none⟩,
    ⟨(some 44), .mov (.t 7), none⟩,
    ⟨(some 45), .mov (.t 10), none⟩,
    ⟨(some 46), .iad 3 1 (.t 44) (.t 45), none⟩,
    ⟨(some 47), .load false 1 (.t 46), none⟩,
    ⟨(some 48), .bin .sub (.t 43) (.t 47), none⟩,
    ⟨(some 9), .mov (.t 48), none⟩] [0, 2, 7, 8, 9, 20, 21, 22]))))
  (.ops [⟨(some 49), .bin .add (.t 22) (.c (.s (.int .i64 1))), none⟩,
    ⟨(some 22), .mov (.t 49), none⟩] [0, 2, 7, 8, 9, 20, 21, 22]))
def l18_0_1 : EC := (.seq (.cond (.t 23) .skip
  (.exit 0 [7, 8, 9]))
  l18_0_2)
def l18_0 : EC := (.seq (.ops [⟨(some 23), .bin .lss (.t 22) (.t 21), none⟩] [0, 2, 7, 8, 9, 20, 21, 22, 23])
  l18_0_1)
def l18_1_2 : EC := (.seq (.block 3 (.seq (.ops [⟨(some 53), .mov (.t 8), none⟩,
    ⟨(some 54), .mov (.t 8), none⟩,
    ⟨(some 55), .call 21 [(.t 54)], none⟩,
    ⟨(some 56), .call 20 [(.t 53), (.t 55)], none⟩,
    ⟨(some 12), .mov (.t 56), none⟩] [7, 8, 12, 50, 51])
  (.seq (.ops [⟨(some 57), .mov (.t 7), none⟩,
    ⟨(some 58), .mov (.t 12), none⟩,
    ⟨(some 59), .iad 3 1 (.t 57) (.t 58), none⟩,
    ⟨(some 60), .load false 1 (.t 59), none⟩,
    ⟨(some 61), .bin .add (.t 60) (.c (.s (.int .i64 1))), none⟩,
    ⟨(some 62), .iad 3 1 (.t 57) (.t 58), none⟩,
    ⟨none, .store 1 (.t 62) (.t 61), none⟩] [7, 8, 12, 50, 51])
  (.ops [⟨(some 63), .mov (.t 8), none⟩,
    ⟨(some 64), .mov (.t 12), none⟩,
    ⟨(some 65), .iad 3 1 (.t 63) (.t 64), none⟩,
    ⟨none, .store 1 (.t 65) (.c (.s (.int .i64 (-1)))), none⟩] [7, 8, 50, 51]))))
  (.ops [⟨(some 66), .bin .add (.t 51) (.c (.s (.int .i64 1))), none⟩,
    ⟨(some 51), .mov (.t 66), none⟩] [7, 8, 50, 51]))
def l18_1_1 : EC := (.seq (.cond (.t 52) .skip
  (.exit 2 [7]))
  l18_1_2)
def l18_1 : EC := (.seq (.ops [⟨(some 52), .bin .lss (.t 51) (.t 50), none⟩] [7, 8, 50, 51, 52])
  l18_1_1)
def s18_6 : EC := (.seq (.ops [⟨(some 67), .mov (.t 7), none⟩,
    ⟨(some 6), .mov (.t 67), none⟩] [6])
  (.ret [6]))
def s18_5 : EC := (.seq (.seq (.ops [⟨(some 50), .mov (.t 9), none⟩,
    ⟨(some 51), .mov (.c (.s (.int .i64 0))), none⟩] [7, 8, 50, 51])
  (.block 2 (.loop [7, 8, 50, 51] l18_1)))
  s18_6)
def s18_4 : EC := (.seq (.seq (.ops [⟨(some 20), .mov (.t 1), none⟩,
    ⟨(some 21), .len (.t 20), none⟩,
    ⟨(some 22), .mov (.c (.s (.int .i64 0))), none⟩] [0, 2, 7, 8, 9, 20, 21, 22])
  (.block 0 (.loop [0, 2, 7, 8, 9, 20, 21, 22] l18_0)))
  s18_5)
def s18_3 : EC := (.seq (.ops [⟨(some 19), .mov (.t 0), none⟩,
    ⟨(some 9), .mov (.t 19), none⟩] [0, 1, 2, 7, 8, 9])
  s18_4)
def s18_2 : EC := (.seq (.ops [⟨(some 16), .mov (.t 1), none⟩,
    ⟨(some 17), .len (.t 16), none⟩,
    ⟨(some 18), .mks 3 8 [(.int .i64 0)] (.t 17), none⟩,
    ⟨(some 8), .mov (.t 18), none⟩] [0, 1, 2, 7, 8])
  s18_3)
def s18_1 : EC := (.seq (.ops [⟨(some 13), .mov (.t 1), none⟩,
    ⟨(some 14), .len (.t 13), none⟩,
    ⟨(some 15), .mks 3 8 [(.int .i64 0)] (.t 14), none⟩,
    ⟨(some 7), .mov (.t 15), none⟩] [0, 1, 2, 7])
  s18_2)
def b18 : EC := (.seq (.ops [⟨(some 6), .mov (.c (.s .nils)), none⟩] [0, 1, 2])
  s18_1)
def e18 : EF := ⟨68, b18, [.tmp 6]⟩

/-- scutage/scutageref01.Money -/
def h19 : List (List Nat) := [[0], [2], [2]]
def s19_1 : EC := (.seq (.ops [⟨(some 3), .mov (.t 0), none⟩,
    ⟨(some 4), .bin .geq (.t 3) (.c (.s (.int .i64 (-100000000000)))), none⟩,
    ⟨(some 5), .mov (.t 4), none⟩,
    ⟨(some 6), .mov (.t 0), (some (5, true))⟩,
    ⟨(some 7), .bin .leq (.t 6) (.c (.s (.int .i64 100000000000))), (some (5, true))⟩,
    ⟨(some 8), .pick (.t 5) (.t 7) (.c (.s (.bool false))), none⟩,
    ⟨(some 2), .mov (.t 8), none⟩] [2])
  (.ret [2]))
def b19 : EC := (.seq (.ops [⟨(some 2), .mov (.c (.s (.bool false))), none⟩] [0])
  s19_1)
def e19 : EF := ⟨9, b19, [.tmp 2]⟩

/-- slices.Index[[]int,int] -/
def h20 : List (List Nat) := [[0, 1], [0, 1, 7, 8], [0, 1, 7, 8], [0, 1, 7, 8, 9], [], [0, 1, 5, 7, 8], [0, 1, 5, 7, 8, 16], [4], [4], [0, 1, 7, 8], [4], [4]]
def l20_0_2 : EC := (.seq (.block 1 (.seq (.ops [⟨(some 10), .mov (.t 8), none⟩,
    ⟨(some 5), .mov (.t 10), none⟩] [0, 1, 5, 7, 8])
  (.seq (.ops [⟨(some 11), .mov (.t 1), none⟩,
    ⟨(some 12), .mov (.t 0), none⟩,
    ⟨(some 13), .mov (.t 5), none⟩,
    ⟨(some 14), .iad 3 1 (.t 12) (.t 13), none⟩,
    ⟨(some 15), .load false 1 (.t 14), none⟩,
    ⟨(some 16), .bin .eql (.t 11) (.t 15), none⟩] [0, 1, 5, 7, 8, 16])
  (.cond (.t 16) (.seq (.ops [⟨(some 17), .mov (.t 5), none⟩,
    ⟨(some 4), .mov (.t 17), none⟩] [4])
  (.ret [4]))
  .skip))))
  (.ops [⟨(some 18), .bin .add (.t 8) (.c (.s (.int .i64 1))), none⟩,
    ⟨(some 8), .mov (.t 18), none⟩] [0, 1, 7, 8]))
def l20_0_1 : EC := (.seq (.cond (.t 9) .skip
  (.exit 0 []))
  l20_0_2)
def l20_0 : EC := (.seq (.ops [⟨(some 9), .bin .lss (.t 8) (.t 7), none⟩] [0, 1, 7, 8, 9])
  l20_0_1)
def s20_2 : EC := (.seq (.ops [⟨(some 4), .mov (.c (.s (.int .i64 (-1)))), none⟩] [4])
  (.ret [4]))
def s20_1 : EC := (.seq (.seq (.ops [⟨(some 6), .mov (.t 0), none⟩,
    ⟨(some 7), .len (.t 6), none⟩,
    ⟨(some 8), .mov (.c (.s (.int .i64 0))), none⟩] [0, 1, 7, 8])
  (.block 0 (.loop [0, 1, 7, 8] l20_0)))
  s20_2)
def b20 : EC := (.seq (.ops [⟨(some 4), .mov (.c (.s (.int .i64 0))), none⟩] [0, 1])
  s20_1)
def e20 : EF := ⟨19, b20, [.tmp 4]⟩

/-- slices.Max[[]int,int] -/
def h21 : List (List Nat) := [[0], [0, 7], [0], [0, 3], [0, 3, 4], [0, 3, 4], [0, 3, 4, 15], [3], [0, 3, 4], [0, 3, 4], [2], [2]]
def l21_0_1 : EC := (.seq (.block 1 (.ops [⟨(some 18), .mov (.t 3), none⟩,
    ⟨(some 19), .mov (.t 0), none⟩,
    ⟨(some 20), .mov (.t 4), none⟩,
    ⟨(some 21), .iad 3 1 (.t 19) (.t 20), none⟩,
    ⟨(some 22), .load false 1 (.t 21), none⟩,
    ⟨(some 23), .mx (.t 18) [(.t 22)], none⟩,
    ⟨(some 3), .mov (.t 23), none⟩] [0, 3, 4]))
  (.ops [⟨(some 16), .mov (.t 4), none⟩,
    ⟨(some 17), .bin .add (.t 16) (.c (.s (.int .i64 1))), none⟩,
    ⟨(some 4), .mov (.t 17), none⟩] [0, 3, 4]))
def l21_0 : EC := (.seq (.seq (.ops [⟨(some 12), .mov (.t 4), none⟩,
    ⟨(some 13), .mov (.t 0), none⟩,
    ⟨(some 14), .len (.t 13), none⟩,
    ⟨(some 15), .bin .lss (.t 12) (.t 14), none⟩] [0, 3, 4, 15])
  (.cond (.t 15) .skip
  (.exit 0 [3])))
  l21_0_1)
def s21_4 : EC := (.seq (.ops [⟨(some 24), .mov (.t 3), none⟩,
    ⟨(some 2), .mov (.t 24), none⟩] [2])
  (.ret [2]))
def s21_3 : EC := (.seq (.seq (.ops [⟨(some 4), .mov (.c (.s (.int .i64 1))), none⟩] [0, 3, 4])
  (.block 0 (.loop [0, 3, 4] l21_0)))
  s21_4)
def s21_2 : EC := (.seq (.ops [⟨(some 9), .mov (.t 0), none⟩,
    ⟨(some 10), .iad 3 1 (.t 9) (.c (.s (.int .i64 0))), none⟩,
    ⟨(some 11), .load false 1 (.t 10), none⟩,
    ⟨(some 3), .mov (.t 11), none⟩] [0, 3])
  s21_3)
def s21_1 : EC := (.seq (.seq (.ops [⟨(some 5), .mov (.t 0), none⟩,
    ⟨(some 6), .len (.t 5), none⟩,
    ⟨(some 7), .bin .lss (.t 6) (.c (.s (.int .i64 1))), none⟩] [0, 7])
  (.cond (.t 7) (.ops [⟨(some 8), .mki 9 (.c (.s (.str ⟨#[115, 108, 105, 99, 101, 115, 46, 77, 97, 120, 58, 32, 101, 109, 112, 116, 121, 32, 108, 105, 115, 116]⟩))), none⟩,
    ⟨none, .re (.c (.s .nilp)), none⟩] [0])
  .skip))
  s21_2)
def b21 : EC := (.seq (.ops [⟨(some 2), .mov (.c (.s (.int .i64 0))), none⟩] [0])
  s21_1)
def e21 : EF := ⟨25, b21, [.tmp 2]⟩

def C : Nat → Option EF
  | 3 => some e3
  | 4 => some e4
  | 5 => some e5
  | 6 => some e6
  | 7 => some e7
  | 8 => some e8
  | 9 => some e9
  | 10 => some e10
  | 11 => some e11
  | 12 => some e12
  | 13 => some e13
  | 14 => some e14
  | 15 => some e15
  | 16 => some e16
  | 17 => some e17
  | 18 => some e18
  | 19 => some e19
  | 20 => some e20
  | 21 => some e21
  | _ => none
end Go.Proofs.Ytejoijjmlglhfaa.Ev.CS
