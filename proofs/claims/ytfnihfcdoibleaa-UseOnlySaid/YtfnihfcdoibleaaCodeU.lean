/- The code of some functions for the small machine (printed by wip/tools/EvPrint.lean). -/
import Derived.Test.YtfnihfcdoibleaaEvKit
namespace Go.Proofs.Ytfnihfcdoibleaa.Ev.CU
open Go
/-- scutage/scutagelaw14.UseOnly -/
def h3 : List (List Nat) := [[0, 1, 2, 3], [1, 2, 3, 9], [1, 2, 3, 9], [1, 2, 3, 9, 10], [1, 2, 3, 9, 10, 31], [8], [8], [1, 2, 3, 9, 10, 11], [1, 2, 3, 9, 10, 11, 35, 36], [1, 2, 3, 9, 10, 11, 35, 36], [1, 2, 3, 9, 10, 11, 35, 36, 37], [1, 2, 9, 10, 11], [1, 2, 3, 9, 10, 11, 12, 35, 36], [1, 2, 3, 9, 10, 11, 12, 35, 36, 42], [1, 2, 3, 9, 10, 11, 35, 36], [1, 2, 3, 9, 10, 11, 35, 36], [8], [8]]
def l3_0_2 : EC := (.seq (.block 1 (.seq (.ops [⟨(some 38), .mov (.t 36), none⟩,
    ⟨(some 12), .mov (.t 38), none⟩] [1, 2, 3, 9, 10, 11, 12, 35, 36])
  (.seq (.ops [⟨(some 39), .mov (.t 12), none⟩,
    ⟨(some 40), .mov (.t 3), none⟩,
    ⟨(some 41), .len (.t 40), none⟩,
    ⟨(some 42), .bin .lss (.t 39) (.t 41), none⟩] [1, 2, 3, 9, 10, 11, 12, 35, 36, 42])
  (.cond (.t 42) (.draw [⟨(some 43), .mov (.t 11), none⟩,
    ⟨(some 44), .mov (.t 12), none⟩,
    ⟨(some 45), .iad 3 1 (.t 43) (.t 44), none⟩,
    ⟨(some 46), .load false 1 (.t 45), none⟩,
    ⟨(some 47), .mov (.t 3), none⟩,
    ⟨(some 48), .mov (.t 12), none⟩,
    ⟨(some 49), .iad 3 1 (.t 47) (.t 48), none⟩,
    ⟨(some 50), .load false 1 (.t 49), none⟩,
    ⟨(some 51), .call 16 [(.t 50), (.c (.s (.int .i64 5)))], none⟩,
    ⟨(some 52), .bin .sub (.t 51) (.c (.s (.int .i64 2))), none⟩,
    ⟨(some 53), .bin .add (.t 46) (.t 52), none⟩,
    ⟨(some 54), .iad 3 1 (.t 43) (.t 44), none⟩,
    ⟨none, .store 1 (.t 54) (.t 53), none⟩] [(2, 8), (3, 8)] [1, 2, 3, 9, 10, 11, 35, 36])
  .skip))))
  (.ops [⟨(some 55), .bin .add (.t 36) (.c (.s (.int .i64 1))), none⟩,
    ⟨(some 36), .mov (.t 55), none⟩] [1, 2, 3, 9, 10, 11, 35, 36]))
def l3_0_1 : EC := (.seq (.cond (.t 37) .skip
  (.exit 0 [1, 2, 9, 10, 11]))
  l3_0_2)
def l3_0 : EC := (.seq (.ops [⟨(some 37), .bin .lss (.t 36) (.t 35), none⟩] [1, 2, 3, 9, 10, 11, 35, 36, 37])
  l3_0_1)
def s3_7 : EC := (.seq (.ops [⟨(some 56), .mov (.t 9), none⟩,
    ⟨(some 57), .mov (.t 1), none⟩,
    ⟨(some 58), .mov (.t 2), none⟩,
    ⟨(some 59), .mov (.t 11), none⟩,
    ⟨(some 60), .call 18 [(.t 56), (.t 57), (.t 58), (.t 59)], none⟩,
    ⟨(some 61), .mov (.t 10), none⟩,
    ⟨(some 62), .mov (.t 11), none⟩,
    ⟨(some 63), .call 20 [(.t 61), (.t 62)], none⟩,
    ⟨(some 64), .eqb false (.t 60) (.t 63), none⟩,
    ⟨(some 65), .mov (.t 64), none⟩,
    ⟨(some 66), .call 21 [], (some (65, true))⟩,
    ⟨(some 67), .pick (.t 65) (.t 66) (.c (.s (.bool false))), none⟩,
    ⟨(some 8), .mov (.t 67), none⟩] [8])
  (.ret [8]))
def s3_6 : EC := (.seq (.seq (.ops [⟨(some 34), .mov (.t 11), none⟩,
    ⟨(some 35), .len (.t 34), none⟩,
    ⟨(some 36), .mov (.c (.s (.int .i64 0))), none⟩] [1, 2, 3, 9, 10, 11, 35, 36])
  (.block 0 (.loop [1, 2, 3, 9, 10, 11, 35, 36] l3_0)))
  s3_7)
def s3_5 : EC := (.seq (.ops [⟨(some 32), .mov (.t 10), none⟩,
    ⟨(some 33), .call 19 [(.t 32)], none⟩,
    ⟨(some 11), .mov (.t 33), none⟩] [1, 2, 3, 9, 10, 11])
  s3_6)
def s3_4 : EC := (.seq (.seq (.ops [⟨(some 26), .mov (.t 9), none⟩,
    ⟨(some 27), .mov (.t 1), none⟩,
    ⟨(some 28), .mov (.t 2), none⟩,
    ⟨(some 29), .mov (.t 10), none⟩,
    ⟨(some 30), .call 18 [(.t 26), (.t 27), (.t 28), (.t 29)], none⟩,
    ⟨(some 31), .un .not (.t 30), none⟩] [1, 2, 3, 9, 10, 31])
  (.cond (.t 31) (.seq (.ops [⟨(some 8), .mov (.c (.s (.bool false))), none⟩] [8])
  (.ret [8]))
  .skip))
  s3_5)
def s3_3 : EC := (.seq (.ops [⟨(some 22), .mov (.t 9), none⟩,
    ⟨(some 23), .mov (.t 1), none⟩,
    ⟨(some 24), .mov (.t 2), none⟩,
    ⟨(some 25), .call 17 [(.t 22), (.t 23), (.t 24)], none⟩,
    ⟨(some 10), .mov (.t 25), none⟩] [1, 2, 3, 9, 10])
  s3_4)
def s3_2 : EC := (.seq (.ops [⟨(some 18), .mov (.t 1), none⟩,
    ⟨(some 19), .call 16 [(.t 18), (.c (.s (.int .i64 9)))], none⟩,
    ⟨(some 20), .mov (.t 2), none⟩,
    ⟨(some 21), .call 16 [(.t 20), (.c (.s (.int .i64 5000)))], none⟩,
    ⟨(some 1), .mov (.t 19), none⟩,
    ⟨(some 2), .mov (.t 21), none⟩] [1, 2, 3, 9])
  s3_3)
def s3_1 : EC := (.seq (.ops [⟨(some 13), .mov (.t 0), none⟩,
    ⟨(some 14), .call 15 [(.t 13)], none⟩,
    ⟨(some 15), .nilc (.t 14), none⟩,
    ⟨(some 16), .fad 0 (.t 15), none⟩,
    ⟨(some 17), .load false 1 (.t 16), none⟩,
    ⟨(some 9), .mov (.t 17), none⟩] [1, 2, 3, 9])
  s3_2)
def b3 : EC := (.seq (.ops [⟨(some 8), .mov (.c (.s (.bool false))), none⟩] [0, 1, 2, 3])
  s3_1)
def e3 : EF := ⟨68, b3, [.tmp 8]⟩

/-- scutage/scutagelaw14.UseMore -/
def h5 : List (List Nat) := [[0, 1, 2, 3], [1, 2, 3, 9], [1, 2, 3, 9], [1, 2, 3, 9, 10, 11, 12, 13], [1, 2, 3, 9, 10, 11, 12, 13, 71], [8], [8], [1, 2, 3, 10, 11, 12, 13, 72, 73, 74], [1, 2, 3, 10, 11, 12, 13, 72, 73, 74], [1, 2, 3, 10, 11, 12, 13, 72, 73, 74, 75], [2, 3, 10, 11], [1, 2, 3, 10, 11, 12, 13, 14, 15, 72, 73, 74], [1, 2, 3, 10, 11, 12, 13, 14, 15, 16, 72, 73, 74], [1, 2, 3, 10, 11, 12, 13, 14, 16, 72, 73, 74, 84], [1, 2, 3, 10, 11, 12, 13, 14, 16, 72, 73, 74], [1, 2, 3, 10, 11, 12, 13, 72, 73, 74, 108], [8], [8], [1, 2, 3, 10, 11, 12, 13, 72, 73, 74], [8], [8]]
def l5_0_2 : EC := (.seq (.block 1 (.seq (.ops [⟨(some 76), .mov (.t 74), none⟩,
    ⟨(some 77), .iad 37 3 (.t 72) (.t 74), none⟩,
    ⟨(some 78), .load true 3 (.t 77), none⟩,
    ⟨(some 15), .new 37 3 (.c (.agg [(.int .i64 0), (.int .i64 0), (.int .i64 0)])), none⟩,
    ⟨(some 14), .mov (.t 76), none⟩,
    ⟨none, .store 3 (.t 15) (.t 78), none⟩] [1, 2, 3, 10, 11, 12, 13, 14, 15, 72, 73, 74])
  (.seq (.ops [⟨(some 79), .fad 2 (.t 15), none⟩,
    ⟨(some 80), .load false 1 (.t 79), none⟩,
    ⟨(some 16), .mov (.t 80), none⟩] [1, 2, 3, 10, 11, 12, 13, 14, 15, 16, 72, 73, 74])
  (.seq (.seq (.ops [⟨(some 81), .fad 1 (.t 15), none⟩,
    ⟨(some 82), .load false 1 (.t 81), none⟩,
    ⟨(some 83), .mov (.t 1), none⟩,
    ⟨(some 84), .bin .lss (.t 82) (.t 83), none⟩] [1, 2, 3, 10, 11, 12, 13, 14, 16, 72, 73, 74, 84])
  (.cond (.t 84) (.ops [⟨(some 16), .mov (.c (.s (.int .i64 0))), none⟩] [1, 2, 3, 10, 11, 12, 13, 14, 16, 72, 73, 74])
  .skip))
  (.seq (.draw [⟨(some 85), .mov (.t 11), none⟩,
    ⟨(some 86), .mov (.t 14), none⟩,
    ⟨(some 87), .iad 3 1 (.t 85) (.t 86), none⟩,
    ⟨(some 88), .load false 1 (.t 87), none⟩,
    ⟨(some 89), .mov (.t 10), none⟩,
    ⟨(some 90), .mov (.t 14), none⟩,
    ⟨(some 91), .iad 3 1 (.t 89) (.t 90), none⟩,
    ⟨(some 92), .load false 1 (.t 91), none⟩,
    ⟨(some 93), .bin .lss (.t 88) (.t 92), none⟩,
    ⟨(some 94), .mov (.t 93), none⟩,
    ⟨(some 95), .mov (.t 12), (some (94, false))⟩,
    ⟨(some 96), .mov (.t 14), (some (94, false))⟩,
    ⟨(some 97), .iad 3 1 (.t 95) (.t 96), (some (94, false))⟩,
    ⟨(some 98), .load false 1 (.t 97), (some (94, false))⟩,
    ⟨(some 99), .bin .neq (.t 98) (.c (.s (.int .i64 0))), (some (94, false))⟩,
    ⟨(some 100), .pick (.t 94) (.c (.s (.bool true))) (.t 99), none⟩,
    ⟨(some 101), .mov (.t 100), none⟩,
    ⟨(some 102), .mov (.t 13), (some (101, false))⟩,
    ⟨(some 103), .mov (.t 14), (some (101, false))⟩,
    ⟨(some 104), .iad 3 1 (.t 102) (.t 103), (some (101, false))⟩,
    ⟨(some 105), .load false 1 (.t 104), (some (101, false))⟩,
    ⟨(some 106), .mov (.t 16), (some (101, false))⟩,
    ⟨(some 107), .bin .neq (.t 105) (.t 106), (some (101, false))⟩,
    ⟨(some 108), .pick (.t 101) (.c (.s (.bool true))) (.t 107), none⟩] [] [1, 2, 3, 10, 11, 12, 13, 72, 73, 74, 108])
  (.cond (.t 108) (.seq (.ops [⟨(some 8), .mov (.c (.s (.bool false))), none⟩] [8])
  (.ret [8]))
  .skip))))))
  (.ops [⟨(some 109), .bin .add (.t 74) (.c (.s (.int .i64 1))), none⟩,
    ⟨(some 74), .mov (.t 109), none⟩] [1, 2, 3, 10, 11, 12, 13, 72, 73, 74]))
def l5_0_1 : EC := (.seq (.cond (.t 75) .skip
  (.exit 0 [2, 3, 10, 11]))
  l5_0_2)
def l5_0 : EC := (.seq (.ops [⟨(some 75), .bin .lss (.t 74) (.t 73), none⟩] [1, 2, 3, 10, 11, 12, 13, 72, 73, 74, 75])
  l5_0_1)
def s5_6 : EC := (.seq (.ops [⟨(some 110), .mov (.t 11), none⟩,
    ⟨(some 111), .call 23 [(.t 110)], none⟩,
    ⟨(some 112), .mov (.t 10), none⟩,
    ⟨(some 113), .call 23 [(.t 112)], none⟩,
    ⟨(some 114), .bin .sub (.t 111) (.t 113), none⟩,
    ⟨(some 115), .mov (.t 3), none⟩,
    ⟨(some 116), .bin .leq (.t 114) (.t 115), none⟩,
    ⟨(some 117), .mov (.t 116), none⟩,
    ⟨(some 118), .mov (.t 10), (some (117, true))⟩,
    ⟨(some 119), .call 23 [(.t 118)], (some (117, true))⟩,
    ⟨(some 120), .mov (.t 2), (some (117, true))⟩,
    ⟨(some 121), .bin .leq (.t 119) (.t 120), (some (117, true))⟩,
    ⟨(some 122), .pick (.t 117) (.t 121) (.c (.s (.bool false))), none⟩,
    ⟨(some 123), .mov (.t 122), none⟩,
    ⟨(some 124), .call 21 [], (some (123, true))⟩,
    ⟨(some 125), .pick (.t 123) (.t 124) (.c (.s (.bool false))), none⟩,
    ⟨(some 8), .mov (.t 125), none⟩] [8])
  (.ret [8]))
def s5_5 : EC := (.seq (.seq (.ops [⟨(some 72), .mov (.t 9), none⟩,
    ⟨(some 73), .len (.t 72), none⟩,
    ⟨(some 74), .mov (.c (.s (.int .i64 0))), none⟩] [1, 2, 3, 10, 11, 12, 13, 72, 73, 74])
  (.block 0 (.loop [1, 2, 3, 10, 11, 12, 13, 72, 73, 74] l5_0)))
  s5_6)
def s5_4 : EC := (.seq (.seq (.ops [⟨(some 46), .mov (.t 10), none⟩,
    ⟨(some 47), .len (.t 46), none⟩,
    ⟨(some 48), .mov (.t 9), none⟩,
    ⟨(some 49), .len (.t 48), none⟩,
    ⟨(some 50), .bin .neq (.t 47) (.t 49), none⟩,
    ⟨(some 51), .mov (.t 50), none⟩,
    ⟨(some 52), .mov (.t 11), (some (51, false))⟩,
    ⟨(some 53), .len (.t 52), (some (51, false))⟩,
    ⟨(some 54), .mov (.t 9), (some (51, false))⟩,
    ⟨(some 55), .len (.t 54), (some (51, false))⟩,
    ⟨(some 56), .bin .neq (.t 53) (.t 55), (some (51, false))⟩,
    ⟨(some 57), .pick (.t 51) (.c (.s (.bool true))) (.t 56), none⟩,
    ⟨(some 58), .mov (.t 57), none⟩,
    ⟨(some 59), .mov (.t 12), (some (58, false))⟩,
    ⟨(some 60), .len (.t 59), (some (58, false))⟩,
    ⟨(some 61), .mov (.t 9), (some (58, false))⟩,
    ⟨(some 62), .len (.t 61), (some (58, false))⟩,
    ⟨(some 63), .bin .neq (.t 60) (.t 62), (some (58, false))⟩,
    ⟨(some 64), .pick (.t 58) (.c (.s (.bool true))) (.t 63), none⟩,
    ⟨(some 65), .mov (.t 64), none⟩,
    ⟨(some 66), .mov (.t 13), (some (65, false))⟩,
    ⟨(some 67), .len (.t 66), (some (65, false))⟩,
    ⟨(some 68), .mov (.t 9), (some (65, false))⟩,
    ⟨(some 69), .len (.t 68), (some (65, false))⟩,
    ⟨(some 70), .bin .neq (.t 67) (.t 69), (some (65, false))⟩,
    ⟨(some 71), .pick (.t 65) (.c (.s (.bool true))) (.t 70), none⟩] [1, 2, 3, 9, 10, 11, 12, 13, 71])
  (.cond (.t 71) (.seq (.ops [⟨(some 8), .mov (.c (.s (.bool false))), none⟩] [8])
  (.ret [8]))
  .skip))
  s5_5)
def s5_3 : EC := (.seq (.ops [⟨(some 28), .mov (.t 9), none⟩,
    ⟨(some 29), .mov (.t 1), none⟩,
    ⟨(some 30), .mov (.t 2), none⟩,
    ⟨(some 31), .call 17 [(.t 28), (.t 29), (.t 30)], none⟩,
    ⟨(some 32), .mov (.t 9), none⟩,
    ⟨(some 33), .mov (.t 1), none⟩,
    ⟨(some 34), .mov (.t 2), none⟩,
    ⟨(some 35), .mov (.t 3), none⟩,
    ⟨(some 36), .bin .add (.t 34) (.t 35), none⟩,
    ⟨(some 37), .call 17 [(.t 32), (.t 33), (.t 36)], none⟩,
    ⟨(some 38), .mov (.t 9), none⟩,
    ⟨(some 39), .mov (.t 1), none⟩,
    ⟨(some 40), .mov (.t 2), none⟩,
    ⟨(some 41), .un .neg (.t 40), none⟩,
    ⟨(some 42), .call 17 [(.t 38), (.t 39), (.t 41)], none⟩,
    ⟨(some 43), .mov (.t 9), none⟩,
    ⟨(some 44), .mov (.t 1), none⟩,
    ⟨(some 45), .call 17 [(.t 43), (.t 44), (.c (.s (.int .i64 1200000000000)))], none⟩,
    ⟨(some 10), .mov (.t 31), none⟩,
    ⟨(some 11), .mov (.t 37), none⟩,
    ⟨(some 12), .mov (.t 42), none⟩,
    ⟨(some 13), .mov (.t 45), none⟩] [1, 2, 3, 9, 10, 11, 12, 13])
  s5_4)
def s5_2 : EC := (.seq (.ops [⟨(some 22), .mov (.t 1), none⟩,
    ⟨(some 23), .call 16 [(.t 22), (.c (.s (.int .i64 9)))], none⟩,
    ⟨(some 24), .mov (.t 2), none⟩,
    ⟨(some 25), .call 16 [(.t 24), (.c (.s (.int .i64 5000)))], none⟩,
    ⟨(some 26), .mov (.t 3), none⟩,
    ⟨(some 27), .call 16 [(.t 26), (.c (.s (.int .i64 5000)))], none⟩,
    ⟨(some 1), .mov (.t 23), none⟩,
    ⟨(some 2), .mov (.t 25), none⟩,
    ⟨(some 3), .mov (.t 27), none⟩] [1, 2, 3, 9])
  s5_3)
def s5_1 : EC := (.seq (.ops [⟨(some 17), .mov (.t 0), none⟩,
    ⟨(some 18), .call 15 [(.t 17)], none⟩,
    ⟨(some 19), .nilc (.t 18), none⟩,
    ⟨(some 20), .fad 0 (.t 19), none⟩,
    ⟨(some 21), .load false 1 (.t 20), none⟩,
    ⟨(some 9), .mov (.t 21), none⟩] [1, 2, 3, 9])
  s5_2)
def b5 : EC := (.seq (.ops [⟨(some 8), .mov (.c (.s (.bool false))), none⟩] [0, 1, 2, 3])
  s5_1)
def e5 : EF := ⟨126, b5, [.tmp 8]⟩

/-- scutage/scutagelaw14.UseTwice -/
def h6 : List (List Nat) := [[0, 1, 2, 3], [1, 2, 3, 9], [1, 2, 3, 9], [1, 2, 3, 9, 10, 11], [1, 2, 3, 9, 10, 11, 52], [8], [8], [1, 2, 3, 9, 10, 11, 12], [1, 2, 3, 9, 10, 11, 12, 13], [1, 2, 3, 10, 11, 12, 13, 53, 54, 55], [1, 2, 3, 10, 11, 12, 13, 53, 54, 55], [1, 2, 3, 10, 11, 12, 13, 53, 54, 55, 56], [1, 2, 3, 10, 11, 12, 13], [1, 2, 3, 10, 11, 12, 13, 14, 15, 53, 54, 55], [1, 2, 3, 10, 11, 12, 13, 14, 15, 53, 54, 55, 66], [1, 2, 3, 10, 11, 12, 13, 14, 15, 53, 54, 55], [1, 2, 3, 10, 11, 12, 13, 53, 54, 55], [1, 2, 3, 10, 11, 12, 13, 53, 54, 55], [2, 10, 11, 12, 13, 16], [2, 10, 11, 13, 16, 92], [8], [8], [10, 11, 13, 16, 96], [8], [8], [11, 13, 16, 17], [11, 16, 17, 110, 111, 112], [11, 16, 17, 110, 111, 112], [11, 16, 17, 110, 111, 112, 113], [11, 17], [11, 16, 17, 18, 19, 110, 111, 112], [11, 16, 17, 110, 111, 112], [11, 16, 17, 110, 111, 112], [8], [8]]
def l6_0_2 : EC := (.seq (.block 1 (.seq (.ops [⟨(some 57), .mov (.t 55), none⟩,
    ⟨(some 58), .iad 37 3 (.t 53) (.t 55), none⟩,
    ⟨(some 59), .load true 3 (.t 58), none⟩,
    ⟨(some 15), .new 37 3 (.c (.agg [(.int .i64 0), (.int .i64 0), (.int .i64 0)])), none⟩,
    ⟨(some 14), .mov (.t 57), none⟩,
    ⟨none, .store 3 (.t 15) (.t 59), none⟩] [1, 2, 3, 10, 11, 12, 13, 14, 15, 53, 54, 55])
  (.seq (.draw [⟨(some 60), .fad 2 (.t 15), none⟩,
    ⟨(some 61), .load false 1 (.t 60), none⟩,
    ⟨(some 62), .mov (.t 10), none⟩,
    ⟨(some 63), .mov (.t 14), none⟩,
    ⟨(some 64), .iad 3 1 (.t 62) (.t 63), none⟩,
    ⟨(some 65), .load false 1 (.t 64), none⟩,
    ⟨(some 66), .bin .gtr (.t 61) (.t 65), none⟩] [] [1, 2, 3, 10, 11, 12, 13, 14, 15, 53, 54, 55, 66])
  (.cond (.t 66) (.seq (.draw [⟨(some 67), .fad 2 (.t 15), none⟩,
    ⟨(some 68), .load false 1 (.t 67), none⟩,
    ⟨(some 69), .mov (.t 10), none⟩,
    ⟨(some 70), .mov (.t 14), none⟩,
    ⟨(some 71), .iad 3 1 (.t 69) (.t 70), none⟩,
    ⟨(some 72), .load false 1 (.t 71), none⟩,
    ⟨(some 73), .bin .sub (.t 68) (.t 72), none⟩,
    ⟨(some 74), .fad 2 (.t 15), none⟩,
    ⟨none, .store 1 (.t 74) (.t 73), none⟩] [] [1, 2, 3, 10, 11, 12, 13, 14, 15, 53, 54, 55])
  (.ops [⟨(some 75), .mov (.t 12), none⟩,
    ⟨(some 76), .load true 3 (.t 15), none⟩,
    ⟨(some 77), .bsl 37 1 [(.int .i64 0), (.int .i64 0), (.int .i64 0)] [(0, 3, (.t 76))], none⟩,
    ⟨(some 78), .app 37 3 24 (.t 75) (.t 77), none⟩,
    ⟨(some 79), .mov (.t 13), none⟩,
    ⟨(some 80), .mov (.t 14), none⟩,
    ⟨(some 81), .bsl 3 1 [(.int .i64 0)] [(0, 1, (.t 80))], none⟩,
    ⟨(some 82), .app 3 1 8 (.t 79) (.t 81), none⟩,
    ⟨(some 12), .mov (.t 78), none⟩,
    ⟨(some 13), .mov (.t 82), none⟩] [1, 2, 3, 10, 11, 12, 13, 53, 54, 55]))
  .skip))))
  (.ops [⟨(some 83), .bin .add (.t 55) (.c (.s (.int .i64 1))), none⟩,
    ⟨(some 55), .mov (.t 83), none⟩] [1, 2, 3, 10, 11, 12, 13, 53, 54, 55]))
def l6_0_1 : EC := (.seq (.cond (.t 56) .skip
  (.exit 0 [1, 2, 3, 10, 11, 12, 13]))
  l6_0_2)
def l6_0 : EC := (.seq (.ops [⟨(some 56), .bin .lss (.t 55) (.t 54), none⟩] [1, 2, 3, 10, 11, 12, 13, 53, 54, 55, 56])
  l6_0_1)
def l6_1_2 : EC := (.seq (.block 3 (.seq (.ops [⟨(some 114), .mov (.t 112), none⟩,
    ⟨(some 115), .iad 3 1 (.t 110) (.t 112), none⟩,
    ⟨(some 116), .load false 1 (.t 115), none⟩,
    ⟨(some 18), .mov (.t 114), none⟩,
    ⟨(some 19), .mov (.t 116), none⟩] [11, 16, 17, 18, 19, 110, 111, 112])
  (.draw [⟨(some 117), .mov (.t 17), none⟩,
    ⟨(some 118), .mov (.t 19), none⟩,
    ⟨(some 119), .iad 3 1 (.t 117) (.t 118), none⟩,
    ⟨(some 120), .load false 1 (.t 119), none⟩,
    ⟨(some 121), .mov (.t 16), none⟩,
    ⟨(some 122), .mov (.t 18), none⟩,
    ⟨(some 123), .iad 3 1 (.t 121) (.t 122), none⟩,
    ⟨(some 124), .load false 1 (.t 123), none⟩,
    ⟨(some 125), .bin .add (.t 120) (.t 124), none⟩,
    ⟨(some 126), .iad 3 1 (.t 117) (.t 118), none⟩,
    ⟨none, .store 1 (.t 126) (.t 125), none⟩] [] [11, 16, 17, 110, 111, 112])))
  (.ops [⟨(some 127), .bin .add (.t 112) (.c (.s (.int .i64 1))), none⟩,
    ⟨(some 112), .mov (.t 127), none⟩] [11, 16, 17, 110, 111, 112]))
def l6_1_1 : EC := (.seq (.cond (.t 113) .skip
  (.exit 2 [11, 17]))
  l6_1_2)
def l6_1 : EC := (.seq (.ops [⟨(some 113), .bin .lss (.t 112) (.t 111), none⟩] [11, 16, 17, 110, 111, 112, 113])
  l6_1_1)
def s6_13 : EC := (.seq (.ops [⟨(some 128), .mov (.t 17), none⟩,
    ⟨(some 129), .mov (.t 11), none⟩,
    ⟨(some 130), .call 20 [(.t 128), (.t 129)], none⟩,
    ⟨(some 131), .mov (.t 130), none⟩,
    ⟨(some 132), .call 21 [], (some (131, true))⟩,
    ⟨(some 133), .pick (.t 131) (.t 132) (.c (.s (.bool false))), none⟩,
    ⟨(some 8), .mov (.t 133), none⟩] [8])
  (.ret [8]))
def s6_12 : EC := (.seq (.seq (.ops [⟨(some 110), .mov (.t 13), none⟩,
    ⟨(some 111), .len (.t 110), none⟩,
    ⟨(some 112), .mov (.c (.s (.int .i64 0))), none⟩] [11, 16, 17, 110, 111, 112])
  (.block 2 (.loop [11, 16, 17, 110, 111, 112] l6_1)))
  s6_13)
def s6_11 : EC := (.seq (.ops [⟨(some 108), .mov (.t 10), none⟩,
    ⟨(some 109), .call 19 [(.t 108)], none⟩,
    ⟨(some 17), .mov (.t 109), none⟩] [11, 13, 16, 17])
  s6_12)
def s6_10 : EC := (.seq (.seq (.ops [⟨(some 93), .mov (.t 10), none⟩,
    ⟨(some 94), .call 23 [(.t 93)], none⟩,
    ⟨(some 95), .mov (.t 2), none⟩,
    ⟨(some 96), .bin .lss (.t 94) (.t 95), none⟩] [10, 11, 13, 16, 96])
  (.cond (.t 96) (.seq (.ops [⟨(some 97), .mov (.t 16), none⟩,
    ⟨(some 98), .call 23 [(.t 97)], none⟩,
    ⟨(some 99), .bin .eql (.t 98) (.c (.s (.int .i64 0))), none⟩,
    ⟨(some 100), .mov (.t 99), none⟩,
    ⟨(some 101), .mov (.t 10), (some (100, true))⟩,
    ⟨(some 102), .mov (.t 11), (some (100, true))⟩,
    ⟨(some 103), .call 20 [(.t 101), (.t 102)], (some (100, true))⟩,
    ⟨(some 104), .pick (.t 100) (.t 103) (.c (.s (.bool false))), none⟩,
    ⟨(some 105), .mov (.t 104), none⟩,
    ⟨(some 106), .call 21 [], (some (105, true))⟩,
    ⟨(some 107), .pick (.t 105) (.t 106) (.c (.s (.bool false))), none⟩,
    ⟨(some 8), .mov (.t 107), none⟩] [8])
  (.ret [8]))
  .skip))
  s6_11)
def s6_9 : EC := (.seq (.seq (.ops [⟨(some 88), .mov (.t 16), none⟩,
    ⟨(some 89), .len (.t 88), none⟩,
    ⟨(some 90), .mov (.t 12), none⟩,
    ⟨(some 91), .len (.t 90), none⟩,
    ⟨(some 92), .bin .neq (.t 89) (.t 91), none⟩] [2, 10, 11, 13, 16, 92])
  (.cond (.t 92) (.seq (.ops [⟨(some 8), .mov (.c (.s (.bool false))), none⟩] [8])
  (.ret [8]))
  .skip))
  s6_10)
def s6_8 : EC := (.seq (.ops [⟨(some 84), .mov (.t 12), none⟩,
    ⟨(some 85), .mov (.t 1), none⟩,
    ⟨(some 86), .mov (.t 3), none⟩,
    ⟨(some 87), .call 17 [(.t 84), (.t 85), (.t 86)], none⟩,
    ⟨(some 16), .mov (.t 87), none⟩] [2, 10, 11, 12, 13, 16])
  s6_9)
def s6_7 : EC := (.seq (.seq (.ops [⟨(some 53), .mov (.t 9), none⟩,
    ⟨(some 54), .len (.t 53), none⟩,
    ⟨(some 55), .mov (.c (.s (.int .i64 0))), none⟩] [1, 2, 3, 10, 11, 12, 13, 53, 54, 55])
  (.block 0 (.loop [1, 2, 3, 10, 11, 12, 13, 53, 54, 55] l6_0)))
  s6_8)
def s6_6 : EC := (.seq (.ops [⟨(some 13), .mov (.c (.s .nils)), none⟩] [1, 2, 3, 9, 10, 11, 12, 13])
  s6_7)
def s6_5 : EC := (.seq (.ops [⟨(some 12), .mov (.c (.s .nils)), none⟩] [1, 2, 3, 9, 10, 11, 12])
  s6_6)
def s6_4 : EC := (.seq (.seq (.ops [⟨(some 41), .mov (.t 10), none⟩,
    ⟨(some 42), .len (.t 41), none⟩,
    ⟨(some 43), .mov (.t 9), none⟩,
    ⟨(some 44), .len (.t 43), none⟩,
    ⟨(some 45), .bin .neq (.t 42) (.t 44), none⟩,
    ⟨(some 46), .mov (.t 45), none⟩,
    ⟨(some 47), .mov (.t 11), (some (46, false))⟩,
    ⟨(some 48), .len (.t 47), (some (46, false))⟩,
    ⟨(some 49), .mov (.t 9), (some (46, false))⟩,
    ⟨(some 50), .len (.t 49), (some (46, false))⟩,
    ⟨(some 51), .bin .neq (.t 48) (.t 50), (some (46, false))⟩,
    ⟨(some 52), .pick (.t 46) (.c (.s (.bool true))) (.t 51), none⟩] [1, 2, 3, 9, 10, 11, 52])
  (.cond (.t 52) (.seq (.ops [⟨(some 8), .mov (.c (.s (.bool false))), none⟩] [8])
  (.ret [8]))
  .skip))
  s6_5)
def s6_3 : EC := (.seq (.ops [⟨(some 31), .mov (.t 9), none⟩,
    ⟨(some 32), .mov (.t 1), none⟩,
    ⟨(some 33), .mov (.t 2), none⟩,
    ⟨(some 34), .call 17 [(.t 31), (.t 32), (.t 33)], none⟩,
    ⟨(some 35), .mov (.t 9), none⟩,
    ⟨(some 36), .mov (.t 1), none⟩,
    ⟨(some 37), .mov (.t 2), none⟩,
    ⟨(some 38), .mov (.t 3), none⟩,
    ⟨(some 39), .bin .add (.t 37) (.t 38), none⟩,
    ⟨(some 40), .call 17 [(.t 35), (.t 36), (.t 39)], none⟩,
    ⟨(some 10), .mov (.t 34), none⟩,
    ⟨(some 11), .mov (.t 40), none⟩] [1, 2, 3, 9, 10, 11])
  s6_4)
def s6_2 : EC := (.seq (.ops [⟨(some 25), .mov (.t 1), none⟩,
    ⟨(some 26), .call 16 [(.t 25), (.c (.s (.int .i64 9)))], none⟩,
    ⟨(some 27), .mov (.t 2), none⟩,
    ⟨(some 28), .call 16 [(.t 27), (.c (.s (.int .i64 3000)))], none⟩,
    ⟨(some 29), .mov (.t 3), none⟩,
    ⟨(some 30), .call 16 [(.t 29), (.c (.s (.int .i64 3000)))], none⟩,
    ⟨(some 1), .mov (.t 26), none⟩,
    ⟨(some 2), .mov (.t 28), none⟩,
    ⟨(some 3), .mov (.t 30), none⟩] [1, 2, 3, 9])
  s6_3)
def s6_1 : EC := (.seq (.ops [⟨(some 20), .mov (.t 0), none⟩,
    ⟨(some 21), .call 15 [(.t 20)], none⟩,
    ⟨(some 22), .nilc (.t 21), none⟩,
    ⟨(some 23), .fad 0 (.t 22), none⟩,
    ⟨(some 24), .load false 1 (.t 23), none⟩,
    ⟨(some 9), .mov (.t 24), none⟩] [1, 2, 3, 9])
  s6_2)
def b6 : EC := (.seq (.ops [⟨(some 8), .mov (.c (.s (.bool false))), none⟩] [0, 1, 2, 3])
  s6_1)
def e6 : EF := ⟨134, b6, [.tmp 8]⟩

/-- scutage/scutagelaw14.UseTells -/
def h7 : List (List Nat) := [[0, 1, 2, 3, 4, 5], [1, 2, 3, 4, 5, 13], [1, 2, 3, 4, 5, 13], [1, 2, 3, 4, 5, 13, 25], [1, 2, 3, 4, 5, 13], [1, 2, 3, 4, 13, 30], [1, 2, 3, 4, 13], [3, 4, 14, 15], [3, 4, 14, 15, 16], [3, 4, 14, 15, 16, 49, 50, 51], [3, 4, 14, 15, 16, 49, 50, 51], [3, 4, 14, 15, 16, 49, 50, 51, 52], [3, 4, 14, 15, 16], [3, 4, 14, 15, 16, 18, 49, 50, 51], [3, 4, 14, 15, 16, 49, 50, 51], [3, 4, 14, 15, 16, 49, 50, 51], [12], [12]]
def l7_0_2 : EC := (.seq (.block 1 (.seq (.ops [⟨(some 53), .iad 3 1 (.t 49) (.t 51), none⟩,
    ⟨(some 54), .load false 1 (.t 53), none⟩,
    ⟨(some 18), .mov (.t 54), none⟩] [3, 4, 14, 15, 16, 18, 49, 50, 51])
  (.ops [⟨(some 55), .mov (.t 16), none⟩,
    ⟨(some 56), .mov (.t 18), none⟩,
    ⟨(some 57), .bin .add (.t 55) (.t 56), none⟩,
    ⟨(some 16), .mov (.t 57), none⟩] [3, 4, 14, 15, 16, 49, 50, 51])))
  (.ops [⟨(some 58), .bin .add (.t 51) (.c (.s (.int .i64 1))), none⟩,
    ⟨(some 51), .mov (.t 58), none⟩] [3, 4, 14, 15, 16, 49, 50, 51]))
def l7_0_1 : EC := (.seq (.cond (.t 52) .skip
  (.exit 0 [3, 4, 14, 15, 16]))
  l7_0_2)
def l7_0 : EC := (.seq (.ops [⟨(some 52), .bin .lss (.t 51) (.t 50), none⟩] [3, 4, 14, 15, 16, 49, 50, 51, 52])
  l7_0_1)
def s7_8 : EC := (.seq (.ops [⟨(some 59), .mov (.t 14), none⟩,
    ⟨(some 60), .mov (.t 15), none⟩,
    ⟨(some 61), .call 20 [(.t 59), (.t 60)], none⟩,
    ⟨(some 62), .mov (.t 61), none⟩,
    ⟨(some 63), .mov (.t 14), (some (62, true))⟩,
    ⟨(some 64), .call 23 [(.t 63)], (some (62, true))⟩,
    ⟨(some 65), .mov (.t 16), (some (62, true))⟩,
    ⟨(some 66), .bin .eql (.t 64) (.t 65), (some (62, true))⟩,
    ⟨(some 67), .pick (.t 62) (.t 66) (.c (.s (.bool false))), none⟩,
    ⟨(some 68), .mov (.t 67), none⟩,
    ⟨(some 69), .mov (.t 3), (some (68, true))⟩,
    ⟨(some 70), .mov (.t 4), (some (68, true))⟩,
    ⟨(some 71), .call 22 [(.t 69), (.t 70)], (some (68, true))⟩,
    ⟨(some 72), .mov (.t 3), (some (68, true))⟩,
    ⟨(some 73), .mov (.t 4), (some (68, true))⟩,
    ⟨(some 74), .call 27 [(.t 72), (.t 73)], (some (68, true))⟩,
    ⟨(some 75), .bin .eql (.t 71) (.t 74), (some (68, true))⟩,
    ⟨(some 76), .pick (.t 68) (.t 75) (.c (.s (.bool false))), none⟩,
    ⟨(some 77), .mov (.t 76), none⟩,
    ⟨(some 78), .call 21 [], (some (77, true))⟩,
    ⟨(some 79), .pick (.t 77) (.t 78) (.c (.s (.bool false))), none⟩,
    ⟨(some 12), .mov (.t 79), none⟩] [12])
  (.ret [12]))
def s7_7 : EC := (.seq (.seq (.ops [⟨(some 49), .mov (.t 15), none⟩,
    ⟨(some 50), .len (.t 49), none⟩,
    ⟨(some 51), .mov (.c (.s (.int .i64 0))), none⟩] [3, 4, 14, 15, 16, 49, 50, 51])
  (.block 0 (.loop [3, 4, 14, 15, 16, 49, 50, 51] l7_0)))
  s7_8)
def s7_6 : EC := (.seq (.ops [⟨(some 16), .mov (.c (.s (.int .i64 0))), none⟩] [3, 4, 14, 15, 16])
  s7_7)
def s7_5 : EC := (.seq (.draw [⟨(some 35), .mov (.t 13), none⟩,
    ⟨(some 36), .nilc (.t 35), none⟩,
    ⟨(some 37), .fad 0 (.t 36), none⟩,
    ⟨(some 38), .load false 1 (.t 37), none⟩,
    ⟨(some 39), .mov (.t 1), none⟩,
    ⟨(some 40), .mov (.t 2), none⟩,
    ⟨(some 41), .call 17 [(.t 38), (.t 39), (.t 40)], none⟩,
    ⟨(some 42), .mov (.t 13), none⟩,
    ⟨(some 43), .nilc (.t 42), none⟩,
    ⟨(some 44), .fad 0 (.t 43), none⟩,
    ⟨(some 45), .load false 1 (.t 44), none⟩,
    ⟨(some 46), .mov (.t 1), none⟩,
    ⟨(some 47), .mov (.t 2), none⟩,
    ⟨(some 48), .call 26 [(.t 45), (.t 46), (.t 47)], none⟩,
    ⟨(some 14), .mov (.t 41), none⟩,
    ⟨(some 15), .mov (.t 48), none⟩] [(10, 6)] [3, 4, 14, 15])
  s7_6)
def s7_4 : EC := (.seq (.seq (.ops [⟨(some 28), .mov (.t 5), none⟩,
    ⟨(some 29), .bin .rem (.t 28) (.c (.s (.int .i64 3))), none⟩,
    ⟨(some 30), .bin .neq (.t 29) (.c (.s (.int .i64 2))), none⟩] [1, 2, 3, 4, 13, 30])
  (.cond (.t 30) (.ops [⟨(some 31), .mov (.t 3), none⟩,
    ⟨(some 32), .call 24 [(.t 31)], none⟩,
    ⟨(some 33), .mov (.t 4), none⟩,
    ⟨(some 34), .call 25 [(.t 33)], none⟩,
    ⟨(some 3), .mov (.t 32), none⟩,
    ⟨(some 4), .mov (.t 34), none⟩] [1, 2, 3, 4, 13])
  .skip))
  s7_5)
def s7_3 : EC := (.seq (.seq (.ops [⟨(some 23), .mov (.t 5), none⟩,
    ⟨(some 24), .bin .rem (.t 23) (.c (.s (.int .i64 5))), none⟩,
    ⟨(some 25), .bin .neq (.t 24) (.c (.s (.int .i64 4))), none⟩] [1, 2, 3, 4, 5, 13, 25])
  (.cond (.t 25) (.ops [⟨(some 26), .mov (.t 2), none⟩,
    ⟨(some 27), .call 24 [(.t 26)], none⟩,
    ⟨(some 2), .mov (.t 27), none⟩] [1, 2, 3, 4, 5, 13])
  .skip))
  s7_4)
def s7_2 : EC := (.seq (.ops [⟨(some 21), .mov (.t 1), none⟩,
    ⟨(some 22), .call 16 [(.t 21), (.c (.s (.int .i64 12)))], none⟩,
    ⟨(some 1), .mov (.t 22), none⟩] [1, 2, 3, 4, 5, 13])
  s7_3)
def s7_1 : EC := (.seq (.ops [⟨(some 19), .mov (.t 0), none⟩,
    ⟨(some 20), .call 15 [(.t 19)], none⟩,
    ⟨(some 13), .mov (.t 20), none⟩] [1, 2, 3, 4, 5, 13])
  s7_2)
def b7 : EC := (.seq (.ops [⟨(some 12), .mov (.c (.s (.bool false))), none⟩] [0, 1, 2, 3, 4, 5])
  s7_1)
def e7 : EF := ⟨80, b7, [.tmp 12]⟩

/-- scutage/scutageplay.Losses -/
def h15 : List (List Nat) := [[0], [0, 3], [0, 3, 4], [0, 3, 4], [0, 3, 4, 15], [3], [0, 3, 4, 5], [0, 3, 4], [0, 3, 4], [2], [2]]
def l15_0_1 : EC := (.seq (.block 1 (.seq (.ops [⟨(some 18), .mov (.t 0), none⟩,
    ⟨(some 19), .mov (.t 4), none⟩,
    ⟨(some 20), .iad 3 1 (.t 18) (.t 19), none⟩,
    ⟨(some 21), .load false 1 (.t 20), none⟩,
    ⟨(some 22), .call 16 [(.t 21), (.c (.s (.int .i64 5)))], none⟩,
    ⟨(some 5), .mov (.t 22), none⟩] [0, 3, 4, 5])
  (.draw [⟨(some 23), .mov (.t 3), none⟩,
    ⟨(some 24), .mov (.t 5), none⟩,
    ⟨(some 25), .mov (.t 5), none⟩,
    ⟨(some 26), .mov (.t 0), none⟩,
    ⟨(some 27), .mov (.t 4), none⟩,
    ⟨(some 28), .iad 3 1 (.t 26) (.t 27), none⟩,
    ⟨(some 29), .load false 1 (.t 28), none⟩,
    ⟨(some 30), .bin .quo (.t 29) (.c (.s (.int .i64 5))), none⟩,
    ⟨(some 31), .call 16 [(.t 30), (.c (.s (.int .i64 5)))], none⟩,
    ⟨(some 32), .bin .add (.t 25) (.t 31), none⟩,
    ⟨(some 33), .mov (.t 0), none⟩,
    ⟨(some 34), .mov (.t 4), none⟩,
    ⟨(some 35), .iad 3 1 (.t 33) (.t 34), none⟩,
    ⟨(some 36), .load false 1 (.t 35), none⟩,
    ⟨(some 37), .bin .quo (.t 36) (.c (.s (.int .i64 25))), none⟩,
    ⟨(some 38), .call 24 [(.t 37)], none⟩,
    ⟨(some 39), .mx (.t 38) [(.c (.s (.int .i64 1)))], none⟩,
    ⟨(some 40), .call 52 [(.t 23), (.t 24), (.t 32), (.t 39)], none⟩] [(12, 8), (13, 8)] [0, 3, 4])))
  (.ops [⟨(some 16), .mov (.t 4), none⟩,
    ⟨(some 17), .bin .add (.t 16) (.c (.s (.int .i64 1))), none⟩,
    ⟨(some 4), .mov (.t 17), none⟩] [0, 3, 4]))
def l15_0 : EC := (.seq (.seq (.ops [⟨(some 8), .mov (.t 4), none⟩,
    ⟨(some 9), .mov (.t 0), none⟩,
    ⟨(some 10), .len (.t 9), none⟩,
    ⟨(some 11), .bin .lss (.t 8) (.t 10), none⟩,
    ⟨(some 12), .mov (.t 11), none⟩,
    ⟨(some 13), .mov (.t 4), (some (12, true))⟩,
    ⟨(some 14), .bin .lss (.t 13) (.c (.s (.int .i64 8))), (some (12, true))⟩,
    ⟨(some 15), .pick (.t 12) (.t 14) (.c (.s (.bool false))), none⟩] [0, 3, 4, 15])
  (.cond (.t 15) .skip
  (.exit 0 [3])))
  l15_0_1)
def s15_3 : EC := (.seq (.ops [⟨(some 41), .mov (.t 3), none⟩,
    ⟨(some 2), .mov (.t 41), none⟩] [2])
  (.ret [2]))
def s15_2 : EC := (.seq (.seq (.ops [⟨(some 4), .mov (.c (.s (.int .i64 0))), none⟩] [0, 3, 4])
  (.block 0 (.loop [0, 3, 4] l15_0)))
  s15_3)
def s15_1 : EC := (.seq (.ops [⟨(some 6), .build [.nils] [], none⟩,
    ⟨(some 7), .new 25 1 (.t 6), none⟩,
    ⟨(some 3), .mov (.t 7), none⟩] [0, 3])
  s15_2)
def b15 : EC := (.seq (.ops [⟨(some 2), .mov (.c (.s .nilp)), none⟩] [0])
  s15_1)
def e15 : EF := ⟨42, b15, [.tmp 2]⟩

/-- scutage/scutagekeep.Within -/
def h16 : List (List Nat) := [[0, 1], [0, 1, 7], [4], [4], [1, 5], [1, 5, 12], [5], [4], [4]]
def s16_4 : EC := (.seq (.ops [⟨(some 16), .mov (.t 5), none⟩,
    ⟨(some 4), .mov (.t 16), none⟩] [4])
  (.ret [4]))
def s16_3 : EC := (.seq (.seq (.ops [⟨(some 11), .mov (.t 5), none⟩,
    ⟨(some 12), .bin .lss (.t 11) (.c (.s (.int .i64 0))), none⟩] [1, 5, 12])
  (.cond (.t 12) (.ops [⟨(some 13), .mov (.t 5), none⟩,
    ⟨(some 14), .mov (.t 1), none⟩,
    ⟨(some 15), .bin .add (.t 13) (.t 14), none⟩,
    ⟨(some 5), .mov (.t 15), none⟩] [5])
  .skip))
  s16_4)
def s16_2 : EC := (.seq (.ops [⟨(some 8), .mov (.t 0), none⟩,
    ⟨(some 9), .mov (.t 1), none⟩,
    ⟨(some 10), .bin .rem (.t 8) (.t 9), none⟩,
    ⟨(some 5), .mov (.t 10), none⟩] [1, 5])
  s16_3)
def s16_1 : EC := (.seq (.seq (.ops [⟨(some 6), .mov (.t 1), none⟩,
    ⟨(some 7), .bin .lss (.t 6) (.c (.s (.int .i64 1))), none⟩] [0, 1, 7])
  (.cond (.t 7) (.seq (.ops [⟨(some 4), .mov (.c (.s (.int .i64 0))), none⟩] [4])
  (.ret [4]))
  .skip))
  s16_2)
def b16 : EC := (.seq (.ops [⟨(some 4), .mov (.c (.s (.int .i64 0))), none⟩] [0, 1])
  s16_1)
def e16 : EF := ⟨17, b16, [.tmp 4]⟩

/-- scutage/use.Vector -/
def h17 : List (List Nat) := [[0, 1, 2], [0, 1, 7], [0, 1, 7, 8], [1, 7, 8, 14, 15, 16], [1, 7, 8, 14, 15, 16], [1, 7, 8, 14, 15, 16, 17], [8], [1, 7, 8, 10, 14, 15, 16], [1, 7, 8, 10, 11, 14, 15, 16], [1, 7, 8, 10, 11, 14, 15, 16, 23], [1, 7, 8, 11, 14, 15, 16], [1, 7, 8, 11, 14, 15, 16], [1, 7, 8, 14, 15, 16], [1, 7, 8, 14, 15, 16], [6], [6]]
def l17_0_2 : EC := (.seq (.block 1 (.seq (.ops [⟨(some 18), .iad 37 3 (.t 14) (.t 16), none⟩,
    ⟨(some 19), .load true 3 (.t 18), none⟩,
    ⟨(some 10), .new 37 3 (.c (.agg [(.int .i64 0), (.int .i64 0), (.int .i64 0)])), none⟩,
    ⟨none, .store 3 (.t 10) (.t 19), none⟩] [1, 7, 8, 10, 14, 15, 16])
  (.seq (.ops [⟨(some 11), .mov (.c (.s (.int .i64 0))), none⟩] [1, 7, 8, 10, 11, 14, 15, 16])
  (.seq (.seq (.ops [⟨(some 20), .fad 1 (.t 10), none⟩,
    ⟨(some 21), .load false 1 (.t 20), none⟩,
    ⟨(some 22), .mov (.t 1), none⟩,
    ⟨(some 23), .bin .geq (.t 21) (.t 22), none⟩] [1, 7, 8, 10, 11, 14, 15, 16, 23])
  (.cond (.t 23) (.ops [⟨(some 24), .fad 2 (.t 10), none⟩,
    ⟨(some 25), .load false 1 (.t 24), none⟩,
    ⟨(some 26), .mov (.t 7), none⟩,
    ⟨(some 27), .mn (.t 25) [(.t 26)], none⟩,
    ⟨(some 11), .mov (.t 27), none⟩] [1, 7, 8, 11, 14, 15, 16])
  .skip))
  (.seq (.ops [⟨(some 28), .mov (.t 7), none⟩,
    ⟨(some 29), .mov (.t 11), none⟩,
    ⟨(some 30), .bin .sub (.t 28) (.t 29), none⟩,
    ⟨(some 7), .mov (.t 30), none⟩] [1, 7, 8, 11, 14, 15, 16])
  (.ops [⟨(some 31), .mov (.t 8), none⟩,
    ⟨(some 32), .mov (.t 11), none⟩,
    ⟨(some 33), .bsl 3 1 [(.int .i64 0)] [(0, 1, (.t 32))], none⟩,
    ⟨(some 34), .app 3 1 8 (.t 31) (.t 33), none⟩,
    ⟨(some 8), .mov (.t 34), none⟩] [1, 7, 8, 14, 15, 16]))))))
  (.ops [⟨(some 35), .bin .add (.t 16) (.c (.s (.int .i64 1))), none⟩,
    ⟨(some 16), .mov (.t 35), none⟩] [1, 7, 8, 14, 15, 16]))
def l17_0_1 : EC := (.seq (.cond (.t 17) .skip
  (.exit 0 [8]))
  l17_0_2)
def l17_0 : EC := (.seq (.ops [⟨(some 17), .bin .lss (.t 16) (.t 15), none⟩] [1, 7, 8, 14, 15, 16, 17])
  l17_0_1)
def s17_4 : EC := (.seq (.ops [⟨(some 36), .mov (.t 8), none⟩,
    ⟨(some 6), .mov (.t 36), none⟩] [6])
  (.ret [6]))
def s17_3 : EC := (.seq (.seq (.ops [⟨(some 14), .mov (.t 0), none⟩,
    ⟨(some 15), .len (.t 14), none⟩,
    ⟨(some 16), .mov (.c (.s (.int .i64 0))), none⟩] [1, 7, 8, 14, 15, 16])
  (.block 0 (.loop [1, 7, 8, 14, 15, 16] l17_0)))
  s17_4)
def s17_2 : EC := (.seq (.ops [⟨(some 8), .mov (.c (.s .nils)), none⟩] [0, 1, 7, 8])
  s17_3)
def s17_1 : EC := (.seq (.ops [⟨(some 12), .mov (.t 2), none⟩,
    ⟨(some 13), .mx (.c (.s (.int .i64 0))) [(.t 12)], none⟩,
    ⟨(some 7), .mov (.t 13), none⟩] [0, 1, 7])
  s17_2)
def b17 : EC := (.seq (.ops [⟨(some 6), .mov (.c (.s .nils)), none⟩] [0, 1, 2])
  s17_1)
def e17 : EF := ⟨37, b17, [.tmp 6]⟩

/-- scutage/scutagelaw14.right -/
def h18 : List (List Nat) := [[0, 1, 2, 3], [0, 1, 2, 3, 18], [8], [8], [0, 1, 2, 3, 9, 10], [0, 1, 2, 3, 9, 10, 11], [1, 2, 3, 9, 10, 11, 19, 20, 21], [1, 2, 3, 9, 10, 11, 19, 20, 21], [1, 2, 3, 9, 10, 11, 19, 20, 21, 22], [2, 9, 10], [1, 2, 3, 9, 10, 11, 12, 13, 19, 20, 21], [1, 2, 3, 9, 10, 11, 12, 13, 19, 20, 21, 63], [8], [8], [1, 2, 3, 9, 10, 11, 12, 13, 19, 20, 21, 67], [1, 2, 3, 9, 10, 11, 12, 13, 19, 20, 21], [1, 2, 3, 9, 10, 11, 12, 19, 20, 21], [1, 2, 3, 9, 10, 11, 19, 20, 21], [1, 2, 3, 9, 10, 11, 19, 20, 21], [8], [8]]
def l18_0_2 : EC := (.seq (.block 1 (.seq (.ops [⟨(some 23), .mov (.t 21), none⟩,
    ⟨(some 24), .iad 37 3 (.t 19) (.t 21), none⟩,
    ⟨(some 25), .load true 3 (.t 24), none⟩,
    ⟨(some 13), .new 37 3 (.c (.agg [(.int .i64 0), (.int .i64 0), (.int .i64 0)])), none⟩,
    ⟨(some 12), .mov (.t 23), none⟩,
    ⟨none, .store 3 (.t 13) (.t 25), none⟩] [1, 2, 3, 9, 10, 11, 12, 13, 19, 20, 21])
  (.seq (.seq (.draw [⟨(some 26), .mov (.t 3), none⟩,
    ⟨(some 27), .mov (.t 12), none⟩,
    ⟨(some 28), .iad 3 1 (.t 26) (.t 27), none⟩,
    ⟨(some 29), .load false 1 (.t 28), none⟩,
    ⟨(some 30), .bin .lss (.t 29) (.c (.s (.int .i64 0))), none⟩,
    ⟨(some 31), .mov (.t 30), none⟩,
    ⟨(some 32), .mov (.t 3), (some (31, false))⟩,
    ⟨(some 33), .mov (.t 12), (some (31, false))⟩,
    ⟨(some 34), .iad 3 1 (.t 32) (.t 33), (some (31, false))⟩,
    ⟨(some 35), .load false 1 (.t 34), (some (31, false))⟩,
    ⟨(some 36), .fad 2 (.t 13), (some (31, false))⟩,
    ⟨(some 37), .load false 1 (.t 36), (some (31, false))⟩,
    ⟨(some 38), .bin .gtr (.t 35) (.t 37), (some (31, false))⟩,
    ⟨(some 39), .pick (.t 31) (.c (.s (.bool true))) (.t 38), none⟩,
    ⟨(some 40), .mov (.t 39), none⟩,
    ⟨(some 41), .fad 1 (.t 13), (some (40, false))⟩,
    ⟨(some 42), .load false 1 (.t 41), (some (40, false))⟩,
    ⟨(some 43), .mov (.t 1), (some (40, false))⟩,
    ⟨(some 44), .bin .lss (.t 42) (.t 43), (some (40, false))⟩,
    ⟨(some 45), .mov (.t 44), (some (40, false))⟩,
    ⟨(some 46), .mov (.t 3), (some (45, true))⟩,
    ⟨(some 47), .mov (.t 12), (some (45, true))⟩,
    ⟨(some 48), .iad 3 1 (.t 46) (.t 47), (some (45, true))⟩,
    ⟨(some 49), .load false 1 (.t 48), (some (45, true))⟩,
    ⟨(some 50), .bin .neq (.t 49) (.c (.s (.int .i64 0))), (some (45, true))⟩,
    ⟨(some 51), .pick (.t 45) (.t 50) (.c (.s (.bool false))), (some (40, false))⟩,
    ⟨(some 52), .pick (.t 40) (.c (.s (.bool true))) (.t 51), none⟩,
    ⟨(some 53), .mov (.t 52), none⟩,
    ⟨(some 54), .mov (.t 3), (some (53, false))⟩,
    ⟨(some 55), .mov (.t 12), (some (53, false))⟩,
    ⟨(some 56), .iad 3 1 (.t 54) (.t 55), (some (53, false))⟩,
    ⟨(some 57), .load false 1 (.t 56), (some (53, false))⟩,
    ⟨(some 58), .bin .gtr (.t 57) (.c (.s (.int .i64 0))), (some (53, false))⟩,
    ⟨(some 59), .mov (.t 58), (some (53, false))⟩,
    ⟨(some 60), .mov (.t 11), (some (59, true))⟩,
    ⟨(some 61), .un .not (.t 60), (some (59, true))⟩,
    ⟨(some 62), .pick (.t 59) (.t 61) (.c (.s (.bool false))), (some (53, false))⟩,
    ⟨(some 63), .pick (.t 53) (.c (.s (.bool true))) (.t 62), none⟩] [] [1, 2, 3, 9, 10, 11, 12, 13, 19, 20, 21, 63])
  (.cond (.t 63) (.seq (.ops [⟨(some 8), .mov (.c (.s (.bool false))), none⟩] [8])
  (.ret [8]))
  .skip))
  (.seq (.seq (.ops [⟨(some 64), .fad 1 (.t 13), none⟩,
    ⟨(some 65), .load false 1 (.t 64), none⟩,
    ⟨(some 66), .mov (.t 1), none⟩,
    ⟨(some 67), .bin .geq (.t 65) (.t 66), none⟩] [1, 2, 3, 9, 10, 11, 12, 13, 19, 20, 21, 67])
  (.cond (.t 67) (.seq (.ops [⟨(some 68), .mov (.t 10), none⟩,
    ⟨(some 69), .fad 2 (.t 13), none⟩,
    ⟨(some 70), .load false 1 (.t 69), none⟩,
    ⟨(some 71), .bin .add (.t 68) (.t 70), none⟩,
    ⟨(some 10), .mov (.t 71), none⟩] [1, 2, 3, 9, 10, 11, 12, 13, 19, 20, 21])
  (.draw [⟨(some 72), .mov (.t 11), none⟩,
    ⟨(some 73), .mov (.t 72), none⟩,
    ⟨(some 74), .mov (.t 3), (some (73, true))⟩,
    ⟨(some 75), .mov (.t 12), (some (73, true))⟩,
    ⟨(some 76), .iad 3 1 (.t 74) (.t 75), (some (73, true))⟩,
    ⟨(some 77), .load false 1 (.t 76), (some (73, true))⟩,
    ⟨(some 78), .fad 2 (.t 13), (some (73, true))⟩,
    ⟨(some 79), .load false 1 (.t 78), (some (73, true))⟩,
    ⟨(some 80), .bin .eql (.t 77) (.t 79), (some (73, true))⟩,
    ⟨(some 81), .pick (.t 73) (.t 80) (.c (.s (.bool false))), none⟩,
    ⟨(some 11), .mov (.t 81), none⟩] [] [1, 2, 3, 9, 10, 11, 12, 19, 20, 21]))
  .skip))
  (.ops [⟨(some 82), .mov (.t 9), none⟩,
    ⟨(some 83), .mov (.t 3), none⟩,
    ⟨(some 84), .mov (.t 12), none⟩,
    ⟨(some 85), .iad 3 1 (.t 83) (.t 84), none⟩,
    ⟨(some 86), .load false 1 (.t 85), none⟩,
    ⟨(some 87), .bin .add (.t 82) (.t 86), none⟩,
    ⟨(some 9), .mov (.t 87), none⟩] [1, 2, 3, 9, 10, 11, 19, 20, 21])))))
  (.ops [⟨(some 88), .bin .add (.t 21) (.c (.s (.int .i64 1))), none⟩,
    ⟨(some 21), .mov (.t 88), none⟩] [1, 2, 3, 9, 10, 11, 19, 20, 21]))
def l18_0_1 : EC := (.seq (.cond (.t 22) .skip
  (.exit 0 [2, 9, 10]))
  l18_0_2)
def l18_0 : EC := (.seq (.ops [⟨(some 22), .bin .lss (.t 21) (.t 20), none⟩] [1, 2, 3, 9, 10, 11, 19, 20, 21, 22])
  l18_0_1)
def s18_5 : EC := (.seq (.ops [⟨(some 89), .mov (.t 9), none⟩,
    ⟨(some 90), .mov (.t 10), none⟩,
    ⟨(some 91), .mov (.t 2), none⟩,
    ⟨(some 92), .mn (.t 90) [(.t 91)], none⟩,
    ⟨(some 93), .bin .eql (.t 89) (.t 92), none⟩,
    ⟨(some 8), .mov (.t 93), none⟩] [8])
  (.ret [8]))
def s18_4 : EC := (.seq (.seq (.ops [⟨(some 19), .mov (.t 0), none⟩,
    ⟨(some 20), .len (.t 19), none⟩,
    ⟨(some 21), .mov (.c (.s (.int .i64 0))), none⟩] [1, 2, 3, 9, 10, 11, 19, 20, 21])
  (.block 0 (.loop [1, 2, 3, 9, 10, 11, 19, 20, 21] l18_0)))
  s18_5)
def s18_3 : EC := (.seq (.ops [⟨(some 11), .mov (.c (.s (.bool true))), none⟩] [0, 1, 2, 3, 9, 10, 11])
  s18_4)
def s18_2 : EC := (.seq (.ops [⟨(some 9), .mov (.c (.s (.int .i64 0))), none⟩,
    ⟨(some 10), .mov (.c (.s (.int .i64 0))), none⟩] [0, 1, 2, 3, 9, 10])
  s18_3)
def s18_1 : EC := (.seq (.seq (.ops [⟨(some 14), .mov (.t 3), none⟩,
    ⟨(some 15), .len (.t 14), none⟩,
    ⟨(some 16), .mov (.t 0), none⟩,
    ⟨(some 17), .len (.t 16), none⟩,
    ⟨(some 18), .bin .neq (.t 15) (.t 17), none⟩] [0, 1, 2, 3, 18])
  (.cond (.t 18) (.seq (.ops [⟨(some 8), .mov (.c (.s (.bool false))), none⟩] [8])
  (.ret [8]))
  .skip))
  s18_2)
def b18 : EC := (.seq (.ops [⟨(some 8), .mov (.c (.s (.bool false))), none⟩] [0, 1, 2, 3])
  s18_1)
def e18 : EF := ⟨94, b18, [.tmp 8]⟩

/-- scutage/scutagekeep.Copy[int] -/
def h19 : List (List Nat) := [[0], [2], [2]]
def s19_1 : EC := (.seq (.ops [⟨(some 3), .mov (.t 0), none⟩,
    ⟨(some 4), .app 3 1 8 (.c (.s .nils)) (.t 3), none⟩,
    ⟨(some 2), .mov (.t 4), none⟩] [2])
  (.ret [2]))
def b19 : EC := (.seq (.ops [⟨(some 2), .mov (.c (.s .nils)), none⟩] [0])
  s19_1)
def e19 : EF := ⟨5, b19, [.tmp 2]⟩

/-- scutage/scutagekeep.Same[int] -/
def h20 : List (List Nat) := [[0, 1], [0, 1, 10], [4], [4], [0, 1, 5], [0, 1, 5], [0, 1, 5, 14], [], [0, 1, 5, 25], [4], [4], [0, 1, 5], [4], [4]]
def l20_0_1 : EC := (.seq (.block 1 (.seq (.draw [⟨(some 17), .mov (.t 0), none⟩,
    ⟨(some 18), .mov (.t 5), none⟩,
    ⟨(some 19), .iad 3 1 (.t 17) (.t 18), none⟩,
    ⟨(some 20), .load false 1 (.t 19), none⟩,
    ⟨(some 21), .mov (.t 1), none⟩,
    ⟨(some 22), .mov (.t 5), none⟩,
    ⟨(some 23), .iad 3 1 (.t 21) (.t 22), none⟩,
    ⟨(some 24), .load false 1 (.t 23), none⟩,
    ⟨(some 25), .bin .neq (.t 20) (.t 24), none⟩] [] [0, 1, 5, 25])
  (.cond (.t 25) (.seq (.ops [⟨(some 4), .mov (.c (.s (.bool false))), none⟩] [4])
  (.ret [4]))
  .skip)))
  (.ops [⟨(some 15), .mov (.t 5), none⟩,
    ⟨(some 16), .bin .add (.t 15) (.c (.s (.int .i64 1))), none⟩,
    ⟨(some 5), .mov (.t 16), none⟩] [0, 1, 5]))
def l20_0 : EC := (.seq (.seq (.ops [⟨(some 11), .mov (.t 5), none⟩,
    ⟨(some 12), .mov (.t 0), none⟩,
    ⟨(some 13), .len (.t 12), none⟩,
    ⟨(some 14), .bin .lss (.t 11) (.t 13), none⟩] [0, 1, 5, 14])
  (.cond (.t 14) .skip
  (.exit 0 [])))
  l20_0_1)
def s20_3 : EC := (.seq (.ops [⟨(some 4), .mov (.c (.s (.bool true))), none⟩] [4])
  (.ret [4]))
def s20_2 : EC := (.seq (.seq (.ops [⟨(some 5), .mov (.c (.s (.int .i64 0))), none⟩] [0, 1, 5])
  (.block 0 (.loop [0, 1, 5] l20_0)))
  s20_3)
def s20_1 : EC := (.seq (.seq (.ops [⟨(some 6), .mov (.t 0), none⟩,
    ⟨(some 7), .len (.t 6), none⟩,
    ⟨(some 8), .mov (.t 1), none⟩,
    ⟨(some 9), .len (.t 8), none⟩,
    ⟨(some 10), .bin .neq (.t 7) (.t 9), none⟩] [0, 1, 10])
  (.cond (.t 10) (.seq (.ops [⟨(some 4), .mov (.c (.s (.bool false))), none⟩] [4])
  (.ret [4]))
  .skip))
  s20_2)
def b20 : EC := (.seq (.ops [⟨(some 4), .mov (.c (.s (.bool false))), none⟩] [0, 1])
  s20_1)
def e20 : EF := ⟨26, b20, [.tmp 4]⟩

/-- scutage/scutagelaw14.wakes -/
def h21 : List (List Nat) := [[], [1], [0], [0]]
def s21_2 : EC := (.seq (.ops [⟨(some 5), .mov (.t 1), none⟩,
    ⟨(some 6), .bsl 3 1 [(.int .i64 0)] [(0, 1, (.c (.s (.int .i64 60))))], none⟩,
    ⟨(some 7), .call 20 [(.t 5), (.t 6)], none⟩,
    ⟨(some 8), .mov (.t 7), none⟩,
    ⟨(some 9), .call 22 [(.c (.s (.int .i64 100))), (.c (.s (.int .i64 500000)))], (some (8, true))⟩,
    ⟨(some 10), .bin .eql (.t 9) (.c (.s (.int .i64 50))), (some (8, true))⟩,
    ⟨(some 11), .pick (.t 8) (.t 10) (.c (.s (.bool false))), none⟩,
    ⟨(some 12), .mov (.t 11), none⟩,
    ⟨(some 13), .call 17 [(.c (.s .nils)), (.c (.s (.int .i64 1))), (.c (.s (.int .i64 5)))], (some (12, true))⟩,
    ⟨(some 14), .len (.t 13), (some (12, true))⟩,
    ⟨(some 15), .bin .eql (.t 14) (.c (.s (.int .i64 0))), (some (12, true))⟩,
    ⟨(some 16), .pick (.t 12) (.t 15) (.c (.s (.bool false))), none⟩,
    ⟨(some 0), .mov (.t 16), none⟩] [0])
  (.ret [0]))
def s21_1 : EC := (.seq (.ops [⟨(some 2), .build [(.int .i64 0), (.int .i64 0), (.int .i64 0)] [(0, 1, (.c (.s (.int .i64 1)))), (1, 1, (.c (.s (.int .i64 4)))), (2, 1, (.c (.s (.int .i64 100))))], none⟩,
    ⟨(some 3), .bsl 37 1 [(.int .i64 0), (.int .i64 0), (.int .i64 0)] [(0, 3, (.t 2))], none⟩,
    ⟨(some 4), .call 17 [(.t 3), (.c (.s (.int .i64 3))), (.c (.s (.int .i64 60)))], none⟩,
    ⟨(some 1), .mov (.t 4), none⟩] [1])
  s21_2)
def b21 : EC := (.seq (.ops [⟨(some 0), .mov (.c (.s (.bool false))), none⟩] [])
  s21_1)
def e21 : EF := ⟨17, b21, [.tmp 0]⟩

/-- scutage/use.Room -/
def h22 : List (List Nat) := [[0, 1], [0, 1, 8], [4], [4], [5], [4], [4]]
def s22_3 : EC := (.seq (.ops [⟨(some 15), .mov (.t 5), none⟩,
    ⟨(some 4), .mov (.t 15), none⟩] [4])
  (.ret [4]))
def s22_2 : EC := (.seq (.ops [⟨(some 10), .mov (.t 0), none⟩,
    ⟨(some 11), .mov (.t 1), none⟩,
    ⟨(some 12), .call 53 [(.t 10), (.t 11)], none⟩,
    ⟨(some 9), .mov (.t 12), none⟩,
    ⟨(some 13), .ext (.t 9) 0, none⟩,
    ⟨(some 14), .ext (.t 9) 1, none⟩,
    ⟨(some 5), .mov (.t 13), none⟩,
    ⟨(some 6), .mov (.t 14), none⟩] [5])
  s22_3)
def s22_1 : EC := (.seq (.seq (.ops [⟨(some 7), .mov (.t 0), none⟩,
    ⟨(some 8), .bin .lss (.t 7) (.c (.s (.int .i64 1))), none⟩] [0, 1, 8])
  (.cond (.t 8) (.seq (.ops [⟨(some 4), .mov (.c (.s (.int .i64 0))), none⟩] [4])
  (.ret [4]))
  .skip))
  s22_2)
def b22 : EC := (.seq (.ops [⟨(some 4), .mov (.c (.s (.int .i64 0))), none⟩] [0, 1])
  s22_1)
def e22 : EF := ⟨16, b22, [.tmp 4]⟩

/-- scutage/use.Used -/
def h23 : List (List Nat) := [[0], [0, 3], [3, 6, 7, 8], [3, 6, 7, 8], [3, 6, 7, 8, 9], [3], [3, 5, 6, 7, 8], [3, 6, 7, 8], [3, 6, 7, 8], [2], [2]]
def l23_0_2 : EC := (.seq (.block 1 (.seq (.ops [⟨(some 10), .iad 3 1 (.t 6) (.t 8), none⟩,
    ⟨(some 11), .load false 1 (.t 10), none⟩,
    ⟨(some 5), .mov (.t 11), none⟩] [3, 5, 6, 7, 8])
  (.ops [⟨(some 12), .mov (.t 3), none⟩,
    ⟨(some 13), .mov (.t 5), none⟩,
    ⟨(some 14), .bin .add (.t 12) (.t 13), none⟩,
    ⟨(some 3), .mov (.t 14), none⟩] [3, 6, 7, 8])))
  (.ops [⟨(some 15), .bin .add (.t 8) (.c (.s (.int .i64 1))), none⟩,
    ⟨(some 8), .mov (.t 15), none⟩] [3, 6, 7, 8]))
def l23_0_1 : EC := (.seq (.cond (.t 9) .skip
  (.exit 0 [3]))
  l23_0_2)
def l23_0 : EC := (.seq (.ops [⟨(some 9), .bin .lss (.t 8) (.t 7), none⟩] [3, 6, 7, 8, 9])
  l23_0_1)
def s23_3 : EC := (.seq (.ops [⟨(some 16), .mov (.t 3), none⟩,
    ⟨(some 2), .mov (.t 16), none⟩] [2])
  (.ret [2]))
def s23_2 : EC := (.seq (.seq (.ops [⟨(some 6), .mov (.t 0), none⟩,
    ⟨(some 7), .len (.t 6), none⟩,
    ⟨(some 8), .mov (.c (.s (.int .i64 0))), none⟩] [3, 6, 7, 8])
  (.block 0 (.loop [3, 6, 7, 8] l23_0)))
  s23_3)
def s23_1 : EC := (.seq (.ops [⟨(some 3), .mov (.c (.s (.int .i64 0))), none⟩] [0, 3])
  s23_2)
def b23 : EC := (.seq (.ops [⟨(some 2), .mov (.c (.s (.int .i64 0))), none⟩] [0])
  s23_1)
def e23 : EF := ⟨17, b23, [.tmp 2]⟩

/-- scutage/scutageplay.Amount -/
def h24 : List (List Nat) := [[0], [0, 4], [0, 4, 5], [2], [2], [0, 4, 12], [2], [2], [0, 4, 19], [2], [2], [0, 22], [2], [2], [2], [2]]
def s24_2 : EC := (.seq (.ops [⟨(some 28), .mov (.t 0), none⟩,
    ⟨(some 29), .call 16 [(.t 28), (.c (.s (.int .i64 4001)))], none⟩,
    ⟨(some 30), .bin .sub (.t 29) (.c (.s (.int .i64 2000))), none⟩,
    ⟨(some 2), .mov (.t 30), none⟩] [2])
  (.ret [2]))
def s24_1 : EC := (.seq (.seq (.ops [⟨(some 3), .mov (.t 0), none⟩,
    ⟨(some 4), .bin .rem (.t 3) (.c (.s (.int .i64 23))), none⟩] [0, 4])
  (.block 0 (.seq (.ops [⟨(some 6), .bin .eql (.t 4) (.c (.s (.int .i64 20))), none⟩,
    ⟨(some 5), .mov (.t 6), none⟩] [0, 4, 5])
  (.cond (.t 5) (.seq (.ops [⟨(some 7), .mov (.t 0), none⟩,
    ⟨(some 8), .bin .quo (.t 7) (.c (.s (.int .i64 23))), none⟩,
    ⟨(some 9), .call 16 [(.t 8), (.c (.s (.int .i64 5)))], none⟩,
    ⟨(some 10), .bin .sub (.c (.s (.int .i64 100000000000))) (.t 9), none⟩,
    ⟨(some 11), .bin .add (.t 10) (.c (.s (.int .i64 2))), none⟩,
    ⟨(some 2), .mov (.t 11), none⟩] [2])
  (.ret [2]))
  (.seq (.ops [⟨(some 13), .bin .eql (.t 4) (.c (.s (.int .i64 21))), none⟩,
    ⟨(some 12), .mov (.t 13), none⟩] [0, 4, 12])
  (.cond (.t 12) (.seq (.ops [⟨(some 14), .mov (.t 0), none⟩,
    ⟨(some 15), .bin .quo (.t 14) (.c (.s (.int .i64 23))), none⟩,
    ⟨(some 16), .call 16 [(.t 15), (.c (.s (.int .i64 5)))], none⟩,
    ⟨(some 17), .bin .add (.c (.s (.int .i64 (-100000000000)))) (.t 16), none⟩,
    ⟨(some 18), .bin .sub (.t 17) (.c (.s (.int .i64 2))), none⟩,
    ⟨(some 2), .mov (.t 18), none⟩] [2])
  (.ret [2]))
  (.seq (.ops [⟨(some 20), .bin .eql (.t 4) (.c (.s (.int .i64 22))), none⟩,
    ⟨(some 19), .mov (.t 20), none⟩] [0, 4, 19])
  (.cond (.t 19) (.seq (.ops [⟨(some 21), .mov (.t 0), none⟩,
    ⟨(some 2), .mov (.t 21), none⟩] [2])
  (.ret [2]))
  (.seq (.ops [⟨(some 23), .bin .eql (.t 4) (.c (.s (.int .i64 19))), none⟩,
    ⟨(some 22), .mov (.t 23), none⟩] [0, 22])
  (.cond (.t 22) (.seq (.ops [⟨(some 24), .mov (.t 0), none⟩,
    ⟨(some 25), .bin .quo (.t 24) (.c (.s (.int .i64 23))), none⟩,
    ⟨(some 26), .call 16 [(.t 25), (.c (.s (.int .i64 200000000001)))], none⟩,
    ⟨(some 27), .bin .sub (.t 26) (.c (.s (.int .i64 100000000000))), none⟩,
    ⟨(some 2), .mov (.t 27), none⟩] [2])
  (.ret [2]))
  .skip))))))))))
  s24_2)
def b24 : EC := (.seq (.ops [⟨(some 2), .mov (.c (.s (.int .i64 0))), none⟩] [0])
  s24_1)
def e24 : EF := ⟨31, b24, [.tmp 2]⟩

/-- scutage/scutageplay.Rate -/
def h25 : List (List Nat) := [[0], [0, 5], [2], [2], [2], [2]]
def s25_2 : EC := (.seq (.ops [⟨(some 7), .bsl 3 10 [(.int .i64 0)] [(0, 1, (.c (.s (.int .i64 250000)))), (1, 1, (.c (.s (.int .i64 300000)))), (2, 1, (.c (.s (.int .i64 190000)))), (3, 1, (.c (.s (.int .i64 0)))), (4, 1, (.c (.s (.int .i64 1000000)))), (5, 1, (.c (.s (.int .i64 333333)))), (6, 1, (.c (.s (.int .i64 500000)))), (7, 1, (.c (.s (.int .i64 1)))), (8, 1, (.c (.s (.int .i64 125000)))), (9, 1, (.c (.s (.int .i64 999999))))], none⟩,
    ⟨(some 8), .mov (.t 0), none⟩,
    ⟨(some 9), .call 16 [(.t 8), (.c (.s (.int .i64 10)))], none⟩,
    ⟨(some 10), .iad 3 1 (.t 7) (.t 9), none⟩,
    ⟨(some 11), .load false 1 (.t 10), none⟩,
    ⟨(some 2), .mov (.t 11), none⟩] [2])
  (.ret [2]))
def s25_1 : EC := (.seq (.seq (.ops [⟨(some 3), .mov (.t 0), none⟩,
    ⟨(some 4), .bin .rem (.t 3) (.c (.s (.int .i64 29))), none⟩,
    ⟨(some 5), .bin .eql (.t 4) (.c (.s (.int .i64 28))), none⟩] [0, 5])
  (.cond (.t 5) (.seq (.ops [⟨(some 6), .mov (.t 0), none⟩,
    ⟨(some 2), .mov (.t 6), none⟩] [2])
  (.ret [2]))
  .skip))
  s25_2)
def b25 : EC := (.seq (.ops [⟨(some 2), .mov (.c (.s (.int .i64 0))), none⟩] [0])
  s25_1)
def e25 : EF := ⟨12, b25, [.tmp 2]⟩

/-- scutage/scutageref09.Vector -/
def h26 : List (List Nat) := [[0, 1, 2], [0, 1, 2, 7], [1, 2, 7, 11, 12, 13], [1, 2, 7, 11, 12, 13], [1, 2, 7, 11, 12, 13, 14], [7], [1, 2, 7, 9, 11, 12, 13], [1, 2, 7, 9, 10, 11, 12, 13], [1, 2, 7, 9, 10, 11, 12, 13, 20], [1, 2, 7, 10, 11, 12, 13], [1, 2, 7, 10, 11, 12, 13], [1, 2, 7, 11, 12, 13], [1, 2, 7, 11, 12, 13], [6], [6]]
def l26_0_2 : EC := (.seq (.block 1 (.seq (.ops [⟨(some 15), .iad 37 3 (.t 11) (.t 13), none⟩,
    ⟨(some 16), .load true 3 (.t 15), none⟩,
    ⟨(some 9), .new 37 3 (.c (.agg [(.int .i64 0), (.int .i64 0), (.int .i64 0)])), none⟩,
    ⟨none, .store 3 (.t 9) (.t 16), none⟩] [1, 2, 7, 9, 11, 12, 13])
  (.seq (.ops [⟨(some 10), .mov (.c (.s (.int .i64 0))), none⟩] [1, 2, 7, 9, 10, 11, 12, 13])
  (.seq (.seq (.ops [⟨(some 17), .fad 1 (.t 9), none⟩,
    ⟨(some 18), .load false 1 (.t 17), none⟩,
    ⟨(some 19), .mov (.t 1), none⟩,
    ⟨(some 20), .bin .geq (.t 18) (.t 19), none⟩] [1, 2, 7, 9, 10, 11, 12, 13, 20])
  (.cond (.t 20) (.ops [⟨(some 21), .fad 2 (.t 9), none⟩,
    ⟨(some 22), .load false 1 (.t 21), none⟩,
    ⟨(some 23), .mov (.t 2), none⟩,
    ⟨(some 24), .mx (.t 23) [(.c (.s (.int .i64 0)))], none⟩,
    ⟨(some 25), .mn (.t 22) [(.t 24)], none⟩,
    ⟨(some 10), .mov (.t 25), none⟩] [1, 2, 7, 10, 11, 12, 13])
  .skip))
  (.seq (.ops [⟨(some 26), .mov (.t 7), none⟩,
    ⟨(some 27), .mov (.t 10), none⟩,
    ⟨(some 28), .bsl 3 1 [(.int .i64 0)] [(0, 1, (.t 27))], none⟩,
    ⟨(some 29), .app 3 1 8 (.t 26) (.t 28), none⟩,
    ⟨(some 7), .mov (.t 29), none⟩] [1, 2, 7, 10, 11, 12, 13])
  (.ops [⟨(some 30), .mov (.t 2), none⟩,
    ⟨(some 31), .mov (.t 10), none⟩,
    ⟨(some 32), .bin .sub (.t 30) (.t 31), none⟩,
    ⟨(some 2), .mov (.t 32), none⟩] [1, 2, 7, 11, 12, 13]))))))
  (.ops [⟨(some 33), .bin .add (.t 13) (.c (.s (.int .i64 1))), none⟩,
    ⟨(some 13), .mov (.t 33), none⟩] [1, 2, 7, 11, 12, 13]))
def l26_0_1 : EC := (.seq (.cond (.t 14) .skip
  (.exit 0 [7]))
  l26_0_2)
def l26_0 : EC := (.seq (.ops [⟨(some 14), .bin .lss (.t 13) (.t 12), none⟩] [1, 2, 7, 11, 12, 13, 14])
  l26_0_1)
def s26_3 : EC := (.seq (.ops [⟨(some 34), .mov (.t 7), none⟩,
    ⟨(some 6), .mov (.t 34), none⟩] [6])
  (.ret [6]))
def s26_2 : EC := (.seq (.seq (.ops [⟨(some 11), .mov (.t 0), none⟩,
    ⟨(some 12), .len (.t 11), none⟩,
    ⟨(some 13), .mov (.c (.s (.int .i64 0))), none⟩] [1, 2, 7, 11, 12, 13])
  (.block 0 (.loop [1, 2, 7, 11, 12, 13] l26_0)))
  s26_3)
def s26_1 : EC := (.seq (.ops [⟨(some 7), .mov (.c (.s .nils)), none⟩] [0, 1, 2, 7])
  s26_2)
def b26 : EC := (.seq (.ops [⟨(some 6), .mov (.c (.s .nils)), none⟩] [0, 1, 2])
  s26_1)
def e26 : EF := ⟨35, b26, [.tmp 6]⟩

/-- scutage/scutageref09.Room -/
def h27 : List (List Nat) := [[0, 1], [5], [4], [4]]
def s27_2 : EC := (.seq (.ops [⟨(some 13), .mov (.t 5), none⟩,
    ⟨(some 4), .mov (.t 13), none⟩] [4])
  (.ret [4]))
def s27_1 : EC := (.seq (.ops [⟨(some 8), .mov (.t 0), none⟩,
    ⟨(some 9), .mov (.t 1), none⟩,
    ⟨(some 10), .call 54 [(.t 8), (.t 9)], none⟩,
    ⟨(some 7), .mov (.t 10), none⟩,
    ⟨(some 11), .ext (.t 7) 0, none⟩,
    ⟨(some 12), .ext (.t 7) 1, none⟩,
    ⟨(some 5), .mov (.t 11), none⟩,
    ⟨(some 6), .mov (.t 12), none⟩] [5])
  s27_2)
def b27 : EC := (.seq (.ops [⟨(some 4), .mov (.c (.s (.int .i64 0))), none⟩] [0, 1])
  s27_1)
def e27 : EF := ⟨14, b27, [.tmp 4]⟩

/-- (*scutage/scutageref09.Losses).Add -/
def h52 : List (List Nat) := [[0, 1, 2, 3], [0, 1, 2, 3, 32], [8], [8], [0, 1, 2, 3, 37], [8], [8], [0, 1, 2, 3, 9], [0, 1, 2, 3, 9, 10], [0, 1, 2, 3, 9, 10, 41, 42, 43], [0, 1, 2, 3, 9, 10, 41, 42, 43], [0, 1, 2, 3, 9, 10, 41, 42, 43, 44], [0, 1, 2, 3, 9, 10], [0, 1, 2, 3, 9, 10, 12, 41, 42, 43], [0, 1, 2, 3, 9, 10, 12, 41, 42, 43, 56], [0, 1, 2, 3, 9, 12, 41, 42, 43], [0, 1, 2, 3, 9, 10, 12, 41, 42, 43], [0, 1, 2, 3, 9, 10, 12, 41, 42, 43, 81], [0, 1, 2, 3, 9, 10, 12, 41, 42, 43], [0, 1, 2, 3, 9, 10, 41, 42, 43], [0, 1, 2, 3, 9, 10, 41, 42, 43], [0, 1, 2, 3, 9, 95], [0, 9], [0, 9, 105], [8], [8], [], [8], [8]]
def l52_0_2 : EC := (.seq (.block 1 (.seq (.ops [⟨(some 45), .iad 37 3 (.t 41) (.t 43), none⟩,
    ⟨(some 46), .load true 3 (.t 45), none⟩,
    ⟨(some 12), .new 37 3 (.c (.agg [(.int .i64 0), (.int .i64 0), (.int .i64 0)])), none⟩,
    ⟨none, .store 3 (.t 12) (.t 46), none⟩] [0, 1, 2, 3, 9, 10, 12, 41, 42, 43])
  (.seq (.seq (.ops [⟨(some 47), .fad 0 (.t 12), none⟩,
    ⟨(some 48), .load false 1 (.t 47), none⟩,
    ⟨(some 49), .mov (.t 1), none⟩,
    ⟨(some 50), .bin .eql (.t 48) (.t 49), none⟩,
    ⟨(some 51), .mov (.t 50), none⟩,
    ⟨(some 52), .fad 1 (.t 12), (some (51, true))⟩,
    ⟨(some 53), .load false 1 (.t 52), (some (51, true))⟩,
    ⟨(some 54), .mov (.t 2), (some (51, true))⟩,
    ⟨(some 55), .bin .eql (.t 53) (.t 54), (some (51, true))⟩,
    ⟨(some 56), .pick (.t 51) (.t 55) (.c (.s (.bool false))), none⟩] [0, 1, 2, 3, 9, 10, 12, 41, 42, 43, 56])
  (.cond (.t 56) (.seq (.ops [⟨(some 57), .fad 2 (.t 12), none⟩,
    ⟨(some 58), .load false 1 (.t 57), none⟩,
    ⟨(some 59), .mov (.t 3), none⟩,
    ⟨(some 60), .bin .add (.t 58) (.t 59), none⟩,
    ⟨(some 61), .fad 2 (.t 12), none⟩,
    ⟨none, .store 1 (.t 61) (.t 60), none⟩] [0, 1, 2, 3, 9, 12, 41, 42, 43])
  (.ops [⟨(some 10), .mov (.c (.s (.bool true))), none⟩] [0, 1, 2, 3, 9, 10, 12, 41, 42, 43]))
  (.seq (.ops [⟨(some 62), .mov (.t 10), none⟩,
    ⟨(some 63), .un .not (.t 62), none⟩,
    ⟨(some 64), .mov (.t 63), none⟩,
    ⟨(some 65), .fad 1 (.t 12), (some (64, true))⟩,
    ⟨(some 66), .load false 1 (.t 65), (some (64, true))⟩,
    ⟨(some 67), .mov (.t 2), (some (64, true))⟩,
    ⟨(some 68), .bin .gtr (.t 66) (.t 67), (some (64, true))⟩,
    ⟨(some 69), .mov (.t 68), (some (64, true))⟩,
    ⟨(some 70), .fad 1 (.t 12), (some (69, false))⟩,
    ⟨(some 71), .load false 1 (.t 70), (some (69, false))⟩,
    ⟨(some 72), .mov (.t 2), (some (69, false))⟩,
    ⟨(some 73), .bin .eql (.t 71) (.t 72), (some (69, false))⟩,
    ⟨(some 74), .mov (.t 73), (some (69, false))⟩,
    ⟨(some 75), .fad 0 (.t 12), (some (74, true))⟩,
    ⟨(some 76), .load false 1 (.t 75), (some (74, true))⟩,
    ⟨(some 77), .mov (.t 1), (some (74, true))⟩,
    ⟨(some 78), .bin .gtr (.t 76) (.t 77), (some (74, true))⟩,
    ⟨(some 79), .pick (.t 74) (.t 78) (.c (.s (.bool false))), (some (69, false))⟩,
    ⟨(some 80), .pick (.t 69) (.c (.s (.bool true))) (.t 79), (some (64, true))⟩,
    ⟨(some 81), .pick (.t 64) (.t 80) (.c (.s (.bool false))), none⟩] [0, 1, 2, 3, 9, 10, 12, 41, 42, 43, 81])
  (.cond (.t 81) (.ops [⟨(some 82), .mov (.t 9), none⟩,
    ⟨(some 83), .mov (.t 1), none⟩,
    ⟨(some 84), .mov (.t 2), none⟩,
    ⟨(some 85), .mov (.t 3), none⟩,
    ⟨(some 86), .build [(.int .i64 0), (.int .i64 0), (.int .i64 0)] [(0, 1, (.t 83)), (1, 1, (.t 84)), (2, 1, (.t 85))], none⟩,
    ⟨(some 87), .bsl 37 1 [(.int .i64 0), (.int .i64 0), (.int .i64 0)] [(0, 3, (.t 86))], none⟩,
    ⟨(some 88), .app 37 3 24 (.t 82) (.t 87), none⟩,
    ⟨(some 9), .mov (.t 88), none⟩,
    ⟨(some 10), .mov (.c (.s (.bool true))), none⟩] [0, 1, 2, 3, 9, 10, 12, 41, 42, 43])
  .skip))))
  (.ops [⟨(some 89), .mov (.t 9), none⟩,
    ⟨(some 90), .load true 3 (.t 12), none⟩,
    ⟨(some 91), .bsl 37 1 [(.int .i64 0), (.int .i64 0), (.int .i64 0)] [(0, 3, (.t 90))], none⟩,
    ⟨(some 92), .app 37 3 24 (.t 89) (.t 91), none⟩,
    ⟨(some 9), .mov (.t 92), none⟩] [0, 1, 2, 3, 9, 10, 41, 42, 43]))))
  (.ops [⟨(some 93), .bin .add (.t 43) (.c (.s (.int .i64 1))), none⟩,
    ⟨(some 43), .mov (.t 93), none⟩] [0, 1, 2, 3, 9, 10, 41, 42, 43]))
def l52_0_1 : EC := (.seq (.cond (.t 44) .skip
  (.exit 0 [0, 1, 2, 3, 9, 10]))
  l52_0_2)
def l52_0 : EC := (.seq (.ops [⟨(some 44), .bin .lss (.t 43) (.t 42), none⟩] [0, 1, 2, 3, 9, 10, 41, 42, 43, 44])
  l52_0_1)
def s52_9 : EC := (.seq (.ops [⟨(some 8), .mov (.c (.s (.int .i64 0))), none⟩] [8])
  (.ret [8]))
def s52_8 : EC := (.seq (.ops [⟨(some 106), .mov (.t 0), none⟩,
    ⟨(some 107), .mov (.t 9), none⟩,
    ⟨(some 108), .nilc (.t 106), none⟩,
    ⟨(some 109), .fad 0 (.t 108), none⟩,
    ⟨none, .store 1 (.t 109) (.t 107), none⟩] [])
  s52_9)
def s52_7 : EC := (.seq (.seq (.ops [⟨(some 103), .mov (.t 9), none⟩,
    ⟨(some 104), .len (.t 103), none⟩,
    ⟨(some 105), .bin .gtr (.t 104) (.c (.s (.int .i64 12))), none⟩] [0, 9, 105])
  (.cond (.t 105) (.seq (.ops [⟨(some 8), .mov (.c (.s (.int .i64 5))), none⟩] [8])
  (.ret [8]))
  .skip))
  s52_8)
def s52_6 : EC := (.seq (.seq (.ops [⟨(some 94), .mov (.t 10), none⟩,
    ⟨(some 95), .un .not (.t 94), none⟩] [0, 1, 2, 3, 9, 95])
  (.cond (.t 95) (.ops [⟨(some 96), .mov (.t 9), none⟩,
    ⟨(some 97), .mov (.t 1), none⟩,
    ⟨(some 98), .mov (.t 2), none⟩,
    ⟨(some 99), .mov (.t 3), none⟩,
    ⟨(some 100), .build [(.int .i64 0), (.int .i64 0), (.int .i64 0)] [(0, 1, (.t 97)), (1, 1, (.t 98)), (2, 1, (.t 99))], none⟩,
    ⟨(some 101), .bsl 37 1 [(.int .i64 0), (.int .i64 0), (.int .i64 0)] [(0, 3, (.t 100))], none⟩,
    ⟨(some 102), .app 37 3 24 (.t 96) (.t 101), none⟩,
    ⟨(some 9), .mov (.t 102), none⟩] [0, 9])
  .skip))
  s52_7)
def s52_5 : EC := (.seq (.seq (.ops [⟨(some 38), .mov (.t 0), none⟩,
    ⟨(some 39), .nilc (.t 38), none⟩,
    ⟨(some 40), .fad 0 (.t 39), none⟩,
    ⟨(some 41), .load false 1 (.t 40), none⟩,
    ⟨(some 42), .len (.t 41), none⟩,
    ⟨(some 43), .mov (.c (.s (.int .i64 0))), none⟩] [0, 1, 2, 3, 9, 10, 41, 42, 43])
  (.block 0 (.loop [0, 1, 2, 3, 9, 10, 41, 42, 43] l52_0)))
  s52_6)
def s52_4 : EC := (.seq (.ops [⟨(some 10), .mov (.c (.s (.bool false))), none⟩] [0, 1, 2, 3, 9, 10])
  s52_5)
def s52_3 : EC := (.seq (.ops [⟨(some 9), .mov (.c (.s .nils)), none⟩] [0, 1, 2, 3, 9])
  s52_4)
def s52_2 : EC := (.seq (.seq (.ops [⟨(some 33), .mov (.t 0), none⟩,
    ⟨(some 34), .call 73 [(.t 33)], none⟩,
    ⟨(some 35), .mov (.t 3), none⟩,
    ⟨(some 36), .bin .add (.t 34) (.t 35), none⟩,
    ⟨(some 37), .bin .gtr (.t 36) (.c (.s (.int .i64 100000000000))), none⟩] [0, 1, 2, 3, 37])
  (.cond (.t 37) (.seq (.ops [⟨(some 8), .mov (.c (.s (.int .i64 6))), none⟩] [8])
  (.ret [8]))
  .skip))
  s52_3)
def s52_1 : EC := (.seq (.seq (.ops [⟨(some 13), .mov (.t 1), none⟩,
    ⟨(some 14), .call 64 [(.t 13)], none⟩,
    ⟨(some 15), .un .not (.t 14), none⟩,
    ⟨(some 16), .mov (.t 15), none⟩,
    ⟨(some 17), .mov (.t 2), (some (16, false))⟩,
    ⟨(some 18), .mov (.t 1), (some (16, false))⟩,
    ⟨(some 19), .bin .lss (.t 17) (.t 18), (some (16, false))⟩,
    ⟨(some 20), .pick (.t 16) (.c (.s (.bool true))) (.t 19), none⟩,
    ⟨(some 21), .mov (.t 20), none⟩,
    ⟨(some 22), .mov (.t 2), (some (21, false))⟩,
    ⟨(some 23), .bin .gtr (.t 22) (.c (.s (.int .i64 198))), (some (21, false))⟩,
    ⟨(some 24), .pick (.t 21) (.c (.s (.bool true))) (.t 23), none⟩,
    ⟨(some 25), .mov (.t 24), none⟩,
    ⟨(some 26), .mov (.t 3), (some (25, false))⟩,
    ⟨(some 27), .bin .lss (.t 26) (.c (.s (.int .i64 1))), (some (25, false))⟩,
    ⟨(some 28), .pick (.t 25) (.c (.s (.bool true))) (.t 27), none⟩,
    ⟨(some 29), .mov (.t 28), none⟩,
    ⟨(some 30), .mov (.t 3), (some (29, false))⟩,
    ⟨(some 31), .bin .gtr (.t 30) (.c (.s (.int .i64 100000000000))), (some (29, false))⟩,
    ⟨(some 32), .pick (.t 29) (.c (.s (.bool true))) (.t 31), none⟩] [0, 1, 2, 3, 32])
  (.cond (.t 32) (.seq (.ops [⟨(some 8), .mov (.c (.s (.int .i64 1))), none⟩] [8])
  (.ret [8]))
  .skip))
  s52_2)
def b52 : EC := (.seq (.ops [⟨(some 8), .mov (.c (.s (.int .i64 0))), none⟩] [0, 1, 2, 3])
  s52_1)
def e52 : EF := ⟨110, b52, [.tmp 8]⟩

/-- scutage/rate.Floor -/
def h53 : List (List Nat) := [[0, 1], [0, 1, 17], [4, 5], [4, 5], [4, 5], [4, 5]]
def s53_2 : EC := (.seq (.ops [⟨(some 18), .mov (.t 0), none⟩,
    ⟨(some 19), .mov (.t 1), none⟩,
    ⟨(some 20), .bin .mul (.t 18) (.t 19), none⟩,
    ⟨(some 21), .bin .quo (.t 20) (.c (.s (.int .i64 1000000))), none⟩,
    ⟨(some 4), .mov (.t 21), none⟩,
    ⟨(some 5), .mov (.c (.s (.bool true))), none⟩] [4, 5])
  (.ret [4, 5]))
def s53_1 : EC := (.seq (.seq (.ops [⟨(some 6), .mov (.t 0), none⟩,
    ⟨(some 7), .call 57 [(.t 6)], none⟩,
    ⟨(some 8), .un .not (.t 7), none⟩,
    ⟨(some 9), .mov (.t 8), none⟩,
    ⟨(some 10), .mov (.t 0), (some (9, false))⟩,
    ⟨(some 11), .bin .lss (.t 10) (.c (.s (.int .i64 0))), (some (9, false))⟩,
    ⟨(some 12), .pick (.t 9) (.c (.s (.bool true))) (.t 11), none⟩,
    ⟨(some 13), .mov (.t 12), none⟩,
    ⟨(some 14), .mov (.t 1), (some (13, false))⟩,
    ⟨(some 15), .call 56 [(.t 14)], (some (13, false))⟩,
    ⟨(some 16), .un .not (.t 15), (some (13, false))⟩,
    ⟨(some 17), .pick (.t 13) (.c (.s (.bool true))) (.t 16), none⟩] [0, 1, 17])
  (.cond (.t 17) (.seq (.ops [⟨(some 4), .mov (.c (.s (.int .i64 0))), none⟩,
    ⟨(some 5), .mov (.c (.s (.bool false))), none⟩] [4, 5])
  (.ret [4, 5]))
  .skip))
  s53_2)
def b53 : EC := (.seq (.ops [⟨(some 4), .mov (.c (.s (.int .i64 0))), none⟩,
    ⟨(some 5), .mov (.c (.s (.bool false))), none⟩] [0, 1])
  s53_1)
def e53 : EF := ⟨22, b53, [.tmp 4, .tmp 5]⟩

/-- scutage/scutageref01.Floor -/
def h54 : List (List Nat) := [[0, 1], [0, 1, 17], [4, 5], [4, 5], [4, 5], [4, 5]]
def s54_2 : EC := (.seq (.ops [⟨(some 18), .mov (.t 0), none⟩,
    ⟨(some 19), .mov (.t 1), none⟩,
    ⟨(some 20), .bin .mul (.t 18) (.t 19), none⟩,
    ⟨(some 21), .bin .quo (.t 20) (.c (.s (.int .i64 1000000))), none⟩,
    ⟨(some 4), .mov (.t 21), none⟩,
    ⟨(some 5), .mov (.c (.s (.bool true))), none⟩] [4, 5])
  (.ret [4, 5]))
def s54_1 : EC := (.seq (.seq (.ops [⟨(some 6), .mov (.t 0), none⟩,
    ⟨(some 7), .bin .lss (.t 6) (.c (.s (.int .i64 0))), none⟩,
    ⟨(some 8), .mov (.t 7), none⟩,
    ⟨(some 9), .mov (.t 0), (some (8, false))⟩,
    ⟨(some 10), .call 68 [(.t 9)], (some (8, false))⟩,
    ⟨(some 11), .un .not (.t 10), (some (8, false))⟩,
    ⟨(some 12), .pick (.t 8) (.c (.s (.bool true))) (.t 11), none⟩,
    ⟨(some 13), .mov (.t 12), none⟩,
    ⟨(some 14), .mov (.t 1), (some (13, false))⟩,
    ⟨(some 15), .call 65 [(.t 14)], (some (13, false))⟩,
    ⟨(some 16), .un .not (.t 15), (some (13, false))⟩,
    ⟨(some 17), .pick (.t 13) (.c (.s (.bool true))) (.t 16), none⟩] [0, 1, 17])
  (.cond (.t 17) (.seq (.ops [⟨(some 4), .mov (.c (.s (.int .i64 0))), none⟩,
    ⟨(some 5), .mov (.c (.s (.bool false))), none⟩] [4, 5])
  (.ret [4, 5]))
  .skip))
  s54_2)
def b54 : EC := (.seq (.ops [⟨(some 4), .mov (.c (.s (.int .i64 0))), none⟩,
    ⟨(some 5), .mov (.c (.s (.bool false))), none⟩] [0, 1])
  s54_1)
def e54 : EF := ⟨22, b54, [.tmp 4, .tmp 5]⟩

/-- scutage/rate.Right -/
def h56 : List (List Nat) := [[0], [2], [2]]
def s56_1 : EC := (.seq (.ops [⟨(some 3), .mov (.t 0), none⟩,
    ⟨(some 4), .bin .geq (.t 3) (.c (.s (.int .i64 0))), none⟩,
    ⟨(some 5), .mov (.t 4), none⟩,
    ⟨(some 6), .mov (.t 0), (some (5, true))⟩,
    ⟨(some 7), .bin .leq (.t 6) (.c (.s (.int .i64 1000000))), (some (5, true))⟩,
    ⟨(some 8), .pick (.t 5) (.t 7) (.c (.s (.bool false))), none⟩,
    ⟨(some 2), .mov (.t 8), none⟩] [2])
  (.ret [2]))
def b56 : EC := (.seq (.ops [⟨(some 2), .mov (.c (.s (.bool false))), none⟩] [0])
  s56_1)
def e56 : EF := ⟨9, b56, [.tmp 2]⟩

/-- scutage/rate.Money -/
def h57 : List (List Nat) := [[0], [2], [2]]
def s57_1 : EC := (.seq (.ops [⟨(some 3), .mov (.t 0), none⟩,
    ⟨(some 4), .bin .geq (.t 3) (.c (.s (.int .i64 (-100000000000)))), none⟩,
    ⟨(some 5), .mov (.t 4), none⟩,
    ⟨(some 6), .mov (.t 0), (some (5, true))⟩,
    ⟨(some 7), .bin .leq (.t 6) (.c (.s (.int .i64 100000000000))), (some (5, true))⟩,
    ⟨(some 8), .pick (.t 5) (.t 7) (.c (.s (.bool false))), none⟩,
    ⟨(some 2), .mov (.t 8), none⟩] [2])
  (.ret [2]))
def b57 : EC := (.seq (.ops [⟨(some 2), .mov (.c (.s (.bool false))), none⟩] [0])
  s57_1)
def e57 : EF := ⟨9, b57, [.tmp 2]⟩

/-- scutage/scutageref09.Year -/
def h64 : List (List Nat) := [[0], [2], [2]]
def s64_1 : EC := (.seq (.ops [⟨(some 3), .mov (.t 0), none⟩,
    ⟨(some 4), .bin .geq (.t 3) (.c (.s (.int .i64 0))), none⟩,
    ⟨(some 5), .mov (.t 4), none⟩,
    ⟨(some 6), .mov (.t 0), (some (5, true))⟩,
    ⟨(some 7), .bin .leq (.t 6) (.c (.s (.int .i64 99))), (some (5, true))⟩,
    ⟨(some 8), .pick (.t 5) (.t 7) (.c (.s (.bool false))), none⟩,
    ⟨(some 2), .mov (.t 8), none⟩] [2])
  (.ret [2]))
def b64 : EC := (.seq (.ops [⟨(some 2), .mov (.c (.s (.bool false))), none⟩] [0])
  s64_1)
def e64 : EF := ⟨9, b64, [.tmp 2]⟩

/-- scutage/scutageref01.Right -/
def h65 : List (List Nat) := [[0], [2], [2]]
def s65_1 : EC := (.seq (.ops [⟨(some 3), .mov (.t 0), none⟩,
    ⟨(some 4), .bin .geq (.t 3) (.c (.s (.int .i64 0))), none⟩,
    ⟨(some 5), .mov (.t 4), none⟩,
    ⟨(some 6), .mov (.t 0), (some (5, true))⟩,
    ⟨(some 7), .bin .leq (.t 6) (.c (.s (.int .i64 1000000))), (some (5, true))⟩,
    ⟨(some 8), .pick (.t 5) (.t 7) (.c (.s (.bool false))), none⟩,
    ⟨(some 2), .mov (.t 8), none⟩] [2])
  (.ret [2]))
def b65 : EC := (.seq (.ops [⟨(some 2), .mov (.c (.s (.bool false))), none⟩] [0])
  s65_1)
def e65 : EF := ⟨9, b65, [.tmp 2]⟩

/-- scutage/scutageref01.Money -/
def h68 : List (List Nat) := [[0], [2], [2]]
def s68_1 : EC := (.seq (.ops [⟨(some 3), .mov (.t 0), none⟩,
    ⟨(some 4), .bin .geq (.t 3) (.c (.s (.int .i64 (-100000000000)))), none⟩,
    ⟨(some 5), .mov (.t 4), none⟩,
    ⟨(some 6), .mov (.t 0), (some (5, true))⟩,
    ⟨(some 7), .bin .leq (.t 6) (.c (.s (.int .i64 100000000000))), (some (5, true))⟩,
    ⟨(some 8), .pick (.t 5) (.t 7) (.c (.s (.bool false))), none⟩,
    ⟨(some 2), .mov (.t 8), none⟩] [2])
  (.ret [2]))
def b68 : EC := (.seq (.ops [⟨(some 2), .mov (.c (.s (.bool false))), none⟩] [0])
  s68_1)
def e68 : EF := ⟨9, b68, [.tmp 2]⟩

/-- (*scutage/scutageref09.Losses).Left -/
def h73 : List (List Nat) := [[0], [0, 3], [3, 9, 10, 11], [3, 9, 10, 11], [3, 9, 10, 11, 12], [3], [3, 5, 9, 10, 11], [3, 9, 10, 11], [3, 9, 10, 11], [2], [2]]
def l73_0_2 : EC := (.seq (.block 1 (.seq (.ops [⟨(some 13), .iad 37 3 (.t 9) (.t 11), none⟩,
    ⟨(some 14), .load true 3 (.t 13), none⟩,
    ⟨(some 5), .new 37 3 (.c (.agg [(.int .i64 0), (.int .i64 0), (.int .i64 0)])), none⟩,
    ⟨none, .store 3 (.t 5) (.t 14), none⟩] [3, 5, 9, 10, 11])
  (.ops [⟨(some 15), .mov (.t 3), none⟩,
    ⟨(some 16), .fad 2 (.t 5), none⟩,
    ⟨(some 17), .load false 1 (.t 16), none⟩,
    ⟨(some 18), .bin .add (.t 15) (.t 17), none⟩,
    ⟨(some 3), .mov (.t 18), none⟩] [3, 9, 10, 11])))
  (.ops [⟨(some 19), .bin .add (.t 11) (.c (.s (.int .i64 1))), none⟩,
    ⟨(some 11), .mov (.t 19), none⟩] [3, 9, 10, 11]))
def l73_0_1 : EC := (.seq (.cond (.t 12) .skip
  (.exit 0 [3]))
  l73_0_2)
def l73_0 : EC := (.seq (.ops [⟨(some 12), .bin .lss (.t 11) (.t 10), none⟩] [3, 9, 10, 11, 12])
  l73_0_1)
def s73_3 : EC := (.seq (.ops [⟨(some 20), .mov (.t 3), none⟩,
    ⟨(some 2), .mov (.t 20), none⟩] [2])
  (.ret [2]))
def s73_2 : EC := (.seq (.seq (.ops [⟨(some 6), .mov (.t 0), none⟩,
    ⟨(some 7), .nilc (.t 6), none⟩,
    ⟨(some 8), .fad 0 (.t 7), none⟩,
    ⟨(some 9), .load false 1 (.t 8), none⟩,
    ⟨(some 10), .len (.t 9), none⟩,
    ⟨(some 11), .mov (.c (.s (.int .i64 0))), none⟩] [3, 9, 10, 11])
  (.block 0 (.loop [3, 9, 10, 11] l73_0)))
  s73_3)
def s73_1 : EC := (.seq (.ops [⟨(some 3), .mov (.c (.s (.int .i64 0))), none⟩] [0, 3])
  s73_2)
def b73 : EC := (.seq (.ops [⟨(some 2), .mov (.c (.s (.int .i64 0))), none⟩] [0])
  s73_1)
def e73 : EF := ⟨21, b73, [.tmp 2]⟩

def C : Nat → Option EF
  | 3 => some e3
  | 5 => some e5
  | 6 => some e6
  | 7 => some e7
  | 15 => some e15
  | 16 => some e16
  | 17 => some e17
  | 18 => some e18
  | 19 => some e19
  | 20 => some e20
  | 21 => some e21
  | 22 => some e22
  | 23 => some e23
  | 24 => some e24
  | 25 => some e25
  | 26 => some e26
  | 27 => some e27
  | 52 => some e52
  | 53 => some e53
  | 54 => some e54
  | 56 => some e56
  | 57 => some e57
  | 64 => some e64
  | 65 => some e65
  | 68 => some e68
  | 73 => some e73
  | _ => none
end Go.Proofs.Ytfnihfcdoibleaa.Ev.CU
