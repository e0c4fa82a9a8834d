/- The code of some functions for the small machine (printed by wip/tools/EvPrint.lean). -/
import Derived.Test.YtcimcccnhbbncaaEvKit
namespace Go.Proofs.Ytcimcccnhbbncaa.Ev.CE
open Go
/-- scutage/scutagelaw16.MeasureSums -/
def h3 : List (List Nat) := [[0, 1], [1, 5], [1, 5], [1, 5, 6, 7, 8], [1, 5, 6, 7, 8, 9, 10], [1, 5, 6, 7, 8, 9, 10, 11], [1, 5, 6, 7, 8, 9, 10, 11, 42, 43], [1, 5, 6, 7, 8, 9, 10, 11, 42, 43], [1, 5, 6, 7, 8, 9, 10, 11, 42, 43, 44], [5, 6, 7, 8, 9, 10, 11], [1, 5, 6, 7, 8, 9, 10, 11, 12, 42, 43], [1, 5, 6, 7, 8, 9, 10, 11, 12, 42, 43], [1, 5, 6, 7, 8, 9, 10, 11, 12, 42, 43], [1, 5, 6, 7, 8, 9, 10, 11, 12, 13, 14, 42, 43], [1, 5, 6, 7, 8, 9, 10, 11, 12, 13, 42, 43, 78], [4], [4], [1, 5, 6, 7, 8, 9, 10, 11, 12, 42, 43], [1, 5, 6, 7, 8, 9, 10, 11, 42, 43], [1, 5, 6, 7, 8, 9, 10, 11, 42, 43], [5, 6, 7, 8, 9, 10, 11, 15, 16], [5, 7, 8, 9, 10, 15, 16, 17, 18], [5, 8, 9, 10, 15, 16, 17, 18, 19, 20], [9, 10, 15, 16, 17, 18, 19, 20, 21, 22], [10, 19, 20, 21, 22, 131], [4], [4], [4], [4]]
def l3_0_2 : EC := (.seq (.block 1 (.seq (.ops [⟨(some 45), .mov (.t 43), none⟩,
    ⟨(some 12), .mov (.t 45), none⟩] [1, 5, 6, 7, 8, 9, 10, 11, 12, 42, 43])
  (.seq (.ops [⟨(some 46), .mov (.t 6), none⟩,
    ⟨(some 47), .mov (.t 12), none⟩,
    ⟨(some 48), .mov (.t 8), none⟩,
    ⟨(some 49), .mov (.t 12), none⟩,
    ⟨(some 50), .mov (.t 1), none⟩,
    ⟨(some 51), .iad 3 1 (.t 46) (.t 47), none⟩,
    ⟨none, .store 1 (.t 51) (.t 50), none⟩,
    ⟨(some 52), .iad 3 1 (.t 48) (.t 49), none⟩,
    ⟨none, .store 1 (.t 52) (.c (.s (.int .i64 1000000))), none⟩] [1, 5, 6, 7, 8, 9, 10, 11, 12, 42, 43])
  (.seq (.ops [⟨(some 53), .mov (.t 11), none⟩,
    ⟨(some 54), .mov (.t 12), none⟩,
    ⟨(some 55), .mov (.t 5), none⟩,
    ⟨(some 56), .mov (.t 12), none⟩,
    ⟨(some 57), .iad 30 3 (.t 55) (.t 56), none⟩,
    ⟨(some 58), .fad 2 (.t 57), none⟩,
    ⟨(some 59), .load false 1 (.t 58), none⟩,
    ⟨(some 60), .un .neg (.t 59), none⟩,
    ⟨(some 61), .iad 30 3 (.t 53) (.t 54), none⟩,
    ⟨(some 62), .fad 2 (.t 61), none⟩,
    ⟨none, .store 1 (.t 62) (.t 60), none⟩] [1, 5, 6, 7, 8, 9, 10, 11, 12, 42, 43])
  (.seq (.draw [⟨(some 64), .mov (.t 5), none⟩,
    ⟨(some 65), .mov (.t 12), none⟩,
    ⟨(some 66), .mov (.t 12), none⟩,
    ⟨(some 67), .bin .add (.t 66) (.c (.s (.int .i64 1))), none⟩,
    ⟨(some 68), .sli 30 3 (.t 64) (some (.t 65)) (some (.t 67)), none⟩,
    ⟨(some 69), .mov (.t 6), none⟩,
    ⟨(some 70), .mov (.t 12), none⟩,
    ⟨(some 71), .mov (.t 12), none⟩,
    ⟨(some 72), .bin .add (.t 71) (.c (.s (.int .i64 1))), none⟩,
    ⟨(some 73), .sli 3 1 (.t 69) (some (.t 70)) (some (.t 72)), none⟩,
    ⟨(some 74), .call 15 [(.t 68), (.t 73)], none⟩,
    ⟨(some 63), .mov (.t 74), none⟩,
    ⟨(some 75), .ext (.t 63) 0, none⟩,
    ⟨(some 76), .ext (.t 63) 1, none⟩,
    ⟨(some 13), .mov (.t 75), none⟩,
    ⟨(some 14), .mov (.t 76), none⟩] [] [1, 5, 6, 7, 8, 9, 10, 11, 12, 13, 14, 42, 43])
  (.seq (.seq (.ops [⟨(some 77), .mov (.t 14), none⟩,
    ⟨(some 78), .bin .neq (.t 77) (.c (.s (.int .i64 0))), none⟩] [1, 5, 6, 7, 8, 9, 10, 11, 12, 13, 42, 43, 78])
  (.cond (.t 78) (.seq (.ops [⟨(some 4), .mov (.c (.s (.bool false))), none⟩] [4])
  (.ret [4]))
  .skip))
  (.seq (.ops [⟨(some 79), .mov (.t 9), none⟩,
    ⟨(some 80), .mov (.t 13), none⟩,
    ⟨(some 81), .bin .add (.t 79) (.t 80), none⟩,
    ⟨(some 9), .mov (.t 81), none⟩] [1, 5, 6, 7, 8, 9, 10, 11, 12, 42, 43])
  (.ops [⟨(some 82), .mov (.t 10), none⟩,
    ⟨(some 83), .mov (.t 5), none⟩,
    ⟨(some 84), .mov (.t 12), none⟩,
    ⟨(some 85), .iad 30 3 (.t 83) (.t 84), none⟩,
    ⟨(some 86), .fad 2 (.t 85), none⟩,
    ⟨(some 87), .load false 1 (.t 86), none⟩,
    ⟨(some 88), .bin .add (.t 82) (.t 87), none⟩,
    ⟨(some 10), .mov (.t 88), none⟩] [1, 5, 6, 7, 8, 9, 10, 11, 42, 43]))))))))
  (.ops [⟨(some 89), .bin .add (.t 43) (.c (.s (.int .i64 1))), none⟩,
    ⟨(some 43), .mov (.t 89), none⟩] [1, 5, 6, 7, 8, 9, 10, 11, 42, 43]))
def l3_0_1 : EC := (.seq (.cond (.t 44) .skip
  (.exit 0 [5, 6, 7, 8, 9, 10, 11]))
  l3_0_2)
def l3_0 : EC := (.seq (.ops [⟨(some 44), .bin .lss (.t 43) (.t 42), none⟩] [1, 5, 6, 7, 8, 9, 10, 11, 42, 43, 44])
  l3_0_1)
def s3_12 : EC := (.seq (.ops [⟨(some 132), .mov (.t 20), none⟩,
    ⟨(some 133), .bin .eql (.t 132) (.c (.s (.int .i64 0))), none⟩,
    ⟨(some 134), .mov (.t 133), none⟩,
    ⟨(some 135), .mov (.t 19), (some (134, true))⟩,
    ⟨(some 136), .bin .eql (.t 135) (.c (.s (.int .i64 0))), (some (134, true))⟩,
    ⟨(some 137), .pick (.t 134) (.t 136) (.c (.s (.bool false))), none⟩,
    ⟨(some 138), .mov (.t 137), none⟩,
    ⟨(some 139), .mov (.t 22), (some (138, true))⟩,
    ⟨(some 140), .bin .eql (.t 139) (.c (.s (.int .i64 0))), (some (138, true))⟩,
    ⟨(some 141), .pick (.t 138) (.t 140) (.c (.s (.bool false))), none⟩,
    ⟨(some 142), .mov (.t 141), none⟩,
    ⟨(some 143), .mov (.t 21), (some (142, true))⟩,
    ⟨(some 144), .mov (.t 10), (some (142, true))⟩,
    ⟨(some 145), .un .neg (.t 144), (some (142, true))⟩,
    ⟨(some 146), .bin .eql (.t 143) (.t 145), (some (142, true))⟩,
    ⟨(some 147), .pick (.t 142) (.t 146) (.c (.s (.bool false))), none⟩,
    ⟨(some 148), .mov (.t 147), none⟩,
    ⟨(some 149), .call 16 [], (some (148, true))⟩,
    ⟨(some 150), .pick (.t 148) (.t 149) (.c (.s (.bool false))), none⟩,
    ⟨(some 4), .mov (.t 150), none⟩] [4])
  (.ret [4]))
def s3_11 : EC := (.seq (.seq (.ops [⟨(some 114), .mov (.t 16), none⟩,
    ⟨(some 115), .bin .eql (.t 114) (.c (.s (.int .i64 0))), none⟩,
    ⟨(some 116), .mov (.t 115), none⟩,
    ⟨(some 117), .mov (.t 15), (some (116, true))⟩,
    ⟨(some 118), .mov (.t 9), (some (116, true))⟩,
    ⟨(some 119), .bin .neq (.t 117) (.t 118), (some (116, true))⟩,
    ⟨(some 120), .mov (.t 119), (some (116, true))⟩,
    ⟨(some 121), .mov (.t 17), (some (120, false))⟩,
    ⟨(some 122), .mov (.t 9), (some (120, false))⟩,
    ⟨(some 123), .un .neg (.t 122), (some (120, false))⟩,
    ⟨(some 124), .bin .neq (.t 121) (.t 123), (some (120, false))⟩,
    ⟨(some 125), .pick (.t 120) (.c (.s (.bool true))) (.t 124), (some (116, true))⟩,
    ⟨(some 126), .pick (.t 116) (.t 125) (.c (.s (.bool false))), none⟩,
    ⟨(some 127), .mov (.t 126), none⟩,
    ⟨(some 128), .mov (.t 16), (some (127, false))⟩,
    ⟨(some 129), .mov (.t 18), (some (127, false))⟩,
    ⟨(some 130), .bin .neq (.t 128) (.t 129), (some (127, false))⟩,
    ⟨(some 131), .pick (.t 127) (.c (.s (.bool true))) (.t 130), none⟩] [10, 19, 20, 21, 22, 131])
  (.cond (.t 131) (.seq (.ops [⟨(some 4), .mov (.c (.s (.bool false))), none⟩] [4])
  (.ret [4]))
  .skip))
  s3_12)
def s3_10 : EC := (.seq (.ops [⟨(some 109), .mov (.t 5), none⟩,
    ⟨(some 110), .mov (.t 8), none⟩,
    ⟨(some 111), .call 15 [(.t 109), (.t 110)], none⟩,
    ⟨(some 108), .mov (.t 111), none⟩,
    ⟨(some 112), .ext (.t 108) 0, none⟩,
    ⟨(some 113), .ext (.t 108) 1, none⟩,
    ⟨(some 21), .mov (.t 112), none⟩,
    ⟨(some 22), .mov (.t 113), none⟩] [9, 10, 15, 16, 17, 18, 19, 20, 21, 22])
  s3_11)
def s3_9 : EC := (.seq (.ops [⟨(some 103), .mov (.t 5), none⟩,
    ⟨(some 104), .mov (.t 7), none⟩,
    ⟨(some 105), .call 15 [(.t 103), (.t 104)], none⟩,
    ⟨(some 102), .mov (.t 105), none⟩,
    ⟨(some 106), .ext (.t 102) 0, none⟩,
    ⟨(some 107), .ext (.t 102) 1, none⟩,
    ⟨(some 19), .mov (.t 106), none⟩,
    ⟨(some 20), .mov (.t 107), none⟩] [5, 8, 9, 10, 15, 16, 17, 18, 19, 20])
  s3_10)
def s3_8 : EC := (.seq (.ops [⟨(some 97), .mov (.t 11), none⟩,
    ⟨(some 98), .mov (.t 6), none⟩,
    ⟨(some 99), .call 15 [(.t 97), (.t 98)], none⟩,
    ⟨(some 96), .mov (.t 99), none⟩,
    ⟨(some 100), .ext (.t 96) 0, none⟩,
    ⟨(some 101), .ext (.t 96) 1, none⟩,
    ⟨(some 17), .mov (.t 100), none⟩,
    ⟨(some 18), .mov (.t 101), none⟩] [5, 7, 8, 9, 10, 15, 16, 17, 18])
  s3_9)
def s3_7 : EC := (.seq (.ops [⟨(some 91), .mov (.t 5), none⟩,
    ⟨(some 92), .mov (.t 6), none⟩,
    ⟨(some 93), .call 15 [(.t 91), (.t 92)], none⟩,
    ⟨(some 90), .mov (.t 93), none⟩,
    ⟨(some 94), .ext (.t 90) 0, none⟩,
    ⟨(some 95), .ext (.t 90) 1, none⟩,
    ⟨(some 15), .mov (.t 94), none⟩,
    ⟨(some 16), .mov (.t 95), none⟩] [5, 6, 7, 8, 9, 10, 11, 15, 16])
  s3_8)
def s3_6 : EC := (.seq (.seq (.ops [⟨(some 41), .mov (.t 5), none⟩,
    ⟨(some 42), .len (.t 41), none⟩,
    ⟨(some 43), .mov (.c (.s (.int .i64 0))), none⟩] [1, 5, 6, 7, 8, 9, 10, 11, 42, 43])
  (.block 0 (.loop [1, 5, 6, 7, 8, 9, 10, 11, 42, 43] l3_0)))
  s3_7)
def s3_5 : EC := (.seq (.ops [⟨(some 39), .mov (.t 5), none⟩,
    ⟨(some 40), .app 30 3 24 (.c (.s .nils)) (.t 39), none⟩,
    ⟨(some 11), .mov (.t 40), none⟩] [1, 5, 6, 7, 8, 9, 10, 11])
  s3_6)
def s3_4 : EC := (.seq (.ops [⟨(some 9), .mov (.c (.s (.int .i64 0))), none⟩,
    ⟨(some 10), .mov (.c (.s (.int .i64 0))), none⟩] [1, 5, 6, 7, 8, 9, 10])
  s3_5)
def s3_3 : EC := (.seq (.draw [⟨(some 30), .mov (.t 5), none⟩,
    ⟨(some 31), .len (.t 30), none⟩,
    ⟨(some 32), .mks 3 8 [(.int .i64 0)] (.t 31), none⟩,
    ⟨(some 33), .mov (.t 5), none⟩,
    ⟨(some 34), .len (.t 33), none⟩,
    ⟨(some 35), .mks 3 8 [(.int .i64 0)] (.t 34), none⟩,
    ⟨(some 36), .mov (.t 5), none⟩,
    ⟨(some 37), .len (.t 36), none⟩,
    ⟨(some 38), .mks 3 8 [(.int .i64 0)] (.t 37), none⟩,
    ⟨(some 6), .mov (.t 32), none⟩,
    ⟨(some 7), .mov (.t 35), none⟩,
    ⟨(some 8), .mov (.t 38), none⟩] [] [1, 5, 6, 7, 8])
  s3_4)
def s3_2 : EC := (.seq (.ops [⟨(some 28), .mov (.t 1), none⟩,
    ⟨(some 29), .call 14 [(.t 28), (.c (.s (.int .i64 1000001)))], none⟩,
    ⟨(some 1), .mov (.t 29), none⟩] [1, 5])
  s3_3)
def s3_1 : EC := (.seq (.ops [⟨(some 23), .mov (.t 0), none⟩,
    ⟨(some 24), .call 13 [(.t 23)], none⟩,
    ⟨(some 25), .nilc (.t 24), none⟩,
    ⟨(some 26), .fad 0 (.t 25), none⟩,
    ⟨(some 27), .load false 1 (.t 26), none⟩,
    ⟨(some 5), .mov (.t 27), none⟩] [1, 5])
  s3_2)
def b3 : EC := (.seq (.ops [⟨(some 4), .mov (.c (.s (.bool false))), none⟩] [0, 1])
  s3_1)
def e3 : EF := ⟨151, b3, [.tmp 4]⟩

/-- scutage/scutagelaw16.MeasureNear -/
def h4 : List (List Nat) := [[0, 1], [1, 5], [1, 5, 6], [1, 5, 6, 7], [1, 5, 6, 7, 21, 22, 23], [1, 5, 6, 7, 21, 22, 23], [1, 5, 6, 7, 21, 22, 23, 24], [5, 6, 7], [1, 5, 6, 7, 8, 9, 21, 22, 23], [1, 5, 6, 7, 8, 21, 22, 23], [1, 5, 6, 7, 8, 21, 22, 23], [1, 5, 6, 7, 8, 21, 22, 23, 42], [1, 5, 6, 7, 8, 21, 22, 23], [1, 5, 6, 7, 21, 22, 23], [1, 5, 6, 7, 21, 22, 23], [5, 7, 10, 11], [5, 11, 12], [4], [4]]
def l4_0_2 : EC := (.seq (.block 1 (.seq (.ops [⟨(some 25), .mov (.t 23), none⟩,
    ⟨(some 26), .iad 30 3 (.t 21) (.t 23), none⟩,
    ⟨(some 27), .load true 3 (.t 26), none⟩,
    ⟨(some 9), .new 30 3 (.c (.agg [(.int .i64 0), (.int .i64 0), (.int .i64 0)])), none⟩,
    ⟨(some 8), .mov (.t 25), none⟩,
    ⟨none, .store 3 (.t 9) (.t 27), none⟩] [1, 5, 6, 7, 8, 9, 21, 22, 23])
  (.seq (.ops [⟨(some 28), .mov (.t 5), none⟩,
    ⟨(some 29), .mov (.t 8), none⟩,
    ⟨(some 30), .fad 2 (.t 9), none⟩,
    ⟨(some 31), .load false 1 (.t 30), none⟩,
    ⟨(some 32), .bin .rem (.t 31) (.c (.s (.int .i64 1000000))), none⟩,
    ⟨(some 33), .bin .add (.t 32) (.c (.s (.int .i64 1))), none⟩,
    ⟨(some 34), .iad 30 3 (.t 28) (.t 29), none⟩,
    ⟨(some 35), .fad 2 (.t 34), none⟩,
    ⟨none, .store 1 (.t 35) (.t 33), none⟩] [1, 5, 6, 7, 8, 21, 22, 23])
  (.seq (.ops [⟨(some 36), .mov (.t 6), none⟩,
    ⟨(some 37), .mov (.t 8), none⟩,
    ⟨(some 38), .iad 3 1 (.t 36) (.t 37), none⟩,
    ⟨none, .store 1 (.t 38) (.c (.s (.int .i64 123456))), none⟩] [1, 5, 6, 7, 8, 21, 22, 23])
  (.seq (.seq (.ops [⟨(some 39), .mov (.t 8), none⟩,
    ⟨(some 40), .mov (.t 1), none⟩,
    ⟨(some 41), .len (.t 40), none⟩,
    ⟨(some 42), .bin .lss (.t 39) (.t 41), none⟩] [1, 5, 6, 7, 8, 21, 22, 23, 42])
  (.cond (.t 42) (.ops [⟨(some 43), .mov (.t 6), none⟩,
    ⟨(some 44), .mov (.t 8), none⟩,
    ⟨(some 45), .mov (.t 1), none⟩,
    ⟨(some 46), .mov (.t 8), none⟩,
    ⟨(some 47), .iad 3 1 (.t 45) (.t 46), none⟩,
    ⟨(some 48), .load false 1 (.t 47), none⟩,
    ⟨(some 49), .call 14 [(.t 48), (.c (.s (.int .i64 1000001)))], none⟩,
    ⟨(some 50), .iad 3 1 (.t 43) (.t 44), none⟩,
    ⟨none, .store 1 (.t 50) (.t 49), none⟩] [1, 5, 6, 7, 8, 21, 22, 23])
  .skip))
  (.draw [⟨(some 51), .mov (.t 7), none⟩,
    ⟨(some 52), .mov (.t 5), none⟩,
    ⟨(some 53), .mov (.t 8), none⟩,
    ⟨(some 54), .iad 30 3 (.t 52) (.t 53), none⟩,
    ⟨(some 55), .fad 2 (.t 54), none⟩,
    ⟨(some 56), .load false 1 (.t 55), none⟩,
    ⟨(some 57), .mov (.t 6), none⟩,
    ⟨(some 58), .mov (.t 8), none⟩,
    ⟨(some 59), .iad 3 1 (.t 57) (.t 58), none⟩,
    ⟨(some 60), .load false 1 (.t 59), none⟩,
    ⟨(some 61), .bin .mul (.t 56) (.t 60), none⟩,
    ⟨(some 62), .bin .sub (.t 51) (.t 61), none⟩,
    ⟨(some 7), .mov (.t 62), none⟩] [] [1, 5, 6, 7, 21, 22, 23]))))))
  (.ops [⟨(some 63), .bin .add (.t 23) (.c (.s (.int .i64 1))), none⟩,
    ⟨(some 23), .mov (.t 63), none⟩] [1, 5, 6, 7, 21, 22, 23]))
def l4_0_1 : EC := (.seq (.cond (.t 24) .skip
  (.exit 0 [5, 6, 7]))
  l4_0_2)
def l4_0 : EC := (.seq (.ops [⟨(some 24), .bin .lss (.t 23) (.t 22), none⟩] [1, 5, 6, 7, 21, 22, 23, 24])
  l4_0_1)
def s4_7 : EC := (.seq (.ops [⟨(some 75), .mov (.t 11), none⟩,
    ⟨(some 76), .bin .eql (.t 75) (.c (.s (.int .i64 0))), none⟩,
    ⟨(some 77), .mov (.t 76), none⟩,
    ⟨(some 78), .mov (.t 12), (some (77, true))⟩,
    ⟨(some 79), .mov (.t 5), (some (77, true))⟩,
    ⟨(some 80), .len (.t 79), (some (77, true))⟩,
    ⟨(some 81), .bin .mul (.c (.s (.int .i64 1000000))) (.t 80), (some (77, true))⟩,
    ⟨(some 82), .bin .leq (.t 78) (.t 81), (some (77, true))⟩,
    ⟨(some 83), .pick (.t 77) (.t 82) (.c (.s (.bool false))), none⟩,
    ⟨(some 84), .mov (.t 83), none⟩,
    ⟨(some 85), .mov (.t 12), (some (84, true))⟩,
    ⟨(some 86), .mov (.t 5), (some (84, true))⟩,
    ⟨(some 87), .len (.t 86), (some (84, true))⟩,
    ⟨(some 88), .bin .mul (.c (.s (.int .i64 (-1000000)))) (.t 87), (some (84, true))⟩,
    ⟨(some 89), .bin .geq (.t 85) (.t 88), (some (84, true))⟩,
    ⟨(some 90), .pick (.t 84) (.t 89) (.c (.s (.bool false))), none⟩,
    ⟨(some 91), .mov (.t 90), none⟩,
    ⟨(some 92), .call 16 [], (some (91, true))⟩,
    ⟨(some 93), .pick (.t 91) (.t 92) (.c (.s (.bool false))), none⟩,
    ⟨(some 4), .mov (.t 93), none⟩] [4])
  (.ret [4]))
def s4_6 : EC := (.seq (.ops [⟨(some 70), .mov (.t 10), none⟩,
    ⟨(some 71), .bin .mul (.t 70) (.c (.s (.int .i64 1000000))), none⟩,
    ⟨(some 72), .mov (.t 7), none⟩,
    ⟨(some 73), .bin .sub (.t 71) (.t 72), none⟩,
    ⟨(some 74), .bin .mul (.c (.s (.int .i64 2))) (.t 73), none⟩,
    ⟨(some 12), .mov (.t 74), none⟩] [5, 11, 12])
  s4_7)
def s4_5 : EC := (.seq (.ops [⟨(some 65), .mov (.t 5), none⟩,
    ⟨(some 66), .mov (.t 6), none⟩,
    ⟨(some 67), .call 15 [(.t 65), (.t 66)], none⟩,
    ⟨(some 64), .mov (.t 67), none⟩,
    ⟨(some 68), .ext (.t 64) 0, none⟩,
    ⟨(some 69), .ext (.t 64) 1, none⟩,
    ⟨(some 10), .mov (.t 68), none⟩,
    ⟨(some 11), .mov (.t 69), none⟩] [5, 7, 10, 11])
  s4_6)
def s4_4 : EC := (.seq (.seq (.ops [⟨(some 21), .mov (.t 5), none⟩,
    ⟨(some 22), .len (.t 21), none⟩,
    ⟨(some 23), .mov (.c (.s (.int .i64 0))), none⟩] [1, 5, 6, 7, 21, 22, 23])
  (.block 0 (.loop [1, 5, 6, 7, 21, 22, 23] l4_0)))
  s4_5)
def s4_3 : EC := (.seq (.ops [⟨(some 7), .mov (.c (.s (.int .i64 0))), none⟩] [1, 5, 6, 7])
  s4_4)
def s4_2 : EC := (.seq (.ops [⟨(some 18), .mov (.t 5), none⟩,
    ⟨(some 19), .len (.t 18), none⟩,
    ⟨(some 20), .mks 3 8 [(.int .i64 0)] (.t 19), none⟩,
    ⟨(some 6), .mov (.t 20), none⟩] [1, 5, 6])
  s4_3)
def s4_1 : EC := (.seq (.ops [⟨(some 13), .mov (.t 0), none⟩,
    ⟨(some 14), .call 13 [(.t 13)], none⟩,
    ⟨(some 15), .nilc (.t 14), none⟩,
    ⟨(some 16), .fad 0 (.t 15), none⟩,
    ⟨(some 17), .load false 1 (.t 16), none⟩,
    ⟨(some 5), .mov (.t 17), none⟩] [1, 5])
  s4_2)
def b4 : EC := (.seq (.ops [⟨(some 4), .mov (.c (.s (.bool false))), none⟩] [0, 1])
  s4_1)
def e4 : EF := ⟨94, b4, [.tmp 4]⟩

/-- scutage/scutagelaw16.MeasureErrors -/
def h5 : List (List Nat) := [[0], [0], [0, 3], [0, 3, 35], [2], [2], [0, 3, 4], [0, 3, 4, 6], [0, 3, 4, 6, 8], [0, 3, 4, 6, 8, 9, 10], [0, 4, 6, 8, 9, 10, 12], [0, 4, 84], [2], [2], [0, 108, 109, 110], [0, 108, 109, 110], [0, 108, 109, 110, 111], [0], [0, 14, 108, 109, 110], [0, 14, 15, 16, 108, 109, 110], [0, 108, 109, 110, 133], [2], [2], [0, 108, 109, 110], [0, 18], [0, 18, 20], [0, 18, 20, 22], [0, 18, 20, 22, 23, 24], [2], [2]]
def l5_0_2 : EC := (.seq (.block 1 (.seq (.ops [⟨(some 112), .iad 42 3 (.t 108) (.t 110), none⟩,
    ⟨(some 113), .load true 3 (.t 112), none⟩,
    ⟨(some 14), .new 42 3 (.c (.agg [.nils, .nils, (.int .i64 0)])), none⟩,
    ⟨none, .store 3 (.t 14) (.t 113), none⟩] [0, 14, 108, 109, 110])
  (.seq (.ops [⟨(some 115), .fad 0 (.t 14), none⟩,
    ⟨(some 116), .load false 1 (.t 115), none⟩,
    ⟨(some 117), .fad 1 (.t 14), none⟩,
    ⟨(some 118), .load false 1 (.t 117), none⟩,
    ⟨(some 119), .call 15 [(.t 116), (.t 118)], none⟩,
    ⟨(some 114), .mov (.t 119), none⟩,
    ⟨(some 120), .ext (.t 114) 0, none⟩,
    ⟨(some 121), .ext (.t 114) 1, none⟩,
    ⟨(some 15), .mov (.t 120), none⟩,
    ⟨(some 16), .mov (.t 121), none⟩] [0, 14, 15, 16, 108, 109, 110])
  (.seq (.ops [⟨(some 122), .mov (.t 16), none⟩,
    ⟨(some 123), .fad 2 (.t 14), none⟩,
    ⟨(some 124), .load false 1 (.t 123), none⟩,
    ⟨(some 125), .bin .neq (.t 122) (.t 124), none⟩,
    ⟨(some 126), .mov (.t 125), none⟩,
    ⟨(some 127), .mov (.t 16), (some (126, false))⟩,
    ⟨(some 128), .bin .neq (.t 127) (.c (.s (.int .i64 0))), (some (126, false))⟩,
    ⟨(some 129), .mov (.t 128), (some (126, false))⟩,
    ⟨(some 130), .mov (.t 15), (some (129, true))⟩,
    ⟨(some 131), .bin .neq (.t 130) (.c (.s (.int .i64 0))), (some (129, true))⟩,
    ⟨(some 132), .pick (.t 129) (.t 131) (.c (.s (.bool false))), (some (126, false))⟩,
    ⟨(some 133), .pick (.t 126) (.c (.s (.bool true))) (.t 132), none⟩] [0, 108, 109, 110, 133])
  (.cond (.t 133) (.seq (.ops [⟨(some 2), .mov (.c (.s (.bool false))), none⟩] [2])
  (.ret [2]))
  .skip)))))
  (.ops [⟨(some 134), .bin .add (.t 110) (.c (.s (.int .i64 1))), none⟩,
    ⟨(some 110), .mov (.t 134), none⟩] [0, 108, 109, 110]))
def l5_0_1 : EC := (.seq (.cond (.t 111) .skip
  (.exit 0 [0]))
  l5_0_2)
def l5_0 : EC := (.seq (.ops [⟨(some 111), .bin .lss (.t 110) (.t 109), none⟩] [0, 108, 109, 110, 111])
  l5_0_1)
def s5_15 : EC := (.seq (.ops [⟨(some 157), .mov (.t 18), none⟩,
    ⟨(some 158), .bin .eql (.t 157) (.c (.s (.int .i64 1))), none⟩,
    ⟨(some 159), .mov (.t 158), none⟩,
    ⟨(some 160), .mov (.t 20), (some (159, true))⟩,
    ⟨(some 161), .bin .eql (.t 160) (.c (.s (.int .i64 1))), (some (159, true))⟩,
    ⟨(some 162), .pick (.t 159) (.t 161) (.c (.s (.bool false))), none⟩,
    ⟨(some 163), .mov (.t 162), none⟩,
    ⟨(some 164), .mov (.t 22), (some (163, true))⟩,
    ⟨(some 165), .bin .eql (.t 164) (.c (.s (.int .i64 1))), (some (163, true))⟩,
    ⟨(some 166), .pick (.t 163) (.t 165) (.c (.s (.bool false))), none⟩,
    ⟨(some 167), .mov (.t 166), none⟩,
    ⟨(some 168), .mov (.t 24), (some (167, true))⟩,
    ⟨(some 169), .bin .eql (.t 168) (.c (.s (.int .i64 0))), (some (167, true))⟩,
    ⟨(some 170), .pick (.t 167) (.t 169) (.c (.s (.bool false))), none⟩,
    ⟨(some 171), .mov (.t 170), none⟩,
    ⟨(some 172), .mov (.t 23), (some (171, true))⟩,
    ⟨(some 173), .mov (.t 0), (some (171, true))⟩,
    ⟨(some 174), .bin .eql (.t 172) (.t 173), (some (171, true))⟩,
    ⟨(some 175), .pick (.t 171) (.t 174) (.c (.s (.bool false))), none⟩,
    ⟨(some 176), .mov (.t 175), none⟩,
    ⟨(some 177), .call 16 [], (some (176, true))⟩,
    ⟨(some 178), .pick (.t 176) (.t 177) (.c (.s (.bool false))), none⟩,
    ⟨(some 2), .mov (.t 178), none⟩] [2])
  (.ret [2]))
def s5_14 : EC := (.seq (.ops [⟨(some 153), .mov (.t 0), none⟩,
    ⟨(some 154), .call 21 [(.t 153), (.c (.s (.int .i64 1000000)))], none⟩,
    ⟨(some 152), .mov (.t 154), none⟩,
    ⟨(some 155), .ext (.t 152) 0, none⟩,
    ⟨(some 156), .ext (.t 152) 1, none⟩,
    ⟨(some 23), .mov (.t 155), none⟩,
    ⟨(some 24), .mov (.t 156), none⟩] [0, 18, 20, 22, 23, 24])
  s5_15)
def s5_13 : EC := (.seq (.ops [⟨(some 147), .mov (.t 0), none⟩,
    ⟨(some 148), .bin .add (.c (.s (.int .i64 100000000000))) (.t 147), none⟩,
    ⟨(some 149), .call 21 [(.t 148), (.c (.s (.int .i64 5)))], none⟩,
    ⟨(some 146), .mov (.t 149), none⟩,
    ⟨(some 150), .ext (.t 146) 0, none⟩,
    ⟨(some 151), .ext (.t 146) 1, none⟩,
    ⟨(some 21), .mov (.t 150), none⟩,
    ⟨(some 22), .mov (.t 151), none⟩] [0, 18, 20, 22])
  s5_14)
def s5_12 : EC := (.seq (.ops [⟨(some 142), .mov (.t 0), none⟩,
    ⟨(some 143), .call 21 [(.t 142), (.c (.s (.int .i64 (-5))))], none⟩,
    ⟨(some 141), .mov (.t 143), none⟩,
    ⟨(some 144), .ext (.t 141) 0, none⟩,
    ⟨(some 145), .ext (.t 141) 1, none⟩,
    ⟨(some 19), .mov (.t 144), none⟩,
    ⟨(some 20), .mov (.t 145), none⟩] [0, 18, 20])
  s5_13)
def s5_11 : EC := (.seq (.ops [⟨(some 136), .mov (.t 0), none⟩,
    ⟨(some 137), .un .neg (.t 136), none⟩,
    ⟨(some 138), .call 21 [(.t 137), (.c (.s (.int .i64 5)))], none⟩,
    ⟨(some 135), .mov (.t 138), none⟩,
    ⟨(some 139), .ext (.t 135) 0, none⟩,
    ⟨(some 140), .ext (.t 135) 1, none⟩,
    ⟨(some 17), .mov (.t 139), none⟩,
    ⟨(some 18), .mov (.t 140), none⟩] [0, 18])
  s5_12)
def s5_10 : EC := (.seq (.seq (.ops [⟨(some 85), .mov (.t 4), none⟩,
    ⟨(some 86), .build [.nils, .nils, (.int .i64 0)] [(0, 1, (.t 85)), (1, 1, (.c (.s .nils))), (2, 1, (.c (.s (.int .i64 1))))], none⟩,
    ⟨(some 87), .bsl 3 1 [(.int .i64 0)] [(0, 1, (.c (.s (.int .i64 1))))], none⟩,
    ⟨(some 88), .build [.nils, .nils, (.int .i64 0)] [(0, 1, (.c (.s .nils))), (1, 1, (.t 87)), (2, 1, (.c (.s (.int .i64 1))))], none⟩,
    ⟨(some 89), .mov (.t 4), none⟩,
    ⟨(some 90), .bsl 3 1 [(.int .i64 0)] [(0, 1, (.c (.s (.int .i64 (-1)))))], none⟩,
    ⟨(some 91), .build [.nils, .nils, (.int .i64 0)] [(0, 1, (.t 89)), (1, 1, (.t 90)), (2, 1, (.c (.s (.int .i64 1))))], none⟩,
    ⟨(some 92), .mov (.t 4), none⟩,
    ⟨(some 93), .bsl 3 1 [(.int .i64 0)] [(0, 1, (.c (.s (.int .i64 1000001))))], none⟩,
    ⟨(some 94), .build [.nils, .nils, (.int .i64 0)] [(0, 1, (.t 92)), (1, 1, (.t 93)), (2, 1, (.c (.s (.int .i64 1))))], none⟩,
    ⟨(some 95), .mov (.t 0), none⟩,
    ⟨(some 96), .bin .add (.c (.s (.int .i64 100000000000))) (.t 95), none⟩,
    ⟨(some 97), .build [(.int .i64 0), (.int .i64 0), (.int .i64 0)] [(0, 1, (.c (.s (.int .i64 1)))), (2, 1, (.t 96))], none⟩,
    ⟨(some 98), .bsl 30 1 [(.int .i64 0), (.int .i64 0), (.int .i64 0)] [(0, 3, (.t 97))], none⟩,
    ⟨(some 99), .bsl 3 1 [(.int .i64 0)] [(0, 1, (.c (.s (.int .i64 1))))], none⟩,
    ⟨(some 100), .build [.nils, .nils, (.int .i64 0)] [(0, 1, (.t 98)), (1, 1, (.t 99)), (2, 1, (.c (.s (.int .i64 1))))], none⟩,
    ⟨(some 101), .build [(.int .i64 0), (.int .i64 0), (.int .i64 0)] [(0, 1, (.c (.s (.int .i64 1)))), (2, 1, (.c (.s (.int .i64 100000000000))))], none⟩,
    ⟨(some 102), .mov (.t 0), none⟩,
    ⟨(some 103), .build [(.int .i64 0), (.int .i64 0), (.int .i64 0)] [(0, 1, (.c (.s (.int .i64 2)))), (2, 1, (.t 102))], none⟩,
    ⟨(some 104), .bsl 30 2 [(.int .i64 0), (.int .i64 0), (.int .i64 0)] [(0, 3, (.t 101)), (3, 3, (.t 103))], none⟩,
    ⟨(some 105), .bsl 3 2 [(.int .i64 0)] [(0, 1, (.c (.s (.int .i64 1000000)))), (1, 1, (.c (.s (.int .i64 1000000))))], none⟩,
    ⟨(some 106), .build [.nils, .nils, (.int .i64 0)] [(0, 1, (.t 104)), (1, 1, (.t 105)), (2, 1, (.c (.s (.int .i64 6))))], none⟩,
    ⟨(some 107), .build [.nils, .nils, (.int .i64 0)] [(0, 1, (.c (.s .nils))), (1, 1, (.c (.s .nils))), (2, 1, (.c (.s (.int .i64 0))))], none⟩,
    ⟨(some 108), .bsl 42 7 [.nils, .nils, (.int .i64 0)] [(0, 3, (.t 86)), (3, 3, (.t 88)), (6, 3, (.t 91)), (9, 3, (.t 94)), (12, 3, (.t 100)), (15, 3, (.t 106)), (18, 3, (.t 107))], none⟩,
    ⟨(some 109), .len (.t 108), none⟩,
    ⟨(some 110), .mov (.c (.s (.int .i64 0))), none⟩] [0, 108, 109, 110])
  (.block 0 (.loop [0, 108, 109, 110] l5_0)))
  s5_11)
def s5_9 : EC := (.seq (.seq (.ops [⟨(some 65), .mov (.t 6), none⟩,
    ⟨(some 66), .bin .neq (.t 65) (.c (.s (.int .i64 1))), none⟩,
    ⟨(some 67), .mov (.t 66), none⟩,
    ⟨(some 68), .mov (.t 8), (some (67, false))⟩,
    ⟨(some 69), .bin .neq (.t 68) (.c (.s (.int .i64 7))), (some (67, false))⟩,
    ⟨(some 70), .pick (.t 67) (.c (.s (.bool true))) (.t 69), none⟩,
    ⟨(some 71), .mov (.t 70), none⟩,
    ⟨(some 72), .mov (.t 10), (some (71, false))⟩,
    ⟨(some 73), .bin .neq (.t 72) (.c (.s (.int .i64 0))), (some (71, false))⟩,
    ⟨(some 74), .pick (.t 71) (.c (.s (.bool true))) (.t 73), none⟩,
    ⟨(some 75), .mov (.t 74), none⟩,
    ⟨(some 76), .mov (.t 9), (some (75, false))⟩,
    ⟨(some 77), .bsl 3 1 [(.int .i64 0)] [(0, 1, (.c (.s (.int .i64 250000))))], (some (75, false))⟩,
    ⟨(some 78), .call 20 [(.t 76), (.t 77)], (some (75, false))⟩,
    ⟨(some 79), .un .not (.t 78), (some (75, false))⟩,
    ⟨(some 80), .pick (.t 75) (.c (.s (.bool true))) (.t 79), none⟩,
    ⟨(some 81), .mov (.t 80), none⟩,
    ⟨(some 82), .mov (.t 12), (some (81, false))⟩,
    ⟨(some 83), .bin .neq (.t 82) (.c (.s (.int .i64 7))), (some (81, false))⟩,
    ⟨(some 84), .pick (.t 81) (.c (.s (.bool true))) (.t 83), none⟩] [0, 4, 84])
  (.cond (.t 84) (.seq (.ops [⟨(some 2), .mov (.c (.s (.bool false))), none⟩] [2])
  (.ret [2]))
  .skip))
  s5_10)
def s5_8 : EC := (.seq (.ops [⟨(some 58), .mov (.t 3), none⟩,
    ⟨(some 59), .mov (.t 0), none⟩,
    ⟨(some 60), .build [(.int .i64 0), (.int .i64 0), (.int .i64 0)] [(0, 1, (.c (.s (.int .i64 1)))), (1, 1, (.c (.s (.int .i64 4)))), (2, 1, (.t 59))], none⟩,
    ⟨(some 61), .bsl 30 1 [(.int .i64 0), (.int .i64 0), (.int .i64 0)] [(0, 3, (.t 60))], none⟩,
    ⟨(some 62), .call 19 [(.t 58), (.c (.s (.str ⟨#[117, 107]⟩))), (.t 61), (.c (.s (.int .i64 8)))], none⟩,
    ⟨(some 57), .mov (.t 62), none⟩,
    ⟨(some 63), .ext (.t 57) 0, none⟩,
    ⟨(some 64), .ext (.t 57) 1, none⟩,
    ⟨(some 11), .mov (.t 63), none⟩,
    ⟨(some 12), .mov (.t 64), none⟩] [0, 4, 6, 8, 9, 10, 12])
  s5_9)
def s5_7 : EC := (.seq (.ops [⟨(some 52), .mov (.t 3), none⟩,
    ⟨(some 53), .mov (.t 4), none⟩,
    ⟨(some 54), .call 19 [(.t 52), (.c (.s (.str ⟨#[117, 107]⟩))), (.t 53), (.c (.s (.int .i64 8)))], none⟩,
    ⟨(some 51), .mov (.t 54), none⟩,
    ⟨(some 55), .ext (.t 51) 0, none⟩,
    ⟨(some 56), .ext (.t 51) 1, none⟩,
    ⟨(some 9), .mov (.t 55), none⟩,
    ⟨(some 10), .mov (.t 56), none⟩] [0, 3, 4, 6, 8, 9, 10])
  s5_8)
def s5_6 : EC := (.seq (.ops [⟨(some 46), .mov (.t 3), none⟩,
    ⟨(some 47), .mov (.t 4), none⟩,
    ⟨(some 48), .call 19 [(.t 46), (.c (.s (.str ⟨#[117, 107]⟩))), (.t 47), (.c (.s (.int .i64 7)))], none⟩,
    ⟨(some 45), .mov (.t 48), none⟩,
    ⟨(some 49), .ext (.t 45) 0, none⟩,
    ⟨(some 50), .ext (.t 45) 1, none⟩,
    ⟨(some 7), .mov (.t 49), none⟩,
    ⟨(some 8), .mov (.t 50), none⟩] [0, 3, 4, 6, 8])
  s5_7)
def s5_5 : EC := (.seq (.ops [⟨(some 40), .mov (.t 3), none⟩,
    ⟨(some 41), .mov (.t 4), none⟩,
    ⟨(some 42), .call 19 [(.t 40), (.c (.s (.str ⟨#[117, 107]⟩))), (.t 41), (.c (.s (.int .i64 (-1))))], none⟩,
    ⟨(some 39), .mov (.t 42), none⟩,
    ⟨(some 43), .ext (.t 39) 0, none⟩,
    ⟨(some 44), .ext (.t 39) 1, none⟩,
    ⟨(some 5), .mov (.t 43), none⟩,
    ⟨(some 6), .mov (.t 44), none⟩] [0, 3, 4, 6])
  s5_6)
def s5_4 : EC := (.seq (.ops [⟨(some 36), .mov (.t 0), none⟩,
    ⟨(some 37), .build [(.int .i64 0), (.int .i64 0), (.int .i64 0)] [(0, 1, (.c (.s (.int .i64 1)))), (1, 1, (.c (.s (.int .i64 5)))), (2, 1, (.t 36))], none⟩,
    ⟨(some 38), .bsl 30 1 [(.int .i64 0), (.int .i64 0), (.int .i64 0)] [(0, 3, (.t 37))], none⟩,
    ⟨(some 4), .mov (.t 38), none⟩] [0, 3, 4])
  s5_5)
def s5_3 : EC := (.seq (.seq (.ops [⟨(some 29), .mov (.t 3), none⟩,
    ⟨(some 30), .eqp false (.t 29) (.c (.s .nilp)), none⟩,
    ⟨(some 31), .mov (.t 30), none⟩,
    ⟨(some 32), .mov (.t 3), (some (31, false))⟩,
    ⟨(some 33), .call 18 [(.t 32), (.c (.s (.str ⟨#[117, 107]⟩))), (.c (.s (.int .i64 5))), (.c (.s (.int .i64 250000))), (.c (.s (.int .i64 8)))], (some (31, false))⟩,
    ⟨(some 34), .bin .neq (.t 33) (.c (.s (.int .i64 0))), (some (31, false))⟩,
    ⟨(some 35), .pick (.t 31) (.c (.s (.bool true))) (.t 34), none⟩] [0, 3, 35])
  (.cond (.t 35) (.seq (.ops [⟨(some 2), .mov (.c (.s (.bool false))), none⟩] [2])
  (.ret [2]))
  .skip))
  s5_4)
def s5_2 : EC := (.seq (.ops [⟨(some 28), .call 17 [], none⟩,
    ⟨(some 3), .mov (.t 28), none⟩] [0, 3])
  s5_3)
def s5_1 : EC := (.seq (.ops [⟨(some 25), .mov (.t 0), none⟩,
    ⟨(some 26), .call 14 [(.t 25), (.c (.s (.int .i64 1000)))], none⟩,
    ⟨(some 27), .bin .add (.c (.s (.int .i64 1))) (.t 26), none⟩,
    ⟨(some 0), .mov (.t 27), none⟩] [0])
  s5_2)
def b5 : EC := (.seq (.ops [⟨(some 2), .mov (.c (.s (.bool false))), none⟩] [0])
  s5_1)
def e5 : EF := ⟨179, b5, [.tmp 2]⟩

/-- scutage/scutagelaw16.MeasureKnown -/
def h6 : List (List Nat) := [[0, 1, 2], [0, 1, 2], [0, 1, 2, 7], [0, 1, 7, 8], [0, 1, 7, 8, 9], [0, 1, 7, 8, 9], [0, 1, 7, 8, 9], [0, 1, 7, 8, 9], [0, 1, 7, 8, 10], [0, 1, 7, 8, 10, 55], [6], [6], [0, 1, 8, 10, 11, 12], [0, 1, 8, 10, 11, 12, 13, 14], [0, 1, 8, 10, 11, 12, 13, 14, 15, 16], [0, 1, 8, 10, 11, 12, 13, 14, 15, 16, 17, 18], [0, 1, 10, 11, 12, 13, 14, 15, 16, 17, 18, 20], [0, 1, 11, 12, 13, 14, 15, 16, 17, 18, 20, 22], [6], [6]]
def s6_16 : EC := (.seq (.ops [⟨(some 99), .mov (.t 12), none⟩,
    ⟨(some 100), .bin .eql (.t 99) (.c (.s (.int .i64 0))), none⟩,
    ⟨(some 101), .mov (.t 100), none⟩,
    ⟨(some 102), .mov (.t 11), (some (101, true))⟩,
    ⟨(some 103), .mov (.t 0), (some (101, true))⟩,
    ⟨(some 104), .mov (.t 0), (some (101, true))⟩,
    ⟨(some 105), .mov (.t 1), (some (101, true))⟩,
    ⟨(some 106), .mov (.t 1), (some (101, true))⟩,
    ⟨(some 107), .bsl 3 4 [(.int .i64 0)] [(0, 1, (.t 103)), (1, 1, (.t 104)), (2, 1, (.t 105)), (3, 1, (.t 106))], (some (101, true))⟩,
    ⟨(some 108), .call 20 [(.t 102), (.t 107)], (some (101, true))⟩,
    ⟨(some 109), .pick (.t 101) (.t 108) (.c (.s (.bool false))), none⟩,
    ⟨(some 110), .mov (.t 109), none⟩,
    ⟨(some 111), .mov (.t 14), (some (110, true))⟩,
    ⟨(some 112), .bin .eql (.t 111) (.c (.s (.int .i64 0))), (some (110, true))⟩,
    ⟨(some 113), .pick (.t 110) (.t 112) (.c (.s (.bool false))), none⟩,
    ⟨(some 114), .mov (.t 113), none⟩,
    ⟨(some 115), .mov (.t 13), (some (114, true))⟩,
    ⟨(some 116), .mov (.t 1), (some (114, true))⟩,
    ⟨(some 117), .bin .eql (.t 115) (.t 116), (some (114, true))⟩,
    ⟨(some 118), .pick (.t 114) (.t 117) (.c (.s (.bool false))), none⟩,
    ⟨(some 119), .mov (.t 118), none⟩,
    ⟨(some 120), .mov (.t 16), (some (119, true))⟩,
    ⟨(some 121), .bin .eql (.t 120) (.c (.s (.int .i64 0))), (some (119, true))⟩,
    ⟨(some 122), .pick (.t 119) (.t 121) (.c (.s (.bool false))), none⟩,
    ⟨(some 123), .mov (.t 122), none⟩,
    ⟨(some 124), .mov (.t 15), (some (123, true))⟩,
    ⟨(some 125), .mov (.t 0), (some (123, true))⟩,
    ⟨(some 126), .bin .eql (.t 124) (.t 125), (some (123, true))⟩,
    ⟨(some 127), .pick (.t 123) (.t 126) (.c (.s (.bool false))), none⟩,
    ⟨(some 128), .mov (.t 127), none⟩,
    ⟨(some 129), .mov (.t 18), (some (128, true))⟩,
    ⟨(some 130), .bin .eql (.t 129) (.c (.s (.int .i64 0))), (some (128, true))⟩,
    ⟨(some 131), .pick (.t 128) (.t 130) (.c (.s (.bool false))), none⟩,
    ⟨(some 132), .mov (.t 131), none⟩,
    ⟨(some 133), .mov (.t 17), (some (132, true))⟩,
    ⟨(some 134), .mov (.t 1), (some (132, true))⟩,
    ⟨(some 135), .bin .eql (.t 133) (.t 134), (some (132, true))⟩,
    ⟨(some 136), .pick (.t 132) (.t 135) (.c (.s (.bool false))), none⟩,
    ⟨(some 137), .mov (.t 136), none⟩,
    ⟨(some 138), .mov (.t 20), (some (137, true))⟩,
    ⟨(some 139), .bin .eql (.t 138) (.c (.s (.int .i64 7))), (some (137, true))⟩,
    ⟨(some 140), .pick (.t 137) (.t 139) (.c (.s (.bool false))), none⟩,
    ⟨(some 141), .mov (.t 140), none⟩,
    ⟨(some 142), .mov (.t 22), (some (141, true))⟩,
    ⟨(some 143), .bin .eql (.t 142) (.c (.s (.int .i64 1))), (some (141, true))⟩,
    ⟨(some 144), .pick (.t 141) (.t 143) (.c (.s (.bool false))), none⟩,
    ⟨(some 145), .mov (.t 144), none⟩,
    ⟨(some 146), .call 16 [], (some (145, true))⟩,
    ⟨(some 147), .pick (.t 145) (.t 146) (.c (.s (.bool false))), none⟩,
    ⟨(some 6), .mov (.t 147), none⟩] [6])
  (.ret [6]))
def s6_15 : EC := (.seq (.ops [⟨(some 95), .mov (.t 10), none⟩,
    ⟨(some 96), .call 24 [(.t 95), (.c (.s (.str ⟨#[117, 107]⟩))), (.c (.s (.int .i64 (-1))))], none⟩,
    ⟨(some 94), .mov (.t 96), none⟩,
    ⟨(some 97), .ext (.t 94) 0, none⟩,
    ⟨(some 98), .ext (.t 94) 1, none⟩,
    ⟨(some 21), .mov (.t 97), none⟩,
    ⟨(some 22), .mov (.t 98), none⟩] [0, 1, 11, 12, 13, 14, 15, 16, 17, 18, 20, 22])
  s6_16)
def s6_14 : EC := (.seq (.ops [⟨(some 89), .mov (.t 10), none⟩,
    ⟨(some 90), .mov (.t 8), none⟩,
    ⟨(some 91), .call 24 [(.t 89), (.c (.s (.str ⟨#[100, 101]⟩))), (.t 90)], none⟩,
    ⟨(some 88), .mov (.t 91), none⟩,
    ⟨(some 92), .ext (.t 88) 0, none⟩,
    ⟨(some 93), .ext (.t 88) 1, none⟩,
    ⟨(some 19), .mov (.t 92), none⟩,
    ⟨(some 20), .mov (.t 93), none⟩] [0, 1, 10, 11, 12, 13, 14, 15, 16, 17, 18, 20])
  s6_15)
def s6_13 : EC := (.seq (.ops [⟨(some 84), .mov (.t 10), none⟩,
    ⟨(some 85), .call 24 [(.t 84), (.c (.s (.str ⟨#[117, 107]⟩))), (.c (.s (.int .i64 399)))], none⟩,
    ⟨(some 83), .mov (.t 85), none⟩,
    ⟨(some 86), .ext (.t 83) 0, none⟩,
    ⟨(some 87), .ext (.t 83) 1, none⟩,
    ⟨(some 17), .mov (.t 86), none⟩,
    ⟨(some 18), .mov (.t 87), none⟩] [0, 1, 8, 10, 11, 12, 13, 14, 15, 16, 17, 18])
  s6_14)
def s6_12 : EC := (.seq (.ops [⟨(some 77), .mov (.t 10), none⟩,
    ⟨(some 78), .mov (.t 8), none⟩,
    ⟨(some 79), .bin .sub (.t 78) (.c (.s (.int .i64 1))), none⟩,
    ⟨(some 80), .call 24 [(.t 77), (.c (.s (.str ⟨#[117, 107]⟩))), (.t 79)], none⟩,
    ⟨(some 76), .mov (.t 80), none⟩,
    ⟨(some 81), .ext (.t 76) 0, none⟩,
    ⟨(some 82), .ext (.t 76) 1, none⟩,
    ⟨(some 15), .mov (.t 81), none⟩,
    ⟨(some 16), .mov (.t 82), none⟩] [0, 1, 8, 10, 11, 12, 13, 14, 15, 16])
  s6_13)
def s6_11 : EC := (.seq (.ops [⟨(some 71), .mov (.t 10), none⟩,
    ⟨(some 72), .mov (.t 8), none⟩,
    ⟨(some 73), .call 24 [(.t 71), (.c (.s (.str ⟨#[117, 107]⟩))), (.t 72)], none⟩,
    ⟨(some 70), .mov (.t 73), none⟩,
    ⟨(some 74), .ext (.t 70) 0, none⟩,
    ⟨(some 75), .ext (.t 70) 1, none⟩,
    ⟨(some 13), .mov (.t 74), none⟩,
    ⟨(some 14), .mov (.t 75), none⟩] [0, 1, 8, 10, 11, 12, 13, 14])
  s6_12)
def s6_10 : EC := (.seq (.ops [⟨(some 57), .mov (.t 10), none⟩,
    ⟨(some 58), .build [(.int .i64 0), (.int .i64 0), (.int .i64 0)] [(0, 1, (.c (.s (.int .i64 1)))), (1, 1, (.c (.s (.int .i64 0)))), (2, 1, (.c (.s (.int .i64 1))))], none⟩,
    ⟨(some 59), .mov (.t 7), none⟩,
    ⟨(some 60), .build [(.int .i64 0), (.int .i64 0), (.int .i64 0)] [(0, 1, (.c (.s (.int .i64 1)))), (1, 1, (.t 59)), (2, 1, (.c (.s (.int .i64 1))))], none⟩,
    ⟨(some 61), .mov (.t 7), none⟩,
    ⟨(some 62), .bin .add (.t 61) (.c (.s (.int .i64 1))), none⟩,
    ⟨(some 63), .build [(.int .i64 0), (.int .i64 0), (.int .i64 0)] [(0, 1, (.c (.s (.int .i64 1)))), (1, 1, (.t 62)), (2, 1, (.c (.s (.int .i64 1))))], none⟩,
    ⟨(some 64), .build [(.int .i64 0), (.int .i64 0), (.int .i64 0)] [(0, 1, (.c (.s (.int .i64 1)))), (1, 1, (.c (.s (.int .i64 99)))), (2, 1, (.c (.s (.int .i64 1))))], none⟩,
    ⟨(some 65), .bsl 30 4 [(.int .i64 0), (.int .i64 0), (.int .i64 0)] [(0, 3, (.t 58)), (3, 3, (.t 60)), (6, 3, (.t 63)), (9, 3, (.t 64))], none⟩,
    ⟨(some 66), .mov (.t 8), none⟩,
    ⟨(some 67), .call 19 [(.t 57), (.c (.s (.str ⟨#[117, 107]⟩))), (.t 65), (.t 66)], none⟩,
    ⟨(some 56), .mov (.t 67), none⟩,
    ⟨(some 68), .ext (.t 56) 0, none⟩,
    ⟨(some 69), .ext (.t 56) 1, none⟩,
    ⟨(some 11), .mov (.t 68), none⟩,
    ⟨(some 12), .mov (.t 69), none⟩] [0, 1, 8, 10, 11, 12])
  s6_11)
def s6_9 : EC := (.seq (.seq (.ops [⟨(some 54), .mov (.t 10), none⟩,
    ⟨(some 55), .eqp false (.t 54) (.c (.s .nilp)), none⟩] [0, 1, 7, 8, 10, 55])
  (.cond (.t 55) (.seq (.ops [⟨(some 6), .mov (.c (.s (.bool false))), none⟩] [6])
  (.ret [6]))
  .skip))
  s6_10)
def s6_8 : EC := (.seq (.ops [⟨(some 52), .mov (.t 9), none⟩,
    ⟨(some 53), .call 23 [(.t 52)], none⟩,
    ⟨(some 10), .mov (.t 53), none⟩] [0, 1, 7, 8, 10])
  s6_9)
def s6_7 : EC := (.seq (.ops [⟨(some 47), .mov (.t 9), none⟩,
    ⟨(some 48), .mov (.t 7), none⟩,
    ⟨(some 49), .mov (.t 8), none⟩,
    ⟨(some 50), .bin .add (.t 49) (.c (.s (.int .i64 1))), none⟩,
    ⟨(some 51), .call 22 [(.t 47), (.c (.s (.str ⟨#[117, 107]⟩))), (.t 48), (.c (.s (.int .i64 777))), (.t 50)], none⟩] [0, 1, 7, 8, 9])
  s6_8)
def s6_6 : EC := (.seq (.ops [⟨(some 41), .mov (.t 9), none⟩,
    ⟨(some 42), .mov (.t 7), none⟩,
    ⟨(some 43), .bin .add (.t 42) (.c (.s (.int .i64 1))), none⟩,
    ⟨(some 44), .mov (.t 1), none⟩,
    ⟨(some 45), .mov (.t 8), none⟩,
    ⟨(some 46), .call 22 [(.t 41), (.c (.s (.str ⟨#[117, 107]⟩))), (.t 43), (.t 44), (.t 45)], none⟩] [0, 1, 7, 8, 9])
  s6_7)
def s6_5 : EC := (.seq (.ops [⟨(some 38), .mov (.t 9), none⟩,
    ⟨(some 39), .mov (.t 0), none⟩,
    ⟨(some 40), .call 22 [(.t 38), (.c (.s (.str ⟨#[117, 107]⟩))), (.c (.s (.int .i64 0))), (.t 39), (.c (.s (.int .i64 0)))], none⟩] [0, 1, 7, 8, 9])
  s6_6)
def s6_4 : EC := (.seq (.ops [⟨(some 36), .build [.nils] [], none⟩,
    ⟨(some 37), .new 49 1 (.t 36), none⟩,
    ⟨(some 9), .mov (.t 37), none⟩] [0, 1, 7, 8, 9])
  s6_5)
def s6_3 : EC := (.seq (.ops [⟨(some 30), .mov (.t 7), none⟩,
    ⟨(some 31), .bin .mul (.c (.s (.int .i64 4))) (.t 30), none⟩,
    ⟨(some 32), .mov (.t 2), none⟩,
    ⟨(some 33), .bin .quo (.t 32) (.c (.s (.int .i64 97))), none⟩,
    ⟨(some 34), .call 14 [(.t 33), (.c (.s (.int .i64 4)))], none⟩,
    ⟨(some 35), .bin .add (.t 31) (.t 34), none⟩,
    ⟨(some 8), .mov (.t 35), none⟩] [0, 1, 7, 8])
  s6_4)
def s6_2 : EC := (.seq (.ops [⟨(some 27), .mov (.t 2), none⟩,
    ⟨(some 28), .call 14 [(.t 27), (.c (.s (.int .i64 97)))], none⟩,
    ⟨(some 29), .bin .add (.c (.s (.int .i64 1))) (.t 28), none⟩,
    ⟨(some 7), .mov (.t 29), none⟩] [0, 1, 2, 7])
  s6_3)
def s6_1 : EC := (.seq (.ops [⟨(some 23), .mov (.t 0), none⟩,
    ⟨(some 24), .call 14 [(.t 23), (.c (.s (.int .i64 1000001)))], none⟩,
    ⟨(some 25), .mov (.t 1), none⟩,
    ⟨(some 26), .call 14 [(.t 25), (.c (.s (.int .i64 1000001)))], none⟩,
    ⟨(some 0), .mov (.t 24), none⟩,
    ⟨(some 1), .mov (.t 26), none⟩] [0, 1, 2])
  s6_2)
def b6 : EC := (.seq (.ops [⟨(some 6), .mov (.c (.s (.bool false))), none⟩] [0, 1, 2])
  s6_1)
def e6 : EF := ⟨148, b6, [.tmp 6]⟩

/-- scutage/scutagelaw16.MeasureTells -/
def h7 : List (List Nat) := [[0, 1, 2, 3, 4, 5, 6], [1, 2, 3, 4, 5, 6, 15], [1, 2, 3, 4, 5, 6, 15, 16], [1, 2, 3, 4, 5, 6, 15, 16, 42], [14], [14], [2, 3, 4, 5, 6, 15, 16, 17], [2, 3, 4, 5, 6, 15, 16, 17, 55], [2, 3, 4, 5, 6, 15, 16, 17], [2, 3, 4, 5, 6, 15, 16, 17, 62], [2, 3, 4, 5, 6, 15, 16, 17], [2, 3, 4, 5, 6, 15, 16, 17, 18], [2, 3, 4, 5, 6, 15, 16, 17, 18, 19, 20], [2, 3, 4, 5, 6, 15, 16, 17, 18, 19, 20, 21, 22], [2, 3, 4, 5, 6, 15, 16, 17, 18, 95], [14], [14], [2, 3, 4, 5, 6, 15, 17, 18, 23, 24], [2, 4, 5, 6, 17, 23, 24, 25, 26], [2, 4, 5, 6, 17, 23, 24, 25, 26, 27], [2, 4, 5, 6, 17, 23, 24, 25, 26, 27, 28], [2, 4, 5, 6, 17, 23, 24, 25, 26, 27, 28], [2, 4, 5, 6, 17, 23, 24, 25, 26, 27, 28, 122], [4, 5, 17, 23, 24, 25, 26, 27], [2, 4, 5, 6, 17, 23, 24, 25, 26, 27, 28], [2, 4, 5, 6, 17, 23, 24, 25, 26, 27, 28], [4, 5, 17, 23, 24, 25, 26, 27, 29, 30], [4, 5, 23, 24, 25, 26, 29, 30, 31, 32], [4, 5, 23, 24, 25, 26, 29, 30, 31, 32], [4, 5, 23, 24, 25, 26, 29, 30, 31, 32, 33, 34], [23, 24, 25, 26, 29, 30, 31, 32, 33, 34, 35, 36], [14], [14]]
def l7_0_1 : EC := (.seq (.block 1 (.ops [⟨(some 125), .mov (.t 27), none⟩,
    ⟨(some 126), .mov (.t 2), none⟩,
    ⟨(some 127), .mov (.t 28), none⟩,
    ⟨(some 128), .iad 3 1 (.t 126) (.t 127), none⟩,
    ⟨(some 129), .load false 1 (.t 128), none⟩,
    ⟨(some 130), .call 28 [(.t 129)], none⟩,
    ⟨(some 131), .bsl 3 1 [(.int .i64 0)] [(0, 1, (.t 130))], none⟩,
    ⟨(some 132), .app 3 1 8 (.t 125) (.t 131), none⟩,
    ⟨(some 27), .mov (.t 132), none⟩] [2, 4, 5, 6, 17, 23, 24, 25, 26, 27, 28]))
  (.ops [⟨(some 123), .mov (.t 28), none⟩,
    ⟨(some 124), .bin .add (.t 123) (.c (.s (.int .i64 1))), none⟩,
    ⟨(some 28), .mov (.t 124), none⟩] [2, 4, 5, 6, 17, 23, 24, 25, 26, 27, 28]))
def l7_0 : EC := (.seq (.seq (.ops [⟨(some 110), .mov (.t 28), none⟩,
    ⟨(some 111), .mov (.t 2), none⟩,
    ⟨(some 112), .len (.t 111), none⟩,
    ⟨(some 113), .bin .lss (.t 110) (.t 112), none⟩,
    ⟨(some 114), .mov (.t 113), none⟩,
    ⟨(some 115), .mov (.t 28), (some (114, true))⟩,
    ⟨(some 116), .mov (.t 17), (some (114, true))⟩,
    ⟨(some 117), .len (.t 116), (some (114, true))⟩,
    ⟨(some 118), .mov (.t 6), (some (114, true))⟩,
    ⟨(some 119), .bin .rem (.t 118) (.c (.s (.int .i64 2))), (some (114, true))⟩,
    ⟨(some 120), .bin .add (.t 117) (.t 119), (some (114, true))⟩,
    ⟨(some 121), .bin .lss (.t 115) (.t 120), (some (114, true))⟩,
    ⟨(some 122), .pick (.t 114) (.t 121) (.c (.s (.bool false))), none⟩] [2, 4, 5, 6, 17, 23, 24, 25, 26, 27, 28, 122])
  (.cond (.t 122) .skip
  (.exit 0 [4, 5, 17, 23, 24, 25, 26, 27])))
  l7_0_1)
def s7_20 : EC := (.seq (.ops [⟨(some 161), .mov (.t 23), none⟩,
    ⟨(some 162), .mov (.t 25), none⟩,
    ⟨(some 163), .bin .eql (.t 161) (.t 162), none⟩,
    ⟨(some 164), .mov (.t 163), none⟩,
    ⟨(some 165), .mov (.t 24), (some (164, true))⟩,
    ⟨(some 166), .mov (.t 26), (some (164, true))⟩,
    ⟨(some 167), .bin .eql (.t 165) (.t 166), (some (164, true))⟩,
    ⟨(some 168), .pick (.t 164) (.t 167) (.c (.s (.bool false))), none⟩,
    ⟨(some 169), .mov (.t 168), none⟩,
    ⟨(some 170), .mov (.t 29), (some (169, true))⟩,
    ⟨(some 171), .mov (.t 31), (some (169, true))⟩,
    ⟨(some 172), .bin .eql (.t 170) (.t 171), (some (169, true))⟩,
    ⟨(some 173), .pick (.t 169) (.t 172) (.c (.s (.bool false))), none⟩,
    ⟨(some 174), .mov (.t 173), none⟩,
    ⟨(some 175), .mov (.t 30), (some (174, true))⟩,
    ⟨(some 176), .mov (.t 32), (some (174, true))⟩,
    ⟨(some 177), .bin .eql (.t 175) (.t 176), (some (174, true))⟩,
    ⟨(some 178), .pick (.t 174) (.t 177) (.c (.s (.bool false))), none⟩,
    ⟨(some 179), .mov (.t 178), none⟩,
    ⟨(some 180), .mov (.t 33), (some (179, true))⟩,
    ⟨(some 181), .mov (.t 35), (some (179, true))⟩,
    ⟨(some 182), .bin .eql (.t 180) (.t 181), (some (179, true))⟩,
    ⟨(some 183), .pick (.t 179) (.t 182) (.c (.s (.bool false))), none⟩,
    ⟨(some 184), .mov (.t 183), none⟩,
    ⟨(some 185), .mov (.t 34), (some (184, true))⟩,
    ⟨(some 186), .mov (.t 36), (some (184, true))⟩,
    ⟨(some 187), .bin .eql (.t 185) (.t 186), (some (184, true))⟩,
    ⟨(some 188), .pick (.t 184) (.t 187) (.c (.s (.bool false))), none⟩,
    ⟨(some 189), .mov (.t 188), none⟩,
    ⟨(some 190), .call 16 [], (some (189, true))⟩,
    ⟨(some 191), .pick (.t 189) (.t 190) (.c (.s (.bool false))), none⟩,
    ⟨(some 14), .mov (.t 191), none⟩] [14])
  (.ret [14]))
def s7_19 : EC := (.seq (.ops [⟨(some 156), .mov (.t 4), none⟩,
    ⟨(some 157), .mov (.t 5), none⟩,
    ⟨(some 158), .call 31 [(.t 156), (.t 157)], none⟩,
    ⟨(some 155), .mov (.t 158), none⟩,
    ⟨(some 159), .ext (.t 155) 0, none⟩,
    ⟨(some 160), .ext (.t 155) 1, none⟩,
    ⟨(some 35), .mov (.t 159), none⟩,
    ⟨(some 36), .mov (.t 160), none⟩] [23, 24, 25, 26, 29, 30, 31, 32, 33, 34, 35, 36])
  s7_20)
def s7_18 : EC := (.seq (.ops [⟨(some 150), .mov (.t 4), none⟩,
    ⟨(some 151), .mov (.t 5), none⟩,
    ⟨(some 152), .call 21 [(.t 150), (.t 151)], none⟩,
    ⟨(some 149), .mov (.t 152), none⟩,
    ⟨(some 153), .ext (.t 149) 0, none⟩,
    ⟨(some 154), .ext (.t 149) 1, none⟩,
    ⟨(some 33), .mov (.t 153), none⟩,
    ⟨(some 34), .mov (.t 154), none⟩] [4, 5, 23, 24, 25, 26, 29, 30, 31, 32, 33, 34])
  s7_19)
def s7_17 : EC := (.seq (.ops [⟨(some 145), .mov (.t 4), none⟩,
    ⟨(some 146), .call 30 [(.t 145)], none⟩,
    ⟨(some 147), .mov (.t 5), none⟩,
    ⟨(some 148), .call 28 [(.t 147)], none⟩,
    ⟨(some 4), .mov (.t 146), none⟩,
    ⟨(some 5), .mov (.t 148), none⟩] [4, 5, 23, 24, 25, 26, 29, 30, 31, 32])
  s7_18)
def s7_16 : EC := (.seq (.ops [⟨(some 140), .mov (.t 17), none⟩,
    ⟨(some 141), .mov (.t 27), none⟩,
    ⟨(some 142), .call 29 [(.t 140), (.t 141)], none⟩,
    ⟨(some 139), .mov (.t 142), none⟩,
    ⟨(some 143), .ext (.t 139) 0, none⟩,
    ⟨(some 144), .ext (.t 139) 1, none⟩,
    ⟨(some 31), .mov (.t 143), none⟩,
    ⟨(some 32), .mov (.t 144), none⟩] [4, 5, 23, 24, 25, 26, 29, 30, 31, 32])
  s7_17)
def s7_15 : EC := (.seq (.ops [⟨(some 134), .mov (.t 17), none⟩,
    ⟨(some 135), .mov (.t 27), none⟩,
    ⟨(some 136), .call 15 [(.t 134), (.t 135)], none⟩,
    ⟨(some 133), .mov (.t 136), none⟩,
    ⟨(some 137), .ext (.t 133) 0, none⟩,
    ⟨(some 138), .ext (.t 133) 1, none⟩,
    ⟨(some 29), .mov (.t 137), none⟩,
    ⟨(some 30), .mov (.t 138), none⟩] [4, 5, 17, 23, 24, 25, 26, 27, 29, 30])
  s7_16)
def s7_14 : EC := (.seq (.seq (.ops [⟨(some 28), .mov (.c (.s (.int .i64 0))), none⟩] [2, 4, 5, 6, 17, 23, 24, 25, 26, 27, 28])
  (.block 0 (.loop [2, 4, 5, 6, 17, 23, 24, 25, 26, 27, 28] l7_0)))
  s7_15)
def s7_13 : EC := (.seq (.ops [⟨(some 27), .mov (.c (.s .nils)), none⟩] [2, 4, 5, 6, 17, 23, 24, 25, 26, 27])
  s7_14)
def s7_12 : EC := (.seq (.ops [⟨(some 104), .mov (.t 15), none⟩,
    ⟨(some 105), .mov (.t 18), none⟩,
    ⟨(some 106), .mov (.t 3), none⟩,
    ⟨(some 107), .call 27 [(.t 104), (.t 105), (.t 106)], none⟩,
    ⟨(some 103), .mov (.t 107), none⟩,
    ⟨(some 108), .ext (.t 103) 0, none⟩,
    ⟨(some 109), .ext (.t 103) 1, none⟩,
    ⟨(some 25), .mov (.t 108), none⟩,
    ⟨(some 26), .mov (.t 109), none⟩] [2, 4, 5, 6, 17, 23, 24, 25, 26])
  s7_13)
def s7_11 : EC := (.seq (.ops [⟨(some 97), .mov (.t 16), none⟩,
    ⟨(some 98), .mov (.t 18), none⟩,
    ⟨(some 99), .mov (.t 3), none⟩,
    ⟨(some 100), .call 24 [(.t 97), (.t 98), (.t 99)], none⟩,
    ⟨(some 96), .mov (.t 100), none⟩,
    ⟨(some 101), .ext (.t 96) 0, none⟩,
    ⟨(some 102), .ext (.t 96) 1, none⟩,
    ⟨(some 23), .mov (.t 101), none⟩,
    ⟨(some 24), .mov (.t 102), none⟩] [2, 3, 4, 5, 6, 15, 17, 18, 23, 24])
  s7_12)
def s7_10 : EC := (.seq (.seq (.ops [⟨(some 87), .mov (.t 20), none⟩,
    ⟨(some 88), .mov (.t 22), none⟩,
    ⟨(some 89), .bin .neq (.t 87) (.t 88), none⟩,
    ⟨(some 90), .mov (.t 89), none⟩,
    ⟨(some 91), .mov (.t 19), (some (90, false))⟩,
    ⟨(some 92), .mov (.t 21), (some (90, false))⟩,
    ⟨(some 93), .call 20 [(.t 91), (.t 92)], (some (90, false))⟩,
    ⟨(some 94), .un .not (.t 93), (some (90, false))⟩,
    ⟨(some 95), .pick (.t 90) (.c (.s (.bool true))) (.t 94), none⟩] [2, 3, 4, 5, 6, 15, 16, 17, 18, 95])
  (.cond (.t 95) (.seq (.ops [⟨(some 14), .mov (.c (.s (.bool false))), none⟩] [14])
  (.ret [14]))
  .skip))
  s7_11)
def s7_9 : EC := (.seq (.ops [⟨(some 80), .mov (.t 15), none⟩,
    ⟨(some 81), .mov (.t 18), none⟩,
    ⟨(some 82), .mov (.t 17), none⟩,
    ⟨(some 83), .mov (.t 3), none⟩,
    ⟨(some 84), .call 26 [(.t 80), (.t 81), (.t 82), (.t 83)], none⟩,
    ⟨(some 79), .mov (.t 84), none⟩,
    ⟨(some 85), .ext (.t 79) 0, none⟩,
    ⟨(some 86), .ext (.t 79) 1, none⟩,
    ⟨(some 21), .mov (.t 85), none⟩,
    ⟨(some 22), .mov (.t 86), none⟩] [2, 3, 4, 5, 6, 15, 16, 17, 18, 19, 20, 21, 22])
  s7_10)
def s7_8 : EC := (.seq (.ops [⟨(some 72), .mov (.t 16), none⟩,
    ⟨(some 73), .mov (.t 18), none⟩,
    ⟨(some 74), .mov (.t 17), none⟩,
    ⟨(some 75), .mov (.t 3), none⟩,
    ⟨(some 76), .call 19 [(.t 72), (.t 73), (.t 74), (.t 75)], none⟩,
    ⟨(some 71), .mov (.t 76), none⟩,
    ⟨(some 77), .ext (.t 71) 0, none⟩,
    ⟨(some 78), .ext (.t 71) 1, none⟩,
    ⟨(some 19), .mov (.t 77), none⟩,
    ⟨(some 20), .mov (.t 78), none⟩] [2, 3, 4, 5, 6, 15, 16, 17, 18, 19, 20])
  s7_9)
def s7_7 : EC := (.seq (.ops [⟨(some 65), .bsl 9 3 [(.str ⟨#[]⟩)] [(0, 1, (.c (.s (.str ⟨#[117, 107]⟩)))), (1, 1, (.c (.s (.str ⟨#[100, 101]⟩)))), (2, 1, (.c (.s (.str ⟨#[102, 114]⟩))))], none⟩,
    ⟨(some 66), .mov (.t 6), none⟩,
    ⟨(some 67), .call 14 [(.t 66), (.c (.s (.int .i64 9)))], none⟩,
    ⟨(some 68), .bin .rem (.t 67) (.c (.s (.int .i64 3))), none⟩,
    ⟨(some 69), .iad 9 1 (.t 65) (.t 68), none⟩,
    ⟨(some 70), .load false 1 (.t 69), none⟩,
    ⟨(some 18), .mov (.t 70), none⟩] [2, 3, 4, 5, 6, 15, 16, 17, 18])
  s7_8)
def s7_6 : EC := (.seq (.seq (.ops [⟨(some 60), .mov (.t 6), none⟩,
    ⟨(some 61), .bin .rem (.t 60) (.c (.s (.int .i64 5))), none⟩,
    ⟨(some 62), .bin .neq (.t 61) (.c (.s (.int .i64 4))), none⟩] [2, 3, 4, 5, 6, 15, 16, 17, 62])
  (.cond (.t 62) (.ops [⟨(some 63), .mov (.t 3), none⟩,
    ⟨(some 64), .call 14 [(.t 63), (.c (.s (.int .i64 16)))], none⟩,
    ⟨(some 3), .mov (.t 64), none⟩] [2, 3, 4, 5, 6, 15, 16, 17])
  .skip))
  s7_7)
def s7_5 : EC := (.seq (.seq (.ops [⟨(some 48), .mov (.t 6), none⟩,
    ⟨(some 49), .bin .rem (.t 48) (.c (.s (.int .i64 11))), none⟩,
    ⟨(some 50), .bin .eql (.t 49) (.c (.s (.int .i64 10))), none⟩,
    ⟨(some 51), .mov (.t 50), none⟩,
    ⟨(some 52), .mov (.t 17), (some (51, true))⟩,
    ⟨(some 53), .len (.t 52), (some (51, true))⟩,
    ⟨(some 54), .bin .gtr (.t 53) (.c (.s (.int .i64 0))), (some (51, true))⟩,
    ⟨(some 55), .pick (.t 51) (.t 54) (.c (.s (.bool false))), none⟩] [2, 3, 4, 5, 6, 15, 16, 17, 55])
  (.cond (.t 55) (.ops [⟨(some 56), .mov (.t 17), none⟩,
    ⟨(some 57), .mov (.t 3), none⟩,
    ⟨(some 58), .iad 30 3 (.t 56) (.c (.s (.int .i64 0))), none⟩,
    ⟨(some 59), .fad 2 (.t 58), none⟩,
    ⟨none, .store 1 (.t 59) (.t 57), none⟩] [2, 3, 4, 5, 6, 15, 16, 17])
  .skip))
  s7_6)
def s7_4 : EC := (.seq (.ops [⟨(some 43), .mov (.t 1), none⟩,
    ⟨(some 44), .call 13 [(.t 43)], none⟩,
    ⟨(some 45), .nilc (.t 44), none⟩,
    ⟨(some 46), .fad 0 (.t 45), none⟩,
    ⟨(some 47), .load false 1 (.t 46), none⟩,
    ⟨(some 17), .mov (.t 47), none⟩] [2, 3, 4, 5, 6, 15, 16, 17])
  s7_5)
def s7_3 : EC := (.seq (.seq (.ops [⟨(some 41), .mov (.t 16), none⟩,
    ⟨(some 42), .eqp false (.t 41) (.c (.s .nilp)), none⟩] [1, 2, 3, 4, 5, 6, 15, 16, 42])
  (.cond (.t 42) (.seq (.ops [⟨(some 14), .mov (.c (.s (.bool false))), none⟩] [14])
  (.ret [14]))
  .skip))
  s7_4)
def s7_2 : EC := (.seq (.ops [⟨(some 39), .mov (.t 15), none⟩,
    ⟨(some 40), .call 23 [(.t 39)], none⟩,
    ⟨(some 16), .mov (.t 40), none⟩] [1, 2, 3, 4, 5, 6, 15, 16])
  s7_3)
def s7_1 : EC := (.seq (.ops [⟨(some 37), .mov (.t 0), none⟩,
    ⟨(some 38), .call 25 [(.t 37)], none⟩,
    ⟨(some 15), .mov (.t 38), none⟩] [1, 2, 3, 4, 5, 6, 15])
  s7_2)
def b7 : EC := (.seq (.ops [⟨(some 14), .mov (.c (.s (.bool false))), none⟩] [0, 1, 2, 3, 4, 5, 6])
  s7_1)
def e7 : EF := ⟨192, b7, [.tmp 14]⟩

/-- scutage/scutagelaw09.EnactErrors -/
def h8 : List (List Nat) := [[0], [0, 3], [0, 3, 14], [2], [2], [0, 3, 29, 30, 31], [0, 3, 29, 30, 31], [0, 3, 29, 30, 31, 32], [0, 3], [0, 3, 5, 29, 30, 31], [0, 3, 29, 30, 31, 36], [2], [2], [0, 3, 29, 30, 31], [0, 3, 41], [2], [2], [0, 3, 6], [0, 3, 6], [0, 3, 6, 43], [0, 3], [0, 3, 6, 52], [2], [2], [0, 3, 6], [0, 3], [0, 3, 7], [0, 3, 7, 71], [2], [2], [0, 3], [0, 3, 8, 9], [0, 3, 8, 9, 10, 11], [2], [2]]
def l8_0_2 : EC := (.seq (.block 1 (.seq (.ops [⟨(some 33), .iad 31 1 (.t 29) (.t 31), none⟩,
    ⟨(some 34), .load false 1 (.t 33), none⟩,
    ⟨(some 5), .mov (.t 34), none⟩] [0, 3, 5, 29, 30, 31])
  (.seq (.ops [⟨(some 35), .mov (.t 5), none⟩,
    ⟨(some 36), .bin .neq (.t 35) (.c (.s (.int .i64 1))), none⟩] [0, 3, 29, 30, 31, 36])
  (.cond (.t 36) (.seq (.ops [⟨(some 2), .mov (.c (.s (.bool false))), none⟩] [2])
  (.ret [2]))
  .skip))))
  (.ops [⟨(some 37), .bin .add (.t 31) (.c (.s (.int .i64 1))), none⟩,
    ⟨(some 31), .mov (.t 37), none⟩] [0, 3, 29, 30, 31]))
def l8_0_1 : EC := (.seq (.cond (.t 32) .skip
  (.exit 0 [0, 3]))
  l8_0_2)
def l8_0 : EC := (.seq (.ops [⟨(some 32), .bin .lss (.t 31) (.t 30), none⟩] [0, 3, 29, 30, 31, 32])
  l8_0_1)
def l8_1_1 : EC := (.seq (.block 3 (.seq (.ops [⟨(some 46), .mov (.t 3), none⟩,
    ⟨(some 47), .mov (.t 6), none⟩,
    ⟨(some 48), .mov (.t 6), none⟩,
    ⟨(some 49), .bin .mul (.c (.s (.int .i64 1000))) (.t 48), none⟩,
    ⟨(some 50), .mov (.t 6), none⟩,
    ⟨(some 51), .call 18 [(.t 46), (.c (.s (.str ⟨#[97]⟩))), (.t 47), (.t 49), (.t 50)], none⟩,
    ⟨(some 52), .bin .neq (.t 51) (.c (.s (.int .i64 0))), none⟩] [0, 3, 6, 52])
  (.cond (.t 52) (.seq (.ops [⟨(some 2), .mov (.c (.s (.bool false))), none⟩] [2])
  (.ret [2]))
  .skip)))
  (.ops [⟨(some 44), .mov (.t 6), none⟩,
    ⟨(some 45), .bin .add (.t 44) (.c (.s (.int .i64 1))), none⟩,
    ⟨(some 6), .mov (.t 45), none⟩] [0, 3, 6]))
def l8_1 : EC := (.seq (.seq (.ops [⟨(some 42), .mov (.t 6), none⟩,
    ⟨(some 43), .bin .lss (.t 42) (.c (.s (.int .i64 24))), none⟩] [0, 3, 6, 43])
  (.cond (.t 43) .skip
  (.exit 2 [0, 3])))
  l8_1_1)
def s8_12 : EC := (.seq (.ops [⟨(some 88), .mov (.t 9), none⟩,
    ⟨(some 89), .mov (.t 88), none⟩,
    ⟨(some 90), .mov (.t 8), (some (89, true))⟩,
    ⟨(some 91), .mov (.t 0), (some (89, true))⟩,
    ⟨(some 92), .bin .mul (.c (.s (.int .i64 1000))) (.t 91), (some (89, true))⟩,
    ⟨(some 93), .bin .eql (.t 90) (.t 92), (some (89, true))⟩,
    ⟨(some 94), .pick (.t 89) (.t 93) (.c (.s (.bool false))), none⟩,
    ⟨(some 95), .mov (.t 94), none⟩,
    ⟨(some 96), .mov (.t 11), (some (95, true))⟩,
    ⟨(some 97), .pick (.t 95) (.t 96) (.c (.s (.bool false))), none⟩,
    ⟨(some 98), .mov (.t 97), none⟩,
    ⟨(some 99), .mov (.t 10), (some (98, true))⟩,
    ⟨(some 100), .mov (.t 0), (some (98, true))⟩,
    ⟨(some 101), .bin .mul (.c (.s (.int .i64 1000))) (.t 100), (some (98, true))⟩,
    ⟨(some 102), .bin .eql (.t 99) (.t 101), (some (98, true))⟩,
    ⟨(some 103), .pick (.t 98) (.t 102) (.c (.s (.bool false))), none⟩,
    ⟨(some 104), .mov (.t 103), none⟩,
    ⟨(some 105), .mov (.t 3), (some (104, true))⟩,
    ⟨(some 106), .call 18 [(.t 105), (.c (.s (.str ⟨#[97]⟩))), (.c (.s (.int .i64 90))), (.c (.s (.int .i64 1))), (.c (.s (.int .i64 1)))], (some (104, true))⟩,
    ⟨(some 107), .bin .eql (.t 106) (.c (.s (.int .i64 5))), (some (104, true))⟩,
    ⟨(some 108), .pick (.t 104) (.t 107) (.c (.s (.bool false))), none⟩,
    ⟨(some 109), .mov (.t 108), none⟩,
    ⟨(some 110), .mov (.t 3), (some (109, true))⟩,
    ⟨(some 111), .mov (.t 0), (some (109, true))⟩,
    ⟨(some 112), .mov (.t 0), (some (109, true))⟩,
    ⟨(some 113), .call 18 [(.t 110), (.c (.s (.str ⟨#[97]⟩))), (.t 111), (.c (.s (.int .i64 1))), (.t 112)], (some (109, true))⟩,
    ⟨(some 114), .bin .eql (.t 113) (.c (.s (.int .i64 4))), (some (109, true))⟩,
    ⟨(some 115), .pick (.t 109) (.t 114) (.c (.s (.bool false))), none⟩,
    ⟨(some 116), .mov (.t 115), none⟩,
    ⟨(some 117), .call 34 [], (some (116, true))⟩,
    ⟨(some 118), .pick (.t 116) (.t 117) (.c (.s (.bool false))), none⟩,
    ⟨(some 2), .mov (.t 118), none⟩] [2])
  (.ret [2]))
def s8_11 : EC := (.seq (.ops [⟨(some 83), .mov (.t 3), none⟩,
    ⟨(some 84), .mov (.t 0), none⟩,
    ⟨(some 85), .call 33 [(.t 83), (.c (.s (.str ⟨#[97]⟩))), (.c (.s (.int .i64 99))), (.t 84)], none⟩,
    ⟨(some 82), .mov (.t 85), none⟩,
    ⟨(some 86), .ext (.t 82) 0, none⟩,
    ⟨(some 87), .ext (.t 82) 1, none⟩,
    ⟨(some 10), .mov (.t 86), none⟩,
    ⟨(some 11), .mov (.t 87), none⟩] [0, 3, 8, 9, 10, 11])
  s8_12)
def s8_10 : EC := (.seq (.ops [⟨(some 77), .mov (.t 3), none⟩,
    ⟨(some 78), .mov (.t 0), none⟩,
    ⟨(some 79), .call 33 [(.t 77), (.c (.s (.str ⟨#[97]⟩))), (.t 78), (.c (.s (.int .i64 399)))], none⟩,
    ⟨(some 76), .mov (.t 79), none⟩,
    ⟨(some 80), .ext (.t 76) 0, none⟩,
    ⟨(some 81), .ext (.t 76) 1, none⟩,
    ⟨(some 8), .mov (.t 80), none⟩,
    ⟨(some 9), .mov (.t 81), none⟩] [0, 3, 8, 9])
  s8_11)
def s8_9 : EC := (.seq (.ops [⟨(some 72), .mov (.t 7), none⟩,
    ⟨(some 73), .mov (.t 0), none⟩,
    ⟨(some 74), .iad 63 4 (.t 72) (.t 73), none⟩,
    ⟨(some 75), .fad 2 (.t 74), none⟩,
    ⟨none, .store 1 (.t 75) (.c (.s (.int .i64 7))), none⟩] [0, 3])
  s8_10)
def s8_8 : EC := (.seq (.seq (.ops [⟨(some 57), .mov (.t 7), none⟩,
    ⟨(some 58), .len (.t 57), none⟩,
    ⟨(some 59), .bin .neq (.t 58) (.c (.s (.int .i64 24))), none⟩,
    ⟨(some 60), .mov (.t 59), none⟩,
    ⟨(some 61), .mov (.t 7), (some (60, false))⟩,
    ⟨(some 62), .mov (.t 0), (some (60, false))⟩,
    ⟨(some 63), .iad 63 4 (.t 61) (.t 62), (some (60, false))⟩,
    ⟨(some 64), .load true 4 (.t 63), (some (60, false))⟩,
    ⟨(some 65), .mov (.t 0), (some (60, false))⟩,
    ⟨(some 66), .mov (.t 0), (some (60, false))⟩,
    ⟨(some 67), .bin .mul (.c (.s (.int .i64 1000))) (.t 66), (some (60, false))⟩,
    ⟨(some 68), .mov (.t 0), (some (60, false))⟩,
    ⟨(some 69), .build [(.str ⟨#[]⟩), (.int .i64 0), (.int .i64 0), (.int .i64 0)] [(0, 1, (.c (.s (.str ⟨#[97]⟩)))), (1, 1, (.t 65)), (2, 1, (.t 67)), (3, 1, (.t 68))], (some (60, false))⟩,
    ⟨(some 70), .eqs true [(0, 2), (1, 0), (2, 0), (3, 0)] (.t 64) (.t 69), (some (60, false))⟩,
    ⟨(some 71), .pick (.t 60) (.c (.s (.bool true))) (.t 70), none⟩] [0, 3, 7, 71])
  (.cond (.t 71) (.seq (.ops [⟨(some 2), .mov (.c (.s (.bool false))), none⟩] [2])
  (.ret [2]))
  .skip))
  s8_9)
def s8_7 : EC := (.seq (.ops [⟨(some 55), .mov (.t 3), none⟩,
    ⟨(some 56), .call 32 [(.t 55)], none⟩,
    ⟨(some 7), .mov (.t 56), none⟩] [0, 3, 7])
  s8_8)
def s8_6 : EC := (.seq (.ops [⟨(some 53), .mov (.t 0), none⟩,
    ⟨(some 54), .call 14 [(.t 53), (.c (.s (.int .i64 24)))], none⟩,
    ⟨(some 0), .mov (.t 54), none⟩] [0, 3])
  s8_7)
def s8_5 : EC := (.seq (.seq (.ops [⟨(some 6), .mov (.c (.s (.int .i64 0))), none⟩] [0, 3, 6])
  (.block 2 (.loop [0, 3, 6] l8_1)))
  s8_6)
def s8_4 : EC := (.seq (.seq (.ops [⟨(some 38), .mov (.t 3), none⟩,
    ⟨(some 39), .call 32 [(.t 38)], none⟩,
    ⟨(some 40), .len (.t 39), none⟩,
    ⟨(some 41), .bin .neq (.t 40) (.c (.s (.int .i64 0))), none⟩] [0, 3, 41])
  (.cond (.t 41) (.seq (.ops [⟨(some 2), .mov (.c (.s (.bool false))), none⟩] [2])
  (.ret [2]))
  .skip))
  s8_5)
def s8_3 : EC := (.seq (.seq (.ops [⟨(some 15), .mov (.t 3), none⟩,
    ⟨(some 16), .call 18 [(.t 15), (.c (.s (.str ⟨#[]⟩))), (.c (.s (.int .i64 1))), (.c (.s (.int .i64 1))), (.c (.s (.int .i64 1)))], none⟩,
    ⟨(some 17), .mov (.t 3), none⟩,
    ⟨(some 18), .call 18 [(.t 17), (.c (.s (.str ⟨#[97]⟩))), (.c (.s (.int .i64 (-1)))), (.c (.s (.int .i64 1))), (.c (.s (.int .i64 1)))], none⟩,
    ⟨(some 19), .mov (.t 3), none⟩,
    ⟨(some 20), .call 18 [(.t 19), (.c (.s (.str ⟨#[97]⟩))), (.c (.s (.int .i64 100))), (.c (.s (.int .i64 1))), (.c (.s (.int .i64 1)))], none⟩,
    ⟨(some 21), .mov (.t 3), none⟩,
    ⟨(some 22), .call 18 [(.t 21), (.c (.s (.str ⟨#[97]⟩))), (.c (.s (.int .i64 1))), (.c (.s (.int .i64 (-1)))), (.c (.s (.int .i64 1)))], none⟩,
    ⟨(some 23), .mov (.t 3), none⟩,
    ⟨(some 24), .call 18 [(.t 23), (.c (.s (.str ⟨#[97]⟩))), (.c (.s (.int .i64 1))), (.c (.s (.int .i64 1000001))), (.c (.s (.int .i64 1)))], none⟩,
    ⟨(some 25), .mov (.t 3), none⟩,
    ⟨(some 26), .call 18 [(.t 25), (.c (.s (.str ⟨#[97]⟩))), (.c (.s (.int .i64 1))), (.c (.s (.int .i64 1))), (.c (.s (.int .i64 (-1))))], none⟩,
    ⟨(some 27), .mov (.t 3), none⟩,
    ⟨(some 28), .call 18 [(.t 27), (.c (.s (.str ⟨#[97]⟩))), (.c (.s (.int .i64 1))), (.c (.s (.int .i64 1))), (.c (.s (.int .i64 400)))], none⟩,
    ⟨(some 29), .bsl 31 7 [(.int .i64 0)] [(0, 1, (.t 16)), (1, 1, (.t 18)), (2, 1, (.t 20)), (3, 1, (.t 22)), (4, 1, (.t 24)), (5, 1, (.t 26)), (6, 1, (.t 28))], none⟩,
    ⟨(some 30), .len (.t 29), none⟩,
    ⟨(some 31), .mov (.c (.s (.int .i64 0))), none⟩] [0, 3, 29, 30, 31])
  (.block 0 (.loop [0, 3, 29, 30, 31] l8_0)))
  s8_4)
def s8_2 : EC := (.seq (.seq (.ops [⟨(some 13), .mov (.t 3), none⟩,
    ⟨(some 14), .eqp false (.t 13) (.c (.s .nilp)), none⟩] [0, 3, 14])
  (.cond (.t 14) (.seq (.ops [⟨(some 2), .mov (.c (.s (.bool false))), none⟩] [2])
  (.ret [2]))
  .skip))
  s8_3)
def s8_1 : EC := (.seq (.ops [⟨(some 12), .call 17 [], none⟩,
    ⟨(some 3), .mov (.t 12), none⟩] [0, 3])
  s8_2)
def b8 : EC := (.seq (.ops [⟨(some 2), .mov (.c (.s (.bool false))), none⟩] [0])
  s8_1)
def e8 : EF := ⟨119, b8, [.tmp 2]⟩

/-- scutage/scutagelaw09.EnactOrder -/
def h9 : List (List Nat) := [[0, 1, 2], [0, 1, 2, 7, 8], [0, 1, 2, 7, 8, 29], [6], [6], [0, 1, 2, 7, 8, 9], [0, 1, 2, 7, 8, 9, 10], [0, 1, 2, 7, 8, 9, 10], [0, 1, 2, 7, 8, 9, 10, 37], [1, 2, 7, 8, 9], [0, 1, 2, 7, 8, 9, 10, 11], [0, 1, 2, 7, 8, 9, 10, 11, 74], [0, 1, 2, 7, 8, 9, 10], [0, 1, 2, 7, 8, 9, 10], [1, 2, 7, 8, 9, 80, 81], [1, 2, 7, 8, 9, 80, 81], [1, 2, 7, 8, 9, 80, 81, 82], [1, 2, 7, 8, 9], [1, 2, 7, 8, 9, 12, 80, 81], [1, 2, 7, 8, 9, 13, 80, 81], [1, 2, 7, 8, 9, 80, 81, 102], [6], [6], [1, 2, 7, 8, 9, 80, 81], [1, 2, 7, 8, 9], [1, 2, 8, 9, 14, 15], [1, 2, 9, 14, 15, 16, 17], [1, 2, 9, 14, 15, 16, 17, 18, 19], [1, 2, 14, 15, 16, 17, 18, 19, 123, 124, 125], [1, 2, 14, 15, 16, 17, 18, 19, 123, 124, 125], [1, 2, 14, 15, 16, 17, 18, 19, 123, 124, 125, 126], [14, 15, 16, 17, 18, 19], [1, 2, 14, 15, 16, 17, 18, 19, 21, 123, 124, 125], [1, 2, 14, 15, 16, 17, 18, 19, 21, 123, 124, 125, 168], [1, 2, 14, 15, 16, 17, 18, 19, 123, 124, 125], [1, 2, 14, 15, 16, 17, 18, 19, 123, 124, 125], [6], [6]]
def l9_0_1 : EC := (.seq (.block 1 (.seq (.draw [⟨(some 45), .mov (.t 0), none⟩,
    ⟨(some 46), .mov (.t 10), none⟩,
    ⟨(some 47), .iad 68 5 (.t 45) (.t 46), none⟩,
    ⟨(some 48), .fad 1 (.t 47), none⟩,
    ⟨(some 49), .load false 1 (.t 48), none⟩,
    ⟨(some 50), .call 14 [(.t 49), (.c (.s (.int .i64 6)))], none⟩,
    ⟨(some 51), .mov (.t 0), none⟩,
    ⟨(some 52), .mov (.t 10), none⟩,
    ⟨(some 53), .iad 68 5 (.t 51) (.t 52), none⟩,
    ⟨(some 54), .fad 2 (.t 53), none⟩,
    ⟨(some 55), .load false 1 (.t 54), none⟩,
    ⟨(some 56), .call 14 [(.t 55), (.c (.s (.int .i64 1000001)))], none⟩,
    ⟨(some 57), .mov (.t 0), none⟩,
    ⟨(some 58), .mov (.t 10), none⟩,
    ⟨(some 59), .iad 68 5 (.t 57) (.t 58), none⟩,
    ⟨(some 60), .fad 3 (.t 59), none⟩,
    ⟨(some 61), .load false 1 (.t 60), none⟩,
    ⟨(some 62), .call 14 [(.t 61), (.c (.s (.int .i64 8)))], none⟩,
    ⟨(some 40), .bsl 9 2 [(.str ⟨#[]⟩)] [(0, 1, (.c (.s (.str ⟨#[117, 107]⟩)))), (1, 1, (.c (.s (.str ⟨#[100, 101]⟩))))], none⟩,
    ⟨(some 41), .mov (.t 10), none⟩,
    ⟨(some 42), .bin .rem (.t 41) (.c (.s (.int .i64 2))), none⟩,
    ⟨(some 43), .iad 9 1 (.t 40) (.t 42), none⟩,
    ⟨(some 44), .load false 1 (.t 43), none⟩,
    ⟨(some 63), .build [(.str ⟨#[]⟩), (.int .i64 0), (.int .i64 0), (.int .i64 0)] [(0, 1, (.t 44)), (1, 1, (.t 50)), (2, 1, (.t 56)), (3, 1, (.t 62))], none⟩,
    ⟨(some 11), .new 63 4 (.c (.agg [(.str ⟨#[]⟩), (.int .i64 0), (.int .i64 0), (.int .i64 0)])), none⟩,
    ⟨none, .store 4 (.t 11) (.t 63), none⟩] [(8, 5), (10, 5), (14, 5), (14, 11), (16, 5), (16, 11), (21, 5), (21, 11), (21, 17), (22, 5), (22, 11), (22, 17)] [0, 1, 2, 7, 8, 9, 10, 11])
  (.seq (.ops [⟨(some 64), .mov (.t 7), none⟩,
    ⟨(some 65), .fad 0 (.t 11), none⟩,
    ⟨(some 66), .load false 1 (.t 65), none⟩,
    ⟨(some 67), .fad 1 (.t 11), none⟩,
    ⟨(some 68), .load false 1 (.t 67), none⟩,
    ⟨(some 69), .fad 2 (.t 11), none⟩,
    ⟨(some 70), .load false 1 (.t 69), none⟩,
    ⟨(some 71), .fad 3 (.t 11), none⟩,
    ⟨(some 72), .load false 1 (.t 71), none⟩,
    ⟨(some 73), .call 18 [(.t 64), (.t 66), (.t 68), (.t 70), (.t 72)], none⟩,
    ⟨(some 74), .bin .eql (.t 73) (.c (.s (.int .i64 0))), none⟩] [0, 1, 2, 7, 8, 9, 10, 11, 74])
  (.cond (.t 74) (.ops [⟨(some 75), .mov (.t 9), none⟩,
    ⟨(some 76), .load true 4 (.t 11), none⟩,
    ⟨(some 77), .bsl 63 1 [(.str ⟨#[]⟩), (.int .i64 0), (.int .i64 0), (.int .i64 0)] [(0, 4, (.t 76))], none⟩,
    ⟨(some 78), .app 63 4 40 (.t 75) (.t 77), none⟩,
    ⟨(some 9), .mov (.t 78), none⟩] [0, 1, 2, 7, 8, 9, 10])
  .skip))))
  (.ops [⟨(some 38), .mov (.t 10), none⟩,
    ⟨(some 39), .bin .add (.t 38) (.c (.s (.int .i64 1))), none⟩,
    ⟨(some 10), .mov (.t 39), none⟩] [0, 1, 2, 7, 8, 9, 10]))
def l9_0 : EC := (.seq (.seq (.ops [⟨(some 30), .mov (.t 10), none⟩,
    ⟨(some 31), .mov (.t 0), none⟩,
    ⟨(some 32), .len (.t 31), none⟩,
    ⟨(some 33), .bin .lss (.t 30) (.t 32), none⟩,
    ⟨(some 34), .mov (.t 33), none⟩,
    ⟨(some 35), .mov (.t 10), (some (34, true))⟩,
    ⟨(some 36), .bin .lss (.t 35) (.c (.s (.int .i64 12))), (some (34, true))⟩,
    ⟨(some 37), .pick (.t 34) (.t 36) (.c (.s (.bool false))), none⟩] [0, 1, 2, 7, 8, 9, 10, 37])
  (.cond (.t 37) .skip
  (.exit 0 [1, 2, 7, 8, 9])))
  l9_0_1)
def l9_1_2 : EC := (.seq (.block 3 (.seq (.ops [⟨(some 83), .mov (.t 81), none⟩,
    ⟨(some 12), .mov (.t 83), none⟩] [1, 2, 7, 8, 9, 12, 80, 81])
  (.seq (.ops [⟨(some 84), .mov (.t 9), none⟩,
    ⟨(some 85), .mov (.t 9), none⟩,
    ⟨(some 86), .len (.t 85), none⟩,
    ⟨(some 87), .bin .sub (.t 86) (.c (.s (.int .i64 1))), none⟩,
    ⟨(some 88), .mov (.t 12), none⟩,
    ⟨(some 89), .bin .sub (.t 87) (.t 88), none⟩,
    ⟨(some 90), .iad 63 4 (.t 84) (.t 89), none⟩,
    ⟨(some 91), .load true 4 (.t 90), none⟩,
    ⟨(some 13), .new 63 4 (.c (.agg [(.str ⟨#[]⟩), (.int .i64 0), (.int .i64 0), (.int .i64 0)])), none⟩,
    ⟨none, .store 4 (.t 13) (.t 91), none⟩] [1, 2, 7, 8, 9, 13, 80, 81])
  (.seq (.ops [⟨(some 92), .mov (.t 8), none⟩,
    ⟨(some 93), .fad 0 (.t 13), none⟩,
    ⟨(some 94), .load false 1 (.t 93), none⟩,
    ⟨(some 95), .fad 1 (.t 13), none⟩,
    ⟨(some 96), .load false 1 (.t 95), none⟩,
    ⟨(some 97), .fad 2 (.t 13), none⟩,
    ⟨(some 98), .load false 1 (.t 97), none⟩,
    ⟨(some 99), .fad 3 (.t 13), none⟩,
    ⟨(some 100), .load false 1 (.t 99), none⟩,
    ⟨(some 101), .call 18 [(.t 92), (.t 94), (.t 96), (.t 98), (.t 100)], none⟩,
    ⟨(some 102), .bin .neq (.t 101) (.c (.s (.int .i64 0))), none⟩] [1, 2, 7, 8, 9, 80, 81, 102])
  (.cond (.t 102) (.seq (.ops [⟨(some 6), .mov (.c (.s (.bool false))), none⟩] [6])
  (.ret [6]))
  .skip)))))
  (.ops [⟨(some 103), .bin .add (.t 81) (.c (.s (.int .i64 1))), none⟩,
    ⟨(some 81), .mov (.t 103), none⟩] [1, 2, 7, 8, 9, 80, 81]))
def l9_1_1 : EC := (.seq (.cond (.t 82) .skip
  (.exit 2 [1, 2, 7, 8, 9]))
  l9_1_2)
def l9_1 : EC := (.seq (.ops [⟨(some 82), .bin .lss (.t 81) (.t 80), none⟩] [1, 2, 7, 8, 9, 80, 81, 82])
  l9_1_1)
def l9_2_2 : EC := (.seq (.block 5 (.seq (.ops [⟨(some 127), .iad 63 4 (.t 123) (.t 125), none⟩,
    ⟨(some 128), .load true 4 (.t 127), none⟩,
    ⟨(some 21), .new 63 4 (.c (.agg [(.str ⟨#[]⟩), (.int .i64 0), (.int .i64 0), (.int .i64 0)])), none⟩,
    ⟨none, .store 4 (.t 21) (.t 128), none⟩] [1, 2, 14, 15, 16, 17, 18, 19, 21, 123, 124, 125])
  (.seq (.ops [⟨(some 129), .fad 0 (.t 21), none⟩,
    ⟨(some 130), .load false 1 (.t 129), none⟩,
    ⟨(some 131), .bin .eql (.t 130) (.c (.s (.str ⟨#[117, 107]⟩))), none⟩,
    ⟨(some 132), .mov (.t 131), none⟩,
    ⟨(some 133), .fad 1 (.t 21), (some (132, true))⟩,
    ⟨(some 134), .load false 1 (.t 133), (some (132, true))⟩,
    ⟨(some 135), .mov (.t 2), (some (132, true))⟩,
    ⟨(some 136), .bin .leq (.t 134) (.t 135), (some (132, true))⟩,
    ⟨(some 137), .pick (.t 132) (.t 136) (.c (.s (.bool false))), none⟩,
    ⟨(some 138), .mov (.t 137), none⟩,
    ⟨(some 139), .fad 3 (.t 21), (some (138, true))⟩,
    ⟨(some 140), .load false 1 (.t 139), (some (138, true))⟩,
    ⟨(some 141), .mov (.t 1), (some (138, true))⟩,
    ⟨(some 142), .bin .leq (.t 140) (.t 141), (some (138, true))⟩,
    ⟨(some 143), .pick (.t 138) (.t 142) (.c (.s (.bool false))), none⟩,
    ⟨(some 144), .mov (.t 143), none⟩,
    ⟨(some 145), .mov (.t 19), (some (144, true))⟩,
    ⟨(some 146), .un .not (.t 145), (some (144, true))⟩,
    ⟨(some 147), .mov (.t 146), (some (144, true))⟩,
    ⟨(some 148), .fad 1 (.t 21), (some (147, false))⟩,
    ⟨(some 149), .load false 1 (.t 148), (some (147, false))⟩,
    ⟨(some 150), .fad 1 (.t 18), (some (147, false))⟩,
    ⟨(some 151), .load false 1 (.t 150), (some (147, false))⟩,
    ⟨(some 152), .bin .gtr (.t 149) (.t 151), (some (147, false))⟩,
    ⟨(some 153), .pick (.t 147) (.c (.s (.bool true))) (.t 152), (some (144, true))⟩,
    ⟨(some 154), .mov (.t 153), (some (144, true))⟩,
    ⟨(some 155), .fad 1 (.t 21), (some (154, false))⟩,
    ⟨(some 156), .load false 1 (.t 155), (some (154, false))⟩,
    ⟨(some 157), .fad 1 (.t 18), (some (154, false))⟩,
    ⟨(some 158), .load false 1 (.t 157), (some (154, false))⟩,
    ⟨(some 159), .bin .eql (.t 156) (.t 158), (some (154, false))⟩,
    ⟨(some 160), .mov (.t 159), (some (154, false))⟩,
    ⟨(some 161), .fad 3 (.t 21), (some (160, true))⟩,
    ⟨(some 162), .load false 1 (.t 161), (some (160, true))⟩,
    ⟨(some 163), .fad 3 (.t 18), (some (160, true))⟩,
    ⟨(some 164), .load false 1 (.t 163), (some (160, true))⟩,
    ⟨(some 165), .bin .gtr (.t 162) (.t 164), (some (160, true))⟩,
    ⟨(some 166), .pick (.t 160) (.t 165) (.c (.s (.bool false))), (some (154, false))⟩,
    ⟨(some 167), .pick (.t 154) (.c (.s (.bool true))) (.t 166), (some (144, true))⟩,
    ⟨(some 168), .pick (.t 144) (.t 167) (.c (.s (.bool false))), none⟩] [1, 2, 14, 15, 16, 17, 18, 19, 21, 123, 124, 125, 168])
  (.cond (.t 168) (.ops [⟨(some 169), .load true 4 (.t 21), none⟩,
    ⟨none, .store 4 (.t 18) (.t 169), none⟩,
    ⟨(some 19), .mov (.c (.s (.bool true))), none⟩] [1, 2, 14, 15, 16, 17, 18, 19, 123, 124, 125])
  .skip))))
  (.ops [⟨(some 170), .bin .add (.t 125) (.c (.s (.int .i64 1))), none⟩,
    ⟨(some 125), .mov (.t 170), none⟩] [1, 2, 14, 15, 16, 17, 18, 19, 123, 124, 125]))
def l9_2_1 : EC := (.seq (.cond (.t 126) .skip
  (.exit 4 [14, 15, 16, 17, 18, 19]))
  l9_2_2)
def l9_2 : EC := (.seq (.ops [⟨(some 126), .bin .lss (.t 125) (.t 124), none⟩] [1, 2, 14, 15, 16, 17, 18, 19, 123, 124, 125, 126])
  l9_2_1)
def s9_11 : EC := (.seq (.ops [⟨(some 171), .mov (.t 14), none⟩,
    ⟨(some 172), .mov (.t 16), none⟩,
    ⟨(some 173), .bin .eql (.t 171) (.t 172), none⟩,
    ⟨(some 174), .mov (.t 173), none⟩,
    ⟨(some 175), .mov (.t 15), (some (174, true))⟩,
    ⟨(some 176), .mov (.t 17), (some (174, true))⟩,
    ⟨(some 177), .eqb false (.t 175) (.t 176), (some (174, true))⟩,
    ⟨(some 178), .pick (.t 174) (.t 177) (.c (.s (.bool false))), none⟩,
    ⟨(some 179), .mov (.t 178), none⟩,
    ⟨(some 180), .mov (.t 15), (some (179, true))⟩,
    ⟨(some 181), .mov (.t 19), (some (179, true))⟩,
    ⟨(some 182), .eqb false (.t 180) (.t 181), (some (179, true))⟩,
    ⟨(some 183), .pick (.t 179) (.t 182) (.c (.s (.bool false))), none⟩,
    ⟨(some 184), .mov (.t 183), none⟩,
    ⟨(some 185), .mov (.t 15), (some (184, true))⟩,
    ⟨(some 186), .un .not (.t 185), (some (184, true))⟩,
    ⟨(some 187), .mov (.t 186), (some (184, true))⟩,
    ⟨(some 188), .mov (.t 14), (some (187, false))⟩,
    ⟨(some 189), .fad 2 (.t 18), (some (187, false))⟩,
    ⟨(some 190), .load false 1 (.t 189), (some (187, false))⟩,
    ⟨(some 191), .bin .eql (.t 188) (.t 190), (some (187, false))⟩,
    ⟨(some 192), .pick (.t 187) (.c (.s (.bool true))) (.t 191), (some (184, true))⟩,
    ⟨(some 193), .pick (.t 184) (.t 192) (.c (.s (.bool false))), none⟩,
    ⟨(some 194), .mov (.t 193), none⟩,
    ⟨(some 195), .call 34 [], (some (194, true))⟩,
    ⟨(some 196), .pick (.t 194) (.t 195) (.c (.s (.bool false))), none⟩,
    ⟨(some 6), .mov (.t 196), none⟩] [6])
  (.ret [6]))
def s9_10 : EC := (.seq (.seq (.ops [⟨(some 123), .mov (.t 9), none⟩,
    ⟨(some 124), .len (.t 123), none⟩,
    ⟨(some 125), .mov (.c (.s (.int .i64 0))), none⟩] [1, 2, 14, 15, 16, 17, 18, 19, 123, 124, 125])
  (.block 4 (.loop [1, 2, 14, 15, 16, 17, 18, 19, 123, 124, 125] l9_2)))
  s9_11)
def s9_9 : EC := (.seq (.ops [⟨(some 122), .build [(.str ⟨#[]⟩), (.int .i64 0), (.int .i64 0), (.int .i64 0)] [(1, 1, (.c (.s (.int .i64 (-1)))))], none⟩,
    ⟨(some 18), .new 63 4 (.c (.agg [(.str ⟨#[]⟩), (.int .i64 0), (.int .i64 0), (.int .i64 0)])), none⟩,
    ⟨none, .store 4 (.t 18) (.t 122), none⟩,
    ⟨(some 19), .mov (.c (.s (.bool false))), none⟩] [1, 2, 9, 14, 15, 16, 17, 18, 19])
  s9_10)
def s9_8 : EC := (.seq (.ops [⟨(some 116), .mov (.t 8), none⟩,
    ⟨(some 117), .mov (.t 2), none⟩,
    ⟨(some 118), .mov (.t 1), none⟩,
    ⟨(some 119), .call 33 [(.t 116), (.c (.s (.str ⟨#[117, 107]⟩))), (.t 117), (.t 118)], none⟩,
    ⟨(some 115), .mov (.t 119), none⟩,
    ⟨(some 120), .ext (.t 115) 0, none⟩,
    ⟨(some 121), .ext (.t 115) 1, none⟩,
    ⟨(some 16), .mov (.t 120), none⟩,
    ⟨(some 17), .mov (.t 121), none⟩] [1, 2, 9, 14, 15, 16, 17])
  s9_9)
def s9_7 : EC := (.seq (.ops [⟨(some 109), .mov (.t 7), none⟩,
    ⟨(some 110), .mov (.t 2), none⟩,
    ⟨(some 111), .mov (.t 1), none⟩,
    ⟨(some 112), .call 33 [(.t 109), (.c (.s (.str ⟨#[117, 107]⟩))), (.t 110), (.t 111)], none⟩,
    ⟨(some 108), .mov (.t 112), none⟩,
    ⟨(some 113), .ext (.t 108) 0, none⟩,
    ⟨(some 114), .ext (.t 108) 1, none⟩,
    ⟨(some 14), .mov (.t 113), none⟩,
    ⟨(some 15), .mov (.t 114), none⟩] [1, 2, 8, 9, 14, 15])
  s9_8)
def s9_6 : EC := (.seq (.ops [⟨(some 104), .mov (.t 1), none⟩,
    ⟨(some 105), .call 14 [(.t 104), (.c (.s (.int .i64 10)))], none⟩,
    ⟨(some 106), .mov (.t 2), none⟩,
    ⟨(some 107), .call 14 [(.t 106), (.c (.s (.int .i64 8)))], none⟩,
    ⟨(some 1), .mov (.t 105), none⟩,
    ⟨(some 2), .mov (.t 107), none⟩] [1, 2, 7, 8, 9])
  s9_7)
def s9_5 : EC := (.seq (.seq (.ops [⟨(some 79), .mov (.t 9), none⟩,
    ⟨(some 80), .len (.t 79), none⟩,
    ⟨(some 81), .mov (.c (.s (.int .i64 0))), none⟩] [1, 2, 7, 8, 9, 80, 81])
  (.block 2 (.loop [1, 2, 7, 8, 9, 80, 81] l9_1)))
  s9_6)
def s9_4 : EC := (.seq (.seq (.ops [⟨(some 10), .mov (.c (.s (.int .i64 0))), none⟩] [0, 1, 2, 7, 8, 9, 10])
  (.block 0 (.loop [0, 1, 2, 7, 8, 9, 10] l9_0)))
  s9_5)
def s9_3 : EC := (.seq (.ops [⟨(some 9), .mov (.c (.s .nils)), none⟩] [0, 1, 2, 7, 8, 9])
  s9_4)
def s9_2 : EC := (.seq (.seq (.ops [⟨(some 24), .mov (.t 7), none⟩,
    ⟨(some 25), .eqp false (.t 24) (.c (.s .nilp)), none⟩,
    ⟨(some 26), .mov (.t 25), none⟩,
    ⟨(some 27), .mov (.t 8), (some (26, false))⟩,
    ⟨(some 28), .eqp false (.t 27) (.c (.s .nilp)), (some (26, false))⟩,
    ⟨(some 29), .pick (.t 26) (.c (.s (.bool true))) (.t 28), none⟩] [0, 1, 2, 7, 8, 29])
  (.cond (.t 29) (.seq (.ops [⟨(some 6), .mov (.c (.s (.bool false))), none⟩] [6])
  (.ret [6]))
  .skip))
  s9_3)
def s9_1 : EC := (.seq (.ops [⟨(some 22), .call 17 [], none⟩,
    ⟨(some 23), .call 17 [], none⟩,
    ⟨(some 7), .mov (.t 22), none⟩,
    ⟨(some 8), .mov (.t 23), none⟩] [0, 1, 2, 7, 8])
  s9_2)
def b9 : EC := (.seq (.ops [⟨(some 6), .mov (.c (.s (.bool false))), none⟩] [0, 1, 2])
  s9_1)
def e9 : EF := ⟨197, b9, [.tmp 6]⟩

/-- scutage/scutagelaw09.EnactLater -/
def h10 : List (List Nat) := [[0, 1, 2, 3, 4], [0, 1, 2, 3, 4, 11], [0, 1, 2, 3, 4, 11, 20], [10], [10], [0, 1, 2, 3, 4, 11], [0, 1, 2, 3, 4, 11], [0, 1, 2, 3, 4, 11, 64], [10], [10], [0, 3, 4, 11, 114, 115, 116], [0, 3, 4, 11, 114, 115, 116], [0, 3, 4, 11, 114, 115, 116, 117], [0, 3, 4, 11], [0, 3, 4, 11, 13, 114, 115, 116], [0, 3, 4, 11, 13, 14, 15, 114, 115, 116], [0, 3, 4, 11, 114, 115, 116, 138], [10], [10], [0, 3, 4, 11, 114, 115, 116], [17], [10], [10]]
def l10_0_2 : EC := (.seq (.block 1 (.seq (.ops [⟨(some 118), .iad 70 4 (.t 114) (.t 116), none⟩,
    ⟨(some 119), .load true 4 (.t 118), none⟩,
    ⟨(some 13), .new 70 4 (.c (.agg [(.int .i64 0), (.int .i64 0), (.int .i64 0), (.bool false)])), none⟩,
    ⟨none, .store 4 (.t 13) (.t 119), none⟩] [0, 3, 4, 11, 13, 114, 115, 116])
  (.seq (.ops [⟨(some 121), .mov (.t 11), none⟩,
    ⟨(some 122), .fad 0 (.t 13), none⟩,
    ⟨(some 123), .load false 1 (.t 122), none⟩,
    ⟨(some 124), .fad 1 (.t 13), none⟩,
    ⟨(some 125), .load false 1 (.t 124), none⟩,
    ⟨(some 126), .call 33 [(.t 121), (.c (.s (.str ⟨#[120]⟩))), (.t 123), (.t 125)], none⟩,
    ⟨(some 120), .mov (.t 126), none⟩,
    ⟨(some 127), .ext (.t 120) 0, none⟩,
    ⟨(some 128), .ext (.t 120) 1, none⟩,
    ⟨(some 14), .mov (.t 127), none⟩,
    ⟨(some 15), .mov (.t 128), none⟩] [0, 3, 4, 11, 13, 14, 15, 114, 115, 116])
  (.seq (.ops [⟨(some 129), .mov (.t 15), none⟩,
    ⟨(some 130), .fad 3 (.t 13), none⟩,
    ⟨(some 131), .load false 1 (.t 130), none⟩,
    ⟨(some 132), .eqb true (.t 129) (.t 131), none⟩,
    ⟨(some 133), .mov (.t 132), none⟩,
    ⟨(some 134), .mov (.t 14), (some (133, false))⟩,
    ⟨(some 135), .fad 2 (.t 13), (some (133, false))⟩,
    ⟨(some 136), .load false 1 (.t 135), (some (133, false))⟩,
    ⟨(some 137), .bin .neq (.t 134) (.t 136), (some (133, false))⟩,
    ⟨(some 138), .pick (.t 133) (.c (.s (.bool true))) (.t 137), none⟩] [0, 3, 4, 11, 114, 115, 116, 138])
  (.cond (.t 138) (.seq (.ops [⟨(some 10), .mov (.c (.s (.bool false))), none⟩] [10])
  (.ret [10]))
  .skip)))))
  (.ops [⟨(some 139), .bin .add (.t 116) (.c (.s (.int .i64 1))), none⟩,
    ⟨(some 116), .mov (.t 139), none⟩] [0, 3, 4, 11, 114, 115, 116]))
def l10_0_1 : EC := (.seq (.cond (.t 117) .skip
  (.exit 0 [0, 3, 4, 11]))
  l10_0_2)
def l10_0 : EC := (.seq (.ops [⟨(some 117), .bin .lss (.t 116) (.t 115), none⟩] [0, 3, 4, 11, 114, 115, 116, 117])
  l10_0_1)
def s10_8 : EC := (.seq (.ops [⟨(some 149), .mov (.t 17), none⟩,
    ⟨(some 150), .un .not (.t 149), none⟩,
    ⟨(some 151), .mov (.t 150), none⟩,
    ⟨(some 152), .call 34 [], (some (151, true))⟩,
    ⟨(some 153), .pick (.t 151) (.t 152) (.c (.s (.bool false))), none⟩,
    ⟨(some 10), .mov (.t 153), none⟩] [10])
  (.ret [10]))
def s10_7 : EC := (.seq (.ops [⟨(some 141), .mov (.t 11), none⟩,
    ⟨(some 142), .mov (.t 0), none⟩,
    ⟨(some 143), .mov (.t 3), none⟩,
    ⟨(some 144), .mov (.t 4), none⟩,
    ⟨(some 145), .bin .add (.t 143) (.t 144), none⟩,
    ⟨(some 146), .call 33 [(.t 141), (.c (.s (.str ⟨#[121]⟩))), (.t 142), (.t 145)], none⟩,
    ⟨(some 140), .mov (.t 146), none⟩,
    ⟨(some 147), .ext (.t 140) 0, none⟩,
    ⟨(some 148), .ext (.t 140) 1, none⟩,
    ⟨(some 16), .mov (.t 147), none⟩,
    ⟨(some 17), .mov (.t 148), none⟩] [17])
  s10_8)
def s10_6 : EC := (.seq (.seq (.ops [⟨(some 65), .mov (.t 0), none⟩,
    ⟨(some 66), .mov (.t 3), none⟩,
    ⟨(some 67), .bin .sub (.t 66) (.c (.s (.int .i64 1))), none⟩,
    ⟨(some 68), .build [(.int .i64 0), (.int .i64 0), (.int .i64 0), (.bool false)] [(0, 1, (.t 65)), (1, 1, (.t 67)), (2, 1, (.c (.s (.int .i64 0)))), (3, 1, (.c (.s (.bool false))))], none⟩,
    ⟨(some 69), .mov (.t 0), none⟩,
    ⟨(some 70), .bin .sub (.t 69) (.c (.s (.int .i64 1))), none⟩,
    ⟨(some 71), .mov (.t 3), none⟩,
    ⟨(some 72), .build [(.int .i64 0), (.int .i64 0), (.int .i64 0), (.bool false)] [(0, 1, (.t 70)), (1, 1, (.t 71)), (2, 1, (.c (.s (.int .i64 0)))), (3, 1, (.c (.s (.bool false))))], none⟩,
    ⟨(some 73), .mov (.t 0), none⟩,
    ⟨(some 74), .mov (.t 3), none⟩,
    ⟨(some 75), .mov (.t 1), none⟩,
    ⟨(some 76), .build [(.int .i64 0), (.int .i64 0), (.int .i64 0), (.bool false)] [(0, 1, (.t 73)), (1, 1, (.t 74)), (2, 1, (.t 75)), (3, 1, (.c (.s (.bool true))))], none⟩,
    ⟨(some 77), .mov (.t 0), none⟩,
    ⟨(some 78), .bin .add (.t 77) (.c (.s (.int .i64 1))), none⟩,
    ⟨(some 79), .mov (.t 3), none⟩,
    ⟨(some 80), .mov (.t 1), none⟩,
    ⟨(some 81), .build [(.int .i64 0), (.int .i64 0), (.int .i64 0), (.bool false)] [(0, 1, (.t 78)), (1, 1, (.t 79)), (2, 1, (.t 80)), (3, 1, (.c (.s (.bool true))))], none⟩,
    ⟨(some 82), .mov (.t 0), none⟩,
    ⟨(some 83), .bin .add (.t 82) (.c (.s (.int .i64 2))), none⟩,
    ⟨(some 84), .mov (.t 3), none⟩,
    ⟨(some 85), .mov (.t 2), none⟩,
    ⟨(some 86), .build [(.int .i64 0), (.int .i64 0), (.int .i64 0), (.bool false)] [(0, 1, (.t 83)), (1, 1, (.t 84)), (2, 1, (.t 85)), (3, 1, (.c (.s (.bool true))))], none⟩,
    ⟨(some 87), .mov (.t 0), none⟩,
    ⟨(some 88), .bin .add (.t 87) (.c (.s (.int .i64 9))), none⟩,
    ⟨(some 89), .mov (.t 3), none⟩,
    ⟨(some 90), .bin .add (.t 89) (.c (.s (.int .i64 90))), none⟩,
    ⟨(some 91), .mov (.t 2), none⟩,
    ⟨(some 92), .build [(.int .i64 0), (.int .i64 0), (.int .i64 0), (.bool false)] [(0, 1, (.t 88)), (1, 1, (.t 90)), (2, 1, (.t 91)), (3, 1, (.c (.s (.bool true))))], none⟩,
    ⟨(some 93), .mov (.t 0), none⟩,
    ⟨(some 94), .mov (.t 3), none⟩,
    ⟨(some 95), .mov (.t 4), none⟩,
    ⟨(some 96), .bin .add (.t 94) (.t 95), none⟩,
    ⟨(some 97), .mov (.t 2), none⟩,
    ⟨(some 98), .build [(.int .i64 0), (.int .i64 0), (.int .i64 0), (.bool false)] [(0, 1, (.t 93)), (1, 1, (.t 96)), (2, 1, (.t 97)), (3, 1, (.c (.s (.bool true))))], none⟩,
    ⟨(some 99), .mov (.t 0), none⟩,
    ⟨(some 100), .bin .add (.t 99) (.c (.s (.int .i64 1))), none⟩,
    ⟨(some 101), .mov (.t 3), none⟩,
    ⟨(some 102), .mov (.t 4), none⟩,
    ⟨(some 103), .bin .add (.t 101) (.t 102), none⟩,
    ⟨(some 104), .bin .sub (.t 103) (.c (.s (.int .i64 1))), none⟩,
    ⟨(some 105), .mov (.t 1), none⟩,
    ⟨(some 106), .build [(.int .i64 0), (.int .i64 0), (.int .i64 0), (.bool false)] [(0, 1, (.t 100)), (1, 1, (.t 104)), (2, 1, (.t 105)), (3, 1, (.c (.s (.bool true))))], none⟩,
    ⟨(some 107), .mov (.t 0), none⟩,
    ⟨(some 108), .bin .add (.t 107) (.c (.s (.int .i64 1))), none⟩,
    ⟨(some 109), .mov (.t 3), none⟩,
    ⟨(some 110), .mov (.t 4), none⟩,
    ⟨(some 111), .bin .add (.t 109) (.t 110), none⟩,
    ⟨(some 112), .mov (.t 2), none⟩,
    ⟨(some 113), .build [(.int .i64 0), (.int .i64 0), (.int .i64 0), (.bool false)] [(0, 1, (.t 108)), (1, 1, (.t 111)), (2, 1, (.t 112)), (3, 1, (.c (.s (.bool true))))], none⟩,
    ⟨(some 114), .bsl 70 9 [(.int .i64 0), (.int .i64 0), (.int .i64 0), (.bool false)] [(0, 4, (.t 68)), (4, 4, (.t 72)), (8, 4, (.t 76)), (12, 4, (.t 81)), (16, 4, (.t 86)), (20, 4, (.t 92)), (24, 4, (.t 98)), (28, 4, (.t 106)), (32, 4, (.t 113))], none⟩,
    ⟨(some 115), .len (.t 114), none⟩,
    ⟨(some 116), .mov (.c (.s (.int .i64 0))), none⟩] [0, 3, 4, 11, 114, 115, 116])
  (.block 0 (.loop [0, 3, 4, 11, 114, 115, 116] l10_0)))
  s10_7)
def s10_5 : EC := (.seq (.seq (.ops [⟨(some 32), .mov (.t 11), none⟩,
    ⟨(some 33), .mov (.t 0), none⟩,
    ⟨(some 34), .mov (.t 1), none⟩,
    ⟨(some 35), .mov (.t 3), none⟩,
    ⟨(some 36), .call 18 [(.t 32), (.c (.s (.str ⟨#[120]⟩))), (.t 33), (.t 34), (.t 35)], none⟩,
    ⟨(some 37), .bin .neq (.t 36) (.c (.s (.int .i64 0))), none⟩,
    ⟨(some 38), .mov (.t 37), none⟩,
    ⟨(some 39), .mov (.t 11), (some (38, false))⟩,
    ⟨(some 40), .mov (.t 0), (some (38, false))⟩,
    ⟨(some 41), .bin .add (.t 40) (.c (.s (.int .i64 2))), (some (38, false))⟩,
    ⟨(some 42), .mov (.t 2), (some (38, false))⟩,
    ⟨(some 43), .mov (.t 3), (some (38, false))⟩,
    ⟨(some 44), .call 18 [(.t 39), (.c (.s (.str ⟨#[120]⟩))), (.t 41), (.t 42), (.t 43)], (some (38, false))⟩,
    ⟨(some 45), .bin .neq (.t 44) (.c (.s (.int .i64 0))), (some (38, false))⟩,
    ⟨(some 46), .pick (.t 38) (.c (.s (.bool true))) (.t 45), none⟩,
    ⟨(some 47), .mov (.t 46), none⟩,
    ⟨(some 48), .mov (.t 11), (some (47, false))⟩,
    ⟨(some 49), .mov (.t 0), (some (47, false))⟩,
    ⟨(some 50), .mov (.t 2), (some (47, false))⟩,
    ⟨(some 51), .mov (.t 3), (some (47, false))⟩,
    ⟨(some 52), .mov (.t 4), (some (47, false))⟩,
    ⟨(some 53), .bin .add (.t 51) (.t 52), (some (47, false))⟩,
    ⟨(some 54), .call 18 [(.t 48), (.c (.s (.str ⟨#[120]⟩))), (.t 49), (.t 50), (.t 53)], (some (47, false))⟩,
    ⟨(some 55), .bin .neq (.t 54) (.c (.s (.int .i64 0))), (some (47, false))⟩,
    ⟨(some 56), .pick (.t 47) (.c (.s (.bool true))) (.t 55), none⟩,
    ⟨(some 57), .mov (.t 56), none⟩,
    ⟨(some 58), .mov (.t 11), (some (57, false))⟩,
    ⟨(some 59), .mov (.t 0), (some (57, false))⟩,
    ⟨(some 60), .mov (.t 2), (some (57, false))⟩,
    ⟨(some 61), .mov (.t 3), (some (57, false))⟩,
    ⟨(some 62), .call 18 [(.t 58), (.c (.s (.str ⟨#[120]⟩))), (.t 59), (.t 60), (.t 61)], (some (57, false))⟩,
    ⟨(some 63), .bin .neq (.t 62) (.c (.s (.int .i64 4))), (some (57, false))⟩,
    ⟨(some 64), .pick (.t 57) (.c (.s (.bool true))) (.t 63), none⟩] [0, 1, 2, 3, 4, 11, 64])
  (.cond (.t 64) (.seq (.ops [⟨(some 10), .mov (.c (.s (.bool false))), none⟩] [10])
  (.ret [10]))
  .skip))
  s10_6)
def s10_4 : EC := (.seq (.ops [⟨(some 25), .mov (.t 1), none⟩,
    ⟨(some 26), .call 14 [(.t 25), (.c (.s (.int .i64 1000001)))], none⟩,
    ⟨(some 27), .mov (.t 2), none⟩,
    ⟨(some 28), .call 14 [(.t 27), (.c (.s (.int .i64 1000001)))], none⟩,
    ⟨(some 29), .mov (.t 4), none⟩,
    ⟨(some 30), .call 14 [(.t 29), (.c (.s (.int .i64 50)))], none⟩,
    ⟨(some 31), .bin .add (.c (.s (.int .i64 1))) (.t 30), none⟩,
    ⟨(some 1), .mov (.t 26), none⟩,
    ⟨(some 2), .mov (.t 28), none⟩,
    ⟨(some 4), .mov (.t 31), none⟩] [0, 1, 2, 3, 4, 11])
  s10_5)
def s10_3 : EC := (.seq (.ops [⟨(some 21), .mov (.t 0), none⟩,
    ⟨(some 22), .call 14 [(.t 21), (.c (.s (.int .i64 90)))], none⟩,
    ⟨(some 23), .mov (.t 3), none⟩,
    ⟨(some 24), .call 14 [(.t 23), (.c (.s (.int .i64 300)))], none⟩,
    ⟨(some 0), .mov (.t 22), none⟩,
    ⟨(some 3), .mov (.t 24), none⟩] [0, 1, 2, 3, 4, 11])
  s10_4)
def s10_2 : EC := (.seq (.seq (.ops [⟨(some 19), .mov (.t 11), none⟩,
    ⟨(some 20), .eqp false (.t 19) (.c (.s .nilp)), none⟩] [0, 1, 2, 3, 4, 11, 20])
  (.cond (.t 20) (.seq (.ops [⟨(some 10), .mov (.c (.s (.bool false))), none⟩] [10])
  (.ret [10]))
  .skip))
  s10_3)
def s10_1 : EC := (.seq (.ops [⟨(some 18), .call 17 [], none⟩,
    ⟨(some 11), .mov (.t 18), none⟩] [0, 1, 2, 3, 4, 11])
  s10_2)
def b10 : EC := (.seq (.ops [⟨(some 10), .mov (.c (.s (.bool false))), none⟩] [0, 1, 2, 3, 4])
  s10_1)
def e10 : EF := ⟨154, b10, [.tmp 10]⟩

/-- scutage/scutagelaw09.EnactPlays -/
def h11 : List (List Nat) := [[0], [0, 3, 4], [0, 3, 4, 26], [2], [2], [0, 3, 4, 5], [0, 3, 4, 5], [0, 3, 4, 5, 34], [3, 4], [0, 3, 4, 5, 6], [0, 3, 4, 5, 6, 7], [0, 3, 4, 5, 6, 7, 8, 9, 10], [0, 3, 4, 5, 6, 7, 8, 9, 10, 58], [0, 3, 4, 5, 7, 8, 9, 10], [0, 3, 4, 5, 7, 8, 9, 10, 66], [0, 3, 4, 5, 7, 8, 9, 10, 11], [0, 3, 4, 5, 7, 8, 9, 10, 11, 70], [2], [2], [0, 3, 4, 5, 7, 8, 9, 10, 11], [0, 3, 4, 5, 7, 8, 9, 10], [0, 3, 4, 5, 87], [2], [2], [0, 3, 4, 5], [3, 4, 12], [3, 4, 12, 97], [2], [2], [3, 4, 12, 99, 100], [3, 4, 12, 99, 100], [3, 4, 12, 99, 100, 101], [3, 4], [3, 4, 12, 13, 99, 100], [3, 4, 12, 99, 100, 114], [2], [2], [3, 4, 12, 99, 100], [3, 4, 116, 117, 118], [3, 4, 116, 117, 118], [3, 4, 116, 117, 118, 119], [], [3, 4, 15, 116, 117, 118], [3, 4, 15, 16, 116, 117, 118], [3, 4, 15, 16, 116, 117, 118], [3, 4, 15, 16, 116, 117, 118, 123], [3, 4, 116, 117, 118], [3, 4, 15, 16, 17, 116, 117, 118], [3, 4, 15, 16, 17, 116, 117, 118], [3, 4, 15, 16, 17, 116, 117, 118, 127], [3, 4, 15, 16, 116, 117, 118], [3, 4, 15, 16, 17, 18, 19, 116, 117, 118], [3, 4, 15, 16, 17, 18, 19, 20, 21, 116, 117, 118], [3, 4, 15, 16, 17, 116, 117, 118, 153], [2], [2], [3, 4, 15, 16, 17, 116, 117, 118], [3, 4, 15, 16, 116, 117, 118], [3, 4, 116, 117, 118], [2], [2]]
def l11_0_1 : EC := (.seq (.block 1 (.seq (.ops [⟨(some 37), .mov (.t 0), none⟩,
    ⟨(some 38), .mov (.t 5), none⟩,
    ⟨(some 39), .iad 68 5 (.t 37) (.t 38), none⟩,
    ⟨(some 40), .load true 5 (.t 39), none⟩,
    ⟨(some 6), .new 68 5 (.c (.agg [(.int .i64 0), (.int .i64 0), (.int .i64 0), (.int .i64 0), (.bool false)])), none⟩,
    ⟨none, .store 5 (.t 6) (.t 40), none⟩] [0, 3, 4, 5, 6])
  (.seq (.ops [⟨(some 41), .bsl 9 4 [(.str ⟨#[]⟩)] [(0, 1, (.c (.s (.str ⟨#[117, 107]⟩)))), (1, 1, (.c (.s (.str ⟨#[100, 101]⟩)))), (2, 1, (.c (.s (.str ⟨#[]⟩)))), (3, 1, (.c (.s (.str ⟨#[117, 107, 50]⟩))))], none⟩,
    ⟨(some 42), .fad 0 (.t 6), none⟩,
    ⟨(some 43), .load false 1 (.t 42), none⟩,
    ⟨(some 44), .call 14 [(.t 43), (.c (.s (.int .i64 11)))], none⟩,
    ⟨(some 45), .bin .rem (.t 44) (.c (.s (.int .i64 4))), none⟩,
    ⟨(some 46), .iad 9 1 (.t 41) (.t 45), none⟩,
    ⟨(some 47), .load false 1 (.t 46), none⟩,
    ⟨(some 7), .mov (.t 47), none⟩] [0, 3, 4, 5, 6, 7])
  (.seq (.draw [⟨(some 48), .fad 1 (.t 6), none⟩,
    ⟨(some 49), .load false 1 (.t 48), none⟩,
    ⟨(some 50), .call 14 [(.t 49), (.c (.s (.int .i64 6)))], none⟩,
    ⟨(some 51), .fad 2 (.t 6), none⟩,
    ⟨(some 52), .load false 1 (.t 51), none⟩,
    ⟨(some 53), .call 28 [(.t 52)], none⟩,
    ⟨(some 54), .fad 3 (.t 6), none⟩,
    ⟨(some 55), .load false 1 (.t 54), none⟩,
    ⟨(some 56), .call 14 [(.t 55), (.c (.s (.int .i64 10)))], none⟩,
    ⟨(some 8), .mov (.t 50), none⟩,
    ⟨(some 9), .mov (.t 53), none⟩,
    ⟨(some 10), .mov (.t 56), none⟩] [(4, 2), (7, 2), (7, 5)] [0, 3, 4, 5, 6, 7, 8, 9, 10])
  (.seq (.seq (.ops [⟨(some 57), .fad 4 (.t 6), none⟩,
    ⟨(some 58), .load false 1 (.t 57), none⟩] [0, 3, 4, 5, 6, 7, 8, 9, 10, 58])
  (.cond (.t 58) (.draw [⟨(some 59), .fad 1 (.t 6), none⟩,
    ⟨(some 60), .load false 1 (.t 59), none⟩,
    ⟨(some 61), .fad 2 (.t 6), none⟩,
    ⟨(some 62), .load false 1 (.t 61), none⟩,
    ⟨(some 63), .fad 3 (.t 6), none⟩,
    ⟨(some 64), .load false 1 (.t 63), none⟩,
    ⟨(some 8), .mov (.t 60), none⟩,
    ⟨(some 9), .mov (.t 62), none⟩,
    ⟨(some 10), .mov (.t 64), none⟩] [] [0, 3, 4, 5, 7, 8, 9, 10])
  .skip))
  (.seq (.seq (.ops [⟨(some 65), .mov (.t 5), none⟩,
    ⟨(some 66), .bin .eql (.t 65) (.c (.s (.int .i64 9))), none⟩] [0, 3, 4, 5, 7, 8, 9, 10, 66])
  (.cond (.t 66) (.seq (.ops [⟨(some 67), .mov (.t 3), none⟩,
    ⟨(some 68), .call 35 [(.t 67)], none⟩,
    ⟨(some 11), .mov (.t 68), none⟩] [0, 3, 4, 5, 7, 8, 9, 10, 11])
  (.seq (.seq (.ops [⟨(some 69), .mov (.t 11), none⟩,
    ⟨(some 70), .eqp false (.t 69) (.c (.s .nilp)), none⟩] [0, 3, 4, 5, 7, 8, 9, 10, 11, 70])
  (.cond (.t 70) (.seq (.ops [⟨(some 2), .mov (.c (.s (.bool false))), none⟩] [2])
  (.ret [2]))
  .skip))
  (.seq (.ops [⟨(some 71), .mov (.t 11), none⟩,
    ⟨(some 72), .call 18 [(.t 71), (.c (.s (.str ⟨#[117, 107]⟩))), (.c (.s (.int .i64 0))), (.c (.s (.int .i64 77))), (.c (.s (.int .i64 0)))], none⟩] [0, 3, 4, 5, 7, 8, 9, 10, 11])
  (.ops [⟨(some 73), .mov (.t 11), none⟩,
    ⟨(some 74), .call 18 [(.t 73), (.c (.s (.str ⟨#[122, 122]⟩))), (.c (.s (.int .i64 0))), (.c (.s (.int .i64 77))), (.c (.s (.int .i64 0)))], none⟩] [0, 3, 4, 5, 7, 8, 9, 10]))))
  .skip))
  (.seq (.ops [⟨(some 75), .mov (.t 3), none⟩,
    ⟨(some 76), .mov (.t 7), none⟩,
    ⟨(some 77), .mov (.t 8), none⟩,
    ⟨(some 78), .mov (.t 9), none⟩,
    ⟨(some 79), .mov (.t 10), none⟩,
    ⟨(some 80), .call 18 [(.t 75), (.t 76), (.t 77), (.t 78), (.t 79)], none⟩,
    ⟨(some 81), .mov (.t 4), none⟩,
    ⟨(some 82), .mov (.t 7), none⟩,
    ⟨(some 83), .mov (.t 8), none⟩,
    ⟨(some 84), .mov (.t 9), none⟩,
    ⟨(some 85), .mov (.t 10), none⟩,
    ⟨(some 86), .call 22 [(.t 81), (.t 82), (.t 83), (.t 84), (.t 85)], none⟩,
    ⟨(some 87), .bin .neq (.t 80) (.t 86), none⟩] [0, 3, 4, 5, 87])
  (.cond (.t 87) (.seq (.ops [⟨(some 2), .mov (.c (.s (.bool false))), none⟩] [2])
  (.ret [2]))
  .skip))))))))
  (.ops [⟨(some 35), .mov (.t 5), none⟩,
    ⟨(some 36), .bin .add (.t 35) (.c (.s (.int .i64 1))), none⟩,
    ⟨(some 5), .mov (.t 36), none⟩] [0, 3, 4, 5]))
def l11_0 : EC := (.seq (.seq (.ops [⟨(some 27), .mov (.t 5), none⟩,
    ⟨(some 28), .mov (.t 0), none⟩,
    ⟨(some 29), .len (.t 28), none⟩,
    ⟨(some 30), .bin .lss (.t 27) (.t 29), none⟩,
    ⟨(some 31), .mov (.t 30), none⟩,
    ⟨(some 32), .mov (.t 5), (some (31, true))⟩,
    ⟨(some 33), .bin .lss (.t 32) (.c (.s (.int .i64 28))), (some (31, true))⟩,
    ⟨(some 34), .pick (.t 31) (.t 33) (.c (.s (.bool false))), none⟩] [0, 3, 4, 5, 34])
  (.cond (.t 34) .skip
  (.exit 0 [3, 4])))
  l11_0_1)
def l11_1_2 : EC := (.seq (.block 3 (.seq (.ops [⟨(some 102), .mov (.t 100), none⟩,
    ⟨(some 13), .mov (.t 102), none⟩] [3, 4, 12, 13, 99, 100])
  (.seq (.draw [⟨(some 103), .mov (.t 12), none⟩,
    ⟨(some 104), .mov (.t 13), none⟩,
    ⟨(some 105), .iad 63 4 (.t 103) (.t 104), none⟩,
    ⟨(some 106), .load true 4 (.t 105), none⟩,
    ⟨(some 107), .mov (.t 4), none⟩,
    ⟨(some 108), .nilc (.t 107), none⟩,
    ⟨(some 109), .fad 0 (.t 108), none⟩,
    ⟨(some 110), .load false 1 (.t 109), none⟩,
    ⟨(some 111), .mov (.t 13), none⟩,
    ⟨(some 112), .iad 73 4 (.t 110) (.t 111), none⟩,
    ⟨(some 113), .load true 4 (.t 112), none⟩,
    ⟨(some 114), .eqs true [(0, 2), (1, 0), (2, 0), (3, 0)] (.t 106) (.t 113), none⟩] [] [3, 4, 12, 99, 100, 114])
  (.cond (.t 114) (.seq (.ops [⟨(some 2), .mov (.c (.s (.bool false))), none⟩] [2])
  (.ret [2]))
  .skip))))
  (.ops [⟨(some 115), .bin .add (.t 100) (.c (.s (.int .i64 1))), none⟩,
    ⟨(some 100), .mov (.t 115), none⟩] [3, 4, 12, 99, 100]))
def l11_1_1 : EC := (.seq (.cond (.t 101) .skip
  (.exit 2 [3, 4]))
  l11_1_2)
def l11_1 : EC := (.seq (.ops [⟨(some 101), .bin .lss (.t 100) (.t 99), none⟩] [3, 4, 12, 99, 100, 101])
  l11_1_1)
def l11_2_1 : EC := (.seq (.block 9 (.seq (.ops [⟨(some 131), .mov (.t 3), none⟩,
    ⟨(some 132), .mov (.t 15), none⟩,
    ⟨(some 133), .mov (.t 16), none⟩,
    ⟨(some 134), .mov (.t 17), none⟩,
    ⟨(some 135), .call 33 [(.t 131), (.t 132), (.t 133), (.t 134)], none⟩,
    ⟨(some 130), .mov (.t 135), none⟩,
    ⟨(some 136), .ext (.t 130) 0, none⟩,
    ⟨(some 137), .ext (.t 130) 1, none⟩,
    ⟨(some 18), .mov (.t 136), none⟩,
    ⟨(some 19), .mov (.t 137), none⟩] [3, 4, 15, 16, 17, 18, 19, 116, 117, 118])
  (.seq (.ops [⟨(some 139), .mov (.t 4), none⟩,
    ⟨(some 140), .mov (.t 15), none⟩,
    ⟨(some 141), .mov (.t 16), none⟩,
    ⟨(some 142), .mov (.t 17), none⟩,
    ⟨(some 143), .call 36 [(.t 139), (.t 140), (.t 141), (.t 142)], none⟩,
    ⟨(some 138), .mov (.t 143), none⟩,
    ⟨(some 144), .ext (.t 138) 0, none⟩,
    ⟨(some 145), .ext (.t 138) 1, none⟩,
    ⟨(some 20), .mov (.t 144), none⟩,
    ⟨(some 21), .mov (.t 145), none⟩] [3, 4, 15, 16, 17, 18, 19, 20, 21, 116, 117, 118])
  (.seq (.ops [⟨(some 146), .mov (.t 18), none⟩,
    ⟨(some 147), .mov (.t 20), none⟩,
    ⟨(some 148), .bin .neq (.t 146) (.t 147), none⟩,
    ⟨(some 149), .mov (.t 148), none⟩,
    ⟨(some 150), .mov (.t 19), (some (149, false))⟩,
    ⟨(some 151), .mov (.t 21), (some (149, false))⟩,
    ⟨(some 152), .eqb true (.t 150) (.t 151), (some (149, false))⟩,
    ⟨(some 153), .pick (.t 149) (.c (.s (.bool true))) (.t 152), none⟩] [3, 4, 15, 16, 17, 116, 117, 118, 153])
  (.cond (.t 153) (.seq (.ops [⟨(some 2), .mov (.c (.s (.bool false))), none⟩] [2])
  (.ret [2]))
  .skip)))))
  (.ops [⟨(some 128), .mov (.t 17), none⟩,
    ⟨(some 129), .bin .add (.t 128) (.c (.s (.int .i64 1))), none⟩,
    ⟨(some 17), .mov (.t 129), none⟩] [3, 4, 15, 16, 17, 116, 117, 118]))
def l11_2 : EC := (.seq (.seq (.ops [⟨(some 126), .mov (.t 17), none⟩,
    ⟨(some 127), .bin .lss (.t 126) (.c (.s (.int .i64 11))), none⟩] [3, 4, 15, 16, 17, 116, 117, 118, 127])
  (.cond (.t 127) .skip
  (.exit 8 [3, 4, 15, 16, 116, 117, 118])))
  l11_2_1)
def l11_3_1 : EC := (.seq (.block 7 (.seq (.ops [⟨(some 17), .mov (.c (.s (.int .i64 (-1)))), none⟩] [3, 4, 15, 16, 17, 116, 117, 118])
  (.block 8 (.loop [3, 4, 15, 16, 17, 116, 117, 118] l11_2))))
  (.ops [⟨(some 124), .mov (.t 16), none⟩,
    ⟨(some 125), .bin .add (.t 124) (.c (.s (.int .i64 1))), none⟩,
    ⟨(some 16), .mov (.t 125), none⟩] [3, 4, 15, 16, 116, 117, 118]))
def l11_3 : EC := (.seq (.seq (.ops [⟨(some 122), .mov (.t 16), none⟩,
    ⟨(some 123), .bin .lss (.t 122) (.c (.s (.int .i64 8))), none⟩] [3, 4, 15, 16, 116, 117, 118, 123])
  (.cond (.t 123) .skip
  (.exit 6 [3, 4, 116, 117, 118])))
  l11_3_1)
def l11_4_2 : EC := (.seq (.block 5 (.seq (.ops [⟨(some 120), .iad 9 1 (.t 116) (.t 118), none⟩,
    ⟨(some 121), .load false 1 (.t 120), none⟩,
    ⟨(some 15), .mov (.t 121), none⟩] [3, 4, 15, 116, 117, 118])
  (.seq (.ops [⟨(some 16), .mov (.c (.s (.int .i64 (-1)))), none⟩] [3, 4, 15, 16, 116, 117, 118])
  (.block 6 (.loop [3, 4, 15, 16, 116, 117, 118] l11_3)))))
  (.ops [⟨(some 154), .bin .add (.t 118) (.c (.s (.int .i64 1))), none⟩,
    ⟨(some 118), .mov (.t 154), none⟩] [3, 4, 116, 117, 118]))
def l11_4_1 : EC := (.seq (.cond (.t 119) .skip
  (.exit 4 []))
  l11_4_2)
def l11_4 : EC := (.seq (.ops [⟨(some 119), .bin .lss (.t 118) (.t 117), none⟩] [3, 4, 116, 117, 118, 119])
  l11_4_1)
def s11_8 : EC := (.seq (.ops [⟨(some 155), .call 34 [], none⟩,
    ⟨(some 2), .mov (.t 155), none⟩] [2])
  (.ret [2]))
def s11_7 : EC := (.seq (.seq (.ops [⟨(some 116), .bsl 9 4 [(.str ⟨#[]⟩)] [(0, 1, (.c (.s (.str ⟨#[117, 107]⟩)))), (1, 1, (.c (.s (.str ⟨#[100, 101]⟩)))), (2, 1, (.c (.s (.str ⟨#[102, 114]⟩)))), (3, 1, (.c (.s (.str ⟨#[]⟩))))], none⟩,
    ⟨(some 117), .len (.t 116), none⟩,
    ⟨(some 118), .mov (.c (.s (.int .i64 0))), none⟩] [3, 4, 116, 117, 118])
  (.block 4 (.loop [3, 4, 116, 117, 118] l11_4)))
  s11_8)
def s11_6 : EC := (.seq (.seq (.ops [⟨(some 98), .mov (.t 12), none⟩,
    ⟨(some 99), .len (.t 98), none⟩,
    ⟨(some 100), .mov (.c (.s (.int .i64 0))), none⟩] [3, 4, 12, 99, 100])
  (.block 2 (.loop [3, 4, 12, 99, 100] l11_1)))
  s11_7)
def s11_5 : EC := (.seq (.seq (.ops [⟨(some 90), .mov (.t 12), none⟩,
    ⟨(some 91), .len (.t 90), none⟩,
    ⟨(some 92), .mov (.t 4), none⟩,
    ⟨(some 93), .nilc (.t 92), none⟩,
    ⟨(some 94), .fad 0 (.t 93), none⟩,
    ⟨(some 95), .load false 1 (.t 94), none⟩,
    ⟨(some 96), .len (.t 95), none⟩,
    ⟨(some 97), .bin .neq (.t 91) (.t 96), none⟩] [3, 4, 12, 97])
  (.cond (.t 97) (.seq (.ops [⟨(some 2), .mov (.c (.s (.bool false))), none⟩] [2])
  (.ret [2]))
  .skip))
  s11_6)
def s11_4 : EC := (.seq (.ops [⟨(some 88), .mov (.t 3), none⟩,
    ⟨(some 89), .call 32 [(.t 88)], none⟩,
    ⟨(some 12), .mov (.t 89), none⟩] [3, 4, 12])
  s11_5)
def s11_3 : EC := (.seq (.seq (.ops [⟨(some 5), .mov (.c (.s (.int .i64 0))), none⟩] [0, 3, 4, 5])
  (.block 0 (.loop [0, 3, 4, 5] l11_0)))
  s11_4)
def s11_2 : EC := (.seq (.seq (.ops [⟨(some 25), .mov (.t 3), none⟩,
    ⟨(some 26), .eqp false (.t 25) (.c (.s .nilp)), none⟩] [0, 3, 4, 26])
  (.cond (.t 26) (.seq (.ops [⟨(some 2), .mov (.c (.s (.bool false))), none⟩] [2])
  (.ret [2]))
  .skip))
  s11_3)
def s11_1 : EC := (.seq (.ops [⟨(some 22), .call 17 [], none⟩,
    ⟨(some 23), .build [.nils] [], none⟩,
    ⟨(some 24), .new 49 1 (.t 23), none⟩,
    ⟨(some 3), .mov (.t 22), none⟩,
    ⟨(some 4), .mov (.t 24), none⟩] [0, 3, 4])
  s11_2)
def b11 : EC := (.seq (.ops [⟨(some 2), .mov (.c (.s (.bool false))), none⟩] [0])
  s11_1)
def e11 : EF := ⟨156, b11, [.tmp 2]⟩

/-- scutage/scutagelaw09.EnactGrows -/
def h12 : List (List Nat) := [[0, 1, 2, 3], [0, 1, 2, 3, 9], [0, 1, 2, 3, 9, 23], [8], [8], [0, 1, 2, 3, 9, 10], [0, 1, 2, 3, 9, 10], [0, 1, 2, 3, 9, 10, 31], [1, 2, 3, 9], [0, 1, 2, 3, 9, 10], [0, 1, 2, 3, 9, 10], [1, 2, 3, 9, 11], [1, 2, 3, 9, 11, 57], [8], [8], [1, 2, 3, 9, 11], [1, 2, 3, 9, 11, 12], [1, 2, 3, 9, 11, 12, 13], [1, 2, 3, 9, 11, 12, 13], [1, 2, 3, 9, 11, 12, 13, 71], [1, 2, 3, 11, 12], [1, 2, 3, 9, 11, 12, 13, 14], [1, 2, 3, 9, 11, 12, 13, 14], [1, 2, 3, 9, 11, 12, 13, 14, 75], [1, 2, 3, 9, 11, 12, 13], [1, 2, 3, 9, 11, 12, 13, 14, 15, 16], [1, 2, 3, 9, 11, 12, 13, 14, 15, 16, 17, 18], [1, 2, 3, 9, 11, 12, 13, 14, 16, 18, 113], [8], [8], [1, 2, 3, 9, 11, 12, 13, 14, 118], [8], [8], [1, 2, 3, 9, 11, 12, 13, 14], [1, 2, 3, 9, 11, 12, 13], [3, 12, 19, 20], [8], [8]]
def l12_0_1 : EC := (.seq (.block 1 (.draw [⟨(some 34), .mov (.t 9), none⟩,
    ⟨(some 35), .mov (.t 0), none⟩,
    ⟨(some 36), .mov (.t 10), none⟩,
    ⟨(some 37), .iad 68 5 (.t 35) (.t 36), none⟩,
    ⟨(some 38), .fad 1 (.t 37), none⟩,
    ⟨(some 39), .load false 1 (.t 38), none⟩,
    ⟨(some 40), .call 14 [(.t 39), (.c (.s (.int .i64 6)))], none⟩,
    ⟨(some 41), .mov (.t 0), none⟩,
    ⟨(some 42), .mov (.t 10), none⟩,
    ⟨(some 43), .iad 68 5 (.t 41) (.t 42), none⟩,
    ⟨(some 44), .fad 2 (.t 43), none⟩,
    ⟨(some 45), .load false 1 (.t 44), none⟩,
    ⟨(some 46), .call 14 [(.t 45), (.c (.s (.int .i64 1000001)))], none⟩,
    ⟨(some 47), .mov (.t 0), none⟩,
    ⟨(some 48), .mov (.t 10), none⟩,
    ⟨(some 49), .iad 68 5 (.t 47) (.t 48), none⟩,
    ⟨(some 50), .fad 3 (.t 49), none⟩,
    ⟨(some 51), .load false 1 (.t 50), none⟩,
    ⟨(some 52), .call 14 [(.t 51), (.c (.s (.int .i64 8)))], none⟩,
    ⟨(some 53), .call 18 [(.t 34), (.c (.s (.str ⟨#[117, 107]⟩))), (.t 40), (.t 46), (.t 52)], none⟩] [(9, 6), (11, 6), (15, 6), (15, 12), (17, 6), (17, 12)] [0, 1, 2, 3, 9, 10]))
  (.ops [⟨(some 32), .mov (.t 10), none⟩,
    ⟨(some 33), .bin .add (.t 32) (.c (.s (.int .i64 1))), none⟩,
    ⟨(some 10), .mov (.t 33), none⟩] [0, 1, 2, 3, 9, 10]))
def l12_0 : EC := (.seq (.seq (.ops [⟨(some 24), .mov (.t 10), none⟩,
    ⟨(some 25), .mov (.t 0), none⟩,
    ⟨(some 26), .len (.t 25), none⟩,
    ⟨(some 27), .bin .lss (.t 24) (.t 26), none⟩,
    ⟨(some 28), .mov (.t 27), none⟩,
    ⟨(some 29), .mov (.t 10), (some (28, true))⟩,
    ⟨(some 30), .bin .lss (.t 29) (.c (.s (.int .i64 12))), (some (28, true))⟩,
    ⟨(some 31), .pick (.t 28) (.t 30) (.c (.s (.bool false))), none⟩] [0, 1, 2, 3, 9, 10, 31])
  (.cond (.t 31) .skip
  (.exit 0 [1, 2, 3, 9])))
  l12_0_1)
def l12_1_1 : EC := (.seq (.block 5 (.seq (.ops [⟨(some 79), .mov (.t 9), none⟩,
    ⟨(some 80), .mov (.t 13), none⟩,
    ⟨(some 81), .mov (.t 14), none⟩,
    ⟨(some 82), .call 33 [(.t 79), (.c (.s (.str ⟨#[117, 107]⟩))), (.t 80), (.t 81)], none⟩,
    ⟨(some 78), .mov (.t 82), none⟩,
    ⟨(some 83), .ext (.t 78) 0, none⟩,
    ⟨(some 84), .ext (.t 78) 1, none⟩,
    ⟨(some 15), .mov (.t 83), none⟩,
    ⟨(some 16), .mov (.t 84), none⟩] [1, 2, 3, 9, 11, 12, 13, 14, 15, 16])
  (.seq (.ops [⟨(some 86), .mov (.t 11), none⟩,
    ⟨(some 87), .mov (.t 13), none⟩,
    ⟨(some 88), .mov (.t 14), none⟩,
    ⟨(some 89), .call 33 [(.t 86), (.c (.s (.str ⟨#[117, 107]⟩))), (.t 87), (.t 88)], none⟩,
    ⟨(some 85), .mov (.t 89), none⟩,
    ⟨(some 90), .ext (.t 85) 0, none⟩,
    ⟨(some 91), .ext (.t 85) 1, none⟩,
    ⟨(some 17), .mov (.t 90), none⟩,
    ⟨(some 18), .mov (.t 91), none⟩] [1, 2, 3, 9, 11, 12, 13, 14, 15, 16, 17, 18])
  (.seq (.seq (.ops [⟨(some 92), .mov (.t 13), none⟩,
    ⟨(some 93), .mov (.t 1), none⟩,
    ⟨(some 94), .bin .lss (.t 92) (.t 93), none⟩,
    ⟨(some 95), .mov (.t 94), none⟩,
    ⟨(some 96), .mov (.t 14), (some (95, false))⟩,
    ⟨(some 97), .mov (.t 2), (some (95, false))⟩,
    ⟨(some 98), .bin .lss (.t 96) (.t 97), (some (95, false))⟩,
    ⟨(some 99), .pick (.t 95) (.c (.s (.bool true))) (.t 98), none⟩,
    ⟨(some 100), .mov (.t 99), none⟩,
    ⟨(some 101), .mov (.t 12), (some (100, false))⟩,
    ⟨(some 102), .un .not (.t 101), (some (100, false))⟩,
    ⟨(some 103), .pick (.t 100) (.c (.s (.bool true))) (.t 102), none⟩,
    ⟨(some 104), .mov (.t 103), none⟩,
    ⟨(some 105), .mov (.t 15), (some (104, true))⟩,
    ⟨(some 106), .mov (.t 17), (some (104, true))⟩,
    ⟨(some 107), .bin .neq (.t 105) (.t 106), (some (104, true))⟩,
    ⟨(some 108), .mov (.t 107), (some (104, true))⟩,
    ⟨(some 109), .mov (.t 16), (some (108, false))⟩,
    ⟨(some 110), .mov (.t 18), (some (108, false))⟩,
    ⟨(some 111), .eqb true (.t 109) (.t 110), (some (108, false))⟩,
    ⟨(some 112), .pick (.t 108) (.c (.s (.bool true))) (.t 111), (some (104, true))⟩,
    ⟨(some 113), .pick (.t 104) (.t 112) (.c (.s (.bool false))), none⟩] [1, 2, 3, 9, 11, 12, 13, 14, 16, 18, 113])
  (.cond (.t 113) (.seq (.ops [⟨(some 8), .mov (.c (.s (.bool false))), none⟩] [8])
  (.ret [8]))
  .skip))
  (.seq (.ops [⟨(some 114), .mov (.t 16), none⟩,
    ⟨(some 115), .mov (.t 114), none⟩,
    ⟨(some 116), .mov (.t 18), (some (115, true))⟩,
    ⟨(some 117), .un .not (.t 116), (some (115, true))⟩,
    ⟨(some 118), .pick (.t 115) (.t 117) (.c (.s (.bool false))), none⟩] [1, 2, 3, 9, 11, 12, 13, 14, 118])
  (.cond (.t 118) (.seq (.ops [⟨(some 8), .mov (.c (.s (.bool false))), none⟩] [8])
  (.ret [8]))
  .skip))))))
  (.ops [⟨(some 76), .mov (.t 14), none⟩,
    ⟨(some 77), .bin .add (.t 76) (.c (.s (.int .i64 1))), none⟩,
    ⟨(some 14), .mov (.t 77), none⟩] [1, 2, 3, 9, 11, 12, 13, 14]))
def l12_1 : EC := (.seq (.seq (.ops [⟨(some 74), .mov (.t 14), none⟩,
    ⟨(some 75), .bin .lss (.t 74) (.c (.s (.int .i64 10))), none⟩] [1, 2, 3, 9, 11, 12, 13, 14, 75])
  (.cond (.t 75) .skip
  (.exit 4 [1, 2, 3, 9, 11, 12, 13])))
  l12_1_1)
def l12_2_1 : EC := (.seq (.block 3 (.seq (.ops [⟨(some 14), .mov (.c (.s (.int .i64 0))), none⟩] [1, 2, 3, 9, 11, 12, 13, 14])
  (.block 4 (.loop [1, 2, 3, 9, 11, 12, 13, 14] l12_1))))
  (.ops [⟨(some 72), .mov (.t 13), none⟩,
    ⟨(some 73), .bin .add (.t 72) (.c (.s (.int .i64 1))), none⟩,
    ⟨(some 13), .mov (.t 73), none⟩] [1, 2, 3, 9, 11, 12, 13]))
def l12_2 : EC := (.seq (.seq (.ops [⟨(some 70), .mov (.t 13), none⟩,
    ⟨(some 71), .bin .lss (.t 70) (.c (.s (.int .i64 8))), none⟩] [1, 2, 3, 9, 11, 12, 13, 71])
  (.cond (.t 71) .skip
  (.exit 2 [1, 2, 3, 11, 12])))
  l12_2_1)
def s12_10 : EC := (.seq (.ops [⟨(some 126), .mov (.t 12), none⟩,
    ⟨(some 127), .un .not (.t 126), none⟩,
    ⟨(some 128), .mov (.t 127), none⟩,
    ⟨(some 129), .mov (.t 20), (some (128, false))⟩,
    ⟨(some 130), .mov (.t 129), (some (128, false))⟩,
    ⟨(some 131), .mov (.t 19), (some (130, true))⟩,
    ⟨(some 132), .mov (.t 3), (some (130, true))⟩,
    ⟨(some 133), .bin .eql (.t 131) (.t 132), (some (130, true))⟩,
    ⟨(some 134), .pick (.t 130) (.t 133) (.c (.s (.bool false))), (some (128, false))⟩,
    ⟨(some 135), .pick (.t 128) (.c (.s (.bool true))) (.t 134), none⟩,
    ⟨(some 136), .mov (.t 135), none⟩,
    ⟨(some 137), .call 34 [], (some (136, true))⟩,
    ⟨(some 138), .pick (.t 136) (.t 137) (.c (.s (.bool false))), none⟩,
    ⟨(some 8), .mov (.t 138), none⟩] [8])
  (.ret [8]))
def s12_9 : EC := (.seq (.ops [⟨(some 120), .mov (.t 11), none⟩,
    ⟨(some 121), .mov (.t 1), none⟩,
    ⟨(some 122), .mov (.t 2), none⟩,
    ⟨(some 123), .call 33 [(.t 120), (.c (.s (.str ⟨#[117, 107]⟩))), (.t 121), (.t 122)], none⟩,
    ⟨(some 119), .mov (.t 123), none⟩,
    ⟨(some 124), .ext (.t 119) 0, none⟩,
    ⟨(some 125), .ext (.t 119) 1, none⟩,
    ⟨(some 19), .mov (.t 124), none⟩,
    ⟨(some 20), .mov (.t 125), none⟩] [3, 12, 19, 20])
  s12_10)
def s12_8 : EC := (.seq (.seq (.ops [⟨(some 13), .mov (.c (.s (.int .i64 0))), none⟩] [1, 2, 3, 9, 11, 12, 13])
  (.block 2 (.loop [1, 2, 3, 9, 11, 12, 13] l12_2)))
  s12_9)
def s12_7 : EC := (.seq (.ops [⟨(some 64), .mov (.t 11), none⟩,
    ⟨(some 65), .mov (.t 1), none⟩,
    ⟨(some 66), .mov (.t 3), none⟩,
    ⟨(some 67), .mov (.t 2), none⟩,
    ⟨(some 68), .call 18 [(.t 64), (.c (.s (.str ⟨#[117, 107]⟩))), (.t 65), (.t 66), (.t 67)], none⟩,
    ⟨(some 69), .bin .eql (.t 68) (.c (.s (.int .i64 0))), none⟩,
    ⟨(some 12), .mov (.t 69), none⟩] [1, 2, 3, 9, 11, 12])
  s12_8)
def s12_6 : EC := (.seq (.ops [⟨(some 58), .mov (.t 1), none⟩,
    ⟨(some 59), .call 14 [(.t 58), (.c (.s (.int .i64 6)))], none⟩,
    ⟨(some 60), .mov (.t 2), none⟩,
    ⟨(some 61), .call 14 [(.t 60), (.c (.s (.int .i64 8)))], none⟩,
    ⟨(some 62), .mov (.t 3), none⟩,
    ⟨(some 63), .call 14 [(.t 62), (.c (.s (.int .i64 1000001)))], none⟩,
    ⟨(some 1), .mov (.t 59), none⟩,
    ⟨(some 2), .mov (.t 61), none⟩,
    ⟨(some 3), .mov (.t 63), none⟩] [1, 2, 3, 9, 11])
  s12_7)
def s12_5 : EC := (.seq (.seq (.ops [⟨(some 56), .mov (.t 11), none⟩,
    ⟨(some 57), .eqp false (.t 56) (.c (.s .nilp)), none⟩] [1, 2, 3, 9, 11, 57])
  (.cond (.t 57) (.seq (.ops [⟨(some 8), .mov (.c (.s (.bool false))), none⟩] [8])
  (.ret [8]))
  .skip))
  s12_6)
def s12_4 : EC := (.seq (.ops [⟨(some 54), .mov (.t 9), none⟩,
    ⟨(some 55), .call 35 [(.t 54)], none⟩,
    ⟨(some 11), .mov (.t 55), none⟩] [1, 2, 3, 9, 11])
  s12_5)
def s12_3 : EC := (.seq (.seq (.ops [⟨(some 10), .mov (.c (.s (.int .i64 0))), none⟩] [0, 1, 2, 3, 9, 10])
  (.block 0 (.loop [0, 1, 2, 3, 9, 10] l12_0)))
  s12_4)
def s12_2 : EC := (.seq (.seq (.ops [⟨(some 22), .mov (.t 9), none⟩,
    ⟨(some 23), .eqp false (.t 22) (.c (.s .nilp)), none⟩] [0, 1, 2, 3, 9, 23])
  (.cond (.t 23) (.seq (.ops [⟨(some 8), .mov (.c (.s (.bool false))), none⟩] [8])
  (.ret [8]))
  .skip))
  s12_3)
def s12_1 : EC := (.seq (.ops [⟨(some 21), .call 17 [], none⟩,
    ⟨(some 9), .mov (.t 21), none⟩] [0, 1, 2, 3, 9])
  s12_2)
def b12 : EC := (.seq (.ops [⟨(some 8), .mov (.c (.s (.bool false))), none⟩] [0, 1, 2, 3])
  s12_1)
def e12 : EF := ⟨139, b12, [.tmp 8]⟩

/-- scutage/scutageplay.Register -/
def h13 : List (List Nat) := [[0], [0, 3], [0, 3, 4], [0, 3, 4], [0, 3, 4, 14], [3], [0, 3, 4], [0, 3, 4], [2], [2]]
def l13_0_1 : EC := (.seq (.block 1 (.draw [⟨(some 17), .mov (.t 3), none⟩,
    ⟨(some 18), .mov (.t 0), none⟩,
    ⟨(some 19), .mov (.t 4), none⟩,
    ⟨(some 20), .iad 3 1 (.t 18) (.t 19), none⟩,
    ⟨(some 21), .load false 1 (.t 20), none⟩,
    ⟨(some 22), .call 14 [(.t 21), (.c (.s (.int .i64 3)))], none⟩,
    ⟨(some 23), .bin .add (.c (.s (.int .i64 1))) (.t 22), none⟩,
    ⟨(some 24), .mov (.t 0), none⟩,
    ⟨(some 25), .mov (.t 4), none⟩,
    ⟨(some 26), .iad 3 1 (.t 24) (.t 25), none⟩,
    ⟨(some 27), .load false 1 (.t 26), none⟩,
    ⟨(some 28), .bin .quo (.t 27) (.c (.s (.int .i64 3))), none⟩,
    ⟨(some 29), .call 14 [(.t 28), (.c (.s (.int .i64 5)))], none⟩,
    ⟨(some 30), .mov (.t 0), none⟩,
    ⟨(some 31), .mov (.t 4), none⟩,
    ⟨(some 32), .iad 3 1 (.t 30) (.t 31), none⟩,
    ⟨(some 33), .load false 1 (.t 32), none⟩,
    ⟨(some 34), .bin .quo (.t 33) (.c (.s (.int .i64 15))), none⟩,
    ⟨(some 35), .call 30 [(.t 34)], none⟩,
    ⟨(some 36), .call 37 [(.t 17), (.t 23), (.t 29), (.t 35)], none⟩] [(9, 5), (10, 5), (15, 5), (15, 12), (16, 5), (16, 12)] [0, 3, 4]))
  (.ops [⟨(some 15), .mov (.t 4), none⟩,
    ⟨(some 16), .bin .add (.t 15) (.c (.s (.int .i64 1))), none⟩,
    ⟨(some 4), .mov (.t 16), none⟩] [0, 3, 4]))
def l13_0 : EC := (.seq (.seq (.ops [⟨(some 7), .mov (.t 4), none⟩,
    ⟨(some 8), .mov (.t 0), none⟩,
    ⟨(some 9), .len (.t 8), none⟩,
    ⟨(some 10), .bin .lss (.t 7) (.t 9), none⟩,
    ⟨(some 11), .mov (.t 10), none⟩,
    ⟨(some 12), .mov (.t 4), (some (11, true))⟩,
    ⟨(some 13), .bin .lss (.t 12) (.c (.s (.int .i64 10))), (some (11, true))⟩,
    ⟨(some 14), .pick (.t 11) (.t 13) (.c (.s (.bool false))), none⟩] [0, 3, 4, 14])
  (.cond (.t 14) .skip
  (.exit 0 [3])))
  l13_0_1)
def s13_3 : EC := (.seq (.ops [⟨(some 37), .mov (.t 3), none⟩,
    ⟨(some 2), .mov (.t 37), none⟩] [2])
  (.ret [2]))
def s13_2 : EC := (.seq (.seq (.ops [⟨(some 4), .mov (.c (.s (.int .i64 0))), none⟩] [0, 3, 4])
  (.block 0 (.loop [0, 3, 4] l13_0)))
  s13_3)
def s13_1 : EC := (.seq (.ops [⟨(some 5), .build [.nils] [], none⟩,
    ⟨(some 6), .new 25 1 (.t 5), none⟩,
    ⟨(some 3), .mov (.t 6), none⟩] [0, 3])
  s13_2)
def b13 : EC := (.seq (.ops [⟨(some 2), .mov (.c (.s .nilp)), none⟩] [0])
  s13_1)
def e13 : EF := ⟨38, b13, [.tmp 2]⟩

/-- scutage/scutagekeep.Within -/
def h14 : List (List Nat) := [[0, 1], [0, 1, 7], [4], [4], [1, 5], [1, 5, 12], [5], [4], [4]]
def s14_4 : EC := (.seq (.ops [⟨(some 16), .mov (.t 5), none⟩,
    ⟨(some 4), .mov (.t 16), none⟩] [4])
  (.ret [4]))
def s14_3 : EC := (.seq (.seq (.ops [⟨(some 11), .mov (.t 5), none⟩,
    ⟨(some 12), .bin .lss (.t 11) (.c (.s (.int .i64 0))), none⟩] [1, 5, 12])
  (.cond (.t 12) (.ops [⟨(some 13), .mov (.t 5), none⟩,
    ⟨(some 14), .mov (.t 1), none⟩,
    ⟨(some 15), .bin .add (.t 13) (.t 14), none⟩,
    ⟨(some 5), .mov (.t 15), none⟩] [5])
  .skip))
  s14_4)
def s14_2 : EC := (.seq (.ops [⟨(some 8), .mov (.t 0), none⟩,
    ⟨(some 9), .mov (.t 1), none⟩,
    ⟨(some 10), .bin .rem (.t 8) (.t 9), none⟩,
    ⟨(some 5), .mov (.t 10), none⟩] [1, 5])
  s14_3)
def s14_1 : EC := (.seq (.seq (.ops [⟨(some 6), .mov (.t 1), none⟩,
    ⟨(some 7), .bin .lss (.t 6) (.c (.s (.int .i64 1))), none⟩] [0, 1, 7])
  (.cond (.t 7) (.seq (.ops [⟨(some 4), .mov (.c (.s (.int .i64 0))), none⟩] [4])
  (.ret [4]))
  .skip))
  s14_2)
def b14 : EC := (.seq (.ops [⟨(some 4), .mov (.c (.s (.int .i64 0))), none⟩] [0, 1])
  s14_1)
def e14 : EF := ⟨17, b14, [.tmp 4]⟩

/-- scutage/measure.Temp -/
def h15 : List (List Nat) := [[0, 1], [0, 1, 15], [4, 5], [4, 5], [0, 1, 6], [1, 6, 16, 17, 18], [1, 6, 16, 17, 18], [1, 6, 16, 17, 18, 19], [6], [1, 6, 7, 8, 16, 17, 18], [1, 6, 7, 8, 16, 17, 18, 34], [4, 5], [4, 5], [1, 6, 9, 16, 17, 18], [1, 6, 16, 17, 18], [1, 6, 16, 17, 18], [6, 51], [4, 5], [4, 5], [4, 5], [4, 5]]
def l15_0_2 : EC := (.seq (.block 1 (.seq (.ops [⟨(some 20), .mov (.t 18), none⟩,
    ⟨(some 21), .iad 30 3 (.t 16) (.t 18), none⟩,
    ⟨(some 22), .load true 3 (.t 21), none⟩,
    ⟨(some 8), .new 30 3 (.c (.agg [(.int .i64 0), (.int .i64 0), (.int .i64 0)])), none⟩,
    ⟨(some 7), .mov (.t 20), none⟩,
    ⟨none, .store 3 (.t 8) (.t 22), none⟩] [1, 6, 7, 8, 16, 17, 18])
  (.seq (.seq (.ops [⟨(some 23), .mov (.t 1), none⟩,
    ⟨(some 24), .mov (.t 7), none⟩,
    ⟨(some 25), .iad 3 1 (.t 23) (.t 24), none⟩,
    ⟨(some 26), .load false 1 (.t 25), none⟩,
    ⟨(some 27), .call 38 [(.t 26)], none⟩,
    ⟨(some 28), .un .not (.t 27), none⟩,
    ⟨(some 29), .mov (.t 28), none⟩,
    ⟨(some 30), .fad 2 (.t 8), (some (29, false))⟩,
    ⟨(some 31), .load false 1 (.t 30), (some (29, false))⟩,
    ⟨(some 32), .call 39 [(.t 31)], (some (29, false))⟩,
    ⟨(some 33), .un .not (.t 32), (some (29, false))⟩,
    ⟨(some 34), .pick (.t 29) (.c (.s (.bool true))) (.t 33), none⟩] [1, 6, 7, 8, 16, 17, 18, 34])
  (.cond (.t 34) (.seq (.ops [⟨(some 4), .mov (.c (.s (.int .i64 0))), none⟩,
    ⟨(some 5), .mov (.c (.s (.int .i64 1))), none⟩] [4, 5])
  (.ret [4, 5]))
  .skip))
  (.seq (.draw [⟨(some 36), .fad 2 (.t 8), none⟩,
    ⟨(some 37), .load false 1 (.t 36), none⟩,
    ⟨(some 38), .mov (.t 1), none⟩,
    ⟨(some 39), .mov (.t 7), none⟩,
    ⟨(some 40), .iad 3 1 (.t 38) (.t 39), none⟩,
    ⟨(some 41), .load false 1 (.t 40), none⟩,
    ⟨(some 42), .call 40 [(.t 37), (.t 41)], none⟩,
    ⟨(some 35), .mov (.t 42), none⟩,
    ⟨(some 43), .ext (.t 35) 0, none⟩,
    ⟨(some 44), .ext (.t 35) 1, none⟩,
    ⟨(some 9), .mov (.t 43), none⟩,
    ⟨(some 10), .mov (.t 44), none⟩] [] [1, 6, 9, 16, 17, 18])
  (.ops [⟨(some 45), .mov (.t 6), none⟩,
    ⟨(some 46), .mov (.t 9), none⟩,
    ⟨(some 47), .bin .sub (.t 45) (.t 46), none⟩,
    ⟨(some 6), .mov (.t 47), none⟩] [1, 6, 16, 17, 18])))))
  (.ops [⟨(some 48), .bin .add (.t 18) (.c (.s (.int .i64 1))), none⟩,
    ⟨(some 18), .mov (.t 48), none⟩] [1, 6, 16, 17, 18]))
def l15_0_1 : EC := (.seq (.cond (.t 19) .skip
  (.exit 0 [6]))
  l15_0_2)
def l15_0 : EC := (.seq (.ops [⟨(some 19), .bin .lss (.t 18) (.t 17), none⟩] [1, 6, 16, 17, 18, 19])
  l15_0_1)
def s15_5 : EC := (.seq (.ops [⟨(some 52), .mov (.t 6), none⟩,
    ⟨(some 4), .mov (.t 52), none⟩,
    ⟨(some 5), .mov (.c (.s (.int .i64 0))), none⟩] [4, 5])
  (.ret [4, 5]))
def s15_4 : EC := (.seq (.seq (.ops [⟨(some 49), .mov (.t 6), none⟩,
    ⟨(some 50), .call 39 [(.t 49)], none⟩,
    ⟨(some 51), .un .not (.t 50), none⟩] [6, 51])
  (.cond (.t 51) (.seq (.ops [⟨(some 4), .mov (.c (.s (.int .i64 0))), none⟩,
    ⟨(some 5), .mov (.c (.s (.int .i64 6))), none⟩] [4, 5])
  (.ret [4, 5]))
  .skip))
  s15_5)
def s15_3 : EC := (.seq (.seq (.ops [⟨(some 16), .mov (.t 0), none⟩,
    ⟨(some 17), .len (.t 16), none⟩,
    ⟨(some 18), .mov (.c (.s (.int .i64 0))), none⟩] [1, 6, 16, 17, 18])
  (.block 0 (.loop [1, 6, 16, 17, 18] l15_0)))
  s15_4)
def s15_2 : EC := (.seq (.ops [⟨(some 6), .mov (.c (.s (.int .i64 0))), none⟩] [0, 1, 6])
  s15_3)
def s15_1 : EC := (.seq (.seq (.ops [⟨(some 11), .mov (.t 1), none⟩,
    ⟨(some 12), .len (.t 11), none⟩,
    ⟨(some 13), .mov (.t 0), none⟩,
    ⟨(some 14), .len (.t 13), none⟩,
    ⟨(some 15), .bin .neq (.t 12) (.t 14), none⟩] [0, 1, 15])
  (.cond (.t 15) (.seq (.ops [⟨(some 4), .mov (.c (.s (.int .i64 0))), none⟩,
    ⟨(some 5), .mov (.c (.s (.int .i64 1))), none⟩] [4, 5])
  (.ret [4, 5]))
  .skip))
  s15_2)
def b15 : EC := (.seq (.ops [⟨(some 4), .mov (.c (.s (.int .i64 0))), none⟩,
    ⟨(some 5), .mov (.c (.s (.int .i64 0))), none⟩] [0, 1])
  s15_1)
def e15 : EF := ⟨53, b15, [.tmp 4, .tmp 5]⟩

/-- scutage/scutagelaw16.wakes -/
def h16 : List (List Nat) := [[], [1, 2], [0], [0]]
def s16_2 : EC := (.seq (.ops [⟨(some 10), .mov (.t 2), none⟩,
    ⟨(some 11), .bin .eql (.t 10) (.c (.s (.int .i64 0))), none⟩,
    ⟨(some 12), .mov (.t 11), none⟩,
    ⟨(some 13), .mov (.t 1), (some (12, true))⟩,
    ⟨(some 14), .bin .eql (.t 13) (.c (.s (.int .i64 (-25)))), (some (12, true))⟩,
    ⟨(some 15), .pick (.t 12) (.t 14) (.c (.s (.bool false))), none⟩,
    ⟨(some 0), .mov (.t 15), none⟩] [0])
  (.ret [0]))
def s16_1 : EC := (.seq (.ops [⟨(some 4), .build [(.int .i64 0), (.int .i64 0), (.int .i64 0)] [(0, 1, (.c (.s (.int .i64 1)))), (1, 1, (.c (.s (.int .i64 5)))), (2, 1, (.c (.s (.int .i64 100))))], none⟩,
    ⟨(some 5), .bsl 30 1 [(.int .i64 0), (.int .i64 0), (.int .i64 0)] [(0, 3, (.t 4))], none⟩,
    ⟨(some 6), .bsl 3 1 [(.int .i64 0)] [(0, 1, (.c (.s (.int .i64 250000))))], none⟩,
    ⟨(some 7), .call 15 [(.t 5), (.t 6)], none⟩,
    ⟨(some 3), .mov (.t 7), none⟩,
    ⟨(some 8), .ext (.t 3) 0, none⟩,
    ⟨(some 9), .ext (.t 3) 1, none⟩,
    ⟨(some 1), .mov (.t 8), none⟩,
    ⟨(some 2), .mov (.t 9), none⟩] [1, 2])
  s16_2)
def b16 : EC := (.seq (.ops [⟨(some 0), .mov (.c (.s (.bool false))), none⟩] [])
  s16_1)
def e16 : EF := ⟨16, b16, [.tmp 0]⟩

/-- scutage/enact.New -/
def h17 : List (List Nat) := [[], [0], [0]]
def s17_1 : EC := (.seq (.ops [⟨(some 1), .build [.nils] [], none⟩,
    ⟨(some 2), .new 79 1 (.t 1), none⟩,
    ⟨(some 0), .mov (.t 2), none⟩] [0])
  (.ret [0]))
def b17 : EC := (.seq (.ops [⟨(some 0), .mov (.c (.s .nilp)), none⟩] [])
  s17_1)
def e17 : EF := ⟨3, b17, [.tmp 0]⟩

/-- (*scutage/enact.Table).Add -/
def h18 : List (List Nat) := [[0, 3, 6, 7, 9], [0, 3, 6, 7, 9, 11], [0, 3, 6, 7, 9, 11, 13], [10], [10], [0, 3, 6, 7, 9, 34], [10], [10], [0, 3, 6, 7, 9, 41], [10], [10], [], [10], [10]]
def s18_4 : EC := (.seq (.ops [⟨(some 10), .mov (.c (.s (.int .i64 0))), none⟩] [10])
  (.ret [10]))
def s18_3 : EC := (.seq (.draw [⟨(some 48), .mov (.t 0), none⟩,
    ⟨(some 49), .mov (.t 0), none⟩,
    ⟨(some 50), .nilc (.t 49), none⟩,
    ⟨(some 51), .fad 0 (.t 50), none⟩,
    ⟨(some 52), .load false 1 (.t 51), none⟩,
    ⟨(some 53), .load false 1 (.t 6), none⟩,
    ⟨(some 54), .load false 1 (.t 7), none⟩,
    ⟨(some 55), .mov (.t 3), none⟩,
    ⟨(some 56), .load false 1 (.t 9), none⟩,
    ⟨(some 57), .build [(.str ⟨#[]⟩), (.int .i64 0), (.int .i64 0), (.int .i64 0)] [(0, 1, (.t 53)), (1, 1, (.t 54)), (2, 1, (.t 55)), (3, 1, (.t 56))], none⟩,
    ⟨(some 58), .bsl 63 1 [(.str ⟨#[]⟩), (.int .i64 0), (.int .i64 0), (.int .i64 0)] [(0, 4, (.t 57))], none⟩,
    ⟨(some 59), .app 63 4 40 (.t 52) (.t 58), none⟩,
    ⟨(some 60), .nilc (.t 48), none⟩,
    ⟨(some 61), .fad 0 (.t 60), none⟩,
    ⟨none, .store 1 (.t 61) (.t 59), none⟩] [] [])
  s18_4)
def s18_2 : EC := (.seq (.block 0 (.seq (.ops [⟨(some 14), .load false 1 (.t 6), none⟩,
    ⟨(some 15), .bin .eql (.t 14) (.c (.s (.str ⟨#[]⟩))), none⟩,
    ⟨(some 16), .mov (.t 15), none⟩,
    ⟨(some 17), .load false 1 (.t 7), (some (16, false))⟩,
    ⟨(some 18), .bin .lss (.t 17) (.c (.s (.int .i64 0))), (some (16, false))⟩,
    ⟨(some 19), .pick (.t 16) (.c (.s (.bool true))) (.t 18), none⟩,
    ⟨(some 20), .mov (.t 19), none⟩,
    ⟨(some 21), .load false 1 (.t 7), (some (20, false))⟩,
    ⟨(some 22), .bin .gtr (.t 21) (.c (.s (.int .i64 99))), (some (20, false))⟩,
    ⟨(some 23), .pick (.t 20) (.c (.s (.bool true))) (.t 22), none⟩,
    ⟨(some 24), .mov (.t 23), none⟩,
    ⟨(some 25), .mov (.t 3), (some (24, false))⟩,
    ⟨(some 26), .call 38 [(.t 25)], (some (24, false))⟩,
    ⟨(some 27), .un .not (.t 26), (some (24, false))⟩,
    ⟨(some 28), .pick (.t 24) (.c (.s (.bool true))) (.t 27), none⟩,
    ⟨(some 29), .mov (.t 28), none⟩,
    ⟨(some 30), .load false 1 (.t 9), (some (29, false))⟩,
    ⟨(some 31), .call 42 [(.t 30)], (some (29, false))⟩,
    ⟨(some 32), .un .not (.t 31), (some (29, false))⟩,
    ⟨(some 33), .pick (.t 29) (.c (.s (.bool true))) (.t 32), none⟩,
    ⟨(some 13), .mov (.t 33), none⟩] [0, 3, 6, 7, 9, 11, 13])
  (.cond (.t 13) (.seq (.ops [⟨(some 10), .mov (.c (.s (.int .i64 1))), none⟩] [10])
  (.ret [10]))
  (.seq (.ops [⟨(some 35), .mov (.t 0), none⟩,
    ⟨(some 36), .nilc (.t 35), none⟩,
    ⟨(some 37), .fad 0 (.t 36), none⟩,
    ⟨(some 38), .load false 1 (.t 37), none⟩,
    ⟨(some 39), .mov (.t 11), none⟩,
    ⟨(some 40), .call 43 [(.t 38), (.t 39)], none⟩,
    ⟨(some 34), .mov (.t 40), none⟩] [0, 3, 6, 7, 9, 34])
  (.cond (.t 34) (.seq (.ops [⟨(some 10), .mov (.c (.s (.int .i64 4))), none⟩] [10])
  (.ret [10]))
  (.seq (.ops [⟨(some 42), .mov (.t 0), none⟩,
    ⟨(some 43), .nilc (.t 42), none⟩,
    ⟨(some 44), .fad 0 (.t 43), none⟩,
    ⟨(some 45), .load false 1 (.t 44), none⟩,
    ⟨(some 46), .len (.t 45), none⟩,
    ⟨(some 47), .bin .geq (.t 46) (.c (.s (.int .i64 24))), none⟩,
    ⟨(some 41), .mov (.t 47), none⟩] [0, 3, 6, 7, 9, 41])
  (.cond (.t 41) (.seq (.ops [⟨(some 10), .mov (.c (.s (.int .i64 5))), none⟩] [10])
  (.ret [10]))
  .skip)))))))
  s18_3)
def s18_1 : EC := (.seq (.ops [⟨(some 12), .mkf 41 [] [(.t 6), (.t 7), (.t 9)], none⟩,
    ⟨(some 11), .mov (.t 12), none⟩] [0, 3, 6, 7, 9, 11])
  s18_2)
def b18 : EC := (.seq (.ops [⟨(some 6), .new 9 1 (.t 1), none⟩,
    ⟨(some 7), .new 3 1 (.t 2), none⟩,
    ⟨(some 9), .new 3 1 (.t 4), none⟩,
    ⟨(some 10), .mov (.c (.s (.int .i64 0))), none⟩] [0, 3, 6, 7, 9])
  s18_1)
def e18 : EF := ⟨62, b18, [.tmp 10]⟩

/-- scutage/measure.Rates -/
def h19 : List (List Nat) := [[0, 1, 2, 3], [0, 1, 2, 3, 17], [8, 9], [8, 9], [0, 1, 2, 3, 10], [0, 1, 3, 10, 18, 19, 20], [0, 1, 3, 10, 18, 19, 20], [0, 1, 3, 10, 18, 19, 20, 21], [10], [0, 1, 3, 10, 12, 18, 19, 20], [0, 1, 3, 10, 13, 14, 18, 19, 20], [0, 1, 3, 10, 13, 18, 19, 20, 37], [8, 9], [8, 9], [0, 1, 3, 10, 18, 19, 20], [0, 1, 3, 10, 18, 19, 20], [8, 9], [8, 9]]
def l19_0_2 : EC := (.seq (.block 1 (.seq (.ops [⟨(some 22), .iad 30 3 (.t 18) (.t 20), none⟩,
    ⟨(some 23), .load true 3 (.t 22), none⟩,
    ⟨(some 12), .new 30 3 (.c (.agg [(.int .i64 0), (.int .i64 0), (.int .i64 0)])), none⟩,
    ⟨none, .store 3 (.t 12) (.t 23), none⟩] [0, 1, 3, 10, 12, 18, 19, 20])
  (.seq (.draw [⟨(some 25), .mov (.t 0), none⟩,
    ⟨(some 26), .mov (.t 1), none⟩,
    ⟨(some 27), .fad 1 (.t 12), none⟩,
    ⟨(some 28), .load false 1 (.t 27), none⟩,
    ⟨(some 29), .mov (.t 3), none⟩,
    ⟨(some 30), .call 44 [(.t 29)], none⟩,
    ⟨(some 31), .mx (.t 28) [(.t 30)], none⟩,
    ⟨(some 32), .mov (.t 3), none⟩,
    ⟨(some 33), .call 33 [(.t 25), (.t 26), (.t 31), (.t 32)], none⟩,
    ⟨(some 24), .mov (.t 33), none⟩,
    ⟨(some 34), .ext (.t 24) 0, none⟩,
    ⟨(some 35), .ext (.t 24) 1, none⟩,
    ⟨(some 13), .mov (.t 34), none⟩,
    ⟨(some 14), .mov (.t 35), none⟩] [(3, 5)] [0, 1, 3, 10, 13, 14, 18, 19, 20])
  (.seq (.seq (.ops [⟨(some 36), .mov (.t 14), none⟩,
    ⟨(some 37), .un .not (.t 36), none⟩] [0, 1, 3, 10, 13, 18, 19, 20, 37])
  (.cond (.t 37) (.seq (.ops [⟨(some 8), .mov (.c (.s .nils)), none⟩,
    ⟨(some 9), .mov (.c (.s (.int .i64 7))), none⟩] [8, 9])
  (.ret [8, 9]))
  .skip))
  (.ops [⟨(some 38), .mov (.t 10), none⟩,
    ⟨(some 39), .mov (.t 13), none⟩,
    ⟨(some 40), .bsl 3 1 [(.int .i64 0)] [(0, 1, (.t 39))], none⟩,
    ⟨(some 41), .app 3 1 8 (.t 38) (.t 40), none⟩,
    ⟨(some 10), .mov (.t 41), none⟩] [0, 1, 3, 10, 18, 19, 20])))))
  (.ops [⟨(some 42), .bin .add (.t 20) (.c (.s (.int .i64 1))), none⟩,
    ⟨(some 20), .mov (.t 42), none⟩] [0, 1, 3, 10, 18, 19, 20]))
def l19_0_1 : EC := (.seq (.cond (.t 21) .skip
  (.exit 0 [10]))
  l19_0_2)
def l19_0 : EC := (.seq (.ops [⟨(some 21), .bin .lss (.t 20) (.t 19), none⟩] [0, 1, 3, 10, 18, 19, 20, 21])
  l19_0_1)
def s19_4 : EC := (.seq (.ops [⟨(some 43), .mov (.t 10), none⟩,
    ⟨(some 8), .mov (.t 43), none⟩,
    ⟨(some 9), .mov (.c (.s (.int .i64 0))), none⟩] [8, 9])
  (.ret [8, 9]))
def s19_3 : EC := (.seq (.seq (.ops [⟨(some 18), .mov (.t 2), none⟩,
    ⟨(some 19), .len (.t 18), none⟩,
    ⟨(some 20), .mov (.c (.s (.int .i64 0))), none⟩] [0, 1, 3, 10, 18, 19, 20])
  (.block 0 (.loop [0, 1, 3, 10, 18, 19, 20] l19_0)))
  s19_4)
def s19_2 : EC := (.seq (.ops [⟨(some 10), .mov (.c (.s .nils)), none⟩] [0, 1, 2, 3, 10])
  s19_3)
def s19_1 : EC := (.seq (.seq (.ops [⟨(some 15), .mov (.t 3), none⟩,
    ⟨(some 16), .call 42 [(.t 15)], none⟩,
    ⟨(some 17), .un .not (.t 16), none⟩] [0, 1, 2, 3, 17])
  (.cond (.t 17) (.seq (.ops [⟨(some 8), .mov (.c (.s .nils)), none⟩,
    ⟨(some 9), .mov (.c (.s (.int .i64 1))), none⟩] [8, 9])
  (.ret [8, 9]))
  .skip))
  s19_2)
def b19 : EC := (.seq (.ops [⟨(some 8), .mov (.c (.s .nils)), none⟩,
    ⟨(some 9), .mov (.c (.s (.int .i64 0))), none⟩] [0, 1, 2, 3])
  s19_1)
def e19 : EF := ⟨44, b19, [.tmp 8, .tmp 9]⟩

/-- scutage/scutagekeep.Same[int] -/
def h20 : List (List Nat) := [[0, 1], [0, 1, 10], [4], [4], [0, 1, 5], [0, 1, 5], [0, 1, 5, 14], [], [0, 1, 5, 25], [4], [4], [0, 1, 5], [4], [4]]
def l20_0_1 : EC := (.seq (.block 1 (.seq (.draw [⟨(some 17), .mov (.t 0), none⟩,
    ⟨(some 18), .mov (.t 5), none⟩,
    ⟨(some 19), .iad 3 1 (.t 17) (.t 18), none⟩,
    ⟨(some 20), .load false 1 (.t 19), none⟩,
    ⟨(some 21), .mov (.t 1), none⟩,
    ⟨(some 22), .mov (.t 5), none⟩,
    ⟨(some 23), .iad 3 1 (.t 21) (.t 22), none⟩,
    ⟨(some 24), .load false 1 (.t 23), none⟩,
    ⟨(some 25), .bin .neq (.t 20) (.t 24), none⟩] [] [0, 1, 5, 25])
  (.cond (.t 25) (.seq (.ops [⟨(some 4), .mov (.c (.s (.bool false))), none⟩] [4])
  (.ret [4]))
  .skip)))
  (.ops [⟨(some 15), .mov (.t 5), none⟩,
    ⟨(some 16), .bin .add (.t 15) (.c (.s (.int .i64 1))), none⟩,
    ⟨(some 5), .mov (.t 16), none⟩] [0, 1, 5]))
def l20_0 : EC := (.seq (.seq (.ops [⟨(some 11), .mov (.t 5), none⟩,
    ⟨(some 12), .mov (.t 0), none⟩,
    ⟨(some 13), .len (.t 12), none⟩,
    ⟨(some 14), .bin .lss (.t 11) (.t 13), none⟩] [0, 1, 5, 14])
  (.cond (.t 14) .skip
  (.exit 0 [])))
  l20_0_1)
def s20_3 : EC := (.seq (.ops [⟨(some 4), .mov (.c (.s (.bool true))), none⟩] [4])
  (.ret [4]))
def s20_2 : EC := (.seq (.seq (.ops [⟨(some 5), .mov (.c (.s (.int .i64 0))), none⟩] [0, 1, 5])
  (.block 0 (.loop [0, 1, 5] l20_0)))
  s20_3)
def s20_1 : EC := (.seq (.seq (.ops [⟨(some 6), .mov (.t 0), none⟩,
    ⟨(some 7), .len (.t 6), none⟩,
    ⟨(some 8), .mov (.t 1), none⟩,
    ⟨(some 9), .len (.t 8), none⟩,
    ⟨(some 10), .bin .neq (.t 7) (.t 9), none⟩] [0, 1, 10])
  (.cond (.t 10) (.seq (.ops [⟨(some 4), .mov (.c (.s (.bool false))), none⟩] [4])
  (.ret [4]))
  .skip))
  s20_2)
def b20 : EC := (.seq (.ops [⟨(some 4), .mov (.c (.s (.bool false))), none⟩] [0, 1])
  s20_1)
def e20 : EF := ⟨26, b20, [.tmp 4]⟩

/-- scutage/measure.Loss -/
def h21 : List (List Nat) := [[0, 1], [0, 1, 19], [4, 5], [4, 5], [6], [4, 5], [4, 5]]
def s21_3 : EC := (.seq (.ops [⟨(some 26), .mov (.t 6), none⟩,
    ⟨(some 4), .mov (.t 26), none⟩,
    ⟨(some 5), .mov (.c (.s (.int .i64 0))), none⟩] [4, 5])
  (.ret [4, 5]))
def s21_2 : EC := (.seq (.ops [⟨(some 21), .mov (.t 0), none⟩,
    ⟨(some 22), .mov (.t 1), none⟩,
    ⟨(some 23), .call 40 [(.t 21), (.t 22)], none⟩,
    ⟨(some 20), .mov (.t 23), none⟩,
    ⟨(some 24), .ext (.t 20) 0, none⟩,
    ⟨(some 25), .ext (.t 20) 1, none⟩,
    ⟨(some 6), .mov (.t 24), none⟩,
    ⟨(some 7), .mov (.t 25), none⟩] [6])
  s21_3)
def s21_1 : EC := (.seq (.seq (.ops [⟨(some 8), .mov (.t 0), none⟩,
    ⟨(some 9), .bin .lss (.t 8) (.c (.s (.int .i64 0))), none⟩,
    ⟨(some 10), .mov (.t 9), none⟩,
    ⟨(some 11), .mov (.t 0), (some (10, false))⟩,
    ⟨(some 12), .call 39 [(.t 11)], (some (10, false))⟩,
    ⟨(some 13), .un .not (.t 12), (some (10, false))⟩,
    ⟨(some 14), .pick (.t 10) (.c (.s (.bool true))) (.t 13), none⟩,
    ⟨(some 15), .mov (.t 14), none⟩,
    ⟨(some 16), .mov (.t 1), (some (15, false))⟩,
    ⟨(some 17), .call 38 [(.t 16)], (some (15, false))⟩,
    ⟨(some 18), .un .not (.t 17), (some (15, false))⟩,
    ⟨(some 19), .pick (.t 15) (.c (.s (.bool true))) (.t 18), none⟩] [0, 1, 19])
  (.cond (.t 19) (.seq (.ops [⟨(some 4), .mov (.c (.s (.int .i64 0))), none⟩,
    ⟨(some 5), .mov (.c (.s (.int .i64 1))), none⟩] [4, 5])
  (.ret [4, 5]))
  .skip))
  s21_2)
def b21 : EC := (.seq (.ops [⟨(some 4), .mov (.c (.s (.int .i64 0))), none⟩,
    ⟨(some 5), .mov (.c (.s (.int .i64 0))), none⟩] [0, 1])
  s21_1)
def e21 : EF := ⟨27, b21, [.tmp 4, .tmp 5]⟩

/-- (*scutage/scutageref09.Table).Add -/
def h22 : List (List Nat) := [[0, 1, 2, 3, 4], [0, 1, 2, 3, 4, 29], [10], [10], [0, 1, 2, 3, 4, 33, 34, 35], [0, 1, 2, 3, 4, 33, 34, 35], [0, 1, 2, 3, 4, 33, 34, 35, 36], [0, 1, 2, 3, 4], [0, 1, 2, 3, 4, 12, 33, 34, 35], [0, 1, 2, 3, 4, 33, 34, 35, 54], [10], [10], [0, 1, 2, 3, 4, 33, 34, 35], [0, 1, 2, 3, 4, 61], [10], [10], [], [10], [10]]
def l22_0_2 : EC := (.seq (.block 1 (.seq (.ops [⟨(some 37), .iad 73 4 (.t 33) (.t 35), none⟩,
    ⟨(some 38), .load true 4 (.t 37), none⟩,
    ⟨(some 12), .new 73 4 (.c (.agg [(.str ⟨#[]⟩), (.int .i64 0), (.int .i64 0), (.int .i64 0)])), none⟩,
    ⟨none, .store 4 (.t 12) (.t 38), none⟩] [0, 1, 2, 3, 4, 12, 33, 34, 35])
  (.seq (.ops [⟨(some 39), .fad 0 (.t 12), none⟩,
    ⟨(some 40), .load false 1 (.t 39), none⟩,
    ⟨(some 41), .mov (.t 1), none⟩,
    ⟨(some 42), .bin .eql (.t 40) (.t 41), none⟩,
    ⟨(some 43), .mov (.t 42), none⟩,
    ⟨(some 44), .fad 1 (.t 12), (some (43, true))⟩,
    ⟨(some 45), .load false 1 (.t 44), (some (43, true))⟩,
    ⟨(some 46), .mov (.t 2), (some (43, true))⟩,
    ⟨(some 47), .bin .eql (.t 45) (.t 46), (some (43, true))⟩,
    ⟨(some 48), .pick (.t 43) (.t 47) (.c (.s (.bool false))), none⟩,
    ⟨(some 49), .mov (.t 48), none⟩,
    ⟨(some 50), .fad 3 (.t 12), (some (49, true))⟩,
    ⟨(some 51), .load false 1 (.t 50), (some (49, true))⟩,
    ⟨(some 52), .mov (.t 4), (some (49, true))⟩,
    ⟨(some 53), .bin .eql (.t 51) (.t 52), (some (49, true))⟩,
    ⟨(some 54), .pick (.t 49) (.t 53) (.c (.s (.bool false))), none⟩] [0, 1, 2, 3, 4, 33, 34, 35, 54])
  (.cond (.t 54) (.seq (.ops [⟨(some 10), .mov (.c (.s (.int .i64 4))), none⟩] [10])
  (.ret [10]))
  .skip))))
  (.ops [⟨(some 55), .bin .add (.t 35) (.c (.s (.int .i64 1))), none⟩,
    ⟨(some 35), .mov (.t 55), none⟩] [0, 1, 2, 3, 4, 33, 34, 35]))
def l22_0_1 : EC := (.seq (.cond (.t 36) .skip
  (.exit 0 [0, 1, 2, 3, 4]))
  l22_0_2)
def l22_0 : EC := (.seq (.ops [⟨(some 36), .bin .lss (.t 35) (.t 34), none⟩] [0, 1, 2, 3, 4, 33, 34, 35, 36])
  l22_0_1)
def s22_5 : EC := (.seq (.ops [⟨(some 10), .mov (.c (.s (.int .i64 0))), none⟩] [10])
  (.ret [10]))
def s22_4 : EC := (.seq (.ops [⟨(some 62), .mov (.t 0), none⟩,
    ⟨(some 63), .mov (.t 0), none⟩,
    ⟨(some 64), .nilc (.t 63), none⟩,
    ⟨(some 65), .fad 0 (.t 64), none⟩,
    ⟨(some 66), .load false 1 (.t 65), none⟩,
    ⟨(some 67), .mov (.t 1), none⟩,
    ⟨(some 68), .mov (.t 2), none⟩,
    ⟨(some 69), .mov (.t 3), none⟩,
    ⟨(some 70), .mov (.t 4), none⟩,
    ⟨(some 71), .build [(.str ⟨#[]⟩), (.int .i64 0), (.int .i64 0), (.int .i64 0)] [(0, 1, (.t 67)), (1, 1, (.t 68)), (2, 1, (.t 69)), (3, 1, (.t 70))], none⟩,
    ⟨(some 72), .bsl 73 1 [(.str ⟨#[]⟩), (.int .i64 0), (.int .i64 0), (.int .i64 0)] [(0, 4, (.t 71))], none⟩,
    ⟨(some 73), .app 73 4 40 (.t 66) (.t 72), none⟩,
    ⟨(some 74), .nilc (.t 62), none⟩,
    ⟨(some 75), .fad 0 (.t 74), none⟩,
    ⟨none, .store 1 (.t 75) (.t 73), none⟩] [])
  s22_5)
def s22_3 : EC := (.seq (.seq (.ops [⟨(some 56), .mov (.t 0), none⟩,
    ⟨(some 57), .nilc (.t 56), none⟩,
    ⟨(some 58), .fad 0 (.t 57), none⟩,
    ⟨(some 59), .load false 1 (.t 58), none⟩,
    ⟨(some 60), .len (.t 59), none⟩,
    ⟨(some 61), .bin .geq (.t 60) (.c (.s (.int .i64 24))), none⟩] [0, 1, 2, 3, 4, 61])
  (.cond (.t 61) (.seq (.ops [⟨(some 10), .mov (.c (.s (.int .i64 5))), none⟩] [10])
  (.ret [10]))
  .skip))
  s22_4)
def s22_2 : EC := (.seq (.seq (.ops [⟨(some 30), .mov (.t 0), none⟩,
    ⟨(some 31), .nilc (.t 30), none⟩,
    ⟨(some 32), .fad 0 (.t 31), none⟩,
    ⟨(some 33), .load false 1 (.t 32), none⟩,
    ⟨(some 34), .len (.t 33), none⟩,
    ⟨(some 35), .mov (.c (.s (.int .i64 0))), none⟩] [0, 1, 2, 3, 4, 33, 34, 35])
  (.block 0 (.loop [0, 1, 2, 3, 4, 33, 34, 35] l22_0)))
  s22_3)
def s22_1 : EC := (.seq (.seq (.ops [⟨(some 13), .mov (.t 1), none⟩,
    ⟨(some 14), .bin .eql (.t 13) (.c (.s (.str ⟨#[]⟩))), none⟩,
    ⟨(some 15), .mov (.t 14), none⟩,
    ⟨(some 16), .mov (.t 2), (some (15, false))⟩,
    ⟨(some 17), .call 45 [(.t 16)], (some (15, false))⟩,
    ⟨(some 18), .un .not (.t 17), (some (15, false))⟩,
    ⟨(some 19), .pick (.t 15) (.c (.s (.bool true))) (.t 18), none⟩,
    ⟨(some 20), .mov (.t 19), none⟩,
    ⟨(some 21), .mov (.t 3), (some (20, false))⟩,
    ⟨(some 22), .call 46 [(.t 21)], (some (20, false))⟩,
    ⟨(some 23), .un .not (.t 22), (some (20, false))⟩,
    ⟨(some 24), .pick (.t 20) (.c (.s (.bool true))) (.t 23), none⟩,
    ⟨(some 25), .mov (.t 24), none⟩,
    ⟨(some 26), .mov (.t 4), (some (25, false))⟩,
    ⟨(some 27), .call 47 [(.t 26)], (some (25, false))⟩,
    ⟨(some 28), .un .not (.t 27), (some (25, false))⟩,
    ⟨(some 29), .pick (.t 25) (.c (.s (.bool true))) (.t 28), none⟩] [0, 1, 2, 3, 4, 29])
  (.cond (.t 29) (.seq (.ops [⟨(some 10), .mov (.c (.s (.int .i64 1))), none⟩] [10])
  (.ret [10]))
  .skip))
  s22_2)
def b22 : EC := (.seq (.ops [⟨(some 10), .mov (.c (.s (.int .i64 0))), none⟩] [0, 1, 2, 3, 4])
  s22_1)
def e22 : EF := ⟨76, b22, [.tmp 10]⟩

/-- scutage/scutagelaw09.Of -/
def h23 : List (List Nat) := [[0], [0, 3], [0, 3, 8], [2], [2], [3, 12, 13, 14], [3, 12, 13, 14], [3, 12, 13, 14, 15], [3], [3, 5, 12, 13, 14], [3, 12, 13, 14, 28], [2], [2], [3, 12, 13, 14], [2], [2]]
def l23_0_2 : EC := (.seq (.block 1 (.seq (.ops [⟨(some 16), .iad 73 4 (.t 12) (.t 14), none⟩,
    ⟨(some 17), .load true 4 (.t 16), none⟩,
    ⟨(some 5), .new 73 4 (.c (.agg [(.str ⟨#[]⟩), (.int .i64 0), (.int .i64 0), (.int .i64 0)])), none⟩,
    ⟨none, .store 4 (.t 5) (.t 17), none⟩] [3, 5, 12, 13, 14])
  (.seq (.ops [⟨(some 18), .mov (.t 3), none⟩,
    ⟨(some 19), .fad 0 (.t 5), none⟩,
    ⟨(some 20), .load false 1 (.t 19), none⟩,
    ⟨(some 21), .fad 1 (.t 5), none⟩,
    ⟨(some 22), .load false 1 (.t 21), none⟩,
    ⟨(some 23), .fad 2 (.t 5), none⟩,
    ⟨(some 24), .load false 1 (.t 23), none⟩,
    ⟨(some 25), .fad 3 (.t 5), none⟩,
    ⟨(some 26), .load false 1 (.t 25), none⟩,
    ⟨(some 27), .call 18 [(.t 18), (.t 20), (.t 22), (.t 24), (.t 26)], none⟩,
    ⟨(some 28), .bin .neq (.t 27) (.c (.s (.int .i64 0))), none⟩] [3, 12, 13, 14, 28])
  (.cond (.t 28) (.seq (.ops [⟨(some 2), .mov (.c (.s .nilp)), none⟩] [2])
  (.ret [2]))
  .skip))))
  (.ops [⟨(some 29), .bin .add (.t 14) (.c (.s (.int .i64 1))), none⟩,
    ⟨(some 14), .mov (.t 29), none⟩] [3, 12, 13, 14]))
def l23_0_1 : EC := (.seq (.cond (.t 15) .skip
  (.exit 0 [3]))
  l23_0_2)
def l23_0 : EC := (.seq (.ops [⟨(some 15), .bin .lss (.t 14) (.t 13), none⟩] [3, 12, 13, 14, 15])
  l23_0_1)
def s23_4 : EC := (.seq (.ops [⟨(some 30), .mov (.t 3), none⟩,
    ⟨(some 2), .mov (.t 30), none⟩] [2])
  (.ret [2]))
def s23_3 : EC := (.seq (.seq (.ops [⟨(some 9), .mov (.t 0), none⟩,
    ⟨(some 10), .nilc (.t 9), none⟩,
    ⟨(some 11), .fad 0 (.t 10), none⟩,
    ⟨(some 12), .load false 1 (.t 11), none⟩,
    ⟨(some 13), .len (.t 12), none⟩,
    ⟨(some 14), .mov (.c (.s (.int .i64 0))), none⟩] [3, 12, 13, 14])
  (.block 0 (.loop [3, 12, 13, 14] l23_0)))
  s23_4)
def s23_2 : EC := (.seq (.seq (.ops [⟨(some 7), .mov (.t 3), none⟩,
    ⟨(some 8), .eqp false (.t 7) (.c (.s .nilp)), none⟩] [0, 3, 8])
  (.cond (.t 8) (.seq (.ops [⟨(some 2), .mov (.c (.s .nilp)), none⟩] [2])
  (.ret [2]))
  .skip))
  s23_3)
def s23_1 : EC := (.seq (.ops [⟨(some 6), .call 17 [], none⟩,
    ⟨(some 3), .mov (.t 6), none⟩] [0, 3])
  s23_2)
def b23 : EC := (.seq (.ops [⟨(some 2), .mov (.c (.s .nilp)), none⟩] [0])
  s23_1)
def e23 : EF := ⟨31, b23, [.tmp 2]⟩

/-- scutage/measure.NextRate -/
def h24 : List (List Nat) := [[0, 1, 2], [0, 1, 2, 12], [6, 7], [6, 7], [8, 9], [8, 25], [6, 7], [6, 7], [6, 7], [6, 7]]
def s24_4 : EC := (.seq (.ops [⟨(some 26), .mov (.t 8), none⟩,
    ⟨(some 6), .mov (.t 26), none⟩,
    ⟨(some 7), .mov (.c (.s (.int .i64 0))), none⟩] [6, 7])
  (.ret [6, 7]))
def s24_3 : EC := (.seq (.seq (.ops [⟨(some 24), .mov (.t 9), none⟩,
    ⟨(some 25), .un .not (.t 24), none⟩] [8, 25])
  (.cond (.t 25) (.seq (.ops [⟨(some 6), .mov (.c (.s (.int .i64 0))), none⟩,
    ⟨(some 7), .mov (.c (.s (.int .i64 7))), none⟩] [6, 7])
  (.ret [6, 7]))
  .skip))
  s24_4)
def s24_2 : EC := (.seq (.ops [⟨(some 14), .mov (.t 0), none⟩,
    ⟨(some 15), .mov (.t 1), none⟩,
    ⟨(some 16), .mov (.t 2), none⟩,
    ⟨(some 17), .call 44 [(.t 16)], none⟩,
    ⟨(some 18), .bin .add (.t 17) (.c (.s (.int .i64 1))), none⟩,
    ⟨(some 19), .mn (.t 18) [(.c (.s (.int .i64 99)))], none⟩,
    ⟨(some 20), .mov (.t 2), none⟩,
    ⟨(some 21), .call 33 [(.t 14), (.t 15), (.t 19), (.t 20)], none⟩,
    ⟨(some 13), .mov (.t 21), none⟩,
    ⟨(some 22), .ext (.t 13) 0, none⟩,
    ⟨(some 23), .ext (.t 13) 1, none⟩,
    ⟨(some 8), .mov (.t 22), none⟩,
    ⟨(some 9), .mov (.t 23), none⟩] [8, 9])
  s24_3)
def s24_1 : EC := (.seq (.seq (.ops [⟨(some 10), .mov (.t 2), none⟩,
    ⟨(some 11), .call 42 [(.t 10)], none⟩,
    ⟨(some 12), .un .not (.t 11), none⟩] [0, 1, 2, 12])
  (.cond (.t 12) (.seq (.ops [⟨(some 6), .mov (.c (.s (.int .i64 0))), none⟩,
    ⟨(some 7), .mov (.c (.s (.int .i64 1))), none⟩] [6, 7])
  (.ret [6, 7]))
  .skip))
  s24_2)
def b24 : EC := (.seq (.ops [⟨(some 6), .mov (.c (.s (.int .i64 0))), none⟩,
    ⟨(some 7), .mov (.c (.s (.int .i64 0))), none⟩] [0, 1, 2])
  s24_1)
def e24 : EF := ⟨27, b24, [.tmp 6, .tmp 7]⟩

/-- scutage/scutageplay.Table -/
def h25 : List (List Nat) := [[0], [0, 3], [0, 3, 4], [0, 3, 4], [0, 3, 4, 14], [3], [0, 3, 4], [0, 3, 4], [2], [2]]
def l25_0_1 : EC := (.seq (.block 1 (.draw [⟨(some 23), .mov (.t 0), none⟩,
    ⟨(some 24), .mov (.t 4), none⟩,
    ⟨(some 25), .iad 3 1 (.t 23) (.t 24), none⟩,
    ⟨(some 26), .load false 1 (.t 25), none⟩,
    ⟨(some 27), .call 14 [(.t 26), (.c (.s (.int .i64 6)))], none⟩,
    ⟨(some 28), .mov (.t 0), none⟩,
    ⟨(some 29), .mov (.t 4), none⟩,
    ⟨(some 30), .iad 3 1 (.t 28) (.t 29), none⟩,
    ⟨(some 31), .load false 1 (.t 30), none⟩,
    ⟨(some 32), .bin .quo (.t 31) (.c (.s (.int .i64 6))), none⟩,
    ⟨(some 33), .call 28 [(.t 32)], none⟩,
    ⟨(some 34), .mov (.t 0), none⟩,
    ⟨(some 35), .mov (.t 4), none⟩,
    ⟨(some 36), .iad 3 1 (.t 34) (.t 35), none⟩,
    ⟨(some 37), .load false 1 (.t 36), none⟩,
    ⟨(some 38), .bin .quo (.t 37) (.c (.s (.int .i64 60))), none⟩,
    ⟨(some 39), .call 14 [(.t 38), (.c (.s (.int .i64 12)))], none⟩,
    ⟨(some 17), .mov (.t 3), none⟩,
    ⟨(some 18), .bsl 9 2 [(.str ⟨#[]⟩)] [(0, 1, (.c (.s (.str ⟨#[117, 107]⟩)))), (1, 1, (.c (.s (.str ⟨#[100, 101]⟩))))], none⟩,
    ⟨(some 19), .mov (.t 4), none⟩,
    ⟨(some 20), .bin .rem (.t 19) (.c (.s (.int .i64 2))), none⟩,
    ⟨(some 21), .iad 9 1 (.t 18) (.t 20), none⟩,
    ⟨(some 22), .load false 1 (.t 21), none⟩,
    ⟨(some 40), .call 22 [(.t 17), (.t 22), (.t 27), (.t 33), (.t 39)], none⟩] [(7, 4), (8, 4), (13, 4), (13, 10), (14, 4), (14, 10), (21, 4), (21, 10), (21, 16), (22, 4), (22, 10), (22, 16)] [0, 3, 4]))
  (.ops [⟨(some 15), .mov (.t 4), none⟩,
    ⟨(some 16), .bin .add (.t 15) (.c (.s (.int .i64 1))), none⟩,
    ⟨(some 4), .mov (.t 16), none⟩] [0, 3, 4]))
def l25_0 : EC := (.seq (.seq (.ops [⟨(some 7), .mov (.t 4), none⟩,
    ⟨(some 8), .mov (.t 0), none⟩,
    ⟨(some 9), .len (.t 8), none⟩,
    ⟨(some 10), .bin .lss (.t 7) (.t 9), none⟩,
    ⟨(some 11), .mov (.t 10), none⟩,
    ⟨(some 12), .mov (.t 4), (some (11, true))⟩,
    ⟨(some 13), .bin .lss (.t 12) (.c (.s (.int .i64 10))), (some (11, true))⟩,
    ⟨(some 14), .pick (.t 11) (.t 13) (.c (.s (.bool false))), none⟩] [0, 3, 4, 14])
  (.cond (.t 14) .skip
  (.exit 0 [3])))
  l25_0_1)
def s25_3 : EC := (.seq (.ops [⟨(some 41), .mov (.t 3), none⟩,
    ⟨(some 2), .mov (.t 41), none⟩] [2])
  (.ret [2]))
def s25_2 : EC := (.seq (.seq (.ops [⟨(some 4), .mov (.c (.s (.int .i64 0))), none⟩] [0, 3, 4])
  (.block 0 (.loop [0, 3, 4] l25_0)))
  s25_3)
def s25_1 : EC := (.seq (.ops [⟨(some 5), .build [.nils] [], none⟩,
    ⟨(some 6), .new 49 1 (.t 5), none⟩,
    ⟨(some 3), .mov (.t 6), none⟩] [0, 3])
  s25_2)
def b25 : EC := (.seq (.ops [⟨(some 2), .mov (.c (.s .nilp)), none⟩] [0])
  s25_1)
def e25 : EF := ⟨42, b25, [.tmp 2]⟩

/-- scutage/scutageref09.Rates -/
def h26 : List (List Nat) := [[0, 1, 2, 3], [0, 1, 2, 3, 17], [8, 9], [8, 9], [0, 1, 2, 3, 10], [0, 1, 3, 10, 18, 19, 20], [0, 1, 3, 10, 18, 19, 20], [0, 1, 3, 10, 18, 19, 20, 21], [10], [0, 1, 3, 10, 12, 18, 19, 20], [0, 1, 3, 10, 13, 14, 18, 19, 20], [0, 1, 3, 10, 13, 18, 19, 20, 37], [8, 9], [8, 9], [0, 1, 3, 10, 18, 19, 20], [0, 1, 3, 10, 18, 19, 20], [8, 9], [8, 9]]
def l26_0_2 : EC := (.seq (.block 1 (.seq (.ops [⟨(some 22), .iad 30 3 (.t 18) (.t 20), none⟩,
    ⟨(some 23), .load true 3 (.t 22), none⟩,
    ⟨(some 12), .new 30 3 (.c (.agg [(.int .i64 0), (.int .i64 0), (.int .i64 0)])), none⟩,
    ⟨none, .store 3 (.t 12) (.t 23), none⟩] [0, 1, 3, 10, 12, 18, 19, 20])
  (.seq (.ops [⟨(some 25), .mov (.t 0), none⟩,
    ⟨(some 26), .mov (.t 1), none⟩,
    ⟨(some 27), .fad 1 (.t 12), none⟩,
    ⟨(some 28), .load false 1 (.t 27), none⟩,
    ⟨(some 29), .mov (.t 3), none⟩,
    ⟨(some 30), .bin .quo (.t 29) (.c (.s (.int .i64 4))), none⟩,
    ⟨(some 31), .mx (.t 28) [(.t 30)], none⟩,
    ⟨(some 32), .mov (.t 3), none⟩,
    ⟨(some 33), .call 36 [(.t 25), (.t 26), (.t 31), (.t 32)], none⟩,
    ⟨(some 24), .mov (.t 33), none⟩,
    ⟨(some 34), .ext (.t 24) 0, none⟩,
    ⟨(some 35), .ext (.t 24) 1, none⟩,
    ⟨(some 13), .mov (.t 34), none⟩,
    ⟨(some 14), .mov (.t 35), none⟩] [0, 1, 3, 10, 13, 14, 18, 19, 20])
  (.seq (.seq (.ops [⟨(some 36), .mov (.t 14), none⟩,
    ⟨(some 37), .un .not (.t 36), none⟩] [0, 1, 3, 10, 13, 18, 19, 20, 37])
  (.cond (.t 37) (.seq (.ops [⟨(some 8), .mov (.c (.s .nils)), none⟩,
    ⟨(some 9), .mov (.c (.s (.int .i64 7))), none⟩] [8, 9])
  (.ret [8, 9]))
  .skip))
  (.ops [⟨(some 38), .mov (.t 10), none⟩,
    ⟨(some 39), .mov (.t 13), none⟩,
    ⟨(some 40), .bsl 3 1 [(.int .i64 0)] [(0, 1, (.t 39))], none⟩,
    ⟨(some 41), .app 3 1 8 (.t 38) (.t 40), none⟩,
    ⟨(some 10), .mov (.t 41), none⟩] [0, 1, 3, 10, 18, 19, 20])))))
  (.ops [⟨(some 42), .bin .add (.t 20) (.c (.s (.int .i64 1))), none⟩,
    ⟨(some 20), .mov (.t 42), none⟩] [0, 1, 3, 10, 18, 19, 20]))
def l26_0_1 : EC := (.seq (.cond (.t 21) .skip
  (.exit 0 [10]))
  l26_0_2)
def l26_0 : EC := (.seq (.ops [⟨(some 21), .bin .lss (.t 20) (.t 19), none⟩] [0, 1, 3, 10, 18, 19, 20, 21])
  l26_0_1)
def s26_4 : EC := (.seq (.ops [⟨(some 43), .mov (.t 10), none⟩,
    ⟨(some 8), .mov (.t 43), none⟩,
    ⟨(some 9), .mov (.c (.s (.int .i64 0))), none⟩] [8, 9])
  (.ret [8, 9]))
def s26_3 : EC := (.seq (.seq (.ops [⟨(some 18), .mov (.t 2), none⟩,
    ⟨(some 19), .len (.t 18), none⟩,
    ⟨(some 20), .mov (.c (.s (.int .i64 0))), none⟩] [0, 1, 3, 10, 18, 19, 20])
  (.block 0 (.loop [0, 1, 3, 10, 18, 19, 20] l26_0)))
  s26_4)
def s26_2 : EC := (.seq (.ops [⟨(some 10), .mov (.c (.s .nils)), none⟩] [0, 1, 2, 3, 10])
  s26_3)
def s26_1 : EC := (.seq (.seq (.ops [⟨(some 15), .mov (.t 3), none⟩,
    ⟨(some 16), .call 47 [(.t 15)], none⟩,
    ⟨(some 17), .un .not (.t 16), none⟩] [0, 1, 2, 3, 17])
  (.cond (.t 17) (.seq (.ops [⟨(some 8), .mov (.c (.s .nils)), none⟩,
    ⟨(some 9), .mov (.c (.s (.int .i64 1))), none⟩] [8, 9])
  (.ret [8, 9]))
  .skip))
  s26_2)
def b26 : EC := (.seq (.ops [⟨(some 8), .mov (.c (.s .nils)), none⟩,
    ⟨(some 9), .mov (.c (.s (.int .i64 0))), none⟩] [0, 1, 2, 3])
  s26_1)
def e26 : EF := ⟨44, b26, [.tmp 8, .tmp 9]⟩

/-- scutage/scutageref09.NextRate -/
def h27 : List (List Nat) := [[0, 1, 2], [0, 1, 2, 12], [6, 7], [6, 7], [8, 9], [8, 25], [6, 7], [6, 7], [6, 7], [6, 7]]
def s27_4 : EC := (.seq (.ops [⟨(some 26), .mov (.t 8), none⟩,
    ⟨(some 6), .mov (.t 26), none⟩,
    ⟨(some 7), .mov (.c (.s (.int .i64 0))), none⟩] [6, 7])
  (.ret [6, 7]))
def s27_3 : EC := (.seq (.seq (.ops [⟨(some 24), .mov (.t 9), none⟩,
    ⟨(some 25), .un .not (.t 24), none⟩] [8, 25])
  (.cond (.t 25) (.seq (.ops [⟨(some 6), .mov (.c (.s (.int .i64 0))), none⟩,
    ⟨(some 7), .mov (.c (.s (.int .i64 7))), none⟩] [6, 7])
  (.ret [6, 7]))
  .skip))
  s27_4)
def s27_2 : EC := (.seq (.ops [⟨(some 14), .mov (.t 0), none⟩,
    ⟨(some 15), .mov (.t 1), none⟩,
    ⟨(some 16), .mov (.t 2), none⟩,
    ⟨(some 17), .bin .quo (.t 16) (.c (.s (.int .i64 4))), none⟩,
    ⟨(some 18), .bin .add (.t 17) (.c (.s (.int .i64 1))), none⟩,
    ⟨(some 19), .mn (.t 18) [(.c (.s (.int .i64 99)))], none⟩,
    ⟨(some 20), .mov (.t 2), none⟩,
    ⟨(some 21), .call 36 [(.t 14), (.t 15), (.t 19), (.t 20)], none⟩,
    ⟨(some 13), .mov (.t 21), none⟩,
    ⟨(some 22), .ext (.t 13) 0, none⟩,
    ⟨(some 23), .ext (.t 13) 1, none⟩,
    ⟨(some 8), .mov (.t 22), none⟩,
    ⟨(some 9), .mov (.t 23), none⟩] [8, 9])
  s27_3)
def s27_1 : EC := (.seq (.seq (.ops [⟨(some 10), .mov (.t 2), none⟩,
    ⟨(some 11), .call 47 [(.t 10)], none⟩,
    ⟨(some 12), .un .not (.t 11), none⟩] [0, 1, 2, 12])
  (.cond (.t 12) (.seq (.ops [⟨(some 6), .mov (.c (.s (.int .i64 0))), none⟩,
    ⟨(some 7), .mov (.c (.s (.int .i64 1))), none⟩] [6, 7])
  (.ret [6, 7]))
  .skip))
  s27_2)
def b27 : EC := (.seq (.ops [⟨(some 6), .mov (.c (.s (.int .i64 0))), none⟩,
    ⟨(some 7), .mov (.c (.s (.int .i64 0))), none⟩] [0, 1, 2])
  s27_1)
def e27 : EF := ⟨27, b27, [.tmp 6, .tmp 7]⟩

/-- scutage/scutageplay.Rate -/
def h28 : List (List Nat) := [[0], [0, 5], [2], [2], [2], [2]]
def s28_2 : EC := (.seq (.ops [⟨(some 7), .bsl 3 10 [(.int .i64 0)] [(0, 1, (.c (.s (.int .i64 250000)))), (1, 1, (.c (.s (.int .i64 300000)))), (2, 1, (.c (.s (.int .i64 190000)))), (3, 1, (.c (.s (.int .i64 0)))), (4, 1, (.c (.s (.int .i64 1000000)))), (5, 1, (.c (.s (.int .i64 333333)))), (6, 1, (.c (.s (.int .i64 500000)))), (7, 1, (.c (.s (.int .i64 1)))), (8, 1, (.c (.s (.int .i64 125000)))), (9, 1, (.c (.s (.int .i64 999999))))], none⟩,
    ⟨(some 8), .mov (.t 0), none⟩,
    ⟨(some 9), .call 14 [(.t 8), (.c (.s (.int .i64 10)))], none⟩,
    ⟨(some 10), .iad 3 1 (.t 7) (.t 9), none⟩,
    ⟨(some 11), .load false 1 (.t 10), none⟩,
    ⟨(some 2), .mov (.t 11), none⟩] [2])
  (.ret [2]))
def s28_1 : EC := (.seq (.seq (.ops [⟨(some 3), .mov (.t 0), none⟩,
    ⟨(some 4), .bin .rem (.t 3) (.c (.s (.int .i64 29))), none⟩,
    ⟨(some 5), .bin .eql (.t 4) (.c (.s (.int .i64 28))), none⟩] [0, 5])
  (.cond (.t 5) (.seq (.ops [⟨(some 6), .mov (.t 0), none⟩,
    ⟨(some 2), .mov (.t 6), none⟩] [2])
  (.ret [2]))
  .skip))
  s28_2)
def b28 : EC := (.seq (.ops [⟨(some 2), .mov (.c (.s (.int .i64 0))), none⟩] [0])
  s28_1)
def e28 : EF := ⟨12, b28, [.tmp 2]⟩

/-- scutage/scutageref09.Temp -/
def h29 : List (List Nat) := [[0, 1], [0, 1, 13], [4, 5], [4, 5], [0, 1, 6], [1, 6, 14, 15, 16], [1, 6, 14, 15, 16], [1, 6, 14, 15, 16, 17], [6], [1, 6, 7, 8, 14, 15, 16], [1, 6, 7, 8, 14, 15, 16, 32], [4, 5], [4, 5], [1, 6, 14, 15, 16], [1, 6, 14, 15, 16], [6, 45], [4, 5], [4, 5], [4, 5], [4, 5]]
def l29_0_2 : EC := (.seq (.block 1 (.seq (.ops [⟨(some 18), .mov (.t 16), none⟩,
    ⟨(some 19), .iad 30 3 (.t 14) (.t 16), none⟩,
    ⟨(some 20), .load true 3 (.t 19), none⟩,
    ⟨(some 8), .new 30 3 (.c (.agg [(.int .i64 0), (.int .i64 0), (.int .i64 0)])), none⟩,
    ⟨(some 7), .mov (.t 18), none⟩,
    ⟨none, .store 3 (.t 8) (.t 20), none⟩] [1, 6, 7, 8, 14, 15, 16])
  (.seq (.seq (.ops [⟨(some 21), .fad 2 (.t 8), none⟩,
    ⟨(some 22), .load false 1 (.t 21), none⟩,
    ⟨(some 23), .call 48 [(.t 22)], none⟩,
    ⟨(some 24), .un .not (.t 23), none⟩,
    ⟨(some 25), .mov (.t 24), none⟩,
    ⟨(some 26), .mov (.t 1), (some (25, false))⟩,
    ⟨(some 27), .mov (.t 7), (some (25, false))⟩,
    ⟨(some 28), .iad 3 1 (.t 26) (.t 27), (some (25, false))⟩,
    ⟨(some 29), .load false 1 (.t 28), (some (25, false))⟩,
    ⟨(some 30), .call 46 [(.t 29)], (some (25, false))⟩,
    ⟨(some 31), .un .not (.t 30), (some (25, false))⟩,
    ⟨(some 32), .pick (.t 25) (.c (.s (.bool true))) (.t 31), none⟩] [1, 6, 7, 8, 14, 15, 16, 32])
  (.cond (.t 32) (.seq (.ops [⟨(some 4), .mov (.c (.s (.int .i64 0))), none⟩,
    ⟨(some 5), .mov (.c (.s (.int .i64 1))), none⟩] [4, 5])
  (.ret [4, 5]))
  .skip))
  (.draw [⟨(some 33), .mov (.t 6), none⟩,
    ⟨(some 34), .fad 2 (.t 8), none⟩,
    ⟨(some 35), .load false 1 (.t 34), none⟩,
    ⟨(some 36), .mov (.t 1), none⟩,
    ⟨(some 37), .mov (.t 7), none⟩,
    ⟨(some 38), .iad 3 1 (.t 36) (.t 37), none⟩,
    ⟨(some 39), .load false 1 (.t 38), none⟩,
    ⟨(some 40), .call 49 [(.t 35), (.t 39)], none⟩,
    ⟨(some 41), .bin .sub (.t 33) (.t 40), none⟩,
    ⟨(some 6), .mov (.t 41), none⟩] [] [1, 6, 14, 15, 16]))))
  (.ops [⟨(some 42), .bin .add (.t 16) (.c (.s (.int .i64 1))), none⟩,
    ⟨(some 16), .mov (.t 42), none⟩] [1, 6, 14, 15, 16]))
def l29_0_1 : EC := (.seq (.cond (.t 17) .skip
  (.exit 0 [6]))
  l29_0_2)
def l29_0 : EC := (.seq (.ops [⟨(some 17), .bin .lss (.t 16) (.t 15), none⟩] [1, 6, 14, 15, 16, 17])
  l29_0_1)
def s29_5 : EC := (.seq (.ops [⟨(some 46), .mov (.t 6), none⟩,
    ⟨(some 4), .mov (.t 46), none⟩,
    ⟨(some 5), .mov (.c (.s (.int .i64 0))), none⟩] [4, 5])
  (.ret [4, 5]))
def s29_4 : EC := (.seq (.seq (.ops [⟨(some 43), .mov (.t 6), none⟩,
    ⟨(some 44), .call 48 [(.t 43)], none⟩,
    ⟨(some 45), .un .not (.t 44), none⟩] [6, 45])
  (.cond (.t 45) (.seq (.ops [⟨(some 4), .mov (.c (.s (.int .i64 0))), none⟩,
    ⟨(some 5), .mov (.c (.s (.int .i64 6))), none⟩] [4, 5])
  (.ret [4, 5]))
  .skip))
  s29_5)
def s29_3 : EC := (.seq (.seq (.ops [⟨(some 14), .mov (.t 0), none⟩,
    ⟨(some 15), .len (.t 14), none⟩,
    ⟨(some 16), .mov (.c (.s (.int .i64 0))), none⟩] [1, 6, 14, 15, 16])
  (.block 0 (.loop [1, 6, 14, 15, 16] l29_0)))
  s29_4)
def s29_2 : EC := (.seq (.ops [⟨(some 6), .mov (.c (.s (.int .i64 0))), none⟩] [0, 1, 6])
  s29_3)
def s29_1 : EC := (.seq (.seq (.ops [⟨(some 9), .mov (.t 0), none⟩,
    ⟨(some 10), .len (.t 9), none⟩,
    ⟨(some 11), .mov (.t 1), none⟩,
    ⟨(some 12), .len (.t 11), none⟩,
    ⟨(some 13), .bin .neq (.t 10) (.t 12), none⟩] [0, 1, 13])
  (.cond (.t 13) (.seq (.ops [⟨(some 4), .mov (.c (.s (.int .i64 0))), none⟩,
    ⟨(some 5), .mov (.c (.s (.int .i64 1))), none⟩] [4, 5])
  (.ret [4, 5]))
  .skip))
  s29_2)
def b29 : EC := (.seq (.ops [⟨(some 4), .mov (.c (.s (.int .i64 0))), none⟩,
    ⟨(some 5), .mov (.c (.s (.int .i64 0))), none⟩] [0, 1])
  s29_1)
def e29 : EF := ⟨47, b29, [.tmp 4, .tmp 5]⟩

/-- scutage/scutageplay.Amount -/
def h30 : List (List Nat) := [[0], [0, 4], [0, 4, 5], [2], [2], [0, 4, 12], [2], [2], [0, 4, 19], [2], [2], [0, 22], [2], [2], [2], [2]]
def s30_2 : EC := (.seq (.ops [⟨(some 28), .mov (.t 0), none⟩,
    ⟨(some 29), .call 14 [(.t 28), (.c (.s (.int .i64 4001)))], none⟩,
    ⟨(some 30), .bin .sub (.t 29) (.c (.s (.int .i64 2000))), none⟩,
    ⟨(some 2), .mov (.t 30), none⟩] [2])
  (.ret [2]))
def s30_1 : EC := (.seq (.seq (.ops [⟨(some 3), .mov (.t 0), none⟩,
    ⟨(some 4), .bin .rem (.t 3) (.c (.s (.int .i64 23))), none⟩] [0, 4])
  (.block 0 (.seq (.ops [⟨(some 6), .bin .eql (.t 4) (.c (.s (.int .i64 20))), none⟩,
    ⟨(some 5), .mov (.t 6), none⟩] [0, 4, 5])
  (.cond (.t 5) (.seq (.ops [⟨(some 7), .mov (.t 0), none⟩,
    ⟨(some 8), .bin .quo (.t 7) (.c (.s (.int .i64 23))), none⟩,
    ⟨(some 9), .call 14 [(.t 8), (.c (.s (.int .i64 5)))], none⟩,
    ⟨(some 10), .bin .sub (.c (.s (.int .i64 100000000000))) (.t 9), none⟩,
    ⟨(some 11), .bin .add (.t 10) (.c (.s (.int .i64 2))), none⟩,
    ⟨(some 2), .mov (.t 11), none⟩] [2])
  (.ret [2]))
  (.seq (.ops [⟨(some 13), .bin .eql (.t 4) (.c (.s (.int .i64 21))), none⟩,
    ⟨(some 12), .mov (.t 13), none⟩] [0, 4, 12])
  (.cond (.t 12) (.seq (.ops [⟨(some 14), .mov (.t 0), none⟩,
    ⟨(some 15), .bin .quo (.t 14) (.c (.s (.int .i64 23))), none⟩,
    ⟨(some 16), .call 14 [(.t 15), (.c (.s (.int .i64 5)))], none⟩,
    ⟨(some 17), .bin .add (.c (.s (.int .i64 (-100000000000)))) (.t 16), none⟩,
    ⟨(some 18), .bin .sub (.t 17) (.c (.s (.int .i64 2))), none⟩,
    ⟨(some 2), .mov (.t 18), none⟩] [2])
  (.ret [2]))
  (.seq (.ops [⟨(some 20), .bin .eql (.t 4) (.c (.s (.int .i64 22))), none⟩,
    ⟨(some 19), .mov (.t 20), none⟩] [0, 4, 19])
  (.cond (.t 19) (.seq (.ops [⟨(some 21), .mov (.t 0), none⟩,
    ⟨(some 2), .mov (.t 21), none⟩] [2])
  (.ret [2]))
  (.seq (.ops [⟨(some 23), .bin .eql (.t 4) (.c (.s (.int .i64 19))), none⟩,
    ⟨(some 22), .mov (.t 23), none⟩] [0, 22])
  (.cond (.t 22) (.seq (.ops [⟨(some 24), .mov (.t 0), none⟩,
    ⟨(some 25), .bin .quo (.t 24) (.c (.s (.int .i64 23))), none⟩,
    ⟨(some 26), .call 14 [(.t 25), (.c (.s (.int .i64 200000000001)))], none⟩,
    ⟨(some 27), .bin .sub (.t 26) (.c (.s (.int .i64 100000000000))), none⟩,
    ⟨(some 2), .mov (.t 27), none⟩] [2])
  (.ret [2]))
  .skip))))))))))
  s30_2)
def b30 : EC := (.seq (.ops [⟨(some 2), .mov (.c (.s (.int .i64 0))), none⟩] [0])
  s30_1)
def e30 : EF := ⟨31, b30, [.tmp 2]⟩

/-- scutage/scutageref09.Share -/
def h31 : List (List Nat) := [[0, 1], [0, 1, 16], [4, 5], [4, 5], [4, 5], [4, 5]]
def s31_2 : EC := (.seq (.ops [⟨(some 17), .mov (.t 0), none⟩,
    ⟨(some 18), .mov (.t 1), none⟩,
    ⟨(some 19), .call 49 [(.t 17), (.t 18)], none⟩,
    ⟨(some 4), .mov (.t 19), none⟩,
    ⟨(some 5), .mov (.c (.s (.int .i64 0))), none⟩] [4, 5])
  (.ret [4, 5]))
def s31_1 : EC := (.seq (.seq (.ops [⟨(some 6), .mov (.t 0), none⟩,
    ⟨(some 7), .bin .lss (.t 6) (.c (.s (.int .i64 0))), none⟩,
    ⟨(some 8), .mov (.t 7), none⟩,
    ⟨(some 9), .mov (.t 0), (some (8, false))⟩,
    ⟨(some 10), .bin .gtr (.t 9) (.c (.s (.int .i64 100000000000))), (some (8, false))⟩,
    ⟨(some 11), .pick (.t 8) (.c (.s (.bool true))) (.t 10), none⟩,
    ⟨(some 12), .mov (.t 11), none⟩,
    ⟨(some 13), .mov (.t 1), (some (12, false))⟩,
    ⟨(some 14), .call 46 [(.t 13)], (some (12, false))⟩,
    ⟨(some 15), .un .not (.t 14), (some (12, false))⟩,
    ⟨(some 16), .pick (.t 12) (.c (.s (.bool true))) (.t 15), none⟩] [0, 1, 16])
  (.cond (.t 16) (.seq (.ops [⟨(some 4), .mov (.c (.s (.int .i64 0))), none⟩,
    ⟨(some 5), .mov (.c (.s (.int .i64 1))), none⟩] [4, 5])
  (.ret [4, 5]))
  .skip))
  s31_2)
def b31 : EC := (.seq (.ops [⟨(some 4), .mov (.c (.s (.int .i64 0))), none⟩,
    ⟨(some 5), .mov (.c (.s (.int .i64 0))), none⟩] [0, 1])
  s31_1)
def e31 : EF := ⟨20, b31, [.tmp 4, .tmp 5]⟩

/-- (*scutage/enact.Table).Rows -/
def h32 : List (List Nat) := [[0], [2], [2]]
def s32_1 : EC := (.seq (.ops [⟨(some 3), .mov (.t 0), none⟩,
    ⟨(some 4), .nilc (.t 3), none⟩,
    ⟨(some 5), .fad 0 (.t 4), none⟩,
    ⟨(some 6), .load false 1 (.t 5), none⟩,
    ⟨(some 7), .call 50 [(.t 6)], none⟩,
    ⟨(some 2), .mov (.t 7), none⟩] [2])
  (.ret [2]))
def b32 : EC := (.seq (.ops [⟨(some 2), .mov (.c (.s .nils)), none⟩] [0])
  s32_1)
def e32 : EF := ⟨8, b32, [.tmp 2]⟩

/-- (*scutage/enact.Table).Rate -/
def h33 : List (List Nat) := [[0, 1, 2, 3], [0, 1, 2, 3, 10, 11], [1, 2, 3, 10, 11, 18, 19, 20], [1, 2, 3, 10, 11, 18, 19, 20], [1, 2, 3, 10, 11, 18, 19, 20, 21], [10, 11], [1, 2, 3, 10, 11, 13, 18, 19, 20], [1, 2, 3, 10, 11, 13, 18, 19, 20, 39], [1, 2, 3, 10, 11, 18, 19, 20], [1, 2, 3, 10, 11, 13, 18, 19, 20, 62], [1, 2, 3, 10, 11, 18, 19, 20], [1, 2, 3, 10, 11, 18, 19, 20], [8, 9], [8, 9]]
def l33_0_2 : EC := (.seq (.block 1 (.seq (.ops [⟨(some 22), .iad 63 4 (.t 18) (.t 20), none⟩,
    ⟨(some 23), .load true 4 (.t 22), none⟩,
    ⟨(some 13), .new 63 4 (.c (.agg [(.str ⟨#[]⟩), (.int .i64 0), (.int .i64 0), (.int .i64 0)])), none⟩,
    ⟨none, .store 4 (.t 13) (.t 23), none⟩] [1, 2, 3, 10, 11, 13, 18, 19, 20])
  (.seq (.seq (.ops [⟨(some 24), .fad 0 (.t 13), none⟩,
    ⟨(some 25), .load false 1 (.t 24), none⟩,
    ⟨(some 26), .mov (.t 1), none⟩,
    ⟨(some 27), .bin .neq (.t 25) (.t 26), none⟩,
    ⟨(some 28), .mov (.t 27), none⟩,
    ⟨(some 29), .fad 1 (.t 13), (some (28, false))⟩,
    ⟨(some 30), .load false 1 (.t 29), (some (28, false))⟩,
    ⟨(some 31), .mov (.t 2), (some (28, false))⟩,
    ⟨(some 32), .bin .gtr (.t 30) (.t 31), (some (28, false))⟩,
    ⟨(some 33), .pick (.t 28) (.c (.s (.bool true))) (.t 32), none⟩,
    ⟨(some 34), .mov (.t 33), none⟩,
    ⟨(some 35), .fad 3 (.t 13), (some (34, false))⟩,
    ⟨(some 36), .load false 1 (.t 35), (some (34, false))⟩,
    ⟨(some 37), .mov (.t 3), (some (34, false))⟩,
    ⟨(some 38), .bin .gtr (.t 36) (.t 37), (some (34, false))⟩,
    ⟨(some 39), .pick (.t 34) (.c (.s (.bool true))) (.t 38), none⟩] [1, 2, 3, 10, 11, 13, 18, 19, 20, 39])
  (.cond (.t 39) (.exit 1 [1, 2, 3, 10, 11, 18, 19, 20])
  .skip))
  (.seq (.ops [⟨(some 40), .mov (.t 11), none⟩,
    ⟨(some 41), .un .not (.t 40), none⟩,
    ⟨(some 42), .mov (.t 41), none⟩,
    ⟨(some 43), .fad 1 (.t 13), (some (42, false))⟩,
    ⟨(some 44), .load false 1 (.t 43), (some (42, false))⟩,
    ⟨(some 45), .fad 1 (.t 10), (some (42, false))⟩,
    ⟨(some 46), .load false 1 (.t 45), (some (42, false))⟩,
    ⟨(some 47), .bin .gtr (.t 44) (.t 46), (some (42, false))⟩,
    ⟨(some 48), .pick (.t 42) (.c (.s (.bool true))) (.t 47), none⟩,
    ⟨(some 49), .mov (.t 48), none⟩,
    ⟨(some 50), .fad 1 (.t 13), (some (49, false))⟩,
    ⟨(some 51), .load false 1 (.t 50), (some (49, false))⟩,
    ⟨(some 52), .fad 1 (.t 10), (some (49, false))⟩,
    ⟨(some 53), .load false 1 (.t 52), (some (49, false))⟩,
    ⟨(some 54), .bin .eql (.t 51) (.t 53), (some (49, false))⟩,
    ⟨(some 55), .mov (.t 54), (some (49, false))⟩,
    ⟨(some 56), .fad 3 (.t 13), (some (55, true))⟩,
    ⟨(some 57), .load false 1 (.t 56), (some (55, true))⟩,
    ⟨(some 58), .fad 3 (.t 10), (some (55, true))⟩,
    ⟨(some 59), .load false 1 (.t 58), (some (55, true))⟩,
    ⟨(some 60), .bin .gtr (.t 57) (.t 59), (some (55, true))⟩,
    ⟨(some 61), .pick (.t 55) (.t 60) (.c (.s (.bool false))), (some (49, false))⟩,
    ⟨(some 62), .pick (.t 49) (.c (.s (.bool true))) (.t 61), none⟩] [1, 2, 3, 10, 11, 13, 18, 19, 20, 62])
  (.cond (.t 62) (.ops [⟨(some 63), .load true 4 (.t 13), none⟩,
    ⟨none, .store 4 (.t 10) (.t 63), none⟩,
    ⟨(some 11), .mov (.c (.s (.bool true))), none⟩] [1, 2, 3, 10, 11, 18, 19, 20])
  .skip)))))
  (.ops [⟨(some 64), .bin .add (.t 20) (.c (.s (.int .i64 1))), none⟩,
    ⟨(some 20), .mov (.t 64), none⟩] [1, 2, 3, 10, 11, 18, 19, 20]))
def l33_0_1 : EC := (.seq (.cond (.t 21) .skip
  (.exit 0 [10, 11]))
  l33_0_2)
def l33_0 : EC := (.seq (.ops [⟨(some 21), .bin .lss (.t 20) (.t 19), none⟩] [1, 2, 3, 10, 11, 18, 19, 20, 21])
  l33_0_1)
def s33_3 : EC := (.seq (.ops [⟨(some 65), .fad 2 (.t 10), none⟩,
    ⟨(some 66), .load false 1 (.t 65), none⟩,
    ⟨(some 67), .mov (.t 11), none⟩,
    ⟨(some 8), .mov (.t 66), none⟩,
    ⟨(some 9), .mov (.t 67), none⟩] [8, 9])
  (.ret [8, 9]))
def s33_2 : EC := (.seq (.seq (.ops [⟨(some 15), .mov (.t 0), none⟩,
    ⟨(some 16), .nilc (.t 15), none⟩,
    ⟨(some 17), .fad 0 (.t 16), none⟩,
    ⟨(some 18), .load false 1 (.t 17), none⟩,
    ⟨(some 19), .len (.t 18), none⟩,
    ⟨(some 20), .mov (.c (.s (.int .i64 0))), none⟩] [1, 2, 3, 10, 11, 18, 19, 20])
  (.block 0 (.loop [1, 2, 3, 10, 11, 18, 19, 20] l33_0)))
  s33_3)
def s33_1 : EC := (.seq (.ops [⟨(some 14), .build [(.str ⟨#[]⟩), (.int .i64 0), (.int .i64 0), (.int .i64 0)] [], none⟩,
    ⟨(some 10), .new 63 4 (.c (.agg [(.str ⟨#[]⟩), (.int .i64 0), (.int .i64 0), (.int .i64 0)])), none⟩,
    ⟨none, .store 4 (.t 10) (.t 14), none⟩,
    ⟨(some 11), .mov (.c (.s (.bool false))), none⟩] [0, 1, 2, 3, 10, 11])
  s33_2)
def b33 : EC := (.seq (.ops [⟨(some 8), .mov (.c (.s (.int .i64 0))), none⟩,
    ⟨(some 9), .mov (.c (.s (.bool false))), none⟩] [0, 1, 2, 3])
  s33_1)
def e33 : EF := ⟨68, b33, [.tmp 8, .tmp 9]⟩

/-- scutage/scutagelaw09.wakes -/
def h34 : List (List Nat) := [[], [1], [1, 6], [0], [0], [1, 3], [0], [0]]
def s34_4 : EC := (.seq (.ops [⟨(some 12), .mov (.t 3), none⟩,
    ⟨(some 13), .un .not (.t 12), none⟩,
    ⟨(some 14), .mov (.t 13), none⟩,
    ⟨(some 15), .mov (.t 1), (some (14, true))⟩,
    ⟨(some 16), .call 18 [(.t 15), (.c (.s (.str ⟨#[117, 107]⟩))), (.c (.s (.int .i64 2))), (.c (.s (.int .i64 250000))), (.c (.s (.int .i64 3)))], (some (14, true))⟩,
    ⟨(some 17), .bin .eql (.t 16) (.c (.s (.int .i64 0))), (some (14, true))⟩,
    ⟨(some 18), .pick (.t 14) (.t 17) (.c (.s (.bool false))), none⟩,
    ⟨(some 19), .mov (.t 18), none⟩,
    ⟨(some 20), .mov (.t 1), (some (19, true))⟩,
    ⟨(some 21), .call 32 [(.t 20)], (some (19, true))⟩,
    ⟨(some 22), .len (.t 21), (some (19, true))⟩,
    ⟨(some 23), .bin .eql (.t 22) (.c (.s (.int .i64 1))), (some (19, true))⟩,
    ⟨(some 24), .pick (.t 19) (.t 23) (.c (.s (.bool false))), none⟩,
    ⟨(some 0), .mov (.t 24), none⟩] [0])
  (.ret [0]))
def s34_3 : EC := (.seq (.ops [⟨(some 8), .mov (.t 1), none⟩,
    ⟨(some 9), .call 33 [(.t 8), (.c (.s (.str ⟨#[117, 107]⟩))), (.c (.s (.int .i64 5))), (.c (.s (.int .i64 5)))], none⟩,
    ⟨(some 7), .mov (.t 9), none⟩,
    ⟨(some 10), .ext (.t 7) 0, none⟩,
    ⟨(some 11), .ext (.t 7) 1, none⟩,
    ⟨(some 2), .mov (.t 10), none⟩,
    ⟨(some 3), .mov (.t 11), none⟩] [1, 3])
  s34_4)
def s34_2 : EC := (.seq (.seq (.ops [⟨(some 5), .mov (.t 1), none⟩,
    ⟨(some 6), .eqp false (.t 5) (.c (.s .nilp)), none⟩] [1, 6])
  (.cond (.t 6) (.seq (.ops [⟨(some 0), .mov (.c (.s (.bool false))), none⟩] [0])
  (.ret [0]))
  .skip))
  s34_3)
def s34_1 : EC := (.seq (.ops [⟨(some 4), .call 17 [], none⟩,
    ⟨(some 1), .mov (.t 4), none⟩] [1])
  s34_2)
def b34 : EC := (.seq (.ops [⟨(some 0), .mov (.c (.s (.bool false))), none⟩] [])
  s34_1)
def e34 : EF := ⟨25, b34, [.tmp 0]⟩

/-- (*scutage/enact.Table).Clone -/
def h35 : List (List Nat) := [[0], [2], [2]]
def s35_1 : EC := (.seq (.ops [⟨(some 3), .mov (.t 0), none⟩,
    ⟨(some 4), .call 32 [(.t 3)], none⟩,
    ⟨(some 5), .build [.nils] [(0, 1, (.t 4))], none⟩,
    ⟨(some 6), .new 79 1 (.t 5), none⟩,
    ⟨(some 2), .mov (.t 6), none⟩] [2])
  (.ret [2]))
def b35 : EC := (.seq (.ops [⟨(some 2), .mov (.c (.s .nilp)), none⟩] [0])
  s35_1)
def e35 : EF := ⟨7, b35, [.tmp 2]⟩

/-- (*scutage/scutageref09.Table).Rate -/
def h36 : List (List Nat) := [[0, 1, 2, 3], [0, 1, 2, 3, 10], [0, 1, 2, 3, 10, 16, 17, 18], [0, 1, 2, 3, 10, 16, 17, 18], [0, 1, 2, 3, 10, 16, 17, 18, 19], [0, 10], [0, 1, 2, 3, 10, 11, 12, 16, 17, 18], [0, 1, 2, 3, 10, 11, 12, 16, 17, 18, 38], [0, 1, 2, 3, 10, 16, 17, 18], [0, 1, 2, 3, 10, 11, 16, 17, 18, 79], [0, 1, 2, 3, 10, 16, 17, 18], [0, 1, 2, 3, 10, 16, 17, 18], [0, 10, 83], [8, 9], [8, 9], [8, 9], [8, 9]]
def l36_0_2 : EC := (.seq (.block 1 (.seq (.ops [⟨(some 20), .mov (.t 18), none⟩,
    ⟨(some 21), .iad 73 4 (.t 16) (.t 18), none⟩,
    ⟨(some 22), .load true 4 (.t 21), none⟩,
    ⟨(some 12), .new 73 4 (.c (.agg [(.str ⟨#[]⟩), (.int .i64 0), (.int .i64 0), (.int .i64 0)])), none⟩,
    ⟨(some 11), .mov (.t 20), none⟩,
    ⟨none, .store 4 (.t 12) (.t 22), none⟩] [0, 1, 2, 3, 10, 11, 12, 16, 17, 18])
  (.seq (.seq (.ops [⟨(some 23), .fad 0 (.t 12), none⟩,
    ⟨(some 24), .load false 1 (.t 23), none⟩,
    ⟨(some 25), .mov (.t 1), none⟩,
    ⟨(some 26), .bin .neq (.t 24) (.t 25), none⟩,
    ⟨(some 27), .mov (.t 26), none⟩,
    ⟨(some 28), .fad 3 (.t 12), (some (27, false))⟩,
    ⟨(some 29), .load false 1 (.t 28), (some (27, false))⟩,
    ⟨(some 30), .mov (.t 3), (some (27, false))⟩,
    ⟨(some 31), .bin .gtr (.t 29) (.t 30), (some (27, false))⟩,
    ⟨(some 32), .pick (.t 27) (.c (.s (.bool true))) (.t 31), none⟩,
    ⟨(some 33), .mov (.t 32), none⟩,
    ⟨(some 34), .fad 1 (.t 12), (some (33, false))⟩,
    ⟨(some 35), .load false 1 (.t 34), (some (33, false))⟩,
    ⟨(some 36), .mov (.t 2), (some (33, false))⟩,
    ⟨(some 37), .bin .gtr (.t 35) (.t 36), (some (33, false))⟩,
    ⟨(some 38), .pick (.t 33) (.c (.s (.bool true))) (.t 37), none⟩] [0, 1, 2, 3, 10, 11, 12, 16, 17, 18, 38])
  (.cond (.t 38) (.exit 1 [0, 1, 2, 3, 10, 16, 17, 18])
  .skip))
  (.seq (.draw [⟨(some 39), .mov (.t 10), none⟩,
    ⟨(some 40), .bin .lss (.t 39) (.c (.s (.int .i64 0))), none⟩,
    ⟨(some 41), .mov (.t 40), none⟩,
    ⟨(some 42), .fad 1 (.t 12), (some (41, false))⟩,
    ⟨(some 43), .load false 1 (.t 42), (some (41, false))⟩,
    ⟨(some 44), .mov (.t 0), (some (41, false))⟩,
    ⟨(some 45), .nilc (.t 44), (some (41, false))⟩,
    ⟨(some 46), .fad 0 (.t 45), (some (41, false))⟩,
    ⟨(some 47), .load false 1 (.t 46), (some (41, false))⟩,
    ⟨(some 48), .mov (.t 10), (some (41, false))⟩,
    ⟨(some 49), .iad 73 4 (.t 47) (.t 48), (some (41, false))⟩,
    ⟨(some 50), .fad 1 (.t 49), (some (41, false))⟩,
    ⟨(some 51), .load false 1 (.t 50), (some (41, false))⟩,
    ⟨(some 52), .bin .gtr (.t 43) (.t 51), (some (41, false))⟩,
    ⟨(some 53), .pick (.t 41) (.c (.s (.bool true))) (.t 52), none⟩,
    ⟨(some 54), .mov (.t 53), none⟩,
    ⟨(some 55), .fad 1 (.t 12), (some (54, false))⟩,
    ⟨(some 56), .load false 1 (.t 55), (some (54, false))⟩,
    ⟨(some 57), .mov (.t 0), (some (54, false))⟩,
    ⟨(some 58), .nilc (.t 57), (some (54, false))⟩,
    ⟨(some 59), .fad 0 (.t 58), (some (54, false))⟩,
    ⟨(some 60), .load false 1 (.t 59), (some (54, false))⟩,
    ⟨(some 61), .mov (.t 10), (some (54, false))⟩,
    ⟨(some 62), .iad 73 4 (.t 60) (.t 61), (some (54, false))⟩,
    ⟨(some 63), .fad 1 (.t 62), (some (54, false))⟩,
    ⟨(some 64), .load false 1 (.t 63), (some (54, false))⟩,
    ⟨(some 65), .bin .eql (.t 56) (.t 64), (some (54, false))⟩,
    ⟨(some 66), .mov (.t 65), (some (54, false))⟩,
    ⟨(some 67), .fad 3 (.t 12), (some (66, true))⟩,
    ⟨(some 68), .load false 1 (.t 67), (some (66, true))⟩,
    ⟨(some 69), .mov (.t 0), (some (66, true))⟩,
    ⟨(some 70), .nilc (.t 69), (some (66, true))⟩,
    ⟨(some 71), .fad 0 (.t 70), (some (66, true))⟩,
    ⟨(some 72), .load false 1 (.t 71), (some (66, true))⟩,
    ⟨(some 73), .mov (.t 10), (some (66, true))⟩,
    ⟨(some 74), .iad 73 4 (.t 72) (.t 73), (some (66, true))⟩,
    ⟨(some 75), .fad 3 (.t 74), (some (66, true))⟩,
    ⟨(some 76), .load false 1 (.t 75), (some (66, true))⟩,
    ⟨(some 77), .bin .gtr (.t 68) (.t 76), (some (66, true))⟩,
    ⟨(some 78), .pick (.t 66) (.t 77) (.c (.s (.bool false))), (some (54, false))⟩,
    ⟨(some 79), .pick (.t 54) (.c (.s (.bool true))) (.t 78), none⟩] [] [0, 1, 2, 3, 10, 11, 16, 17, 18, 79])
  (.cond (.t 79) (.ops [⟨(some 80), .mov (.t 11), none⟩,
    ⟨(some 10), .mov (.t 80), none⟩] [0, 1, 2, 3, 10, 16, 17, 18])
  .skip)))))
  (.ops [⟨(some 81), .bin .add (.t 18) (.c (.s (.int .i64 1))), none⟩,
    ⟨(some 18), .mov (.t 81), none⟩] [0, 1, 2, 3, 10, 16, 17, 18]))
def l36_0_1 : EC := (.seq (.cond (.t 19) .skip
  (.exit 0 [0, 10]))
  l36_0_2)
def l36_0 : EC := (.seq (.ops [⟨(some 19), .bin .lss (.t 18) (.t 17), none⟩] [0, 1, 2, 3, 10, 16, 17, 18, 19])
  l36_0_1)
def s36_4 : EC := (.seq (.ops [⟨(some 84), .mov (.t 0), none⟩,
    ⟨(some 85), .nilc (.t 84), none⟩,
    ⟨(some 86), .fad 0 (.t 85), none⟩,
    ⟨(some 87), .load false 1 (.t 86), none⟩,
    ⟨(some 88), .mov (.t 10), none⟩,
    ⟨(some 89), .iad 73 4 (.t 87) (.t 88), none⟩,
    ⟨(some 90), .fad 2 (.t 89), none⟩,
    ⟨(some 91), .load false 1 (.t 90), none⟩,
    ⟨(some 8), .mov (.t 91), none⟩,
    ⟨(some 9), .mov (.c (.s (.bool true))), none⟩] [8, 9])
  (.ret [8, 9]))
def s36_3 : EC := (.seq (.seq (.ops [⟨(some 82), .mov (.t 10), none⟩,
    ⟨(some 83), .bin .lss (.t 82) (.c (.s (.int .i64 0))), none⟩] [0, 10, 83])
  (.cond (.t 83) (.seq (.ops [⟨(some 8), .mov (.c (.s (.int .i64 0))), none⟩,
    ⟨(some 9), .mov (.c (.s (.bool false))), none⟩] [8, 9])
  (.ret [8, 9]))
  .skip))
  s36_4)
def s36_2 : EC := (.seq (.seq (.ops [⟨(some 13), .mov (.t 0), none⟩,
    ⟨(some 14), .nilc (.t 13), none⟩,
    ⟨(some 15), .fad 0 (.t 14), none⟩,
    ⟨(some 16), .load false 1 (.t 15), none⟩,
    ⟨(some 17), .len (.t 16), none⟩,
    ⟨(some 18), .mov (.c (.s (.int .i64 0))), none⟩] [0, 1, 2, 3, 10, 16, 17, 18])
  (.block 0 (.loop [0, 1, 2, 3, 10, 16, 17, 18] l36_0)))
  s36_3)
def s36_1 : EC := (.seq (.ops [⟨(some 10), .mov (.c (.s (.int .i64 (-1)))), none⟩] [0, 1, 2, 3, 10])
  s36_2)
def b36 : EC := (.seq (.ops [⟨(some 8), .mov (.c (.s (.int .i64 0))), none⟩,
    ⟨(some 9), .mov (.c (.s (.bool false))), none⟩] [0, 1, 2, 3])
  s36_1)
def e36 : EF := ⟨92, b36, [.tmp 8, .tmp 9]⟩

/-- (*scutage/scutageref09.Register).Move -/
def h37 : List (List Nat) := [[0, 1, 2, 3], [0, 1, 2, 3, 18], [8], [8], [0, 1, 2, 3, 34], [8], [8], [0, 1, 2, 3, 9], [0, 9], [0, 9, 52], [8], [8], [], [8], [8]]
def s37_7 : EC := (.seq (.ops [⟨(some 8), .mov (.c (.s (.int .i64 0))), none⟩] [8])
  (.ret [8]))
def s37_6 : EC := (.seq (.ops [⟨(some 53), .mov (.t 0), none⟩,
    ⟨(some 54), .mov (.t 9), none⟩,
    ⟨(some 55), .nilc (.t 54), none⟩,
    ⟨(some 56), .fad 0 (.t 55), none⟩,
    ⟨(some 57), .load false 1 (.t 56), none⟩,
    ⟨(some 58), .nilc (.t 53), none⟩,
    ⟨(some 59), .fad 0 (.t 58), none⟩,
    ⟨none, .store 1 (.t 59) (.t 57), none⟩] [])
  s37_7)
def s37_5 : EC := (.seq (.seq (.ops [⟨(some 47), .mov (.t 9), none⟩,
    ⟨(some 48), .nilc (.t 47), none⟩,
    ⟨(some 49), .fad 0 (.t 48), none⟩,
    ⟨(some 50), .load false 1 (.t 49), none⟩,
    ⟨(some 51), .len (.t 50), none⟩,
    ⟨(some 52), .bin .gtr (.t 51) (.c (.s (.int .i64 12))), none⟩] [0, 9, 52])
  (.cond (.t 52) (.seq (.ops [⟨(some 8), .mov (.c (.s (.int .i64 5))), none⟩] [8])
  (.ret [8]))
  .skip))
  s37_6)
def s37_4 : EC := (.seq (.ops [⟨(some 37), .mov (.t 9), none⟩,
    ⟨(some 38), .mov (.t 1), none⟩,
    ⟨(some 39), .mov (.t 2), none⟩,
    ⟨(some 40), .mov (.t 0), none⟩,
    ⟨(some 41), .mov (.t 1), none⟩,
    ⟨(some 42), .mov (.t 2), none⟩,
    ⟨(some 43), .call 52 [(.t 40), (.t 41), (.t 42)], none⟩,
    ⟨(some 44), .mov (.t 3), none⟩,
    ⟨(some 45), .bin .add (.t 43) (.t 44), none⟩,
    ⟨(some 46), .call 55 [(.t 37), (.t 38), (.t 39), (.t 45)], none⟩] [0, 9])
  s37_5)
def s37_3 : EC := (.seq (.ops [⟨(some 35), .mov (.t 0), none⟩,
    ⟨(some 36), .call 54 [(.t 35)], none⟩,
    ⟨(some 9), .mov (.t 36), none⟩] [0, 1, 2, 3, 9])
  s37_4)
def s37_2 : EC := (.seq (.seq (.ops [⟨(some 19), .mov (.t 0), none⟩,
    ⟨(some 20), .mov (.t 1), none⟩,
    ⟨(some 21), .mov (.t 2), none⟩,
    ⟨(some 22), .call 52 [(.t 19), (.t 20), (.t 21)], none⟩,
    ⟨(some 23), .mov (.t 3), none⟩,
    ⟨(some 24), .bin .add (.t 22) (.t 23), none⟩,
    ⟨(some 25), .call 48 [(.t 24)], none⟩,
    ⟨(some 26), .un .not (.t 25), none⟩,
    ⟨(some 27), .mov (.t 26), none⟩,
    ⟨(some 28), .mov (.t 0), (some (27, false))⟩,
    ⟨(some 29), .call 53 [(.t 28)], (some (27, false))⟩,
    ⟨(some 30), .mov (.t 3), (some (27, false))⟩,
    ⟨(some 31), .bin .add (.t 29) (.t 30), (some (27, false))⟩,
    ⟨(some 32), .call 48 [(.t 31)], (some (27, false))⟩,
    ⟨(some 33), .un .not (.t 32), (some (27, false))⟩,
    ⟨(some 34), .pick (.t 27) (.c (.s (.bool true))) (.t 33), none⟩] [0, 1, 2, 3, 34])
  (.cond (.t 34) (.seq (.ops [⟨(some 8), .mov (.c (.s (.int .i64 6))), none⟩] [8])
  (.ret [8]))
  .skip))
  s37_3)
def s37_1 : EC := (.seq (.seq (.ops [⟨(some 10), .mov (.t 1), none⟩,
    ⟨(some 11), .mov (.t 2), none⟩,
    ⟨(some 12), .call 51 [(.t 10), (.t 11)], none⟩,
    ⟨(some 13), .un .not (.t 12), none⟩,
    ⟨(some 14), .mov (.t 13), none⟩,
    ⟨(some 15), .mov (.t 3), (some (14, false))⟩,
    ⟨(some 16), .call 48 [(.t 15)], (some (14, false))⟩,
    ⟨(some 17), .un .not (.t 16), (some (14, false))⟩,
    ⟨(some 18), .pick (.t 14) (.c (.s (.bool true))) (.t 17), none⟩] [0, 1, 2, 3, 18])
  (.cond (.t 18) (.seq (.ops [⟨(some 8), .mov (.c (.s (.int .i64 1))), none⟩] [8])
  (.ret [8]))
  .skip))
  s37_2)
def b37 : EC := (.seq (.ops [⟨(some 8), .mov (.c (.s (.int .i64 0))), none⟩] [0, 1, 2, 3])
  s37_1)
def e37 : EF := ⟨60, b37, [.tmp 8]⟩

/-- scutage/rate.Right -/
def h38 : List (List Nat) := [[0], [2], [2]]
def s38_1 : EC := (.seq (.ops [⟨(some 3), .mov (.t 0), none⟩,
    ⟨(some 4), .bin .geq (.t 3) (.c (.s (.int .i64 0))), none⟩,
    ⟨(some 5), .mov (.t 4), none⟩,
    ⟨(some 6), .mov (.t 0), (some (5, true))⟩,
    ⟨(some 7), .bin .leq (.t 6) (.c (.s (.int .i64 1000000))), (some (5, true))⟩,
    ⟨(some 8), .pick (.t 5) (.t 7) (.c (.s (.bool false))), none⟩,
    ⟨(some 2), .mov (.t 8), none⟩] [2])
  (.ret [2]))
def b38 : EC := (.seq (.ops [⟨(some 2), .mov (.c (.s (.bool false))), none⟩] [0])
  s38_1)
def e38 : EF := ⟨9, b38, [.tmp 2]⟩

/-- scutage/rate.Money -/
def h39 : List (List Nat) := [[0], [2], [2]]
def s39_1 : EC := (.seq (.ops [⟨(some 3), .mov (.t 0), none⟩,
    ⟨(some 4), .bin .geq (.t 3) (.c (.s (.int .i64 (-100000000000)))), none⟩,
    ⟨(some 5), .mov (.t 4), none⟩,
    ⟨(some 6), .mov (.t 0), (some (5, true))⟩,
    ⟨(some 7), .bin .leq (.t 6) (.c (.s (.int .i64 100000000000))), (some (5, true))⟩,
    ⟨(some 8), .pick (.t 5) (.t 7) (.c (.s (.bool false))), none⟩,
    ⟨(some 2), .mov (.t 8), none⟩] [2])
  (.ret [2]))
def b39 : EC := (.seq (.ops [⟨(some 2), .mov (.c (.s (.bool false))), none⟩] [0])
  s39_1)
def e39 : EF := ⟨9, b39, [.tmp 2]⟩

/-- scutage/rate.Of -/
def h40 : List (List Nat) := [[0, 1], [0, 1, 20], [4, 5], [4, 5], [0, 6], [6, 26], [4, 5], [4, 5], [4, 5], [4, 5]]
def s40_4 : EC := (.seq (.ops [⟨(some 30), .mov (.t 6), none⟩,
    ⟨(some 31), .bin .add (.t 30) (.c (.s (.int .i64 1000000))), none⟩,
    ⟨(some 32), .bin .quo (.t 31) (.c (.s (.int .i64 2000000))), none⟩,
    ⟨(some 4), .mov (.t 32), none⟩,
    ⟨(some 5), .mov (.c (.s (.bool true))), none⟩] [4, 5])
  (.ret [4, 5]))
def s40_3 : EC := (.seq (.seq (.ops [⟨(some 25), .mov (.t 0), none⟩,
    ⟨(some 26), .bin .lss (.t 25) (.c (.s (.int .i64 0))), none⟩] [6, 26])
  (.cond (.t 26) (.seq (.ops [⟨(some 27), .mov (.t 6), none⟩,
    ⟨(some 28), .bin .sub (.t 27) (.c (.s (.int .i64 1000000))), none⟩,
    ⟨(some 29), .bin .quo (.t 28) (.c (.s (.int .i64 2000000))), none⟩,
    ⟨(some 4), .mov (.t 29), none⟩,
    ⟨(some 5), .mov (.c (.s (.bool true))), none⟩] [4, 5])
  (.ret [4, 5]))
  .skip))
  s40_4)
def s40_2 : EC := (.seq (.ops [⟨(some 21), .mov (.t 0), none⟩,
    ⟨(some 22), .bin .mul (.c (.s (.int .i64 2))) (.t 21), none⟩,
    ⟨(some 23), .mov (.t 1), none⟩,
    ⟨(some 24), .bin .mul (.t 22) (.t 23), none⟩,
    ⟨(some 6), .mov (.t 24), none⟩] [0, 6])
  s40_3)
def s40_1 : EC := (.seq (.seq (.ops [⟨(some 7), .mov (.t 0), none⟩,
    ⟨(some 8), .bin .lss (.t 7) (.c (.s (.int .i64 (-400000000000)))), none⟩,
    ⟨(some 9), .mov (.t 8), none⟩,
    ⟨(some 10), .mov (.t 0), (some (9, false))⟩,
    ⟨(some 11), .bin .gtr (.t 10) (.c (.s (.int .i64 400000000000))), (some (9, false))⟩,
    ⟨(some 12), .pick (.t 9) (.c (.s (.bool true))) (.t 11), none⟩,
    ⟨(some 13), .mov (.t 12), none⟩,
    ⟨(some 14), .mov (.t 1), (some (13, false))⟩,
    ⟨(some 15), .bin .lss (.t 14) (.c (.s (.int .i64 0))), (some (13, false))⟩,
    ⟨(some 16), .pick (.t 13) (.c (.s (.bool true))) (.t 15), none⟩,
    ⟨(some 17), .mov (.t 16), none⟩,
    ⟨(some 18), .mov (.t 1), (some (17, false))⟩,
    ⟨(some 19), .bin .gtr (.t 18) (.c (.s (.int .i64 10000000))), (some (17, false))⟩,
    ⟨(some 20), .pick (.t 17) (.c (.s (.bool true))) (.t 19), none⟩] [0, 1, 20])
  (.cond (.t 20) (.seq (.ops [⟨(some 4), .mov (.c (.s (.int .i64 0))), none⟩,
    ⟨(some 5), .mov (.c (.s (.bool false))), none⟩] [4, 5])
  (.ret [4, 5]))
  .skip))
  s40_2)
def b40 : EC := (.seq (.ops [⟨(some 4), .mov (.c (.s (.int .i64 0))), none⟩,
    ⟨(some 5), .mov (.c (.s (.bool false))), none⟩] [0, 1])
  s40_1)
def e40 : EF := ⟨33, b40, [.tmp 4, .tmp 5]⟩

/-- (*scutage/enact.Table).Add$1 -/
def h41 : List (List Nat) := [[1, 2, 3, 4], [5], [5]]
def s41_1 : EC := (.seq (.ops [⟨(some 6), .fad 0 (.t 4), none⟩,
    ⟨(some 7), .load false 1 (.t 6), none⟩,
    ⟨(some 8), .load false 1 (.t 1), none⟩,
    ⟨(some 9), .bin .eql (.t 7) (.t 8), none⟩,
    ⟨(some 10), .mov (.t 9), none⟩,
    ⟨(some 11), .fad 1 (.t 4), (some (10, true))⟩,
    ⟨(some 12), .load false 1 (.t 11), (some (10, true))⟩,
    ⟨(some 13), .load false 1 (.t 2), (some (10, true))⟩,
    ⟨(some 14), .bin .eql (.t 12) (.t 13), (some (10, true))⟩,
    ⟨(some 15), .pick (.t 10) (.t 14) (.c (.s (.bool false))), none⟩,
    ⟨(some 16), .mov (.t 15), none⟩,
    ⟨(some 17), .fad 3 (.t 4), (some (16, true))⟩,
    ⟨(some 18), .load false 1 (.t 17), (some (16, true))⟩,
    ⟨(some 19), .load false 1 (.t 3), (some (16, true))⟩,
    ⟨(some 20), .bin .eql (.t 18) (.t 19), (some (16, true))⟩,
    ⟨(some 21), .pick (.t 16) (.t 20) (.c (.s (.bool false))), none⟩,
    ⟨(some 5), .mov (.t 21), none⟩] [5])
  (.ret [5]))
def b41 : EC := (.seq (.ops [⟨(some 4), .new 63 4 (.t 0), none⟩,
    ⟨(some 5), .mov (.c (.s (.bool false))), none⟩] [1, 2, 3, 4])
  s41_1)
def e41 : EF := ⟨22, b41, [.tmp 5]⟩

/-- scutage/period.Right -/
def h42 : List (List Nat) := [[0], [2], [2]]
def s42_1 : EC := (.seq (.ops [⟨(some 3), .mov (.t 0), none⟩,
    ⟨(some 4), .bin .geq (.t 3) (.c (.s (.int .i64 0))), none⟩,
    ⟨(some 5), .mov (.t 4), none⟩,
    ⟨(some 6), .mov (.t 0), (some (5, true))⟩,
    ⟨(some 7), .bin .leq (.t 6) (.c (.s (.int .i64 399))), (some (5, true))⟩,
    ⟨(some 8), .pick (.t 5) (.t 7) (.c (.s (.bool false))), none⟩,
    ⟨(some 2), .mov (.t 8), none⟩] [2])
  (.ret [2]))
def b42 : EC := (.seq (.ops [⟨(some 2), .mov (.c (.s (.bool false))), none⟩] [0])
  s42_1)
def e42 : EF := ⟨9, b42, [.tmp 2]⟩

/-- slices.ContainsFunc[[]scutage/enact.Row,scutage/enact.Row] -/
def h43 : List (List Nat) := [[0, 1], [4], [4]]
def s43_1 : EC := (.seq (.ops [⟨(some 5), .mov (.t 0), none⟩,
    ⟨(some 6), .mov (.t 1), none⟩,
    ⟨(some 7), .call 56 [(.t 5), (.t 6)], none⟩,
    ⟨(some 8), .bin .geq (.t 7) (.c (.s (.int .i64 0))), none⟩,
    ⟨(some 4), .mov (.t 8), none⟩] [4])
  (.ret [4]))
def b43 : EC := (.seq (.ops [⟨(some 4), .mov (.c (.s (.bool false))), none⟩] [0, 1])
  s43_1)
def e43 : EF := ⟨9, b43, [.tmp 4]⟩

/-- scutage/period.Year -/
def h44 : List (List Nat) := [[0], [0, 5], [2], [2], [2], [2]]
def s44_2 : EC := (.seq (.ops [⟨(some 6), .mov (.t 0), none⟩,
    ⟨(some 7), .bin .quo (.t 6) (.c (.s (.int .i64 4))), none⟩,
    ⟨(some 2), .mov (.t 7), none⟩] [2])
  (.ret [2]))
def s44_1 : EC := (.seq (.seq (.ops [⟨(some 3), .mov (.t 0), none⟩,
    ⟨(some 4), .call 42 [(.t 3)], none⟩,
    ⟨(some 5), .un .not (.t 4), none⟩] [0, 5])
  (.cond (.t 5) (.seq (.ops [⟨(some 2), .mov (.c (.s (.int .i64 (-1)))), none⟩] [2])
  (.ret [2]))
  .skip))
  s44_2)
def b44 : EC := (.seq (.ops [⟨(some 2), .mov (.c (.s (.int .i64 0))), none⟩] [0])
  s44_1)
def e44 : EF := ⟨8, b44, [.tmp 2]⟩

/-- scutage/scutageref09.Year -/
def h45 : List (List Nat) := [[0], [2], [2]]
def s45_1 : EC := (.seq (.ops [⟨(some 3), .mov (.t 0), none⟩,
    ⟨(some 4), .bin .geq (.t 3) (.c (.s (.int .i64 0))), none⟩,
    ⟨(some 5), .mov (.t 4), none⟩,
    ⟨(some 6), .mov (.t 0), (some (5, true))⟩,
    ⟨(some 7), .bin .leq (.t 6) (.c (.s (.int .i64 99))), (some (5, true))⟩,
    ⟨(some 8), .pick (.t 5) (.t 7) (.c (.s (.bool false))), none⟩,
    ⟨(some 2), .mov (.t 8), none⟩] [2])
  (.ret [2]))
def b45 : EC := (.seq (.ops [⟨(some 2), .mov (.c (.s (.bool false))), none⟩] [0])
  s45_1)
def e45 : EF := ⟨9, b45, [.tmp 2]⟩

/-- scutage/scutageref01.Right -/
def h46 : List (List Nat) := [[0], [2], [2]]
def s46_1 : EC := (.seq (.ops [⟨(some 3), .mov (.t 0), none⟩,
    ⟨(some 4), .bin .geq (.t 3) (.c (.s (.int .i64 0))), none⟩,
    ⟨(some 5), .mov (.t 4), none⟩,
    ⟨(some 6), .mov (.t 0), (some (5, true))⟩,
    ⟨(some 7), .bin .leq (.t 6) (.c (.s (.int .i64 1000000))), (some (5, true))⟩,
    ⟨(some 8), .pick (.t 5) (.t 7) (.c (.s (.bool false))), none⟩,
    ⟨(some 2), .mov (.t 8), none⟩] [2])
  (.ret [2]))
def b46 : EC := (.seq (.ops [⟨(some 2), .mov (.c (.s (.bool false))), none⟩] [0])
  s46_1)
def e46 : EF := ⟨9, b46, [.tmp 2]⟩

/-- scutage/scutageref01.Period -/
def h47 : List (List Nat) := [[0], [2], [2]]
def s47_1 : EC := (.seq (.ops [⟨(some 3), .mov (.t 0), none⟩,
    ⟨(some 4), .bin .geq (.t 3) (.c (.s (.int .i64 0))), none⟩,
    ⟨(some 5), .mov (.t 4), none⟩,
    ⟨(some 6), .mov (.t 0), (some (5, true))⟩,
    ⟨(some 7), .bin .leq (.t 6) (.c (.s (.int .i64 399))), (some (5, true))⟩,
    ⟨(some 8), .pick (.t 5) (.t 7) (.c (.s (.bool false))), none⟩,
    ⟨(some 2), .mov (.t 8), none⟩] [2])
  (.ret [2]))
def b47 : EC := (.seq (.ops [⟨(some 2), .mov (.c (.s (.bool false))), none⟩] [0])
  s47_1)
def e47 : EF := ⟨9, b47, [.tmp 2]⟩

/-- scutage/scutageref01.Money -/
def h48 : List (List Nat) := [[0], [2], [2]]
def s48_1 : EC := (.seq (.ops [⟨(some 3), .mov (.t 0), none⟩,
    ⟨(some 4), .bin .geq (.t 3) (.c (.s (.int .i64 (-100000000000)))), none⟩,
    ⟨(some 5), .mov (.t 4), none⟩,
    ⟨(some 6), .mov (.t 0), (some (5, true))⟩,
    ⟨(some 7), .bin .leq (.t 6) (.c (.s (.int .i64 100000000000))), (some (5, true))⟩,
    ⟨(some 8), .pick (.t 5) (.t 7) (.c (.s (.bool false))), none⟩,
    ⟨(some 2), .mov (.t 8), none⟩] [2])
  (.ret [2]))
def b48 : EC := (.seq (.ops [⟨(some 2), .mov (.c (.s (.bool false))), none⟩] [0])
  s48_1)
def e48 : EF := ⟨9, b48, [.tmp 2]⟩

/-- scutage/scutageref01.Part -/
def h49 : List (List Nat) := [[0, 1], [5], [4], [4]]
def s49_2 : EC := (.seq (.ops [⟨(some 13), .mov (.t 5), none⟩,
    ⟨(some 4), .mov (.t 13), none⟩] [4])
  (.ret [4]))
def s49_1 : EC := (.seq (.ops [⟨(some 8), .mov (.t 0), none⟩,
    ⟨(some 9), .mov (.t 1), none⟩,
    ⟨(some 10), .call 57 [(.t 8), (.t 9)], none⟩,
    ⟨(some 7), .mov (.t 10), none⟩,
    ⟨(some 11), .ext (.t 7) 0, none⟩,
    ⟨(some 12), .ext (.t 7) 1, none⟩,
    ⟨(some 5), .mov (.t 11), none⟩,
    ⟨(some 6), .mov (.t 12), none⟩] [5])
  s49_2)
def b49 : EC := (.seq (.ops [⟨(some 4), .mov (.c (.s (.int .i64 0))), none⟩] [0, 1])
  s49_1)
def e49 : EF := ⟨14, b49, [.tmp 4]⟩

/-- slices.Clone[[]scutage/enact.Row,scutage/enact.Row] -/
def h50 : List (List Nat) := [[0], [0, 4], [2], [2], [2], [2]]
def s50_2 : EC := (.seq (.ops [⟨(some 5), .bsl 63 0 [(.str ⟨#[]⟩), (.int .i64 0), (.int .i64 0), (.int .i64 0)] [], none⟩,
    ⟨(some 6), .mov (.t 0), none⟩,
    ⟨(some 7), .app 63 4 40 (.t 5) (.t 6), none⟩,
    ⟨(some 2), .mov (.t 7), none⟩] [2])
  (.ret [2]))
def s50_1 : EC := (.seq (.seq (.ops [⟨(some 3), .mov (.t 0), none⟩,
    ⟨(some 4), .eqn false (.t 3) (.c (.s .nils)), none⟩] [0, 4])
  (.cond (.t 4) (.seq (.ops [⟨(some 2), .mov (.c (.s .nils)), none⟩] [2])
  (.ret [2]))
  .skip))
  s50_2)
def b50 : EC := (.seq (.ops [⟨(some 2), .mov (.c (.s .nils)), none⟩] [0])
  s50_1)
def e50 : EF := ⟨8, b50, [.tmp 2]⟩

/-- scutage/scutageref09.Bucket -/
def h51 : List (List Nat) := [[0, 1], [4], [4]]
def s51_1 : EC := (.seq (.ops [⟨(some 5), .mov (.t 0), none⟩,
    ⟨(some 6), .bin .geq (.t 5) (.c (.s (.int .i64 1))), none⟩,
    ⟨(some 7), .mov (.t 6), none⟩,
    ⟨(some 8), .mov (.t 0), (some (7, true))⟩,
    ⟨(some 9), .bin .leq (.t 8) (.c (.s (.int .i64 9))), (some (7, true))⟩,
    ⟨(some 10), .pick (.t 7) (.t 9) (.c (.s (.bool false))), none⟩,
    ⟨(some 11), .mov (.t 10), none⟩,
    ⟨(some 12), .mov (.t 1), (some (11, true))⟩,
    ⟨(some 13), .call 45 [(.t 12)], (some (11, true))⟩,
    ⟨(some 14), .pick (.t 11) (.t 13) (.c (.s (.bool false))), none⟩,
    ⟨(some 4), .mov (.t 14), none⟩] [4])
  (.ret [4]))
def b51 : EC := (.seq (.ops [⟨(some 4), .mov (.c (.s (.bool false))), none⟩] [0, 1])
  s51_1)
def e51 : EF := ⟨15, b51, [.tmp 4]⟩

/-- (*scutage/scutageref09.Register).Get -/
def h52 : List (List Nat) := [[0, 1, 2], [1, 2, 12, 13, 14], [1, 2, 12, 13, 14], [1, 2, 12, 13, 14, 15], [], [1, 2, 8, 12, 13, 14], [1, 2, 8, 12, 13, 14, 27], [6], [6], [1, 2, 12, 13, 14], [6], [6]]
def l52_0_2 : EC := (.seq (.block 1 (.seq (.ops [⟨(some 16), .iad 30 3 (.t 12) (.t 14), none⟩,
    ⟨(some 17), .load true 3 (.t 16), none⟩,
    ⟨(some 8), .new 30 3 (.c (.agg [(.int .i64 0), (.int .i64 0), (.int .i64 0)])), none⟩,
    ⟨none, .store 3 (.t 8) (.t 17), none⟩] [1, 2, 8, 12, 13, 14])
  (.seq (.ops [⟨(some 18), .fad 0 (.t 8), none⟩,
    ⟨(some 19), .load false 1 (.t 18), none⟩,
    ⟨(some 20), .mov (.t 1), none⟩,
    ⟨(some 21), .bin .eql (.t 19) (.t 20), none⟩,
    ⟨(some 22), .mov (.t 21), none⟩,
    ⟨(some 23), .fad 1 (.t 8), (some (22, true))⟩,
    ⟨(some 24), .load false 1 (.t 23), (some (22, true))⟩,
    ⟨(some 25), .mov (.t 2), (some (22, true))⟩,
    ⟨(some 26), .bin .eql (.t 24) (.t 25), (some (22, true))⟩,
    ⟨(some 27), .pick (.t 22) (.t 26) (.c (.s (.bool false))), none⟩] [1, 2, 8, 12, 13, 14, 27])
  (.cond (.t 27) (.seq (.ops [⟨(some 28), .fad 2 (.t 8), none⟩,
    ⟨(some 29), .load false 1 (.t 28), none⟩,
    ⟨(some 6), .mov (.t 29), none⟩] [6])
  (.ret [6]))
  .skip))))
  (.ops [⟨(some 30), .bin .add (.t 14) (.c (.s (.int .i64 1))), none⟩,
    ⟨(some 14), .mov (.t 30), none⟩] [1, 2, 12, 13, 14]))
def l52_0_1 : EC := (.seq (.cond (.t 15) .skip
  (.exit 0 []))
  l52_0_2)
def l52_0 : EC := (.seq (.ops [⟨(some 15), .bin .lss (.t 14) (.t 13), none⟩] [1, 2, 12, 13, 14, 15])
  l52_0_1)
def s52_2 : EC := (.seq (.ops [⟨(some 6), .mov (.c (.s (.int .i64 0))), none⟩] [6])
  (.ret [6]))
def s52_1 : EC := (.seq (.seq (.ops [⟨(some 9), .mov (.t 0), none⟩,
    ⟨(some 10), .nilc (.t 9), none⟩,
    ⟨(some 11), .fad 0 (.t 10), none⟩,
    ⟨(some 12), .load false 1 (.t 11), none⟩,
    ⟨(some 13), .len (.t 12), none⟩,
    ⟨(some 14), .mov (.c (.s (.int .i64 0))), none⟩] [1, 2, 12, 13, 14])
  (.block 0 (.loop [1, 2, 12, 13, 14] l52_0)))
  s52_2)
def b52 : EC := (.seq (.ops [⟨(some 6), .mov (.c (.s (.int .i64 0))), none⟩] [0, 1, 2])
  s52_1)
def e52 : EF := ⟨31, b52, [.tmp 6]⟩

/-- (*scutage/scutageref09.Register).Total -/
def h53 : List (List Nat) := [[0], [0, 3], [3, 9, 10, 11], [3, 9, 10, 11], [3, 9, 10, 11, 12], [3], [3, 5, 9, 10, 11], [3, 9, 10, 11], [3, 9, 10, 11], [2], [2]]
def l53_0_2 : EC := (.seq (.block 1 (.seq (.ops [⟨(some 13), .iad 30 3 (.t 9) (.t 11), none⟩,
    ⟨(some 14), .load true 3 (.t 13), none⟩,
    ⟨(some 5), .new 30 3 (.c (.agg [(.int .i64 0), (.int .i64 0), (.int .i64 0)])), none⟩,
    ⟨none, .store 3 (.t 5) (.t 14), none⟩] [3, 5, 9, 10, 11])
  (.ops [⟨(some 15), .mov (.t 3), none⟩,
    ⟨(some 16), .fad 2 (.t 5), none⟩,
    ⟨(some 17), .load false 1 (.t 16), none⟩,
    ⟨(some 18), .bin .add (.t 15) (.t 17), none⟩,
    ⟨(some 3), .mov (.t 18), none⟩] [3, 9, 10, 11])))
  (.ops [⟨(some 19), .bin .add (.t 11) (.c (.s (.int .i64 1))), none⟩,
    ⟨(some 11), .mov (.t 19), none⟩] [3, 9, 10, 11]))
def l53_0_1 : EC := (.seq (.cond (.t 12) .skip
  (.exit 0 [3]))
  l53_0_2)
def l53_0 : EC := (.seq (.ops [⟨(some 12), .bin .lss (.t 11) (.t 10), none⟩] [3, 9, 10, 11, 12])
  l53_0_1)
def s53_3 : EC := (.seq (.ops [⟨(some 20), .mov (.t 3), none⟩,
    ⟨(some 2), .mov (.t 20), none⟩] [2])
  (.ret [2]))
def s53_2 : EC := (.seq (.seq (.ops [⟨(some 6), .mov (.t 0), none⟩,
    ⟨(some 7), .nilc (.t 6), none⟩,
    ⟨(some 8), .fad 0 (.t 7), none⟩,
    ⟨(some 9), .load false 1 (.t 8), none⟩,
    ⟨(some 10), .len (.t 9), none⟩,
    ⟨(some 11), .mov (.c (.s (.int .i64 0))), none⟩] [3, 9, 10, 11])
  (.block 0 (.loop [3, 9, 10, 11] l53_0)))
  s53_3)
def s53_1 : EC := (.seq (.ops [⟨(some 3), .mov (.c (.s (.int .i64 0))), none⟩] [0, 3])
  s53_2)
def b53 : EC := (.seq (.ops [⟨(some 2), .mov (.c (.s (.int .i64 0))), none⟩] [0])
  s53_1)
def e53 : EF := ⟨21, b53, [.tmp 2]⟩

/-- (*scutage/scutageref09.Register).Copy -/
def h54 : List (List Nat) := [[0], [2], [2]]
def s54_1 : EC := (.seq (.ops [⟨(some 3), .mov (.t 0), none⟩,
    ⟨(some 4), .nilc (.t 3), none⟩,
    ⟨(some 5), .fad 0 (.t 4), none⟩,
    ⟨(some 6), .load false 1 (.t 5), none⟩,
    ⟨(some 7), .app 30 3 24 (.c (.s .nils)) (.t 6), none⟩,
    ⟨(some 8), .build [.nils] [(0, 1, (.t 7))], none⟩,
    ⟨(some 9), .new 25 1 (.t 8), none⟩,
    ⟨(some 2), .mov (.t 9), none⟩] [2])
  (.ret [2]))
def b54 : EC := (.seq (.ops [⟨(some 2), .mov (.c (.s .nilp)), none⟩] [0])
  s54_1)
def e54 : EF := ⟨10, b54, [.tmp 2]⟩

/-- (*scutage/scutageref09.Register).set -/
def h55 : List (List Nat) := [[0, 1, 2, 3, 8], [0, 1, 2, 3, 8, 9], [0, 1, 2, 3, 8, 9, 17, 18, 19], [0, 1, 2, 3, 8, 9, 17, 18, 19], [0, 1, 2, 3, 8, 9, 17, 18, 19, 20], [0, 1, 2, 3, 8, 9], [0, 1, 2, 3, 8, 9, 11, 17, 18, 19], [0, 1, 2, 3, 8, 9, 11, 17, 18, 19, 32], [0, 1, 2, 3, 8, 9, 17, 18, 19], [0, 1, 2, 3, 8, 9, 11, 17, 18, 19, 52], [0, 1, 2, 3, 8, 9, 11, 17, 18, 19], [0, 1, 2, 3, 8, 9, 17, 18, 19], [0, 1, 2, 3, 8, 9, 17, 18, 19], [0, 1, 2, 3, 8, 66], [0, 8], []]
def l55_0_2 : EC := (.seq (.block 1 (.seq (.ops [⟨(some 21), .iad 30 3 (.t 17) (.t 19), none⟩,
    ⟨(some 22), .load true 3 (.t 21), none⟩,
    ⟨(some 11), .new 30 3 (.c (.agg [(.int .i64 0), (.int .i64 0), (.int .i64 0)])), none⟩,
    ⟨none, .store 3 (.t 11) (.t 22), none⟩] [0, 1, 2, 3, 8, 9, 11, 17, 18, 19])
  (.seq (.seq (.ops [⟨(some 23), .fad 0 (.t 11), none⟩,
    ⟨(some 24), .load false 1 (.t 23), none⟩,
    ⟨(some 25), .mov (.t 1), none⟩,
    ⟨(some 26), .bin .eql (.t 24) (.t 25), none⟩,
    ⟨(some 27), .mov (.t 26), none⟩,
    ⟨(some 28), .fad 1 (.t 11), (some (27, true))⟩,
    ⟨(some 29), .load false 1 (.t 28), (some (27, true))⟩,
    ⟨(some 30), .mov (.t 2), (some (27, true))⟩,
    ⟨(some 31), .bin .eql (.t 29) (.t 30), (some (27, true))⟩,
    ⟨(some 32), .pick (.t 27) (.t 31) (.c (.s (.bool false))), none⟩] [0, 1, 2, 3, 8, 9, 11, 17, 18, 19, 32])
  (.cond (.t 32) (.exit 1 [0, 1, 2, 3, 8, 9, 17, 18, 19])
  .skip))
  (.seq (.seq (.ops [⟨(some 33), .mov (.t 9), none⟩,
    ⟨(some 34), .un .not (.t 33), none⟩,
    ⟨(some 35), .mov (.t 34), none⟩,
    ⟨(some 36), .fad 0 (.t 11), (some (35, true))⟩,
    ⟨(some 37), .load false 1 (.t 36), (some (35, true))⟩,
    ⟨(some 38), .mov (.t 1), (some (35, true))⟩,
    ⟨(some 39), .bin .gtr (.t 37) (.t 38), (some (35, true))⟩,
    ⟨(some 40), .mov (.t 39), (some (35, true))⟩,
    ⟨(some 41), .fad 0 (.t 11), (some (40, false))⟩,
    ⟨(some 42), .load false 1 (.t 41), (some (40, false))⟩,
    ⟨(some 43), .mov (.t 1), (some (40, false))⟩,
    ⟨(some 44), .bin .eql (.t 42) (.t 43), (some (40, false))⟩,
    ⟨(some 45), .mov (.t 44), (some (40, false))⟩,
    ⟨(some 46), .fad 1 (.t 11), (some (45, true))⟩,
    ⟨(some 47), .load false 1 (.t 46), (some (45, true))⟩,
    ⟨(some 48), .mov (.t 2), (some (45, true))⟩,
    ⟨(some 49), .bin .gtr (.t 47) (.t 48), (some (45, true))⟩,
    ⟨(some 50), .pick (.t 45) (.t 49) (.c (.s (.bool false))), (some (40, false))⟩,
    ⟨(some 51), .pick (.t 40) (.c (.s (.bool true))) (.t 50), (some (35, true))⟩,
    ⟨(some 52), .pick (.t 35) (.t 51) (.c (.s (.bool false))), none⟩] [0, 1, 2, 3, 8, 9, 11, 17, 18, 19, 52])
  (.cond (.t 52) (.ops [⟨(some 53), .mov (.t 8), none⟩,
    ⟨(some 54), .mov (.t 1), none⟩,
    ⟨(some 55), .mov (.t 2), none⟩,
    ⟨(some 56), .mov (.t 3), none⟩,
    ⟨(some 57), .build [(.int .i64 0), (.int .i64 0), (.int .i64 0)] [(0, 1, (.t 54)), (1, 1, (.t 55)), (2, 1, (.t 56))], none⟩,
    ⟨(some 58), .bsl 30 1 [(.int .i64 0), (.int .i64 0), (.int .i64 0)] [(0, 3, (.t 57))], none⟩,
    ⟨(some 59), .app 30 3 24 (.t 53) (.t 58), none⟩,
    ⟨(some 8), .mov (.t 59), none⟩,
    ⟨(some 9), .mov (.c (.s (.bool true))), none⟩] [0, 1, 2, 3, 8, 9, 11, 17, 18, 19])
  .skip))
  (.ops [⟨(some 60), .mov (.t 8), none⟩,
    ⟨(some 61), .load true 3 (.t 11), none⟩,
    ⟨(some 62), .bsl 30 1 [(.int .i64 0), (.int .i64 0), (.int .i64 0)] [(0, 3, (.t 61))], none⟩,
    ⟨(some 63), .app 30 3 24 (.t 60) (.t 62), none⟩,
    ⟨(some 8), .mov (.t 63), none⟩] [0, 1, 2, 3, 8, 9, 17, 18, 19])))))
  (.ops [⟨(some 64), .bin .add (.t 19) (.c (.s (.int .i64 1))), none⟩,
    ⟨(some 19), .mov (.t 64), none⟩] [0, 1, 2, 3, 8, 9, 17, 18, 19]))
def l55_0_1 : EC := (.seq (.cond (.t 20) .skip
  (.exit 0 [0, 1, 2, 3, 8, 9]))
  l55_0_2)
def l55_0 : EC := (.seq (.ops [⟨(some 20), .bin .lss (.t 19) (.t 18), none⟩] [0, 1, 2, 3, 8, 9, 17, 18, 19, 20])
  l55_0_1)
def s55_3 : EC := (.seq (.seq (.ops [⟨(some 65), .mov (.t 9), none⟩,
    ⟨(some 66), .un .not (.t 65), none⟩] [0, 1, 2, 3, 8, 66])
  (.cond (.t 66) (.ops [⟨(some 67), .mov (.t 8), none⟩,
    ⟨(some 68), .mov (.t 1), none⟩,
    ⟨(some 69), .mov (.t 2), none⟩,
    ⟨(some 70), .mov (.t 3), none⟩,
    ⟨(some 71), .build [(.int .i64 0), (.int .i64 0), (.int .i64 0)] [(0, 1, (.t 68)), (1, 1, (.t 69)), (2, 1, (.t 70))], none⟩,
    ⟨(some 72), .bsl 30 1 [(.int .i64 0), (.int .i64 0), (.int .i64 0)] [(0, 3, (.t 71))], none⟩,
    ⟨(some 73), .app 30 3 24 (.t 67) (.t 72), none⟩,
    ⟨(some 8), .mov (.t 73), none⟩] [0, 8])
  .skip))
  (.ops [⟨(some 74), .mov (.t 0), none⟩,
    ⟨(some 75), .mov (.t 8), none⟩,
    ⟨(some 76), .nilc (.t 74), none⟩,
    ⟨(some 77), .fad 0 (.t 76), none⟩,
    ⟨none, .store 1 (.t 77) (.t 75), none⟩] []))
def s55_2 : EC := (.seq (.seq (.ops [⟨(some 14), .mov (.t 0), none⟩,
    ⟨(some 15), .nilc (.t 14), none⟩,
    ⟨(some 16), .fad 0 (.t 15), none⟩,
    ⟨(some 17), .load false 1 (.t 16), none⟩,
    ⟨(some 18), .len (.t 17), none⟩,
    ⟨(some 19), .mov (.c (.s (.int .i64 0))), none⟩] [0, 1, 2, 3, 8, 9, 17, 18, 19])
  (.block 0 (.loop [0, 1, 2, 3, 8, 9, 17, 18, 19] l55_0)))
  s55_3)
def s55_1 : EC := (.seq (.ops [⟨(some 12), .mov (.t 3), none⟩,
    ⟨(some 13), .bin .eql (.t 12) (.c (.s (.int .i64 0))), none⟩,
    ⟨(some 9), .mov (.t 13), none⟩] [0, 1, 2, 3, 8, 9])
  s55_2)
def b55 : EC := (.seq (.ops [⟨(some 8), .mov (.c (.s .nils)), none⟩] [0, 1, 2, 3, 8])
  s55_1)
def e55 : EF := ⟨78, b55, []⟩

/-- slices.IndexFunc[[]scutage/enact.Row,scutage/enact.Row] -/
def h56 : List (List Nat) := [[0, 1], [0, 1, 7, 8], [0, 1, 7, 8], [0, 1, 7, 8, 9], [], [0, 1, 5, 7, 8], [0, 1, 5, 7, 8, 16], [4], [4], [0, 1, 7, 8], [4], [4]]
def l56_0_2 : EC := (.seq (.block 1 (.seq (.ops [⟨(some 10), .mov (.t 8), none⟩,
    ⟨(some 5), .mov (.t 10), none⟩] [0, 1, 5, 7, 8])
  (.seq (.ops [⟨(some 11), .mov (.t 1), none⟩,
    ⟨(some 12), .mov (.t 0), none⟩,
    ⟨(some 13), .mov (.t 5), none⟩,
    ⟨(some 14), .iad 63 4 (.t 12) (.t 13), none⟩,
    ⟨(some 15), .load true 4 (.t 14), none⟩,
    ⟨(some 16), .callv (.t 11) [(.t 15)], none⟩] [0, 1, 5, 7, 8, 16])
  (.cond (.t 16) (.seq (.ops [⟨(some 17), .mov (.t 5), none⟩,
    ⟨(some 4), .mov (.t 17), none⟩] [4])
  (.ret [4]))
  .skip))))
  (.ops [⟨(some 18), .bin .add (.t 8) (.c (.s (.int .i64 1))), none⟩,
    ⟨(some 8), .mov (.t 18), none⟩] [0, 1, 7, 8]))
def l56_0_1 : EC := (.seq (.cond (.t 9) .skip
  (.exit 0 []))
  l56_0_2)
def l56_0 : EC := (.seq (.ops [⟨(some 9), .bin .lss (.t 8) (.t 7), none⟩] [0, 1, 7, 8, 9])
  l56_0_1)
def s56_2 : EC := (.seq (.ops [⟨(some 4), .mov (.c (.s (.int .i64 (-1)))), none⟩] [4])
  (.ret [4]))
def s56_1 : EC := (.seq (.seq (.ops [⟨(some 6), .mov (.t 0), none⟩,
    ⟨(some 7), .len (.t 6), none⟩,
    ⟨(some 8), .mov (.c (.s (.int .i64 0))), none⟩] [0, 1, 7, 8])
  (.block 0 (.loop [0, 1, 7, 8] l56_0)))
  s56_2)
def b56 : EC := (.seq (.ops [⟨(some 4), .mov (.c (.s (.int .i64 0))), none⟩] [0, 1])
  s56_1)
def e56 : EF := ⟨19, b56, [.tmp 4]⟩

/-- scutage/scutageref01.Of -/
def h57 : List (List Nat) := [[0, 1], [0, 1, 24], [4, 5], [4, 5], [0, 1, 26], [6], [4, 5], [4, 5], [8], [9, 10], [9, 45], [9], [4, 5], [4, 5]]
def s57_6 : EC := (.seq (.ops [⟨(some 48), .mov (.t 9), none⟩,
    ⟨(some 4), .mov (.t 48), none⟩,
    ⟨(some 5), .mov (.c (.s (.bool true))), none⟩] [4, 5])
  (.ret [4, 5]))
def s57_5 : EC := (.seq (.seq (.ops [⟨(some 43), .mov (.t 10), none⟩,
    ⟨(some 44), .bin .mul (.c (.s (.int .i64 2))) (.t 43), none⟩,
    ⟨(some 45), .bin .geq (.t 44) (.c (.s (.int .i64 1000000))), none⟩] [9, 45])
  (.cond (.t 45) (.ops [⟨(some 46), .mov (.t 9), none⟩,
    ⟨(some 47), .bin .add (.t 46) (.c (.s (.int .i64 1))), none⟩,
    ⟨(some 9), .mov (.t 47), none⟩] [9])
  .skip))
  s57_6)
def s57_4 : EC := (.seq (.ops [⟨(some 39), .mov (.t 8), none⟩,
    ⟨(some 40), .bin .quo (.t 39) (.c (.s (.int .i64 1000000))), none⟩,
    ⟨(some 41), .mov (.t 8), none⟩,
    ⟨(some 42), .bin .rem (.t 41) (.c (.s (.int .i64 1000000))), none⟩,
    ⟨(some 9), .mov (.t 40), none⟩,
    ⟨(some 10), .mov (.t 42), none⟩] [9, 10])
  s57_5)
def s57_3 : EC := (.seq (.ops [⟨(some 36), .mov (.t 0), none⟩,
    ⟨(some 37), .mov (.t 1), none⟩,
    ⟨(some 38), .bin .mul (.t 36) (.t 37), none⟩,
    ⟨(some 8), .mov (.t 38), none⟩] [8])
  s57_4)
def s57_2 : EC := (.seq (.seq (.ops [⟨(some 25), .mov (.t 0), none⟩,
    ⟨(some 26), .bin .lss (.t 25) (.c (.s (.int .i64 0))), none⟩] [0, 1, 26])
  (.cond (.t 26) (.seq (.ops [⟨(some 28), .mov (.t 0), none⟩,
    ⟨(some 29), .un .neg (.t 28), none⟩,
    ⟨(some 30), .mov (.t 1), none⟩,
    ⟨(some 31), .call 57 [(.t 29), (.t 30)], none⟩,
    ⟨(some 27), .mov (.t 31), none⟩,
    ⟨(some 32), .ext (.t 27) 0, none⟩,
    ⟨(some 33), .ext (.t 27) 1, none⟩,
    ⟨(some 6), .mov (.t 32), none⟩,
    ⟨(some 7), .mov (.t 33), none⟩] [6])
  (.seq (.ops [⟨(some 34), .mov (.t 6), none⟩,
    ⟨(some 35), .un .neg (.t 34), none⟩,
    ⟨(some 4), .mov (.t 35), none⟩,
    ⟨(some 5), .mov (.c (.s (.bool true))), none⟩] [4, 5])
  (.ret [4, 5])))
  .skip))
  s57_3)
def s57_1 : EC := (.seq (.seq (.ops [⟨(some 11), .mov (.t 0), none⟩,
    ⟨(some 12), .bin .lss (.t 11) (.c (.s (.int .i64 (-400000000000)))), none⟩,
    ⟨(some 13), .mov (.t 12), none⟩,
    ⟨(some 14), .mov (.t 0), (some (13, false))⟩,
    ⟨(some 15), .bin .gtr (.t 14) (.c (.s (.int .i64 400000000000))), (some (13, false))⟩,
    ⟨(some 16), .pick (.t 13) (.c (.s (.bool true))) (.t 15), none⟩,
    ⟨(some 17), .mov (.t 16), none⟩,
    ⟨(some 18), .mov (.t 1), (some (17, false))⟩,
    ⟨(some 19), .bin .lss (.t 18) (.c (.s (.int .i64 0))), (some (17, false))⟩,
    ⟨(some 20), .pick (.t 17) (.c (.s (.bool true))) (.t 19), none⟩,
    ⟨(some 21), .mov (.t 20), none⟩,
    ⟨(some 22), .mov (.t 1), (some (21, false))⟩,
    ⟨(some 23), .bin .gtr (.t 22) (.c (.s (.int .i64 10000000))), (some (21, false))⟩,
    ⟨(some 24), .pick (.t 21) (.c (.s (.bool true))) (.t 23), none⟩] [0, 1, 24])
  (.cond (.t 24) (.seq (.ops [⟨(some 4), .mov (.c (.s (.int .i64 0))), none⟩,
    ⟨(some 5), .mov (.c (.s (.bool false))), none⟩] [4, 5])
  (.ret [4, 5]))
  .skip))
  s57_2)
def b57 : EC := (.seq (.ops [⟨(some 4), .mov (.c (.s (.int .i64 0))), none⟩,
    ⟨(some 5), .mov (.c (.s (.bool false))), none⟩] [0, 1])
  s57_1)
def e57 : EF := ⟨49, b57, [.tmp 4, .tmp 5]⟩

def C : Nat → Option EF
  | 3 => some e3
  | 4 => some e4
  | 5 => some e5
  | 6 => some e6
  | 7 => some e7
  | 8 => some e8
  | 9 => some e9
  | 10 => some e10
  | 11 => some e11
  | 12 => some e12
  | 13 => some e13
  | 14 => some e14
  | 15 => some e15
  | 16 => some e16
  | 17 => some e17
  | 18 => some e18
  | 19 => some e19
  | 20 => some e20
  | 21 => some e21
  | 22 => some e22
  | 23 => some e23
  | 24 => some e24
  | 25 => some e25
  | 26 => some e26
  | 27 => some e27
  | 28 => some e28
  | 29 => some e29
  | 30 => some e30
  | 31 => some e31
  | 32 => some e32
  | 33 => some e33
  | 34 => some e34
  | 35 => some e35
  | 36 => some e36
  | 37 => some e37
  | 38 => some e38
  | 39 => some e39
  | 40 => some e40
  | 41 => some e41
  | 42 => some e42
  | 43 => some e43
  | 44 => some e44
  | 45 => some e45
  | 46 => some e46
  | 47 => some e47
  | 48 => some e48
  | 49 => some e49
  | 50 => some e50
  | 51 => some e51
  | 52 => some e52
  | 53 => some e53
  | 54 => some e54
  | 55 => some e55
  | 56 => some e56
  | 57 => some e57
  | _ => none
end Go.Proofs.Ytcimcccnhbbncaa.Ev.CE
