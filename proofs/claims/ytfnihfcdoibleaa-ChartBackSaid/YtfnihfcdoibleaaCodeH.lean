/- The code of some functions for the small machine (printed by wip/tools/EvPrint.lean). -/
import Derived.Test.YtfnihfcdoibleaaEvKit
namespace Go.Proofs.Ytfnihfcdoibleaa.Ev.CH
open Go
/-- scutage/scutagelaw05.ChartBack -/
def h13 : List (List Nat) := [[0, 1], [0, 1, 5], [0, 1, 5, 6], [0, 1, 5, 6, 18, 19, 20], [0, 1, 5, 6, 18, 19, 20], [0, 1, 5, 6, 18, 19, 20, 21], [0, 1, 5, 6], [0, 1, 5, 6, 8, 18, 19, 20], [0, 1, 5, 6, 8, 9, 18, 19, 20], [0, 1, 5, 6, 8, 9, 10, 11, 18, 19, 20], [0, 1, 5, 6, 8, 9, 18, 19, 20, 46], [4], [4], [0, 1, 5, 6, 8, 18, 19, 20], [0, 1, 5, 6, 18, 19, 20, 50], [0, 1, 5, 6, 18, 19, 20], [0, 1, 5, 6, 18, 19, 20], [0, 1, 5, 6], [0, 1, 5, 6, 13], [0, 1, 5, 6, 13, 15], [0, 1, 5, 6, 13, 15, 16], [4], [4]]
def l13_0_2 : EC := (.seq (.block 1 (.seq (.ops [⟨(some 22), .iad 3 1 (.t 18) (.t 20), none⟩,
    ⟨(some 23), .load false 1 (.t 22), none⟩,
    ⟨(some 8), .mov (.t 23), none⟩] [0, 1, 5, 6, 8, 18, 19, 20])
  (.seq (.ops [⟨(some 24), .mov (.t 8), none⟩,
    ⟨(some 25), .call 44 [(.t 24)], none⟩,
    ⟨(some 9), .mov (.t 25), none⟩] [0, 1, 5, 6, 8, 9, 18, 19, 20])
  (.seq (.ops [⟨(some 27), .mov (.t 9), none⟩,
    ⟨(some 28), .call 45 [(.t 27)], none⟩,
    ⟨(some 26), .mov (.t 28), none⟩,
    ⟨(some 29), .ext (.t 26) 0, none⟩,
    ⟨(some 30), .ext (.t 26) 1, none⟩,
    ⟨(some 10), .mov (.t 29), none⟩,
    ⟨(some 11), .mov (.t 30), none⟩] [0, 1, 5, 6, 8, 9, 10, 11, 18, 19, 20])
  (.seq (.seq (.ops [⟨(some 31), .mov (.t 9), none⟩,
    ⟨(some 32), .bin .eql (.t 31) (.c (.s (.str ⟨#[]⟩))), none⟩,
    ⟨(some 33), .mov (.t 32), none⟩,
    ⟨(some 34), .mov (.t 5), (some (33, false))⟩,
    ⟨(some 35), .mov (.t 9), (some (33, false))⟩,
    ⟨(some 36), .mget true false (.bool false) (.t 34) (.t 35), (some (33, false))⟩,
    ⟨(some 37), .pick (.t 33) (.c (.s (.bool true))) (.t 36), none⟩,
    ⟨(some 38), .mov (.t 37), none⟩,
    ⟨(some 39), .mov (.t 11), (some (38, false))⟩,
    ⟨(some 40), .un .not (.t 39), (some (38, false))⟩,
    ⟨(some 41), .pick (.t 38) (.c (.s (.bool true))) (.t 40), none⟩,
    ⟨(some 42), .mov (.t 41), none⟩,
    ⟨(some 43), .mov (.t 10), (some (42, false))⟩,
    ⟨(some 44), .mov (.t 8), (some (42, false))⟩,
    ⟨(some 45), .bin .neq (.t 43) (.t 44), (some (42, false))⟩,
    ⟨(some 46), .pick (.t 42) (.c (.s (.bool true))) (.t 45), none⟩] [0, 1, 5, 6, 8, 9, 18, 19, 20, 46])
  (.cond (.t 46) (.seq (.ops [⟨(some 4), .mov (.c (.s (.bool false))), none⟩] [4])
  (.ret [4]))
  .skip))
  (.seq (.ops [⟨(some 47), .mov (.t 5), none⟩,
    ⟨(some 48), .mov (.t 9), none⟩,
    ⟨none, .mput true (.t 47) (.t 48) (.c (.s (.bool true))), none⟩] [0, 1, 5, 6, 8, 18, 19, 20])
  (.seq (.ops [⟨(some 49), .mov (.t 8), none⟩,
    ⟨(some 50), .call 46 [(.t 49)], none⟩] [0, 1, 5, 6, 18, 19, 20, 50])
  (.cond (.t 50) (.ops [⟨(some 51), .mov (.t 6), none⟩,
    ⟨(some 52), .bin .add (.t 51) (.c (.s (.int .i64 1))), none⟩,
    ⟨(some 6), .mov (.t 52), none⟩] [0, 1, 5, 6, 18, 19, 20])
  .skip))))))))
  (.ops [⟨(some 53), .bin .add (.t 20) (.c (.s (.int .i64 1))), none⟩,
    ⟨(some 20), .mov (.t 53), none⟩] [0, 1, 5, 6, 18, 19, 20]))
def l13_0_1 : EC := (.seq (.cond (.t 21) .skip
  (.exit 0 [0, 1, 5, 6]))
  l13_0_2)
def l13_0 : EC := (.seq (.ops [⟨(some 21), .bin .lss (.t 20) (.t 19), none⟩] [0, 1, 5, 6, 18, 19, 20, 21])
  l13_0_1)
def s13_8 : EC := (.seq (.ops [⟨(some 71), .mov (.t 5), none⟩,
    ⟨(some 72), .mlen (.t 71), none⟩,
    ⟨(some 73), .bin .eql (.t 72) (.c (.s (.int .i64 7))), none⟩,
    ⟨(some 74), .mov (.t 73), none⟩,
    ⟨(some 75), .mov (.t 6), (some (74, true))⟩,
    ⟨(some 76), .bin .eql (.t 75) (.c (.s (.int .i64 3))), (some (74, true))⟩,
    ⟨(some 77), .pick (.t 74) (.t 76) (.c (.s (.bool false))), none⟩,
    ⟨(some 78), .mov (.t 77), none⟩,
    ⟨(some 79), .mov (.t 13), (some (78, true))⟩,
    ⟨(some 80), .mov (.t 5), (some (78, true))⟩,
    ⟨(some 81), .mov (.t 1), (some (78, true))⟩,
    ⟨(some 82), .mget true false (.bool false) (.t 80) (.t 81), (some (78, true))⟩,
    ⟨(some 83), .eqb false (.t 79) (.t 82), (some (78, true))⟩,
    ⟨(some 84), .pick (.t 78) (.t 83) (.c (.s (.bool false))), none⟩,
    ⟨(some 85), .mov (.t 84), none⟩,
    ⟨(some 86), .mov (.t 15), (some (85, true))⟩,
    ⟨(some 87), .un .not (.t 86), (some (85, true))⟩,
    ⟨(some 88), .pick (.t 85) (.t 87) (.c (.s (.bool false))), none⟩,
    ⟨(some 89), .mov (.t 88), none⟩,
    ⟨(some 90), .mov (.t 0), (some (89, true))⟩,
    ⟨(some 91), .call 44 [(.t 90)], (some (89, true))⟩,
    ⟨(some 92), .bin .neq (.t 91) (.c (.s (.str ⟨#[]⟩))), (some (89, true))⟩,
    ⟨(some 93), .mov (.t 16), (some (89, true))⟩,
    ⟨(some 94), .eqb false (.t 92) (.t 93), (some (89, true))⟩,
    ⟨(some 95), .pick (.t 89) (.t 94) (.c (.s (.bool false))), none⟩,
    ⟨(some 96), .mov (.t 95), none⟩,
    ⟨(some 97), .mov (.t 16), (some (96, true))⟩,
    ⟨(some 98), .mov (.t 97), (some (96, true))⟩,
    ⟨(some 99), .mov (.t 0), (some (98, false))⟩,
    ⟨(some 100), .call 46 [(.t 99)], (some (98, false))⟩,
    ⟨(some 101), .un .not (.t 100), (some (98, false))⟩,
    ⟨(some 102), .pick (.t 98) (.c (.s (.bool true))) (.t 101), (some (96, true))⟩,
    ⟨(some 103), .pick (.t 96) (.t 102) (.c (.s (.bool false))), none⟩,
    ⟨(some 104), .mov (.t 103), none⟩,
    ⟨(some 105), .call 48 [], (some (104, true))⟩,
    ⟨(some 106), .pick (.t 104) (.t 105) (.c (.s (.bool false))), none⟩,
    ⟨(some 4), .mov (.t 106), none⟩] [4])
  (.ret [4]))
def s13_7 : EC := (.seq (.ops [⟨(some 65), .mov (.t 0), none⟩,
    ⟨(some 66), .bin .geq (.t 65) (.c (.s (.int .i64 1))), none⟩,
    ⟨(some 67), .mov (.t 66), none⟩,
    ⟨(some 68), .mov (.t 0), (some (67, true))⟩,
    ⟨(some 69), .bin .leq (.t 68) (.c (.s (.int .i64 7))), (some (67, true))⟩,
    ⟨(some 70), .pick (.t 67) (.t 69) (.c (.s (.bool false))), none⟩,
    ⟨(some 16), .mov (.t 70), none⟩] [0, 1, 5, 6, 13, 15, 16])
  s13_8)
def s13_6 : EC := (.seq (.ops [⟨(some 62), .call 45 [(.c (.s (.str ⟨#[]⟩)))], none⟩,
    ⟨(some 61), .mov (.t 62), none⟩,
    ⟨(some 63), .ext (.t 61) 0, none⟩,
    ⟨(some 64), .ext (.t 61) 1, none⟩,
    ⟨(some 14), .mov (.t 63), none⟩,
    ⟨(some 15), .mov (.t 64), none⟩] [0, 1, 5, 6, 13, 15])
  s13_7)
def s13_5 : EC := (.seq (.ops [⟨(some 57), .mov (.t 1), none⟩,
    ⟨(some 58), .call 45 [(.t 57)], none⟩,
    ⟨(some 56), .mov (.t 58), none⟩,
    ⟨(some 59), .ext (.t 56) 0, none⟩,
    ⟨(some 60), .ext (.t 56) 1, none⟩,
    ⟨(some 12), .mov (.t 59), none⟩,
    ⟨(some 13), .mov (.t 60), none⟩] [0, 1, 5, 6, 13])
  s13_6)
def s13_4 : EC := (.seq (.ops [⟨(some 54), .mov (.t 1), none⟩,
    ⟨(some 55), .call 47 [(.t 54), (.c (.s (.int .i64 12)))], none⟩,
    ⟨(some 1), .mov (.t 55), none⟩] [0, 1, 5, 6])
  s13_5)
def s13_3 : EC := (.seq (.seq (.ops [⟨(some 18), .call 43 [], none⟩,
    ⟨(some 19), .len (.t 18), none⟩,
    ⟨(some 20), .mov (.c (.s (.int .i64 0))), none⟩] [0, 1, 5, 6, 18, 19, 20])
  (.block 0 (.loop [0, 1, 5, 6, 18, 19, 20] l13_0)))
  s13_4)
def s13_2 : EC := (.seq (.ops [⟨(some 6), .mov (.c (.s (.int .i64 0))), none⟩] [0, 1, 5, 6])
  s13_3)
def s13_1 : EC := (.seq (.ops [⟨(some 17), .mkm, none⟩,
    ⟨(some 5), .mov (.t 17), none⟩] [0, 1, 5])
  s13_2)
def b13 : EC := (.seq (.ops [⟨(some 4), .mov (.c (.s (.bool false))), none⟩] [0, 1])
  s13_1)
def e13 : EF := ⟨107, b13, [.tmp 4]⟩

/-- scutage/scutagelaw05.ChartTells -/
def h14 : List (List Nat) := [[0, 1, 2, 3], [0, 1, 2, 17], [0, 1], [0, 1, 9], [0, 1, 9, 27], [0, 1, 9], [0, 1, 9, 10, 11], [0, 1, 9, 10, 11, 32, 33, 34], [0, 1, 9, 10, 11, 32, 33, 34], [0, 1, 9, 10, 11, 32, 33, 34, 35], [0, 1, 9, 10, 11], [0, 1, 9, 10, 11, 12, 13, 32, 33, 34], [0, 1, 9, 10, 11, 12, 32, 33, 34, 45], [0, 1, 9, 10, 11, 32, 33, 34], [0, 1, 9, 10, 11, 32, 33, 34], [0, 9, 10, 11, 14, 15], [8], [8]]
def l14_0_2 : EC := (.seq (.block 1 (.seq (.ops [⟨(some 36), .mov (.t 34), none⟩,
    ⟨(some 37), .iad 9 1 (.t 32) (.t 34), none⟩,
    ⟨(some 38), .load false 1 (.t 37), none⟩,
    ⟨(some 12), .mov (.t 36), none⟩,
    ⟨(some 13), .mov (.t 38), none⟩] [0, 1, 9, 10, 11, 12, 13, 32, 33, 34])
  (.seq (.ops [⟨(some 39), .mov (.t 12), none⟩,
    ⟨(some 40), .bin .gtr (.t 39) (.c (.s (.int .i64 0))), none⟩,
    ⟨(some 41), .mov (.t 40), none⟩,
    ⟨(some 42), .mov (.t 13), (some (41, true))⟩,
    ⟨(some 43), .mov (.t 1), (some (41, true))⟩,
    ⟨(some 44), .bin .eql (.t 42) (.t 43), (some (41, true))⟩,
    ⟨(some 45), .pick (.t 41) (.t 44) (.c (.s (.bool false))), none⟩] [0, 1, 9, 10, 11, 12, 32, 33, 34, 45])
  (.cond (.t 45) (.ops [⟨(some 46), .mov (.t 12), none⟩,
    ⟨(some 10), .mov (.t 46), none⟩,
    ⟨(some 11), .mov (.c (.s (.bool true))), none⟩] [0, 1, 9, 10, 11, 32, 33, 34])
  .skip))))
  (.ops [⟨(some 47), .bin .add (.t 34) (.c (.s (.int .i64 1))), none⟩,
    ⟨(some 34), .mov (.t 47), none⟩] [0, 1, 9, 10, 11, 32, 33, 34]))
def l14_0_1 : EC := (.seq (.cond (.t 35) .skip
  (.exit 0 [0, 1, 9, 10, 11]))
  l14_0_2)
def l14_0 : EC := (.seq (.ops [⟨(some 35), .bin .lss (.t 34) (.t 33), none⟩] [0, 1, 9, 10, 11, 32, 33, 34, 35])
  l14_0_1)
def s14_7 : EC := (.seq (.ops [⟨(some 53), .mov (.t 0), none⟩,
    ⟨(some 54), .call 44 [(.t 53)], none⟩,
    ⟨(some 55), .mov (.t 9), none⟩,
    ⟨(some 56), .bin .eql (.t 54) (.t 55), none⟩,
    ⟨(some 57), .mov (.t 56), none⟩,
    ⟨(some 58), .mov (.t 14), (some (57, true))⟩,
    ⟨(some 59), .mov (.t 10), (some (57, true))⟩,
    ⟨(some 60), .bin .eql (.t 58) (.t 59), (some (57, true))⟩,
    ⟨(some 61), .pick (.t 57) (.t 60) (.c (.s (.bool false))), none⟩,
    ⟨(some 62), .mov (.t 61), none⟩,
    ⟨(some 63), .mov (.t 15), (some (62, true))⟩,
    ⟨(some 64), .mov (.t 11), (some (62, true))⟩,
    ⟨(some 65), .eqb false (.t 63) (.t 64), (some (62, true))⟩,
    ⟨(some 66), .pick (.t 62) (.t 65) (.c (.s (.bool false))), none⟩,
    ⟨(some 67), .mov (.t 66), none⟩,
    ⟨(some 68), .mov (.t 0), (some (67, true))⟩,
    ⟨(some 69), .call 46 [(.t 68)], (some (67, true))⟩,
    ⟨(some 70), .mov (.t 0), (some (67, true))⟩,
    ⟨(some 71), .call 51 [(.t 70)], (some (67, true))⟩,
    ⟨(some 72), .eqb false (.t 69) (.t 71), (some (67, true))⟩,
    ⟨(some 73), .pick (.t 67) (.t 72) (.c (.s (.bool false))), none⟩,
    ⟨(some 74), .mov (.t 73), none⟩,
    ⟨(some 75), .call 43 [], (some (74, true))⟩,
    ⟨(some 76), .bsl 3 7 [(.int .i64 0)] [(0, 1, (.c (.s (.int .i64 1)))), (1, 1, (.c (.s (.int .i64 2)))), (2, 1, (.c (.s (.int .i64 3)))), (3, 1, (.c (.s (.int .i64 4)))), (4, 1, (.c (.s (.int .i64 5)))), (5, 1, (.c (.s (.int .i64 6)))), (6, 1, (.c (.s (.int .i64 7))))], (some (74, true))⟩,
    ⟨(some 77), .call 20 [(.t 75), (.t 76)], (some (74, true))⟩,
    ⟨(some 78), .pick (.t 74) (.t 77) (.c (.s (.bool false))), none⟩,
    ⟨(some 79), .mov (.t 78), none⟩,
    ⟨(some 80), .call 48 [], (some (79, true))⟩,
    ⟨(some 81), .pick (.t 79) (.t 80) (.c (.s (.bool false))), none⟩,
    ⟨(some 8), .mov (.t 81), none⟩] [8])
  (.ret [8]))
def s14_6 : EC := (.seq (.ops [⟨(some 49), .mov (.t 1), none⟩,
    ⟨(some 50), .call 45 [(.t 49)], none⟩,
    ⟨(some 48), .mov (.t 50), none⟩,
    ⟨(some 51), .ext (.t 48) 0, none⟩,
    ⟨(some 52), .ext (.t 48) 1, none⟩,
    ⟨(some 14), .mov (.t 51), none⟩,
    ⟨(some 15), .mov (.t 52), none⟩] [0, 9, 10, 11, 14, 15])
  s14_7)
def s14_5 : EC := (.seq (.seq (.ops [⟨(some 32), .call 49 [], none⟩,
    ⟨(some 33), .len (.t 32), none⟩,
    ⟨(some 34), .mov (.c (.s (.int .i64 0))), none⟩] [0, 1, 9, 10, 11, 32, 33, 34])
  (.block 0 (.loop [0, 1, 9, 10, 11, 32, 33, 34] l14_0)))
  s14_6)
def s14_4 : EC := (.seq (.ops [⟨(some 10), .mov (.c (.s (.int .i64 0))), none⟩,
    ⟨(some 11), .mov (.c (.s (.bool false))), none⟩] [0, 1, 9, 10, 11])
  s14_5)
def s14_3 : EC := (.seq (.seq (.ops [⟨(some 26), .mov (.t 0), none⟩,
    ⟨(some 27), .call 50 [(.t 26)], none⟩] [0, 1, 9, 27])
  (.cond (.t 27) (.ops [⟨(some 28), .call 49 [], none⟩,
    ⟨(some 29), .mov (.t 0), none⟩,
    ⟨(some 30), .iad 9 1 (.t 28) (.t 29), none⟩,
    ⟨(some 31), .load false 1 (.t 30), none⟩,
    ⟨(some 9), .mov (.t 31), none⟩] [0, 1, 9])
  .skip))
  s14_4)
def s14_2 : EC := (.seq (.ops [⟨(some 9), .mov (.c (.s (.str ⟨#[]⟩))), none⟩] [0, 1, 9])
  s14_3)
def s14_1 : EC := (.seq (.seq (.ops [⟨(some 16), .mov (.t 3), none⟩,
    ⟨(some 17), .un .not (.t 16), none⟩] [0, 1, 2, 17])
  (.cond (.t 17) (.draw [⟨(some 18), .mov (.t 0), none⟩,
    ⟨(some 19), .call 16 [(.t 18), (.c (.s (.int .i64 10)))], none⟩,
    ⟨(some 20), .bin .sub (.t 19) (.c (.s (.int .i64 1))), none⟩,
    ⟨(some 21), .call 49 [], none⟩,
    ⟨(some 22), .mov (.t 2), none⟩,
    ⟨(some 23), .call 16 [(.t 22), (.c (.s (.int .i64 8)))], none⟩,
    ⟨(some 24), .iad 9 1 (.t 21) (.t 23), none⟩,
    ⟨(some 25), .load false 1 (.t 24), none⟩,
    ⟨(some 0), .mov (.t 20), none⟩,
    ⟨(some 1), .mov (.t 25), none⟩] [] [0, 1])
  .skip))
  s14_2)
def b14 : EC := (.seq (.ops [⟨(some 8), .mov (.c (.s (.bool false))), none⟩] [0, 1, 2, 3])
  s14_1)
def e14 : EF := ⟨82, b14, [.tmp 8]⟩

/-- scutage/scutagekeep.Within -/
def h16 : List (List Nat) := [[0, 1], [0, 1, 7], [4], [4], [1, 5], [1, 5, 12], [5], [4], [4]]
def s16_4 : EC := (.seq (.ops [⟨(some 16), .mov (.t 5), none⟩,
    ⟨(some 4), .mov (.t 16), none⟩] [4])
  (.ret [4]))
def s16_3 : EC := (.seq (.seq (.ops [⟨(some 11), .mov (.t 5), none⟩,
    ⟨(some 12), .bin .lss (.t 11) (.c (.s (.int .i64 0))), none⟩] [1, 5, 12])
  (.cond (.t 12) (.ops [⟨(some 13), .mov (.t 5), none⟩,
    ⟨(some 14), .mov (.t 1), none⟩,
    ⟨(some 15), .bin .add (.t 13) (.t 14), none⟩,
    ⟨(some 5), .mov (.t 15), none⟩] [5])
  .skip))
  s16_4)
def s16_2 : EC := (.seq (.ops [⟨(some 8), .mov (.t 0), none⟩,
    ⟨(some 9), .mov (.t 1), none⟩,
    ⟨(some 10), .bin .rem (.t 8) (.t 9), none⟩,
    ⟨(some 5), .mov (.t 10), none⟩] [1, 5])
  s16_3)
def s16_1 : EC := (.seq (.seq (.ops [⟨(some 6), .mov (.t 1), none⟩,
    ⟨(some 7), .bin .lss (.t 6) (.c (.s (.int .i64 1))), none⟩] [0, 1, 7])
  (.cond (.t 7) (.seq (.ops [⟨(some 4), .mov (.c (.s (.int .i64 0))), none⟩] [4])
  (.ret [4]))
  .skip))
  s16_2)
def b16 : EC := (.seq (.ops [⟨(some 4), .mov (.c (.s (.int .i64 0))), none⟩] [0, 1])
  s16_1)
def e16 : EF := ⟨17, b16, [.tmp 4]⟩

/-- scutage/scutagekeep.Copy[int] -/
def h19 : List (List Nat) := [[0], [2], [2]]
def s19_1 : EC := (.seq (.ops [⟨(some 3), .mov (.t 0), none⟩,
    ⟨(some 4), .app 3 1 8 (.c (.s .nils)) (.t 3), none⟩,
    ⟨(some 2), .mov (.t 4), none⟩] [2])
  (.ret [2]))
def b19 : EC := (.seq (.ops [⟨(some 2), .mov (.c (.s .nils)), none⟩] [0])
  s19_1)
def e19 : EF := ⟨5, b19, [.tmp 2]⟩

/-- scutage/scutagekeep.Same[int] -/
def h20 : List (List Nat) := [[0, 1], [0, 1, 10], [4], [4], [0, 1, 5], [0, 1, 5], [0, 1, 5, 14], [], [0, 1, 5, 25], [4], [4], [0, 1, 5], [4], [4]]
def l20_0_1 : EC := (.seq (.block 1 (.seq (.draw [⟨(some 17), .mov (.t 0), none⟩,
    ⟨(some 18), .mov (.t 5), none⟩,
    ⟨(some 19), .iad 3 1 (.t 17) (.t 18), none⟩,
    ⟨(some 20), .load false 1 (.t 19), none⟩,
    ⟨(some 21), .mov (.t 1), none⟩,
    ⟨(some 22), .mov (.t 5), none⟩,
    ⟨(some 23), .iad 3 1 (.t 21) (.t 22), none⟩,
    ⟨(some 24), .load false 1 (.t 23), none⟩,
    ⟨(some 25), .bin .neq (.t 20) (.t 24), none⟩] [] [0, 1, 5, 25])
  (.cond (.t 25) (.seq (.ops [⟨(some 4), .mov (.c (.s (.bool false))), none⟩] [4])
  (.ret [4]))
  .skip)))
  (.ops [⟨(some 15), .mov (.t 5), none⟩,
    ⟨(some 16), .bin .add (.t 15) (.c (.s (.int .i64 1))), none⟩,
    ⟨(some 5), .mov (.t 16), none⟩] [0, 1, 5]))
def l20_0 : EC := (.seq (.seq (.ops [⟨(some 11), .mov (.t 5), none⟩,
    ⟨(some 12), .mov (.t 0), none⟩,
    ⟨(some 13), .len (.t 12), none⟩,
    ⟨(some 14), .bin .lss (.t 11) (.t 13), none⟩] [0, 1, 5, 14])
  (.cond (.t 14) .skip
  (.exit 0 [])))
  l20_0_1)
def s20_3 : EC := (.seq (.ops [⟨(some 4), .mov (.c (.s (.bool true))), none⟩] [4])
  (.ret [4]))
def s20_2 : EC := (.seq (.seq (.ops [⟨(some 5), .mov (.c (.s (.int .i64 0))), none⟩] [0, 1, 5])
  (.block 0 (.loop [0, 1, 5] l20_0)))
  s20_3)
def s20_1 : EC := (.seq (.seq (.ops [⟨(some 6), .mov (.t 0), none⟩,
    ⟨(some 7), .len (.t 6), none⟩,
    ⟨(some 8), .mov (.t 1), none⟩,
    ⟨(some 9), .len (.t 8), none⟩,
    ⟨(some 10), .bin .neq (.t 7) (.t 9), none⟩] [0, 1, 10])
  (.cond (.t 10) (.seq (.ops [⟨(some 4), .mov (.c (.s (.bool false))), none⟩] [4])
  (.ret [4]))
  .skip))
  s20_2)
def b20 : EC := (.seq (.ops [⟨(some 4), .mov (.c (.s (.bool false))), none⟩] [0, 1])
  s20_1)
def e20 : EF := ⟨26, b20, [.tmp 4]⟩

/-- scutage/chart.Accounts -/
def h43 : List (List Nat) := [[], [1], [1, 4, 5], [1, 4, 5], [1, 4, 5, 6], [1], [1, 2, 4, 5], [1, 2, 4, 5, 9], [1, 4, 5], [1, 4, 5], [0], [0]]
def l43_0_2 : EC := (.seq (.block 1 (.seq (.ops [⟨(some 7), .mov (.t 5), none⟩,
    ⟨(some 2), .mov (.t 7), none⟩] [1, 2, 4, 5])
  (.seq (.ops [⟨(some 8), .mov (.t 2), none⟩,
    ⟨(some 9), .call 71 [(.t 8)], none⟩] [1, 2, 4, 5, 9])
  (.cond (.t 9) (.ops [⟨(some 10), .mov (.t 1), none⟩,
    ⟨(some 11), .mov (.t 2), none⟩,
    ⟨(some 12), .bsl 3 1 [(.int .i64 0)] [(0, 1, (.t 11))], none⟩,
    ⟨(some 13), .app 3 1 8 (.t 10) (.t 12), none⟩,
    ⟨(some 1), .mov (.t 13), none⟩] [1, 4, 5])
  .skip))))
  (.ops [⟨(some 14), .bin .add (.t 5) (.c (.s (.int .i64 1))), none⟩,
    ⟨(some 5), .mov (.t 14), none⟩] [1, 4, 5]))
def l43_0_1 : EC := (.seq (.cond (.t 6) .skip
  (.exit 0 [1]))
  l43_0_2)
def l43_0 : EC := (.seq (.ops [⟨(some 6), .bin .lss (.t 5) (.t 4), none⟩] [1, 4, 5, 6])
  l43_0_1)
def s43_3 : EC := (.seq (.ops [⟨(some 15), .mov (.t 1), none⟩,
    ⟨(some 0), .mov (.t 15), none⟩] [0])
  (.ret [0]))
def s43_2 : EC := (.seq (.seq (.ops [⟨(some 3), .call 70 [], none⟩,
    ⟨(some 4), .len (.t 3), none⟩,
    ⟨(some 5), .mov (.c (.s (.int .i64 0))), none⟩] [1, 4, 5])
  (.block 0 (.loop [1, 4, 5] l43_0)))
  s43_3)
def s43_1 : EC := (.seq (.ops [⟨(some 1), .mov (.c (.s .nils)), none⟩] [1])
  s43_2)
def b43 : EC := (.seq (.ops [⟨(some 0), .mov (.c (.s .nils)), none⟩] [])
  s43_1)
def e43 : EF := ⟨16, b43, [.tmp 0]⟩

/-- scutage/chart.Name -/
def h44 : List (List Nat) := [[0], [0, 5], [2], [2], [2], [2]]
def s44_2 : EC := (.seq (.ops [⟨(some 6), .call 70 [], none⟩,
    ⟨(some 7), .mov (.t 0), none⟩,
    ⟨(some 8), .iad 9 1 (.t 6) (.t 7), none⟩,
    ⟨(some 9), .load false 1 (.t 8), none⟩,
    ⟨(some 2), .mov (.t 9), none⟩] [2])
  (.ret [2]))
def s44_1 : EC := (.seq (.seq (.ops [⟨(some 3), .mov (.t 0), none⟩,
    ⟨(some 4), .call 71 [(.t 3)], none⟩,
    ⟨(some 5), .un .not (.t 4), none⟩] [0, 5])
  (.cond (.t 5) (.seq (.ops [⟨(some 2), .mov (.c (.s (.str ⟨#[]⟩))), none⟩] [2])
  (.ret [2]))
  .skip))
  s44_2)
def b44 : EC := (.seq (.ops [⟨(some 2), .mov (.c (.s (.str ⟨#[]⟩))), none⟩] [0])
  s44_1)
def e44 : EF := ⟨10, b44, [.tmp 2]⟩

/-- scutage/chart.Of -/
def h45 : List (List Nat) := [[0], [4], [4, 10], [2, 3], [2, 3], [2, 3], [2, 3]]
def s45_3 : EC := (.seq (.ops [⟨(some 11), .mov (.t 4), none⟩,
    ⟨(some 2), .mov (.t 11), none⟩,
    ⟨(some 3), .mov (.c (.s (.bool true))), none⟩] [2, 3])
  (.ret [2, 3]))
def s45_2 : EC := (.seq (.seq (.ops [⟨(some 8), .mov (.t 4), none⟩,
    ⟨(some 9), .call 71 [(.t 8)], none⟩,
    ⟨(some 10), .un .not (.t 9), none⟩] [4, 10])
  (.cond (.t 10) (.seq (.ops [⟨(some 2), .mov (.c (.s (.int .i64 0))), none⟩,
    ⟨(some 3), .mov (.c (.s (.bool false))), none⟩] [2, 3])
  (.ret [2, 3]))
  .skip))
  s45_3)
def s45_1 : EC := (.seq (.ops [⟨(some 5), .call 70 [], none⟩,
    ⟨(some 6), .mov (.t 0), none⟩,
    ⟨(some 7), .call 72 [(.t 5), (.t 6)], none⟩,
    ⟨(some 4), .mov (.t 7), none⟩] [4])
  s45_2)
def b45 : EC := (.seq (.ops [⟨(some 2), .mov (.c (.s (.int .i64 0))), none⟩,
    ⟨(some 3), .mov (.c (.s (.bool false))), none⟩] [0])
  s45_1)
def e45 : EF := ⟨12, b45, [.tmp 2, .tmp 3]⟩

/-- scutage/chart.Cost -/
def h46 : List (List Nat) := [[0], [2], [2]]
def s46_1 : EC := (.seq (.ops [⟨(some 3), .mov (.t 0), none⟩,
    ⟨(some 4), .bin .eql (.t 3) (.c (.s (.int .i64 1))), none⟩,
    ⟨(some 5), .mov (.t 4), none⟩,
    ⟨(some 6), .mov (.t 0), (some (5, false))⟩,
    ⟨(some 7), .bin .eql (.t 6) (.c (.s (.int .i64 3))), (some (5, false))⟩,
    ⟨(some 8), .pick (.t 5) (.c (.s (.bool true))) (.t 7), none⟩,
    ⟨(some 9), .mov (.t 8), none⟩,
    ⟨(some 10), .mov (.t 0), (some (9, false))⟩,
    ⟨(some 11), .bin .eql (.t 10) (.c (.s (.int .i64 7))), (some (9, false))⟩,
    ⟨(some 12), .pick (.t 9) (.c (.s (.bool true))) (.t 11), none⟩,
    ⟨(some 2), .mov (.t 12), none⟩] [2])
  (.ret [2]))
def b46 : EC := (.seq (.ops [⟨(some 2), .mov (.c (.s (.bool false))), none⟩] [0])
  s46_1)
def e46 : EF := ⟨13, b46, [.tmp 2]⟩

/-- scutage/scutagekeep.Text -/
def h47 : List (List Nat) := [[0, 1], [4], [4]]
def s47_1 : EC := (.seq (.ops [⟨(some 5), .mov (.t 0), none⟩,
    ⟨(some 6), .mov (.t 0), none⟩,
    ⟨(some 7), .slen (.t 6), none⟩,
    ⟨(some 8), .mov (.t 1), none⟩,
    ⟨(some 9), .mn (.t 7) [(.t 8)], none⟩,
    ⟨(some 10), .subs (.t 5) none (some (.t 9)), none⟩,
    ⟨(some 4), .mov (.t 10), none⟩] [4])
  (.ret [4]))
def b47 : EC := (.seq (.ops [⟨(some 4), .mov (.c (.s (.str ⟨#[]⟩))), none⟩] [0, 1])
  s47_1)
def e47 : EF := ⟨11, b47, [.tmp 4]⟩

/-- scutage/scutagelaw05.wakes -/
def h48 : List (List Nat) := [[], [0], [0]]
def s48_1 : EC := (.seq (.ops [⟨(some 1), .call 44 [(.c (.s (.int .i64 2)))], none⟩,
    ⟨(some 2), .bin .eql (.t 1) (.c (.s (.str ⟨#[112, 97, 121, 97, 98, 108, 101]⟩))), none⟩,
    ⟨(some 3), .mov (.t 2), none⟩,
    ⟨(some 4), .call 44 [(.c (.s (.int .i64 0)))], (some (3, true))⟩,
    ⟨(some 5), .bin .eql (.t 4) (.c (.s (.str ⟨#[]⟩))), (some (3, true))⟩,
    ⟨(some 6), .pick (.t 3) (.t 5) (.c (.s (.bool false))), none⟩,
    ⟨(some 0), .mov (.t 6), none⟩] [0])
  (.ret [0]))
def b48 : EC := (.seq (.ops [⟨(some 0), .mov (.c (.s (.bool false))), none⟩] [])
  s48_1)
def e48 : EF := ⟨7, b48, [.tmp 0]⟩

/-- scutage/scutageref01.Names -/
def h49 : List (List Nat) := [[], [0], [0]]
def s49_1 : EC := (.seq (.ops [⟨(some 1), .bsl 9 8 [(.str ⟨#[]⟩)] [(0, 1, (.c (.s (.str ⟨#[]⟩)))), (1, 1, (.c (.s (.str ⟨#[99, 117, 114, 114, 101, 110, 116]⟩)))), (2, 1, (.c (.s (.str ⟨#[112, 97, 121, 97, 98, 108, 101]⟩)))), (3, 1, (.c (.s (.str ⟨#[100, 101, 102, 101, 114, 114, 101, 100]⟩)))), (4, 1, (.c (.s (.str ⟨#[116, 101, 109, 112]⟩)))), (5, 1, (.c (.s (.str ⟨#[108, 111, 115, 115, 101, 115]⟩)))), (6, 1, (.c (.s (.str ⟨#[97, 108, 108, 111, 119, 97, 110, 99, 101]⟩)))), (7, 1, (.c (.s (.str ⟨#[116, 114, 117, 101, 117, 112]⟩))))], none⟩,
    ⟨(some 0), .mov (.t 1), none⟩] [0])
  (.ret [0]))
def b49 : EC := (.seq (.ops [⟨(some 0), .mov (.c (.s .nils)), none⟩] [])
  s49_1)
def e49 : EF := ⟨2, b49, [.tmp 0]⟩

/-- scutage/scutageref01.Account -/
def h50 : List (List Nat) := [[0], [2], [2]]
def s50_1 : EC := (.seq (.ops [⟨(some 3), .mov (.t 0), none⟩,
    ⟨(some 4), .bin .geq (.t 3) (.c (.s (.int .i64 1))), none⟩,
    ⟨(some 5), .mov (.t 4), none⟩,
    ⟨(some 6), .mov (.t 0), (some (5, true))⟩,
    ⟨(some 7), .bin .leq (.t 6) (.c (.s (.int .i64 7))), (some (5, true))⟩,
    ⟨(some 8), .pick (.t 5) (.t 7) (.c (.s (.bool false))), none⟩,
    ⟨(some 2), .mov (.t 8), none⟩] [2])
  (.ret [2]))
def b50 : EC := (.seq (.ops [⟨(some 2), .mov (.c (.s (.bool false))), none⟩] [0])
  s50_1)
def e50 : EF := ⟨9, b50, [.tmp 2]⟩

/-- scutage/scutageref01.Cost -/
def h51 : List (List Nat) := [[0], [2], [2]]
def s51_1 : EC := (.seq (.ops [⟨(some 3), .mov (.t 0), none⟩,
    ⟨(some 4), .bin .eql (.t 3) (.c (.s (.int .i64 1))), none⟩,
    ⟨(some 5), .mov (.t 4), none⟩,
    ⟨(some 6), .mov (.t 0), (some (5, false))⟩,
    ⟨(some 7), .bin .eql (.t 6) (.c (.s (.int .i64 3))), (some (5, false))⟩,
    ⟨(some 8), .pick (.t 5) (.c (.s (.bool true))) (.t 7), none⟩,
    ⟨(some 9), .mov (.t 8), none⟩,
    ⟨(some 10), .mov (.t 0), (some (9, false))⟩,
    ⟨(some 11), .bin .eql (.t 10) (.c (.s (.int .i64 7))), (some (9, false))⟩,
    ⟨(some 12), .pick (.t 9) (.c (.s (.bool true))) (.t 11), none⟩,
    ⟨(some 2), .mov (.t 12), none⟩] [2])
  (.ret [2]))
def b51 : EC := (.seq (.ops [⟨(some 2), .mov (.c (.s (.bool false))), none⟩] [0])
  s51_1)
def e51 : EF := ⟨13, b51, [.tmp 2]⟩

/-- scutage/chart.names -/
def h70 : List (List Nat) := [[], [0], [0]]
def s70_1 : EC := (.seq (.ops [⟨(some 1), .bsl 9 8 [(.str ⟨#[]⟩)] [(1, 1, (.c (.s (.str ⟨#[99, 117, 114, 114, 101, 110, 116]⟩)))), (2, 1, (.c (.s (.str ⟨#[112, 97, 121, 97, 98, 108, 101]⟩)))), (3, 1, (.c (.s (.str ⟨#[100, 101, 102, 101, 114, 114, 101, 100]⟩)))), (4, 1, (.c (.s (.str ⟨#[116, 101, 109, 112]⟩)))), (5, 1, (.c (.s (.str ⟨#[108, 111, 115, 115, 101, 115]⟩)))), (6, 1, (.c (.s (.str ⟨#[97, 108, 108, 111, 119, 97, 110, 99, 101]⟩)))), (7, 1, (.c (.s (.str ⟨#[116, 114, 117, 101, 117, 112]⟩))))], none⟩,
    ⟨(some 0), .mov (.t 1), none⟩] [0])
  (.ret [0]))
def b70 : EC := (.seq (.ops [⟨(some 0), .mov (.c (.s .nils)), none⟩] [])
  s70_1)
def e70 : EF := ⟨2, b70, [.tmp 0]⟩

/-- scutage/chart.is -/
def h71 : List (List Nat) := [[0], [2], [2]]
def s71_1 : EC := (.seq (.ops [⟨(some 3), .mov (.t 0), none⟩,
    ⟨(some 4), .bin .geq (.t 3) (.c (.s (.int .i64 1))), none⟩,
    ⟨(some 5), .mov (.t 4), none⟩,
    ⟨(some 6), .mov (.t 0), (some (5, true))⟩,
    ⟨(some 7), .bin .leq (.t 6) (.c (.s (.int .i64 7))), (some (5, true))⟩,
    ⟨(some 8), .pick (.t 5) (.t 7) (.c (.s (.bool false))), none⟩,
    ⟨(some 2), .mov (.t 8), none⟩] [2])
  (.ret [2]))
def b71 : EC := (.seq (.ops [⟨(some 2), .mov (.c (.s (.bool false))), none⟩] [0])
  s71_1)
def e71 : EF := ⟨9, b71, [.tmp 2]⟩

/-- slices.Index[[]string,string] -/
def h72 : List (List Nat) := [[0, 1], [0, 1, 7, 8], [0, 1, 7, 8], [0, 1, 7, 8, 9], [], [0, 1, 5, 7, 8], [0, 1, 5, 7, 8, 16], [4], [4], [0, 1, 7, 8], [4], [4]]
def l72_0_2 : EC := (.seq (.block 1 (.seq (.ops [⟨(some 10), .mov (.t 8), none⟩,
    ⟨(some 5), .mov (.t 10), none⟩] [0, 1, 5, 7, 8])
  (.seq (.ops [⟨(some 11), .mov (.t 1), none⟩,
    ⟨(some 12), .mov (.t 0), none⟩,
    ⟨(some 13), .mov (.t 5), none⟩,
    ⟨(some 14), .iad 9 1 (.t 12) (.t 13), none⟩,
    ⟨(some 15), .load false 1 (.t 14), none⟩,
    ⟨(some 16), .bin .eql (.t 11) (.t 15), none⟩] [0, 1, 5, 7, 8, 16])
  (.cond (.t 16) (.seq (.ops [⟨(some 17), .mov (.t 5), none⟩,
    ⟨(some 4), .mov (.t 17), none⟩] [4])
  (.ret [4]))
  .skip))))
  (.ops [⟨(some 18), .bin .add (.t 8) (.c (.s (.int .i64 1))), none⟩,
    ⟨(some 8), .mov (.t 18), none⟩] [0, 1, 7, 8]))
def l72_0_1 : EC := (.seq (.cond (.t 9) .skip
  (.exit 0 []))
  l72_0_2)
def l72_0 : EC := (.seq (.ops [⟨(some 9), .bin .lss (.t 8) (.t 7), none⟩] [0, 1, 7, 8, 9])
  l72_0_1)
def s72_2 : EC := (.seq (.ops [⟨(some 4), .mov (.c (.s (.int .i64 (-1)))), none⟩] [4])
  (.ret [4]))
def s72_1 : EC := (.seq (.seq (.ops [⟨(some 6), .mov (.t 0), none⟩,
    ⟨(some 7), .len (.t 6), none⟩,
    ⟨(some 8), .mov (.c (.s (.int .i64 0))), none⟩] [0, 1, 7, 8])
  (.block 0 (.loop [0, 1, 7, 8] l72_0)))
  s72_2)
def b72 : EC := (.seq (.ops [⟨(some 4), .mov (.c (.s (.int .i64 0))), none⟩] [0, 1])
  s72_1)
def e72 : EF := ⟨19, b72, [.tmp 4]⟩

def C : Nat → Option EF
  | 13 => some e13
  | 14 => some e14
  | 16 => some e16
  | 19 => some e19
  | 20 => some e20
  | 43 => some e43
  | 44 => some e44
  | 45 => some e45
  | 46 => some e46
  | 47 => some e47
  | 48 => some e48
  | 49 => some e49
  | 50 => some e50
  | 51 => some e51
  | 70 => some e70
  | 71 => some e71
  | 72 => some e72
  | _ => none
end Go.Proofs.Ytfnihfcdoibleaa.Ev.CH
