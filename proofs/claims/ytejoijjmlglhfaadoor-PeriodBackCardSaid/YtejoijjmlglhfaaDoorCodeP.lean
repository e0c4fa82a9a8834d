/- The code of some functions for the small machine (printed by wip/tools/EvPrint.lean); some are known by what they come to. -/
import Derived.Test.YtejoijjmlglhfaaDoorEvKit
import Derived.Lib.ItoaNum
namespace Go.Proofs.YtejoijjmlglhfaaDoor.Ev.CP
open Go
/-- scutage/scutagelaw03.PeriodOrder -/
def h3 : List (List Nat) := [[0, 1], [0, 1], [0, 1, 5, 6], [4], [4]]
def s3_3 : EC := (.seq (.ops [⟨(some 15), .mov (.t 0), none⟩,
    ⟨(some 16), .mov (.t 1), none⟩,
    ⟨(some 17), .bin .lss (.t 15) (.t 16), none⟩,
    ⟨(some 18), .mov (.t 5), none⟩,
    ⟨(some 19), .mov (.t 6), none⟩,
    ⟨(some 20), .bin .lss (.t 18) (.t 19), none⟩,
    ⟨(some 21), .eqb false (.t 17) (.t 20), none⟩,
    ⟨(some 22), .mov (.t 21), none⟩,
    ⟨(some 23), .mov (.t 0), (some (22, true))⟩,
    ⟨(some 24), .mov (.t 1), (some (22, true))⟩,
    ⟨(some 25), .bin .eql (.t 23) (.t 24), (some (22, true))⟩,
    ⟨(some 26), .mov (.t 5), (some (22, true))⟩,
    ⟨(some 27), .mov (.t 6), (some (22, true))⟩,
    ⟨(some 28), .bin .eql (.t 26) (.t 27), (some (22, true))⟩,
    ⟨(some 29), .eqb false (.t 25) (.t 28), (some (22, true))⟩,
    ⟨(some 30), .pick (.t 22) (.t 29) (.c (.s (.bool false))), none⟩,
    ⟨(some 31), .mov (.t 30), none⟩,
    ⟨(some 32), .mov (.t 0), (some (31, true))⟩,
    ⟨(some 33), .mov (.t 1), (some (31, true))⟩,
    ⟨(some 34), .bin .gtr (.t 32) (.t 33), (some (31, true))⟩,
    ⟨(some 35), .mov (.t 34), (some (31, true))⟩,
    ⟨(some 36), .mov (.t 0), (some (35, false))⟩,
    ⟨(some 37), .call 9 [(.t 36)], (some (35, false))⟩,
    ⟨(some 38), .mov (.t 1), (some (35, false))⟩,
    ⟨(some 39), .call 9 [(.t 38)], (some (35, false))⟩,
    ⟨(some 40), .bin .leq (.t 37) (.t 39), (some (35, false))⟩,
    ⟨(some 41), .pick (.t 35) (.c (.s (.bool true))) (.t 40), (some (31, true))⟩,
    ⟨(some 42), .pick (.t 31) (.t 41) (.c (.s (.bool false))), none⟩,
    ⟨(some 43), .mov (.t 42), none⟩,
    ⟨(some 44), .mov (.t 0), (some (43, true))⟩,
    ⟨(some 45), .call 9 [(.t 44)], (some (43, true))⟩,
    ⟨(some 46), .call 10 [(.t 45)], (some (43, true))⟩,
    ⟨(some 47), .mov (.t 0), (some (43, true))⟩,
    ⟨(some 48), .bin .leq (.t 46) (.t 47), (some (43, true))⟩,
    ⟨(some 49), .pick (.t 43) (.t 48) (.c (.s (.bool false))), none⟩,
    ⟨(some 50), .mov (.t 49), none⟩,
    ⟨(some 51), .mov (.t 0), (some (50, true))⟩,
    ⟨(some 52), .mov (.t 0), (some (50, true))⟩,
    ⟨(some 53), .call 9 [(.t 52)], (some (50, true))⟩,
    ⟨(some 54), .call 10 [(.t 53)], (some (50, true))⟩,
    ⟨(some 55), .bin .add (.t 54) (.c (.s (.int .i64 4))), (some (50, true))⟩,
    ⟨(some 56), .bin .lss (.t 51) (.t 55), (some (50, true))⟩,
    ⟨(some 57), .pick (.t 50) (.t 56) (.c (.s (.bool false))), none⟩,
    ⟨(some 58), .mov (.t 57), none⟩,
    ⟨(some 59), .call 11 [], (some (58, true))⟩,
    ⟨(some 60), .pick (.t 58) (.t 59) (.c (.s (.bool false))), none⟩,
    ⟨(some 4), .mov (.t 60), none⟩] [4])
  (.ret [4]))
def s3_2 : EC := (.seq (.ops [⟨(some 11), .mov (.t 0), none⟩,
    ⟨(some 12), .call 8 [(.t 11)], none⟩,
    ⟨(some 13), .mov (.t 1), none⟩,
    ⟨(some 14), .call 8 [(.t 13)], none⟩,
    ⟨(some 5), .mov (.t 12), none⟩,
    ⟨(some 6), .mov (.t 14), none⟩] [0, 1, 5, 6])
  s3_3)
def s3_1 : EC := (.seq (.ops [⟨(some 7), .mov (.t 0), none⟩,
    ⟨(some 8), .call 7 [(.t 7), (.c (.s (.int .i64 400)))], none⟩,
    ⟨(some 9), .mov (.t 1), none⟩,
    ⟨(some 10), .call 7 [(.t 9), (.c (.s (.int .i64 400)))], none⟩,
    ⟨(some 0), .mov (.t 8), none⟩,
    ⟨(some 1), .mov (.t 10), none⟩] [0, 1])
  s3_2)
def b3 : EC := (.seq (.ops [⟨(some 4), .mov (.c (.s (.bool false))), none⟩] [0, 1])
  s3_1)
def e3 : EF := ⟨61, b3, [.tmp 4]⟩

/-- scutage/scutagelaw03.PeriodYears -/
def h4 : List (List Nat) := [[0], [0], [0, 3], [0, 3, 4], [0, 3, 4], [0, 3, 4, 11], [0, 3], [0, 3, 4, 5], [0, 3, 4, 49], [2], [2], [0, 3, 4], [2], [2]]
def l4_0_1 : EC := (.seq (.block 1 (.seq (.ops [⟨(some 14), .mov (.t 3), none⟩,
    ⟨(some 15), .mov (.t 4), none⟩,
    ⟨(some 16), .bin .add (.t 14) (.t 15), none⟩,
    ⟨(some 17), .call 8 [(.t 16)], none⟩,
    ⟨(some 5), .mov (.t 17), none⟩] [0, 3, 4, 5])
  (.seq (.draw [⟨(some 18), .mov (.t 3), none⟩,
    ⟨(some 19), .mov (.t 4), none⟩,
    ⟨(some 20), .bin .add (.t 18) (.t 19), none⟩,
    ⟨(some 21), .call 12 [(.t 20)], none⟩,
    ⟨(some 22), .un .not (.t 21), none⟩,
    ⟨(some 23), .mov (.t 22), none⟩,
    ⟨(some 24), .mov (.t 3), (some (23, false))⟩,
    ⟨(some 25), .mov (.t 4), (some (23, false))⟩,
    ⟨(some 26), .bin .add (.t 24) (.t 25), (some (23, false))⟩,
    ⟨(some 27), .call 9 [(.t 26)], (some (23, false))⟩,
    ⟨(some 28), .mov (.t 0), (some (23, false))⟩,
    ⟨(some 29), .bin .neq (.t 27) (.t 28), (some (23, false))⟩,
    ⟨(some 30), .pick (.t 23) (.c (.s (.bool true))) (.t 29), none⟩,
    ⟨(some 31), .mov (.t 30), none⟩,
    ⟨(some 32), .mov (.t 5), (some (31, false))⟩,
    ⟨(some 33), .slen (.t 32), (some (31, false))⟩,
    ⟨(some 34), .bin .neq (.t 33) (.c (.s (.int .i64 6))), (some (31, false))⟩,
    ⟨(some 35), .pick (.t 31) (.c (.s (.bool true))) (.t 34), none⟩,
    ⟨(some 36), .mov (.t 35), none⟩,
    ⟨(some 37), .mov (.t 5), (some (36, false))⟩,
    ⟨(some 38), .subs (.t 37) none (some (.c (.s (.int .i64 2)))), (some (36, false))⟩,
    ⟨(some 39), .bin .neq (.t 38) (.c (.s (.str ⟨#[50, 48]⟩))), (some (36, false))⟩,
    ⟨(some 40), .pick (.t 36) (.c (.s (.bool true))) (.t 39), none⟩,
    ⟨(some 41), .mov (.t 40), none⟩,
    ⟨(some 42), .mov (.t 5), (some (41, false))⟩,
    ⟨(some 43), .subs (.t 42) (some (.c (.s (.int .i64 4)))) none, (some (41, false))⟩,
    ⟨(some 44), .bsl 9 4 [(.str ⟨#[]⟩)] [(0, 1, (.c (.s (.str ⟨#[113, 49]⟩)))), (1, 1, (.c (.s (.str ⟨#[113, 50]⟩)))), (2, 1, (.c (.s (.str ⟨#[113, 51]⟩)))), (3, 1, (.c (.s (.str ⟨#[113, 52]⟩))))], (some (41, false))⟩,
    ⟨(some 45), .mov (.t 4), (some (41, false))⟩,
    ⟨(some 46), .iad 9 1 (.t 44) (.t 45), (some (41, false))⟩,
    ⟨(some 47), .load false 1 (.t 46), (some (41, false))⟩,
    ⟨(some 48), .bin .neq (.t 43) (.t 47), (some (41, false))⟩,
    ⟨(some 49), .pick (.t 41) (.c (.s (.bool true))) (.t 48), none⟩] [] [0, 3, 4, 49])
  (.cond (.t 49) (.seq (.ops [⟨(some 2), .mov (.c (.s (.bool false))), none⟩] [2])
  (.ret [2]))
  .skip))))
  (.ops [⟨(some 12), .mov (.t 4), none⟩,
    ⟨(some 13), .bin .add (.t 12) (.c (.s (.int .i64 1))), none⟩,
    ⟨(some 4), .mov (.t 13), none⟩] [0, 3, 4]))
def l4_0 : EC := (.seq (.seq (.ops [⟨(some 10), .mov (.t 4), none⟩,
    ⟨(some 11), .bin .lss (.t 10) (.c (.s (.int .i64 4))), none⟩] [0, 3, 4, 11])
  (.cond (.t 11) .skip
  (.exit 0 [0, 3])))
  l4_0_1)
def s4_4 : EC := (.seq (.ops [⟨(some 50), .mov (.t 3), none⟩,
    ⟨(some 51), .bin .sub (.t 50) (.c (.s (.int .i64 1))), none⟩,
    ⟨(some 52), .call 9 [(.t 51)], none⟩,
    ⟨(some 53), .mov (.t 0), none⟩,
    ⟨(some 54), .bin .sub (.t 53) (.c (.s (.int .i64 1))), none⟩,
    ⟨(some 55), .bin .eql (.t 52) (.t 54), none⟩,
    ⟨(some 56), .mov (.t 55), none⟩,
    ⟨(some 57), .call 9 [(.c (.s (.int .i64 400)))], (some (56, true))⟩,
    ⟨(some 58), .bin .eql (.t 57) (.c (.s (.int .i64 (-1)))), (some (56, true))⟩,
    ⟨(some 59), .pick (.t 56) (.t 58) (.c (.s (.bool false))), none⟩,
    ⟨(some 60), .mov (.t 59), none⟩,
    ⟨(some 61), .call 9 [(.c (.s (.int .i64 (-5))))], (some (60, true))⟩,
    ⟨(some 62), .bin .eql (.t 61) (.c (.s (.int .i64 (-1)))), (some (60, true))⟩,
    ⟨(some 63), .pick (.t 60) (.t 62) (.c (.s (.bool false))), none⟩,
    ⟨(some 64), .mov (.t 63), none⟩,
    ⟨(some 65), .call 10 [(.c (.s (.int .i64 (-1))))], (some (64, true))⟩,
    ⟨(some 66), .bin .eql (.t 65) (.c (.s (.int .i64 (-1)))), (some (64, true))⟩,
    ⟨(some 67), .pick (.t 64) (.t 66) (.c (.s (.bool false))), none⟩,
    ⟨(some 68), .mov (.t 67), none⟩,
    ⟨(some 69), .call 10 [(.c (.s (.int .i64 100)))], (some (68, true))⟩,
    ⟨(some 70), .bin .eql (.t 69) (.c (.s (.int .i64 (-1)))), (some (68, true))⟩,
    ⟨(some 71), .pick (.t 68) (.t 70) (.c (.s (.bool false))), none⟩,
    ⟨(some 72), .mov (.t 71), none⟩,
    ⟨(some 73), .call 11 [], (some (72, true))⟩,
    ⟨(some 74), .pick (.t 72) (.t 73) (.c (.s (.bool false))), none⟩,
    ⟨(some 2), .mov (.t 74), none⟩] [2])
  (.ret [2]))
def s4_3 : EC := (.seq (.seq (.ops [⟨(some 4), .mov (.c (.s (.int .i64 0))), none⟩] [0, 3, 4])
  (.block 0 (.loop [0, 3, 4] l4_0)))
  s4_4)
def s4_2 : EC := (.seq (.ops [⟨(some 8), .mov (.t 0), none⟩,
    ⟨(some 9), .call 10 [(.t 8)], none⟩,
    ⟨(some 3), .mov (.t 9), none⟩] [0, 3])
  s4_3)
def s4_1 : EC := (.seq (.ops [⟨(some 6), .mov (.t 0), none⟩,
    ⟨(some 7), .call 7 [(.t 6), (.c (.s (.int .i64 100)))], none⟩,
    ⟨(some 0), .mov (.t 7), none⟩] [0])
  s4_2)
def b4 : EC := (.seq (.ops [⟨(some 2), .mov (.c (.s (.bool false))), none⟩] [0])
  s4_1)
def e4 : EF := ⟨75, b4, [.tmp 2]⟩

/-- scutage/scutagelaw03.PeriodBack -/
def h5 : List (List Nat) := [[0, 1, 2], [0, 1, 2], [0, 1, 2, 7], [0, 1, 2, 7, 8, 9], [0, 1, 2, 7, 37], [6], [6], [0, 1, 2, 7], [0, 7, 10], [0, 7, 10, 11, 12], [0, 7, 10, 11, 12, 14], [0, 7, 10, 11, 12, 14, 16], [6], [6]]
def s5_10 : EC := (.seq (.ops [⟨(some 69), .mov (.t 12), none⟩,
    ⟨(some 70), .un .not (.t 69), none⟩,
    ⟨(some 71), .mov (.t 70), none⟩,
    ⟨(some 72), .mov (.t 11), (some (71, false))⟩,
    ⟨(some 73), .call 8 [(.t 72)], (some (71, false))⟩,
    ⟨(some 74), .mov (.t 10), (some (71, false))⟩,
    ⟨(some 75), .bin .eql (.t 73) (.t 74), (some (71, false))⟩,
    ⟨(some 76), .pick (.t 71) (.c (.s (.bool true))) (.t 75), none⟩,
    ⟨(some 77), .mov (.t 76), none⟩,
    ⟨(some 78), .mov (.t 10), (some (77, true))⟩,
    ⟨(some 79), .mov (.t 7), (some (77, true))⟩,
    ⟨(some 80), .bin .eql (.t 78) (.t 79), (some (77, true))⟩,
    ⟨(some 81), .mov (.t 12), (some (77, true))⟩,
    ⟨(some 82), .mov (.t 81), (some (77, true))⟩,
    ⟨(some 83), .mov (.t 11), (some (82, true))⟩,
    ⟨(some 84), .mov (.t 0), (some (82, true))⟩,
    ⟨(some 85), .bin .eql (.t 83) (.t 84), (some (82, true))⟩,
    ⟨(some 86), .pick (.t 82) (.t 85) (.c (.s (.bool false))), (some (77, true))⟩,
    ⟨(some 87), .eqb false (.t 80) (.t 86), (some (77, true))⟩,
    ⟨(some 88), .pick (.t 77) (.t 87) (.c (.s (.bool false))), none⟩,
    ⟨(some 89), .mov (.t 88), none⟩,
    ⟨(some 90), .mov (.t 14), (some (89, true))⟩,
    ⟨(some 91), .un .not (.t 90), (some (89, true))⟩,
    ⟨(some 92), .pick (.t 89) (.t 91) (.c (.s (.bool false))), none⟩,
    ⟨(some 93), .mov (.t 92), none⟩,
    ⟨(some 94), .mov (.t 16), (some (93, true))⟩,
    ⟨(some 95), .un .not (.t 94), (some (93, true))⟩,
    ⟨(some 96), .pick (.t 93) (.t 95) (.c (.s (.bool false))), none⟩,
    ⟨(some 97), .mov (.t 96), none⟩,
    ⟨(some 98), .call 11 [], (some (97, true))⟩,
    ⟨(some 99), .pick (.t 97) (.t 98) (.c (.s (.bool false))), none⟩,
    ⟨(some 6), .mov (.t 99), none⟩] [6])
  (.ret [6]))
def s5_9 : EC := (.seq (.ops [⟨(some 64), .mov (.t 7), none⟩,
    ⟨(some 65), .bin .add (.t 64) (.c (.s (.str ⟨#[48]⟩))), none⟩,
    ⟨(some 66), .call 13 [(.t 65)], none⟩,
    ⟨(some 63), .mov (.t 66), none⟩,
    ⟨(some 67), .ext (.t 63) 0, none⟩,
    ⟨(some 68), .ext (.t 63) 1, none⟩,
    ⟨(some 15), .mov (.t 67), none⟩,
    ⟨(some 16), .mov (.t 68), none⟩] [0, 7, 10, 11, 12, 14, 16])
  s5_10)
def s5_8 : EC := (.seq (.ops [⟨(some 58), .mov (.t 7), none⟩,
    ⟨(some 59), .subs (.t 58) none (some (.c (.s (.int .i64 5)))), none⟩,
    ⟨(some 60), .call 13 [(.t 59)], none⟩,
    ⟨(some 57), .mov (.t 60), none⟩,
    ⟨(some 61), .ext (.t 57) 0, none⟩,
    ⟨(some 62), .ext (.t 57) 1, none⟩,
    ⟨(some 13), .mov (.t 61), none⟩,
    ⟨(some 14), .mov (.t 62), none⟩] [0, 7, 10, 11, 12, 14])
  s5_9)
def s5_7 : EC := (.seq (.ops [⟨(some 53), .mov (.t 10), none⟩,
    ⟨(some 54), .call 13 [(.t 53)], none⟩,
    ⟨(some 52), .mov (.t 54), none⟩,
    ⟨(some 55), .ext (.t 52) 0, none⟩,
    ⟨(some 56), .ext (.t 52) 1, none⟩,
    ⟨(some 11), .mov (.t 55), none⟩,
    ⟨(some 12), .mov (.t 56), none⟩] [0, 7, 10, 11, 12])
  s5_8)
def s5_6 : EC := (.seq (.draw [⟨(some 40), .mov (.t 7), none⟩,
    ⟨(some 41), .mov (.t 1), none⟩,
    ⟨(some 42), .subs (.t 40) none (some (.t 41)), none⟩,
    ⟨(some 43), .mov (.t 2), none⟩,
    ⟨(some 44), .bsl 5 1 [(.int .u8 0)] [(0, 1, (.t 43))], none⟩,
    ⟨(some 45), .b2s 5 (.t 44), none⟩,
    ⟨(some 46), .bin .add (.t 42) (.t 45), none⟩,
    ⟨(some 47), .mov (.t 7), none⟩,
    ⟨(some 48), .mov (.t 1), none⟩,
    ⟨(some 49), .bin .add (.t 48) (.c (.s (.int .i64 1))), none⟩,
    ⟨(some 50), .subs (.t 47) (some (.t 49)) none, none⟩,
    ⟨(some 51), .bin .add (.t 46) (.t 50), none⟩,
    ⟨(some 10), .mov (.t 51), none⟩] [] [0, 7, 10])
  s5_7)
def s5_5 : EC := (.seq (.ops [⟨(some 38), .mov (.t 1), none⟩,
    ⟨(some 39), .call 7 [(.t 38), (.c (.s (.int .i64 6)))], none⟩,
    ⟨(some 1), .mov (.t 39), none⟩] [0, 1, 2, 7])
  s5_6)
def s5_4 : EC := (.seq (.seq (.ops [⟨(some 26), .mov (.t 9), none⟩,
    ⟨(some 27), .un .not (.t 26), none⟩,
    ⟨(some 28), .mov (.t 27), none⟩,
    ⟨(some 29), .mov (.t 8), (some (28, false))⟩,
    ⟨(some 30), .mov (.t 0), (some (28, false))⟩,
    ⟨(some 31), .bin .neq (.t 29) (.t 30), (some (28, false))⟩,
    ⟨(some 32), .pick (.t 28) (.c (.s (.bool true))) (.t 31), none⟩,
    ⟨(some 33), .mov (.t 32), none⟩,
    ⟨(some 34), .mov (.t 7), (some (33, false))⟩,
    ⟨(some 35), .slen (.t 34), (some (33, false))⟩,
    ⟨(some 36), .bin .neq (.t 35) (.c (.s (.int .i64 6))), (some (33, false))⟩,
    ⟨(some 37), .pick (.t 33) (.c (.s (.bool true))) (.t 36), none⟩] [0, 1, 2, 7, 37])
  (.cond (.t 37) (.seq (.ops [⟨(some 6), .mov (.c (.s (.bool false))), none⟩] [6])
  (.ret [6]))
  .skip))
  s5_5)
def s5_3 : EC := (.seq (.ops [⟨(some 22), .mov (.t 7), none⟩,
    ⟨(some 23), .call 13 [(.t 22)], none⟩,
    ⟨(some 21), .mov (.t 23), none⟩,
    ⟨(some 24), .ext (.t 21) 0, none⟩,
    ⟨(some 25), .ext (.t 21) 1, none⟩,
    ⟨(some 8), .mov (.t 24), none⟩,
    ⟨(some 9), .mov (.t 25), none⟩] [0, 1, 2, 7, 8, 9])
  s5_4)
def s5_2 : EC := (.seq (.ops [⟨(some 19), .mov (.t 0), none⟩,
    ⟨(some 20), .call 8 [(.t 19)], none⟩,
    ⟨(some 7), .mov (.t 20), none⟩] [0, 1, 2, 7])
  s5_3)
def s5_1 : EC := (.seq (.ops [⟨(some 17), .mov (.t 0), none⟩,
    ⟨(some 18), .call 7 [(.t 17), (.c (.s (.int .i64 400)))], none⟩,
    ⟨(some 0), .mov (.t 18), none⟩] [0, 1, 2])
  s5_2)
def b5 : EC := (.seq (.ops [⟨(some 6), .mov (.c (.s (.bool false))), none⟩] [0, 1, 2])
  s5_1)
def e5 : EF := ⟨100, b5, [.tmp 6]⟩

/-- scutage/scutagelaw03.PeriodTells -/
def h6 : List (List Nat) := [[0, 1, 2, 3], [0, 1, 2, 16], [0, 1, 2], [0, 1, 2], [0, 1, 2, 9], [0, 1, 2, 9, 28], [0, 1, 2, 9], [2, 55], [8], [8], [2], [2, 10, 11], [2, 10, 11, 12], [2, 10, 11, 12], [2, 10, 11, 12, 59], [2, 10, 11], [2, 10, 11, 12, 65], [2, 10, 11, 12], [2, 10, 11, 12], [10, 11, 13, 14], [8], [8]]
def l6_0_1 : EC := (.seq (.block 1 (.seq (.ops [⟨(some 62), .mov (.t 12), none⟩,
    ⟨(some 63), .call 16 [(.t 62)], none⟩,
    ⟨(some 64), .mov (.t 2), none⟩,
    ⟨(some 65), .bin .eql (.t 63) (.t 64), none⟩] [2, 10, 11, 12, 65])
  (.cond (.t 65) (.ops [⟨(some 66), .mov (.t 12), none⟩,
    ⟨(some 10), .mov (.t 66), none⟩,
    ⟨(some 11), .mov (.c (.s (.bool true))), none⟩] [2, 10, 11, 12])
  .skip)))
  (.ops [⟨(some 60), .mov (.t 12), none⟩,
    ⟨(some 61), .bin .add (.t 60) (.c (.s (.int .i64 1))), none⟩,
    ⟨(some 12), .mov (.t 61), none⟩] [2, 10, 11, 12]))
def l6_0 : EC := (.seq (.seq (.ops [⟨(some 58), .mov (.t 12), none⟩,
    ⟨(some 59), .bin .leq (.t 58) (.c (.s (.int .i64 399))), none⟩] [2, 10, 11, 12, 59])
  (.cond (.t 59) .skip
  (.exit 0 [2, 10, 11])))
  l6_0_1)
def s6_9 : EC := (.seq (.ops [⟨(some 72), .mov (.t 13), none⟩,
    ⟨(some 73), .mov (.t 10), none⟩,
    ⟨(some 74), .bin .eql (.t 72) (.t 73), none⟩,
    ⟨(some 75), .mov (.t 74), none⟩,
    ⟨(some 76), .mov (.t 14), (some (75, true))⟩,
    ⟨(some 77), .mov (.t 11), (some (75, true))⟩,
    ⟨(some 78), .eqb false (.t 76) (.t 77), (some (75, true))⟩,
    ⟨(some 79), .pick (.t 75) (.t 78) (.c (.s (.bool false))), none⟩,
    ⟨(some 80), .mov (.t 79), none⟩,
    ⟨(some 81), .call 11 [], (some (80, true))⟩,
    ⟨(some 82), .pick (.t 80) (.t 81) (.c (.s (.bool false))), none⟩,
    ⟨(some 8), .mov (.t 82), none⟩] [8])
  (.ret [8]))
def s6_8 : EC := (.seq (.ops [⟨(some 68), .mov (.t 2), none⟩,
    ⟨(some 69), .call 13 [(.t 68)], none⟩,
    ⟨(some 67), .mov (.t 69), none⟩,
    ⟨(some 70), .ext (.t 67) 0, none⟩,
    ⟨(some 71), .ext (.t 67) 1, none⟩,
    ⟨(some 13), .mov (.t 70), none⟩,
    ⟨(some 14), .mov (.t 71), none⟩] [10, 11, 13, 14])
  s6_9)
def s6_7 : EC := (.seq (.seq (.ops [⟨(some 12), .mov (.c (.s (.int .i64 0))), none⟩] [2, 10, 11, 12])
  (.block 0 (.loop [2, 10, 11, 12] l6_0)))
  s6_8)
def s6_6 : EC := (.seq (.ops [⟨(some 10), .mov (.c (.s (.int .i64 0))), none⟩,
    ⟨(some 11), .mov (.c (.s (.bool false))), none⟩] [2, 10, 11])
  s6_7)
def s6_5 : EC := (.seq (.ops [⟨(some 56), .mov (.t 2), none⟩,
    ⟨(some 57), .call 17 [(.t 56), (.c (.s (.int .i64 8)))], none⟩,
    ⟨(some 2), .mov (.t 57), none⟩] [2])
  s6_6)
def s6_4 : EC := (.seq (.seq (.ops [⟨(some 31), .mov (.t 0), none⟩,
    ⟨(some 32), .call 12 [(.t 31)], none⟩,
    ⟨(some 33), .mov (.t 0), none⟩,
    ⟨(some 34), .call 14 [(.t 33)], none⟩,
    ⟨(some 35), .eqb true (.t 32) (.t 34), none⟩,
    ⟨(some 36), .mov (.t 35), none⟩,
    ⟨(some 37), .mov (.t 0), (some (36, false))⟩,
    ⟨(some 38), .call 9 [(.t 37)], (some (36, false))⟩,
    ⟨(some 39), .mov (.t 0), (some (36, false))⟩,
    ⟨(some 40), .call 15 [(.t 39)], (some (36, false))⟩,
    ⟨(some 41), .bin .neq (.t 38) (.t 40), (some (36, false))⟩,
    ⟨(some 42), .pick (.t 36) (.c (.s (.bool true))) (.t 41), none⟩,
    ⟨(some 43), .mov (.t 42), none⟩,
    ⟨(some 44), .mov (.t 0), (some (43, false))⟩,
    ⟨(some 45), .call 8 [(.t 44)], (some (43, false))⟩,
    ⟨(some 46), .mov (.t 0), (some (43, false))⟩,
    ⟨(some 47), .call 16 [(.t 46)], (some (43, false))⟩,
    ⟨(some 48), .bin .neq (.t 45) (.t 47), (some (43, false))⟩,
    ⟨(some 49), .pick (.t 43) (.c (.s (.bool true))) (.t 48), none⟩,
    ⟨(some 50), .mov (.t 49), none⟩,
    ⟨(some 51), .mov (.t 1), (some (50, false))⟩,
    ⟨(some 52), .call 10 [(.t 51)], (some (50, false))⟩,
    ⟨(some 53), .mov (.t 9), (some (50, false))⟩,
    ⟨(some 54), .bin .neq (.t 52) (.t 53), (some (50, false))⟩,
    ⟨(some 55), .pick (.t 50) (.c (.s (.bool true))) (.t 54), none⟩] [2, 55])
  (.cond (.t 55) (.seq (.ops [⟨(some 8), .mov (.c (.s (.bool false))), none⟩] [8])
  (.ret [8]))
  .skip))
  s6_5)
def s6_3 : EC := (.seq (.seq (.ops [⟨(some 23), .mov (.t 1), none⟩,
    ⟨(some 24), .bin .geq (.t 23) (.c (.s (.int .i64 0))), none⟩,
    ⟨(some 25), .mov (.t 24), none⟩,
    ⟨(some 26), .mov (.t 1), (some (25, true))⟩,
    ⟨(some 27), .bin .leq (.t 26) (.c (.s (.int .i64 99))), (some (25, true))⟩,
    ⟨(some 28), .pick (.t 25) (.t 27) (.c (.s (.bool false))), none⟩] [0, 1, 2, 9, 28])
  (.cond (.t 28) (.ops [⟨(some 29), .mov (.t 1), none⟩,
    ⟨(some 30), .bin .mul (.c (.s (.int .i64 4))) (.t 29), none⟩,
    ⟨(some 9), .mov (.t 30), none⟩] [0, 1, 2, 9])
  .skip))
  s6_4)
def s6_2 : EC := (.seq (.ops [⟨(some 9), .mov (.c (.s (.int .i64 (-1)))), none⟩] [0, 1, 2, 9])
  s6_3)
def s6_1 : EC := (.seq (.seq (.ops [⟨(some 15), .mov (.t 3), none⟩,
    ⟨(some 16), .un .not (.t 15), none⟩] [0, 1, 2, 16])
  (.cond (.t 16) (.seq (.ops [⟨(some 17), .mov (.t 0), none⟩,
    ⟨(some 18), .call 7 [(.t 17), (.c (.s (.int .i64 402)))], none⟩,
    ⟨(some 19), .bin .sub (.t 18) (.c (.s (.int .i64 1))), none⟩,
    ⟨(some 0), .mov (.t 19), none⟩] [0, 1, 2])
  (.ops [⟨(some 20), .mov (.t 1), none⟩,
    ⟨(some 21), .call 7 [(.t 20), (.c (.s (.int .i64 102)))], none⟩,
    ⟨(some 22), .bin .sub (.t 21) (.c (.s (.int .i64 1))), none⟩,
    ⟨(some 1), .mov (.t 22), none⟩] [0, 1, 2]))
  .skip))
  s6_2)
def b6 : EC := (.seq (.ops [⟨(some 8), .mov (.c (.s (.bool false))), none⟩] [0, 1, 2, 3])
  s6_1)
def e6 : EF := ⟨83, b6, [.tmp 8]⟩

/-- scutage/scutagekeep.Within -/
def h7 : List (List Nat) := [[0, 1], [0, 1, 7], [4], [4], [1, 5], [1, 5, 12], [5], [4], [4]]
def s7_4 : EC := (.seq (.ops [⟨(some 16), .mov (.t 5), none⟩,
    ⟨(some 4), .mov (.t 16), none⟩] [4])
  (.ret [4]))
def s7_3 : EC := (.seq (.seq (.ops [⟨(some 11), .mov (.t 5), none⟩,
    ⟨(some 12), .bin .lss (.t 11) (.c (.s (.int .i64 0))), none⟩] [1, 5, 12])
  (.cond (.t 12) (.ops [⟨(some 13), .mov (.t 5), none⟩,
    ⟨(some 14), .mov (.t 1), none⟩,
    ⟨(some 15), .bin .add (.t 13) (.t 14), none⟩,
    ⟨(some 5), .mov (.t 15), none⟩] [5])
  .skip))
  s7_4)
def s7_2 : EC := (.seq (.ops [⟨(some 8), .mov (.t 0), none⟩,
    ⟨(some 9), .mov (.t 1), none⟩,
    ⟨(some 10), .bin .rem (.t 8) (.t 9), none⟩,
    ⟨(some 5), .mov (.t 10), none⟩] [1, 5])
  s7_3)
def s7_1 : EC := (.seq (.seq (.ops [⟨(some 6), .mov (.t 1), none⟩,
    ⟨(some 7), .bin .lss (.t 6) (.c (.s (.int .i64 1))), none⟩] [0, 1, 7])
  (.cond (.t 7) (.seq (.ops [⟨(some 4), .mov (.c (.s (.int .i64 0))), none⟩] [4])
  (.ret [4]))
  .skip))
  s7_2)
def b7 : EC := (.seq (.ops [⟨(some 4), .mov (.c (.s (.int .i64 0))), none⟩] [0, 1])
  s7_1)
def e7 : EF := ⟨17, b7, [.tmp 4]⟩

/-- scutage/period.Text -/
def h8 : List (List Nat) := [[0], [0, 5], [2], [2], [2], [2]]
def s8_2 : EC := (.seq (.ops [⟨(some 6), .mov (.t 0), none⟩,
    ⟨(some 7), .call 9 [(.t 6)], none⟩,
    ⟨(some 8), .bin .add (.c (.s (.int .i64 2000))) (.t 7), none⟩,
    ⟨(some 9), .call 18 [(.t 8)], none⟩,
    ⟨(some 10), .bin .add (.t 9) (.c (.s (.str ⟨#[113]⟩))), none⟩,
    ⟨(some 11), .mov (.t 0), none⟩,
    ⟨(some 12), .bin .rem (.t 11) (.c (.s (.int .i64 4))), none⟩,
    ⟨(some 13), .bin .add (.t 12) (.c (.s (.int .i64 1))), none⟩,
    ⟨(some 14), .call 18 [(.t 13)], none⟩,
    ⟨(some 15), .bin .add (.t 10) (.t 14), none⟩,
    ⟨(some 2), .mov (.t 15), none⟩] [2])
  (.ret [2]))
def s8_1 : EC := (.seq (.seq (.ops [⟨(some 3), .mov (.t 0), none⟩,
    ⟨(some 4), .call 12 [(.t 3)], none⟩,
    ⟨(some 5), .un .not (.t 4), none⟩] [0, 5])
  (.cond (.t 5) (.seq (.ops [⟨(some 2), .mov (.c (.s (.str ⟨#[]⟩))), none⟩] [2])
  (.ret [2]))
  .skip))
  s8_2)
def b8 : EC := (.seq (.ops [⟨(some 2), .mov (.c (.s (.str ⟨#[]⟩))), none⟩] [0])
  s8_1)
def e8 : EF := ⟨16, b8, [.tmp 2]⟩

/-- scutage/period.Year -/
def h9 : List (List Nat) := [[0], [0, 5], [2], [2], [2], [2]]
def s9_2 : EC := (.seq (.ops [⟨(some 6), .mov (.t 0), none⟩,
    ⟨(some 7), .bin .quo (.t 6) (.c (.s (.int .i64 4))), none⟩,
    ⟨(some 2), .mov (.t 7), none⟩] [2])
  (.ret [2]))
def s9_1 : EC := (.seq (.seq (.ops [⟨(some 3), .mov (.t 0), none⟩,
    ⟨(some 4), .call 12 [(.t 3)], none⟩,
    ⟨(some 5), .un .not (.t 4), none⟩] [0, 5])
  (.cond (.t 5) (.seq (.ops [⟨(some 2), .mov (.c (.s (.int .i64 (-1)))), none⟩] [2])
  (.ret [2]))
  .skip))
  s9_2)
def b9 : EC := (.seq (.ops [⟨(some 2), .mov (.c (.s (.int .i64 0))), none⟩] [0])
  s9_1)
def e9 : EF := ⟨8, b9, [.tmp 2]⟩

/-- scutage/period.First -/
def h10 : List (List Nat) := [[0], [0, 8], [2], [2], [2], [2]]
def s10_2 : EC := (.seq (.ops [⟨(some 9), .mov (.t 0), none⟩,
    ⟨(some 10), .bin .mul (.t 9) (.c (.s (.int .i64 4))), none⟩,
    ⟨(some 2), .mov (.t 10), none⟩] [2])
  (.ret [2]))
def s10_1 : EC := (.seq (.seq (.ops [⟨(some 3), .mov (.t 0), none⟩,
    ⟨(some 4), .bin .lss (.t 3) (.c (.s (.int .i64 0))), none⟩,
    ⟨(some 5), .mov (.t 4), none⟩,
    ⟨(some 6), .mov (.t 0), (some (5, false))⟩,
    ⟨(some 7), .bin .gtr (.t 6) (.c (.s (.int .i64 99))), (some (5, false))⟩,
    ⟨(some 8), .pick (.t 5) (.c (.s (.bool true))) (.t 7), none⟩] [0, 8])
  (.cond (.t 8) (.seq (.ops [⟨(some 2), .mov (.c (.s (.int .i64 (-1)))), none⟩] [2])
  (.ret [2]))
  .skip))
  s10_2)
def b10 : EC := (.seq (.ops [⟨(some 2), .mov (.c (.s (.int .i64 0))), none⟩] [0])
  s10_1)
def e10 : EF := ⟨11, b10, [.tmp 2]⟩

/-- scutage/scutagelaw03.wakes -/
def h11 : List (List Nat) := [[], [0], [0]]
def s11_1 : EC := (.seq (.ops [⟨(some 1), .call 8 [(.c (.s (.int .i64 14)))], none⟩,
    ⟨(some 2), .bin .eql (.t 1) (.c (.s (.str ⟨#[50, 48, 48, 51, 113, 51]⟩))), none⟩,
    ⟨(some 3), .mov (.t 2), none⟩,
    ⟨(some 4), .call 8 [(.c (.s (.int .i64 (-1))))], (some (3, true))⟩,
    ⟨(some 5), .bin .eql (.t 4) (.c (.s (.str ⟨#[]⟩))), (some (3, true))⟩,
    ⟨(some 6), .pick (.t 3) (.t 5) (.c (.s (.bool false))), none⟩,
    ⟨(some 0), .mov (.t 6), none⟩] [0])
  (.ret [0]))
def b11 : EC := (.seq (.ops [⟨(some 0), .mov (.c (.s (.bool false))), none⟩] [])
  s11_1)
def e11 : EF := ⟨7, b11, [.tmp 0]⟩

/-- scutage/period.Right -/
def h12 : List (List Nat) := [[0], [2], [2]]
def s12_1 : EC := (.seq (.ops [⟨(some 3), .mov (.t 0), none⟩,
    ⟨(some 4), .bin .geq (.t 3) (.c (.s (.int .i64 0))), none⟩,
    ⟨(some 5), .mov (.t 4), none⟩,
    ⟨(some 6), .mov (.t 0), (some (5, true))⟩,
    ⟨(some 7), .bin .leq (.t 6) (.c (.s (.int .i64 399))), (some (5, true))⟩,
    ⟨(some 8), .pick (.t 5) (.t 7) (.c (.s (.bool false))), none⟩,
    ⟨(some 2), .mov (.t 8), none⟩] [2])
  (.ret [2]))
def b12 : EC := (.seq (.ops [⟨(some 2), .mov (.c (.s (.bool false))), none⟩] [0])
  s12_1)
def e12 : EF := ⟨9, b12, [.tmp 2]⟩

/-- scutage/period.Parse -/
def h13 : List (List Nat) := [[0], [0, 5], [0, 5], [0, 5, 6], [], [0, 4, 5], [0, 4, 5, 11], [2, 3], [2, 3], [0, 5], [2, 3], [2, 3]]
def l13_0_2 : EC := (.seq (.block 1 (.seq (.ops [⟨(some 7), .mov (.t 5), none⟩,
    ⟨(some 4), .mov (.t 7), none⟩] [0, 4, 5])
  (.seq (.ops [⟨(some 8), .mov (.t 4), none⟩,
    ⟨(some 9), .call 8 [(.t 8)], none⟩,
    ⟨(some 10), .mov (.t 0), none⟩,
    ⟨(some 11), .bin .eql (.t 9) (.t 10), none⟩] [0, 4, 5, 11])
  (.cond (.t 11) (.seq (.ops [⟨(some 12), .mov (.t 4), none⟩,
    ⟨(some 2), .mov (.t 12), none⟩,
    ⟨(some 3), .mov (.c (.s (.bool true))), none⟩] [2, 3])
  (.ret [2, 3]))
  .skip))))
  (.ops [⟨(some 13), .bin .add (.t 5) (.c (.s (.int .i64 1))), none⟩,
    ⟨(some 5), .mov (.t 13), none⟩] [0, 5]))
def l13_0_1 : EC := (.seq (.cond (.t 6) .skip
  (.exit 0 []))
  l13_0_2)
def l13_0 : EC := (.seq (.ops [⟨(some 6), .bin .lss (.t 5) (.c (.s (.int .i64 400))), none⟩] [0, 5, 6])
  l13_0_1)
def s13_2 : EC := (.seq (.ops [⟨(some 2), .mov (.c (.s (.int .i64 0))), none⟩,
    ⟨(some 3), .mov (.c (.s (.bool false))), none⟩] [2, 3])
  (.ret [2, 3]))
def s13_1 : EC := (.seq (.seq (.ops [⟨(some 5), .mov (.c (.s (.int .i64 0))), none⟩] [0, 5])
  (.block 0 (.loop [0, 5] l13_0)))
  s13_2)
def b13 : EC := (.seq (.ops [⟨(some 2), .mov (.c (.s (.int .i64 0))), none⟩,
    ⟨(some 3), .mov (.c (.s (.bool false))), none⟩] [0])
  s13_1)
def e13 : EF := ⟨14, b13, [.tmp 2, .tmp 3]⟩

/-- scutage/scutageref01.Period -/
def h14 : List (List Nat) := [[0], [2], [2]]
def s14_1 : EC := (.seq (.ops [⟨(some 3), .mov (.t 0), none⟩,
    ⟨(some 4), .bin .geq (.t 3) (.c (.s (.int .i64 0))), none⟩,
    ⟨(some 5), .mov (.t 4), none⟩,
    ⟨(some 6), .mov (.t 0), (some (5, true))⟩,
    ⟨(some 7), .bin .leq (.t 6) (.c (.s (.int .i64 399))), (some (5, true))⟩,
    ⟨(some 8), .pick (.t 5) (.t 7) (.c (.s (.bool false))), none⟩,
    ⟨(some 2), .mov (.t 8), none⟩] [2])
  (.ret [2]))
def b14 : EC := (.seq (.ops [⟨(some 2), .mov (.c (.s (.bool false))), none⟩] [0])
  s14_1)
def e14 : EF := ⟨9, b14, [.tmp 2]⟩

/-- scutage/scutageref01.Year -/
def h15 : List (List Nat) := [[0], [0, 5], [2], [2], [2], [2]]
def s15_2 : EC := (.seq (.ops [⟨(some 6), .mov (.t 0), none⟩,
    ⟨(some 7), .bin .quo (.t 6) (.c (.s (.int .i64 4))), none⟩,
    ⟨(some 2), .mov (.t 7), none⟩] [2])
  (.ret [2]))
def s15_1 : EC := (.seq (.seq (.ops [⟨(some 3), .mov (.t 0), none⟩,
    ⟨(some 4), .call 14 [(.t 3)], none⟩,
    ⟨(some 5), .un .not (.t 4), none⟩] [0, 5])
  (.cond (.t 5) (.seq (.ops [⟨(some 2), .mov (.c (.s (.int .i64 (-1)))), none⟩] [2])
  (.ret [2]))
  .skip))
  s15_2)
def b15 : EC := (.seq (.ops [⟨(some 2), .mov (.c (.s (.int .i64 0))), none⟩] [0])
  s15_1)
def e15 : EF := ⟨8, b15, [.tmp 2]⟩

/-- scutage/scutageref01.Text -/
def h16 : List (List Nat) := [[0], [0, 6], [2], [2], [0, 3], [2], [2]]
def s16_3 : EC := (.seq (.draw [⟨(some 7), .mov (.t 3), none⟩,
    ⟨(some 8), .mov (.t 0), none⟩,
    ⟨(some 9), .bin .quo (.t 8) (.c (.s (.int .i64 40))), none⟩,
    ⟨(some 10), .subs (.t 7) (some (.t 9)) none, none⟩,
    ⟨(some 11), .subs (.t 10) none (some (.c (.s (.int .i64 1)))), none⟩,
    ⟨(some 12), .bin .add (.c (.s (.str ⟨#[50, 48]⟩))) (.t 11), none⟩,
    ⟨(some 13), .mov (.t 3), none⟩,
    ⟨(some 14), .mov (.t 0), none⟩,
    ⟨(some 15), .bin .quo (.t 14) (.c (.s (.int .i64 4))), none⟩,
    ⟨(some 16), .bin .rem (.t 15) (.c (.s (.int .i64 10))), none⟩,
    ⟨(some 17), .subs (.t 13) (some (.t 16)) none, none⟩,
    ⟨(some 18), .subs (.t 17) none (some (.c (.s (.int .i64 1)))), none⟩,
    ⟨(some 19), .bin .add (.t 12) (.t 18), none⟩,
    ⟨(some 20), .bin .add (.t 19) (.c (.s (.str ⟨#[113]⟩))), none⟩,
    ⟨(some 21), .mov (.t 3), none⟩,
    ⟨(some 22), .mov (.t 0), none⟩,
    ⟨(some 23), .bin .rem (.t 22) (.c (.s (.int .i64 4))), none⟩,
    ⟨(some 24), .bin .add (.t 23) (.c (.s (.int .i64 1))), none⟩,
    ⟨(some 25), .subs (.t 21) (some (.t 24)) none, none⟩,
    ⟨(some 26), .subs (.t 25) none (some (.c (.s (.int .i64 1)))), none⟩,
    ⟨(some 27), .bin .add (.t 20) (.t 26), none⟩,
    ⟨(some 2), .mov (.t 27), none⟩] [] [2])
  (.ret [2]))
def s16_2 : EC := (.seq (.ops [⟨(some 3), .mov (.c (.s (.str ⟨#[48, 49, 50, 51, 52, 53, 54, 55, 56, 57]⟩))), none⟩] [0, 3])
  s16_3)
def s16_1 : EC := (.seq (.seq (.ops [⟨(some 4), .mov (.t 0), none⟩,
    ⟨(some 5), .call 14 [(.t 4)], none⟩,
    ⟨(some 6), .un .not (.t 5), none⟩] [0, 6])
  (.cond (.t 6) (.seq (.ops [⟨(some 2), .mov (.c (.s (.str ⟨#[]⟩))), none⟩] [2])
  (.ret [2]))
  .skip))
  s16_2)
def b16 : EC := (.seq (.ops [⟨(some 2), .mov (.c (.s (.str ⟨#[]⟩))), none⟩] [0])
  s16_1)
def e16 : EF := ⟨28, b16, [.tmp 2]⟩

/-- scutage/scutagekeep.Text -/
def h17 : List (List Nat) := [[0, 1], [4], [4]]
def s17_1 : EC := (.seq (.ops [⟨(some 5), .mov (.t 0), none⟩,
    ⟨(some 6), .mov (.t 0), none⟩,
    ⟨(some 7), .slen (.t 6), none⟩,
    ⟨(some 8), .mov (.t 1), none⟩,
    ⟨(some 9), .mn (.t 7) [(.t 8)], none⟩,
    ⟨(some 10), .subs (.t 5) none (some (.t 9)), none⟩,
    ⟨(some 4), .mov (.t 10), none⟩] [4])
  (.ret [4]))
def b17 : EC := (.seq (.ops [⟨(some 4), .mov (.c (.s (.str ⟨#[]⟩))), none⟩] [0, 1])
  s17_1)
def e17 : EF := ⟨11, b17, [.tmp 4]⟩

/-- strconv.Itoa, by what it comes to. -/
def gItoa : List FV → LH → Option (List FV × LH)
  | [.s (.int .i64 n)], h => if -9223372036854775808 ≤ n ∧ n ≤ 9223372036854775807 then some ([.s (.str ⟨(Lib.itoa n).toArray⟩)], h) else none
  | _, _ => none
def e18 : EF := ⟨1, .ext 1 1 gItoa, (List.range 1).map fun i => .tmp (1 + i)⟩

def C : Nat → Option EF
  | 3 => some e3
  | 4 => some e4
  | 5 => some e5
  | 6 => some e6
  | 7 => some e7
  | 8 => some e8
  | 9 => some e9
  | 10 => some e10
  | 11 => some e11
  | 12 => some e12
  | 13 => some e13
  | 14 => some e14
  | 15 => some e15
  | 16 => some e16
  | 17 => some e17
  | 18 => some e18
  | _ => none

end Go.Proofs.YtejoijjmlglhfaaDoor.Ev.CP
