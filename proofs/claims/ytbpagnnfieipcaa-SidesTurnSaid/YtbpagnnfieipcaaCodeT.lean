/- The code of some functions for the small machine (printed by wip/tools/EvPrint.lean). -/
import Derived.Test.YtbpagnnfieipcaaEvKit
namespace Go.Proofs.Ytbpagnnfieipcaa.Ev.CT
open Go
/-- scutage/scutagelaw04.SidesGreat -/
def h11 : List (List Nat) := [[0, 1], [0, 1], [0, 1, 5], [0, 1, 5, 6], [0, 1, 5, 6], [0, 1, 5, 6, 18], [0, 1, 5], [0, 1, 5, 6], [0, 1, 5, 6], [0, 1, 5], [0, 1, 5, 7], [0, 1, 5, 7, 8], [0, 1, 5, 7, 8], [0, 1, 5, 7, 8, 36], [1, 5, 7], [0, 1, 5, 7, 8], [0, 1, 5, 7, 8], [1, 7, 9], [1, 7, 9, 10, 11], [4], [4]]
def l11_0_1 : EC := (.seq (.block 1 (.ops [⟨(some 21), .mov (.t 5), none⟩,
    ⟨(some 22), .mov (.t 6), none⟩,
    ⟨(some 23), .bin .rem (.t 22) (.c (.s (.int .i64 7))), none⟩,
    ⟨(some 24), .bin .sub (.c (.s (.int .i64 100000000000))) (.t 23), none⟩,
    ⟨(some 25), .call 25 [(.t 24)], none⟩,
    ⟨(some 26), .bsl 36 1 [(.cpl .f64 0 0)] [(0, 1, (.t 25))], none⟩,
    ⟨(some 27), .app 36 1 16 (.t 21) (.t 26), none⟩,
    ⟨(some 5), .mov (.t 27), none⟩] [0, 1, 5, 6]))
  (.ops [⟨(some 19), .mov (.t 6), none⟩,
    ⟨(some 20), .bin .add (.t 19) (.c (.s (.int .i64 1))), none⟩,
    ⟨(some 6), .mov (.t 20), none⟩] [0, 1, 5, 6]))
def l11_0 : EC := (.seq (.seq (.ops [⟨(some 16), .mov (.t 6), none⟩,
    ⟨(some 17), .mov (.t 0), none⟩,
    ⟨(some 18), .bin .lss (.t 16) (.t 17), none⟩] [0, 1, 5, 6, 18])
  (.cond (.t 18) .skip
  (.exit 0 [0, 1, 5])))
  l11_0_1)
def l11_1_1 : EC := (.seq (.block 3 (.ops [⟨(some 39), .mov (.t 7), none⟩,
    ⟨(some 40), .mov (.t 8), none⟩,
    ⟨(some 41), .bin .rem (.t 40) (.c (.s (.int .i64 7))), none⟩,
    ⟨(some 42), .bin .sub (.c (.s (.int .i64 100000000000))) (.t 41), none⟩,
    ⟨(some 43), .bin .add (.t 39) (.t 42), none⟩,
    ⟨(some 7), .mov (.t 43), none⟩] [0, 1, 5, 7, 8]))
  (.ops [⟨(some 37), .mov (.t 8), none⟩,
    ⟨(some 38), .bin .add (.t 37) (.c (.s (.int .i64 1))), none⟩,
    ⟨(some 8), .mov (.t 38), none⟩] [0, 1, 5, 7, 8]))
def l11_1 : EC := (.seq (.seq (.ops [⟨(some 34), .mov (.t 8), none⟩,
    ⟨(some 35), .mov (.t 0), none⟩,
    ⟨(some 36), .bin .lss (.t 34) (.t 35), none⟩] [0, 1, 5, 7, 8, 36])
  (.cond (.t 36) .skip
  (.exit 2 [1, 5, 7])))
  l11_1_1)
def s11_9 : EC := (.seq (.ops [⟨(some 51), .mov (.t 10), none⟩,
    ⟨(some 52), .mov (.t 7), none⟩,
    ⟨(some 53), .bin .eql (.t 51) (.t 52), none⟩,
    ⟨(some 54), .mov (.t 53), none⟩,
    ⟨(some 55), .mov (.t 11), (some (54, true))⟩,
    ⟨(some 56), .mov (.t 1), (some (54, true))⟩,
    ⟨(some 57), .bin .eql (.t 55) (.t 56), (some (54, true))⟩,
    ⟨(some 58), .pick (.t 54) (.t 57) (.c (.s (.bool false))), none⟩,
    ⟨(some 59), .mov (.t 58), none⟩,
    ⟨(some 60), .mov (.t 9), (some (59, true))⟩,
    ⟨(some 61), .call 28 [(.t 60)], (some (59, true))⟩,
    ⟨(some 62), .mov (.t 7), (some (59, true))⟩,
    ⟨(some 63), .mov (.t 1), (some (59, true))⟩,
    ⟨(some 64), .bin .sub (.t 62) (.t 63), (some (59, true))⟩,
    ⟨(some 65), .bin .eql (.t 61) (.t 64), (some (59, true))⟩,
    ⟨(some 66), .pick (.t 59) (.t 65) (.c (.s (.bool false))), none⟩,
    ⟨(some 67), .mov (.t 66), none⟩,
    ⟨(some 68), .call 29 [], (some (67, true))⟩,
    ⟨(some 69), .pick (.t 67) (.t 68) (.c (.s (.bool false))), none⟩,
    ⟨(some 4), .mov (.t 69), none⟩] [4])
  (.ret [4]))
def s11_8 : EC := (.seq (.ops [⟨(some 47), .mov (.t 9), none⟩,
    ⟨(some 48), .call 27 [(.t 47)], none⟩,
    ⟨(some 46), .mov (.t 48), none⟩,
    ⟨(some 49), .ext (.t 46) 0, none⟩,
    ⟨(some 50), .ext (.t 46) 1, none⟩,
    ⟨(some 10), .mov (.t 49), none⟩,
    ⟨(some 11), .mov (.t 50), none⟩] [1, 7, 9, 10, 11])
  s11_9)
def s11_7 : EC := (.seq (.ops [⟨(some 44), .mov (.t 5), none⟩,
    ⟨(some 45), .call 26 [(.t 44)], none⟩,
    ⟨(some 9), .mov (.t 45), none⟩] [1, 7, 9])
  s11_8)
def s11_6 : EC := (.seq (.seq (.ops [⟨(some 8), .mov (.c (.s (.int .i64 0))), none⟩] [0, 1, 5, 7, 8])
  (.block 2 (.loop [0, 1, 5, 7, 8] l11_1)))
  s11_7)
def s11_5 : EC := (.seq (.ops [⟨(some 7), .mov (.c (.s (.int .i64 0))), none⟩] [0, 1, 5, 7])
  s11_6)
def s11_4 : EC := (.seq (.ops [⟨(some 28), .mov (.t 5), none⟩,
    ⟨(some 29), .mov (.t 1), none⟩,
    ⟨(some 30), .un .neg (.t 29), none⟩,
    ⟨(some 31), .call 25 [(.t 30)], none⟩,
    ⟨(some 32), .bsl 36 1 [(.cpl .f64 0 0)] [(0, 1, (.t 31))], none⟩,
    ⟨(some 33), .app 36 1 16 (.t 28) (.t 32), none⟩,
    ⟨(some 5), .mov (.t 33), none⟩] [0, 1, 5])
  s11_5)
def s11_3 : EC := (.seq (.seq (.ops [⟨(some 6), .mov (.c (.s (.int .i64 0))), none⟩] [0, 1, 5, 6])
  (.block 0 (.loop [0, 1, 5, 6] l11_0)))
  s11_4)
def s11_2 : EC := (.seq (.ops [⟨(some 5), .mov (.c (.s .nils)), none⟩] [0, 1, 5])
  s11_3)
def s11_1 : EC := (.seq (.ops [⟨(some 12), .mov (.t 0), none⟩,
    ⟨(some 13), .call 15 [(.t 12), (.c (.s (.int .i64 4000)))], none⟩,
    ⟨(some 14), .mov (.t 1), none⟩,
    ⟨(some 15), .call 15 [(.t 14), (.c (.s (.int .i64 1000)))], none⟩,
    ⟨(some 0), .mov (.t 13), none⟩,
    ⟨(some 1), .mov (.t 15), none⟩] [0, 1])
  s11_2)
def b11 : EC := (.seq (.ops [⟨(some 4), .mov (.c (.s (.bool false))), none⟩] [0, 1])
  s11_1)
def e11 : EF := ⟨70, b11, [.tmp 4]⟩

/-- scutage/scutagelaw04.SidesMeet -/
def h12 : List (List Nat) := [[0], [0], [0, 3, 4], [2], [2]]
def s12_3 : EC := (.seq (.ops [⟨(some 13), .mov (.t 3), none⟩,
    ⟨(some 14), .mov (.t 4), none⟩,
    ⟨(some 15), .call 30 [(.t 14)], none⟩,
    ⟨(some 16), .bin .eql (.t 13) (.t 15), none⟩,
    ⟨(some 17), .mov (.t 16), none⟩,
    ⟨(some 18), .mov (.t 3), (some (17, true))⟩,
    ⟨(some 19), .mov (.t 4), (some (17, true))⟩,
    ⟨(some 20), .bsl 36 2 [(.cpl .f64 0 0)] [(0, 1, (.t 18)), (1, 1, (.t 19))], (some (17, true))⟩,
    ⟨(some 21), .call 26 [(.t 20)], (some (17, true))⟩,
    ⟨(some 22), .call 31 [(.t 21)], (some (17, true))⟩,
    ⟨(some 23), .pick (.t 17) (.t 22) (.c (.s (.bool false))), none⟩,
    ⟨(some 24), .mov (.t 23), none⟩,
    ⟨(some 25), .mov (.t 3), (some (24, true))⟩,
    ⟨(some 26), .call 31 [(.t 25)], (some (24, true))⟩,
    ⟨(some 27), .un .not (.t 26), (some (24, true))⟩,
    ⟨(some 28), .pick (.t 24) (.t 27) (.c (.s (.bool false))), none⟩,
    ⟨(some 29), .mov (.t 28), none⟩,
    ⟨(some 30), .mov (.t 4), (some (29, true))⟩,
    ⟨(some 31), .call 31 [(.t 30)], (some (29, true))⟩,
    ⟨(some 32), .un .not (.t 31), (some (29, true))⟩,
    ⟨(some 33), .pick (.t 29) (.t 32) (.c (.s (.bool false))), none⟩,
    ⟨(some 34), .mov (.t 33), none⟩,
    ⟨(some 35), .mov (.t 3), (some (34, true))⟩,
    ⟨(some 36), .mov (.t 4), (some (34, true))⟩,
    ⟨(some 37), .call 25 [(.c (.s (.int .i64 1)))], (some (34, true))⟩,
    ⟨(some 38), .bsl 36 3 [(.cpl .f64 0 0)] [(0, 1, (.t 35)), (1, 1, (.t 36)), (2, 1, (.t 37))], (some (34, true))⟩,
    ⟨(some 39), .call 26 [(.t 38)], (some (34, true))⟩,
    ⟨(some 40), .call 31 [(.t 39)], (some (34, true))⟩,
    ⟨(some 41), .un .not (.t 40), (some (34, true))⟩,
    ⟨(some 42), .pick (.t 34) (.t 41) (.c (.s (.bool false))), none⟩,
    ⟨(some 43), .mov (.t 42), none⟩,
    ⟨(some 44), .call 31 [(.c (.s (.cpl .f64 0 0)))], (some (43, true))⟩,
    ⟨(some 45), .pick (.t 43) (.t 44) (.c (.s (.bool false))), none⟩,
    ⟨(some 46), .mov (.t 45), none⟩,
    ⟨(some 47), .mov (.t 3), (some (46, true))⟩,
    ⟨(some 48), .mov (.t 3), (some (46, true))⟩,
    ⟨(some 49), .mov (.t 4), (some (46, true))⟩,
    ⟨(some 50), .bsl 36 3 [(.cpl .f64 0 0)] [(0, 1, (.t 47)), (1, 1, (.t 48)), (2, 1, (.t 49))], (some (46, true))⟩,
    ⟨(some 51), .call 26 [(.t 50)], (some (46, true))⟩,
    ⟨(some 52), .call 28 [(.t 51)], (some (46, true))⟩,
    ⟨(some 53), .mov (.t 0), (some (46, true))⟩,
    ⟨(some 54), .bin .eql (.t 52) (.t 53), (some (46, true))⟩,
    ⟨(some 55), .pick (.t 46) (.t 54) (.c (.s (.bool false))), none⟩,
    ⟨(some 56), .mov (.t 55), none⟩,
    ⟨(some 57), .call 29 [], (some (56, true))⟩,
    ⟨(some 58), .pick (.t 56) (.t 57) (.c (.s (.bool false))), none⟩,
    ⟨(some 2), .mov (.t 58), none⟩] [2])
  (.ret [2]))
def s12_2 : EC := (.seq (.ops [⟨(some 8), .mov (.t 0), none⟩,
    ⟨(some 9), .call 25 [(.t 8)], none⟩,
    ⟨(some 10), .mov (.t 0), none⟩,
    ⟨(some 11), .un .neg (.t 10), none⟩,
    ⟨(some 12), .call 25 [(.t 11)], none⟩,
    ⟨(some 3), .mov (.t 9), none⟩,
    ⟨(some 4), .mov (.t 12), none⟩] [0, 3, 4])
  s12_3)
def s12_1 : EC := (.seq (.ops [⟨(some 5), .mov (.t 0), none⟩,
    ⟨(some 6), .call 15 [(.t 5), (.c (.s (.int .i64 99999999999)))], none⟩,
    ⟨(some 7), .bin .add (.c (.s (.int .i64 1))) (.t 6), none⟩,
    ⟨(some 0), .mov (.t 7), none⟩] [0])
  s12_2)
def b12 : EC := (.seq (.ops [⟨(some 2), .mov (.c (.s (.bool false))), none⟩] [0])
  s12_1)
def e12 : EF := ⟨59, b12, [.tmp 2]⟩

/-- scutage/scutagelaw04.SidesTell -/
def h13 : List (List Nat) := [[0], [0, 3, 4], [0, 3, 4, 5], [0, 3, 4, 5, 6], [0, 3, 4, 5, 6], [0, 3, 4, 5, 6, 21], [3, 4, 5], [0, 3, 4, 5, 6, 7], [0, 3, 4, 5, 6, 7, 8], [0, 3, 4, 5, 6, 7, 8, 36], [0, 3, 4, 5, 6, 38], [2], [2], [0, 3, 4, 5, 6], [0, 3, 4, 5, 6, 7, 8, 40], [0, 3, 4, 5, 6, 8], [0, 3, 4, 5, 6, 8], [0, 3, 4, 5, 6], [0, 3, 4, 5, 6], [3, 4, 9], [3, 4, 9, 10, 11], [3, 4, 9, 10, 11, 12, 13], [2], [2]]
def l13_0_1 : EC := (.seq (.block 1 (.seq (.ops [⟨(some 24), .mov (.t 0), none⟩,
    ⟨(some 25), .mov (.t 6), none⟩,
    ⟨(some 26), .iad 3 1 (.t 24) (.t 25), none⟩,
    ⟨(some 27), .load false 1 (.t 26), none⟩,
    ⟨(some 28), .call 19 [(.t 27)], none⟩,
    ⟨(some 7), .mov (.t 28), none⟩] [0, 3, 4, 5, 6, 7])
  (.seq (.ops [⟨(some 29), .mov (.t 7), none⟩,
    ⟨(some 30), .call 25 [(.t 29)], none⟩,
    ⟨(some 8), .mov (.t 30), none⟩] [0, 3, 4, 5, 6, 7, 8])
  (.seq (.seq (.ops [⟨(some 31), .mov (.t 7), none⟩,
    ⟨(some 32), .bin .gtr (.t 31) (.c (.s (.int .i64 100000000000))), none⟩,
    ⟨(some 33), .mov (.t 32), none⟩,
    ⟨(some 34), .mov (.t 7), (some (33, false))⟩,
    ⟨(some 35), .bin .lss (.t 34) (.c (.s (.int .i64 (-100000000000)))), (some (33, false))⟩,
    ⟨(some 36), .pick (.t 33) (.c (.s (.bool true))) (.t 35), none⟩] [0, 3, 4, 5, 6, 7, 8, 36])
  (.cond (.t 36) (.seq (.seq (.ops [⟨(some 37), .mov (.t 8), none⟩,
    ⟨(some 38), .bin .neq (.t 37) (.c (.s (.cpl .f64 0 0))), none⟩] [0, 3, 4, 5, 6, 38])
  (.cond (.t 38) (.seq (.ops [⟨(some 2), .mov (.c (.s (.bool false))), none⟩] [2])
  (.ret [2]))
  .skip))
  (.exit 1 [0, 3, 4, 5, 6]))
  .skip))
  (.seq (.seq (.ops [⟨(some 39), .mov (.t 7), none⟩,
    ⟨(some 40), .bin .gtr (.t 39) (.c (.s (.int .i64 0))), none⟩] [0, 3, 4, 5, 6, 7, 8, 40])
  (.cond (.t 40) (.ops [⟨(some 41), .mov (.t 3), none⟩,
    ⟨(some 42), .mov (.t 7), none⟩,
    ⟨(some 43), .bin .add (.t 41) (.t 42), none⟩,
    ⟨(some 3), .mov (.t 43), none⟩] [0, 3, 4, 5, 6, 8])
  (.ops [⟨(some 44), .mov (.t 4), none⟩,
    ⟨(some 45), .mov (.t 7), none⟩,
    ⟨(some 46), .bin .sub (.t 44) (.t 45), none⟩,
    ⟨(some 4), .mov (.t 46), none⟩] [0, 3, 4, 5, 6, 8])))
  (.ops [⟨(some 47), .mov (.t 5), none⟩,
    ⟨(some 48), .mov (.t 8), none⟩,
    ⟨(some 49), .bsl 36 1 [(.cpl .f64 0 0)] [(0, 1, (.t 48))], none⟩,
    ⟨(some 50), .app 36 1 16 (.t 47) (.t 49), none⟩,
    ⟨(some 5), .mov (.t 50), none⟩] [0, 3, 4, 5, 6]))))))
  (.ops [⟨(some 22), .mov (.t 6), none⟩,
    ⟨(some 23), .bin .add (.t 22) (.c (.s (.int .i64 1))), none⟩,
    ⟨(some 6), .mov (.t 23), none⟩] [0, 3, 4, 5, 6]))
def l13_0 : EC := (.seq (.seq (.ops [⟨(some 14), .mov (.t 6), none⟩,
    ⟨(some 15), .mov (.t 0), none⟩,
    ⟨(some 16), .len (.t 15), none⟩,
    ⟨(some 17), .bin .lss (.t 14) (.t 16), none⟩,
    ⟨(some 18), .mov (.t 17), none⟩,
    ⟨(some 19), .mov (.t 6), (some (18, true))⟩,
    ⟨(some 20), .bin .lss (.t 19) (.c (.s (.int .i64 40))), (some (18, true))⟩,
    ⟨(some 21), .pick (.t 18) (.t 20) (.c (.s (.bool false))), none⟩] [0, 3, 4, 5, 6, 21])
  (.cond (.t 21) .skip
  (.exit 0 [3, 4, 5])))
  l13_0_1)
def s13_7 : EC := (.seq (.ops [⟨(some 64), .mov (.t 9), none⟩,
    ⟨(some 65), .mov (.t 3), none⟩,
    ⟨(some 66), .itof .f64 (.t 65), none⟩,
    ⟨(some 67), .mov (.t 4), none⟩,
    ⟨(some 68), .itof .f64 (.t 67), none⟩,
    ⟨(some 69), .cplx (.t 66) (.t 68), none⟩,
    ⟨(some 70), .bin .eql (.t 64) (.t 69), none⟩,
    ⟨(some 71), .mov (.t 70), none⟩,
    ⟨(some 72), .mov (.t 10), (some (71, true))⟩,
    ⟨(some 73), .mov (.t 3), (some (71, true))⟩,
    ⟨(some 74), .bin .eql (.t 72) (.t 73), (some (71, true))⟩,
    ⟨(some 75), .pick (.t 71) (.t 74) (.c (.s (.bool false))), none⟩,
    ⟨(some 76), .mov (.t 75), none⟩,
    ⟨(some 77), .mov (.t 11), (some (76, true))⟩,
    ⟨(some 78), .mov (.t 4), (some (76, true))⟩,
    ⟨(some 79), .bin .eql (.t 77) (.t 78), (some (76, true))⟩,
    ⟨(some 80), .pick (.t 76) (.t 79) (.c (.s (.bool false))), none⟩,
    ⟨(some 81), .mov (.t 80), none⟩,
    ⟨(some 82), .mov (.t 9), (some (81, true))⟩,
    ⟨(some 83), .call 28 [(.t 82)], (some (81, true))⟩,
    ⟨(some 84), .mov (.t 3), (some (81, true))⟩,
    ⟨(some 85), .mov (.t 4), (some (81, true))⟩,
    ⟨(some 86), .bin .sub (.t 84) (.t 85), (some (81, true))⟩,
    ⟨(some 87), .bin .eql (.t 83) (.t 86), (some (81, true))⟩,
    ⟨(some 88), .pick (.t 81) (.t 87) (.c (.s (.bool false))), none⟩,
    ⟨(some 89), .mov (.t 88), none⟩,
    ⟨(some 90), .mov (.t 9), (some (89, true))⟩,
    ⟨(some 91), .call 31 [(.t 90)], (some (89, true))⟩,
    ⟨(some 92), .mov (.t 3), (some (89, true))⟩,
    ⟨(some 93), .mov (.t 4), (some (89, true))⟩,
    ⟨(some 94), .bin .eql (.t 92) (.t 93), (some (89, true))⟩,
    ⟨(some 95), .eqb false (.t 91) (.t 94), (some (89, true))⟩,
    ⟨(some 96), .pick (.t 89) (.t 95) (.c (.s (.bool false))), none⟩,
    ⟨(some 97), .mov (.t 96), none⟩,
    ⟨(some 98), .mov (.t 12), (some (97, true))⟩,
    ⟨(some 99), .mov (.t 4), (some (97, true))⟩,
    ⟨(some 100), .bin .eql (.t 98) (.t 99), (some (97, true))⟩,
    ⟨(some 101), .pick (.t 97) (.t 100) (.c (.s (.bool false))), none⟩,
    ⟨(some 102), .mov (.t 101), none⟩,
    ⟨(some 103), .mov (.t 13), (some (102, true))⟩,
    ⟨(some 104), .mov (.t 3), (some (102, true))⟩,
    ⟨(some 105), .bin .eql (.t 103) (.t 104), (some (102, true))⟩,
    ⟨(some 106), .pick (.t 102) (.t 105) (.c (.s (.bool false))), none⟩,
    ⟨(some 107), .mov (.t 106), none⟩,
    ⟨(some 108), .call 29 [], (some (107, true))⟩,
    ⟨(some 109), .pick (.t 107) (.t 108) (.c (.s (.bool false))), none⟩,
    ⟨(some 2), .mov (.t 109), none⟩] [2])
  (.ret [2]))
def s13_6 : EC := (.seq (.ops [⟨(some 59), .mov (.t 9), none⟩,
    ⟨(some 60), .call 30 [(.t 59)], none⟩,
    ⟨(some 61), .call 27 [(.t 60)], none⟩,
    ⟨(some 58), .mov (.t 61), none⟩,
    ⟨(some 62), .ext (.t 58) 0, none⟩,
    ⟨(some 63), .ext (.t 58) 1, none⟩,
    ⟨(some 12), .mov (.t 62), none⟩,
    ⟨(some 13), .mov (.t 63), none⟩] [3, 4, 9, 10, 11, 12, 13])
  s13_7)
def s13_5 : EC := (.seq (.ops [⟨(some 54), .mov (.t 9), none⟩,
    ⟨(some 55), .call 27 [(.t 54)], none⟩,
    ⟨(some 53), .mov (.t 55), none⟩,
    ⟨(some 56), .ext (.t 53) 0, none⟩,
    ⟨(some 57), .ext (.t 53) 1, none⟩,
    ⟨(some 10), .mov (.t 56), none⟩,
    ⟨(some 11), .mov (.t 57), none⟩] [3, 4, 9, 10, 11])
  s13_6)
def s13_4 : EC := (.seq (.ops [⟨(some 51), .mov (.t 5), none⟩,
    ⟨(some 52), .call 26 [(.t 51)], none⟩,
    ⟨(some 9), .mov (.t 52), none⟩] [3, 4, 9])
  s13_5)
def s13_3 : EC := (.seq (.seq (.ops [⟨(some 6), .mov (.c (.s (.int .i64 0))), none⟩] [0, 3, 4, 5, 6])
  (.block 0 (.loop [0, 3, 4, 5, 6] l13_0)))
  s13_4)
def s13_2 : EC := (.seq (.ops [⟨(some 5), .mov (.c (.s .nils)), none⟩] [0, 3, 4, 5])
  s13_3)
def s13_1 : EC := (.seq (.ops [⟨(some 3), .mov (.c (.s (.int .i64 0))), none⟩,
    ⟨(some 4), .mov (.c (.s (.int .i64 0))), none⟩] [0, 3, 4])
  s13_2)
def b13 : EC := (.seq (.ops [⟨(some 2), .mov (.c (.s (.bool false))), none⟩] [0])
  s13_1)
def e13 : EF := ⟨110, b13, [.tmp 2]⟩

/-- scutage/scutagelaw04.SidesTurn -/
def h14 : List (List Nat) := [[0], [0, 3, 4], [0, 3, 4, 5], [0, 3, 4, 5], [0, 3, 4, 5, 14], [3, 4], [0, 3, 4, 5, 6], [0, 3, 4, 5, 6], [0, 3, 4, 5, 55], [2], [2], [0, 3, 4, 5], [2], [2]]
def l14_0_1 : EC := (.seq (.block 1 (.seq (.ops [⟨(some 17), .mov (.t 0), none⟩,
    ⟨(some 18), .mov (.t 5), none⟩,
    ⟨(some 19), .iad 3 1 (.t 17) (.t 18), none⟩,
    ⟨(some 20), .load false 1 (.t 19), none⟩,
    ⟨(some 21), .call 15 [(.t 20), (.c (.s (.int .i64 200000000001)))], none⟩,
    ⟨(some 22), .bin .sub (.t 21) (.c (.s (.int .i64 100000000000))), none⟩,
    ⟨(some 23), .call 25 [(.t 22)], none⟩,
    ⟨(some 6), .mov (.t 23), none⟩] [0, 3, 4, 5, 6])
  (.seq (.ops [⟨(some 24), .mov (.t 3), none⟩,
    ⟨(some 25), .mov (.t 6), none⟩,
    ⟨(some 26), .bsl 36 1 [(.cpl .f64 0 0)] [(0, 1, (.t 25))], none⟩,
    ⟨(some 27), .app 36 1 16 (.t 24) (.t 26), none⟩,
    ⟨(some 28), .mov (.t 4), none⟩,
    ⟨(some 29), .mov (.t 6), none⟩,
    ⟨(some 30), .call 30 [(.t 29)], none⟩,
    ⟨(some 31), .bsl 36 1 [(.cpl .f64 0 0)] [(0, 1, (.t 30))], none⟩,
    ⟨(some 32), .app 36 1 16 (.t 28) (.t 31), none⟩,
    ⟨(some 3), .mov (.t 27), none⟩,
    ⟨(some 4), .mov (.t 32), none⟩] [0, 3, 4, 5, 6])
  (.seq (.ops [⟨(some 33), .mov (.t 6), none⟩,
    ⟨(some 34), .call 30 [(.t 33)], none⟩,
    ⟨(some 35), .call 30 [(.t 34)], none⟩,
    ⟨(some 36), .mov (.t 6), none⟩,
    ⟨(some 37), .bin .neq (.t 35) (.t 36), none⟩,
    ⟨(some 38), .mov (.t 37), none⟩,
    ⟨(some 39), .mov (.t 6), (some (38, false))⟩,
    ⟨(some 40), .mov (.t 6), (some (38, false))⟩,
    ⟨(some 41), .call 30 [(.t 40)], (some (38, false))⟩,
    ⟨(some 42), .bsl 36 2 [(.cpl .f64 0 0)] [(0, 1, (.t 39)), (1, 1, (.t 41))], (some (38, false))⟩,
    ⟨(some 43), .call 26 [(.t 42)], (some (38, false))⟩,
    ⟨(some 44), .call 31 [(.t 43)], (some (38, false))⟩,
    ⟨(some 45), .un .not (.t 44), (some (38, false))⟩,
    ⟨(some 46), .pick (.t 38) (.c (.s (.bool true))) (.t 45), none⟩,
    ⟨(some 47), .mov (.t 46), none⟩,
    ⟨(some 48), .mov (.t 6), (some (47, false))⟩,
    ⟨(some 49), .call 30 [(.t 48)], (some (47, false))⟩,
    ⟨(some 50), .call 28 [(.t 49)], (some (47, false))⟩,
    ⟨(some 51), .mov (.t 6), (some (47, false))⟩,
    ⟨(some 52), .call 28 [(.t 51)], (some (47, false))⟩,
    ⟨(some 53), .un .neg (.t 52), (some (47, false))⟩,
    ⟨(some 54), .bin .neq (.t 50) (.t 53), (some (47, false))⟩,
    ⟨(some 55), .pick (.t 47) (.c (.s (.bool true))) (.t 54), none⟩] [0, 3, 4, 5, 55])
  (.cond (.t 55) (.seq (.ops [⟨(some 2), .mov (.c (.s (.bool false))), none⟩] [2])
  (.ret [2]))
  .skip)))))
  (.ops [⟨(some 15), .mov (.t 5), none⟩,
    ⟨(some 16), .bin .add (.t 15) (.c (.s (.int .i64 1))), none⟩,
    ⟨(some 5), .mov (.t 16), none⟩] [0, 3, 4, 5]))
def l14_0 : EC := (.seq (.seq (.ops [⟨(some 7), .mov (.t 5), none⟩,
    ⟨(some 8), .mov (.t 0), none⟩,
    ⟨(some 9), .len (.t 8), none⟩,
    ⟨(some 10), .bin .lss (.t 7) (.t 9), none⟩,
    ⟨(some 11), .mov (.t 10), none⟩,
    ⟨(some 12), .mov (.t 5), (some (11, true))⟩,
    ⟨(some 13), .bin .lss (.t 12) (.c (.s (.int .i64 30))), (some (11, true))⟩,
    ⟨(some 14), .pick (.t 11) (.t 13) (.c (.s (.bool false))), none⟩] [0, 3, 4, 5, 14])
  (.cond (.t 14) .skip
  (.exit 0 [3, 4])))
  l14_0_1)
def s14_3 : EC := (.seq (.ops [⟨(some 56), .mov (.t 3), none⟩,
    ⟨(some 57), .call 26 [(.t 56)], none⟩,
    ⟨(some 58), .call 30 [(.t 57)], none⟩,
    ⟨(some 59), .mov (.t 4), none⟩,
    ⟨(some 60), .call 26 [(.t 59)], none⟩,
    ⟨(some 61), .bin .eql (.t 58) (.t 60), none⟩,
    ⟨(some 62), .mov (.t 61), none⟩,
    ⟨(some 63), .call 26 [(.c (.s .nils))], (some (62, true))⟩,
    ⟨(some 64), .bin .eql (.t 63) (.c (.s (.cpl .f64 0 0))), (some (62, true))⟩,
    ⟨(some 65), .pick (.t 62) (.t 64) (.c (.s (.bool false))), none⟩,
    ⟨(some 66), .mov (.t 65), none⟩,
    ⟨(some 67), .call 29 [], (some (66, true))⟩,
    ⟨(some 68), .pick (.t 66) (.t 67) (.c (.s (.bool false))), none⟩,
    ⟨(some 2), .mov (.t 68), none⟩] [2])
  (.ret [2]))
def s14_2 : EC := (.seq (.seq (.ops [⟨(some 5), .mov (.c (.s (.int .i64 0))), none⟩] [0, 3, 4, 5])
  (.block 0 (.loop [0, 3, 4, 5] l14_0)))
  s14_3)
def s14_1 : EC := (.seq (.ops [⟨(some 3), .mov (.c (.s .nils)), none⟩,
    ⟨(some 4), .mov (.c (.s .nils)), none⟩] [0, 3, 4])
  s14_2)
def b14 : EC := (.seq (.ops [⟨(some 2), .mov (.c (.s (.bool false))), none⟩] [0])
  s14_1)
def e14 : EF := ⟨69, b14, [.tmp 2]⟩

/-- scutage/scutagekeep.Within -/
def h15 : List (List Nat) := [[0, 1], [0, 1, 7], [4], [4], [1, 5], [1, 5, 12], [5], [4], [4]]
def s15_4 : EC := (.seq (.ops [⟨(some 16), .mov (.t 5), none⟩,
    ⟨(some 4), .mov (.t 16), none⟩] [4])
  (.ret [4]))
def s15_3 : EC := (.seq (.seq (.ops [⟨(some 11), .mov (.t 5), none⟩,
    ⟨(some 12), .bin .lss (.t 11) (.c (.s (.int .i64 0))), none⟩] [1, 5, 12])
  (.cond (.t 12) (.ops [⟨(some 13), .mov (.t 5), none⟩,
    ⟨(some 14), .mov (.t 1), none⟩,
    ⟨(some 15), .bin .add (.t 13) (.t 14), none⟩,
    ⟨(some 5), .mov (.t 15), none⟩] [5])
  .skip))
  s15_4)
def s15_2 : EC := (.seq (.ops [⟨(some 8), .mov (.t 0), none⟩,
    ⟨(some 9), .mov (.t 1), none⟩,
    ⟨(some 10), .bin .rem (.t 8) (.t 9), none⟩,
    ⟨(some 5), .mov (.t 10), none⟩] [1, 5])
  s15_3)
def s15_1 : EC := (.seq (.seq (.ops [⟨(some 6), .mov (.t 1), none⟩,
    ⟨(some 7), .bin .lss (.t 6) (.c (.s (.int .i64 1))), none⟩] [0, 1, 7])
  (.cond (.t 7) (.seq (.ops [⟨(some 4), .mov (.c (.s (.int .i64 0))), none⟩] [4])
  (.ret [4]))
  .skip))
  s15_2)
def b15 : EC := (.seq (.ops [⟨(some 4), .mov (.c (.s (.int .i64 0))), none⟩] [0, 1])
  s15_1)
def e15 : EF := ⟨17, b15, [.tmp 4]⟩

/-- scutage/scutageplay.Amount -/
def h19 : List (List Nat) := [[0], [0, 4], [0, 4, 5], [2], [2], [0, 4, 12], [2], [2], [0, 4, 19], [2], [2], [0, 22], [2], [2], [2], [2]]
def s19_2 : EC := (.seq (.ops [⟨(some 28), .mov (.t 0), none⟩,
    ⟨(some 29), .call 15 [(.t 28), (.c (.s (.int .i64 4001)))], none⟩,
    ⟨(some 30), .bin .sub (.t 29) (.c (.s (.int .i64 2000))), none⟩,
    ⟨(some 2), .mov (.t 30), none⟩] [2])
  (.ret [2]))
def s19_1 : EC := (.seq (.seq (.ops [⟨(some 3), .mov (.t 0), none⟩,
    ⟨(some 4), .bin .rem (.t 3) (.c (.s (.int .i64 23))), none⟩] [0, 4])
  (.block 0 (.seq (.ops [⟨(some 6), .bin .eql (.t 4) (.c (.s (.int .i64 20))), none⟩,
    ⟨(some 5), .mov (.t 6), none⟩] [0, 4, 5])
  (.cond (.t 5) (.seq (.ops [⟨(some 7), .mov (.t 0), none⟩,
    ⟨(some 8), .bin .quo (.t 7) (.c (.s (.int .i64 23))), none⟩,
    ⟨(some 9), .call 15 [(.t 8), (.c (.s (.int .i64 5)))], none⟩,
    ⟨(some 10), .bin .sub (.c (.s (.int .i64 100000000000))) (.t 9), none⟩,
    ⟨(some 11), .bin .add (.t 10) (.c (.s (.int .i64 2))), none⟩,
    ⟨(some 2), .mov (.t 11), none⟩] [2])
  (.ret [2]))
  (.seq (.ops [⟨(some 13), .bin .eql (.t 4) (.c (.s (.int .i64 21))), none⟩,
    ⟨(some 12), .mov (.t 13), none⟩] [0, 4, 12])
  (.cond (.t 12) (.seq (.ops [⟨(some 14), .mov (.t 0), none⟩,
    ⟨(some 15), .bin .quo (.t 14) (.c (.s (.int .i64 23))), none⟩,
    ⟨(some 16), .call 15 [(.t 15), (.c (.s (.int .i64 5)))], none⟩,
    ⟨(some 17), .bin .add (.c (.s (.int .i64 (-100000000000)))) (.t 16), none⟩,
    ⟨(some 18), .bin .sub (.t 17) (.c (.s (.int .i64 2))), none⟩,
    ⟨(some 2), .mov (.t 18), none⟩] [2])
  (.ret [2]))
  (.seq (.ops [⟨(some 20), .bin .eql (.t 4) (.c (.s (.int .i64 22))), none⟩,
    ⟨(some 19), .mov (.t 20), none⟩] [0, 4, 19])
  (.cond (.t 19) (.seq (.ops [⟨(some 21), .mov (.t 0), none⟩,
    ⟨(some 2), .mov (.t 21), none⟩] [2])
  (.ret [2]))
  (.seq (.ops [⟨(some 23), .bin .eql (.t 4) (.c (.s (.int .i64 19))), none⟩,
    ⟨(some 22), .mov (.t 23), none⟩] [0, 22])
  (.cond (.t 22) (.seq (.ops [⟨(some 24), .mov (.t 0), none⟩,
    ⟨(some 25), .bin .quo (.t 24) (.c (.s (.int .i64 23))), none⟩,
    ⟨(some 26), .call 15 [(.t 25), (.c (.s (.int .i64 200000000001)))], none⟩,
    ⟨(some 27), .bin .sub (.t 26) (.c (.s (.int .i64 100000000000))), none⟩,
    ⟨(some 2), .mov (.t 27), none⟩] [2])
  (.ret [2]))
  .skip))))))))))
  s19_2)
def b19 : EC := (.seq (.ops [⟨(some 2), .mov (.c (.s (.int .i64 0))), none⟩] [0])
  s19_1)
def e19 : EF := ⟨31, b19, [.tmp 2]⟩

/-- scutage/sides.Of -/
def h25 : List (List Nat) := [[0], [0, 3], [2], [2], [0, 7], [2], [2], [2], [2]]
def s25_2 : EC := (.seq (.ops [⟨(some 13), .mov (.t 0), none⟩,
    ⟨(some 14), .un .neg (.t 13), none⟩,
    ⟨(some 15), .itof .f64 (.t 14), none⟩,
    ⟨(some 16), .cplx (.c (.s (.flt .f64 0))) (.t 15), none⟩,
    ⟨(some 2), .mov (.t 16), none⟩] [2])
  (.ret [2]))
def s25_1 : EC := (.seq (.block 0 (.seq (.ops [⟨(some 4), .mov (.t 0), none⟩,
    ⟨(some 5), .call 32 [(.t 4)], none⟩,
    ⟨(some 6), .un .not (.t 5), none⟩,
    ⟨(some 3), .mov (.t 6), none⟩] [0, 3])
  (.cond (.t 3) (.seq (.ops [⟨(some 2), .mov (.c (.s (.cpl .f64 0 0))), none⟩] [2])
  (.ret [2]))
  (.seq (.ops [⟨(some 8), .mov (.t 0), none⟩,
    ⟨(some 9), .bin .gtr (.t 8) (.c (.s (.int .i64 0))), none⟩,
    ⟨(some 7), .mov (.t 9), none⟩] [0, 7])
  (.cond (.t 7) (.seq (.ops [⟨(some 10), .mov (.t 0), none⟩,
    ⟨(some 11), .itof .f64 (.t 10), none⟩,
    ⟨(some 12), .cplx (.t 11) (.c (.s (.flt .f64 0))), none⟩,
    ⟨(some 2), .mov (.t 12), none⟩] [2])
  (.ret [2]))
  .skip)))))
  s25_2)
def b25 : EC := (.seq (.ops [⟨(some 2), .mov (.c (.s (.cpl .f64 0 0))), none⟩] [0])
  s25_1)
def e25 : EF := ⟨17, b25, [.tmp 2]⟩

/-- scutage/sides.Sum -/
def h26 : List (List Nat) := [[0], [0, 3], [3, 6, 7, 8], [3, 6, 7, 8], [3, 6, 7, 8, 9], [3], [3, 5, 6, 7, 8], [3, 6, 7, 8], [3, 6, 7, 8], [2], [2]]
def l26_0_2 : EC := (.seq (.block 1 (.seq (.ops [⟨(some 10), .iad 36 1 (.t 6) (.t 8), none⟩,
    ⟨(some 11), .load false 1 (.t 10), none⟩,
    ⟨(some 5), .mov (.t 11), none⟩] [3, 5, 6, 7, 8])
  (.ops [⟨(some 12), .mov (.t 3), none⟩,
    ⟨(some 13), .mov (.t 5), none⟩,
    ⟨(some 14), .bin .add (.t 12) (.t 13), none⟩,
    ⟨(some 3), .mov (.t 14), none⟩] [3, 6, 7, 8])))
  (.ops [⟨(some 15), .bin .add (.t 8) (.c (.s (.int .i64 1))), none⟩,
    ⟨(some 8), .mov (.t 15), none⟩] [3, 6, 7, 8]))
def l26_0_1 : EC := (.seq (.cond (.t 9) .skip
  (.exit 0 [3]))
  l26_0_2)
def l26_0 : EC := (.seq (.ops [⟨(some 9), .bin .lss (.t 8) (.t 7), none⟩] [3, 6, 7, 8, 9])
  l26_0_1)
def s26_3 : EC := (.seq (.ops [⟨(some 16), .mov (.t 3), none⟩,
    ⟨(some 2), .mov (.t 16), none⟩] [2])
  (.ret [2]))
def s26_2 : EC := (.seq (.seq (.ops [⟨(some 6), .mov (.t 0), none⟩,
    ⟨(some 7), .len (.t 6), none⟩,
    ⟨(some 8), .mov (.c (.s (.int .i64 0))), none⟩] [3, 6, 7, 8])
  (.block 0 (.loop [3, 6, 7, 8] l26_0)))
  s26_3)
def s26_1 : EC := (.seq (.ops [⟨(some 3), .mov (.c (.s (.cpl .f64 0 0))), none⟩] [0, 3])
  s26_2)
def b26 : EC := (.seq (.ops [⟨(some 2), .mov (.c (.s (.cpl .f64 0 0))), none⟩] [0])
  s26_1)
def e26 : EF := ⟨17, b26, [.tmp 2]⟩

/-- scutage/sides.Both -/
def h27 : List (List Nat) := [[0], [2, 3], [2, 3]]
def s27_1 : EC := (.seq (.ops [⟨(some 4), .mov (.t 0), none⟩,
    ⟨(some 5), .re (.t 4), none⟩,
    ⟨(some 6), .ftoi .i64 (.t 5), none⟩,
    ⟨(some 7), .mov (.t 0), none⟩,
    ⟨(some 8), .im (.t 7), none⟩,
    ⟨(some 9), .ftoi .i64 (.t 8), none⟩,
    ⟨(some 2), .mov (.t 6), none⟩,
    ⟨(some 3), .mov (.t 9), none⟩] [2, 3])
  (.ret [2, 3]))
def b27 : EC := (.seq (.ops [⟨(some 2), .mov (.c (.s (.int .i64 0))), none⟩,
    ⟨(some 3), .mov (.c (.s (.int .i64 0))), none⟩] [0])
  s27_1)
def e27 : EF := ⟨10, b27, [.tmp 2, .tmp 3]⟩

/-- scutage/sides.Net -/
def h28 : List (List Nat) := [[0], [3, 4], [2], [2]]
def s28_2 : EC := (.seq (.ops [⟨(some 10), .mov (.t 3), none⟩,
    ⟨(some 11), .mov (.t 4), none⟩,
    ⟨(some 12), .bin .sub (.t 10) (.t 11), none⟩,
    ⟨(some 2), .mov (.t 12), none⟩] [2])
  (.ret [2]))
def s28_1 : EC := (.seq (.ops [⟨(some 6), .mov (.t 0), none⟩,
    ⟨(some 7), .call 27 [(.t 6)], none⟩,
    ⟨(some 5), .mov (.t 7), none⟩,
    ⟨(some 8), .ext (.t 5) 0, none⟩,
    ⟨(some 9), .ext (.t 5) 1, none⟩,
    ⟨(some 3), .mov (.t 8), none⟩,
    ⟨(some 4), .mov (.t 9), none⟩] [3, 4])
  s28_2)
def b28 : EC := (.seq (.ops [⟨(some 2), .mov (.c (.s (.int .i64 0))), none⟩] [0])
  s28_1)
def e28 : EF := ⟨13, b28, [.tmp 2]⟩

/-- scutage/scutagelaw04.wakes -/
def h29 : List (List Nat) := [[], [0], [0]]
def s29_1 : EC := (.seq (.ops [⟨(some 1), .call 25 [(.c (.s (.int .i64 (-3))))], none⟩,
    ⟨(some 2), .bin .eql (.t 1) (.c (.s (.cpl .f64 0 4613937818241073152))), none⟩,
    ⟨(some 3), .mov (.t 2), none⟩,
    ⟨(some 4), .call 25 [(.c (.s (.int .i64 4)))], (some (3, true))⟩,
    ⟨(some 5), .bin .eql (.t 4) (.c (.s (.cpl .f64 4616189618054758400 0))), (some (3, true))⟩,
    ⟨(some 6), .pick (.t 3) (.t 5) (.c (.s (.bool false))), none⟩,
    ⟨(some 0), .mov (.t 6), none⟩] [0])
  (.ret [0]))
def b29 : EC := (.seq (.ops [⟨(some 0), .mov (.c (.s (.bool false))), none⟩] [])
  s29_1)
def e29 : EF := ⟨7, b29, [.tmp 0]⟩

/-- scutage/sides.Turn -/
def h30 : List (List Nat) := [[0], [2], [2]]
def s30_1 : EC := (.seq (.ops [⟨(some 3), .mov (.t 0), none⟩,
    ⟨(some 4), .im (.t 3), none⟩,
    ⟨(some 5), .mov (.t 0), none⟩,
    ⟨(some 6), .re (.t 5), none⟩,
    ⟨(some 7), .cplx (.t 4) (.t 6), none⟩,
    ⟨(some 2), .mov (.t 7), none⟩] [2])
  (.ret [2]))
def b30 : EC := (.seq (.ops [⟨(some 2), .mov (.c (.s (.cpl .f64 0 0))), none⟩] [0])
  s30_1)
def e30 : EF := ⟨8, b30, [.tmp 2]⟩

/-- scutage/sides.Even -/
def h31 : List (List Nat) := [[0], [2], [2]]
def s31_1 : EC := (.seq (.ops [⟨(some 3), .mov (.t 0), none⟩,
    ⟨(some 4), .re (.t 3), none⟩,
    ⟨(some 5), .mov (.t 0), none⟩,
    ⟨(some 6), .im (.t 5), none⟩,
    ⟨(some 7), .bin .eql (.t 4) (.t 6), none⟩,
    ⟨(some 2), .mov (.t 7), none⟩] [2])
  (.ret [2]))
def b31 : EC := (.seq (.ops [⟨(some 2), .mov (.c (.s (.bool false))), none⟩] [0])
  s31_1)
def e31 : EF := ⟨8, b31, [.tmp 2]⟩

/-- scutage/rate.Money -/
def h32 : List (List Nat) := [[0], [2], [2]]
def s32_1 : EC := (.seq (.ops [⟨(some 3), .mov (.t 0), none⟩,
    ⟨(some 4), .bin .geq (.t 3) (.c (.s (.int .i64 (-100000000000)))), none⟩,
    ⟨(some 5), .mov (.t 4), none⟩,
    ⟨(some 6), .mov (.t 0), (some (5, true))⟩,
    ⟨(some 7), .bin .leq (.t 6) (.c (.s (.int .i64 100000000000))), (some (5, true))⟩,
    ⟨(some 8), .pick (.t 5) (.t 7) (.c (.s (.bool false))), none⟩,
    ⟨(some 2), .mov (.t 8), none⟩] [2])
  (.ret [2]))
def b32 : EC := (.seq (.ops [⟨(some 2), .mov (.c (.s (.bool false))), none⟩] [0])
  s32_1)
def e32 : EF := ⟨9, b32, [.tmp 2]⟩

def C : Nat → Option EF
  | 11 => some e11
  | 12 => some e12
  | 13 => some e13
  | 14 => some e14
  | 15 => some e15
  | 19 => some e19
  | 25 => some e25
  | 26 => some e26
  | 27 => some e27
  | 28 => some e28
  | 29 => some e29
  | 30 => some e30
  | 31 => some e31
  | 32 => some e32
  | _ => none
end Go.Proofs.Ytbpagnnfieipcaa.Ev.CT
