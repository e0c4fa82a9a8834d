/- The code of some functions for the small machine (printed by wip/tools/EvPrint.lean); some are known by what they come to. -/
import Derived.Test.YtbgfcgmbihhlbaaDoorEvKit
import Derived.Test.YtbgfcgmbihhlbaaDoorChkB
namespace Go.Proofs.YtbgfcgmbihhlbaaDoor.Ev.CW
open Go
/-- scutage/scutagelaw27.WireForms -/
def h3 : List (List Nat) := [[0, 1, 2, 3], [0, 1, 2, 3, 9], [0, 1, 2, 3, 9, 10], [1, 2, 3, 9, 10, 11], [3, 9, 10, 11], [3, 9, 10, 11, 12], [9, 10, 11, 12], [9, 10, 11, 12, 13, 14], [9, 10, 11, 12, 62], [8], [8], [9, 10, 11, 101, 102, 103], [9, 10, 11, 101, 102, 103], [9, 10, 11, 101, 102, 103, 104], [9, 10, 11], [9, 10, 11, 16, 101, 102, 103], [9, 10, 11, 16, 17, 18, 19, 101, 102, 103], [9, 10, 11, 101, 102, 103, 126], [8], [8], [9, 10, 11, 101, 102, 103], [9, 10, 20, 21, 22], [8], [8]]
def l3_0_2 : EC := (.seq (.block 1 (.seq (.ops [⟨(some 105), .iad 30 2 (.t 101) (.t 103), none⟩,
    ⟨(some 106), .load true 2 (.t 105), none⟩,
    ⟨(some 16), .new 30 2 (.c (.agg [.nils, (.int .i64 0)])), none⟩,
    ⟨none, .store 2 (.t 16) (.t 106), none⟩] [9, 10, 11, 16, 101, 102, 103])
  (.seq (.ops [⟨(some 108), .fad 0 (.t 16), none⟩,
    ⟨(some 109), .load false 1 (.t 108), none⟩,
    ⟨(some 110), .call 12 [(.t 109)], none⟩,
    ⟨(some 107), .mov (.t 110), none⟩,
    ⟨(some 111), .ext (.t 107) 0, none⟩,
    ⟨(some 112), .ext (.t 107) 1, none⟩,
    ⟨(some 113), .ext (.t 107) 2, none⟩,
    ⟨(some 17), .mov (.t 111), none⟩,
    ⟨(some 18), .mov (.t 112), none⟩,
    ⟨(some 19), .mov (.t 113), none⟩] [9, 10, 11, 16, 17, 18, 19, 101, 102, 103])
  (.seq (.ops [⟨(some 114), .mov (.t 19), none⟩,
    ⟨(some 115), .bin .neq (.t 114) (.c (.s (.int .i64 2))), none⟩,
    ⟨(some 116), .mov (.t 115), none⟩,
    ⟨(some 117), .mov (.t 18), (some (116, false))⟩,
    ⟨(some 118), .fad 1 (.t 16), (some (116, false))⟩,
    ⟨(some 119), .load false 1 (.t 118), (some (116, false))⟩,
    ⟨(some 120), .bin .neq (.t 117) (.t 119), (some (116, false))⟩,
    ⟨(some 121), .pick (.t 116) (.c (.s (.bool true))) (.t 120), none⟩,
    ⟨(some 122), .mov (.t 121), none⟩,
    ⟨(some 123), .mov (.t 17), (some (122, false))⟩,
    ⟨(some 124), .len (.t 123), (some (122, false))⟩,
    ⟨(some 125), .bin .neq (.t 124) (.c (.s (.int .i64 0))), (some (122, false))⟩,
    ⟨(some 126), .pick (.t 122) (.c (.s (.bool true))) (.t 125), none⟩] [9, 10, 11, 101, 102, 103, 126])
  (.cond (.t 126) (.seq (.ops [⟨(some 8), .mov (.c (.s (.bool false))), none⟩] [8])
  (.ret [8]))
  .skip)))))
  (.ops [⟨(some 127), .bin .add (.t 103) (.c (.s (.int .i64 1))), none⟩,
    ⟨(some 103), .mov (.t 127), none⟩] [9, 10, 11, 101, 102, 103]))
def l3_0_1 : EC := (.seq (.cond (.t 104) .skip
  (.exit 0 [9, 10, 11]))
  l3_0_2)
def l3_0 : EC := (.seq (.ops [⟨(some 104), .bin .lss (.t 103) (.t 102), none⟩] [9, 10, 11, 101, 102, 103, 104])
  l3_0_1)
def s3_11 : EC := (.seq (.ops [⟨(some 137), .mov (.t 22), none⟩,
    ⟨(some 138), .bin .eql (.t 137) (.c (.s (.int .i64 0))), none⟩,
    ⟨(some 139), .mov (.t 138), none⟩,
    ⟨(some 140), .mov (.t 21), (some (139, true))⟩,
    ⟨(some 141), .bin .eql (.t 140) (.c (.s (.int .i64 0))), (some (139, true))⟩,
    ⟨(some 142), .pick (.t 139) (.t 141) (.c (.s (.bool false))), none⟩,
    ⟨(some 143), .mov (.t 142), none⟩,
    ⟨(some 144), .mov (.t 20), (some (143, true))⟩,
    ⟨(some 145), .load true 12 (.t 9), (some (143, true))⟩,
    ⟨(some 146), .load true 12 (.t 10), (some (143, true))⟩,
    ⟨(some 147), .load true 12 (.t 9), (some (143, true))⟩,
    ⟨(some 148), .load true 12 (.t 10), (some (143, true))⟩,
    ⟨(some 149), .bsl 23 4 [(.int .i64 0), (.str ⟨#[]⟩), (.str ⟨#[]⟩), (.str ⟨#[]⟩), (.int .i64 0), (.int .i64 0), (.int .i64 0), (.int .i64 0), (.int .i64 0), (.int .i64 0), (.int .i64 0), (.int .i64 0)] [(0, 12, (.t 145)), (12, 12, (.t 146)), (24, 12, (.t 147)), (36, 12, (.t 148))], (some (143, true))⟩,
    ⟨(some 150), .call 13 [(.t 144), (.t 149)], (some (143, true))⟩,
    ⟨(some 151), .pick (.t 143) (.t 150) (.c (.s (.bool false))), none⟩,
    ⟨(some 152), .mov (.t 151), none⟩,
    ⟨(some 153), .call 14 [], (some (152, true))⟩,
    ⟨(some 154), .pick (.t 152) (.t 153) (.c (.s (.bool false))), none⟩,
    ⟨(some 8), .mov (.t 154), none⟩] [8])
  (.ret [8]))
def s3_10 : EC := (.seq (.ops [⟨(some 129), .mov (.t 11), none⟩,
    ⟨(some 130), .call 11 [(.t 129)], none⟩,
    ⟨(some 131), .mov (.t 11), none⟩,
    ⟨(some 132), .app 5 1 1 (.t 130) (.t 131), none⟩,
    ⟨(some 133), .call 12 [(.t 132)], none⟩,
    ⟨(some 128), .mov (.t 133), none⟩,
    ⟨(some 134), .ext (.t 128) 0, none⟩,
    ⟨(some 135), .ext (.t 128) 1, none⟩,
    ⟨(some 136), .ext (.t 128) 2, none⟩,
    ⟨(some 20), .mov (.t 134), none⟩,
    ⟨(some 21), .mov (.t 135), none⟩,
    ⟨(some 22), .mov (.t 136), none⟩] [9, 10, 20, 21, 22])
  s3_11)
def s3_9 : EC := (.seq (.seq (.draw [⟨(some 75), .mov (.t 11), none⟩,
    ⟨(some 76), .call 11 [(.t 75)], none⟩,
    ⟨(some 77), .bsl 5 1 [(.int .u8 0)] [(0, 1, (.c (.s (.int .u8 11))))], none⟩,
    ⟨(some 78), .app 5 1 1 (.t 76) (.t 77), none⟩,
    ⟨(some 82), .mov (.t 11), none⟩,
    ⟨(some 83), .mov (.t 12), none⟩,
    ⟨(some 84), .sli 5 1 (.t 82) none (some (.t 83)), none⟩,
    ⟨(some 85), .call 11 [(.t 84)], none⟩,
    ⟨(some 86), .bsl 5 2 [(.int .u8 0)] [(0, 1, (.c (.s (.int .u8 255)))), (1, 1, (.c (.s (.int .u8 1))))], none⟩,
    ⟨(some 87), .app 5 1 1 (.t 85) (.t 86), none⟩,
    ⟨(some 63), .bsl 5 1 [(.int .u8 0)] [(0, 1, (.c (.s (.int .u8 0))))], none⟩,
    ⟨(some 64), .build [.nils, (.int .i64 0)] [(0, 1, (.t 63)), (1, 1, (.c (.s (.int .i64 0))))], none⟩,
    ⟨(some 65), .bsl 5 3 [(.int .u8 0)] [(0, 1, (.c (.s (.int .u8 13)))), (1, 1, (.c (.s (.int .u8 1)))), (2, 1, (.c (.s (.int .u8 97))))], none⟩,
    ⟨(some 66), .build [.nils, (.int .i64 0)] [(0, 1, (.t 65)), (1, 1, (.c (.s (.int .i64 0))))], none⟩,
    ⟨(some 67), .bsl 5 2 [(.int .u8 0)] [(0, 1, (.c (.s (.int .u8 11)))), (1, 1, (.c (.s (.int .u8 1))))], none⟩,
    ⟨(some 68), .build [.nils, (.int .i64 0)] [(0, 1, (.t 67)), (1, 1, (.c (.s (.int .i64 0))))], none⟩,
    ⟨(some 69), .bsl 5 2 [(.int .u8 0)] [(0, 1, (.c (.s (.int .u8 11)))), (1, 1, (.c (.s (.int .u8 0))))], none⟩,
    ⟨(some 70), .build [.nils, (.int .i64 0)] [(0, 1, (.t 69)), (1, 1, (.c (.s (.int .i64 0))))], none⟩,
    ⟨(some 71), .bsl 5 3 [(.int .u8 0)] [(0, 1, (.c (.s (.int .u8 11)))), (1, 1, (.c (.s (.int .u8 1)))), (2, 1, (.c (.s (.int .u8 65))))], none⟩,
    ⟨(some 72), .build [.nils, (.int .i64 0)] [(0, 1, (.t 71)), (1, 1, (.c (.s (.int .i64 0))))], none⟩,
    ⟨(some 73), .bsl 5 11 [(.int .u8 0)] [(0, 1, (.c (.s (.int .u8 11)))), (1, 1, (.c (.s (.int .u8 9)))), (2, 1, (.c (.s (.int .u8 97)))), (3, 1, (.c (.s (.int .u8 98)))), (4, 1, (.c (.s (.int .u8 99)))), (5, 1, (.c (.s (.int .u8 100)))), (6, 1, (.c (.s (.int .u8 101)))), (7, 1, (.c (.s (.int .u8 102)))), (8, 1, (.c (.s (.int .u8 103)))), (9, 1, (.c (.s (.int .u8 104)))), (10, 1, (.c (.s (.int .u8 105))))], none⟩,
    ⟨(some 74), .build [.nils, (.int .i64 0)] [(0, 1, (.t 73)), (1, 1, (.c (.s (.int .i64 0))))], none⟩,
    ⟨(some 79), .mov (.t 11), none⟩,
    ⟨(some 80), .len (.t 79), none⟩,
    ⟨(some 81), .build [.nils, (.int .i64 0)] [(0, 1, (.t 78)), (1, 1, (.t 80))], none⟩,
    ⟨(some 88), .mov (.t 12), none⟩,
    ⟨(some 89), .build [.nils, (.int .i64 0)] [(0, 1, (.t 87)), (1, 1, (.t 88))], none⟩,
    ⟨(some 90), .mov (.t 11), none⟩,
    ⟨(some 91), .mov (.t 12), none⟩,
    ⟨(some 92), .bin .sub (.t 91) (.c (.s (.int .i64 1))), none⟩,
    ⟨(some 93), .sli 5 1 (.t 90) none (some (.t 92)), none⟩,
    ⟨(some 94), .build [.nils, (.int .i64 0)] [(0, 1, (.t 93)), (1, 1, (.c (.s (.int .i64 0))))], none⟩,
    ⟨(some 95), .mov (.t 11), none⟩,
    ⟨(some 96), .mov (.t 12), none⟩,
    ⟨(some 97), .bin .add (.t 96) (.c (.s (.int .i64 5))), none⟩,
    ⟨(some 98), .sli 5 1 (.t 95) none (some (.t 97)), none⟩,
    ⟨(some 99), .mov (.t 12), none⟩,
    ⟨(some 100), .build [.nils, (.int .i64 0)] [(0, 1, (.t 98)), (1, 1, (.t 99))], none⟩,
    ⟨(some 101), .bsl 30 10 [.nils, (.int .i64 0)] [(0, 2, (.t 64)), (2, 2, (.t 66)), (4, 2, (.t 68)), (6, 2, (.t 70)), (8, 2, (.t 72)), (10, 2, (.t 74)), (12, 2, (.t 81)), (14, 2, (.t 89)), (16, 2, (.t 94)), (18, 2, (.t 100))], none⟩,
    ⟨(some 102), .len (.t 101), none⟩,
    ⟨(some 103), .mov (.c (.s (.int .i64 0))), none⟩] [(6, 1), (6, 2), (6, 3), (30, 1), (30, 2), (30, 3), (30, 7), (30, 8), (30, 9), (30, 10), (30, 12), (30, 14), (30, 16), (30, 18), (30, 20), (35, 1), (35, 2), (35, 3), (35, 7), (35, 8), (35, 9), (35, 10), (35, 12), (35, 14), (35, 16), (35, 18), (35, 20)] [9, 10, 11, 101, 102, 103])
  (.block 0 (.loop [9, 10, 11, 101, 102, 103] l3_0)))
  s3_10)
def s3_8 : EC := (.seq (.seq (.ops [⟨(some 55), .mov (.t 14), none⟩,
    ⟨(some 56), .bin .neq (.t 55) (.c (.s (.int .i64 0))), none⟩,
    ⟨(some 57), .mov (.t 56), none⟩,
    ⟨(some 58), .mov (.t 13), (some (57, false))⟩,
    ⟨(some 59), .mov (.t 11), (some (57, false))⟩,
    ⟨(some 60), .call 10 [(.t 58), (.t 59)], (some (57, false))⟩,
    ⟨(some 61), .un .not (.t 60), (some (57, false))⟩,
    ⟨(some 62), .pick (.t 57) (.c (.s (.bool true))) (.t 61), none⟩] [9, 10, 11, 12, 62])
  (.cond (.t 62) (.seq (.ops [⟨(some 8), .mov (.c (.s (.bool false))), none⟩] [8])
  (.ret [8]))
  .skip))
  s3_9)
def s3_7 : EC := (.seq (.ops [⟨(some 49), .load true 12 (.t 9), none⟩,
    ⟨(some 50), .load true 12 (.t 10), none⟩,
    ⟨(some 51), .bsl 23 2 [(.int .i64 0), (.str ⟨#[]⟩), (.str ⟨#[]⟩), (.str ⟨#[]⟩), (.int .i64 0), (.int .i64 0), (.int .i64 0), (.int .i64 0), (.int .i64 0), (.int .i64 0), (.int .i64 0), (.int .i64 0)] [(0, 12, (.t 49)), (12, 12, (.t 50))], none⟩,
    ⟨(some 52), .call 9 [(.t 51)], none⟩,
    ⟨(some 48), .mov (.t 52), none⟩,
    ⟨(some 53), .ext (.t 48) 0, none⟩,
    ⟨(some 54), .ext (.t 48) 1, none⟩,
    ⟨(some 13), .mov (.t 53), none⟩,
    ⟨(some 14), .mov (.t 54), none⟩] [9, 10, 11, 12, 13, 14])
  s3_8)
def s3_6 : EC := (.seq (.ops [⟨(some 42), .mov (.t 11), none⟩,
    ⟨(some 43), .bsl 5 7 [(.int .u8 0)] [(0, 1, (.c (.s (.int .u8 10)))), (1, 1, (.c (.s (.int .u8 1)))), (2, 1, (.c (.s (.int .u8 97)))), (3, 1, (.c (.s (.int .u8 3)))), (4, 1, (.c (.s (.int .u8 98)))), (5, 1, (.c (.s (.int .u8 99)))), (6, 1, (.c (.s (.int .u8 100))))], none⟩,
    ⟨(some 44), .app 5 1 1 (.t 42) (.t 43), none⟩,
    ⟨(some 45), .mov (.t 3), none⟩,
    ⟨(some 46), .call 8 [(.t 45)], none⟩,
    ⟨(some 47), .app 5 1 1 (.t 44) (.t 46), none⟩,
    ⟨(some 11), .mov (.t 47), none⟩] [9, 10, 11, 12])
  s3_7)
def s3_5 : EC := (.seq (.ops [⟨(some 40), .mov (.t 11), none⟩,
    ⟨(some 41), .len (.t 40), none⟩,
    ⟨(some 12), .mov (.t 41), none⟩] [3, 9, 10, 11, 12])
  s3_6)
def s3_4 : EC := (.seq (.ops [⟨(some 33), .mov (.t 11), none⟩,
    ⟨(some 34), .mov (.t 1), none⟩,
    ⟨(some 35), .call 8 [(.t 34)], none⟩,
    ⟨(some 36), .app 5 1 1 (.t 33) (.t 35), none⟩,
    ⟨(some 37), .mov (.t 2), none⟩,
    ⟨(some 38), .call 8 [(.t 37)], none⟩,
    ⟨(some 39), .app 5 1 1 (.t 36) (.t 38), none⟩,
    ⟨(some 11), .mov (.t 39), none⟩] [3, 9, 10, 11])
  s3_5)
def s3_3 : EC := (.seq (.ops [⟨(some 29), .bsl 5 4 [(.int .u8 0)] [(0, 1, (.c (.s (.int .u8 1)))), (1, 1, (.c (.s (.int .u8 2)))), (2, 1, (.c (.s (.int .u8 117)))), (3, 1, (.c (.s (.int .u8 107))))], none⟩,
    ⟨(some 30), .mov (.t 0), none⟩,
    ⟨(some 31), .call 8 [(.t 30)], none⟩,
    ⟨(some 32), .app 5 1 1 (.t 29) (.t 31), none⟩,
    ⟨(some 11), .mov (.t 32), none⟩] [1, 2, 3, 9, 10, 11])
  s3_4)
def s3_2 : EC := (.seq (.ops [⟨(some 27), .mov (.t 3), none⟩,
    ⟨(some 28), .build [(.int .i64 0), (.str ⟨#[]⟩), (.str ⟨#[]⟩), (.str ⟨#[]⟩), (.int .i64 0), (.int .i64 0), (.int .i64 0), (.int .i64 0), (.int .i64 0), (.int .i64 0), (.int .i64 0), (.int .i64 0)] [(0, 1, (.c (.s (.int .i64 10)))), (1, 1, (.c (.s (.str ⟨#[97]⟩)))), (2, 1, (.c (.s (.str ⟨#[98, 99, 100]⟩)))), (9, 1, (.t 27))], none⟩,
    ⟨(some 10), .new 23 12 (.c (.agg [(.int .i64 0), (.str ⟨#[]⟩), (.str ⟨#[]⟩), (.str ⟨#[]⟩), (.int .i64 0), (.int .i64 0), (.int .i64 0), (.int .i64 0), (.int .i64 0), (.int .i64 0), (.int .i64 0), (.int .i64 0)])), none⟩,
    ⟨none, .store 12 (.t 10) (.t 28), none⟩] [0, 1, 2, 3, 9, 10])
  s3_3)
def s3_1 : EC := (.seq (.ops [⟨(some 23), .mov (.t 0), none⟩,
    ⟨(some 24), .mov (.t 1), none⟩,
    ⟨(some 25), .mov (.t 2), none⟩,
    ⟨(some 26), .build [(.int .i64 0), (.str ⟨#[]⟩), (.str ⟨#[]⟩), (.str ⟨#[]⟩), (.int .i64 0), (.int .i64 0), (.int .i64 0), (.int .i64 0), (.int .i64 0), (.int .i64 0), (.int .i64 0), (.int .i64 0)] [(0, 1, (.c (.s (.int .i64 1)))), (3, 1, (.c (.s (.str ⟨#[117, 107]⟩)))), (6, 1, (.t 23)), (10, 1, (.t 24)), (8, 1, (.t 25))], none⟩,
    ⟨(some 9), .new 23 12 (.c (.agg [(.int .i64 0), (.str ⟨#[]⟩), (.str ⟨#[]⟩), (.str ⟨#[]⟩), (.int .i64 0), (.int .i64 0), (.int .i64 0), (.int .i64 0), (.int .i64 0), (.int .i64 0), (.int .i64 0), (.int .i64 0)])), none⟩,
    ⟨none, .store 12 (.t 9) (.t 26), none⟩] [0, 1, 2, 3, 9])
  s3_2)
def b3 : EC := (.seq (.ops [⟨(some 8), .mov (.c (.s (.bool false))), none⟩] [0, 1, 2, 3])
  s3_1)
def e3 : EF := ⟨155, b3, [.tmp 8]⟩

/-- scutage/scutagelaw27.WirePacks -/
def h4 : List (List Nat) := [[0, 1, 2], [7], [7, 8, 9], [8, 9, 10, 11], [6], [6]]
def s4_4 : EC := (.seq (.ops [⟨(some 26), .mov (.t 9), none⟩,
    ⟨(some 27), .mov (.t 11), none⟩,
    ⟨(some 28), .bin .eql (.t 26) (.t 27), none⟩,
    ⟨(some 29), .mov (.t 28), none⟩,
    ⟨(some 30), .mov (.t 8), (some (29, true))⟩,
    ⟨(some 31), .mov (.t 10), (some (29, true))⟩,
    ⟨(some 32), .call 10 [(.t 30), (.t 31)], (some (29, true))⟩,
    ⟨(some 33), .pick (.t 29) (.t 32) (.c (.s (.bool false))), none⟩,
    ⟨(some 34), .mov (.t 33), none⟩,
    ⟨(some 35), .call 14 [], (some (34, true))⟩,
    ⟨(some 36), .pick (.t 34) (.t 35) (.c (.s (.bool false))), none⟩,
    ⟨(some 6), .mov (.t 36), none⟩] [6])
  (.ret [6]))
def s4_3 : EC := (.seq (.ops [⟨(some 22), .mov (.t 7), none⟩,
    ⟨(some 23), .call 16 [(.t 22)], none⟩,
    ⟨(some 21), .mov (.t 23), none⟩,
    ⟨(some 24), .ext (.t 21) 0, none⟩,
    ⟨(some 25), .ext (.t 21) 1, none⟩,
    ⟨(some 10), .mov (.t 24), none⟩,
    ⟨(some 11), .mov (.t 25), none⟩] [8, 9, 10, 11])
  s4_4)
def s4_2 : EC := (.seq (.ops [⟨(some 17), .mov (.t 7), none⟩,
    ⟨(some 18), .call 9 [(.t 17)], none⟩,
    ⟨(some 16), .mov (.t 18), none⟩,
    ⟨(some 19), .ext (.t 16) 0, none⟩,
    ⟨(some 20), .ext (.t 16) 1, none⟩,
    ⟨(some 8), .mov (.t 19), none⟩,
    ⟨(some 9), .mov (.t 20), none⟩] [7, 8, 9])
  s4_3)
def s4_1 : EC := (.seq (.ops [⟨(some 12), .mov (.t 0), none⟩,
    ⟨(some 13), .mov (.t 1), none⟩,
    ⟨(some 14), .mov (.t 2), none⟩,
    ⟨(some 15), .call 15 [(.t 12), (.t 13), (.t 14)], none⟩,
    ⟨(some 7), .mov (.t 15), none⟩] [7])
  s4_2)
def b4 : EC := (.seq (.ops [⟨(some 6), .mov (.c (.s (.bool false))), none⟩] [0, 1, 2])
  s4_1)
def e4 : EF := ⟨37, b4, [.tmp 6]⟩

/-- scutage/scutagelaw27.WireBack -/
def h6 : List (List Nat) := [[0, 1, 2, 3], [0, 1, 2, 3, 9], [3, 9, 31, 32, 33], [3, 9, 31, 32, 33], [3, 9, 31, 32, 33, 34], [3, 9], [3, 9, 11, 31, 32, 33], [3, 9, 11, 13, 31, 32, 33], [3, 9, 11, 31, 32, 33, 44], [3, 9, 31, 32, 33], [3, 9, 31, 32, 33], [3, 9, 14, 15], [3, 9, 14, 15, 16, 17, 18], [3, 9, 14, 76], [8], [8], [3, 9, 14, 79], [8], [8], [3, 9, 14, 19], [3, 9, 14, 19, 21], [3, 9, 14, 19, 21, 101], [8], [8], [9, 14, 19, 22], [9, 14, 19, 23, 24, 25], [14, 19, 23, 24, 25, 26], [8], [8]]
def l6_0_2 : EC := (.seq (.block 1 (.seq (.ops [⟨(some 35), .iad 23 12 (.t 31) (.t 33), none⟩,
    ⟨(some 36), .load true 12 (.t 35), none⟩,
    ⟨(some 11), .new 23 12 (.c (.agg [(.int .i64 0), (.str ⟨#[]⟩), (.str ⟨#[]⟩), (.str ⟨#[]⟩), (.int .i64 0), (.int .i64 0), (.int .i64 0), (.int .i64 0), (.int .i64 0), (.int .i64 0), (.int .i64 0), (.int .i64 0)])), none⟩,
    ⟨none, .store 12 (.t 11) (.t 36), none⟩] [3, 9, 11, 31, 32, 33])
  (.seq (.ops [⟨(some 38), .load true 12 (.t 11), none⟩,
    ⟨(some 39), .bsl 23 1 [(.int .i64 0), (.str ⟨#[]⟩), (.str ⟨#[]⟩), (.str ⟨#[]⟩), (.int .i64 0), (.int .i64 0), (.int .i64 0), (.int .i64 0), (.int .i64 0), (.int .i64 0), (.int .i64 0), (.int .i64 0)] [(0, 12, (.t 38))], none⟩,
    ⟨(some 40), .call 9 [(.t 39)], none⟩,
    ⟨(some 37), .mov (.t 40), none⟩,
    ⟨(some 41), .ext (.t 37) 0, none⟩,
    ⟨(some 42), .ext (.t 37) 1, none⟩,
    ⟨(some 12), .mov (.t 41), none⟩,
    ⟨(some 13), .mov (.t 42), none⟩] [3, 9, 11, 13, 31, 32, 33])
  (.seq (.ops [⟨(some 43), .mov (.t 13), none⟩,
    ⟨(some 44), .bin .eql (.t 43) (.c (.s (.int .i64 0))), none⟩] [3, 9, 11, 31, 32, 33, 44])
  (.cond (.t 44) (.ops [⟨(some 45), .mov (.t 9), none⟩,
    ⟨(some 46), .load true 12 (.t 11), none⟩,
    ⟨(some 47), .bsl 23 1 [(.int .i64 0), (.str ⟨#[]⟩), (.str ⟨#[]⟩), (.str ⟨#[]⟩), (.int .i64 0), (.int .i64 0), (.int .i64 0), (.int .i64 0), (.int .i64 0), (.int .i64 0), (.int .i64 0), (.int .i64 0)] [(0, 12, (.t 46))], none⟩,
    ⟨(some 48), .app 23 12 120 (.t 45) (.t 47), none⟩,
    ⟨(some 9), .mov (.t 48), none⟩] [3, 9, 31, 32, 33])
  .skip)))))
  (.ops [⟨(some 49), .bin .add (.t 33) (.c (.s (.int .i64 1))), none⟩,
    ⟨(some 33), .mov (.t 49), none⟩] [3, 9, 31, 32, 33]))
def l6_0_1 : EC := (.seq (.cond (.t 34) .skip
  (.exit 0 [3, 9]))
  l6_0_2)
def l6_0 : EC := (.seq (.ops [⟨(some 34), .bin .lss (.t 33) (.t 32), none⟩] [3, 9, 31, 32, 33, 34])
  l6_0_1)
def s6_13 : EC := (.seq (.ops [⟨(some 129), .mov (.t 25), none⟩,
    ⟨(some 130), .bin .eql (.t 129) (.c (.s (.int .i64 2))), none⟩,
    ⟨(some 131), .mov (.t 130), none⟩,
    ⟨(some 132), .mov (.t 24), (some (131, true))⟩,
    ⟨(some 133), .mov (.t 19), (some (131, true))⟩,
    ⟨(some 134), .len (.t 133), (some (131, true))⟩,
    ⟨(some 135), .bin .eql (.t 132) (.t 134), (some (131, true))⟩,
    ⟨(some 136), .pick (.t 131) (.t 135) (.c (.s (.bool false))), none⟩,
    ⟨(some 137), .mov (.t 136), none⟩,
    ⟨(some 138), .mov (.t 23), (some (137, true))⟩,
    ⟨(some 139), .len (.t 138), (some (137, true))⟩,
    ⟨(some 140), .bin .eql (.t 139) (.c (.s (.int .i64 0))), (some (137, true))⟩,
    ⟨(some 141), .pick (.t 137) (.t 140) (.c (.s (.bool false))), none⟩,
    ⟨(some 142), .mov (.t 141), none⟩,
    ⟨(some 143), .mov (.t 19), (some (142, true))⟩,
    ⟨(some 144), .call 11 [(.t 143)], (some (142, true))⟩,
    ⟨(some 145), .mov (.t 26), (some (142, true))⟩,
    ⟨(some 146), .app 5 1 1 (.t 144) (.t 145), (some (142, true))⟩,
    ⟨(some 147), .mov (.t 14), (some (142, true))⟩,
    ⟨(some 148), .call 10 [(.t 146), (.t 147)], (some (142, true))⟩,
    ⟨(some 149), .pick (.t 142) (.t 148) (.c (.s (.bool false))), none⟩,
    ⟨(some 150), .mov (.t 149), none⟩,
    ⟨(some 151), .call 14 [], (some (150, true))⟩,
    ⟨(some 152), .pick (.t 150) (.t 151) (.c (.s (.bool false))), none⟩,
    ⟨(some 8), .mov (.t 152), none⟩] [8])
  (.ret [8]))
def s6_12 : EC := (.seq (.ops [⟨(some 119), .mov (.t 9), none⟩,
    ⟨(some 120), .mov (.t 9), none⟩,
    ⟨(some 121), .len (.t 120), none⟩,
    ⟨(some 122), .bin .sub (.t 121) (.c (.s (.int .i64 1))), none⟩,
    ⟨(some 123), .iad 23 12 (.t 119) (.t 122), none⟩,
    ⟨(some 124), .load true 12 (.t 123), none⟩,
    ⟨(some 125), .bsl 23 1 [(.int .i64 0), (.str ⟨#[]⟩), (.str ⟨#[]⟩), (.str ⟨#[]⟩), (.int .i64 0), (.int .i64 0), (.int .i64 0), (.int .i64 0), (.int .i64 0), (.int .i64 0), (.int .i64 0), (.int .i64 0)] [(0, 12, (.t 124))], none⟩,
    ⟨(some 126), .call 9 [(.t 125)], none⟩,
    ⟨(some 118), .mov (.t 126), none⟩,
    ⟨(some 127), .ext (.t 118) 0, none⟩,
    ⟨(some 128), .ext (.t 118) 1, none⟩,
    ⟨(some 26), .mov (.t 127), none⟩,
    ⟨(some 27), .mov (.t 128), none⟩] [14, 19, 23, 24, 25, 26])
  s6_13)
def s6_11 : EC := (.seq (.ops [⟨(some 111), .mov (.t 14), none⟩,
    ⟨(some 112), .mov (.t 22), none⟩,
    ⟨(some 113), .sli 5 1 (.t 111) none (some (.t 112)), none⟩,
    ⟨(some 114), .call 12 [(.t 113)], none⟩,
    ⟨(some 110), .mov (.t 114), none⟩,
    ⟨(some 115), .ext (.t 110) 0, none⟩,
    ⟨(some 116), .ext (.t 110) 1, none⟩,
    ⟨(some 117), .ext (.t 110) 2, none⟩,
    ⟨(some 23), .mov (.t 115), none⟩,
    ⟨(some 24), .mov (.t 116), none⟩,
    ⟨(some 25), .mov (.t 117), none⟩] [9, 14, 19, 23, 24, 25])
  s6_12)
def s6_10 : EC := (.seq (.ops [⟨(some 102), .mov (.t 19), none⟩,
    ⟨(some 103), .len (.t 102), none⟩,
    ⟨(some 104), .bin .add (.t 103) (.c (.s (.int .i64 1))), none⟩,
    ⟨(some 105), .mov (.t 3), none⟩,
    ⟨(some 106), .mov (.t 21), none⟩,
    ⟨(some 107), .bin .sub (.t 106) (.c (.s (.int .i64 1))), none⟩,
    ⟨(some 108), .call 18 [(.t 105), (.t 107)], none⟩,
    ⟨(some 109), .bin .add (.t 104) (.t 108), none⟩,
    ⟨(some 22), .mov (.t 109), none⟩] [9, 14, 19, 22])
  s6_11)
def s6_9 : EC := (.seq (.seq (.ops [⟨(some 100), .mov (.t 21), none⟩,
    ⟨(some 101), .bin .lss (.t 100) (.c (.s (.int .i64 2))), none⟩] [3, 9, 14, 19, 21, 101])
  (.cond (.t 101) (.seq (.ops [⟨(some 8), .mov (.c (.s (.bool false))), none⟩] [8])
  (.ret [8]))
  .skip))
  s6_10)
def s6_8 : EC := (.seq (.ops [⟨(some 95), .mov (.t 14), none⟩,
    ⟨(some 96), .len (.t 95), none⟩,
    ⟨(some 97), .mov (.t 19), none⟩,
    ⟨(some 98), .len (.t 97), none⟩,
    ⟨(some 99), .bin .sub (.t 96) (.t 98), none⟩,
    ⟨(some 21), .mov (.t 99), none⟩] [3, 9, 14, 19, 21])
  s6_9)
def s6_7 : EC := (.seq (.ops [⟨(some 87), .mov (.t 9), none⟩,
    ⟨(some 88), .mov (.t 9), none⟩,
    ⟨(some 89), .len (.t 88), none⟩,
    ⟨(some 90), .bin .sub (.t 89) (.c (.s (.int .i64 1))), none⟩,
    ⟨(some 91), .sli 23 12 (.t 87) none (some (.t 90)), none⟩,
    ⟨(some 92), .call 9 [(.t 91)], none⟩,
    ⟨(some 86), .mov (.t 92), none⟩,
    ⟨(some 93), .ext (.t 86) 0, none⟩,
    ⟨(some 94), .ext (.t 86) 1, none⟩,
    ⟨(some 19), .mov (.t 93), none⟩,
    ⟨(some 20), .mov (.t 94), none⟩] [3, 9, 14, 19])
  s6_8)
def s6_6 : EC := (.seq (.seq (.ops [⟨(some 77), .mov (.t 9), none⟩,
    ⟨(some 78), .len (.t 77), none⟩,
    ⟨(some 79), .bin .eql (.t 78) (.c (.s (.int .i64 0))), none⟩] [3, 9, 14, 79])
  (.cond (.t 79) (.seq (.ops [⟨(some 80), .mov (.t 14), none⟩,
    ⟨(some 81), .len (.t 80), none⟩,
    ⟨(some 82), .bin .eql (.t 81) (.c (.s (.int .i64 0))), none⟩,
    ⟨(some 83), .mov (.t 82), none⟩,
    ⟨(some 84), .call 14 [], (some (83, true))⟩,
    ⟨(some 85), .pick (.t 83) (.t 84) (.c (.s (.bool false))), none⟩,
    ⟨(some 8), .mov (.t 85), none⟩] [8])
  (.ret [8]))
  .skip))
  s6_7)
def s6_5 : EC := (.seq (.seq (.ops [⟨(some 61), .mov (.t 15), none⟩,
    ⟨(some 62), .bin .neq (.t 61) (.c (.s (.int .i64 0))), none⟩,
    ⟨(some 63), .mov (.t 62), none⟩,
    ⟨(some 64), .mov (.t 18), (some (63, false))⟩,
    ⟨(some 65), .bin .neq (.t 64) (.c (.s (.int .i64 0))), (some (63, false))⟩,
    ⟨(some 66), .pick (.t 63) (.c (.s (.bool true))) (.t 65), none⟩,
    ⟨(some 67), .mov (.t 66), none⟩,
    ⟨(some 68), .mov (.t 17), (some (67, false))⟩,
    ⟨(some 69), .bin .neq (.t 68) (.c (.s (.int .i64 0))), (some (67, false))⟩,
    ⟨(some 70), .pick (.t 67) (.c (.s (.bool true))) (.t 69), none⟩,
    ⟨(some 71), .mov (.t 70), none⟩,
    ⟨(some 72), .mov (.t 9), (some (71, false))⟩,
    ⟨(some 73), .mov (.t 16), (some (71, false))⟩,
    ⟨(some 74), .call 13 [(.t 72), (.t 73)], (some (71, false))⟩,
    ⟨(some 75), .un .not (.t 74), (some (71, false))⟩,
    ⟨(some 76), .pick (.t 71) (.c (.s (.bool true))) (.t 75), none⟩] [3, 9, 14, 76])
  (.cond (.t 76) (.seq (.ops [⟨(some 8), .mov (.c (.s (.bool false))), none⟩] [8])
  (.ret [8]))
  .skip))
  s6_6)
def s6_4 : EC := (.seq (.ops [⟨(some 56), .mov (.t 14), none⟩,
    ⟨(some 57), .call 12 [(.t 56)], none⟩,
    ⟨(some 55), .mov (.t 57), none⟩,
    ⟨(some 58), .ext (.t 55) 0, none⟩,
    ⟨(some 59), .ext (.t 55) 1, none⟩,
    ⟨(some 60), .ext (.t 55) 2, none⟩,
    ⟨(some 16), .mov (.t 58), none⟩,
    ⟨(some 17), .mov (.t 59), none⟩,
    ⟨(some 18), .mov (.t 60), none⟩] [3, 9, 14, 15, 16, 17, 18])
  s6_5)
def s6_3 : EC := (.seq (.ops [⟨(some 51), .mov (.t 9), none⟩,
    ⟨(some 52), .call 9 [(.t 51)], none⟩,
    ⟨(some 50), .mov (.t 52), none⟩,
    ⟨(some 53), .ext (.t 50) 0, none⟩,
    ⟨(some 54), .ext (.t 50) 1, none⟩,
    ⟨(some 14), .mov (.t 53), none⟩,
    ⟨(some 15), .mov (.t 54), none⟩] [3, 9, 14, 15])
  s6_4)
def s6_2 : EC := (.seq (.seq (.ops [⟨(some 28), .mov (.t 0), none⟩,
    ⟨(some 29), .mov (.t 1), none⟩,
    ⟨(some 30), .mov (.t 2), none⟩,
    ⟨(some 31), .call 15 [(.t 28), (.t 29), (.t 30)], none⟩,
    ⟨(some 32), .len (.t 31), none⟩,
    ⟨(some 33), .mov (.c (.s (.int .i64 0))), none⟩] [3, 9, 31, 32, 33])
  (.block 0 (.loop [3, 9, 31, 32, 33] l6_0)))
  s6_3)
def s6_1 : EC := (.seq (.ops [⟨(some 9), .mov (.c (.s .nils)), none⟩] [0, 1, 2, 3, 9])
  s6_2)
def b6 : EC := (.seq (.ops [⟨(some 8), .mov (.c (.s (.bool false))), none⟩] [0, 1, 2, 3])
  s6_1)
def e6 : EF := ⟨153, b6, [.tmp 8]⟩

/-- scutage/scutagelaw27.WireJoins -/
def h7 : List (List Nat) := [[0, 1, 2], [0, 1, 2, 7, 8], [1, 2, 7, 8, 29, 30, 31], [1, 2, 7, 8, 29, 30, 31], [1, 2, 7, 8, 29, 30, 31, 32], [1, 2, 7, 8], [1, 2, 7, 8, 10, 29, 30, 31], [1, 2, 7, 8, 10, 12, 29, 30, 31], [1, 2, 7, 8, 10, 29, 30, 31, 42], [1, 2, 7, 8, 29, 30, 31], [1, 2, 7, 8, 29, 30, 31], [2, 7, 8, 49, 50, 51], [2, 7, 8, 49, 50, 51], [2, 7, 8, 49, 50, 51, 52], [2, 7, 8], [2, 7, 8, 14, 49, 50, 51], [2, 7, 8, 14, 16, 49, 50, 51], [2, 7, 8, 14, 49, 50, 51, 62], [2, 7, 8, 49, 50, 51], [2, 7, 8, 49, 50, 51], [2, 7, 8, 17, 18], [2, 7, 8, 17, 18, 19, 20], [2, 7, 8, 18, 20, 21, 23], [2, 7, 105], [6], [6], [7, 24], [25], [26, 27], [6], [6]]
def l7_0_2 : EC := (.seq (.block 1 (.seq (.ops [⟨(some 33), .iad 23 12 (.t 29) (.t 31), none⟩,
    ⟨(some 34), .load true 12 (.t 33), none⟩,
    ⟨(some 10), .new 23 12 (.c (.agg [(.int .i64 0), (.str ⟨#[]⟩), (.str ⟨#[]⟩), (.str ⟨#[]⟩), (.int .i64 0), (.int .i64 0), (.int .i64 0), (.int .i64 0), (.int .i64 0), (.int .i64 0), (.int .i64 0), (.int .i64 0)])), none⟩,
    ⟨none, .store 12 (.t 10) (.t 34), none⟩] [1, 2, 7, 8, 10, 29, 30, 31])
  (.seq (.ops [⟨(some 36), .load true 12 (.t 10), none⟩,
    ⟨(some 37), .bsl 23 1 [(.int .i64 0), (.str ⟨#[]⟩), (.str ⟨#[]⟩), (.str ⟨#[]⟩), (.int .i64 0), (.int .i64 0), (.int .i64 0), (.int .i64 0), (.int .i64 0), (.int .i64 0), (.int .i64 0), (.int .i64 0)] [(0, 12, (.t 36))], none⟩,
    ⟨(some 38), .call 9 [(.t 37)], none⟩,
    ⟨(some 35), .mov (.t 38), none⟩,
    ⟨(some 39), .ext (.t 35) 0, none⟩,
    ⟨(some 40), .ext (.t 35) 1, none⟩,
    ⟨(some 11), .mov (.t 39), none⟩,
    ⟨(some 12), .mov (.t 40), none⟩] [1, 2, 7, 8, 10, 12, 29, 30, 31])
  (.seq (.ops [⟨(some 41), .mov (.t 12), none⟩,
    ⟨(some 42), .bin .eql (.t 41) (.c (.s (.int .i64 0))), none⟩] [1, 2, 7, 8, 10, 29, 30, 31, 42])
  (.cond (.t 42) (.ops [⟨(some 43), .mov (.t 7), none⟩,
    ⟨(some 44), .load true 12 (.t 10), none⟩,
    ⟨(some 45), .bsl 23 1 [(.int .i64 0), (.str ⟨#[]⟩), (.str ⟨#[]⟩), (.str ⟨#[]⟩), (.int .i64 0), (.int .i64 0), (.int .i64 0), (.int .i64 0), (.int .i64 0), (.int .i64 0), (.int .i64 0), (.int .i64 0)] [(0, 12, (.t 44))], none⟩,
    ⟨(some 46), .app 23 12 120 (.t 43) (.t 45), none⟩,
    ⟨(some 7), .mov (.t 46), none⟩] [1, 2, 7, 8, 29, 30, 31])
  .skip)))))
  (.ops [⟨(some 47), .bin .add (.t 31) (.c (.s (.int .i64 1))), none⟩,
    ⟨(some 31), .mov (.t 47), none⟩] [1, 2, 7, 8, 29, 30, 31]))
def l7_0_1 : EC := (.seq (.cond (.t 32) .skip
  (.exit 0 [1, 2, 7, 8]))
  l7_0_2)
def l7_0 : EC := (.seq (.ops [⟨(some 32), .bin .lss (.t 31) (.t 30), none⟩] [1, 2, 7, 8, 29, 30, 31, 32])
  l7_0_1)
def l7_1_2 : EC := (.seq (.block 3 (.seq (.ops [⟨(some 53), .iad 23 12 (.t 49) (.t 51), none⟩,
    ⟨(some 54), .load true 12 (.t 53), none⟩,
    ⟨(some 14), .new 23 12 (.c (.agg [(.int .i64 0), (.str ⟨#[]⟩), (.str ⟨#[]⟩), (.str ⟨#[]⟩), (.int .i64 0), (.int .i64 0), (.int .i64 0), (.int .i64 0), (.int .i64 0), (.int .i64 0), (.int .i64 0), (.int .i64 0)])), none⟩,
    ⟨none, .store 12 (.t 14) (.t 54), none⟩] [2, 7, 8, 14, 49, 50, 51])
  (.seq (.ops [⟨(some 56), .load true 12 (.t 14), none⟩,
    ⟨(some 57), .bsl 23 1 [(.int .i64 0), (.str ⟨#[]⟩), (.str ⟨#[]⟩), (.str ⟨#[]⟩), (.int .i64 0), (.int .i64 0), (.int .i64 0), (.int .i64 0), (.int .i64 0), (.int .i64 0), (.int .i64 0), (.int .i64 0)] [(0, 12, (.t 56))], none⟩,
    ⟨(some 58), .call 9 [(.t 57)], none⟩,
    ⟨(some 55), .mov (.t 58), none⟩,
    ⟨(some 59), .ext (.t 55) 0, none⟩,
    ⟨(some 60), .ext (.t 55) 1, none⟩,
    ⟨(some 15), .mov (.t 59), none⟩,
    ⟨(some 16), .mov (.t 60), none⟩] [2, 7, 8, 14, 16, 49, 50, 51])
  (.seq (.ops [⟨(some 61), .mov (.t 16), none⟩,
    ⟨(some 62), .bin .eql (.t 61) (.c (.s (.int .i64 0))), none⟩] [2, 7, 8, 14, 49, 50, 51, 62])
  (.cond (.t 62) (.ops [⟨(some 63), .mov (.t 8), none⟩,
    ⟨(some 64), .load true 12 (.t 14), none⟩,
    ⟨(some 65), .bsl 23 1 [(.int .i64 0), (.str ⟨#[]⟩), (.str ⟨#[]⟩), (.str ⟨#[]⟩), (.int .i64 0), (.int .i64 0), (.int .i64 0), (.int .i64 0), (.int .i64 0), (.int .i64 0), (.int .i64 0), (.int .i64 0)] [(0, 12, (.t 64))], none⟩,
    ⟨(some 66), .app 23 12 120 (.t 63) (.t 65), none⟩,
    ⟨(some 8), .mov (.t 66), none⟩] [2, 7, 8, 49, 50, 51])
  .skip)))))
  (.ops [⟨(some 67), .bin .add (.t 51) (.c (.s (.int .i64 1))), none⟩,
    ⟨(some 51), .mov (.t 67), none⟩] [2, 7, 8, 49, 50, 51]))
def l7_1_1 : EC := (.seq (.cond (.t 52) .skip
  (.exit 2 [2, 7, 8]))
  l7_1_2)
def l7_1 : EC := (.seq (.ops [⟨(some 52), .bin .lss (.t 51) (.t 50), none⟩] [2, 7, 8, 49, 50, 51, 52])
  l7_1_1)
def s7_11 : EC := (.seq (.ops [⟨(some 127), .mov (.t 27), none⟩,
    ⟨(some 128), .bin .eql (.t 127) (.c (.s (.int .i64 1))), none⟩,
    ⟨(some 129), .mov (.t 128), none⟩,
    ⟨(some 130), .mov (.t 26), (some (129, true))⟩,
    ⟨(some 131), .len (.t 130), (some (129, true))⟩,
    ⟨(some 132), .bin .eql (.t 131) (.c (.s (.int .i64 0))), (some (129, true))⟩,
    ⟨(some 133), .pick (.t 129) (.t 132) (.c (.s (.bool false))), none⟩,
    ⟨(some 134), .mov (.t 133), none⟩,
    ⟨(some 135), .call 14 [], (some (134, true))⟩,
    ⟨(some 136), .pick (.t 134) (.t 135) (.c (.s (.bool false))), none⟩,
    ⟨(some 6), .mov (.t 136), none⟩] [6])
  (.ret [6]))
def s7_10 : EC := (.seq (.ops [⟨(some 123), .mov (.t 25), none⟩,
    ⟨(some 124), .call 9 [(.t 123)], none⟩,
    ⟨(some 122), .mov (.t 124), none⟩,
    ⟨(some 125), .ext (.t 122) 0, none⟩,
    ⟨(some 126), .ext (.t 122) 1, none⟩,
    ⟨(some 26), .mov (.t 125), none⟩,
    ⟨(some 27), .mov (.t 126), none⟩] [26, 27])
  s7_11)
def s7_9 : EC := (.seq (.draw [⟨(some 111), .mov (.t 7), none⟩,
    ⟨(some 112), .mov (.t 24), none⟩,
    ⟨(some 113), .sli 23 12 (.t 111) none (some (.t 112)), none⟩,
    ⟨(some 114), .call 22 [(.t 113)], none⟩,
    ⟨(some 115), .build [(.int .i64 0), (.str ⟨#[]⟩), (.str ⟨#[]⟩), (.str ⟨#[]⟩), (.int .i64 0), (.int .i64 0), (.int .i64 0), (.int .i64 0), (.int .i64 0), (.int .i64 0), (.int .i64 0), (.int .i64 0)] [(0, 1, (.c (.s (.int .i64 11))))], none⟩,
    ⟨(some 116), .bsl 23 1 [(.int .i64 0), (.str ⟨#[]⟩), (.str ⟨#[]⟩), (.str ⟨#[]⟩), (.int .i64 0), (.int .i64 0), (.int .i64 0), (.int .i64 0), (.int .i64 0), (.int .i64 0), (.int .i64 0), (.int .i64 0)] [(0, 12, (.t 115))], none⟩,
    ⟨(some 117), .app 23 12 120 (.t 114) (.t 116), none⟩,
    ⟨(some 118), .mov (.t 7), none⟩,
    ⟨(some 119), .mov (.t 24), none⟩,
    ⟨(some 120), .sli 23 12 (.t 118) (some (.t 119)) none, none⟩,
    ⟨(some 121), .app 23 12 120 (.t 117) (.t 120), none⟩,
    ⟨(some 25), .mov (.t 121), none⟩] [(9, 3), (9, 5), (9, 6)] [25])
  s7_10)
def s7_8 : EC := (.seq (.ops [⟨(some 106), .mov (.t 2), none⟩,
    ⟨(some 107), .mov (.t 7), none⟩,
    ⟨(some 108), .len (.t 107), none⟩,
    ⟨(some 109), .bin .add (.t 108) (.c (.s (.int .i64 1))), none⟩,
    ⟨(some 110), .call 18 [(.t 106), (.t 109)], none⟩,
    ⟨(some 24), .mov (.t 110), none⟩] [7, 24])
  s7_9)
def s7_7 : EC := (.seq (.seq (.ops [⟨(some 87), .mov (.t 18), none⟩,
    ⟨(some 88), .bin .neq (.t 87) (.c (.s (.int .i64 0))), none⟩,
    ⟨(some 89), .mov (.t 88), none⟩,
    ⟨(some 90), .mov (.t 20), (some (89, false))⟩,
    ⟨(some 91), .bin .neq (.t 90) (.c (.s (.int .i64 0))), (some (89, false))⟩,
    ⟨(some 92), .pick (.t 89) (.c (.s (.bool true))) (.t 91), none⟩,
    ⟨(some 93), .mov (.t 92), none⟩,
    ⟨(some 94), .mov (.t 23), (some (93, false))⟩,
    ⟨(some 95), .bin .neq (.t 94) (.c (.s (.int .i64 0))), (some (93, false))⟩,
    ⟨(some 96), .pick (.t 93) (.c (.s (.bool true))) (.t 95), none⟩,
    ⟨(some 97), .mov (.t 96), none⟩,
    ⟨(some 98), .mov (.t 21), (some (97, false))⟩,
    ⟨(some 99), .mov (.t 7), (some (97, false))⟩,
    ⟨(some 100), .call 22 [(.t 99)], (some (97, false))⟩,
    ⟨(some 101), .mov (.t 8), (some (97, false))⟩,
    ⟨(some 102), .app 23 12 120 (.t 100) (.t 101), (some (97, false))⟩,
    ⟨(some 103), .call 13 [(.t 98), (.t 102)], (some (97, false))⟩,
    ⟨(some 104), .un .not (.t 103), (some (97, false))⟩,
    ⟨(some 105), .pick (.t 97) (.c (.s (.bool true))) (.t 104), none⟩] [2, 7, 105])
  (.cond (.t 105) (.seq (.ops [⟨(some 6), .mov (.c (.s (.bool false))), none⟩] [6])
  (.ret [6]))
  .skip))
  s7_8)
def s7_6 : EC := (.seq (.ops [⟨(some 79), .mov (.t 17), none⟩,
    ⟨(some 80), .call 11 [(.t 79)], none⟩,
    ⟨(some 81), .mov (.t 19), none⟩,
    ⟨(some 82), .app 5 1 1 (.t 80) (.t 81), none⟩,
    ⟨(some 83), .call 12 [(.t 82)], none⟩,
    ⟨(some 78), .mov (.t 83), none⟩,
    ⟨(some 84), .ext (.t 78) 0, none⟩,
    ⟨(some 85), .ext (.t 78) 1, none⟩,
    ⟨(some 86), .ext (.t 78) 2, none⟩,
    ⟨(some 21), .mov (.t 84), none⟩,
    ⟨(some 22), .mov (.t 85), none⟩,
    ⟨(some 23), .mov (.t 86), none⟩] [2, 7, 8, 18, 20, 21, 23])
  s7_7)
def s7_5 : EC := (.seq (.ops [⟨(some 74), .mov (.t 8), none⟩,
    ⟨(some 75), .call 9 [(.t 74)], none⟩,
    ⟨(some 73), .mov (.t 75), none⟩,
    ⟨(some 76), .ext (.t 73) 0, none⟩,
    ⟨(some 77), .ext (.t 73) 1, none⟩,
    ⟨(some 19), .mov (.t 76), none⟩,
    ⟨(some 20), .mov (.t 77), none⟩] [2, 7, 8, 17, 18, 19, 20])
  s7_6)
def s7_4 : EC := (.seq (.ops [⟨(some 69), .mov (.t 7), none⟩,
    ⟨(some 70), .call 9 [(.t 69)], none⟩,
    ⟨(some 68), .mov (.t 70), none⟩,
    ⟨(some 71), .ext (.t 68) 0, none⟩,
    ⟨(some 72), .ext (.t 68) 1, none⟩,
    ⟨(some 17), .mov (.t 71), none⟩,
    ⟨(some 18), .mov (.t 72), none⟩] [2, 7, 8, 17, 18])
  s7_5)
def s7_3 : EC := (.seq (.seq (.ops [⟨(some 48), .mov (.t 1), none⟩,
    ⟨(some 49), .call 15 [(.t 48), (.c (.s .nils)), (.c (.s .nils))], none⟩,
    ⟨(some 50), .len (.t 49), none⟩,
    ⟨(some 51), .mov (.c (.s (.int .i64 0))), none⟩] [2, 7, 8, 49, 50, 51])
  (.block 2 (.loop [2, 7, 8, 49, 50, 51] l7_1)))
  s7_4)
def s7_2 : EC := (.seq (.seq (.ops [⟨(some 28), .mov (.t 0), none⟩,
    ⟨(some 29), .call 15 [(.t 28), (.c (.s .nils)), (.c (.s .nils))], none⟩,
    ⟨(some 30), .len (.t 29), none⟩,
    ⟨(some 31), .mov (.c (.s (.int .i64 0))), none⟩] [1, 2, 7, 8, 29, 30, 31])
  (.block 0 (.loop [1, 2, 7, 8, 29, 30, 31] l7_0)))
  s7_3)
def s7_1 : EC := (.seq (.ops [⟨(some 7), .mov (.c (.s .nils)), none⟩,
    ⟨(some 8), .mov (.c (.s .nils)), none⟩] [0, 1, 2, 7, 8])
  s7_2)
def b7 : EC := (.seq (.ops [⟨(some 6), .mov (.c (.s (.bool false))), none⟩] [0, 1, 2])
  s7_1)
def e7 : EF := ⟨137, b7, [.tmp 6]⟩

/-- scutage/scutagelaw27.number -/
def h8 : List (List Nat) := [[0], [0, 3], [0, 3, 4], [0, 3, 4], [0, 3, 4, 6], [3], [0, 3, 4], [0, 3, 4], [2], [2]]
def l8_0_1 : EC := (.seq (.block 1 (.ops [⟨(some 9), .mov (.t 3), none⟩,
    ⟨(some 10), .mov (.t 0), none⟩,
    ⟨(some 11), .toi .u64 (.t 10), none⟩,
    ⟨(some 12), .mov (.t 4), none⟩,
    ⟨(some 13), .toi .u64 (.t 12), none⟩,
    ⟨(some 14), .bin .shr (.t 11) (.t 13), none⟩,
    ⟨(some 15), .toi .u8 (.t 14), none⟩,
    ⟨(some 16), .bsl 5 1 [(.int .u8 0)] [(0, 1, (.t 15))], none⟩,
    ⟨(some 17), .app 5 1 1 (.t 9) (.t 16), none⟩,
    ⟨(some 3), .mov (.t 17), none⟩] [0, 3, 4]))
  (.ops [⟨(some 7), .mov (.t 4), none⟩,
    ⟨(some 8), .bin .sub (.t 7) (.c (.s (.int .i64 8))), none⟩,
    ⟨(some 4), .mov (.t 8), none⟩] [0, 3, 4]))
def l8_0 : EC := (.seq (.seq (.ops [⟨(some 5), .mov (.t 4), none⟩,
    ⟨(some 6), .bin .geq (.t 5) (.c (.s (.int .i64 0))), none⟩] [0, 3, 4, 6])
  (.cond (.t 6) .skip
  (.exit 0 [3])))
  l8_0_1)
def s8_3 : EC := (.seq (.ops [⟨(some 18), .mov (.t 3), none⟩,
    ⟨(some 2), .mov (.t 18), none⟩] [2])
  (.ret [2]))
def s8_2 : EC := (.seq (.seq (.ops [⟨(some 4), .mov (.c (.s (.int .i64 56))), none⟩] [0, 3, 4])
  (.block 0 (.loop [0, 3, 4] l8_0)))
  s8_3)
def s8_1 : EC := (.seq (.ops [⟨(some 3), .mov (.c (.s .nils)), none⟩] [0, 3])
  s8_2)
def b8 : EC := (.seq (.ops [⟨(some 2), .mov (.c (.s .nils)), none⟩] [0])
  s8_1)
def e8 : EF := ⟨19, b8, [.tmp 2]⟩

/-- scutage/wire.Pack -/
def h9 : List (List Nat) := [[0], [0, 4], [4, 8, 9, 10], [4, 8, 9, 10], [4, 8, 9, 10, 11], [4], [4, 6, 8, 9, 10], [4, 6, 7, 8, 9, 10], [4, 6, 7, 8, 9, 10, 17], [2, 3], [2, 3], [4, 8, 9, 10], [4, 8, 9, 10], [2, 3], [2, 3]]
def l9_0_2 : EC := (.seq (.block 1 (.seq (.ops [⟨(some 12), .iad 23 12 (.t 8) (.t 10), none⟩,
    ⟨(some 13), .load true 12 (.t 12), none⟩,
    ⟨(some 6), .new 23 12 (.c (.agg [(.int .i64 0), (.str ⟨#[]⟩), (.str ⟨#[]⟩), (.str ⟨#[]⟩), (.int .i64 0), (.int .i64 0), (.int .i64 0), (.int .i64 0), (.int .i64 0), (.int .i64 0), (.int .i64 0), (.int .i64 0)])), none⟩,
    ⟨none, .store 12 (.t 6) (.t 13), none⟩] [4, 6, 8, 9, 10])
  (.seq (.seq (.ops [⟨(some 14), .load true 12 (.t 6), none⟩,
    ⟨(some 15), .call 23 [(.t 14)], none⟩,
    ⟨(some 7), .mov (.t 15), none⟩] [4, 6, 7, 8, 9, 10])
  (.seq (.ops [⟨(some 16), .mov (.t 7), none⟩,
    ⟨(some 17), .bin .neq (.t 16) (.c (.s (.int .i64 0))), none⟩] [4, 6, 7, 8, 9, 10, 17])
  (.cond (.t 17) (.seq (.ops [⟨(some 18), .mov (.t 7), none⟩,
    ⟨(some 2), .mov (.c (.s .nils)), none⟩,
    ⟨(some 3), .mov (.t 18), none⟩] [2, 3])
  (.ret [2, 3]))
  .skip)))
  (.ops [⟨(some 19), .mov (.t 4), none⟩,
    ⟨(some 20), .load true 12 (.t 6), none⟩,
    ⟨(some 21), .call 24 [(.t 20)], none⟩,
    ⟨(some 22), .app 5 1 1 (.t 19) (.t 21), none⟩,
    ⟨(some 4), .mov (.t 22), none⟩] [4, 8, 9, 10]))))
  (.ops [⟨(some 23), .bin .add (.t 10) (.c (.s (.int .i64 1))), none⟩,
    ⟨(some 10), .mov (.t 23), none⟩] [4, 8, 9, 10]))
def l9_0_1 : EC := (.seq (.cond (.t 11) .skip
  (.exit 0 [4]))
  l9_0_2)
def l9_0 : EC := (.seq (.ops [⟨(some 11), .bin .lss (.t 10) (.t 9), none⟩] [4, 8, 9, 10, 11])
  l9_0_1)
def s9_3 : EC := (.seq (.ops [⟨(some 24), .mov (.t 4), none⟩,
    ⟨(some 2), .mov (.t 24), none⟩,
    ⟨(some 3), .mov (.c (.s (.int .i64 0))), none⟩] [2, 3])
  (.ret [2, 3]))
def s9_2 : EC := (.seq (.seq (.ops [⟨(some 8), .mov (.t 0), none⟩,
    ⟨(some 9), .len (.t 8), none⟩,
    ⟨(some 10), .mov (.c (.s (.int .i64 0))), none⟩] [4, 8, 9, 10])
  (.block 0 (.loop [4, 8, 9, 10] l9_0)))
  s9_3)
def s9_1 : EC := (.seq (.ops [⟨(some 4), .mov (.c (.s .nils)), none⟩] [0, 4])
  s9_2)
def b9 : EC := (.seq (.ops [⟨(some 2), .mov (.c (.s .nils)), none⟩,
    ⟨(some 3), .mov (.c (.s (.int .i64 0))), none⟩] [0])
  s9_1)
def e9 : EF := ⟨25, b9, [.tmp 2, .tmp 3]⟩

/-- scutage/scutagekeep.Same[byte] -/
def h10 : List (List Nat) := [[0, 1], [0, 1, 10], [4], [4], [0, 1, 5], [0, 1, 5], [0, 1, 5, 14], [], [0, 1, 5, 25], [4], [4], [0, 1, 5], [4], [4]]
def l10_0_1 : EC := (.seq (.block 1 (.seq (.draw [⟨(some 17), .mov (.t 0), none⟩,
    ⟨(some 18), .mov (.t 5), none⟩,
    ⟨(some 19), .iad 5 1 (.t 17) (.t 18), none⟩,
    ⟨(some 20), .load false 1 (.t 19), none⟩,
    ⟨(some 21), .mov (.t 1), none⟩,
    ⟨(some 22), .mov (.t 5), none⟩,
    ⟨(some 23), .iad 5 1 (.t 21) (.t 22), none⟩,
    ⟨(some 24), .load false 1 (.t 23), none⟩,
    ⟨(some 25), .bin .neq (.t 20) (.t 24), none⟩] [] [0, 1, 5, 25])
  (.cond (.t 25) (.seq (.ops [⟨(some 4), .mov (.c (.s (.bool false))), none⟩] [4])
  (.ret [4]))
  .skip)))
  (.ops [⟨(some 15), .mov (.t 5), none⟩,
    ⟨(some 16), .bin .add (.t 15) (.c (.s (.int .i64 1))), none⟩,
    ⟨(some 5), .mov (.t 16), none⟩] [0, 1, 5]))
def l10_0 : EC := (.seq (.seq (.ops [⟨(some 11), .mov (.t 5), none⟩,
    ⟨(some 12), .mov (.t 0), none⟩,
    ⟨(some 13), .len (.t 12), none⟩,
    ⟨(some 14), .bin .lss (.t 11) (.t 13), none⟩] [0, 1, 5, 14])
  (.cond (.t 14) .skip
  (.exit 0 [])))
  l10_0_1)
def s10_3 : EC := (.seq (.ops [⟨(some 4), .mov (.c (.s (.bool true))), none⟩] [4])
  (.ret [4]))
def s10_2 : EC := (.seq (.seq (.ops [⟨(some 5), .mov (.c (.s (.int .i64 0))), none⟩] [0, 1, 5])
  (.block 0 (.loop [0, 1, 5] l10_0)))
  s10_3)
def s10_1 : EC := (.seq (.seq (.ops [⟨(some 6), .mov (.t 0), none⟩,
    ⟨(some 7), .len (.t 6), none⟩,
    ⟨(some 8), .mov (.t 1), none⟩,
    ⟨(some 9), .len (.t 8), none⟩,
    ⟨(some 10), .bin .neq (.t 7) (.t 9), none⟩] [0, 1, 10])
  (.cond (.t 10) (.seq (.ops [⟨(some 4), .mov (.c (.s (.bool false))), none⟩] [4])
  (.ret [4]))
  .skip))
  s10_2)
def b10 : EC := (.seq (.ops [⟨(some 4), .mov (.c (.s (.bool false))), none⟩] [0, 1])
  s10_1)
def e10 : EF := ⟨26, b10, [.tmp 4]⟩

/-- scutage/scutagekeep.Copy[byte] -/
def h11 : List (List Nat) := [[0], [2], [2]]
def s11_1 : EC := (.seq (.ops [⟨(some 3), .mov (.t 0), none⟩,
    ⟨(some 4), .app 5 1 1 (.c (.s .nils)) (.t 3), none⟩,
    ⟨(some 2), .mov (.t 4), none⟩] [2])
  (.ret [2]))
def b11 : EC := (.seq (.ops [⟨(some 2), .mov (.c (.s .nils)), none⟩] [0])
  s11_1)
def e11 : EF := ⟨5, b11, [.tmp 2]⟩

/-- scutage/wire.Unpack -/
def h12 : List (List Nat) := [[0], [0, 5], [0, 5, 6], [0, 3, 5, 6], [0, 3, 5, 6, 25], [2, 3, 4], [2, 3, 4], [0, 3, 5, 6, 7, 8], [0, 3, 5, 6, 7, 33], [2, 3, 4], [2, 3, 4], [0, 5, 6], [0, 5, 6]]
def l12_0_7 : EC := (.seq (.ops [⟨(some 35), .mov (.t 6), none⟩,
    ⟨(some 36), .load true 12 (.t 7), none⟩,
    ⟨(some 37), .bsl 23 1 [(.int .i64 0), (.str ⟨#[]⟩), (.str ⟨#[]⟩), (.str ⟨#[]⟩), (.int .i64 0), (.int .i64 0), (.int .i64 0), (.int .i64 0), (.int .i64 0), (.int .i64 0), (.int .i64 0), (.int .i64 0)] [(0, 12, (.t 36))], none⟩,
    ⟨(some 38), .app 23 12 120 (.t 35) (.t 37), none⟩,
    ⟨(some 6), .mov (.t 38), none⟩] [0, 5, 6])
  (.goto 0 [0, 5, 6]))
def l12_0_6 : EC := (.seq (.seq (.ops [⟨(some 32), .mov (.t 8), none⟩,
    ⟨(some 33), .un .not (.t 32), none⟩] [0, 3, 5, 6, 7, 33])
  (.cond (.t 33) (.seq (.ops [⟨(some 34), .mov (.t 3), none⟩,
    ⟨(some 2), .mov (.c (.s .nils)), none⟩,
    ⟨(some 3), .mov (.t 34), none⟩,
    ⟨(some 4), .mov (.c (.s (.int .i64 2))), none⟩] [2, 3, 4])
  (.ret [2, 3, 4]))
  .skip))
  l12_0_7)
def l12_0_5 : EC := (.seq (.ops [⟨(some 28), .mov (.t 5), none⟩,
    ⟨(some 29), .call 25 [(.t 28)], none⟩,
    ⟨(some 27), .mov (.t 29), none⟩,
    ⟨(some 30), .ext (.t 27) 0, none⟩,
    ⟨(some 31), .ext (.t 27) 1, none⟩,
    ⟨(some 7), .new 23 12 (.c (.agg [(.int .i64 0), (.str ⟨#[]⟩), (.str ⟨#[]⟩), (.str ⟨#[]⟩), (.int .i64 0), (.int .i64 0), (.int .i64 0), (.int .i64 0), (.int .i64 0), (.int .i64 0), (.int .i64 0), (.int .i64 0)])), none⟩,
    ⟨none, .store 12 (.t 7) (.t 30), none⟩,
    ⟨(some 8), .mov (.t 31), none⟩] [0, 3, 5, 6, 7, 8])
  l12_0_6)
def l12_0_4 : EC := (.seq (.seq (.ops [⟨(some 20), .mov (.t 5), none⟩,
    ⟨(some 21), .nilc (.t 20), none⟩,
    ⟨(some 22), .fad 0 (.t 21), none⟩,
    ⟨(some 23), .load false 1 (.t 22), none⟩,
    ⟨(some 24), .len (.t 23), none⟩,
    ⟨(some 25), .bin .eql (.t 24) (.c (.s (.int .i64 0))), none⟩] [0, 3, 5, 6, 25])
  (.cond (.t 25) (.seq (.ops [⟨(some 26), .mov (.t 6), none⟩,
    ⟨(some 2), .mov (.t 26), none⟩,
    ⟨(some 3), .mov (.c (.s (.int .i64 0))), none⟩,
    ⟨(some 4), .mov (.c (.s (.int .i64 0))), none⟩] [2, 3, 4])
  (.ret [2, 3, 4]))
  .skip))
  l12_0_5)
def l12_0_3 : EC := (.seq (.ops [⟨(some 12), .mov (.t 0), none⟩,
    ⟨(some 13), .len (.t 12), none⟩,
    ⟨(some 14), .mov (.t 5), none⟩,
    ⟨(some 15), .nilc (.t 14), none⟩,
    ⟨(some 16), .fad 0 (.t 15), none⟩,
    ⟨(some 17), .load false 1 (.t 16), none⟩,
    ⟨(some 18), .len (.t 17), none⟩,
    ⟨(some 19), .bin .sub (.t 13) (.t 18), none⟩,
    ⟨(some 3), .mov (.t 19), none⟩] [0, 3, 5, 6])
  l12_0_4)
def l12_0_2 : EC := (.seq (.label 0)
  l12_0_3)
def l12_0_1 : EC := (.seq (.ops [⟨(some 6), .mov (.c (.s .nils)), none⟩] [0, 5, 6])
  l12_0_2)
def l12_0 : EC := (.seq (.ops [⟨(some 9), .mov (.t 0), none⟩,
    ⟨(some 10), .build [.nils, (.bool false)] [(0, 1, (.t 9))], none⟩,
    ⟨(some 11), .new 56 2 (.t 10), none⟩,
    ⟨(some 5), .mov (.t 11), none⟩] [0, 5])
  l12_0_1)
def b12 : EC := (.seq (.ops [⟨(some 2), .mov (.c (.s .nils)), none⟩,
    ⟨(some 3), .mov (.c (.s (.int .i64 0))), none⟩,
    ⟨(some 4), .mov (.c (.s (.int .i64 0))), none⟩] [0])
  (.scope l12_0))
def e12 : EF := ⟨39, b12, [.tmp 2, .tmp 3, .tmp 4]⟩

/-- scutage/scutagekeep.Same[scutage/api.Command] -/
def h13 : List (List Nat) := [[0, 1], [0, 1, 10], [4], [4], [0, 1, 5], [0, 1, 5], [0, 1, 5, 14], [], [0, 1, 5, 25], [4], [4], [0, 1, 5], [4], [4]]
def l13_0_1 : EC := (.seq (.block 1 (.seq (.draw [⟨(some 17), .mov (.t 0), none⟩,
    ⟨(some 18), .mov (.t 5), none⟩,
    ⟨(some 19), .iad 23 12 (.t 17) (.t 18), none⟩,
    ⟨(some 20), .load true 12 (.t 19), none⟩,
    ⟨(some 21), .mov (.t 1), none⟩,
    ⟨(some 22), .mov (.t 5), none⟩,
    ⟨(some 23), .iad 23 12 (.t 21) (.t 22), none⟩,
    ⟨(some 24), .load true 12 (.t 23), none⟩,
    ⟨(some 25), .eqs true [(0, 0), (1, 2), (2, 2), (3, 2), (4, 0), (5, 0), (6, 0), (7, 0), (8, 0), (9, 0), (10, 0), (11, 0)] (.t 20) (.t 24), none⟩] [] [0, 1, 5, 25])
  (.cond (.t 25) (.seq (.ops [⟨(some 4), .mov (.c (.s (.bool false))), none⟩] [4])
  (.ret [4]))
  .skip)))
  (.ops [⟨(some 15), .mov (.t 5), none⟩,
    ⟨(some 16), .bin .add (.t 15) (.c (.s (.int .i64 1))), none⟩,
    ⟨(some 5), .mov (.t 16), none⟩] [0, 1, 5]))
def l13_0 : EC := (.seq (.seq (.ops [⟨(some 11), .mov (.t 5), none⟩,
    ⟨(some 12), .mov (.t 0), none⟩,
    ⟨(some 13), .len (.t 12), none⟩,
    ⟨(some 14), .bin .lss (.t 11) (.t 13), none⟩] [0, 1, 5, 14])
  (.cond (.t 14) .skip
  (.exit 0 [])))
  l13_0_1)
def s13_3 : EC := (.seq (.ops [⟨(some 4), .mov (.c (.s (.bool true))), none⟩] [4])
  (.ret [4]))
def s13_2 : EC := (.seq (.seq (.ops [⟨(some 5), .mov (.c (.s (.int .i64 0))), none⟩] [0, 1, 5])
  (.block 0 (.loop [0, 1, 5] l13_0)))
  s13_3)
def s13_1 : EC := (.seq (.seq (.ops [⟨(some 6), .mov (.t 0), none⟩,
    ⟨(some 7), .len (.t 6), none⟩,
    ⟨(some 8), .mov (.t 1), none⟩,
    ⟨(some 9), .len (.t 8), none⟩,
    ⟨(some 10), .bin .neq (.t 7) (.t 9), none⟩] [0, 1, 10])
  (.cond (.t 10) (.seq (.ops [⟨(some 4), .mov (.c (.s (.bool false))), none⟩] [4])
  (.ret [4]))
  .skip))
  s13_2)
def b13 : EC := (.seq (.ops [⟨(some 4), .mov (.c (.s (.bool false))), none⟩] [0, 1])
  s13_1)
def e13 : EF := ⟨26, b13, [.tmp 4]⟩

/-- scutage/scutagelaw27.wakes -/
def h14 : List (List Nat) := [[], [1, 3], [1, 3, 4, 5], [0], [0]]
def s14_3 : EC := (.seq (.ops [⟨(some 17), .mov (.t 3), none⟩,
    ⟨(some 18), .bin .eql (.t 17) (.c (.s (.int .i64 0))), none⟩,
    ⟨(some 19), .mov (.t 18), none⟩,
    ⟨(some 20), .mov (.t 1), (some (19, true))⟩,
    ⟨(some 21), .len (.t 20), (some (19, true))⟩,
    ⟨(some 22), .bin .eql (.t 21) (.c (.s (.int .i64 0))), (some (19, true))⟩,
    ⟨(some 23), .pick (.t 19) (.t 22) (.c (.s (.bool false))), none⟩,
    ⟨(some 24), .mov (.t 23), none⟩,
    ⟨(some 25), .mov (.t 5), (some (24, true))⟩,
    ⟨(some 26), .bin .eql (.t 25) (.c (.s (.int .i64 0))), (some (24, true))⟩,
    ⟨(some 27), .pick (.t 24) (.t 26) (.c (.s (.bool false))), none⟩,
    ⟨(some 28), .mov (.t 27), none⟩,
    ⟨(some 29), .mov (.t 4), (some (28, true))⟩,
    ⟨(some 30), .bsl 5 3 [(.int .u8 0)] [(0, 1, (.c (.s (.int .u8 11)))), (1, 1, (.c (.s (.int .u8 1)))), (2, 1, (.c (.s (.int .u8 97))))], (some (28, true))⟩,
    ⟨(some 31), .call 10 [(.t 29), (.t 30)], (some (28, true))⟩,
    ⟨(some 32), .pick (.t 28) (.t 31) (.c (.s (.bool false))), none⟩,
    ⟨(some 0), .mov (.t 32), none⟩] [0])
  (.ret [0]))
def s14_2 : EC := (.seq (.ops [⟨(some 12), .build [(.int .i64 0), (.str ⟨#[]⟩), (.str ⟨#[]⟩), (.str ⟨#[]⟩), (.int .i64 0), (.int .i64 0), (.int .i64 0), (.int .i64 0), (.int .i64 0), (.int .i64 0), (.int .i64 0), (.int .i64 0)] [(0, 1, (.c (.s (.int .i64 11)))), (1, 1, (.c (.s (.str ⟨#[97]⟩))))], none⟩,
    ⟨(some 13), .bsl 23 1 [(.int .i64 0), (.str ⟨#[]⟩), (.str ⟨#[]⟩), (.str ⟨#[]⟩), (.int .i64 0), (.int .i64 0), (.int .i64 0), (.int .i64 0), (.int .i64 0), (.int .i64 0), (.int .i64 0), (.int .i64 0)] [(0, 12, (.t 12))], none⟩,
    ⟨(some 14), .call 9 [(.t 13)], none⟩,
    ⟨(some 11), .mov (.t 14), none⟩,
    ⟨(some 15), .ext (.t 11) 0, none⟩,
    ⟨(some 16), .ext (.t 11) 1, none⟩,
    ⟨(some 4), .mov (.t 15), none⟩,
    ⟨(some 5), .mov (.t 16), none⟩] [1, 3, 4, 5])
  s14_3)
def s14_1 : EC := (.seq (.ops [⟨(some 7), .call 12 [(.c (.s .nils))], none⟩,
    ⟨(some 6), .mov (.t 7), none⟩,
    ⟨(some 8), .ext (.t 6) 0, none⟩,
    ⟨(some 9), .ext (.t 6) 1, none⟩,
    ⟨(some 10), .ext (.t 6) 2, none⟩,
    ⟨(some 1), .mov (.t 8), none⟩,
    ⟨(some 2), .mov (.t 9), none⟩,
    ⟨(some 3), .mov (.t 10), none⟩] [1, 3])
  s14_2)
def b14 : EC := (.seq (.ops [⟨(some 0), .mov (.c (.s (.bool false))), none⟩] [])
  s14_1)
def e14 : EF := ⟨33, b14, [.tmp 0]⟩

/-- scutage/scutagelaw27.Some -/
def h15 : List (List Nat) := [[0, 1, 2], [0, 1, 2, 7], [0, 1, 2, 7, 8], [0, 1, 2, 7, 8, 9], [0, 1, 2, 7, 8, 9], [0, 1, 2, 7, 8, 9, 19], [1, 2, 7], [0, 1, 2, 7, 8, 9], [0, 1, 2, 7, 8, 9], [1, 2, 7, 10], [1, 2, 7, 10], [1, 2, 7, 10, 44], [7], [1, 2, 7, 10], [1, 2, 7, 10], [6], [6]]
def l15_0_1 : EC := (.seq (.block 1 (.ops [⟨(some 22), .mov (.t 7), none⟩,
    ⟨(some 23), .mov (.t 8), none⟩,
    ⟨(some 24), .mov (.t 0), none⟩,
    ⟨(some 25), .mov (.t 9), none⟩,
    ⟨(some 26), .iad 63 5 (.t 24) (.t 25), none⟩,
    ⟨(some 27), .load true 5 (.t 26), none⟩,
    ⟨(some 28), .call 27 [(.t 23), (.t 27)], none⟩,
    ⟨(some 29), .bsl 23 1 [(.int .i64 0), (.str ⟨#[]⟩), (.str ⟨#[]⟩), (.str ⟨#[]⟩), (.int .i64 0), (.int .i64 0), (.int .i64 0), (.int .i64 0), (.int .i64 0), (.int .i64 0), (.int .i64 0), (.int .i64 0)] [(0, 12, (.t 28))], none⟩,
    ⟨(some 30), .app 23 12 120 (.t 22) (.t 29), none⟩,
    ⟨(some 7), .mov (.t 30), none⟩] [0, 1, 2, 7, 8, 9]))
  (.ops [⟨(some 20), .mov (.t 9), none⟩,
    ⟨(some 21), .bin .add (.t 20) (.c (.s (.int .i64 1))), none⟩,
    ⟨(some 9), .mov (.t 21), none⟩] [0, 1, 2, 7, 8, 9]))
def l15_0 : EC := (.seq (.seq (.ops [⟨(some 12), .mov (.t 9), none⟩,
    ⟨(some 13), .mov (.t 0), none⟩,
    ⟨(some 14), .len (.t 13), none⟩,
    ⟨(some 15), .bin .lss (.t 12) (.t 14), none⟩,
    ⟨(some 16), .mov (.t 15), none⟩,
    ⟨(some 17), .mov (.t 9), (some (16, true))⟩,
    ⟨(some 18), .bin .lss (.t 17) (.c (.s (.int .i64 6))), (some (16, true))⟩,
    ⟨(some 19), .pick (.t 16) (.t 18) (.c (.s (.bool false))), none⟩] [0, 1, 2, 7, 8, 9, 19])
  (.cond (.t 19) .skip
  (.exit 0 [1, 2, 7])))
  l15_0_1)
def l15_1_1 : EC := (.seq (.block 3 (.draw [⟨(some 47), .mov (.t 7), none⟩,
    ⟨(some 48), .mov (.t 1), none⟩,
    ⟨(some 49), .mov (.t 10), none⟩,
    ⟨(some 50), .iad 23 12 (.t 48) (.t 49), none⟩,
    ⟨(some 51), .load true 12 (.t 50), none⟩,
    ⟨(some 52), .mov (.t 2), none⟩,
    ⟨(some 53), .mov (.t 10), none⟩,
    ⟨(some 54), .iad 3 1 (.t 52) (.t 53), none⟩,
    ⟨(some 55), .load false 1 (.t 54), none⟩,
    ⟨(some 56), .call 28 [(.t 51), (.t 55)], none⟩,
    ⟨(some 57), .bsl 23 1 [(.int .i64 0), (.str ⟨#[]⟩), (.str ⟨#[]⟩), (.str ⟨#[]⟩), (.int .i64 0), (.int .i64 0), (.int .i64 0), (.int .i64 0), (.int .i64 0), (.int .i64 0), (.int .i64 0), (.int .i64 0)] [(0, 12, (.t 56))], none⟩,
    ⟨(some 58), .app 23 12 120 (.t 47) (.t 57), none⟩,
    ⟨(some 7), .mov (.t 58), none⟩] [] [1, 2, 7, 10]))
  (.ops [⟨(some 45), .mov (.t 10), none⟩,
    ⟨(some 46), .bin .add (.t 45) (.c (.s (.int .i64 1))), none⟩,
    ⟨(some 10), .mov (.t 46), none⟩] [1, 2, 7, 10]))
def l15_1 : EC := (.seq (.seq (.ops [⟨(some 31), .mov (.t 10), none⟩,
    ⟨(some 32), .mov (.t 1), none⟩,
    ⟨(some 33), .len (.t 32), none⟩,
    ⟨(some 34), .bin .lss (.t 31) (.t 33), none⟩,
    ⟨(some 35), .mov (.t 34), none⟩,
    ⟨(some 36), .mov (.t 10), (some (35, true))⟩,
    ⟨(some 37), .mov (.t 2), (some (35, true))⟩,
    ⟨(some 38), .len (.t 37), (some (35, true))⟩,
    ⟨(some 39), .bin .lss (.t 36) (.t 38), (some (35, true))⟩,
    ⟨(some 40), .pick (.t 35) (.t 39) (.c (.s (.bool false))), none⟩,
    ⟨(some 41), .mov (.t 40), none⟩,
    ⟨(some 42), .mov (.t 10), (some (41, true))⟩,
    ⟨(some 43), .bin .lss (.t 42) (.c (.s (.int .i64 4))), (some (41, true))⟩,
    ⟨(some 44), .pick (.t 41) (.t 43) (.c (.s (.bool false))), none⟩] [1, 2, 7, 10, 44])
  (.cond (.t 44) .skip
  (.exit 2 [7])))
  l15_1_1)
def s15_5 : EC := (.seq (.ops [⟨(some 59), .mov (.t 7), none⟩,
    ⟨(some 6), .mov (.t 59), none⟩] [6])
  (.ret [6]))
def s15_4 : EC := (.seq (.seq (.ops [⟨(some 10), .mov (.c (.s (.int .i64 0))), none⟩] [1, 2, 7, 10])
  (.block 2 (.loop [1, 2, 7, 10] l15_1)))
  s15_5)
def s15_3 : EC := (.seq (.seq (.ops [⟨(some 9), .mov (.c (.s (.int .i64 0))), none⟩] [0, 1, 2, 7, 8, 9])
  (.block 0 (.loop [0, 1, 2, 7, 8, 9] l15_0)))
  s15_4)
def s15_2 : EC := (.seq (.ops [⟨(some 11), .call 26 [], none⟩,
    ⟨(some 8), .mov (.t 11), none⟩] [0, 1, 2, 7, 8])
  s15_3)
def s15_1 : EC := (.seq (.ops [⟨(some 7), .mov (.c (.s .nils)), none⟩] [0, 1, 2, 7])
  s15_2)
def b15 : EC := (.seq (.ops [⟨(some 6), .mov (.c (.s .nils)), none⟩] [0, 1, 2])
  s15_1)
def e15 : EF := ⟨60, b15, [.tmp 6]⟩

/-- scutage/scutageref19.Pack -/
def h16 : List (List Nat) := [[0], [0, 4], [4, 11, 12, 13], [4, 11, 12, 13], [4, 11, 12, 13, 14], [4], [4, 6, 11, 12, 13], [4, 6, 11, 12, 13, 19], [2, 3], [2, 3], [4, 6, 11, 12, 13], [4, 6, 11, 12, 13, 29, 30, 31], [4, 6, 11, 12, 13, 29, 30, 31], [4, 6, 11, 12, 13, 29, 30, 31, 32], [4, 11, 12, 13], [4, 6, 8, 11, 12, 13, 29, 30, 31], [4, 6, 8, 11, 12, 13, 29, 30, 31, 35], [4, 6, 8, 11, 12, 13, 29, 30, 31, 35, 69], [4, 6, 11, 12, 13, 29, 30, 31], [4, 6, 8, 11, 12, 13, 29, 30, 31, 35, 81], [4, 6, 11, 12, 13, 29, 30, 31], [4, 6, 8, 11, 12, 13, 29, 30, 31, 93], [4, 6, 11, 12, 13, 29, 30, 31], [4, 6, 9, 11, 12, 13, 29, 30, 31], [4, 6, 9, 10, 11, 12, 13, 29, 30, 31], [4, 6, 9, 10, 11, 12, 13, 29, 30, 31], [4, 6, 9, 10, 11, 12, 13, 29, 30, 31, 57], [4, 6, 11, 12, 13, 29, 30, 31], [4, 6, 9, 10, 11, 12, 13, 29, 30, 31], [4, 6, 9, 10, 11, 12, 13, 29, 30, 31], [4, 6, 11, 12, 13, 29, 30, 31], [4, 11, 12, 13], [2, 3], [2, 3]]
def l16_0_1 : EC := (.seq (.block 6 (.ops [⟨(some 60), .mov (.t 4), none⟩,
    ⟨(some 61), .mov (.t 9), none⟩,
    ⟨(some 62), .toi .u64 (.t 61), none⟩,
    ⟨(some 63), .mov (.t 10), none⟩,
    ⟨(some 64), .toi .u64 (.t 63), none⟩,
    ⟨(some 65), .bin .shr (.t 62) (.t 64), none⟩,
    ⟨(some 66), .toi .u8 (.t 65), none⟩,
    ⟨(some 67), .bsl 5 1 [(.int .u8 0)] [(0, 1, (.t 66))], none⟩,
    ⟨(some 68), .app 5 1 1 (.t 60) (.t 67), none⟩,
    ⟨(some 4), .mov (.t 68), none⟩] [4, 6, 9, 10, 11, 12, 13, 29, 30, 31]))
  (.ops [⟨(some 58), .mov (.t 10), none⟩,
    ⟨(some 59), .bin .sub (.t 58) (.c (.s (.int .i64 8))), none⟩,
    ⟨(some 10), .mov (.t 59), none⟩] [4, 6, 9, 10, 11, 12, 13, 29, 30, 31]))
def l16_0 : EC := (.seq (.seq (.ops [⟨(some 56), .mov (.t 10), none⟩,
    ⟨(some 57), .bin .geq (.t 56) (.c (.s (.int .i64 0))), none⟩] [4, 6, 9, 10, 11, 12, 13, 29, 30, 31, 57])
  (.cond (.t 57) .skip
  (.exit 5 [4, 6, 11, 12, 13, 29, 30, 31])))
  l16_0_1)
def l16_1_2 : EC := (.seq (.block 3 (.seq (.ops [⟨(some 33), .iad 5 1 (.t 29) (.t 31), none⟩,
    ⟨(some 34), .load false 1 (.t 33), none⟩,
    ⟨(some 8), .mov (.t 34), none⟩] [4, 6, 8, 11, 12, 13, 29, 30, 31])
  (.seq (.ops [⟨(some 35), .mov (.t 8), none⟩] [4, 6, 8, 11, 12, 13, 29, 30, 31, 35])
  (.block 4 (.seq (.ops [⟨(some 70), .bin .eql (.t 35) (.c (.s (.int .u8 73))), none⟩,
    ⟨(some 69), .mov (.t 70), none⟩] [4, 6, 8, 11, 12, 13, 29, 30, 31, 35, 69])
  (.cond (.t 69) (.draw [⟨(some 71), .mov (.t 4), none⟩,
    ⟨(some 72), .fad 1 (.t 6), none⟩,
    ⟨(some 73), .load false 1 (.t 72), none⟩,
    ⟨(some 74), .slen (.t 73), none⟩,
    ⟨(some 75), .toi .u8 (.t 74), none⟩,
    ⟨(some 76), .bsl 5 1 [(.int .u8 0)] [(0, 1, (.t 75))], none⟩,
    ⟨(some 77), .app 5 1 1 (.t 71) (.t 76), none⟩,
    ⟨(some 78), .fad 1 (.t 6), none⟩,
    ⟨(some 79), .load false 1 (.t 78), none⟩,
    ⟨(some 80), .apps 5 1 (.t 77) (.t 79), none⟩,
    ⟨(some 4), .mov (.t 80), none⟩] [(8, 5), (8, 6)] [4, 6, 11, 12, 13, 29, 30, 31])
  (.seq (.ops [⟨(some 82), .bin .eql (.t 35) (.c (.s (.int .u8 75))), none⟩,
    ⟨(some 81), .mov (.t 82), none⟩] [4, 6, 8, 11, 12, 13, 29, 30, 31, 35, 81])
  (.cond (.t 81) (.draw [⟨(some 83), .mov (.t 4), none⟩,
    ⟨(some 84), .fad 2 (.t 6), none⟩,
    ⟨(some 85), .load false 1 (.t 84), none⟩,
    ⟨(some 86), .slen (.t 85), none⟩,
    ⟨(some 87), .toi .u8 (.t 86), none⟩,
    ⟨(some 88), .bsl 5 1 [(.int .u8 0)] [(0, 1, (.t 87))], none⟩,
    ⟨(some 89), .app 5 1 1 (.t 83) (.t 88), none⟩,
    ⟨(some 90), .fad 2 (.t 6), none⟩,
    ⟨(some 91), .load false 1 (.t 90), none⟩,
    ⟨(some 92), .apps 5 1 (.t 89) (.t 91), none⟩,
    ⟨(some 4), .mov (.t 92), none⟩] [(8, 5), (8, 6)] [4, 6, 11, 12, 13, 29, 30, 31])
  (.seq (.ops [⟨(some 94), .bin .eql (.t 35) (.c (.s (.int .u8 74))), none⟩,
    ⟨(some 93), .mov (.t 94), none⟩] [4, 6, 8, 11, 12, 13, 29, 30, 31, 93])
  (.cond (.t 93) (.draw [⟨(some 95), .mov (.t 4), none⟩,
    ⟨(some 96), .fad 3 (.t 6), none⟩,
    ⟨(some 97), .load false 1 (.t 96), none⟩,
    ⟨(some 98), .slen (.t 97), none⟩,
    ⟨(some 99), .toi .u8 (.t 98), none⟩,
    ⟨(some 100), .bsl 5 1 [(.int .u8 0)] [(0, 1, (.t 99))], none⟩,
    ⟨(some 101), .app 5 1 1 (.t 95) (.t 100), none⟩,
    ⟨(some 102), .fad 3 (.t 6), none⟩,
    ⟨(some 103), .load false 1 (.t 102), none⟩,
    ⟨(some 104), .apps 5 1 (.t 101) (.t 103), none⟩,
    ⟨(some 4), .mov (.t 104), none⟩] [(8, 5), (8, 6)] [4, 6, 11, 12, 13, 29, 30, 31])
  (.seq (.ops [⟨(some 36), .mkm, none⟩,
    ⟨(some 37), .fad 4 (.t 6), none⟩,
    ⟨(some 38), .load false 1 (.t 37), none⟩,
    ⟨none, .mput false (.t 36) (.c (.s (.int .u8 67))) (.t 38), none⟩,
    ⟨(some 39), .fad 5 (.t 6), none⟩,
    ⟨(some 40), .load false 1 (.t 39), none⟩,
    ⟨none, .mput false (.t 36) (.c (.s (.int .u8 68))) (.t 40), none⟩,
    ⟨(some 41), .fad 6 (.t 6), none⟩,
    ⟨(some 42), .load false 1 (.t 41), none⟩,
    ⟨none, .mput false (.t 36) (.c (.s (.int .u8 89))) (.t 42), none⟩,
    ⟨(some 43), .fad 7 (.t 6), none⟩,
    ⟨(some 44), .load false 1 (.t 43), none⟩,
    ⟨none, .mput false (.t 36) (.c (.s (.int .u8 90))) (.t 44), none⟩,
    ⟨(some 45), .fad 8 (.t 6), none⟩,
    ⟨(some 46), .load false 1 (.t 45), none⟩,
    ⟨none, .mput false (.t 36) (.c (.s (.int .u8 80))) (.t 46), none⟩,
    ⟨(some 47), .fad 9 (.t 6), none⟩,
    ⟨(some 48), .load false 1 (.t 47), none⟩,
    ⟨none, .mput false (.t 36) (.c (.s (.int .u8 65))) (.t 48), none⟩,
    ⟨(some 49), .fad 10 (.t 6), none⟩,
    ⟨(some 50), .load false 1 (.t 49), none⟩,
    ⟨none, .mput false (.t 36) (.c (.s (.int .u8 82))) (.t 50), none⟩,
    ⟨(some 51), .fad 11 (.t 6), none⟩,
    ⟨(some 52), .load false 1 (.t 51), none⟩,
    ⟨none, .mput false (.t 36) (.c (.s (.int .u8 70))) (.t 52), none⟩,
    ⟨(some 53), .mov (.t 36), none⟩,
    ⟨(some 54), .mov (.t 8), none⟩,
    ⟨(some 55), .mget false false (.int .i64 0) (.t 53) (.t 54), none⟩,
    ⟨(some 9), .mov (.t 55), none⟩] [4, 6, 9, 11, 12, 13, 29, 30, 31])
  (.seq (.ops [⟨(some 10), .mov (.c (.s (.int .i64 56))), none⟩] [4, 6, 9, 10, 11, 12, 13, 29, 30, 31])
  (.block 5 (.loop [4, 6, 9, 10, 11, 12, 13, 29, 30, 31] l16_0))))))))))))))
  (.ops [⟨(some 105), .bin .add (.t 31) (.c (.s (.int .i64 1))), none⟩,
    ⟨(some 31), .mov (.t 105), none⟩] [4, 6, 11, 12, 13, 29, 30, 31]))
def l16_1_1 : EC := (.seq (.cond (.t 32) .skip
  (.exit 2 [4, 11, 12, 13]))
  l16_1_2)
def l16_1 : EC := (.seq (.ops [⟨(some 32), .bin .lss (.t 31) (.t 30), none⟩] [4, 6, 11, 12, 13, 29, 30, 31, 32])
  l16_1_1)
def l16_2_2 : EC := (.seq (.block 1 (.seq (.ops [⟨(some 15), .iad 23 12 (.t 11) (.t 13), none⟩,
    ⟨(some 16), .load true 12 (.t 15), none⟩,
    ⟨(some 6), .new 23 12 (.c (.agg [(.int .i64 0), (.str ⟨#[]⟩), (.str ⟨#[]⟩), (.str ⟨#[]⟩), (.int .i64 0), (.int .i64 0), (.int .i64 0), (.int .i64 0), (.int .i64 0), (.int .i64 0), (.int .i64 0), (.int .i64 0)])), none⟩,
    ⟨none, .store 12 (.t 6) (.t 16), none⟩] [4, 6, 11, 12, 13])
  (.seq (.seq (.ops [⟨(some 17), .load true 12 (.t 6), none⟩,
    ⟨(some 18), .call 17 [(.t 17)], none⟩,
    ⟨(some 19), .un .not (.t 18), none⟩] [4, 6, 11, 12, 13, 19])
  (.cond (.t 19) (.seq (.ops [⟨(some 2), .mov (.c (.s .nils)), none⟩,
    ⟨(some 3), .mov (.c (.s (.int .i64 1))), none⟩] [2, 3])
  (.ret [2, 3]))
  .skip))
  (.seq (.ops [⟨(some 20), .mov (.t 4), none⟩,
    ⟨(some 21), .fad 0 (.t 6), none⟩,
    ⟨(some 22), .load false 1 (.t 21), none⟩,
    ⟨(some 23), .toi .u8 (.t 22), none⟩,
    ⟨(some 24), .bsl 5 1 [(.int .u8 0)] [(0, 1, (.t 23))], none⟩,
    ⟨(some 25), .app 5 1 1 (.t 20) (.t 24), none⟩,
    ⟨(some 4), .mov (.t 25), none⟩] [4, 6, 11, 12, 13])
  (.seq (.ops [⟨(some 26), .fad 0 (.t 6), none⟩,
    ⟨(some 27), .load false 1 (.t 26), none⟩,
    ⟨(some 28), .call 29 [(.t 27)], none⟩,
    ⟨(some 29), .s2b 5 (.t 28), none⟩,
    ⟨(some 30), .len (.t 29), none⟩,
    ⟨(some 31), .mov (.c (.s (.int .i64 0))), none⟩] [4, 6, 11, 12, 13, 29, 30, 31])
  (.block 2 (.loop [4, 6, 11, 12, 13, 29, 30, 31] l16_1)))))))
  (.ops [⟨(some 106), .bin .add (.t 13) (.c (.s (.int .i64 1))), none⟩,
    ⟨(some 13), .mov (.t 106), none⟩] [4, 11, 12, 13]))
def l16_2_1 : EC := (.seq (.cond (.t 14) .skip
  (.exit 0 [4]))
  l16_2_2)
def l16_2 : EC := (.seq (.ops [⟨(some 14), .bin .lss (.t 13) (.t 12), none⟩] [4, 11, 12, 13, 14])
  l16_2_1)
def s16_3 : EC := (.seq (.ops [⟨(some 107), .mov (.t 4), none⟩,
    ⟨(some 2), .mov (.t 107), none⟩,
    ⟨(some 3), .mov (.c (.s (.int .i64 0))), none⟩] [2, 3])
  (.ret [2, 3]))
def s16_2 : EC := (.seq (.seq (.ops [⟨(some 11), .mov (.t 0), none⟩,
    ⟨(some 12), .len (.t 11), none⟩,
    ⟨(some 13), .mov (.c (.s (.int .i64 0))), none⟩] [4, 11, 12, 13])
  (.block 0 (.loop [4, 11, 12, 13] l16_2)))
  s16_3)
def s16_1 : EC := (.seq (.ops [⟨(some 4), .mov (.c (.s .nils)), none⟩] [0, 4])
  s16_2)
def b16 : EC := (.seq (.ops [⟨(some 2), .mov (.c (.s .nils)), none⟩,
    ⟨(some 3), .mov (.c (.s (.int .i64 0))), none⟩] [0])
  s16_1)
def e16 : EF := ⟨108, b16, [.tmp 2, .tmp 3]⟩

/-- scutage/scutageref19.CheckCommand -/
def h17 : List (List Nat) := [[1], [1, 3], [1, 3, 34], [2], [2], [3, 51, 52, 53], [3, 51, 52, 53], [3, 51, 52, 53, 54], [], [3, 4, 5, 51, 52, 53], [3, 51, 52, 53, 66], [2], [2], [3, 51, 52, 53], [2], [2]]
def l17_0_2 : EC := (.seq (.block 1 (.seq (.ops [⟨(some 55), .mov (.t 53), none⟩,
    ⟨(some 56), .iad 3 1 (.t 51) (.t 53), none⟩,
    ⟨(some 57), .load false 1 (.t 56), none⟩,
    ⟨(some 4), .mov (.t 55), none⟩,
    ⟨(some 5), .mov (.t 57), none⟩] [3, 4, 5, 51, 52, 53])
  (.seq (.ops [⟨(some 58), .mov (.t 5), none⟩,
    ⟨(some 59), .bin .neq (.t 58) (.c (.s (.int .i64 0))), none⟩,
    ⟨(some 60), .mov (.t 59), none⟩,
    ⟨(some 61), .mov (.t 3), (some (60, true))⟩,
    ⟨(some 62), .mov (.t 4), (some (60, true))⟩,
    ⟨(some 63), .idx (.c (.s (.str ⟨#[67, 68, 89, 90, 80, 65, 82, 70]⟩))) (.t 62), (some (60, true))⟩,
    ⟨(some 64), .call 31 [(.t 61), (.t 63)], (some (60, true))⟩,
    ⟨(some 65), .un .not (.t 64), (some (60, true))⟩,
    ⟨(some 66), .pick (.t 60) (.t 65) (.c (.s (.bool false))), none⟩] [3, 51, 52, 53, 66])
  (.cond (.t 66) (.seq (.ops [⟨(some 2), .mov (.c (.s (.bool false))), none⟩] [2])
  (.ret [2]))
  .skip))))
  (.ops [⟨(some 67), .bin .add (.t 53) (.c (.s (.int .i64 1))), none⟩,
    ⟨(some 53), .mov (.t 67), none⟩] [3, 51, 52, 53]))
def l17_0_1 : EC := (.seq (.cond (.t 54) .skip
  (.exit 0 []))
  l17_0_2)
def l17_0 : EC := (.seq (.ops [⟨(some 54), .bin .lss (.t 53) (.t 52), none⟩] [3, 51, 52, 53, 54])
  l17_0_1)
def s17_4 : EC := (.seq (.ops [⟨(some 2), .mov (.c (.s (.bool true))), none⟩] [2])
  (.ret [2]))
def s17_3 : EC := (.seq (.seq (.ops [⟨(some 35), .fad 4 (.t 1), none⟩,
    ⟨(some 36), .load false 1 (.t 35), none⟩,
    ⟨(some 37), .fad 5 (.t 1), none⟩,
    ⟨(some 38), .load false 1 (.t 37), none⟩,
    ⟨(some 39), .fad 6 (.t 1), none⟩,
    ⟨(some 40), .load false 1 (.t 39), none⟩,
    ⟨(some 41), .fad 7 (.t 1), none⟩,
    ⟨(some 42), .load false 1 (.t 41), none⟩,
    ⟨(some 43), .fad 8 (.t 1), none⟩,
    ⟨(some 44), .load false 1 (.t 43), none⟩,
    ⟨(some 45), .fad 9 (.t 1), none⟩,
    ⟨(some 46), .load false 1 (.t 45), none⟩,
    ⟨(some 47), .fad 10 (.t 1), none⟩,
    ⟨(some 48), .load false 1 (.t 47), none⟩,
    ⟨(some 49), .fad 11 (.t 1), none⟩,
    ⟨(some 50), .load false 1 (.t 49), none⟩,
    ⟨(some 51), .bsl 3 8 [(.int .i64 0)] [(0, 1, (.t 36)), (1, 1, (.t 38)), (2, 1, (.t 40)), (3, 1, (.t 42)), (4, 1, (.t 44)), (5, 1, (.t 46)), (6, 1, (.t 48)), (7, 1, (.t 50))], none⟩,
    ⟨(some 52), .len (.t 51), none⟩,
    ⟨(some 53), .mov (.c (.s (.int .i64 0))), none⟩] [3, 51, 52, 53])
  (.block 0 (.loop [3, 51, 52, 53] l17_0)))
  s17_4)
def s17_2 : EC := (.seq (.seq (.draw [⟨(some 9), .mov (.t 3), none⟩,
    ⟨(some 10), .bin .eql (.t 9) (.c (.s (.str ⟨#[63]⟩))), none⟩,
    ⟨(some 11), .mov (.t 10), none⟩,
    ⟨(some 12), .fad 1 (.t 1), (some (11, false))⟩,
    ⟨(some 13), .load false 1 (.t 12), (some (11, false))⟩,
    ⟨(some 14), .mov (.t 3), (some (11, false))⟩,
    ⟨(some 15), .call 31 [(.t 14), (.c (.s (.int .u8 73)))], (some (11, false))⟩,
    ⟨(some 16), .call 30 [(.t 13), (.t 15)], (some (11, false))⟩,
    ⟨(some 17), .un .not (.t 16), (some (11, false))⟩,
    ⟨(some 18), .pick (.t 11) (.c (.s (.bool true))) (.t 17), none⟩,
    ⟨(some 19), .mov (.t 18), none⟩,
    ⟨(some 20), .fad 2 (.t 1), (some (19, false))⟩,
    ⟨(some 21), .load false 1 (.t 20), (some (19, false))⟩,
    ⟨(some 22), .mov (.t 3), (some (19, false))⟩,
    ⟨(some 23), .call 31 [(.t 22), (.c (.s (.int .u8 75)))], (some (19, false))⟩,
    ⟨(some 24), .call 30 [(.t 21), (.t 23)], (some (19, false))⟩,
    ⟨(some 25), .un .not (.t 24), (some (19, false))⟩,
    ⟨(some 26), .pick (.t 19) (.c (.s (.bool true))) (.t 25), none⟩,
    ⟨(some 27), .mov (.t 26), none⟩,
    ⟨(some 28), .fad 3 (.t 1), (some (27, false))⟩,
    ⟨(some 29), .load false 1 (.t 28), (some (27, false))⟩,
    ⟨(some 30), .mov (.t 3), (some (27, false))⟩,
    ⟨(some 31), .call 31 [(.t 30), (.c (.s (.int .u8 74)))], (some (27, false))⟩,
    ⟨(some 32), .call 30 [(.t 29), (.t 31)], (some (27, false))⟩,
    ⟨(some 33), .un .not (.t 32), (some (27, false))⟩,
    ⟨(some 34), .pick (.t 27) (.c (.s (.bool true))) (.t 33), none⟩] [(4, 6), (12, 14), (20, 22)] [1, 3, 34])
  (.cond (.t 34) (.seq (.ops [⟨(some 2), .mov (.c (.s (.bool false))), none⟩] [2])
  (.ret [2]))
  .skip))
  s17_3)
def s17_1 : EC := (.seq (.ops [⟨(some 6), .fad 0 (.t 1), none⟩,
    ⟨(some 7), .load false 1 (.t 6), none⟩,
    ⟨(some 8), .call 29 [(.t 7)], none⟩,
    ⟨(some 3), .mov (.t 8), none⟩] [1, 3])
  s17_2)
def b17 : EC := (.seq (.ops [⟨(some 1), .new 23 12 (.t 0), none⟩,
    ⟨(some 2), .mov (.c (.s (.bool false))), none⟩] [1])
  s17_1)
def e17 : EF := ⟨68, b17, [.tmp 2]⟩

/-- scutage/scutagekeep.Within -/
def h18 : List (List Nat) := [[0, 1], [0, 1, 7], [4], [4], [1, 5], [1, 5, 12], [5], [4], [4]]
def s18_4 : EC := (.seq (.ops [⟨(some 16), .mov (.t 5), none⟩,
    ⟨(some 4), .mov (.t 16), none⟩] [4])
  (.ret [4]))
def s18_3 : EC := (.seq (.seq (.ops [⟨(some 11), .mov (.t 5), none⟩,
    ⟨(some 12), .bin .lss (.t 11) (.c (.s (.int .i64 0))), none⟩] [1, 5, 12])
  (.cond (.t 12) (.ops [⟨(some 13), .mov (.t 5), none⟩,
    ⟨(some 14), .mov (.t 1), none⟩,
    ⟨(some 15), .bin .add (.t 13) (.t 14), none⟩,
    ⟨(some 5), .mov (.t 15), none⟩] [5])
  .skip))
  s18_4)
def s18_2 : EC := (.seq (.ops [⟨(some 8), .mov (.t 0), none⟩,
    ⟨(some 9), .mov (.t 1), none⟩,
    ⟨(some 10), .bin .rem (.t 8) (.t 9), none⟩,
    ⟨(some 5), .mov (.t 10), none⟩] [1, 5])
  s18_3)
def s18_1 : EC := (.seq (.seq (.ops [⟨(some 6), .mov (.t 1), none⟩,
    ⟨(some 7), .bin .lss (.t 6) (.c (.s (.int .i64 1))), none⟩] [0, 1, 7])
  (.cond (.t 7) (.seq (.ops [⟨(some 4), .mov (.c (.s (.int .i64 0))), none⟩] [4])
  (.ret [4]))
  .skip))
  s18_2)
def b18 : EC := (.seq (.ops [⟨(some 4), .mov (.c (.s (.int .i64 0))), none⟩] [0, 1])
  s18_1)
def e18 : EF := ⟨17, b18, [.tmp 4]⟩

/-- scutage/scutagekeep.Copy[scutage/api.Command] -/
def h22 : List (List Nat) := [[0], [2], [2]]
def s22_1 : EC := (.seq (.ops [⟨(some 3), .mov (.t 0), none⟩,
    ⟨(some 4), .app 23 12 120 (.c (.s .nils)) (.t 3), none⟩,
    ⟨(some 2), .mov (.t 4), none⟩] [2])
  (.ret [2]))
def b22 : EC := (.seq (.ops [⟨(some 2), .mov (.c (.s .nils)), none⟩] [0])
  s22_1)
def e22 : EF := ⟨5, b22, [.tmp 2]⟩

/-- scutage/wire.pack -/
def h24 : List (List Nat) := [[1], [1, 3], [1, 3, 14], [1, 3, 14], [1, 3, 14, 15, 16], [3], [1, 3, 5, 14], [1, 3, 5, 6, 14], [1, 3, 5, 6, 14, 21], [1, 3, 14], [1, 3, 14], [1, 3, 14], [2], [2]]
def l24_0_1 : EC := (.seq (.cond (.t 16) .skip
  (.exit 0 [3]))
  (.block 1 (.seq (.ops [⟨(some 17), .ext (.t 15) 2, none⟩,
    ⟨(some 5), .mov (.t 17), none⟩] [1, 3, 5, 14])
  (.seq (.seq (.ops [⟨(some 18), .mov (.t 5), none⟩,
    ⟨(some 19), .call 38 [(.t 1), (.t 18)], none⟩,
    ⟨(some 6), .mov (.t 19), none⟩] [1, 3, 5, 6, 14])
  (.seq (.ops [⟨(some 20), .mov (.t 6), none⟩,
    ⟨(some 21), .eqp true (.t 20) (.c (.s .nilp)), none⟩] [1, 3, 5, 6, 14, 21])
  (.cond (.t 21) (.seq (.ops [⟨(some 22), .mov (.t 3), none⟩,
    ⟨(some 23), .mov (.t 6), none⟩,
    ⟨(some 24), .nilc (.t 23), none⟩,
    ⟨(some 25), .load false 1 (.t 24), none⟩,
    ⟨(some 26), .call 39 [(.t 25)], none⟩,
    ⟨(some 27), .app 5 1 1 (.t 22) (.t 26), none⟩,
    ⟨(some 3), .mov (.t 27), none⟩] [1, 3, 14])
  (.exit 1 [1, 3, 14]))
  .skip)))
  (.ops [⟨(some 28), .mov (.t 3), none⟩,
    ⟨(some 29), .mov (.t 5), none⟩,
    ⟨(some 30), .call 41 [(.t 1), (.t 29)], none⟩,
    ⟨(some 31), .nilc (.t 30), none⟩,
    ⟨(some 32), .load false 1 (.t 31), none⟩,
    ⟨(some 33), .call 40 [(.t 32)], none⟩,
    ⟨(some 34), .app 5 1 1 (.t 28) (.t 33), none⟩,
    ⟨(some 3), .mov (.t 34), none⟩] [1, 3, 14])))))
def l24_0 : EC := (.seq (.ops [⟨(some 15), .nxt (.t 14), none⟩,
    ⟨(some 16), .ext (.t 15) 0, none⟩] [1, 3, 14, 15, 16])
  l24_0_1)
def s24_3 : EC := (.seq (.ops [⟨(some 35), .mov (.t 3), none⟩,
    ⟨(some 2), .mov (.t 35), none⟩] [2])
  (.ret [2]))
def s24_2 : EC := (.seq (.seq (.ops [⟨(some 11), .fad 0 (.t 1), none⟩,
    ⟨(some 12), .load false 1 (.t 11), none⟩,
    ⟨(some 13), .call 33 [(.t 12)], none⟩,
    ⟨(some 14), .rng (.t 13), none⟩] [1, 3, 14])
  (.block 0 (.loop [1, 3, 14] l24_0)))
  s24_3)
def s24_1 : EC := (.seq (.ops [⟨(some 7), .fad 0 (.t 1), none⟩,
    ⟨(some 8), .load false 1 (.t 7), none⟩,
    ⟨(some 9), .toi .u8 (.t 8), none⟩,
    ⟨(some 10), .bsl 5 1 [(.int .u8 0)] [(0, 1, (.t 9))], none⟩,
    ⟨(some 3), .mov (.t 10), none⟩] [1, 3])
  s24_2)
def b24 : EC := (.seq (.ops [⟨(some 1), .new 23 12 (.t 0), none⟩,
    ⟨(some 2), .mov (.c (.s .nils)), none⟩] [1])
  s24_1)
def e24 : EF := ⟨36, b24, [.tmp 2]⟩

/-- (*scutage/wire.reader).command -/
def h25 : List (List Nat) := [[0, 2], [0, 2, 4], [0, 2, 4, 14], [0, 2, 4, 14], [0, 2, 4, 14, 15, 16], [0, 2, 4], [0, 2, 4, 6, 14], [0, 2, 4, 6, 7, 14], [0, 2, 4, 6, 7, 14, 21], [0, 2, 4, 14], [0, 2, 4, 14], [0, 2, 4, 14], [2, 3], [2, 3]]
def l25_0_1 : EC := (.seq (.cond (.t 16) .skip
  (.exit 0 [0, 2, 4]))
  (.block 1 (.seq (.ops [⟨(some 17), .ext (.t 15) 2, none⟩,
    ⟨(some 6), .mov (.t 17), none⟩] [0, 2, 4, 6, 14])
  (.seq (.seq (.ops [⟨(some 18), .mov (.t 6), none⟩,
    ⟨(some 19), .call 38 [(.t 4), (.t 18)], none⟩,
    ⟨(some 7), .mov (.t 19), none⟩] [0, 2, 4, 6, 7, 14])
  (.seq (.ops [⟨(some 20), .mov (.t 7), none⟩,
    ⟨(some 21), .eqp true (.t 20) (.c (.s .nilp)), none⟩] [0, 2, 4, 6, 7, 14, 21])
  (.cond (.t 21) (.seq (.ops [⟨(some 22), .mov (.t 7), none⟩,
    ⟨(some 23), .mov (.t 0), none⟩,
    ⟨(some 24), .mov (.t 0), none⟩,
    ⟨(some 25), .call 42 [(.t 24), (.c (.s (.int .i64 1)))], none⟩,
    ⟨(some 26), .call 43 [(.t 23), (.t 25)], none⟩,
    ⟨(some 27), .b2s 5 (.t 26), none⟩,
    ⟨(some 28), .nilc (.t 22), none⟩,
    ⟨none, .store 1 (.t 28) (.t 27), none⟩] [0, 2, 4, 14])
  (.exit 1 [0, 2, 4, 14]))
  .skip)))
  (.ops [⟨(some 29), .mov (.t 6), none⟩,
    ⟨(some 30), .call 41 [(.t 4), (.t 29)], none⟩,
    ⟨(some 31), .mov (.t 0), none⟩,
    ⟨(some 32), .call 42 [(.t 31), (.c (.s (.int .i64 8)))], none⟩,
    ⟨(some 33), .nilc (.t 30), none⟩,
    ⟨none, .store 1 (.t 33) (.t 32), none⟩] [0, 2, 4, 14])))))
def l25_0 : EC := (.seq (.ops [⟨(some 15), .nxt (.t 14), none⟩,
    ⟨(some 16), .ext (.t 15) 0, none⟩] [0, 2, 4, 14, 15, 16])
  l25_0_1)
def s25_3 : EC := (.seq (.draw [⟨(some 34), .load true 12 (.t 4), none⟩,
    ⟨(some 35), .mov (.t 0), none⟩,
    ⟨(some 36), .nilc (.t 35), none⟩,
    ⟨(some 37), .fad 1 (.t 36), none⟩,
    ⟨(some 38), .load false 1 (.t 37), none⟩,
    ⟨(some 39), .un .not (.t 38), none⟩,
    ⟨(some 40), .mov (.t 39), none⟩,
    ⟨(some 41), .load true 12 (.t 4), (some (40, true))⟩,
    ⟨(some 42), .call 23 [(.t 41)], (some (40, true))⟩,
    ⟨(some 43), .bin .eql (.t 42) (.c (.s (.int .i64 0))), (some (40, true))⟩,
    ⟨(some 44), .pick (.t 40) (.t 43) (.c (.s (.bool false))), none⟩,
    ⟨none, .store 12 (.t 2) (.t 34), none⟩,
    ⟨(some 3), .mov (.t 44), none⟩] [(0, 8)] [2, 3])
  (.ret [2, 3]))
def s25_2 : EC := (.seq (.seq (.ops [⟨(some 11), .fad 0 (.t 4), none⟩,
    ⟨(some 12), .load false 1 (.t 11), none⟩,
    ⟨(some 13), .call 33 [(.t 12)], none⟩,
    ⟨(some 14), .rng (.t 13), none⟩] [0, 2, 4, 14])
  (.block 0 (.loop [0, 2, 4, 14] l25_0)))
  s25_3)
def s25_1 : EC := (.seq (.ops [⟨(some 8), .mov (.t 0), none⟩,
    ⟨(some 9), .call 42 [(.t 8), (.c (.s (.int .i64 1)))], none⟩,
    ⟨(some 10), .build [(.int .i64 0), (.str ⟨#[]⟩), (.str ⟨#[]⟩), (.str ⟨#[]⟩), (.int .i64 0), (.int .i64 0), (.int .i64 0), (.int .i64 0), (.int .i64 0), (.int .i64 0), (.int .i64 0), (.int .i64 0)] [(0, 1, (.t 9))], none⟩,
    ⟨(some 4), .new 23 12 (.c (.agg [(.int .i64 0), (.str ⟨#[]⟩), (.str ⟨#[]⟩), (.str ⟨#[]⟩), (.int .i64 0), (.int .i64 0), (.int .i64 0), (.int .i64 0), (.int .i64 0), (.int .i64 0), (.int .i64 0), (.int .i64 0)])), none⟩,
    ⟨none, .store 12 (.t 4) (.t 10), none⟩] [0, 2, 4])
  s25_2)
def b25 : EC := (.seq (.ops [⟨(some 2), .new 23 12 (.c (.agg [(.int .i64 0), (.str ⟨#[]⟩), (.str ⟨#[]⟩), (.str ⟨#[]⟩), (.int .i64 0), (.int .i64 0), (.int .i64 0), (.int .i64 0), (.int .i64 0), (.int .i64 0), (.int .i64 0), (.int .i64 0)])), none⟩,
    ⟨(some 3), .mov (.c (.s (.bool false))), none⟩] [0, 2])
  s25_1)
def e25 : EF := ⟨45, b25, [.cell 2 true 12, .tmp 3]⟩

/-- scutage/scutageref19.NewGroup -/
def h26 : List (List Nat) := [[], [0], [0]]
def s26_1 : EC := (.seq (.ops [⟨(some 1), .build [.nils] [], none⟩,
    ⟨(some 2), .new 87 1 (.t 1), none⟩,
    ⟨(some 3), .build [.nils] [], none⟩,
    ⟨(some 4), .new 91 1 (.t 3), none⟩,
    ⟨(some 5), .build [.nils] [], none⟩,
    ⟨(some 6), .new 95 1 (.t 5), none⟩,
    ⟨(some 7), .build [.nilp, .nilp, .nils, .nilp] [(0, 1, (.t 2)), (1, 1, (.t 4)), (2, 1, (.c (.s .nils))), (3, 1, (.t 6))], none⟩,
    ⟨(some 8), .new 98 4 (.t 7), none⟩,
    ⟨(some 0), .mov (.t 8), none⟩] [0])
  (.ret [0]))
def b26 : EC := (.seq (.ops [⟨(some 0), .mov (.c (.s .nilp)), none⟩] [])
  s26_1)
def e26 : EF := ⟨9, b26, [.tmp 0]⟩

/-- scutage/scutageplay.Do -/
def h27 : List (List Nat) := [[0, 3, 4], [0, 3, 4, 5], [0, 3, 4, 5, 16], [0, 3, 4, 5], [0, 3, 4, 5, 6], [3, 4, 5, 6, 7], [3, 4, 5, 6, 7, 24], [3, 4, 5, 6], [3, 4, 5, 6, 8], [3, 4, 5, 6, 8, 36], [4], [4], [3, 4, 5, 6, 8, 44], [4], [4], [3, 4, 5, 6, 8, 52], [4], [4], [3, 4, 5, 6, 8, 68], [4], [4], [3, 4, 5, 6, 8, 93], [4], [4], [3, 4, 5, 6, 8, 101], [4], [4], [3, 4, 5, 6, 8, 112], [4], [4], [3, 4, 5, 6, 8, 128], [4], [4], [3, 4, 5, 8, 151], [4], [4], [3, 4, 5, 8, 162], [4], [4], [3, 4, 5, 8, 167], [4], [4], [3, 4, 172], [4], [4], [4], [4]]
def s27_6 : EC := (.seq (.draw [⟨(some 200), .fad 2 (.t 3), none⟩,
    ⟨(some 201), .load false 1 (.t 200), none⟩,
    ⟨(some 202), .call 18 [(.t 201), (.c (.s (.int .i64 14)))], none⟩,
    ⟨(some 203), .fad 4 (.t 3), none⟩,
    ⟨(some 204), .load false 1 (.t 203), none⟩,
    ⟨(some 205), .call 49 [(.t 204), (.c (.s (.int .i64 9)))], none⟩,
    ⟨(some 206), .fad 1 (.t 3), none⟩,
    ⟨(some 207), .load false 1 (.t 206), none⟩,
    ⟨(some 208), .call 44 [(.t 207)], none⟩,
    ⟨(some 209), .fad 3 (.t 3), none⟩,
    ⟨(some 210), .load false 1 (.t 209), none⟩,
    ⟨(some 211), .fad 2 (.t 3), none⟩,
    ⟨(some 212), .load false 1 (.t 211), none⟩,
    ⟨(some 213), .build [(.int .i64 0), (.str ⟨#[]⟩), (.str ⟨#[]⟩), (.str ⟨#[]⟩), (.int .i64 0), (.int .i64 0), (.int .i64 0), (.int .i64 0), (.int .i64 0), (.int .i64 0), (.int .i64 0), (.int .i64 0)] [(0, 1, (.t 202)), (1, 1, (.t 205)), (2, 1, (.t 208)), (9, 1, (.t 210)), (6, 1, (.t 212))], none⟩,
    ⟨none, .store 12 (.t 4) (.t 213), none⟩] [(4, 2), (7, 2), (7, 5), (10, 2), (10, 5), (10, 8), (12, 2), (12, 5), (12, 8)] [4])
  (.ret [4]))
def s27_5 : EC := (.seq (.seq (.ops [⟨(some 33), .fad 0 (.t 3), none⟩,
    ⟨(some 34), .load false 1 (.t 33), none⟩,
    ⟨(some 35), .call 18 [(.t 34), (.c (.s (.int .i64 40)))], none⟩,
    ⟨(some 8), .mov (.t 35), none⟩] [3, 4, 5, 6, 8])
  (.block 0 (.seq (.ops [⟨(some 37), .mov (.t 8), none⟩,
    ⟨(some 38), .bin .lss (.t 37) (.c (.s (.int .i64 6))), none⟩,
    ⟨(some 36), .mov (.t 38), none⟩] [3, 4, 5, 6, 8, 36])
  (.cond (.t 36) (.seq (.ops [⟨(some 39), .mov (.t 5), none⟩,
    ⟨(some 40), .fad 3 (.t 3), none⟩,
    ⟨(some 41), .load false 1 (.t 40), none⟩,
    ⟨(some 42), .call 47 [(.t 41)], none⟩,
    ⟨(some 43), .build [(.int .i64 0), (.str ⟨#[]⟩), (.str ⟨#[]⟩), (.str ⟨#[]⟩), (.int .i64 0), (.int .i64 0), (.int .i64 0), (.int .i64 0), (.int .i64 0), (.int .i64 0), (.int .i64 0), (.int .i64 0)] [(0, 1, (.c (.s (.int .i64 3)))), (1, 1, (.t 39)), (9, 1, (.t 42))], none⟩,
    ⟨none, .store 12 (.t 4) (.t 43), none⟩] [4])
  (.ret [4]))
  (.seq (.ops [⟨(some 45), .mov (.t 8), none⟩,
    ⟨(some 46), .bin .lss (.t 45) (.c (.s (.int .i64 9))), none⟩,
    ⟨(some 44), .mov (.t 46), none⟩] [3, 4, 5, 6, 8, 44])
  (.cond (.t 44) (.seq (.ops [⟨(some 47), .mov (.t 5), none⟩,
    ⟨(some 48), .fad 3 (.t 3), none⟩,
    ⟨(some 49), .load false 1 (.t 48), none⟩,
    ⟨(some 50), .call 47 [(.t 49)], none⟩,
    ⟨(some 51), .build [(.int .i64 0), (.str ⟨#[]⟩), (.str ⟨#[]⟩), (.str ⟨#[]⟩), (.int .i64 0), (.int .i64 0), (.int .i64 0), (.int .i64 0), (.int .i64 0), (.int .i64 0), (.int .i64 0), (.int .i64 0)] [(0, 1, (.c (.s (.int .i64 4)))), (1, 1, (.t 47)), (9, 1, (.t 50))], none⟩,
    ⟨none, .store 12 (.t 4) (.t 51), none⟩] [4])
  (.ret [4]))
  (.seq (.ops [⟨(some 53), .mov (.t 8), none⟩,
    ⟨(some 54), .bin .lss (.t 53) (.c (.s (.int .i64 15))), none⟩,
    ⟨(some 52), .mov (.t 54), none⟩] [3, 4, 5, 6, 8, 52])
  (.cond (.t 52) (.seq (.draw [⟨(some 55), .mov (.t 5), none⟩,
    ⟨(some 56), .fad 2 (.t 3), none⟩,
    ⟨(some 57), .load false 1 (.t 56), none⟩,
    ⟨(some 58), .call 18 [(.t 57), (.c (.s (.int .i64 3)))], none⟩,
    ⟨(some 59), .bin .add (.c (.s (.int .i64 1))) (.t 58), none⟩,
    ⟨(some 60), .fad 2 (.t 3), none⟩,
    ⟨(some 61), .load false 1 (.t 60), none⟩,
    ⟨(some 62), .bin .quo (.t 61) (.c (.s (.int .i64 3))), none⟩,
    ⟨(some 63), .call 18 [(.t 62), (.c (.s (.int .i64 6)))], none⟩,
    ⟨(some 64), .fad 3 (.t 3), none⟩,
    ⟨(some 65), .load false 1 (.t 64), none⟩,
    ⟨(some 66), .call 47 [(.t 65)], none⟩,
    ⟨(some 67), .build [(.int .i64 0), (.str ⟨#[]⟩), (.str ⟨#[]⟩), (.str ⟨#[]⟩), (.int .i64 0), (.int .i64 0), (.int .i64 0), (.int .i64 0), (.int .i64 0), (.int .i64 0), (.int .i64 0), (.int .i64 0)] [(0, 1, (.c (.s (.int .i64 5)))), (1, 1, (.t 55)), (4, 1, (.t 59)), (6, 1, (.t 63)), (9, 1, (.t 66))], none⟩,
    ⟨none, .store 12 (.t 4) (.t 67), none⟩] [(6, 3), (10, 3), (10, 8)] [4])
  (.ret [4]))
  (.seq (.ops [⟨(some 69), .mov (.t 8), none⟩,
    ⟨(some 70), .bin .lss (.t 69) (.c (.s (.int .i64 17))), none⟩,
    ⟨(some 68), .mov (.t 70), none⟩] [3, 4, 5, 6, 8, 68])
  (.cond (.t 68) (.seq (.draw [⟨(some 71), .mov (.t 5), none⟩,
    ⟨(some 72), .fad 2 (.t 3), none⟩,
    ⟨(some 73), .load false 1 (.t 72), none⟩,
    ⟨(some 74), .call 18 [(.t 73), (.c (.s (.int .i64 3)))], none⟩,
    ⟨(some 75), .bin .add (.c (.s (.int .i64 1))) (.t 74), none⟩,
    ⟨(some 76), .fad 2 (.t 3), none⟩,
    ⟨(some 77), .load false 1 (.t 76), none⟩,
    ⟨(some 78), .bin .quo (.t 77) (.c (.s (.int .i64 3))), none⟩,
    ⟨(some 79), .call 18 [(.t 78), (.c (.s (.int .i64 4)))], none⟩,
    ⟨(some 80), .fad 3 (.t 3), none⟩,
    ⟨(some 81), .load false 1 (.t 80), none⟩,
    ⟨(some 82), .call 18 [(.t 81), (.c (.s (.int .i64 3)))], none⟩,
    ⟨(some 83), .bin .add (.c (.s (.int .i64 1))) (.t 82), none⟩,
    ⟨(some 84), .fad 3 (.t 3), none⟩,
    ⟨(some 85), .load false 1 (.t 84), none⟩,
    ⟨(some 86), .bin .quo (.t 85) (.c (.s (.int .i64 3))), none⟩,
    ⟨(some 87), .call 18 [(.t 86), (.c (.s (.int .i64 4)))], none⟩,
    ⟨(some 88), .fad 3 (.t 3), none⟩,
    ⟨(some 89), .load false 1 (.t 88), none⟩,
    ⟨(some 90), .bin .quo (.t 89) (.c (.s (.int .i64 5))), none⟩,
    ⟨(some 91), .call 47 [(.t 90)], none⟩,
    ⟨(some 92), .build [(.int .i64 0), (.str ⟨#[]⟩), (.str ⟨#[]⟩), (.str ⟨#[]⟩), (.int .i64 0), (.int .i64 0), (.int .i64 0), (.int .i64 0), (.int .i64 0), (.int .i64 0), (.int .i64 0), (.int .i64 0)] [(0, 1, (.c (.s (.int .i64 6)))), (1, 1, (.t 71)), (4, 1, (.t 75)), (6, 1, (.t 79)), (5, 1, (.t 83)), (7, 1, (.t 87)), (9, 1, (.t 91))], none⟩,
    ⟨none, .store 12 (.t 4) (.t 92), none⟩] [(6, 3), (10, 3), (10, 8), (14, 3), (14, 8), (14, 11), (18, 3), (18, 8), (18, 11), (18, 16)] [4])
  (.ret [4]))
  (.seq (.ops [⟨(some 94), .mov (.t 8), none⟩,
    ⟨(some 95), .bin .lss (.t 94) (.c (.s (.int .i64 19))), none⟩,
    ⟨(some 93), .mov (.t 95), none⟩] [3, 4, 5, 6, 8, 93])
  (.cond (.t 93) (.seq (.ops [⟨(some 96), .mov (.t 5), none⟩,
    ⟨(some 97), .fad 3 (.t 3), none⟩,
    ⟨(some 98), .load false 1 (.t 97), none⟩,
    ⟨(some 99), .call 48 [(.t 98)], none⟩,
    ⟨(some 100), .build [(.int .i64 0), (.str ⟨#[]⟩), (.str ⟨#[]⟩), (.str ⟨#[]⟩), (.int .i64 0), (.int .i64 0), (.int .i64 0), (.int .i64 0), (.int .i64 0), (.int .i64 0), (.int .i64 0), (.int .i64 0)] [(0, 1, (.c (.s (.int .i64 7)))), (1, 1, (.t 96)), (10, 1, (.t 99))], none⟩,
    ⟨none, .store 12 (.t 4) (.t 100), none⟩] [4])
  (.ret [4]))
  (.seq (.ops [⟨(some 102), .mov (.t 8), none⟩,
    ⟨(some 103), .bin .eql (.t 102) (.c (.s (.int .i64 19))), none⟩,
    ⟨(some 101), .mov (.t 103), none⟩] [3, 4, 5, 6, 8, 101])
  (.cond (.t 101) (.seq (.draw [⟨(some 104), .mov (.t 5), none⟩,
    ⟨(some 105), .fad 3 (.t 3), none⟩,
    ⟨(some 106), .load false 1 (.t 105), none⟩,
    ⟨(some 107), .call 48 [(.t 106)], none⟩,
    ⟨(some 108), .fad 2 (.t 3), none⟩,
    ⟨(some 109), .load false 1 (.t 108), none⟩,
    ⟨(some 110), .call 18 [(.t 109), (.c (.s (.int .i64 5)))], none⟩,
    ⟨(some 111), .build [(.int .i64 0), (.str ⟨#[]⟩), (.str ⟨#[]⟩), (.str ⟨#[]⟩), (.int .i64 0), (.int .i64 0), (.int .i64 0), (.int .i64 0), (.int .i64 0), (.int .i64 0), (.int .i64 0), (.int .i64 0)] [(0, 1, (.c (.s (.int .i64 8)))), (1, 1, (.t 104)), (10, 1, (.t 107)), (6, 1, (.t 110))], none⟩,
    ⟨none, .store 12 (.t 4) (.t 111), none⟩] [(5, 3)] [4])
  (.ret [4]))
  (.seq (.ops [⟨(some 113), .mov (.t 8), none⟩,
    ⟨(some 114), .bin .lss (.t 113) (.c (.s (.int .i64 23))), none⟩,
    ⟨(some 112), .mov (.t 114), none⟩] [3, 4, 5, 6, 8, 112])
  (.cond (.t 112) (.seq (.draw [⟨(some 115), .mov (.t 5), none⟩,
    ⟨(some 116), .mov (.t 6), none⟩,
    ⟨(some 117), .bin .sub (.t 116) (.c (.s (.int .i64 1))), none⟩,
    ⟨(some 118), .fad 2 (.t 3), none⟩,
    ⟨(some 119), .load false 1 (.t 118), none⟩,
    ⟨(some 120), .call 18 [(.t 119), (.c (.s (.int .i64 3)))], none⟩,
    ⟨(some 121), .bin .sub (.t 117) (.t 120), none⟩,
    ⟨(some 122), .mx (.t 121) [(.c (.s (.int .i64 0)))], none⟩,
    ⟨(some 123), .fad 3 (.t 3), none⟩,
    ⟨(some 124), .load false 1 (.t 123), none⟩,
    ⟨(some 125), .call 47 [(.t 124)], none⟩,
    ⟨(some 126), .mx (.t 125) [(.c (.s (.int .i64 0)))], none⟩,
    ⟨(some 127), .build [(.int .i64 0), (.str ⟨#[]⟩), (.str ⟨#[]⟩), (.str ⟨#[]⟩), (.int .i64 0), (.int .i64 0), (.int .i64 0), (.int .i64 0), (.int .i64 0), (.int .i64 0), (.int .i64 0), (.int .i64 0)] [(0, 1, (.c (.s (.int .i64 9)))), (1, 1, (.t 115)), (8, 1, (.t 122)), (9, 1, (.t 126))], none⟩,
    ⟨none, .store 12 (.t 4) (.t 127), none⟩] [(9, 5)] [4])
  (.ret [4]))
  (.seq (.ops [⟨(some 129), .mov (.t 8), none⟩,
    ⟨(some 130), .bin .lss (.t 129) (.c (.s (.int .i64 25))), none⟩,
    ⟨(some 128), .mov (.t 130), none⟩] [3, 4, 5, 6, 8, 128])
  (.cond (.t 128) (.seq (.draw [⟨(some 132), .fad 2 (.t 3), none⟩,
    ⟨(some 133), .load false 1 (.t 132), none⟩,
    ⟨(some 134), .call 18 [(.t 133), (.c (.s (.int .i64 3)))], none⟩,
    ⟨(some 137), .fad 3 (.t 3), none⟩,
    ⟨(some 138), .load false 1 (.t 137), none⟩,
    ⟨(some 139), .call 18 [(.t 138), (.c (.s (.int .i64 6)))], none⟩,
    ⟨(some 140), .fad 3 (.t 3), none⟩,
    ⟨(some 141), .load false 1 (.t 140), none⟩,
    ⟨(some 142), .bin .quo (.t 141) (.c (.s (.int .i64 6))), none⟩,
    ⟨(some 143), .call 48 [(.t 142)], none⟩,
    ⟨(some 145), .fad 3 (.t 3), none⟩,
    ⟨(some 146), .load false 1 (.t 145), none⟩,
    ⟨(some 147), .bin .quo (.t 146) (.c (.s (.int .i64 60))), none⟩,
    ⟨(some 148), .call 18 [(.t 147), (.c (.s (.int .i64 3)))], none⟩,
    ⟨(some 131), .bsl 9 3 [(.str ⟨#[]⟩)] [(0, 1, (.c (.s (.str ⟨#[117, 107]⟩)))), (1, 1, (.c (.s (.str ⟨#[100, 101]⟩)))), (2, 1, (.c (.s (.str ⟨#[102, 114]⟩))))], none⟩,
    ⟨(some 135), .iad 9 1 (.t 131) (.t 134), none⟩,
    ⟨(some 136), .load false 1 (.t 135), none⟩,
    ⟨(some 144), .mov (.t 6), none⟩,
    ⟨(some 149), .bin .add (.t 144) (.t 148), none⟩,
    ⟨(some 150), .build [(.int .i64 0), (.str ⟨#[]⟩), (.str ⟨#[]⟩), (.str ⟨#[]⟩), (.int .i64 0), (.int .i64 0), (.int .i64 0), (.int .i64 0), (.int .i64 0), (.int .i64 0), (.int .i64 0), (.int .i64 0)] [(0, 1, (.c (.s (.int .i64 1)))), (3, 1, (.t 136)), (6, 1, (.t 139)), (10, 1, (.t 143)), (8, 1, (.t 149))], none⟩,
    ⟨none, .store 12 (.t 4) (.t 150), none⟩] [(4, 2), (7, 2), (7, 5), (11, 2), (11, 5), (11, 9), (15, 5), (15, 9), (15, 13), (16, 5), (16, 9), (16, 13)] [4])
  (.ret [4]))
  (.seq (.ops [⟨(some 152), .mov (.t 8), none⟩,
    ⟨(some 153), .bin .lss (.t 152) (.c (.s (.int .i64 27))), none⟩,
    ⟨(some 151), .mov (.t 153), none⟩] [3, 4, 5, 8, 151])
  (.cond (.t 151) (.seq (.draw [⟨(some 154), .mov (.t 5), none⟩,
    ⟨(some 155), .fad 2 (.t 3), none⟩,
    ⟨(some 156), .load false 1 (.t 155), none⟩,
    ⟨(some 157), .call 44 [(.t 156)], none⟩,
    ⟨(some 158), .fad 3 (.t 3), none⟩,
    ⟨(some 159), .load false 1 (.t 158), none⟩,
    ⟨(some 160), .call 47 [(.t 159)], none⟩,
    ⟨(some 161), .build [(.int .i64 0), (.str ⟨#[]⟩), (.str ⟨#[]⟩), (.str ⟨#[]⟩), (.int .i64 0), (.int .i64 0), (.int .i64 0), (.int .i64 0), (.int .i64 0), (.int .i64 0), (.int .i64 0), (.int .i64 0)] [(0, 1, (.c (.s (.int .i64 10)))), (1, 1, (.t 154)), (2, 1, (.t 157)), (9, 1, (.t 160))], none⟩,
    ⟨none, .store 12 (.t 4) (.t 161), none⟩] [(5, 3)] [4])
  (.ret [4]))
  (.seq (.ops [⟨(some 163), .mov (.t 8), none⟩,
    ⟨(some 164), .bin .lss (.t 163) (.c (.s (.int .i64 35))), none⟩,
    ⟨(some 162), .mov (.t 164), none⟩] [3, 4, 5, 8, 162])
  (.cond (.t 162) (.seq (.ops [⟨(some 165), .mov (.t 5), none⟩,
    ⟨(some 166), .build [(.int .i64 0), (.str ⟨#[]⟩), (.str ⟨#[]⟩), (.str ⟨#[]⟩), (.int .i64 0), (.int .i64 0), (.int .i64 0), (.int .i64 0), (.int .i64 0), (.int .i64 0), (.int .i64 0), (.int .i64 0)] [(0, 1, (.c (.s (.int .i64 11)))), (1, 1, (.t 165))], none⟩,
    ⟨none, .store 12 (.t 4) (.t 166), none⟩] [4])
  (.ret [4]))
  (.seq (.ops [⟨(some 168), .mov (.t 8), none⟩,
    ⟨(some 169), .bin .lss (.t 168) (.c (.s (.int .i64 37))), none⟩,
    ⟨(some 167), .mov (.t 169), none⟩] [3, 4, 5, 8, 167])
  (.cond (.t 167) (.seq (.ops [⟨(some 170), .mov (.t 5), none⟩,
    ⟨(some 171), .build [(.int .i64 0), (.str ⟨#[]⟩), (.str ⟨#[]⟩), (.str ⟨#[]⟩), (.int .i64 0), (.int .i64 0), (.int .i64 0), (.int .i64 0), (.int .i64 0), (.int .i64 0), (.int .i64 0), (.int .i64 0)] [(0, 1, (.c (.s (.int .i64 12)))), (1, 1, (.t 170))], none⟩,
    ⟨none, .store 12 (.t 4) (.t 171), none⟩] [4])
  (.ret [4]))
  (.seq (.ops [⟨(some 173), .mov (.t 8), none⟩,
    ⟨(some 174), .bin .eql (.t 173) (.c (.s (.int .i64 37))), none⟩,
    ⟨(some 172), .mov (.t 174), none⟩] [3, 4, 172])
  (.cond (.t 172) (.seq (.draw [⟨(some 175), .fad 2 (.t 3), none⟩,
    ⟨(some 176), .load false 1 (.t 175), none⟩,
    ⟨(some 177), .call 44 [(.t 176)], none⟩,
    ⟨(some 179), .fad 2 (.t 3), none⟩,
    ⟨(some 180), .load false 1 (.t 179), none⟩,
    ⟨(some 181), .bin .quo (.t 180) (.c (.s (.int .i64 5))), none⟩,
    ⟨(some 182), .call 18 [(.t 181), (.c (.s (.int .i64 3)))], none⟩,
    ⟨(some 185), .fad 3 (.t 3), none⟩,
    ⟨(some 186), .load false 1 (.t 185), none⟩,
    ⟨(some 187), .call 48 [(.t 186)], none⟩,
    ⟨(some 188), .fad 3 (.t 3), none⟩,
    ⟨(some 189), .load false 1 (.t 188), none⟩,
    ⟨(some 190), .call 18 [(.t 189), (.c (.s (.int .i64 5)))], none⟩,
    ⟨(some 191), .fad 3 (.t 3), none⟩,
    ⟨(some 192), .load false 1 (.t 191), none⟩,
    ⟨(some 193), .bin .quo (.t 192) (.c (.s (.int .i64 5))), none⟩,
    ⟨(some 194), .call 18 [(.t 193), (.c (.s (.int .i64 4)))], none⟩,
    ⟨(some 195), .fad 3 (.t 3), none⟩,
    ⟨(some 196), .load false 1 (.t 195), none⟩,
    ⟨(some 197), .call 18 [(.t 196), (.c (.s (.int .i64 2000000)))], none⟩,
    ⟨(some 178), .bsl 9 3 [(.str ⟨#[]⟩)] [(0, 1, (.c (.s (.str ⟨#[117, 107]⟩)))), (1, 1, (.c (.s (.str ⟨#[100, 101]⟩)))), (2, 1, (.c (.s (.str ⟨#[102, 114]⟩))))], none⟩,
    ⟨(some 183), .iad 9 1 (.t 178) (.t 182), none⟩,
    ⟨(some 184), .load false 1 (.t 183), none⟩,
    ⟨(some 198), .bin .add (.c (.s (.int .i64 1))) (.t 197), none⟩,
    ⟨(some 199), .build [(.int .i64 0), (.str ⟨#[]⟩), (.str ⟨#[]⟩), (.str ⟨#[]⟩), (.int .i64 0), (.int .i64 0), (.int .i64 0), (.int .i64 0), (.int .i64 0), (.int .i64 0), (.int .i64 0), (.int .i64 0)] [(0, 1, (.c (.s (.int .i64 2)))), (1, 1, (.t 177)), (3, 1, (.t 184)), (10, 1, (.t 187)), (6, 1, (.t 190)), (8, 1, (.t 194)), (11, 1, (.t 198))], none⟩,
    ⟨none, .store 12 (.t 4) (.t 199), none⟩] [(4, 2), (8, 2), (8, 6), (11, 2), (11, 6), (11, 9), (14, 2), (14, 6), (14, 9), (14, 12), (18, 2), (18, 6), (18, 9), (18, 12), (18, 16), (21, 9), (21, 12), (21, 16), (21, 19), (22, 9), (22, 12), (22, 16), (22, 19)] [4])
  (.ret [4]))
  .skip))))))))))))))))))))))))))
  s27_6)
def s27_4 : EC := (.seq (.seq (.ops [⟨(some 20), .mov (.t 0), none⟩,
    ⟨(some 21), .mov (.t 5), none⟩,
    ⟨(some 22), .call 45 [(.t 20), (.t 21)], none⟩,
    ⟨(some 7), .mov (.t 22), none⟩] [3, 4, 5, 6, 7])
  (.seq (.ops [⟨(some 23), .mov (.t 7), none⟩,
    ⟨(some 24), .eqp true (.t 23) (.c (.s .nilp)), none⟩] [3, 4, 5, 6, 7, 24])
  (.cond (.t 24) (.ops [⟨(some 26), .mov (.t 7), none⟩,
    ⟨(some 27), .nilc (.t 26), none⟩,
    ⟨(some 28), .fad 3 (.t 27), none⟩,
    ⟨(some 29), .load false 1 (.t 28), none⟩,
    ⟨(some 30), .call 46 [(.t 29)], none⟩,
    ⟨(some 25), .mov (.t 30), none⟩,
    ⟨(some 31), .ext (.t 25) 0, none⟩,
    ⟨(some 32), .ext (.t 25) 1, none⟩,
    ⟨(some 6), .mov (.t 31), none⟩] [3, 4, 5, 6])
  .skip)))
  s27_5)
def s27_3 : EC := (.seq (.ops [⟨(some 6), .mov (.c (.s (.int .i64 0))), none⟩] [0, 3, 4, 5, 6])
  s27_4)
def s27_2 : EC := (.seq (.seq (.ops [⟨(some 13), .fad 1 (.t 3), none⟩,
    ⟨(some 14), .load false 1 (.t 13), none⟩,
    ⟨(some 15), .bin .rem (.t 14) (.c (.s (.int .i64 17))), none⟩,
    ⟨(some 16), .bin .eql (.t 15) (.c (.s (.int .i64 16))), none⟩] [0, 3, 4, 5, 16])
  (.cond (.t 16) (.ops [⟨(some 17), .fad 1 (.t 3), none⟩,
    ⟨(some 18), .load false 1 (.t 17), none⟩,
    ⟨(some 19), .call 44 [(.t 18)], none⟩,
    ⟨(some 5), .mov (.t 19), none⟩] [0, 3, 4, 5])
  .skip))
  s27_3)
def s27_1 : EC := (.seq (.ops [⟨(some 9), .fad 1 (.t 3), none⟩,
    ⟨(some 10), .load false 1 (.t 9), none⟩,
    ⟨(some 11), .bin .rem (.t 10) (.c (.s (.int .i64 3))), none⟩,
    ⟨(some 12), .call 44 [(.t 11)], none⟩,
    ⟨(some 5), .mov (.t 12), none⟩] [0, 3, 4, 5])
  s27_2)
def b27 : EC := (.seq (.ops [⟨(some 3), .new 63 5 (.t 1), none⟩,
    ⟨(some 4), .new 23 12 (.c (.agg [(.int .i64 0), (.str ⟨#[]⟩), (.str ⟨#[]⟩), (.str ⟨#[]⟩), (.int .i64 0), (.int .i64 0), (.int .i64 0), (.int .i64 0), (.int .i64 0), (.int .i64 0), (.int .i64 0), (.int .i64 0)])), none⟩] [0, 3, 4])
  s27_1)
def e27 : EF := ⟨214, b27, [.cell 4 true 12]⟩

/-- scutage/scutageplay.Raw -/
def h28 : List (List Nat) := [[1, 2, 4], [1, 2, 4, 5], [1, 2, 4, 5, 6], [1, 2, 4, 5, 6, 7], [1, 2, 4, 5, 6, 7], [1, 2, 4, 5, 6, 7, 21], [1, 2, 4, 6], [1, 2, 4, 5, 6, 7, 26], [1, 2, 4, 5, 6, 7, 26, 30], [1, 2, 4, 5, 6, 7], [1, 2, 4, 5, 6, 7, 26, 37], [1, 2, 4, 5, 6, 7], [1, 2, 4, 5, 6, 7, 26, 44], [1, 2, 4, 5, 6, 7], [1, 2, 4, 5, 6, 7, 26, 51], [1, 2, 4, 5, 6, 7], [1, 2, 4, 5, 6, 7, 26, 56], [1, 2, 4, 5, 6, 7], [1, 2, 4, 5, 6, 7, 26, 61], [1, 2, 4, 5, 6, 7], [1, 2, 4, 5, 6, 7, 26, 66], [1, 2, 4, 5, 6, 7], [1, 2, 4, 5, 6, 7, 26, 71], [1, 2, 4, 5, 6, 7], [1, 2, 4, 5, 6, 7, 26, 76], [1, 2, 4, 5, 6, 7], [1, 2, 4, 5, 6, 7, 81], [1, 2, 4, 5, 6, 7], [1, 2, 4, 5, 6, 7], [1, 2, 4, 5, 6, 7], [2, 4, 6, 87], [2, 4, 6, 87, 88], [4], [4], [2, 4, 6, 87, 91], [4, 6], [2, 4, 6, 87, 97], [4, 6], [2, 4, 6, 103], [4, 6], [4], [4]]
def l28_0_1 : EC := (.seq (.block 1 (.seq (.ops [⟨(some 24), .mov (.t 5), none⟩,
    ⟨(some 25), .mov (.t 7), none⟩,
    ⟨(some 26), .idx (.t 24) (.t 25), none⟩] [1, 2, 4, 5, 6, 7, 26])
  (.block 2 (.seq (.ops [⟨(some 31), .bin .eql (.t 26) (.c (.s (.int .u8 73))), none⟩,
    ⟨(some 30), .mov (.t 31), none⟩] [1, 2, 4, 5, 6, 7, 26, 30])
  (.cond (.t 30) (.ops [⟨(some 32), .fad 1 (.t 2), none⟩,
    ⟨(some 33), .load false 1 (.t 32), none⟩,
    ⟨(some 34), .slen (.t 33), none⟩,
    ⟨(some 35), .call 44 [(.t 34)], none⟩,
    ⟨(some 36), .fad 1 (.t 6), none⟩,
    ⟨none, .store 1 (.t 36) (.t 35), none⟩] [1, 2, 4, 5, 6, 7])
  (.seq (.ops [⟨(some 38), .bin .eql (.t 26) (.c (.s (.int .u8 75))), none⟩,
    ⟨(some 37), .mov (.t 38), none⟩] [1, 2, 4, 5, 6, 7, 26, 37])
  (.cond (.t 37) (.ops [⟨(some 39), .fad 2 (.t 2), none⟩,
    ⟨(some 40), .load false 1 (.t 39), none⟩,
    ⟨(some 41), .slen (.t 40), none⟩,
    ⟨(some 42), .call 44 [(.t 41)], none⟩,
    ⟨(some 43), .fad 2 (.t 6), none⟩,
    ⟨none, .store 1 (.t 43) (.t 42), none⟩] [1, 2, 4, 5, 6, 7])
  (.seq (.ops [⟨(some 45), .bin .eql (.t 26) (.c (.s (.int .u8 74))), none⟩,
    ⟨(some 44), .mov (.t 45), none⟩] [1, 2, 4, 5, 6, 7, 26, 44])
  (.cond (.t 44) (.ops [⟨(some 46), .fad 3 (.t 2), none⟩,
    ⟨(some 47), .load false 1 (.t 46), none⟩,
    ⟨(some 48), .slen (.t 47), none⟩,
    ⟨(some 49), .call 44 [(.t 48)], none⟩,
    ⟨(some 50), .fad 3 (.t 6), none⟩,
    ⟨none, .store 1 (.t 50) (.t 49), none⟩] [1, 2, 4, 5, 6, 7])
  (.seq (.ops [⟨(some 52), .bin .eql (.t 26) (.c (.s (.int .u8 67))), none⟩,
    ⟨(some 51), .mov (.t 52), none⟩] [1, 2, 4, 5, 6, 7, 26, 51])
  (.cond (.t 51) (.ops [⟨(some 53), .fad 4 (.t 2), none⟩,
    ⟨(some 54), .load false 1 (.t 53), none⟩,
    ⟨(some 55), .fad 4 (.t 6), none⟩,
    ⟨none, .store 1 (.t 55) (.t 54), none⟩] [1, 2, 4, 5, 6, 7])
  (.seq (.ops [⟨(some 57), .bin .eql (.t 26) (.c (.s (.int .u8 68))), none⟩,
    ⟨(some 56), .mov (.t 57), none⟩] [1, 2, 4, 5, 6, 7, 26, 56])
  (.cond (.t 56) (.ops [⟨(some 58), .fad 5 (.t 2), none⟩,
    ⟨(some 59), .load false 1 (.t 58), none⟩,
    ⟨(some 60), .fad 5 (.t 6), none⟩,
    ⟨none, .store 1 (.t 60) (.t 59), none⟩] [1, 2, 4, 5, 6, 7])
  (.seq (.ops [⟨(some 62), .bin .eql (.t 26) (.c (.s (.int .u8 89))), none⟩,
    ⟨(some 61), .mov (.t 62), none⟩] [1, 2, 4, 5, 6, 7, 26, 61])
  (.cond (.t 61) (.ops [⟨(some 63), .fad 6 (.t 2), none⟩,
    ⟨(some 64), .load false 1 (.t 63), none⟩,
    ⟨(some 65), .fad 6 (.t 6), none⟩,
    ⟨none, .store 1 (.t 65) (.t 64), none⟩] [1, 2, 4, 5, 6, 7])
  (.seq (.ops [⟨(some 67), .bin .eql (.t 26) (.c (.s (.int .u8 90))), none⟩,
    ⟨(some 66), .mov (.t 67), none⟩] [1, 2, 4, 5, 6, 7, 26, 66])
  (.cond (.t 66) (.ops [⟨(some 68), .fad 7 (.t 2), none⟩,
    ⟨(some 69), .load false 1 (.t 68), none⟩,
    ⟨(some 70), .fad 7 (.t 6), none⟩,
    ⟨none, .store 1 (.t 70) (.t 69), none⟩] [1, 2, 4, 5, 6, 7])
  (.seq (.ops [⟨(some 72), .bin .eql (.t 26) (.c (.s (.int .u8 80))), none⟩,
    ⟨(some 71), .mov (.t 72), none⟩] [1, 2, 4, 5, 6, 7, 26, 71])
  (.cond (.t 71) (.ops [⟨(some 73), .fad 8 (.t 2), none⟩,
    ⟨(some 74), .load false 1 (.t 73), none⟩,
    ⟨(some 75), .fad 8 (.t 6), none⟩,
    ⟨none, .store 1 (.t 75) (.t 74), none⟩] [1, 2, 4, 5, 6, 7])
  (.seq (.ops [⟨(some 77), .bin .eql (.t 26) (.c (.s (.int .u8 65))), none⟩,
    ⟨(some 76), .mov (.t 77), none⟩] [1, 2, 4, 5, 6, 7, 26, 76])
  (.cond (.t 76) (.ops [⟨(some 78), .fad 9 (.t 2), none⟩,
    ⟨(some 79), .load false 1 (.t 78), none⟩,
    ⟨(some 80), .fad 9 (.t 6), none⟩,
    ⟨none, .store 1 (.t 80) (.t 79), none⟩] [1, 2, 4, 5, 6, 7])
  (.seq (.ops [⟨(some 82), .bin .eql (.t 26) (.c (.s (.int .u8 82))), none⟩,
    ⟨(some 81), .mov (.t 82), none⟩] [1, 2, 4, 5, 6, 7, 81])
  (.cond (.t 81) (.ops [⟨(some 83), .fad 10 (.t 2), none⟩,
    ⟨(some 84), .load false 1 (.t 83), none⟩,
    ⟨(some 85), .fad 10 (.t 6), none⟩,
    ⟨none, .store 1 (.t 85) (.t 84), none⟩] [1, 2, 4, 5, 6, 7])
  (.ops [⟨(some 27), .fad 11 (.t 2), none⟩,
    ⟨(some 28), .load false 1 (.t 27), none⟩,
    ⟨(some 29), .fad 11 (.t 6), none⟩,
    ⟨none, .store 1 (.t 29) (.t 28), none⟩] [1, 2, 4, 5, 6, 7]))))))))))))))))))))))))
  (.ops [⟨(some 22), .mov (.t 7), none⟩,
    ⟨(some 23), .bin .add (.t 22) (.c (.s (.int .i64 1))), none⟩,
    ⟨(some 7), .mov (.t 23), none⟩] [1, 2, 4, 5, 6, 7]))
def l28_0 : EC := (.seq (.seq (.ops [⟨(some 18), .mov (.t 7), none⟩,
    ⟨(some 19), .mov (.t 5), none⟩,
    ⟨(some 20), .slen (.t 19), none⟩,
    ⟨(some 21), .bin .lss (.t 18) (.t 20), none⟩] [1, 2, 4, 5, 6, 7, 21])
  (.cond (.t 21) .skip
  (.exit 0 [1, 2, 4, 6])))
  l28_0_1)
def s28_5 : EC := (.seq (.ops [⟨(some 108), .load true 12 (.t 6), none⟩,
    ⟨none, .store 12 (.t 4) (.t 108), none⟩] [4])
  (.ret [4]))
def s28_4 : EC := (.seq (.seq (.ops [⟨(some 86), .mov (.t 1), none⟩,
    ⟨(some 87), .call 18 [(.t 86), (.c (.s (.int .i64 24)))], none⟩] [2, 4, 6, 87])
  (.block 3 (.seq (.ops [⟨(some 89), .bin .eql (.t 87) (.c (.s (.int .i64 20))), none⟩,
    ⟨(some 88), .mov (.t 89), none⟩] [2, 4, 6, 87, 88])
  (.cond (.t 88) (.seq (.ops [⟨(some 90), .load true 12 (.t 2), none⟩,
    ⟨none, .store 12 (.t 4) (.t 90), none⟩] [4])
  (.ret [4]))
  (.seq (.ops [⟨(some 92), .bin .eql (.t 87) (.c (.s (.int .i64 21))), none⟩,
    ⟨(some 91), .mov (.t 92), none⟩] [2, 4, 6, 87, 91])
  (.cond (.t 91) (.ops [⟨(some 93), .fad 1 (.t 2), none⟩,
    ⟨(some 94), .load false 1 (.t 93), none⟩,
    ⟨(some 95), .call 49 [(.t 94), (.c (.s (.int .i64 10)))], none⟩,
    ⟨(some 96), .fad 1 (.t 6), none⟩,
    ⟨none, .store 1 (.t 96) (.t 95), none⟩] [4, 6])
  (.seq (.ops [⟨(some 98), .bin .eql (.t 87) (.c (.s (.int .i64 22))), none⟩,
    ⟨(some 97), .mov (.t 98), none⟩] [2, 4, 6, 87, 97])
  (.cond (.t 97) (.ops [⟨(some 99), .fad 3 (.t 2), none⟩,
    ⟨(some 100), .load false 1 (.t 99), none⟩,
    ⟨(some 101), .call 49 [(.t 100), (.c (.s (.int .i64 10)))], none⟩,
    ⟨(some 102), .fad 3 (.t 6), none⟩,
    ⟨none, .store 1 (.t 102) (.t 101), none⟩] [4, 6])
  (.seq (.ops [⟨(some 104), .bin .eql (.t 87) (.c (.s (.int .i64 23))), none⟩,
    ⟨(some 103), .mov (.t 104), none⟩] [2, 4, 6, 103])
  (.cond (.t 103) (.ops [⟨(some 105), .fad 0 (.t 2), none⟩,
    ⟨(some 106), .load false 1 (.t 105), none⟩,
    ⟨(some 107), .fad 0 (.t 6), none⟩,
    ⟨none, .store 1 (.t 107) (.t 106), none⟩] [4, 6])
  .skip))))))))))
  s28_5)
def s28_3 : EC := (.seq (.seq (.ops [⟨(some 7), .mov (.c (.s (.int .i64 0))), none⟩] [1, 2, 4, 5, 6, 7])
  (.block 0 (.loop [1, 2, 4, 5, 6, 7] l28_0)))
  s28_4)
def s28_2 : EC := (.seq (.ops [⟨(some 13), .fad 0 (.t 2), none⟩,
    ⟨(some 14), .load false 1 (.t 13), none⟩,
    ⟨(some 15), .call 18 [(.t 14), (.c (.s (.int .i64 12)))], none⟩,
    ⟨(some 16), .bin .add (.c (.s (.int .i64 1))) (.t 15), none⟩,
    ⟨(some 17), .build [(.int .i64 0), (.str ⟨#[]⟩), (.str ⟨#[]⟩), (.str ⟨#[]⟩), (.int .i64 0), (.int .i64 0), (.int .i64 0), (.int .i64 0), (.int .i64 0), (.int .i64 0), (.int .i64 0), (.int .i64 0)] [(0, 1, (.t 16))], none⟩,
    ⟨(some 6), .new 23 12 (.c (.agg [(.int .i64 0), (.str ⟨#[]⟩), (.str ⟨#[]⟩), (.str ⟨#[]⟩), (.int .i64 0), (.int .i64 0), (.int .i64 0), (.int .i64 0), (.int .i64 0), (.int .i64 0), (.int .i64 0), (.int .i64 0)])), none⟩,
    ⟨none, .store 12 (.t 6) (.t 17), none⟩] [1, 2, 4, 5, 6])
  s28_3)
def s28_1 : EC := (.seq (.ops [⟨(some 8), .fad 0 (.t 2), none⟩,
    ⟨(some 9), .load false 1 (.t 8), none⟩,
    ⟨(some 10), .call 18 [(.t 9), (.c (.s (.int .i64 12)))], none⟩,
    ⟨(some 11), .bin .add (.c (.s (.int .i64 1))) (.t 10), none⟩,
    ⟨(some 12), .call 29 [(.t 11)], none⟩,
    ⟨(some 5), .mov (.t 12), none⟩] [1, 2, 4, 5])
  s28_2)
def b28 : EC := (.seq (.ops [⟨(some 2), .new 23 12 (.t 0), none⟩,
    ⟨(some 4), .new 23 12 (.c (.agg [(.int .i64 0), (.str ⟨#[]⟩), (.str ⟨#[]⟩), (.str ⟨#[]⟩), (.int .i64 0), (.int .i64 0), (.int .i64 0), (.int .i64 0), (.int .i64 0), (.int .i64 0), (.int .i64 0), (.int .i64 0)])), none⟩] [1, 2, 4])
  s28_1)
def e28 : EF := ⟨109, b28, [.cell 4 true 12]⟩

/-- scutage/scutageref19.Fields -/
def h29 : List (List Nat) := [[0], [0, 3], [0, 3, 12], [2], [2], [2], [2]]
def s29_3 : EC := (.seq (.ops [⟨(some 13), .mov (.t 3), none⟩,
    ⟨(some 14), .mov (.t 0), none⟩,
    ⟨(some 15), .iad 9 1 (.t 13) (.t 14), none⟩,
    ⟨(some 16), .load false 1 (.t 15), none⟩,
    ⟨(some 2), .mov (.t 16), none⟩] [2])
  (.ret [2]))
def s29_2 : EC := (.seq (.seq (.ops [⟨(some 5), .mov (.t 0), none⟩,
    ⟨(some 6), .bin .lss (.t 5) (.c (.s (.int .i64 1))), none⟩,
    ⟨(some 7), .mov (.t 6), none⟩,
    ⟨(some 8), .mov (.t 0), (some (7, false))⟩,
    ⟨(some 9), .mov (.t 3), (some (7, false))⟩,
    ⟨(some 10), .len (.t 9), (some (7, false))⟩,
    ⟨(some 11), .bin .geq (.t 8) (.t 10), (some (7, false))⟩,
    ⟨(some 12), .pick (.t 7) (.c (.s (.bool true))) (.t 11), none⟩] [0, 3, 12])
  (.cond (.t 12) (.seq (.ops [⟨(some 2), .mov (.c (.s (.str ⟨#[63]⟩))), none⟩] [2])
  (.ret [2]))
  .skip))
  s29_3)
def s29_1 : EC := (.seq (.ops [⟨(some 4), .bsl 9 13 [(.str ⟨#[]⟩)] [(0, 1, (.c (.s (.str ⟨#[63]⟩)))), (1, 1, (.c (.s (.str ⟨#[74, 89, 82, 80]⟩)))), (2, 1, (.c (.s (.str ⟨#[73, 74, 82, 89, 80, 70]⟩)))), (3, 1, (.c (.s (.str ⟨#[73, 65]⟩)))), (4, 1, (.c (.s (.str ⟨#[73, 65]⟩)))), (5, 1, (.c (.s (.str ⟨#[73, 67, 89, 65]⟩)))), (6, 1, (.c (.s (.str ⟨#[73, 67, 89, 68, 90, 65]⟩)))), (7, 1, (.c (.s (.str ⟨#[73, 82]⟩)))), (8, 1, (.c (.s (.str ⟨#[73, 82, 89]⟩)))), (9, 1, (.c (.s (.str ⟨#[73, 80, 65]⟩)))), (10, 1, (.c (.s (.str ⟨#[73, 75, 65]⟩)))), (11, 1, (.c (.s (.str ⟨#[73]⟩)))), (12, 1, (.c (.s (.str ⟨#[73]⟩))))], none⟩,
    ⟨(some 3), .mov (.t 4), none⟩] [0, 3])
  s29_2)
def b29 : EC := (.seq (.ops [⟨(some 2), .mov (.c (.s (.str ⟨#[]⟩))), none⟩] [0])
  s29_1)
def e29 : EF := ⟨17, b29, [.tmp 2]⟩

/-- scutage/scutageref19.name -/
def h30 : List (List Nat) := [[0, 1], [0, 7], [4], [4], [0, 5], [0, 5], [0, 5, 13], [0], [0, 5, 38], [4], [4], [0, 5], [4], [4]]
def l30_0_1 : EC := (.seq (.block 1 (.seq (.ops [⟨(some 16), .mov (.t 0), none⟩,
    ⟨(some 17), .mov (.t 5), none⟩,
    ⟨(some 18), .idx (.t 16) (.t 17), none⟩,
    ⟨(some 19), .bin .geq (.t 18) (.c (.s (.int .u8 97))), none⟩,
    ⟨(some 20), .mov (.t 19), none⟩,
    ⟨(some 21), .mov (.t 0), (some (20, true))⟩,
    ⟨(some 22), .mov (.t 5), (some (20, true))⟩,
    ⟨(some 23), .idx (.t 21) (.t 22), (some (20, true))⟩,
    ⟨(some 24), .bin .leq (.t 23) (.c (.s (.int .u8 122))), (some (20, true))⟩,
    ⟨(some 25), .pick (.t 20) (.t 24) (.c (.s (.bool false))), none⟩,
    ⟨(some 26), .mov (.t 25), none⟩,
    ⟨(some 27), .mov (.t 0), (some (26, false))⟩,
    ⟨(some 28), .mov (.t 5), (some (26, false))⟩,
    ⟨(some 29), .idx (.t 27) (.t 28), (some (26, false))⟩,
    ⟨(some 30), .bin .geq (.t 29) (.c (.s (.int .u8 48))), (some (26, false))⟩,
    ⟨(some 31), .mov (.t 30), (some (26, false))⟩,
    ⟨(some 32), .mov (.t 0), (some (31, true))⟩,
    ⟨(some 33), .mov (.t 5), (some (31, true))⟩,
    ⟨(some 34), .idx (.t 32) (.t 33), (some (31, true))⟩,
    ⟨(some 35), .bin .leq (.t 34) (.c (.s (.int .u8 57))), (some (31, true))⟩,
    ⟨(some 36), .pick (.t 31) (.t 35) (.c (.s (.bool false))), (some (26, false))⟩,
    ⟨(some 37), .pick (.t 26) (.c (.s (.bool true))) (.t 36), none⟩,
    ⟨(some 38), .un .not (.t 37), none⟩] [0, 5, 38])
  (.cond (.t 38) (.seq (.ops [⟨(some 4), .mov (.c (.s (.bool false))), none⟩] [4])
  (.ret [4]))
  .skip)))
  (.ops [⟨(some 14), .mov (.t 5), none⟩,
    ⟨(some 15), .bin .add (.t 14) (.c (.s (.int .i64 1))), none⟩,
    ⟨(some 5), .mov (.t 15), none⟩] [0, 5]))
def l30_0 : EC := (.seq (.seq (.ops [⟨(some 10), .mov (.t 5), none⟩,
    ⟨(some 11), .mov (.t 0), none⟩,
    ⟨(some 12), .slen (.t 11), none⟩,
    ⟨(some 13), .bin .lss (.t 10) (.t 12), none⟩] [0, 5, 13])
  (.cond (.t 13) .skip
  (.exit 0 [0])))
  l30_0_1)
def s30_3 : EC := (.seq (.ops [⟨(some 39), .mov (.t 0), none⟩,
    ⟨(some 40), .slen (.t 39), none⟩,
    ⟨(some 41), .bin .geq (.t 40) (.c (.s (.int .i64 1))), none⟩,
    ⟨(some 42), .mov (.t 41), none⟩,
    ⟨(some 43), .mov (.t 0), (some (42, true))⟩,
    ⟨(some 44), .slen (.t 43), (some (42, true))⟩,
    ⟨(some 45), .bin .leq (.t 44) (.c (.s (.int .i64 8))), (some (42, true))⟩,
    ⟨(some 46), .pick (.t 42) (.t 45) (.c (.s (.bool false))), none⟩,
    ⟨(some 4), .mov (.t 46), none⟩] [4])
  (.ret [4]))
def s30_2 : EC := (.seq (.seq (.ops [⟨(some 5), .mov (.c (.s (.int .i64 0))), none⟩] [0, 5])
  (.block 0 (.loop [0, 5] l30_0)))
  s30_3)
def s30_1 : EC := (.seq (.seq (.ops [⟨(some 6), .mov (.t 1), none⟩,
    ⟨(some 7), .un .not (.t 6), none⟩] [0, 7])
  (.cond (.t 7) (.seq (.ops [⟨(some 8), .mov (.t 0), none⟩,
    ⟨(some 9), .bin .eql (.t 8) (.c (.s (.str ⟨#[]⟩))), none⟩,
    ⟨(some 4), .mov (.t 9), none⟩] [4])
  (.ret [4]))
  .skip))
  s30_2)
def b30 : EC := (.seq (.ops [⟨(some 4), .mov (.c (.s (.bool false))), none⟩] [0, 1])
  s30_1)
def e30 : EF := ⟨47, b30, [.tmp 4]⟩

/-- scutage/scutageref19.has -/
def h31 : List (List Nat) := [[0, 1], [0, 1, 5], [0, 1, 5], [0, 1, 5, 9], [], [0, 1, 5, 16], [4], [4], [0, 1, 5], [4], [4]]
def l31_0_1 : EC := (.seq (.block 1 (.seq (.ops [⟨(some 12), .mov (.t 0), none⟩,
    ⟨(some 13), .mov (.t 5), none⟩,
    ⟨(some 14), .idx (.t 12) (.t 13), none⟩,
    ⟨(some 15), .mov (.t 1), none⟩,
    ⟨(some 16), .bin .eql (.t 14) (.t 15), none⟩] [0, 1, 5, 16])
  (.cond (.t 16) (.seq (.ops [⟨(some 4), .mov (.c (.s (.bool true))), none⟩] [4])
  (.ret [4]))
  .skip)))
  (.ops [⟨(some 10), .mov (.t 5), none⟩,
    ⟨(some 11), .bin .add (.t 10) (.c (.s (.int .i64 1))), none⟩,
    ⟨(some 5), .mov (.t 11), none⟩] [0, 1, 5]))
def l31_0 : EC := (.seq (.seq (.ops [⟨(some 6), .mov (.t 5), none⟩,
    ⟨(some 7), .mov (.t 0), none⟩,
    ⟨(some 8), .slen (.t 7), none⟩,
    ⟨(some 9), .bin .lss (.t 6) (.t 8), none⟩] [0, 1, 5, 9])
  (.cond (.t 9) .skip
  (.exit 0 [])))
  l31_0_1)
def s31_2 : EC := (.seq (.ops [⟨(some 4), .mov (.c (.s (.bool false))), none⟩] [4])
  (.ret [4]))
def s31_1 : EC := (.seq (.seq (.ops [⟨(some 5), .mov (.c (.s (.int .i64 0))), none⟩] [0, 1, 5])
  (.block 0 (.loop [0, 1, 5] l31_0)))
  s31_2)
def b31 : EC := (.seq (.ops [⟨(some 4), .mov (.c (.s (.bool false))), none⟩] [0, 1])
  s31_1)
def e31 : EF := ⟨17, b31, [.tmp 4]⟩

/-- scutage/scutageref19.one -/
def h32 : List (List Nat) := [[0, 2], [0, 2, 4], [0, 2, 4, 5], [0, 2, 4, 5, 21, 22, 23], [0, 2, 4, 5, 21, 22, 23], [0, 2, 4, 5, 21, 22, 23, 24], [2, 4, 5], [0, 2, 4, 5, 7, 21, 22, 23], [0, 2, 4, 5, 7, 21, 22, 23, 34], [2, 3], [2, 3], [0, 2, 4, 5, 7, 21, 22, 23, 45], [0, 2, 4, 5, 7, 8, 21, 22, 23], [0, 2, 4, 5, 7, 8, 21, 22, 23, 57], [2, 3], [2, 3], [0, 2, 4, 5, 7, 8, 9, 21, 22, 23], [0, 2, 4, 5, 8, 9, 21, 22, 23, 68], [0, 2, 4, 5, 8, 9, 21, 22, 23, 68, 71], [0, 2, 4, 5, 8, 21, 22, 23], [0, 2, 4, 5, 8, 9, 21, 22, 23, 75], [0, 2, 4, 5, 8, 21, 22, 23], [0, 2, 4, 5, 8, 21, 22, 23], [0, 2, 4, 5, 21, 22, 23], [0, 2, 4, 5, 21, 22, 23], [0, 2, 4, 5, 7, 21, 22, 23, 87], [2, 3], [2, 3], [0, 2, 4, 5, 7, 10, 21, 22, 23], [0, 2, 4, 5, 7, 10, 11, 21, 22, 23], [0, 2, 4, 5, 7, 10, 11, 21, 22, 23], [0, 2, 4, 5, 7, 10, 11, 21, 22, 23, 90], [0, 2, 4, 5, 7, 10, 21, 22, 23], [0, 2, 4, 5, 7, 10, 11, 21, 22, 23], [0, 2, 4, 5, 7, 10, 11, 21, 22, 23], [0, 2, 4, 5, 7, 12, 21, 22, 23], [0, 2, 4, 5, 12, 21, 22, 23, 105], [0, 2, 4, 5, 12, 21, 22, 23, 105, 108], [0, 2, 4, 5, 21, 22, 23], [0, 2, 4, 5, 12, 21, 22, 23, 105, 112], [0, 2, 4, 5, 21, 22, 23], [0, 2, 4, 5, 12, 21, 22, 23, 105, 116], [0, 2, 4, 5, 21, 22, 23], [0, 2, 4, 5, 12, 21, 22, 23, 105, 120], [0, 2, 4, 5, 21, 22, 23], [0, 2, 4, 5, 12, 21, 22, 23, 105, 124], [0, 2, 4, 5, 21, 22, 23], [0, 2, 4, 5, 12, 21, 22, 23, 105, 128], [0, 2, 4, 5, 21, 22, 23], [0, 2, 4, 5, 12, 21, 22, 23, 132], [0, 2, 4, 5, 21, 22, 23], [0, 2, 4, 5, 21, 22, 23], [0, 2, 4, 5, 21, 22, 23], [0, 2, 4, 5, 21, 22, 23], [2, 4, 5, 141], [2, 3], [2, 3], [2, 3], [2, 3]]
def l32_0_1 : EC := (.seq (.block 4 (.ops [⟨(some 93), .mov (.t 10), none⟩,
    ⟨(some 94), .bin .shl (.t 93) (.c (.s (.int .u64 8))), none⟩,
    ⟨(some 95), .mov (.t 0), none⟩,
    ⟨(some 96), .mov (.t 5), none⟩,
    ⟨(some 97), .mov (.t 11), none⟩,
    ⟨(some 98), .bin .add (.t 96) (.t 97), none⟩,
    ⟨(some 99), .iad 5 1 (.t 95) (.t 98), none⟩,
    ⟨(some 100), .load false 1 (.t 99), none⟩,
    ⟨(some 101), .toi .u64 (.t 100), none⟩,
    ⟨(some 102), .bin .or (.t 94) (.t 101), none⟩,
    ⟨(some 10), .mov (.t 102), none⟩] [0, 2, 4, 5, 7, 10, 11, 21, 22, 23]))
  (.ops [⟨(some 91), .mov (.t 11), none⟩,
    ⟨(some 92), .bin .add (.t 91) (.c (.s (.int .i64 1))), none⟩,
    ⟨(some 11), .mov (.t 92), none⟩] [0, 2, 4, 5, 7, 10, 11, 21, 22, 23]))
def l32_0 : EC := (.seq (.seq (.ops [⟨(some 89), .mov (.t 11), none⟩,
    ⟨(some 90), .bin .lss (.t 89) (.c (.s (.int .i64 8))), none⟩] [0, 2, 4, 5, 7, 10, 11, 21, 22, 23, 90])
  (.cond (.t 90) .skip
  (.exit 3 [0, 2, 4, 5, 7, 10, 21, 22, 23])))
  l32_0_1)
def l32_1_2 : EC := (.seq (.block 1 (.seq (.ops [⟨(some 25), .iad 5 1 (.t 21) (.t 23), none⟩,
    ⟨(some 26), .load false 1 (.t 25), none⟩,
    ⟨(some 7), .mov (.t 26), none⟩] [0, 2, 4, 5, 7, 21, 22, 23])
  (.seq (.seq (.ops [⟨(some 27), .mov (.t 7), none⟩,
    ⟨(some 28), .bin .eql (.t 27) (.c (.s (.int .u8 63))), none⟩,
    ⟨(some 29), .mov (.t 28), none⟩,
    ⟨(some 30), .mov (.t 5), (some (29, false))⟩,
    ⟨(some 31), .mov (.t 0), (some (29, false))⟩,
    ⟨(some 32), .len (.t 31), (some (29, false))⟩,
    ⟨(some 33), .bin .geq (.t 30) (.t 32), (some (29, false))⟩,
    ⟨(some 34), .pick (.t 29) (.c (.s (.bool true))) (.t 33), none⟩] [0, 2, 4, 5, 7, 21, 22, 23, 34])
  (.cond (.t 34) (.seq (.ops [⟨(some 35), .build [(.int .i64 0), (.str ⟨#[]⟩), (.str ⟨#[]⟩), (.str ⟨#[]⟩), (.int .i64 0), (.int .i64 0), (.int .i64 0), (.int .i64 0), (.int .i64 0), (.int .i64 0), (.int .i64 0), (.int .i64 0)] [], none⟩,
    ⟨none, .store 12 (.t 2) (.t 35), none⟩,
    ⟨(some 3), .mov (.c (.s (.int .i64 0))), none⟩] [2, 3])
  (.ret [2, 3]))
  .skip))
  (.seq (.seq (.ops [⟨(some 36), .mov (.t 7), none⟩,
    ⟨(some 37), .bin .eql (.t 36) (.c (.s (.int .u8 73))), none⟩,
    ⟨(some 38), .mov (.t 37), none⟩,
    ⟨(some 39), .mov (.t 7), (some (38, false))⟩,
    ⟨(some 40), .bin .eql (.t 39) (.c (.s (.int .u8 75))), (some (38, false))⟩,
    ⟨(some 41), .pick (.t 38) (.c (.s (.bool true))) (.t 40), none⟩,
    ⟨(some 42), .mov (.t 41), none⟩,
    ⟨(some 43), .mov (.t 7), (some (42, false))⟩,
    ⟨(some 44), .bin .eql (.t 43) (.c (.s (.int .u8 74))), (some (42, false))⟩,
    ⟨(some 45), .pick (.t 42) (.c (.s (.bool true))) (.t 44), none⟩] [0, 2, 4, 5, 7, 21, 22, 23, 45])
  (.cond (.t 45) (.seq (.ops [⟨(some 46), .mov (.t 0), none⟩,
    ⟨(some 47), .mov (.t 5), none⟩,
    ⟨(some 48), .iad 5 1 (.t 46) (.t 47), none⟩,
    ⟨(some 49), .load false 1 (.t 48), none⟩,
    ⟨(some 50), .toi .i64 (.t 49), none⟩,
    ⟨(some 8), .mov (.t 50), none⟩] [0, 2, 4, 5, 7, 8, 21, 22, 23])
  (.seq (.seq (.ops [⟨(some 51), .mov (.t 5), none⟩,
    ⟨(some 52), .bin .add (.t 51) (.c (.s (.int .i64 1))), none⟩,
    ⟨(some 53), .mov (.t 8), none⟩,
    ⟨(some 54), .bin .add (.t 52) (.t 53), none⟩,
    ⟨(some 55), .mov (.t 0), none⟩,
    ⟨(some 56), .len (.t 55), none⟩,
    ⟨(some 57), .bin .gtr (.t 54) (.t 56), none⟩] [0, 2, 4, 5, 7, 8, 21, 22, 23, 57])
  (.cond (.t 57) (.seq (.ops [⟨(some 58), .build [(.int .i64 0), (.str ⟨#[]⟩), (.str ⟨#[]⟩), (.str ⟨#[]⟩), (.int .i64 0), (.int .i64 0), (.int .i64 0), (.int .i64 0), (.int .i64 0), (.int .i64 0), (.int .i64 0), (.int .i64 0)] [], none⟩,
    ⟨none, .store 12 (.t 2) (.t 58), none⟩,
    ⟨(some 3), .mov (.c (.s (.int .i64 0))), none⟩] [2, 3])
  (.ret [2, 3]))
  .skip))
  (.seq (.ops [⟨(some 59), .mov (.t 0), none⟩,
    ⟨(some 60), .mov (.t 5), none⟩,
    ⟨(some 61), .bin .add (.t 60) (.c (.s (.int .i64 1))), none⟩,
    ⟨(some 62), .mov (.t 5), none⟩,
    ⟨(some 63), .bin .add (.t 62) (.c (.s (.int .i64 1))), none⟩,
    ⟨(some 64), .mov (.t 8), none⟩,
    ⟨(some 65), .bin .add (.t 63) (.t 64), none⟩,
    ⟨(some 66), .sli 5 1 (.t 59) (some (.t 61)) (some (.t 65)), none⟩,
    ⟨(some 67), .b2s 5 (.t 66), none⟩,
    ⟨(some 9), .mov (.t 67), none⟩] [0, 2, 4, 5, 7, 8, 9, 21, 22, 23])
  (.seq (.seq (.ops [⟨(some 68), .mov (.t 7), none⟩] [0, 2, 4, 5, 8, 9, 21, 22, 23, 68])
  (.block 2 (.seq (.ops [⟨(some 72), .bin .eql (.t 68) (.c (.s (.int .u8 73))), none⟩,
    ⟨(some 71), .mov (.t 72), none⟩] [0, 2, 4, 5, 8, 9, 21, 22, 23, 68, 71])
  (.cond (.t 71) (.ops [⟨(some 73), .mov (.t 9), none⟩,
    ⟨(some 74), .fad 1 (.t 4), none⟩,
    ⟨none, .store 1 (.t 74) (.t 73), none⟩] [0, 2, 4, 5, 8, 21, 22, 23])
  (.seq (.ops [⟨(some 76), .bin .eql (.t 68) (.c (.s (.int .u8 75))), none⟩,
    ⟨(some 75), .mov (.t 76), none⟩] [0, 2, 4, 5, 8, 9, 21, 22, 23, 75])
  (.cond (.t 75) (.ops [⟨(some 77), .mov (.t 9), none⟩,
    ⟨(some 78), .fad 2 (.t 4), none⟩,
    ⟨none, .store 1 (.t 78) (.t 77), none⟩] [0, 2, 4, 5, 8, 21, 22, 23])
  (.ops [⟨(some 69), .mov (.t 9), none⟩,
    ⟨(some 70), .fad 3 (.t 4), none⟩,
    ⟨none, .store 1 (.t 70) (.t 69), none⟩] [0, 2, 4, 5, 8, 21, 22, 23])))))))
  (.seq (.ops [⟨(some 79), .mov (.t 5), none⟩,
    ⟨(some 80), .mov (.t 8), none⟩,
    ⟨(some 81), .bin .add (.c (.s (.int .i64 1))) (.t 80), none⟩,
    ⟨(some 82), .bin .add (.t 79) (.t 81), none⟩,
    ⟨(some 5), .mov (.t 82), none⟩] [0, 2, 4, 5, 21, 22, 23])
  (.exit 1 [0, 2, 4, 5, 21, 22, 23]))))))
  .skip))
  (.seq (.seq (.ops [⟨(some 83), .mov (.t 5), none⟩,
    ⟨(some 84), .bin .add (.t 83) (.c (.s (.int .i64 8))), none⟩,
    ⟨(some 85), .mov (.t 0), none⟩,
    ⟨(some 86), .len (.t 85), none⟩,
    ⟨(some 87), .bin .gtr (.t 84) (.t 86), none⟩] [0, 2, 4, 5, 7, 21, 22, 23, 87])
  (.cond (.t 87) (.seq (.ops [⟨(some 88), .build [(.int .i64 0), (.str ⟨#[]⟩), (.str ⟨#[]⟩), (.str ⟨#[]⟩), (.int .i64 0), (.int .i64 0), (.int .i64 0), (.int .i64 0), (.int .i64 0), (.int .i64 0), (.int .i64 0), (.int .i64 0)] [], none⟩,
    ⟨none, .store 12 (.t 2) (.t 88), none⟩,
    ⟨(some 3), .mov (.c (.s (.int .i64 0))), none⟩] [2, 3])
  (.ret [2, 3]))
  .skip))
  (.seq (.ops [⟨(some 10), .mov (.c (.s (.int .u64 0))), none⟩] [0, 2, 4, 5, 7, 10, 21, 22, 23])
  (.seq (.seq (.ops [⟨(some 11), .mov (.c (.s (.int .i64 0))), none⟩] [0, 2, 4, 5, 7, 10, 11, 21, 22, 23])
  (.block 3 (.loop [0, 2, 4, 5, 7, 10, 11, 21, 22, 23] l32_0)))
  (.seq (.ops [⟨(some 103), .mov (.t 10), none⟩,
    ⟨(some 104), .toi .i64 (.t 103), none⟩,
    ⟨(some 12), .mov (.t 104), none⟩] [0, 2, 4, 5, 7, 12, 21, 22, 23])
  (.seq (.seq (.ops [⟨(some 105), .mov (.t 7), none⟩] [0, 2, 4, 5, 12, 21, 22, 23, 105])
  (.block 5 (.seq (.ops [⟨(some 109), .bin .eql (.t 105) (.c (.s (.int .u8 67))), none⟩,
    ⟨(some 108), .mov (.t 109), none⟩] [0, 2, 4, 5, 12, 21, 22, 23, 105, 108])
  (.cond (.t 108) (.ops [⟨(some 110), .mov (.t 12), none⟩,
    ⟨(some 111), .fad 4 (.t 4), none⟩,
    ⟨none, .store 1 (.t 111) (.t 110), none⟩] [0, 2, 4, 5, 21, 22, 23])
  (.seq (.ops [⟨(some 113), .bin .eql (.t 105) (.c (.s (.int .u8 68))), none⟩,
    ⟨(some 112), .mov (.t 113), none⟩] [0, 2, 4, 5, 12, 21, 22, 23, 105, 112])
  (.cond (.t 112) (.ops [⟨(some 114), .mov (.t 12), none⟩,
    ⟨(some 115), .fad 5 (.t 4), none⟩,
    ⟨none, .store 1 (.t 115) (.t 114), none⟩] [0, 2, 4, 5, 21, 22, 23])
  (.seq (.ops [⟨(some 117), .bin .eql (.t 105) (.c (.s (.int .u8 89))), none⟩,
    ⟨(some 116), .mov (.t 117), none⟩] [0, 2, 4, 5, 12, 21, 22, 23, 105, 116])
  (.cond (.t 116) (.ops [⟨(some 118), .mov (.t 12), none⟩,
    ⟨(some 119), .fad 6 (.t 4), none⟩,
    ⟨none, .store 1 (.t 119) (.t 118), none⟩] [0, 2, 4, 5, 21, 22, 23])
  (.seq (.ops [⟨(some 121), .bin .eql (.t 105) (.c (.s (.int .u8 90))), none⟩,
    ⟨(some 120), .mov (.t 121), none⟩] [0, 2, 4, 5, 12, 21, 22, 23, 105, 120])
  (.cond (.t 120) (.ops [⟨(some 122), .mov (.t 12), none⟩,
    ⟨(some 123), .fad 7 (.t 4), none⟩,
    ⟨none, .store 1 (.t 123) (.t 122), none⟩] [0, 2, 4, 5, 21, 22, 23])
  (.seq (.ops [⟨(some 125), .bin .eql (.t 105) (.c (.s (.int .u8 80))), none⟩,
    ⟨(some 124), .mov (.t 125), none⟩] [0, 2, 4, 5, 12, 21, 22, 23, 105, 124])
  (.cond (.t 124) (.ops [⟨(some 126), .mov (.t 12), none⟩,
    ⟨(some 127), .fad 8 (.t 4), none⟩,
    ⟨none, .store 1 (.t 127) (.t 126), none⟩] [0, 2, 4, 5, 21, 22, 23])
  (.seq (.ops [⟨(some 129), .bin .eql (.t 105) (.c (.s (.int .u8 65))), none⟩,
    ⟨(some 128), .mov (.t 129), none⟩] [0, 2, 4, 5, 12, 21, 22, 23, 105, 128])
  (.cond (.t 128) (.ops [⟨(some 130), .mov (.t 12), none⟩,
    ⟨(some 131), .fad 9 (.t 4), none⟩,
    ⟨none, .store 1 (.t 131) (.t 130), none⟩] [0, 2, 4, 5, 21, 22, 23])
  (.seq (.ops [⟨(some 133), .bin .eql (.t 105) (.c (.s (.int .u8 82))), none⟩,
    ⟨(some 132), .mov (.t 133), none⟩] [0, 2, 4, 5, 12, 21, 22, 23, 132])
  (.cond (.t 132) (.ops [⟨(some 134), .mov (.t 12), none⟩,
    ⟨(some 135), .fad 10 (.t 4), none⟩,
    ⟨none, .store 1 (.t 135) (.t 134), none⟩] [0, 2, 4, 5, 21, 22, 23])
  (.ops [⟨(some 106), .mov (.t 12), none⟩,
    ⟨(some 107), .fad 11 (.t 4), none⟩,
    ⟨none, .store 1 (.t 107) (.t 106), none⟩] [0, 2, 4, 5, 21, 22, 23])))))))))))))))))
  (.ops [⟨(some 136), .mov (.t 5), none⟩,
    ⟨(some 137), .bin .add (.t 136) (.c (.s (.int .i64 8))), none⟩,
    ⟨(some 5), .mov (.t 137), none⟩] [0, 2, 4, 5, 21, 22, 23]))))))))))
  (.ops [⟨(some 138), .bin .add (.t 23) (.c (.s (.int .i64 1))), none⟩,
    ⟨(some 23), .mov (.t 138), none⟩] [0, 2, 4, 5, 21, 22, 23]))
def l32_1_1 : EC := (.seq (.cond (.t 24) .skip
  (.exit 0 [2, 4, 5]))
  l32_1_2)
def l32_1 : EC := (.seq (.ops [⟨(some 24), .bin .lss (.t 23) (.t 22), none⟩] [0, 2, 4, 5, 21, 22, 23, 24])
  l32_1_1)
def s32_5 : EC := (.seq (.ops [⟨(some 143), .load true 12 (.t 4), none⟩,
    ⟨(some 144), .mov (.t 5), none⟩,
    ⟨none, .store 12 (.t 2) (.t 143), none⟩,
    ⟨(some 3), .mov (.t 144), none⟩] [2, 3])
  (.ret [2, 3]))
def s32_4 : EC := (.seq (.seq (.ops [⟨(some 139), .load true 12 (.t 4), none⟩,
    ⟨(some 140), .call 17 [(.t 139)], none⟩,
    ⟨(some 141), .un .not (.t 140), none⟩] [2, 4, 5, 141])
  (.cond (.t 141) (.seq (.ops [⟨(some 142), .build [(.int .i64 0), (.str ⟨#[]⟩), (.str ⟨#[]⟩), (.str ⟨#[]⟩), (.int .i64 0), (.int .i64 0), (.int .i64 0), (.int .i64 0), (.int .i64 0), (.int .i64 0), (.int .i64 0), (.int .i64 0)] [], none⟩,
    ⟨none, .store 12 (.t 2) (.t 142), none⟩,
    ⟨(some 3), .mov (.c (.s (.int .i64 0))), none⟩] [2, 3])
  (.ret [2, 3]))
  .skip))
  s32_5)
def s32_3 : EC := (.seq (.seq (.ops [⟨(some 18), .fad 0 (.t 4), none⟩,
    ⟨(some 19), .load false 1 (.t 18), none⟩,
    ⟨(some 20), .call 29 [(.t 19)], none⟩,
    ⟨(some 21), .s2b 5 (.t 20), none⟩,
    ⟨(some 22), .len (.t 21), none⟩,
    ⟨(some 23), .mov (.c (.s (.int .i64 0))), none⟩] [0, 2, 4, 5, 21, 22, 23])
  (.block 0 (.loop [0, 2, 4, 5, 21, 22, 23] l32_1)))
  s32_4)
def s32_2 : EC := (.seq (.ops [⟨(some 5), .mov (.c (.s (.int .i64 1))), none⟩] [0, 2, 4, 5])
  s32_3)
def s32_1 : EC := (.seq (.ops [⟨(some 13), .mov (.t 0), none⟩,
    ⟨(some 14), .iad 5 1 (.t 13) (.c (.s (.int .i64 0))), none⟩,
    ⟨(some 15), .load false 1 (.t 14), none⟩,
    ⟨(some 16), .toi .i64 (.t 15), none⟩,
    ⟨(some 17), .build [(.int .i64 0), (.str ⟨#[]⟩), (.str ⟨#[]⟩), (.str ⟨#[]⟩), (.int .i64 0), (.int .i64 0), (.int .i64 0), (.int .i64 0), (.int .i64 0), (.int .i64 0), (.int .i64 0), (.int .i64 0)] [(0, 1, (.t 16))], none⟩,
    ⟨(some 4), .new 23 12 (.c (.agg [(.int .i64 0), (.str ⟨#[]⟩), (.str ⟨#[]⟩), (.str ⟨#[]⟩), (.int .i64 0), (.int .i64 0), (.int .i64 0), (.int .i64 0), (.int .i64 0), (.int .i64 0), (.int .i64 0), (.int .i64 0)])), none⟩,
    ⟨none, .store 12 (.t 4) (.t 17), none⟩] [0, 2, 4])
  s32_2)
def b32 : EC := (.seq (.ops [⟨(some 2), .new 23 12 (.c (.agg [(.int .i64 0), (.str ⟨#[]⟩), (.str ⟨#[]⟩), (.str ⟨#[]⟩), (.int .i64 0), (.int .i64 0), (.int .i64 0), (.int .i64 0), (.int .i64 0), (.int .i64 0), (.int .i64 0), (.int .i64 0)])), none⟩,
    ⟨(some 3), .mov (.c (.s (.int .i64 0))), none⟩] [0, 2])
  s32_1)
def e32 : EF := ⟨145, b32, [.cell 2 true 12, .tmp 3]⟩

/-- scutage/group.Fields -/
def h33 : List (List Nat) := [[0], [3], [3, 4], [2], [2], [3, 6], [2], [2], [3, 8], [3, 8], [2], [2], [3, 11], [2], [2], [3, 13], [2], [2], [3, 15], [2], [2], [3, 17], [2], [2], [3, 19], [2], [2], [3, 21], [2], [2], [3, 23], [23], [2], [2], [2], [2]]
def s33_2 : EC := (.seq (.ops [⟨(some 2), .mov (.c (.s (.str ⟨#[63]⟩))), none⟩] [2])
  (.ret [2]))
def s33_1 : EC := (.seq (.seq (.ops [⟨(some 3), .mov (.t 0), none⟩] [3])
  (.block 0 (.seq (.ops [⟨(some 5), .bin .eql (.t 3) (.c (.s (.int .i64 1))), none⟩,
    ⟨(some 4), .mov (.t 5), none⟩] [3, 4])
  (.cond (.t 4) (.seq (.ops [⟨(some 2), .mov (.c (.s (.str ⟨#[74, 89, 82, 80]⟩))), none⟩] [2])
  (.ret [2]))
  (.seq (.ops [⟨(some 7), .bin .eql (.t 3) (.c (.s (.int .i64 2))), none⟩,
    ⟨(some 6), .mov (.t 7), none⟩] [3, 6])
  (.cond (.t 6) (.seq (.ops [⟨(some 2), .mov (.c (.s (.str ⟨#[73, 74, 82, 89, 80, 70]⟩))), none⟩] [2])
  (.ret [2]))
  (.seq (.seq (.ops [⟨(some 9), .bin .eql (.t 3) (.c (.s (.int .i64 3))), none⟩,
    ⟨(some 8), .mov (.t 9), none⟩] [3, 8])
  (.cond (.t 8) .skip
  (.ops [⟨(some 10), .bin .eql (.t 3) (.c (.s (.int .i64 4))), none⟩,
    ⟨(some 8), .mov (.t 10), none⟩] [3, 8])))
  (.cond (.t 8) (.seq (.ops [⟨(some 2), .mov (.c (.s (.str ⟨#[73, 65]⟩))), none⟩] [2])
  (.ret [2]))
  (.seq (.ops [⟨(some 12), .bin .eql (.t 3) (.c (.s (.int .i64 5))), none⟩,
    ⟨(some 11), .mov (.t 12), none⟩] [3, 11])
  (.cond (.t 11) (.seq (.ops [⟨(some 2), .mov (.c (.s (.str ⟨#[73, 67, 89, 65]⟩))), none⟩] [2])
  (.ret [2]))
  (.seq (.ops [⟨(some 14), .bin .eql (.t 3) (.c (.s (.int .i64 6))), none⟩,
    ⟨(some 13), .mov (.t 14), none⟩] [3, 13])
  (.cond (.t 13) (.seq (.ops [⟨(some 2), .mov (.c (.s (.str ⟨#[73, 67, 89, 68, 90, 65]⟩))), none⟩] [2])
  (.ret [2]))
  (.seq (.ops [⟨(some 16), .bin .eql (.t 3) (.c (.s (.int .i64 7))), none⟩,
    ⟨(some 15), .mov (.t 16), none⟩] [3, 15])
  (.cond (.t 15) (.seq (.ops [⟨(some 2), .mov (.c (.s (.str ⟨#[73, 82]⟩))), none⟩] [2])
  (.ret [2]))
  (.seq (.ops [⟨(some 18), .bin .eql (.t 3) (.c (.s (.int .i64 8))), none⟩,
    ⟨(some 17), .mov (.t 18), none⟩] [3, 17])
  (.cond (.t 17) (.seq (.ops [⟨(some 2), .mov (.c (.s (.str ⟨#[73, 82, 89]⟩))), none⟩] [2])
  (.ret [2]))
  (.seq (.ops [⟨(some 20), .bin .eql (.t 3) (.c (.s (.int .i64 9))), none⟩,
    ⟨(some 19), .mov (.t 20), none⟩] [3, 19])
  (.cond (.t 19) (.seq (.ops [⟨(some 2), .mov (.c (.s (.str ⟨#[73, 80, 65]⟩))), none⟩] [2])
  (.ret [2]))
  (.seq (.ops [⟨(some 22), .bin .eql (.t 3) (.c (.s (.int .i64 10))), none⟩,
    ⟨(some 21), .mov (.t 22), none⟩] [3, 21])
  (.cond (.t 21) (.seq (.ops [⟨(some 2), .mov (.c (.s (.str ⟨#[73, 75, 65]⟩))), none⟩] [2])
  (.ret [2]))
  (.seq (.seq (.ops [⟨(some 24), .bin .eql (.t 3) (.c (.s (.int .i64 11))), none⟩,
    ⟨(some 23), .mov (.t 24), none⟩] [3, 23])
  (.cond (.t 23) .skip
  (.ops [⟨(some 25), .bin .eql (.t 3) (.c (.s (.int .i64 12))), none⟩,
    ⟨(some 23), .mov (.t 25), none⟩] [23])))
  (.cond (.t 23) (.seq (.ops [⟨(some 2), .mov (.c (.s (.str ⟨#[73]⟩))), none⟩] [2])
  (.ret [2]))
  .skip))))))))))))))))))))))
  s33_2)
def b33 : EC := (.seq (.ops [⟨(some 2), .mov (.c (.s (.str ⟨#[]⟩))), none⟩] [0])
  s33_1)
def e33 : EF := ⟨26, b33, [.tmp 2]⟩

/-- scutage/wire.word -/
def h38 : List (List Nat) := [[0, 1], [0, 5], [0, 5, 6], [4], [4], [0, 5, 11], [4], [4], [0, 16], [4], [4], [4], [4]]
def s38_2 : EC := (.seq (.ops [⟨(some 4), .mov (.c (.s .nilp)), none⟩] [4])
  (.ret [4]))
def s38_1 : EC := (.seq (.seq (.ops [⟨(some 5), .mov (.t 1), none⟩] [0, 5])
  (.block 0 (.seq (.ops [⟨(some 7), .bin .eql (.t 5) (.c (.s (.int .i32 73))), none⟩,
    ⟨(some 6), .mov (.t 7), none⟩] [0, 5, 6])
  (.cond (.t 6) (.seq (.ops [⟨(some 8), .mov (.t 0), none⟩,
    ⟨(some 9), .nilc (.t 8), none⟩,
    ⟨(some 10), .fad 1 (.t 9), none⟩,
    ⟨(some 4), .mov (.t 10), none⟩] [4])
  (.ret [4]))
  (.seq (.ops [⟨(some 12), .bin .eql (.t 5) (.c (.s (.int .i32 75))), none⟩,
    ⟨(some 11), .mov (.t 12), none⟩] [0, 5, 11])
  (.cond (.t 11) (.seq (.ops [⟨(some 13), .mov (.t 0), none⟩,
    ⟨(some 14), .nilc (.t 13), none⟩,
    ⟨(some 15), .fad 2 (.t 14), none⟩,
    ⟨(some 4), .mov (.t 15), none⟩] [4])
  (.ret [4]))
  (.seq (.ops [⟨(some 17), .bin .eql (.t 5) (.c (.s (.int .i32 74))), none⟩,
    ⟨(some 16), .mov (.t 17), none⟩] [0, 16])
  (.cond (.t 16) (.seq (.ops [⟨(some 18), .mov (.t 0), none⟩,
    ⟨(some 19), .nilc (.t 18), none⟩,
    ⟨(some 20), .fad 3 (.t 19), none⟩,
    ⟨(some 4), .mov (.t 20), none⟩] [4])
  (.ret [4]))
  .skip))))))))
  s38_2)
def b38 : EC := (.seq (.ops [⟨(some 4), .mov (.c (.s .nilp)), none⟩] [0, 1])
  s38_1)
def e38 : EF := ⟨21, b38, [.tmp 4]⟩

/-- scutage/wire.text -/
def h39 : List (List Nat) := [[0], [2], [2]]
def s39_1 : EC := (.seq (.ops [⟨(some 3), .mov (.t 0), none⟩,
    ⟨(some 4), .slen (.t 3), none⟩,
    ⟨(some 5), .toi .u8 (.t 4), none⟩,
    ⟨(some 6), .bsl 5 1 [(.int .u8 0)] [(0, 1, (.t 5))], none⟩,
    ⟨(some 7), .mov (.t 0), none⟩,
    ⟨(some 8), .apps 5 1 (.t 6) (.t 7), none⟩,
    ⟨(some 2), .mov (.t 8), none⟩] [2])
  (.ret [2]))
def b39 : EC := (.seq (.ops [⟨(some 2), .mov (.c (.s .nils)), none⟩] [0])
  s39_1)
def e39 : EF := ⟨9, b39, [.tmp 2]⟩

/-- scutage/wire.number -/
def h40 : List (List Nat) := [[0], [0, 3], [0, 3, 4], [0, 3, 4], [0, 3, 4, 6], [3], [0, 3, 4], [0, 3, 4], [2], [2]]
def l40_0_1 : EC := (.seq (.block 1 (.ops [⟨(some 9), .mov (.t 3), none⟩,
    ⟨(some 10), .mov (.t 0), none⟩,
    ⟨(some 11), .mov (.t 4), none⟩,
    ⟨(some 12), .bin .shr (.t 10) (.t 11), none⟩,
    ⟨(some 13), .toi .u8 (.t 12), none⟩,
    ⟨(some 14), .bsl 5 1 [(.int .u8 0)] [(0, 1, (.t 13))], none⟩,
    ⟨(some 15), .app 5 1 1 (.t 9) (.t 14), none⟩,
    ⟨(some 3), .mov (.t 15), none⟩] [0, 3, 4]))
  (.ops [⟨(some 7), .mov (.t 4), none⟩,
    ⟨(some 8), .bin .sub (.t 7) (.c (.s (.int .i64 8))), none⟩,
    ⟨(some 4), .mov (.t 8), none⟩] [0, 3, 4]))
def l40_0 : EC := (.seq (.seq (.ops [⟨(some 5), .mov (.t 4), none⟩,
    ⟨(some 6), .bin .geq (.t 5) (.c (.s (.int .i64 0))), none⟩] [0, 3, 4, 6])
  (.cond (.t 6) .skip
  (.exit 0 [3])))
  l40_0_1)
def s40_3 : EC := (.seq (.ops [⟨(some 16), .mov (.t 3), none⟩,
    ⟨(some 2), .mov (.t 16), none⟩] [2])
  (.ret [2]))
def s40_2 : EC := (.seq (.seq (.ops [⟨(some 4), .mov (.c (.s (.int .i64 56))), none⟩] [0, 3, 4])
  (.block 0 (.loop [0, 3, 4] l40_0)))
  s40_3)
def s40_1 : EC := (.seq (.ops [⟨(some 3), .mov (.c (.s .nils)), none⟩] [0, 3])
  s40_2)
def b40 : EC := (.seq (.ops [⟨(some 2), .mov (.c (.s .nils)), none⟩] [0])
  s40_1)
def e40 : EF := ⟨17, b40, [.tmp 2]⟩

/-- scutage/wire.place -/
def h41 : List (List Nat) := [[0, 1], [0, 5], [0, 5, 6], [4], [4], [0, 5, 11], [4], [4], [0, 5, 16], [4], [4], [0, 5, 21], [4], [4], [0, 5, 26], [4], [4], [0, 5, 31], [4], [4], [0, 36], [4], [4], [4], [4]]
def s41_2 : EC := (.seq (.ops [⟨(some 41), .mov (.t 0), none⟩,
    ⟨(some 42), .nilc (.t 41), none⟩,
    ⟨(some 43), .fad 11 (.t 42), none⟩,
    ⟨(some 4), .mov (.t 43), none⟩] [4])
  (.ret [4]))
def s41_1 : EC := (.seq (.seq (.ops [⟨(some 5), .mov (.t 1), none⟩] [0, 5])
  (.block 0 (.seq (.ops [⟨(some 7), .bin .eql (.t 5) (.c (.s (.int .i32 67))), none⟩,
    ⟨(some 6), .mov (.t 7), none⟩] [0, 5, 6])
  (.cond (.t 6) (.seq (.ops [⟨(some 8), .mov (.t 0), none⟩,
    ⟨(some 9), .nilc (.t 8), none⟩,
    ⟨(some 10), .fad 4 (.t 9), none⟩,
    ⟨(some 4), .mov (.t 10), none⟩] [4])
  (.ret [4]))
  (.seq (.ops [⟨(some 12), .bin .eql (.t 5) (.c (.s (.int .i32 68))), none⟩,
    ⟨(some 11), .mov (.t 12), none⟩] [0, 5, 11])
  (.cond (.t 11) (.seq (.ops [⟨(some 13), .mov (.t 0), none⟩,
    ⟨(some 14), .nilc (.t 13), none⟩,
    ⟨(some 15), .fad 5 (.t 14), none⟩,
    ⟨(some 4), .mov (.t 15), none⟩] [4])
  (.ret [4]))
  (.seq (.ops [⟨(some 17), .bin .eql (.t 5) (.c (.s (.int .i32 89))), none⟩,
    ⟨(some 16), .mov (.t 17), none⟩] [0, 5, 16])
  (.cond (.t 16) (.seq (.ops [⟨(some 18), .mov (.t 0), none⟩,
    ⟨(some 19), .nilc (.t 18), none⟩,
    ⟨(some 20), .fad 6 (.t 19), none⟩,
    ⟨(some 4), .mov (.t 20), none⟩] [4])
  (.ret [4]))
  (.seq (.ops [⟨(some 22), .bin .eql (.t 5) (.c (.s (.int .i32 90))), none⟩,
    ⟨(some 21), .mov (.t 22), none⟩] [0, 5, 21])
  (.cond (.t 21) (.seq (.ops [⟨(some 23), .mov (.t 0), none⟩,
    ⟨(some 24), .nilc (.t 23), none⟩,
    ⟨(some 25), .fad 7 (.t 24), none⟩,
    ⟨(some 4), .mov (.t 25), none⟩] [4])
  (.ret [4]))
  (.seq (.ops [⟨(some 27), .bin .eql (.t 5) (.c (.s (.int .i32 80))), none⟩,
    ⟨(some 26), .mov (.t 27), none⟩] [0, 5, 26])
  (.cond (.t 26) (.seq (.ops [⟨(some 28), .mov (.t 0), none⟩,
    ⟨(some 29), .nilc (.t 28), none⟩,
    ⟨(some 30), .fad 8 (.t 29), none⟩,
    ⟨(some 4), .mov (.t 30), none⟩] [4])
  (.ret [4]))
  (.seq (.ops [⟨(some 32), .bin .eql (.t 5) (.c (.s (.int .i32 65))), none⟩,
    ⟨(some 31), .mov (.t 32), none⟩] [0, 5, 31])
  (.cond (.t 31) (.seq (.ops [⟨(some 33), .mov (.t 0), none⟩,
    ⟨(some 34), .nilc (.t 33), none⟩,
    ⟨(some 35), .fad 9 (.t 34), none⟩,
    ⟨(some 4), .mov (.t 35), none⟩] [4])
  (.ret [4]))
  (.seq (.ops [⟨(some 37), .bin .eql (.t 5) (.c (.s (.int .i32 82))), none⟩,
    ⟨(some 36), .mov (.t 37), none⟩] [0, 36])
  (.cond (.t 36) (.seq (.ops [⟨(some 38), .mov (.t 0), none⟩,
    ⟨(some 39), .nilc (.t 38), none⟩,
    ⟨(some 40), .fad 10 (.t 39), none⟩,
    ⟨(some 4), .mov (.t 40), none⟩] [4])
  (.ret [4]))
  .skip))))))))))))))))
  s41_2)
def b41 : EC := (.seq (.ops [⟨(some 4), .mov (.c (.s .nilp)), none⟩] [0, 1])
  s41_1)
def e41 : EF := ⟨44, b41, [.tmp 4]⟩

/-- (*scutage/wire.reader).count -/
def h42 : List (List Nat) := [[0, 1], [0, 1, 5], [5, 10, 11, 12], [5, 10, 11, 12], [5, 10, 11, 12, 13], [5], [5, 7, 10, 11, 12], [5, 10, 11, 12], [5, 10, 11, 12], [4], [4]]
def l42_0_2 : EC := (.seq (.block 1 (.seq (.ops [⟨(some 14), .iad 5 1 (.t 10) (.t 12), none⟩,
    ⟨(some 15), .load false 1 (.t 14), none⟩,
    ⟨(some 7), .mov (.t 15), none⟩] [5, 7, 10, 11, 12])
  (.ops [⟨(some 16), .mov (.t 5), none⟩,
    ⟨(some 17), .bin .shl (.t 16) (.c (.s (.int .u64 8))), none⟩,
    ⟨(some 18), .mov (.t 7), none⟩,
    ⟨(some 19), .toi .u64 (.t 18), none⟩,
    ⟨(some 20), .bin .or (.t 17) (.t 19), none⟩,
    ⟨(some 5), .mov (.t 20), none⟩] [5, 10, 11, 12])))
  (.ops [⟨(some 21), .bin .add (.t 12) (.c (.s (.int .i64 1))), none⟩,
    ⟨(some 12), .mov (.t 21), none⟩] [5, 10, 11, 12]))
def l42_0_1 : EC := (.seq (.cond (.t 13) .skip
  (.exit 0 [5]))
  l42_0_2)
def l42_0 : EC := (.seq (.ops [⟨(some 13), .bin .lss (.t 12) (.t 11), none⟩] [5, 10, 11, 12, 13])
  l42_0_1)
def s42_3 : EC := (.seq (.ops [⟨(some 22), .mov (.t 5), none⟩,
    ⟨(some 23), .toi .i64 (.t 22), none⟩,
    ⟨(some 4), .mov (.t 23), none⟩] [4])
  (.ret [4]))
def s42_2 : EC := (.seq (.seq (.ops [⟨(some 8), .mov (.t 0), none⟩,
    ⟨(some 9), .mov (.t 1), none⟩,
    ⟨(some 10), .call 43 [(.t 8), (.t 9)], none⟩,
    ⟨(some 11), .len (.t 10), none⟩,
    ⟨(some 12), .mov (.c (.s (.int .i64 0))), none⟩] [5, 10, 11, 12])
  (.block 0 (.loop [5, 10, 11, 12] l42_0)))
  s42_3)
def s42_1 : EC := (.seq (.ops [⟨(some 5), .mov (.c (.s (.int .u64 0))), none⟩] [0, 1, 5])
  s42_2)
def b42 : EC := (.seq (.ops [⟨(some 4), .mov (.c (.s (.int .i64 0))), none⟩] [0, 1])
  s42_1)
def e42 : EF := ⟨24, b42, [.tmp 4]⟩

/-- (*scutage/wire.reader).take -/
def h43 : List (List Nat) := [[0, 1], [0, 1, 18], [], [4], [4], [0, 1, 5], [5], [4], [4]]
def s43_4 : EC := (.seq (.ops [⟨(some 37), .mov (.t 5), none⟩,
    ⟨(some 4), .mov (.t 37), none⟩] [4])
  (.ret [4]))
def s43_3 : EC := (.seq (.ops [⟨(some 28), .mov (.t 0), none⟩,
    ⟨(some 29), .mov (.t 0), none⟩,
    ⟨(some 30), .nilc (.t 29), none⟩,
    ⟨(some 31), .fad 0 (.t 30), none⟩,
    ⟨(some 32), .load false 1 (.t 31), none⟩,
    ⟨(some 33), .mov (.t 1), none⟩,
    ⟨(some 34), .sli 5 1 (.t 32) (some (.t 33)) none, none⟩,
    ⟨(some 35), .nilc (.t 28), none⟩,
    ⟨(some 36), .fad 0 (.t 35), none⟩,
    ⟨none, .store 1 (.t 36) (.t 34), none⟩] [5])
  s43_4)
def s43_2 : EC := (.seq (.ops [⟨(some 22), .mov (.t 0), none⟩,
    ⟨(some 23), .nilc (.t 22), none⟩,
    ⟨(some 24), .fad 0 (.t 23), none⟩,
    ⟨(some 25), .load false 1 (.t 24), none⟩,
    ⟨(some 26), .mov (.t 1), none⟩,
    ⟨(some 27), .sli 5 1 (.t 25) none (some (.t 26)), none⟩,
    ⟨(some 5), .mov (.t 27), none⟩] [0, 1, 5])
  s43_3)
def s43_1 : EC := (.seq (.seq (.ops [⟨(some 6), .mov (.t 0), none⟩,
    ⟨(some 7), .nilc (.t 6), none⟩,
    ⟨(some 8), .fad 1 (.t 7), none⟩,
    ⟨(some 9), .load false 1 (.t 8), none⟩,
    ⟨(some 10), .mov (.t 9), none⟩,
    ⟨(some 11), .mov (.t 1), (some (10, false))⟩,
    ⟨(some 12), .mov (.t 0), (some (10, false))⟩,
    ⟨(some 13), .nilc (.t 12), (some (10, false))⟩,
    ⟨(some 14), .fad 0 (.t 13), (some (10, false))⟩,
    ⟨(some 15), .load false 1 (.t 14), (some (10, false))⟩,
    ⟨(some 16), .len (.t 15), (some (10, false))⟩,
    ⟨(some 17), .bin .gtr (.t 11) (.t 16), (some (10, false))⟩,
    ⟨(some 18), .pick (.t 10) (.c (.s (.bool true))) (.t 17), none⟩] [0, 1, 18])
  (.cond (.t 18) (.seq (.ops [⟨(some 19), .mov (.t 0), none⟩,
    ⟨(some 20), .nilc (.t 19), none⟩,
    ⟨(some 21), .fad 1 (.t 20), none⟩,
    ⟨none, .store 1 (.t 21) (.c (.s (.bool true))), none⟩] [])
  (.seq (.ops [⟨(some 4), .mov (.c (.s .nils)), none⟩] [4])
  (.ret [4])))
  .skip))
  s43_2)
def b43 : EC := (.seq (.ops [⟨(some 4), .mov (.c (.s .nils)), none⟩] [0, 1])
  s43_1)
def e43 : EF := ⟨38, b43, [.tmp 4]⟩

/-- scutage/scutageplay.id -/
def h44 : List (List Nat) := [[0], [2], [2]]
def s44_1 : EC := (.seq (.ops [⟨(some 3), .bsl 9 5 [(.str ⟨#[]⟩)] [(0, 1, (.c (.s (.str ⟨#[97]⟩)))), (1, 1, (.c (.s (.str ⟨#[98]⟩)))), (2, 1, (.c (.s (.str ⟨#[99]⟩)))), (3, 1, (.c (.s (.str ⟨#[100]⟩)))), (4, 1, (.c (.s (.str ⟨#[101]⟩))))], none⟩,
    ⟨(some 4), .mov (.t 0), none⟩,
    ⟨(some 5), .call 18 [(.t 4), (.c (.s (.int .i64 5)))], none⟩,
    ⟨(some 6), .iad 9 1 (.t 3) (.t 5), none⟩,
    ⟨(some 7), .load false 1 (.t 6), none⟩,
    ⟨(some 2), .mov (.t 7), none⟩] [2])
  (.ret [2]))
def b44 : EC := (.seq (.ops [⟨(some 2), .mov (.c (.s (.str ⟨#[]⟩))), none⟩] [0])
  s44_1)
def e44 : EF := ⟨8, b44, [.tmp 2]⟩

/-- (*scutage/scutageref19.Group).At -/
def h45 : List (List Nat) := [[0, 1], [1, 10, 11, 12], [1, 10, 11, 12], [1, 10, 11, 12, 13], [], [1, 6, 10, 11, 12], [1, 6, 10, 11, 12, 21], [4], [4], [1, 10, 11, 12], [4], [4]]
def l45_0_2 : EC := (.seq (.block 1 (.seq (.ops [⟨(some 14), .iad 99 1 (.t 10) (.t 12), none⟩,
    ⟨(some 15), .load false 1 (.t 14), none⟩,
    ⟨(some 6), .mov (.t 15), none⟩] [1, 6, 10, 11, 12])
  (.seq (.ops [⟨(some 16), .mov (.t 6), none⟩,
    ⟨(some 17), .nilc (.t 16), none⟩,
    ⟨(some 18), .fad 0 (.t 17), none⟩,
    ⟨(some 19), .load false 1 (.t 18), none⟩,
    ⟨(some 20), .mov (.t 1), none⟩,
    ⟨(some 21), .bin .eql (.t 19) (.t 20), none⟩] [1, 6, 10, 11, 12, 21])
  (.cond (.t 21) (.seq (.ops [⟨(some 22), .mov (.t 6), none⟩,
    ⟨(some 4), .mov (.t 22), none⟩] [4])
  (.ret [4]))
  .skip))))
  (.ops [⟨(some 23), .bin .add (.t 12) (.c (.s (.int .i64 1))), none⟩,
    ⟨(some 12), .mov (.t 23), none⟩] [1, 10, 11, 12]))
def l45_0_1 : EC := (.seq (.cond (.t 13) .skip
  (.exit 0 []))
  l45_0_2)
def l45_0 : EC := (.seq (.ops [⟨(some 13), .bin .lss (.t 12) (.t 11), none⟩] [1, 10, 11, 12, 13])
  l45_0_1)
def s45_2 : EC := (.seq (.ops [⟨(some 4), .mov (.c (.s .nilp)), none⟩] [4])
  (.ret [4]))
def s45_1 : EC := (.seq (.seq (.ops [⟨(some 7), .mov (.t 0), none⟩,
    ⟨(some 8), .nilc (.t 7), none⟩,
    ⟨(some 9), .fad 2 (.t 8), none⟩,
    ⟨(some 10), .load false 1 (.t 9), none⟩,
    ⟨(some 11), .len (.t 10), none⟩,
    ⟨(some 12), .mov (.c (.s (.int .i64 0))), none⟩] [1, 10, 11, 12])
  (.block 0 (.loop [1, 10, 11, 12] l45_0)))
  s45_2)
def b45 : EC := (.seq (.ops [⟨(some 4), .mov (.c (.s .nilp)), none⟩] [0, 1])
  s45_1)
def e45 : EF := ⟨24, b45, [.tmp 4]⟩

/-- (*scutage/scutageref01.Status).Open -/
def h46 : List (List Nat) := [[0], [0, 9], [2, 3], [2, 3], [2, 3], [2, 3]]
def s46_2 : EC := (.seq (.ops [⟨(some 10), .mov (.t 0), none⟩,
    ⟨(some 11), .nilc (.t 10), none⟩,
    ⟨(some 12), .fad 1 (.t 11), none⟩,
    ⟨(some 13), .load false 1 (.t 12), none⟩,
    ⟨(some 2), .mov (.t 13), none⟩,
    ⟨(some 3), .mov (.c (.s (.bool true))), none⟩] [2, 3])
  (.ret [2, 3]))
def s46_1 : EC := (.seq (.seq (.ops [⟨(some 4), .mov (.t 0), none⟩,
    ⟨(some 5), .nilc (.t 4), none⟩,
    ⟨(some 6), .fad 1 (.t 5), none⟩,
    ⟨(some 7), .load false 1 (.t 6), none⟩,
    ⟨(some 8), .call 52 [(.t 7)], none⟩,
    ⟨(some 9), .un .not (.t 8), none⟩] [0, 9])
  (.cond (.t 9) (.seq (.ops [⟨(some 2), .mov (.c (.s (.int .i64 0))), none⟩,
    ⟨(some 3), .mov (.c (.s (.bool false))), none⟩] [2, 3])
  (.ret [2, 3]))
  .skip))
  s46_2)
def b46 : EC := (.seq (.ops [⟨(some 2), .mov (.c (.s (.int .i64 0))), none⟩,
    ⟨(some 3), .mov (.c (.s (.bool false))), none⟩] [0])
  s46_1)
def e46 : EF := ⟨14, b46, [.tmp 2, .tmp 3]⟩

/-- scutage/scutageplay.Amount -/
def h47 : List (List Nat) := [[0], [0, 4], [0, 4, 5], [2], [2], [0, 4, 12], [2], [2], [0, 4, 19], [2], [2], [0, 22], [2], [2], [2], [2]]
def s47_2 : EC := (.seq (.ops [⟨(some 28), .mov (.t 0), none⟩,
    ⟨(some 29), .call 18 [(.t 28), (.c (.s (.int .i64 4001)))], none⟩,
    ⟨(some 30), .bin .sub (.t 29) (.c (.s (.int .i64 2000))), none⟩,
    ⟨(some 2), .mov (.t 30), none⟩] [2])
  (.ret [2]))
def s47_1 : EC := (.seq (.seq (.ops [⟨(some 3), .mov (.t 0), none⟩,
    ⟨(some 4), .bin .rem (.t 3) (.c (.s (.int .i64 23))), none⟩] [0, 4])
  (.block 0 (.seq (.ops [⟨(some 6), .bin .eql (.t 4) (.c (.s (.int .i64 20))), none⟩,
    ⟨(some 5), .mov (.t 6), none⟩] [0, 4, 5])
  (.cond (.t 5) (.seq (.ops [⟨(some 7), .mov (.t 0), none⟩,
    ⟨(some 8), .bin .quo (.t 7) (.c (.s (.int .i64 23))), none⟩,
    ⟨(some 9), .call 18 [(.t 8), (.c (.s (.int .i64 5)))], none⟩,
    ⟨(some 10), .bin .sub (.c (.s (.int .i64 100000000000))) (.t 9), none⟩,
    ⟨(some 11), .bin .add (.t 10) (.c (.s (.int .i64 2))), none⟩,
    ⟨(some 2), .mov (.t 11), none⟩] [2])
  (.ret [2]))
  (.seq (.ops [⟨(some 13), .bin .eql (.t 4) (.c (.s (.int .i64 21))), none⟩,
    ⟨(some 12), .mov (.t 13), none⟩] [0, 4, 12])
  (.cond (.t 12) (.seq (.ops [⟨(some 14), .mov (.t 0), none⟩,
    ⟨(some 15), .bin .quo (.t 14) (.c (.s (.int .i64 23))), none⟩,
    ⟨(some 16), .call 18 [(.t 15), (.c (.s (.int .i64 5)))], none⟩,
    ⟨(some 17), .bin .add (.c (.s (.int .i64 (-100000000000)))) (.t 16), none⟩,
    ⟨(some 18), .bin .sub (.t 17) (.c (.s (.int .i64 2))), none⟩,
    ⟨(some 2), .mov (.t 18), none⟩] [2])
  (.ret [2]))
  (.seq (.ops [⟨(some 20), .bin .eql (.t 4) (.c (.s (.int .i64 22))), none⟩,
    ⟨(some 19), .mov (.t 20), none⟩] [0, 4, 19])
  (.cond (.t 19) (.seq (.ops [⟨(some 21), .mov (.t 0), none⟩,
    ⟨(some 2), .mov (.t 21), none⟩] [2])
  (.ret [2]))
  (.seq (.ops [⟨(some 23), .bin .eql (.t 4) (.c (.s (.int .i64 19))), none⟩,
    ⟨(some 22), .mov (.t 23), none⟩] [0, 22])
  (.cond (.t 22) (.seq (.ops [⟨(some 24), .mov (.t 0), none⟩,
    ⟨(some 25), .bin .quo (.t 24) (.c (.s (.int .i64 23))), none⟩,
    ⟨(some 26), .call 18 [(.t 25), (.c (.s (.int .i64 200000000001)))], none⟩,
    ⟨(some 27), .bin .sub (.t 26) (.c (.s (.int .i64 100000000000))), none⟩,
    ⟨(some 2), .mov (.t 27), none⟩] [2])
  (.ret [2]))
  .skip))))))))))
  s47_2)
def b47 : EC := (.seq (.ops [⟨(some 2), .mov (.c (.s (.int .i64 0))), none⟩] [0])
  s47_1)
def e47 : EF := ⟨31, b47, [.tmp 2]⟩

/-- scutage/scutageplay.Rate -/
def h48 : List (List Nat) := [[0], [0, 5], [2], [2], [2], [2]]
def s48_2 : EC := (.seq (.ops [⟨(some 7), .bsl 3 10 [(.int .i64 0)] [(0, 1, (.c (.s (.int .i64 250000)))), (1, 1, (.c (.s (.int .i64 300000)))), (2, 1, (.c (.s (.int .i64 190000)))), (3, 1, (.c (.s (.int .i64 0)))), (4, 1, (.c (.s (.int .i64 1000000)))), (5, 1, (.c (.s (.int .i64 333333)))), (6, 1, (.c (.s (.int .i64 500000)))), (7, 1, (.c (.s (.int .i64 1)))), (8, 1, (.c (.s (.int .i64 125000)))), (9, 1, (.c (.s (.int .i64 999999))))], none⟩,
    ⟨(some 8), .mov (.t 0), none⟩,
    ⟨(some 9), .call 18 [(.t 8), (.c (.s (.int .i64 10)))], none⟩,
    ⟨(some 10), .iad 3 1 (.t 7) (.t 9), none⟩,
    ⟨(some 11), .load false 1 (.t 10), none⟩,
    ⟨(some 2), .mov (.t 11), none⟩] [2])
  (.ret [2]))
def s48_1 : EC := (.seq (.seq (.ops [⟨(some 3), .mov (.t 0), none⟩,
    ⟨(some 4), .bin .rem (.t 3) (.c (.s (.int .i64 29))), none⟩,
    ⟨(some 5), .bin .eql (.t 4) (.c (.s (.int .i64 28))), none⟩] [0, 5])
  (.cond (.t 5) (.seq (.ops [⟨(some 6), .mov (.t 0), none⟩,
    ⟨(some 2), .mov (.t 6), none⟩] [2])
  (.ret [2]))
  .skip))
  s48_2)
def b48 : EC := (.seq (.ops [⟨(some 2), .mov (.c (.s (.int .i64 0))), none⟩] [0])
  s48_1)
def e48 : EF := ⟨12, b48, [.tmp 2]⟩

/-- scutage/scutagekeep.Text -/
def h49 : List (List Nat) := [[0, 1], [4], [4]]
def s49_1 : EC := (.seq (.ops [⟨(some 5), .mov (.t 0), none⟩,
    ⟨(some 6), .mov (.t 0), none⟩,
    ⟨(some 7), .slen (.t 6), none⟩,
    ⟨(some 8), .mov (.t 1), none⟩,
    ⟨(some 9), .mn (.t 7) [(.t 8)], none⟩,
    ⟨(some 10), .subs (.t 5) none (some (.t 9)), none⟩,
    ⟨(some 4), .mov (.t 10), none⟩] [4])
  (.ret [4]))
def b49 : EC := (.seq (.ops [⟨(some 4), .mov (.c (.s (.str ⟨#[]⟩))), none⟩] [0, 1])
  s49_1)
def e49 : EF := ⟨11, b49, [.tmp 4]⟩

/-- scutage/scutageref01.Period -/
def h52 : List (List Nat) := [[0], [2], [2]]
def s52_1 : EC := (.seq (.ops [⟨(some 3), .mov (.t 0), none⟩,
    ⟨(some 4), .bin .geq (.t 3) (.c (.s (.int .i64 0))), none⟩,
    ⟨(some 5), .mov (.t 4), none⟩,
    ⟨(some 6), .mov (.t 0), (some (5, true))⟩,
    ⟨(some 7), .bin .leq (.t 6) (.c (.s (.int .i64 399))), (some (5, true))⟩,
    ⟨(some 8), .pick (.t 5) (.t 7) (.c (.s (.bool false))), none⟩,
    ⟨(some 2), .mov (.t 8), none⟩] [2])
  (.ret [2]))
def b52 : EC := (.seq (.ops [⟨(some 2), .mov (.c (.s (.bool false))), none⟩] [0])
  s52_1)
def e52 : EF := ⟨9, b52, [.tmp 2]⟩

/-- scutage/scutageref19.Unpack -/
def h20 : List (List Nat) := [[0], [0, 5], [0, 5, 6], [0, 5, 6], [0, 5, 6, 12], [5], [0, 5, 6, 7, 8], [0, 5, 6, 7, 8, 21], [2, 3, 4], [2, 3, 4], [0, 5, 6, 8], [0, 5, 6], [2, 3, 4], [2, 3, 4]]
def l20_0 : EC := (.seq (.seq (.ops [⟨(some 9), .mov (.t 6), none⟩,
    ⟨(some 10), .mov (.t 0), none⟩,
    ⟨(some 11), .len (.t 10), none⟩,
    ⟨(some 12), .bin .lss (.t 9) (.t 11), none⟩] [0, 5, 6, 12])
  (.cond (.t 12) .skip
  (.exit 0 [5])))
  (.block 1 (.seq (.ops [⟨(some 14), .mov (.t 0), none⟩,
    ⟨(some 15), .mov (.t 6), none⟩,
    ⟨(some 16), .sli 5 1 (.t 14) (some (.t 15)) none, none⟩,
    ⟨(some 17), .call 32 [(.t 16)], none⟩,
    ⟨(some 13), .mov (.t 17), none⟩,
    ⟨(some 18), .ext (.t 13) 0, none⟩,
    ⟨(some 19), .ext (.t 13) 1, none⟩,
    ⟨(some 7), .new 23 12 (.c (.agg [(.int .i64 0), (.str ⟨#[]⟩), (.str ⟨#[]⟩), (.str ⟨#[]⟩), (.int .i64 0), (.int .i64 0), (.int .i64 0), (.int .i64 0), (.int .i64 0), (.int .i64 0), (.int .i64 0), (.int .i64 0)])), none⟩,
    ⟨none, .store 12 (.t 7) (.t 18), none⟩,
    ⟨(some 8), .mov (.t 19), none⟩] [0, 5, 6, 7, 8])
  (.seq (.seq (.ops [⟨(some 20), .mov (.t 8), none⟩,
    ⟨(some 21), .bin .eql (.t 20) (.c (.s (.int .i64 0))), none⟩] [0, 5, 6, 7, 8, 21])
  (.cond (.t 21) (.seq (.ops [⟨(some 22), .mov (.t 6), none⟩,
    ⟨(some 2), .mov (.c (.s .nils)), none⟩,
    ⟨(some 3), .mov (.t 22), none⟩,
    ⟨(some 4), .mov (.c (.s (.int .i64 2))), none⟩] [2, 3, 4])
  (.ret [2, 3, 4]))
  .skip))
  (.seq (.ops [⟨(some 23), .mov (.t 5), none⟩,
    ⟨(some 24), .load true 12 (.t 7), none⟩,
    ⟨(some 25), .bsl 23 1 [(.int .i64 0), (.str ⟨#[]⟩), (.str ⟨#[]⟩), (.str ⟨#[]⟩), (.int .i64 0), (.int .i64 0), (.int .i64 0), (.int .i64 0), (.int .i64 0), (.int .i64 0), (.int .i64 0), (.int .i64 0)] [(0, 12, (.t 24))], none⟩,
    ⟨(some 26), .app 23 12 120 (.t 23) (.t 25), none⟩,
    ⟨(some 5), .mov (.t 26), none⟩] [0, 5, 6, 8])
  (.ops [⟨(some 27), .mov (.t 6), none⟩,
    ⟨(some 28), .mov (.t 8), none⟩,
    ⟨(some 29), .bin .add (.t 27) (.t 28), none⟩,
    ⟨(some 6), .mov (.t 29), none⟩] [0, 5, 6]))))))
def s20_3 : EC := (.seq (.ops [⟨(some 30), .mov (.t 5), none⟩,
    ⟨(some 2), .mov (.t 30), none⟩,
    ⟨(some 3), .mov (.c (.s (.int .i64 0))), none⟩,
    ⟨(some 4), .mov (.c (.s (.int .i64 0))), none⟩] [2, 3, 4])
  (.ret [2, 3, 4]))
def s20_2 : EC := (.seq (.seq (.ops [⟨(some 6), .mov (.c (.s (.int .i64 0))), none⟩] [0, 5, 6])
  (.block 0 (.loop [0, 5, 6] l20_0)))
  s20_3)
def s20_1 : EC := (.seq (.ops [⟨(some 5), .mov (.c (.s .nils)), none⟩] [0, 5])
  s20_2)
def b20 : EC := (.seq (.ops [⟨(some 2), .mov (.c (.s .nils)), none⟩,
    ⟨(some 3), .mov (.c (.s (.int .i64 0))), none⟩,
    ⟨(some 4), .mov (.c (.s (.int .i64 0))), none⟩] [0])
  s20_1)
def e20 : EF := ⟨31, b20, [.tmp 2, .tmp 3, .tmp 4]⟩

/-- group.Check, by what it comes to. -/
def gCheck : List FV → LH → Option (List FV × LH)
  | [.agg l], h => match CK.cmOf l with
    | some m => some ([.s (.int .i64 (if CK.okC m then 0 else 1))], h)
    | none => none
  | _, _ => none
def e23 : EF := ⟨1, .ext 1 1 gCheck, (List.range 1).map fun i => .tmp (1 + i)⟩

def C : Nat → Option EF
  | 3 => some e3
  | 4 => some e4
  | 6 => some e6
  | 7 => some e7
  | 8 => some e8
  | 9 => some e9
  | 10 => some e10
  | 11 => some e11
  | 12 => some e12
  | 13 => some e13
  | 14 => some e14
  | 15 => some e15
  | 16 => some e16
  | 17 => some e17
  | 18 => some e18
  | 22 => some e22
  | 24 => some e24
  | 25 => some e25
  | 26 => some e26
  | 27 => some e27
  | 28 => some e28
  | 29 => some e29
  | 30 => some e30
  | 31 => some e31
  | 32 => some e32
  | 33 => some e33
  | 38 => some e38
  | 39 => some e39
  | 40 => some e40
  | 41 => some e41
  | 42 => some e42
  | 43 => some e43
  | 44 => some e44
  | 45 => some e45
  | 46 => some e46
  | 47 => some e47
  | 48 => some e48
  | 49 => some e49
  | 52 => some e52
  | 20 => some e20
  | 23 => some e23
  | _ => none

end Go.Proofs.YtbgfcgmbihhlbaaDoor.Ev.CW
