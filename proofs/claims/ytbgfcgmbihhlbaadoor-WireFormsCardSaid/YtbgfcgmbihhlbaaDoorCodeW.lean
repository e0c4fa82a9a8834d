/- The code of some functions for the small machine (printed by wip/tools/EvPrint.lean); some are known by what they come to. -/
import Derived.Test.YtbgfcgmbihhlbaaDoorEvKit
import Derived.Test.YtbgfcgmbihhlbaaDoorChkB
namespace Go.Proofs.YtbgfcgmbihhlbaaDoor.Ev.CW
open Go
/-- scutage/scutagelaw27.WireForms -/
def h3 : List (List Nat) := [[0, 1, 2, 3], [0, 1, 2, 3, 9], [0, 1, 2, 3, 9, 10], [1, 2, 3, 9, 10, 11], [3, 9, 10, 11], [3, 9, 10, 11, 12], [9, 10, 11, 12], [9, 10, 11, 12, 13, 14], [9, 10, 11, 12, 62], [8], [8], [9, 10, 11, 101, 102, 103], [9, 10, 11, 101, 102, 103], [9, 10, 11, 101, 102, 103, 104], [9, 10, 11], [9, 10, 11, 16, 101, 102, 103], [9, 10, 11, 16, 17, 18, 19, 101, 102, 103], [9, 10, 11, 101, 102, 103, 126], [8], [8], [9, 10, 11, 101, 102, 103], [9, 10, 20, 21, 22], [8], [8]]
def l3_0_2 : EC := (.seq (.block 1 (.seq (.ops [⟨(some 105), .iad 30 2 (.t 101) (.t 103), none⟩,
    ⟨(some 106), .load true 2 (.t 105), none⟩,
    ⟨(some 16), .new 30 2 (.c (.agg [.nils, (.int .i64 0)])), none⟩,
    ⟨none, .store 2 (.t 16) (.t 106), none⟩] [9, 10, 11, 16, 101, 102, 103])
  (.seq (.ops [⟨(some 108), .fad 0 (.t 16), none⟩,
    ⟨(some 109), .load false 1 (.t 108), none⟩,
    ⟨(some 110), .call 12 [(.t 109)], none⟩,
    ⟨(some 107), .mov (.t 110), none⟩,
    ⟨(some 111), .ext (.t 107) 0, none⟩,
    ⟨(some 112), .ext (.t 107) 1, none⟩,
    ⟨(some 113), .ext (.t 107) 2, none⟩,
    ⟨(some 17), .mov (.t 111), none⟩,
    ⟨(some 18), .mov (.t 112), none⟩,
    ⟨(some 19), .mov (.t 113), none⟩] [9, 10, 11, 16, 17, 18, 19, 101, 102, 103])
  (.seq (.ops [⟨(some 114), .mov (.t 19), none⟩,
    ⟨(some 115), .bin .neq (.t 114) (.c (.s (.int .i64 2))), none⟩,
    ⟨(some 116), .mov (.t 115), none⟩,
    ⟨(some 117), .mov (.t 18), (some (116, false))⟩,
    ⟨(some 118), .fad 1 (.t 16), (some (116, false))⟩,
    ⟨(some 119), .load false 1 (.t 118), (some (116, false))⟩,
    ⟨(some 120), .bin .neq (.t 117) (.t 119), (some (116, false))⟩,
    ⟨(some 121), .pick (.t 116) (.c (.s (.bool true))) (.t 120), none⟩,
    ⟨(some 122), .mov (.t 121), none⟩,
    ⟨(some 123), .mov (.t 17), (some (122, false))⟩,
    ⟨(some 124), .len (.t 123), (some (122, false))⟩,
    ⟨(some 125), .bin .neq (.t 124) (.c (.s (.int .i64 0))), (some (122, false))⟩,
    ⟨(some 126), .pick (.t 122) (.c (.s (.bool true))) (.t 125), none⟩] [9, 10, 11, 101, 102, 103, 126])
  (.cond (.t 126) (.seq (.ops [⟨(some 8), .mov (.c (.s (.bool false))), none⟩] [8])
  (.ret [8]))
  .skip)))))
  (.ops [⟨(some 127), .bin .add (.t 103) (.c (.s (.int .i64 1))), none⟩,
    ⟨(some 103), .mov (.t 127), none⟩] [9, 10, 11, 101, 102, 103]))
def l3_0_1 : EC := (.seq (.cond (.t 104) .skip
  (.exit 0 [9, 10, 11]))
  l3_0_2)
def l3_0 : EC := (.seq (.ops [⟨(some 104), .bin .lss (.t 103) (.t 102), none⟩] [9, 10, 11, 101, 102, 103, 104])
  l3_0_1)
def s3_11 : EC := (.seq (.ops [⟨(some 137), .mov (.t 22), none⟩,
    ⟨(some 138), .bin .eql (.t 137) (.c (.s (.int .i64 0))), none⟩,
    ⟨(some 139), .mov (.t 138), none⟩,
    ⟨(some 140), .mov (.t 21), (some (139, true))⟩,
    ⟨(some 141), .bin .eql (.t 140) (.c (.s (.int .i64 0))), (some (139, true))⟩,
    ⟨(some 142), .pick (.t 139) (.t 141) (.c (.s (.bool false))), none⟩,
    ⟨(some 143), .mov (.t 142), none⟩,
    ⟨(some 144), .mov (.t 20), (some (143, true))⟩,
    ⟨(some 145), .load true 12 (.t 9), (some (143, true))⟩,
    ⟨(some 146), .load true 12 (.t 10), (some (143, true))⟩,
    ⟨(some 147), .load true 12 (.t 9), (some (143, true))⟩,
    ⟨(some 148), .load true 12 (.t 10), (some (143, true))⟩,
    ⟨(some 149), .bsl 23 4 [(.int .i64 0), (.str ⟨#[]⟩), (.str ⟨#[]⟩), (.str ⟨#[]⟩), (.int .i64 0), (.int .i64 0), (.int .i64 0), (.int .i64 0), (.int .i64 0), (.int .i64 0), (.int .i64 0), (.int .i64 0)] [(0, 12, (.t 145)), (12, 12, (.t 146)), (24, 12, (.t 147)), (36, 12, (.t 148))], (some (143, true))⟩,
    ⟨(some 150), .call 13 [(.t 144), (.t 149)], (some (143, true))⟩,
    ⟨(some 151), .pick (.t 143) (.t 150) (.c (.s (.bool false))), none⟩,
    ⟨(some 152), .mov (.t 151), none⟩,
    ⟨(some 153), .call 14 [], (some (152, true))⟩,
    ⟨(some 154), .pick (.t 152) (.t 153) (.c (.s (.bool false))), none⟩,
    ⟨(some 8), .mov (.t 154), none⟩] [8])
  (.ret [8]))
def s3_10 : EC := (.seq (.ops [⟨(some 129), .mov (.t 11), none⟩,
    ⟨(some 130), .call 11 [(.t 129)], none⟩,
    ⟨(some 131), .mov (.t 11), none⟩,
    ⟨(some 132), .app 5 1 1 (.t 130) (.t 131), none⟩,
    ⟨(some 133), .call 12 [(.t 132)], none⟩,
    ⟨(some 128), .mov (.t 133), none⟩,
    ⟨(some 134), .ext (.t 128) 0, none⟩,
    ⟨(some 135), .ext (.t 128) 1, none⟩,
    ⟨(some 136), .ext (.t 128) 2, none⟩,
    ⟨(some 20), .mov (.t 134), none⟩,
    ⟨(some 21), .mov (.t 135), none⟩,
    ⟨(some 22), .mov (.t 136), none⟩] [9, 10, 20, 21, 22])
  s3_11)
def s3_9 : EC := (.seq (.seq (.draw [⟨(some 75), .mov (.t 11), none⟩,
    ⟨(some 76), .call 11 [(.t 75)], none⟩,
    ⟨(some 77), .bsl 5 1 [(.int .u8 0)] [(0, 1, (.c (.s (.int .u8 11))))], none⟩,
    ⟨(some 78), .app 5 1 1 (.t 76) (.t 77), none⟩,
    ⟨(some 82), .mov (.t 11), none⟩,
    ⟨(some 83), .mov (.t 12), none⟩,
    ⟨(some 84), .sli 5 1 (.t 82) none (some (.t 83)), none⟩,
    ⟨(some 85), .call 11 [(.t 84)], none⟩,
    ⟨(some 86), .bsl 5 2 [(.int .u8 0)] [(0, 1, (.c (.s (.int .u8 255)))), (1, 1, (.c (.s (.int .u8 1))))], none⟩,
    ⟨(some 87), .app 5 1 1 (.t 85) (.t 86), none⟩,
    ⟨(some 63), .bsl 5 1 [(.int .u8 0)] [(0, 1, (.c (.s (.int .u8 0))))], none⟩,
    ⟨(some 64), .build [.nils, (.int .i64 0)] [(0, 1, (.t 63)), (1, 1, (.c (.s (.int .i64 0))))], none⟩,
    ⟨(some 65), .bsl 5 3 [(.int .u8 0)] [(0, 1, (.c (.s (.int .u8 13)))), (1, 1, (.c (.s (.int .u8 1)))), (2, 1, (.c (.s (.int .u8 97))))], none⟩,
    ⟨(some 66), .build [.nils, (.int .i64 0)] [(0, 1, (.t 65)), (1, 1, (.c (.s (.int .i64 0))))], none⟩,
    ⟨(some 67), .bsl 5 2 [(.int .u8 0)] [(0, 1, (.c (.s (.int .u8 11)))), (1, 1, (.c (.s (.int .u8 1))))], none⟩,
    ⟨(some 68), .build [.nils, (.int .i64 0)] [(0, 1, (.t 67)), (1, 1, (.c (.s (.int .i64 0))))], none⟩,
    ⟨(some 69), .bsl 5 2 [(.int .u8 0)] [(0, 1, (.c (.s (.int .u8 11)))), (1, 1, (.c (.s (.int .u8 0))))], none⟩,
    ⟨(some 70), .build [.nils, (.int .i64 0)] [(0, 1, (.t 69)), (1, 1, (.c (.s (.int .i64 0))))], none⟩,
    ⟨(some 71), .bsl 5 3 [(.int .u8 0)] [(0, 1, (.c (.s (.int .u8 11)))), (1, 1, (.c (.s (.int .u8 1)))), (2, 1, (.c (.s (.int .u8 65))))], none⟩,
    ⟨(some 72), .build [.nils, (.int .i64 0)] [(0, 1, (.t 71)), (1, 1, (.c (.s (.int .i64 0))))], none⟩,
    ⟨(some 73), .bsl 5 11 [(.int .u8 0)] [(0, 1, (.c (.s (.int .u8 11)))), (1, 1, (.c (.s (.int .u8 9)))), (2, 1, (.c (.s (.int .u8 97)))), (3, 1, (.c (.s (.int .u8 98)))), (4, 1, (.c (.s (.int .u8 99)))), (5, 1, (.c (.s (.int .u8 100)))), (6, 1, (.c (.s (.int .u8 101)))), (7, 1, (.c (.s (.int .u8 102)))), (8, 1, (.c (.s (.int .u8 103)))), (9, 1, (.c (.s (.int .u8 104)))), (10, 1, (.c (.s (.int .u8 105))))], none⟩,
    ⟨(some 74), .build [.nils, (.int .i64 0)] [(0, 1, (.t 73)), (1, 1, (.c (.s (.int .i64 0))))], none⟩,
    ⟨(some 79), .mov (.t 11), none⟩,
    ⟨(some 80), .len (.t 79), none⟩,
    ⟨(some 81), .build [.nils, (.int .i64 0)] [(0, 1, (.t 78)), (1, 1, (.t 80))], none⟩,
    ⟨(some 88), .mov (.t 12), none⟩,
    ⟨(some 89), .build [.nils, (.int .i64 0)] [(0, 1, (.t 87)), (1, 1, (.t 88))], none⟩,
    ⟨(some 90), .mov (.t 11), none⟩,
    ⟨(some 91), .mov (.t 12), none⟩,
    ⟨(some 92), .bin .sub (.t 91) (.c (.s (.int .i64 1))), none⟩,
    ⟨(some 93), .sli 5 1 (.t 90) none (some (.t 92)), none⟩,
    ⟨(some 94), .build [.nils, (.int .i64 0)] [(0, 1, (.t 93)), (1, 1, (.c (.s (.int .i64 0))))], none⟩,
    ⟨(some 95), .mov (.t 11), none⟩,
    ⟨(some 96), .mov (.t 12), none⟩,
    ⟨(some 97), .bin .add (.t 96) (.c (.s (.int .i64 5))), none⟩,
    ⟨(some 98), .sli 5 1 (.t 95) none (some (.t 97)), none⟩,
    ⟨(some 99), .mov (.t 12), none⟩,
    ⟨(some 100), .build [.nils, (.int .i64 0)] [(0, 1, (.t 98)), (1, 1, (.t 99))], none⟩,
    ⟨(some 101), .bsl 30 10 [.nils, (.int .i64 0)] [(0, 2, (.t 64)), (2, 2, (.t 66)), (4, 2, (.t 68)), (6, 2, (.t 70)), (8, 2, (.t 72)), (10, 2, (.t 74)), (12, 2, (.t 81)), (14, 2, (.t 89)), (16, 2, (.t 94)), (18, 2, (.t 100))], none⟩,
    ⟨(some 102), .len (.t 101), none⟩,
    ⟨(some 103), .mov (.c (.s (.int .i64 0))), none⟩] [(6, 1), (6, 2), (6, 3), (30, 1), (30, 2), (30, 3), (30, 7), (30, 8), (30, 9), (30, 10), (30, 12), (30, 14), (30, 16), (30, 18), (30, 20), (35, 1), (35, 2), (35, 3), (35, 7), (35, 8), (35, 9), (35, 10), (35, 12), (35, 14), (35, 16), (35, 18), (35, 20)] [9, 10, 11, 101, 102, 103])
  (.block 0 (.loop [9, 10, 11, 101, 102, 103] l3_0)))
  s3_10)
def s3_8 : EC := (.seq (.seq (.ops [⟨(some 55), .mov (.t 14), none⟩,
    ⟨(some 56), .bin .neq (.t 55) (.c (.s (.int .i64 0))), none⟩,
    ⟨(some 57), .mov (.t 56), none⟩,
    ⟨(some 58), .mov (.t 13), (some (57, false))⟩,
    ⟨(some 59), .mov (.t 11), (some (57, false))⟩,
    ⟨(some 60), .call 10 [(.t 58), (.t 59)], (some (57, false))⟩,
    ⟨(some 61), .un .not (.t 60), (some (57, false))⟩,
    ⟨(some 62), .pick (.t 57) (.c (.s (.bool true))) (.t 61), none⟩] [9, 10, 11, 12, 62])
  (.cond (.t 62) (.seq (.ops [⟨(some 8), .mov (.c (.s (.bool false))), none⟩] [8])
  (.ret [8]))
  .skip))
  s3_9)
def s3_7 : EC := (.seq (.ops [⟨(some 49), .load true 12 (.t 9), none⟩,
    ⟨(some 50), .load true 12 (.t 10), none⟩,
    ⟨(some 51), .bsl 23 2 [(.int .i64 0), (.str ⟨#[]⟩), (.str ⟨#[]⟩), (.str ⟨#[]⟩), (.int .i64 0), (.int .i64 0), (.int .i64 0), (.int .i64 0), (.int .i64 0), (.int .i64 0), (.int .i64 0), (.int .i64 0)] [(0, 12, (.t 49)), (12, 12, (.t 50))], none⟩,
    ⟨(some 52), .call 9 [(.t 51)], none⟩,
    ⟨(some 48), .mov (.t 52), none⟩,
    ⟨(some 53), .ext (.t 48) 0, none⟩,
    ⟨(some 54), .ext (.t 48) 1, none⟩,
    ⟨(some 13), .mov (.t 53), none⟩,
    ⟨(some 14), .mov (.t 54), none⟩] [9, 10, 11, 12, 13, 14])
  s3_8)
def s3_6 : EC := (.seq (.ops [⟨(some 42), .mov (.t 11), none⟩,
    ⟨(some 43), .bsl 5 7 [(.int .u8 0)] [(0, 1, (.c (.s (.int .u8 10)))), (1, 1, (.c (.s (.int .u8 1)))), (2, 1, (.c (.s (.int .u8 97)))), (3, 1, (.c (.s (.int .u8 3)))), (4, 1, (.c (.s (.int .u8 98)))), (5, 1, (.c (.s (.int .u8 99)))), (6, 1, (.c (.s (.int .u8 100))))], none⟩,
    ⟨(some 44), .app 5 1 1 (.t 42) (.t 43), none⟩,
    ⟨(some 45), .mov (.t 3), none⟩,
    ⟨(some 46), .call 8 [(.t 45)], none⟩,
    ⟨(some 47), .app 5 1 1 (.t 44) (.t 46), none⟩,
    ⟨(some 11), .mov (.t 47), none⟩] [9, 10, 11, 12])
  s3_7)
def s3_5 : EC := (.seq (.ops [⟨(some 40), .mov (.t 11), none⟩,
    ⟨(some 41), .len (.t 40), none⟩,
    ⟨(some 12), .mov (.t 41), none⟩] [3, 9, 10, 11, 12])
  s3_6)
def s3_4 : EC := (.seq (.ops [⟨(some 33), .mov (.t 11), none⟩,
    ⟨(some 34), .mov (.t 1), none⟩,
    ⟨(some 35), .call 8 [(.t 34)], none⟩,
    ⟨(some 36), .app 5 1 1 (.t 33) (.t 35), none⟩,
    ⟨(some 37), .mov (.t 2), none⟩,
    ⟨(some 38), .call 8 [(.t 37)], none⟩,
    ⟨(some 39), .app 5 1 1 (.t 36) (.t 38), none⟩,
    ⟨(some 11), .mov (.t 39), none⟩] [3, 9, 10, 11])
  s3_5)
def s3_3 : EC := (.seq (.ops [⟨(some 29), .bsl 5 4 [(.int .u8 0)] [(0, 1, (.c (.s (.int .u8 1)))), (1, 1, (.c (.s (.int .u8 2)))), (2, 1, (.c (.s (.int .u8 117)))), (3, 1, (.c (.s (.int .u8 107))))], none⟩,
    ⟨(some 30), .mov (.t 0), none⟩,
    ⟨(some 31), .call 8 [(.t 30)], none⟩,
    ⟨(some 32), .app 5 1 1 (.t 29) (.t 31), none⟩,
    ⟨(some 11), .mov (.t 32), none⟩] [1, 2, 3, 9, 10, 11])
  s3_4)
def s3_2 : EC := (.seq (.ops [⟨(some 27), .mov (.t 3), none⟩,
    ⟨(some 28), .build [(.int .i64 0), (.str ⟨#[]⟩), (.str ⟨#[]⟩), (.str ⟨#[]⟩), (.int .i64 0), (.int .i64 0), (.int .i64 0), (.int .i64 0), (.int .i64 0), (.int .i64 0), (.int .i64 0), (.int .i64 0)] [(0, 1, (.c (.s (.int .i64 10)))), (1, 1, (.c (.s (.str ⟨#[97]⟩)))), (2, 1, (.c (.s (.str ⟨#[98, 99, 100]⟩)))), (9, 1, (.t 27))], none⟩,
    ⟨(some 10), .new 23 12 (.c (.agg [(.int .i64 0), (.str ⟨#[]⟩), (.str ⟨#[]⟩), (.str ⟨#[]⟩), (.int .i64 0), (.int .i64 0), (.int .i64 0), (.int .i64 0), (.int .i64 0), (.int .i64 0), (.int .i64 0), (.int .i64 0)])), none⟩,
    ⟨none, .store 12 (.t 10) (.t 28), none⟩] [0, 1, 2, 3, 9, 10])
  s3_3)
def s3_1 : EC := (.seq (.ops [⟨(some 23), .mov (.t 0), none⟩,
    ⟨(some 24), .mov (.t 1), none⟩,
    ⟨(some 25), .mov (.t 2), none⟩,
    ⟨(some 26), .build [(.int .i64 0), (.str ⟨#[]⟩), (.str ⟨#[]⟩), (.str ⟨#[]⟩), (.int .i64 0), (.int .i64 0), (.int .i64 0), (.int .i64 0), (.int .i64 0), (.int .i64 0), (.int .i64 0), (.int .i64 0)] [(0, 1, (.c (.s (.int .i64 1)))), (3, 1, (.c (.s (.str ⟨#[117, 107]⟩)))), (6, 1, (.t 23)), (10, 1, (.t 24)), (8, 1, (.t 25))], none⟩,
    ⟨(some 9), .new 23 12 (.c (.agg [(.int .i64 0), (.str ⟨#[]⟩), (.str ⟨#[]⟩), (.str ⟨#[]⟩), (.int .i64 0), (.int .i64 0), (.int .i64 0), (.int .i64 0), (.int .i64 0), (.int .i64 0), (.int .i64 0), (.int .i64 0)])), none⟩,
    ⟨none, .store 12 (.t 9) (.t 26), none⟩] [0, 1, 2, 3, 9])
  s3_2)
def b3 : EC := (.seq (.ops [⟨(some 8), .mov (.c (.s (.bool false))), none⟩] [0, 1, 2, 3])
  s3_1)
def e3 : EF := ⟨155, b3, [.tmp 8]⟩

/-- scutage/scutagelaw27.number -/
def h8 : List (List Nat) := [[0], [0, 3], [0, 3, 4], [0, 3, 4], [0, 3, 4, 6], [3], [0, 3, 4], [0, 3, 4], [2], [2]]
def l8_0_1 : EC := (.seq (.block 1 (.ops [⟨(some 9), .mov (.t 3), none⟩,
    ⟨(some 10), .mov (.t 0), none⟩,
    ⟨(some 11), .toi .u64 (.t 10), none⟩,
    ⟨(some 12), .mov (.t 4), none⟩,
    ⟨(some 13), .toi .u64 (.t 12), none⟩,
    ⟨(some 14), .bin .shr (.t 11) (.t 13), none⟩,
    ⟨(some 15), .toi .u8 (.t 14), none⟩,
    ⟨(some 16), .bsl 5 1 [(.int .u8 0)] [(0, 1, (.t 15))], none⟩,
    ⟨(some 17), .app 5 1 1 (.t 9) (.t 16), none⟩,
    ⟨(some 3), .mov (.t 17), none⟩] [0, 3, 4]))
  (.ops [⟨(some 7), .mov (.t 4), none⟩,
    ⟨(some 8), .bin .sub (.t 7) (.c (.s (.int .i64 8))), none⟩,
    ⟨(some 4), .mov (.t 8), none⟩] [0, 3, 4]))
def l8_0 : EC := (.seq (.seq (.ops [⟨(some 5), .mov (.t 4), none⟩,
    ⟨(some 6), .bin .geq (.t 5) (.c (.s (.int .i64 0))), none⟩] [0, 3, 4, 6])
  (.cond (.t 6) .skip
  (.exit 0 [3])))
  l8_0_1)
def s8_3 : EC := (.seq (.ops [⟨(some 18), .mov (.t 3), none⟩,
    ⟨(some 2), .mov (.t 18), none⟩] [2])
  (.ret [2]))
def s8_2 : EC := (.seq (.seq (.ops [⟨(some 4), .mov (.c (.s (.int .i64 56))), none⟩] [0, 3, 4])
  (.block 0 (.loop [0, 3, 4] l8_0)))
  s8_3)
def s8_1 : EC := (.seq (.ops [⟨(some 3), .mov (.c (.s .nils)), none⟩] [0, 3])
  s8_2)
def b8 : EC := (.seq (.ops [⟨(some 2), .mov (.c (.s .nils)), none⟩] [0])
  s8_1)
def e8 : EF := ⟨19, b8, [.tmp 2]⟩

/-- scutage/wire.Pack -/
def h9 : List (List Nat) := [[0], [0, 4], [4, 8, 9, 10], [4, 8, 9, 10], [4, 8, 9, 10, 11], [4], [4, 6, 8, 9, 10], [4, 6, 7, 8, 9, 10], [4, 6, 7, 8, 9, 10, 17], [2, 3], [2, 3], [4, 8, 9, 10], [4, 8, 9, 10], [2, 3], [2, 3]]
def l9_0_2 : EC := (.seq (.block 1 (.seq (.ops [⟨(some 12), .iad 23 12 (.t 8) (.t 10), none⟩,
    ⟨(some 13), .load true 12 (.t 12), none⟩,
    ⟨(some 6), .new 23 12 (.c (.agg [(.int .i64 0), (.str ⟨#[]⟩), (.str ⟨#[]⟩), (.str ⟨#[]⟩), (.int .i64 0), (.int .i64 0), (.int .i64 0), (.int .i64 0), (.int .i64 0), (.int .i64 0), (.int .i64 0), (.int .i64 0)])), none⟩,
    ⟨none, .store 12 (.t 6) (.t 13), none⟩] [4, 6, 8, 9, 10])
  (.seq (.seq (.ops [⟨(some 14), .load true 12 (.t 6), none⟩,
    ⟨(some 15), .call 23 [(.t 14)], none⟩,
    ⟨(some 7), .mov (.t 15), none⟩] [4, 6, 7, 8, 9, 10])
  (.seq (.ops [⟨(some 16), .mov (.t 7), none⟩,
    ⟨(some 17), .bin .neq (.t 16) (.c (.s (.int .i64 0))), none⟩] [4, 6, 7, 8, 9, 10, 17])
  (.cond (.t 17) (.seq (.ops [⟨(some 18), .mov (.t 7), none⟩,
    ⟨(some 2), .mov (.c (.s .nils)), none⟩,
    ⟨(some 3), .mov (.t 18), none⟩] [2, 3])
  (.ret [2, 3]))
  .skip)))
  (.ops [⟨(some 19), .mov (.t 4), none⟩,
    ⟨(some 20), .load true 12 (.t 6), none⟩,
    ⟨(some 21), .call 24 [(.t 20)], none⟩,
    ⟨(some 22), .app 5 1 1 (.t 19) (.t 21), none⟩,
    ⟨(some 4), .mov (.t 22), none⟩] [4, 8, 9, 10]))))
  (.ops [⟨(some 23), .bin .add (.t 10) (.c (.s (.int .i64 1))), none⟩,
    ⟨(some 10), .mov (.t 23), none⟩] [4, 8, 9, 10]))
def l9_0_1 : EC := (.seq (.cond (.t 11) .skip
  (.exit 0 [4]))
  l9_0_2)
def l9_0 : EC := (.seq (.ops [⟨(some 11), .bin .lss (.t 10) (.t 9), none⟩] [4, 8, 9, 10, 11])
  l9_0_1)
def s9_3 : EC := (.seq (.ops [⟨(some 24), .mov (.t 4), none⟩,
    ⟨(some 2), .mov (.t 24), none⟩,
    ⟨(some 3), .mov (.c (.s (.int .i64 0))), none⟩] [2, 3])
  (.ret [2, 3]))
def s9_2 : EC := (.seq (.seq (.ops [⟨(some 8), .mov (.t 0), none⟩,
    ⟨(some 9), .len (.t 8), none⟩,
    ⟨(some 10), .mov (.c (.s (.int .i64 0))), none⟩] [4, 8, 9, 10])
  (.block 0 (.loop [4, 8, 9, 10] l9_0)))
  s9_3)
def s9_1 : EC := (.seq (.ops [⟨(some 4), .mov (.c (.s .nils)), none⟩] [0, 4])
  s9_2)
def b9 : EC := (.seq (.ops [⟨(some 2), .mov (.c (.s .nils)), none⟩,
    ⟨(some 3), .mov (.c (.s (.int .i64 0))), none⟩] [0])
  s9_1)
def e9 : EF := ⟨25, b9, [.tmp 2, .tmp 3]⟩

/-- scutage/scutagekeep.Same[byte] -/
def h10 : List (List Nat) := [[0, 1], [0, 1, 10], [4], [4], [0, 1, 5], [0, 1, 5], [0, 1, 5, 14], [], [0, 1, 5, 25], [4], [4], [0, 1, 5], [4], [4]]
def l10_0_1 : EC := (.seq (.block 1 (.seq (.draw [⟨(some 17), .mov (.t 0), none⟩,
    ⟨(some 18), .mov (.t 5), none⟩,
    ⟨(some 19), .iad 5 1 (.t 17) (.t 18), none⟩,
    ⟨(some 20), .load false 1 (.t 19), none⟩,
    ⟨(some 21), .mov (.t 1), none⟩,
    ⟨(some 22), .mov (.t 5), none⟩,
    ⟨(some 23), .iad 5 1 (.t 21) (.t 22), none⟩,
    ⟨(some 24), .load false 1 (.t 23), none⟩,
    ⟨(some 25), .bin .neq (.t 20) (.t 24), none⟩] [] [0, 1, 5, 25])
  (.cond (.t 25) (.seq (.ops [⟨(some 4), .mov (.c (.s (.bool false))), none⟩] [4])
  (.ret [4]))
  .skip)))
  (.ops [⟨(some 15), .mov (.t 5), none⟩,
    ⟨(some 16), .bin .add (.t 15) (.c (.s (.int .i64 1))), none⟩,
    ⟨(some 5), .mov (.t 16), none⟩] [0, 1, 5]))
def l10_0 : EC := (.seq (.seq (.ops [⟨(some 11), .mov (.t 5), none⟩,
    ⟨(some 12), .mov (.t 0), none⟩,
    ⟨(some 13), .len (.t 12), none⟩,
    ⟨(some 14), .bin .lss (.t 11) (.t 13), none⟩] [0, 1, 5, 14])
  (.cond (.t 14) .skip
  (.exit 0 [])))
  l10_0_1)
def s10_3 : EC := (.seq (.ops [⟨(some 4), .mov (.c (.s (.bool true))), none⟩] [4])
  (.ret [4]))
def s10_2 : EC := (.seq (.seq (.ops [⟨(some 5), .mov (.c (.s (.int .i64 0))), none⟩] [0, 1, 5])
  (.block 0 (.loop [0, 1, 5] l10_0)))
  s10_3)
def s10_1 : EC := (.seq (.seq (.ops [⟨(some 6), .mov (.t 0), none⟩,
    ⟨(some 7), .len (.t 6), none⟩,
    ⟨(some 8), .mov (.t 1), none⟩,
    ⟨(some 9), .len (.t 8), none⟩,
    ⟨(some 10), .bin .neq (.t 7) (.t 9), none⟩] [0, 1, 10])
  (.cond (.t 10) (.seq (.ops [⟨(some 4), .mov (.c (.s (.bool false))), none⟩] [4])
  (.ret [4]))
  .skip))
  s10_2)
def b10 : EC := (.seq (.ops [⟨(some 4), .mov (.c (.s (.bool false))), none⟩] [0, 1])
  s10_1)
def e10 : EF := ⟨26, b10, [.tmp 4]⟩

/-- scutage/scutagekeep.Copy[byte] -/
def h11 : List (List Nat) := [[0], [2], [2]]
def s11_1 : EC := (.seq (.ops [⟨(some 3), .mov (.t 0), none⟩,
    ⟨(some 4), .app 5 1 1 (.c (.s .nils)) (.t 3), none⟩,
    ⟨(some 2), .mov (.t 4), none⟩] [2])
  (.ret [2]))
def b11 : EC := (.seq (.ops [⟨(some 2), .mov (.c (.s .nils)), none⟩] [0])
  s11_1)
def e11 : EF := ⟨5, b11, [.tmp 2]⟩

/-- scutage/wire.Unpack -/
def h12 : List (List Nat) := [[0], [0, 5], [0, 5, 6], [0, 3, 5, 6], [0, 3, 5, 6, 25], [2, 3, 4], [2, 3, 4], [0, 3, 5, 6, 7, 8], [0, 3, 5, 6, 7, 33], [2, 3, 4], [2, 3, 4], [0, 5, 6], [0, 5, 6]]
def l12_0_7 : EC := (.seq (.ops [⟨(some 35), .mov (.t 6), none⟩,
    ⟨(some 36), .load true 12 (.t 7), none⟩,
    ⟨(some 37), .bsl 23 1 [(.int .i64 0), (.str ⟨#[]⟩), (.str ⟨#[]⟩), (.str ⟨#[]⟩), (.int .i64 0), (.int .i64 0), (.int .i64 0), (.int .i64 0), (.int .i64 0), (.int .i64 0), (.int .i64 0), (.int .i64 0)] [(0, 12, (.t 36))], none⟩,
    ⟨(some 38), .app 23 12 120 (.t 35) (.t 37), none⟩,
    ⟨(some 6), .mov (.t 38), none⟩] [0, 5, 6])
  (.goto 0 [0, 5, 6]))
def l12_0_6 : EC := (.seq (.seq (.ops [⟨(some 32), .mov (.t 8), none⟩,
    ⟨(some 33), .un .not (.t 32), none⟩] [0, 3, 5, 6, 7, 33])
  (.cond (.t 33) (.seq (.ops [⟨(some 34), .mov (.t 3), none⟩,
    ⟨(some 2), .mov (.c (.s .nils)), none⟩,
    ⟨(some 3), .mov (.t 34), none⟩,
    ⟨(some 4), .mov (.c (.s (.int .i64 2))), none⟩] [2, 3, 4])
  (.ret [2, 3, 4]))
  .skip))
  l12_0_7)
def l12_0_5 : EC := (.seq (.ops [⟨(some 28), .mov (.t 5), none⟩,
    ⟨(some 29), .call 25 [(.t 28)], none⟩,
    ⟨(some 27), .mov (.t 29), none⟩,
    ⟨(some 30), .ext (.t 27) 0, none⟩,
    ⟨(some 31), .ext (.t 27) 1, none⟩,
    ⟨(some 7), .new 23 12 (.c (.agg [(.int .i64 0), (.str ⟨#[]⟩), (.str ⟨#[]⟩), (.str ⟨#[]⟩), (.int .i64 0), (.int .i64 0), (.int .i64 0), (.int .i64 0), (.int .i64 0), (.int .i64 0), (.int .i64 0), (.int .i64 0)])), none⟩,
    ⟨none, .store 12 (.t 7) (.t 30), none⟩,
    ⟨(some 8), .mov (.t 31), none⟩] [0, 3, 5, 6, 7, 8])
  l12_0_6)
def l12_0_4 : EC := (.seq (.seq (.ops [⟨(some 20), .mov (.t 5), none⟩,
    ⟨(some 21), .nilc (.t 20), none⟩,
    ⟨(some 22), .fad 0 (.t 21), none⟩,
    ⟨(some 23), .load false 1 (.t 22), none⟩,
    ⟨(some 24), .len (.t 23), none⟩,
    ⟨(some 25), .bin .eql (.t 24) (.c (.s (.int .i64 0))), none⟩] [0, 3, 5, 6, 25])
  (.cond (.t 25) (.seq (.ops [⟨(some 26), .mov (.t 6), none⟩,
    ⟨(some 2), .mov (.t 26), none⟩,
    ⟨(some 3), .mov (.c (.s (.int .i64 0))), none⟩,
    ⟨(some 4), .mov (.c (.s (.int .i64 0))), none⟩] [2, 3, 4])
  (.ret [2, 3, 4]))
  .skip))
  l12_0_5)
def l12_0_3 : EC := (.seq (.ops [⟨(some 12), .mov (.t 0), none⟩,
    ⟨(some 13), .len (.t 12), none⟩,
    ⟨(some 14), .mov (.t 5), none⟩,
    ⟨(some 15), .nilc (.t 14), none⟩,
    ⟨(some 16), .fad 0 (.t 15), none⟩,
    ⟨(some 17), .load false 1 (.t 16), none⟩,
    ⟨(some 18), .len (.t 17), none⟩,
    ⟨(some 19), .bin .sub (.t 13) (.t 18), none⟩,
    ⟨(some 3), .mov (.t 19), none⟩] [0, 3, 5, 6])
  l12_0_4)
def l12_0_2 : EC := (.seq (.label 0)
  l12_0_3)
def l12_0_1 : EC := (.seq (.ops [⟨(some 6), .mov (.c (.s .nils)), none⟩] [0, 5, 6])
  l12_0_2)
def l12_0 : EC := (.seq (.ops [⟨(some 9), .mov (.t 0), none⟩,
    ⟨(some 10), .build [.nils, (.bool false)] [(0, 1, (.t 9))], none⟩,
    ⟨(some 11), .new 56 2 (.t 10), none⟩,
    ⟨(some 5), .mov (.t 11), none⟩] [0, 5])
  l12_0_1)
def b12 : EC := (.seq (.ops [⟨(some 2), .mov (.c (.s .nils)), none⟩,
    ⟨(some 3), .mov (.c (.s (.int .i64 0))), none⟩,
    ⟨(some 4), .mov (.c (.s (.int .i64 0))), none⟩] [0])
  (.scope l12_0))
def e12 : EF := ⟨39, b12, [.tmp 2, .tmp 3, .tmp 4]⟩

/-- scutage/scutagekeep.Same[scutage/api.Command] -/
def h13 : List (List Nat) := [[0, 1], [0, 1, 10], [4], [4], [0, 1, 5], [0, 1, 5], [0, 1, 5, 14], [], [0, 1, 5, 25], [4], [4], [0, 1, 5], [4], [4]]
def l13_0_1 : EC := (.seq (.block 1 (.seq (.draw [⟨(some 17), .mov (.t 0), none⟩,
    ⟨(some 18), .mov (.t 5), none⟩,
    ⟨(some 19), .iad 23 12 (.t 17) (.t 18), none⟩,
    ⟨(some 20), .load true 12 (.t 19), none⟩,
    ⟨(some 21), .mov (.t 1), none⟩,
    ⟨(some 22), .mov (.t 5), none⟩,
    ⟨(some 23), .iad 23 12 (.t 21) (.t 22), none⟩,
    ⟨(some 24), .load true 12 (.t 23), none⟩,
    ⟨(some 25), .eqs true [(0, 0), (1, 2), (2, 2), (3, 2), (4, 0), (5, 0), (6, 0), (7, 0), (8, 0), (9, 0), (10, 0), (11, 0)] (.t 20) (.t 24), none⟩] [] [0, 1, 5, 25])
  (.cond (.t 25) (.seq (.ops [⟨(some 4), .mov (.c (.s (.bool false))), none⟩] [4])
  (.ret [4]))
  .skip)))
  (.ops [⟨(some 15), .mov (.t 5), none⟩,
    ⟨(some 16), .bin .add (.t 15) (.c (.s (.int .i64 1))), none⟩,
    ⟨(some 5), .mov (.t 16), none⟩] [0, 1, 5]))
def l13_0 : EC := (.seq (.seq (.ops [⟨(some 11), .mov (.t 5), none⟩,
    ⟨(some 12), .mov (.t 0), none⟩,
    ⟨(some 13), .len (.t 12), none⟩,
    ⟨(some 14), .bin .lss (.t 11) (.t 13), none⟩] [0, 1, 5, 14])
  (.cond (.t 14) .skip
  (.exit 0 [])))
  l13_0_1)
def s13_3 : EC := (.seq (.ops [⟨(some 4), .mov (.c (.s (.bool true))), none⟩] [4])
  (.ret [4]))
def s13_2 : EC := (.seq (.seq (.ops [⟨(some 5), .mov (.c (.s (.int .i64 0))), none⟩] [0, 1, 5])
  (.block 0 (.loop [0, 1, 5] l13_0)))
  s13_3)
def s13_1 : EC := (.seq (.seq (.ops [⟨(some 6), .mov (.t 0), none⟩,
    ⟨(some 7), .len (.t 6), none⟩,
    ⟨(some 8), .mov (.t 1), none⟩,
    ⟨(some 9), .len (.t 8), none⟩,
    ⟨(some 10), .bin .neq (.t 7) (.t 9), none⟩] [0, 1, 10])
  (.cond (.t 10) (.seq (.ops [⟨(some 4), .mov (.c (.s (.bool false))), none⟩] [4])
  (.ret [4]))
  .skip))
  s13_2)
def b13 : EC := (.seq (.ops [⟨(some 4), .mov (.c (.s (.bool false))), none⟩] [0, 1])
  s13_1)
def e13 : EF := ⟨26, b13, [.tmp 4]⟩

/-- scutage/scutagelaw27.wakes -/
def h14 : List (List Nat) := [[], [1, 3], [1, 3, 4, 5], [0], [0]]
def s14_3 : EC := (.seq (.ops [⟨(some 17), .mov (.t 3), none⟩,
    ⟨(some 18), .bin .eql (.t 17) (.c (.s (.int .i64 0))), none⟩,
    ⟨(some 19), .mov (.t 18), none⟩,
    ⟨(some 20), .mov (.t 1), (some (19, true))⟩,
    ⟨(some 21), .len (.t 20), (some (19, true))⟩,
    ⟨(some 22), .bin .eql (.t 21) (.c (.s (.int .i64 0))), (some (19, true))⟩,
    ⟨(some 23), .pick (.t 19) (.t 22) (.c (.s (.bool false))), none⟩,
    ⟨(some 24), .mov (.t 23), none⟩,
    ⟨(some 25), .mov (.t 5), (some (24, true))⟩,
    ⟨(some 26), .bin .eql (.t 25) (.c (.s (.int .i64 0))), (some (24, true))⟩,
    ⟨(some 27), .pick (.t 24) (.t 26) (.c (.s (.bool false))), none⟩,
    ⟨(some 28), .mov (.t 27), none⟩,
    ⟨(some 29), .mov (.t 4), (some (28, true))⟩,
    ⟨(some 30), .bsl 5 3 [(.int .u8 0)] [(0, 1, (.c (.s (.int .u8 11)))), (1, 1, (.c (.s (.int .u8 1)))), (2, 1, (.c (.s (.int .u8 97))))], (some (28, true))⟩,
    ⟨(some 31), .call 10 [(.t 29), (.t 30)], (some (28, true))⟩,
    ⟨(some 32), .pick (.t 28) (.t 31) (.c (.s (.bool false))), none⟩,
    ⟨(some 0), .mov (.t 32), none⟩] [0])
  (.ret [0]))
def s14_2 : EC := (.seq (.ops [⟨(some 12), .build [(.int .i64 0), (.str ⟨#[]⟩), (.str ⟨#[]⟩), (.str ⟨#[]⟩), (.int .i64 0), (.int .i64 0), (.int .i64 0), (.int .i64 0), (.int .i64 0), (.int .i64 0), (.int .i64 0), (.int .i64 0)] [(0, 1, (.c (.s (.int .i64 11)))), (1, 1, (.c (.s (.str ⟨#[97]⟩))))], none⟩,
    ⟨(some 13), .bsl 23 1 [(.int .i64 0), (.str ⟨#[]⟩), (.str ⟨#[]⟩), (.str ⟨#[]⟩), (.int .i64 0), (.int .i64 0), (.int .i64 0), (.int .i64 0), (.int .i64 0), (.int .i64 0), (.int .i64 0), (.int .i64 0)] [(0, 12, (.t 12))], none⟩,
    ⟨(some 14), .call 9 [(.t 13)], none⟩,
    ⟨(some 11), .mov (.t 14), none⟩,
    ⟨(some 15), .ext (.t 11) 0, none⟩,
    ⟨(some 16), .ext (.t 11) 1, none⟩,
    ⟨(some 4), .mov (.t 15), none⟩,
    ⟨(some 5), .mov (.t 16), none⟩] [1, 3, 4, 5])
  s14_3)
def s14_1 : EC := (.seq (.ops [⟨(some 7), .call 12 [(.c (.s .nils))], none⟩,
    ⟨(some 6), .mov (.t 7), none⟩,
    ⟨(some 8), .ext (.t 6) 0, none⟩,
    ⟨(some 9), .ext (.t 6) 1, none⟩,
    ⟨(some 10), .ext (.t 6) 2, none⟩,
    ⟨(some 1), .mov (.t 8), none⟩,
    ⟨(some 2), .mov (.t 9), none⟩,
    ⟨(some 3), .mov (.t 10), none⟩] [1, 3])
  s14_2)
def b14 : EC := (.seq (.ops [⟨(some 0), .mov (.c (.s (.bool false))), none⟩] [])
  s14_1)
def e14 : EF := ⟨33, b14, [.tmp 0]⟩

/-- scutage/wire.pack -/
def h24 : List (List Nat) := [[1], [1, 3], [1, 3, 14], [1, 3, 14], [1, 3, 14, 15, 16], [3], [1, 3, 5, 14], [1, 3, 5, 6, 14], [1, 3, 5, 6, 14, 21], [1, 3, 14], [1, 3, 14], [1, 3, 14], [2], [2]]
def l24_0_1 : EC := (.seq (.cond (.t 16) .skip
  (.exit 0 [3]))
  (.block 1 (.seq (.ops [⟨(some 17), .ext (.t 15) 2, none⟩,
    ⟨(some 5), .mov (.t 17), none⟩] [1, 3, 5, 14])
  (.seq (.seq (.ops [⟨(some 18), .mov (.t 5), none⟩,
    ⟨(some 19), .call 38 [(.t 1), (.t 18)], none⟩,
    ⟨(some 6), .mov (.t 19), none⟩] [1, 3, 5, 6, 14])
  (.seq (.ops [⟨(some 20), .mov (.t 6), none⟩,
    ⟨(some 21), .eqp true (.t 20) (.c (.s .nilp)), none⟩] [1, 3, 5, 6, 14, 21])
  (.cond (.t 21) (.seq (.ops [⟨(some 22), .mov (.t 3), none⟩,
    ⟨(some 23), .mov (.t 6), none⟩,
    ⟨(some 24), .nilc (.t 23), none⟩,
    ⟨(some 25), .load false 1 (.t 24), none⟩,
    ⟨(some 26), .call 39 [(.t 25)], none⟩,
    ⟨(some 27), .app 5 1 1 (.t 22) (.t 26), none⟩,
    ⟨(some 3), .mov (.t 27), none⟩] [1, 3, 14])
  (.exit 1 [1, 3, 14]))
  .skip)))
  (.ops [⟨(some 28), .mov (.t 3), none⟩,
    ⟨(some 29), .mov (.t 5), none⟩,
    ⟨(some 30), .call 41 [(.t 1), (.t 29)], none⟩,
    ⟨(some 31), .nilc (.t 30), none⟩,
    ⟨(some 32), .load false 1 (.t 31), none⟩,
    ⟨(some 33), .call 40 [(.t 32)], none⟩,
    ⟨(some 34), .app 5 1 1 (.t 28) (.t 33), none⟩,
    ⟨(some 3), .mov (.t 34), none⟩] [1, 3, 14])))))
def l24_0 : EC := (.seq (.ops [⟨(some 15), .nxt (.t 14), none⟩,
    ⟨(some 16), .ext (.t 15) 0, none⟩] [1, 3, 14, 15, 16])
  l24_0_1)
def s24_3 : EC := (.seq (.ops [⟨(some 35), .mov (.t 3), none⟩,
    ⟨(some 2), .mov (.t 35), none⟩] [2])
  (.ret [2]))
def s24_2 : EC := (.seq (.seq (.ops [⟨(some 11), .fad 0 (.t 1), none⟩,
    ⟨(some 12), .load false 1 (.t 11), none⟩,
    ⟨(some 13), .call 33 [(.t 12)], none⟩,
    ⟨(some 14), .rng (.t 13), none⟩] [1, 3, 14])
  (.block 0 (.loop [1, 3, 14] l24_0)))
  s24_3)
def s24_1 : EC := (.seq (.ops [⟨(some 7), .fad 0 (.t 1), none⟩,
    ⟨(some 8), .load false 1 (.t 7), none⟩,
    ⟨(some 9), .toi .u8 (.t 8), none⟩,
    ⟨(some 10), .bsl 5 1 [(.int .u8 0)] [(0, 1, (.t 9))], none⟩,
    ⟨(some 3), .mov (.t 10), none⟩] [1, 3])
  s24_2)
def b24 : EC := (.seq (.ops [⟨(some 1), .new 23 12 (.t 0), none⟩,
    ⟨(some 2), .mov (.c (.s .nils)), none⟩] [1])
  s24_1)
def e24 : EF := ⟨36, b24, [.tmp 2]⟩

/-- (*scutage/wire.reader).command -/
def h25 : List (List Nat) := [[0, 2], [0, 2, 4], [0, 2, 4, 14], [0, 2, 4, 14], [0, 2, 4, 14, 15, 16], [0, 2, 4], [0, 2, 4, 6, 14], [0, 2, 4, 6, 7, 14], [0, 2, 4, 6, 7, 14, 21], [0, 2, 4, 14], [0, 2, 4, 14], [0, 2, 4, 14], [2, 3], [2, 3]]
def l25_0_1 : EC := (.seq (.cond (.t 16) .skip
  (.exit 0 [0, 2, 4]))
  (.block 1 (.seq (.ops [⟨(some 17), .ext (.t 15) 2, none⟩,
    ⟨(some 6), .mov (.t 17), none⟩] [0, 2, 4, 6, 14])
  (.seq (.seq (.ops [⟨(some 18), .mov (.t 6), none⟩,
    ⟨(some 19), .call 38 [(.t 4), (.t 18)], none⟩,
    ⟨(some 7), .mov (.t 19), none⟩] [0, 2, 4, 6, 7, 14])
  (.seq (.ops [⟨(some 20), .mov (.t 7), none⟩,
    ⟨(some 21), .eqp true (.t 20) (.c (.s .nilp)), none⟩] [0, 2, 4, 6, 7, 14, 21])
  (.cond (.t 21) (.seq (.ops [⟨(some 22), .mov (.t 7), none⟩,
    ⟨(some 23), .mov (.t 0), none⟩,
    ⟨(some 24), .mov (.t 0), none⟩,
    ⟨(some 25), .call 42 [(.t 24), (.c (.s (.int .i64 1)))], none⟩,
    ⟨(some 26), .call 43 [(.t 23), (.t 25)], none⟩,
    ⟨(some 27), .b2s 5 (.t 26), none⟩,
    ⟨(some 28), .nilc (.t 22), none⟩,
    ⟨none, .store 1 (.t 28) (.t 27), none⟩] [0, 2, 4, 14])
  (.exit 1 [0, 2, 4, 14]))
  .skip)))
  (.ops [⟨(some 29), .mov (.t 6), none⟩,
    ⟨(some 30), .call 41 [(.t 4), (.t 29)], none⟩,
    ⟨(some 31), .mov (.t 0), none⟩,
    ⟨(some 32), .call 42 [(.t 31), (.c (.s (.int .i64 8)))], none⟩,
    ⟨(some 33), .nilc (.t 30), none⟩,
    ⟨none, .store 1 (.t 33) (.t 32), none⟩] [0, 2, 4, 14])))))
def l25_0 : EC := (.seq (.ops [⟨(some 15), .nxt (.t 14), none⟩,
    ⟨(some 16), .ext (.t 15) 0, none⟩] [0, 2, 4, 14, 15, 16])
  l25_0_1)
def s25_3 : EC := (.seq (.draw [⟨(some 34), .load true 12 (.t 4), none⟩,
    ⟨(some 35), .mov (.t 0), none⟩,
    ⟨(some 36), .nilc (.t 35), none⟩,
    ⟨(some 37), .fad 1 (.t 36), none⟩,
    ⟨(some 38), .load false 1 (.t 37), none⟩,
    ⟨(some 39), .un .not (.t 38), none⟩,
    ⟨(some 40), .mov (.t 39), none⟩,
    ⟨(some 41), .load true 12 (.t 4), (some (40, true))⟩,
    ⟨(some 42), .call 23 [(.t 41)], (some (40, true))⟩,
    ⟨(some 43), .bin .eql (.t 42) (.c (.s (.int .i64 0))), (some (40, true))⟩,
    ⟨(some 44), .pick (.t 40) (.t 43) (.c (.s (.bool false))), none⟩,
    ⟨none, .store 12 (.t 2) (.t 34), none⟩,
    ⟨(some 3), .mov (.t 44), none⟩] [(0, 8)] [2, 3])
  (.ret [2, 3]))
def s25_2 : EC := (.seq (.seq (.ops [⟨(some 11), .fad 0 (.t 4), none⟩,
    ⟨(some 12), .load false 1 (.t 11), none⟩,
    ⟨(some 13), .call 33 [(.t 12)], none⟩,
    ⟨(some 14), .rng (.t 13), none⟩] [0, 2, 4, 14])
  (.block 0 (.loop [0, 2, 4, 14] l25_0)))
  s25_3)
def s25_1 : EC := (.seq (.ops [⟨(some 8), .mov (.t 0), none⟩,
    ⟨(some 9), .call 42 [(.t 8), (.c (.s (.int .i64 1)))], none⟩,
    ⟨(some 10), .build [(.int .i64 0), (.str ⟨#[]⟩), (.str ⟨#[]⟩), (.str ⟨#[]⟩), (.int .i64 0), (.int .i64 0), (.int .i64 0), (.int .i64 0), (.int .i64 0), (.int .i64 0), (.int .i64 0), (.int .i64 0)] [(0, 1, (.t 9))], none⟩,
    ⟨(some 4), .new 23 12 (.c (.agg [(.int .i64 0), (.str ⟨#[]⟩), (.str ⟨#[]⟩), (.str ⟨#[]⟩), (.int .i64 0), (.int .i64 0), (.int .i64 0), (.int .i64 0), (.int .i64 0), (.int .i64 0), (.int .i64 0), (.int .i64 0)])), none⟩,
    ⟨none, .store 12 (.t 4) (.t 10), none⟩] [0, 2, 4])
  s25_2)
def b25 : EC := (.seq (.ops [⟨(some 2), .new 23 12 (.c (.agg [(.int .i64 0), (.str ⟨#[]⟩), (.str ⟨#[]⟩), (.str ⟨#[]⟩), (.int .i64 0), (.int .i64 0), (.int .i64 0), (.int .i64 0), (.int .i64 0), (.int .i64 0), (.int .i64 0), (.int .i64 0)])), none⟩,
    ⟨(some 3), .mov (.c (.s (.bool false))), none⟩] [0, 2])
  s25_1)
def e25 : EF := ⟨45, b25, [.cell 2 true 12, .tmp 3]⟩

/-- scutage/group.Fields -/
def h33 : List (List Nat) := [[0], [3], [3, 4], [2], [2], [3, 6], [2], [2], [3, 8], [3, 8], [2], [2], [3, 11], [2], [2], [3, 13], [2], [2], [3, 15], [2], [2], [3, 17], [2], [2], [3, 19], [2], [2], [3, 21], [2], [2], [3, 23], [23], [2], [2], [2], [2]]
def s33_2 : EC := (.seq (.ops [⟨(some 2), .mov (.c (.s (.str ⟨#[63]⟩))), none⟩] [2])
  (.ret [2]))
def s33_1 : EC := (.seq (.seq (.ops [⟨(some 3), .mov (.t 0), none⟩] [3])
  (.block 0 (.seq (.ops [⟨(some 5), .bin .eql (.t 3) (.c (.s (.int .i64 1))), none⟩,
    ⟨(some 4), .mov (.t 5), none⟩] [3, 4])
  (.cond (.t 4) (.seq (.ops [⟨(some 2), .mov (.c (.s (.str ⟨#[74, 89, 82, 80]⟩))), none⟩] [2])
  (.ret [2]))
  (.seq (.ops [⟨(some 7), .bin .eql (.t 3) (.c (.s (.int .i64 2))), none⟩,
    ⟨(some 6), .mov (.t 7), none⟩] [3, 6])
  (.cond (.t 6) (.seq (.ops [⟨(some 2), .mov (.c (.s (.str ⟨#[73, 74, 82, 89, 80, 70]⟩))), none⟩] [2])
  (.ret [2]))
  (.seq (.seq (.ops [⟨(some 9), .bin .eql (.t 3) (.c (.s (.int .i64 3))), none⟩,
    ⟨(some 8), .mov (.t 9), none⟩] [3, 8])
  (.cond (.t 8) .skip
  (.ops [⟨(some 10), .bin .eql (.t 3) (.c (.s (.int .i64 4))), none⟩,
    ⟨(some 8), .mov (.t 10), none⟩] [3, 8])))
  (.cond (.t 8) (.seq (.ops [⟨(some 2), .mov (.c (.s (.str ⟨#[73, 65]⟩))), none⟩] [2])
  (.ret [2]))
  (.seq (.ops [⟨(some 12), .bin .eql (.t 3) (.c (.s (.int .i64 5))), none⟩,
    ⟨(some 11), .mov (.t 12), none⟩] [3, 11])
  (.cond (.t 11) (.seq (.ops [⟨(some 2), .mov (.c (.s (.str ⟨#[73, 67, 89, 65]⟩))), none⟩] [2])
  (.ret [2]))
  (.seq (.ops [⟨(some 14), .bin .eql (.t 3) (.c (.s (.int .i64 6))), none⟩,
    ⟨(some 13), .mov (.t 14), none⟩] [3, 13])
  (.cond (.t 13) (.seq (.ops [⟨(some 2), .mov (.c (.s (.str ⟨#[73, 67, 89, 68, 90, 65]⟩))), none⟩] [2])
  (.ret [2]))
  (.seq (.ops [⟨(some 16), .bin .eql (.t 3) (.c (.s (.int .i64 7))), none⟩,
    ⟨(some 15), .mov (.t 16), none⟩] [3, 15])
  (.cond (.t 15) (.seq (.ops [⟨(some 2), .mov (.c (.s (.str ⟨#[73, 82]⟩))), none⟩] [2])
  (.ret [2]))
  (.seq (.ops [⟨(some 18), .bin .eql (.t 3) (.c (.s (.int .i64 8))), none⟩,
    ⟨(some 17), .mov (.t 18), none⟩] [3, 17])
  (.cond (.t 17) (.seq (.ops [⟨(some 2), .mov (.c (.s (.str ⟨#[73, 82, 89]⟩))), none⟩] [2])
  (.ret [2]))
  (.seq (.ops [⟨(some 20), .bin .eql (.t 3) (.c (.s (.int .i64 9))), none⟩,
    ⟨(some 19), .mov (.t 20), none⟩] [3, 19])
  (.cond (.t 19) (.seq (.ops [⟨(some 2), .mov (.c (.s (.str ⟨#[73, 80, 65]⟩))), none⟩] [2])
  (.ret [2]))
  (.seq (.ops [⟨(some 22), .bin .eql (.t 3) (.c (.s (.int .i64 10))), none⟩,
    ⟨(some 21), .mov (.t 22), none⟩] [3, 21])
  (.cond (.t 21) (.seq (.ops [⟨(some 2), .mov (.c (.s (.str ⟨#[73, 75, 65]⟩))), none⟩] [2])
  (.ret [2]))
  (.seq (.seq (.ops [⟨(some 24), .bin .eql (.t 3) (.c (.s (.int .i64 11))), none⟩,
    ⟨(some 23), .mov (.t 24), none⟩] [3, 23])
  (.cond (.t 23) .skip
  (.ops [⟨(some 25), .bin .eql (.t 3) (.c (.s (.int .i64 12))), none⟩,
    ⟨(some 23), .mov (.t 25), none⟩] [23])))
  (.cond (.t 23) (.seq (.ops [⟨(some 2), .mov (.c (.s (.str ⟨#[73]⟩))), none⟩] [2])
  (.ret [2]))
  .skip))))))))))))))))))))))
  s33_2)
def b33 : EC := (.seq (.ops [⟨(some 2), .mov (.c (.s (.str ⟨#[]⟩))), none⟩] [0])
  s33_1)
def e33 : EF := ⟨26, b33, [.tmp 2]⟩

/-- scutage/wire.word -/
def h38 : List (List Nat) := [[0, 1], [0, 5], [0, 5, 6], [4], [4], [0, 5, 11], [4], [4], [0, 16], [4], [4], [4], [4]]
def s38_2 : EC := (.seq (.ops [⟨(some 4), .mov (.c (.s .nilp)), none⟩] [4])
  (.ret [4]))
def s38_1 : EC := (.seq (.seq (.ops [⟨(some 5), .mov (.t 1), none⟩] [0, 5])
  (.block 0 (.seq (.ops [⟨(some 7), .bin .eql (.t 5) (.c (.s (.int .i32 73))), none⟩,
    ⟨(some 6), .mov (.t 7), none⟩] [0, 5, 6])
  (.cond (.t 6) (.seq (.ops [⟨(some 8), .mov (.t 0), none⟩,
    ⟨(some 9), .nilc (.t 8), none⟩,
    ⟨(some 10), .fad 1 (.t 9), none⟩,
    ⟨(some 4), .mov (.t 10), none⟩] [4])
  (.ret [4]))
  (.seq (.ops [⟨(some 12), .bin .eql (.t 5) (.c (.s (.int .i32 75))), none⟩,
    ⟨(some 11), .mov (.t 12), none⟩] [0, 5, 11])
  (.cond (.t 11) (.seq (.ops [⟨(some 13), .mov (.t 0), none⟩,
    ⟨(some 14), .nilc (.t 13), none⟩,
    ⟨(some 15), .fad 2 (.t 14), none⟩,
    ⟨(some 4), .mov (.t 15), none⟩] [4])
  (.ret [4]))
  (.seq (.ops [⟨(some 17), .bin .eql (.t 5) (.c (.s (.int .i32 74))), none⟩,
    ⟨(some 16), .mov (.t 17), none⟩] [0, 16])
  (.cond (.t 16) (.seq (.ops [⟨(some 18), .mov (.t 0), none⟩,
    ⟨(some 19), .nilc (.t 18), none⟩,
    ⟨(some 20), .fad 3 (.t 19), none⟩,
    ⟨(some 4), .mov (.t 20), none⟩] [4])
  (.ret [4]))
  .skip))))))))
  s38_2)
def b38 : EC := (.seq (.ops [⟨(some 4), .mov (.c (.s .nilp)), none⟩] [0, 1])
  s38_1)
def e38 : EF := ⟨21, b38, [.tmp 4]⟩

/-- scutage/wire.text -/
def h39 : List (List Nat) := [[0], [2], [2]]
def s39_1 : EC := (.seq (.ops [⟨(some 3), .mov (.t 0), none⟩,
    ⟨(some 4), .slen (.t 3), none⟩,
    ⟨(some 5), .toi .u8 (.t 4), none⟩,
    ⟨(some 6), .bsl 5 1 [(.int .u8 0)] [(0, 1, (.t 5))], none⟩,
    ⟨(some 7), .mov (.t 0), none⟩,
    ⟨(some 8), .apps 5 1 (.t 6) (.t 7), none⟩,
    ⟨(some 2), .mov (.t 8), none⟩] [2])
  (.ret [2]))
def b39 : EC := (.seq (.ops [⟨(some 2), .mov (.c (.s .nils)), none⟩] [0])
  s39_1)
def e39 : EF := ⟨9, b39, [.tmp 2]⟩

/-- scutage/wire.number -/
def h40 : List (List Nat) := [[0], [0, 3], [0, 3, 4], [0, 3, 4], [0, 3, 4, 6], [3], [0, 3, 4], [0, 3, 4], [2], [2]]
def l40_0_1 : EC := (.seq (.block 1 (.ops [⟨(some 9), .mov (.t 3), none⟩,
    ⟨(some 10), .mov (.t 0), none⟩,
    ⟨(some 11), .mov (.t 4), none⟩,
    ⟨(some 12), .bin .shr (.t 10) (.t 11), none⟩,
    ⟨(some 13), .toi .u8 (.t 12), none⟩,
    ⟨(some 14), .bsl 5 1 [(.int .u8 0)] [(0, 1, (.t 13))], none⟩,
    ⟨(some 15), .app 5 1 1 (.t 9) (.t 14), none⟩,
    ⟨(some 3), .mov (.t 15), none⟩] [0, 3, 4]))
  (.ops [⟨(some 7), .mov (.t 4), none⟩,
    ⟨(some 8), .bin .sub (.t 7) (.c (.s (.int .i64 8))), none⟩,
    ⟨(some 4), .mov (.t 8), none⟩] [0, 3, 4]))
def l40_0 : EC := (.seq (.seq (.ops [⟨(some 5), .mov (.t 4), none⟩,
    ⟨(some 6), .bin .geq (.t 5) (.c (.s (.int .i64 0))), none⟩] [0, 3, 4, 6])
  (.cond (.t 6) .skip
  (.exit 0 [3])))
  l40_0_1)
def s40_3 : EC := (.seq (.ops [⟨(some 16), .mov (.t 3), none⟩,
    ⟨(some 2), .mov (.t 16), none⟩] [2])
  (.ret [2]))
def s40_2 : EC := (.seq (.seq (.ops [⟨(some 4), .mov (.c (.s (.int .i64 56))), none⟩] [0, 3, 4])
  (.block 0 (.loop [0, 3, 4] l40_0)))
  s40_3)
def s40_1 : EC := (.seq (.ops [⟨(some 3), .mov (.c (.s .nils)), none⟩] [0, 3])
  s40_2)
def b40 : EC := (.seq (.ops [⟨(some 2), .mov (.c (.s .nils)), none⟩] [0])
  s40_1)
def e40 : EF := ⟨17, b40, [.tmp 2]⟩

/-- scutage/wire.place -/
def h41 : List (List Nat) := [[0, 1], [0, 5], [0, 5, 6], [4], [4], [0, 5, 11], [4], [4], [0, 5, 16], [4], [4], [0, 5, 21], [4], [4], [0, 5, 26], [4], [4], [0, 5, 31], [4], [4], [0, 36], [4], [4], [4], [4]]
def s41_2 : EC := (.seq (.ops [⟨(some 41), .mov (.t 0), none⟩,
    ⟨(some 42), .nilc (.t 41), none⟩,
    ⟨(some 43), .fad 11 (.t 42), none⟩,
    ⟨(some 4), .mov (.t 43), none⟩] [4])
  (.ret [4]))
def s41_1 : EC := (.seq (.seq (.ops [⟨(some 5), .mov (.t 1), none⟩] [0, 5])
  (.block 0 (.seq (.ops [⟨(some 7), .bin .eql (.t 5) (.c (.s (.int .i32 67))), none⟩,
    ⟨(some 6), .mov (.t 7), none⟩] [0, 5, 6])
  (.cond (.t 6) (.seq (.ops [⟨(some 8), .mov (.t 0), none⟩,
    ⟨(some 9), .nilc (.t 8), none⟩,
    ⟨(some 10), .fad 4 (.t 9), none⟩,
    ⟨(some 4), .mov (.t 10), none⟩] [4])
  (.ret [4]))
  (.seq (.ops [⟨(some 12), .bin .eql (.t 5) (.c (.s (.int .i32 68))), none⟩,
    ⟨(some 11), .mov (.t 12), none⟩] [0, 5, 11])
  (.cond (.t 11) (.seq (.ops [⟨(some 13), .mov (.t 0), none⟩,
    ⟨(some 14), .nilc (.t 13), none⟩,
    ⟨(some 15), .fad 5 (.t 14), none⟩,
    ⟨(some 4), .mov (.t 15), none⟩] [4])
  (.ret [4]))
  (.seq (.ops [⟨(some 17), .bin .eql (.t 5) (.c (.s (.int .i32 89))), none⟩,
    ⟨(some 16), .mov (.t 17), none⟩] [0, 5, 16])
  (.cond (.t 16) (.seq (.ops [⟨(some 18), .mov (.t 0), none⟩,
    ⟨(some 19), .nilc (.t 18), none⟩,
    ⟨(some 20), .fad 6 (.t 19), none⟩,
    ⟨(some 4), .mov (.t 20), none⟩] [4])
  (.ret [4]))
  (.seq (.ops [⟨(some 22), .bin .eql (.t 5) (.c (.s (.int .i32 90))), none⟩,
    ⟨(some 21), .mov (.t 22), none⟩] [0, 5, 21])
  (.cond (.t 21) (.seq (.ops [⟨(some 23), .mov (.t 0), none⟩,
    ⟨(some 24), .nilc (.t 23), none⟩,
    ⟨(some 25), .fad 7 (.t 24), none⟩,
    ⟨(some 4), .mov (.t 25), none⟩] [4])
  (.ret [4]))
  (.seq (.ops [⟨(some 27), .bin .eql (.t 5) (.c (.s (.int .i32 80))), none⟩,
    ⟨(some 26), .mov (.t 27), none⟩] [0, 5, 26])
  (.cond (.t 26) (.seq (.ops [⟨(some 28), .mov (.t 0), none⟩,
    ⟨(some 29), .nilc (.t 28), none⟩,
    ⟨(some 30), .fad 8 (.t 29), none⟩,
    ⟨(some 4), .mov (.t 30), none⟩] [4])
  (.ret [4]))
  (.seq (.ops [⟨(some 32), .bin .eql (.t 5) (.c (.s (.int .i32 65))), none⟩,
    ⟨(some 31), .mov (.t 32), none⟩] [0, 5, 31])
  (.cond (.t 31) (.seq (.ops [⟨(some 33), .mov (.t 0), none⟩,
    ⟨(some 34), .nilc (.t 33), none⟩,
    ⟨(some 35), .fad 9 (.t 34), none⟩,
    ⟨(some 4), .mov (.t 35), none⟩] [4])
  (.ret [4]))
  (.seq (.ops [⟨(some 37), .bin .eql (.t 5) (.c (.s (.int .i32 82))), none⟩,
    ⟨(some 36), .mov (.t 37), none⟩] [0, 36])
  (.cond (.t 36) (.seq (.ops [⟨(some 38), .mov (.t 0), none⟩,
    ⟨(some 39), .nilc (.t 38), none⟩,
    ⟨(some 40), .fad 10 (.t 39), none⟩,
    ⟨(some 4), .mov (.t 40), none⟩] [4])
  (.ret [4]))
  .skip))))))))))))))))
  s41_2)
def b41 : EC := (.seq (.ops [⟨(some 4), .mov (.c (.s .nilp)), none⟩] [0, 1])
  s41_1)
def e41 : EF := ⟨44, b41, [.tmp 4]⟩

/-- (*scutage/wire.reader).count -/
def h42 : List (List Nat) := [[0, 1], [0, 1, 5], [5, 10, 11, 12], [5, 10, 11, 12], [5, 10, 11, 12, 13], [5], [5, 7, 10, 11, 12], [5, 10, 11, 12], [5, 10, 11, 12], [4], [4]]
def l42_0_2 : EC := (.seq (.block 1 (.seq (.ops [⟨(some 14), .iad 5 1 (.t 10) (.t 12), none⟩,
    ⟨(some 15), .load false 1 (.t 14), none⟩,
    ⟨(some 7), .mov (.t 15), none⟩] [5, 7, 10, 11, 12])
  (.ops [⟨(some 16), .mov (.t 5), none⟩,
    ⟨(some 17), .bin .shl (.t 16) (.c (.s (.int .u64 8))), none⟩,
    ⟨(some 18), .mov (.t 7), none⟩,
    ⟨(some 19), .toi .u64 (.t 18), none⟩,
    ⟨(some 20), .bin .or (.t 17) (.t 19), none⟩,
    ⟨(some 5), .mov (.t 20), none⟩] [5, 10, 11, 12])))
  (.ops [⟨(some 21), .bin .add (.t 12) (.c (.s (.int .i64 1))), none⟩,
    ⟨(some 12), .mov (.t 21), none⟩] [5, 10, 11, 12]))
def l42_0_1 : EC := (.seq (.cond (.t 13) .skip
  (.exit 0 [5]))
  l42_0_2)
def l42_0 : EC := (.seq (.ops [⟨(some 13), .bin .lss (.t 12) (.t 11), none⟩] [5, 10, 11, 12, 13])
  l42_0_1)
def s42_3 : EC := (.seq (.ops [⟨(some 22), .mov (.t 5), none⟩,
    ⟨(some 23), .toi .i64 (.t 22), none⟩,
    ⟨(some 4), .mov (.t 23), none⟩] [4])
  (.ret [4]))
def s42_2 : EC := (.seq (.seq (.ops [⟨(some 8), .mov (.t 0), none⟩,
    ⟨(some 9), .mov (.t 1), none⟩,
    ⟨(some 10), .call 43 [(.t 8), (.t 9)], none⟩,
    ⟨(some 11), .len (.t 10), none⟩,
    ⟨(some 12), .mov (.c (.s (.int .i64 0))), none⟩] [5, 10, 11, 12])
  (.block 0 (.loop [5, 10, 11, 12] l42_0)))
  s42_3)
def s42_1 : EC := (.seq (.ops [⟨(some 5), .mov (.c (.s (.int .u64 0))), none⟩] [0, 1, 5])
  s42_2)
def b42 : EC := (.seq (.ops [⟨(some 4), .mov (.c (.s (.int .i64 0))), none⟩] [0, 1])
  s42_1)
def e42 : EF := ⟨24, b42, [.tmp 4]⟩

/-- (*scutage/wire.reader).take -/
def h43 : List (List Nat) := [[0, 1], [0, 1, 18], [], [4], [4], [0, 1, 5], [5], [4], [4]]
def s43_4 : EC := (.seq (.ops [⟨(some 37), .mov (.t 5), none⟩,
    ⟨(some 4), .mov (.t 37), none⟩] [4])
  (.ret [4]))
def s43_3 : EC := (.seq (.ops [⟨(some 28), .mov (.t 0), none⟩,
    ⟨(some 29), .mov (.t 0), none⟩,
    ⟨(some 30), .nilc (.t 29), none⟩,
    ⟨(some 31), .fad 0 (.t 30), none⟩,
    ⟨(some 32), .load false 1 (.t 31), none⟩,
    ⟨(some 33), .mov (.t 1), none⟩,
    ⟨(some 34), .sli 5 1 (.t 32) (some (.t 33)) none, none⟩,
    ⟨(some 35), .nilc (.t 28), none⟩,
    ⟨(some 36), .fad 0 (.t 35), none⟩,
    ⟨none, .store 1 (.t 36) (.t 34), none⟩] [5])
  s43_4)
def s43_2 : EC := (.seq (.ops [⟨(some 22), .mov (.t 0), none⟩,
    ⟨(some 23), .nilc (.t 22), none⟩,
    ⟨(some 24), .fad 0 (.t 23), none⟩,
    ⟨(some 25), .load false 1 (.t 24), none⟩,
    ⟨(some 26), .mov (.t 1), none⟩,
    ⟨(some 27), .sli 5 1 (.t 25) none (some (.t 26)), none⟩,
    ⟨(some 5), .mov (.t 27), none⟩] [0, 1, 5])
  s43_3)
def s43_1 : EC := (.seq (.seq (.ops [⟨(some 6), .mov (.t 0), none⟩,
    ⟨(some 7), .nilc (.t 6), none⟩,
    ⟨(some 8), .fad 1 (.t 7), none⟩,
    ⟨(some 9), .load false 1 (.t 8), none⟩,
    ⟨(some 10), .mov (.t 9), none⟩,
    ⟨(some 11), .mov (.t 1), (some (10, false))⟩,
    ⟨(some 12), .mov (.t 0), (some (10, false))⟩,
    ⟨(some 13), .nilc (.t 12), (some (10, false))⟩,
    ⟨(some 14), .fad 0 (.t 13), (some (10, false))⟩,
    ⟨(some 15), .load false 1 (.t 14), (some (10, false))⟩,
    ⟨(some 16), .len (.t 15), (some (10, false))⟩,
    ⟨(some 17), .bin .gtr (.t 11) (.t 16), (some (10, false))⟩,
    ⟨(some 18), .pick (.t 10) (.c (.s (.bool true))) (.t 17), none⟩] [0, 1, 18])
  (.cond (.t 18) (.seq (.ops [⟨(some 19), .mov (.t 0), none⟩,
    ⟨(some 20), .nilc (.t 19), none⟩,
    ⟨(some 21), .fad 1 (.t 20), none⟩,
    ⟨none, .store 1 (.t 21) (.c (.s (.bool true))), none⟩] [])
  (.seq (.ops [⟨(some 4), .mov (.c (.s .nils)), none⟩] [4])
  (.ret [4])))
  .skip))
  s43_2)
def b43 : EC := (.seq (.ops [⟨(some 4), .mov (.c (.s .nils)), none⟩] [0, 1])
  s43_1)
def e43 : EF := ⟨38, b43, [.tmp 4]⟩

/-- group.Check, by what it comes to. -/
def gCheck : List FV → LH → Option (List FV × LH)
  | [.agg l], h => match CK.cmOf l with
    | some m => some ([.s (.int .i64 (if CK.okC m then 0 else 1))], h)
    | none => none
  | _, _ => none
def e23 : EF := ⟨1, .ext 1 1 gCheck, (List.range 1).map fun i => .tmp (1 + i)⟩

def C : Nat → Option EF
  | 3 => some e3
  | 8 => some e8
  | 9 => some e9
  | 10 => some e10
  | 11 => some e11
  | 12 => some e12
  | 13 => some e13
  | 14 => some e14
  | 24 => some e24
  | 25 => some e25
  | 33 => some e33
  | 38 => some e38
  | 39 => some e39
  | 40 => some e40
  | 41 => some e41
  | 42 => some e42
  | 43 => some e43
  | 23 => some e23
  | _ => none

end Go.Proofs.YtbgfcgmbihhlbaaDoor.Ev.CW
