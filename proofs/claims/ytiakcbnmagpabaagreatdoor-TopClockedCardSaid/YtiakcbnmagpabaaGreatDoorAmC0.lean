/- Functions of the program, as the abstract machine has them: printed by a program of this claim's author out of the model's code. -/
import Derived.Test.YtiakcbnmagpabaaGreatDoorA0
namespace Go.Am
set_option maxRecDepth 100000
def c3 : AF := ⟨163, [.reg 4], .seq
  (.ops [⟨some 4, .mv (.c (.bool false)), none⟩]) 
 (.seq
  (.ops [⟨some 5, .mv (.c (.str [])), none⟩, ⟨some 6, .mv (.c (.str [])), none⟩]) 
 (.seq
  (.ops [⟨some 7, .mv (.c (.int .i64 (.ofNat 0))), none⟩, ⟨some 8, .mv (.c (.int .i64 (.ofNat 0))), none⟩]) 
 (.seq
  (.ops [⟨some 24, .makeMap, none⟩, ⟨none, .mapUpdate [.int .i64] false (.r 24) (.c (.int .i64 (.ofNat 0))) (.c (.str [])), none⟩, ⟨some 25, .mv (.r 24), none⟩, ⟨some 9, .mv (.r 25), none⟩]) 
 (.seq
  (.seq
  (.ops [⟨some 26, .mv (.r 0), none⟩, ⟨some 27, .mv (.r 0), none⟩, ⟨some 28, .len .slice (.r 27), none⟩, ⟨some 29, .maxmin false (.r 28) [.c (.int .i64 (.ofNat 6))], none⟩, ⟨some 30, .sliceSl 4 false (.r 26) none (some (.r 29)) none, none⟩, ⟨some 31, .len .slice (.r 30), none⟩, ⟨some 32, .mv (.c (.int .i64 (.ofNat 0))), none⟩]) 
 (.block 0 (.loop (.seq
  (.ops [⟨some 33, .bin .lss (.r 32) (.r 31), none⟩]) 
 (.seq
  (.cond (.r 33) .skip (.exit 0)) 
 (.seq
  (.block 1 (.seq
  (.ops [⟨some 34, .indexSl 4 (.r 30) (.r 32), none⟩, ⟨some 35, .loadN 4 (.r 34), none⟩, ⟨some 11, .alloc [.int .u8 (.ofNat 0), .int .u8 (.ofNat 0), .nilslice, .nilslice], none⟩, ⟨none, .store 4 (.r 11) (.r 35), none⟩]) 
 (.seq
  (.ops [⟨some 37, .loadN 4 (.r 11), none⟩, ⟨some 38, .call 9 [.r 37], none⟩, ⟨some 36, .mv (.r 38), none⟩, ⟨some 39, .extract 0 (.r 36), none⟩, ⟨some 40, .extract 1 (.r 36), none⟩, ⟨some 41, .extract 2 (.r 36), none⟩, ⟨some 12, .mv (.r 39), none⟩, ⟨some 13, .mv (.r 40), none⟩, ⟨some 14, .mv (.r 41), none⟩]) 
 (.seq
  (.ops [⟨some 42, .mv (.r 5), none⟩, ⟨some 43, .mv (.r 12), none⟩, ⟨some 44, .bin .add (.r 42) (.r 43), none⟩, ⟨some 45, .mv (.r 6), none⟩, ⟨some 46, .mv (.r 13), none⟩, ⟨some 47, .bin .add (.r 45) (.r 46), none⟩, ⟨some 5, .mv (.r 44), none⟩, ⟨some 6, .mv (.r 47), none⟩]) 
 (.seq
  (.ops [⟨some 48, .mv (.r 9), none⟩, ⟨some 49, .mv (.r 5), none⟩, ⟨some 50, .len .str (.r 49), none⟩, ⟨some 51, .mv (.r 6), none⟩, ⟨none, .mapUpdate [.int .i64] false (.r 48) (.r 50) (.r 51), none⟩]) 
 (.seq
  (.ops [⟨some 52, .mv (.r 14), none⟩]) 
 (.cond (.r 52) (.ops [⟨some 53, .mv (.r 8), none⟩, ⟨some 54, .bin .add (.r 53) (.c (.int .i64 (.ofNat 1))), none⟩, ⟨some 8, .mv (.r 54), none⟩]) (.ops [⟨some 55, .mv (.r 7), none⟩, ⟨some 56, .bin .add (.r 55) (.c (.int .i64 (.ofNat 1))), none⟩, ⟨some 7, .mv (.r 56), none⟩])))))))) 
 (.ops [⟨some 57, .bin .add (.r 32) (.c (.int .i64 (.ofNat 1))), none⟩, ⟨some 32, .mv (.r 57), none⟩]))))))) 
 (.seq
  (.ops [⟨some 59, .mv (.r 5), none⟩, ⟨some 60, .bytesOf (.r 59), none⟩, ⟨some 61, .mv (.r 6), none⟩, ⟨some 62, .len .str (.r 61), none⟩, ⟨some 63, .call 10 [.r 60, .c (.int .i64 (.ofNat 22)), .r 62], none⟩, ⟨some 58, .mv (.r 63), none⟩, ⟨some 64, .extract 0 (.r 58), none⟩, ⟨some 65, .extract 1 (.r 58), none⟩, ⟨some 15, .mv (.r 64), none⟩, ⟨some 16, .mv (.r 65), none⟩]) 
 (.seq
  (.ops [⟨some 67, .mv (.r 5), none⟩, ⟨some 68, .bytesOf (.r 67), none⟩, ⟨some 69, .mv (.r 6), none⟩, ⟨some 70, .len .str (.r 69), none⟩, ⟨some 71, .call 11 [.r 68, .c (.int .i64 (.ofNat 22)), .r 70], none⟩, ⟨some 66, .mv (.r 71), none⟩, ⟨some 72, .extract 0 (.r 66), none⟩, ⟨some 73, .extract 1 (.r 66), none⟩, ⟨some 74, .extract 2 (.r 66), none⟩, ⟨some 17, .mv (.r 72), none⟩, ⟨some 18, .mv (.r 73), none⟩, ⟨some 19, .mv (.r 74), none⟩]) 
 (.seq
  (.seq
  (.ops [⟨some 75, .call 12 [], none⟩, ⟨some 76, .un .not (.r 75), none⟩, ⟨some 77, .mv (.r 76), none⟩, ⟨some 78, .mv (.r 16), some (77, false)⟩, ⟨some 79, .bin .neq (.r 78) (.c (.int .i64 (.ofNat 0))), some (77, false)⟩, ⟨some 80, .pick (.r 77) (.c (.bool true)) (.r 79), none⟩, ⟨some 81, .mv (.r 80), none⟩, ⟨some 82, .mv (.r 19), some (81, false)⟩, ⟨some 83, .bin .neq (.r 82) (.c (.int .i64 (.ofNat 0))), some (81, false)⟩, ⟨some 84, .pick (.r 81) (.c (.bool true)) (.r 83), none⟩, ⟨some 85, .mv (.r 84), none⟩, ⟨some 86, .mv (.r 15), some (85, false)⟩, ⟨some 87, .strOf (.r 86), some (85, false)⟩, ⟨some 88, .mv (.r 6), some (85, false)⟩, ⟨some 89, .bin .neq (.r 87) (.r 88), some (85, false)⟩, ⟨some 90, .pick (.r 85) (.c (.bool true)) (.r 89), none⟩, ⟨some 91, .mv (.r 90), none⟩, ⟨some 92, .mv (.r 17), some (91, false)⟩, ⟨some 93, .mv (.r 7), some (91, false)⟩, ⟨some 94, .bin .neq (.r 92) (.r 93), some (91, false)⟩, ⟨some 95, .pick (.r 91) (.c (.bool true)) (.r 94), none⟩, ⟨some 96, .mv (.r 95), none⟩, ⟨some 97, .mv (.r 18), some (96, false)⟩, ⟨some 98, .mv (.r 8), some (96, false)⟩, ⟨some 99, .bin .neq (.r 97) (.r 98), some (96, false)⟩, ⟨some 100, .pick (.r 96) (.c (.bool true)) (.r 99), none⟩]) 
 (.cond (.r 100) (.seq
  (.ops [⟨some 4, .mv (.c (.bool false)), none⟩]) 
 .ret) .skip)) 
 (.seq
  (.ops [⟨some 101, .mv (.r 1), none⟩, ⟨some 102, .toInt .i64 (.r 101), none⟩, ⟨some 103, .mv (.r 5), none⟩, ⟨some 104, .len .str (.r 103), none⟩, ⟨some 105, .bin .add (.r 104) (.c (.int .i64 (.ofNat 1))), none⟩, ⟨some 106, .bin .rem (.r 102) (.r 105), none⟩, ⟨some 20, .mv (.r 106), none⟩]) 
 (.seq
  (.ops [⟨some 108, .mv (.r 5), none⟩, ⟨some 109, .mv (.r 20), none⟩, ⟨some 110, .sliceStr (.r 108) none (some (.r 109)), none⟩, ⟨some 111, .bytesOf (.r 110), none⟩, ⟨some 112, .mv (.r 6), none⟩, ⟨some 113, .len .str (.r 112), none⟩, ⟨some 114, .call 10 [.r 111, .c (.int .i64 (.ofNat 22)), .r 113], none⟩, ⟨some 107, .mv (.r 114), none⟩, ⟨some 115, .extract 0 (.r 107), none⟩, ⟨some 116, .extract 1 (.r 107), none⟩, ⟨some 21, .mv (.r 115), none⟩, ⟨some 16, .mv (.r 116), none⟩]) 
 (.seq
  (.ops [⟨some 118, .mv (.r 9), none⟩, ⟨some 119, .mv (.r 20), none⟩, ⟨some 120, .lookup [.int .i64] false (.str []) true (.r 118) (.r 119), none⟩, ⟨some 117, .mv (.r 120), none⟩, ⟨some 121, .extract 0 (.r 117), none⟩, ⟨some 122, .extract 1 (.r 117), none⟩, ⟨some 22, .mv (.r 121), none⟩, ⟨some 23, .mv (.r 122), none⟩]) 
 (.seq
  (.seq
  (.ops [⟨some 123, .mv (.r 23), none⟩, ⟨some 124, .mv (.r 16), none⟩, ⟨some 125, .bin .eql (.r 124) (.c (.int .i64 (.ofNat 0))), none⟩, ⟨some 126, .eql true [.bool] false (.r 123) (.r 125), none⟩, ⟨some 127, .mv (.r 126), none⟩, ⟨some 128, .mv (.r 23), some (127, false)⟩, ⟨some 129, .mv (.r 128), some (127, false)⟩, ⟨some 130, .mv (.r 21), some (129, true)⟩, ⟨some 131, .strOf (.r 130), some (129, true)⟩, ⟨some 132, .mv (.r 22), some (129, true)⟩, ⟨some 133, .bin .neq (.r 131) (.r 132), some (129, true)⟩, ⟨some 134, .pick (.r 129) (.r 133) (.c (.bool false)), some (127, false)⟩, ⟨some 135, .pick (.r 127) (.c (.bool true)) (.r 134), none⟩, ⟨some 136, .mv (.r 135), none⟩, ⟨some 137, .mv (.r 23), some (136, false)⟩, ⟨some 138, .un .not (.r 137), some (136, false)⟩, ⟨some 139, .mv (.r 138), some (136, false)⟩, ⟨some 140, .mv (.r 16), some (139, true)⟩, ⟨some 141, .bin .neq (.r 140) (.c (.int .i64 (.ofNat 10))), some (139, true)⟩, ⟨some 142, .mv (.r 141), some (139, true)⟩, ⟨some 143, .mv (.r 21), some (142, false)⟩, ⟨some 144, .len .slice (.r 143), some (142, false)⟩, ⟨some 145, .bin .gtr (.r 144) (.c (.int .i64 (.ofNat 0))), some (142, false)⟩, ⟨some 146, .pick (.r 142) (.c (.bool true)) (.r 145), some (139, true)⟩, ⟨some 147, .pick (.r 139) (.r 146) (.c (.bool false)), some (136, false)⟩, ⟨some 148, .pick (.r 136) (.c (.bool true)) (.r 147), none⟩]) 
 (.cond (.r 148) (.seq
  (.ops [⟨some 4, .mv (.c (.bool false)), none⟩]) 
 .ret) .skip)) 
 (.seq
  (.seq
  (.ops [⟨some 149, .mv (.r 6), none⟩, ⟨some 150, .len .str (.r 149), none⟩, ⟨some 151, .bin .eql (.r 150) (.c (.int .i64 (.ofNat 0))), none⟩]) 
 (.cond (.r 151) (.seq
  (.ops [⟨some 4, .mv (.c (.bool true)), none⟩]) 
 .ret) .skip)) 
 (.seq
  (.ops [⟨some 153, .mv (.r 5), none⟩, ⟨some 154, .bytesOf (.r 153), none⟩, ⟨some 155, .mv (.r 6), none⟩, ⟨some 156, .len .str (.r 155), none⟩, ⟨some 157, .bin .sub (.r 156) (.c (.int .i64 (.ofNat 1))), none⟩, ⟨some 158, .call 10 [.r 154, .c (.int .i64 (.ofNat 22)), .r 157], none⟩, ⟨some 152, .mv (.r 158), none⟩, ⟨some 159, .extract 0 (.r 152), none⟩, ⟨some 160, .extract 1 (.r 152), none⟩, ⟨some 16, .mv (.r 160), none⟩]) 
 (.seq
  (.ops [⟨some 161, .mv (.r 16), none⟩, ⟨some 162, .bin .eql (.r 161) (.c (.int .i64 (.ofNat 12))), none⟩, ⟨some 4, .mv (.r 162), none⟩]) 
 .ret))))))))))))))⟩
def c4 : AF := ⟨200, [.reg 6], .seq
  (.ops [⟨some 3, .box 7 (.r 0), none⟩, ⟨some 6, .mv (.c (.bool false)), none⟩]) 
 (.seq
  (.ops [⟨some 16, .fieldAt 0 (.r 3), none⟩, ⟨some 17, .load1 (.r 16), none⟩, ⟨some 18, .bin .rem (.r 17) (.c (.int .u8 (.ofNat 6))), none⟩, ⟨some 19, .bin .add (.c (.int .u8 (.ofNat 1))) (.r 18), none⟩, ⟨some 20, .fieldAt 0 (.r 3), none⟩, ⟨none, .store 1 (.r 20) (.r 19), none⟩]) 
 (.seq
  (.ops [⟨some 21, .fieldAt 6 (.r 3), none⟩, ⟨some 22, .load1 (.r 21), none⟩, ⟨some 23, .fieldAt 6 (.r 3), none⟩, ⟨some 24, .load1 (.r 23), none⟩, ⟨some 25, .len .slice (.r 24), none⟩, ⟨some 26, .maxmin false (.r 25) [.c (.int .i64 (.ofNat 300))], none⟩, ⟨some 27, .sliceSl 1 false (.r 22) none (some (.r 26)) none, none⟩, ⟨some 28, .fieldAt 6 (.r 3), none⟩, ⟨none, .store 1 (.r 28) (.r 27), none⟩]) 
 (.seq
  (.multi [(0, ⟨some 29, .fieldAt 0 (.r 3), none⟩), (1, ⟨some 30, .load1 (.r 29), none⟩), (2, ⟨some 31, .buildSlice 1 1 [.int .u8 (.ofNat 0)] [(0, (1, .r 30))], none⟩), (1, ⟨some 32, .strOf (.r 31), none⟩), (0, ⟨some 33, .fieldAt 1 (.r 3), none⟩), (1, ⟨some 34, .load1 (.r 33), none⟩), (4, ⟨some 35, .call 13 [.r 34, .c (.int .i64 (.ofNat 8))], none⟩), (0, ⟨some 36, .bin .add (.r 32) (.r 35), none⟩), (0, ⟨some 37, .fieldAt 2 (.r 3), none⟩), (1, ⟨some 38, .load1 (.r 37), none⟩), (4, ⟨some 39, .call 13 [.r 38, .c (.int .i64 (.ofNat 8))], none⟩), (0, ⟨some 40, .bin .add (.r 36) (.r 39), none⟩), (0, ⟨some 41, .fieldAt 3 (.r 3), none⟩), (1, ⟨some 42, .load1 (.r 41), none⟩), (0, ⟨some 43, .toInt .u64 (.r 42), none⟩), (4, ⟨some 44, .call 13 [.r 43, .c (.int .i64 (.ofNat 4))], none⟩), (0, ⟨some 45, .bin .add (.r 40) (.r 44), none⟩), (0, ⟨some 46, .fieldAt 4 (.r 3), none⟩), (1, ⟨some 47, .load1 (.r 46), none⟩), (0, ⟨some 48, .toInt .u64 (.r 47), none⟩), (4, ⟨some 49, .call 13 [.r 48, .c (.int .i64 (.ofNat 4))], none⟩), (0, ⟨some 50, .bin .add (.r 45) (.r 49), none⟩), (0, ⟨some 51, .fieldAt 5 (.r 3), none⟩), (1, ⟨some 52, .load1 (.r 51), none⟩), (0, ⟨some 53, .toInt .u64 (.r 52), none⟩), (4, ⟨some 54, .call 13 [.r 53, .c (.int .i64 (.ofNat 4))], none⟩), (0, ⟨some 55, .bin .add (.r 50) (.r 54), none⟩), (0, ⟨some 56, .fieldAt 6 (.r 3), none⟩), (1, ⟨some 57, .load1 (.r 56), none⟩), (0, ⟨some 58, .len .slice (.r 57), none⟩), (0, ⟨some 59, .toInt .u64 (.r 58), none⟩), (4, ⟨some 60, .call 13 [.r 59, .c (.int .i64 (.ofNat 2))], none⟩), (0, ⟨some 61, .bin .add (.r 55) (.r 60), none⟩), (0, ⟨some 62, .fieldAt 6 (.r 3), none⟩), (1, ⟨some 63, .load1 (.r 62), none⟩), (1, ⟨some 64, .strOf (.r 63), none⟩), (0, ⟨some 65, .bin .add (.r 61) (.r 64), none⟩), (0, ⟨some 7, .mv (.r 65), none⟩)] [(1, 6), (1, 10), (1, 15), (1, 20), (1, 25), (1, 31), (2, 5), (2, 6), (2, 9), (2, 10), (2, 13), (2, 15), (2, 18), (2, 20), (2, 23), (2, 25), (2, 28), (2, 31), (2, 34), (2, 35), (3, 6), (3, 10), (3, 15), (3, 20), (3, 25), (3, 31), (6, 9), (6, 13), (6, 18), (6, 23), (6, 28), (6, 34), (6, 35), (10, 13), (10, 18), (10, 23), (10, 28), (10, 34), (10, 35), (15, 18), (15, 23), (15, 28), (15, 34), (15, 35), (20, 23), (20, 28), (20, 34), (20, 35), (25, 28), (25, 34), (25, 35), (31, 34), (31, 35)]) 
 (.seq
  (.ops [⟨some 66, .mv (.r 7), none⟩, ⟨some 67, .mv (.r 7), none⟩, ⟨some 68, .call 14 [.r 67], none⟩, ⟨some 69, .call 13 [.r 68, .c (.int .i64 (.ofNat 4))], none⟩, ⟨some 70, .bin .add (.r 66) (.r 69), none⟩, ⟨some 7, .mv (.r 70), none⟩]) 
 (.seq
  (.ops [⟨some 72, .loadN 7 (.r 3), none⟩, ⟨some 73, .call 15 [.r 72], none⟩, ⟨some 71, .mv (.r 73), none⟩, ⟨some 74, .extract 0 (.r 71), none⟩, ⟨some 75, .extract 1 (.r 71), none⟩, ⟨some 8, .mv (.r 74), none⟩, ⟨some 9, .mv (.r 75), none⟩]) 
 (.seq
  (.seq
  (.ops [⟨some 76, .call 12 [], none⟩, ⟨some 77, .un .not (.r 76), none⟩, ⟨some 78, .mv (.r 77), none⟩, ⟨some 79, .mv (.r 9), some (78, false)⟩, ⟨some 80, .bin .neq (.r 79) (.c (.int .i64 (.ofNat 0))), some (78, false)⟩, ⟨some 81, .pick (.r 78) (.c (.bool true)) (.r 80), none⟩, ⟨some 82, .mv (.r 81), none⟩, ⟨some 83, .mv (.r 8), some (82, false)⟩, ⟨some 84, .strOf (.r 83), some (82, false)⟩, ⟨some 85, .mv (.r 7), some (82, false)⟩, ⟨some 86, .bin .neq (.r 84) (.r 85), some (82, false)⟩, ⟨some 87, .pick (.r 82) (.c (.bool true)) (.r 86), none⟩, ⟨some 88, .mv (.r 87), none⟩, ⟨some 89, .mv (.r 8), some (88, false)⟩, ⟨some 90, .len .slice (.r 89), some (88, false)⟩, ⟨some 91, .fieldAt 6 (.r 3), some (88, false)⟩, ⟨some 92, .load1 (.r 91), some (88, false)⟩, ⟨some 93, .len .slice (.r 92), some (88, false)⟩, ⟨some 94, .bin .add (.c (.int .i64 (.ofNat 35))) (.r 93), some (88, false)⟩, ⟨some 95, .bin .neq (.r 90) (.r 94), some (88, false)⟩, ⟨some 96, .pick (.r 88) (.c (.bool true)) (.r 95), none⟩]) 
 (.cond (.r 96) (.seq
  (.ops [⟨some 6, .mv (.c (.bool false)), none⟩]) 
 .ret) .skip)) 
 (.seq
  (.ops [⟨some 98, .mv (.r 8), none⟩, ⟨some 99, .call 16 [.r 98], none⟩, ⟨some 97, .mv (.r 99), none⟩, ⟨some 100, .extract 0 (.r 97), none⟩, ⟨some 101, .extract 1 (.r 97), none⟩, ⟨some 10, .alloc [.int .u8 (.ofNat 0), .int .u64 (.ofNat 0), .int .u64 (.ofNat 0), .int .u32 (.ofNat 0), .int .u32 (.ofNat 0), .int .u32 (.ofNat 0), .nilslice], none⟩, ⟨none, .store 7 (.r 10) (.r 100), none⟩, ⟨some 9, .mv (.r 101), none⟩]) 
 (.seq
  (.seq
  (.ops [⟨some 102, .mv (.r 9), none⟩, ⟨some 103, .bin .neq (.r 102) (.c (.int .i64 (.ofNat 0))), none⟩, ⟨some 104, .mv (.r 103), none⟩, ⟨some 105, .fieldAt 0 (.r 10), some (104, false)⟩, ⟨some 106, .load1 (.r 105), some (104, false)⟩, ⟨some 107, .fieldAt 0 (.r 3), some (104, false)⟩, ⟨some 108, .load1 (.r 107), some (104, false)⟩, ⟨some 109, .bin .neq (.r 106) (.r 108), some (104, false)⟩, ⟨some 110, .pick (.r 104) (.c (.bool true)) (.r 109), none⟩, ⟨some 111, .mv (.r 110), none⟩, ⟨some 112, .fieldAt 1 (.r 10), some (111, false)⟩, ⟨some 113, .load1 (.r 112), some (111, false)⟩, ⟨some 114, .fieldAt 1 (.r 3), some (111, false)⟩, ⟨some 115, .load1 (.r 114), some (111, false)⟩, ⟨some 116, .bin .neq (.r 113) (.r 115), some (111, false)⟩, ⟨some 117, .pick (.r 111) (.c (.bool true)) (.r 116), none⟩, ⟨some 118, .mv (.r 117), none⟩, ⟨some 119, .fieldAt 2 (.r 10), some (118, false)⟩, ⟨some 120, .load1 (.r 119), some (118, false)⟩, ⟨some 121, .fieldAt 2 (.r 3), some (118, false)⟩, ⟨some 122, .load1 (.r 121), some (118, false)⟩, ⟨some 123, .bin .neq (.r 120) (.r 122), some (118, false)⟩, ⟨some 124, .pick (.r 118) (.c (.bool true)) (.r 123), none⟩, ⟨some 125, .mv (.r 124), none⟩, ⟨some 126, .fieldAt 3 (.r 10), some (125, false)⟩, ⟨some 127, .load1 (.r 126), some (125, false)⟩, ⟨some 128, .fieldAt 3 (.r 3), some (125, false)⟩, ⟨some 129, .load1 (.r 128), some (125, false)⟩, ⟨some 130, .bin .neq (.r 127) (.r 129), some (125, false)⟩, ⟨some 131, .pick (.r 125) (.c (.bool true)) (.r 130), none⟩, ⟨some 132, .mv (.r 131), none⟩, ⟨some 133, .fieldAt 4 (.r 10), some (132, false)⟩, ⟨some 134, .load1 (.r 133), some (132, false)⟩, ⟨some 135, .fieldAt 4 (.r 3), some (132, false)⟩, ⟨some 136, .load1 (.r 135), some (132, false)⟩, ⟨some 137, .bin .neq (.r 134) (.r 136), some (132, false)⟩, ⟨some 138, .pick (.r 132) (.c (.bool true)) (.r 137), none⟩, ⟨some 139, .mv (.r 138), none⟩, ⟨some 140, .fieldAt 5 (.r 10), some (139, false)⟩, ⟨some 141, .load1 (.r 140), some (139, false)⟩, ⟨some 142, .fieldAt 5 (.r 3), some (139, false)⟩, ⟨some 143, .load1 (.r 142), some (139, false)⟩, ⟨some 144, .bin .neq (.r 141) (.r 143), some (139, false)⟩, ⟨some 145, .pick (.r 139) (.c (.bool true)) (.r 144), none⟩, ⟨some 146, .mv (.r 145), none⟩, ⟨some 147, .fieldAt 6 (.r 10), some (146, false)⟩, ⟨some 148, .load1 (.r 147), some (146, false)⟩, ⟨some 149, .strOf (.r 148), some (146, false)⟩, ⟨some 150, .fieldAt 6 (.r 3), some (146, false)⟩, ⟨some 151, .load1 (.r 150), some (146, false)⟩, ⟨some 152, .strOf (.r 151), some (146, false)⟩, ⟨some 153, .bin .neq (.r 149) (.r 152), some (146, false)⟩, ⟨some 154, .pick (.r 146) (.c (.bool true)) (.r 153), none⟩]) 
 (.cond (.r 154) (.seq
  (.ops [⟨some 6, .mv (.c (.bool false)), none⟩]) 
 .ret) .skip)) 
 (.seq
  (.ops [⟨some 155, .mv (.r 1), none⟩, ⟨some 156, .toInt .i64 (.r 155), none⟩, ⟨some 157, .mv (.r 8), none⟩, ⟨some 158, .len .slice (.r 157), none⟩, ⟨some 159, .bin .rem (.r 156) (.r 158), none⟩, ⟨some 11, .mv (.r 159), none⟩]) 
 (.seq
  (.ops [⟨some 161, .mv (.r 7), none⟩, ⟨some 162, .mv (.r 11), none⟩, ⟨some 163, .sliceStr (.r 161) none (some (.r 162)), none⟩, ⟨some 164, .bytesOf (.r 163), none⟩, ⟨some 165, .call 16 [.r 164], none⟩, ⟨some 160, .mv (.r 165), none⟩, ⟨some 166, .extract 0 (.r 160), none⟩, ⟨some 167, .extract 1 (.r 160), none⟩, ⟨some 9, .mv (.r 167), none⟩]) 
 (.seq
  (.ops [⟨some 169, .mv (.r 7), none⟩, ⟨some 170, .bytesOf (.r 169), none⟩, ⟨some 171, .mv (.r 2), none⟩, ⟨some 172, .buildSlice 1 1 [.int .u8 (.ofNat 0)] [(0, (1, .r 171))], none⟩, ⟨some 173, .append 1 1 (.r 170) (.r 172), none⟩, ⟨some 174, .call 16 [.r 173], none⟩, ⟨some 168, .mv (.r 174), none⟩, ⟨some 175, .extract 0 (.r 168), none⟩, ⟨some 176, .extract 1 (.r 168), none⟩, ⟨some 12, .alloc [.int .u8 (.ofNat 0), .int .u64 (.ofNat 0), .int .u64 (.ofNat 0), .int .u32 (.ofNat 0), .int .u32 (.ofNat 0), .int .u32 (.ofNat 0), .nilslice], none⟩, ⟨none, .store 7 (.r 12) (.r 175), none⟩, ⟨some 13, .mv (.r 176), none⟩]) 
 (.seq
  (.ops [⟨some 177, .mv (.r 8), none⟩, ⟨some 178, .mv (.r 11), none⟩, ⟨some 179, .indexSl 1 (.r 177) (.r 178), none⟩, ⟨some 180, .load1 (.r 179), none⟩, ⟨some 181, .mv (.r 2), none⟩, ⟨some 182, .bin .or (.r 181) (.c (.int .u8 (.ofNat 1))), none⟩, ⟨some 183, .bin .xor (.r 180) (.r 182), none⟩, ⟨some 184, .indexSl 1 (.r 177) (.r 178), none⟩, ⟨none, .store 1 (.r 184) (.r 183), none⟩]) 
 (.seq
  (.ops [⟨some 186, .mv (.r 8), none⟩, ⟨some 187, .call 16 [.r 186], none⟩, ⟨some 185, .mv (.r 187), none⟩, ⟨some 188, .extract 0 (.r 185), none⟩, ⟨some 189, .extract 1 (.r 185), none⟩, ⟨some 14, .alloc [.int .u8 (.ofNat 0), .int .u64 (.ofNat 0), .int .u64 (.ofNat 0), .int .u32 (.ofNat 0), .int .u32 (.ofNat 0), .int .u32 (.ofNat 0), .nilslice], none⟩, ⟨none, .store 7 (.r 14) (.r 188), none⟩, ⟨some 15, .mv (.r 189), none⟩]) 
 (.seq
  (.ops [⟨some 190, .mv (.r 9), none⟩, ⟨some 191, .bin .eql (.r 190) (.c (.int .i64 (.ofNat 10))), none⟩, ⟨some 192, .mv (.r 191), none⟩, ⟨some 193, .mv (.r 13), some (192, true)⟩, ⟨some 194, .bin .eql (.r 193) (.c (.int .i64 (.ofNat 15))), some (192, true)⟩, ⟨some 195, .pick (.r 192) (.r 194) (.c (.bool false)), none⟩, ⟨some 196, .mv (.r 195), none⟩, ⟨some 197, .mv (.r 15), some (196, true)⟩, ⟨some 198, .bin .neq (.r 197) (.c (.int .i64 (.ofNat 0))), some (196, true)⟩, ⟨some 199, .pick (.r 196) (.r 198) (.c (.bool false)), none⟩, ⟨some 6, .mv (.r 199), none⟩]) 
 .ret))))))))))))))⟩
def c5 : AF := ⟨282, [.reg 6], .seq
  (.ops [⟨some 6, .mv (.c (.bool false)), none⟩]) 
 (.seq
  (.ops [⟨some 31, .mv (.r 0), none⟩, ⟨some 32, .mv (.r 0), none⟩, ⟨some 33, .len .slice (.r 32), none⟩, ⟨some 34, .maxmin false (.r 33) [.c (.int .i64 (.ofNat 300))], none⟩, ⟨some 35, .sliceSl 1 false (.r 31) none (some (.r 34)) none, none⟩, ⟨some 0, .mv (.r 35), none⟩]) 
 (.seq
  (.ops [⟨some 36, .mv (.r 1), none⟩, ⟨some 37, .toInt .i64 (.r 36), none⟩, ⟨some 38, .bin .add (.c (.int .i64 (.ofNat 1))) (.r 37), none⟩, ⟨some 7, .mv (.r 38), none⟩]) 
 (.seq
  (.ops [⟨some 40, .mv (.r 0), none⟩, ⟨some 41, .len .slice (.r 40), none⟩, ⟨some 42, .mv (.r 7), none⟩, ⟨some 43, .call 17 [.r 41, .r 42], none⟩, ⟨some 39, .mv (.r 43), none⟩, ⟨some 44, .extract 0 (.r 39), none⟩, ⟨some 45, .extract 1 (.r 39), none⟩, ⟨some 8, .mv (.r 44), none⟩, ⟨some 9, .mv (.r 45), none⟩]) 
 (.seq
  (.seq
  (.ops [⟨some 46, .call 12 [], none⟩, ⟨some 47, .un .not (.r 46), none⟩, ⟨some 48, .mv (.r 47), none⟩, ⟨some 49, .mv (.r 9), some (48, false)⟩, ⟨some 50, .bin .neq (.r 49) (.c (.int .i64 (.ofNat 0))), some (48, false)⟩, ⟨some 51, .pick (.r 48) (.c (.bool true)) (.r 50), none⟩]) 
 (.cond (.r 51) (.seq
  (.ops [⟨some 6, .mv (.c (.bool false)), none⟩]) 
 .ret) .skip)) 
 (.seq
  (.ops [⟨some 52, .mv (.r 0), none⟩, ⟨some 53, .len .slice (.r 52), none⟩, ⟨some 54, .mv (.r 7), none⟩, ⟨some 55, .bin .add (.r 53) (.r 54), none⟩, ⟨some 56, .bin .sub (.r 55) (.c (.int .i64 (.ofNat 1))), none⟩, ⟨some 57, .mv (.r 7), none⟩, ⟨some 58, .bin .quo (.r 56) (.r 57), none⟩, ⟨some 59, .makeSlice 1 1 [.bool false] (.r 58) (.r 58), none⟩, ⟨some 10, .mv (.r 59), none⟩]) 
 (.seq
  (.seq
  (.ops [⟨some 60, .mv (.r 2), none⟩, ⟨some 61, .mv (.r 2), none⟩, ⟨some 62, .len .slice (.r 61), none⟩, ⟨some 63, .maxmin false (.r 62) [.c (.int .i64 (.ofNat 80))], none⟩, ⟨some 64, .sliceSl 4 false (.r 60) none (some (.r 63)) none, none⟩, ⟨some 65, .len .slice (.r 64), none⟩, ⟨some 66, .mv (.c (.int .i64 (.ofNat 0))), none⟩]) 
 (.block 0 (.loop (.seq
  (.ops [⟨some 67, .bin .lss (.r 66) (.r 65), none⟩]) 
 (.seq
  (.cond (.r 67) .skip (.exit 0)) 
 (.seq
  (.block 1 (.seq
  (.ops [⟨some 68, .indexSl 4 (.r 64) (.r 66), none⟩, ⟨some 69, .loadN 4 (.r 68), none⟩, ⟨some 12, .alloc [.int .u8 (.ofNat 0), .int .u8 (.ofNat 0), .int .u8 (.ofNat 0), .int .u16 (.ofNat 0)], none⟩, ⟨none, .store 4 (.r 12) (.r 69), none⟩]) 
 (.seq
  (.ops [⟨some 70, .fieldAt 1 (.r 12), none⟩, ⟨some 71, .load1 (.r 70), none⟩, ⟨some 72, .toInt .i64 (.r 71), none⟩, ⟨some 73, .mv (.r 10), none⟩, ⟨some 74, .len .slice (.r 73), none⟩, ⟨some 75, .bin .add (.r 74) (.c (.int .i64 (.ofNat 2))), none⟩, ⟨some 76, .bin .rem (.r 72) (.r 75), none⟩, ⟨some 77, .bin .sub (.r 76) (.c (.int .i64 (.ofNat 1))), none⟩, ⟨some 13, .mv (.r 77), none⟩]) 
 (.seq
  (.ops [⟨some 14, .mv (.c .nilslice), none⟩]) 
 (.seq
  (.ops [⟨some 78, .mv (.r 13), none⟩, ⟨some 79, .bin .geq (.r 78) (.c (.int .i64 (.ofNat 0))), none⟩, ⟨some 80, .mv (.r 79), none⟩, ⟨some 81, .mv (.r 13), some (80, true)⟩, ⟨some 82, .mv (.r 10), some (80, true)⟩, ⟨some 83, .len .slice (.r 82), some (80, true)⟩, ⟨some 84, .bin .lss (.r 81) (.r 83), some (80, true)⟩, ⟨some 85, .pick (.r 80) (.r 84) (.c (.bool false)), none⟩, ⟨some 15, .mv (.r 85), none⟩]) 
 (.seq
  (.seq
  (.ops [⟨some 86, .mv (.r 15), none⟩]) 
 (.cond (.r 86) (.ops [⟨some 87, .buildSlice 1 0 [.int .u8 (.ofNat 0)] [], none⟩, ⟨some 88, .mv (.r 0), none⟩, ⟨some 89, .mv (.r 13), none⟩, ⟨some 90, .mv (.r 7), none⟩, ⟨some 91, .bin .mul (.r 89) (.r 90), none⟩, ⟨some 92, .mv (.r 13), none⟩, ⟨some 93, .mv (.r 7), none⟩, ⟨some 94, .bin .mul (.r 92) (.r 93), none⟩, ⟨some 95, .mv (.r 7), none⟩, ⟨some 96, .bin .add (.r 94) (.r 95), none⟩, ⟨some 97, .mv (.r 0), none⟩, ⟨some 98, .len .slice (.r 97), none⟩, ⟨some 99, .maxmin false (.r 96) [.r 98], none⟩, ⟨some 100, .sliceSl 1 true (.r 88) (some (.r 91)) (some (.r 99)) none, none⟩, ⟨some 101, .append 1 1 (.r 87) (.r 100), none⟩, ⟨some 14, .mv (.r 101), none⟩]) .skip)) 
 (.seq
  (.ops [⟨some 16, .mv (.c (.int .i64 (.ofNat 0))), none⟩]) 
 (.seq
  (.block 2 (.seq
  (.ops [⟨some 103, .mv (.r 15), none⟩, ⟨some 104, .un .not (.r 103), none⟩, ⟨some 102, .mv (.r 104), none⟩]) 
 (.cond (.r 102) (.ops [⟨some 16, .mv (.c (.int .i64 (.ofNat 17))), none⟩]) (.seq
  (.ops [⟨some 106, .fieldAt 0 (.r 12), none⟩, ⟨some 107, .load1 (.r 106), none⟩, ⟨some 108, .bin .rem (.r 107) (.c (.int .u8 (.ofNat 6))), none⟩, ⟨some 109, .bin .eql (.r 108) (.c (.int .u8 (.ofNat 0))), none⟩, ⟨some 105, .mv (.r 109), none⟩]) 
 (.cond (.r 105) (.ops [⟨some 110, .mv (.r 14), none⟩, ⟨some 111, .buildSlice 1 1 [.int .u8 (.ofNat 0)] [(0, (1, .c (.int .u8 (.ofNat 0))))], none⟩, ⟨some 112, .append 1 1 (.r 110) (.r 111), none⟩, ⟨some 14, .mv (.r 112), none⟩, ⟨some 16, .mv (.c (.int .i64 (.ofNat 11))), none⟩]) (.seq
  (.ops [⟨some 114, .fieldAt 0 (.r 12), none⟩, ⟨some 115, .load1 (.r 114), none⟩, ⟨some 116, .bin .rem (.r 115) (.c (.int .u8 (.ofNat 6))), none⟩, ⟨some 117, .bin .eql (.r 116) (.c (.int .u8 (.ofNat 1))), none⟩, ⟨some 113, .mv (.r 117), none⟩]) 
 (.cond (.r 113) (.ops [⟨some 118, .mv (.r 14), none⟩, ⟨some 119, .sliceSl 1 true (.r 118) (some (.c (.int .i64 (.ofNat 1)))) none none, none⟩, ⟨some 14, .mv (.r 119), none⟩, ⟨some 16, .mv (.c (.int .i64 (.ofNat 11))), none⟩]) (.seq
  (.ops [⟨some 121, .fieldAt 0 (.r 12), none⟩, ⟨some 122, .load1 (.r 121), none⟩, ⟨some 123, .bin .rem (.r 122) (.c (.int .u8 (.ofNat 6))), none⟩, ⟨some 124, .bin .eql (.r 123) (.c (.int .u8 (.ofNat 2))), none⟩, ⟨some 125, .mv (.r 124), none⟩, ⟨some 126, .mv (.r 10), some (125, true)⟩, ⟨some 127, .mv (.r 13), some (125, true)⟩, ⟨some 128, .indexSl 1 (.r 126) (.r 127), some (125, true)⟩, ⟨some 129, .load1 (.r 128), some (125, true)⟩, ⟨some 130, .pick (.r 125) (.r 129) (.c (.bool false)), none⟩, ⟨some 120, .mv (.r 130), none⟩]) 
 (.cond (.r 120) (.ops [⟨some 131, .mv (.r 14), none⟩, ⟨some 132, .indexSl 1 (.r 131) (.c (.int .i64 (.ofNat 0))), none⟩, ⟨some 133, .load1 (.r 132), none⟩, ⟨some 134, .bin .add (.r 133) (.c (.int .u8 (.ofNat 1))), none⟩, ⟨some 135, .indexSl 1 (.r 131) (.c (.int .i64 (.ofNat 0))), none⟩, ⟨none, .store 1 (.r 135) (.r 134), none⟩]) .skip))))))))) 
 (.seq
  (.ops [⟨some 137, .mv (.r 8), none⟩, ⟨some 138, .mv (.r 13), none⟩, ⟨some 139, .mv (.r 14), none⟩, ⟨some 140, .call 18 [.r 137, .r 138, .r 139], none⟩, ⟨some 136, .mv (.r 140), none⟩, ⟨some 141, .extract 0 (.r 136), none⟩, ⟨some 142, .extract 1 (.r 136), none⟩, ⟨some 17, .mv (.r 141), none⟩, ⟨some 18, .mv (.r 142), none⟩]) 
 (.seq
  (.seq
  (.ops [⟨some 143, .mv (.r 18), none⟩, ⟨some 144, .mv (.r 16), none⟩, ⟨some 145, .bin .neq (.r 143) (.r 144), none⟩, ⟨some 146, .mv (.r 145), none⟩, ⟨some 147, .mv (.r 17), some (146, false)⟩, ⟨some 148, .mv (.r 16), some (146, false)⟩, ⟨some 149, .bin .eql (.r 148) (.c (.int .i64 (.ofNat 0))), some (146, false)⟩, ⟨some 150, .mv (.r 149), some (146, false)⟩, ⟨some 151, .mv (.r 10), some (150, true)⟩, ⟨some 152, .mv (.r 13), some (150, true)⟩, ⟨some 153, .indexSl 1 (.r 151) (.r 152), some (150, true)⟩, ⟨some 154, .load1 (.r 153), some (150, true)⟩, ⟨some 155, .un .not (.r 154), some (150, true)⟩, ⟨some 156, .pick (.r 150) (.r 155) (.c (.bool false)), some (146, false)⟩, ⟨some 157, .eql true [.bool] false (.r 147) (.r 156), some (146, false)⟩, ⟨some 158, .pick (.r 146) (.c (.bool true)) (.r 157), none⟩]) 
 (.cond (.r 158) (.seq
  (.ops [⟨some 6, .mv (.c (.bool false)), none⟩]) 
 .ret) .skip)) 
 (.seq
  (.seq
  (.ops [⟨some 159, .mv (.r 17), none⟩]) 
 (.cond (.r 159) (.ops [⟨some 160, .mv (.r 10), none⟩, ⟨some 161, .mv (.r 13), none⟩, ⟨some 162, .indexSl 1 (.r 160) (.r 161), none⟩, ⟨none, .store 1 (.r 162) (.c (.bool true)), none⟩]) .skip)) 
 (.seq
  (.ops [⟨some 19, .mv (.c .nilslice), none⟩]) 
 (.seq
  (.seq
  (.ops [⟨some 163, .mv (.r 10), none⟩, ⟨some 164, .len .slice (.r 163), none⟩, ⟨some 165, .mv (.c (.int .i64 (.ofNat 0))), none⟩]) 
 (.block 3 (.loop (.seq
  (.ops [⟨some 166, .bin .lss (.r 165) (.r 164), none⟩]) 
 (.seq
  (.cond (.r 166) .skip (.exit 3)) 
 (.seq
  (.block 4 (.seq
  (.ops [⟨some 167, .mv (.r 165), none⟩, ⟨some 168, .indexSl 1 (.r 163) (.r 165), none⟩, ⟨some 169, .load1 (.r 168), none⟩, ⟨some 20, .mv (.r 167), none⟩, ⟨some 21, .mv (.r 169), none⟩]) 
 (.seq
  (.ops [⟨some 170, .mv (.r 21), none⟩, ⟨some 171, .un .not (.r 170), none⟩, ⟨some 172, .mv (.r 171), none⟩, ⟨some 173, .mv (.r 19), some (172, true)⟩, ⟨some 174, .len .slice (.r 173), some (172, true)⟩, ⟨some 175, .fieldAt 2 (.r 12), some (172, true)⟩, ⟨some 176, .load1 (.r 175), some (172, true)⟩, ⟨some 177, .bin .rem (.r 176) (.c (.int .u8 (.ofNat 9))), some (172, true)⟩, ⟨some 178, .toInt .i64 (.r 177), some (172, true)⟩, ⟨some 179, .bin .lss (.r 174) (.r 178), some (172, true)⟩, ⟨some 180, .pick (.r 172) (.r 179) (.c (.bool false)), none⟩]) 
 (.cond (.r 180) (.ops [⟨some 181, .mv (.r 19), none⟩, ⟨some 182, .mv (.r 20), none⟩, ⟨some 183, .buildSlice 1 1 [.int .i64 (.ofNat 0)] [(0, (1, .r 182))], none⟩, ⟨some 184, .append 1 8 (.r 181) (.r 183), none⟩, ⟨some 19, .mv (.r 184), none⟩]) .skip)))) 
 (.ops [⟨some 185, .bin .add (.r 165) (.c (.int .i64 (.ofNat 1))), none⟩, ⟨some 165, .mv (.r 185), none⟩]))))))) 
 (.seq
  (.ops [⟨some 186, .mv (.r 8), none⟩, ⟨some 187, .call 19 [.r 186], none⟩, ⟨some 22, .mv (.r 187), none⟩]) 
 (.seq
  (.ops [⟨some 188, .mv (.r 22), none⟩, ⟨some 189, .fieldAt 2 (.r 12), none⟩, ⟨some 190, .load1 (.r 189), none⟩, ⟨some 191, .bin .rem (.r 190) (.c (.int .u8 (.ofNat 9))), none⟩, ⟨some 192, .toInt .i64 (.r 191), none⟩, ⟨some 193, .call 20 [.r 188, .r 192], none⟩, ⟨some 23, .mv (.r 193), none⟩]) 
 (.seq
  (.seq
  (.ops [⟨some 194, .mv (.r 22), none⟩, ⟨some 195, .len .slice (.r 194), none⟩, ⟨some 196, .mv (.r 10), none⟩, ⟨some 197, .len .slice (.r 196), none⟩, ⟨some 198, .bin .neq (.r 195) (.r 197), none⟩, ⟨some 199, .mv (.r 198), none⟩, ⟨some 200, .mv (.r 23), some (199, false)⟩, ⟨some 201, .len .slice (.r 200), some (199, false)⟩, ⟨some 202, .mv (.r 19), some (199, false)⟩, ⟨some 203, .len .slice (.r 202), some (199, false)⟩, ⟨some 204, .bin .neq (.r 201) (.r 203), some (199, false)⟩, ⟨some 205, .pick (.r 199) (.c (.bool true)) (.r 204), none⟩, ⟨some 206, .mv (.r 205), none⟩, ⟨some 207, .mv (.r 8), some (206, false)⟩, ⟨some 208, .call 21 [.r 207], some (206, false)⟩, ⟨some 209, .mv (.r 10), some (206, false)⟩, ⟨some 210, .len .slice (.r 209), some (206, false)⟩, ⟨some 211, .bin .neq (.r 208) (.r 210), some (206, false)⟩, ⟨some 212, .pick (.r 206) (.c (.bool true)) (.r 211), none⟩]) 
 (.cond (.r 212) (.seq
  (.ops [⟨some 6, .mv (.c (.bool false)), none⟩]) 
 .ret) .skip)) 
 (.seq
  (.seq
  (.ops [⟨some 213, .mv (.r 22), none⟩, ⟨some 214, .len .slice (.r 213), none⟩, ⟨some 215, .mv (.c (.int .i64 (.ofNat 0))), none⟩]) 
 (.block 5 (.loop (.seq
  (.ops [⟨some 216, .bin .lss (.r 215) (.r 214), none⟩]) 
 (.seq
  (.cond (.r 216) .skip (.exit 5)) 
 (.seq
  (.block 6 (.seq
  (.ops [⟨some 217, .mv (.r 215), none⟩, ⟨some 24, .mv (.r 217), none⟩]) 
 (.seq
  (.ops [⟨some 218, .mv (.r 22), none⟩, ⟨some 219, .mv (.r 24), none⟩, ⟨some 220, .indexSl 1 (.r 218) (.r 219), none⟩, ⟨some 221, .load1 (.r 220), none⟩, ⟨some 222, .mv (.r 10), none⟩, ⟨some 223, .mv (.r 24), none⟩, ⟨some 224, .indexSl 1 (.r 222) (.r 223), none⟩, ⟨some 225, .load1 (.r 224), none⟩, ⟨some 226, .eql true [.bool] false (.r 221) (.r 225), none⟩]) 
 (.cond (.r 226) (.seq
  (.ops [⟨some 6, .mv (.c (.bool false)), none⟩]) 
 .ret) .skip)))) 
 (.ops [⟨some 227, .bin .add (.r 215) (.c (.int .i64 (.ofNat 1))), none⟩, ⟨some 215, .mv (.r 227), none⟩]))))))) 
 (.seq
  (.ops [⟨some 228, .mv (.r 23), none⟩, ⟨some 229, .len .slice (.r 228), none⟩, ⟨some 230, .mv (.c (.int .i64 (.ofNat 0))), none⟩]) 
 (.block 7 (.loop (.seq
  (.ops [⟨some 231, .bin .lss (.r 230) (.r 229), none⟩]) 
 (.seq
  (.cond (.r 231) .skip (.exit 7)) 
 (.seq
  (.block 8 (.seq
  (.ops [⟨some 232, .mv (.r 230), none⟩, ⟨some 25, .mv (.r 232), none⟩]) 
 (.seq
  (.ops [⟨some 233, .mv (.r 23), none⟩, ⟨some 234, .mv (.r 25), none⟩, ⟨some 235, .indexSl 1 (.r 233) (.r 234), none⟩, ⟨some 236, .load1 (.r 235), none⟩, ⟨some 237, .mv (.r 19), none⟩, ⟨some 238, .mv (.r 25), none⟩, ⟨some 239, .indexSl 1 (.r 237) (.r 238), none⟩, ⟨some 240, .load1 (.r 239), none⟩, ⟨some 241, .bin .neq (.r 236) (.r 240), none⟩]) 
 (.cond (.r 241) (.seq
  (.ops [⟨some 6, .mv (.c (.bool false)), none⟩]) 
 .ret) .skip)))) 
 (.ops [⟨some 242, .bin .add (.r 230) (.c (.int .i64 (.ofNat 1))), none⟩, ⟨some 230, .mv (.r 242), none⟩])))))))))))))))))))))))) 
 (.ops [⟨some 243, .bin .add (.r 66) (.c (.int .i64 (.ofNat 1))), none⟩, ⟨some 66, .mv (.r 243), none⟩]))))))) 
 (.seq
  (.ops [⟨some 26, .mv (.c (.bool true)), none⟩]) 
 (.seq
  (.seq
  (.ops [⟨some 244, .mv (.r 10), none⟩, ⟨some 245, .len .slice (.r 244), none⟩, ⟨some 246, .mv (.c (.int .i64 (.ofNat 0))), none⟩]) 
 (.block 9 (.loop (.seq
  (.ops [⟨some 247, .bin .lss (.r 246) (.r 245), none⟩]) 
 (.seq
  (.cond (.r 247) .skip (.exit 9)) 
 (.seq
  (.block 10 (.seq
  (.ops [⟨some 248, .indexSl 1 (.r 244) (.r 246), none⟩, ⟨some 249, .load1 (.r 248), none⟩, ⟨some 28, .mv (.r 249), none⟩]) 
 (.ops [⟨some 250, .mv (.r 26), none⟩, ⟨some 251, .mv (.r 250), none⟩, ⟨some 252, .mv (.r 28), some (251, true)⟩, ⟨some 253, .pick (.r 251) (.r 252) (.c (.bool false)), none⟩, ⟨some 26, .mv (.r 253), none⟩]))) 
 (.ops [⟨some 254, .bin .add (.r 246) (.c (.int .i64 (.ofNat 1))), none⟩, ⟨some 246, .mv (.r 254), none⟩]))))))) 
 (.seq
  (.ops [⟨some 256, .mv (.r 8), none⟩, ⟨some 257, .call 22 [.r 256], none⟩, ⟨some 255, .mv (.r 257), none⟩, ⟨some 258, .extract 0 (.r 255), none⟩, ⟨some 259, .extract 1 (.r 255), none⟩, ⟨some 29, .mv (.r 258), none⟩, ⟨some 30, .mv (.r 259), none⟩]) 
 (.seq
  (.ops [⟨some 260, .mv (.r 30), none⟩, ⟨some 261, .mv (.r 26), none⟩, ⟨some 262, .eql false [.bool] false (.r 260) (.r 261), none⟩, ⟨some 263, .mv (.r 262), none⟩, ⟨some 264, .mv (.r 26), some (263, true)⟩, ⟨some 265, .un .not (.r 264), some (263, true)⟩, ⟨some 266, .mv (.r 265), some (263, true)⟩, ⟨some 267, .mv (.r 29), some (266, false)⟩, ⟨some 268, .strOf (.r 267), some (266, false)⟩, ⟨some 269, .mv (.r 0), some (266, false)⟩, ⟨some 270, .strOf (.r 269), some (266, false)⟩, ⟨some 271, .bin .eql (.r 268) (.r 270), some (266, false)⟩, ⟨some 272, .pick (.r 266) (.c (.bool true)) (.r 271), some (263, true)⟩, ⟨some 273, .pick (.r 263) (.r 272) (.c (.bool false)), none⟩, ⟨some 274, .mv (.r 273), none⟩, ⟨some 275, .mv (.r 26), some (274, true)⟩, ⟨some 276, .mv (.r 275), some (274, true)⟩, ⟨some 277, .mv (.r 29), some (276, false)⟩, ⟨some 278, .len .slice (.r 277), some (276, false)⟩, ⟨some 279, .bin .eql (.r 278) (.c (.int .i64 (.ofNat 0))), some (276, false)⟩, ⟨some 280, .pick (.r 276) (.c (.bool true)) (.r 279), some (274, true)⟩, ⟨some 281, .pick (.r 274) (.r 280) (.c (.bool false)), none⟩, ⟨some 6, .mv (.r 281), none⟩]) 
 .ret))))))))))⟩
def c6 : AF := ⟨181, [.reg 6], .seq
  (.ops [⟨some 6, .mv (.c (.bool false)), none⟩]) 
 (.seq
  (.ops [⟨some 7, .mv (.c (.str [])), none⟩]) 
 (.seq
  (.ops [⟨some 8, .mv (.c .nilslice), none⟩]) 
 (.seq
  (.seq
  (.ops [⟨some 28, .mv (.r 0), none⟩, ⟨some 29, .mv (.r 0), none⟩, ⟨some 30, .len .slice (.r 29), none⟩, ⟨some 31, .maxmin false (.r 30) [.c (.int .i64 (.ofNat 20))], none⟩, ⟨some 32, .sliceSl 4 false (.r 28) none (some (.r 31)) none, none⟩, ⟨some 33, .len .slice (.r 32), none⟩, ⟨some 34, .mv (.c (.int .i64 (.ofNat 0))), none⟩]) 
 (.block 0 (.loop (.seq
  (.ops [⟨some 35, .bin .lss (.r 34) (.r 33), none⟩]) 
 (.seq
  (.cond (.r 35) .skip (.exit 0)) 
 (.seq
  (.block 1 (.seq
  (.ops [⟨some 36, .indexSl 4 (.r 32) (.r 34), none⟩, ⟨some 37, .loadN 4 (.r 36), none⟩, ⟨some 10, .alloc [.int .u8 (.ofNat 0), .int .u8 (.ofNat 0), .int .u8 (.ofNat 0), .int .u16 (.ofNat 0)], none⟩, ⟨none, .store 4 (.r 10) (.r 37), none⟩]) 
 (.seq
  (.ops [⟨some 38, .fieldAt 0 (.r 10), none⟩, ⟨some 39, .load1 (.r 38), none⟩, ⟨some 40, .bin .rem (.r 39) (.c (.int .u8 (.ofNat 2))), none⟩, ⟨some 41, .bin .add (.c (.int .u8 (.ofNat 1))) (.r 40), none⟩, ⟨some 42, .fieldAt 3 (.r 10), none⟩, ⟨some 43, .load1 (.r 42), none⟩, ⟨some 44, .toInt .u64 (.r 43), none⟩, ⟨some 45, .fieldAt 1 (.r 10), none⟩, ⟨some 46, .load1 (.r 45), none⟩, ⟨some 47, .bin .rem (.r 46) (.c (.int .u8 (.ofNat 48))), none⟩, ⟨some 48, .bin .shl (.r 44) (.r 47), none⟩, ⟨some 49, .fieldAt 2 (.r 10), none⟩, ⟨some 50, .load1 (.r 49), none⟩, ⟨some 51, .toInt .u64 (.r 50), none⟩, ⟨some 52, .bin .add (.r 48) (.r 51), none⟩, ⟨some 53, .build [.int .u8 (.ofNat 0), .int .u64 (.ofNat 0)] [(0, (1, .r 41)), (1, (1, .r 52))], none⟩, ⟨some 11, .alloc [.int .u8 (.ofNat 0), .int .u64 (.ofNat 0)], none⟩, ⟨none, .store 2 (.r 11) (.r 53), none⟩]) 
 (.seq
  (.ops [⟨some 55, .loadN 2 (.r 11), none⟩, ⟨some 56, .call 23 [.r 55], none⟩, ⟨some 54, .mv (.r 56), none⟩, ⟨some 57, .extract 0 (.r 54), none⟩, ⟨some 58, .extract 1 (.r 54), none⟩, ⟨some 12, .mv (.r 57), none⟩, ⟨some 13, .mv (.r 58), none⟩]) 
 (.seq
  (.seq
  (.multi [(0, ⟨some 59, .mv (.r 13), none⟩), (0, ⟨some 60, .bin .neq (.r 59) (.c (.int .i64 (.ofNat 0))), none⟩), (0, ⟨some 61, .mv (.r 60), none⟩), (0, ⟨some 62, .mv (.r 12), some (61, false)⟩), (1, ⟨some 63, .strOf (.r 62), some (61, false)⟩), (0, ⟨some 64, .fieldAt 0 (.r 11), some (61, false)⟩), (5, ⟨some 65, .load1 (.r 64), some (61, false)⟩), (0, ⟨some 66, .fieldAt 1 (.r 11), some (61, false)⟩), (5, ⟨some 67, .load1 (.r 66), some (61, false)⟩), (4, ⟨some 68, .call 24 [.r 65, .r 67], some (61, false)⟩), (0, ⟨some 69, .bin .neq (.r 63) (.r 68), some (61, false)⟩), (0, ⟨some 70, .pick (.r 61) (.c (.bool true)) (.r 69), none⟩)] [(4, 9)]) 
 (.cond (.r 70) (.seq
  (.ops [⟨some 6, .mv (.c (.bool false)), none⟩]) 
 .ret) .skip)) 
 (.seq
  (.ops [⟨some 71, .mv (.r 7), none⟩, ⟨some 72, .mv (.r 12), none⟩, ⟨some 73, .strOf (.r 72), none⟩, ⟨some 74, .bin .add (.r 71) (.r 73), none⟩, ⟨some 7, .mv (.r 74), none⟩]) 
 (.ops [⟨some 75, .mv (.r 8), none⟩, ⟨some 76, .loadN 2 (.r 11), none⟩, ⟨some 77, .buildSlice 2 1 [.int .u8 (.ofNat 0), .int .u64 (.ofNat 0)] [(0, (2, .r 76))], none⟩, ⟨some 78, .append 2 16 (.r 75) (.r 77), none⟩, ⟨some 8, .mv (.r 78), none⟩]))))))) 
 (.ops [⟨some 79, .bin .add (.r 34) (.c (.int .i64 (.ofNat 1))), none⟩, ⟨some 34, .mv (.r 79), none⟩]))))))) 
 (.seq
  (.ops [⟨some 80, .mv (.r 1), none⟩, ⟨some 81, .toInt .i64 (.r 80), none⟩, ⟨some 82, .mv (.r 7), none⟩, ⟨some 83, .len .str (.r 82), none⟩, ⟨some 84, .bin .add (.r 83) (.c (.int .i64 (.ofNat 1))), none⟩, ⟨some 85, .bin .rem (.r 81) (.r 84), none⟩, ⟨some 14, .mv (.r 85), none⟩]) 
 (.seq
  (.ops [⟨some 86, .mv (.r 7), none⟩, ⟨some 87, .bytesOf (.r 86), none⟩, ⟨some 15, .mv (.r 87), none⟩]) 
 (.seq
  (.seq
  (.ops [⟨some 88, .mv (.r 14), none⟩, ⟨some 89, .mv (.r 7), none⟩, ⟨some 90, .len .str (.r 89), none⟩, ⟨some 91, .bin .lss (.r 88) (.r 90), none⟩]) 
 (.cond (.r 91) (.ops [⟨some 92, .mv (.r 15), none⟩, ⟨some 93, .mv (.r 14), none⟩, ⟨some 94, .indexSl 1 (.r 92) (.r 93), none⟩, ⟨some 95, .load1 (.r 94), none⟩, ⟨some 96, .mv (.r 2), none⟩, ⟨some 97, .bin .or (.r 96) (.c (.int .u8 (.ofNat 1))), none⟩, ⟨some 98, .bin .xor (.r 95) (.r 97), none⟩, ⟨some 99, .indexSl 1 (.r 92) (.r 93), none⟩, ⟨none, .store 1 (.r 99) (.r 98), none⟩]) .skip)) 
 (.seq
  (.seq
  (.ops [⟨some 100, .mv (.r 7), none⟩, ⟨some 101, .mv (.r 14), none⟩, ⟨some 102, .sliceStr (.r 100) none (some (.r 101)), none⟩, ⟨some 103, .bytesOf (.r 102), none⟩, ⟨some 104, .mv (.r 15), none⟩, ⟨some 105, .buildSlice 1 2 [.nilslice] [(0, (1, .r 103)), (1, (1, .r 104))], none⟩, ⟨some 106, .len .slice (.r 105), none⟩, ⟨some 107, .mv (.c (.int .i64 (.ofNat 0))), none⟩]) 
 (.block 2 (.loop (.seq
  (.ops [⟨some 108, .bin .lss (.r 107) (.r 106), none⟩]) 
 (.seq
  (.cond (.r 108) .skip (.exit 2)) 
 (.seq
  (.block 3 (.seq
  (.ops [⟨some 109, .indexSl 1 (.r 105) (.r 107), none⟩, ⟨some 110, .load1 (.r 109), none⟩, ⟨some 17, .mv (.r 110), none⟩]) 
 (.seq
  (.ops [⟨some 112, .mv (.r 17), none⟩, ⟨some 113, .call 25 [.r 112], none⟩, ⟨some 111, .mv (.r 113), none⟩, ⟨some 114, .extract 0 (.r 111), none⟩, ⟨some 115, .extract 1 (.r 111), none⟩, ⟨some 18, .mv (.r 114), none⟩, ⟨some 19, .mv (.r 115), none⟩]) 
 (.seq
  (.ops [⟨some 116, .mv (.r 14), none⟩, ⟨some 117, .bin .quo (.r 116) (.c (.int .i64 (.ofNat 13))), none⟩, ⟨some 20, .mv (.r 117), none⟩]) 
 (.seq
  (.seq
  (.ops [⟨some 118, .mv (.r 18), none⟩, ⟨some 119, .len .slice (.r 118), none⟩, ⟨some 120, .mv (.r 20), none⟩, ⟨some 121, .bin .neq (.r 119) (.r 120), none⟩, ⟨some 122, .mv (.r 121), none⟩, ⟨some 123, .mv (.r 19), some (122, false)⟩, ⟨some 124, .mv (.r 20), some (122, false)⟩, ⟨some 125, .bin .mul (.c (.int .i64 (.ofNat 13))) (.r 124), some (122, false)⟩, ⟨some 126, .bin .neq (.r 123) (.r 125), some (122, false)⟩, ⟨some 127, .pick (.r 122) (.c (.bool true)) (.r 126), none⟩]) 
 (.cond (.r 127) (.seq
  (.ops [⟨some 6, .mv (.c (.bool false)), none⟩]) 
 .ret) .skip)) 
 (.seq
  (.ops [⟨some 128, .build [.int .u64 (.ofNat 0), .int .u64 (.ofNat 0), .int .u64 (.ofNat 0)] [], none⟩, ⟨some 129, .build [.bool false, .bool false, .bool false] [], none⟩, ⟨some 21, .alloc [.int .u64 (.ofNat 0), .int .u64 (.ofNat 0), .int .u64 (.ofNat 0)], none⟩, ⟨some 22, .alloc [.bool false, .bool false, .bool false], none⟩, ⟨none, .store 3 (.r 21) (.r 128), none⟩, ⟨none, .store 3 (.r 22) (.r 129), none⟩]) 
 (.seq
  (.seq
  (.ops [⟨some 130, .mv (.r 18), none⟩, ⟨some 131, .len .slice (.r 130), none⟩, ⟨some 132, .mv (.c (.int .i64 (.ofNat 0))), none⟩]) 
 (.block 4 (.loop (.seq
  (.ops [⟨some 133, .bin .lss (.r 132) (.r 131), none⟩]) 
 (.seq
  (.cond (.r 133) .skip (.exit 4)) 
 (.seq
  (.block 5 (.seq
  (.ops [⟨some 134, .mv (.r 132), none⟩, ⟨some 135, .indexSl 2 (.r 130) (.r 132), none⟩, ⟨some 136, .loadN 2 (.r 135), none⟩, ⟨some 24, .alloc [.int .u8 (.ofNat 0), .int .u64 (.ofNat 0)], none⟩, ⟨some 23, .mv (.r 134), none⟩, ⟨none, .store 2 (.r 24) (.r 136), none⟩]) 
 (.seq
  (.seq
  (.ops [⟨some 137, .loadN 2 (.r 24), none⟩, ⟨some 138, .mv (.r 8), none⟩, ⟨some 139, .mv (.r 23), none⟩, ⟨some 140, .indexSl 2 (.r 138) (.r 139), none⟩, ⟨some 141, .loadN 2 (.r 140), none⟩, ⟨some 142, .eql true [.int .u8, .int .u64] true (.r 137) (.r 141), none⟩]) 
 (.cond (.r 142) (.seq
  (.ops [⟨some 6, .mv (.c (.bool false)), none⟩]) 
 .ret) .skip)) 
 (.multi [(0, ⟨some 143, .fieldAt 0 (.r 24), none⟩), (5, ⟨some 144, .load1 (.r 143), none⟩), (0, ⟨some 145, .fieldAt 0 (.r 24), none⟩), (1, ⟨some 146, .load1 (.r 145), none⟩), (0, ⟨some 147, .fieldAt 0 (.r 24), none⟩), (5, ⟨some 148, .load1 (.r 147), none⟩), (0, ⟨some 149, .indexArr 3 1 (.r 21) (.r 148), none⟩), (5, ⟨some 150, .load1 (.r 149), none⟩), (0, ⟨some 151, .fieldAt 1 (.r 24), none⟩), (5, ⟨some 152, .load1 (.r 151), none⟩), (0, ⟨some 153, .maxmin true (.r 150) [.r 152], none⟩), (0, ⟨some 154, .indexArr 3 1 (.r 21) (.r 144), none⟩), (3, ⟨none, .store 1 (.r 154) (.r 153), none⟩), (0, ⟨some 155, .indexArr 3 1 (.r 22) (.r 146), none⟩), (5, ⟨none, .store 1 (.r 155) (.c (.bool true)), none⟩)] [(3, 12)])))) 
 (.ops [⟨some 156, .bin .add (.r 132) (.c (.int .i64 (.ofNat 1))), none⟩, ⟨some 132, .mv (.r 156), none⟩]))))))) 
 (.seq
  (.ops [⟨some 25, .mv (.c (.int .u8 (.ofNat 1))), none⟩]) 
 (.block 6 (.loop (.seq
  (.seq
  (.ops [⟨some 157, .mv (.r 25), none⟩, ⟨some 158, .bin .lss (.r 157) (.c (.int .u8 (.ofNat 3))), none⟩]) 
 (.cond (.r 158) .skip (.exit 6))) 
 (.seq
  (.block 7 (.seq
  (.ops [⟨some 162, .mv (.r 18), none⟩, ⟨some 163, .mv (.r 25), none⟩, ⟨some 164, .call 26 [.r 162, .r 163], none⟩, ⟨some 161, .mv (.r 164), none⟩, ⟨some 165, .extract 0 (.r 161), none⟩, ⟨some 166, .extract 1 (.r 161), none⟩, ⟨some 26, .mv (.r 165), none⟩, ⟨some 27, .mv (.r 166), none⟩]) 
 (.seq
  (.ops [⟨some 167, .mv (.r 26), none⟩, ⟨some 168, .mv (.r 25), none⟩, ⟨some 169, .indexArr 3 1 (.r 21) (.r 168), none⟩, ⟨some 170, .load1 (.r 169), none⟩, ⟨some 171, .bin .neq (.r 167) (.r 170), none⟩, ⟨some 172, .mv (.r 171), none⟩, ⟨some 173, .mv (.r 27), some (172, false)⟩, ⟨some 174, .mv (.r 25), some (172, false)⟩, ⟨some 175, .indexArr 3 1 (.r 22) (.r 174), some (172, false)⟩, ⟨some 176, .load1 (.r 175), some (172, false)⟩, ⟨some 177, .eql true [.bool] false (.r 173) (.r 176), some (172, false)⟩, ⟨some 178, .pick (.r 172) (.c (.bool true)) (.r 177), none⟩]) 
 (.cond (.r 178) (.seq
  (.ops [⟨some 6, .mv (.c (.bool false)), none⟩]) 
 .ret) .skip)))) 
 (.ops [⟨some 159, .mv (.r 25), none⟩, ⟨some 160, .bin .add (.r 159) (.c (.int .u8 (.ofNat 1))), none⟩, ⟨some 25, .mv (.r 160), none⟩]))))))))))))) 
 (.ops [⟨some 179, .bin .add (.r 107) (.c (.int .i64 (.ofNat 1))), none⟩, ⟨some 107, .mv (.r 179), none⟩]))))))) 
 (.seq
  (.ops [⟨some 180, .call 12 [], none⟩, ⟨some 6, .mv (.r 180), none⟩]) 
 .ret))))))))⟩
def c7 : AF := ⟨115, [.reg 8], .seq
  (.ops [⟨some 5, .box 1 (.r 1), none⟩, ⟨some 6, .box 1 (.r 2), none⟩, ⟨some 8, .mv (.c (.bool false)), none⟩]) 
 (.seq
  (.ops [⟨some 15, .mv (.r 0), none⟩, ⟨some 16, .toInt .u64 (.r 15), none⟩, ⟨some 17, .load1 (.r 5), none⟩, ⟨some 18, .toInt .u64 (.r 17), none⟩, ⟨some 19, .load1 (.r 6), none⟩, ⟨some 20, .toInt .u64 (.r 19), none⟩, ⟨some 21, .call 27 [.r 16, .r 18, .r 20], none⟩, ⟨some 9, .alloc [.int .u64 (.ofNat 0), .int .u64 (.ofNat 0), .int .u64 (.ofNat 0), .int .u64 (.ofNat 0), .int .u64 (.ofNat 0), .bool false], none⟩, ⟨none, .store 6 (.r 9) (.r 21), none⟩]) 
 (.seq
  (.ops [⟨some 22, .makeFunc (.func 28) [] [.r 5, .r 6], none⟩, ⟨some 10, .mv (.r 22), none⟩]) 
 (.seq
  (.multi [(1, ⟨some 23, .load1 (.r 5), none⟩), (0, ⟨some 24, .toInt .u64 (.r 23), none⟩), (1, ⟨some 25, .load1 (.r 6), none⟩), (0, ⟨some 26, .toInt .u64 (.r 25), none⟩), (0, ⟨some 27, .mv (.r 10), none⟩), (0, ⟨some 28, .mv (.r 0), none⟩), (0, ⟨some 29, .toInt .u64 (.r 28), none⟩), (4, ⟨some 30, .callv (.r 27) [.r 29], none⟩), (0, ⟨some 31, .build [.int .u64 (.ofNat 0), .int .u64 (.ofNat 0), .int .u64 (.ofNat 0), .int .u64 (.ofNat 0), .int .u64 (.ofNat 0), .bool false] [(0, (1, .r 24)), (1, (1, .r 26)), (2, (1, .r 30))], none⟩), (2, ⟨some 11, .alloc [.int .u64 (.ofNat 0), .int .u64 (.ofNat 0), .int .u64 (.ofNat 0), .int .u64 (.ofNat 0), .int .u64 (.ofNat 0), .bool false], none⟩), (5, ⟨none, .store 6 (.r 11) (.r 31), none⟩)] [(0, 7), (0, 9), (2, 7), (2, 9), (7, 9)]) 
 (.seq
  (.seq
  (.ops [⟨some 32, .call 12 [], none⟩, ⟨some 33, .un .not (.r 32), none⟩, ⟨some 34, .mv (.r 33), none⟩, ⟨some 35, .loadN 6 (.r 9), some (34, false)⟩, ⟨some 36, .loadN 6 (.r 11), some (34, false)⟩, ⟨some 37, .eql true [.int .u64, .int .u64, .int .u64, .int .u64, .int .u64, .bool] true (.r 35) (.r 36), some (34, false)⟩, ⟨some 38, .pick (.r 34) (.c (.bool true)) (.r 37), none⟩]) 
 (.cond (.r 38) (.seq
  (.ops [⟨some 8, .mv (.c (.bool false)), none⟩]) 
 .ret) .skip)) 
 (.seq
  (.seq
  (.ops [⟨some 39, .mv (.r 3), none⟩, ⟨some 40, .mv (.r 3), none⟩, ⟨some 41, .len .slice (.r 40), none⟩, ⟨some 42, .maxmin false (.r 41) [.c (.int .i64 (.ofNat 60))], none⟩, ⟨some 43, .sliceSl 4 false (.r 39) none (some (.r 42)) none, none⟩, ⟨some 44, .len .slice (.r 43), none⟩, ⟨some 45, .mv (.c (.int .i64 (.ofNat 0))), none⟩]) 
 (.block 0 (.loop (.seq
  (.ops [⟨some 46, .bin .lss (.r 45) (.r 44), none⟩]) 
 (.seq
  (.cond (.r 46) .skip (.exit 0)) 
 (.seq
  (.block 1 (.seq
  (.ops [⟨some 47, .indexSl 4 (.r 43) (.r 45), none⟩, ⟨some 48, .loadN 4 (.r 47), none⟩, ⟨some 13, .alloc [.int .u8 (.ofNat 0), .int .u8 (.ofNat 0), .int .u8 (.ofNat 0), .int .u16 (.ofNat 0)], none⟩, ⟨none, .store 4 (.r 13) (.r 48), none⟩]) 
 (.seq
  (.seq
  (.ops [⟨some 49, .fieldAt 0 (.r 13), none⟩, ⟨some 50, .load1 (.r 49), none⟩, ⟨some 51, .bin .rem (.r 50) (.c (.int .u8 (.ofNat 3))), none⟩, ⟨some 52, .bin .eql (.r 51) (.c (.int .u8 (.ofNat 0))), none⟩]) 
 (.cond (.r 52) (.seq
  (.ops [⟨some 53, .loadN 6 (.r 9), none⟩, ⟨some 54, .call 29 [.r 53], none⟩, ⟨none, .store 6 (.r 9) (.r 54), none⟩]) 
 (.ops [⟨some 55, .mv (.r 10), none⟩, ⟨some 56, .fieldAt 2 (.r 11), none⟩, ⟨some 57, .load1 (.r 56), none⟩, ⟨some 58, .bin .mul (.c (.int .u64 (.ofNat 2))) (.r 57), none⟩, ⟨some 59, .callv (.r 55) [.r 58], none⟩, ⟨some 60, .fieldAt 2 (.r 11), none⟩, ⟨none, .store 1 (.r 60) (.r 59), none⟩])) (.seq
  (.ops [⟨some 61, .fieldAt 3 (.r 13), none⟩, ⟨some 62, .load1 (.r 61), none⟩, ⟨some 63, .toInt .u64 (.r 62), none⟩, ⟨some 64, .fieldAt 1 (.r 13), none⟩, ⟨some 65, .load1 (.r 64), none⟩, ⟨some 66, .bin .rem (.r 65) (.c (.int .u8 (.ofNat 24))), none⟩, ⟨some 67, .bin .shl (.r 63) (.r 66), none⟩, ⟨some 14, .mv (.r 67), none⟩]) 
 (.seq
  (.ops [⟨some 68, .loadN 6 (.r 9), none⟩, ⟨some 69, .mv (.r 14), none⟩, ⟨some 70, .call 30 [.r 68, .r 69], none⟩, ⟨none, .store 6 (.r 9) (.r 70), none⟩]) 
 (.seq
  (.seq
  (.ops [⟨some 71, .fieldAt 5 (.r 11), none⟩, ⟨some 72, .load1 (.r 71), none⟩]) 
 (.cond (.r 72) (.seq
  (.ops [⟨some 73, .fieldAt 4 (.r 11), none⟩, ⟨some 74, .load1 (.r 73), none⟩, ⟨some 75, .bin .mul (.c (.int .u64 (.ofNat 3))) (.r 74), none⟩, ⟨some 76, .fieldAt 3 (.r 11), none⟩, ⟨some 77, .load1 (.r 76), none⟩, ⟨some 78, .mv (.r 14), none⟩, ⟨some 79, .maxmin true (.r 77) [.r 78], none⟩, ⟨some 80, .bin .add (.r 75) (.r 79), none⟩, ⟨some 81, .fieldAt 3 (.r 11), none⟩, ⟨some 82, .load1 (.r 81), none⟩, ⟨some 83, .mv (.r 14), none⟩, ⟨some 84, .maxmin false (.r 82) [.r 83], none⟩, ⟨some 85, .bin .sub (.r 80) (.r 84), none⟩, ⟨some 86, .bin .quo (.r 85) (.c (.int .u64 (.ofNat 4))), none⟩, ⟨some 87, .fieldAt 4 (.r 11), none⟩, ⟨none, .store 1 (.r 87) (.r 86), none⟩]) 
 (.ops [⟨some 88, .fieldAt 3 (.r 11), none⟩, ⟨some 89, .load1 (.r 88), none⟩, ⟨some 90, .bin .mul (.c (.int .u64 (.ofNat 7))) (.r 89), none⟩, ⟨some 91, .mv (.r 14), none⟩, ⟨some 92, .bin .add (.r 90) (.r 91), none⟩, ⟨some 93, .bin .quo (.r 92) (.c (.int .u64 (.ofNat 8))), none⟩, ⟨some 94, .fieldAt 3 (.r 11), none⟩, ⟨none, .store 1 (.r 94) (.r 93), none⟩])) (.ops [⟨some 95, .mv (.r 14), none⟩, ⟨some 96, .mv (.r 14), none⟩, ⟨some 97, .bin .quo (.r 96) (.c (.int .u64 (.ofNat 2))), none⟩, ⟨some 98, .fieldAt 3 (.r 11), none⟩, ⟨none, .store 1 (.r 98) (.r 95), none⟩, ⟨some 99, .fieldAt 4 (.r 11), none⟩, ⟨none, .store 1 (.r 99) (.r 97), none⟩, ⟨some 100, .fieldAt 5 (.r 11), none⟩, ⟨none, .store 1 (.r 100) (.c (.bool true)), none⟩]))) 
 (.ops [⟨some 101, .mv (.r 10), none⟩, ⟨some 102, .fieldAt 3 (.r 11), none⟩, ⟨some 103, .load1 (.r 102), none⟩, ⟨some 104, .fieldAt 4 (.r 11), none⟩, ⟨some 105, .load1 (.r 104), none⟩, ⟨some 106, .bin .mul (.c (.int .u64 (.ofNat 4))) (.r 105), none⟩, ⟨some 107, .maxmin true (.r 106) [.c (.int .u64 (.ofNat 1))], none⟩, ⟨some 108, .bin .add (.r 103) (.r 107), none⟩, ⟨some 109, .callv (.r 101) [.r 108], none⟩, ⟨some 110, .fieldAt 2 (.r 11), none⟩, ⟨none, .store 1 (.r 110) (.r 109), none⟩])))))) 
 (.seq
  (.ops [⟨some 111, .loadN 6 (.r 9), none⟩, ⟨some 112, .loadN 6 (.r 11), none⟩, ⟨some 113, .eql true [.int .u64, .int .u64, .int .u64, .int .u64, .int .u64, .bool] true (.r 111) (.r 112), none⟩]) 
 (.cond (.r 113) (.seq
  (.ops [⟨some 8, .mv (.c (.bool false)), none⟩]) 
 .ret) .skip))))) 
 (.ops [⟨some 114, .bin .add (.r 45) (.c (.int .i64 (.ofNat 1))), none⟩, ⟨some 45, .mv (.r 114), none⟩]))))))) 
 (.seq
  (.ops [⟨some 8, .mv (.c (.bool true)), none⟩]) 
 .ret))))))⟩
def c8 : AF := ⟨281, [.reg 6], .seq
  (.ops [⟨some 6, .mv (.c (.bool false)), none⟩]) 
 (.seq
  (.ops [⟨some 25, .mv (.r 0), none⟩, ⟨some 26, .mv (.r 0), none⟩, ⟨some 27, .len .slice (.r 26), none⟩, ⟨some 28, .maxmin false (.r 27) [.c (.int .i64 (.ofNat 300))], none⟩, ⟨some 29, .sliceSl 1 false (.r 25) none (some (.r 28)) none, none⟩, ⟨some 0, .mv (.r 29), none⟩]) 
 (.seq
  (.ops [⟨some 30, .mv (.r 1), none⟩, ⟨some 31, .toInt .i64 (.r 30), none⟩, ⟨some 32, .bin .add (.c (.int .i64 (.ofNat 1))) (.r 31), none⟩, ⟨some 7, .mv (.r 32), none⟩]) 
 (.seq
  (.ops [⟨some 34, .mv (.r 0), none⟩, ⟨some 35, .mv (.r 7), none⟩, ⟨some 36, .call 31 [.r 34, .r 35], none⟩, ⟨some 33, .mv (.r 36), none⟩, ⟨some 37, .extract 0 (.r 33), none⟩, ⟨some 38, .extract 1 (.r 33), none⟩, ⟨some 8, .alloc [.int .u64 (.ofNat 0), .int .u32 (.ofNat 0), .nilslice], none⟩, ⟨none, .store 3 (.r 8) (.r 37), none⟩, ⟨some 9, .mv (.r 38), none⟩]) 
 (.seq
  (.seq
  (.ops [⟨some 39, .call 12 [], none⟩, ⟨some 40, .un .not (.r 39), none⟩, ⟨some 41, .mv (.r 40), none⟩, ⟨some 42, .mv (.r 9), some (41, false)⟩, ⟨some 43, .bin .neq (.r 42) (.c (.int .i64 (.ofNat 0))), some (41, false)⟩, ⟨some 44, .pick (.r 41) (.c (.bool true)) (.r 43), none⟩, ⟨some 45, .mv (.r 44), none⟩, ⟨some 46, .fieldAt 0 (.r 8), some (45, false)⟩, ⟨some 47, .load1 (.r 46), some (45, false)⟩, ⟨some 48, .mv (.r 0), some (45, false)⟩, ⟨some 49, .len .slice (.r 48), some (45, false)⟩, ⟨some 50, .toInt .u64 (.r 49), some (45, false)⟩, ⟨some 51, .bin .neq (.r 47) (.r 50), some (45, false)⟩, ⟨some 52, .pick (.r 45) (.c (.bool true)) (.r 51), none⟩, ⟨some 53, .mv (.r 52), none⟩, ⟨some 54, .fieldAt 1 (.r 8), some (53, false)⟩, ⟨some 55, .load1 (.r 54), some (53, false)⟩, ⟨some 56, .toInt .i64 (.r 55), some (53, false)⟩, ⟨some 57, .mv (.r 7), some (53, false)⟩, ⟨some 58, .bin .neq (.r 56) (.r 57), some (53, false)⟩, ⟨some 59, .pick (.r 53) (.c (.bool true)) (.r 58), none⟩]) 
 (.cond (.r 59) (.seq
  (.ops [⟨some 6, .mv (.c (.bool false)), none⟩]) 
 .ret) .skip)) 
 (.seq
  (.ops [⟨some 10, .mv (.c .nilslice), none⟩]) 
 (.seq
  (.seq
  (.ops [⟨some 11, .mv (.c (.int .i64 (.ofNat 0))), none⟩]) 
 (.block 0 (.loop (.seq
  (.seq
  (.ops [⟨some 60, .mv (.r 11), none⟩, ⟨some 61, .mv (.r 0), none⟩, ⟨some 62, .len .slice (.r 61), none⟩, ⟨some 63, .bin .lss (.r 60) (.r 62), none⟩]) 
 (.cond (.r 63) .skip (.exit 0))) 
 (.seq
  (.block 1 (.ops [⟨some 67, .mv (.r 10), none⟩, ⟨some 68, .mv (.r 0), none⟩, ⟨some 69, .mv (.r 11), none⟩, ⟨some 70, .mv (.r 11), none⟩, ⟨some 71, .mv (.r 7), none⟩, ⟨some 72, .bin .add (.r 70) (.r 71), none⟩, ⟨some 73, .mv (.r 0), none⟩, ⟨some 74, .len .slice (.r 73), none⟩, ⟨some 75, .maxmin false (.r 72) [.r 74], none⟩, ⟨some 76, .sliceSl 1 true (.r 68) (some (.r 69)) (some (.r 75)) none, none⟩, ⟨some 77, .strOf (.r 76), none⟩, ⟨some 78, .bin .add (.c (.str [0])) (.r 77), none⟩, ⟨some 79, .bytesOf (.r 78), none⟩, ⟨some 80, .call 32 [.r 79], none⟩, ⟨some 81, .buildSlice 32 1 [.int .u8 (.ofNat 0), .int .u8 (.ofNat 0), .int .u8 (.ofNat 0), .int .u8 (.ofNat 0), .int .u8 (.ofNat 0), .int .u8 (.ofNat 0), .int .u8 (.ofNat 0), .int .u8 (.ofNat 0), .int .u8 (.ofNat 0), .int .u8 (.ofNat 0), .int .u8 (.ofNat 0), .int .u8 (.ofNat 0), .int .u8 (.ofNat 0), .int .u8 (.ofNat 0), .int .u8 (.ofNat 0), .int .u8 (.ofNat 0), .int .u8 (.ofNat 0), .int .u8 (.ofNat 0), .int .u8 (.ofNat 0), .int .u8 (.ofNat 0), .int .u8 (.ofNat 0), .int .u8 (.ofNat 0), .int .u8 (.ofNat 0), .int .u8 (.ofNat 0), .int .u8 (.ofNat 0), .int .u8 (.ofNat 0), .int .u8 (.ofNat 0), .int .u8 (.ofNat 0), .int .u8 (.ofNat 0), .int .u8 (.ofNat 0), .int .u8 (.ofNat 0), .int .u8 (.ofNat 0)] [(0, (32, .r 80))], none⟩, ⟨some 82, .append 32 32 (.r 67) (.r 81), none⟩, ⟨some 10, .mv (.r 82), none⟩])) 
 (.ops [⟨some 64, .mv (.r 11), none⟩, ⟨some 65, .mv (.r 7), none⟩, ⟨some 66, .bin .add (.r 64) (.r 65), none⟩, ⟨some 11, .mv (.r 66), none⟩])))))) 
 (.seq
  (.seq
  (.ops [⟨some 83, .fieldAt 2 (.r 8), none⟩, ⟨some 84, .load1 (.r 83), none⟩, ⟨some 85, .len .slice (.r 84), none⟩, ⟨some 86, .mv (.r 10), none⟩, ⟨some 87, .len .slice (.r 86), none⟩, ⟨some 88, .bin .neq (.r 85) (.r 87), none⟩]) 
 (.cond (.r 88) (.seq
  (.ops [⟨some 6, .mv (.c (.bool false)), none⟩]) 
 .ret) .skip)) 
 (.seq
  (.seq
  (.ops [⟨some 89, .mv (.r 10), none⟩, ⟨some 90, .len .slice (.r 89), none⟩, ⟨some 91, .mv (.c (.int .i64 (.ofNat 0))), none⟩]) 
 (.block 2 (.loop (.seq
  (.ops [⟨some 92, .bin .lss (.r 91) (.r 90), none⟩]) 
 (.seq
  (.cond (.r 92) .skip (.exit 2)) 
 (.seq
  (.block 3 (.seq
  (.ops [⟨some 93, .mv (.r 91), none⟩, ⟨some 12, .mv (.r 93), none⟩]) 
 (.seq
  (.ops [⟨some 94, .fieldAt 2 (.r 8), none⟩, ⟨some 95, .load1 (.r 94), none⟩, ⟨some 96, .mv (.r 12), none⟩, ⟨some 97, .indexSl 32 (.r 95) (.r 96), none⟩, ⟨some 98, .loadN 32 (.r 97), none⟩, ⟨some 99, .mv (.r 10), none⟩, ⟨some 100, .mv (.r 12), none⟩, ⟨some 101, .indexSl 32 (.r 99) (.r 100), none⟩, ⟨some 102, .loadN 32 (.r 101), none⟩, ⟨some 103, .eql true [.int .u8, .int .u8, .int .u8, .int .u8, .int .u8, .int .u8, .int .u8, .int .u8, .int .u8, .int .u8, .int .u8, .int .u8, .int .u8, .int .u8, .int .u8, .int .u8, .int .u8, .int .u8, .int .u8, .int .u8, .int .u8, .int .u8, .int .u8, .int .u8, .int .u8, .int .u8, .int .u8, .int .u8, .int .u8, .int .u8, .int .u8, .int .u8] true (.r 98) (.r 102), none⟩]) 
 (.cond (.r 103) (.seq
  (.ops [⟨some 6, .mv (.c (.bool false)), none⟩]) 
 .ret) .skip)))) 
 (.ops [⟨some 104, .bin .add (.r 91) (.c (.int .i64 (.ofNat 1))), none⟩, ⟨some 91, .mv (.r 104), none⟩]))))))) 
 (.seq
  (.ops [⟨some 105, .mv (.r 10), none⟩, ⟨some 106, .call 33 [.r 105], none⟩, ⟨some 13, .alloc [.int .u8 (.ofNat 0), .int .u8 (.ofNat 0), .int .u8 (.ofNat 0), .int .u8 (.ofNat 0), .int .u8 (.ofNat 0), .int .u8 (.ofNat 0), .int .u8 (.ofNat 0), .int .u8 (.ofNat 0), .int .u8 (.ofNat 0), .int .u8 (.ofNat 0), .int .u8 (.ofNat 0), .int .u8 (.ofNat 0), .int .u8 (.ofNat 0), .int .u8 (.ofNat 0), .int .u8 (.ofNat 0), .int .u8 (.ofNat 0), .int .u8 (.ofNat 0), .int .u8 (.ofNat 0), .int .u8 (.ofNat 0), .int .u8 (.ofNat 0), .int .u8 (.ofNat 0), .int .u8 (.ofNat 0), .int .u8 (.ofNat 0), .int .u8 (.ofNat 0), .int .u8 (.ofNat 0), .int .u8 (.ofNat 0), .int .u8 (.ofNat 0), .int .u8 (.ofNat 0), .int .u8 (.ofNat 0), .int .u8 (.ofNat 0), .int .u8 (.ofNat 0), .int .u8 (.ofNat 0)], none⟩, ⟨none, .store 32 (.r 13) (.r 106), none⟩]) 
 (.seq
  (.multi [(0, ⟨some 107, .mv (.r 0), none⟩), (0, ⟨some 108, .len .slice (.r 107), none⟩), (0, ⟨some 109, .toInt .u64 (.r 108), none⟩), (4, ⟨some 110, .call 13 [.r 109, .c (.int .i64 (.ofNat 8))], none⟩), (0, ⟨some 111, .bin .add (.c (.str [2])) (.r 110), none⟩), (0, ⟨some 112, .mv (.r 7), none⟩), (0, ⟨some 113, .toInt .u64 (.r 112), none⟩), (4, ⟨some 114, .call 13 [.r 113, .c (.int .i64 (.ofNat 4))], none⟩), (0, ⟨some 115, .bin .add (.r 111) (.r 114), none⟩), (0, ⟨some 116, .sliceArr 32 1 (.r 13) none none none, none⟩), (1, ⟨some 117, .strOf (.r 116), none⟩), (0, ⟨some 118, .bin .add (.r 115) (.r 117), none⟩), (2, ⟨some 119, .bytesOf (.r 118), none⟩), (4, ⟨some 120, .call 32 [.r 119], none⟩), (2, ⟨some 14, .alloc [.int .u8 (.ofNat 0), .int .u8 (.ofNat 0), .int .u8 (.ofNat 0), .int .u8 (.ofNat 0), .int .u8 (.ofNat 0), .int .u8 (.ofNat 0), .int .u8 (.ofNat 0), .int .u8 (.ofNat 0), .int .u8 (.ofNat 0), .int .u8 (.ofNat 0), .int .u8 (.ofNat 0), .int .u8 (.ofNat 0), .int .u8 (.ofNat 0), .int .u8 (.ofNat 0), .int .u8 (.ofNat 0), .int .u8 (.ofNat 0), .int .u8 (.ofNat 0), .int .u8 (.ofNat 0), .int .u8 (.ofNat 0), .int .u8 (.ofNat 0), .int .u8 (.ofNat 0), .int .u8 (.ofNat 0), .int .u8 (.ofNat 0), .int .u8 (.ofNat 0), .int .u8 (.ofNat 0), .int .u8 (.ofNat 0), .int .u8 (.ofNat 0), .int .u8 (.ofNat 0), .int .u8 (.ofNat 0), .int .u8 (.ofNat 0), .int .u8 (.ofNat 0), .int .u8 (.ofNat 0)], none⟩), (5, ⟨none, .store 32 (.r 14) (.r 120), none⟩)] [(3, 10), (3, 14), (7, 10), (7, 14), (10, 14), (12, 14), (13, 14)]) 
 (.seq
  (.seq
  (.multi [(0, ⟨some 121, .mv (.r 10), none⟩), (4, ⟨some 122, .call 34 [.r 121], none⟩), (1, ⟨some 123, .loadN 32 (.r 13), none⟩), (0, ⟨some 124, .eql true [.int .u8, .int .u8, .int .u8, .int .u8, .int .u8, .int .u8, .int .u8, .int .u8, .int .u8, .int .u8, .int .u8, .int .u8, .int .u8, .int .u8, .int .u8, .int .u8, .int .u8, .int .u8, .int .u8, .int .u8, .int .u8, .int .u8, .int .u8, .int .u8, .int .u8, .int .u8, .int .u8, .int .u8, .int .u8, .int .u8, .int .u8, .int .u8] true (.r 122) (.r 123), none⟩), (0, ⟨some 125, .mv (.r 124), none⟩), (5, ⟨some 126, .loadN 3 (.r 8), some (125, false)⟩), (4, ⟨some 127, .call 35 [.r 126], some (125, false)⟩), (1, ⟨some 128, .loadN 32 (.r 14), some (125, false)⟩), (0, ⟨some 129, .eql true [.int .u8, .int .u8, .int .u8, .int .u8, .int .u8, .int .u8, .int .u8, .int .u8, .int .u8, .int .u8, .int .u8, .int .u8, .int .u8, .int .u8, .int .u8, .int .u8, .int .u8, .int .u8, .int .u8, .int .u8, .int .u8, .int .u8, .int .u8, .int .u8, .int .u8, .int .u8, .int .u8, .int .u8, .int .u8, .int .u8, .int .u8, .int .u8] true (.r 127) (.r 128), some (125, false)⟩), (0, ⟨some 130, .pick (.r 125) (.c (.bool true)) (.r 129), none⟩), (0, ⟨some 131, .mv (.r 130), none⟩), (5, ⟨some 132, .loadN 3 (.r 8), some (131, false)⟩), (5, ⟨some 133, .loadN 32 (.r 14), some (131, false)⟩), (5, ⟨some 134, .call 36 [.r 132, .r 133], some (131, false)⟩), (0, ⟨some 135, .bin .neq (.r 134) (.c (.int .i64 (.ofNat 0))), some (131, false)⟩), (0, ⟨some 136, .pick (.r 131) (.c (.bool true)) (.r 135), none⟩)] [(1, 2), (6, 7)]) 
 (.cond (.r 136) (.seq
  (.ops [⟨some 6, .mv (.c (.bool false)), none⟩]) 
 .ret) .skip)) 
 (.seq
  (.ops [⟨some 137, .loadN 32 (.r 14), none⟩, ⟨some 15, .alloc [.int .u8 (.ofNat 0), .int .u8 (.ofNat 0), .int .u8 (.ofNat 0), .int .u8 (.ofNat 0), .int .u8 (.ofNat 0), .int .u8 (.ofNat 0), .int .u8 (.ofNat 0), .int .u8 (.ofNat 0), .int .u8 (.ofNat 0), .int .u8 (.ofNat 0), .int .u8 (.ofNat 0), .int .u8 (.ofNat 0), .int .u8 (.ofNat 0), .int .u8 (.ofNat 0), .int .u8 (.ofNat 0), .int .u8 (.ofNat 0), .int .u8 (.ofNat 0), .int .u8 (.ofNat 0), .int .u8 (.ofNat 0), .int .u8 (.ofNat 0), .int .u8 (.ofNat 0), .int .u8 (.ofNat 0), .int .u8 (.ofNat 0), .int .u8 (.ofNat 0), .int .u8 (.ofNat 0), .int .u8 (.ofNat 0), .int .u8 (.ofNat 0), .int .u8 (.ofNat 0), .int .u8 (.ofNat 0), .int .u8 (.ofNat 0), .int .u8 (.ofNat 0), .int .u8 (.ofNat 0)], none⟩, ⟨none, .store 32 (.r 15) (.r 137), none⟩]) 
 (.seq
  (.ops [⟨some 138, .mv (.r 1), none⟩, ⟨some 139, .bin .rem (.r 138) (.c (.int .u8 (.ofNat 32))), none⟩, ⟨some 140, .indexArr 32 1 (.r 15) (.r 139), none⟩, ⟨some 141, .load1 (.r 140), none⟩, ⟨some 142, .bin .xor (.r 141) (.c (.int .u8 (.ofNat 1))), none⟩, ⟨some 143, .indexArr 32 1 (.r 15) (.r 139), none⟩, ⟨none, .store 1 (.r 143) (.r 142), none⟩]) 
 (.seq
  (.ops [⟨some 144, .loadN 3 (.r 8), none⟩, ⟨some 16, .alloc [.int .u64 (.ofNat 0), .int .u32 (.ofNat 0), .nilslice], none⟩, ⟨none, .store 3 (.r 16) (.r 144), none⟩]) 
 (.seq
  (.multi [(2, ⟨some 145, .buildSlice 32 0 [.int .u8 (.ofNat 0), .int .u8 (.ofNat 0), .int .u8 (.ofNat 0), .int .u8 (.ofNat 0), .int .u8 (.ofNat 0), .int .u8 (.ofNat 0), .int .u8 (.ofNat 0), .int .u8 (.ofNat 0), .int .u8 (.ofNat 0), .int .u8 (.ofNat 0), .int .u8 (.ofNat 0), .int .u8 (.ofNat 0), .int .u8 (.ofNat 0), .int .u8 (.ofNat 0), .int .u8 (.ofNat 0), .int .u8 (.ofNat 0), .int .u8 (.ofNat 0), .int .u8 (.ofNat 0), .int .u8 (.ofNat 0), .int .u8 (.ofNat 0), .int .u8 (.ofNat 0), .int .u8 (.ofNat 0), .int .u8 (.ofNat 0), .int .u8 (.ofNat 0), .int .u8 (.ofNat 0), .int .u8 (.ofNat 0), .int .u8 (.ofNat 0), .int .u8 (.ofNat 0), .int .u8 (.ofNat 0), .int .u8 (.ofNat 0), .int .u8 (.ofNat 0), .int .u8 (.ofNat 0)] [], none⟩), (0, ⟨some 146, .mv (.r 10), none⟩), (3, ⟨some 147, .append 32 32 (.r 145) (.r 146), none⟩), (1, ⟨some 148, .loadN 32 (.r 14), none⟩), (2, ⟨some 149, .buildSlice 32 1 [.int .u8 (.ofNat 0), .int .u8 (.ofNat 0), .int .u8 (.ofNat 0), .int .u8 (.ofNat 0), .int .u8 (.ofNat 0), .int .u8 (.ofNat 0), .int .u8 (.ofNat 0), .int .u8 (.ofNat 0), .int .u8 (.ofNat 0), .int .u8 (.ofNat 0), .int .u8 (.ofNat 0), .int .u8 (.ofNat 0), .int .u8 (.ofNat 0), .int .u8 (.ofNat 0), .int .u8 (.ofNat 0), .int .u8 (.ofNat 0), .int .u8 (.ofNat 0), .int .u8 (.ofNat 0), .int .u8 (.ofNat 0), .int .u8 (.ofNat 0), .int .u8 (.ofNat 0), .int .u8 (.ofNat 0), .int .u8 (.ofNat 0), .int .u8 (.ofNat 0), .int .u8 (.ofNat 0), .int .u8 (.ofNat 0), .int .u8 (.ofNat 0), .int .u8 (.ofNat 0), .int .u8 (.ofNat 0), .int .u8 (.ofNat 0), .int .u8 (.ofNat 0), .int .u8 (.ofNat 0)] [(0, (32, .r 148))], none⟩), (5, ⟨some 150, .append 32 32 (.r 147) (.r 149), none⟩), (0, ⟨some 151, .fieldAt 2 (.r 16), none⟩), (5, ⟨none, .store 1 (.r 151) (.r 150), none⟩)] [(0, 3), (0, 4), (2, 3), (2, 4)]) 
 (.seq
  (.seq
  (.ops [⟨some 152, .loadN 3 (.r 8), none⟩, ⟨some 153, .loadN 32 (.r 15), none⟩, ⟨some 154, .call 36 [.r 152, .r 153], none⟩, ⟨some 155, .bin .neq (.r 154) (.c (.int .i64 (.ofNat 33))), none⟩, ⟨some 156, .mv (.r 155), none⟩, ⟨some 157, .loadN 3 (.r 16), some (156, false)⟩, ⟨some 158, .loadN 32 (.r 14), some (156, false)⟩, ⟨some 159, .call 36 [.r 157, .r 158], some (156, false)⟩, ⟨some 160, .bin .neq (.r 159) (.c (.int .i64 (.ofNat 11))), some (156, false)⟩, ⟨some 161, .pick (.r 156) (.c (.bool true)) (.r 160), none⟩]) 
 (.cond (.r 161) (.seq
  (.ops [⟨some 6, .mv (.c (.bool false)), none⟩]) 
 .ret) .skip)) 
 (.seq
  (.seq
  (.ops [⟨some 162, .mv (.r 10), none⟩, ⟨some 163, .len .slice (.r 162), none⟩, ⟨some 164, .bin .gtr (.r 163) (.c (.int .i64 (.ofNat 0))), none⟩]) 
 (.cond (.r 164) (.seq
  (.ops [⟨some 165, .loadN 3 (.r 8), none⟩, ⟨some 17, .alloc [.int .u64 (.ofNat 0), .int .u32 (.ofNat 0), .nilslice], none⟩, ⟨none, .store 3 (.r 17) (.r 165), none⟩]) 
 (.seq
  (.ops [⟨some 166, .mv (.r 10), none⟩, ⟨some 167, .mv (.r 10), none⟩, ⟨some 168, .len .slice (.r 167), none⟩, ⟨some 169, .bin .sub (.r 168) (.c (.int .i64 (.ofNat 1))), none⟩, ⟨some 170, .sliceSl 32 false (.r 166) none (some (.r 169)) none, none⟩, ⟨some 171, .fieldAt 2 (.r 17), none⟩, ⟨none, .store 1 (.r 171) (.r 170), none⟩]) 
 (.seq
  (.ops [⟨some 172, .loadN 3 (.r 17), none⟩, ⟨some 173, .loadN 32 (.r 14), none⟩, ⟨some 174, .call 36 [.r 172, .r 173], none⟩, ⟨some 175, .bin .neq (.r 174) (.c (.int .i64 (.ofNat 11))), none⟩]) 
 (.cond (.r 175) (.seq
  (.ops [⟨some 6, .mv (.c (.bool false)), none⟩]) 
 .ret) .skip)))) .skip)) 
 (.seq
  (.ops [⟨some 18, .mv (.c .nilslice), none⟩]) 
 (.seq
  (.seq
  (.ops [⟨some 176, .mv (.r 10), none⟩, ⟨some 177, .len .slice (.r 176), none⟩, ⟨some 178, .mv (.c (.int .i64 (.ofNat 0))), none⟩]) 
 (.block 4 (.loop (.seq
  (.ops [⟨some 179, .bin .lss (.r 178) (.r 177), none⟩]) 
 (.seq
  (.cond (.r 179) .skip (.exit 4)) 
 (.seq
  (.block 5 (.seq
  (.ops [⟨some 180, .mv (.r 178), none⟩, ⟨some 19, .mv (.r 180), none⟩]) 
 (.seq
  (.ops [⟨some 181, .mv (.r 18), none⟩, ⟨some 182, .mv (.r 10), none⟩, ⟨some 183, .mv (.r 19), none⟩, ⟨some 184, .indexSl 32 (.r 182) (.r 183), none⟩, ⟨some 185, .loadN 32 (.r 184), none⟩, ⟨some 186, .buildSlice 32 1 [.int .u8 (.ofNat 0), .int .u8 (.ofNat 0), .int .u8 (.ofNat 0), .int .u8 (.ofNat 0), .int .u8 (.ofNat 0), .int .u8 (.ofNat 0), .int .u8 (.ofNat 0), .int .u8 (.ofNat 0), .int .u8 (.ofNat 0), .int .u8 (.ofNat 0), .int .u8 (.ofNat 0), .int .u8 (.ofNat 0), .int .u8 (.ofNat 0), .int .u8 (.ofNat 0), .int .u8 (.ofNat 0), .int .u8 (.ofNat 0), .int .u8 (.ofNat 0), .int .u8 (.ofNat 0), .int .u8 (.ofNat 0), .int .u8 (.ofNat 0), .int .u8 (.ofNat 0), .int .u8 (.ofNat 0), .int .u8 (.ofNat 0), .int .u8 (.ofNat 0), .int .u8 (.ofNat 0), .int .u8 (.ofNat 0), .int .u8 (.ofNat 0), .int .u8 (.ofNat 0), .int .u8 (.ofNat 0), .int .u8 (.ofNat 0), .int .u8 (.ofNat 0), .int .u8 (.ofNat 0)] [(0, (32, .r 185))], none⟩, ⟨some 187, .append 32 32 (.r 181) (.r 186), none⟩, ⟨some 18, .mv (.r 187), none⟩]) 
 (.seq
  (.ops [⟨some 188, .mv (.r 19), none⟩, ⟨some 189, .mv (.r 2), none⟩, ⟨some 190, .len .slice (.r 189), none⟩, ⟨some 191, .bin .lss (.r 188) (.r 190), none⟩, ⟨some 192, .mv (.r 191), none⟩, ⟨some 193, .mv (.r 2), some (192, true)⟩, ⟨some 194, .mv (.r 19), some (192, true)⟩, ⟨some 195, .indexSl 1 (.r 193) (.r 194), some (192, true)⟩, ⟨some 196, .load1 (.r 195), some (192, true)⟩, ⟨some 197, .bin .rem (.r 196) (.c (.int .u8 (.ofNat 2))), some (192, true)⟩, ⟨some 198, .bin .eql (.r 197) (.c (.int .u8 (.ofNat 1))), some (192, true)⟩, ⟨some 199, .pick (.r 192) (.r 198) (.c (.bool false)), none⟩]) 
 (.cond (.r 199) (.ops [⟨some 200, .mv (.r 18), none⟩, ⟨some 201, .mv (.r 19), none⟩, ⟨some 202, .mv (.r 2), none⟩, ⟨some 203, .mv (.r 19), none⟩, ⟨some 204, .indexSl 1 (.r 202) (.r 203), none⟩, ⟨some 205, .load1 (.r 204), none⟩, ⟨some 206, .bin .rem (.r 205) (.c (.int .u8 (.ofNat 32))), none⟩, ⟨some 207, .indexSl 32 (.r 200) (.r 201), none⟩, ⟨some 208, .indexArr 32 1 (.r 207) (.r 206), none⟩, ⟨some 209, .load1 (.r 208), none⟩, ⟨some 210, .mv (.r 2), none⟩, ⟨some 211, .mv (.r 19), none⟩, ⟨some 212, .indexSl 1 (.r 210) (.r 211), none⟩, ⟨some 213, .load1 (.r 212), none⟩, ⟨some 214, .bin .xor (.r 209) (.r 213), none⟩, ⟨some 215, .indexSl 32 (.r 200) (.r 201), none⟩, ⟨some 216, .indexArr 32 1 (.r 215) (.r 206), none⟩, ⟨none, .store 1 (.r 216) (.r 214), none⟩]) .skip))))) 
 (.ops [⟨some 217, .bin .add (.r 178) (.c (.int .i64 (.ofNat 1))), none⟩, ⟨some 178, .mv (.r 217), none⟩]))))))) 
 (.seq
  (.ops [⟨some 20, .mv (.c (.bool false)), none⟩]) 
 (.seq
  (.seq
  (.ops [⟨some 218, .mv (.r 18), none⟩, ⟨some 219, .len .slice (.r 218), none⟩, ⟨some 220, .mv (.c (.int .i64 (.ofNat 0))), none⟩]) 
 (.block 6 (.loop (.seq
  (.ops [⟨some 221, .bin .lss (.r 220) (.r 219), none⟩]) 
 (.seq
  (.cond (.r 221) .skip (.exit 6)) 
 (.seq
  (.block 7 (.seq
  (.ops [⟨some 222, .mv (.r 220), none⟩, ⟨some 21, .mv (.r 222), none⟩]) 
 (.ops [⟨some 223, .mv (.r 20), none⟩, ⟨some 224, .mv (.r 223), none⟩, ⟨some 225, .mv (.r 18), some (224, false)⟩, ⟨some 226, .mv (.r 21), some (224, false)⟩, ⟨some 227, .indexSl 32 (.r 225) (.r 226), some (224, false)⟩, ⟨some 228, .loadN 32 (.r 227), some (224, false)⟩, ⟨some 229, .mv (.r 10), some (224, false)⟩, ⟨some 230, .mv (.r 21), some (224, false)⟩, ⟨some 231, .indexSl 32 (.r 229) (.r 230), some (224, false)⟩, ⟨some 232, .loadN 32 (.r 231), some (224, false)⟩, ⟨some 233, .eql true [.int .u8, .int .u8, .int .u8, .int .u8, .int .u8, .int .u8, .int .u8, .int .u8, .int .u8, .int .u8, .int .u8, .int .u8, .int .u8, .int .u8, .int .u8, .int .u8, .int .u8, .int .u8, .int .u8, .int .u8, .int .u8, .int .u8, .int .u8, .int .u8, .int .u8, .int .u8, .int .u8, .int .u8, .int .u8, .int .u8, .int .u8, .int .u8] true (.r 228) (.r 232), some (224, false)⟩, ⟨some 234, .pick (.r 224) (.c (.bool true)) (.r 233), none⟩, ⟨some 20, .mv (.r 234), none⟩]))) 
 (.ops [⟨some 235, .bin .add (.r 220) (.c (.int .i64 (.ofNat 1))), none⟩, ⟨some 220, .mv (.r 235), none⟩]))))))) 
 (.seq
  (.ops [⟨some 237, .mv (.r 10), none⟩, ⟨some 238, .mv (.r 18), none⟩, ⟨some 239, .call 37 [.r 237, .r 238], none⟩, ⟨some 236, .mv (.r 239), none⟩, ⟨some 240, .extract 0 (.r 236), none⟩, ⟨some 241, .extract 1 (.r 236), none⟩, ⟨some 242, .extract 2 (.r 236), none⟩, ⟨some 22, .mv (.r 240), none⟩, ⟨some 23, .mv (.r 241), none⟩, ⟨some 24, .mv (.r 242), none⟩]) 
 (.seq
  (.seq
  (.multi [(0, ⟨some 243, .mv (.r 24), none⟩), (0, ⟨some 244, .mv (.r 20), none⟩), (0, ⟨some 245, .mv (.r 244), none⟩), (0, ⟨some 246, .mv (.r 18), some (245, true)⟩), (4, ⟨some 247, .call 33 [.r 246], some (245, true)⟩), (1, ⟨some 248, .loadN 32 (.r 13), some (245, true)⟩), (0, ⟨some 249, .eql false [.int .u8, .int .u8, .int .u8, .int .u8, .int .u8, .int .u8, .int .u8, .int .u8, .int .u8, .int .u8, .int .u8, .int .u8, .int .u8, .int .u8, .int .u8, .int .u8, .int .u8, .int .u8, .int .u8, .int .u8, .int .u8, .int .u8, .int .u8, .int .u8, .int .u8, .int .u8, .int .u8, .int .u8, .int .u8, .int .u8, .int .u8, .int .u8] true (.r 247) (.r 248), some (245, true)⟩), (0, ⟨some 250, .pick (.r 245) (.r 249) (.c (.bool false)), none⟩), (0, ⟨some 251, .eql true [.bool] false (.r 243) (.r 250), none⟩)] [(4, 5)]) 
 (.cond (.r 251) (.seq
  (.ops [⟨some 6, .mv (.c (.bool false)), none⟩]) 
 .ret) .skip)) 
 (.seq
  (.ops [⟨some 252, .mv (.r 24), none⟩, ⟨some 253, .un .not (.r 252), none⟩, ⟨some 254, .mv (.r 253), none⟩, ⟨some 255, .mv (.r 22), some (254, true)⟩, ⟨some 256, .len .slice (.r 255), some (254, true)⟩, ⟨some 257, .bin .eql (.r 256) (.c (.int .i64 (.ofNat 0))), some (254, true)⟩, ⟨some 258, .pick (.r 254) (.r 257) (.c (.bool false)), none⟩, ⟨some 259, .mv (.r 258), none⟩, ⟨some 260, .mv (.r 23), some (259, true)⟩, ⟨some 261, .len .slice (.r 260), some (259, true)⟩, ⟨some 262, .bin .eql (.r 261) (.c (.int .i64 (.ofNat 0))), some (259, true)⟩, ⟨some 263, .pick (.r 259) (.r 262) (.c (.bool false)), none⟩, ⟨some 264, .mv (.r 263), none⟩, ⟨some 265, .mv (.r 24), some (264, false)⟩, ⟨some 266, .mv (.r 265), some (264, false)⟩, ⟨some 267, .mv (.r 22), some (266, true)⟩, ⟨some 268, .strOf (.r 267), some (266, true)⟩, ⟨some 269, .mv (.r 23), some (266, true)⟩, ⟨some 270, .strOf (.r 269), some (266, true)⟩, ⟨some 271, .bin .neq (.r 268) (.r 270), some (266, true)⟩, ⟨some 272, .pick (.r 266) (.r 271) (.c (.bool false)), some (264, false)⟩, ⟨some 273, .mv (.r 272), some (264, false)⟩, ⟨some 274, .mv (.r 22), some (273, true)⟩, ⟨some 275, .call 32 [.r 274], some (273, true)⟩, ⟨some 276, .mv (.r 23), some (273, true)⟩, ⟨some 277, .call 32 [.r 276], some (273, true)⟩, ⟨some 278, .eql false [.int .u8, .int .u8, .int .u8, .int .u8, .int .u8, .int .u8, .int .u8, .int .u8, .int .u8, .int .u8, .int .u8, .int .u8, .int .u8, .int .u8, .int .u8, .int .u8, .int .u8, .int .u8, .int .u8, .int .u8, .int .u8, .int .u8, .int .u8, .int .u8, .int .u8, .int .u8, .int .u8, .int .u8, .int .u8, .int .u8, .int .u8, .int .u8] true (.r 275) (.r 277), some (273, true)⟩, ⟨some 279, .pick (.r 273) (.r 278) (.c (.bool false)), some (264, false)⟩, ⟨some 280, .pick (.r 264) (.c (.bool true)) (.r 279), none⟩, ⟨some 6, .mv (.r 280), none⟩]) 
 .ret))))))))))))))))))))))))⟩
def c9 : AF := ⟨206, [.reg 2, .reg 3, .reg 4], .seq
  (.ops [⟨some 1, .box 4 (.r 0), none⟩, ⟨some 2, .mv (.c (.str [])), none⟩, ⟨some 3, .mv (.c (.str [])), none⟩, ⟨some 4, .mv (.c (.bool false)), none⟩]) 
 (.seq
  (.ops [⟨some 16, .fieldAt 2 (.r 1), none⟩, ⟨some 17, .load1 (.r 16), none⟩, ⟨some 18, .fieldAt 2 (.r 1), none⟩, ⟨some 19, .load1 (.r 18), none⟩, ⟨some 20, .len .slice (.r 19), none⟩, ⟨some 21, .maxmin false (.r 20) [.c (.int .i64 (.ofNat 200))], none⟩, ⟨some 22, .sliceSl 1 false (.r 17) none (some (.r 21)) none, none⟩, ⟨some 23, .strOf (.r 22), none⟩, ⟨some 5, .mv (.r 23), none⟩]) 
 (.seq
  (.seq
  (.ops [⟨some 24, .fieldAt 0 (.r 1), none⟩, ⟨some 25, .load1 (.r 24), none⟩, ⟨some 26, .bin .rem (.r 25) (.c (.int .u8 (.ofNat 8))), none⟩, ⟨some 27, .bin .eql (.r 26) (.c (.int .u8 (.ofNat 7))), none⟩]) 
 (.cond (.r 27) (.seq
  (.ops [⟨some 28, .fieldAt 1 (.r 1), none⟩, ⟨some 29, .load1 (.r 28), none⟩, ⟨some 30, .bin .rem (.r 29) (.c (.int .u8 (.ofNat 16))), none⟩, ⟨some 31, .toInt .u64 (.r 30), none⟩, ⟨some 32, .bin .add (.c (.int .u64 (.ofNat 407710288))) (.r 31), none⟩, ⟨some 33, .call 13 [.r 32, .c (.int .i64 (.ofNat 4))], none⟩, ⟨some 34, .mv (.r 5), none⟩, ⟨some 35, .len .str (.r 34), none⟩, ⟨some 36, .toInt .u64 (.r 35), none⟩, ⟨some 37, .call 13 [.r 36, .c (.int .i64 (.ofNat 4))], none⟩, ⟨some 38, .bin .add (.r 33) (.r 37), none⟩, ⟨some 39, .mv (.r 5), none⟩, ⟨some 40, .bin .add (.r 38) (.r 39), none⟩, ⟨some 2, .mv (.r 40), none⟩, ⟨some 3, .mv (.c (.str [])), none⟩, ⟨some 4, .mv (.c (.bool true)), none⟩]) 
 .ret) .skip)) 
 (.seq
  (.ops [⟨some 41, .buildSlice 1 4 [.int .i64 (.ofNat 0)] [(0, (1, .c (.int .i64 (.ofNat 1)))), (1, (1, .c (.int .i64 (.ofNat 4)))), (2, (1, .c (.int .i64 (.ofNat 8)))), (3, (1, .c (.int .i64 (.ofNat 0))))], none⟩, ⟨some 42, .fieldAt 0 (.r 1), none⟩, ⟨some 43, .load1 (.r 42), none⟩, ⟨some 44, .bin .shr (.r 43) (.c (.int .u64 (.ofNat 3))), none⟩, ⟨some 45, .bin .and (.r 44) (.c (.int .u8 (.ofNat 3))), none⟩, ⟨some 46, .indexSl 1 (.r 41) (.r 45), none⟩, ⟨some 47, .load1 (.r 46), none⟩, ⟨some 6, .mv (.r 47), none⟩]) 
 (.seq
  (.ops [⟨some 48, .fieldAt 0 (.r 1), none⟩, ⟨some 49, .load1 (.r 48), none⟩, ⟨some 50, .bin .shr (.r 49) (.c (.int .u64 (.ofNat 5))), none⟩, ⟨some 51, .bin .and (.r 50) (.c (.int .u8 (.ofNat 1))), none⟩, ⟨some 52, .bin .eql (.r 51) (.c (.int .u8 (.ofNat 1))), none⟩, ⟨some 7, .mv (.r 52), none⟩]) 
 (.seq
  (.multi [(2, ⟨some 53, .buildSlice 1 4 [.int .i64 (.ofNat 0)] [(0, (1, .c (.int .i64 (.ofNat 0)))), (1, (1, .c (.int .i64 (.ofNat 2)))), (2, (1, .c (.int .i64 (.ofNat 3)))), (3, (1, .c (.int .i64 (.ofNat 0))))], none⟩), (0, ⟨some 54, .fieldAt 0 (.r 1), none⟩), (1, ⟨some 55, .load1 (.r 54), none⟩), (0, ⟨some 56, .bin .shr (.r 55) (.c (.int .u64 (.ofNat 3))), none⟩), (0, ⟨some 57, .bin .and (.r 56) (.c (.int .u8 (.ofNat 3))), none⟩), (0, ⟨some 58, .indexSl 1 (.r 53) (.r 57), none⟩), (5, ⟨some 59, .load1 (.r 58), none⟩), (0, ⟨some 60, .bin .shl (.r 59) (.c (.int .u64 (.ofNat 6))), none⟩), (0, ⟨some 61, .toInt .u8 (.r 60), none⟩), (0, ⟨some 62, .fieldAt 0 (.r 1), none⟩), (1, ⟨some 63, .load1 (.r 62), none⟩), (0, ⟨some 64, .bin .shr (.r 63) (.c (.int .u64 (.ofNat 6))), none⟩), (0, ⟨some 65, .bin .and (.r 64) (.c (.int .u8 (.ofNat 3))), none⟩), (0, ⟨some 66, .bin .or (.r 61) (.r 65), none⟩), (0, ⟨some 67, .fieldAt 1 (.r 1), none⟩), (1, ⟨some 68, .load1 (.r 67), none⟩), (0, ⟨some 69, .bin .and (.r 68) (.c (.int .u8 (.ofNat 16))), none⟩), (0, ⟨some 70, .bin .or (.r 66) (.r 69), none⟩), (0, ⟨some 8, .mv (.r 70), none⟩)] [(0, 2), (0, 10), (0, 15)]) 
 (.seq
  (.seq
  (.ops [⟨some 71, .mv (.r 6), none⟩, ⟨some 72, .bin .gtr (.r 71) (.c (.int .i64 (.ofNat 0))), none⟩]) 
 (.cond (.r 72) (.ops [⟨some 73, .mv (.r 8), none⟩, ⟨some 74, .bin .or (.r 73) (.c (.int .u8 (.ofNat 32))), none⟩, ⟨some 8, .mv (.r 74), none⟩]) .skip)) 
 (.seq
  (.seq
  (.ops [⟨some 75, .mv (.r 7), none⟩]) 
 (.cond (.r 75) (.ops [⟨some 76, .mv (.r 8), none⟩, ⟨some 77, .bin .or (.r 76) (.c (.int .u8 (.ofNat 4))), none⟩, ⟨some 8, .mv (.r 77), none⟩]) .skip)) 
 (.seq
  (.ops [⟨some 78, .mv (.r 8), none⟩, ⟨some 79, .buildSlice 1 1 [.int .u8 (.ofNat 0)] [(0, (1, .r 78))], none⟩, ⟨some 80, .strOf (.r 79), none⟩, ⟨some 81, .bin .add (.c (.str [40, 181, 47, 253])) (.r 80), none⟩, ⟨some 9, .mv (.r 81), none⟩]) 
 (.seq
  (.seq
  (.ops [⟨some 82, .mv (.r 6), none⟩, ⟨some 83, .bin .eql (.r 82) (.c (.int .i64 (.ofNat 0))), none⟩]) 
 (.cond (.r 83) (.ops [⟨some 84, .mv (.r 9), none⟩, ⟨some 85, .fieldAt 1 (.r 1), none⟩, ⟨some 86, .load1 (.r 85), none⟩, ⟨some 87, .bin .rem (.r 86) (.c (.int .u8 (.ofNat 97))), none⟩, ⟨some 88, .buildSlice 1 1 [.int .u8 (.ofNat 0)] [(0, (1, .r 87))], none⟩, ⟨some 89, .strOf (.r 88), none⟩, ⟨some 90, .bin .add (.r 84) (.r 89), none⟩, ⟨some 9, .mv (.r 90), none⟩]) .skip)) 
 (.seq
  (.ops [⟨some 91, .mv (.r 9), none⟩, ⟨some 92, .buildSlice 1 4 [.int .i64 (.ofNat 0)] [(0, (1, .c (.int .i64 (.ofNat 0)))), (1, (1, .c (.int .i64 (.ofNat 1)))), (2, (1, .c (.int .i64 (.ofNat 2)))), (3, (1, .c (.int .i64 (.ofNat 4))))], none⟩, ⟨some 93, .fieldAt 0 (.r 1), none⟩, ⟨some 94, .load1 (.r 93), none⟩, ⟨some 95, .bin .shr (.r 94) (.c (.int .u64 (.ofNat 6))), none⟩, ⟨some 96, .bin .and (.r 95) (.c (.int .u8 (.ofNat 3))), none⟩, ⟨some 97, .indexSl 1 (.r 92) (.r 96), none⟩, ⟨some 98, .load1 (.r 97), none⟩, ⟨some 99, .call 13 [.c (.int .u64 (.ofNat 0)), .r 98], none⟩, ⟨some 100, .mv (.r 5), none⟩, ⟨some 101, .len .str (.r 100), none⟩, ⟨some 102, .toInt .u64 (.r 101), none⟩, ⟨some 103, .mv (.r 6), none⟩, ⟨some 104, .call 13 [.r 102, .r 103], none⟩, ⟨some 105, .bin .add (.r 99) (.r 104), none⟩, ⟨some 106, .bin .add (.r 91) (.r 105), none⟩, ⟨some 9, .mv (.r 106), none⟩]) 
 (.seq
  (.ops [⟨some 10, .mv (.c (.int .i64 (.ofNat 0))), none⟩]) 
 (.seq
  (.seq
  (.ops [⟨some 11, .mv (.c (.int .i64 (.ofNat 0))), none⟩]) 
 (.block 0 (.loop (.seq
  (.seq
  (.ops [⟨some 107, .mv (.r 10), none⟩, ⟨some 108, .mv (.r 5), none⟩, ⟨some 109, .len .str (.r 108), none⟩, ⟨some 110, .bin .lss (.r 107) (.r 109), none⟩, ⟨some 111, .mv (.r 110), none⟩, ⟨some 112, .mv (.r 11), some (111, false)⟩, ⟨some 113, .bin .eql (.r 112) (.c (.int .i64 (.ofNat 0))), some (111, false)⟩, ⟨some 114, .pick (.r 111) (.c (.bool true)) (.r 113), none⟩]) 
 (.cond (.r 114) .skip (.exit 0))) 
 (.seq
  (.block 1 (.seq
  (.ops [⟨some 117, .mv (.r 5), none⟩, ⟨some 118, .len .str (.r 117), none⟩, ⟨some 12, .mv (.r 118), none⟩]) 
 (.seq
  (.seq
  (.ops [⟨some 119, .mv (.r 11), none⟩, ⟨some 120, .fieldAt 3 (.r 1), none⟩, ⟨some 121, .load1 (.r 120), none⟩, ⟨some 122, .len .slice (.r 121), none⟩, ⟨some 123, .bin .lss (.r 119) (.r 122), none⟩, ⟨some 124, .mv (.r 123), none⟩, ⟨some 125, .mv (.r 11), some (124, true)⟩, ⟨some 126, .bin .lss (.r 125) (.c (.int .i64 (.ofNat 20))), some (124, true)⟩, ⟨some 127, .pick (.r 124) (.r 126) (.c (.bool false)), none⟩]) 
 (.cond (.r 127) (.ops [⟨some 128, .mv (.r 10), none⟩, ⟨some 129, .fieldAt 3 (.r 1), none⟩, ⟨some 130, .load1 (.r 129), none⟩, ⟨some 131, .mv (.r 11), none⟩, ⟨some 132, .indexSl 1 (.r 130) (.r 131), none⟩, ⟨some 133, .load1 (.r 132), none⟩, ⟨some 134, .bin .rem (.r 133) (.c (.int .u8 (.ofNat 64))), none⟩, ⟨some 135, .toInt .i64 (.r 134), none⟩, ⟨some 136, .bin .add (.r 128) (.r 135), none⟩, ⟨some 137, .mv (.r 5), none⟩, ⟨some 138, .len .str (.r 137), none⟩, ⟨some 139, .maxmin false (.r 136) [.r 138], none⟩, ⟨some 12, .mv (.r 139), none⟩]) .skip)) 
 (.seq
  (.ops [⟨some 140, .mv (.r 12), none⟩, ⟨some 141, .mv (.r 10), none⟩, ⟨some 142, .bin .gtr (.r 140) (.r 141), none⟩, ⟨some 13, .mv (.r 142), none⟩]) 
 (.seq
  (.seq
  (.ops [⟨some 143, .mv (.r 10), none⟩, ⟨some 14, .mv (.r 143), none⟩]) 
 (.block 2 (.loop (.seq
  (.seq
  (.ops [⟨some 144, .mv (.r 14), none⟩, ⟨some 145, .mv (.r 12), none⟩, ⟨some 146, .bin .lss (.r 144) (.r 145), none⟩]) 
 (.cond (.r 146) .skip (.exit 2))) 
 (.seq
  (.block 3 (.ops [⟨some 149, .mv (.r 13), none⟩, ⟨some 150, .mv (.r 149), none⟩, ⟨some 151, .mv (.r 5), some (150, true)⟩, ⟨some 152, .mv (.r 14), some (150, true)⟩, ⟨some 153, .indexStr (.r 151) (.r 152), some (150, true)⟩, ⟨some 154, .mv (.r 5), some (150, true)⟩, ⟨some 155, .mv (.r 10), some (150, true)⟩, ⟨some 156, .indexStr (.r 154) (.r 155), some (150, true)⟩, ⟨some 157, .bin .eql (.r 153) (.r 156), some (150, true)⟩, ⟨some 158, .pick (.r 150) (.r 157) (.c (.bool false)), none⟩, ⟨some 13, .mv (.r 158), none⟩])) 
 (.ops [⟨some 147, .mv (.r 14), none⟩, ⟨some 148, .bin .add (.r 147) (.c (.int .i64 (.ofNat 1))), none⟩, ⟨some 14, .mv (.r 148), none⟩])))))) 
 (.seq
  (.ops [⟨some 15, .mv (.c (.int .i64 (.ofNat 0))), none⟩]) 
 (.seq
  (.seq
  (.ops [⟨some 159, .mv (.r 12), none⟩, ⟨some 160, .mv (.r 5), none⟩, ⟨some 161, .len .str (.r 160), none⟩, ⟨some 162, .bin .eql (.r 159) (.r 161), none⟩]) 
 (.cond (.r 162) (.ops [⟨some 15, .mv (.c (.int .i64 (.ofNat 1))), none⟩]) .skip)) 
 (.seq
  (.seq
  (.ops [⟨some 163, .mv (.r 13), none⟩]) 
 (.cond (.r 163) (.ops [⟨some 164, .mv (.r 9), none⟩, ⟨some 165, .mv (.r 12), none⟩, ⟨some 166, .mv (.r 10), none⟩, ⟨some 167, .bin .sub (.r 165) (.r 166), none⟩, ⟨some 168, .bin .mul (.c (.int .i64 (.ofNat 8))) (.r 167), none⟩, ⟨some 169, .bin .add (.r 168) (.c (.int .i64 (.ofNat 2))), none⟩, ⟨some 170, .mv (.r 15), none⟩, ⟨some 171, .bin .add (.r 169) (.r 170), none⟩, ⟨some 172, .toInt .u64 (.r 171), none⟩, ⟨some 173, .call 13 [.r 172, .c (.int .i64 (.ofNat 3))], none⟩, ⟨some 174, .mv (.r 5), none⟩, ⟨some 175, .mv (.r 10), none⟩, ⟨some 176, .mv (.r 10), none⟩, ⟨some 177, .bin .add (.r 176) (.c (.int .i64 (.ofNat 1))), none⟩, ⟨some 178, .sliceStr (.r 174) (some (.r 175)) (some (.r 177)), none⟩, ⟨some 179, .bin .add (.r 173) (.r 178), none⟩, ⟨some 180, .bin .add (.r 164) (.r 179), none⟩, ⟨some 9, .mv (.r 180), none⟩]) (.ops [⟨some 181, .mv (.r 9), none⟩, ⟨some 182, .mv (.r 12), none⟩, ⟨some 183, .mv (.r 10), none⟩, ⟨some 184, .bin .sub (.r 182) (.r 183), none⟩, ⟨some 185, .bin .mul (.c (.int .i64 (.ofNat 8))) (.r 184), none⟩, ⟨some 186, .mv (.r 15), none⟩, ⟨some 187, .bin .add (.r 185) (.r 186), none⟩, ⟨some 188, .toInt .u64 (.r 187), none⟩, ⟨some 189, .call 13 [.r 188, .c (.int .i64 (.ofNat 3))], none⟩, ⟨some 190, .mv (.r 5), none⟩, ⟨some 191, .mv (.r 10), none⟩, ⟨some 192, .mv (.r 12), none⟩, ⟨some 193, .sliceStr (.r 190) (some (.r 191)) (some (.r 192)), none⟩, ⟨some 194, .bin .add (.r 189) (.r 193), none⟩, ⟨some 195, .bin .add (.r 181) (.r 194), none⟩, ⟨some 9, .mv (.r 195), none⟩]))) 
 (.ops [⟨some 196, .mv (.r 12), none⟩, ⟨some 10, .mv (.r 196), none⟩]))))))))) 
 (.ops [⟨some 115, .mv (.r 11), none⟩, ⟨some 116, .bin .add (.r 115) (.c (.int .i64 (.ofNat 1))), none⟩, ⟨some 11, .mv (.r 116), none⟩])))))) 
 (.seq
  (.seq
  (.ops [⟨some 197, .mv (.r 7), none⟩]) 
 (.cond (.r 197) (.ops [⟨some 198, .mv (.r 9), none⟩, ⟨some 199, .mv (.r 5), none⟩, ⟨some 200, .bytesOf (.r 199), none⟩, ⟨some 201, .call 38 [.r 200], none⟩, ⟨some 202, .call 13 [.r 201, .c (.int .i64 (.ofNat 4))], none⟩, ⟨some 203, .bin .add (.r 198) (.r 202), none⟩, ⟨some 9, .mv (.r 203), none⟩]) .skip)) 
 (.seq
  (.ops [⟨some 204, .mv (.r 9), none⟩, ⟨some 205, .mv (.r 5), none⟩, ⟨some 2, .mv (.r 204), none⟩, ⟨some 3, .mv (.r 205), none⟩, ⟨some 4, .mv (.c (.bool false)), none⟩]) 
 .ret))))))))))))))⟩
def c10 : AF := ⟨24, [.reg 6, .reg 7], .seq
  (.ops [⟨some 6, .mv (.c .nilslice), none⟩, ⟨some 7, .mv (.c (.int .i64 (.ofNat 0))), none⟩]) 
 (.seq
  (.ops [⟨some 11, .mv (.r 0), none⟩, ⟨some 12, .mv (.r 1), none⟩, ⟨some 13, .mv (.r 2), none⟩, ⟨some 14, .call 39 [.r 11, .r 12, .r 13], none⟩, ⟨some 10, .mv (.r 14), none⟩, ⟨some 15, .extract 0 (.r 10), none⟩, ⟨some 16, .extract 1 (.r 10), none⟩, ⟨some 8, .mv (.r 15), none⟩, ⟨some 9, .mv (.r 16), none⟩]) 
 (.seq
  (.seq
  (.ops [⟨some 17, .mv (.r 9), none⟩, ⟨some 18, .bin .neq (.r 17) (.c (.int .i64 (.ofNat 0))), none⟩]) 
 (.cond (.r 18) (.seq
  (.ops [⟨some 19, .mv (.r 9), none⟩, ⟨some 6, .mv (.c .nilslice), none⟩, ⟨some 7, .mv (.r 19), none⟩]) 
 .ret) .skip)) 
 (.seq
  (.ops [⟨some 20, .mv (.r 8), none⟩, ⟨some 21, .nilCheck (.r 20), none⟩, ⟨some 22, .fieldAt 3 (.r 21), none⟩, ⟨some 23, .load1 (.r 22), none⟩, ⟨some 6, .mv (.r 23), none⟩, ⟨some 7, .mv (.c (.int .i64 (.ofNat 0))), none⟩]) 
 .ret)))⟩
def c11 : AF := ⟨29, [.reg 6, .reg 7, .reg 8], .seq
  (.ops [⟨some 6, .mv (.c (.int .i64 (.ofNat 0))), none⟩, ⟨some 7, .mv (.c (.int .i64 (.ofNat 0))), none⟩, ⟨some 8, .mv (.c (.int .i64 (.ofNat 0))), none⟩]) 
 (.seq
  (.ops [⟨some 12, .mv (.r 0), none⟩, ⟨some 13, .mv (.r 1), none⟩, ⟨some 14, .mv (.r 2), none⟩, ⟨some 15, .call 39 [.r 12, .r 13, .r 14], none⟩, ⟨some 11, .mv (.r 15), none⟩, ⟨some 16, .extract 0 (.r 11), none⟩, ⟨some 17, .extract 1 (.r 11), none⟩, ⟨some 9, .mv (.r 16), none⟩, ⟨some 10, .mv (.r 17), none⟩]) 
 (.seq
  (.seq
  (.ops [⟨some 18, .mv (.r 10), none⟩, ⟨some 19, .bin .neq (.r 18) (.c (.int .i64 (.ofNat 0))), none⟩]) 
 (.cond (.r 19) (.seq
  (.ops [⟨some 20, .mv (.r 10), none⟩, ⟨some 6, .mv (.c (.int .i64 (.ofNat 0))), none⟩, ⟨some 7, .mv (.c (.int .i64 (.ofNat 0))), none⟩, ⟨some 8, .mv (.r 20), none⟩]) 
 .ret) .skip)) 
 (.seq
  (.ops [⟨some 21, .mv (.r 9), none⟩, ⟨some 22, .nilCheck (.r 21), none⟩, ⟨some 23, .fieldAt 4 (.r 22), none⟩, ⟨some 24, .load1 (.r 23), none⟩, ⟨some 25, .mv (.r 9), none⟩, ⟨some 26, .nilCheck (.r 25), none⟩, ⟨some 27, .fieldAt 5 (.r 26), none⟩, ⟨some 28, .load1 (.r 27), none⟩, ⟨some 6, .mv (.r 24), none⟩, ⟨some 7, .mv (.r 28), none⟩, ⟨some 8, .mv (.c (.int .i64 (.ofNat 0))), none⟩]) 
 .ret)))⟩
def c12 : AF := ⟨71, [.reg 0], .seq
  (.ops [⟨some 0, .mv (.c (.bool false)), none⟩]) 
 (.seq
  (.ops [⟨some 8, .buildSlice 1 61 [.int .u8 (.ofNat 0)] [(0, (1, .c (.int .u8 (.ofNat 116)))), (1, (1, .c (.int .u8 (.ofNat 104)))), (2, (1, .c (.int .u8 (.ofNat 101)))), (3, (1, .c (.int .u8 (.ofNat 32)))), (4, (1, .c (.int .u8 (.ofNat 99)))), (5, (1, .c (.int .u8 (.ofNat 97)))), (6, (1, .c (.int .u8 (.ofNat 116)))), (7, (1, .c (.int .u8 (.ofNat 44)))), (8, (1, .c (.int .u8 (.ofNat 32)))), (9, (1, .c (.int .u8 (.ofNat 116)))), (10, (1, .c (.int .u8 (.ofNat 104)))), (11, (1, .c (.int .u8 (.ofNat 101)))), (12, (1, .c (.int .u8 (.ofNat 32)))), (13, (1, .c (.int .u8 (.ofNat 99)))), (14, (1, .c (.int .u8 (.ofNat 97)))), (15, (1, .c (.int .u8 (.ofNat 116)))), (16, (1, .c (.int .u8 (.ofNat 44)))), (17, (1, .c (.int .u8 (.ofNat 32)))), (18, (1, .c (.int .u8 (.ofNat 116)))), (19, (1, .c (.int .u8 (.ofNat 104)))), (20, (1, .c (.int .u8 (.ofNat 101)))), (21, (1, .c (.int .u8 (.ofNat 32)))), (22, (1, .c (.int .u8 (.ofNat 99)))), (23, (1, .c (.int .u8 (.ofNat 97)))), (24, (1, .c (.int .u8 (.ofNat 116)))), (25, (1, .c (.int .u8 (.ofNat 44)))), (26, (1, .c (.int .u8 (.ofNat 32)))), (27, (1, .c (.int .u8 (.ofNat 116)))), (28, (1, .c (.int .u8 (.ofNat 104)))), (29, (1, .c (.int .u8 (.ofNat 101)))), (30, (1, .c (.int .u8 (.ofNat 32)))), (31, (1, .c (.int .u8 (.ofNat 99)))), (32, (1, .c (.int .u8 (.ofNat 97)))), (33, (1, .c (.int .u8 (.ofNat 116)))), (34, (1, .c (.int .u8 (.ofNat 44)))), (35, (1, .c (.int .u8 (.ofNat 32)))), (36, (1, .c (.int .u8 (.ofNat 116)))), (37, (1, .c (.int .u8 (.ofNat 104)))), (38, (1, .c (.int .u8 (.ofNat 101)))), (39, (1, .c (.int .u8 (.ofNat 32)))), (40, (1, .c (.int .u8 (.ofNat 99)))), (41, (1, .c (.int .u8 (.ofNat 97)))), (42, (1, .c (.int .u8 (.ofNat 116)))), (43, (1, .c (.int .u8 (.ofNat 44)))), (44, (1, .c (.int .u8 (.ofNat 32)))), (45, (1, .c (.int .u8 (.ofNat 116)))), (46, (1, .c (.int .u8 (.ofNat 104)))), (47, (1, .c (.int .u8 (.ofNat 101)))), (48, (1, .c (.int .u8 (.ofNat 32)))), (49, (1, .c (.int .u8 (.ofNat 99)))), (50, (1, .c (.int .u8 (.ofNat 97)))), (51, (1, .c (.int .u8 (.ofNat 116)))), (52, (1, .c (.int .u8 (.ofNat 44)))), (53, (1, .c (.int .u8 (.ofNat 32)))), (54, (1, .c (.int .u8 (.ofNat 116)))), (55, (1, .c (.int .u8 (.ofNat 104)))), (56, (1, .c (.int .u8 (.ofNat 101)))), (57, (1, .c (.int .u8 (.ofNat 32)))), (58, (1, .c (.int .u8 (.ofNat 99)))), (59, (1, .c (.int .u8 (.ofNat 97)))), (60, (1, .c (.int .u8 (.ofNat 116))))], none⟩, ⟨some 9, .sameSl (.r 8), none⟩, ⟨some 1, .mv (.r 9), none⟩]) 
 (.seq
  (.ops [⟨some 11, .mv (.r 1), none⟩, ⟨some 12, .call 40 [.r 11, .c (.int .i64 (.ofNat 5)), .c (.bool true)], none⟩, ⟨some 10, .mv (.r 12), none⟩, ⟨some 13, .extract 0 (.r 10), none⟩, ⟨some 14, .extract 1 (.r 10), none⟩, ⟨some 2, .mv (.r 13), none⟩, ⟨some 3, .mv (.r 14), none⟩]) 
 (.seq
  (.ops [⟨some 16, .mv (.r 2), none⟩, ⟨some 17, .call 10 [.r 16, .c (.int .i64 (.ofNat 22)), .c (.int .i64 (.ofNat 100))], none⟩, ⟨some 15, .mv (.r 17), none⟩, ⟨some 18, .extract 0 (.r 15), none⟩, ⟨some 19, .extract 1 (.r 15), none⟩, ⟨some 4, .mv (.r 18), none⟩, ⟨some 5, .mv (.r 19), none⟩]) 
 (.seq
  (.ops [⟨some 21, .mv (.r 1), none⟩, ⟨some 22, .call 31 [.r 21, .c (.int .i64 (.ofNat 20))], none⟩, ⟨some 20, .mv (.r 22), none⟩, ⟨some 23, .extract 0 (.r 20), none⟩, ⟨some 24, .extract 1 (.r 20), none⟩, ⟨some 6, .alloc [.int .u64 (.ofNat 0), .int .u32 (.ofNat 0), .nilslice], none⟩, ⟨none, .store 3 (.r 6) (.r 23), none⟩, ⟨some 7, .mv (.r 24), none⟩]) 
 (.seq
  (.ops [⟨some 25, .mv (.r 3), none⟩, ⟨some 26, .bin .eql (.r 25) (.c (.int .i64 (.ofNat 0))), none⟩, ⟨some 27, .mv (.r 26), none⟩, ⟨some 28, .mv (.r 5), some (27, true)⟩, ⟨some 29, .bin .eql (.r 28) (.c (.int .i64 (.ofNat 0))), some (27, true)⟩, ⟨some 30, .pick (.r 27) (.r 29) (.c (.bool false)), none⟩, ⟨some 31, .mv (.r 30), none⟩, ⟨some 32, .mv (.r 4), some (31, true)⟩, ⟨some 33, .strOf (.r 32), some (31, true)⟩, ⟨some 34, .mv (.r 1), some (31, true)⟩, ⟨some 35, .strOf (.r 34), some (31, true)⟩, ⟨some 36, .bin .eql (.r 33) (.r 35), some (31, true)⟩, ⟨some 37, .pick (.r 31) (.r 36) (.c (.bool false)), none⟩, ⟨some 38, .mv (.r 37), none⟩, ⟨some 39, .mv (.r 2), some (38, true)⟩, ⟨some 40, .len .slice (.r 39), some (38, true)⟩, ⟨some 41, .mv (.r 1), some (38, true)⟩, ⟨some 42, .len .slice (.r 41), some (38, true)⟩, ⟨some 43, .bin .add (.r 42) (.c (.int .i64 (.ofNat 24))), some (38, true)⟩, ⟨some 44, .bin .leq (.r 40) (.r 43), some (38, true)⟩, ⟨some 45, .pick (.r 38) (.r 44) (.c (.bool false)), none⟩, ⟨some 46, .mv (.r 45), none⟩, ⟨some 47, .mv (.r 7), some (46, true)⟩, ⟨some 48, .bin .eql (.r 47) (.c (.int .i64 (.ofNat 0))), some (46, true)⟩, ⟨some 49, .pick (.r 46) (.r 48) (.c (.bool false)), none⟩, ⟨some 50, .mv (.r 49), none⟩, ⟨some 51, .fieldAt 2 (.r 6), some (50, true)⟩, ⟨some 52, .load1 (.r 51), some (50, true)⟩, ⟨some 53, .len .slice (.r 52), some (50, true)⟩, ⟨some 54, .bin .eql (.r 53) (.c (.int .i64 (.ofNat 4))), some (50, true)⟩, ⟨some 55, .pick (.r 50) (.r 54) (.c (.bool false)), none⟩, ⟨some 56, .mv (.r 55), none⟩, ⟨some 57, .call 32 [.c .nilslice], some (56, true)⟩, ⟨some 58, .build [.int .u8 (.ofNat 0), .int .u8 (.ofNat 0), .int .u8 (.ofNat 0), .int .u8 (.ofNat 0), .int .u8 (.ofNat 0), .int .u8 (.ofNat 0), .int .u8 (.ofNat 0), .int .u8 (.ofNat 0), .int .u8 (.ofNat 0), .int .u8 (.ofNat 0), .int .u8 (.ofNat 0), .int .u8 (.ofNat 0), .int .u8 (.ofNat 0), .int .u8 (.ofNat 0), .int .u8 (.ofNat 0), .int .u8 (.ofNat 0), .int .u8 (.ofNat 0), .int .u8 (.ofNat 0), .int .u8 (.ofNat 0), .int .u8 (.ofNat 0), .int .u8 (.ofNat 0), .int .u8 (.ofNat 0), .int .u8 (.ofNat 0), .int .u8 (.ofNat 0), .int .u8 (.ofNat 0), .int .u8 (.ofNat 0), .int .u8 (.ofNat 0), .int .u8 (.ofNat 0), .int .u8 (.ofNat 0), .int .u8 (.ofNat 0), .int .u8 (.ofNat 0), .int .u8 (.ofNat 0)] [], some (56, true)⟩, ⟨some 59, .eql true [.int .u8, .int .u8, .int .u8, .int .u8, .int .u8, .int .u8, .int .u8, .int .u8, .int .u8, .int .u8, .int .u8, .int .u8, .int .u8, .int .u8, .int .u8, .int .u8, .int .u8, .int .u8, .int .u8, .int .u8, .int .u8, .int .u8, .int .u8, .int .u8, .int .u8, .int .u8, .int .u8, .int .u8, .int .u8, .int .u8, .int .u8, .int .u8] true (.r 57) (.r 58), some (56, true)⟩, ⟨some 60, .pick (.r 56) (.r 59) (.c (.bool false)), none⟩, ⟨some 61, .mv (.r 60), none⟩, ⟨some 62, .call 38 [.c .nilslice], some (61, true)⟩, ⟨some 63, .bin .eql (.r 62) (.c (.int .u64 (.ofNat 17241709254077376921))), some (61, true)⟩, ⟨some 64, .pick (.r 61) (.r 63) (.c (.bool false)), none⟩, ⟨some 65, .mv (.r 64), none⟩, ⟨some 66, .buildSlice 1 9 [.int .u8 (.ofNat 0)] [(0, (1, .c (.int .u8 (.ofNat 49)))), (1, (1, .c (.int .u8 (.ofNat 50)))), (2, (1, .c (.int .u8 (.ofNat 51)))), (3, (1, .c (.int .u8 (.ofNat 52)))), (4, (1, .c (.int .u8 (.ofNat 53)))), (5, (1, .c (.int .u8 (.ofNat 54)))), (6, (1, .c (.int .u8 (.ofNat 55)))), (7, (1, .c (.int .u8 (.ofNat 56)))), (8, (1, .c (.int .u8 (.ofNat 57))))], some (65, true)⟩, ⟨some 67, .sameSl (.r 66), some (65, true)⟩, ⟨some 68, .call 41 [.r 67], some (65, true)⟩, ⟨some 69, .bin .eql (.r 68) (.c (.int .u32 (.ofNat 3808858755))), some (65, true)⟩, ⟨some 70, .pick (.r 65) (.r 69) (.c (.bool false)), none⟩, ⟨some 0, .mv (.r 70), none⟩]) 
 .ret)))))⟩
def c13 : AF := ⟨19, [.reg 4], .seq
  (.ops [⟨some 4, .mv (.c (.str [])), none⟩]) 
 (.seq
  (.ops [⟨some 5, .mv (.c (.str [])), none⟩]) 
 (.seq
  (.seq
  (.ops [⟨some 6, .mv (.r 1), none⟩, ⟨some 7, .mv (.c (.int .i64 (.ofNat 0))), none⟩]) 
 (.block 0 (.loop (.seq
  (.ops [⟨some 8, .bin .lss (.r 7) (.r 6), none⟩]) 
 (.seq
  (.cond (.r 8) .skip (.exit 0)) 
 (.seq
  (.block 1 (.seq
  (.ops [⟨some 9, .mv (.r 5), none⟩, ⟨some 10, .mv (.r 0), none⟩, ⟨some 11, .toInt .u8 (.r 10), none⟩, ⟨some 12, .buildSlice 1 1 [.int .u8 (.ofNat 0)] [(0, (1, .r 11))], none⟩, ⟨some 13, .strOf (.r 12), none⟩, ⟨some 14, .bin .add (.r 9) (.r 13), none⟩, ⟨some 5, .mv (.r 14), none⟩]) 
 (.ops [⟨some 15, .mv (.r 0), none⟩, ⟨some 16, .bin .shr (.r 15) (.c (.int .u64 (.ofNat 8))), none⟩, ⟨some 0, .mv (.r 16), none⟩]))) 
 (.ops [⟨some 17, .bin .add (.r 7) (.c (.int .i64 (.ofNat 1))), none⟩, ⟨some 7, .mv (.r 17), none⟩]))))))) 
 (.seq
  (.ops [⟨some 18, .mv (.r 5), none⟩, ⟨some 4, .mv (.r 18), none⟩]) 
 .ret)))⟩
def c14 : AF := ⟨32, [.reg 2], .seq
  (.ops [⟨some 2, .mv (.c (.int .u64 (.ofNat 0))), none⟩]) 
 (.seq
  (.ops [⟨some 3, .mv (.c (.int .u32 (.ofNat 4294967295))), none⟩]) 
 (.seq
  (.seq
  (.ops [⟨some 6, .mv (.r 0), none⟩, ⟨some 7, .len .str (.r 6), none⟩, ⟨some 8, .mv (.c (.int .i64 (.ofNat 0))), none⟩]) 
 (.block 0 (.loop (.seq
  (.ops [⟨some 9, .bin .lss (.r 8) (.r 7), none⟩]) 
 (.seq
  (.cond (.r 9) .skip (.exit 0)) 
 (.seq
  (.block 1 (.seq
  (.ops [⟨some 10, .mv (.r 8), none⟩, ⟨some 4, .mv (.r 10), none⟩]) 
 (.seq
  (.ops [⟨some 11, .mv (.r 3), none⟩, ⟨some 12, .mv (.r 0), none⟩, ⟨some 13, .mv (.r 4), none⟩, ⟨some 14, .indexStr (.r 12) (.r 13), none⟩, ⟨some 15, .toInt .u32 (.r 14), none⟩, ⟨some 16, .bin .xor (.r 11) (.r 15), none⟩, ⟨some 3, .mv (.r 16), none⟩]) 
 (.seq
  (.ops [⟨some 17, .mv (.c (.int .i64 (.ofNat 0))), none⟩]) 
 (.block 2 (.loop (.seq
  (.ops [⟨some 18, .bin .lss (.r 17) (.c (.int .i64 (.ofNat 8))), none⟩]) 
 (.seq
  (.cond (.r 18) .skip (.exit 2)) 
 (.seq
  (.block 3 (.seq
  (.ops [⟨some 19, .mv (.r 3), none⟩, ⟨some 20, .bin .and (.r 19) (.c (.int .u32 (.ofNat 1))), none⟩, ⟨some 5, .mv (.r 20), none⟩]) 
 (.seq
  (.ops [⟨some 21, .mv (.r 3), none⟩, ⟨some 22, .bin .shr (.r 21) (.c (.int .u64 (.ofNat 1))), none⟩, ⟨some 3, .mv (.r 22), none⟩]) 
 (.seq
  (.ops [⟨some 23, .mv (.r 5), none⟩, ⟨some 24, .bin .eql (.r 23) (.c (.int .u32 (.ofNat 1))), none⟩]) 
 (.cond (.r 24) (.ops [⟨some 25, .mv (.r 3), none⟩, ⟨some 26, .bin .xor (.r 25) (.c (.int .u32 (.ofNat 2197175160))), none⟩, ⟨some 3, .mv (.r 26), none⟩]) .skip))))) 
 (.ops [⟨some 27, .bin .add (.r 17) (.c (.int .i64 (.ofNat 1))), none⟩, ⟨some 17, .mv (.r 27), none⟩])))))))))) 
 (.ops [⟨some 28, .bin .add (.r 8) (.c (.int .i64 (.ofNat 1))), none⟩, ⟨some 8, .mv (.r 28), none⟩]))))))) 
 (.seq
  (.ops [⟨some 29, .mv (.r 3), none⟩, ⟨some 30, .un .xor (.r 29), none⟩, ⟨some 31, .toInt .u64 (.r 30), none⟩, ⟨some 2, .mv (.r 31), none⟩]) 
 .ret)))⟩
def c15 : AF := ⟨57, [.reg 2, .reg 3], .seq
  (.ops [⟨some 1, .box 7 (.r 0), none⟩, ⟨some 2, .mv (.c .nilslice), none⟩, ⟨some 3, .mv (.c (.int .i64 (.ofNat 0))), none⟩]) 
 (.seq
  (.seq
  (.ops [⟨some 7, .loadN 7 (.r 1), none⟩, ⟨some 8, .call 42 [.r 7], none⟩, ⟨some 9, .un .not (.r 8), none⟩]) 
 (.cond (.r 9) (.seq
  (.ops [⟨some 2, .mv (.c .nilslice), none⟩, ⟨some 3, .mv (.c (.int .i64 (.ofNat 1))), none⟩]) 
 .ret) .skip)) 
 (.seq
  (.ops [⟨some 10, .call 43 [], none⟩, ⟨some 4, .mv (.r 10), none⟩]) 
 (.seq
  (.ops [⟨some 11, .mv (.r 4), none⟩, ⟨some 12, .fieldAt 0 (.r 1), none⟩, ⟨some 13, .load1 (.r 12), none⟩, ⟨some 14, .toInt .u64 (.r 13), none⟩, ⟨some 15, .call 44 [.r 11, .r 14, .c (.int .i64 (.ofNat 1))], none⟩]) 
 (.seq
  (.ops [⟨some 16, .mv (.r 4), none⟩, ⟨some 17, .fieldAt 1 (.r 1), none⟩, ⟨some 18, .load1 (.r 17), none⟩, ⟨some 19, .call 44 [.r 16, .r 18, .c (.int .i64 (.ofNat 8))], none⟩]) 
 (.seq
  (.ops [⟨some 20, .mv (.r 4), none⟩, ⟨some 21, .fieldAt 2 (.r 1), none⟩, ⟨some 22, .load1 (.r 21), none⟩, ⟨some 23, .call 44 [.r 20, .r 22, .c (.int .i64 (.ofNat 8))], none⟩]) 
 (.seq
  (.seq
  (.ops [⟨some 24, .fieldAt 3 (.r 1), none⟩, ⟨some 25, .load1 (.r 24), none⟩, ⟨some 26, .fieldAt 4 (.r 1), none⟩, ⟨some 27, .load1 (.r 26), none⟩, ⟨some 28, .fieldAt 5 (.r 1), none⟩, ⟨some 29, .load1 (.r 28), none⟩, ⟨some 30, .build [.int .u32 (.ofNat 0), .int .u32 (.ofNat 0), .int .u32 (.ofNat 0)] [(0, (1, .r 25)), (1, (1, .r 27)), (2, (1, .r 29))], none⟩, ⟨some 31, .mv (.c (.int .i64 (.ofNat 0))), none⟩]) 
 (.block 0 (.loop (.seq
  (.ops [⟨some 32, .bin .lss (.r 31) (.c (.int .i64 (.ofNat 3))), none⟩]) 
 (.seq
  (.cond (.r 32) .skip (.exit 0)) 
 (.seq
  (.block 1 (.seq
  (.ops [⟨some 33, .indexAgg 3 1 false (.r 30) (.r 31), none⟩, ⟨some 6, .mv (.r 33), none⟩]) 
 (.ops [⟨some 34, .mv (.r 4), none⟩, ⟨some 35, .mv (.r 6), none⟩, ⟨some 36, .toInt .u64 (.r 35), none⟩, ⟨some 37, .call 44 [.r 34, .r 36, .c (.int .i64 (.ofNat 4))], none⟩]))) 
 (.ops [⟨some 38, .bin .add (.r 31) (.c (.int .i64 (.ofNat 1))), none⟩, ⟨some 31, .mv (.r 38), none⟩]))))))) 
 (.seq
  (.ops [⟨some 39, .mv (.r 4), none⟩, ⟨some 40, .fieldAt 6 (.r 1), none⟩, ⟨some 41, .load1 (.r 40), none⟩, ⟨some 42, .len .slice (.r 41), none⟩, ⟨some 43, .toInt .u64 (.r 42), none⟩, ⟨some 44, .call 44 [.r 39, .r 43, .c (.int .i64 (.ofNat 2))], none⟩]) 
 (.seq
  (.ops [⟨some 45, .mv (.r 4), none⟩, ⟨some 46, .fieldAt 6 (.r 1), none⟩, ⟨some 47, .load1 (.r 46), none⟩, ⟨some 48, .call 45 [.r 45, .r 47], none⟩]) 
 (.seq
  (.ops [⟨some 49, .mv (.r 4), none⟩, ⟨some 50, .mv (.r 4), none⟩, ⟨some 51, .call 46 [.r 50], none⟩, ⟨some 52, .call 41 [.r 51], none⟩, ⟨some 53, .toInt .u64 (.r 52), none⟩, ⟨some 54, .call 44 [.r 49, .r 53, .c (.int .i64 (.ofNat 4))], none⟩]) 
 (.seq
  (.ops [⟨some 55, .mv (.r 4), none⟩, ⟨some 56, .call 46 [.r 55], none⟩, ⟨some 2, .mv (.r 56), none⟩, ⟨some 3, .mv (.c (.int .i64 (.ofNat 0))), none⟩]) 
 .ret))))))))))⟩
def c16 : AF := ⟨60, [.cell 2 7 true, .reg 3], .seq
  (.ops [⟨some 2, .alloc [.int .u8 (.ofNat 0), .int .u64 (.ofNat 0), .int .u64 (.ofNat 0), .int .u32 (.ofNat 0), .int .u32 (.ofNat 0), .int .u32 (.ofNat 0), .nilslice], none⟩, ⟨some 3, .mv (.c (.int .i64 (.ofNat 0))), none⟩]) 
 (.seq
  (.ops [⟨some 8, .mv (.r 0), none⟩, ⟨some 9, .call 47 [.r 8], none⟩, ⟨some 4, .alloc [.nilptr], none⟩, ⟨none, .store 1 (.r 4) (.r 9), none⟩]) 
 (.seq
  (.ops [⟨some 10, .makeFunc (.func 48) [] [.r 4], none⟩, ⟨some 5, .mv (.r 10), none⟩]) 
 (.seq
  (.multi [(1, ⟨some 11, .load1 (.r 4), none⟩), (4, ⟨some 12, .call 49 [.r 11, .c (.int .i64 (.ofNat 1))], none⟩), (0, ⟨some 13, .toInt .u8 (.r 12), none⟩), (1, ⟨some 14, .load1 (.r 4), none⟩), (4, ⟨some 15, .call 49 [.r 14, .c (.int .i64 (.ofNat 8))], none⟩), (1, ⟨some 16, .load1 (.r 4), none⟩), (4, ⟨some 17, .call 49 [.r 16, .c (.int .i64 (.ofNat 8))], none⟩), (0, ⟨some 18, .build [.int .u8 (.ofNat 0), .int .u64 (.ofNat 0), .int .u64 (.ofNat 0), .int .u32 (.ofNat 0), .int .u32 (.ofNat 0), .int .u32 (.ofNat 0), .nilslice] [(0, (1, .r 13)), (1, (1, .r 15)), (2, (1, .r 17))], none⟩), (2, ⟨some 6, .alloc [.int .u8 (.ofNat 0), .int .u64 (.ofNat 0), .int .u64 (.ofNat 0), .int .u32 (.ofNat 0), .int .u32 (.ofNat 0), .int .u32 (.ofNat 0), .nilslice], none⟩), (5, ⟨none, .store 7 (.r 6) (.r 18), none⟩)] [(0, 8), (1, 3), (1, 5), (1, 8), (3, 8), (4, 5), (4, 8), (5, 8), (6, 8)]) 
 (.seq
  (.ops [⟨some 19, .mv (.r 5), none⟩, ⟨some 20, .callv (.r 19) [], none⟩, ⟨some 21, .mv (.r 5), none⟩, ⟨some 22, .callv (.r 21) [], none⟩, ⟨some 23, .mv (.r 5), none⟩, ⟨some 24, .callv (.r 23) [], none⟩, ⟨some 25, .fieldAt 3 (.r 6), none⟩, ⟨none, .store 1 (.r 25) (.r 20), none⟩, ⟨some 26, .fieldAt 4 (.r 6), none⟩, ⟨none, .store 1 (.r 26) (.r 22), none⟩, ⟨some 27, .fieldAt 5 (.r 6), none⟩, ⟨none, .store 1 (.r 27) (.r 24), none⟩]) 
 (.seq
  (.multi [(1, ⟨some 28, .load1 (.r 4), none⟩), (5, ⟨some 29, .load1 (.r 4), none⟩), (4, ⟨some 30, .call 49 [.r 29, .c (.int .i64 (.ofNat 2))], none⟩), (0, ⟨some 31, .toInt .i64 (.r 30), none⟩), (5, ⟨some 32, .call 50 [.r 28, .r 31], none⟩), (0, ⟨some 33, .fieldAt 6 (.r 6), none⟩), (5, ⟨none, .store 1 (.r 33) (.r 32), none⟩)] [(0, 2)]) 
 (.seq
  (.ops [⟨some 34, .load1 (.r 4), none⟩, ⟨some 35, .call 49 [.r 34, .c (.int .i64 (.ofNat 4))], none⟩, ⟨some 7, .mv (.r 35), none⟩]) 
 (.seq
  (.block 0 (.seq
  (.ops [⟨some 37, .load1 (.r 4), none⟩, ⟨some 38, .call 51 [.r 37], none⟩, ⟨some 39, .bin .neq (.r 38) (.c (.int .i64 (.ofNat 0))), none⟩, ⟨some 36, .mv (.r 39), none⟩]) 
 (.cond (.r 36) (.seq
  (.ops [⟨some 40, .build [.int .u8 (.ofNat 0), .int .u64 (.ofNat 0), .int .u64 (.ofNat 0), .int .u32 (.ofNat 0), .int .u32 (.ofNat 0), .int .u32 (.ofNat 0), .nilslice] [], none⟩, ⟨some 41, .load1 (.r 4), none⟩, ⟨some 42, .call 51 [.r 41], none⟩, ⟨none, .store 7 (.r 2) (.r 40), none⟩, ⟨some 3, .mv (.r 42), none⟩]) 
 .ret) (.seq
  (.ops [⟨some 44, .mv (.r 0), none⟩, ⟨some 45, .mv (.r 0), none⟩, ⟨some 46, .len .slice (.r 45), none⟩, ⟨some 47, .bin .sub (.r 46) (.c (.int .i64 (.ofNat 4))), none⟩, ⟨some 48, .sliceSl 1 false (.r 44) none (some (.r 47)) none, none⟩, ⟨some 49, .call 41 [.r 48], none⟩, ⟨some 50, .toInt .u64 (.r 49), none⟩, ⟨some 51, .mv (.r 7), none⟩, ⟨some 52, .bin .neq (.r 50) (.r 51), none⟩, ⟨some 43, .mv (.r 52), none⟩]) 
 (.cond (.r 43) (.seq
  (.ops [⟨some 53, .build [.int .u8 (.ofNat 0), .int .u64 (.ofNat 0), .int .u64 (.ofNat 0), .int .u32 (.ofNat 0), .int .u32 (.ofNat 0), .int .u32 (.ofNat 0), .nilslice] [], none⟩, ⟨none, .store 7 (.r 2) (.r 53), none⟩, ⟨some 3, .mv (.c (.int .i64 (.ofNat 13))), none⟩]) 
 .ret) (.seq
  (.ops [⟨some 55, .loadN 7 (.r 6), none⟩, ⟨some 56, .call 42 [.r 55], none⟩, ⟨some 57, .un .not (.r 56), none⟩, ⟨some 54, .mv (.r 57), none⟩]) 
 (.cond (.r 54) (.seq
  (.ops [⟨some 58, .build [.int .u8 (.ofNat 0), .int .u64 (.ofNat 0), .int .u64 (.ofNat 0), .int .u32 (.ofNat 0), .int .u32 (.ofNat 0), .int .u32 (.ofNat 0), .nilslice] [], none⟩, ⟨none, .store 7 (.r 2) (.r 58), none⟩, ⟨some 3, .mv (.c (.int .i64 (.ofNat 11))), none⟩]) 
 .ret) .skip))))))) 
 (.seq
  (.ops [⟨some 59, .loadN 7 (.r 6), none⟩, ⟨none, .store 7 (.r 2) (.r 59), none⟩, ⟨some 3, .mv (.c (.int .i64 (.ofNat 0))), none⟩]) 
 .ret))))))))⟩
def c17 : AF := ⟨35, [.reg 4, .reg 5], .seq
  (.ops [⟨some 4, .mv (.c .nilptr), none⟩, ⟨some 5, .mv (.c (.int .i64 (.ofNat 0))), none⟩]) 
 (.seq
  (.seq
  (.ops [⟨some 7, .mv (.r 0), none⟩, ⟨some 8, .bin .lss (.r 7) (.c (.int .i64 (.ofNat 0))), none⟩, ⟨some 9, .mv (.r 8), none⟩, ⟨some 10, .mv (.r 0), some (9, false)⟩, ⟨some 11, .bin .gtr (.r 10) (.c (.int .i64 (.ofNat 65536))), some (9, false)⟩, ⟨some 12, .pick (.r 9) (.c (.bool true)) (.r 11), none⟩, ⟨some 13, .mv (.r 12), none⟩, ⟨some 14, .mv (.r 1), some (13, false)⟩, ⟨some 15, .bin .lss (.r 14) (.c (.int .i64 (.ofNat 1))), some (13, false)⟩, ⟨some 16, .pick (.r 13) (.c (.bool true)) (.r 15), none⟩, ⟨some 17, .mv (.r 16), none⟩, ⟨some 18, .mv (.r 1), some (17, false)⟩, ⟨some 19, .bin .gtr (.r 18) (.c (.int .i64 (.ofNat 1500))), some (17, false)⟩, ⟨some 20, .pick (.r 17) (.c (.bool true)) (.r 19), none⟩]) 
 (.cond (.r 20) (.seq
  (.ops [⟨some 4, .mv (.c .nilptr), none⟩, ⟨some 5, .mv (.c (.int .i64 (.ofNat 1))), none⟩]) 
 .ret) .skip)) 
 (.seq
  (.ops [⟨some 21, .mv (.r 0), none⟩, ⟨some 22, .mv (.r 1), none⟩, ⟨some 23, .bin .add (.r 21) (.r 22), none⟩, ⟨some 24, .bin .sub (.r 23) (.c (.int .i64 (.ofNat 1))), none⟩, ⟨some 25, .mv (.r 1), none⟩, ⟨some 26, .bin .quo (.r 24) (.r 25), none⟩, ⟨some 6, .mv (.r 26), none⟩]) 
 (.seq
  (.multi [(0, ⟨some 27, .mv (.r 0), none⟩), (0, ⟨some 28, .mv (.r 1), none⟩), (0, ⟨some 29, .mv (.r 6), none⟩), (2, ⟨some 30, .makeSlice 1 24 [.nilslice] (.r 29) (.r 29), none⟩), (0, ⟨some 31, .mv (.r 6), none⟩), (2, ⟨some 32, .makeSlice 1 1 [.bool false] (.r 31) (.r 31), none⟩), (0, ⟨some 33, .build [.int .i64 (.ofNat 0), .int .i64 (.ofNat 0), .nilslice, .nilslice] [(0, (1, .r 27)), (1, (1, .r 28)), (2, (1, .r 30)), (3, (1, .r 32))], none⟩), (5, ⟨some 34, .box 4 (.r 33), none⟩), (0, ⟨some 4, .mv (.r 34), none⟩), (0, ⟨some 5, .mv (.c (.int .i64 (.ofNat 0))), none⟩)] [(3, 5)]) 
 .ret)))⟩
def c18 : AF := ⟨65, [.reg 6, .reg 7], .seq
  (.ops [⟨some 6, .mv (.c (.bool false)), none⟩, ⟨some 7, .mv (.c (.int .i64 (.ofNat 0))), none⟩]) 
 (.seq
  (.block 0 (.seq
  (.ops [⟨some 9, .mv (.r 0), none⟩, ⟨some 10, .eqnil false 0 (.r 9) (.c .nilptr), none⟩, ⟨some 8, .mv (.r 10), none⟩]) 
 (.cond (.r 8) (.seq
  (.ops [⟨some 6, .mv (.c (.bool false)), none⟩, ⟨some 7, .mv (.c (.int .i64 (.ofNat 1))), none⟩]) 
 .ret) (.seq
  (.ops [⟨some 12, .mv (.r 1), none⟩, ⟨some 13, .bin .lss (.r 12) (.c (.int .i64 (.ofNat 0))), none⟩, ⟨some 14, .mv (.r 13), none⟩, ⟨some 15, .mv (.r 1), some (14, false)⟩, ⟨some 16, .mv (.r 0), some (14, false)⟩, ⟨some 17, .nilCheck (.r 16), some (14, false)⟩, ⟨some 18, .fieldAt 2 (.r 17), some (14, false)⟩, ⟨some 19, .load1 (.r 18), some (14, false)⟩, ⟨some 20, .len .slice (.r 19), some (14, false)⟩, ⟨some 21, .bin .geq (.r 15) (.r 20), some (14, false)⟩, ⟨some 22, .pick (.r 14) (.c (.bool true)) (.r 21), none⟩, ⟨some 11, .mv (.r 22), none⟩]) 
 (.cond (.r 11) (.seq
  (.ops [⟨some 6, .mv (.c (.bool false)), none⟩, ⟨some 7, .mv (.c (.int .i64 (.ofNat 17))), none⟩]) 
 .ret) (.seq
  (.ops [⟨some 24, .mv (.r 2), none⟩, ⟨some 25, .len .slice (.r 24), none⟩, ⟨some 26, .mv (.r 0), none⟩, ⟨some 27, .nilCheck (.r 26), none⟩, ⟨some 28, .fieldAt 0 (.r 27), none⟩, ⟨some 29, .load1 (.r 28), none⟩, ⟨some 30, .mv (.r 1), none⟩, ⟨some 31, .mv (.r 0), none⟩, ⟨some 32, .nilCheck (.r 31), none⟩, ⟨some 33, .fieldAt 1 (.r 32), none⟩, ⟨some 34, .load1 (.r 33), none⟩, ⟨some 35, .bin .mul (.r 30) (.r 34), none⟩, ⟨some 36, .bin .sub (.r 29) (.r 35), none⟩, ⟨some 37, .mv (.r 0), none⟩, ⟨some 38, .nilCheck (.r 37), none⟩, ⟨some 39, .fieldAt 1 (.r 38), none⟩, ⟨some 40, .load1 (.r 39), none⟩, ⟨some 41, .call 52 [.r 36, .c (.int .i64 (.ofNat 0)), .r 40], none⟩, ⟨some 42, .bin .neq (.r 25) (.r 41), none⟩, ⟨some 23, .mv (.r 42), none⟩]) 
 (.cond (.r 23) (.seq
  (.ops [⟨some 6, .mv (.c (.bool false)), none⟩, ⟨some 7, .mv (.c (.int .i64 (.ofNat 11))), none⟩]) 
 .ret) (.seq
  (.ops [⟨some 44, .mv (.r 0), none⟩, ⟨some 45, .nilCheck (.r 44), none⟩, ⟨some 46, .fieldAt 3 (.r 45), none⟩, ⟨some 47, .load1 (.r 46), none⟩, ⟨some 48, .mv (.r 1), none⟩, ⟨some 49, .indexSl 1 (.r 47) (.r 48), none⟩, ⟨some 50, .load1 (.r 49), none⟩, ⟨some 43, .mv (.r 50), none⟩]) 
 (.cond (.r 43) (.seq
  (.ops [⟨some 6, .mv (.c (.bool false)), none⟩, ⟨some 7, .mv (.c (.int .i64 (.ofNat 0))), none⟩]) 
 .ret) .skip))))))))) 
 (.seq
  (.multi [(0, ⟨some 51, .mv (.r 0), none⟩), (0, ⟨some 52, .nilCheck (.r 51), none⟩), (0, ⟨some 53, .fieldAt 2 (.r 52), none⟩), (1, ⟨some 54, .load1 (.r 53), none⟩), (0, ⟨some 55, .mv (.r 1), none⟩), (0, ⟨some 56, .mv (.r 0), none⟩), (0, ⟨some 57, .nilCheck (.r 56), none⟩), (0, ⟨some 58, .fieldAt 3 (.r 57), none⟩), (1, ⟨some 59, .load1 (.r 58), none⟩), (0, ⟨some 60, .mv (.r 1), none⟩), (0, ⟨some 61, .mv (.r 2), none⟩), (4, ⟨some 62, .call 53 [.r 61], none⟩), (0, ⟨some 63, .indexSl 1 (.r 54) (.r 55), none⟩), (5, ⟨none, .store 1 (.r 63) (.r 62), none⟩), (0, ⟨some 64, .indexSl 1 (.r 59) (.r 60), none⟩), (5, ⟨none, .store 1 (.r 64) (.c (.bool true)), none⟩)] [(3, 11), (8, 11)]) 
 (.seq
  (.ops [⟨some 6, .mv (.c (.bool true)), none⟩, ⟨some 7, .mv (.c (.int .i64 (.ofNat 0))), none⟩]) 
 .ret)))⟩
def c19 : AF := ⟨10, [.reg 2], .seq
  (.ops [⟨some 2, .mv (.c .nilslice), none⟩]) 
 (.seq
  (.seq
  (.ops [⟨some 3, .mv (.r 0), none⟩, ⟨some 4, .eqnil false 0 (.r 3) (.c .nilptr), none⟩]) 
 (.cond (.r 4) (.seq
  (.ops [⟨some 2, .mv (.c .nilslice), none⟩]) 
 .ret) .skip)) 
 (.seq
  (.ops [⟨some 5, .mv (.r 0), none⟩, ⟨some 6, .nilCheck (.r 5), none⟩, ⟨some 7, .fieldAt 3 (.r 6), none⟩, ⟨some 8, .load1 (.r 7), none⟩, ⟨some 9, .call 54 [.r 8], none⟩, ⟨some 2, .mv (.r 9), none⟩]) 
 .ret))⟩
def c20 : AF := ⟨29, [.reg 4], .seq
  (.ops [⟨some 4, .mv (.c .nilslice), none⟩]) 
 (.seq
  (.ops [⟨some 5, .mv (.c .nilslice), none⟩]) 
 (.seq
  (.seq
  (.ops [⟨some 8, .mv (.r 0), none⟩, ⟨some 9, .len .slice (.r 8), none⟩, ⟨some 10, .mv (.c (.int .i64 (.ofNat 0))), none⟩]) 
 (.block 0 (.loop (.seq
  (.ops [⟨some 11, .bin .lss (.r 10) (.r 9), none⟩]) 
 (.seq
  (.cond (.r 11) .skip (.exit 0)) 
 (.seq
  (.block 1 (.seq
  (.ops [⟨some 12, .mv (.r 10), none⟩, ⟨some 13, .indexSl 1 (.r 8) (.r 10), none⟩, ⟨some 14, .load1 (.r 13), none⟩, ⟨some 6, .mv (.r 12), none⟩, ⟨some 7, .mv (.r 14), none⟩]) 
 (.seq
  (.ops [⟨some 15, .mv (.r 7), none⟩, ⟨some 16, .un .not (.r 15), none⟩, ⟨some 17, .mv (.r 16), none⟩, ⟨some 18, .mv (.r 5), some (17, true)⟩, ⟨some 19, .len .slice (.r 18), some (17, true)⟩, ⟨some 20, .mv (.r 1), some (17, true)⟩, ⟨some 21, .bin .lss (.r 19) (.r 20), some (17, true)⟩, ⟨some 22, .pick (.r 17) (.r 21) (.c (.bool false)), none⟩]) 
 (.cond (.r 22) (.ops [⟨some 23, .mv (.r 5), none⟩, ⟨some 24, .mv (.r 6), none⟩, ⟨some 25, .buildSlice 1 1 [.int .i64 (.ofNat 0)] [(0, (1, .r 24))], none⟩, ⟨some 26, .append 1 8 (.r 23) (.r 25), none⟩, ⟨some 5, .mv (.r 26), none⟩]) .skip)))) 
 (.ops [⟨some 27, .bin .add (.r 10) (.c (.int .i64 (.ofNat 1))), none⟩, ⟨some 10, .mv (.r 27), none⟩]))))))) 
 (.seq
  (.ops [⟨some 28, .mv (.r 5), none⟩, ⟨some 4, .mv (.r 28), none⟩]) 
 .ret)))⟩
def c21 : AF := ⟨10, [.reg 2], .seq
  (.ops [⟨some 2, .mv (.c (.int .i64 (.ofNat 0))), none⟩]) 
 (.seq
  (.seq
  (.ops [⟨some 3, .mv (.r 0), none⟩, ⟨some 4, .eqnil false 0 (.r 3) (.c .nilptr), none⟩]) 
 (.cond (.r 4) (.seq
  (.ops [⟨some 2, .mv (.c (.int .i64 (.ofNat 0))), none⟩]) 
 .ret) .skip)) 
 (.seq
  (.ops [⟨some 5, .mv (.r 0), none⟩, ⟨some 6, .nilCheck (.r 5), none⟩, ⟨some 7, .fieldAt 2 (.r 6), none⟩, ⟨some 8, .load1 (.r 7), none⟩, ⟨some 9, .len .slice (.r 8), none⟩, ⟨some 2, .mv (.r 9), none⟩]) 
 .ret))⟩
def c22 : AF := ⟨18, [.reg 2, .reg 3], .seq
  (.ops [⟨some 2, .mv (.c .nilslice), none⟩, ⟨some 3, .mv (.c (.bool false)), none⟩]) 
 (.seq
  (.seq
  (.ops [⟨some 4, .mv (.r 0), none⟩, ⟨some 5, .eqnil false 0 (.r 4) (.c .nilptr), none⟩, ⟨some 6, .mv (.r 5), none⟩, ⟨some 7, .mv (.r 0), some (6, false)⟩, ⟨some 8, .nilCheck (.r 7), some (6, false)⟩, ⟨some 9, .fieldAt 3 (.r 8), some (6, false)⟩, ⟨some 10, .load1 (.r 9), some (6, false)⟩, ⟨some 11, .call 55 [.r 10, .c (.bool false)], some (6, false)⟩, ⟨some 12, .pick (.r 6) (.c (.bool true)) (.r 11), none⟩]) 
 (.cond (.r 12) (.seq
  (.ops [⟨some 2, .mv (.c .nilslice), none⟩, ⟨some 3, .mv (.c (.bool false)), none⟩]) 
 .ret) .skip)) 
 (.seq
  (.ops [⟨some 13, .mv (.r 0), none⟩, ⟨some 14, .nilCheck (.r 13), none⟩, ⟨some 15, .fieldAt 2 (.r 14), none⟩, ⟨some 16, .load1 (.r 15), none⟩, ⟨some 17, .call 56 [.r 16], none⟩, ⟨some 2, .mv (.r 17), none⟩, ⟨some 3, .mv (.c (.bool true)), none⟩]) 
 .ret))⟩
def c23 : AF := ⟨31, [.reg 2, .reg 3], .seq
  (.ops [⟨some 1, .box 2 (.r 0), none⟩, ⟨some 2, .mv (.c .nilslice), none⟩, ⟨some 3, .mv (.c (.int .i64 (.ofNat 0))), none⟩]) 
 (.seq
  (.seq
  (.ops [⟨some 5, .fieldAt 0 (.r 1), none⟩, ⟨some 6, .load1 (.r 5), none⟩, ⟨some 7, .bin .lss (.r 6) (.c (.int .u8 (.ofNat 1))), none⟩, ⟨some 8, .mv (.r 7), none⟩, ⟨some 9, .fieldAt 0 (.r 1), some (8, false)⟩, ⟨some 10, .load1 (.r 9), some (8, false)⟩, ⟨some 11, .bin .gtr (.r 10) (.c (.int .u8 (.ofNat 2))), some (8, false)⟩, ⟨some 12, .pick (.r 8) (.c (.bool true)) (.r 11), none⟩]) 
 (.cond (.r 12) (.seq
  (.ops [⟨some 2, .mv (.c .nilslice), none⟩, ⟨some 3, .mv (.c (.int .i64 (.ofNat 1))), none⟩]) 
 .ret) .skip)) 
 (.seq
  (.ops [⟨some 13, .call 43 [], none⟩, ⟨some 4, .mv (.r 13), none⟩]) 
 (.seq
  (.ops [⟨some 14, .mv (.r 4), none⟩, ⟨some 15, .fieldAt 0 (.r 1), none⟩, ⟨some 16, .load1 (.r 15), none⟩, ⟨some 17, .toInt .u64 (.r 16), none⟩, ⟨some 18, .call 44 [.r 14, .r 17, .c (.int .i64 (.ofNat 1))], none⟩]) 
 (.seq
  (.ops [⟨some 19, .mv (.r 4), none⟩, ⟨some 20, .fieldAt 1 (.r 1), none⟩, ⟨some 21, .load1 (.r 20), none⟩, ⟨some 22, .call 44 [.r 19, .r 21, .c (.int .i64 (.ofNat 8))], none⟩]) 
 (.seq
  (.ops [⟨some 23, .mv (.r 4), none⟩, ⟨some 24, .mv (.r 4), none⟩, ⟨some 25, .call 46 [.r 24], none⟩, ⟨some 26, .call 41 [.r 25], none⟩, ⟨some 27, .toInt .u64 (.r 26), none⟩, ⟨some 28, .call 44 [.r 23, .r 27, .c (.int .i64 (.ofNat 4))], none⟩]) 
 (.seq
  (.ops [⟨some 29, .mv (.r 4), none⟩, ⟨some 30, .call 46 [.r 29], none⟩, ⟨some 2, .mv (.r 30), none⟩, ⟨some 3, .mv (.c (.int .i64 (.ofNat 0))), none⟩]) 
 .ret))))))⟩
def c24 : AF := ⟨17, [.reg 4], .seq
  (.ops [⟨some 4, .mv (.c (.str [])), none⟩]) 
 (.seq
  (.multi [(0, ⟨some 6, .mv (.r 0), none⟩), (2, ⟨some 7, .buildSlice 1 1 [.int .u8 (.ofNat 0)] [(0, (1, .r 6))], none⟩), (1, ⟨some 8, .strOf (.r 7), none⟩), (0, ⟨some 9, .mv (.r 1), none⟩), (4, ⟨some 10, .call 13 [.r 9, .c (.int .i64 (.ofNat 8))], none⟩), (0, ⟨some 11, .bin .add (.r 8) (.r 10), none⟩), (0, ⟨some 5, .mv (.r 11), none⟩)] [(1, 4), (2, 4)]) 
 (.seq
  (.ops [⟨some 12, .mv (.r 5), none⟩, ⟨some 13, .mv (.r 5), none⟩, ⟨some 14, .call 14 [.r 13], none⟩, ⟨some 15, .call 13 [.r 14, .c (.int .i64 (.ofNat 4))], none⟩, ⟨some 16, .bin .add (.r 12) (.r 15), none⟩, ⟨some 4, .mv (.r 16), none⟩]) 
 .ret))⟩
def c25 : AF := ⟨46, [.reg 2, .reg 3], .seq
  (.ops [⟨some 2, .mv (.c .nilslice), none⟩, ⟨some 3, .mv (.c (.int .i64 (.ofNat 0))), none⟩]) 
 (.seq
  (.ops [⟨some 4, .alloc [.nilslice], none⟩]) 
 (.seq
  (.ops [⟨some 5, .alloc [.int .i64 (.ofNat 0)], none⟩, ⟨none, .store 1 (.r 5) (.c (.int .i64 (.ofNat 0))), none⟩]) 
 (.seq
  .skip 
 (.seq
  (.seq
  (.ops [⟨some 11, .mv (.r 0), none⟩, ⟨some 12, .call 57 [.r 11, .c (.int .i64 (.ofNat 13))], none⟩]) 
 (.block 0 (.rfun (.r 12) [13] (.ops [⟨some 6, .mv (.r 13), none⟩]) (.block 1 (.seq
  (.ops [⟨some 14, .mv (.r 6), none⟩, ⟨some 15, .call 47 [.r 14], none⟩, ⟨some 7, .mv (.r 15), none⟩]) 
 (.seq
  (.ops [⟨some 16, .mv (.r 7), none⟩, ⟨some 17, .call 49 [.r 16, .c (.int .i64 (.ofNat 1))], none⟩, ⟨some 18, .toInt .u8 (.r 17), none⟩, ⟨some 19, .mv (.r 7), none⟩, ⟨some 20, .call 49 [.r 19, .c (.int .i64 (.ofNat 8))], none⟩, ⟨some 21, .build [.int .u8 (.ofNat 0), .int .u64 (.ofNat 0)] [(0, (1, .r 18)), (1, (1, .r 20))], none⟩, ⟨some 8, .alloc [.int .u8 (.ofNat 0), .int .u64 (.ofNat 0)], none⟩, ⟨none, .store 2 (.r 8) (.r 21), none⟩]) 
 (.seq
  (.seq
  (.ops [⟨some 22, .loadN 2 (.r 8), none⟩, ⟨some 23, .build [.int .u8 (.ofNat 0), .int .u64 (.ofNat 0)] [], none⟩, ⟨some 24, .eql false [.int .u8, .int .u64] true (.r 22) (.r 23), none⟩]) 
 (.cond (.r 24) (.exit 0) .skip)) 
 (.seq
  (.ops [⟨some 26, .loadN 2 (.r 8), none⟩, ⟨some 27, .call 23 [.r 26], none⟩, ⟨some 25, .mv (.r 27), none⟩, ⟨some 28, .extract 0 (.r 25), none⟩, ⟨some 29, .extract 1 (.r 25), none⟩, ⟨some 9, .mv (.r 28), none⟩, ⟨some 10, .mv (.r 29), none⟩]) 
 (.seq
  (.seq
  (.ops [⟨some 30, .mv (.r 10), none⟩, ⟨some 31, .bin .neq (.r 30) (.c (.int .i64 (.ofNat 0))), none⟩, ⟨some 32, .mv (.r 31), none⟩, ⟨some 33, .mv (.r 9), some (32, false)⟩, ⟨some 34, .mv (.r 6), some (32, false)⟩, ⟨some 35, .call 58 [.r 33, .r 34], some (32, false)⟩, ⟨some 36, .un .not (.r 35), some (32, false)⟩, ⟨some 37, .pick (.r 32) (.c (.bool true)) (.r 36), none⟩]) 
 (.cond (.r 37) (.exit 0) .skip)) 
 (.seq
  (.ops [⟨some 38, .load1 (.r 4), none⟩, ⟨some 39, .loadN 2 (.r 8), none⟩, ⟨some 40, .buildSlice 2 1 [.int .u8 (.ofNat 0), .int .u64 (.ofNat 0)] [(0, (2, .r 39))], none⟩, ⟨some 41, .append 2 16 (.r 38) (.r 40), none⟩, ⟨none, .store 1 (.r 4) (.r 41), none⟩]) 
 (.ops [⟨some 42, .load1 (.r 5), none⟩, ⟨some 43, .bin .add (.r 42) (.c (.int .i64 (.ofNat 13))), none⟩, ⟨none, .store 1 (.r 5) (.r 43), none⟩]))))))))))) 
 (.seq
  (.ops [⟨some 44, .load1 (.r 4), none⟩, ⟨some 45, .load1 (.r 5), none⟩, ⟨some 2, .mv (.r 44), none⟩, ⟨some 3, .mv (.r 45), none⟩]) 
 .ret)))))⟩
def c26 : AF := ⟨27, [.reg 4, .reg 5], .seq
  (.ops [⟨some 4, .mv (.c (.int .u64 (.ofNat 0))), none⟩, ⟨some 5, .mv (.c (.bool false)), none⟩]) 
 (.seq
  (.ops [⟨some 6, .mv (.c (.int .u64 (.ofNat 0))), none⟩, ⟨some 7, .mv (.c (.bool false)), none⟩]) 
 (.seq
  (.seq
  (.ops [⟨some 10, .mv (.r 0), none⟩, ⟨some 11, .len .slice (.r 10), none⟩, ⟨some 12, .mv (.c (.int .i64 (.ofNat 0))), none⟩]) 
 (.block 0 (.loop (.seq
  (.ops [⟨some 13, .bin .lss (.r 12) (.r 11), none⟩]) 
 (.seq
  (.cond (.r 13) .skip (.exit 0)) 
 (.seq
  (.block 1 (.seq
  (.ops [⟨some 14, .indexSl 2 (.r 10) (.r 12), none⟩, ⟨some 15, .loadN 2 (.r 14), none⟩, ⟨some 9, .alloc [.int .u8 (.ofNat 0), .int .u64 (.ofNat 0)], none⟩, ⟨none, .store 2 (.r 9) (.r 15), none⟩]) 
 (.seq
  (.ops [⟨some 16, .fieldAt 0 (.r 9), none⟩, ⟨some 17, .load1 (.r 16), none⟩, ⟨some 18, .mv (.r 1), none⟩, ⟨some 19, .bin .eql (.r 17) (.r 18), none⟩]) 
 (.cond (.r 19) (.ops [⟨some 20, .mv (.r 6), none⟩, ⟨some 21, .fieldAt 1 (.r 9), none⟩, ⟨some 22, .load1 (.r 21), none⟩, ⟨some 23, .maxmin true (.r 20) [.r 22], none⟩, ⟨some 6, .mv (.r 23), none⟩, ⟨some 7, .mv (.c (.bool true)), none⟩]) .skip)))) 
 (.ops [⟨some 24, .bin .add (.r 12) (.c (.int .i64 (.ofNat 1))), none⟩, ⟨some 12, .mv (.r 24), none⟩]))))))) 
 (.seq
  (.ops [⟨some 25, .mv (.r 6), none⟩, ⟨some 26, .mv (.r 7), none⟩, ⟨some 4, .mv (.r 25), none⟩, ⟨some 5, .mv (.r 26), none⟩]) 
 .ret)))⟩
def c27 : AF := ⟨12, [.cell 6 6 true], .seq
  (.ops [⟨some 6, .alloc [.int .u64 (.ofNat 0), .int .u64 (.ofNat 0), .int .u64 (.ofNat 0), .int .u64 (.ofNat 0), .int .u64 (.ofNat 0), .bool false], none⟩]) 
 (.seq
  (.ops [⟨some 7, .mv (.r 1), none⟩, ⟨some 8, .mv (.r 2), none⟩, ⟨some 9, .build [.int .u64 (.ofNat 0), .int .u64 (.ofNat 0), .int .u64 (.ofNat 0), .int .u64 (.ofNat 0), .int .u64 (.ofNat 0), .bool false] [(0, (1, .r 7)), (1, (1, .r 8))], none⟩, ⟨some 10, .mv (.r 0), none⟩, ⟨some 11, .call 59 [.r 9, .r 10], none⟩, ⟨none, .store 6 (.r 6) (.r 11), none⟩]) 
 .ret)⟩
def c28 : AF := ⟨12, [.reg 4], .seq
  (.ops [⟨some 4, .mv (.c (.int .u64 (.ofNat 0))), none⟩]) 
 (.seq
  (.ops [⟨some 5, .mv (.r 0), none⟩, ⟨some 6, .load1 (.r 1), none⟩, ⟨some 7, .toInt .u64 (.r 6), none⟩, ⟨some 8, .maxmin true (.r 5) [.r 7], none⟩, ⟨some 9, .load1 (.r 2), none⟩, ⟨some 10, .toInt .u64 (.r 9), none⟩, ⟨some 11, .maxmin false (.r 8) [.r 10], none⟩, ⟨some 4, .mv (.r 11), none⟩]) 
 .ret)⟩
def c29 : AF := ⟨10, [.cell 2 6 true], .seq
  (.ops [⟨some 1, .box 6 (.r 0), none⟩, ⟨some 2, .alloc [.int .u64 (.ofNat 0), .int .u64 (.ofNat 0), .int .u64 (.ofNat 0), .int .u64 (.ofNat 0), .int .u64 (.ofNat 0), .bool false], none⟩]) 
 (.seq
  (.ops [⟨some 3, .loadN 6 (.r 1), none⟩, ⟨some 4, .fieldAt 2 (.r 1), none⟩, ⟨some 5, .load1 (.r 4), none⟩, ⟨some 6, .fieldAt 2 (.r 1), none⟩, ⟨some 7, .load1 (.r 6), none⟩, ⟨some 8, .pcall 60 [.r 5, .r 7], none⟩, ⟨some 9, .call 59 [.r 3, .r 8], none⟩, ⟨none, .store 6 (.r 2) (.r 9), none⟩]) 
 .ret)⟩
def c30 : AF := ⟨45, [.cell 4 6 true], .seq
  (.ops [⟨some 2, .box 6 (.r 0), none⟩, ⟨some 4, .alloc [.int .u64 (.ofNat 0), .int .u64 (.ofNat 0), .int .u64 (.ofNat 0), .int .u64 (.ofNat 0), .int .u64 (.ofNat 0), .bool false], none⟩]) 
 (.seq
  (.seq
  (.ops [⟨some 6, .fieldAt 5 (.r 2), none⟩, ⟨some 7, .load1 (.r 6), none⟩]) 
 (.cond (.r 7) (.seq
  (.ops [⟨some 8, .fieldAt 4 (.r 2), none⟩, ⟨some 9, .load1 (.r 8), none⟩, ⟨some 10, .fieldAt 3 (.r 2), none⟩, ⟨some 11, .load1 (.r 10), none⟩, ⟨some 12, .mv (.r 1), none⟩, ⟨some 13, .maxmin true (.r 11) [.r 12], none⟩, ⟨some 14, .fieldAt 3 (.r 2), none⟩, ⟨some 15, .load1 (.r 14), none⟩, ⟨some 16, .mv (.r 1), none⟩, ⟨some 17, .maxmin false (.r 15) [.r 16], none⟩, ⟨some 18, .bin .sub (.r 13) (.r 17), none⟩, ⟨some 19, .call 61 [.r 9, .c (.int .u64 (.ofNat 3)), .r 18], none⟩, ⟨some 20, .fieldAt 4 (.r 2), none⟩, ⟨none, .store 1 (.r 20) (.r 19), none⟩]) 
 (.ops [⟨some 21, .fieldAt 3 (.r 2), none⟩, ⟨some 22, .load1 (.r 21), none⟩, ⟨some 23, .mv (.r 1), none⟩, ⟨some 24, .call 61 [.r 22, .c (.int .u64 (.ofNat 7)), .r 23], none⟩, ⟨some 25, .fieldAt 3 (.r 2), none⟩, ⟨none, .store 1 (.r 25) (.r 24), none⟩])) (.ops [⟨some 26, .mv (.r 1), none⟩, ⟨some 27, .mv (.r 1), none⟩, ⟨some 28, .bin .quo (.r 27) (.c (.int .u64 (.ofNat 2))), none⟩, ⟨some 29, .fieldAt 3 (.r 2), none⟩, ⟨none, .store 1 (.r 29) (.r 26), none⟩, ⟨some 30, .fieldAt 4 (.r 2), none⟩, ⟨none, .store 1 (.r 30) (.r 28), none⟩, ⟨some 31, .fieldAt 5 (.r 2), none⟩, ⟨none, .store 1 (.r 31) (.c (.bool true)), none⟩]))) 
 (.seq
  (.ops [⟨some 32, .fieldAt 4 (.r 2), none⟩, ⟨some 33, .load1 (.r 32), none⟩, ⟨some 34, .bin .shl (.r 33) (.c (.int .u64 (.ofNat 2))), none⟩, ⟨some 5, .mv (.r 34), none⟩]) 
 (.seq
  (.seq
  (.ops [⟨some 35, .fieldAt 4 (.r 2), none⟩, ⟨some 36, .load1 (.r 35), none⟩, ⟨some 37, .bin .gtr (.r 36) (.c (.int .u64 (.ofNat 4611686018427387903))), none⟩]) 
 (.cond (.r 37) (.ops [⟨some 5, .mv (.c (.int .u64 (.ofNat 18446744073709551615))), none⟩]) .skip)) 
 (.seq
  (.ops [⟨some 38, .loadN 6 (.r 2), none⟩, ⟨some 39, .fieldAt 3 (.r 2), none⟩, ⟨some 40, .load1 (.r 39), none⟩, ⟨some 41, .mv (.r 5), none⟩, ⟨some 42, .maxmin true (.c (.int .u64 (.ofNat 1))) [.r 41], none⟩, ⟨some 43, .pcall 60 [.r 40, .r 42], none⟩, ⟨some 44, .call 59 [.r 38, .r 43], none⟩, ⟨none, .store 6 (.r 4) (.r 44), none⟩]) 
 .ret))))⟩
def c31 : AF := ⟨63, [.cell 4 3 true, .reg 5], .seq
  (.ops [⟨some 4, .alloc [.int .u64 (.ofNat 0), .int .u32 (.ofNat 0), .nilslice], none⟩, ⟨some 5, .mv (.c (.int .i64 (.ofNat 0))), none⟩]) 
 (.seq
  (.ops [⟨some 14, .mv (.r 0), none⟩, ⟨some 15, .len .slice (.r 14), none⟩, ⟨some 16, .toInt .u64 (.r 15), none⟩, ⟨some 17, .mv (.r 1), none⟩, ⟨some 18, .call 62 [.r 16, .r 17], none⟩, ⟨some 13, .mv (.r 18), none⟩, ⟨some 19, .extract 0 (.r 13), none⟩, ⟨some 20, .extract 1 (.r 13), none⟩, ⟨some 6, .mv (.r 19), none⟩, ⟨some 7, .mv (.r 20), none⟩]) 
 (.seq
  (.seq
  (.ops [⟨some 21, .mv (.r 7), none⟩, ⟨some 22, .bin .neq (.r 21) (.c (.int .i64 (.ofNat 0))), none⟩]) 
 (.cond (.r 22) (.seq
  (.ops [⟨some 23, .build [.int .u64 (.ofNat 0), .int .u32 (.ofNat 0), .nilslice] [], none⟩, ⟨some 24, .mv (.r 7), none⟩, ⟨none, .store 3 (.r 4) (.r 23), none⟩, ⟨some 5, .mv (.r 24), none⟩]) 
 .ret) .skip)) 
 (.seq
  (.ops [⟨some 25, .mv (.r 0), none⟩, ⟨some 26, .len .slice (.r 25), none⟩, ⟨some 27, .toInt .u64 (.r 26), none⟩, ⟨some 28, .mv (.r 1), none⟩, ⟨some 29, .toInt .u32 (.r 28), none⟩, ⟨some 30, .build [.int .u64 (.ofNat 0), .int .u32 (.ofNat 0), .nilslice] [(0, (1, .r 27)), (1, (1, .r 29))], none⟩, ⟨some 8, .alloc [.int .u64 (.ofNat 0), .int .u32 (.ofNat 0), .nilslice], none⟩, ⟨none, .store 3 (.r 8) (.r 30), none⟩]) 
 (.seq
  (.seq
  (.ops [⟨some 31, .mv (.r 6), none⟩, ⟨some 32, .mv (.c (.int .i64 (.ofNat 0))), none⟩]) 
 (.block 0 (.loop (.seq
  (.ops [⟨some 33, .bin .lss (.r 32) (.r 31), none⟩]) 
 (.seq
  (.cond (.r 33) .skip (.exit 0)) 
 (.seq
  (.block 1 (.seq
  (.ops [⟨some 34, .mv (.r 32), none⟩, ⟨some 9, .mv (.r 34), none⟩]) 
 (.seq
  (.ops [⟨some 36, .fieldAt 0 (.r 8), none⟩, ⟨some 37, .load1 (.r 36), none⟩, ⟨some 38, .mv (.r 1), none⟩, ⟨some 39, .mv (.r 9), none⟩, ⟨some 40, .call 63 [.r 37, .r 38, .r 39], none⟩, ⟨some 35, .mv (.r 40), none⟩, ⟨some 41, .extract 0 (.r 35), none⟩, ⟨some 42, .extract 1 (.r 35), none⟩, ⟨some 43, .extract 2 (.r 35), none⟩, ⟨some 10, .mv (.r 41), none⟩, ⟨some 11, .mv (.r 42), none⟩, ⟨some 12, .mv (.r 43), none⟩]) 
 (.seq
  (.seq
  (.ops [⟨some 44, .mv (.r 12), none⟩, ⟨some 45, .bin .neq (.r 44) (.c (.int .i64 (.ofNat 0))), none⟩]) 
 (.cond (.r 45) (.seq
  (.ops [⟨some 46, .build [.int .u64 (.ofNat 0), .int .u32 (.ofNat 0), .nilslice] [], none⟩, ⟨some 47, .mv (.r 12), none⟩, ⟨none, .store 3 (.r 4) (.r 46), none⟩, ⟨some 5, .mv (.r 47), none⟩]) 
 .ret) .skip)) 
 (.multi [(0, ⟨some 48, .fieldAt 2 (.r 8), none⟩), (1, ⟨some 49, .load1 (.r 48), none⟩), (0, ⟨some 50, .mv (.r 0), none⟩), (0, ⟨some 51, .mv (.r 10), none⟩), (0, ⟨some 52, .mv (.r 10), none⟩), (0, ⟨some 53, .mv (.r 11), none⟩), (0, ⟨some 54, .toInt .u64 (.r 53), none⟩), (0, ⟨some 55, .bin .add (.r 52) (.r 54), none⟩), (2, ⟨some 56, .sliceSl 1 true (.r 50) (some (.r 51)) (some (.r 55)) none, none⟩), (4, ⟨some 57, .call 64 [.r 56], none⟩), (2, ⟨some 58, .buildSlice 32 1 [.int .u8 (.ofNat 0), .int .u8 (.ofNat 0), .int .u8 (.ofNat 0), .int .u8 (.ofNat 0), .int .u8 (.ofNat 0), .int .u8 (.ofNat 0), .int .u8 (.ofNat 0), .int .u8 (.ofNat 0), .int .u8 (.ofNat 0), .int .u8 (.ofNat 0), .int .u8 (.ofNat 0), .int .u8 (.ofNat 0), .int .u8 (.ofNat 0), .int .u8 (.ofNat 0), .int .u8 (.ofNat 0), .int .u8 (.ofNat 0), .int .u8 (.ofNat 0), .int .u8 (.ofNat 0), .int .u8 (.ofNat 0), .int .u8 (.ofNat 0), .int .u8 (.ofNat 0), .int .u8 (.ofNat 0), .int .u8 (.ofNat 0), .int .u8 (.ofNat 0), .int .u8 (.ofNat 0), .int .u8 (.ofNat 0), .int .u8 (.ofNat 0), .int .u8 (.ofNat 0), .int .u8 (.ofNat 0), .int .u8 (.ofNat 0), .int .u8 (.ofNat 0), .int .u8 (.ofNat 0)] [(0, (32, .r 57))], none⟩), (5, ⟨some 59, .append 32 32 (.r 49) (.r 58), none⟩), (0, ⟨some 60, .fieldAt 2 (.r 8), none⟩), (5, ⟨none, .store 1 (.r 60) (.r 59), none⟩)] [(1, 8), (1, 9), (1, 10)]))))) 
 (.ops [⟨some 61, .bin .add (.r 32) (.c (.int .i64 (.ofNat 1))), none⟩, ⟨some 32, .mv (.r 61), none⟩]))))))) 
 (.seq
  (.ops [⟨some 62, .loadN 3 (.r 8), none⟩, ⟨none, .store 3 (.r 4) (.r 62), none⟩, ⟨some 5, .mv (.c (.int .i64 (.ofNat 0))), none⟩]) 
 .ret)))))⟩
def c32 : AF := ⟨10, [.cell 2 32 true], .seq
  (.ops [⟨some 2, .alloc [.int .u8 (.ofNat 0), .int .u8 (.ofNat 0), .int .u8 (.ofNat 0), .int .u8 (.ofNat 0), .int .u8 (.ofNat 0), .int .u8 (.ofNat 0), .int .u8 (.ofNat 0), .int .u8 (.ofNat 0), .int .u8 (.ofNat 0), .int .u8 (.ofNat 0), .int .u8 (.ofNat 0), .int .u8 (.ofNat 0), .int .u8 (.ofNat 0), .int .u8 (.ofNat 0), .int .u8 (.ofNat 0), .int .u8 (.ofNat 0), .int .u8 (.ofNat 0), .int .u8 (.ofNat 0), .int .u8 (.ofNat 0), .int .u8 (.ofNat 0), .int .u8 (.ofNat 0), .int .u8 (.ofNat 0), .int .u8 (.ofNat 0), .int .u8 (.ofNat 0), .int .u8 (.ofNat 0), .int .u8 (.ofNat 0), .int .u8 (.ofNat 0), .int .u8 (.ofNat 0), .int .u8 (.ofNat 0), .int .u8 (.ofNat 0), .int .u8 (.ofNat 0), .int .u8 (.ofNat 0)], none⟩]) 
 (.seq
  (.ops [⟨some 4, .call 65 [], none⟩, ⟨some 3, .mv (.r 4), none⟩]) 
 (.seq
  (.ops [⟨some 5, .mv (.r 3), none⟩, ⟨some 6, .mv (.r 0), none⟩, ⟨some 7, .call 66 [.r 5, .r 6], none⟩]) 
 (.seq
  (.ops [⟨some 8, .mv (.r 3), none⟩, ⟨some 9, .call 67 [.r 8], none⟩, ⟨none, .store 32 (.r 2) (.r 9), none⟩]) 
 .ret)))⟩
def c33 : AF := ⟨39, [.cell 2 32 true], .seq
  (.ops [⟨some 2, .alloc [.int .u8 (.ofNat 0), .int .u8 (.ofNat 0), .int .u8 (.ofNat 0), .int .u8 (.ofNat 0), .int .u8 (.ofNat 0), .int .u8 (.ofNat 0), .int .u8 (.ofNat 0), .int .u8 (.ofNat 0), .int .u8 (.ofNat 0), .int .u8 (.ofNat 0), .int .u8 (.ofNat 0), .int .u8 (.ofNat 0), .int .u8 (.ofNat 0), .int .u8 (.ofNat 0), .int .u8 (.ofNat 0), .int .u8 (.ofNat 0), .int .u8 (.ofNat 0), .int .u8 (.ofNat 0), .int .u8 (.ofNat 0), .int .u8 (.ofNat 0), .int .u8 (.ofNat 0), .int .u8 (.ofNat 0), .int .u8 (.ofNat 0), .int .u8 (.ofNat 0), .int .u8 (.ofNat 0), .int .u8 (.ofNat 0), .int .u8 (.ofNat 0), .int .u8 (.ofNat 0), .int .u8 (.ofNat 0), .int .u8 (.ofNat 0), .int .u8 (.ofNat 0), .int .u8 (.ofNat 0)], none⟩]) 
 (.seq
  (.seq
  (.ops [⟨some 6, .mv (.r 0), none⟩, ⟨some 7, .len .slice (.r 6), none⟩, ⟨some 8, .bin .eql (.r 7) (.c (.int .i64 (.ofNat 0))), none⟩]) 
 (.cond (.r 8) (.seq
  (.ops [⟨some 9, .call 32 [.c .nilslice], none⟩, ⟨none, .store 32 (.r 2) (.r 9), none⟩]) 
 .ret) .skip)) 
 (.seq
  (.seq
  (.ops [⟨some 10, .mv (.r 0), none⟩, ⟨some 11, .len .slice (.r 10), none⟩, ⟨some 12, .bin .eql (.r 11) (.c (.int .i64 (.ofNat 1))), none⟩]) 
 (.cond (.r 12) (.seq
  (.ops [⟨some 13, .mv (.r 0), none⟩, ⟨some 14, .indexSl 32 (.r 13) (.c (.int .i64 (.ofNat 0))), none⟩, ⟨some 15, .loadN 32 (.r 14), none⟩, ⟨none, .store 32 (.r 2) (.r 15), none⟩]) 
 .ret) .skip)) 
 (.seq
  (.ops [⟨some 3, .mv (.c (.int .i64 (.ofNat 1))), none⟩]) 
 (.seq
  (.block 0 (.loop (.seq
  (.seq
  (.ops [⟨some 16, .mv (.r 3), none⟩, ⟨some 17, .bin .mul (.c (.int .i64 (.ofNat 2))) (.r 16), none⟩, ⟨some 18, .mv (.r 0), none⟩, ⟨some 19, .len .slice (.r 18), none⟩, ⟨some 20, .bin .lss (.r 17) (.r 19), none⟩]) 
 (.cond (.r 20) .skip (.exit 0))) 
 (.block 1 (.ops [⟨some 21, .mv (.r 3), none⟩, ⟨some 22, .bin .mul (.r 21) (.c (.int .i64 (.ofNat 2))), none⟩, ⟨some 3, .mv (.r 22), none⟩]))))) 
 (.seq
  (.multi [(0, ⟨some 23, .mv (.r 0), none⟩), (0, ⟨some 24, .mv (.r 3), none⟩), (1, ⟨some 25, .sliceSl 32 false (.r 23) none (some (.r 24)) none, none⟩), (4, ⟨some 26, .call 33 [.r 25], none⟩), (0, ⟨some 27, .mv (.r 0), none⟩), (0, ⟨some 28, .mv (.r 3), none⟩), (2, ⟨some 29, .sliceSl 32 true (.r 27) (some (.r 28)) none none, none⟩), (4, ⟨some 30, .call 33 [.r 29], none⟩), (2, ⟨some 4, .alloc [.int .u8 (.ofNat 0), .int .u8 (.ofNat 0), .int .u8 (.ofNat 0), .int .u8 (.ofNat 0), .int .u8 (.ofNat 0), .int .u8 (.ofNat 0), .int .u8 (.ofNat 0), .int .u8 (.ofNat 0), .int .u8 (.ofNat 0), .int .u8 (.ofNat 0), .int .u8 (.ofNat 0), .int .u8 (.ofNat 0), .int .u8 (.ofNat 0), .int .u8 (.ofNat 0), .int .u8 (.ofNat 0), .int .u8 (.ofNat 0), .int .u8 (.ofNat 0), .int .u8 (.ofNat 0), .int .u8 (.ofNat 0), .int .u8 (.ofNat 0), .int .u8 (.ofNat 0), .int .u8 (.ofNat 0), .int .u8 (.ofNat 0), .int .u8 (.ofNat 0), .int .u8 (.ofNat 0), .int .u8 (.ofNat 0), .int .u8 (.ofNat 0), .int .u8 (.ofNat 0), .int .u8 (.ofNat 0), .int .u8 (.ofNat 0), .int .u8 (.ofNat 0), .int .u8 (.ofNat 0)], none⟩), (2, ⟨some 5, .alloc [.int .u8 (.ofNat 0), .int .u8 (.ofNat 0), .int .u8 (.ofNat 0), .int .u8 (.ofNat 0), .int .u8 (.ofNat 0), .int .u8 (.ofNat 0), .int .u8 (.ofNat 0), .int .u8 (.ofNat 0), .int .u8 (.ofNat 0), .int .u8 (.ofNat 0), .int .u8 (.ofNat 0), .int .u8 (.ofNat 0), .int .u8 (.ofNat 0), .int .u8 (.ofNat 0), .int .u8 (.ofNat 0), .int .u8 (.ofNat 0), .int .u8 (.ofNat 0), .int .u8 (.ofNat 0), .int .u8 (.ofNat 0), .int .u8 (.ofNat 0), .int .u8 (.ofNat 0), .int .u8 (.ofNat 0), .int .u8 (.ofNat 0), .int .u8 (.ofNat 0), .int .u8 (.ofNat 0), .int .u8 (.ofNat 0), .int .u8 (.ofNat 0), .int .u8 (.ofNat 0), .int .u8 (.ofNat 0), .int .u8 (.ofNat 0), .int .u8 (.ofNat 0), .int .u8 (.ofNat 0)], none⟩), (5, ⟨none, .store 32 (.r 4) (.r 26), none⟩), (5, ⟨none, .store 32 (.r 5) (.r 30), none⟩)] [(2, 6), (2, 8), (2, 9), (3, 6), (3, 8), (3, 9), (6, 8), (6, 9), (7, 8), (7, 9), (8, 9)]) 
 (.seq
  (.ops [⟨some 31, .sliceArr 32 1 (.r 4) none none none, none⟩, ⟨some 32, .strOf (.r 31), none⟩, ⟨some 33, .bin .add (.c (.str [1])) (.r 32), none⟩, ⟨some 34, .sliceArr 32 1 (.r 5) none none none, none⟩, ⟨some 35, .strOf (.r 34), none⟩, ⟨some 36, .bin .add (.r 33) (.r 35), none⟩, ⟨some 37, .bytesOf (.r 36), none⟩, ⟨some 38, .call 32 [.r 37], none⟩, ⟨none, .store 32 (.r 2) (.r 38), none⟩]) 
 .ret))))))⟩
def c34 : AF := ⟨74, [.cell 2 32 true], .seq
  (.ops [⟨some 2, .alloc [.int .u8 (.ofNat 0), .int .u8 (.ofNat 0), .int .u8 (.ofNat 0), .int .u8 (.ofNat 0), .int .u8 (.ofNat 0), .int .u8 (.ofNat 0), .int .u8 (.ofNat 0), .int .u8 (.ofNat 0), .int .u8 (.ofNat 0), .int .u8 (.ofNat 0), .int .u8 (.ofNat 0), .int .u8 (.ofNat 0), .int .u8 (.ofNat 0), .int .u8 (.ofNat 0), .int .u8 (.ofNat 0), .int .u8 (.ofNat 0), .int .u8 (.ofNat 0), .int .u8 (.ofNat 0), .int .u8 (.ofNat 0), .int .u8 (.ofNat 0), .int .u8 (.ofNat 0), .int .u8 (.ofNat 0), .int .u8 (.ofNat 0), .int .u8 (.ofNat 0), .int .u8 (.ofNat 0), .int .u8 (.ofNat 0), .int .u8 (.ofNat 0), .int .u8 (.ofNat 0), .int .u8 (.ofNat 0), .int .u8 (.ofNat 0), .int .u8 (.ofNat 0), .int .u8 (.ofNat 0)], none⟩]) 
 (.seq
  (.seq
  (.ops [⟨some 8, .mv (.r 0), none⟩, ⟨some 9, .len .slice (.r 8), none⟩, ⟨some 10, .bin .eql (.r 9) (.c (.int .i64 (.ofNat 0))), none⟩]) 
 (.cond (.r 10) (.seq
  (.ops [⟨some 11, .call 32 [.c .nilslice], none⟩, ⟨none, .store 32 (.r 2) (.r 11), none⟩]) 
 .ret) .skip)) 
 (.seq
  (.ops [⟨some 3, .mv (.c .nilslice), none⟩]) 
 (.seq
  (.seq
  (.ops [⟨some 12, .mv (.r 0), none⟩, ⟨some 13, .len .slice (.r 12), none⟩, ⟨some 14, .mv (.c (.int .i64 (.ofNat 0))), none⟩]) 
 (.block 0 (.loop (.seq
  (.ops [⟨some 15, .bin .lss (.r 14) (.r 13), none⟩]) 
 (.seq
  (.cond (.r 15) .skip (.exit 0)) 
 (.seq
  (.block 1 (.seq
  (.ops [⟨some 16, .mv (.r 14), none⟩, ⟨some 17, .indexSl 32 (.r 12) (.r 14), none⟩, ⟨some 18, .loadN 32 (.r 17), none⟩, ⟨some 5, .alloc [.int .u8 (.ofNat 0), .int .u8 (.ofNat 0), .int .u8 (.ofNat 0), .int .u8 (.ofNat 0), .int .u8 (.ofNat 0), .int .u8 (.ofNat 0), .int .u8 (.ofNat 0), .int .u8 (.ofNat 0), .int .u8 (.ofNat 0), .int .u8 (.ofNat 0), .int .u8 (.ofNat 0), .int .u8 (.ofNat 0), .int .u8 (.ofNat 0), .int .u8 (.ofNat 0), .int .u8 (.ofNat 0), .int .u8 (.ofNat 0), .int .u8 (.ofNat 0), .int .u8 (.ofNat 0), .int .u8 (.ofNat 0), .int .u8 (.ofNat 0), .int .u8 (.ofNat 0), .int .u8 (.ofNat 0), .int .u8 (.ofNat 0), .int .u8 (.ofNat 0), .int .u8 (.ofNat 0), .int .u8 (.ofNat 0), .int .u8 (.ofNat 0), .int .u8 (.ofNat 0), .int .u8 (.ofNat 0), .int .u8 (.ofNat 0), .int .u8 (.ofNat 0), .int .u8 (.ofNat 0)], none⟩, ⟨some 4, .mv (.r 16), none⟩, ⟨none, .store 32 (.r 5) (.r 18), none⟩]) 
 (.seq
  (.ops [⟨some 19, .mv (.r 3), none⟩, ⟨some 20, .loadN 32 (.r 5), none⟩, ⟨some 21, .buildSlice 32 1 [.int .u8 (.ofNat 0), .int .u8 (.ofNat 0), .int .u8 (.ofNat 0), .int .u8 (.ofNat 0), .int .u8 (.ofNat 0), .int .u8 (.ofNat 0), .int .u8 (.ofNat 0), .int .u8 (.ofNat 0), .int .u8 (.ofNat 0), .int .u8 (.ofNat 0), .int .u8 (.ofNat 0), .int .u8 (.ofNat 0), .int .u8 (.ofNat 0), .int .u8 (.ofNat 0), .int .u8 (.ofNat 0), .int .u8 (.ofNat 0), .int .u8 (.ofNat 0), .int .u8 (.ofNat 0), .int .u8 (.ofNat 0), .int .u8 (.ofNat 0), .int .u8 (.ofNat 0), .int .u8 (.ofNat 0), .int .u8 (.ofNat 0), .int .u8 (.ofNat 0), .int .u8 (.ofNat 0), .int .u8 (.ofNat 0), .int .u8 (.ofNat 0), .int .u8 (.ofNat 0), .int .u8 (.ofNat 0), .int .u8 (.ofNat 0), .int .u8 (.ofNat 0), .int .u8 (.ofNat 0)] [(0, (32, .r 20))], none⟩, ⟨some 22, .append 32 32 (.r 19) (.r 21), none⟩, ⟨some 3, .mv (.r 22), none⟩]) 
 (.seq
  (.ops [⟨some 23, .mv (.r 4), none⟩, ⟨some 24, .bin .add (.r 23) (.c (.int .i64 (.ofNat 1))), none⟩, ⟨some 25, .toInt .u64 (.r 24), none⟩, ⟨some 26, .call 68 [.r 25], none⟩, ⟨some 27, .mv (.c (.int .i64 (.ofNat 0))), none⟩]) 
 (.block 2 (.loop (.seq
  (.ops [⟨some 28, .bin .lss (.r 27) (.r 26), none⟩]) 
 (.seq
  (.cond (.r 28) .skip (.exit 2)) 
 (.seq
  (.block 3 (.seq
  (.ops [⟨some 29, .mv (.r 3), none⟩, ⟨some 30, .len .slice (.r 29), none⟩, ⟨some 6, .mv (.r 30), none⟩]) 
 (.multi [(0, ⟨some 31, .mv (.r 3), none⟩), (0, ⟨some 32, .mv (.r 6), none⟩), (0, ⟨some 33, .bin .sub (.r 32) (.c (.int .i64 (.ofNat 2))), none⟩), (1, ⟨some 34, .sliceSl 32 false (.r 31) none (some (.r 33)) none, none⟩), (0, ⟨some 35, .mv (.r 3), none⟩), (0, ⟨some 36, .mv (.r 6), none⟩), (0, ⟨some 37, .bin .sub (.r 36) (.c (.int .i64 (.ofNat 2))), none⟩), (0, ⟨some 38, .indexSl 32 (.r 35) (.r 37), none⟩), (5, ⟨some 39, .loadN 32 (.r 38), none⟩), (0, ⟨some 40, .mv (.r 3), none⟩), (0, ⟨some 41, .mv (.r 6), none⟩), (0, ⟨some 42, .bin .sub (.r 41) (.c (.int .i64 (.ofNat 1))), none⟩), (0, ⟨some 43, .indexSl 32 (.r 40) (.r 42), none⟩), (5, ⟨some 44, .loadN 32 (.r 43), none⟩), (4, ⟨some 45, .call 69 [.r 39, .r 44], none⟩), (2, ⟨some 46, .buildSlice 32 1 [.int .u8 (.ofNat 0), .int .u8 (.ofNat 0), .int .u8 (.ofNat 0), .int .u8 (.ofNat 0), .int .u8 (.ofNat 0), .int .u8 (.ofNat 0), .int .u8 (.ofNat 0), .int .u8 (.ofNat 0), .int .u8 (.ofNat 0), .int .u8 (.ofNat 0), .int .u8 (.ofNat 0), .int .u8 (.ofNat 0), .int .u8 (.ofNat 0), .int .u8 (.ofNat 0), .int .u8 (.ofNat 0), .int .u8 (.ofNat 0), .int .u8 (.ofNat 0), .int .u8 (.ofNat 0), .int .u8 (.ofNat 0), .int .u8 (.ofNat 0), .int .u8 (.ofNat 0), .int .u8 (.ofNat 0), .int .u8 (.ofNat 0), .int .u8 (.ofNat 0), .int .u8 (.ofNat 0), .int .u8 (.ofNat 0), .int .u8 (.ofNat 0), .int .u8 (.ofNat 0), .int .u8 (.ofNat 0), .int .u8 (.ofNat 0), .int .u8 (.ofNat 0), .int .u8 (.ofNat 0)] [(0, (32, .r 45))], none⟩), (5, ⟨some 47, .append 32 32 (.r 34) (.r 46), none⟩), (0, ⟨some 3, .mv (.r 47), none⟩)] [(3, 14), (3, 15)]))) 
 (.ops [⟨some 48, .bin .add (.r 27) (.c (.int .i64 (.ofNat 1))), none⟩, ⟨some 27, .mv (.r 48), none⟩])))))))))) 
 (.ops [⟨some 49, .bin .add (.r 14) (.c (.int .i64 (.ofNat 1))), none⟩, ⟨some 14, .mv (.r 49), none⟩]))))))) 
 (.seq
  .skip 
 (.seq
  (.block 4 (.loop (.block 5 (.seq
  (.ops [⟨some 50, .mv (.r 3), none⟩, ⟨some 51, .len .slice (.r 50), none⟩, ⟨some 7, .mv (.r 51), none⟩]) 
 (.seq
  (.seq
  (.ops [⟨some 52, .mv (.r 7), none⟩, ⟨some 53, .bin .eql (.r 52) (.c (.int .i64 (.ofNat 1))), none⟩]) 
 (.cond (.r 53) (.exit 4) .skip)) 
 (.multi [(0, ⟨some 54, .mv (.r 3), none⟩), (0, ⟨some 55, .mv (.r 7), none⟩), (0, ⟨some 56, .bin .sub (.r 55) (.c (.int .i64 (.ofNat 2))), none⟩), (1, ⟨some 57, .sliceSl 32 false (.r 54) none (some (.r 56)) none, none⟩), (0, ⟨some 58, .mv (.r 3), none⟩), (0, ⟨some 59, .mv (.r 7), none⟩), (0, ⟨some 60, .bin .sub (.r 59) (.c (.int .i64 (.ofNat 2))), none⟩), (0, ⟨some 61, .indexSl 32 (.r 58) (.r 60), none⟩), (5, ⟨some 62, .loadN 32 (.r 61), none⟩), (0, ⟨some 63, .mv (.r 3), none⟩), (0, ⟨some 64, .mv (.r 7), none⟩), (0, ⟨some 65, .bin .sub (.r 64) (.c (.int .i64 (.ofNat 1))), none⟩), (0, ⟨some 66, .indexSl 32 (.r 63) (.r 65), none⟩), (5, ⟨some 67, .loadN 32 (.r 66), none⟩), (4, ⟨some 68, .call 69 [.r 62, .r 67], none⟩), (2, ⟨some 69, .buildSlice 32 1 [.int .u8 (.ofNat 0), .int .u8 (.ofNat 0), .int .u8 (.ofNat 0), .int .u8 (.ofNat 0), .int .u8 (.ofNat 0), .int .u8 (.ofNat 0), .int .u8 (.ofNat 0), .int .u8 (.ofNat 0), .int .u8 (.ofNat 0), .int .u8 (.ofNat 0), .int .u8 (.ofNat 0), .int .u8 (.ofNat 0), .int .u8 (.ofNat 0), .int .u8 (.ofNat 0), .int .u8 (.ofNat 0), .int .u8 (.ofNat 0), .int .u8 (.ofNat 0), .int .u8 (.ofNat 0), .int .u8 (.ofNat 0), .int .u8 (.ofNat 0), .int .u8 (.ofNat 0), .int .u8 (.ofNat 0), .int .u8 (.ofNat 0), .int .u8 (.ofNat 0), .int .u8 (.ofNat 0), .int .u8 (.ofNat 0), .int .u8 (.ofNat 0), .int .u8 (.ofNat 0), .int .u8 (.ofNat 0), .int .u8 (.ofNat 0), .int .u8 (.ofNat 0), .int .u8 (.ofNat 0)] [(0, (32, .r 68))], none⟩), (5, ⟨some 70, .append 32 32 (.r 57) (.r 69), none⟩), (0, ⟨some 3, .mv (.r 70), none⟩)] [(3, 14), (3, 15)])))))) 
 (.seq
  (.ops [⟨some 71, .mv (.r 3), none⟩, ⟨some 72, .indexSl 32 (.r 71) (.c (.int .i64 (.ofNat 0))), none⟩, ⟨some 73, .loadN 32 (.r 72), none⟩, ⟨none, .store 32 (.r 2) (.r 73), none⟩]) 
 .ret))))))⟩
def c35 : AF := ⟨26, [.cell 2 32 true], .seq
  (.ops [⟨some 1, .box 3 (.r 0), none⟩, ⟨some 2, .alloc [.int .u8 (.ofNat 0), .int .u8 (.ofNat 0), .int .u8 (.ofNat 0), .int .u8 (.ofNat 0), .int .u8 (.ofNat 0), .int .u8 (.ofNat 0), .int .u8 (.ofNat 0), .int .u8 (.ofNat 0), .int .u8 (.ofNat 0), .int .u8 (.ofNat 0), .int .u8 (.ofNat 0), .int .u8 (.ofNat 0), .int .u8 (.ofNat 0), .int .u8 (.ofNat 0), .int .u8 (.ofNat 0), .int .u8 (.ofNat 0), .int .u8 (.ofNat 0), .int .u8 (.ofNat 0), .int .u8 (.ofNat 0), .int .u8 (.ofNat 0), .int .u8 (.ofNat 0), .int .u8 (.ofNat 0), .int .u8 (.ofNat 0), .int .u8 (.ofNat 0), .int .u8 (.ofNat 0), .int .u8 (.ofNat 0), .int .u8 (.ofNat 0), .int .u8 (.ofNat 0), .int .u8 (.ofNat 0), .int .u8 (.ofNat 0), .int .u8 (.ofNat 0), .int .u8 (.ofNat 0)], none⟩]) 
 (.seq
  (.ops [⟨some 5, .call 43 [], none⟩, ⟨some 3, .mv (.r 5), none⟩]) 
 (.seq
  (.ops [⟨some 6, .mv (.r 3), none⟩, ⟨some 7, .call 44 [.r 6, .c (.int .u64 (.ofNat 2)), .c (.int .i64 (.ofNat 1))], none⟩]) 
 (.seq
  (.ops [⟨some 8, .mv (.r 3), none⟩, ⟨some 9, .fieldAt 0 (.r 1), none⟩, ⟨some 10, .load1 (.r 9), none⟩, ⟨some 11, .call 44 [.r 8, .r 10, .c (.int .i64 (.ofNat 8))], none⟩]) 
 (.seq
  (.ops [⟨some 12, .mv (.r 3), none⟩, ⟨some 13, .fieldAt 1 (.r 1), none⟩, ⟨some 14, .load1 (.r 13), none⟩, ⟨some 15, .toInt .u64 (.r 14), none⟩, ⟨some 16, .call 44 [.r 12, .r 15, .c (.int .i64 (.ofNat 4))], none⟩]) 
 (.seq
  (.ops [⟨some 17, .fieldAt 2 (.r 1), none⟩, ⟨some 18, .load1 (.r 17), none⟩, ⟨some 19, .call 34 [.r 18], none⟩, ⟨some 4, .alloc [.int .u8 (.ofNat 0), .int .u8 (.ofNat 0), .int .u8 (.ofNat 0), .int .u8 (.ofNat 0), .int .u8 (.ofNat 0), .int .u8 (.ofNat 0), .int .u8 (.ofNat 0), .int .u8 (.ofNat 0), .int .u8 (.ofNat 0), .int .u8 (.ofNat 0), .int .u8 (.ofNat 0), .int .u8 (.ofNat 0), .int .u8 (.ofNat 0), .int .u8 (.ofNat 0), .int .u8 (.ofNat 0), .int .u8 (.ofNat 0), .int .u8 (.ofNat 0), .int .u8 (.ofNat 0), .int .u8 (.ofNat 0), .int .u8 (.ofNat 0), .int .u8 (.ofNat 0), .int .u8 (.ofNat 0), .int .u8 (.ofNat 0), .int .u8 (.ofNat 0), .int .u8 (.ofNat 0), .int .u8 (.ofNat 0), .int .u8 (.ofNat 0), .int .u8 (.ofNat 0), .int .u8 (.ofNat 0), .int .u8 (.ofNat 0), .int .u8 (.ofNat 0), .int .u8 (.ofNat 0)], none⟩, ⟨none, .store 32 (.r 4) (.r 19), none⟩]) 
 (.seq
  (.ops [⟨some 20, .mv (.r 3), none⟩, ⟨some 21, .sliceArr 32 1 (.r 4) none none none, none⟩, ⟨some 22, .call 45 [.r 20, .r 21], none⟩]) 
 (.seq
  (.ops [⟨some 23, .mv (.r 3), none⟩, ⟨some 24, .call 46 [.r 23], none⟩, ⟨some 25, .call 32 [.r 24], none⟩, ⟨none, .store 32 (.r 2) (.r 25), none⟩]) 
 .ret)))))))⟩
def c36 : AF := ⟨31, [.reg 4], .seq
  (.ops [⟨some 2, .box 3 (.r 0), none⟩, ⟨some 3, .box 32 (.r 1), none⟩, ⟨some 4, .mv (.c (.int .i64 (.ofNat 0))), none⟩]) 
 (.seq
  (.ops [⟨some 8, .fieldAt 0 (.r 2), none⟩, ⟨some 9, .load1 (.r 8), none⟩, ⟨some 10, .fieldAt 1 (.r 2), none⟩, ⟨some 11, .load1 (.r 10), none⟩, ⟨some 12, .toInt .i64 (.r 11), none⟩, ⟨some 13, .call 62 [.r 9, .r 12], none⟩, ⟨some 7, .mv (.r 13), none⟩, ⟨some 14, .extract 0 (.r 7), none⟩, ⟨some 15, .extract 1 (.r 7), none⟩, ⟨some 5, .mv (.r 14), none⟩, ⟨some 6, .mv (.r 15), none⟩]) 
 (.seq
  (.block 0 (.seq
  (.ops [⟨some 17, .mv (.r 6), none⟩, ⟨some 18, .bin .neq (.r 17) (.c (.int .i64 (.ofNat 0))), none⟩, ⟨some 16, .mv (.r 18), none⟩]) 
 (.cond (.r 16) (.seq
  (.ops [⟨some 19, .mv (.r 6), none⟩, ⟨some 4, .mv (.r 19), none⟩]) 
 .ret) (.seq
  (.ops [⟨some 21, .mv (.r 5), none⟩, ⟨some 22, .fieldAt 2 (.r 2), none⟩, ⟨some 23, .load1 (.r 22), none⟩, ⟨some 24, .len .slice (.r 23), none⟩, ⟨some 25, .bin .neq (.r 21) (.r 24), none⟩, ⟨some 20, .mv (.r 25), none⟩]) 
 (.cond (.r 20) (.seq
  (.ops [⟨some 4, .mv (.c (.int .i64 (.ofNat 11))), none⟩]) 
 .ret) (.seq
  (.multi [(5, ⟨some 27, .loadN 3 (.r 2), none⟩), (4, ⟨some 28, .call 35 [.r 27], none⟩), (1, ⟨some 29, .loadN 32 (.r 3), none⟩), (0, ⟨some 30, .eql true [.int .u8, .int .u8, .int .u8, .int .u8, .int .u8, .int .u8, .int .u8, .int .u8, .int .u8, .int .u8, .int .u8, .int .u8, .int .u8, .int .u8, .int .u8, .int .u8, .int .u8, .int .u8, .int .u8, .int .u8, .int .u8, .int .u8, .int .u8, .int .u8, .int .u8, .int .u8, .int .u8, .int .u8, .int .u8, .int .u8, .int .u8, .int .u8] true (.r 28) (.r 29), none⟩), (0, ⟨some 26, .mv (.r 30), none⟩)] [(1, 2)]) 
 (.cond (.r 26) (.seq
  (.ops [⟨some 4, .mv (.c (.int .i64 (.ofNat 33))), none⟩]) 
 .ret) .skip))))))) 
 (.seq
  (.ops [⟨some 4, .mv (.c (.int .i64 (.ofNat 0))), none⟩]) 
 .ret)))⟩
def c37 : AF := ⟨80, [.reg 4, .reg 5, .reg 6], .seq
  (.ops [⟨some 4, .mv (.c .nilslice), none⟩, ⟨some 5, .mv (.c .nilslice), none⟩, ⟨some 6, .mv (.c (.bool false)), none⟩]) 
 (.seq
  (.seq
  (.ops [⟨some 10, .mv (.r 0), none⟩, ⟨some 11, .len .slice (.r 10), none⟩, ⟨some 12, .mv (.r 1), none⟩, ⟨some 13, .len .slice (.r 12), none⟩, ⟨some 14, .bin .neq (.r 11) (.r 13), none⟩, ⟨some 15, .mv (.r 14), none⟩, ⟨some 16, .mv (.r 0), some (15, false)⟩, ⟨some 17, .mv (.r 1), some (15, false)⟩, ⟨some 18, .call 70 [.r 16, .r 17], some (15, false)⟩, ⟨some 19, .pick (.r 15) (.c (.bool true)) (.r 18), none⟩, ⟨some 20, .mv (.r 19), none⟩, ⟨some 21, .mv (.r 0), some (20, false)⟩, ⟨some 22, .call 34 [.r 21], some (20, false)⟩, ⟨some 23, .mv (.r 1), some (20, false)⟩, ⟨some 24, .call 34 [.r 23], some (20, false)⟩, ⟨some 25, .eql true [.int .u8, .int .u8, .int .u8, .int .u8, .int .u8, .int .u8, .int .u8, .int .u8, .int .u8, .int .u8, .int .u8, .int .u8, .int .u8, .int .u8, .int .u8, .int .u8, .int .u8, .int .u8, .int .u8, .int .u8, .int .u8, .int .u8, .int .u8, .int .u8, .int .u8, .int .u8, .int .u8, .int .u8, .int .u8, .int .u8, .int .u8, .int .u8] true (.r 22) (.r 24), some (20, false)⟩, ⟨some 26, .pick (.r 20) (.c (.bool true)) (.r 25), none⟩]) 
 (.cond (.r 26) (.seq
  (.ops [⟨some 4, .mv (.c .nilslice), none⟩, ⟨some 5, .mv (.c .nilslice), none⟩, ⟨some 6, .mv (.c (.bool false)), none⟩]) 
 .ret) .skip)) 
 (.seq
  (.block 0 (.loop (.seq
  (.seq
  (.ops [⟨some 27, .mv (.r 0), none⟩, ⟨some 28, .len .slice (.r 27), none⟩, ⟨some 29, .bin .gtr (.r 28) (.c (.int .i64 (.ofNat 1))), none⟩]) 
 (.cond (.r 29) .skip (.exit 0))) 
 (.block 1 (.seq
  (.ops [⟨some 30, .mv (.r 0), none⟩, ⟨some 31, .len .slice (.r 30), none⟩, ⟨some 32, .bin .sub (.r 31) (.c (.int .i64 (.ofNat 1))), none⟩, ⟨some 33, .toInt .u64 (.r 32), none⟩, ⟨some 34, .call 71 [.r 33], none⟩, ⟨some 35, .bin .sub (.r 34) (.c (.int .i64 (.ofNat 1))), none⟩, ⟨some 36, .bin .shl (.c (.int .i64 (.ofNat 1))) (.r 35), none⟩, ⟨some 7, .mv (.r 36), none⟩]) 
 (.seq
  (.multi [(0, ⟨some 37, .mv (.r 0), none⟩), (0, ⟨some 38, .mv (.r 7), none⟩), (1, ⟨some 39, .sliceSl 32 false (.r 37) none (some (.r 38)) none, none⟩), (4, ⟨some 40, .call 34 [.r 39], none⟩), (0, ⟨some 41, .mv (.r 0), none⟩), (0, ⟨some 42, .mv (.r 7), none⟩), (2, ⟨some 43, .sliceSl 32 true (.r 41) (some (.r 42)) none none, none⟩), (4, ⟨some 44, .call 34 [.r 43], none⟩), (4, ⟨some 45, .call 72 [.r 40, .r 44], none⟩), (0, ⟨some 46, .mv (.r 1), none⟩), (0, ⟨some 47, .mv (.r 7), none⟩), (1, ⟨some 48, .sliceSl 32 false (.r 46) none (some (.r 47)) none, none⟩), (4, ⟨some 49, .call 34 [.r 48], none⟩), (0, ⟨some 50, .mv (.r 1), none⟩), (0, ⟨some 51, .mv (.r 7), none⟩), (2, ⟨some 52, .sliceSl 32 true (.r 50) (some (.r 51)) none none, none⟩), (5, ⟨some 53, .call 34 [.r 52], none⟩), (5, ⟨some 54, .call 72 [.r 49, .r 53], none⟩), (0, ⟨some 8, .mv (.r 45), none⟩), (0, ⟨some 9, .mv (.r 54), none⟩)] [(2, 6), (2, 15), (3, 6), (3, 11), (3, 15), (6, 11), (6, 15), (7, 11), (7, 15), (8, 11), (8, 15), (11, 15), (12, 15)]) 
 (.seq
  (.seq
  (.ops [⟨some 55, .mv (.r 8), none⟩, ⟨some 56, .mv (.r 9), none⟩, ⟨some 57, .call 58 [.r 55, .r 56], none⟩, ⟨some 58, .un .not (.r 57), none⟩]) 
 (.cond (.r 58) (.seq
  (.ops [⟨some 59, .mv (.r 8), none⟩, ⟨some 60, .mv (.r 9), none⟩, ⟨some 4, .mv (.r 59), none⟩, ⟨some 5, .mv (.r 60), none⟩, ⟨some 6, .mv (.c (.bool true)), none⟩]) 
 .ret) .skip)) 
 (.seq
  (.ops [⟨some 61, .mv (.r 0), none⟩, ⟨some 62, .mv (.r 7), none⟩, ⟨some 63, .sliceSl 32 false (.r 61) none (some (.r 62)) none, none⟩, ⟨some 64, .mv (.r 1), none⟩, ⟨some 65, .mv (.r 7), none⟩, ⟨some 66, .sliceSl 32 false (.r 64) none (some (.r 65)) none, none⟩, ⟨some 67, .call 70 [.r 63, .r 66], none⟩]) 
 (.cond (.r 67) (.multi [(0, ⟨some 68, .mv (.r 0), none⟩), (0, ⟨some 69, .mv (.r 7), none⟩), (2, ⟨some 70, .sliceSl 32 true (.r 68) (some (.r 69)) none none, none⟩), (0, ⟨some 71, .mv (.r 1), none⟩), (0, ⟨some 72, .mv (.r 7), none⟩), (2, ⟨some 73, .sliceSl 32 true (.r 71) (some (.r 72)) none none, none⟩), (0, ⟨some 0, .mv (.r 70), none⟩), (0, ⟨some 1, .mv (.r 73), none⟩)] [(2, 5)]) (.ops [⟨some 74, .mv (.r 0), none⟩, ⟨some 75, .mv (.r 7), none⟩, ⟨some 76, .sliceSl 32 false (.r 74) none (some (.r 75)) none, none⟩, ⟨some 77, .mv (.r 1), none⟩, ⟨some 78, .mv (.r 7), none⟩, ⟨some 79, .sliceSl 32 false (.r 77) none (some (.r 78)) none, none⟩, ⟨some 0, .mv (.r 76), none⟩, ⟨some 1, .mv (.r 79), none⟩])))))))))) 
 (.seq
  (.ops [⟨some 4, .mv (.c .nilslice), none⟩, ⟨some 5, .mv (.c .nilslice), none⟩, ⟨some 6, .mv (.c (.bool false)), none⟩]) 
 .ret)))⟩
def c38 : AF := ⟨10, [.reg 2], .seq
  (.ops [⟨some 2, .mv (.c (.int .u64 (.ofNat 0))), none⟩]) 
 (.seq
  (.ops [⟨some 4, .call 73 [], none⟩, ⟨some 3, .mv (.r 4), none⟩]) 
 (.seq
  (.ops [⟨some 5, .mv (.r 3), none⟩, ⟨some 6, .mv (.r 0), none⟩, ⟨some 7, .call 74 [.r 5, .r 6], none⟩]) 
 (.seq
  (.ops [⟨some 8, .mv (.r 3), none⟩, ⟨some 9, .call 75 [.r 8], none⟩, ⟨some 2, .mv (.r 9), none⟩]) 
 .ret)))⟩
def c39 : AF := ⟨68, [.reg 6, .reg 7], .seq
  (.ops [⟨some 6, .mv (.c .nilptr), none⟩, ⟨some 7, .mv (.c (.int .i64 (.ofNat 0))), none⟩]) 
 (.seq
  (.seq
  (.ops [⟨some 11, .mv (.r 1), none⟩, ⟨some 12, .bin .lss (.r 11) (.c (.int .i64 (.ofNat 10))), none⟩, ⟨some 13, .mv (.r 12), none⟩, ⟨some 14, .mv (.r 1), some (13, false)⟩, ⟨some 15, .bin .gtr (.r 14) (.c (.int .i64 (.ofNat 22))), some (13, false)⟩, ⟨some 16, .pick (.r 13) (.c (.bool true)) (.r 15), none⟩, ⟨some 17, .mv (.r 16), none⟩, ⟨some 18, .mv (.r 2), some (17, false)⟩, ⟨some 19, .bin .lss (.r 18) (.c (.int .i64 (.ofNat 0))), some (17, false)⟩, ⟨some 20, .pick (.r 17) (.c (.bool true)) (.r 19), none⟩]) 
 (.cond (.r 20) (.seq
  (.ops [⟨some 6, .mv (.c .nilptr), none⟩, ⟨some 7, .mv (.c (.int .i64 (.ofNat 1))), none⟩]) 
 .ret) .skip)) 
 (.seq
  (.ops [⟨some 21, .mv (.r 0), none⟩, ⟨some 22, .call 47 [.r 21], none⟩, ⟨some 23, .mv (.r 1), none⟩, ⟨some 24, .bin .shl (.c (.int .u64 (.ofNat 1))) (.r 23), none⟩, ⟨some 25, .mv (.r 2), none⟩, ⟨some 26, .build [.nilptr, .int .u64 (.ofNat 0), .int .i64 (.ofNat 0), .nilslice, .int .i64 (.ofNat 0), .int .i64 (.ofNat 0)] [(0, (1, .r 22)), (1, (1, .r 24)), (2, (1, .r 25))], none⟩, ⟨some 27, .box 6 (.r 26), none⟩, ⟨some 8, .mv (.r 27), none⟩]) 
 (.seq
  (.block 0 (.loop (.seq
  (.seq
  (.ops [⟨some 28, .mv (.r 8), none⟩, ⟨some 29, .nilCheck (.r 28), none⟩, ⟨some 30, .fieldAt 0 (.r 29), none⟩, ⟨some 31, .load1 (.r 30), none⟩, ⟨some 32, .call 76 [.r 31], none⟩, ⟨some 33, .bin .gtr (.r 32) (.c (.int .i64 (.ofNat 0))), none⟩]) 
 (.cond (.r 33) .skip (.exit 0))) 
 (.block 1 (.seq
  (.ops [⟨some 34, .mv (.r 8), none⟩, ⟨some 35, .nilCheck (.r 34), none⟩, ⟨some 36, .fieldAt 0 (.r 35), none⟩, ⟨some 37, .load1 (.r 36), none⟩, ⟨some 38, .call 49 [.r 37, .c (.int .i64 (.ofNat 4))], none⟩, ⟨some 9, .mv (.r 38), none⟩]) 
 (.seq
  (.seq
  (.ops [⟨some 39, .mv (.r 8), none⟩, ⟨some 40, .nilCheck (.r 39), none⟩, ⟨some 41, .fieldAt 0 (.r 40), none⟩, ⟨some 42, .load1 (.r 41), none⟩, ⟨some 43, .call 77 [.r 42], none⟩, ⟨some 44, .bin .neq (.r 43) (.c (.int .i64 (.ofNat 0))), none⟩]) 
 (.cond (.r 44) (.seq
  (.ops [⟨some 45, .mv (.r 8), none⟩, ⟨some 46, .nilCheck (.r 45), none⟩, ⟨some 47, .fieldAt 0 (.r 46), none⟩, ⟨some 48, .load1 (.r 47), none⟩, ⟨some 49, .call 77 [.r 48], none⟩, ⟨some 6, .mv (.c .nilptr), none⟩, ⟨some 7, .mv (.r 49), none⟩]) 
 .ret) .skip)) 
 (.seq
  (.ops [⟨some 10, .mv (.c (.int .i64 (.ofNat 11))), none⟩]) 
 (.seq
  (.block 2 (.seq
  (.ops [⟨some 51, .mv (.r 9), none⟩, ⟨some 52, .bin .eql (.r 51) (.c (.int .u64 (.ofNat 4247762216))), none⟩, ⟨some 50, .mv (.r 52), none⟩]) 
 (.cond (.r 50) (.ops [⟨some 53, .mv (.r 8), none⟩, ⟨some 54, .call 78 [.r 53], none⟩, ⟨some 10, .mv (.r 54), none⟩]) (.seq
  (.ops [⟨some 56, .mv (.r 9), none⟩, ⟨some 57, .bin .geq (.r 56) (.c (.int .u64 (.ofNat 407710288))), none⟩, ⟨some 58, .mv (.r 57), none⟩, ⟨some 59, .mv (.r 9), some (58, true)⟩, ⟨some 60, .bin .lss (.r 59) (.c (.int .u64 (.ofNat 407710304))), some (58, true)⟩, ⟨some 61, .pick (.r 58) (.r 60) (.c (.bool false)), none⟩, ⟨some 55, .mv (.r 61), none⟩]) 
 (.cond (.r 55) (.ops [⟨some 62, .mv (.r 8), none⟩, ⟨some 63, .call 79 [.r 62], none⟩, ⟨some 10, .mv (.r 63), none⟩]) .skip))))) 
 (.seq
  (.ops [⟨some 64, .mv (.r 10), none⟩, ⟨some 65, .bin .neq (.r 64) (.c (.int .i64 (.ofNat 0))), none⟩]) 
 (.cond (.r 65) (.seq
  (.ops [⟨some 66, .mv (.r 10), none⟩, ⟨some 6, .mv (.c .nilptr), none⟩, ⟨some 7, .mv (.r 66), none⟩]) 
 .ret) .skip)))))))))) 
 (.seq
  (.ops [⟨some 67, .mv (.r 8), none⟩, ⟨some 6, .mv (.r 67), none⟩, ⟨some 7, .mv (.c (.int .i64 (.ofNat 0))), none⟩]) 
 .ret))))⟩
def c40 : AF := ⟨81, [.reg 6, .reg 7], .seq
  (.ops [⟨some 6, .mv (.c .nilslice), none⟩, ⟨some 7, .mv (.c (.int .i64 (.ofNat 0))), none⟩]) 
 (.seq
  (.block 0 (.seq
  (.ops [⟨some 16, .mv (.r 1), none⟩, ⟨some 17, .bin .lss (.r 16) (.c (.int .i64 (.ofNat 0))), none⟩, ⟨some 18, .mv (.r 17), none⟩, ⟨some 19, .mv (.r 1), some (18, false)⟩, ⟨some 20, .bin .gtr (.r 19) (.c (.int .i64 (.ofNat 9))), some (18, false)⟩, ⟨some 21, .pick (.r 18) (.c (.bool true)) (.r 20), none⟩, ⟨some 15, .mv (.r 21), none⟩]) 
 (.cond (.r 15) (.seq
  (.ops [⟨some 6, .mv (.c .nilslice), none⟩, ⟨some 7, .mv (.c (.int .i64 (.ofNat 1))), none⟩]) 
 .ret) (.seq
  (.ops [⟨some 23, .mv (.r 0), none⟩, ⟨some 24, .len .slice (.r 23), none⟩, ⟨some 25, .bin .gtr (.r 24) (.c (.int .i64 (.ofNat 4194304))), none⟩, ⟨some 22, .mv (.r 25), none⟩]) 
 (.cond (.r 22) (.seq
  (.ops [⟨some 6, .mv (.c .nilslice), none⟩, ⟨some 7, .mv (.c (.int .i64 (.ofNat 12))), none⟩]) 
 .ret) .skip))))) 
 (.seq
  (.ops [⟨some 26, .mv (.r 0), none⟩, ⟨some 27, .len .slice (.r 26), none⟩, ⟨some 28, .toInt .u64 (.r 27), none⟩, ⟨some 29, .mv (.r 2), none⟩, ⟨some 30, .call 80 [.r 28, .r 29], none⟩, ⟨some 8, .mv (.r 30), none⟩]) 
 (.seq
  (.ops [⟨some 31, .call 81 [], none⟩, ⟨some 9, .alloc [.int .u32 (.ofNat 0), .int .u32 (.ofNat 0), .int .u32 (.ofNat 0)], none⟩, ⟨none, .store 3 (.r 9) (.r 31), none⟩]) 
 (.seq
  (.seq
  (.ops [⟨some 10, .mv (.c (.int .i64 (.ofNat 0))), none⟩]) 
 (.block 1 (.loop (.seq
  (.seq
  (.ops [⟨some 32, .mv (.r 10), none⟩, ⟨some 33, .bin .eql (.r 32) (.c (.int .i64 (.ofNat 0))), none⟩, ⟨some 34, .mv (.r 33), none⟩, ⟨some 35, .mv (.r 10), some (34, false)⟩, ⟨some 36, .mv (.r 0), some (34, false)⟩, ⟨some 37, .len .slice (.r 36), some (34, false)⟩, ⟨some 38, .bin .lss (.r 35) (.r 37), some (34, false)⟩, ⟨some 39, .pick (.r 34) (.c (.bool true)) (.r 38), none⟩]) 
 (.cond (.r 39) .skip (.exit 1))) 
 (.seq
  (.block 2 (.seq
  (.ops [⟨some 43, .mv (.r 0), none⟩, ⟨some 44, .mv (.r 10), none⟩, ⟨some 45, .mv (.r 10), none⟩, ⟨some 46, .bin .add (.r 45) (.c (.int .i64 (.ofNat 65536))), none⟩, ⟨some 47, .mv (.r 0), none⟩, ⟨some 48, .len .slice (.r 47), none⟩, ⟨some 49, .maxmin false (.r 46) [.r 48], none⟩, ⟨some 50, .mv (.r 1), none⟩, ⟨some 51, .loadN 3 (.r 9), none⟩, ⟨some 52, .call 82 [.r 43, .r 44, .r 49, .r 50, .r 51], none⟩, ⟨some 42, .mv (.r 52), none⟩, ⟨some 53, .extract 0 (.r 42), none⟩, ⟨some 54, .extract 1 (.r 42), none⟩, ⟨some 55, .extract 2 (.r 42), none⟩, ⟨some 12, .alloc [.int .u32 (.ofNat 0), .int .u32 (.ofNat 0), .int .u32 (.ofNat 0)], none⟩, ⟨some 11, .mv (.r 53), none⟩, ⟨none, .store 3 (.r 12) (.r 54), none⟩, ⟨some 13, .mv (.r 55), none⟩]) 
 (.seq
  (.seq
  (.ops [⟨some 56, .mv (.r 13), none⟩, ⟨some 57, .bin .neq (.r 56) (.c (.int .i64 (.ofNat 0))), none⟩]) 
 (.cond (.r 57) (.seq
  (.ops [⟨some 58, .mv (.r 13), none⟩, ⟨some 6, .mv (.c .nilslice), none⟩, ⟨some 7, .mv (.r 58), none⟩]) 
 .ret) .skip)) 
 (.multi [(0, ⟨some 59, .mv (.r 8), none⟩), (0, ⟨some 60, .mv (.r 11), none⟩), (3, ⟨some 61, .append 1 1 (.r 59) (.r 60), none⟩), (1, ⟨some 62, .loadN 3 (.r 12), none⟩), (0, ⟨some 8, .mv (.r 61), none⟩), (5, ⟨none, .store 3 (.r 9) (.r 62), none⟩)] [(2, 3)])))) 
 (.ops [⟨some 40, .mv (.r 10), none⟩, ⟨some 41, .bin .add (.r 40) (.c (.int .i64 (.ofNat 65536))), none⟩, ⟨some 10, .mv (.r 41), none⟩])))))) 
 (.seq
  (.seq
  (.ops [⟨some 63, .mv (.r 2), none⟩]) 
 (.cond (.r 63) (.seq
  (.ops [⟨some 64, .mv (.r 0), none⟩, ⟨some 65, .call 38 [.r 64], none⟩, ⟨some 14, .mv (.r 65), none⟩]) 
 (.ops [⟨some 66, .mv (.r 8), none⟩, ⟨some 67, .mv (.r 14), none⟩, ⟨some 68, .toInt .u8 (.r 67), none⟩, ⟨some 69, .mv (.r 14), none⟩, ⟨some 70, .bin .shr (.r 69) (.c (.int .u64 (.ofNat 8))), none⟩, ⟨some 71, .toInt .u8 (.r 70), none⟩, ⟨some 72, .mv (.r 14), none⟩, ⟨some 73, .bin .shr (.r 72) (.c (.int .u64 (.ofNat 16))), none⟩, ⟨some 74, .toInt .u8 (.r 73), none⟩, ⟨some 75, .mv (.r 14), none⟩, ⟨some 76, .bin .shr (.r 75) (.c (.int .u64 (.ofNat 24))), none⟩, ⟨some 77, .toInt .u8 (.r 76), none⟩, ⟨some 78, .buildSlice 1 4 [.int .u8 (.ofNat 0)] [(0, (1, .r 68)), (1, (1, .r 71)), (2, (1, .r 74)), (3, (1, .r 77))], none⟩, ⟨some 79, .append 1 1 (.r 66) (.r 78), none⟩, ⟨some 8, .mv (.r 79), none⟩])) .skip)) 
 (.seq
  (.ops [⟨some 80, .mv (.r 8), none⟩, ⟨some 6, .mv (.r 80), none⟩, ⟨some 7, .mv (.c (.int .i64 (.ofNat 0))), none⟩]) 
 .ret))))))⟩
def c41 : AF := ⟨10, [.reg 2], .seq
  (.ops [⟨some 2, .mv (.c (.int .u32 (.ofNat 0))), none⟩]) 
 (.seq
  (.ops [⟨some 4, .call 83 [], none⟩, ⟨some 3, .mv (.r 4), none⟩]) 
 (.seq
  (.ops [⟨some 5, .mv (.r 3), none⟩, ⟨some 6, .mv (.r 0), none⟩, ⟨some 7, .call 84 [.r 5, .r 6], none⟩]) 
 (.seq
  (.ops [⟨some 8, .mv (.r 3), none⟩, ⟨some 9, .call 85 [.r 8], none⟩, ⟨some 2, .mv (.r 9), none⟩]) 
 .ret)))⟩
def c42 : AF := ⟨17, [.reg 2], .seq
  (.ops [⟨some 1, .box 7 (.r 0), none⟩, ⟨some 2, .mv (.c (.bool false)), none⟩]) 
 (.seq
  (.ops [⟨some 3, .fieldAt 0 (.r 1), none⟩, ⟨some 4, .load1 (.r 3), none⟩, ⟨some 5, .bin .geq (.r 4) (.c (.int .u8 (.ofNat 1))), none⟩, ⟨some 6, .mv (.r 5), none⟩, ⟨some 7, .fieldAt 0 (.r 1), some (6, true)⟩, ⟨some 8, .load1 (.r 7), some (6, true)⟩, ⟨some 9, .bin .leq (.r 8) (.c (.int .u8 (.ofNat 6))), some (6, true)⟩, ⟨some 10, .pick (.r 6) (.r 9) (.c (.bool false)), none⟩, ⟨some 11, .mv (.r 10), none⟩, ⟨some 12, .fieldAt 6 (.r 1), some (11, true)⟩, ⟨some 13, .load1 (.r 12), some (11, true)⟩, ⟨some 14, .len .slice (.r 13), some (11, true)⟩, ⟨some 15, .bin .leq (.r 14) (.c (.int .i64 (.ofNat 1465))), some (11, true)⟩, ⟨some 16, .pick (.r 11) (.r 15) (.c (.bool false)), none⟩, ⟨some 2, .mv (.r 16), none⟩]) 
 .ret)⟩
def c43 : AF := ⟨3, [.reg 0], .seq
  (.ops [⟨some 0, .mv (.c .nilptr), none⟩]) 
 (.seq
  (.ops [⟨some 1, .build [.nilslice] [], none⟩, ⟨some 2, .box 1 (.r 1), none⟩, ⟨some 0, .mv (.r 2), none⟩]) 
 .ret)⟩
def c44 : AF := ⟨37, [], .seq
  (.seq
  (.ops [⟨some 7, .mv (.r 0), none⟩, ⟨some 8, .eqnil false 0 (.r 7) (.c .nilptr), none⟩, ⟨some 9, .mv (.r 8), none⟩, ⟨some 10, .mv (.r 2), some (9, false)⟩, ⟨some 11, .bin .lss (.r 10) (.c (.int .i64 (.ofNat 1))), some (9, false)⟩, ⟨some 12, .pick (.r 9) (.c (.bool true)) (.r 11), none⟩, ⟨some 13, .mv (.r 12), none⟩, ⟨some 14, .mv (.r 2), some (13, false)⟩, ⟨some 15, .bin .gtr (.r 14) (.c (.int .i64 (.ofNat 8))), some (13, false)⟩, ⟨some 16, .pick (.r 13) (.c (.bool true)) (.r 15), none⟩]) 
 (.cond (.r 16) .ret .skip)) 
 (.seq
  (.ops [⟨some 17, .mv (.r 2), none⟩, ⟨some 18, .mv (.c (.int .i64 (.ofNat 0))), none⟩]) 
 (.block 0 (.loop (.seq
  (.ops [⟨some 19, .bin .lss (.r 18) (.r 17), none⟩]) 
 (.seq
  (.cond (.r 19) .skip (.exit 0)) 
 (.seq
  (.block 1 (.seq
  (.ops [⟨some 20, .mv (.r 18), none⟩, ⟨some 6, .mv (.r 20), none⟩]) 
 (.ops [⟨some 21, .mv (.r 0), none⟩, ⟨some 22, .mv (.r 0), none⟩, ⟨some 23, .nilCheck (.r 22), none⟩, ⟨some 24, .fieldAt 0 (.r 23), none⟩, ⟨some 25, .load1 (.r 24), none⟩, ⟨some 26, .mv (.r 1), none⟩, ⟨some 27, .mv (.r 6), none⟩, ⟨some 28, .bin .mul (.c (.int .i64 (.ofNat 8))) (.r 27), none⟩, ⟨some 29, .toInt .u64 (.r 28), none⟩, ⟨some 30, .bin .shr (.r 26) (.r 29), none⟩, ⟨some 31, .toInt .u8 (.r 30), none⟩, ⟨some 32, .buildSlice 1 1 [.int .u8 (.ofNat 0)] [(0, (1, .r 31))], none⟩, ⟨some 33, .append 1 1 (.r 25) (.r 32), none⟩, ⟨some 34, .nilCheck (.r 21), none⟩, ⟨some 35, .fieldAt 0 (.r 34), none⟩, ⟨none, .store 1 (.r 35) (.r 33), none⟩]))) 
 (.ops [⟨some 36, .bin .add (.r 18) (.c (.int .i64 (.ofNat 1))), none⟩, ⟨some 18, .mv (.r 36), none⟩])))))))⟩
def c45 : AF := ⟨15, [], .seq
  (.ops [⟨some 4, .mv (.r 0), none⟩, ⟨some 5, .eqnil true 0 (.r 4) (.c .nilptr), none⟩]) 
 (.cond (.r 5) (.ops [⟨some 6, .mv (.r 0), none⟩, ⟨some 7, .mv (.r 0), none⟩, ⟨some 8, .nilCheck (.r 7), none⟩, ⟨some 9, .fieldAt 0 (.r 8), none⟩, ⟨some 10, .load1 (.r 9), none⟩, ⟨some 11, .mv (.r 1), none⟩, ⟨some 12, .append 1 1 (.r 10) (.r 11), none⟩, ⟨some 13, .nilCheck (.r 6), none⟩, ⟨some 14, .fieldAt 0 (.r 13), none⟩, ⟨none, .store 1 (.r 14) (.r 12), none⟩]) .skip)⟩
def c46 : AF := ⟨10, [.reg 2], .seq
  (.ops [⟨some 2, .mv (.c .nilslice), none⟩]) 
 (.seq
  (.seq
  (.ops [⟨some 3, .mv (.r 0), none⟩, ⟨some 4, .eqnil false 0 (.r 3) (.c .nilptr), none⟩]) 
 (.cond (.r 4) (.seq
  (.ops [⟨some 2, .mv (.c .nilslice), none⟩]) 
 .ret) .skip)) 
 (.seq
  (.ops [⟨some 5, .mv (.r 0), none⟩, ⟨some 6, .nilCheck (.r 5), none⟩, ⟨some 7, .fieldAt 0 (.r 6), none⟩, ⟨some 8, .load1 (.r 7), none⟩, ⟨some 9, .call 53 [.r 8], none⟩, ⟨some 2, .mv (.r 9), none⟩]) 
 .ret))⟩
def c47 : AF := ⟨7, [.reg 2], .seq
  (.ops [⟨some 2, .mv (.c .nilptr), none⟩]) 
 (.seq
  (.ops [⟨some 3, .mv (.r 0), none⟩, ⟨some 4, .call 53 [.r 3], none⟩, ⟨some 5, .build [.nilslice, .int .i64 (.ofNat 0)] [(0, (1, .r 4))], none⟩, ⟨some 6, .box 2 (.r 5), none⟩, ⟨some 2, .mv (.r 6), none⟩]) 
 .ret)⟩
def c48 : AF := ⟨5, [.reg 1], .seq
  (.ops [⟨some 1, .mv (.c (.int .u32 (.ofNat 0))), none⟩]) 
 (.seq
  (.ops [⟨some 2, .load1 (.r 0), none⟩, ⟨some 3, .call 49 [.r 2, .c (.int .i64 (.ofNat 4))], none⟩, ⟨some 4, .toInt .u32 (.r 3), none⟩, ⟨some 1, .mv (.r 4), none⟩]) 
 .ret)⟩
def c49 : AF := ⟨35, [.reg 4], .seq
  (.ops [⟨some 4, .mv (.c (.int .u64 (.ofNat 0))), none⟩]) 
 (.seq
  (.seq
  (.ops [⟨some 8, .mv (.r 0), none⟩, ⟨some 9, .eqnil false 0 (.r 8) (.c .nilptr), none⟩]) 
 (.cond (.r 9) (.seq
  (.ops [⟨some 4, .mv (.c (.int .u64 (.ofNat 0))), none⟩]) 
 .ret) .skip)) 
 (.seq
  (.ops [⟨some 5, .mv (.c (.int .u64 (.ofNat 0))), none⟩]) 
 (.seq
  (.seq
  (.ops [⟨some 10, .mv (.r 0), none⟩, ⟨some 11, .mv (.r 1), none⟩, ⟨some 12, .mv (.r 1), none⟩, ⟨some 13, .bin .geq (.r 12) (.c (.int .i64 (.ofNat 1))), none⟩, ⟨some 14, .mv (.r 13), none⟩, ⟨some 15, .mv (.r 1), some (14, true)⟩, ⟨some 16, .bin .leq (.r 15) (.c (.int .i64 (.ofNat 8))), some (14, true)⟩, ⟨some 17, .pick (.r 14) (.r 16) (.c (.bool false)), none⟩, ⟨some 18, .call 86 [.r 10, .r 11, .r 17], none⟩, ⟨some 19, .len .slice (.r 18), none⟩, ⟨some 20, .mv (.c (.int .i64 (.ofNat 0))), none⟩]) 
 (.block 0 (.loop (.seq
  (.ops [⟨some 21, .bin .lss (.r 20) (.r 19), none⟩]) 
 (.seq
  (.cond (.r 21) .skip (.exit 0)) 
 (.seq
  (.block 1 (.seq
  (.ops [⟨some 22, .mv (.r 20), none⟩, ⟨some 23, .indexSl 1 (.r 18) (.r 20), none⟩, ⟨some 24, .load1 (.r 23), none⟩, ⟨some 6, .mv (.r 22), none⟩, ⟨some 7, .mv (.r 24), none⟩]) 
 (.ops [⟨some 25, .mv (.r 5), none⟩, ⟨some 26, .mv (.r 7), none⟩, ⟨some 27, .toInt .u64 (.r 26), none⟩, ⟨some 28, .mv (.r 6), none⟩, ⟨some 29, .bin .mul (.c (.int .i64 (.ofNat 8))) (.r 28), none⟩, ⟨some 30, .toInt .u64 (.r 29), none⟩, ⟨some 31, .bin .shl (.r 27) (.r 30), none⟩, ⟨some 32, .bin .or (.r 25) (.r 31), none⟩, ⟨some 5, .mv (.r 32), none⟩]))) 
 (.ops [⟨some 33, .bin .add (.r 20) (.c (.int .i64 (.ofNat 1))), none⟩, ⟨some 20, .mv (.r 33), none⟩]))))))) 
 (.seq
  (.ops [⟨some 34, .mv (.r 5), none⟩, ⟨some 4, .mv (.r 34), none⟩]) 
 .ret))))⟩
def c50 : AF := ⟨12, [.reg 4], .seq
  (.ops [⟨some 4, .mv (.c .nilslice), none⟩]) 
 (.seq
  (.seq
  (.ops [⟨some 5, .mv (.r 0), none⟩, ⟨some 6, .eqnil false 0 (.r 5) (.c .nilptr), none⟩]) 
 (.cond (.r 6) (.seq
  (.ops [⟨some 4, .mv (.c .nilslice), none⟩]) 
 .ret) .skip)) 
 (.seq
  (.ops [⟨some 7, .mv (.r 0), none⟩, ⟨some 8, .mv (.r 1), none⟩, ⟨some 9, .mv (.r 1), none⟩, ⟨some 10, .bin .geq (.r 9) (.c (.int .i64 (.ofNat 0))), none⟩, ⟨some 11, .call 86 [.r 7, .r 8, .r 10], none⟩, ⟨some 4, .mv (.r 11), none⟩]) 
 .ret))⟩
def c51 : AF := ⟨14, [.reg 2], .seq
  (.ops [⟨some 2, .mv (.c (.int .i64 (.ofNat 0))), none⟩]) 
 (.seq
  (.seq
  (.ops [⟨some 4, .mv (.r 0), none⟩, ⟨some 5, .call 77 [.r 4], none⟩, ⟨some 3, .mv (.r 5), none⟩]) 
 (.seq
  (.ops [⟨some 6, .mv (.r 3), none⟩, ⟨some 7, .bin .neq (.r 6) (.c (.int .i64 (.ofNat 0))), none⟩, ⟨some 8, .mv (.r 7), none⟩, ⟨some 9, .mv (.r 0), some (8, false)⟩, ⟨some 10, .call 76 [.r 9], some (8, false)⟩, ⟨some 11, .bin .eql (.r 10) (.c (.int .i64 (.ofNat 0))), some (8, false)⟩, ⟨some 12, .pick (.r 8) (.c (.bool true)) (.r 11), none⟩]) 
 (.cond (.r 12) (.seq
  (.ops [⟨some 13, .mv (.r 3), none⟩, ⟨some 2, .mv (.r 13), none⟩]) 
 .ret) .skip))) 
 (.seq
  (.ops [⟨some 2, .mv (.c (.int .i64 (.ofNat 15))), none⟩]) 
 .ret))⟩
def c52 : AF := ⟨12, [.reg 6], .seq
  (.ops [⟨some 6, .mv (.c (.int .i64 (.ofNat 0))), none⟩]) 
 (.seq
  (.ops [⟨some 7, .mv (.r 0), none⟩, ⟨some 8, .mv (.r 1), none⟩, ⟨some 9, .maxmin true (.r 7) [.r 8], none⟩, ⟨some 10, .mv (.r 2), none⟩, ⟨some 11, .maxmin false (.r 9) [.r 10], none⟩, ⟨some 6, .mv (.r 11), none⟩]) 
 .ret)⟩
def c53 : AF := ⟨8, [.reg 2], .seq
  (.ops [⟨some 2, .mv (.c .nilslice), none⟩]) 
 (.seq
  (.seq
  (.ops [⟨some 3, .mv (.r 0), none⟩, ⟨some 4, .eqnil false 1 (.r 3) (.c .nilslice), none⟩]) 
 (.cond (.r 4) (.seq
  (.ops [⟨some 2, .mv (.c .nilslice), none⟩]) 
 .ret) .skip)) 
 (.seq
  (.ops [⟨some 5, .buildSlice 1 0 [.int .u8 (.ofNat 0)] [], none⟩, ⟨some 6, .mv (.r 0), none⟩, ⟨some 7, .append 1 1 (.r 5) (.r 6), none⟩, ⟨some 2, .mv (.r 7), none⟩]) 
 .ret))⟩
def c54 : AF := ⟨8, [.reg 2], .seq
  (.ops [⟨some 2, .mv (.c .nilslice), none⟩]) 
 (.seq
  (.seq
  (.ops [⟨some 3, .mv (.r 0), none⟩, ⟨some 4, .eqnil false 1 (.r 3) (.c .nilslice), none⟩]) 
 (.cond (.r 4) (.seq
  (.ops [⟨some 2, .mv (.c .nilslice), none⟩]) 
 .ret) .skip)) 
 (.seq
  (.ops [⟨some 5, .buildSlice 1 0 [.bool false] [], none⟩, ⟨some 6, .mv (.r 0), none⟩, ⟨some 7, .append 1 1 (.r 5) (.r 6), none⟩, ⟨some 2, .mv (.r 7), none⟩]) 
 .ret))⟩
def c55 : AF := ⟨9, [.reg 4], .seq
  (.ops [⟨some 4, .mv (.c (.bool false)), none⟩]) 
 (.seq
  (.ops [⟨some 5, .mv (.r 0), none⟩, ⟨some 6, .mv (.r 1), none⟩, ⟨some 7, .call 87 [.r 5, .r 6], none⟩, ⟨some 8, .bin .geq (.r 7) (.c (.int .i64 (.ofNat 0))), none⟩, ⟨some 4, .mv (.r 8), none⟩]) 
 .ret)⟩
def c56 : AF := ⟨36, [.reg 2], .seq
  (.ops [⟨some 2, .mv (.c .nilslice), none⟩]) 
 (.seq
  (.ops [⟨some 3, .mv (.c (.int .i64 (.ofNat 0))), none⟩]) 
 (.seq
  (.seq
  (.ops [⟨some 9, .mv (.r 0), none⟩, ⟨some 10, .len .slice (.r 9), none⟩, ⟨some 11, .mv (.c (.int .i64 (.ofNat 0))), none⟩]) 
 (.block 0 (.loop (.seq
  (.ops [⟨some 12, .bin .lss (.r 11) (.r 10), none⟩]) 
 (.seq
  (.cond (.r 12) .skip (.exit 0)) 
 (.seq
  (.block 1 (.seq
  (.ops [⟨some 13, .indexSl 1 (.r 9) (.r 11), none⟩, ⟨some 14, .load1 (.r 13), none⟩, ⟨some 5, .mv (.r 14), none⟩]) 
 (.seq
  (.ops [⟨some 15, .mv (.r 3), none⟩, ⟨some 16, .mv (.r 5), none⟩, ⟨some 17, .len .slice (.r 16), none⟩, ⟨some 18, .bin .add (.r 15) (.r 17), none⟩, ⟨some 3, .mv (.r 18), none⟩]) 
 (.seq
  (.ops [⟨some 19, .mv (.r 3), none⟩, ⟨some 20, .bin .lss (.r 19) (.c (.int .i64 (.ofNat 0))), none⟩]) 
 (.cond (.r 20) (.ops [⟨some 21, .bad 0, none⟩, ⟨none, .bad 0, none⟩]) .skip))))) 
 (.ops [⟨some 22, .bin .add (.r 11) (.c (.int .i64 (.ofNat 1))), none⟩, ⟨some 11, .mv (.r 22), none⟩]))))))) 
 (.seq
  (.ops [⟨some 23, .mv (.r 3), none⟩, ⟨some 24, .call 88 [.c .nilslice, .r 23], none⟩, ⟨some 6, .mv (.r 24), none⟩]) 
 (.seq
  (.seq
  (.ops [⟨some 25, .mv (.r 0), none⟩, ⟨some 26, .len .slice (.r 25), none⟩, ⟨some 27, .mv (.c (.int .i64 (.ofNat 0))), none⟩]) 
 (.block 2 (.loop (.seq
  (.ops [⟨some 28, .bin .lss (.r 27) (.r 26), none⟩]) 
 (.seq
  (.cond (.r 28) .skip (.exit 2)) 
 (.seq
  (.block 3 (.seq
  (.ops [⟨some 29, .indexSl 1 (.r 25) (.r 27), none⟩, ⟨some 30, .load1 (.r 29), none⟩, ⟨some 8, .mv (.r 30), none⟩]) 
 (.ops [⟨some 31, .mv (.r 6), none⟩, ⟨some 32, .mv (.r 8), none⟩, ⟨some 33, .append 1 1 (.r 31) (.r 32), none⟩, ⟨some 6, .mv (.r 33), none⟩]))) 
 (.ops [⟨some 34, .bin .add (.r 27) (.c (.int .i64 (.ofNat 1))), none⟩, ⟨some 27, .mv (.r 34), none⟩]))))))) 
 (.seq
  (.ops [⟨some 35, .mv (.r 6), none⟩, ⟨some 2, .mv (.r 35), none⟩]) 
 .ret)))))⟩
def c57 : AF := ⟨9, [.reg 4], .seq
  (.ops [⟨some 2, .box 1 (.r 0), none⟩, ⟨some 3, .box 1 (.r 1), none⟩, ⟨some 4, .mv (.c .nilfunc), none⟩]) 
 (.seq
  (.seq
  (.ops [⟨some 5, .load1 (.r 3), none⟩, ⟨some 6, .bin .lss (.r 5) (.c (.int .i64 (.ofNat 1))), none⟩]) 
 (.cond (.r 6) (.ops [⟨some 7, .bad 0, none⟩, ⟨none, .bad 0, none⟩]) .skip)) 
 (.seq
  (.ops [⟨some 8, .makeFunc (.func 89) [] [.r 2, .r 3], none⟩, ⟨some 4, .mv (.r 8), none⟩]) 
 .ret))⟩
def c58 : AF := ⟨26, [.reg 4], .seq
  (.ops [⟨some 4, .mv (.c (.bool false)), none⟩]) 
 (.seq
  (.seq
  (.ops [⟨some 6, .mv (.r 0), none⟩, ⟨some 7, .len .slice (.r 6), none⟩, ⟨some 8, .mv (.r 1), none⟩, ⟨some 9, .len .slice (.r 8), none⟩, ⟨some 10, .bin .neq (.r 7) (.r 9), none⟩]) 
 (.cond (.r 10) (.seq
  (.ops [⟨some 4, .mv (.c (.bool false)), none⟩]) 
 .ret) .skip)) 
 (.seq
  (.seq
  (.ops [⟨some 11, .mv (.r 0), none⟩, ⟨some 12, .len .slice (.r 11), none⟩, ⟨some 13, .mv (.c (.int .i64 (.ofNat 0))), none⟩]) 
 (.block 0 (.loop (.seq
  (.ops [⟨some 14, .bin .lss (.r 13) (.r 12), none⟩]) 
 (.seq
  (.cond (.r 14) .skip (.exit 0)) 
 (.seq
  (.block 1 (.seq
  (.ops [⟨some 15, .mv (.r 13), none⟩, ⟨some 5, .mv (.r 15), none⟩]) 
 (.seq
  (.ops [⟨some 16, .mv (.r 0), none⟩, ⟨some 17, .mv (.r 5), none⟩, ⟨some 18, .indexSl 1 (.r 16) (.r 17), none⟩, ⟨some 19, .load1 (.r 18), none⟩, ⟨some 20, .mv (.r 1), none⟩, ⟨some 21, .mv (.r 5), none⟩, ⟨some 22, .indexSl 1 (.r 20) (.r 21), none⟩, ⟨some 23, .load1 (.r 22), none⟩, ⟨some 24, .bin .neq (.r 19) (.r 23), none⟩]) 
 (.cond (.r 24) (.seq
  (.ops [⟨some 4, .mv (.c (.bool false)), none⟩]) 
 .ret) .skip)))) 
 (.ops [⟨some 25, .bin .add (.r 13) (.c (.int .i64 (.ofNat 1))), none⟩, ⟨some 13, .mv (.r 25), none⟩]))))))) 
 (.seq
  (.ops [⟨some 4, .mv (.c (.bool true)), none⟩]) 
 .ret)))⟩
def c59 : AF := ⟨13, [.cell 4 6 true], .seq
  (.ops [⟨some 2, .box 6 (.r 0), none⟩, ⟨some 4, .alloc [.int .u64 (.ofNat 0), .int .u64 (.ofNat 0), .int .u64 (.ofNat 0), .int .u64 (.ofNat 0), .int .u64 (.ofNat 0), .bool false], none⟩]) 
 (.seq
  (.ops [⟨some 5, .mv (.r 1), none⟩, ⟨some 6, .fieldAt 0 (.r 2), none⟩, ⟨some 7, .load1 (.r 6), none⟩, ⟨some 8, .fieldAt 1 (.r 2), none⟩, ⟨some 9, .load1 (.r 8), none⟩, ⟨some 10, .call 90 [.r 5, .r 7, .r 9], none⟩, ⟨some 11, .fieldAt 2 (.r 2), none⟩, ⟨none, .store 1 (.r 11) (.r 10), none⟩]) 
 (.seq
  (.ops [⟨some 12, .loadN 6 (.r 2), none⟩, ⟨none, .store 6 (.r 4) (.r 12), none⟩]) 
 .ret))⟩
def c60 : AF := ⟨16, [.reg 4], .seq
  (.ops [⟨some 4, .mv (.c (.int .u64 (.ofNat 0))), none⟩]) 
 (.seq
  (.ops [⟨some 8, .mv (.r 0), none⟩, ⟨some 9, .mv (.r 1), none⟩, ⟨some 10, .add64 (.r 8) (.r 9) (.c (.int .u64 (.ofNat 0))), none⟩, ⟨some 7, .mv (.r 10), none⟩, ⟨some 11, .extract 0 (.r 7), none⟩, ⟨some 12, .extract 1 (.r 7), none⟩, ⟨some 5, .mv (.r 11), none⟩, ⟨some 6, .mv (.r 12), none⟩]) 
 (.seq
  (.seq
  (.ops [⟨some 13, .mv (.r 6), none⟩, ⟨some 14, .bin .gtr (.r 13) (.c (.int .u64 (.ofNat 0))), none⟩]) 
 (.cond (.r 14) (.seq
  (.ops [⟨some 4, .mv (.c (.int .u64 (.ofNat 18446744073709551615))), none⟩]) 
 .ret) .skip)) 
 (.seq
  (.ops [⟨some 15, .mv (.r 5), none⟩, ⟨some 4, .mv (.r 15), none⟩]) 
 .ret)))⟩
def c61 : AF := ⟨35, [.reg 6], .seq
  (.ops [⟨some 6, .mv (.c (.int .u64 (.ofNat 0))), none⟩]) 
 (.seq
  (.ops [⟨some 13, .mv (.r 0), none⟩, ⟨some 14, .mv (.r 1), none⟩, ⟨some 15, .call 92 [.r 13, .r 14], none⟩, ⟨some 12, .mv (.r 15), none⟩, ⟨some 16, .extract 0 (.r 12), none⟩, ⟨some 17, .extract 1 (.r 12), none⟩, ⟨some 7, .mv (.r 16), none⟩, ⟨some 8, .mv (.r 17), none⟩]) 
 (.seq
  (.ops [⟨some 19, .mv (.r 8), none⟩, ⟨some 20, .mv (.r 2), none⟩, ⟨some 21, .add64 (.r 19) (.r 20) (.c (.int .u64 (.ofNat 0))), none⟩, ⟨some 18, .mv (.r 21), none⟩, ⟨some 22, .extract 0 (.r 18), none⟩, ⟨some 23, .extract 1 (.r 18), none⟩, ⟨some 8, .mv (.r 22), none⟩, ⟨some 9, .mv (.r 23), none⟩]) 
 (.seq
  (.ops [⟨some 25, .mv (.r 7), none⟩, ⟨some 26, .mv (.r 9), none⟩, ⟨some 27, .bin .add (.r 25) (.r 26), none⟩, ⟨some 28, .mv (.r 8), none⟩, ⟨some 29, .mv (.r 1), none⟩, ⟨some 30, .bin .add (.r 29) (.c (.int .u64 (.ofNat 1))), none⟩, ⟨some 31, .call 93 [.r 27, .r 28, .r 30], none⟩, ⟨some 24, .mv (.r 31), none⟩, ⟨some 32, .extract 0 (.r 24), none⟩, ⟨some 33, .extract 1 (.r 24), none⟩, ⟨some 10, .mv (.r 32), none⟩, ⟨some 11, .mv (.r 33), none⟩]) 
 (.seq
  (.ops [⟨some 34, .mv (.r 10), none⟩, ⟨some 6, .mv (.r 34), none⟩]) 
 .ret))))⟩
def c62 : AF := ⟨28, [.reg 4, .reg 5], .seq
  (.ops [⟨some 4, .mv (.c (.int .i64 (.ofNat 0))), none⟩, ⟨some 5, .mv (.c (.int .i64 (.ofNat 0))), none⟩]) 
 (.seq
  (.seq
  (.ops [⟨some 7, .mv (.r 1), none⟩, ⟨some 8, .bin .lss (.r 7) (.c (.int .i64 (.ofNat 1))), none⟩, ⟨some 9, .mv (.r 8), none⟩, ⟨some 10, .mv (.r 1), some (9, false)⟩, ⟨some 11, .bin .gtr (.r 10) (.c (.int .i64 (.ofNat 65536))), some (9, false)⟩, ⟨some 12, .pick (.r 9) (.c (.bool true)) (.r 11), none⟩]) 
 (.cond (.r 12) (.seq
  (.ops [⟨some 4, .mv (.c (.int .i64 (.ofNat 0))), none⟩, ⟨some 5, .mv (.c (.int .i64 (.ofNat 1))), none⟩]) 
 .ret) .skip)) 
 (.seq
  (.ops [⟨some 13, .mv (.r 0), none⟩, ⟨some 14, .mv (.r 1), none⟩, ⟨some 15, .toInt .u64 (.r 14), none⟩, ⟨some 16, .bin .quo (.r 13) (.r 15), none⟩, ⟨some 6, .mv (.r 16), none⟩]) 
 (.seq
  (.seq
  (.ops [⟨some 17, .mv (.r 0), none⟩, ⟨some 18, .mv (.r 1), none⟩, ⟨some 19, .toInt .u64 (.r 18), none⟩, ⟨some 20, .bin .rem (.r 17) (.r 19), none⟩, ⟨some 21, .bin .gtr (.r 20) (.c (.int .u64 (.ofNat 0))), none⟩]) 
 (.cond (.r 21) (.ops [⟨some 22, .mv (.r 6), none⟩, ⟨some 23, .bin .add (.r 22) (.c (.int .u64 (.ofNat 1))), none⟩, ⟨some 6, .mv (.r 23), none⟩]) .skip)) 
 (.seq
  (.seq
  (.ops [⟨some 24, .mv (.r 6), none⟩, ⟨some 25, .bin .gtr (.r 24) (.c (.int .u64 (.ofNat 1024))), none⟩]) 
 (.cond (.r 25) (.seq
  (.ops [⟨some 4, .mv (.c (.int .i64 (.ofNat 0))), none⟩, ⟨some 5, .mv (.c (.int .i64 (.ofNat 12))), none⟩]) 
 .ret) .skip)) 
 (.seq
  (.ops [⟨some 26, .mv (.r 6), none⟩, ⟨some 27, .toInt .i64 (.r 26), none⟩, ⟨some 4, .mv (.r 27), none⟩, ⟨some 5, .mv (.c (.int .i64 (.ofNat 0))), none⟩]) 
 .ret)))))⟩
def c63 : AF := ⟨43, [.reg 6, .reg 7, .reg 8], .seq
  (.ops [⟨some 6, .mv (.c (.int .u64 (.ofNat 0))), none⟩, ⟨some 7, .mv (.c (.int .i64 (.ofNat 0))), none⟩, ⟨some 8, .mv (.c (.int .i64 (.ofNat 0))), none⟩]) 
 (.seq
  (.ops [⟨some 13, .mv (.r 0), none⟩, ⟨some 14, .mv (.r 1), none⟩, ⟨some 15, .call 62 [.r 13, .r 14], none⟩, ⟨some 12, .mv (.r 15), none⟩, ⟨some 16, .extract 0 (.r 12), none⟩, ⟨some 17, .extract 1 (.r 12), none⟩, ⟨some 9, .mv (.r 16), none⟩, ⟨some 10, .mv (.r 17), none⟩]) 
 (.seq
  (.block 0 (.seq
  (.ops [⟨some 19, .mv (.r 10), none⟩, ⟨some 20, .bin .neq (.r 19) (.c (.int .i64 (.ofNat 0))), none⟩, ⟨some 18, .mv (.r 20), none⟩]) 
 (.cond (.r 18) (.seq
  (.ops [⟨some 21, .mv (.r 10), none⟩, ⟨some 6, .mv (.c (.int .u64 (.ofNat 0))), none⟩, ⟨some 7, .mv (.c (.int .i64 (.ofNat 0))), none⟩, ⟨some 8, .mv (.r 21), none⟩]) 
 .ret) (.seq
  (.ops [⟨some 23, .mv (.r 2), none⟩, ⟨some 24, .bin .lss (.r 23) (.c (.int .i64 (.ofNat 0))), none⟩, ⟨some 25, .mv (.r 24), none⟩, ⟨some 26, .mv (.r 2), some (25, false)⟩, ⟨some 27, .mv (.r 9), some (25, false)⟩, ⟨some 28, .bin .geq (.r 26) (.r 27), some (25, false)⟩, ⟨some 29, .pick (.r 25) (.c (.bool true)) (.r 28), none⟩, ⟨some 22, .mv (.r 29), none⟩]) 
 (.cond (.r 22) (.seq
  (.ops [⟨some 6, .mv (.c (.int .u64 (.ofNat 0))), none⟩, ⟨some 7, .mv (.c (.int .i64 (.ofNat 0))), none⟩, ⟨some 8, .mv (.c (.int .i64 (.ofNat 17))), none⟩]) 
 .ret) .skip))))) 
 (.seq
  (.ops [⟨some 30, .mv (.r 1), none⟩, ⟨some 31, .toInt .u64 (.r 30), none⟩, ⟨some 32, .mv (.r 2), none⟩, ⟨some 33, .toInt .u64 (.r 32), none⟩, ⟨some 34, .bin .mul (.r 31) (.r 33), none⟩, ⟨some 11, .mv (.r 34), none⟩]) 
 (.seq
  (.ops [⟨some 35, .mv (.r 11), none⟩, ⟨some 36, .mv (.r 0), none⟩, ⟨some 37, .mv (.r 11), none⟩, ⟨some 38, .bin .sub (.r 36) (.r 37), none⟩, ⟨some 39, .mv (.r 1), none⟩, ⟨some 40, .toInt .u64 (.r 39), none⟩, ⟨some 41, .maxmin false (.r 38) [.r 40], none⟩, ⟨some 42, .toInt .i64 (.r 41), none⟩, ⟨some 6, .mv (.r 35), none⟩, ⟨some 7, .mv (.r 42), none⟩, ⟨some 8, .mv (.c (.int .i64 (.ofNat 0))), none⟩]) 
 .ret))))⟩
def c64 : AF := ⟨7, [.cell 2 32 true], .seq
  (.ops [⟨some 2, .alloc [.int .u8 (.ofNat 0), .int .u8 (.ofNat 0), .int .u8 (.ofNat 0), .int .u8 (.ofNat 0), .int .u8 (.ofNat 0), .int .u8 (.ofNat 0), .int .u8 (.ofNat 0), .int .u8 (.ofNat 0), .int .u8 (.ofNat 0), .int .u8 (.ofNat 0), .int .u8 (.ofNat 0), .int .u8 (.ofNat 0), .int .u8 (.ofNat 0), .int .u8 (.ofNat 0), .int .u8 (.ofNat 0), .int .u8 (.ofNat 0), .int .u8 (.ofNat 0), .int .u8 (.ofNat 0), .int .u8 (.ofNat 0), .int .u8 (.ofNat 0), .int .u8 (.ofNat 0), .int .u8 (.ofNat 0), .int .u8 (.ofNat 0), .int .u8 (.ofNat 0), .int .u8 (.ofNat 0), .int .u8 (.ofNat 0), .int .u8 (.ofNat 0), .int .u8 (.ofNat 0), .int .u8 (.ofNat 0), .int .u8 (.ofNat 0), .int .u8 (.ofNat 0), .int .u8 (.ofNat 0)], none⟩]) 
 (.seq
  (.ops [⟨some 3, .buildSlice 1 1 [.int .u8 (.ofNat 0)] [(0, (1, .c (.int .u8 (.ofNat 0))))], none⟩, ⟨some 4, .mv (.r 0), none⟩, ⟨some 5, .append 1 1 (.r 3) (.r 4), none⟩, ⟨some 6, .call 32 [.r 5], none⟩, ⟨none, .store 32 (.r 2) (.r 6), none⟩]) 
 .ret)⟩
def c65 : AF := ⟨4, [.reg 0], .seq
  (.ops [⟨some 0, .mv (.c .nilptr), none⟩]) 
 (.seq
  (.ops [⟨some 1, .build [.int .u32 (.ofNat 0), .int .u32 (.ofNat 0), .int .u32 (.ofNat 0), .int .u32 (.ofNat 0), .int .u32 (.ofNat 0), .int .u32 (.ofNat 0), .int .u32 (.ofNat 0), .int .u32 (.ofNat 0)] [(0, (1, .c (.int .u32 (.ofNat 1779033703)))), (1, (1, .c (.int .u32 (.ofNat 3144134277)))), (2, (1, .c (.int .u32 (.ofNat 1013904242)))), (3, (1, .c (.int .u32 (.ofNat 2773480762)))), (4, (1, .c (.int .u32 (.ofNat 1359893119)))), (5, (1, .c (.int .u32 (.ofNat 2600822924)))), (6, (1, .c (.int .u32 (.ofNat 528734635)))), (7, (1, .c (.int .u32 (.ofNat 1541459225))))], none⟩, ⟨some 2, .build [.int .u32 (.ofNat 0), .int .u32 (.ofNat 0), .int .u32 (.ofNat 0), .int .u32 (.ofNat 0), .int .u32 (.ofNat 0), .int .u32 (.ofNat 0), .int .u32 (.ofNat 0), .int .u32 (.ofNat 0), .int .u8 (.ofNat 0), .int .u8 (.ofNat 0), .int .u8 (.ofNat 0), .int .u8 (.ofNat 0), .int .u8 (.ofNat 0), .int .u8 (.ofNat 0), .int .u8 (.ofNat 0), .int .u8 (.ofNat 0), .int .u8 (.ofNat 0), .int .u8 (.ofNat 0), .int .u8 (.ofNat 0), .int .u8 (.ofNat 0), .int .u8 (.ofNat 0), .int .u8 (.ofNat 0), .int .u8 (.ofNat 0), .int .u8 (.ofNat 0), .int .u8 (.ofNat 0), .int .u8 (.ofNat 0), .int .u8 (.ofNat 0), .int .u8 (.ofNat 0), .int .u8 (.ofNat 0), .int .u8 (.ofNat 0), .int .u8 (.ofNat 0), .int .u8 (.ofNat 0), .int .u8 (.ofNat 0), .int .u8 (.ofNat 0), .int .u8 (.ofNat 0), .int .u8 (.ofNat 0), .int .u8 (.ofNat 0), .int .u8 (.ofNat 0), .int .u8 (.ofNat 0), .int .u8 (.ofNat 0), .int .u8 (.ofNat 0), .int .u8 (.ofNat 0), .int .u8 (.ofNat 0), .int .u8 (.ofNat 0), .int .u8 (.ofNat 0), .int .u8 (.ofNat 0), .int .u8 (.ofNat 0), .int .u8 (.ofNat 0), .int .u8 (.ofNat 0), .int .u8 (.ofNat 0), .int .u8 (.ofNat 0), .int .u8 (.ofNat 0), .int .u8 (.ofNat 0), .int .u8 (.ofNat 0), .int .u8 (.ofNat 0), .int .u8 (.ofNat 0), .int .u8 (.ofNat 0), .int .u8 (.ofNat 0), .int .u8 (.ofNat 0), .int .u8 (.ofNat 0), .int .u8 (.ofNat 0), .int .u8 (.ofNat 0), .int .u8 (.ofNat 0), .int .u8 (.ofNat 0), .int .u8 (.ofNat 0), .int .u8 (.ofNat 0), .int .u8 (.ofNat 0), .int .u8 (.ofNat 0), .int .u8 (.ofNat 0), .int .u8 (.ofNat 0), .int .u8 (.ofNat 0), .int .u8 (.ofNat 0), .int .i64 (.ofNat 0), .int .u64 (.ofNat 0)] [(0, (8, .r 1))], none⟩, ⟨some 3, .box 74 (.r 2), none⟩, ⟨some 0, .mv (.r 3), none⟩]) 
 .ret)⟩
def c66 : AF := ⟨61, [], .seq
  (.seq
  (.ops [⟨some 5, .mv (.r 0), none⟩, ⟨some 6, .eqnil false 0 (.r 5) (.c .nilptr), none⟩]) 
 (.cond (.r 6) .ret .skip)) 
 (.seq
  (.ops [⟨some 7, .mv (.r 0), none⟩, ⟨some 8, .nilCheck (.r 7), none⟩, ⟨some 9, .fieldAt 73 (.r 8), none⟩, ⟨some 10, .load1 (.r 9), none⟩, ⟨some 11, .mv (.r 1), none⟩, ⟨some 12, .len .slice (.r 11), none⟩, ⟨some 13, .toInt .u64 (.r 12), none⟩, ⟨some 14, .bin .add (.r 10) (.r 13), none⟩, ⟨some 15, .nilCheck (.r 7), none⟩, ⟨some 16, .fieldAt 73 (.r 15), none⟩, ⟨none, .store 1 (.r 16) (.r 14), none⟩]) 
 (.block 0 (.loop (.seq
  (.seq
  (.ops [⟨some 17, .mv (.r 1), none⟩, ⟨some 18, .len .slice (.r 17), none⟩, ⟨some 19, .bin .gtr (.r 18) (.c (.int .i64 (.ofNat 0))), none⟩]) 
 (.cond (.r 19) .skip (.exit 0))) 
 (.block 1 (.seq
  (.ops [⟨some 20, .mv (.r 0), none⟩, ⟨some 21, .nilCheck (.r 20), none⟩, ⟨some 22, .fieldAt 8 (.r 21), none⟩, ⟨some 23, .mv (.r 0), none⟩, ⟨some 24, .nilCheck (.r 23), none⟩, ⟨some 25, .fieldAt 72 (.r 24), none⟩, ⟨some 26, .load1 (.r 25), none⟩, ⟨some 27, .sliceArr 64 1 (.r 22) (some (.r 26)) none none, none⟩, ⟨some 28, .mv (.r 1), none⟩, ⟨some 29, .copy 1 (.r 27) (.r 28), none⟩, ⟨some 4, .mv (.r 29), none⟩]) 
 (.seq
  (.ops [⟨some 30, .mv (.r 0), none⟩, ⟨some 31, .nilCheck (.r 30), none⟩, ⟨some 32, .fieldAt 72 (.r 31), none⟩, ⟨some 33, .load1 (.r 32), none⟩, ⟨some 34, .mv (.r 4), none⟩, ⟨some 35, .bin .add (.r 33) (.r 34), none⟩, ⟨some 36, .nilCheck (.r 30), none⟩, ⟨some 37, .fieldAt 72 (.r 36), none⟩, ⟨none, .store 1 (.r 37) (.r 35), none⟩]) 
 (.seq
  (.ops [⟨some 38, .mv (.r 1), none⟩, ⟨some 39, .mv (.r 4), none⟩, ⟨some 40, .sliceSl 1 true (.r 38) (some (.r 39)) none none, none⟩, ⟨some 1, .mv (.r 40), none⟩]) 
 (.seq
  (.ops [⟨some 41, .mv (.r 0), none⟩, ⟨some 42, .nilCheck (.r 41), none⟩, ⟨some 43, .fieldAt 72 (.r 42), none⟩, ⟨some 44, .load1 (.r 43), none⟩, ⟨some 45, .bin .eql (.r 44) (.c (.int .i64 (.ofNat 64))), none⟩]) 
 (.cond (.r 45) (.seq
  (.ops [⟨some 46, .mv (.r 0), none⟩, ⟨some 47, .mv (.r 0), none⟩, ⟨some 48, .nilCheck (.r 47), none⟩, ⟨some 49, .fieldAt 0 (.r 48), none⟩, ⟨some 50, .loadN 8 (.r 49), none⟩, ⟨some 51, .mv (.r 0), none⟩, ⟨some 52, .nilCheck (.r 51), none⟩, ⟨some 53, .fieldAt 8 (.r 52), none⟩, ⟨some 54, .loadN 64 (.r 53), none⟩, ⟨some 55, .call 94 [.r 50, .r 54], none⟩, ⟨some 56, .nilCheck (.r 46), none⟩, ⟨some 57, .fieldAt 0 (.r 56), none⟩, ⟨none, .store 8 (.r 57) (.r 55), none⟩]) 
 (.ops [⟨some 58, .mv (.r 0), none⟩, ⟨some 59, .nilCheck (.r 58), none⟩, ⟨some 60, .fieldAt 72 (.r 59), none⟩, ⟨none, .store 1 (.r 60) (.c (.int .i64 (.ofNat 0))), none⟩])) .skip))))))))))⟩
def c67 : AF := ⟨52, [.cell 2 32 true], .seq
  (.ops [⟨some 2, .alloc [.int .u8 (.ofNat 0), .int .u8 (.ofNat 0), .int .u8 (.ofNat 0), .int .u8 (.ofNat 0), .int .u8 (.ofNat 0), .int .u8 (.ofNat 0), .int .u8 (.ofNat 0), .int .u8 (.ofNat 0), .int .u8 (.ofNat 0), .int .u8 (.ofNat 0), .int .u8 (.ofNat 0), .int .u8 (.ofNat 0), .int .u8 (.ofNat 0), .int .u8 (.ofNat 0), .int .u8 (.ofNat 0), .int .u8 (.ofNat 0), .int .u8 (.ofNat 0), .int .u8 (.ofNat 0), .int .u8 (.ofNat 0), .int .u8 (.ofNat 0), .int .u8 (.ofNat 0), .int .u8 (.ofNat 0), .int .u8 (.ofNat 0), .int .u8 (.ofNat 0), .int .u8 (.ofNat 0), .int .u8 (.ofNat 0), .int .u8 (.ofNat 0), .int .u8 (.ofNat 0), .int .u8 (.ofNat 0), .int .u8 (.ofNat 0), .int .u8 (.ofNat 0), .int .u8 (.ofNat 0)], none⟩]) 
 (.seq
  (.seq
  (.ops [⟨some 7, .mv (.r 0), none⟩, ⟨some 8, .eqnil false 0 (.r 7) (.c .nilptr), none⟩]) 
 (.cond (.r 8) (.seq
  (.ops [⟨some 9, .call 32 [.c .nilslice], none⟩, ⟨none, .store 32 (.r 2) (.r 9), none⟩]) 
 .ret) .skip)) 
 (.seq
  (.ops [⟨some 10, .mv (.r 0), none⟩, ⟨some 11, .nilCheck (.r 10), none⟩, ⟨some 12, .loadN 74 (.r 11), none⟩, ⟨some 3, .alloc [.int .u32 (.ofNat 0), .int .u32 (.ofNat 0), .int .u32 (.ofNat 0), .int .u32 (.ofNat 0), .int .u32 (.ofNat 0), .int .u32 (.ofNat 0), .int .u32 (.ofNat 0), .int .u32 (.ofNat 0), .int .u8 (.ofNat 0), .int .u8 (.ofNat 0), .int .u8 (.ofNat 0), .int .u8 (.ofNat 0), .int .u8 (.ofNat 0), .int .u8 (.ofNat 0), .int .u8 (.ofNat 0), .int .u8 (.ofNat 0), .int .u8 (.ofNat 0), .int .u8 (.ofNat 0), .int .u8 (.ofNat 0), .int .u8 (.ofNat 0), .int .u8 (.ofNat 0), .int .u8 (.ofNat 0), .int .u8 (.ofNat 0), .int .u8 (.ofNat 0), .int .u8 (.ofNat 0), .int .u8 (.ofNat 0), .int .u8 (.ofNat 0), .int .u8 (.ofNat 0), .int .u8 (.ofNat 0), .int .u8 (.ofNat 0), .int .u8 (.ofNat 0), .int .u8 (.ofNat 0), .int .u8 (.ofNat 0), .int .u8 (.ofNat 0), .int .u8 (.ofNat 0), .int .u8 (.ofNat 0), .int .u8 (.ofNat 0), .int .u8 (.ofNat 0), .int .u8 (.ofNat 0), .int .u8 (.ofNat 0), .int .u8 (.ofNat 0), .int .u8 (.ofNat 0), .int .u8 (.ofNat 0), .int .u8 (.ofNat 0), .int .u8 (.ofNat 0), .int .u8 (.ofNat 0), .int .u8 (.ofNat 0), .int .u8 (.ofNat 0), .int .u8 (.ofNat 0), .int .u8 (.ofNat 0), .int .u8 (.ofNat 0), .int .u8 (.ofNat 0), .int .u8 (.ofNat 0), .int .u8 (.ofNat 0), .int .u8 (.ofNat 0), .int .u8 (.ofNat 0), .int .u8 (.ofNat 0), .int .u8 (.ofNat 0), .int .u8 (.ofNat 0), .int .u8 (.ofNat 0), .int .u8 (.ofNat 0), .int .u8 (.ofNat 0), .int .u8 (.ofNat 0), .int .u8 (.ofNat 0), .int .u8 (.ofNat 0), .int .u8 (.ofNat 0), .int .u8 (.ofNat 0), .int .u8 (.ofNat 0), .int .u8 (.ofNat 0), .int .u8 (.ofNat 0), .int .u8 (.ofNat 0), .int .u8 (.ofNat 0), .int .i64 (.ofNat 0), .int .u64 (.ofNat 0)], none⟩, ⟨none, .store 74 (.r 3) (.r 12), none⟩]) 
 (.seq
  (.ops [⟨some 13, .buildSlice 1 1 [.int .u8 (.ofNat 0)] [(0, (1, .c (.int .u8 (.ofNat 128))))], none⟩, ⟨some 14, .call 66 [.r 3, .r 13], none⟩]) 
 (.seq
  (.block 0 (.loop (.seq
  (.seq
  (.ops [⟨some 15, .fieldAt 72 (.r 3), none⟩, ⟨some 16, .load1 (.r 15), none⟩, ⟨some 17, .bin .neq (.r 16) (.c (.int .i64 (.ofNat 56))), none⟩]) 
 (.cond (.r 17) .skip (.exit 0))) 
 (.block 1 (.ops [⟨some 18, .buildSlice 1 1 [.int .u8 (.ofNat 0)] [(0, (1, .c (.int .u8 (.ofNat 0))))], none⟩, ⟨some 19, .call 66 [.r 3, .r 18], none⟩]))))) 
 (.seq
  (.seq
  (.ops [⟨some 4, .mv (.c (.int .i64 (.ofNat 56))), none⟩]) 
 (.block 2 (.loop (.seq
  (.seq
  (.ops [⟨some 20, .mv (.r 4), none⟩, ⟨some 21, .bin .geq (.r 20) (.c (.int .i64 (.ofNat 0))), none⟩]) 
 (.cond (.r 21) .skip (.exit 2))) 
 (.seq
  (.block 3 (.ops [⟨some 24, .mv (.r 0), none⟩, ⟨some 25, .nilCheck (.r 24), none⟩, ⟨some 26, .fieldAt 73 (.r 25), none⟩, ⟨some 27, .load1 (.r 26), none⟩, ⟨some 28, .bin .mul (.c (.int .u64 (.ofNat 8))) (.r 27), none⟩, ⟨some 29, .mv (.r 4), none⟩, ⟨some 30, .bin .shr (.r 28) (.r 29), none⟩, ⟨some 31, .toInt .u8 (.r 30), none⟩, ⟨some 32, .buildSlice 1 1 [.int .u8 (.ofNat 0)] [(0, (1, .r 31))], none⟩, ⟨some 33, .call 66 [.r 3, .r 32], none⟩])) 
 (.ops [⟨some 22, .mv (.r 4), none⟩, ⟨some 23, .bin .sub (.r 22) (.c (.int .i64 (.ofNat 8))), none⟩, ⟨some 4, .mv (.r 23), none⟩])))))) 
 (.seq
  (.ops [⟨some 5, .alloc [.int .u8 (.ofNat 0), .int .u8 (.ofNat 0), .int .u8 (.ofNat 0), .int .u8 (.ofNat 0), .int .u8 (.ofNat 0), .int .u8 (.ofNat 0), .int .u8 (.ofNat 0), .int .u8 (.ofNat 0), .int .u8 (.ofNat 0), .int .u8 (.ofNat 0), .int .u8 (.ofNat 0), .int .u8 (.ofNat 0), .int .u8 (.ofNat 0), .int .u8 (.ofNat 0), .int .u8 (.ofNat 0), .int .u8 (.ofNat 0), .int .u8 (.ofNat 0), .int .u8 (.ofNat 0), .int .u8 (.ofNat 0), .int .u8 (.ofNat 0), .int .u8 (.ofNat 0), .int .u8 (.ofNat 0), .int .u8 (.ofNat 0), .int .u8 (.ofNat 0), .int .u8 (.ofNat 0), .int .u8 (.ofNat 0), .int .u8 (.ofNat 0), .int .u8 (.ofNat 0), .int .u8 (.ofNat 0), .int .u8 (.ofNat 0), .int .u8 (.ofNat 0), .int .u8 (.ofNat 0)], none⟩]) 
 (.seq
  (.seq
  (.ops [⟨some 34, .mv (.c (.int .i64 (.ofNat 0))), none⟩]) 
 (.block 4 (.loop (.seq
  (.ops [⟨some 35, .bin .lss (.r 34) (.c (.int .i64 (.ofNat 32))), none⟩]) 
 (.seq
  (.cond (.r 35) .skip (.exit 4)) 
 (.seq
  (.block 5 (.seq
  (.ops [⟨some 36, .mv (.r 34), none⟩, ⟨some 6, .mv (.r 36), none⟩]) 
 (.ops [⟨some 37, .mv (.r 6), none⟩, ⟨some 38, .mv (.r 6), none⟩, ⟨some 39, .bin .quo (.r 38) (.c (.int .i64 (.ofNat 4))), none⟩, ⟨some 40, .fieldAt 0 (.r 3), none⟩, ⟨some 41, .indexArr 8 1 (.r 40) (.r 39), none⟩, ⟨some 42, .load1 (.r 41), none⟩, ⟨some 43, .mv (.r 6), none⟩, ⟨some 44, .bin .rem (.r 43) (.c (.int .i64 (.ofNat 4))), none⟩, ⟨some 45, .bin .mul (.r 44) (.c (.int .i64 (.ofNat 8))), none⟩, ⟨some 46, .bin .sub (.c (.int .i64 (.ofNat 24))) (.r 45), none⟩, ⟨some 47, .bin .shr (.r 42) (.r 46), none⟩, ⟨some 48, .toInt .u8 (.r 47), none⟩, ⟨some 49, .indexArr 32 1 (.r 5) (.r 37), none⟩, ⟨none, .store 1 (.r 49) (.r 48), none⟩]))) 
 (.ops [⟨some 50, .bin .add (.r 34) (.c (.int .i64 (.ofNat 1))), none⟩, ⟨some 34, .mv (.r 50), none⟩]))))))) 
 (.seq
  (.ops [⟨some 51, .loadN 32 (.r 5), none⟩, ⟨none, .store 32 (.r 2) (.r 51), none⟩]) 
 .ret))))))))⟩
def c68 : AF := ⟨8, [.reg 2], .seq
  (.ops [⟨some 2, .mv (.c (.int .i64 (.ofNat 0))), none⟩]) 
 (.seq
  (.cond (.c (.bool false)) (.seq
  (.ops [⟨some 3, .mv (.r 0), none⟩, ⟨some 4, .toInt .u32 (.r 3), none⟩, ⟨some 5, .call 95 [.r 4], none⟩, ⟨some 2, .mv (.r 5), none⟩]) 
 .ret) .skip) 
 (.seq
  (.ops [⟨some 6, .mv (.r 0), none⟩, ⟨some 7, .call 96 [.r 6], none⟩, ⟨some 2, .mv (.r 7), none⟩]) 
 .ret))⟩
def c69 : AF := ⟨9, [.cell 4 32 true], .seq
  (.ops [⟨some 2, .box 32 (.r 0), none⟩, ⟨some 3, .box 32 (.r 1), none⟩, ⟨some 4, .alloc [.int .u8 (.ofNat 0), .int .u8 (.ofNat 0), .int .u8 (.ofNat 0), .int .u8 (.ofNat 0), .int .u8 (.ofNat 0), .int .u8 (.ofNat 0), .int .u8 (.ofNat 0), .int .u8 (.ofNat 0), .int .u8 (.ofNat 0), .int .u8 (.ofNat 0), .int .u8 (.ofNat 0), .int .u8 (.ofNat 0), .int .u8 (.ofNat 0), .int .u8 (.ofNat 0), .int .u8 (.ofNat 0), .int .u8 (.ofNat 0), .int .u8 (.ofNat 0), .int .u8 (.ofNat 0), .int .u8 (.ofNat 0), .int .u8 (.ofNat 0), .int .u8 (.ofNat 0), .int .u8 (.ofNat 0), .int .u8 (.ofNat 0), .int .u8 (.ofNat 0), .int .u8 (.ofNat 0), .int .u8 (.ofNat 0), .int .u8 (.ofNat 0), .int .u8 (.ofNat 0), .int .u8 (.ofNat 0), .int .u8 (.ofNat 0), .int .u8 (.ofNat 0), .int .u8 (.ofNat 0)], none⟩]) 
 (.seq
  (.ops [⟨some 5, .loadN 32 (.r 2), none⟩, ⟨some 6, .loadN 32 (.r 3), none⟩, ⟨some 7, .call 72 [.r 5, .r 6], none⟩, ⟨some 8, .call 32 [.r 7], none⟩, ⟨none, .store 32 (.r 4) (.r 8), none⟩]) 
 .ret)⟩
end Go.Am
