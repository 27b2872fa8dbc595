/- Functions of the program, as the abstract machine has them: printed by a program of this claim's author out of the model's code. -/
import Derived.Test.YtiakcbnmagpabaaGreatDoorA0
namespace Go.Am
set_option maxRecDepth 100000
def c70 : AF := ⟨26, [.reg 4], .seq
  (.ops [⟨some 4, .mv (.c (.bool false)), none⟩]) 
 (.seq
  (.seq
  (.ops [⟨some 6, .mv (.r 0), none⟩, ⟨some 7, .len .slice (.r 6), none⟩, ⟨some 8, .mv (.r 1), none⟩, ⟨some 9, .len .slice (.r 8), none⟩, ⟨some 10, .bin .neq (.r 7) (.r 9), none⟩]) 
 (.cond (.r 10) (.seq
  (.ops [⟨some 4, .mv (.c (.bool false)), none⟩]) 
 .ret) .skip)) 
 (.seq
  (.seq
  (.ops [⟨some 11, .mv (.r 0), none⟩, ⟨some 12, .len .slice (.r 11), none⟩, ⟨some 13, .mv (.c (.int .i64 (.ofNat 0))), none⟩]) 
 (.block 0 (.loop (.seq
  (.ops [⟨some 14, .bin .lss (.r 13) (.r 12), none⟩]) 
 (.seq
  (.cond (.r 14) .skip (.exit 0)) 
 (.seq
  (.block 1 (.seq
  (.ops [⟨some 15, .mv (.r 13), none⟩, ⟨some 5, .mv (.r 15), none⟩]) 
 (.seq
  (.ops [⟨some 16, .mv (.r 0), none⟩, ⟨some 17, .mv (.r 5), none⟩, ⟨some 18, .indexSl 32 (.r 16) (.r 17), none⟩, ⟨some 19, .loadN 32 (.r 18), none⟩, ⟨some 20, .mv (.r 1), none⟩, ⟨some 21, .mv (.r 5), none⟩, ⟨some 22, .indexSl 32 (.r 20) (.r 21), none⟩, ⟨some 23, .loadN 32 (.r 22), none⟩, ⟨some 24, .eql true [.int .u8, .int .u8, .int .u8, .int .u8, .int .u8, .int .u8, .int .u8, .int .u8, .int .u8, .int .u8, .int .u8, .int .u8, .int .u8, .int .u8, .int .u8, .int .u8, .int .u8, .int .u8, .int .u8, .int .u8, .int .u8, .int .u8, .int .u8, .int .u8, .int .u8, .int .u8, .int .u8, .int .u8, .int .u8, .int .u8, .int .u8, .int .u8] true (.r 19) (.r 23), none⟩]) 
 (.cond (.r 24) (.seq
  (.ops [⟨some 4, .mv (.c (.bool false)), none⟩]) 
 .ret) .skip)))) 
 (.ops [⟨some 25, .bin .add (.r 13) (.c (.int .i64 (.ofNat 1))), none⟩, ⟨some 13, .mv (.r 25), none⟩]))))))) 
 (.seq
  (.ops [⟨some 4, .mv (.c (.bool true)), none⟩]) 
 .ret)))⟩
def c71 : AF := ⟨8, [.reg 2], .seq
  (.ops [⟨some 2, .mv (.c (.int .i64 (.ofNat 0))), none⟩]) 
 (.seq
  (.cond (.c (.bool false)) (.seq
  (.ops [⟨some 3, .mv (.r 0), none⟩, ⟨some 4, .toInt .u32 (.r 3), none⟩, ⟨some 5, .call 97 [.r 4], none⟩, ⟨some 2, .mv (.r 5), none⟩]) 
 .ret) .skip) 
 (.seq
  (.ops [⟨some 6, .mv (.r 0), none⟩, ⟨some 7, .call 98 [.r 6], none⟩, ⟨some 2, .mv (.r 7), none⟩]) 
 .ret))⟩
def c72 : AF := ⟨10, [.reg 4], .seq
  (.ops [⟨some 2, .box 32 (.r 0), none⟩, ⟨some 3, .box 32 (.r 1), none⟩, ⟨some 4, .mv (.c .nilslice), none⟩]) 
 (.seq
  (.ops [⟨some 5, .buildSlice 1 1 [.int .u8 (.ofNat 0)] [(0, (1, .c (.int .u8 (.ofNat 1))))], none⟩, ⟨some 6, .sliceArr 32 1 (.r 2) none none none, none⟩, ⟨some 7, .sliceArr 32 1 (.r 3) none none none, none⟩, ⟨some 8, .buildSlice 1 3 [.nilslice] [(0, (1, .r 5)), (1, (1, .r 6)), (2, (1, .r 7))], none⟩, ⟨some 9, .call 56 [.r 8], none⟩, ⟨some 4, .mv (.r 9), none⟩]) 
 .ret)⟩
def c73 : AF := ⟨9, [.reg 0], .seq
  (.ops [⟨some 0, .mv (.c .nilptr), none⟩]) 
 (.seq
  (.ops [⟨some 1, .mv (.c (.int .u64 (.ofNat 11400714785074694791))), none⟩]) 
 (.seq
  (.ops [⟨some 2, .mv (.r 1), none⟩, ⟨some 3, .bin .add (.r 2) (.c (.int .u64 (.ofNat 14029467366897019727))), none⟩, ⟨some 4, .mv (.r 1), none⟩, ⟨some 5, .un .neg (.r 4), none⟩, ⟨some 6, .build [.int .u64 (.ofNat 0), .int .u64 (.ofNat 0), .int .u64 (.ofNat 0), .int .u64 (.ofNat 0)] [(0, (1, .r 3)), (1, (1, .c (.int .u64 (.ofNat 14029467366897019727)))), (2, (1, .c (.int .u64 (.ofNat 0)))), (3, (1, .r 5))], none⟩, ⟨some 7, .build [.int .u64 (.ofNat 0), .int .u64 (.ofNat 0), .int .u64 (.ofNat 0), .int .u64 (.ofNat 0), .int .u8 (.ofNat 0), .int .u8 (.ofNat 0), .int .u8 (.ofNat 0), .int .u8 (.ofNat 0), .int .u8 (.ofNat 0), .int .u8 (.ofNat 0), .int .u8 (.ofNat 0), .int .u8 (.ofNat 0), .int .u8 (.ofNat 0), .int .u8 (.ofNat 0), .int .u8 (.ofNat 0), .int .u8 (.ofNat 0), .int .u8 (.ofNat 0), .int .u8 (.ofNat 0), .int .u8 (.ofNat 0), .int .u8 (.ofNat 0), .int .u8 (.ofNat 0), .int .u8 (.ofNat 0), .int .u8 (.ofNat 0), .int .u8 (.ofNat 0), .int .u8 (.ofNat 0), .int .u8 (.ofNat 0), .int .u8 (.ofNat 0), .int .u8 (.ofNat 0), .int .u8 (.ofNat 0), .int .u8 (.ofNat 0), .int .u8 (.ofNat 0), .int .u8 (.ofNat 0), .int .u8 (.ofNat 0), .int .u8 (.ofNat 0), .int .u8 (.ofNat 0), .int .u8 (.ofNat 0), .int .i64 (.ofNat 0), .int .u64 (.ofNat 0)] [(0, (4, .r 6))], none⟩, ⟨some 8, .box 38 (.r 7), none⟩, ⟨some 0, .mv (.r 8), none⟩]) 
 .ret))⟩
def c74 : AF := ⟨76, [], .seq
  (.seq
  (.ops [⟨some 6, .mv (.r 0), none⟩, ⟨some 7, .eqnil false 0 (.r 6) (.c .nilptr), none⟩]) 
 (.cond (.r 7) .ret .skip)) 
 (.seq
  (.ops [⟨some 8, .mv (.r 0), none⟩, ⟨some 9, .nilCheck (.r 8), none⟩, ⟨some 10, .fieldAt 37 (.r 9), none⟩, ⟨some 11, .load1 (.r 10), none⟩, ⟨some 12, .mv (.r 1), none⟩, ⟨some 13, .len .slice (.r 12), none⟩, ⟨some 14, .toInt .u64 (.r 13), none⟩, ⟨some 15, .bin .add (.r 11) (.r 14), none⟩, ⟨some 16, .nilCheck (.r 8), none⟩, ⟨some 17, .fieldAt 37 (.r 16), none⟩, ⟨none, .store 1 (.r 17) (.r 15), none⟩]) 
 (.block 0 (.loop (.seq
  (.seq
  (.ops [⟨some 18, .mv (.r 1), none⟩, ⟨some 19, .len .slice (.r 18), none⟩, ⟨some 20, .bin .gtr (.r 19) (.c (.int .i64 (.ofNat 0))), none⟩]) 
 (.cond (.r 20) .skip (.exit 0))) 
 (.block 1 (.seq
  (.ops [⟨some 21, .mv (.r 0), none⟩, ⟨some 22, .nilCheck (.r 21), none⟩, ⟨some 23, .fieldAt 4 (.r 22), none⟩, ⟨some 24, .mv (.r 0), none⟩, ⟨some 25, .nilCheck (.r 24), none⟩, ⟨some 26, .fieldAt 36 (.r 25), none⟩, ⟨some 27, .load1 (.r 26), none⟩, ⟨some 28, .sliceArr 32 1 (.r 23) (some (.r 27)) none none, none⟩, ⟨some 29, .mv (.r 1), none⟩, ⟨some 30, .copy 1 (.r 28) (.r 29), none⟩, ⟨some 4, .mv (.r 30), none⟩]) 
 (.seq
  (.ops [⟨some 31, .mv (.r 0), none⟩, ⟨some 32, .nilCheck (.r 31), none⟩, ⟨some 33, .fieldAt 36 (.r 32), none⟩, ⟨some 34, .load1 (.r 33), none⟩, ⟨some 35, .mv (.r 4), none⟩, ⟨some 36, .bin .add (.r 34) (.r 35), none⟩, ⟨some 37, .nilCheck (.r 31), none⟩, ⟨some 38, .fieldAt 36 (.r 37), none⟩, ⟨none, .store 1 (.r 38) (.r 36), none⟩]) 
 (.seq
  (.ops [⟨some 39, .mv (.r 1), none⟩, ⟨some 40, .mv (.r 4), none⟩, ⟨some 41, .sliceSl 1 true (.r 39) (some (.r 40)) none none, none⟩, ⟨some 1, .mv (.r 41), none⟩]) 
 (.seq
  (.ops [⟨some 42, .mv (.r 0), none⟩, ⟨some 43, .nilCheck (.r 42), none⟩, ⟨some 44, .fieldAt 36 (.r 43), none⟩, ⟨some 45, .load1 (.r 44), none⟩, ⟨some 46, .bin .eql (.r 45) (.c (.int .i64 (.ofNat 32))), none⟩]) 
 (.cond (.r 46) (.seq
  (.seq
  (.ops [⟨some 47, .mv (.c (.int .i64 (.ofNat 0))), none⟩]) 
 (.block 2 (.loop (.seq
  (.ops [⟨some 48, .bin .lss (.r 47) (.c (.int .i64 (.ofNat 4))), none⟩]) 
 (.seq
  (.cond (.r 48) .skip (.exit 2)) 
 (.seq
  (.block 3 (.seq
  (.ops [⟨some 49, .mv (.r 47), none⟩, ⟨some 5, .mv (.r 49), none⟩]) 
 (.multi [(0, ⟨some 50, .mv (.r 0), none⟩), (0, ⟨some 51, .mv (.r 5), none⟩), (0, ⟨some 52, .mv (.r 0), none⟩), (0, ⟨some 53, .mv (.r 5), none⟩), (0, ⟨some 54, .nilCheck (.r 52), none⟩), (0, ⟨some 55, .fieldAt 0 (.r 54), none⟩), (0, ⟨some 56, .indexArr 4 1 (.r 55) (.r 53), none⟩), (1, ⟨some 57, .load1 (.r 56), none⟩), (0, ⟨some 58, .mv (.r 0), none⟩), (0, ⟨some 59, .nilCheck (.r 58), none⟩), (0, ⟨some 60, .fieldAt 4 (.r 59), none⟩), (0, ⟨some 61, .mv (.r 5), none⟩), (0, ⟨some 62, .bin .mul (.c (.int .i64 (.ofNat 8))) (.r 61), none⟩), (0, ⟨some 63, .mv (.r 5), none⟩), (0, ⟨some 64, .bin .mul (.c (.int .i64 (.ofNat 8))) (.r 63), none⟩), (0, ⟨some 65, .bin .add (.r 64) (.c (.int .i64 (.ofNat 8))), none⟩), (0, ⟨some 66, .sliceArr 32 1 (.r 60) (some (.r 62)) (some (.r 65)) none, none⟩), (4, ⟨some 67, .call 100 [.r 66], none⟩), (5, ⟨some 68, .call 99 [.r 57, .r 67], none⟩), (0, ⟨some 69, .nilCheck (.r 50), none⟩), (0, ⟨some 70, .fieldAt 0 (.r 69), none⟩), (0, ⟨some 71, .indexArr 4 1 (.r 70) (.r 51), none⟩), (5, ⟨none, .store 1 (.r 71) (.r 68), none⟩)] [(7, 17)]))) 
 (.ops [⟨some 72, .bin .add (.r 47) (.c (.int .i64 (.ofNat 1))), none⟩, ⟨some 47, .mv (.r 72), none⟩]))))))) 
 (.ops [⟨some 73, .mv (.r 0), none⟩, ⟨some 74, .nilCheck (.r 73), none⟩, ⟨some 75, .fieldAt 36 (.r 74), none⟩, ⟨none, .store 1 (.r 75) (.c (.int .i64 (.ofNat 0))), none⟩])) .skip))))))))))⟩
def c75 : AF := ⟨81, [.reg 2], .seq
  (.ops [⟨some 2, .mv (.c (.int .u64 (.ofNat 0))), none⟩]) 
 (.seq
  (.seq
  (.ops [⟨some 7, .mv (.r 0), none⟩, ⟨some 8, .eqnil false 0 (.r 7) (.c .nilptr), none⟩]) 
 (.cond (.r 8) (.seq
  (.ops [⟨some 9, .call 38 [.c .nilslice], none⟩, ⟨some 2, .mv (.r 9), none⟩]) 
 .ret) .skip)) 
 (.seq
  (.multi [(0, ⟨some 10, .mv (.r 0), none⟩), (4, ⟨some 11, .call 101 [.r 10], none⟩), (0, ⟨some 12, .mv (.r 0), none⟩), (0, ⟨some 13, .nilCheck (.r 12), none⟩), (0, ⟨some 14, .fieldAt 37 (.r 13), none⟩), (1, ⟨some 15, .load1 (.r 14), none⟩), (0, ⟨some 16, .bin .add (.r 11) (.r 15), none⟩), (0, ⟨some 3, .mv (.r 16), none⟩)] [(1, 5)]) 
 (.seq
  (.ops [⟨some 17, .mv (.r 0), none⟩, ⟨some 18, .nilCheck (.r 17), none⟩, ⟨some 19, .fieldAt 4 (.r 18), none⟩, ⟨some 20, .mv (.r 0), none⟩, ⟨some 21, .nilCheck (.r 20), none⟩, ⟨some 22, .fieldAt 36 (.r 21), none⟩, ⟨some 23, .load1 (.r 22), none⟩, ⟨some 24, .sliceArr 32 1 (.r 19) none (some (.r 23)) none, none⟩, ⟨some 4, .mv (.r 24), none⟩]) 
 (.seq
  (.block 0 (.loop (.seq
  (.seq
  (.ops [⟨some 25, .mv (.r 4), none⟩, ⟨some 26, .len .slice (.r 25), none⟩, ⟨some 27, .bin .geq (.r 26) (.c (.int .i64 (.ofNat 8))), none⟩]) 
 (.cond (.r 27) .skip (.exit 0))) 
 (.block 1 (.seq
  (.ops [⟨some 28, .mv (.r 3), none⟩, ⟨some 29, .mv (.r 4), none⟩, ⟨some 30, .sliceSl 1 false (.r 29) none (some (.c (.int .i64 (.ofNat 8)))) none, none⟩, ⟨some 31, .call 100 [.r 30], none⟩, ⟨some 32, .call 99 [.c (.int .u64 (.ofNat 0)), .r 31], none⟩, ⟨some 33, .bin .xor (.r 28) (.r 32), none⟩, ⟨some 34, .call 102 [.r 33, .c (.int .i64 (.ofNat 27))], none⟩, ⟨some 35, .bin .mul (.r 34) (.c (.int .u64 (.ofNat 11400714785074694791))), none⟩, ⟨some 36, .bin .add (.r 35) (.c (.int .u64 (.ofNat 9650029242287828579))), none⟩, ⟨some 3, .mv (.r 36), none⟩]) 
 (.ops [⟨some 37, .mv (.r 4), none⟩, ⟨some 38, .sliceSl 1 true (.r 37) (some (.c (.int .i64 (.ofNat 8)))) none none, none⟩, ⟨some 4, .mv (.r 38), none⟩])))))) 
 (.seq
  (.seq
  (.ops [⟨some 39, .mv (.r 4), none⟩, ⟨some 40, .len .slice (.r 39), none⟩, ⟨some 41, .bin .geq (.r 40) (.c (.int .i64 (.ofNat 4))), none⟩]) 
 (.cond (.r 41) (.seq
  (.ops [⟨some 42, .mv (.r 3), none⟩, ⟨some 43, .mv (.r 4), none⟩, ⟨some 44, .sliceSl 1 false (.r 43) none (some (.c (.int .i64 (.ofNat 4)))) none, none⟩, ⟨some 45, .call 100 [.r 44], none⟩, ⟨some 46, .bin .mul (.r 45) (.c (.int .u64 (.ofNat 11400714785074694791))), none⟩, ⟨some 47, .bin .xor (.r 42) (.r 46), none⟩, ⟨some 48, .call 102 [.r 47, .c (.int .i64 (.ofNat 23))], none⟩, ⟨some 49, .bin .mul (.r 48) (.c (.int .u64 (.ofNat 14029467366897019727))), none⟩, ⟨some 50, .bin .add (.r 49) (.c (.int .u64 (.ofNat 1609587929392839161))), none⟩, ⟨some 3, .mv (.r 50), none⟩]) 
 (.ops [⟨some 51, .mv (.r 4), none⟩, ⟨some 52, .sliceSl 1 true (.r 51) (some (.c (.int .i64 (.ofNat 4)))) none none, none⟩, ⟨some 4, .mv (.r 52), none⟩])) .skip)) 
 (.seq
  (.seq
  (.ops [⟨some 53, .mv (.r 4), none⟩, ⟨some 54, .len .slice (.r 53), none⟩, ⟨some 55, .mv (.c (.int .i64 (.ofNat 0))), none⟩]) 
 (.block 2 (.loop (.seq
  (.ops [⟨some 56, .bin .lss (.r 55) (.r 54), none⟩]) 
 (.seq
  (.cond (.r 56) .skip (.exit 2)) 
 (.seq
  (.block 3 (.seq
  (.ops [⟨some 57, .indexSl 1 (.r 53) (.r 55), none⟩, ⟨some 58, .load1 (.r 57), none⟩, ⟨some 6, .mv (.r 58), none⟩]) 
 (.ops [⟨some 59, .mv (.r 3), none⟩, ⟨some 60, .mv (.r 6), none⟩, ⟨some 61, .toInt .u64 (.r 60), none⟩, ⟨some 62, .bin .mul (.r 61) (.c (.int .u64 (.ofNat 2870177450012600261))), none⟩, ⟨some 63, .bin .xor (.r 59) (.r 62), none⟩, ⟨some 64, .call 102 [.r 63, .c (.int .i64 (.ofNat 11))], none⟩, ⟨some 65, .bin .mul (.r 64) (.c (.int .u64 (.ofNat 11400714785074694791))), none⟩, ⟨some 3, .mv (.r 65), none⟩]))) 
 (.ops [⟨some 66, .bin .add (.r 55) (.c (.int .i64 (.ofNat 1))), none⟩, ⟨some 55, .mv (.r 66), none⟩]))))))) 
 (.seq
  (.ops [⟨some 67, .mv (.r 3), none⟩, ⟨some 68, .mv (.r 3), none⟩, ⟨some 69, .bin .shr (.r 68) (.c (.int .u64 (.ofNat 33))), none⟩, ⟨some 70, .bin .xor (.r 67) (.r 69), none⟩, ⟨some 71, .bin .mul (.r 70) (.c (.int .u64 (.ofNat 14029467366897019727))), none⟩, ⟨some 3, .mv (.r 71), none⟩]) 
 (.seq
  (.ops [⟨some 72, .mv (.r 3), none⟩, ⟨some 73, .mv (.r 3), none⟩, ⟨some 74, .bin .shr (.r 73) (.c (.int .u64 (.ofNat 29))), none⟩, ⟨some 75, .bin .xor (.r 72) (.r 74), none⟩, ⟨some 76, .bin .mul (.r 75) (.c (.int .u64 (.ofNat 1609587929392839161))), none⟩, ⟨some 3, .mv (.r 76), none⟩]) 
 (.seq
  (.ops [⟨some 77, .mv (.r 3), none⟩, ⟨some 78, .mv (.r 3), none⟩, ⟨some 79, .bin .shr (.r 78) (.c (.int .u64 (.ofNat 32))), none⟩, ⟨some 80, .bin .xor (.r 77) (.r 79), none⟩, ⟨some 2, .mv (.r 80), none⟩]) 
 .ret)))))))))⟩
def c76 : AF := ⟨10, [.reg 2], .seq
  (.ops [⟨some 2, .mv (.c (.int .i64 (.ofNat 0))), none⟩]) 
 (.seq
  (.seq
  (.ops [⟨some 3, .mv (.r 0), none⟩, ⟨some 4, .eqnil false 0 (.r 3) (.c .nilptr), none⟩]) 
 (.cond (.r 4) (.seq
  (.ops [⟨some 2, .mv (.c (.int .i64 (.ofNat 0))), none⟩]) 
 .ret) .skip)) 
 (.seq
  (.ops [⟨some 5, .mv (.r 0), none⟩, ⟨some 6, .nilCheck (.r 5), none⟩, ⟨some 7, .fieldAt 0 (.r 6), none⟩, ⟨some 8, .load1 (.r 7), none⟩, ⟨some 9, .len .slice (.r 8), none⟩, ⟨some 2, .mv (.r 9), none⟩]) 
 .ret))⟩
def c77 : AF := ⟨9, [.reg 2], .seq
  (.ops [⟨some 2, .mv (.c (.int .i64 (.ofNat 0))), none⟩]) 
 (.seq
  (.seq
  (.ops [⟨some 3, .mv (.r 0), none⟩, ⟨some 4, .eqnil false 0 (.r 3) (.c .nilptr), none⟩]) 
 (.cond (.r 4) (.seq
  (.ops [⟨some 2, .mv (.c (.int .i64 (.ofNat 1))), none⟩]) 
 .ret) .skip)) 
 (.seq
  (.ops [⟨some 5, .mv (.r 0), none⟩, ⟨some 6, .nilCheck (.r 5), none⟩, ⟨some 7, .fieldAt 1 (.r 6), none⟩, ⟨some 8, .load1 (.r 7), none⟩, ⟨some 2, .mv (.r 8), none⟩]) 
 .ret))⟩
def c78 : AF := ⟨125, [.reg 2], .seq
  (.ops [⟨some 2, .mv (.c (.int .i64 (.ofNat 0))), none⟩]) 
 (.seq
  (.multi [(0, ⟨some 11, .mv (.r 0), none⟩), (0, ⟨some 12, .nilCheck (.r 11), none⟩), (0, ⟨some 13, .fieldAt 0 (.r 12), none⟩), (1, ⟨some 14, .load1 (.r 13), none⟩), (0, ⟨some 15, .mv (.r 0), none⟩), (0, ⟨some 16, .nilCheck (.r 15), none⟩), (0, ⟨some 17, .fieldAt 0 (.r 16), none⟩), (5, ⟨some 18, .load1 (.r 17), none⟩), (4, ⟨some 19, .call 76 [.r 18], none⟩), (5, ⟨some 20, .call 50 [.r 14, .r 19], none⟩), (0, ⟨some 3, .mv (.r 20), none⟩)] [(3, 8)]) 
 (.seq
  (.ops [⟨some 22, .mv (.r 3), none⟩, ⟨some 23, .call 103 [.r 22], none⟩, ⟨some 21, .mv (.r 23), none⟩, ⟨some 24, .extract 0 (.r 21), none⟩, ⟨some 25, .extract 1 (.r 21), none⟩, ⟨some 26, .extract 2 (.r 21), none⟩, ⟨some 4, .alloc [.int .u64 (.ofNat 0), .int .u64 (.ofNat 0), .bool false, .bool false], none⟩, ⟨none, .store 4 (.r 4) (.r 24), none⟩, ⟨some 5, .mv (.r 25), none⟩, ⟨some 6, .mv (.r 26), none⟩]) 
 (.seq
  (.seq
  (.ops [⟨some 27, .mv (.r 6), none⟩, ⟨some 28, .bin .neq (.r 27) (.c (.int .i64 (.ofNat 0))), none⟩]) 
 (.cond (.r 28) (.seq
  (.ops [⟨some 29, .mv (.r 6), none⟩, ⟨some 2, .mv (.r 29), none⟩]) 
 .ret) .skip)) 
 (.seq
  (.ops [⟨some 30, .mv (.r 0), none⟩, ⟨some 31, .mv (.r 3), none⟩, ⟨some 32, .mv (.r 5), none⟩, ⟨some 33, .sliceSl 1 true (.r 31) (some (.r 32)) none none, none⟩, ⟨some 34, .call 47 [.r 33], none⟩, ⟨some 35, .nilCheck (.r 30), none⟩, ⟨some 36, .fieldAt 0 (.r 35), none⟩, ⟨none, .store 1 (.r 36) (.r 34), none⟩]) 
 (.seq
  (.seq
  (.ops [⟨some 37, .fieldAt 0 (.r 4), none⟩, ⟨some 38, .load1 (.r 37), none⟩, ⟨some 39, .mv (.r 0), none⟩, ⟨some 40, .nilCheck (.r 39), none⟩, ⟨some 41, .fieldAt 1 (.r 40), none⟩, ⟨some 42, .load1 (.r 41), none⟩, ⟨some 43, .bin .gtr (.r 38) (.r 42), none⟩, ⟨some 44, .mv (.r 43), none⟩, ⟨some 45, .fieldAt 2 (.r 4), some (44, false)⟩, ⟨some 46, .load1 (.r 45), some (44, false)⟩, ⟨some 47, .mv (.r 46), some (44, false)⟩, ⟨some 48, .fieldAt 1 (.r 4), some (47, true)⟩, ⟨some 49, .load1 (.r 48), some (47, true)⟩, ⟨some 50, .mv (.r 0), some (47, true)⟩, ⟨some 51, .nilCheck (.r 50), some (47, true)⟩, ⟨some 52, .fieldAt 2 (.r 51), some (47, true)⟩, ⟨some 53, .load1 (.r 52), some (47, true)⟩, ⟨some 54, .mv (.r 0), some (47, true)⟩, ⟨some 55, .nilCheck (.r 54), some (47, true)⟩, ⟨some 56, .fieldAt 3 (.r 55), some (47, true)⟩, ⟨some 57, .load1 (.r 56), some (47, true)⟩, ⟨some 58, .len .slice (.r 57), some (47, true)⟩, ⟨some 59, .bin .sub (.r 53) (.r 58), some (47, true)⟩, ⟨some 60, .toInt .u64 (.r 59), some (47, true)⟩, ⟨some 61, .bin .gtr (.r 49) (.r 60), some (47, true)⟩, ⟨some 62, .pick (.r 47) (.r 61) (.c (.bool false)), some (44, false)⟩, ⟨some 63, .pick (.r 44) (.c (.bool true)) (.r 62), none⟩]) 
 (.cond (.r 63) (.seq
  (.ops [⟨some 2, .mv (.c (.int .i64 (.ofNat 12))), none⟩]) 
 .ret) .skip)) 
 (.seq
  (.ops [⟨some 64, .call 81 [], none⟩, ⟨some 65, .build [.nilslice, .int .i64 (.ofNat 0), .nilslice, .int .i64 (.ofNat 0), .nilslice, .int .i64 (.ofNat 0), .nilslice, .int .u32 (.ofNat 0), .int .u32 (.ofNat 0), .int .u32 (.ofNat 0)] [(7, (3, .r 64))], none⟩, ⟨some 7, .alloc [.nilslice, .int .i64 (.ofNat 0), .nilslice, .int .i64 (.ofNat 0), .nilslice, .int .i64 (.ofNat 0), .nilslice, .int .u32 (.ofNat 0), .int .u32 (.ofNat 0), .int .u32 (.ofNat 0)], none⟩, ⟨none, .store 10 (.r 7) (.r 65), none⟩]) 
 (.seq
  (.ops [⟨some 8, .mv (.c .nilslice), none⟩]) 
 (.seq
  .skip 
 (.seq
  (.block 0 (.loop (.block 1 (.seq
  (.ops [⟨some 9, .mv (.c (.bool false)), none⟩]) 
 (.seq
  (.seq
  (.ops [⟨some 67, .mv (.r 0), none⟩, ⟨some 68, .mv (.r 8), none⟩, ⟨some 69, .loadN 10 (.r 7), none⟩, ⟨some 70, .fieldAt 0 (.r 4), none⟩, ⟨some 71, .load1 (.r 70), none⟩, ⟨some 72, .call 104 [.r 67, .r 68, .r 69, .r 71], none⟩, ⟨some 66, .mv (.r 72), none⟩, ⟨some 73, .extract 0 (.r 66), none⟩, ⟨some 74, .extract 1 (.r 66), none⟩, ⟨some 75, .extract 2 (.r 66), none⟩, ⟨some 76, .extract 3 (.r 66), none⟩, ⟨some 8, .mv (.r 73), none⟩, ⟨none, .store 10 (.r 7) (.r 74), none⟩, ⟨some 9, .mv (.r 75), none⟩, ⟨some 6, .mv (.r 76), none⟩]) 
 (.seq
  (.ops [⟨some 77, .mv (.r 6), none⟩, ⟨some 78, .bin .neq (.r 77) (.c (.int .i64 (.ofNat 0))), none⟩]) 
 (.cond (.r 78) (.seq
  (.ops [⟨some 79, .mv (.r 6), none⟩, ⟨some 2, .mv (.r 79), none⟩]) 
 .ret) .skip))) 
 (.seq
  (.seq
  (.ops [⟨some 80, .fieldAt 2 (.r 4), none⟩, ⟨some 81, .load1 (.r 80), none⟩, ⟨some 82, .mv (.r 81), none⟩, ⟨some 83, .mv (.r 8), some (82, true)⟩, ⟨some 84, .len .slice (.r 83), some (82, true)⟩, ⟨some 85, .toInt .u64 (.r 84), some (82, true)⟩, ⟨some 86, .fieldAt 1 (.r 4), some (82, true)⟩, ⟨some 87, .load1 (.r 86), some (82, true)⟩, ⟨some 88, .bin .gtr (.r 85) (.r 87), some (82, true)⟩, ⟨some 89, .pick (.r 82) (.r 88) (.c (.bool false)), none⟩]) 
 (.cond (.r 89) (.seq
  (.ops [⟨some 2, .mv (.c (.int .i64 (.ofNat 11))), none⟩]) 
 .ret) .skip)) 
 (.seq
  (.ops [⟨some 90, .mv (.r 9), none⟩]) 
 (.cond (.r 90) (.exit 0) .skip)))))))) 
 (.seq
  (.seq
  (.ops [⟨some 91, .fieldAt 2 (.r 4), none⟩, ⟨some 92, .load1 (.r 91), none⟩, ⟨some 93, .mv (.r 92), none⟩, ⟨some 94, .mv (.r 8), some (93, true)⟩, ⟨some 95, .len .slice (.r 94), some (93, true)⟩, ⟨some 96, .toInt .u64 (.r 95), some (93, true)⟩, ⟨some 97, .fieldAt 1 (.r 4), some (93, true)⟩, ⟨some 98, .load1 (.r 97), some (93, true)⟩, ⟨some 99, .bin .neq (.r 96) (.r 98), some (93, true)⟩, ⟨some 100, .pick (.r 93) (.r 99) (.c (.bool false)), none⟩]) 
 (.cond (.r 100) (.seq
  (.ops [⟨some 2, .mv (.c (.int .i64 (.ofNat 11))), none⟩]) 
 .ret) .skip)) 
 (.seq
  (.seq
  (.ops [⟨some 101, .fieldAt 3 (.r 4), none⟩, ⟨some 102, .load1 (.r 101), none⟩]) 
 (.cond (.r 102) (.seq
  (.ops [⟨some 103, .mv (.r 0), none⟩, ⟨some 104, .mv (.r 8), none⟩, ⟨some 105, .call 105 [.r 103, .r 104], none⟩, ⟨some 10, .mv (.r 105), none⟩]) 
 (.seq
  (.ops [⟨some 106, .mv (.r 10), none⟩, ⟨some 107, .bin .neq (.r 106) (.c (.int .i64 (.ofNat 0))), none⟩]) 
 (.cond (.r 107) (.seq
  (.ops [⟨some 108, .mv (.r 10), none⟩, ⟨some 2, .mv (.r 108), none⟩]) 
 .ret) .skip))) .skip)) 
 (.seq
  (.ops [⟨some 109, .mv (.r 0), none⟩, ⟨some 110, .mv (.r 0), none⟩, ⟨some 111, .nilCheck (.r 110), none⟩, ⟨some 112, .fieldAt 3 (.r 111), none⟩, ⟨some 113, .load1 (.r 112), none⟩, ⟨some 114, .mv (.r 8), none⟩, ⟨some 115, .append 1 1 (.r 113) (.r 114), none⟩, ⟨some 116, .nilCheck (.r 109), none⟩, ⟨some 117, .fieldAt 3 (.r 116), none⟩, ⟨none, .store 1 (.r 117) (.r 115), none⟩]) 
 (.seq
  (.ops [⟨some 118, .mv (.r 0), none⟩, ⟨some 119, .nilCheck (.r 118), none⟩, ⟨some 120, .fieldAt 4 (.r 119), none⟩, ⟨some 121, .load1 (.r 120), none⟩, ⟨some 122, .bin .add (.r 121) (.c (.int .i64 (.ofNat 1))), none⟩, ⟨some 123, .nilCheck (.r 118), none⟩, ⟨some 124, .fieldAt 4 (.r 123), none⟩, ⟨none, .store 1 (.r 124) (.r 122), none⟩]) 
 (.seq
  (.ops [⟨some 2, .mv (.c (.int .i64 (.ofNat 0))), none⟩]) 
 .ret))))))))))))))⟩
def c79 : AF := ⟨39, [.reg 2], .seq
  (.ops [⟨some 2, .mv (.c (.int .i64 (.ofNat 0))), none⟩]) 
 (.seq
  (.ops [⟨some 4, .mv (.r 0), none⟩, ⟨some 5, .nilCheck (.r 4), none⟩, ⟨some 6, .fieldAt 0 (.r 5), none⟩, ⟨some 7, .load1 (.r 6), none⟩, ⟨some 8, .call 49 [.r 7, .c (.int .i64 (.ofNat 4))], none⟩, ⟨some 3, .mv (.r 8), none⟩]) 
 (.seq
  (.seq
  (.ops [⟨some 9, .mv (.r 0), none⟩, ⟨some 10, .nilCheck (.r 9), none⟩, ⟨some 11, .fieldAt 0 (.r 10), none⟩, ⟨some 12, .load1 (.r 11), none⟩, ⟨some 13, .call 77 [.r 12], none⟩, ⟨some 14, .bin .neq (.r 13) (.c (.int .i64 (.ofNat 0))), none⟩, ⟨some 15, .mv (.r 14), none⟩, ⟨some 16, .mv (.r 3), some (15, false)⟩, ⟨some 17, .mv (.r 0), some (15, false)⟩, ⟨some 18, .nilCheck (.r 17), some (15, false)⟩, ⟨some 19, .fieldAt 0 (.r 18), some (15, false)⟩, ⟨some 20, .load1 (.r 19), some (15, false)⟩, ⟨some 21, .call 76 [.r 20], some (15, false)⟩, ⟨some 22, .toInt .u64 (.r 21), some (15, false)⟩, ⟨some 23, .bin .gtr (.r 16) (.r 22), some (15, false)⟩, ⟨some 24, .pick (.r 15) (.c (.bool true)) (.r 23), none⟩]) 
 (.cond (.r 24) (.seq
  (.ops [⟨some 2, .mv (.c (.int .i64 (.ofNat 10))), none⟩]) 
 .ret) .skip)) 
 (.seq
  (.ops [⟨some 25, .mv (.r 0), none⟩, ⟨some 26, .nilCheck (.r 25), none⟩, ⟨some 27, .fieldAt 0 (.r 26), none⟩, ⟨some 28, .load1 (.r 27), none⟩, ⟨some 29, .mv (.r 3), none⟩, ⟨some 30, .toInt .i64 (.r 29), none⟩, ⟨some 31, .call 50 [.r 28, .r 30], none⟩]) 
 (.seq
  (.ops [⟨some 32, .mv (.r 0), none⟩, ⟨some 33, .nilCheck (.r 32), none⟩, ⟨some 34, .fieldAt 5 (.r 33), none⟩, ⟨some 35, .load1 (.r 34), none⟩, ⟨some 36, .bin .add (.r 35) (.c (.int .i64 (.ofNat 1))), none⟩, ⟨some 37, .nilCheck (.r 32), none⟩, ⟨some 38, .fieldAt 5 (.r 37), none⟩, ⟨none, .store 1 (.r 38) (.r 36), none⟩]) 
 (.seq
  (.ops [⟨some 2, .mv (.c (.int .i64 (.ofNat 0))), none⟩]) 
 .ret)))))⟩
def c80 : AF := ⟨41, [.reg 4], .seq
  (.ops [⟨some 4, .mv (.c .nilslice), none⟩]) 
 (.seq
  (.ops [⟨some 5, .mv (.c (.int .u64 (.ofNat 32))), none⟩, ⟨some 6, .mv (.c (.int .i64 (.ofNat 1))), none⟩, ⟨some 7, .mv (.c (.int .u64 (.ofNat 0))), none⟩]) 
 (.seq
  (.block 0 (.seq
  (.ops [⟨some 12, .mv (.r 0), none⟩, ⟨some 13, .bin .lss (.r 12) (.c (.int .u64 (.ofNat 256))), none⟩, ⟨some 11, .mv (.r 13), none⟩]) 
 (.cond (.r 11) .skip (.seq
  (.ops [⟨some 15, .mv (.r 0), none⟩, ⟨some 16, .bin .lss (.r 15) (.c (.int .u64 (.ofNat 65792))), none⟩, ⟨some 14, .mv (.r 16), none⟩]) 
 (.cond (.r 14) (.ops [⟨some 17, .mv (.r 5), none⟩, ⟨some 18, .bin .or (.r 17) (.c (.int .u64 (.ofNat 64))), none⟩, ⟨some 5, .mv (.r 18), none⟩, ⟨some 6, .mv (.c (.int .i64 (.ofNat 2))), none⟩, ⟨some 7, .mv (.c (.int .u64 (.ofNat 256))), none⟩]) (.seq
  (.ops [⟨some 20, .mv (.r 0), none⟩, ⟨some 21, .bin .lss (.r 20) (.c (.int .u64 (.ofNat 4294967296))), none⟩, ⟨some 19, .mv (.r 21), none⟩]) 
 (.cond (.r 19) (.ops [⟨some 22, .mv (.r 5), none⟩, ⟨some 23, .bin .or (.r 22) (.c (.int .u64 (.ofNat 128))), none⟩, ⟨some 5, .mv (.r 23), none⟩, ⟨some 6, .mv (.c (.int .i64 (.ofNat 4))), none⟩]) (.ops [⟨some 9, .mv (.r 5), none⟩, ⟨some 10, .bin .or (.r 9) (.c (.int .u64 (.ofNat 192))), none⟩, ⟨some 5, .mv (.r 10), none⟩, ⟨some 6, .mv (.c (.int .i64 (.ofNat 8))), none⟩])))))))) 
 (.seq
  (.seq
  (.ops [⟨some 24, .mv (.r 1), none⟩]) 
 (.cond (.r 24) (.ops [⟨some 25, .mv (.r 5), none⟩, ⟨some 26, .bin .or (.r 25) (.c (.int .u64 (.ofNat 4))), none⟩, ⟨some 5, .mv (.r 26), none⟩]) .skip)) 
 (.seq
  (.ops [⟨some 27, .call 43 [], none⟩, ⟨some 8, .mv (.r 27), none⟩]) 
 (.seq
  (.ops [⟨some 28, .mv (.r 8), none⟩, ⟨some 29, .call 44 [.r 28, .c (.int .u64 (.ofNat 4247762216)), .c (.int .i64 (.ofNat 4))], none⟩]) 
 (.seq
  (.ops [⟨some 30, .mv (.r 8), none⟩, ⟨some 31, .mv (.r 5), none⟩, ⟨some 32, .call 44 [.r 30, .r 31, .c (.int .i64 (.ofNat 1))], none⟩]) 
 (.seq
  (.ops [⟨some 33, .mv (.r 8), none⟩, ⟨some 34, .mv (.r 0), none⟩, ⟨some 35, .mv (.r 7), none⟩, ⟨some 36, .bin .sub (.r 34) (.r 35), none⟩, ⟨some 37, .mv (.r 6), none⟩, ⟨some 38, .call 44 [.r 33, .r 36, .r 37], none⟩]) 
 (.seq
  (.ops [⟨some 39, .mv (.r 8), none⟩, ⟨some 40, .call 46 [.r 39], none⟩, ⟨some 4, .mv (.r 40), none⟩]) 
 .ret))))))))⟩
def c81 : AF := ⟨2, [.cell 0 3 true], .seq
  (.ops [⟨some 0, .alloc [.int .u32 (.ofNat 0), .int .u32 (.ofNat 0), .int .u32 (.ofNat 0)], none⟩]) 
 (.seq
  (.ops [⟨some 1, .build [.int .u32 (.ofNat 0), .int .u32 (.ofNat 0), .int .u32 (.ofNat 0)] [(0, (1, .c (.int .u32 (.ofNat 1)))), (1, (1, .c (.int .u32 (.ofNat 4)))), (2, (1, .c (.int .u32 (.ofNat 8))))], none⟩, ⟨none, .store 3 (.r 0) (.r 1), none⟩]) 
 .ret)⟩
def c82 : AF := ⟨76, [.reg 10, .cell 11 3 true, .reg 12], .seq
  (.ops [⟨some 9, .box 3 (.r 4), none⟩, ⟨some 10, .mv (.c .nilslice), none⟩, ⟨some 11, .alloc [.int .u32 (.ofNat 0), .int .u32 (.ofNat 0), .int .u32 (.ofNat 0)], none⟩, ⟨some 12, .mv (.c (.int .i64 (.ofNat 0))), none⟩]) 
 (.seq
  (.ops [⟨some 21, .mv (.r 0), none⟩, ⟨some 22, .mv (.r 1), none⟩, ⟨some 23, .mv (.r 2), none⟩, ⟨some 24, .sliceSl 1 true (.r 21) (some (.r 22)) (some (.r 23)) none, none⟩, ⟨some 13, .mv (.r 24), none⟩]) 
 (.seq
  (.ops [⟨some 25, .mv (.r 2), none⟩, ⟨some 26, .mv (.r 0), none⟩, ⟨some 27, .len .slice (.r 26), none⟩, ⟨some 28, .bin .eql (.r 25) (.r 27), none⟩, ⟨some 29, .mv (.r 13), none⟩, ⟨some 30, .len .slice (.r 29), none⟩, ⟨some 31, .build [.bool false, .int .i64 (.ofNat 0), .int .i64 (.ofNat 0)] [(0, (1, .r 28)), (1, (1, .c (.int .i64 (.ofNat 0)))), (2, (1, .r 30))], none⟩, ⟨some 14, .alloc [.bool false, .int .i64 (.ofNat 0), .int .i64 (.ofNat 0)], none⟩, ⟨none, .store 3 (.r 14) (.r 31), none⟩]) 
 (.seq
  (.ops [⟨some 32, .mv (.r 13), none⟩, ⟨some 15, .mv (.r 32), none⟩]) 
 (.seq
  (.seq
  (.ops [⟨some 33, .mv (.r 13), none⟩, ⟨some 34, .call 106 [.r 33], none⟩]) 
 (.cond (.r 34) (.multi [(0, ⟨some 35, .mv (.r 13), none⟩), (1, ⟨some 36, .sliceSl 1 false (.r 35) none (some (.c (.int .i64 (.ofNat 1)))) none, none⟩), (0, ⟨some 37, .fieldAt 1 (.r 14), none⟩), (3, ⟨none, .store 1 (.r 37) (.c (.int .i64 (.ofNat 1))), none⟩), (0, ⟨some 15, .mv (.r 36), none⟩)] [(1, 3)]) (.seq
  (.ops [⟨some 39, .mv (.r 0), none⟩, ⟨some 40, .mv (.r 1), none⟩, ⟨some 41, .mv (.r 2), none⟩, ⟨some 42, .mv (.r 3), none⟩, ⟨some 43, .loadN 3 (.r 9), none⟩, ⟨some 44, .call 107 [.r 39, .r 40, .r 41, .r 42, .r 43], none⟩, ⟨some 38, .mv (.r 44), none⟩, ⟨some 45, .extract 0 (.r 38), none⟩, ⟨some 46, .extract 1 (.r 38), none⟩, ⟨some 47, .extract 2 (.r 38), none⟩, ⟨some 17, .alloc [.int .u32 (.ofNat 0), .int .u32 (.ofNat 0), .int .u32 (.ofNat 0)], none⟩, ⟨some 16, .mv (.r 45), none⟩, ⟨none, .store 3 (.r 17) (.r 46), none⟩, ⟨some 18, .mv (.r 47), none⟩]) 
 (.seq
  (.ops [⟨some 48, .mv (.r 18), none⟩, ⟨some 49, .bin .eql (.r 48) (.c (.int .i64 (.ofNat 0))), none⟩, ⟨some 50, .mv (.r 49), none⟩, ⟨some 51, .mv (.r 16), some (50, true)⟩, ⟨some 52, .len .slice (.r 51), some (50, true)⟩, ⟨some 53, .mv (.r 13), some (50, true)⟩, ⟨some 54, .len .slice (.r 53), some (50, true)⟩, ⟨some 55, .bin .lss (.r 52) (.r 54), some (50, true)⟩, ⟨some 56, .pick (.r 50) (.r 55) (.c (.bool false)), none⟩]) 
 (.cond (.r 56) (.multi [(0, ⟨some 57, .mv (.r 16), none⟩), (0, ⟨some 58, .len .slice (.r 57), none⟩), (0, ⟨some 59, .mv (.r 16), none⟩), (1, ⟨some 60, .loadN 3 (.r 17), none⟩), (0, ⟨some 61, .fieldAt 1 (.r 14), none⟩), (3, ⟨none, .store 1 (.r 61) (.c (.int .i64 (.ofNat 2))), none⟩), (0, ⟨some 62, .fieldAt 2 (.r 14), none⟩), (3, ⟨none, .store 1 (.r 62) (.r 58), none⟩), (0, ⟨some 15, .mv (.r 59), none⟩), (5, ⟨none, .store 3 (.r 9) (.r 60), none⟩)] [(3, 5), (3, 7)]) .skip))))) 
 (.seq
  (.ops [⟨some 64, .loadN 3 (.r 14), none⟩, ⟨some 65, .call 108 [.r 64], none⟩, ⟨some 63, .mv (.r 65), none⟩, ⟨some 66, .extract 0 (.r 63), none⟩, ⟨some 67, .extract 1 (.r 63), none⟩, ⟨some 19, .mv (.r 66), none⟩, ⟨some 20, .mv (.r 67), none⟩]) 
 (.seq
  (.seq
  (.ops [⟨some 68, .mv (.r 20), none⟩, ⟨some 69, .bin .neq (.r 68) (.c (.int .i64 (.ofNat 0))), none⟩]) 
 (.cond (.r 69) (.seq
  (.ops [⟨some 70, .loadN 3 (.r 9), none⟩, ⟨some 71, .mv (.r 20), none⟩, ⟨some 10, .mv (.c .nilslice), none⟩, ⟨none, .store 3 (.r 11) (.r 70), none⟩, ⟨some 12, .mv (.r 71), none⟩]) 
 .ret) .skip)) 
 (.seq
  (.multi [(0, ⟨some 72, .mv (.r 19), none⟩), (0, ⟨some 73, .mv (.r 15), none⟩), (3, ⟨some 74, .append 1 1 (.r 72) (.r 73), none⟩), (1, ⟨some 75, .loadN 3 (.r 9), none⟩), (0, ⟨some 10, .mv (.r 74), none⟩), (5, ⟨none, .store 3 (.r 11) (.r 75), none⟩), (0, ⟨some 12, .mv (.c (.int .i64 (.ofNat 0))), none⟩)] [(2, 3)]) 
 .ret)))))))⟩
def c83 : AF := ⟨3, [.reg 0], .seq
  (.ops [⟨some 0, .mv (.c .nilptr), none⟩]) 
 (.seq
  (.ops [⟨some 1, .build [.int .u32 (.ofNat 0)] [(0, (1, .c (.int .u32 (.ofNat 4294967295))))], none⟩, ⟨some 2, .box 1 (.r 1), none⟩, ⟨some 0, .mv (.r 2), none⟩]) 
 .ret)⟩
def c84 : AF := ⟨56, [], .seq
  (.seq
  (.ops [⟨some 6, .mv (.r 0), none⟩, ⟨some 7, .eqnil false 0 (.r 6) (.c .nilptr), none⟩]) 
 (.cond (.r 7) .ret .skip)) 
 (.seq
  (.ops [⟨some 8, .mv (.r 1), none⟩, ⟨some 9, .len .slice (.r 8), none⟩, ⟨some 10, .mv (.c (.int .i64 (.ofNat 0))), none⟩]) 
 (.block 0 (.loop (.seq
  (.ops [⟨some 11, .bin .lss (.r 10) (.r 9), none⟩]) 
 (.seq
  (.cond (.r 11) .skip (.exit 0)) 
 (.seq
  (.block 1 (.seq
  (.ops [⟨some 12, .indexSl 1 (.r 8) (.r 10), none⟩, ⟨some 13, .load1 (.r 12), none⟩, ⟨some 5, .mv (.r 13), none⟩]) 
 (.seq
  (.ops [⟨some 14, .mv (.r 0), none⟩, ⟨some 15, .nilCheck (.r 14), none⟩, ⟨some 16, .fieldAt 0 (.r 15), none⟩, ⟨some 17, .load1 (.r 16), none⟩, ⟨some 18, .mv (.r 5), none⟩, ⟨some 19, .toInt .u32 (.r 18), none⟩, ⟨some 20, .bin .xor (.r 17) (.r 19), none⟩, ⟨some 21, .nilCheck (.r 14), none⟩, ⟨some 22, .fieldAt 0 (.r 21), none⟩, ⟨none, .store 1 (.r 22) (.r 20), none⟩]) 
 (.seq
  (.ops [⟨some 23, .mv (.r 0), none⟩, ⟨some 24, .mv (.r 0), none⟩, ⟨some 25, .nilCheck (.r 24), none⟩, ⟨some 26, .fieldAt 0 (.r 25), none⟩, ⟨some 27, .load1 (.r 26), none⟩, ⟨some 28, .bin .shr (.r 27) (.c (.int .u64 (.ofNat 4))), none⟩, ⟨some 29, .mv (.r 0), none⟩, ⟨some 30, .nilCheck (.r 29), none⟩, ⟨some 31, .fieldAt 0 (.r 30), none⟩, ⟨some 32, .load1 (.r 31), none⟩, ⟨some 33, .bin .and (.r 32) (.c (.int .u32 (.ofNat 15))), none⟩, ⟨some 34, .indexArr 16 1 (.c (.ptr 0 0)) (.r 33), none⟩, ⟨some 35, .load1 (.r 34), none⟩, ⟨some 36, .bin .xor (.r 28) (.r 35), none⟩, ⟨some 37, .nilCheck (.r 23), none⟩, ⟨some 38, .fieldAt 0 (.r 37), none⟩, ⟨none, .store 1 (.r 38) (.r 36), none⟩]) 
 (.ops [⟨some 39, .mv (.r 0), none⟩, ⟨some 40, .mv (.r 0), none⟩, ⟨some 41, .nilCheck (.r 40), none⟩, ⟨some 42, .fieldAt 0 (.r 41), none⟩, ⟨some 43, .load1 (.r 42), none⟩, ⟨some 44, .bin .shr (.r 43) (.c (.int .u64 (.ofNat 4))), none⟩, ⟨some 45, .mv (.r 0), none⟩, ⟨some 46, .nilCheck (.r 45), none⟩, ⟨some 47, .fieldAt 0 (.r 46), none⟩, ⟨some 48, .load1 (.r 47), none⟩, ⟨some 49, .bin .and (.r 48) (.c (.int .u32 (.ofNat 15))), none⟩, ⟨some 50, .indexArr 16 1 (.c (.ptr 0 0)) (.r 49), none⟩, ⟨some 51, .load1 (.r 50), none⟩, ⟨some 52, .bin .xor (.r 44) (.r 51), none⟩, ⟨some 53, .nilCheck (.r 39), none⟩, ⟨some 54, .fieldAt 0 (.r 53), none⟩, ⟨none, .store 1 (.r 54) (.r 52), none⟩]))))) 
 (.ops [⟨some 55, .bin .add (.r 10) (.c (.int .i64 (.ofNat 1))), none⟩, ⟨some 10, .mv (.r 55), none⟩])))))))⟩
def c85 : AF := ⟨10, [.reg 2], .seq
  (.ops [⟨some 2, .mv (.c (.int .u32 (.ofNat 0))), none⟩]) 
 (.seq
  (.seq
  (.ops [⟨some 3, .mv (.r 0), none⟩, ⟨some 4, .eqnil false 0 (.r 3) (.c .nilptr), none⟩]) 
 (.cond (.r 4) (.seq
  (.ops [⟨some 2, .mv (.c (.int .u32 (.ofNat 0))), none⟩]) 
 .ret) .skip)) 
 (.seq
  (.ops [⟨some 5, .mv (.r 0), none⟩, ⟨some 6, .nilCheck (.r 5), none⟩, ⟨some 7, .fieldAt 0 (.r 6), none⟩, ⟨some 8, .load1 (.r 7), none⟩, ⟨some 9, .un .xor (.r 8), none⟩, ⟨some 2, .mv (.r 9), none⟩]) 
 .ret))⟩
def c86 : AF := ⟨48, [.reg 6], .seq
  (.ops [⟨some 6, .mv (.c .nilslice), none⟩]) 
 (.seq
  (.block 0 (.seq
  (.ops [⟨some 9, .mv (.r 0), none⟩, ⟨some 10, .nilCheck (.r 9), none⟩, ⟨some 11, .fieldAt 1 (.r 10), none⟩, ⟨some 12, .load1 (.r 11), none⟩, ⟨some 13, .bin .neq (.r 12) (.c (.int .i64 (.ofNat 0))), none⟩, ⟨some 8, .mv (.r 13), none⟩]) 
 (.cond (.r 8) (.seq
  (.ops [⟨some 6, .mv (.c .nilslice), none⟩]) 
 .ret) (.seq
  (.ops [⟨some 15, .mv (.r 2), none⟩, ⟨some 16, .un .not (.r 15), none⟩, ⟨some 14, .mv (.r 16), none⟩]) 
 (.cond (.r 14) (.seq
  (.ops [⟨some 17, .mv (.r 0), none⟩, ⟨some 18, .nilCheck (.r 17), none⟩, ⟨some 19, .fieldAt 1 (.r 18), none⟩, ⟨none, .store 1 (.r 19) (.c (.int .i64 (.ofNat 1))), none⟩]) 
 (.seq
  (.ops [⟨some 6, .mv (.c .nilslice), none⟩]) 
 .ret)) (.seq
  (.ops [⟨some 21, .mv (.r 1), none⟩, ⟨some 22, .mv (.r 0), none⟩, ⟨some 23, .nilCheck (.r 22), none⟩, ⟨some 24, .fieldAt 0 (.r 23), none⟩, ⟨some 25, .load1 (.r 24), none⟩, ⟨some 26, .len .slice (.r 25), none⟩, ⟨some 27, .bin .gtr (.r 21) (.r 26), none⟩, ⟨some 20, .mv (.r 27), none⟩]) 
 (.cond (.r 20) (.seq
  (.ops [⟨some 28, .mv (.r 0), none⟩, ⟨some 29, .nilCheck (.r 28), none⟩, ⟨some 30, .fieldAt 1 (.r 29), none⟩, ⟨none, .store 1 (.r 30) (.c (.int .i64 (.ofNat 10))), none⟩]) 
 (.seq
  (.ops [⟨some 6, .mv (.c .nilslice), none⟩]) 
 .ret)) .skip))))))) 
 (.seq
  (.ops [⟨some 31, .mv (.r 0), none⟩, ⟨some 32, .nilCheck (.r 31), none⟩, ⟨some 33, .fieldAt 0 (.r 32), none⟩, ⟨some 34, .load1 (.r 33), none⟩, ⟨some 35, .mv (.r 1), none⟩, ⟨some 36, .mv (.r 1), none⟩, ⟨some 37, .sliceSl 1 false (.r 34) none (some (.r 35)) (some (.r 36)), none⟩, ⟨some 7, .mv (.r 37), none⟩]) 
 (.seq
  (.ops [⟨some 38, .mv (.r 0), none⟩, ⟨some 39, .mv (.r 0), none⟩, ⟨some 40, .nilCheck (.r 39), none⟩, ⟨some 41, .fieldAt 0 (.r 40), none⟩, ⟨some 42, .load1 (.r 41), none⟩, ⟨some 43, .mv (.r 1), none⟩, ⟨some 44, .sliceSl 1 true (.r 42) (some (.r 43)) none none, none⟩, ⟨some 45, .nilCheck (.r 38), none⟩, ⟨some 46, .fieldAt 0 (.r 45), none⟩, ⟨none, .store 1 (.r 46) (.r 44), none⟩]) 
 (.seq
  (.ops [⟨some 47, .mv (.r 7), none⟩, ⟨some 6, .mv (.r 47), none⟩]) 
 .ret))))⟩
def c87 : AF := ⟨19, [.reg 4], .seq
  (.ops [⟨some 4, .mv (.c (.int .i64 (.ofNat 0))), none⟩]) 
 (.seq
  (.seq
  (.ops [⟨some 6, .mv (.r 0), none⟩, ⟨some 7, .len .slice (.r 6), none⟩, ⟨some 8, .mv (.c (.int .i64 (.ofNat 0))), none⟩]) 
 (.block 0 (.loop (.seq
  (.ops [⟨some 9, .bin .lss (.r 8) (.r 7), none⟩]) 
 (.seq
  (.cond (.r 9) .skip (.exit 0)) 
 (.seq
  (.block 1 (.seq
  (.ops [⟨some 10, .mv (.r 8), none⟩, ⟨some 5, .mv (.r 10), none⟩]) 
 (.seq
  (.ops [⟨some 11, .mv (.r 1), none⟩, ⟨some 12, .mv (.r 0), none⟩, ⟨some 13, .mv (.r 5), none⟩, ⟨some 14, .indexSl 1 (.r 12) (.r 13), none⟩, ⟨some 15, .load1 (.r 14), none⟩, ⟨some 16, .eql false [.bool] false (.r 11) (.r 15), none⟩]) 
 (.cond (.r 16) (.seq
  (.ops [⟨some 17, .mv (.r 5), none⟩, ⟨some 4, .mv (.r 17), none⟩]) 
 .ret) .skip)))) 
 (.ops [⟨some 18, .bin .add (.r 8) (.c (.int .i64 (.ofNat 1))), none⟩, ⟨some 8, .mv (.r 18), none⟩]))))))) 
 (.seq
  (.ops [⟨some 4, .mv (.c (.int .i64 (.negSucc 0))), none⟩]) 
 .ret))⟩
def c88 : AF := ⟨27, [.reg 4], .seq
  (.ops [⟨some 4, .mv (.c .nilslice), none⟩]) 
 (.seq
  (.seq
  (.ops [⟨some 5, .mv (.r 1), none⟩, ⟨some 6, .bin .lss (.r 5) (.c (.int .i64 (.ofNat 0))), none⟩]) 
 (.cond (.r 6) (.ops [⟨some 7, .bad 0, none⟩, ⟨none, .bad 0, none⟩]) .skip)) 
 (.seq
  (.seq
  (.ops [⟨some 8, .mv (.r 1), none⟩, ⟨some 9, .mv (.r 0), none⟩, ⟨some 10, .cap (.r 9), none⟩, ⟨some 11, .mv (.r 0), none⟩, ⟨some 12, .len .slice (.r 11), none⟩, ⟨some 13, .bin .sub (.r 10) (.r 12), none⟩, ⟨some 14, .bin .sub (.r 8) (.r 13), none⟩, ⟨some 1, .mv (.r 14), none⟩]) 
 (.seq
  (.ops [⟨some 15, .mv (.r 1), none⟩, ⟨some 16, .bin .gtr (.r 15) (.c (.int .i64 (.ofNat 0))), none⟩]) 
 (.cond (.r 16) (.ops [⟨some 17, .mv (.r 0), none⟩, ⟨some 18, .mv (.r 0), none⟩, ⟨some 19, .cap (.r 18), none⟩, ⟨some 20, .sliceSl 1 false (.r 17) none (some (.r 19)) none, none⟩, ⟨some 21, .mv (.r 1), none⟩, ⟨some 22, .appendZ 1 1 [.int .u8 (.ofNat 0)] (.r 20) (.r 21), none⟩, ⟨some 23, .mv (.r 0), none⟩, ⟨some 24, .len .slice (.r 23), none⟩, ⟨some 25, .sliceSl 1 false (.r 22) none (some (.r 24)) none, none⟩, ⟨some 0, .mv (.r 25), none⟩]) .skip))) 
 (.seq
  (.ops [⟨some 26, .mv (.r 0), none⟩, ⟨some 4, .mv (.r 26), none⟩]) 
 .ret)))⟩
def c89 : AF := ⟨31, [], .seq
  (.ops [⟨some 4, .mv (.c (.int .i64 (.ofNat 0))), none⟩]) 
 (.block 0 (.loop (.seq
  (.seq
  (.ops [⟨some 6, .mv (.r 4), none⟩, ⟨some 7, .load1 (.r 1), none⟩, ⟨some 8, .len .slice (.r 7), none⟩, ⟨some 9, .bin .lss (.r 6) (.r 8), none⟩]) 
 (.cond (.r 9) .skip (.exit 0))) 
 (.seq
  (.block 1 (.seq
  (.multi [(1, ⟨some 13, .load1 (.r 2), none⟩), (5, ⟨some 14, .load1 (.r 1), none⟩), (0, ⟨some 15, .mv (.r 4), none⟩), (2, ⟨some 16, .sliceSl 1 true (.r 14) (some (.r 15)) none none, none⟩), (0, ⟨some 17, .len .slice (.r 16), none⟩), (0, ⟨some 18, .maxmin false (.r 13) [.r 17], none⟩), (0, ⟨some 5, .mv (.r 18), none⟩)] [(0, 3)]) 
 (.seq
  (.ops [⟨some 19, .mv (.r 0), none⟩, ⟨some 20, .load1 (.r 1), none⟩, ⟨some 21, .mv (.r 4), none⟩, ⟨some 22, .mv (.r 4), none⟩, ⟨some 23, .mv (.r 5), none⟩, ⟨some 24, .bin .add (.r 22) (.r 23), none⟩, ⟨some 25, .mv (.r 4), none⟩, ⟨some 26, .mv (.r 5), none⟩, ⟨some 27, .bin .add (.r 25) (.r 26), none⟩, ⟨some 28, .sliceSl 1 true (.r 20) (some (.r 21)) (some (.r 24)) (some (.r 27)), none⟩, ⟨some 29, .callv (.r 19) [.r 28], none⟩, ⟨some 30, .un .not (.r 29), none⟩]) 
 (.cond (.r 30) .ret .skip)))) 
 (.ops [⟨some 10, .mv (.r 4), none⟩, ⟨some 11, .load1 (.r 2), none⟩, ⟨some 12, .bin .add (.r 10) (.r 11), none⟩, ⟨some 4, .mv (.r 12), none⟩])))))⟩
def c90 : AF := ⟨12, [.reg 6], .seq
  (.ops [⟨some 6, .mv (.c (.int .u64 (.ofNat 0))), none⟩]) 
 (.seq
  (.ops [⟨some 7, .mv (.r 0), none⟩, ⟨some 8, .mv (.r 1), none⟩, ⟨some 9, .maxmin true (.r 7) [.r 8], none⟩, ⟨some 10, .mv (.r 2), none⟩, ⟨some 11, .maxmin false (.r 9) [.r 10], none⟩, ⟨some 6, .mv (.r 11), none⟩]) 
 .ret)⟩
def c92 : AF := ⟨51, [.reg 4, .reg 5], .seq
  (.ops [⟨some 4, .mv (.c (.int .u64 (.ofNat 0))), none⟩, ⟨some 5, .mv (.c (.int .u64 (.ofNat 0))), none⟩]) 
 (.seq
  (.ops [⟨some 14, .mv (.r 0), none⟩, ⟨some 15, .bin .and (.r 14) (.c (.int .u64 (.ofNat 4294967295))), none⟩, ⟨some 6, .mv (.r 15), none⟩]) 
 (.seq
  (.ops [⟨some 16, .mv (.r 0), none⟩, ⟨some 17, .bin .shr (.r 16) (.c (.int .u64 (.ofNat 32))), none⟩, ⟨some 7, .mv (.r 17), none⟩]) 
 (.seq
  (.ops [⟨some 18, .mv (.r 1), none⟩, ⟨some 19, .bin .and (.r 18) (.c (.int .u64 (.ofNat 4294967295))), none⟩, ⟨some 8, .mv (.r 19), none⟩]) 
 (.seq
  (.ops [⟨some 20, .mv (.r 1), none⟩, ⟨some 21, .bin .shr (.r 20) (.c (.int .u64 (.ofNat 32))), none⟩, ⟨some 9, .mv (.r 21), none⟩]) 
 (.seq
  (.ops [⟨some 22, .mv (.r 6), none⟩, ⟨some 23, .mv (.r 8), none⟩, ⟨some 24, .bin .mul (.r 22) (.r 23), none⟩, ⟨some 10, .mv (.r 24), none⟩]) 
 (.seq
  (.ops [⟨some 25, .mv (.r 7), none⟩, ⟨some 26, .mv (.r 8), none⟩, ⟨some 27, .bin .mul (.r 25) (.r 26), none⟩, ⟨some 28, .mv (.r 10), none⟩, ⟨some 29, .bin .shr (.r 28) (.c (.int .u64 (.ofNat 32))), none⟩, ⟨some 30, .bin .add (.r 27) (.r 29), none⟩, ⟨some 11, .mv (.r 30), none⟩]) 
 (.seq
  (.ops [⟨some 31, .mv (.r 11), none⟩, ⟨some 32, .bin .and (.r 31) (.c (.int .u64 (.ofNat 4294967295))), none⟩, ⟨some 12, .mv (.r 32), none⟩]) 
 (.seq
  (.ops [⟨some 33, .mv (.r 11), none⟩, ⟨some 34, .bin .shr (.r 33) (.c (.int .u64 (.ofNat 32))), none⟩, ⟨some 13, .mv (.r 34), none⟩]) 
 (.seq
  (.ops [⟨some 35, .mv (.r 12), none⟩, ⟨some 36, .mv (.r 6), none⟩, ⟨some 37, .mv (.r 9), none⟩, ⟨some 38, .bin .mul (.r 36) (.r 37), none⟩, ⟨some 39, .bin .add (.r 35) (.r 38), none⟩, ⟨some 12, .mv (.r 39), none⟩]) 
 (.seq
  (.ops [⟨some 40, .mv (.r 7), none⟩, ⟨some 41, .mv (.r 9), none⟩, ⟨some 42, .bin .mul (.r 40) (.r 41), none⟩, ⟨some 43, .mv (.r 13), none⟩, ⟨some 44, .bin .add (.r 42) (.r 43), none⟩, ⟨some 45, .mv (.r 12), none⟩, ⟨some 46, .bin .shr (.r 45) (.c (.int .u64 (.ofNat 32))), none⟩, ⟨some 47, .bin .add (.r 44) (.r 46), none⟩, ⟨some 4, .mv (.r 47), none⟩]) 
 (.seq
  (.ops [⟨some 48, .mv (.r 0), none⟩, ⟨some 49, .mv (.r 1), none⟩, ⟨some 50, .bin .mul (.r 48) (.r 49), none⟩, ⟨some 5, .mv (.r 50), none⟩]) 
 .ret)))))))))))⟩
def c93 : AF := ⟨135, [.reg 6, .reg 7], .seq
  (.ops [⟨some 6, .mv (.c (.int .u64 (.ofNat 0))), none⟩, ⟨some 7, .mv (.c (.int .u64 (.ofNat 0))), none⟩]) 
 (.seq
  (.seq
  (.ops [⟨some 19, .mv (.r 2), none⟩, ⟨some 20, .bin .eql (.r 19) (.c (.int .u64 (.ofNat 0))), none⟩]) 
 (.cond (.r 20) (.ops [⟨some 21, .load1 (.c (.ptr 1 0)), none⟩, ⟨none, .bad 0, none⟩]) .skip)) 
 (.seq
  (.seq
  (.ops [⟨some 22, .mv (.r 2), none⟩, ⟨some 23, .mv (.r 0), none⟩, ⟨some 24, .bin .leq (.r 22) (.r 23), none⟩]) 
 (.cond (.r 24) (.ops [⟨some 25, .load1 (.c (.ptr 2 0)), none⟩, ⟨none, .bad 0, none⟩]) .skip)) 
 (.seq
  (.seq
  (.ops [⟨some 26, .mv (.r 0), none⟩, ⟨some 27, .bin .eql (.r 26) (.c (.int .u64 (.ofNat 0))), none⟩]) 
 (.cond (.r 27) (.seq
  (.ops [⟨some 28, .mv (.r 1), none⟩, ⟨some 29, .mv (.r 2), none⟩, ⟨some 30, .bin .quo (.r 28) (.r 29), none⟩, ⟨some 31, .mv (.r 1), none⟩, ⟨some 32, .mv (.r 2), none⟩, ⟨some 33, .bin .rem (.r 31) (.r 32), none⟩, ⟨some 6, .mv (.r 30), none⟩, ⟨some 7, .mv (.r 33), none⟩]) 
 .ret) .skip)) 
 (.seq
  (.ops [⟨some 34, .mv (.r 2), none⟩, ⟨some 35, .call 109 [.r 34], none⟩, ⟨some 36, .toInt .u64 (.r 35), none⟩, ⟨some 8, .mv (.r 36), none⟩]) 
 (.seq
  (.ops [⟨some 37, .mv (.r 2), none⟩, ⟨some 38, .mv (.r 8), none⟩, ⟨some 39, .bin .shl (.r 37) (.r 38), none⟩, ⟨some 2, .mv (.r 39), none⟩]) 
 (.seq
  (.ops [⟨some 40, .mv (.r 2), none⟩, ⟨some 41, .bin .shr (.r 40) (.c (.int .u64 (.ofNat 32))), none⟩, ⟨some 9, .mv (.r 41), none⟩]) 
 (.seq
  (.ops [⟨some 42, .mv (.r 2), none⟩, ⟨some 43, .bin .and (.r 42) (.c (.int .u64 (.ofNat 4294967295))), none⟩, ⟨some 10, .mv (.r 43), none⟩]) 
 (.seq
  (.ops [⟨some 44, .mv (.r 0), none⟩, ⟨some 45, .mv (.r 8), none⟩, ⟨some 46, .bin .shl (.r 44) (.r 45), none⟩, ⟨some 47, .mv (.r 1), none⟩, ⟨some 48, .mv (.r 8), none⟩, ⟨some 49, .bin .sub (.c (.int .u64 (.ofNat 64))) (.r 48), none⟩, ⟨some 50, .bin .shr (.r 47) (.r 49), none⟩, ⟨some 51, .bin .or (.r 46) (.r 50), none⟩, ⟨some 11, .mv (.r 51), none⟩]) 
 (.seq
  (.ops [⟨some 52, .mv (.r 1), none⟩, ⟨some 53, .mv (.r 8), none⟩, ⟨some 54, .bin .shl (.r 52) (.r 53), none⟩, ⟨some 12, .mv (.r 54), none⟩]) 
 (.seq
  (.ops [⟨some 55, .mv (.r 12), none⟩, ⟨some 56, .bin .shr (.r 55) (.c (.int .u64 (.ofNat 32))), none⟩, ⟨some 13, .mv (.r 56), none⟩]) 
 (.seq
  (.ops [⟨some 57, .mv (.r 12), none⟩, ⟨some 58, .bin .and (.r 57) (.c (.int .u64 (.ofNat 4294967295))), none⟩, ⟨some 14, .mv (.r 58), none⟩]) 
 (.seq
  (.ops [⟨some 59, .mv (.r 11), none⟩, ⟨some 60, .mv (.r 9), none⟩, ⟨some 61, .bin .quo (.r 59) (.r 60), none⟩, ⟨some 15, .mv (.r 61), none⟩]) 
 (.seq
  (.ops [⟨some 62, .mv (.r 11), none⟩, ⟨some 63, .mv (.r 15), none⟩, ⟨some 64, .mv (.r 9), none⟩, ⟨some 65, .bin .mul (.r 63) (.r 64), none⟩, ⟨some 66, .bin .sub (.r 62) (.r 65), none⟩, ⟨some 16, .mv (.r 66), none⟩]) 
 (.seq
  (.block 0 (.loop (.seq
  (.seq
  (.ops [⟨some 67, .mv (.r 15), none⟩, ⟨some 68, .bin .geq (.r 67) (.c (.int .u64 (.ofNat 4294967296))), none⟩, ⟨some 69, .mv (.r 68), none⟩, ⟨some 70, .mv (.r 15), some (69, false)⟩, ⟨some 71, .mv (.r 10), some (69, false)⟩, ⟨some 72, .bin .mul (.r 70) (.r 71), some (69, false)⟩, ⟨some 73, .mv (.r 16), some (69, false)⟩, ⟨some 74, .bin .mul (.c (.int .u64 (.ofNat 4294967296))) (.r 73), some (69, false)⟩, ⟨some 75, .mv (.r 13), some (69, false)⟩, ⟨some 76, .bin .add (.r 74) (.r 75), some (69, false)⟩, ⟨some 77, .bin .gtr (.r 72) (.r 76), some (69, false)⟩, ⟨some 78, .pick (.r 69) (.c (.bool true)) (.r 77), none⟩]) 
 (.cond (.r 78) .skip (.exit 0))) 
 (.block 1 (.seq
  (.ops [⟨some 79, .mv (.r 15), none⟩, ⟨some 80, .bin .sub (.r 79) (.c (.int .u64 (.ofNat 1))), none⟩, ⟨some 15, .mv (.r 80), none⟩]) 
 (.seq
  (.ops [⟨some 81, .mv (.r 16), none⟩, ⟨some 82, .mv (.r 9), none⟩, ⟨some 83, .bin .add (.r 81) (.r 82), none⟩, ⟨some 16, .mv (.r 83), none⟩]) 
 (.seq
  (.ops [⟨some 84, .mv (.r 16), none⟩, ⟨some 85, .bin .geq (.r 84) (.c (.int .u64 (.ofNat 4294967296))), none⟩]) 
 (.cond (.r 85) (.exit 0) .skip)))))))) 
 (.seq
  (.ops [⟨some 86, .mv (.r 11), none⟩, ⟨some 87, .bin .mul (.r 86) (.c (.int .u64 (.ofNat 4294967296))), none⟩, ⟨some 88, .mv (.r 13), none⟩, ⟨some 89, .bin .add (.r 87) (.r 88), none⟩, ⟨some 90, .mv (.r 15), none⟩, ⟨some 91, .mv (.r 2), none⟩, ⟨some 92, .bin .mul (.r 90) (.r 91), none⟩, ⟨some 93, .bin .sub (.r 89) (.r 92), none⟩, ⟨some 17, .mv (.r 93), none⟩]) 
 (.seq
  (.ops [⟨some 94, .mv (.r 17), none⟩, ⟨some 95, .mv (.r 9), none⟩, ⟨some 96, .bin .quo (.r 94) (.r 95), none⟩, ⟨some 18, .mv (.r 96), none⟩]) 
 (.seq
  (.ops [⟨some 97, .mv (.r 17), none⟩, ⟨some 98, .mv (.r 18), none⟩, ⟨some 99, .mv (.r 9), none⟩, ⟨some 100, .bin .mul (.r 98) (.r 99), none⟩, ⟨some 101, .bin .sub (.r 97) (.r 100), none⟩, ⟨some 16, .mv (.r 101), none⟩]) 
 (.seq
  (.block 2 (.loop (.seq
  (.seq
  (.ops [⟨some 102, .mv (.r 18), none⟩, ⟨some 103, .bin .geq (.r 102) (.c (.int .u64 (.ofNat 4294967296))), none⟩, ⟨some 104, .mv (.r 103), none⟩, ⟨some 105, .mv (.r 18), some (104, false)⟩, ⟨some 106, .mv (.r 10), some (104, false)⟩, ⟨some 107, .bin .mul (.r 105) (.r 106), some (104, false)⟩, ⟨some 108, .mv (.r 16), some (104, false)⟩, ⟨some 109, .bin .mul (.c (.int .u64 (.ofNat 4294967296))) (.r 108), some (104, false)⟩, ⟨some 110, .mv (.r 14), some (104, false)⟩, ⟨some 111, .bin .add (.r 109) (.r 110), some (104, false)⟩, ⟨some 112, .bin .gtr (.r 107) (.r 111), some (104, false)⟩, ⟨some 113, .pick (.r 104) (.c (.bool true)) (.r 112), none⟩]) 
 (.cond (.r 113) .skip (.exit 2))) 
 (.block 3 (.seq
  (.ops [⟨some 114, .mv (.r 18), none⟩, ⟨some 115, .bin .sub (.r 114) (.c (.int .u64 (.ofNat 1))), none⟩, ⟨some 18, .mv (.r 115), none⟩]) 
 (.seq
  (.ops [⟨some 116, .mv (.r 16), none⟩, ⟨some 117, .mv (.r 9), none⟩, ⟨some 118, .bin .add (.r 116) (.r 117), none⟩, ⟨some 16, .mv (.r 118), none⟩]) 
 (.seq
  (.ops [⟨some 119, .mv (.r 16), none⟩, ⟨some 120, .bin .geq (.r 119) (.c (.int .u64 (.ofNat 4294967296))), none⟩]) 
 (.cond (.r 120) (.exit 2) .skip)))))))) 
 (.seq
  (.ops [⟨some 121, .mv (.r 15), none⟩, ⟨some 122, .bin .mul (.r 121) (.c (.int .u64 (.ofNat 4294967296))), none⟩, ⟨some 123, .mv (.r 18), none⟩, ⟨some 124, .bin .add (.r 122) (.r 123), none⟩, ⟨some 125, .mv (.r 17), none⟩, ⟨some 126, .bin .mul (.r 125) (.c (.int .u64 (.ofNat 4294967296))), none⟩, ⟨some 127, .mv (.r 14), none⟩, ⟨some 128, .bin .add (.r 126) (.r 127), none⟩, ⟨some 129, .mv (.r 18), none⟩, ⟨some 130, .mv (.r 2), none⟩, ⟨some 131, .bin .mul (.r 129) (.r 130), none⟩, ⟨some 132, .bin .sub (.r 128) (.r 131), none⟩, ⟨some 133, .mv (.r 8), none⟩, ⟨some 134, .bin .shr (.r 132) (.r 133), none⟩, ⟨some 6, .mv (.r 124), none⟩, ⟨some 7, .mv (.r 134), none⟩]) 
 .ret)))))))))))))))))))⟩
def c94 : AF := ⟨136, [.cell 4 8 true], .seq
  (.ops [⟨some 2, .box 8 (.r 0), none⟩, ⟨some 3, .box 64 (.r 1), none⟩, ⟨some 4, .alloc [.int .u32 (.ofNat 0), .int .u32 (.ofNat 0), .int .u32 (.ofNat 0), .int .u32 (.ofNat 0), .int .u32 (.ofNat 0), .int .u32 (.ofNat 0), .int .u32 (.ofNat 0), .int .u32 (.ofNat 0)], none⟩]) 
 (.seq
  (.ops [⟨some 5, .alloc [.int .u32 (.ofNat 0), .int .u32 (.ofNat 0), .int .u32 (.ofNat 0), .int .u32 (.ofNat 0), .int .u32 (.ofNat 0), .int .u32 (.ofNat 0), .int .u32 (.ofNat 0), .int .u32 (.ofNat 0), .int .u32 (.ofNat 0), .int .u32 (.ofNat 0), .int .u32 (.ofNat 0), .int .u32 (.ofNat 0), .int .u32 (.ofNat 0), .int .u32 (.ofNat 0), .int .u32 (.ofNat 0), .int .u32 (.ofNat 0), .int .u32 (.ofNat 0), .int .u32 (.ofNat 0), .int .u32 (.ofNat 0), .int .u32 (.ofNat 0), .int .u32 (.ofNat 0), .int .u32 (.ofNat 0), .int .u32 (.ofNat 0), .int .u32 (.ofNat 0), .int .u32 (.ofNat 0), .int .u32 (.ofNat 0), .int .u32 (.ofNat 0), .int .u32 (.ofNat 0), .int .u32 (.ofNat 0), .int .u32 (.ofNat 0), .int .u32 (.ofNat 0), .int .u32 (.ofNat 0), .int .u32 (.ofNat 0), .int .u32 (.ofNat 0), .int .u32 (.ofNat 0), .int .u32 (.ofNat 0), .int .u32 (.ofNat 0), .int .u32 (.ofNat 0), .int .u32 (.ofNat 0), .int .u32 (.ofNat 0), .int .u32 (.ofNat 0), .int .u32 (.ofNat 0), .int .u32 (.ofNat 0), .int .u32 (.ofNat 0), .int .u32 (.ofNat 0), .int .u32 (.ofNat 0), .int .u32 (.ofNat 0), .int .u32 (.ofNat 0), .int .u32 (.ofNat 0), .int .u32 (.ofNat 0), .int .u32 (.ofNat 0), .int .u32 (.ofNat 0), .int .u32 (.ofNat 0), .int .u32 (.ofNat 0), .int .u32 (.ofNat 0), .int .u32 (.ofNat 0), .int .u32 (.ofNat 0), .int .u32 (.ofNat 0), .int .u32 (.ofNat 0), .int .u32 (.ofNat 0), .int .u32 (.ofNat 0), .int .u32 (.ofNat 0), .int .u32 (.ofNat 0), .int .u32 (.ofNat 0)], none⟩]) 
 (.seq
  (.seq
  (.ops [⟨some 16, .loadN 64 (.r 3), none⟩, ⟨some 17, .mv (.c (.int .i64 (.ofNat 0))), none⟩]) 
 (.block 0 (.loop (.seq
  (.ops [⟨some 18, .bin .lss (.r 17) (.c (.int .i64 (.ofNat 64))), none⟩]) 
 (.seq
  (.cond (.r 18) .skip (.exit 0)) 
 (.seq
  (.block 1 (.seq
  (.ops [⟨some 19, .mv (.r 17), none⟩, ⟨some 20, .indexAgg 64 1 false (.r 16) (.r 17), none⟩, ⟨some 6, .mv (.r 19), none⟩, ⟨some 7, .mv (.r 20), none⟩]) 
 (.ops [⟨some 21, .mv (.r 6), none⟩, ⟨some 22, .bin .quo (.r 21) (.c (.int .i64 (.ofNat 4))), none⟩, ⟨some 23, .mv (.r 6), none⟩, ⟨some 24, .bin .quo (.r 23) (.c (.int .i64 (.ofNat 4))), none⟩, ⟨some 25, .indexArr 64 1 (.r 5) (.r 24), none⟩, ⟨some 26, .load1 (.r 25), none⟩, ⟨some 27, .bin .shl (.r 26) (.c (.int .u64 (.ofNat 8))), none⟩, ⟨some 28, .mv (.r 7), none⟩, ⟨some 29, .toInt .u32 (.r 28), none⟩, ⟨some 30, .bin .or (.r 27) (.r 29), none⟩, ⟨some 31, .indexArr 64 1 (.r 5) (.r 22), none⟩, ⟨none, .store 1 (.r 31) (.r 30), none⟩]))) 
 (.ops [⟨some 32, .bin .add (.r 17) (.c (.int .i64 (.ofNat 1))), none⟩, ⟨some 17, .mv (.r 32), none⟩]))))))) 
 (.seq
  (.seq
  (.ops [⟨some 8, .mv (.c (.int .i64 (.ofNat 16))), none⟩]) 
 (.block 2 (.loop (.seq
  (.seq
  (.ops [⟨some 33, .mv (.r 8), none⟩, ⟨some 34, .bin .lss (.r 33) (.c (.int .i64 (.ofNat 64))), none⟩]) 
 (.cond (.r 34) .skip (.exit 2))) 
 (.seq
  (.block 3 (.ops [⟨some 37, .mv (.r 8), none⟩, ⟨some 38, .mv (.r 8), none⟩, ⟨some 39, .bin .sub (.r 38) (.c (.int .i64 (.ofNat 16))), none⟩, ⟨some 40, .indexArr 64 1 (.r 5) (.r 39), none⟩, ⟨some 41, .load1 (.r 40), none⟩, ⟨some 42, .mv (.r 8), none⟩, ⟨some 43, .bin .sub (.r 42) (.c (.int .i64 (.ofNat 15))), none⟩, ⟨some 44, .indexArr 64 1 (.r 5) (.r 43), none⟩, ⟨some 45, .load1 (.r 44), none⟩, ⟨some 46, .pcall 110 [.r 45, .c (.int .i64 (.ofNat 7)), .c (.int .i64 (.ofNat 18)), .c (.int .i64 (.ofNat 3))], none⟩, ⟨some 47, .bin .add (.r 41) (.r 46), none⟩, ⟨some 48, .mv (.r 8), none⟩, ⟨some 49, .bin .sub (.r 48) (.c (.int .i64 (.ofNat 7))), none⟩, ⟨some 50, .indexArr 64 1 (.r 5) (.r 49), none⟩, ⟨some 51, .load1 (.r 50), none⟩, ⟨some 52, .bin .add (.r 47) (.r 51), none⟩, ⟨some 53, .mv (.r 8), none⟩, ⟨some 54, .bin .sub (.r 53) (.c (.int .i64 (.ofNat 2))), none⟩, ⟨some 55, .indexArr 64 1 (.r 5) (.r 54), none⟩, ⟨some 56, .load1 (.r 55), none⟩, ⟨some 57, .pcall 110 [.r 56, .c (.int .i64 (.ofNat 17)), .c (.int .i64 (.ofNat 19)), .c (.int .i64 (.ofNat 10))], none⟩, ⟨some 58, .bin .add (.r 52) (.r 57), none⟩, ⟨some 59, .indexArr 64 1 (.r 5) (.r 37), none⟩, ⟨none, .store 1 (.r 59) (.r 58), none⟩])) 
 (.ops [⟨some 35, .mv (.r 8), none⟩, ⟨some 36, .bin .add (.r 35) (.c (.int .i64 (.ofNat 1))), none⟩, ⟨some 8, .mv (.r 36), none⟩])))))) 
 (.seq
  (.ops [⟨some 60, .loadN 8 (.r 2), none⟩, ⟨some 9, .alloc [.int .u32 (.ofNat 0), .int .u32 (.ofNat 0), .int .u32 (.ofNat 0), .int .u32 (.ofNat 0), .int .u32 (.ofNat 0), .int .u32 (.ofNat 0), .int .u32 (.ofNat 0), .int .u32 (.ofNat 0)], none⟩, ⟨none, .store 8 (.r 9) (.r 60), none⟩]) 
 (.seq
  (.seq
  (.ops [⟨some 61, .mv (.c (.int .i64 (.ofNat 0))), none⟩]) 
 (.block 4 (.loop (.seq
  (.ops [⟨some 62, .bin .lss (.r 61) (.c (.int .i64 (.ofNat 64))), none⟩]) 
 (.seq
  (.cond (.r 62) .skip (.exit 4)) 
 (.seq
  (.block 5 (.seq
  (.ops [⟨some 63, .mv (.r 61), none⟩, ⟨some 10, .mv (.r 63), none⟩]) 
 (.seq
  (.ops [⟨some 64, .indexArr 8 1 (.r 9) (.c (.int .i64 (.ofNat 0))), none⟩, ⟨some 65, .load1 (.r 64), none⟩, ⟨some 66, .indexArr 8 1 (.r 9) (.c (.int .i64 (.ofNat 4))), none⟩, ⟨some 67, .load1 (.r 66), none⟩, ⟨some 11, .mv (.r 65), none⟩, ⟨some 12, .mv (.r 67), none⟩]) 
 (.seq
  (.ops [⟨some 68, .indexArr 8 1 (.r 9) (.c (.int .i64 (.ofNat 7))), none⟩, ⟨some 69, .load1 (.r 68), none⟩, ⟨some 70, .mv (.r 12), none⟩, ⟨some 71, .pcall 111 [.r 70, .c (.int .i64 (.ofNat 6)), .c (.int .i64 (.ofNat 11)), .c (.int .i64 (.ofNat 25))], none⟩, ⟨some 72, .bin .add (.r 69) (.r 71), none⟩, ⟨some 73, .mv (.r 12), none⟩, ⟨some 74, .indexArr 8 1 (.r 9) (.c (.int .i64 (.ofNat 5))), none⟩, ⟨some 75, .load1 (.r 74), none⟩, ⟨some 76, .bin .and (.r 73) (.r 75), none⟩, ⟨some 77, .mv (.r 12), none⟩, ⟨some 78, .un .xor (.r 77), none⟩, ⟨some 79, .indexArr 8 1 (.r 9) (.c (.int .i64 (.ofNat 6))), none⟩, ⟨some 80, .load1 (.r 79), none⟩, ⟨some 81, .bin .and (.r 78) (.r 80), none⟩, ⟨some 82, .bin .xor (.r 76) (.r 81), none⟩, ⟨some 83, .bin .add (.r 72) (.r 82), none⟩, ⟨some 84, .mv (.r 10), none⟩, ⟨some 85, .indexArr 64 1 (.c (.ptr 3 0)) (.r 84), none⟩, ⟨some 86, .load1 (.r 85), none⟩, ⟨some 87, .bin .add (.r 83) (.r 86), none⟩, ⟨some 88, .mv (.r 10), none⟩, ⟨some 89, .indexArr 64 1 (.r 5) (.r 88), none⟩, ⟨some 90, .load1 (.r 89), none⟩, ⟨some 91, .bin .add (.r 87) (.r 90), none⟩, ⟨some 13, .mv (.r 91), none⟩]) 
 (.seq
  (.ops [⟨some 92, .mv (.r 11), none⟩, ⟨some 93, .pcall 111 [.r 92, .c (.int .i64 (.ofNat 2)), .c (.int .i64 (.ofNat 13)), .c (.int .i64 (.ofNat 22))], none⟩, ⟨some 94, .mv (.r 11), none⟩, ⟨some 95, .indexArr 8 1 (.r 9) (.c (.int .i64 (.ofNat 1))), none⟩, ⟨some 96, .load1 (.r 95), none⟩, ⟨some 97, .bin .and (.r 94) (.r 96), none⟩, ⟨some 98, .mv (.r 11), none⟩, ⟨some 99, .indexArr 8 1 (.r 9) (.c (.int .i64 (.ofNat 2))), none⟩, ⟨some 100, .load1 (.r 99), none⟩, ⟨some 101, .bin .and (.r 98) (.r 100), none⟩, ⟨some 102, .bin .xor (.r 97) (.r 101), none⟩, ⟨some 103, .indexArr 8 1 (.r 9) (.c (.int .i64 (.ofNat 1))), none⟩, ⟨some 104, .load1 (.r 103), none⟩, ⟨some 105, .indexArr 8 1 (.r 9) (.c (.int .i64 (.ofNat 2))), none⟩, ⟨some 106, .load1 (.r 105), none⟩, ⟨some 107, .bin .and (.r 104) (.r 106), none⟩, ⟨some 108, .bin .xor (.r 102) (.r 107), none⟩, ⟨some 109, .bin .add (.r 93) (.r 108), none⟩, ⟨some 14, .mv (.r 109), none⟩]) 
 (.seq
  (.ops [⟨some 110, .sliceArr 8 1 (.r 9) (some (.c (.int .i64 (.ofNat 1)))) none none, none⟩, ⟨some 111, .sliceArr 8 1 (.r 9) none (some (.c (.int .i64 (.ofNat 7)))) none, none⟩, ⟨some 112, .copy 1 (.r 110) (.r 111), none⟩]) 
 (.seq
  (.ops [⟨some 113, .indexArr 8 1 (.r 9) (.c (.int .i64 (.ofNat 4))), none⟩, ⟨some 114, .load1 (.r 113), none⟩, ⟨some 115, .mv (.r 13), none⟩, ⟨some 116, .bin .add (.r 114) (.r 115), none⟩, ⟨some 117, .indexArr 8 1 (.r 9) (.c (.int .i64 (.ofNat 4))), none⟩, ⟨none, .store 1 (.r 117) (.r 116), none⟩]) 
 (.ops [⟨some 118, .mv (.r 13), none⟩, ⟨some 119, .mv (.r 14), none⟩, ⟨some 120, .bin .add (.r 118) (.r 119), none⟩, ⟨some 121, .indexArr 8 1 (.r 9) (.c (.int .i64 (.ofNat 0))), none⟩, ⟨none, .store 1 (.r 121) (.r 120), none⟩])))))))) 
 (.ops [⟨some 122, .bin .add (.r 61) (.c (.int .i64 (.ofNat 1))), none⟩, ⟨some 61, .mv (.r 122), none⟩]))))))) 
 (.seq
  (.seq
  (.ops [⟨some 123, .mv (.c (.int .i64 (.ofNat 0))), none⟩]) 
 (.block 6 (.loop (.seq
  (.ops [⟨some 124, .bin .lss (.r 123) (.c (.int .i64 (.ofNat 8))), none⟩]) 
 (.seq
  (.cond (.r 124) .skip (.exit 6)) 
 (.seq
  (.block 7 (.seq
  (.ops [⟨some 125, .mv (.r 123), none⟩, ⟨some 15, .mv (.r 125), none⟩]) 
 (.ops [⟨some 126, .mv (.r 15), none⟩, ⟨some 127, .indexArr 8 1 (.r 9) (.r 126), none⟩, ⟨some 128, .load1 (.r 127), none⟩, ⟨some 129, .mv (.r 15), none⟩, ⟨some 130, .indexArr 8 1 (.r 2) (.r 129), none⟩, ⟨some 131, .load1 (.r 130), none⟩, ⟨some 132, .bin .add (.r 128) (.r 131), none⟩, ⟨some 133, .indexArr 8 1 (.r 9) (.r 126), none⟩, ⟨none, .store 1 (.r 133) (.r 132), none⟩]))) 
 (.ops [⟨some 134, .bin .add (.r 123) (.c (.int .i64 (.ofNat 1))), none⟩, ⟨some 123, .mv (.r 134), none⟩]))))))) 
 (.seq
  (.ops [⟨some 135, .loadN 8 (.r 9), none⟩, ⟨none, .store 8 (.r 4) (.r 135), none⟩]) 
 .ret)))))))⟩
def c95 : AF := ⟨14, [.reg 2], .seq
  (.ops [⟨some 2, .mv (.c (.int .i64 (.ofNat 0))), none⟩]) 
 (.seq
  (.seq
  (.ops [⟨some 3, .mv (.r 0), none⟩, ⟨some 4, .bin .eql (.r 3) (.c (.int .u32 (.ofNat 0))), none⟩]) 
 (.cond (.r 4) (.seq
  (.ops [⟨some 2, .mv (.c (.int .i64 (.ofNat 32))), none⟩]) 
 .ret) .skip)) 
 (.seq
  (.ops [⟨some 5, .mv (.r 0), none⟩, ⟨some 6, .mv (.r 0), none⟩, ⟨some 7, .un .neg (.r 6), none⟩, ⟨some 8, .bin .and (.r 5) (.r 7), none⟩, ⟨some 9, .bin .mul (.r 8) (.c (.int .u32 (.ofNat 125613361))), none⟩, ⟨some 10, .bin .shr (.r 9) (.c (.int .u64 (.ofNat 27))), none⟩, ⟨some 11, .indexArr 32 1 (.c (.ptr 4 0)) (.r 10), none⟩, ⟨some 12, .load1 (.r 11), none⟩, ⟨some 13, .toInt .i64 (.r 12), none⟩, ⟨some 2, .mv (.r 13), none⟩]) 
 .ret))⟩
def c96 : AF := ⟨14, [.reg 2], .seq
  (.ops [⟨some 2, .mv (.c (.int .i64 (.ofNat 0))), none⟩]) 
 (.seq
  (.seq
  (.ops [⟨some 3, .mv (.r 0), none⟩, ⟨some 4, .bin .eql (.r 3) (.c (.int .u64 (.ofNat 0))), none⟩]) 
 (.cond (.r 4) (.seq
  (.ops [⟨some 2, .mv (.c (.int .i64 (.ofNat 64))), none⟩]) 
 .ret) .skip)) 
 (.seq
  (.ops [⟨some 5, .mv (.r 0), none⟩, ⟨some 6, .mv (.r 0), none⟩, ⟨some 7, .un .neg (.r 6), none⟩, ⟨some 8, .bin .and (.r 5) (.r 7), none⟩, ⟨some 9, .bin .mul (.r 8) (.c (.int .u64 (.ofNat 285870213051353865))), none⟩, ⟨some 10, .bin .shr (.r 9) (.c (.int .u64 (.ofNat 58))), none⟩, ⟨some 11, .indexArr 64 1 (.c (.ptr 5 0)) (.r 10), none⟩, ⟨some 12, .load1 (.r 11), none⟩, ⟨some 13, .toInt .i64 (.r 12), none⟩, ⟨some 2, .mv (.r 13), none⟩]) 
 .ret))⟩
def c97 : AF := ⟨19, [.reg 2], .seq
  (.ops [⟨some 2, .mv (.c (.int .i64 (.ofNat 0))), none⟩]) 
 (.seq
  (.seq
  (.ops [⟨some 3, .mv (.r 0), none⟩, ⟨some 4, .bin .geq (.r 3) (.c (.int .u32 (.ofNat 65536))), none⟩]) 
 (.cond (.r 4) (.seq
  (.ops [⟨some 5, .mv (.r 0), none⟩, ⟨some 6, .bin .shr (.r 5) (.c (.int .u64 (.ofNat 16))), none⟩, ⟨some 0, .mv (.r 6), none⟩]) 
 (.ops [⟨some 2, .mv (.c (.int .i64 (.ofNat 16))), none⟩])) .skip)) 
 (.seq
  (.seq
  (.ops [⟨some 7, .mv (.r 0), none⟩, ⟨some 8, .bin .geq (.r 7) (.c (.int .u32 (.ofNat 256))), none⟩]) 
 (.cond (.r 8) (.seq
  (.ops [⟨some 9, .mv (.r 0), none⟩, ⟨some 10, .bin .shr (.r 9) (.c (.int .u64 (.ofNat 8))), none⟩, ⟨some 0, .mv (.r 10), none⟩]) 
 (.ops [⟨some 11, .mv (.r 2), none⟩, ⟨some 12, .bin .add (.r 11) (.c (.int .i64 (.ofNat 8))), none⟩, ⟨some 2, .mv (.r 12), none⟩])) .skip)) 
 (.seq
  (.ops [⟨some 13, .mv (.r 2), none⟩, ⟨some 14, .mv (.r 0), none⟩, ⟨some 15, .toInt .u8 (.r 14), none⟩, ⟨some 16, .indexStr (.c (.str [0, 1, 2, 2, 3, 3, 3, 3, 4, 4, 4, 4, 4, 4, 4, 4, 5, 5, 5, 5, 5, 5, 5, 5, 5, 5, 5, 5, 5, 5, 5, 5, 6, 6, 6, 6, 6, 6, 6, 6, 6, 6, 6, 6, 6, 6, 6, 6, 6, 6, 6, 6, 6, 6, 6, 6, 6, 6, 6, 6, 6, 6, 6, 6, 7, 7, 7, 7, 7, 7, 7, 7, 7, 7, 7, 7, 7, 7, 7, 7, 7, 7, 7, 7, 7, 7, 7, 7, 7, 7, 7, 7, 7, 7, 7, 7, 7, 7, 7, 7, 7, 7, 7, 7, 7, 7, 7, 7, 7, 7, 7, 7, 7, 7, 7, 7, 7, 7, 7, 7, 7, 7, 7, 7, 7, 7, 7, 7, 8, 8, 8, 8, 8, 8, 8, 8, 8, 8, 8, 8, 8, 8, 8, 8, 8, 8, 8, 8, 8, 8, 8, 8, 8, 8, 8, 8, 8, 8, 8, 8, 8, 8, 8, 8, 8, 8, 8, 8, 8, 8, 8, 8, 8, 8, 8, 8, 8, 8, 8, 8, 8, 8, 8, 8, 8, 8, 8, 8, 8, 8, 8, 8, 8, 8, 8, 8, 8, 8, 8, 8, 8, 8, 8, 8, 8, 8, 8, 8, 8, 8, 8, 8, 8, 8, 8, 8, 8, 8, 8, 8, 8, 8, 8, 8, 8, 8, 8, 8, 8, 8, 8, 8, 8, 8, 8, 8, 8, 8, 8, 8, 8, 8, 8, 8, 8, 8, 8, 8, 8, 8, 8, 8, 8, 8, 8, 8])) (.r 15), none⟩, ⟨some 17, .toInt .i64 (.r 16), none⟩, ⟨some 18, .bin .add (.r 13) (.r 17), none⟩, ⟨some 2, .mv (.r 18), none⟩]) 
 .ret)))⟩
def c98 : AF := ⟨25, [.reg 2], .seq
  (.ops [⟨some 2, .mv (.c (.int .i64 (.ofNat 0))), none⟩]) 
 (.seq
  (.seq
  (.ops [⟨some 3, .mv (.r 0), none⟩, ⟨some 4, .bin .geq (.r 3) (.c (.int .u64 (.ofNat 4294967296))), none⟩]) 
 (.cond (.r 4) (.seq
  (.ops [⟨some 5, .mv (.r 0), none⟩, ⟨some 6, .bin .shr (.r 5) (.c (.int .u64 (.ofNat 32))), none⟩, ⟨some 0, .mv (.r 6), none⟩]) 
 (.ops [⟨some 2, .mv (.c (.int .i64 (.ofNat 32))), none⟩])) .skip)) 
 (.seq
  (.seq
  (.ops [⟨some 7, .mv (.r 0), none⟩, ⟨some 8, .bin .geq (.r 7) (.c (.int .u64 (.ofNat 65536))), none⟩]) 
 (.cond (.r 8) (.seq
  (.ops [⟨some 9, .mv (.r 0), none⟩, ⟨some 10, .bin .shr (.r 9) (.c (.int .u64 (.ofNat 16))), none⟩, ⟨some 0, .mv (.r 10), none⟩]) 
 (.ops [⟨some 11, .mv (.r 2), none⟩, ⟨some 12, .bin .add (.r 11) (.c (.int .i64 (.ofNat 16))), none⟩, ⟨some 2, .mv (.r 12), none⟩])) .skip)) 
 (.seq
  (.seq
  (.ops [⟨some 13, .mv (.r 0), none⟩, ⟨some 14, .bin .geq (.r 13) (.c (.int .u64 (.ofNat 256))), none⟩]) 
 (.cond (.r 14) (.seq
  (.ops [⟨some 15, .mv (.r 0), none⟩, ⟨some 16, .bin .shr (.r 15) (.c (.int .u64 (.ofNat 8))), none⟩, ⟨some 0, .mv (.r 16), none⟩]) 
 (.ops [⟨some 17, .mv (.r 2), none⟩, ⟨some 18, .bin .add (.r 17) (.c (.int .i64 (.ofNat 8))), none⟩, ⟨some 2, .mv (.r 18), none⟩])) .skip)) 
 (.seq
  (.ops [⟨some 19, .mv (.r 2), none⟩, ⟨some 20, .mv (.r 0), none⟩, ⟨some 21, .toInt .u8 (.r 20), none⟩, ⟨some 22, .indexStr (.c (.str [0, 1, 2, 2, 3, 3, 3, 3, 4, 4, 4, 4, 4, 4, 4, 4, 5, 5, 5, 5, 5, 5, 5, 5, 5, 5, 5, 5, 5, 5, 5, 5, 6, 6, 6, 6, 6, 6, 6, 6, 6, 6, 6, 6, 6, 6, 6, 6, 6, 6, 6, 6, 6, 6, 6, 6, 6, 6, 6, 6, 6, 6, 6, 6, 7, 7, 7, 7, 7, 7, 7, 7, 7, 7, 7, 7, 7, 7, 7, 7, 7, 7, 7, 7, 7, 7, 7, 7, 7, 7, 7, 7, 7, 7, 7, 7, 7, 7, 7, 7, 7, 7, 7, 7, 7, 7, 7, 7, 7, 7, 7, 7, 7, 7, 7, 7, 7, 7, 7, 7, 7, 7, 7, 7, 7, 7, 7, 7, 8, 8, 8, 8, 8, 8, 8, 8, 8, 8, 8, 8, 8, 8, 8, 8, 8, 8, 8, 8, 8, 8, 8, 8, 8, 8, 8, 8, 8, 8, 8, 8, 8, 8, 8, 8, 8, 8, 8, 8, 8, 8, 8, 8, 8, 8, 8, 8, 8, 8, 8, 8, 8, 8, 8, 8, 8, 8, 8, 8, 8, 8, 8, 8, 8, 8, 8, 8, 8, 8, 8, 8, 8, 8, 8, 8, 8, 8, 8, 8, 8, 8, 8, 8, 8, 8, 8, 8, 8, 8, 8, 8, 8, 8, 8, 8, 8, 8, 8, 8, 8, 8, 8, 8, 8, 8, 8, 8, 8, 8, 8, 8, 8, 8, 8, 8, 8, 8, 8, 8, 8, 8, 8, 8, 8, 8, 8, 8])) (.r 21), none⟩, ⟨some 23, .toInt .i64 (.r 22), none⟩, ⟨some 24, .bin .add (.r 19) (.r 23), none⟩, ⟨some 2, .mv (.r 24), none⟩]) 
 .ret))))⟩
def c99 : AF := ⟨11, [.reg 4], .seq
  (.ops [⟨some 4, .mv (.c (.int .u64 (.ofNat 0))), none⟩]) 
 (.seq
  (.ops [⟨some 5, .mv (.r 0), none⟩, ⟨some 6, .mv (.r 1), none⟩, ⟨some 7, .bin .mul (.r 6) (.c (.int .u64 (.ofNat 14029467366897019727))), none⟩, ⟨some 8, .bin .add (.r 5) (.r 7), none⟩, ⟨some 9, .call 102 [.r 8, .c (.int .i64 (.ofNat 31))], none⟩, ⟨some 10, .bin .mul (.r 9) (.c (.int .u64 (.ofNat 11400714785074694791))), none⟩, ⟨some 4, .mv (.r 10), none⟩]) 
 .ret)⟩
def c100 : AF := ⟨23, [.reg 2], .seq
  (.ops [⟨some 2, .mv (.c (.int .u64 (.ofNat 0))), none⟩]) 
 (.seq
  (.ops [⟨some 3, .mv (.c (.int .u64 (.ofNat 0))), none⟩]) 
 (.seq
  (.seq
  (.ops [⟨some 6, .mv (.r 0), none⟩, ⟨some 7, .len .slice (.r 6), none⟩, ⟨some 8, .mv (.c (.int .i64 (.ofNat 0))), none⟩]) 
 (.block 0 (.loop (.seq
  (.ops [⟨some 9, .bin .lss (.r 8) (.r 7), none⟩]) 
 (.seq
  (.cond (.r 9) .skip (.exit 0)) 
 (.seq
  (.block 1 (.seq
  (.ops [⟨some 10, .mv (.r 8), none⟩, ⟨some 11, .indexSl 1 (.r 6) (.r 8), none⟩, ⟨some 12, .load1 (.r 11), none⟩, ⟨some 4, .mv (.r 10), none⟩, ⟨some 5, .mv (.r 12), none⟩]) 
 (.ops [⟨some 13, .mv (.r 3), none⟩, ⟨some 14, .mv (.r 5), none⟩, ⟨some 15, .toInt .u64 (.r 14), none⟩, ⟨some 16, .mv (.r 4), none⟩, ⟨some 17, .bin .mul (.c (.int .i64 (.ofNat 8))) (.r 16), none⟩, ⟨some 18, .toInt .u64 (.r 17), none⟩, ⟨some 19, .bin .shl (.r 15) (.r 18), none⟩, ⟨some 20, .bin .or (.r 13) (.r 19), none⟩, ⟨some 3, .mv (.r 20), none⟩]))) 
 (.ops [⟨some 21, .bin .add (.r 8) (.c (.int .i64 (.ofNat 1))), none⟩, ⟨some 8, .mv (.r 21), none⟩]))))))) 
 (.seq
  (.ops [⟨some 22, .mv (.r 3), none⟩, ⟨some 2, .mv (.r 22), none⟩]) 
 .ret)))⟩
def c101 : AF := ⟨44, [.reg 2], .seq
  (.ops [⟨some 2, .mv (.c (.int .u64 (.ofNat 0))), none⟩]) 
 (.seq
  (.seq
  (.ops [⟨some 8, .mv (.r 0), none⟩, ⟨some 9, .nilCheck (.r 8), none⟩, ⟨some 10, .fieldAt 37 (.r 9), none⟩, ⟨some 11, .load1 (.r 10), none⟩, ⟨some 12, .bin .lss (.r 11) (.c (.int .u64 (.ofNat 32))), none⟩]) 
 (.cond (.r 12) (.seq
  (.ops [⟨some 2, .mv (.c (.int .u64 (.ofNat 2870177450012600261))), none⟩]) 
 .ret) .skip)) 
 (.seq
  (.ops [⟨some 3, .mv (.c (.int .u64 (.ofNat 0))), none⟩]) 
 (.seq
  (.seq
  (.ops [⟨some 13, .build [.int .i64 (.ofNat 0), .int .i64 (.ofNat 0), .int .i64 (.ofNat 0), .int .i64 (.ofNat 0)] [(0, (1, .c (.int .i64 (.ofNat 1)))), (1, (1, .c (.int .i64 (.ofNat 7)))), (2, (1, .c (.int .i64 (.ofNat 12)))), (3, (1, .c (.int .i64 (.ofNat 18))))], none⟩, ⟨some 14, .mv (.c (.int .i64 (.ofNat 0))), none⟩]) 
 (.block 0 (.loop (.seq
  (.ops [⟨some 15, .bin .lss (.r 14) (.c (.int .i64 (.ofNat 4))), none⟩]) 
 (.seq
  (.cond (.r 15) .skip (.exit 0)) 
 (.seq
  (.block 1 (.seq
  (.ops [⟨some 16, .mv (.r 14), none⟩, ⟨some 17, .indexAgg 4 1 false (.r 13) (.r 14), none⟩, ⟨some 4, .mv (.r 16), none⟩, ⟨some 5, .mv (.r 17), none⟩]) 
 (.ops [⟨some 18, .mv (.r 3), none⟩, ⟨some 19, .mv (.r 0), none⟩, ⟨some 20, .mv (.r 4), none⟩, ⟨some 21, .nilCheck (.r 19), none⟩, ⟨some 22, .fieldAt 0 (.r 21), none⟩, ⟨some 23, .indexArr 4 1 (.r 22) (.r 20), none⟩, ⟨some 24, .load1 (.r 23), none⟩, ⟨some 25, .mv (.r 5), none⟩, ⟨some 26, .call 102 [.r 24, .r 25], none⟩, ⟨some 27, .bin .add (.r 18) (.r 26), none⟩, ⟨some 3, .mv (.r 27), none⟩]))) 
 (.ops [⟨some 28, .bin .add (.r 14) (.c (.int .i64 (.ofNat 1))), none⟩, ⟨some 14, .mv (.r 28), none⟩]))))))) 
 (.seq
  (.seq
  (.ops [⟨some 29, .mv (.r 0), none⟩, ⟨some 30, .nilCheck (.r 29), none⟩, ⟨some 31, .fieldAt 0 (.r 30), none⟩, ⟨some 32, .loadN 4 (.r 31), none⟩, ⟨some 33, .mv (.c (.int .i64 (.ofNat 0))), none⟩]) 
 (.block 2 (.loop (.seq
  (.ops [⟨some 34, .bin .lss (.r 33) (.c (.int .i64 (.ofNat 4))), none⟩]) 
 (.seq
  (.cond (.r 34) .skip (.exit 2)) 
 (.seq
  (.block 3 (.seq
  (.ops [⟨some 35, .indexAgg 4 1 false (.r 32) (.r 33), none⟩, ⟨some 7, .mv (.r 35), none⟩]) 
 (.ops [⟨some 36, .mv (.r 3), none⟩, ⟨some 37, .mv (.r 7), none⟩, ⟨some 38, .call 99 [.c (.int .u64 (.ofNat 0)), .r 37], none⟩, ⟨some 39, .bin .xor (.r 36) (.r 38), none⟩, ⟨some 40, .bin .mul (.r 39) (.c (.int .u64 (.ofNat 11400714785074694791))), none⟩, ⟨some 41, .bin .add (.r 40) (.c (.int .u64 (.ofNat 9650029242287828579))), none⟩, ⟨some 3, .mv (.r 41), none⟩]))) 
 (.ops [⟨some 42, .bin .add (.r 33) (.c (.int .i64 (.ofNat 1))), none⟩, ⟨some 33, .mv (.r 42), none⟩]))))))) 
 (.seq
  (.ops [⟨some 43, .mv (.r 3), none⟩, ⟨some 2, .mv (.r 43), none⟩]) 
 .ret)))))⟩
def c102 : AF := ⟨17, [.reg 4], .seq
  (.ops [⟨some 4, .mv (.c (.int .u64 (.ofNat 0))), none⟩]) 
 (.seq
  (.ops [⟨some 6, .mv (.r 1), none⟩, ⟨some 7, .toInt .u64 (.r 6), none⟩, ⟨some 8, .bin .and (.r 7) (.c (.int .u64 (.ofNat 63))), none⟩, ⟨some 5, .mv (.r 8), none⟩]) 
 (.seq
  (.ops [⟨some 9, .mv (.r 0), none⟩, ⟨some 10, .mv (.r 5), none⟩, ⟨some 11, .bin .shl (.r 9) (.r 10), none⟩, ⟨some 12, .mv (.r 0), none⟩, ⟨some 13, .mv (.r 5), none⟩, ⟨some 14, .bin .sub (.c (.int .u64 (.ofNat 64))) (.r 13), none⟩, ⟨some 15, .bin .shr (.r 12) (.r 14), none⟩, ⟨some 16, .bin .or (.r 11) (.r 15), none⟩, ⟨some 4, .mv (.r 16), none⟩]) 
 .ret))⟩
def c103 : AF := ⟨94, [.cell 2 4 true, .reg 3, .reg 4], .seq
  (.ops [⟨some 2, .alloc [.int .u64 (.ofNat 0), .int .u64 (.ofNat 0), .bool false, .bool false], none⟩, ⟨some 3, .mv (.c (.int .i64 (.ofNat 0))), none⟩, ⟨some 4, .mv (.c (.int .i64 (.ofNat 0))), none⟩]) 
 (.seq
  (.ops [⟨some 12, .mv (.r 0), none⟩, ⟨some 13, .call 47 [.r 12], none⟩, ⟨some 5, .mv (.r 13), none⟩]) 
 (.seq
  (.ops [⟨some 14, .mv (.r 5), none⟩, ⟨some 15, .call 49 [.r 14, .c (.int .i64 (.ofNat 1))], none⟩, ⟨some 16, .toInt .i64 (.r 15), none⟩, ⟨some 6, .mv (.r 16), none⟩]) 
 (.seq
  (.block 0 (.seq
  (.ops [⟨some 18, .mv (.r 5), none⟩, ⟨some 19, .call 77 [.r 18], none⟩, ⟨some 20, .bin .neq (.r 19) (.c (.int .i64 (.ofNat 0))), none⟩, ⟨some 17, .mv (.r 20), none⟩]) 
 (.cond (.r 17) (.seq
  (.ops [⟨some 21, .build [.int .u64 (.ofNat 0), .int .u64 (.ofNat 0), .bool false, .bool false] [], none⟩, ⟨some 22, .mv (.r 5), none⟩, ⟨some 23, .call 77 [.r 22], none⟩, ⟨none, .store 4 (.r 2) (.r 21), none⟩, ⟨some 3, .mv (.c (.int .i64 (.ofNat 0))), none⟩, ⟨some 4, .mv (.r 23), none⟩]) 
 .ret) (.seq
  (.ops [⟨some 25, .mv (.r 6), none⟩, ⟨some 26, .bin .and (.r 25) (.c (.int .i64 (.ofNat 8))), none⟩, ⟨some 27, .bin .neq (.r 26) (.c (.int .i64 (.ofNat 0))), none⟩, ⟨some 24, .mv (.r 27), none⟩]) 
 (.cond (.r 24) (.seq
  (.ops [⟨some 28, .build [.int .u64 (.ofNat 0), .int .u64 (.ofNat 0), .bool false, .bool false] [], none⟩, ⟨none, .store 4 (.r 2) (.r 28), none⟩, ⟨some 3, .mv (.c (.int .i64 (.ofNat 0))), none⟩, ⟨some 4, .mv (.c (.int .i64 (.ofNat 11))), none⟩]) 
 .ret) .skip))))) 
 (.seq
  (.ops [⟨some 29, .mv (.r 6), none⟩, ⟨some 30, .bin .and (.r 29) (.c (.int .i64 (.ofNat 4))), none⟩, ⟨some 31, .bin .neq (.r 30) (.c (.int .i64 (.ofNat 0))), none⟩, ⟨some 32, .build [.int .u64 (.ofNat 0), .int .u64 (.ofNat 0), .bool false, .bool false] [(3, (1, .r 31))], none⟩, ⟨some 7, .alloc [.int .u64 (.ofNat 0), .int .u64 (.ofNat 0), .bool false, .bool false], none⟩, ⟨none, .store 4 (.r 7) (.r 32), none⟩]) 
 (.seq
  (.ops [⟨some 33, .mv (.r 6), none⟩, ⟨some 34, .bin .and (.r 33) (.c (.int .i64 (.ofNat 32))), none⟩, ⟨some 35, .bin .neq (.r 34) (.c (.int .i64 (.ofNat 0))), none⟩, ⟨some 8, .mv (.r 35), none⟩]) 
 (.seq
  (.seq
  (.ops [⟨some 36, .mv (.r 8), none⟩, ⟨some 37, .un .not (.r 36), none⟩]) 
 (.cond (.r 37) (.ops [⟨some 38, .mv (.r 5), none⟩, ⟨some 39, .call 49 [.r 38, .c (.int .i64 (.ofNat 1))], none⟩, ⟨some 40, .call 112 [.r 39], none⟩, ⟨some 41, .fieldAt 0 (.r 7), none⟩, ⟨none, .store 1 (.r 41) (.r 40), none⟩]) .skip)) 
 (.seq
  (.ops [⟨some 9, .mv (.c (.int .u64 (.ofNat 0))), none⟩]) 
 (.seq
  (.seq
  (.ops [⟨some 42, .build [.int .i64 (.ofNat 0), .int .i64 (.ofNat 0), .int .i64 (.ofNat 0), .int .i64 (.ofNat 0)] [(0, (1, .c (.int .i64 (.ofNat 0)))), (1, (1, .c (.int .i64 (.ofNat 1)))), (2, (1, .c (.int .i64 (.ofNat 2)))), (3, (1, .c (.int .i64 (.ofNat 4))))], none⟩, ⟨some 43, .mv (.r 6), none⟩, ⟨some 44, .bin .and (.r 43) (.c (.int .i64 (.ofNat 3))), none⟩, ⟨some 45, .indexAgg 4 1 false (.r 42) (.r 44), none⟩, ⟨some 10, .mv (.r 45), none⟩]) 
 (.seq
  (.ops [⟨some 46, .mv (.r 10), none⟩, ⟨some 47, .bin .gtr (.r 46) (.c (.int .i64 (.ofNat 0))), none⟩]) 
 (.cond (.r 47) (.ops [⟨some 48, .mv (.r 5), none⟩, ⟨some 49, .mv (.r 10), none⟩, ⟨some 50, .call 49 [.r 48, .r 49], none⟩, ⟨some 9, .mv (.r 50), none⟩]) .skip))) 
 (.seq
  (.ops [⟨some 51, .build [.int .i64 (.ofNat 0), .int .i64 (.ofNat 0), .int .i64 (.ofNat 0), .int .i64 (.ofNat 0)] [(0, (1, .c (.int .i64 (.ofNat 0)))), (1, (1, .c (.int .i64 (.ofNat 2)))), (2, (1, .c (.int .i64 (.ofNat 4)))), (3, (1, .c (.int .i64 (.ofNat 8))))], none⟩, ⟨some 52, .mv (.r 6), none⟩, ⟨some 53, .bin .shr (.r 52) (.c (.int .u64 (.ofNat 6))), none⟩, ⟨some 54, .indexAgg 4 1 false (.r 51) (.r 53), none⟩, ⟨some 11, .mv (.r 54), none⟩]) 
 (.seq
  (.seq
  (.ops [⟨some 55, .mv (.r 8), none⟩, ⟨some 56, .mv (.r 55), none⟩, ⟨some 57, .mv (.r 11), some (56, true)⟩, ⟨some 58, .bin .eql (.r 57) (.c (.int .i64 (.ofNat 0))), some (56, true)⟩, ⟨some 59, .pick (.r 56) (.r 58) (.c (.bool false)), none⟩]) 
 (.cond (.r 59) (.ops [⟨some 11, .mv (.c (.int .i64 (.ofNat 1))), none⟩]) .skip)) 
 (.seq
  (.seq
  (.ops [⟨some 60, .mv (.r 11), none⟩, ⟨some 61, .bin .gtr (.r 60) (.c (.int .i64 (.ofNat 0))), none⟩]) 
 (.cond (.r 61) (.ops [⟨some 62, .mv (.r 5), none⟩, ⟨some 63, .mv (.r 11), none⟩, ⟨some 64, .call 49 [.r 62, .r 63], none⟩, ⟨some 65, .fieldAt 1 (.r 7), none⟩, ⟨none, .store 1 (.r 65) (.r 64), none⟩, ⟨some 66, .fieldAt 2 (.r 7), none⟩, ⟨none, .store 1 (.r 66) (.c (.bool true)), none⟩]) .skip)) 
 (.seq
  (.seq
  (.ops [⟨some 67, .mv (.r 11), none⟩, ⟨some 68, .bin .eql (.r 67) (.c (.int .i64 (.ofNat 2))), none⟩]) 
 (.cond (.r 68) (.ops [⟨some 69, .fieldAt 1 (.r 7), none⟩, ⟨some 70, .load1 (.r 69), none⟩, ⟨some 71, .bin .add (.r 70) (.c (.int .u64 (.ofNat 256))), none⟩, ⟨some 72, .fieldAt 1 (.r 7), none⟩, ⟨none, .store 1 (.r 72) (.r 71), none⟩]) .skip)) 
 (.seq
  (.seq
  (.ops [⟨some 73, .mv (.r 8), none⟩]) 
 (.cond (.r 73) (.ops [⟨some 74, .fieldAt 1 (.r 7), none⟩, ⟨some 75, .load1 (.r 74), none⟩, ⟨some 76, .fieldAt 0 (.r 7), none⟩, ⟨none, .store 1 (.r 76) (.r 75), none⟩]) .skip)) 
 (.seq
  (.block 1 (.seq
  (.ops [⟨some 78, .mv (.r 5), none⟩, ⟨some 79, .call 77 [.r 78], none⟩, ⟨some 80, .bin .neq (.r 79) (.c (.int .i64 (.ofNat 0))), none⟩, ⟨some 77, .mv (.r 80), none⟩]) 
 (.cond (.r 77) (.seq
  (.ops [⟨some 81, .build [.int .u64 (.ofNat 0), .int .u64 (.ofNat 0), .bool false, .bool false] [], none⟩, ⟨some 82, .mv (.r 5), none⟩, ⟨some 83, .call 77 [.r 82], none⟩, ⟨none, .store 4 (.r 2) (.r 81), none⟩, ⟨some 3, .mv (.c (.int .i64 (.ofNat 0))), none⟩, ⟨some 4, .mv (.r 83), none⟩]) 
 .ret) (.seq
  (.ops [⟨some 85, .mv (.r 9), none⟩, ⟨some 86, .bin .neq (.r 85) (.c (.int .u64 (.ofNat 0))), none⟩, ⟨some 84, .mv (.r 86), none⟩]) 
 (.cond (.r 84) (.seq
  (.ops [⟨some 87, .build [.int .u64 (.ofNat 0), .int .u64 (.ofNat 0), .bool false, .bool false] [], none⟩, ⟨none, .store 4 (.r 2) (.r 87), none⟩, ⟨some 3, .mv (.c (.int .i64 (.ofNat 0))), none⟩, ⟨some 4, .mv (.c (.int .i64 (.ofNat 14))), none⟩]) 
 .ret) .skip))))) 
 (.seq
  (.multi [(1, ⟨some 88, .loadN 4 (.r 7), none⟩), (0, ⟨some 89, .mv (.r 0), none⟩), (0, ⟨some 90, .len .slice (.r 89), none⟩), (0, ⟨some 91, .mv (.r 5), none⟩), (4, ⟨some 92, .call 76 [.r 91], none⟩), (0, ⟨some 93, .bin .sub (.r 90) (.r 92), none⟩), (5, ⟨none, .store 4 (.r 2) (.r 88), none⟩), (0, ⟨some 3, .mv (.r 93), none⟩), (0, ⟨some 4, .mv (.c (.int .i64 (.ofNat 0))), none⟩)] [(0, 4)]) 
 .ret)))))))))))))))⟩
def c104 : AF := ⟨105, [.reg 8, .cell 9 10 true, .reg 10, .reg 11], .seq
  (.ops [⟨some 6, .box 10 (.r 2), none⟩, ⟨some 8, .mv (.c .nilslice), none⟩, ⟨some 9, .alloc [.nilslice, .int .i64 (.ofNat 0), .nilslice, .int .i64 (.ofNat 0), .nilslice, .int .i64 (.ofNat 0), .nilslice, .int .u32 (.ofNat 0), .int .u32 (.ofNat 0), .int .u32 (.ofNat 0)], none⟩, ⟨some 10, .mv (.c (.bool false)), none⟩, ⟨some 11, .mv (.c (.int .i64 (.ofNat 0))), none⟩]) 
 (.seq
  (.ops [⟨some 17, .mv (.r 3), none⟩, ⟨some 18, .maxmin false (.r 17) [.c (.int .u64 (.ofNat 131072))], none⟩, ⟨some 19, .toInt .i64 (.r 18), none⟩, ⟨some 12, .mv (.r 19), none⟩]) 
 (.seq
  (.ops [⟨some 21, .mv (.r 0), none⟩, ⟨some 22, .call 113 [.r 21, .c (.int .i64 (.ofNat 3))], none⟩, ⟨some 20, .mv (.r 22), none⟩, ⟨some 23, .extract 0 (.r 20), none⟩, ⟨some 24, .extract 1 (.r 20), none⟩, ⟨some 13, .mv (.r 23), none⟩, ⟨some 14, .mv (.r 24), none⟩]) 
 (.seq
  (.seq
  (.ops [⟨some 25, .mv (.r 14), none⟩, ⟨some 26, .bin .neq (.r 25) (.c (.int .i64 (.ofNat 0))), none⟩]) 
 (.cond (.r 26) (.seq
  (.ops [⟨some 27, .build [.nilslice, .int .i64 (.ofNat 0), .nilslice, .int .i64 (.ofNat 0), .nilslice, .int .i64 (.ofNat 0), .nilslice, .int .u32 (.ofNat 0), .int .u32 (.ofNat 0), .int .u32 (.ofNat 0)] [], none⟩, ⟨some 28, .mv (.r 14), none⟩, ⟨some 8, .mv (.c .nilslice), none⟩, ⟨none, .store 10 (.r 9) (.r 27), none⟩, ⟨some 10, .mv (.c (.bool false)), none⟩, ⟨some 11, .mv (.r 28), none⟩]) 
 .ret) .skip)) 
 (.seq
  (.ops [⟨some 30, .mv (.r 13), none⟩, ⟨some 31, .call 114 [.r 30], none⟩, ⟨some 29, .mv (.r 31), none⟩, ⟨some 32, .extract 0 (.r 29), none⟩, ⟨some 33, .extract 1 (.r 29), none⟩, ⟨some 15, .alloc [.bool false, .int .i64 (.ofNat 0), .int .i64 (.ofNat 0)], none⟩, ⟨none, .store 3 (.r 15) (.r 32), none⟩, ⟨some 14, .mv (.r 33), none⟩]) 
 (.seq
  (.seq
  (.ops [⟨some 34, .mv (.r 14), none⟩, ⟨some 35, .bin .neq (.r 34) (.c (.int .i64 (.ofNat 0))), none⟩]) 
 (.cond (.r 35) (.seq
  (.ops [⟨some 36, .build [.nilslice, .int .i64 (.ofNat 0), .nilslice, .int .i64 (.ofNat 0), .nilslice, .int .i64 (.ofNat 0), .nilslice, .int .u32 (.ofNat 0), .int .u32 (.ofNat 0), .int .u32 (.ofNat 0)] [], none⟩, ⟨some 37, .mv (.r 14), none⟩, ⟨some 8, .mv (.c .nilslice), none⟩, ⟨none, .store 10 (.r 9) (.r 36), none⟩, ⟨some 10, .mv (.c (.bool false)), none⟩, ⟨some 11, .mv (.r 37), none⟩]) 
 .ret) .skip)) 
 (.seq
  (.seq
  (.ops [⟨some 38, .fieldAt 2 (.r 15), none⟩, ⟨some 39, .load1 (.r 38), none⟩, ⟨some 40, .mv (.r 12), none⟩, ⟨some 41, .bin .gtr (.r 39) (.r 40), none⟩]) 
 (.cond (.r 41) (.seq
  (.ops [⟨some 42, .build [.nilslice, .int .i64 (.ofNat 0), .nilslice, .int .i64 (.ofNat 0), .nilslice, .int .i64 (.ofNat 0), .nilslice, .int .u32 (.ofNat 0), .int .u32 (.ofNat 0), .int .u32 (.ofNat 0)] [], none⟩, ⟨some 8, .mv (.c .nilslice), none⟩, ⟨none, .store 10 (.r 9) (.r 42), none⟩, ⟨some 10, .mv (.c (.bool false)), none⟩, ⟨some 11, .mv (.c (.int .i64 (.ofNat 12))), none⟩]) 
 .ret) .skip)) 
 (.seq
  (.ops [⟨some 43, .fieldAt 2 (.r 15), none⟩, ⟨some 44, .load1 (.r 43), none⟩, ⟨some 16, .mv (.r 44), none⟩]) 
 (.seq
  (.seq
  (.ops [⟨some 45, .fieldAt 1 (.r 15), none⟩, ⟨some 46, .load1 (.r 45), none⟩, ⟨some 47, .bin .eql (.r 46) (.c (.int .i64 (.ofNat 1))), none⟩]) 
 (.cond (.r 47) (.ops [⟨some 16, .mv (.c (.int .i64 (.ofNat 1))), none⟩]) .skip)) 
 (.seq
  (.seq
  (.ops [⟨some 49, .mv (.r 0), none⟩, ⟨some 50, .mv (.r 16), none⟩, ⟨some 51, .call 113 [.r 49, .r 50], none⟩, ⟨some 48, .mv (.r 51), none⟩, ⟨some 52, .extract 0 (.r 48), none⟩, ⟨some 53, .extract 1 (.r 48), none⟩, ⟨some 13, .mv (.r 52), none⟩, ⟨some 14, .mv (.r 53), none⟩]) 
 (.seq
  (.ops [⟨some 54, .mv (.r 14), none⟩, ⟨some 55, .bin .neq (.r 54) (.c (.int .i64 (.ofNat 0))), none⟩]) 
 (.cond (.r 55) (.seq
  (.ops [⟨some 56, .build [.nilslice, .int .i64 (.ofNat 0), .nilslice, .int .i64 (.ofNat 0), .nilslice, .int .i64 (.ofNat 0), .nilslice, .int .u32 (.ofNat 0), .int .u32 (.ofNat 0), .int .u32 (.ofNat 0)] [], none⟩, ⟨some 57, .mv (.r 14), none⟩, ⟨some 8, .mv (.c .nilslice), none⟩, ⟨none, .store 10 (.r 9) (.r 56), none⟩, ⟨some 10, .mv (.c (.bool false)), none⟩, ⟨some 11, .mv (.r 57), none⟩]) 
 .ret) .skip))) 
 (.seq
  (.seq
  (.ops [⟨some 58, .fieldAt 1 (.r 15), none⟩, ⟨some 59, .load1 (.r 58), none⟩]) 
 (.block 0 (.seq
  (.ops [⟨some 75, .bin .eql (.r 59) (.c (.int .i64 (.ofNat 0))), none⟩, ⟨some 74, .mv (.r 75), none⟩]) 
 (.cond (.r 74) (.ops [⟨some 76, .mv (.r 1), none⟩, ⟨some 77, .mv (.r 13), none⟩, ⟨some 78, .append 1 1 (.r 76) (.r 77), none⟩, ⟨some 1, .mv (.r 78), none⟩]) (.seq
  (.ops [⟨some 80, .bin .eql (.r 59) (.c (.int .i64 (.ofNat 1))), none⟩, ⟨some 79, .mv (.r 80), none⟩]) 
 (.cond (.r 79) (.ops [⟨some 81, .mv (.r 1), none⟩, ⟨some 82, .mv (.r 13), none⟩, ⟨some 83, .fieldAt 2 (.r 15), none⟩, ⟨some 84, .load1 (.r 83), none⟩, ⟨some 85, .call 115 [.r 82, .r 84], none⟩, ⟨some 86, .append 1 1 (.r 81) (.r 85), none⟩, ⟨some 1, .mv (.r 86), none⟩]) (.seq
  (.ops [⟨some 61, .mv (.r 13), none⟩, ⟨some 62, .mv (.r 1), none⟩, ⟨some 63, .loadN 10 (.r 6), none⟩, ⟨some 64, .mv (.r 3), none⟩, ⟨some 65, .mv (.r 12), none⟩, ⟨some 66, .call 116 [.r 61, .r 62, .r 63, .r 64, .r 65], none⟩, ⟨some 60, .mv (.r 66), none⟩, ⟨some 67, .extract 0 (.r 60), none⟩, ⟨some 68, .extract 1 (.r 60), none⟩, ⟨some 69, .extract 2 (.r 60), none⟩, ⟨some 1, .mv (.r 67), none⟩, ⟨none, .store 10 (.r 6) (.r 68), none⟩, ⟨some 14, .mv (.r 69), none⟩]) 
 (.seq
  (.ops [⟨some 70, .mv (.r 14), none⟩, ⟨some 71, .bin .neq (.r 70) (.c (.int .i64 (.ofNat 0))), none⟩]) 
 (.cond (.r 71) (.seq
  (.ops [⟨some 72, .build [.nilslice, .int .i64 (.ofNat 0), .nilslice, .int .i64 (.ofNat 0), .nilslice, .int .i64 (.ofNat 0), .nilslice, .int .u32 (.ofNat 0), .int .u32 (.ofNat 0), .int .u32 (.ofNat 0)] [], none⟩, ⟨some 73, .mv (.r 14), none⟩, ⟨some 8, .mv (.c .nilslice), none⟩, ⟨none, .store 10 (.r 9) (.r 72), none⟩, ⟨some 10, .mv (.c (.bool false)), none⟩, ⟨some 11, .mv (.r 73), none⟩]) 
 .ret) .skip))))))))) 
 (.seq
  (.seq
  (.ops [⟨some 87, .mv (.r 0), none⟩, ⟨some 88, .nilCheck (.r 87), none⟩, ⟨some 89, .fieldAt 3 (.r 88), none⟩, ⟨some 90, .load1 (.r 89), none⟩, ⟨some 91, .len .slice (.r 90), none⟩, ⟨some 92, .mv (.r 1), none⟩, ⟨some 93, .len .slice (.r 92), none⟩, ⟨some 94, .bin .add (.r 91) (.r 93), none⟩, ⟨some 95, .mv (.r 0), none⟩, ⟨some 96, .nilCheck (.r 95), none⟩, ⟨some 97, .fieldAt 2 (.r 96), none⟩, ⟨some 98, .load1 (.r 97), none⟩, ⟨some 99, .bin .gtr (.r 94) (.r 98), none⟩]) 
 (.cond (.r 99) (.seq
  (.ops [⟨some 100, .build [.nilslice, .int .i64 (.ofNat 0), .nilslice, .int .i64 (.ofNat 0), .nilslice, .int .i64 (.ofNat 0), .nilslice, .int .u32 (.ofNat 0), .int .u32 (.ofNat 0), .int .u32 (.ofNat 0)] [], none⟩, ⟨some 8, .mv (.c .nilslice), none⟩, ⟨none, .store 10 (.r 9) (.r 100), none⟩, ⟨some 10, .mv (.c (.bool false)), none⟩, ⟨some 11, .mv (.c (.int .i64 (.ofNat 12))), none⟩]) 
 .ret) .skip)) 
 (.seq
  (.multi [(0, ⟨some 101, .mv (.r 1), none⟩), (5, ⟨some 102, .loadN 10 (.r 6), none⟩), (0, ⟨some 103, .fieldAt 0 (.r 15), none⟩), (1, ⟨some 104, .load1 (.r 103), none⟩), (0, ⟨some 8, .mv (.r 101), none⟩), (3, ⟨none, .store 10 (.r 9) (.r 102), none⟩), (0, ⟨some 10, .mv (.r 104), none⟩), (0, ⟨some 11, .mv (.c (.int .i64 (.ofNat 0))), none⟩)] [(3, 5)]) 
 .ret))))))))))))⟩
def c105 : AF := ⟨24, [.reg 4], .seq
  (.ops [⟨some 4, .mv (.c (.int .i64 (.ofNat 0))), none⟩]) 
 (.seq
  (.ops [⟨some 9, .mv (.r 0), none⟩, ⟨some 10, .call 113 [.r 9, .c (.int .i64 (.ofNat 4))], none⟩, ⟨some 8, .mv (.r 10), none⟩, ⟨some 11, .extract 0 (.r 8), none⟩, ⟨some 12, .extract 1 (.r 8), none⟩, ⟨some 5, .mv (.r 11), none⟩, ⟨some 6, .mv (.r 12), none⟩]) 
 (.seq
  (.seq
  (.ops [⟨some 13, .mv (.r 6), none⟩, ⟨some 14, .bin .neq (.r 13) (.c (.int .i64 (.ofNat 0))), none⟩]) 
 (.cond (.r 14) (.seq
  (.ops [⟨some 15, .mv (.r 6), none⟩, ⟨some 4, .mv (.r 15), none⟩]) 
 .ret) .skip)) 
 (.seq
  (.seq
  (.ops [⟨some 16, .mv (.r 5), none⟩, ⟨some 17, .call 47 [.r 16], none⟩, ⟨some 18, .call 49 [.r 17, .c (.int .i64 (.ofNat 4))], none⟩, ⟨some 7, .mv (.r 18), none⟩]) 
 (.seq
  (.ops [⟨some 19, .mv (.r 7), none⟩, ⟨some 20, .mv (.r 1), none⟩, ⟨some 21, .call 38 [.r 20], none⟩, ⟨some 22, .bin .and (.r 21) (.c (.int .u64 (.ofNat 4294967295))), none⟩, ⟨some 23, .bin .neq (.r 19) (.r 22), none⟩]) 
 (.cond (.r 23) (.seq
  (.ops [⟨some 4, .mv (.c (.int .i64 (.ofNat 13))), none⟩]) 
 .ret) .skip))) 
 (.seq
  (.ops [⟨some 4, .mv (.c (.int .i64 (.ofNat 0))), none⟩]) 
 .ret))))⟩
def c106 : AF := ⟨12, [.reg 2], .seq
  (.ops [⟨some 1, .box 1 (.r 0), none⟩, ⟨some 2, .mv (.c (.bool false)), none⟩]) 
 (.seq
  (.ops [⟨some 3, .load1 (.r 1), none⟩, ⟨some 4, .len .slice (.r 3), none⟩, ⟨some 5, .bin .gtr (.r 4) (.c (.int .i64 (.ofNat 0))), none⟩, ⟨some 6, .mv (.r 5), none⟩, ⟨some 7, .load1 (.r 1), some (6, true)⟩, ⟨some 8, .makeFunc (.func 118) [] [.r 1], some (6, true)⟩, ⟨some 9, .call 117 [.r 7, .r 8], some (6, true)⟩, ⟨some 10, .un .not (.r 9), some (6, true)⟩, ⟨some 11, .pick (.r 6) (.r 10) (.c (.bool false)), none⟩, ⟨some 2, .mv (.r 11), none⟩]) 
 .ret)⟩
def c107 : AF := ⟨105, [.reg 10, .cell 11 3 true, .reg 12], .seq
  (.ops [⟨some 9, .box 3 (.r 4), none⟩, ⟨some 10, .mv (.c .nilslice), none⟩, ⟨some 11, .alloc [.int .u32 (.ofNat 0), .int .u32 (.ofNat 0), .int .u32 (.ofNat 0)], none⟩, ⟨some 12, .mv (.c (.int .i64 (.ofNat 0))), none⟩]) 
 (.seq
  (.ops [⟨some 23, .mv (.r 0), none⟩, ⟨some 24, .mv (.r 1), none⟩, ⟨some 25, .mv (.r 2), none⟩, ⟨some 26, .mv (.r 3), none⟩, ⟨some 27, .call 119 [.r 23, .r 24, .r 25, .r 26], none⟩, ⟨some 22, .mv (.r 27), none⟩, ⟨some 28, .extract 0 (.r 22), none⟩, ⟨some 29, .extract 1 (.r 22), none⟩, ⟨some 30, .extract 2 (.r 22), none⟩, ⟨some 13, .mv (.r 28), none⟩, ⟨some 14, .mv (.r 29), none⟩, ⟨some 15, .mv (.r 30), none⟩]) 
 (.seq
  (.seq
  (.ops [⟨some 31, .mv (.r 15), none⟩, ⟨some 32, .bin .neq (.r 31) (.c (.int .i64 (.ofNat 0))), none⟩]) 
 (.cond (.r 32) (.seq
  (.ops [⟨some 33, .loadN 3 (.r 9), none⟩, ⟨some 34, .mv (.r 15), none⟩, ⟨some 10, .mv (.c .nilslice), none⟩, ⟨none, .store 3 (.r 11) (.r 33), none⟩, ⟨some 12, .mv (.r 34), none⟩]) 
 .ret) .skip)) 
 (.seq
  (.ops [⟨some 16, .mv (.c .nilslice), none⟩]) 
 (.seq
  (.ops [⟨some 35, .mv (.r 1), none⟩, ⟨some 17, .mv (.r 35), none⟩]) 
 (.seq
  (.seq
  (.ops [⟨some 36, .mv (.r 13), none⟩, ⟨some 37, .len .slice (.r 36), none⟩, ⟨some 38, .mv (.c (.int .i64 (.ofNat 0))), none⟩]) 
 (.block 0 (.loop (.seq
  (.ops [⟨some 39, .bin .lss (.r 38) (.r 37), none⟩]) 
 (.seq
  (.cond (.r 39) .skip (.exit 0)) 
 (.seq
  (.block 1 (.seq
  (.ops [⟨some 40, .mv (.r 38), none⟩, ⟨some 41, .indexSl 3 (.r 36) (.r 38), none⟩, ⟨some 42, .loadN 3 (.r 41), none⟩, ⟨some 19, .alloc [.int .u32 (.ofNat 0), .int .u32 (.ofNat 0), .int .u32 (.ofNat 0)], none⟩, ⟨some 18, .mv (.r 40), none⟩, ⟨none, .store 3 (.r 19) (.r 42), none⟩]) 
 (.seq
  (.ops [⟨some 43, .mv (.r 16), none⟩, ⟨some 44, .mv (.r 0), none⟩, ⟨some 45, .mv (.r 17), none⟩, ⟨some 46, .mv (.r 17), none⟩, ⟨some 47, .fieldAt 0 (.r 19), none⟩, ⟨some 48, .load1 (.r 47), none⟩, ⟨some 49, .toInt .i64 (.r 48), none⟩, ⟨some 50, .bin .add (.r 46) (.r 49), none⟩, ⟨some 51, .sliceSl 1 true (.r 44) (some (.r 45)) (some (.r 50)) none, none⟩, ⟨some 52, .append 1 1 (.r 43) (.r 51), none⟩, ⟨some 16, .mv (.r 52), none⟩]) 
 (.seq
  (.ops [⟨some 53, .mv (.r 17), none⟩, ⟨some 54, .fieldAt 0 (.r 19), none⟩, ⟨some 55, .load1 (.r 54), none⟩, ⟨some 56, .toInt .i64 (.r 55), none⟩, ⟨some 57, .fieldAt 1 (.r 19), none⟩, ⟨some 58, .load1 (.r 57), none⟩, ⟨some 59, .toInt .i64 (.r 58), none⟩, ⟨some 60, .bin .add (.r 56) (.r 59), none⟩, ⟨some 61, .bin .add (.r 53) (.r 60), none⟩, ⟨some 17, .mv (.r 61), none⟩]) 
 (.ops [⟨some 63, .mv (.r 13), none⟩, ⟨some 64, .mv (.r 18), none⟩, ⟨some 65, .loadN 3 (.r 9), none⟩, ⟨some 66, .fieldAt 0 (.r 19), none⟩, ⟨some 67, .load1 (.r 66), none⟩, ⟨some 68, .fieldAt 2 (.r 19), none⟩, ⟨some 69, .load1 (.r 68), none⟩, ⟨some 70, .call 120 [.r 65, .r 67, .r 69], none⟩, ⟨some 62, .mv (.r 70), none⟩, ⟨some 71, .extract 0 (.r 62), none⟩, ⟨some 72, .extract 1 (.r 62), none⟩, ⟨some 73, .indexSl 3 (.r 63) (.r 64), none⟩, ⟨some 74, .fieldAt 2 (.r 73), none⟩, ⟨none, .store 1 (.r 74) (.r 71), none⟩, ⟨none, .store 3 (.r 9) (.r 72), none⟩]))))) 
 (.ops [⟨some 75, .bin .add (.r 38) (.c (.int .i64 (.ofNat 1))), none⟩, ⟨some 38, .mv (.r 75), none⟩]))))))) 
 (.seq
  (.ops [⟨some 76, .mv (.r 16), none⟩, ⟨some 77, .mv (.r 0), none⟩, ⟨some 78, .mv (.r 17), none⟩, ⟨some 79, .mv (.r 2), none⟩, ⟨some 80, .sliceSl 1 true (.r 77) (some (.r 78)) (some (.r 79)) none, none⟩, ⟨some 81, .append 1 1 (.r 76) (.r 80), none⟩, ⟨some 16, .mv (.r 81), none⟩]) 
 (.seq
  (.ops [⟨some 83, .mv (.r 16), none⟩, ⟨some 84, .call 121 [.r 83], none⟩, ⟨some 82, .mv (.r 84), none⟩, ⟨some 85, .extract 0 (.r 82), none⟩, ⟨some 86, .extract 1 (.r 82), none⟩, ⟨some 20, .mv (.r 85), none⟩, ⟨some 15, .mv (.r 86), none⟩]) 
 (.seq
  (.seq
  (.ops [⟨some 87, .mv (.r 15), none⟩, ⟨some 88, .bin .neq (.r 87) (.c (.int .i64 (.ofNat 0))), none⟩]) 
 (.cond (.r 88) (.seq
  (.ops [⟨some 89, .loadN 3 (.r 9), none⟩, ⟨some 90, .mv (.r 15), none⟩, ⟨some 10, .mv (.c .nilslice), none⟩, ⟨none, .store 3 (.r 11) (.r 89), none⟩, ⟨some 12, .mv (.r 90), none⟩]) 
 .ret) .skip)) 
 (.seq
  (.ops [⟨some 92, .mv (.r 13), none⟩, ⟨some 93, .call 122 [.r 92], none⟩, ⟨some 91, .mv (.r 93), none⟩, ⟨some 94, .extract 0 (.r 91), none⟩, ⟨some 95, .extract 1 (.r 91), none⟩, ⟨some 21, .mv (.r 94), none⟩, ⟨some 15, .mv (.r 95), none⟩]) 
 (.seq
  (.seq
  (.ops [⟨some 96, .mv (.r 15), none⟩, ⟨some 97, .bin .neq (.r 96) (.c (.int .i64 (.ofNat 0))), none⟩]) 
 (.cond (.r 97) (.seq
  (.ops [⟨some 98, .loadN 3 (.r 9), none⟩, ⟨some 99, .mv (.r 15), none⟩, ⟨some 10, .mv (.c .nilslice), none⟩, ⟨none, .store 3 (.r 11) (.r 98), none⟩, ⟨some 12, .mv (.r 99), none⟩]) 
 .ret) .skip)) 
 (.seq
  (.multi [(0, ⟨some 100, .mv (.r 20), none⟩), (0, ⟨some 101, .mv (.r 21), none⟩), (2, ⟨some 102, .buildSlice 1 2 [.nilslice] [(0, (1, .r 100)), (1, (1, .r 101))], none⟩), (4, ⟨some 103, .call 56 [.r 102], none⟩), (1, ⟨some 104, .loadN 3 (.r 9), none⟩), (0, ⟨some 10, .mv (.r 103), none⟩), (5, ⟨none, .store 3 (.r 11) (.r 104), none⟩), (0, ⟨some 12, .mv (.c (.int .i64 (.ofNat 0))), none⟩)] [(2, 4), (3, 4)]) 
 .ret)))))))))))⟩
def c108 : AF := ⟨42, [.reg 2, .reg 3], .seq
  (.ops [⟨some 1, .box 3 (.r 0), none⟩, ⟨some 2, .mv (.c .nilslice), none⟩, ⟨some 3, .mv (.c (.int .i64 (.ofNat 0))), none⟩]) 
 (.seq
  (.seq
  (.ops [⟨some 6, .fieldAt 1 (.r 1), none⟩, ⟨some 7, .load1 (.r 6), none⟩, ⟨some 8, .bin .lss (.r 7) (.c (.int .i64 (.ofNat 0))), none⟩, ⟨some 9, .mv (.r 8), none⟩, ⟨some 10, .fieldAt 1 (.r 1), some (9, false)⟩, ⟨some 11, .load1 (.r 10), some (9, false)⟩, ⟨some 12, .bin .gtr (.r 11) (.c (.int .i64 (.ofNat 2))), some (9, false)⟩, ⟨some 13, .pick (.r 9) (.c (.bool true)) (.r 12), none⟩, ⟨some 14, .mv (.r 13), none⟩, ⟨some 15, .fieldAt 2 (.r 1), some (14, false)⟩, ⟨some 16, .load1 (.r 15), some (14, false)⟩, ⟨some 17, .bin .lss (.r 16) (.c (.int .i64 (.ofNat 0))), some (14, false)⟩, ⟨some 18, .pick (.r 14) (.c (.bool true)) (.r 17), none⟩, ⟨some 19, .mv (.r 18), none⟩, ⟨some 20, .fieldAt 2 (.r 1), some (19, false)⟩, ⟨some 21, .load1 (.r 20), some (19, false)⟩, ⟨some 22, .bin .geq (.r 21) (.c (.int .i64 (.ofNat 2097152))), some (19, false)⟩, ⟨some 23, .pick (.r 19) (.c (.bool true)) (.r 22), none⟩]) 
 (.cond (.r 23) (.seq
  (.ops [⟨some 2, .mv (.c .nilslice), none⟩, ⟨some 3, .mv (.c (.int .i64 (.ofNat 1))), none⟩]) 
 .ret) .skip)) 
 (.seq
  (.ops [⟨some 24, .fieldAt 2 (.r 1), none⟩, ⟨some 25, .load1 (.r 24), none⟩, ⟨some 26, .bin .shl (.r 25) (.c (.int .u64 (.ofNat 3))), none⟩, ⟨some 27, .fieldAt 1 (.r 1), none⟩, ⟨some 28, .load1 (.r 27), none⟩, ⟨some 29, .bin .shl (.r 28) (.c (.int .u64 (.ofNat 1))), none⟩, ⟨some 30, .bin .or (.r 26) (.r 29), none⟩, ⟨some 4, .mv (.r 30), none⟩]) 
 (.seq
  (.seq
  (.ops [⟨some 31, .fieldAt 0 (.r 1), none⟩, ⟨some 32, .load1 (.r 31), none⟩]) 
 (.cond (.r 32) (.ops [⟨some 33, .mv (.r 4), none⟩, ⟨some 34, .bin .or (.r 33) (.c (.int .i64 (.ofNat 1))), none⟩, ⟨some 4, .mv (.r 34), none⟩]) .skip)) 
 (.seq
  (.ops [⟨some 35, .call 43 [], none⟩, ⟨some 5, .mv (.r 35), none⟩]) 
 (.seq
  (.ops [⟨some 36, .mv (.r 5), none⟩, ⟨some 37, .mv (.r 4), none⟩, ⟨some 38, .toInt .u64 (.r 37), none⟩, ⟨some 39, .call 44 [.r 36, .r 38, .c (.int .i64 (.ofNat 3))], none⟩]) 
 (.seq
  (.ops [⟨some 40, .mv (.r 5), none⟩, ⟨some 41, .call 46 [.r 40], none⟩, ⟨some 2, .mv (.r 41), none⟩, ⟨some 3, .mv (.c (.int .i64 (.ofNat 0))), none⟩]) 
 .ret))))))⟩
def c109 : AF := ⟨6, [.reg 2], .seq
  (.ops [⟨some 2, .mv (.c (.int .i64 (.ofNat 0))), none⟩]) 
 (.seq
  (.ops [⟨some 3, .mv (.r 0), none⟩, ⟨some 4, .call 98 [.r 3], none⟩, ⟨some 5, .bin .sub (.c (.int .i64 (.ofNat 64))) (.r 4), none⟩, ⟨some 2, .mv (.r 5), none⟩]) 
 .ret)⟩
def c110 : AF := ⟨22, [.reg 8], .seq
  (.ops [⟨some 8, .mv (.c (.int .u32 (.ofNat 0))), none⟩]) 
 (.seq
  (.ops [⟨some 9, .mv (.r 0), none⟩, ⟨some 10, .mv (.r 1), none⟩, ⟨some 11, .un .neg (.r 10), none⟩, ⟨some 12, .call 123 [.r 9, .r 11], none⟩, ⟨some 13, .mv (.r 0), none⟩, ⟨some 14, .mv (.r 2), none⟩, ⟨some 15, .un .neg (.r 14), none⟩, ⟨some 16, .call 123 [.r 13, .r 15], none⟩, ⟨some 17, .bin .xor (.r 12) (.r 16), none⟩, ⟨some 18, .mv (.r 0), none⟩, ⟨some 19, .mv (.r 3), none⟩, ⟨some 20, .bin .shr (.r 18) (.r 19), none⟩, ⟨some 21, .bin .xor (.r 17) (.r 20), none⟩, ⟨some 8, .mv (.r 21), none⟩]) 
 .ret)⟩
def c111 : AF := ⟨23, [.reg 8], .seq
  (.ops [⟨some 8, .mv (.c (.int .u32 (.ofNat 0))), none⟩]) 
 (.seq
  (.ops [⟨some 9, .mv (.r 0), none⟩, ⟨some 10, .mv (.r 1), none⟩, ⟨some 11, .un .neg (.r 10), none⟩, ⟨some 12, .call 123 [.r 9, .r 11], none⟩, ⟨some 13, .mv (.r 0), none⟩, ⟨some 14, .mv (.r 2), none⟩, ⟨some 15, .un .neg (.r 14), none⟩, ⟨some 16, .call 123 [.r 13, .r 15], none⟩, ⟨some 17, .bin .xor (.r 12) (.r 16), none⟩, ⟨some 18, .mv (.r 0), none⟩, ⟨some 19, .mv (.r 3), none⟩, ⟨some 20, .un .neg (.r 19), none⟩, ⟨some 21, .call 123 [.r 18, .r 20], none⟩, ⟨some 22, .bin .xor (.r 17) (.r 21), none⟩, ⟨some 8, .mv (.r 22), none⟩]) 
 .ret)⟩
def c112 : AF := ⟨15, [.reg 2], .seq
  (.ops [⟨some 2, .mv (.c (.int .u64 (.ofNat 0))), none⟩]) 
 (.seq
  (.ops [⟨some 4, .mv (.r 0), none⟩, ⟨some 5, .bin .shr (.r 4) (.c (.int .u64 (.ofNat 3))), none⟩, ⟨some 6, .bin .add (.c (.int .u64 (.ofNat 10))) (.r 5), none⟩, ⟨some 7, .bin .shl (.c (.int .u64 (.ofNat 1))) (.r 6), none⟩, ⟨some 3, .mv (.r 7), none⟩]) 
 (.seq
  (.ops [⟨some 8, .mv (.r 3), none⟩, ⟨some 9, .mv (.r 3), none⟩, ⟨some 10, .bin .quo (.r 9) (.c (.int .u64 (.ofNat 8))), none⟩, ⟨some 11, .mv (.r 0), none⟩, ⟨some 12, .bin .and (.r 11) (.c (.int .u64 (.ofNat 7))), none⟩, ⟨some 13, .bin .mul (.r 10) (.r 12), none⟩, ⟨some 14, .bin .add (.r 8) (.r 13), none⟩, ⟨some 2, .mv (.r 14), none⟩]) 
 .ret))⟩
def c113 : AF := ⟨19, [.reg 4, .reg 5], .seq
  (.ops [⟨some 4, .mv (.c .nilslice), none⟩, ⟨some 5, .mv (.c (.int .i64 (.ofNat 0))), none⟩]) 
 (.seq
  (.seq
  (.ops [⟨some 6, .mv (.r 1), none⟩, ⟨some 7, .mv (.r 0), none⟩, ⟨some 8, .nilCheck (.r 7), none⟩, ⟨some 9, .fieldAt 0 (.r 8), none⟩, ⟨some 10, .load1 (.r 9), none⟩, ⟨some 11, .call 76 [.r 10], none⟩, ⟨some 12, .bin .gtr (.r 6) (.r 11), none⟩]) 
 (.cond (.r 12) (.seq
  (.ops [⟨some 4, .mv (.c .nilslice), none⟩, ⟨some 5, .mv (.c (.int .i64 (.ofNat 10))), none⟩]) 
 .ret) .skip)) 
 (.seq
  (.ops [⟨some 13, .mv (.r 0), none⟩, ⟨some 14, .nilCheck (.r 13), none⟩, ⟨some 15, .fieldAt 0 (.r 14), none⟩, ⟨some 16, .load1 (.r 15), none⟩, ⟨some 17, .mv (.r 1), none⟩, ⟨some 18, .call 50 [.r 16, .r 17], none⟩, ⟨some 4, .mv (.r 18), none⟩, ⟨some 5, .mv (.c (.int .i64 (.ofNat 0))), none⟩]) 
 .ret))⟩
def c114 : AF := ⟨33, [.cell 2 3 true, .reg 3], .seq
  (.ops [⟨some 2, .alloc [.bool false, .int .i64 (.ofNat 0), .int .i64 (.ofNat 0)], none⟩, ⟨some 3, .mv (.c (.int .i64 (.ofNat 0))), none⟩]) 
 (.seq
  (.ops [⟨some 6, .mv (.r 0), none⟩, ⟨some 7, .call 47 [.r 6], none⟩, ⟨some 4, .mv (.r 7), none⟩]) 
 (.seq
  (.ops [⟨some 8, .mv (.r 4), none⟩, ⟨some 9, .call 49 [.r 8, .c (.int .i64 (.ofNat 3))], none⟩, ⟨some 10, .toInt .i64 (.r 9), none⟩, ⟨some 5, .mv (.r 10), none⟩]) 
 (.seq
  (.block 0 (.seq
  (.ops [⟨some 12, .mv (.r 4), none⟩, ⟨some 13, .call 77 [.r 12], none⟩, ⟨some 14, .bin .neq (.r 13) (.c (.int .i64 (.ofNat 0))), none⟩, ⟨some 11, .mv (.r 14), none⟩]) 
 (.cond (.r 11) (.seq
  (.ops [⟨some 15, .build [.bool false, .int .i64 (.ofNat 0), .int .i64 (.ofNat 0)] [], none⟩, ⟨some 16, .mv (.r 4), none⟩, ⟨some 17, .call 77 [.r 16], none⟩, ⟨none, .store 3 (.r 2) (.r 15), none⟩, ⟨some 3, .mv (.r 17), none⟩]) 
 .ret) (.seq
  (.ops [⟨some 19, .mv (.r 5), none⟩, ⟨some 20, .bin .shr (.r 19) (.c (.int .u64 (.ofNat 1))), none⟩, ⟨some 21, .bin .and (.r 20) (.c (.int .i64 (.ofNat 3))), none⟩, ⟨some 22, .bin .gtr (.r 21) (.c (.int .i64 (.ofNat 2))), none⟩, ⟨some 18, .mv (.r 22), none⟩]) 
 (.cond (.r 18) (.seq
  (.ops [⟨some 23, .build [.bool false, .int .i64 (.ofNat 0), .int .i64 (.ofNat 0)] [], none⟩, ⟨none, .store 3 (.r 2) (.r 23), none⟩, ⟨some 3, .mv (.c (.int .i64 (.ofNat 11))), none⟩]) 
 .ret) .skip))))) 
 (.seq
  (.ops [⟨some 24, .mv (.r 5), none⟩, ⟨some 25, .bin .and (.r 24) (.c (.int .i64 (.ofNat 1))), none⟩, ⟨some 26, .bin .eql (.r 25) (.c (.int .i64 (.ofNat 1))), none⟩, ⟨some 27, .mv (.r 5), none⟩, ⟨some 28, .bin .shr (.r 27) (.c (.int .u64 (.ofNat 1))), none⟩, ⟨some 29, .bin .and (.r 28) (.c (.int .i64 (.ofNat 3))), none⟩, ⟨some 30, .mv (.r 5), none⟩, ⟨some 31, .bin .shr (.r 30) (.c (.int .u64 (.ofNat 3))), none⟩, ⟨some 32, .build [.bool false, .int .i64 (.ofNat 0), .int .i64 (.ofNat 0)] [(0, (1, .r 26)), (1, (1, .r 29)), (2, (1, .r 31))], none⟩, ⟨none, .store 3 (.r 2) (.r 32), none⟩, ⟨some 3, .mv (.c (.int .i64 (.ofNat 0))), none⟩]) 
 .ret))))⟩
def c115 : AF := ⟨48, [.reg 4], .seq
  (.ops [⟨some 4, .mv (.c .nilslice), none⟩]) 
 (.seq
  (.seq
  (.ops [⟨some 9, .mv (.r 1), none⟩, ⟨some 10, .bin .lss (.r 9) (.c (.int .i64 (.ofNat 0))), none⟩]) 
 (.cond (.r 10) (.ops [⟨some 11, .bad 0, none⟩, ⟨none, .bad 0, none⟩]) .skip)) 
 (.seq
  (.ops [⟨some 13, .mv (.r 0), none⟩, ⟨some 14, .len .slice (.r 13), none⟩, ⟨some 15, .toInt .u64 (.r 14), none⟩, ⟨some 16, .mv (.r 1), none⟩, ⟨some 17, .toInt .u64 (.r 16), none⟩, ⟨some 18, .call 124 [.r 15, .r 17], none⟩, ⟨some 12, .mv (.r 18), none⟩, ⟨some 19, .extract 0 (.r 12), none⟩, ⟨some 20, .extract 1 (.r 12), none⟩, ⟨some 5, .mv (.r 19), none⟩, ⟨some 6, .mv (.r 20), none⟩]) 
 (.seq
  (.seq
  (.ops [⟨some 21, .mv (.r 5), none⟩, ⟨some 22, .bin .gtr (.r 21) (.c (.int .u64 (.ofNat 0))), none⟩, ⟨some 23, .mv (.r 22), none⟩, ⟨some 24, .mv (.r 6), some (23, false)⟩, ⟨some 25, .bin .gtr (.r 24) (.c (.int .u64 (.ofNat 9223372036854775807))), some (23, false)⟩, ⟨some 26, .pick (.r 23) (.c (.bool true)) (.r 25), none⟩]) 
 (.cond (.r 26) (.ops [⟨some 27, .bad 0, none⟩, ⟨none, .bad 0, none⟩]) .skip)) 
 (.seq
  (.ops [⟨some 28, .mv (.r 6), none⟩, ⟨some 29, .toInt .i64 (.r 28), none⟩, ⟨some 30, .makeSlice 1 1 [.int .u8 (.ofNat 0)] (.r 29) (.r 29), none⟩, ⟨some 7, .mv (.r 30), none⟩]) 
 (.seq
  (.ops [⟨some 31, .mv (.r 7), none⟩, ⟨some 32, .mv (.r 0), none⟩, ⟨some 33, .copy 1 (.r 31) (.r 32), none⟩, ⟨some 8, .mv (.r 33), none⟩]) 
 (.seq
  (.block 0 (.loop (.seq
  (.seq
  (.ops [⟨some 34, .mv (.r 8), none⟩, ⟨some 35, .mv (.r 7), none⟩, ⟨some 36, .len .slice (.r 35), none⟩, ⟨some 37, .bin .lss (.r 34) (.r 36), none⟩]) 
 (.cond (.r 37) .skip (.exit 0))) 
 (.block 1 (.multi [(0, ⟨some 38, .mv (.r 8), none⟩), (0, ⟨some 39, .mv (.r 7), none⟩), (0, ⟨some 40, .mv (.r 8), none⟩), (2, ⟨some 41, .sliceSl 1 true (.r 39) (some (.r 40)) none none, none⟩), (0, ⟨some 42, .mv (.r 7), none⟩), (0, ⟨some 43, .mv (.r 8), none⟩), (1, ⟨some 44, .sliceSl 1 false (.r 42) none (some (.r 43)) none, none⟩), (5, ⟨some 45, .copy 1 (.r 41) (.r 44), none⟩), (0, ⟨some 46, .bin .add (.r 38) (.r 45), none⟩), (0, ⟨some 8, .mv (.r 46), none⟩)] [(3, 6)]))))) 
 (.seq
  (.ops [⟨some 47, .mv (.r 7), none⟩, ⟨some 4, .mv (.r 47), none⟩]) 
 .ret)))))))⟩
def c116 : AF := ⟨68, [.reg 10, .cell 11 10 true, .reg 12], .seq
  (.ops [⟨some 7, .box 10 (.r 2), none⟩, ⟨some 10, .mv (.c .nilslice), none⟩, ⟨some 11, .alloc [.nilslice, .int .i64 (.ofNat 0), .nilslice, .int .i64 (.ofNat 0), .nilslice, .int .i64 (.ofNat 0), .nilslice, .int .u32 (.ofNat 0), .int .u32 (.ofNat 0), .int .u32 (.ofNat 0)], none⟩, ⟨some 12, .mv (.c (.int .i64 (.ofNat 0))), none⟩]) 
 (.seq
  (.ops [⟨some 21, .mv (.r 0), none⟩, ⟨some 22, .fieldAt 0 (.r 7), none⟩, ⟨some 23, .load1 (.r 22), none⟩, ⟨some 24, .call 125 [.r 21, .r 23], none⟩, ⟨some 20, .mv (.r 24), none⟩, ⟨some 25, .extract 0 (.r 20), none⟩, ⟨some 26, .extract 1 (.r 20), none⟩, ⟨some 27, .extract 2 (.r 20), none⟩, ⟨some 28, .extract 3 (.r 20), none⟩, ⟨some 13, .mv (.r 25), none⟩, ⟨some 14, .mv (.r 26), none⟩, ⟨some 15, .mv (.r 27), none⟩, ⟨some 16, .mv (.r 28), none⟩]) 
 (.seq
  (.seq
  (.ops [⟨some 29, .mv (.r 16), none⟩, ⟨some 30, .bin .neq (.r 29) (.c (.int .i64 (.ofNat 0))), none⟩]) 
 (.cond (.r 30) (.seq
  (.ops [⟨some 31, .build [.nilslice, .int .i64 (.ofNat 0), .nilslice, .int .i64 (.ofNat 0), .nilslice, .int .i64 (.ofNat 0), .nilslice, .int .u32 (.ofNat 0), .int .u32 (.ofNat 0), .int .u32 (.ofNat 0)] [], none⟩, ⟨some 32, .mv (.r 16), none⟩, ⟨some 10, .mv (.c .nilslice), none⟩, ⟨none, .store 10 (.r 11) (.r 31), none⟩, ⟨some 12, .mv (.r 32), none⟩]) 
 .ret) .skip)) 
 (.seq
  (.multi [(0, ⟨some 34, .mv (.r 0), none⟩), (0, ⟨some 35, .mv (.r 15), none⟩), (2, ⟨some 36, .sliceSl 1 true (.r 34) (some (.r 35)) none none, none⟩), (0, ⟨some 37, .fieldAt 1 (.r 7), none⟩), (1, ⟨some 38, .loadN 6 (.r 37), none⟩), (4, ⟨some 39, .call 126 [.r 36, .r 38], none⟩), (0, ⟨some 33, .mv (.r 39), none⟩), (0, ⟨some 40, .extract 0 (.r 33), none⟩), (0, ⟨some 41, .extract 1 (.r 33), none⟩), (0, ⟨some 42, .extract 2 (.r 33), none⟩), (2, ⟨some 18, .alloc [.int .i64 (.ofNat 0), .nilslice, .int .i64 (.ofNat 0), .nilslice, .int .i64 (.ofNat 0), .nilslice], none⟩), (0, ⟨some 17, .mv (.r 40), none⟩), (5, ⟨none, .store 6 (.r 18) (.r 41), none⟩), (0, ⟨some 16, .mv (.r 42), none⟩)] [(2, 4), (2, 10), (4, 10), (5, 10)]) 
 (.seq
  (.seq
  (.ops [⟨some 43, .mv (.r 16), none⟩, ⟨some 44, .bin .neq (.r 43) (.c (.int .i64 (.ofNat 0))), none⟩]) 
 (.cond (.r 44) (.seq
  (.ops [⟨some 45, .build [.nilslice, .int .i64 (.ofNat 0), .nilslice, .int .i64 (.ofNat 0), .nilslice, .int .i64 (.ofNat 0), .nilslice, .int .u32 (.ofNat 0), .int .u32 (.ofNat 0), .int .u32 (.ofNat 0)] [], none⟩, ⟨some 46, .mv (.r 16), none⟩, ⟨some 10, .mv (.c .nilslice), none⟩, ⟨none, .store 10 (.r 11) (.r 45), none⟩, ⟨some 12, .mv (.r 46), none⟩]) 
 .ret) .skip)) 
 (.seq
  (.ops [⟨some 48, .mv (.r 1), none⟩, ⟨some 49, .mv (.r 13), none⟩, ⟨some 50, .mv (.r 17), none⟩, ⟨some 51, .fieldAt 7 (.r 7), none⟩, ⟨some 52, .loadN 3 (.r 51), none⟩, ⟨some 53, .mv (.r 3), none⟩, ⟨some 54, .mv (.r 4), none⟩, ⟨some 55, .call 127 [.r 48, .r 49, .r 50, .r 52, .r 53, .r 54], none⟩, ⟨some 47, .mv (.r 55), none⟩, ⟨some 56, .extract 0 (.r 47), none⟩, ⟨some 57, .extract 1 (.r 47), none⟩, ⟨some 58, .extract 2 (.r 47), none⟩, ⟨some 19, .alloc [.int .u32 (.ofNat 0), .int .u32 (.ofNat 0), .int .u32 (.ofNat 0)], none⟩, ⟨some 1, .mv (.r 56), none⟩, ⟨none, .store 3 (.r 19) (.r 57), none⟩, ⟨some 16, .mv (.r 58), none⟩]) 
 (.seq
  (.seq
  (.ops [⟨some 59, .mv (.r 16), none⟩, ⟨some 60, .bin .neq (.r 59) (.c (.int .i64 (.ofNat 0))), none⟩]) 
 (.cond (.r 60) (.seq
  (.ops [⟨some 61, .build [.nilslice, .int .i64 (.ofNat 0), .nilslice, .int .i64 (.ofNat 0), .nilslice, .int .i64 (.ofNat 0), .nilslice, .int .u32 (.ofNat 0), .int .u32 (.ofNat 0), .int .u32 (.ofNat 0)] [], none⟩, ⟨some 62, .mv (.r 16), none⟩, ⟨some 10, .mv (.c .nilslice), none⟩, ⟨none, .store 10 (.r 11) (.r 61), none⟩, ⟨some 12, .mv (.r 62), none⟩]) 
 .ret) .skip)) 
 (.seq
  (.ops [⟨some 63, .mv (.r 1), none⟩, ⟨some 64, .mv (.r 14), none⟩, ⟨some 65, .loadN 6 (.r 18), none⟩, ⟨some 66, .loadN 3 (.r 19), none⟩, ⟨some 67, .build [.nilslice, .int .i64 (.ofNat 0), .nilslice, .int .i64 (.ofNat 0), .nilslice, .int .i64 (.ofNat 0), .nilslice, .int .u32 (.ofNat 0), .int .u32 (.ofNat 0), .int .u32 (.ofNat 0)] [(0, (1, .r 64)), (1, (6, .r 65)), (7, (3, .r 66))], none⟩, ⟨some 10, .mv (.r 63), none⟩, ⟨none, .store 10 (.r 11) (.r 67), none⟩, ⟨some 12, .mv (.c (.int .i64 (.ofNat 0))), none⟩]) 
 .ret)))))))⟩
def c117 : AF := ⟨9, [.reg 4], .seq
  (.ops [⟨some 4, .mv (.c (.bool false)), none⟩]) 
 (.seq
  (.ops [⟨some 5, .mv (.r 0), none⟩, ⟨some 6, .mv (.r 1), none⟩, ⟨some 7, .call 128 [.r 5, .r 6], none⟩, ⟨some 8, .bin .geq (.r 7) (.c (.int .i64 (.ofNat 0))), none⟩, ⟨some 4, .mv (.r 8), none⟩]) 
 .ret)⟩
def c118 : AF := ⟨9, [.reg 3], .seq
  (.ops [⟨some 3, .mv (.c (.bool false)), none⟩]) 
 (.seq
  (.ops [⟨some 4, .mv (.r 0), none⟩, ⟨some 5, .load1 (.r 1), none⟩, ⟨some 6, .indexSl 1 (.r 5) (.c (.int .i64 (.ofNat 0))), none⟩, ⟨some 7, .load1 (.r 6), none⟩, ⟨some 8, .bin .neq (.r 4) (.r 7), none⟩, ⟨some 3, .mv (.r 8), none⟩]) 
 .ret)⟩
def c119 : AF := ⟨136, [.reg 8, .reg 9, .reg 10], .seq
  (.ops [⟨some 8, .mv (.c .nilslice), none⟩, ⟨some 9, .mv (.c (.int .i64 (.ofNat 0))), none⟩, ⟨some 10, .mv (.c (.int .i64 (.ofNat 0))), none⟩]) 
 (.seq
  (.seq
  (.ops [⟨some 21, .mv (.r 1), none⟩, ⟨some 22, .bin .lss (.r 21) (.c (.int .i64 (.ofNat 0))), none⟩, ⟨some 23, .mv (.r 22), none⟩, ⟨some 24, .mv (.r 2), some (23, false)⟩, ⟨some 25, .mv (.r 1), some (23, false)⟩, ⟨some 26, .bin .lss (.r 24) (.r 25), some (23, false)⟩, ⟨some 27, .pick (.r 23) (.c (.bool true)) (.r 26), none⟩, ⟨some 28, .mv (.r 27), none⟩, ⟨some 29, .mv (.r 2), some (28, false)⟩, ⟨some 30, .mv (.r 0), some (28, false)⟩, ⟨some 31, .len .slice (.r 30), some (28, false)⟩, ⟨some 32, .bin .gtr (.r 29) (.r 31), some (28, false)⟩, ⟨some 33, .pick (.r 28) (.c (.bool true)) (.r 32), none⟩, ⟨some 34, .mv (.r 33), none⟩, ⟨some 35, .mv (.r 3), some (34, false)⟩, ⟨some 36, .bin .lss (.r 35) (.c (.int .i64 (.ofNat 0))), some (34, false)⟩, ⟨some 37, .pick (.r 34) (.c (.bool true)) (.r 36), none⟩, ⟨some 38, .mv (.r 37), none⟩, ⟨some 39, .mv (.r 3), some (38, false)⟩, ⟨some 40, .bin .gtr (.r 39) (.c (.int .i64 (.ofNat 9))), some (38, false)⟩, ⟨some 41, .pick (.r 38) (.c (.bool true)) (.r 40), none⟩]) 
 (.cond (.r 41) (.seq
  (.ops [⟨some 8, .mv (.c .nilslice), none⟩, ⟨some 9, .mv (.c (.int .i64 (.ofNat 0))), none⟩, ⟨some 10, .mv (.c (.int .i64 (.ofNat 1))), none⟩]) 
 .ret) .skip)) 
 (.seq
  (.seq
  (.ops [⟨some 42, .mv (.r 3), none⟩, ⟨some 43, .bin .eql (.r 42) (.c (.int .i64 (.ofNat 0))), none⟩]) 
 (.cond (.r 43) (.seq
  (.ops [⟨some 44, .mv (.r 2), none⟩, ⟨some 45, .mv (.r 1), none⟩, ⟨some 46, .bin .sub (.r 44) (.r 45), none⟩, ⟨some 8, .mv (.c .nilslice), none⟩, ⟨some 9, .mv (.r 46), none⟩, ⟨some 10, .mv (.c (.int .i64 (.ofNat 0))), none⟩]) 
 .ret) .skip)) 
 (.seq
  (.multi [(0, ⟨some 47, .mv (.r 0), none⟩), (0, ⟨some 48, .mv (.r 2), none⟩), (2, ⟨some 49, .makeMap, none⟩), (0, ⟨some 50, .mv (.r 2), none⟩), (2, ⟨some 51, .makeSlice 1 8 [.int .i64 (.ofNat 0)] (.r 50) (.r 50), none⟩), (0, ⟨some 52, .mv (.r 3), none⟩), (0, ⟨some 53, .bin .shl (.c (.int .i64 (.ofNat 1))) (.r 52), none⟩), (0, ⟨some 54, .build [.nilslice, .int .i64 (.ofNat 0), .nilmap, .nilslice, .int .i64 (.ofNat 0)] [(0, (1, .r 47)), (1, (1, .r 48)), (2, (1, .r 49)), (3, (1, .r 51)), (4, (1, .r 53))], none⟩), (5, ⟨some 55, .box 5 (.r 54), none⟩), (0, ⟨some 11, .mv (.r 55), none⟩)] [(2, 4)]) 
 (.seq
  (.seq
  (.ops [⟨some 56, .mv (.r 1), none⟩, ⟨some 57, .mv (.c (.int .i64 (.ofNat 0))), none⟩]) 
 (.block 0 (.loop (.seq
  (.ops [⟨some 58, .bin .lss (.r 57) (.r 56), none⟩]) 
 (.seq
  (.cond (.r 58) .skip (.exit 0)) 
 (.seq
  (.block 1 (.seq
  (.ops [⟨some 59, .mv (.r 57), none⟩, ⟨some 12, .mv (.r 59), none⟩]) 
 (.ops [⟨some 60, .mv (.r 11), none⟩, ⟨some 61, .mv (.r 12), none⟩, ⟨some 62, .call 129 [.r 60, .r 61], none⟩]))) 
 (.ops [⟨some 63, .bin .add (.r 57) (.c (.int .i64 (.ofNat 1))), none⟩, ⟨some 57, .mv (.r 63), none⟩]))))))) 
 (.seq
  (.ops [⟨some 13, .mv (.c .nilslice), none⟩]) 
 (.seq
  (.ops [⟨some 64, .mv (.r 1), none⟩, ⟨some 14, .mv (.r 64), none⟩]) 
 (.seq
  (.seq
  (.ops [⟨some 65, .mv (.r 1), none⟩, ⟨some 15, .mv (.r 65), none⟩]) 
 (.block 2 (.loop (.seq
  (.seq
  (.ops [⟨some 66, .mv (.r 15), none⟩, ⟨some 67, .mv (.r 2), none⟩, ⟨some 68, .bin .lss (.r 66) (.r 67), none⟩]) 
 (.cond (.r 68) .skip (.exit 2))) 
 (.block 3 (.seq
  (.ops [⟨some 70, .mv (.r 11), none⟩, ⟨some 71, .mv (.r 15), none⟩, ⟨some 72, .call 130 [.r 70, .r 71], none⟩, ⟨some 69, .mv (.r 72), none⟩, ⟨some 73, .extract 0 (.r 69), none⟩, ⟨some 74, .extract 1 (.r 69), none⟩, ⟨some 16, .mv (.r 73), none⟩, ⟨some 17, .mv (.r 74), none⟩]) 
 (.seq
  (.seq
  (.ops [⟨some 75, .mv (.r 16), none⟩, ⟨some 76, .bin .lss (.r 75) (.c (.int .i64 (.ofNat 4))), none⟩]) 
 (.cond (.r 76) (.seq
  (.ops [⟨some 77, .mv (.r 11), none⟩, ⟨some 78, .mv (.r 15), none⟩, ⟨some 79, .call 129 [.r 77, .r 78], none⟩]) 
 (.seq
  (.ops [⟨some 80, .mv (.r 15), none⟩, ⟨some 81, .bin .add (.r 80) (.c (.int .i64 (.ofNat 1))), none⟩, ⟨some 15, .mv (.r 81), none⟩]) 
 (.exit 3))) .skip)) 
 (.seq
  (.seq
  (.ops [⟨some 82, .mv (.r 3), none⟩, ⟨some 83, .bin .gtr (.r 82) (.c (.int .i64 (.ofNat 4))), none⟩, ⟨some 84, .mv (.r 83), none⟩, ⟨some 85, .mv (.r 15), some (84, true)⟩, ⟨some 86, .bin .add (.r 85) (.c (.int .i64 (.ofNat 1))), some (84, true)⟩, ⟨some 87, .mv (.r 2), some (84, true)⟩, ⟨some 88, .bin .lss (.r 86) (.r 87), some (84, true)⟩, ⟨some 89, .pick (.r 84) (.r 88) (.c (.bool false)), none⟩]) 
 (.cond (.r 89) (.seq
  (.ops [⟨some 90, .mv (.r 11), none⟩, ⟨some 91, .mv (.r 15), none⟩, ⟨some 92, .call 129 [.r 90, .r 91], none⟩]) 
 (.seq
  (.ops [⟨some 94, .mv (.r 11), none⟩, ⟨some 95, .mv (.r 15), none⟩, ⟨some 96, .bin .add (.r 95) (.c (.int .i64 (.ofNat 1))), none⟩, ⟨some 97, .call 130 [.r 94, .r 96], none⟩, ⟨some 93, .mv (.r 97), none⟩, ⟨some 98, .extract 0 (.r 93), none⟩, ⟨some 99, .extract 1 (.r 93), none⟩, ⟨some 18, .mv (.r 98), none⟩, ⟨some 19, .mv (.r 99), none⟩]) 
 (.seq
  (.ops [⟨some 100, .mv (.r 18), none⟩, ⟨some 101, .mv (.r 16), none⟩, ⟨some 102, .bin .add (.r 101) (.c (.int .i64 (.ofNat 1))), none⟩, ⟨some 103, .bin .gtr (.r 100) (.r 102), none⟩]) 
 (.cond (.r 103) (.ops [⟨some 104, .mv (.r 15), none⟩, ⟨some 105, .bin .add (.r 104) (.c (.int .i64 (.ofNat 1))), none⟩, ⟨some 106, .mv (.r 18), none⟩, ⟨some 107, .mv (.r 19), none⟩, ⟨some 15, .mv (.r 105), none⟩, ⟨some 16, .mv (.r 106), none⟩, ⟨some 17, .mv (.r 107), none⟩]) .skip)))) .skip)) 
 (.seq
  (.ops [⟨some 108, .mv (.r 13), none⟩, ⟨some 109, .mv (.r 15), none⟩, ⟨some 110, .mv (.r 14), none⟩, ⟨some 111, .bin .sub (.r 109) (.r 110), none⟩, ⟨some 112, .toInt .u32 (.r 111), none⟩, ⟨some 113, .mv (.r 16), none⟩, ⟨some 114, .toInt .u32 (.r 113), none⟩, ⟨some 115, .mv (.r 17), none⟩, ⟨some 116, .toInt .u32 (.r 115), none⟩, ⟨some 117, .build [.int .u32 (.ofNat 0), .int .u32 (.ofNat 0), .int .u32 (.ofNat 0)] [(0, (1, .r 112)), (1, (1, .r 114)), (2, (1, .r 116))], none⟩, ⟨some 118, .buildSlice 3 1 [.int .u32 (.ofNat 0), .int .u32 (.ofNat 0), .int .u32 (.ofNat 0)] [(0, (3, .r 117))], none⟩, ⟨some 119, .append 3 12 (.r 108) (.r 118), none⟩, ⟨some 13, .mv (.r 119), none⟩]) 
 (.seq
  (.seq
  (.ops [⟨some 120, .mv (.r 15), none⟩, ⟨some 121, .mv (.r 16), none⟩, ⟨some 122, .bin .add (.r 120) (.r 121), none⟩, ⟨some 20, .mv (.r 122), none⟩]) 
 (.block 4 (.loop (.seq
  (.seq
  (.ops [⟨some 123, .mv (.r 15), none⟩, ⟨some 124, .mv (.r 20), none⟩, ⟨some 125, .bin .lss (.r 123) (.r 124), none⟩]) 
 (.cond (.r 125) .skip (.exit 4))) 
 (.seq
  (.block 5 (.ops [⟨some 128, .mv (.r 11), none⟩, ⟨some 129, .mv (.r 15), none⟩, ⟨some 130, .call 129 [.r 128, .r 129], none⟩])) 
 (.ops [⟨some 126, .mv (.r 15), none⟩, ⟨some 127, .bin .add (.r 126) (.c (.int .i64 (.ofNat 1))), none⟩, ⟨some 15, .mv (.r 127), none⟩])))))) 
 (.ops [⟨some 131, .mv (.r 15), none⟩, ⟨some 14, .mv (.r 131), none⟩]))))))))))) 
 (.seq
  (.ops [⟨some 132, .mv (.r 13), none⟩, ⟨some 133, .mv (.r 2), none⟩, ⟨some 134, .mv (.r 14), none⟩, ⟨some 135, .bin .sub (.r 133) (.r 134), none⟩, ⟨some 8, .mv (.r 132), none⟩, ⟨some 9, .mv (.r 135), none⟩, ⟨some 10, .mv (.c (.int .i64 (.ofNat 0))), none⟩]) 
 .ret))))))))⟩
def c120 : AF := ⟨44, [.reg 6, .cell 7 3 true], .seq
  (.ops [⟨some 3, .box 3 (.r 0), none⟩, ⟨some 6, .mv (.c (.int .u32 (.ofNat 0))), none⟩, ⟨some 7, .alloc [.int .u32 (.ofNat 0), .int .u32 (.ofNat 0), .int .u32 (.ofNat 0)], none⟩]) 
 (.seq
  (.ops [⟨some 12, .mv (.r 1), none⟩, ⟨some 13, .build [.int .u32 (.ofNat 0), .int .u32 (.ofNat 0), .int .u32 (.ofNat 0)] [(0, (1, .r 12))], none⟩, ⟨some 8, .alloc [.int .u32 (.ofNat 0), .int .u32 (.ofNat 0), .int .u32 (.ofNat 0)], none⟩, ⟨none, .store 3 (.r 8) (.r 13), none⟩]) 
 (.seq
  (.seq
  (.ops [⟨some 14, .fieldAt 2 (.r 8), none⟩, ⟨none, .store 1 (.r 14) (.c (.int .u32 (.ofNat 1))), none⟩]) 
 (.block 0 (.loop (.seq
  (.seq
  (.ops [⟨some 15, .fieldAt 2 (.r 8), none⟩, ⟨some 16, .load1 (.r 15), none⟩, ⟨some 17, .bin .leq (.r 16) (.c (.int .u32 (.ofNat 3))), none⟩]) 
 (.cond (.r 17) .skip (.exit 0))) 
 (.seq
  (.block 1 (.seq
  (.ops [⟨some 23, .loadN 3 (.r 3), none⟩, ⟨some 24, .loadN 3 (.r 8), none⟩, ⟨some 25, .call 131 [.r 23, .r 24], none⟩, ⟨some 22, .mv (.r 25), none⟩, ⟨some 26, .extract 0 (.r 22), none⟩, ⟨some 27, .extract 1 (.r 22), none⟩, ⟨some 28, .extract 2 (.r 22), none⟩, ⟨some 10, .alloc [.int .u32 (.ofNat 0), .int .u32 (.ofNat 0), .int .u32 (.ofNat 0)], none⟩, ⟨some 9, .mv (.r 26), none⟩, ⟨none, .store 3 (.r 10) (.r 27), none⟩, ⟨some 11, .mv (.r 28), none⟩]) 
 (.seq
  (.ops [⟨some 29, .mv (.r 11), none⟩, ⟨some 30, .bin .eql (.r 29) (.c (.int .i64 (.ofNat 0))), none⟩, ⟨some 31, .mv (.r 30), none⟩, ⟨some 32, .mv (.r 9), some (31, true)⟩, ⟨some 33, .mv (.r 2), some (31, true)⟩, ⟨some 34, .bin .eql (.r 32) (.r 33), some (31, true)⟩, ⟨some 35, .pick (.r 31) (.r 34) (.c (.bool false)), none⟩]) 
 (.cond (.r 35) (.seq
  (.ops [⟨some 36, .fieldAt 2 (.r 8), none⟩, ⟨some 37, .load1 (.r 36), none⟩, ⟨some 38, .loadN 3 (.r 10), none⟩, ⟨some 6, .mv (.r 37), none⟩, ⟨none, .store 3 (.r 7) (.r 38), none⟩]) 
 .ret) .skip)))) 
 (.ops [⟨some 18, .fieldAt 2 (.r 8), none⟩, ⟨some 19, .load1 (.r 18), none⟩, ⟨some 20, .bin .add (.r 19) (.c (.int .u32 (.ofNat 1))), none⟩, ⟨some 21, .fieldAt 2 (.r 8), none⟩, ⟨none, .store 1 (.r 21) (.r 20), none⟩])))))) 
 (.seq
  (.ops [⟨some 39, .mv (.r 2), none⟩, ⟨some 40, .bin .add (.r 39) (.c (.int .u32 (.ofNat 3))), none⟩, ⟨some 41, .loadN 3 (.r 3), none⟩, ⟨some 42, .mv (.r 2), none⟩, ⟨some 43, .call 132 [.r 41, .r 42, .c (.int .i64 (.ofNat 2))], none⟩, ⟨some 6, .mv (.r 40), none⟩, ⟨none, .store 3 (.r 7) (.r 43), none⟩]) 
 .ret)))⟩
def c121 : AF := ⟨63, [.reg 2, .reg 3], .seq
  (.ops [⟨some 2, .mv (.c .nilslice), none⟩, ⟨some 3, .mv (.c (.int .i64 (.ofNat 0))), none⟩]) 
 (.seq
  (.ops [⟨some 13, .mv (.r 0), none⟩, ⟨some 14, .call 133 [.r 13], none⟩, ⟨some 12, .mv (.r 14), none⟩, ⟨some 15, .extract 0 (.r 12), none⟩, ⟨some 16, .extract 1 (.r 12), none⟩, ⟨some 4, .alloc [.nilslice], none⟩, ⟨none, .store 1 (.r 4) (.r 15), none⟩, ⟨some 5, .mv (.r 16), none⟩]) 
 (.seq
  (.seq
  (.ops [⟨some 17, .mv (.r 5), none⟩, ⟨some 18, .bin .neq (.r 17) (.c (.int .i64 (.ofNat 0))), none⟩]) 
 (.cond (.r 18) (.seq
  (.ops [⟨some 19, .mv (.r 5), none⟩, ⟨some 2, .mv (.c .nilslice), none⟩, ⟨some 3, .mv (.r 19), none⟩]) 
 .ret) .skip)) 
 (.seq
  (.ops [⟨some 20, .makeFunc (.func 134) [] [.r 4], none⟩, ⟨some 6, .mv (.r 20), none⟩]) 
 (.seq
  (.seq
  (.ops [⟨some 21, .mv (.r 0), none⟩, ⟨some 22, .call 106 [.r 21], none⟩]) 
 (.cond (.r 22) (.seq
  (.ops [⟨some 23, .mv (.r 6), none⟩, ⟨some 24, .mv (.r 0), none⟩, ⟨some 25, .indexSl 1 (.r 24) (.c (.int .i64 (.ofNat 0))), none⟩, ⟨some 26, .load1 (.r 25), none⟩, ⟨some 27, .mv (.r 0), none⟩, ⟨some 28, .len .slice (.r 27), none⟩, ⟨some 29, .call 136 [.r 26, .r 28], none⟩, ⟨some 30, .extract 0 (.r 29), none⟩, ⟨some 31, .extract 1 (.r 29), none⟩, ⟨some 32, .callv (.r 23) [.r 30, .r 31], none⟩]) 
 (.seq
  (.ops [⟨some 33, .load1 (.r 4), none⟩, ⟨some 2, .mv (.r 33), none⟩, ⟨some 3, .mv (.c (.int .i64 (.ofNat 0))), none⟩]) 
 .ret)) .skip)) 
 (.seq
  (.ops [⟨some 34, .makeSlice 1 4 [.int .u32 (.ofNat 0)] (.c (.int .i64 (.ofNat 256))) (.c (.int .i64 (.ofNat 256))), none⟩, ⟨some 7, .mv (.r 34), none⟩]) 
 (.seq
  (.seq
  (.ops [⟨some 35, .mv (.r 0), none⟩, ⟨some 36, .len .slice (.r 35), none⟩, ⟨some 37, .mv (.c (.int .i64 (.ofNat 0))), none⟩]) 
 (.block 0 (.loop (.seq
  (.ops [⟨some 38, .bin .lss (.r 37) (.r 36), none⟩]) 
 (.seq
  (.cond (.r 38) .skip (.exit 0)) 
 (.seq
  (.block 1 (.seq
  (.ops [⟨some 39, .indexSl 1 (.r 35) (.r 37), none⟩, ⟨some 40, .load1 (.r 39), none⟩, ⟨some 9, .mv (.r 40), none⟩]) 
 (.ops [⟨some 41, .mv (.r 7), none⟩, ⟨some 42, .mv (.r 9), none⟩, ⟨some 43, .indexSl 1 (.r 41) (.r 42), none⟩, ⟨some 44, .load1 (.r 43), none⟩, ⟨some 45, .bin .add (.r 44) (.c (.int .u32 (.ofNat 1))), none⟩, ⟨some 46, .indexSl 1 (.r 41) (.r 42), none⟩, ⟨none, .store 1 (.r 46) (.r 45), none⟩]))) 
 (.ops [⟨some 47, .bin .add (.r 37) (.c (.int .i64 (.ofNat 1))), none⟩, ⟨some 37, .mv (.r 47), none⟩]))))))) 
 (.seq
  (.seq
  (.ops [⟨some 49, .mv (.r 7), none⟩, ⟨some 50, .call 137 [.r 49], none⟩, ⟨some 48, .mv (.r 50), none⟩, ⟨some 51, .extract 0 (.r 48), none⟩, ⟨some 52, .extract 1 (.r 48), none⟩, ⟨some 10, .mv (.r 51), none⟩, ⟨some 11, .mv (.r 52), none⟩]) 
 (.seq
  (.ops [⟨some 53, .mv (.r 11), none⟩, ⟨some 54, .bin .eql (.r 53) (.c (.int .i64 (.ofNat 0))), none⟩]) 
 (.cond (.r 54) (.ops [⟨some 55, .mv (.r 6), none⟩, ⟨some 56, .mv (.r 0), none⟩, ⟨some 57, .mv (.r 10), none⟩, ⟨some 58, .call 138 [.r 56, .r 57, .c (.bool true)], none⟩, ⟨some 59, .extract 0 (.r 58), none⟩, ⟨some 60, .extract 1 (.r 58), none⟩, ⟨some 61, .callv (.r 55) [.r 59, .r 60], none⟩]) .skip))) 
 (.seq
  (.ops [⟨some 62, .load1 (.r 4), none⟩, ⟨some 2, .mv (.r 62), none⟩, ⟨some 3, .mv (.c (.int .i64 (.ofNat 0))), none⟩]) 
 .ret))))))))⟩
def c122 : AF := ⟨115, [.reg 2, .reg 3], .seq
  (.ops [⟨some 2, .mv (.c .nilslice), none⟩, ⟨some 3, .mv (.c (.int .i64 (.ofNat 0))), none⟩]) 
 (.seq
  (.ops [⟨some 17, .call 43 [], none⟩, ⟨some 4, .mv (.r 17), none⟩]) 
 (.seq
  (.seq
  (.ops [⟨some 18, .mv (.r 0), none⟩, ⟨some 19, .len .slice (.r 18), none⟩, ⟨some 5, .mv (.r 19), none⟩]) 
 (.block 0 (.seq
  (.ops [⟨some 28, .mv (.r 5), none⟩, ⟨some 29, .bin .gtr (.r 28) (.c (.int .i64 (.ofNat 98047))), none⟩, ⟨some 27, .mv (.r 29), none⟩]) 
 (.cond (.r 27) (.seq
  (.ops [⟨some 2, .mv (.c .nilslice), none⟩, ⟨some 3, .mv (.c (.int .i64 (.ofNat 1))), none⟩]) 
 .ret) (.seq
  (.ops [⟨some 31, .mv (.r 5), none⟩, ⟨some 32, .bin .eql (.r 31) (.c (.int .i64 (.ofNat 0))), none⟩, ⟨some 30, .mv (.r 32), none⟩]) 
 (.cond (.r 30) (.seq
  (.ops [⟨some 33, .buildSlice 1 1 [.int .u8 (.ofNat 0)] [(0, (1, .c (.int .u8 (.ofNat 0))))], none⟩, ⟨some 2, .mv (.r 33), none⟩, ⟨some 3, .mv (.c (.int .i64 (.ofNat 0))), none⟩]) 
 .ret) (.seq
  (.ops [⟨some 35, .mv (.r 5), none⟩, ⟨some 36, .bin .lss (.r 35) (.c (.int .i64 (.ofNat 128))), none⟩, ⟨some 34, .mv (.r 36), none⟩]) 
 (.cond (.r 34) (.ops [⟨some 37, .mv (.r 4), none⟩, ⟨some 38, .mv (.r 5), none⟩, ⟨some 39, .toInt .u64 (.r 38), none⟩, ⟨some 40, .call 44 [.r 37, .r 39, .c (.int .i64 (.ofNat 1))], none⟩]) (.seq
  (.ops [⟨some 42, .mv (.r 5), none⟩, ⟨some 43, .bin .lss (.r 42) (.c (.int .i64 (.ofNat 32512))), none⟩, ⟨some 41, .mv (.r 43), none⟩]) 
 (.cond (.r 41) (.seq
  (.ops [⟨some 44, .mv (.r 4), none⟩, ⟨some 45, .mv (.r 5), none⟩, ⟨some 46, .bin .shr (.r 45) (.c (.int .u64 (.ofNat 8))), none⟩, ⟨some 47, .bin .add (.r 46) (.c (.int .i64 (.ofNat 128))), none⟩, ⟨some 48, .toInt .u64 (.r 47), none⟩, ⟨some 49, .call 44 [.r 44, .r 48, .c (.int .i64 (.ofNat 1))], none⟩]) 
 (.ops [⟨some 50, .mv (.r 4), none⟩, ⟨some 51, .mv (.r 5), none⟩, ⟨some 52, .bin .and (.r 51) (.c (.int .i64 (.ofNat 255))), none⟩, ⟨some 53, .toInt .u64 (.r 52), none⟩, ⟨some 54, .call 44 [.r 50, .r 53, .c (.int .i64 (.ofNat 1))], none⟩])) (.seq
  (.ops [⟨some 20, .mv (.r 4), none⟩, ⟨some 21, .call 44 [.r 20, .c (.int .u64 (.ofNat 255)), .c (.int .i64 (.ofNat 1))], none⟩]) 
 (.ops [⟨some 22, .mv (.r 4), none⟩, ⟨some 23, .mv (.r 5), none⟩, ⟨some 24, .bin .sub (.r 23) (.c (.int .i64 (.ofNat 32512))), none⟩, ⟨some 25, .toInt .u64 (.r 24), none⟩, ⟨some 26, .call 44 [.r 22, .r 25, .c (.int .i64 (.ofNat 2))], none⟩])))))))))))) 
 (.seq
  (.ops [⟨some 56, .mv (.r 0), none⟩, ⟨some 57, .call 139 [.r 56], none⟩, ⟨some 55, .mv (.r 57), none⟩, ⟨some 58, .extract 0 (.r 55), none⟩, ⟨some 59, .extract 1 (.r 55), none⟩, ⟨some 6, .alloc [.nilslice, .nilslice, .nilslice], none⟩, ⟨none, .store 3 (.r 6) (.r 58), none⟩, ⟨some 7, .mv (.r 59), none⟩]) 
 (.seq
  (.seq
  (.ops [⟨some 60, .mv (.r 7), none⟩, ⟨some 61, .bin .neq (.r 60) (.c (.int .i64 (.ofNat 0))), none⟩]) 
 (.cond (.r 61) (.seq
  (.ops [⟨some 62, .mv (.r 7), none⟩, ⟨some 2, .mv (.c .nilslice), none⟩, ⟨some 3, .mv (.r 62), none⟩]) 
 .ret) .skip)) 
 (.seq
  (.ops [⟨some 8, .alloc [.int .i64 (.ofNat 0), .nilslice, .int .i64 (.ofNat 0), .nilslice, .int .i64 (.ofNat 0), .nilslice], none⟩]) 
 (.seq
  (.ops [⟨some 9, .mv (.c (.int .i64 (.ofNat 0))), none⟩]) 
 (.seq
  (.ops [⟨some 10, .mv (.c .nilslice), none⟩]) 
 (.seq
  (.seq
  (.ops [⟨some 63, .mv (.c (.int .i64 (.ofNat 0))), none⟩]) 
 (.block 1 (.loop (.seq
  (.ops [⟨some 64, .bin .lss (.r 63) (.c (.int .i64 (.ofNat 3))), none⟩]) 
 (.seq
  (.cond (.r 64) .skip (.exit 1)) 
 (.seq
  (.block 2 (.seq
  (.ops [⟨some 65, .mv (.r 63), none⟩, ⟨some 11, .mv (.r 65), none⟩]) 
 (.seq
  (.ops [⟨some 67, .mv (.r 11), none⟩, ⟨some 68, .mv (.r 11), none⟩, ⟨some 69, .indexArr 3 1 (.r 6) (.r 68), none⟩, ⟨some 70, .load1 (.r 69), none⟩, ⟨some 71, .call 140 [.r 67, .r 70], none⟩, ⟨some 66, .mv (.r 71), none⟩, ⟨some 72, .extract 0 (.r 66), none⟩, ⟨some 73, .extract 1 (.r 66), none⟩, ⟨some 74, .extract 2 (.r 66), none⟩, ⟨some 75, .extract 3 (.r 66), none⟩, ⟨some 12, .alloc [.int .i64 (.ofNat 0), .nilslice], none⟩, ⟨none, .store 2 (.r 12) (.r 72), none⟩, ⟨some 13, .mv (.r 73), none⟩, ⟨some 14, .mv (.r 74), none⟩, ⟨some 15, .mv (.r 75), none⟩]) 
 (.seq
  (.seq
  (.ops [⟨some 76, .mv (.r 15), none⟩, ⟨some 77, .bin .neq (.r 76) (.c (.int .i64 (.ofNat 0))), none⟩]) 
 (.cond (.r 77) (.seq
  (.ops [⟨some 78, .mv (.r 15), none⟩, ⟨some 2, .mv (.c .nilslice), none⟩, ⟨some 3, .mv (.r 78), none⟩]) 
 .ret) .skip)) 
 (.seq
  (.ops [⟨some 79, .mv (.r 11), none⟩, ⟨some 80, .loadN 2 (.r 12), none⟩, ⟨some 81, .indexArr 3 2 (.r 8) (.r 79), none⟩, ⟨none, .store 2 (.r 81) (.r 80), none⟩]) 
 (.seq
  (.ops [⟨some 82, .mv (.r 9), none⟩, ⟨some 83, .mv (.r 13), none⟩, ⟨some 84, .mv (.r 11), none⟩, ⟨some 85, .bin .mul (.c (.int .i64 (.ofNat 2))) (.r 84), none⟩, ⟨some 86, .bin .sub (.c (.int .i64 (.ofNat 6))) (.r 85), none⟩, ⟨some 87, .bin .shl (.r 83) (.r 86), none⟩, ⟨some 88, .bin .or (.r 82) (.r 87), none⟩, ⟨some 9, .mv (.r 88), none⟩]) 
 (.ops [⟨some 89, .mv (.r 10), none⟩, ⟨some 90, .mv (.r 14), none⟩, ⟨some 91, .append 1 1 (.r 89) (.r 90), none⟩, ⟨some 10, .mv (.r 91), none⟩]))))))) 
 (.ops [⟨some 92, .bin .add (.r 63) (.c (.int .i64 (.ofNat 1))), none⟩, ⟨some 63, .mv (.r 92), none⟩]))))))) 
 (.seq
  (.ops [⟨some 94, .mv (.r 0), none⟩, ⟨some 95, .loadN 3 (.r 6), none⟩, ⟨some 96, .loadN 6 (.r 8), none⟩, ⟨some 97, .call 141 [.r 94, .r 95, .r 96], none⟩, ⟨some 93, .mv (.r 97), none⟩, ⟨some 98, .extract 0 (.r 93), none⟩, ⟨some 99, .extract 1 (.r 93), none⟩, ⟨some 16, .mv (.r 98), none⟩, ⟨some 7, .mv (.r 99), none⟩]) 
 (.seq
  (.seq
  (.ops [⟨some 100, .mv (.r 7), none⟩, ⟨some 101, .bin .neq (.r 100) (.c (.int .i64 (.ofNat 0))), none⟩]) 
 (.cond (.r 101) (.seq
  (.ops [⟨some 102, .mv (.r 7), none⟩, ⟨some 2, .mv (.c .nilslice), none⟩, ⟨some 3, .mv (.r 102), none⟩]) 
 .ret) .skip)) 
 (.seq
  (.ops [⟨some 103, .mv (.r 4), none⟩, ⟨some 104, .mv (.r 9), none⟩, ⟨some 105, .toInt .u64 (.r 104), none⟩, ⟨some 106, .call 44 [.r 103, .r 105, .c (.int .i64 (.ofNat 1))], none⟩]) 
 (.seq
  (.ops [⟨some 107, .mv (.r 4), none⟩, ⟨some 108, .mv (.r 10), none⟩, ⟨some 109, .call 45 [.r 107, .r 108], none⟩]) 
 (.seq
  (.ops [⟨some 110, .mv (.r 4), none⟩, ⟨some 111, .mv (.r 16), none⟩, ⟨some 112, .call 45 [.r 110, .r 111], none⟩]) 
 (.seq
  (.ops [⟨some 113, .mv (.r 4), none⟩, ⟨some 114, .call 46 [.r 113], none⟩, ⟨some 2, .mv (.r 114), none⟩, ⟨some 3, .mv (.c (.int .i64 (.ofNat 0))), none⟩]) 
 .ret))))))))))))))⟩
def c123 : AF := ⟨17, [.reg 4], .seq
  (.ops [⟨some 4, .mv (.c (.int .u32 (.ofNat 0))), none⟩]) 
 (.seq
  (.ops [⟨some 6, .mv (.r 1), none⟩, ⟨some 7, .toInt .u64 (.r 6), none⟩, ⟨some 8, .bin .and (.r 7) (.c (.int .u64 (.ofNat 31))), none⟩, ⟨some 5, .mv (.r 8), none⟩]) 
 (.seq
  (.ops [⟨some 9, .mv (.r 0), none⟩, ⟨some 10, .mv (.r 5), none⟩, ⟨some 11, .bin .shl (.r 9) (.r 10), none⟩, ⟨some 12, .mv (.r 0), none⟩, ⟨some 13, .mv (.r 5), none⟩, ⟨some 14, .bin .sub (.c (.int .u64 (.ofNat 32))) (.r 13), none⟩, ⟨some 15, .bin .shr (.r 12) (.r 14), none⟩, ⟨some 16, .bin .or (.r 11) (.r 15), none⟩, ⟨some 4, .mv (.r 16), none⟩]) 
 .ret))⟩
def c124 : AF := ⟨30, [.reg 4, .reg 5], .seq
  (.ops [⟨some 4, .mv (.c (.int .u64 (.ofNat 0))), none⟩, ⟨some 5, .mv (.c (.int .u64 (.ofNat 0))), none⟩]) 
 (.seq
  (.cond (.c (.bool false)) (.seq
  (.ops [⟨some 11, .mv (.r 0), none⟩, ⟨some 12, .toInt .u32 (.r 11), none⟩, ⟨some 13, .mv (.r 1), none⟩, ⟨some 14, .toInt .u32 (.r 13), none⟩, ⟨some 15, .call 142 [.r 12, .r 14], none⟩, ⟨some 10, .mv (.r 15), none⟩, ⟨some 16, .extract 0 (.r 10), none⟩, ⟨some 17, .extract 1 (.r 10), none⟩, ⟨some 6, .mv (.r 16), none⟩, ⟨some 7, .mv (.r 17), none⟩]) 
 (.seq
  (.ops [⟨some 18, .mv (.r 6), none⟩, ⟨some 19, .toInt .u64 (.r 18), none⟩, ⟨some 20, .mv (.r 7), none⟩, ⟨some 21, .toInt .u64 (.r 20), none⟩, ⟨some 4, .mv (.r 19), none⟩, ⟨some 5, .mv (.r 21), none⟩]) 
 .ret)) .skip) 
 (.seq
  (.ops [⟨some 23, .mv (.r 0), none⟩, ⟨some 24, .mv (.r 1), none⟩, ⟨some 25, .call 92 [.r 23, .r 24], none⟩, ⟨some 22, .mv (.r 25), none⟩, ⟨some 26, .extract 0 (.r 22), none⟩, ⟨some 27, .extract 1 (.r 22), none⟩, ⟨some 8, .mv (.r 26), none⟩, ⟨some 9, .mv (.r 27), none⟩]) 
 (.seq
  (.ops [⟨some 28, .mv (.r 8), none⟩, ⟨some 29, .mv (.r 9), none⟩, ⟨some 4, .mv (.r 28), none⟩, ⟨some 5, .mv (.r 29), none⟩]) 
 .ret)))⟩
def c125 : AF := ⟨103, [.reg 4, .reg 5, .reg 6, .reg 7], .seq
  (.ops [⟨some 4, .mv (.c .nilslice), none⟩, ⟨some 5, .mv (.c .nilslice), none⟩, ⟨some 6, .mv (.c (.int .i64 (.ofNat 0))), none⟩, ⟨some 7, .mv (.c (.int .i64 (.ofNat 0))), none⟩]) 
 (.seq
  (.ops [⟨some 17, .mv (.r 0), none⟩, ⟨some 18, .call 143 [.r 17], none⟩, ⟨some 16, .mv (.r 18), none⟩, ⟨some 19, .extract 0 (.r 16), none⟩, ⟨some 20, .extract 1 (.r 16), none⟩, ⟨some 8, .alloc [.int .i64 (.ofNat 0), .int .i64 (.ofNat 0), .int .i64 (.ofNat 0), .int .i64 (.ofNat 0), .int .i64 (.ofNat 0)], none⟩, ⟨none, .store 5 (.r 8) (.r 19), none⟩, ⟨some 9, .mv (.r 20), none⟩]) 
 (.seq
  (.seq
  (.ops [⟨some 21, .mv (.r 9), none⟩, ⟨some 22, .bin .neq (.r 21) (.c (.int .i64 (.ofNat 0))), none⟩]) 
 (.cond (.r 22) (.seq
  (.ops [⟨some 23, .mv (.r 9), none⟩, ⟨some 4, .mv (.c .nilslice), none⟩, ⟨some 5, .mv (.c .nilslice), none⟩, ⟨some 6, .mv (.c (.int .i64 (.ofNat 0))), none⟩, ⟨some 7, .mv (.r 23), none⟩]) 
 .ret) .skip)) 
 (.seq
  (.ops [⟨some 24, .mv (.r 0), none⟩, ⟨some 25, .fieldAt 2 (.r 8), none⟩, ⟨some 26, .load1 (.r 25), none⟩, ⟨some 27, .sliceSl 1 true (.r 24) (some (.r 26)) none none, none⟩, ⟨some 0, .mv (.r 27), none⟩]) 
 (.seq
  (.seq
  (.ops [⟨some 28, .fieldAt 0 (.r 8), none⟩, ⟨some 29, .load1 (.r 28), none⟩]) 
 (.block 0 (.seq
  (.ops [⟨some 31, .bin .eql (.r 29) (.c (.int .i64 (.ofNat 0))), none⟩, ⟨some 30, .mv (.r 31), none⟩]) 
 (.cond (.r 30) (.ops [⟨some 32, .fieldAt 3 (.r 8), none⟩, ⟨some 33, .load1 (.r 32), none⟩, ⟨some 34, .fieldAt 4 (.r 8), none⟩, ⟨none, .store 1 (.r 34) (.r 33), none⟩]) (.seq
  (.ops [⟨some 36, .bin .eql (.r 29) (.c (.int .i64 (.ofNat 1))), none⟩, ⟨some 35, .mv (.r 36), none⟩]) 
 (.cond (.r 35) (.ops [⟨some 37, .fieldAt 4 (.r 8), none⟩, ⟨none, .store 1 (.r 37) (.c (.int .i64 (.ofNat 1))), none⟩]) .skip)))))) 
 (.seq
  (.seq
  (.ops [⟨some 38, .mv (.r 0), none⟩, ⟨some 39, .len .slice (.r 38), none⟩, ⟨some 40, .fieldAt 4 (.r 8), none⟩, ⟨some 41, .load1 (.r 40), none⟩, ⟨some 42, .bin .lss (.r 39) (.r 41), none⟩]) 
 (.cond (.r 42) (.seq
  (.ops [⟨some 4, .mv (.c .nilslice), none⟩, ⟨some 5, .mv (.c .nilslice), none⟩, ⟨some 6, .mv (.c (.int .i64 (.ofNat 0))), none⟩, ⟨some 7, .mv (.c (.int .i64 (.ofNat 10))), none⟩]) 
 .ret) .skip)) 
 (.seq
  (.ops [⟨some 43, .mv (.r 0), none⟩, ⟨some 44, .fieldAt 4 (.r 8), none⟩, ⟨some 45, .load1 (.r 44), none⟩, ⟨some 46, .sliceSl 1 false (.r 43) none (some (.r 45)) none, none⟩, ⟨some 0, .mv (.r 46), none⟩]) 
 (.seq
  (.ops [⟨some 47, .fieldAt 2 (.r 8), none⟩, ⟨some 48, .load1 (.r 47), none⟩, ⟨some 49, .fieldAt 4 (.r 8), none⟩, ⟨some 50, .load1 (.r 49), none⟩, ⟨some 51, .bin .add (.r 48) (.r 50), none⟩, ⟨some 10, .mv (.r 51), none⟩]) 
 (.seq
  (.ops [⟨some 52, .mv (.r 1), none⟩, ⟨some 11, .mv (.r 52), none⟩]) 
 (.seq
  (.seq
  (.ops [⟨some 53, .fieldAt 0 (.r 8), none⟩, ⟨some 54, .load1 (.r 53), none⟩]) 
 (.block 1 (.seq
  (.block 5 (.seq
  (.block 4 (.seq
  (.block 3 (.seq
  (.block 2 (.seq
  (.seq
  (.seq
  (.ops [⟨some 56, .bin .eql (.r 54) (.c (.int .i64 (.ofNat 0))), none⟩, ⟨some 55, .mv (.r 56), none⟩]) 
 (.cond (.r 55) (.exit 2) .skip)) 
 (.seq
  (.seq
  (.ops [⟨some 58, .bin .eql (.r 54) (.c (.int .i64 (.ofNat 1))), none⟩, ⟨some 57, .mv (.r 58), none⟩]) 
 (.cond (.r 57) (.exit 3) .skip)) 
 (.seq
  (.ops [⟨some 60, .bin .eql (.r 54) (.c (.int .i64 (.ofNat 2))), none⟩, ⟨some 59, .mv (.r 60), none⟩]) 
 (.cond (.r 59) (.exit 4) .skip)))) 
 (.exit 5))) 
 (.seq
  (.seq
  (.ops [⟨some 61, .mv (.r 0), none⟩, ⟨some 62, .call 53 [.r 61], none⟩, ⟨some 63, .mv (.r 1), none⟩, ⟨some 64, .call 53 [.r 63], none⟩, ⟨some 65, .mv (.r 10), none⟩, ⟨some 4, .mv (.r 62), none⟩, ⟨some 5, .mv (.r 64), none⟩, ⟨some 6, .mv (.r 65), none⟩, ⟨some 7, .mv (.c (.int .i64 (.ofNat 0))), none⟩]) 
 .ret) 
 (.exit 1)))) 
 (.seq
  (.seq
  (.ops [⟨some 66, .mv (.r 0), none⟩, ⟨some 67, .fieldAt 3 (.r 8), none⟩, ⟨some 68, .load1 (.r 67), none⟩, ⟨some 69, .call 115 [.r 66, .r 68], none⟩, ⟨some 70, .mv (.r 1), none⟩, ⟨some 71, .call 53 [.r 70], none⟩, ⟨some 72, .mv (.r 10), none⟩, ⟨some 4, .mv (.r 69), none⟩, ⟨some 5, .mv (.r 71), none⟩, ⟨some 6, .mv (.r 72), none⟩, ⟨some 7, .mv (.c (.int .i64 (.ofNat 0))), none⟩]) 
 .ret) 
 (.exit 1)))) 
 (.seq
  (.ops [⟨some 74, .mv (.r 0), none⟩, ⟨some 75, .call 144 [.r 74], none⟩, ⟨some 73, .mv (.r 75), none⟩, ⟨some 76, .extract 0 (.r 73), none⟩, ⟨some 77, .extract 1 (.r 73), none⟩, ⟨some 78, .extract 2 (.r 73), none⟩, ⟨some 12, .mv (.r 76), none⟩, ⟨some 13, .mv (.r 77), none⟩, ⟨some 14, .mv (.r 78), none⟩]) 
 (.seq
  (.seq
  (.ops [⟨some 79, .mv (.r 14), none⟩, ⟨some 80, .bin .neq (.r 79) (.c (.int .i64 (.ofNat 0))), none⟩]) 
 (.cond (.r 80) (.seq
  (.ops [⟨some 81, .mv (.r 14), none⟩, ⟨some 4, .mv (.c .nilslice), none⟩, ⟨some 5, .mv (.c .nilslice), none⟩, ⟨some 6, .mv (.c (.int .i64 (.ofNat 0))), none⟩, ⟨some 7, .mv (.r 81), none⟩]) 
 .ret) .skip)) 
 (.ops [⟨some 82, .mv (.r 12), none⟩, ⟨some 83, .mv (.r 0), none⟩, ⟨some 84, .mv (.r 13), none⟩, ⟨some 85, .sliceSl 1 true (.r 83) (some (.r 84)) none none, none⟩, ⟨some 11, .mv (.r 82), none⟩, ⟨some 0, .mv (.r 85), none⟩]))))) 
 (.seq
  (.seq
  (.ops [⟨some 86, .mv (.r 11), none⟩, ⟨some 87, .len .slice (.r 86), none⟩, ⟨some 88, .bin .eql (.r 87) (.c (.int .i64 (.ofNat 0))), none⟩]) 
 (.cond (.r 88) (.seq
  (.ops [⟨some 4, .mv (.c .nilslice), none⟩, ⟨some 5, .mv (.c .nilslice), none⟩, ⟨some 6, .mv (.c (.int .i64 (.ofNat 0))), none⟩, ⟨some 7, .mv (.c (.int .i64 (.ofNat 11))), none⟩]) 
 .ret) .skip)) 
 (.exit 1))))) 
 (.seq
  (.ops [⟨some 90, .loadN 5 (.r 8), none⟩, ⟨some 91, .mv (.r 11), none⟩, ⟨some 92, .mv (.r 0), none⟩, ⟨some 93, .call 145 [.r 90, .r 91, .r 92], none⟩, ⟨some 89, .mv (.r 93), none⟩, ⟨some 94, .extract 0 (.r 89), none⟩, ⟨some 95, .extract 1 (.r 89), none⟩, ⟨some 15, .mv (.r 94), none⟩, ⟨some 9, .mv (.r 95), none⟩]) 
 (.seq
  (.seq
  (.ops [⟨some 96, .mv (.r 9), none⟩, ⟨some 97, .bin .neq (.r 96) (.c (.int .i64 (.ofNat 0))), none⟩]) 
 (.cond (.r 97) (.seq
  (.ops [⟨some 98, .mv (.r 9), none⟩, ⟨some 4, .mv (.c .nilslice), none⟩, ⟨some 5, .mv (.c .nilslice), none⟩, ⟨some 6, .mv (.c (.int .i64 (.ofNat 0))), none⟩, ⟨some 7, .mv (.r 98), none⟩]) 
 .ret) .skip)) 
 (.seq
  (.ops [⟨some 99, .mv (.r 15), none⟩, ⟨some 100, .mv (.r 11), none⟩, ⟨some 101, .call 53 [.r 100], none⟩, ⟨some 102, .mv (.r 10), none⟩, ⟨some 4, .mv (.r 99), none⟩, ⟨some 5, .mv (.r 101), none⟩, ⟨some 6, .mv (.r 102), none⟩, ⟨some 7, .mv (.c (.int .i64 (.ofNat 0))), none⟩]) 
 .ret))))))))))))⟩
def c126 : AF := ⟨137, [.reg 4, .cell 5 6 true, .reg 6], .seq
  (.ops [⟨some 3, .box 6 (.r 1), none⟩, ⟨some 4, .mv (.c .nilslice), none⟩, ⟨some 5, .alloc [.int .i64 (.ofNat 0), .nilslice, .int .i64 (.ofNat 0), .nilslice, .int .i64 (.ofNat 0), .nilslice], none⟩, ⟨some 6, .mv (.c (.int .i64 (.ofNat 0))), none⟩]) 
 (.seq
  (.ops [⟨some 19, .mv (.r 0), none⟩, ⟨some 20, .call 47 [.r 19], none⟩, ⟨some 7, .mv (.r 20), none⟩]) 
 (.seq
  (.ops [⟨some 21, .mv (.r 7), none⟩, ⟨some 22, .call 146 [.r 21], none⟩, ⟨some 8, .mv (.r 22), none⟩]) 
 (.seq
  (.block 0 (.seq
  (.ops [⟨some 24, .mv (.r 7), none⟩, ⟨some 25, .call 77 [.r 24], none⟩, ⟨some 26, .bin .neq (.r 25) (.c (.int .i64 (.ofNat 0))), none⟩, ⟨some 23, .mv (.r 26), none⟩]) 
 (.cond (.r 23) (.seq
  (.ops [⟨some 27, .build [.int .i64 (.ofNat 0), .nilslice, .int .i64 (.ofNat 0), .nilslice, .int .i64 (.ofNat 0), .nilslice] [], none⟩, ⟨some 28, .mv (.r 7), none⟩, ⟨some 29, .call 77 [.r 28], none⟩, ⟨some 4, .mv (.c .nilslice), none⟩, ⟨none, .store 6 (.r 5) (.r 27), none⟩, ⟨some 6, .mv (.r 29), none⟩]) 
 .ret) (.seq
  (.ops [⟨some 31, .mv (.r 8), none⟩, ⟨some 32, .bin .eql (.r 31) (.c (.int .i64 (.ofNat 0))), none⟩, ⟨some 33, .mv (.r 32), none⟩, ⟨some 34, .mv (.r 7), some (33, true)⟩, ⟨some 35, .call 76 [.r 34], some (33, true)⟩, ⟨some 36, .bin .gtr (.r 35) (.c (.int .i64 (.ofNat 0))), some (33, true)⟩, ⟨some 37, .pick (.r 33) (.r 36) (.c (.bool false)), none⟩, ⟨some 30, .mv (.r 37), none⟩]) 
 (.cond (.r 30) (.seq
  (.ops [⟨some 38, .build [.int .i64 (.ofNat 0), .nilslice, .int .i64 (.ofNat 0), .nilslice, .int .i64 (.ofNat 0), .nilslice] [], none⟩, ⟨some 4, .mv (.c .nilslice), none⟩, ⟨none, .store 6 (.r 5) (.r 38), none⟩, ⟨some 6, .mv (.c (.int .i64 (.ofNat 15))), none⟩]) 
 .ret) (.seq
  (.ops [⟨some 40, .mv (.r 8), none⟩, ⟨some 41, .bin .eql (.r 40) (.c (.int .i64 (.ofNat 0))), none⟩, ⟨some 39, .mv (.r 41), none⟩]) 
 (.cond (.r 39) (.seq
  (.ops [⟨some 42, .loadN 6 (.r 3), none⟩, ⟨some 4, .mv (.c .nilslice), none⟩, ⟨none, .store 6 (.r 5) (.r 42), none⟩, ⟨some 6, .mv (.c (.int .i64 (.ofNat 0))), none⟩]) 
 .ret) .skip))))))) 
 (.seq
  (.ops [⟨some 44, .mv (.r 7), none⟩, ⟨some 45, .loadN 6 (.r 3), none⟩, ⟨some 46, .call 147 [.r 44, .r 45], none⟩, ⟨some 43, .mv (.r 46), none⟩, ⟨some 47, .extract 0 (.r 43), none⟩, ⟨some 48, .extract 1 (.r 43), none⟩, ⟨some 9, .alloc [.int .i64 (.ofNat 0), .nilslice, .int .i64 (.ofNat 0), .nilslice, .int .i64 (.ofNat 0), .nilslice], none⟩, ⟨none, .store 6 (.r 9) (.r 47), none⟩, ⟨some 10, .mv (.r 48), none⟩]) 
 (.seq
  (.seq
  (.ops [⟨some 49, .mv (.r 10), none⟩, ⟨some 50, .bin .neq (.r 49) (.c (.int .i64 (.ofNat 0))), none⟩]) 
 (.cond (.r 50) (.seq
  (.ops [⟨some 51, .build [.int .i64 (.ofNat 0), .nilslice, .int .i64 (.ofNat 0), .nilslice, .int .i64 (.ofNat 0), .nilslice] [], none⟩, ⟨some 52, .mv (.r 10), none⟩, ⟨some 4, .mv (.c .nilslice), none⟩, ⟨none, .store 6 (.r 5) (.r 51), none⟩, ⟨some 6, .mv (.r 52), none⟩]) 
 .ret) .skip)) 
 (.seq
  (.ops [⟨some 54, .mv (.r 7), none⟩, ⟨some 55, .mv (.r 7), none⟩, ⟨some 56, .call 76 [.r 55], none⟩, ⟨some 57, .call 50 [.r 54, .r 56], none⟩, ⟨some 58, .call 148 [.r 57], none⟩, ⟨some 53, .mv (.r 58), none⟩, ⟨some 59, .extract 0 (.r 53), none⟩, ⟨some 60, .extract 1 (.r 53), none⟩, ⟨some 11, .mv (.r 59), none⟩, ⟨some 10, .mv (.r 60), none⟩]) 
 (.seq
  (.seq
  (.ops [⟨some 61, .mv (.r 10), none⟩, ⟨some 62, .bin .neq (.r 61) (.c (.int .i64 (.ofNat 0))), none⟩]) 
 (.cond (.r 62) (.seq
  (.ops [⟨some 63, .build [.int .i64 (.ofNat 0), .nilslice, .int .i64 (.ofNat 0), .nilslice, .int .i64 (.ofNat 0), .nilslice] [], none⟩, ⟨some 64, .mv (.r 10), none⟩, ⟨some 4, .mv (.c .nilslice), none⟩, ⟨none, .store 6 (.r 5) (.r 63), none⟩, ⟨some 6, .mv (.r 64), none⟩]) 
 .ret) .skip)) 
 (.seq
  (.ops [⟨some 12, .alloc [.int .i64 (.ofNat 0), .int .i64 (.ofNat 0), .int .i64 (.ofNat 0)], none⟩]) 
 (.seq
  (.seq
  (.ops [⟨some 65, .mv (.c (.int .i64 (.ofNat 0))), none⟩]) 
 (.block 1 (.loop (.seq
  (.ops [⟨some 66, .bin .lss (.r 65) (.c (.int .i64 (.ofNat 3))), none⟩]) 
 (.seq
  (.cond (.r 66) .skip (.exit 1)) 
 (.seq
  (.block 2 (.seq
  (.ops [⟨some 67, .mv (.r 65), none⟩, ⟨some 13, .mv (.r 67), none⟩]) 
 (.ops [⟨some 68, .mv (.r 13), none⟩, ⟨some 69, .mv (.r 13), none⟩, ⟨some 70, .indexArr 3 2 (.r 9) (.r 69), none⟩, ⟨some 71, .loadN 2 (.r 70), none⟩, ⟨some 72, .mv (.r 11), none⟩, ⟨some 73, .call 149 [.r 71, .r 72], none⟩, ⟨some 74, .indexArr 3 1 (.r 12) (.r 68), none⟩, ⟨none, .store 1 (.r 74) (.r 73), none⟩]))) 
 (.ops [⟨some 75, .bin .add (.r 65) (.c (.int .i64 (.ofNat 1))), none⟩, ⟨some 65, .mv (.r 75), none⟩]))))))) 
 (.seq
  (.ops [⟨some 14, .mv (.c .nilslice), none⟩]) 
 (.seq
  (.seq
  (.ops [⟨some 76, .mv (.r 8), none⟩, ⟨some 77, .mv (.c (.int .i64 (.ofNat 0))), none⟩]) 
 (.block 3 (.loop (.seq
  (.ops [⟨some 78, .bin .lss (.r 77) (.r 76), none⟩]) 
 (.seq
  (.cond (.r 78) .skip (.exit 3)) 
 (.seq
  (.block 4 (.seq
  (.ops [⟨some 79, .mv (.r 77), none⟩, ⟨some 15, .mv (.r 79), none⟩]) 
 (.seq
  (.ops [⟨some 16, .alloc [.int .u32 (.ofNat 0), .int .u32 (.ofNat 0), .int .u32 (.ofNat 0)], none⟩]) 
 (.seq
  (.ops [⟨some 80, .indexArr 3 2 (.r 9) (.c (.int .i64 (.ofNat 1))), none⟩, ⟨some 81, .loadN 2 (.r 80), none⟩, ⟨some 82, .indexArr 3 1 (.r 12) (.c (.int .i64 (.ofNat 1))), none⟩, ⟨some 83, .load1 (.r 82), none⟩, ⟨some 84, .mv (.r 11), none⟩, ⟨some 85, .call 150 [.c (.int .i64 (.ofNat 1)), .r 81, .r 83, .r 84], none⟩, ⟨some 86, .fieldAt 2 (.r 16), none⟩, ⟨none, .store 1 (.r 86) (.r 85), none⟩]) 
 (.seq
  (.ops [⟨some 87, .indexArr 3 2 (.r 9) (.c (.int .i64 (.ofNat 2))), none⟩, ⟨some 88, .loadN 2 (.r 87), none⟩, ⟨some 89, .indexArr 3 1 (.r 12) (.c (.int .i64 (.ofNat 2))), none⟩, ⟨some 90, .load1 (.r 89), none⟩, ⟨some 91, .mv (.r 11), none⟩, ⟨some 92, .call 150 [.c (.int .i64 (.ofNat 2)), .r 88, .r 90, .r 91], none⟩, ⟨some 93, .fieldAt 1 (.r 16), none⟩, ⟨none, .store 1 (.r 93) (.r 92), none⟩]) 
 (.seq
  (.ops [⟨some 94, .indexArr 3 2 (.r 9) (.c (.int .i64 (.ofNat 0))), none⟩, ⟨some 95, .loadN 2 (.r 94), none⟩, ⟨some 96, .indexArr 3 1 (.r 12) (.c (.int .i64 (.ofNat 0))), none⟩, ⟨some 97, .load1 (.r 96), none⟩, ⟨some 98, .mv (.r 11), none⟩, ⟨some 99, .call 150 [.c (.int .i64 (.ofNat 0)), .r 95, .r 97, .r 98], none⟩, ⟨some 100, .fieldAt 0 (.r 16), none⟩, ⟨none, .store 1 (.r 100) (.r 99), none⟩]) 
 (.seq
  (.ops [⟨some 101, .mv (.r 14), none⟩, ⟨some 102, .loadN 3 (.r 16), none⟩, ⟨some 103, .buildSlice 3 1 [.int .u32 (.ofNat 0), .int .u32 (.ofNat 0), .int .u32 (.ofNat 0)] [(0, (3, .r 102))], none⟩, ⟨some 104, .append 3 12 (.r 101) (.r 103), none⟩, ⟨some 14, .mv (.r 104), none⟩]) 
 (.seq
  (.seq
  (.ops [⟨some 105, .mv (.r 15), none⟩, ⟨some 106, .mv (.r 8), none⟩, ⟨some 107, .bin .sub (.r 106) (.c (.int .i64 (.ofNat 1))), none⟩, ⟨some 108, .bin .eql (.r 105) (.r 107), none⟩]) 
 (.cond (.r 108) (.exit 3) .skip)) 
 (.seq
  (.ops [⟨some 109, .build [.int .i64 (.ofNat 0), .int .i64 (.ofNat 0), .int .i64 (.ofNat 0)] [(0, (1, .c (.int .i64 (.ofNat 0)))), (1, (1, .c (.int .i64 (.ofNat 2)))), (2, (1, .c (.int .i64 (.ofNat 1))))], none⟩, ⟨some 110, .mv (.c (.int .i64 (.ofNat 0))), none⟩]) 
 (.block 5 (.loop (.seq
  (.ops [⟨some 111, .bin .lss (.r 110) (.c (.int .i64 (.ofNat 3))), none⟩]) 
 (.seq
  (.cond (.r 111) .skip (.exit 5)) 
 (.seq
  (.block 6 (.seq
  (.ops [⟨some 112, .indexAgg 3 1 false (.r 109) (.r 110), none⟩, ⟨some 18, .mv (.r 112), none⟩]) 
 (.ops [⟨some 113, .mv (.r 18), none⟩, ⟨some 114, .mv (.r 18), none⟩, ⟨some 115, .indexArr 3 2 (.r 9) (.r 114), none⟩, ⟨some 116, .loadN 2 (.r 115), none⟩, ⟨some 117, .mv (.r 18), none⟩, ⟨some 118, .indexArr 3 1 (.r 12) (.r 117), none⟩, ⟨some 119, .load1 (.r 118), none⟩, ⟨some 120, .mv (.r 11), none⟩, ⟨some 121, .call 151 [.r 116, .r 119, .r 120], none⟩, ⟨some 122, .indexArr 3 1 (.r 12) (.r 113), none⟩, ⟨none, .store 1 (.r 122) (.r 121), none⟩]))) 
 (.ops [⟨some 123, .bin .add (.r 110) (.c (.int .i64 (.ofNat 1))), none⟩, ⟨some 110, .mv (.r 123), none⟩]))))))))))))))) 
 (.ops [⟨some 124, .bin .add (.r 77) (.c (.int .i64 (.ofNat 1))), none⟩, ⟨some 77, .mv (.r 124), none⟩]))))))) 
 (.seq
  (.block 7 (.seq
  (.ops [⟨some 126, .mv (.r 11), none⟩, ⟨some 127, .call 152 [.r 126], none⟩, ⟨some 128, .bin .lss (.r 127) (.c (.int .i64 (.ofNat 0))), none⟩, ⟨some 125, .mv (.r 128), none⟩]) 
 (.cond (.r 125) (.seq
  (.ops [⟨some 129, .build [.int .i64 (.ofNat 0), .nilslice, .int .i64 (.ofNat 0), .nilslice, .int .i64 (.ofNat 0), .nilslice] [], none⟩, ⟨some 4, .mv (.c .nilslice), none⟩, ⟨none, .store 6 (.r 5) (.r 129), none⟩, ⟨some 6, .mv (.c (.int .i64 (.ofNat 11))), none⟩]) 
 .ret) (.seq
  (.ops [⟨some 131, .mv (.r 11), none⟩, ⟨some 132, .call 152 [.r 131], none⟩, ⟨some 133, .bin .gtr (.r 132) (.c (.int .i64 (.ofNat 0))), none⟩, ⟨some 130, .mv (.r 133), none⟩]) 
 (.cond (.r 130) (.seq
  (.ops [⟨some 134, .build [.int .i64 (.ofNat 0), .nilslice, .int .i64 (.ofNat 0), .nilslice, .int .i64 (.ofNat 0), .nilslice] [], none⟩, ⟨some 4, .mv (.c .nilslice), none⟩, ⟨none, .store 6 (.r 5) (.r 134), none⟩, ⟨some 6, .mv (.c (.int .i64 (.ofNat 15))), none⟩]) 
 .ret) .skip))))) 
 (.seq
  (.ops [⟨some 135, .mv (.r 14), none⟩, ⟨some 136, .loadN 6 (.r 9), none⟩, ⟨some 4, .mv (.r 135), none⟩, ⟨none, .store 6 (.r 5) (.r 136), none⟩, ⟨some 6, .mv (.c (.int .i64 (.ofNat 0))), none⟩]) 
 .ret)))))))))))))⟩
def c127 : AF := ⟨111, [.reg 12, .cell 13 3 true, .reg 14], .seq
  (.ops [⟨some 6, .box 1 (.r 0), none⟩, ⟨some 9, .box 3 (.r 3), none⟩, ⟨some 11, .box 1 (.r 5), none⟩, ⟨some 12, .mv (.c .nilslice), none⟩, ⟨some 13, .alloc [.int .u32 (.ofNat 0), .int .u32 (.ofNat 0), .int .u32 (.ofNat 0)], none⟩, ⟨some 14, .mv (.c (.int .i64 (.ofNat 0))), none⟩]) 
 (.seq
  (.ops [⟨some 23, .load1 (.r 6), none⟩, ⟨some 24, .call 53 [.r 23], none⟩, ⟨some 15, .alloc [.nilslice], none⟩, ⟨none, .store 1 (.r 15) (.r 24), none⟩]) 
 (.seq
  (.ops [⟨some 25, .makeFunc (.func 153) [] [.r 15, .r 6, .r 11], none⟩, ⟨some 16, .mv (.r 25), none⟩]) 
 (.seq
  (.seq
  (.ops [⟨some 26, .mv (.r 2), none⟩, ⟨some 27, .len .slice (.r 26), none⟩, ⟨some 28, .mv (.c (.int .i64 (.ofNat 0))), none⟩]) 
 (.block 0 (.loop (.seq
  (.ops [⟨some 29, .bin .lss (.r 28) (.r 27), none⟩]) 
 (.seq
  (.cond (.r 29) .skip (.exit 0)) 
 (.seq
  (.block 1 (.seq
  (.ops [⟨some 30, .indexSl 3 (.r 26) (.r 28), none⟩, ⟨some 31, .loadN 3 (.r 30), none⟩, ⟨some 18, .alloc [.int .u32 (.ofNat 0), .int .u32 (.ofNat 0), .int .u32 (.ofNat 0)], none⟩, ⟨none, .store 3 (.r 18) (.r 31), none⟩]) 
 (.seq
  (.ops [⟨some 32, .fieldAt 0 (.r 18), none⟩, ⟨some 33, .load1 (.r 32), none⟩, ⟨some 34, .toInt .i64 (.r 33), none⟩, ⟨some 19, .mv (.r 34), none⟩]) 
 (.seq
  (.seq
  (.ops [⟨some 35, .mv (.r 19), none⟩, ⟨some 36, .mv (.r 1), none⟩, ⟨some 37, .len .slice (.r 36), none⟩, ⟨some 38, .bin .gtr (.r 35) (.r 37), none⟩]) 
 (.cond (.r 38) (.seq
  (.ops [⟨some 39, .build [.int .u32 (.ofNat 0), .int .u32 (.ofNat 0), .int .u32 (.ofNat 0)] [], none⟩, ⟨some 12, .mv (.c .nilslice), none⟩, ⟨none, .store 3 (.r 13) (.r 39), none⟩, ⟨some 14, .mv (.c (.int .i64 (.ofNat 11))), none⟩]) 
 .ret) .skip)) 
 (.seq
  (.ops [⟨some 41, .loadN 3 (.r 9), none⟩, ⟨some 42, .loadN 3 (.r 18), none⟩, ⟨some 43, .call 131 [.r 41, .r 42], none⟩, ⟨some 40, .mv (.r 43), none⟩, ⟨some 44, .extract 0 (.r 40), none⟩, ⟨some 45, .extract 1 (.r 40), none⟩, ⟨some 46, .extract 2 (.r 40), none⟩, ⟨some 21, .alloc [.int .u32 (.ofNat 0), .int .u32 (.ofNat 0), .int .u32 (.ofNat 0)], none⟩, ⟨some 20, .mv (.r 44), none⟩, ⟨none, .store 3 (.r 21) (.r 45), none⟩, ⟨some 22, .mv (.r 46), none⟩]) 
 (.seq
  (.seq
  (.ops [⟨some 47, .mv (.r 22), none⟩, ⟨some 48, .bin .neq (.r 47) (.c (.int .i64 (.ofNat 0))), none⟩]) 
 (.cond (.r 48) (.seq
  (.ops [⟨some 49, .build [.int .u32 (.ofNat 0), .int .u32 (.ofNat 0), .int .u32 (.ofNat 0)] [], none⟩, ⟨some 50, .mv (.r 22), none⟩, ⟨some 12, .mv (.c .nilslice), none⟩, ⟨none, .store 3 (.r 13) (.r 49), none⟩, ⟨some 14, .mv (.r 50), none⟩]) 
 .ret) .skip)) 
 (.seq
  (.seq
  (.ops [⟨some 51, .mv (.r 20), none⟩, ⟨some 52, .toInt .u64 (.r 51), none⟩, ⟨some 53, .load1 (.r 15), none⟩, ⟨some 54, .len .slice (.r 53), none⟩, ⟨some 55, .mv (.r 19), none⟩, ⟨some 56, .bin .add (.r 54) (.r 55), none⟩, ⟨some 57, .toInt .u64 (.r 56), none⟩, ⟨some 58, .bin .gtr (.r 52) (.r 57), none⟩, ⟨some 59, .mv (.r 58), none⟩, ⟨some 60, .mv (.r 20), some (59, false)⟩, ⟨some 61, .toInt .u64 (.r 60), some (59, false)⟩, ⟨some 62, .mv (.r 4), some (59, false)⟩, ⟨some 63, .bin .gtr (.r 61) (.r 62), some (59, false)⟩, ⟨some 64, .pick (.r 59) (.c (.bool true)) (.r 63), none⟩]) 
 (.cond (.r 64) (.seq
  (.ops [⟨some 65, .build [.int .u32 (.ofNat 0), .int .u32 (.ofNat 0), .int .u32 (.ofNat 0)] [], none⟩, ⟨some 12, .mv (.c .nilslice), none⟩, ⟨none, .store 3 (.r 13) (.r 65), none⟩, ⟨some 14, .mv (.c (.int .i64 (.ofNat 16))), none⟩]) 
 .ret) .skip)) 
 (.seq
  (.seq
  (.ops [⟨some 66, .mv (.r 16), none⟩, ⟨some 67, .mv (.r 19), none⟩, ⟨some 68, .fieldAt 1 (.r 18), none⟩, ⟨some 69, .load1 (.r 68), none⟩, ⟨some 70, .toInt .i64 (.r 69), none⟩, ⟨some 71, .bin .add (.r 67) (.r 70), none⟩, ⟨some 72, .callv (.r 66) [.r 71], none⟩, ⟨some 73, .un .not (.r 72), none⟩]) 
 (.cond (.r 73) (.seq
  (.ops [⟨some 74, .build [.int .u32 (.ofNat 0), .int .u32 (.ofNat 0), .int .u32 (.ofNat 0)] [], none⟩, ⟨some 12, .mv (.c .nilslice), none⟩, ⟨none, .store 3 (.r 13) (.r 74), none⟩, ⟨some 14, .mv (.c (.int .i64 (.ofNat 12))), none⟩]) 
 .ret) .skip)) 
 (.seq
  (.ops [⟨some 75, .load1 (.r 15), none⟩, ⟨some 76, .mv (.r 1), none⟩, ⟨some 77, .mv (.r 19), none⟩, ⟨some 78, .sliceSl 1 false (.r 76) none (some (.r 77)) none, none⟩, ⟨some 79, .append 1 1 (.r 75) (.r 78), none⟩, ⟨none, .store 1 (.r 15) (.r 79), none⟩]) 
 (.seq
  (.multi [(0, ⟨some 80, .mv (.r 1), none⟩), (0, ⟨some 81, .mv (.r 19), none⟩), (2, ⟨some 82, .sliceSl 1 true (.r 80) (some (.r 81)) none none, none⟩), (1, ⟨some 83, .loadN 3 (.r 21), none⟩), (0, ⟨some 1, .mv (.r 82), none⟩), (5, ⟨none, .store 3 (.r 9) (.r 83), none⟩)] [(2, 3)]) 
 (.seq
  (.ops [⟨some 84, .fieldAt 1 (.r 18), none⟩, ⟨some 85, .load1 (.r 84), none⟩, ⟨some 86, .mv (.c (.int .u32 (.ofNat 0))), none⟩]) 
 (.block 2 (.loop (.seq
  (.ops [⟨some 87, .bin .lss (.r 86) (.r 85), none⟩]) 
 (.seq
  (.cond (.r 87) .skip (.exit 2)) 
 (.seq
  (.block 3 (.multi [(1, ⟨some 88, .load1 (.r 15), none⟩), (5, ⟨some 89, .load1 (.r 15), none⟩), (5, ⟨some 90, .load1 (.r 15), none⟩), (0, ⟨some 91, .len .slice (.r 90), none⟩), (0, ⟨some 92, .mv (.r 20), none⟩), (0, ⟨some 93, .toInt .i64 (.r 92), none⟩), (0, ⟨some 94, .bin .sub (.r 91) (.r 93), none⟩), (0, ⟨some 95, .indexSl 1 (.r 89) (.r 94), none⟩), (5, ⟨some 96, .load1 (.r 95), none⟩), (2, ⟨some 97, .buildSlice 1 1 [.int .u8 (.ofNat 0)] [(0, (1, .r 96))], none⟩), (5, ⟨some 98, .append 1 1 (.r 88) (.r 97), none⟩), (5, ⟨none, .store 1 (.r 15) (.r 98), none⟩)] [(0, 9)])) 
 (.ops [⟨some 99, .bin .add (.r 86) (.c (.int .u32 (.ofNat 1))), none⟩, ⟨some 86, .mv (.r 99), none⟩]))))))))))))))))) 
 (.ops [⟨some 100, .bin .add (.r 28) (.c (.int .i64 (.ofNat 1))), none⟩, ⟨some 28, .mv (.r 100), none⟩]))))))) 
 (.seq
  (.seq
  (.ops [⟨some 101, .mv (.r 16), none⟩, ⟨some 102, .mv (.r 1), none⟩, ⟨some 103, .len .slice (.r 102), none⟩, ⟨some 104, .callv (.r 101) [.r 103], none⟩, ⟨some 105, .un .not (.r 104), none⟩]) 
 (.cond (.r 105) (.seq
  (.ops [⟨some 106, .build [.int .u32 (.ofNat 0), .int .u32 (.ofNat 0), .int .u32 (.ofNat 0)] [], none⟩, ⟨some 12, .mv (.c .nilslice), none⟩, ⟨none, .store 3 (.r 13) (.r 106), none⟩, ⟨some 14, .mv (.c (.int .i64 (.ofNat 12))), none⟩]) 
 .ret) .skip)) 
 (.seq
  (.multi [(5, ⟨some 107, .load1 (.r 15), none⟩), (0, ⟨some 108, .mv (.r 1), none⟩), (3, ⟨some 109, .append 1 1 (.r 107) (.r 108), none⟩), (1, ⟨some 110, .loadN 3 (.r 9), none⟩), (0, ⟨some 12, .mv (.r 109), none⟩), (5, ⟨none, .store 3 (.r 13) (.r 110), none⟩), (0, ⟨some 14, .mv (.c (.int .i64 (.ofNat 0))), none⟩)] [(2, 3)]) 
 .ret)))))⟩
def c128 : AF := ⟨19, [.reg 4], .seq
  (.ops [⟨some 4, .mv (.c (.int .i64 (.ofNat 0))), none⟩]) 
 (.seq
  (.seq
  (.ops [⟨some 6, .mv (.r 0), none⟩, ⟨some 7, .len .slice (.r 6), none⟩, ⟨some 8, .mv (.c (.int .i64 (.ofNat 0))), none⟩]) 
 (.block 0 (.loop (.seq
  (.ops [⟨some 9, .bin .lss (.r 8) (.r 7), none⟩]) 
 (.seq
  (.cond (.r 9) .skip (.exit 0)) 
 (.seq
  (.block 1 (.seq
  (.ops [⟨some 10, .mv (.r 8), none⟩, ⟨some 5, .mv (.r 10), none⟩]) 
 (.seq
  (.ops [⟨some 11, .mv (.r 1), none⟩, ⟨some 12, .mv (.r 0), none⟩, ⟨some 13, .mv (.r 5), none⟩, ⟨some 14, .indexSl 1 (.r 12) (.r 13), none⟩, ⟨some 15, .load1 (.r 14), none⟩, ⟨some 16, .callv (.r 11) [.r 15], none⟩]) 
 (.cond (.r 16) (.seq
  (.ops [⟨some 17, .mv (.r 5), none⟩, ⟨some 4, .mv (.r 17), none⟩]) 
 .ret) .skip)))) 
 (.ops [⟨some 18, .bin .add (.r 8) (.c (.int .i64 (.ofNat 1))), none⟩, ⟨some 8, .mv (.r 18), none⟩]))))))) 
 (.seq
  (.ops [⟨some 4, .mv (.c (.int .i64 (.negSucc 0))), none⟩]) 
 .ret))⟩
def c129 : AF := ⟨54, [], .seq
  (.ops [⟨some 9, .mv (.r 0), none⟩, ⟨some 10, .mv (.r 1), none⟩, ⟨some 11, .call 154 [.r 9, .r 10], none⟩, ⟨some 8, .mv (.r 11), none⟩, ⟨some 12, .extract 0 (.r 8), none⟩, ⟨some 13, .extract 1 (.r 8), none⟩, ⟨some 4, .alloc [.int .u8 (.ofNat 0), .int .u8 (.ofNat 0), .int .u8 (.ofNat 0), .int .u8 (.ofNat 0)], none⟩, ⟨none, .store 4 (.r 4) (.r 12), none⟩, ⟨some 5, .mv (.r 13), none⟩]) 
 (.seq
  (.ops [⟨some 15, .mv (.r 0), none⟩, ⟨some 16, .nilCheck (.r 15), none⟩, ⟨some 17, .fieldAt 2 (.r 16), none⟩, ⟨some 18, .load1 (.r 17), none⟩, ⟨some 19, .loadN 4 (.r 4), none⟩, ⟨some 20, .lookup [.int .u8, .int .u8, .int .u8, .int .u8] true (.int .i64 (.ofNat 0)) true (.r 18) (.r 19), none⟩, ⟨some 14, .mv (.r 20), none⟩, ⟨some 21, .extract 0 (.r 14), none⟩, ⟨some 22, .extract 1 (.r 14), none⟩, ⟨some 6, .mv (.r 21), none⟩, ⟨some 7, .mv (.r 22), none⟩]) 
 (.seq
  (.block 0 (.seq
  (.ops [⟨some 24, .mv (.r 5), none⟩, ⟨some 25, .un .not (.r 24), none⟩, ⟨some 26, .mv (.r 25), none⟩, ⟨some 27, .mv (.r 7), some (26, false)⟩, ⟨some 28, .un .not (.r 27), some (26, false)⟩, ⟨some 29, .pick (.r 26) (.c (.bool true)) (.r 28), none⟩, ⟨some 23, .mv (.r 29), none⟩]) 
 (.cond (.r 23) (.ops [⟨some 30, .mv (.r 0), none⟩, ⟨some 31, .nilCheck (.r 30), none⟩, ⟨some 32, .fieldAt 3 (.r 31), none⟩, ⟨some 33, .load1 (.r 32), none⟩, ⟨some 34, .mv (.r 1), none⟩, ⟨some 35, .indexSl 1 (.r 33) (.r 34), none⟩, ⟨none, .store 1 (.r 35) (.c (.int .i64 (.negSucc 0))), none⟩]) (.seq
  (.ops [⟨some 37, .mv (.r 6), none⟩, ⟨some 38, .mv (.r 1), none⟩, ⟨some 39, .bin .lss (.r 37) (.r 38), none⟩, ⟨some 36, .mv (.r 39), none⟩]) 
 (.cond (.r 36) (.ops [⟨some 40, .mv (.r 0), none⟩, ⟨some 41, .nilCheck (.r 40), none⟩, ⟨some 42, .fieldAt 3 (.r 41), none⟩, ⟨some 43, .load1 (.r 42), none⟩, ⟨some 44, .mv (.r 1), none⟩, ⟨some 45, .mv (.r 6), none⟩, ⟨some 46, .indexSl 1 (.r 43) (.r 44), none⟩, ⟨none, .store 1 (.r 46) (.r 45), none⟩]) .skip))))) 
 (.seq
  (.ops [⟨some 47, .mv (.r 5), none⟩]) 
 (.cond (.r 47) (.ops [⟨some 48, .mv (.r 0), none⟩, ⟨some 49, .nilCheck (.r 48), none⟩, ⟨some 50, .fieldAt 2 (.r 49), none⟩, ⟨some 51, .load1 (.r 50), none⟩, ⟨some 52, .loadN 4 (.r 4), none⟩, ⟨some 53, .mv (.r 1), none⟩, ⟨none, .mapUpdate [.int .u8, .int .u8, .int .u8, .int .u8] true (.r 51) (.r 52) (.r 53), none⟩]) .skip))))⟩
def c130 : AF := ⟨61, [.reg 4, .reg 5], .seq
  (.ops [⟨some 4, .mv (.c (.int .i64 (.ofNat 0))), none⟩, ⟨some 5, .mv (.c (.int .i64 (.ofNat 0))), none⟩]) 
 (.seq
  (.ops [⟨some 14, .mv (.r 0), none⟩, ⟨some 15, .mv (.r 1), none⟩, ⟨some 16, .call 154 [.r 14, .r 15], none⟩, ⟨some 13, .mv (.r 16), none⟩, ⟨some 17, .extract 0 (.r 13), none⟩, ⟨some 18, .extract 1 (.r 13), none⟩, ⟨some 6, .alloc [.int .u8 (.ofNat 0), .int .u8 (.ofNat 0), .int .u8 (.ofNat 0), .int .u8 (.ofNat 0)], none⟩, ⟨none, .store 4 (.r 6) (.r 17), none⟩, ⟨some 7, .mv (.r 18), none⟩]) 
 (.seq
  (.seq
  (.ops [⟨some 19, .mv (.r 7), none⟩, ⟨some 20, .un .not (.r 19), none⟩]) 
 (.cond (.r 20) (.seq
  (.ops [⟨some 4, .mv (.c (.int .i64 (.ofNat 0))), none⟩, ⟨some 5, .mv (.c (.int .i64 (.ofNat 0))), none⟩]) 
 .ret) .skip)) 
 (.seq
  (.ops [⟨some 22, .mv (.r 0), none⟩, ⟨some 23, .nilCheck (.r 22), none⟩, ⟨some 24, .fieldAt 2 (.r 23), none⟩, ⟨some 25, .load1 (.r 24), none⟩, ⟨some 26, .loadN 4 (.r 6), none⟩, ⟨some 27, .lookup [.int .u8, .int .u8, .int .u8, .int .u8] true (.int .i64 (.ofNat 0)) true (.r 25) (.r 26), none⟩, ⟨some 21, .mv (.r 27), none⟩, ⟨some 28, .extract 0 (.r 21), none⟩, ⟨some 29, .extract 1 (.r 21), none⟩, ⟨some 8, .mv (.r 28), none⟩, ⟨some 9, .mv (.r 29), none⟩]) 
 (.seq
  (.seq
  (.ops [⟨some 30, .mv (.r 9), none⟩, ⟨some 31, .un .not (.r 30), none⟩]) 
 (.cond (.r 31) (.seq
  (.ops [⟨some 4, .mv (.c (.int .i64 (.ofNat 0))), none⟩, ⟨some 5, .mv (.c (.int .i64 (.ofNat 0))), none⟩]) 
 .ret) .skip)) 
 (.seq
  (.ops [⟨some 10, .mv (.c (.int .i64 (.ofNat 0))), none⟩, ⟨some 11, .mv (.c (.int .i64 (.ofNat 0))), none⟩]) 
 (.seq
  .skip 
 (.seq
  (.seq
  (.ops [⟨some 32, .mv (.r 0), none⟩, ⟨some 33, .nilCheck (.r 32), none⟩, ⟨some 34, .fieldAt 4 (.r 33), none⟩, ⟨some 35, .load1 (.r 34), none⟩, ⟨some 36, .mv (.c (.int .i64 (.ofNat 0))), none⟩]) 
 (.block 0 (.loop (.seq
  (.ops [⟨some 37, .bin .lss (.r 36) (.r 35), none⟩]) 
 (.seq
  (.cond (.r 37) .skip (.exit 0)) 
 (.seq
  (.block 1 (.seq
  (.seq
  (.ops [⟨some 38, .mv (.r 0), none⟩, ⟨some 39, .mv (.r 8), none⟩, ⟨some 40, .mv (.r 1), none⟩, ⟨some 41, .call 155 [.r 38, .r 39, .r 40], none⟩, ⟨some 12, .mv (.r 41), none⟩]) 
 (.seq
  (.ops [⟨some 42, .mv (.r 12), none⟩, ⟨some 43, .mv (.r 10), none⟩, ⟨some 44, .bin .gtr (.r 42) (.r 43), none⟩]) 
 (.cond (.r 44) (.ops [⟨some 45, .mv (.r 12), none⟩, ⟨some 46, .mv (.r 1), none⟩, ⟨some 47, .mv (.r 8), none⟩, ⟨some 48, .bin .sub (.r 46) (.r 47), none⟩, ⟨some 10, .mv (.r 45), none⟩, ⟨some 11, .mv (.r 48), none⟩]) .skip))) 
 (.seq
  (.ops [⟨some 49, .mv (.r 0), none⟩, ⟨some 50, .nilCheck (.r 49), none⟩, ⟨some 51, .fieldAt 3 (.r 50), none⟩, ⟨some 52, .load1 (.r 51), none⟩, ⟨some 53, .mv (.r 8), none⟩, ⟨some 54, .indexSl 1 (.r 52) (.r 53), none⟩, ⟨some 55, .load1 (.r 54), none⟩, ⟨some 8, .mv (.r 55), none⟩]) 
 (.seq
  (.ops [⟨some 56, .mv (.r 8), none⟩, ⟨some 57, .bin .lss (.r 56) (.c (.int .i64 (.ofNat 0))), none⟩]) 
 (.cond (.r 57) (.exit 0) .skip))))) 
 (.ops [⟨some 58, .bin .add (.r 36) (.c (.int .i64 (.ofNat 1))), none⟩, ⟨some 36, .mv (.r 58), none⟩]))))))) 
 (.seq
  (.ops [⟨some 59, .mv (.r 10), none⟩, ⟨some 60, .mv (.r 11), none⟩, ⟨some 4, .mv (.r 59), none⟩, ⟨some 5, .mv (.r 60), none⟩]) 
 .ret))))))))⟩
def c131 : AF := ⟨54, [.reg 4, .cell 5 3 true, .reg 6], .seq
  (.ops [⟨some 2, .box 3 (.r 0), none⟩, ⟨some 3, .box 3 (.r 1), none⟩, ⟨some 4, .mv (.c (.int .u32 (.ofNat 0))), none⟩, ⟨some 5, .alloc [.int .u32 (.ofNat 0), .int .u32 (.ofNat 0), .int .u32 (.ofNat 0)], none⟩, ⟨some 6, .mv (.c (.int .i64 (.ofNat 0))), none⟩]) 
 (.seq
  (.ops [⟨some 7, .mv (.c (.int .i64 (.ofNat 2))), none⟩]) 
 (.seq
  (.seq
  (.ops [⟨some 10, .fieldAt 2 (.r 3), none⟩, ⟨some 11, .load1 (.r 10), none⟩, ⟨some 12, .bin .eql (.r 11) (.c (.int .u32 (.ofNat 0))), none⟩]) 
 (.cond (.r 12) (.seq
  (.ops [⟨some 13, .build [.int .u32 (.ofNat 0), .int .u32 (.ofNat 0), .int .u32 (.ofNat 0)] [], none⟩, ⟨some 4, .mv (.c (.int .u32 (.ofNat 0))), none⟩, ⟨none, .store 3 (.r 5) (.r 13), none⟩, ⟨some 6, .mv (.c (.int .i64 (.ofNat 11))), none⟩]) 
 .ret) .skip)) 
 (.seq
  (.seq
  (.ops [⟨some 14, .fieldAt 2 (.r 3), none⟩, ⟨some 15, .load1 (.r 14), none⟩, ⟨some 16, .bin .gtr (.r 15) (.c (.int .u32 (.ofNat 3))), none⟩]) 
 (.cond (.r 16) (.seq
  (.multi [(0, ⟨some 17, .fieldAt 2 (.r 3), none⟩), (1, ⟨some 18, .load1 (.r 17), none⟩), (0, ⟨some 19, .bin .sub (.r 18) (.c (.int .u32 (.ofNat 3))), none⟩), (5, ⟨some 20, .loadN 3 (.r 2), none⟩), (0, ⟨some 21, .fieldAt 2 (.r 3), none⟩), (5, ⟨some 22, .load1 (.r 21), none⟩), (0, ⟨some 23, .bin .sub (.r 22) (.c (.int .u32 (.ofNat 3))), none⟩), (0, ⟨some 24, .mv (.r 7), none⟩), (4, ⟨some 25, .call 132 [.r 20, .r 23, .r 24], none⟩), (0, ⟨some 4, .mv (.r 19), none⟩), (5, ⟨none, .store 3 (.r 5) (.r 25), none⟩), (0, ⟨some 6, .mv (.c (.int .i64 (.ofNat 0))), none⟩)] [(1, 8)]) 
 .ret) .skip)) 
 (.seq
  (.ops [⟨some 26, .fieldAt 2 (.r 3), none⟩, ⟨some 27, .load1 (.r 26), none⟩, ⟨some 28, .toInt .i64 (.r 27), none⟩, ⟨some 29, .bin .sub (.r 28) (.c (.int .i64 (.ofNat 1))), none⟩, ⟨some 8, .mv (.r 29), none⟩]) 
 (.seq
  (.seq
  (.ops [⟨some 30, .fieldAt 0 (.r 3), none⟩, ⟨some 31, .load1 (.r 30), none⟩, ⟨some 32, .bin .eql (.r 31) (.c (.int .u32 (.ofNat 0))), none⟩]) 
 (.cond (.r 32) (.ops [⟨some 33, .mv (.r 8), none⟩, ⟨some 34, .bin .add (.r 33) (.c (.int .i64 (.ofNat 1))), none⟩, ⟨some 8, .mv (.r 34), none⟩]) .skip)) 
 (.seq
  (.ops [⟨some 35, .indexArr 3 1 (.r 2) (.c (.int .i64 (.ofNat 0))), none⟩, ⟨some 36, .load1 (.r 35), none⟩, ⟨some 37, .bin .sub (.r 36) (.c (.int .u32 (.ofNat 1))), none⟩, ⟨some 9, .mv (.r 37), none⟩]) 
 (.seq
  (.seq
  (.ops [⟨some 38, .mv (.r 8), none⟩, ⟨some 39, .mv (.r 7), none⟩, ⟨some 40, .bin .leq (.r 38) (.r 39), none⟩]) 
 (.cond (.r 40) (.ops [⟨some 41, .mv (.r 8), none⟩, ⟨some 42, .indexArr 3 1 (.r 2) (.r 41), none⟩, ⟨some 43, .load1 (.r 42), none⟩, ⟨some 9, .mv (.r 43), none⟩]) .skip)) 
 (.seq
  (.seq
  (.ops [⟨some 44, .mv (.r 9), none⟩, ⟨some 45, .bin .eql (.r 44) (.c (.int .u32 (.ofNat 0))), none⟩]) 
 (.cond (.r 45) (.seq
  (.ops [⟨some 46, .build [.int .u32 (.ofNat 0), .int .u32 (.ofNat 0), .int .u32 (.ofNat 0)] [], none⟩, ⟨some 4, .mv (.c (.int .u32 (.ofNat 0))), none⟩, ⟨none, .store 3 (.r 5) (.r 46), none⟩, ⟨some 6, .mv (.c (.int .i64 (.ofNat 16))), none⟩]) 
 .ret) .skip)) 
 (.seq
  (.ops [⟨some 47, .mv (.r 9), none⟩, ⟨some 48, .loadN 3 (.r 2), none⟩, ⟨some 49, .mv (.r 9), none⟩, ⟨some 50, .mv (.r 8), none⟩, ⟨some 51, .mv (.r 7), none⟩, ⟨some 52, .maxmin false (.r 50) [.r 51], none⟩, ⟨some 53, .call 132 [.r 48, .r 49, .r 52], none⟩, ⟨some 4, .mv (.r 47), none⟩, ⟨none, .store 3 (.r 5) (.r 53), none⟩, ⟨some 6, .mv (.c (.int .i64 (.ofNat 0))), none⟩]) 
 .ret)))))))))⟩
def c132 : AF := ⟨18, [.cell 6 3 true], .seq
  (.ops [⟨some 3, .box 3 (.r 0), none⟩, ⟨some 6, .alloc [.int .u32 (.ofNat 0), .int .u32 (.ofNat 0), .int .u32 (.ofNat 0)], none⟩]) 
 (.seq
  (.ops [⟨some 8, .loadN 3 (.r 3), none⟩, ⟨some 7, .alloc [.int .u32 (.ofNat 0), .int .u32 (.ofNat 0), .int .u32 (.ofNat 0)], none⟩, ⟨none, .store 3 (.r 7) (.r 8), none⟩]) 
 (.seq
  (.ops [⟨some 9, .mv (.r 2), none⟩, ⟨some 10, .bin .add (.r 9) (.c (.int .i64 (.ofNat 1))), none⟩, ⟨some 11, .sliceArr 3 1 (.r 7) (some (.c (.int .i64 (.ofNat 1)))) (some (.r 10)) none, none⟩, ⟨some 12, .mv (.r 2), none⟩, ⟨some 13, .sliceArr 3 1 (.r 3) none (some (.r 12)) none, none⟩, ⟨some 14, .copy 1 (.r 11) (.r 13), none⟩]) 
 (.seq
  (.ops [⟨some 15, .mv (.r 1), none⟩, ⟨some 16, .indexArr 3 1 (.r 7) (.c (.int .i64 (.ofNat 0))), none⟩, ⟨none, .store 1 (.r 16) (.r 15), none⟩]) 
 (.seq
  (.ops [⟨some 17, .loadN 3 (.r 7), none⟩, ⟨none, .store 3 (.r 6) (.r 17), none⟩]) 
 .ret))))⟩
def c133 : AF := ⟨12, [.reg 2, .reg 3], .seq
  (.ops [⟨some 2, .mv (.c .nilslice), none⟩, ⟨some 3, .mv (.c (.int .i64 (.ofNat 0))), none⟩]) 
 (.seq
  (.seq
  (.ops [⟨some 4, .mv (.r 0), none⟩, ⟨some 5, .len .slice (.r 4), none⟩, ⟨some 6, .bin .gtr (.r 5) (.c (.int .i64 (.ofNat 131072))), none⟩]) 
 (.cond (.r 6) (.seq
  (.ops [⟨some 2, .mv (.c .nilslice), none⟩, ⟨some 3, .mv (.c (.int .i64 (.ofNat 1))), none⟩]) 
 .ret) .skip)) 
 (.seq
  (.ops [⟨some 7, .mv (.r 0), none⟩, ⟨some 8, .len .slice (.r 7), none⟩, ⟨some 9, .call 156 [.c (.int .i64 (.ofNat 0)), .r 8], none⟩, ⟨some 10, .mv (.r 0), none⟩, ⟨some 11, .append 1 1 (.r 9) (.r 10), none⟩, ⟨some 2, .mv (.r 11), none⟩, ⟨some 3, .mv (.c (.int .i64 (.ofNat 0))), none⟩]) 
 .ret))⟩
def c134 : AF := ⟨11, [], .seq
  (.ops [⟨some 5, .mv (.r 1), none⟩, ⟨some 6, .bin .eql (.r 5) (.c (.int .i64 (.ofNat 0))), none⟩]) 
 (.cond (.r 6) (.ops [⟨some 7, .load1 (.r 2), none⟩, ⟨some 8, .mv (.r 0), none⟩, ⟨some 9, .buildSlice 1 2 [.nilslice] [(0, (1, .r 7)), (1, (1, .r 8))], none⟩, ⟨some 10, .call 135 [.r 9], none⟩, ⟨none, .store 1 (.r 2) (.r 10), none⟩]) .skip)⟩
def c135 : AF := ⟨5, [.reg 2], .seq
  (.ops [⟨some 2, .mv (.c .nilslice), none⟩]) 
 (.seq
  (.ops [⟨some 3, .mv (.r 0), none⟩, ⟨some 4, .call 157 [.r 3, .c (.func (.func 158) [] [])], none⟩, ⟨some 2, .mv (.r 4), none⟩]) 
 .ret)⟩
def c136 : AF := ⟨17, [.reg 4, .reg 5], .seq
  (.ops [⟨some 4, .mv (.c .nilslice), none⟩, ⟨some 5, .mv (.c (.int .i64 (.ofNat 0))), none⟩]) 
 (.seq
  (.seq
  (.ops [⟨some 6, .mv (.r 1), none⟩, ⟨some 7, .bin .lss (.r 6) (.c (.int .i64 (.ofNat 0))), none⟩, ⟨some 8, .mv (.r 7), none⟩, ⟨some 9, .mv (.r 1), some (8, false)⟩, ⟨some 10, .bin .gtr (.r 9) (.c (.int .i64 (.ofNat 131072))), some (8, false)⟩, ⟨some 11, .pick (.r 8) (.c (.bool true)) (.r 10), none⟩]) 
 (.cond (.r 11) (.seq
  (.ops [⟨some 4, .mv (.c .nilslice), none⟩, ⟨some 5, .mv (.c (.int .i64 (.ofNat 1))), none⟩]) 
 .ret) .skip)) 
 (.seq
  (.ops [⟨some 12, .mv (.r 1), none⟩, ⟨some 13, .call 156 [.c (.int .i64 (.ofNat 1)), .r 12], none⟩, ⟨some 14, .mv (.r 0), none⟩, ⟨some 15, .buildSlice 1 1 [.int .u8 (.ofNat 0)] [(0, (1, .r 14))], none⟩, ⟨some 16, .append 1 1 (.r 13) (.r 15), none⟩, ⟨some 4, .mv (.r 16), none⟩, ⟨some 5, .mv (.c (.int .i64 (.ofNat 0))), none⟩]) 
 .ret))⟩
def c137 : AF := ⟨70, [.reg 2, .reg 3], .seq
  (.ops [⟨some 2, .mv (.c .nilslice), none⟩, ⟨some 3, .mv (.c (.int .i64 (.ofNat 0))), none⟩]) 
 (.seq
  (.ops [⟨some 4, .mv (.c (.int .u64 (.ofNat 0))), none⟩]) 
 (.seq
  (.ops [⟨some 5, .mv (.c (.int .i64 (.ofNat 0))), none⟩, ⟨some 6, .mv (.c (.int .i64 (.ofNat 0))), none⟩]) 
 (.seq
  (.seq
  (.ops [⟨some 15, .mv (.r 0), none⟩, ⟨some 16, .len .slice (.r 15), none⟩, ⟨some 17, .mv (.c (.int .i64 (.ofNat 0))), none⟩]) 
 (.block 0 (.loop (.seq
  (.ops [⟨some 18, .bin .lss (.r 17) (.r 16), none⟩]) 
 (.seq
  (.cond (.r 18) .skip (.exit 0)) 
 (.seq
  (.block 1 (.seq
  (.ops [⟨some 19, .mv (.r 17), none⟩, ⟨some 20, .indexSl 1 (.r 15) (.r 17), none⟩, ⟨some 21, .load1 (.r 20), none⟩, ⟨some 7, .mv (.r 19), none⟩, ⟨some 8, .mv (.r 21), none⟩]) 
 (.seq
  (.ops [⟨some 22, .mv (.r 4), none⟩, ⟨some 23, .mv (.r 8), none⟩, ⟨some 24, .toInt .u64 (.r 23), none⟩, ⟨some 25, .bin .add (.r 22) (.r 24), none⟩, ⟨some 4, .mv (.r 25), none⟩]) 
 (.seq
  (.ops [⟨some 26, .mv (.r 8), none⟩, ⟨some 27, .bin .gtr (.r 26) (.c (.int .u32 (.ofNat 0))), none⟩]) 
 (.cond (.r 27) (.ops [⟨some 28, .mv (.r 5), none⟩, ⟨some 29, .bin .add (.r 28) (.c (.int .i64 (.ofNat 1))), none⟩, ⟨some 30, .mv (.r 7), none⟩, ⟨some 5, .mv (.r 29), none⟩, ⟨some 6, .mv (.r 30), none⟩]) .skip))))) 
 (.ops [⟨some 31, .bin .add (.r 17) (.c (.int .i64 (.ofNat 1))), none⟩, ⟨some 17, .mv (.r 31), none⟩]))))))) 
 (.seq
  (.seq
  (.ops [⟨some 32, .mv (.r 0), none⟩, ⟨some 33, .len .slice (.r 32), none⟩, ⟨some 34, .bin .gtr (.r 33) (.c (.int .i64 (.ofNat 256))), none⟩, ⟨some 35, .mv (.r 34), none⟩, ⟨some 36, .mv (.r 5), some (35, false)⟩, ⟨some 37, .bin .lss (.r 36) (.c (.int .i64 (.ofNat 2))), some (35, false)⟩, ⟨some 38, .pick (.r 35) (.c (.bool true)) (.r 37), none⟩, ⟨some 39, .mv (.r 38), none⟩, ⟨some 40, .mv (.r 4), some (39, false)⟩, ⟨some 41, .bin .gtr (.r 40) (.c (.int .u64 (.ofNat 2147483647))), some (39, false)⟩, ⟨some 42, .pick (.r 39) (.c (.bool true)) (.r 41), none⟩]) 
 (.cond (.r 42) (.seq
  (.ops [⟨some 2, .mv (.c .nilslice), none⟩, ⟨some 3, .mv (.c (.int .i64 (.ofNat 1))), none⟩]) 
 .ret) .skip)) 
 (.seq
  (.ops [⟨some 43, .mv (.r 0), none⟩, ⟨some 44, .mv (.r 6), none⟩, ⟨some 45, .bin .add (.r 44) (.c (.int .i64 (.ofNat 1))), none⟩, ⟨some 46, .sliceSl 1 false (.r 43) none (some (.r 45)) none, none⟩, ⟨some 47, .mv (.r 4), none⟩, ⟨some 48, .call 159 [.r 46, .r 47], none⟩, ⟨some 9, .mv (.r 48), none⟩]) 
 (.seq
  (.ops [⟨some 49, .mv (.r 9), none⟩, ⟨some 50, .call 160 [.r 49], none⟩, ⟨some 10, .mv (.r 50), none⟩]) 
 (.seq
  (.ops [⟨some 11, .mv (.c .nilslice), none⟩]) 
 (.seq
  (.seq
  (.ops [⟨some 51, .mv (.r 9), none⟩, ⟨some 52, .len .slice (.r 51), none⟩, ⟨some 53, .mv (.c (.int .i64 (.ofNat 0))), none⟩]) 
 (.block 2 (.loop (.seq
  (.ops [⟨some 54, .bin .lss (.r 53) (.r 52), none⟩]) 
 (.seq
  (.cond (.r 54) .skip (.exit 2)) 
 (.seq
  (.block 3 (.seq
  (.ops [⟨some 55, .indexSl 1 (.r 51) (.r 53), none⟩, ⟨some 56, .load1 (.r 55), none⟩, ⟨some 13, .mv (.r 56), none⟩]) 
 (.seq
  (.ops [⟨some 14, .mv (.c (.int .i64 (.ofNat 0))), none⟩]) 
 (.seq
  (.seq
  (.ops [⟨some 57, .mv (.r 13), none⟩, ⟨some 58, .bin .gtr (.r 57) (.c (.int .i64 (.ofNat 0))), none⟩]) 
 (.cond (.r 58) (.ops [⟨some 59, .mv (.r 10), none⟩, ⟨some 60, .bin .add (.r 59) (.c (.int .i64 (.ofNat 1))), none⟩, ⟨some 61, .mv (.r 13), none⟩, ⟨some 62, .bin .sub (.r 60) (.r 61), none⟩, ⟨some 14, .mv (.r 62), none⟩]) .skip)) 
 (.ops [⟨some 63, .mv (.r 11), none⟩, ⟨some 64, .mv (.r 14), none⟩, ⟨some 65, .toInt .u8 (.r 64), none⟩, ⟨some 66, .buildSlice 1 1 [.int .u8 (.ofNat 0)] [(0, (1, .r 65))], none⟩, ⟨some 67, .append 1 1 (.r 63) (.r 66), none⟩, ⟨some 11, .mv (.r 67), none⟩]))))) 
 (.ops [⟨some 68, .bin .add (.r 53) (.c (.int .i64 (.ofNat 1))), none⟩, ⟨some 53, .mv (.r 68), none⟩]))))))) 
 (.seq
  (.ops [⟨some 69, .mv (.r 11), none⟩, ⟨some 2, .mv (.r 69), none⟩, ⟨some 3, .mv (.c (.int .i64 (.ofNat 0))), none⟩]) 
 .ret)))))))))⟩
def c138 : AF := ⟨100, [.reg 6, .reg 7], .seq
  (.ops [⟨some 6, .mv (.c .nilslice), none⟩, ⟨some 7, .mv (.c (.int .i64 (.ofNat 0))), none⟩]) 
 (.seq
  (.seq
  (.ops [⟨some 19, .mv (.r 0), none⟩, ⟨some 20, .len .slice (.r 19), none⟩, ⟨some 21, .bin .eql (.r 20) (.c (.int .i64 (.ofNat 0))), none⟩, ⟨some 22, .mv (.r 21), none⟩, ⟨some 23, .mv (.r 0), some (22, false)⟩, ⟨some 24, .len .slice (.r 23), some (22, false)⟩, ⟨some 25, .bin .gtr (.r 24) (.c (.int .i64 (.ofNat 131072))), some (22, false)⟩, ⟨some 26, .pick (.r 22) (.c (.bool true)) (.r 25), none⟩]) 
 (.cond (.r 26) (.seq
  (.ops [⟨some 6, .mv (.c .nilslice), none⟩, ⟨some 7, .mv (.c (.int .i64 (.ofNat 1))), none⟩]) 
 .ret) .skip)) 
 (.seq
  (.ops [⟨some 8, .mv (.c (.int .i64 (.ofNat 3))), none⟩]) 
 (.seq
  (.ops [⟨some 9, .mv (.c .nilslice), none⟩]) 
 (.seq
  (.seq
  (.ops [⟨some 27, .mv (.r 2), none⟩]) 
 (.cond (.r 27) (.seq
  (.ops [⟨some 8, .mv (.c (.int .i64 (.ofNat 2))), none⟩]) 
 (.seq
  (.ops [⟨some 29, .mv (.r 1), none⟩, ⟨some 30, .call 161 [.r 29], none⟩, ⟨some 28, .mv (.r 30), none⟩, ⟨some 31, .extract 0 (.r 28), none⟩, ⟨some 32, .extract 1 (.r 28), none⟩, ⟨some 10, .mv (.r 31), none⟩, ⟨some 11, .mv (.r 32), none⟩]) 
 (.seq
  (.seq
  (.ops [⟨some 33, .mv (.r 11), none⟩, ⟨some 34, .bin .neq (.r 33) (.c (.int .i64 (.ofNat 0))), none⟩]) 
 (.cond (.r 34) (.seq
  (.ops [⟨some 35, .mv (.r 11), none⟩, ⟨some 6, .mv (.c .nilslice), none⟩, ⟨some 7, .mv (.r 35), none⟩]) 
 .ret) .skip)) 
 (.ops [⟨some 36, .mv (.r 10), none⟩, ⟨some 9, .mv (.r 36), none⟩])))) .skip)) 
 (.seq
  (.ops [⟨some 38, .mv (.r 1), none⟩, ⟨some 39, .mv (.r 0), none⟩, ⟨some 40, .call 162 [.r 38, .r 39], none⟩, ⟨some 37, .mv (.r 40), none⟩, ⟨some 41, .extract 0 (.r 37), none⟩, ⟨some 42, .extract 1 (.r 37), none⟩, ⟨some 12, .mv (.r 41), none⟩, ⟨some 13, .mv (.r 42), none⟩]) 
 (.seq
  (.seq
  (.ops [⟨some 43, .mv (.r 13), none⟩, ⟨some 44, .bin .neq (.r 43) (.c (.int .i64 (.ofNat 0))), none⟩]) 
 (.cond (.r 44) (.seq
  (.ops [⟨some 45, .mv (.r 13), none⟩, ⟨some 6, .mv (.c .nilslice), none⟩, ⟨some 7, .mv (.r 45), none⟩]) 
 .ret) .skip)) 
 (.seq
  (.ops [⟨some 46, .mv (.r 9), none⟩, ⟨some 47, .mv (.r 12), none⟩, ⟨some 48, .append 1 1 (.r 46) (.r 47), none⟩, ⟨some 9, .mv (.r 48), none⟩]) 
 (.seq
  (.seq
  (.ops [⟨some 49, .mv (.r 9), none⟩, ⟨some 50, .len .slice (.r 49), none⟩, ⟨some 51, .bin .geq (.r 50) (.c (.int .i64 (.ofNat 262144))), none⟩]) 
 (.cond (.r 51) (.seq
  (.ops [⟨some 6, .mv (.c .nilslice), none⟩, ⟨some 7, .mv (.c (.int .i64 (.ofNat 1))), none⟩]) 
 .ret) .skip)) 
 (.seq
  (.ops [⟨some 14, .mv (.c (.int .i64 (.ofNat 3))), none⟩, ⟨some 15, .mv (.c (.int .i64 (.ofNat 18))), none⟩, ⟨some 16, .mv (.c (.int .i64 (.ofNat 5))), none⟩]) 
 (.seq
  (.seq
  (.ops [⟨some 52, .mv (.r 0), none⟩, ⟨some 53, .len .slice (.r 52), none⟩, ⟨some 54, .mv (.r 9), none⟩, ⟨some 55, .len .slice (.r 54), none⟩, ⟨some 56, .maxmin true (.r 53) [.r 55], none⟩, ⟨some 17, .mv (.r 56), none⟩]) 
 (.block 0 (.seq
  (.ops [⟨some 58, .mv (.r 0), none⟩, ⟨some 59, .len .slice (.r 58), none⟩, ⟨some 60, .bin .lss (.r 59) (.c (.int .i64 (.ofNat 256))), none⟩, ⟨some 61, .mv (.r 60), none⟩, ⟨some 62, .mv (.r 17), some (61, true)⟩, ⟨some 63, .bin .lss (.r 62) (.c (.int .i64 (.ofNat 1024))), some (61, true)⟩, ⟨some 64, .pick (.r 61) (.r 63) (.c (.bool false)), none⟩, ⟨some 57, .mv (.r 64), none⟩]) 
 (.cond (.r 57) (.ops [⟨some 14, .mv (.c (.int .i64 (.ofNat 0))), none⟩, ⟨some 15, .mv (.c (.int .i64 (.ofNat 10))), none⟩, ⟨some 16, .mv (.c (.int .i64 (.ofNat 3))), none⟩]) (.seq
  (.ops [⟨some 66, .mv (.r 0), none⟩, ⟨some 67, .len .slice (.r 66), none⟩, ⟨some 68, .bin .lss (.r 67) (.c (.int .i64 (.ofNat 256))), none⟩, ⟨some 65, .mv (.r 68), none⟩]) 
 (.cond (.r 65) (.seq
  (.ops [⟨some 6, .mv (.c .nilslice), none⟩, ⟨some 7, .mv (.c (.int .i64 (.ofNat 1))), none⟩]) 
 .ret) (.seq
  (.ops [⟨some 70, .mv (.r 17), none⟩, ⟨some 71, .bin .lss (.r 70) (.c (.int .i64 (.ofNat 1024))), none⟩, ⟨some 69, .mv (.r 71), none⟩]) 
 (.cond (.r 69) (.ops [⟨some 14, .mv (.c (.int .i64 (.ofNat 1))), none⟩, ⟨some 15, .mv (.c (.int .i64 (.ofNat 10))), none⟩, ⟨some 16, .mv (.c (.int .i64 (.ofNat 3))), none⟩]) (.seq
  (.ops [⟨some 73, .mv (.r 17), none⟩, ⟨some 74, .bin .lss (.r 73) (.c (.int .i64 (.ofNat 16384))), none⟩, ⟨some 72, .mv (.r 74), none⟩]) 
 (.cond (.r 72) (.ops [⟨some 14, .mv (.c (.int .i64 (.ofNat 2))), none⟩, ⟨some 15, .mv (.c (.int .i64 (.ofNat 14))), none⟩, ⟨some 16, .mv (.c (.int .i64 (.ofNat 4))), none⟩]) .skip)))))))))) 
 (.seq
  (.ops [⟨some 75, .call 43 [], none⟩, ⟨some 18, .mv (.r 75), none⟩]) 
 (.seq
  (.ops [⟨some 76, .mv (.r 18), none⟩, ⟨some 77, .mv (.r 8), none⟩, ⟨some 78, .mv (.r 14), none⟩, ⟨some 79, .bin .shl (.r 78) (.c (.int .u64 (.ofNat 2))), none⟩, ⟨some 80, .bin .or (.r 77) (.r 79), none⟩, ⟨some 81, .mv (.r 0), none⟩, ⟨some 82, .len .slice (.r 81), none⟩, ⟨some 83, .bin .shl (.r 82) (.c (.int .u64 (.ofNat 4))), none⟩, ⟨some 84, .bin .or (.r 80) (.r 83), none⟩, ⟨some 85, .toInt .u64 (.r 84), none⟩, ⟨some 86, .mv (.r 9), none⟩, ⟨some 87, .len .slice (.r 86), none⟩, ⟨some 88, .toInt .u64 (.r 87), none⟩, ⟨some 89, .mv (.r 15), none⟩, ⟨some 90, .bin .add (.c (.int .i64 (.ofNat 4))) (.r 89), none⟩, ⟨some 91, .bin .shl (.r 88) (.r 90), none⟩, ⟨some 92, .bin .or (.r 85) (.r 91), none⟩, ⟨some 93, .mv (.r 16), none⟩, ⟨some 94, .call 44 [.r 76, .r 92, .r 93], none⟩]) 
 (.seq
  (.ops [⟨some 95, .mv (.r 18), none⟩, ⟨some 96, .mv (.r 9), none⟩, ⟨some 97, .call 45 [.r 95, .r 96], none⟩]) 
 (.seq
  (.ops [⟨some 98, .mv (.r 18), none⟩, ⟨some 99, .call 46 [.r 98], none⟩, ⟨some 6, .mv (.r 99), none⟩, ⟨some 7, .mv (.c (.int .i64 (.ofNat 0))), none⟩]) 
 .ret))))))))))))))⟩
def c139 : AF := ⟨45, [.cell 2 3 true, .reg 3], .seq
  (.ops [⟨some 2, .alloc [.nilslice, .nilslice, .nilslice], none⟩, ⟨some 3, .mv (.c (.int .i64 (.ofNat 0))), none⟩]) 
 (.seq
  (.ops [⟨some 4, .alloc [.nilslice, .nilslice, .nilslice], none⟩]) 
 (.seq
  (.seq
  (.ops [⟨some 12, .mv (.r 0), none⟩, ⟨some 13, .len .slice (.r 12), none⟩, ⟨some 14, .mv (.c (.int .i64 (.ofNat 0))), none⟩]) 
 (.block 0 (.loop (.seq
  (.ops [⟨some 15, .bin .lss (.r 14) (.r 13), none⟩]) 
 (.seq
  (.cond (.r 15) .skip (.exit 0)) 
 (.seq
  (.block 1 (.seq
  (.ops [⟨some 16, .indexSl 3 (.r 12) (.r 14), none⟩, ⟨some 17, .loadN 3 (.r 16), none⟩, ⟨some 6, .alloc [.int .u32 (.ofNat 0), .int .u32 (.ofNat 0), .int .u32 (.ofNat 0)], none⟩, ⟨none, .store 3 (.r 6) (.r 17), none⟩]) 
 (.seq
  (.ops [⟨some 18, .loadN 3 (.r 6), none⟩, ⟨some 19, .call 163 [.r 18], none⟩, ⟨some 20, .mv (.c (.int .i64 (.ofNat 0))), none⟩]) 
 (.block 2 (.loop (.seq
  (.ops [⟨some 21, .bin .lss (.r 20) (.c (.int .i64 (.ofNat 3))), none⟩]) 
 (.seq
  (.cond (.r 21) .skip (.exit 2)) 
 (.seq
  (.block 3 (.seq
  (.ops [⟨some 22, .mv (.r 20), none⟩, ⟨some 23, .indexAgg 3 1 false (.r 19) (.r 20), none⟩, ⟨some 7, .mv (.r 22), none⟩, ⟨some 8, .mv (.r 23), none⟩]) 
 (.seq
  (.ops [⟨some 25, .mv (.r 7), none⟩, ⟨some 26, .mv (.r 8), none⟩, ⟨some 27, .call 164 [.r 25, .r 26], none⟩, ⟨some 24, .mv (.r 27), none⟩, ⟨some 28, .extract 0 (.r 24), none⟩, ⟨some 29, .extract 1 (.r 24), none⟩, ⟨some 30, .extract 2 (.r 24), none⟩, ⟨some 9, .mv (.r 28), none⟩, ⟨some 10, .mv (.r 29), none⟩, ⟨some 11, .mv (.r 30), none⟩]) 
 (.seq
  (.seq
  (.ops [⟨some 31, .mv (.r 11), none⟩, ⟨some 32, .bin .neq (.r 31) (.c (.int .i64 (.ofNat 0))), none⟩]) 
 (.cond (.r 32) (.seq
  (.ops [⟨some 33, .loadN 3 (.r 4), none⟩, ⟨none, .store 3 (.r 2) (.r 33), none⟩, ⟨some 3, .mv (.c (.int .i64 (.ofNat 1))), none⟩]) 
 .ret) .skip)) 
 (.ops [⟨some 34, .mv (.r 7), none⟩, ⟨some 35, .mv (.r 7), none⟩, ⟨some 36, .indexArr 3 1 (.r 4) (.r 35), none⟩, ⟨some 37, .load1 (.r 36), none⟩, ⟨some 38, .mv (.r 9), none⟩, ⟨some 39, .buildSlice 1 1 [.int .i64 (.ofNat 0)] [(0, (1, .r 38))], none⟩, ⟨some 40, .append 1 8 (.r 37) (.r 39), none⟩, ⟨some 41, .indexArr 3 1 (.r 4) (.r 34), none⟩, ⟨none, .store 1 (.r 41) (.r 40), none⟩]))))) 
 (.ops [⟨some 42, .bin .add (.r 20) (.c (.int .i64 (.ofNat 1))), none⟩, ⟨some 20, .mv (.r 42), none⟩]))))))))) 
 (.ops [⟨some 43, .bin .add (.r 14) (.c (.int .i64 (.ofNat 1))), none⟩, ⟨some 14, .mv (.r 43), none⟩]))))))) 
 (.seq
  (.ops [⟨some 44, .loadN 3 (.r 4), none⟩, ⟨none, .store 3 (.r 2) (.r 44), none⟩, ⟨some 3, .mv (.c (.int .i64 (.ofNat 0))), none⟩]) 
 .ret)))⟩
def c140 : AF := ⟨128, [.cell 4 2 true, .reg 5, .reg 6, .reg 7], .seq
  (.ops [⟨some 4, .alloc [.int .i64 (.ofNat 0), .nilslice], none⟩, ⟨some 5, .mv (.c (.int .i64 (.ofNat 0))), none⟩, ⟨some 6, .mv (.c .nilslice), none⟩, ⟨some 7, .mv (.c (.int .i64 (.ofNat 0))), none⟩]) 
 (.seq
  (.ops [⟨some 21, .mv (.r 0), none⟩, ⟨some 22, .call 165 [.r 21], none⟩, ⟨some 8, .mv (.r 22), none⟩]) 
 (.seq
  (.seq
  (.ops [⟨some 23, .mv (.r 8), none⟩, ⟨some 24, .bin .lss (.r 23) (.c (.int .i64 (.ofNat 0))), none⟩, ⟨some 25, .mv (.r 24), none⟩, ⟨some 26, .mv (.r 1), some (25, false)⟩, ⟨some 27, .len .slice (.r 26), some (25, false)⟩, ⟨some 28, .bin .eql (.r 27) (.c (.int .i64 (.ofNat 0))), some (25, false)⟩, ⟨some 29, .pick (.r 25) (.c (.bool true)) (.r 28), none⟩, ⟨some 30, .mv (.r 29), none⟩, ⟨some 31, .mv (.r 1), some (30, false)⟩, ⟨some 32, .len .slice (.r 31), some (30, false)⟩, ⟨some 33, .bin .gtr (.r 32) (.c (.int .i64 (.ofNat 131072))), some (30, false)⟩, ⟨some 34, .pick (.r 30) (.c (.bool true)) (.r 33), none⟩]) 
 (.cond (.r 34) (.seq
  (.ops [⟨some 35, .build [.int .i64 (.ofNat 0), .nilslice] [], none⟩, ⟨none, .store 2 (.r 4) (.r 35), none⟩, ⟨some 5, .mv (.c (.int .i64 (.ofNat 0))), none⟩, ⟨some 6, .mv (.c .nilslice), none⟩, ⟨some 7, .mv (.c (.int .i64 (.ofNat 1))), none⟩]) 
 .ret) .skip)) 
 (.seq
  (.ops [⟨some 9, .alloc [.int .u32 (.ofNat 0), .int .u32 (.ofNat 0), .int .u32 (.ofNat 0), .int .u32 (.ofNat 0), .int .u32 (.ofNat 0), .int .u32 (.ofNat 0), .int .u32 (.ofNat 0), .int .u32 (.ofNat 0), .int .u32 (.ofNat 0), .int .u32 (.ofNat 0), .int .u32 (.ofNat 0), .int .u32 (.ofNat 0), .int .u32 (.ofNat 0), .int .u32 (.ofNat 0), .int .u32 (.ofNat 0), .int .u32 (.ofNat 0), .int .u32 (.ofNat 0), .int .u32 (.ofNat 0), .int .u32 (.ofNat 0), .int .u32 (.ofNat 0), .int .u32 (.ofNat 0), .int .u32 (.ofNat 0), .int .u32 (.ofNat 0), .int .u32 (.ofNat 0), .int .u32 (.ofNat 0), .int .u32 (.ofNat 0), .int .u32 (.ofNat 0), .int .u32 (.ofNat 0), .int .u32 (.ofNat 0), .int .u32 (.ofNat 0), .int .u32 (.ofNat 0), .int .u32 (.ofNat 0), .int .u32 (.ofNat 0), .int .u32 (.ofNat 0), .int .u32 (.ofNat 0), .int .u32 (.ofNat 0), .int .u32 (.ofNat 0), .int .u32 (.ofNat 0), .int .u32 (.ofNat 0), .int .u32 (.ofNat 0), .int .u32 (.ofNat 0), .int .u32 (.ofNat 0), .int .u32 (.ofNat 0), .int .u32 (.ofNat 0), .int .u32 (.ofNat 0), .int .u32 (.ofNat 0), .int .u32 (.ofNat 0), .int .u32 (.ofNat 0), .int .u32 (.ofNat 0), .int .u32 (.ofNat 0), .int .u32 (.ofNat 0), .int .u32 (.ofNat 0), .int .u32 (.ofNat 0), .int .u32 (.ofNat 0), .int .u32 (.ofNat 0), .int .u32 (.ofNat 0), .int .u32 (.ofNat 0), .int .u32 (.ofNat 0), .int .u32 (.ofNat 0), .int .u32 (.ofNat 0), .int .u32 (.ofNat 0), .int .u32 (.ofNat 0), .int .u32 (.ofNat 0), .int .u32 (.ofNat 0), .int .u32 (.ofNat 0), .int .u32 (.ofNat 0), .int .u32 (.ofNat 0), .int .u32 (.ofNat 0), .int .u32 (.ofNat 0), .int .u32 (.ofNat 0), .int .u32 (.ofNat 0), .int .u32 (.ofNat 0), .int .u32 (.ofNat 0), .int .u32 (.ofNat 0), .int .u32 (.ofNat 0), .int .u32 (.ofNat 0), .int .u32 (.ofNat 0), .int .u32 (.ofNat 0), .int .u32 (.ofNat 0), .int .u32 (.ofNat 0), .int .u32 (.ofNat 0), .int .u32 (.ofNat 0), .int .u32 (.ofNat 0), .int .u32 (.ofNat 0), .int .u32 (.ofNat 0), .int .u32 (.ofNat 0), .int .u32 (.ofNat 0), .int .u32 (.ofNat 0), .int .u32 (.ofNat 0), .int .u32 (.ofNat 0), .int .u32 (.ofNat 0), .int .u32 (.ofNat 0), .int .u32 (.ofNat 0), .int .u32 (.ofNat 0), .int .u32 (.ofNat 0), .int .u32 (.ofNat 0), .int .u32 (.ofNat 0), .int .u32 (.ofNat 0), .int .u32 (.ofNat 0), .int .u32 (.ofNat 0), .int .u32 (.ofNat 0), .int .u32 (.ofNat 0), .int .u32 (.ofNat 0), .int .u32 (.ofNat 0), .int .u32 (.ofNat 0), .int .u32 (.ofNat 0), .int .u32 (.ofNat 0), .int .u32 (.ofNat 0), .int .u32 (.ofNat 0), .int .u32 (.ofNat 0), .int .u32 (.ofNat 0), .int .u32 (.ofNat 0), .int .u32 (.ofNat 0), .int .u32 (.ofNat 0), .int .u32 (.ofNat 0), .int .u32 (.ofNat 0), .int .u32 (.ofNat 0), .int .u32 (.ofNat 0), .int .u32 (.ofNat 0), .int .u32 (.ofNat 0), .int .u32 (.ofNat 0), .int .u32 (.ofNat 0), .int .u32 (.ofNat 0), .int .u32 (.ofNat 0), .int .u32 (.ofNat 0), .int .u32 (.ofNat 0), .int .u32 (.ofNat 0), .int .u32 (.ofNat 0), .int .u32 (.ofNat 0), .int .u32 (.ofNat 0), .int .u32 (.ofNat 0), .int .u32 (.ofNat 0), .int .u32 (.ofNat 0), .int .u32 (.ofNat 0), .int .u32 (.ofNat 0), .int .u32 (.ofNat 0), .int .u32 (.ofNat 0), .int .u32 (.ofNat 0), .int .u32 (.ofNat 0), .int .u32 (.ofNat 0), .int .u32 (.ofNat 0), .int .u32 (.ofNat 0), .int .u32 (.ofNat 0), .int .u32 (.ofNat 0), .int .u32 (.ofNat 0), .int .u32 (.ofNat 0), .int .u32 (.ofNat 0), .int .u32 (.ofNat 0), .int .u32 (.ofNat 0), .int .u32 (.ofNat 0), .int .u32 (.ofNat 0), .int .u32 (.ofNat 0), .int .u32 (.ofNat 0), .int .u32 (.ofNat 0), .int .u32 (.ofNat 0), .int .u32 (.ofNat 0), .int .u32 (.ofNat 0), .int .u32 (.ofNat 0), .int .u32 (.ofNat 0), .int .u32 (.ofNat 0), .int .u32 (.ofNat 0), .int .u32 (.ofNat 0), .int .u32 (.ofNat 0), .int .u32 (.ofNat 0), .int .u32 (.ofNat 0), .int .u32 (.ofNat 0), .int .u32 (.ofNat 0), .int .u32 (.ofNat 0), .int .u32 (.ofNat 0), .int .u32 (.ofNat 0), .int .u32 (.ofNat 0), .int .u32 (.ofNat 0), .int .u32 (.ofNat 0), .int .u32 (.ofNat 0), .int .u32 (.ofNat 0), .int .u32 (.ofNat 0), .int .u32 (.ofNat 0), .int .u32 (.ofNat 0), .int .u32 (.ofNat 0), .int .u32 (.ofNat 0), .int .u32 (.ofNat 0), .int .u32 (.ofNat 0), .int .u32 (.ofNat 0), .int .u32 (.ofNat 0), .int .u32 (.ofNat 0), .int .u32 (.ofNat 0), .int .u32 (.ofNat 0), .int .u32 (.ofNat 0), .int .u32 (.ofNat 0), .int .u32 (.ofNat 0), .int .u32 (.ofNat 0), .int .u32 (.ofNat 0), .int .u32 (.ofNat 0), .int .u32 (.ofNat 0), .int .u32 (.ofNat 0), .int .u32 (.ofNat 0), .int .u32 (.ofNat 0), .int .u32 (.ofNat 0), .int .u32 (.ofNat 0), .int .u32 (.ofNat 0), .int .u32 (.ofNat 0), .int .u32 (.ofNat 0), .int .u32 (.ofNat 0), .int .u32 (.ofNat 0), .int .u32 (.ofNat 0), .int .u32 (.ofNat 0), .int .u32 (.ofNat 0), .int .u32 (.ofNat 0), .int .u32 (.ofNat 0), .int .u32 (.ofNat 0), .int .u32 (.ofNat 0), .int .u32 (.ofNat 0), .int .u32 (.ofNat 0), .int .u32 (.ofNat 0), .int .u32 (.ofNat 0), .int .u32 (.ofNat 0), .int .u32 (.ofNat 0), .int .u32 (.ofNat 0), .int .u32 (.ofNat 0), .int .u32 (.ofNat 0), .int .u32 (.ofNat 0), .int .u32 (.ofNat 0), .int .u32 (.ofNat 0), .int .u32 (.ofNat 0), .int .u32 (.ofNat 0), .int .u32 (.ofNat 0), .int .u32 (.ofNat 0), .int .u32 (.ofNat 0), .int .u32 (.ofNat 0), .int .u32 (.ofNat 0), .int .u32 (.ofNat 0), .int .u32 (.ofNat 0), .int .u32 (.ofNat 0), .int .u32 (.ofNat 0), .int .u32 (.ofNat 0), .int .u32 (.ofNat 0), .int .u32 (.ofNat 0), .int .u32 (.ofNat 0), .int .u32 (.ofNat 0), .int .u32 (.ofNat 0), .int .u32 (.ofNat 0), .int .u32 (.ofNat 0), .int .u32 (.ofNat 0), .int .u32 (.ofNat 0), .int .u32 (.ofNat 0), .int .u32 (.ofNat 0), .int .u32 (.ofNat 0), .int .u32 (.ofNat 0), .int .u32 (.ofNat 0), .int .u32 (.ofNat 0), .int .u32 (.ofNat 0), .int .u32 (.ofNat 0), .int .u32 (.ofNat 0), .int .u32 (.ofNat 0), .int .u32 (.ofNat 0), .int .u32 (.ofNat 0)], none⟩]) 
 (.seq
  (.ops [⟨some 10, .mv (.c (.int .i64 (.ofNat 0))), none⟩, ⟨some 11, .mv (.c (.int .i64 (.ofNat 0))), none⟩]) 
 (.seq
  (.seq
  (.ops [⟨some 36, .mv (.r 1), none⟩, ⟨some 37, .len .slice (.r 36), none⟩, ⟨some 38, .mv (.c (.int .i64 (.ofNat 0))), none⟩]) 
 (.block 0 (.loop (.seq
  (.ops [⟨some 39, .bin .lss (.r 38) (.r 37), none⟩]) 
 (.seq
  (.cond (.r 39) .skip (.exit 0)) 
 (.seq
  (.block 1 (.seq
  (.ops [⟨some 40, .indexSl 1 (.r 36) (.r 38), none⟩, ⟨some 41, .load1 (.r 40), none⟩, ⟨some 13, .mv (.r 41), none⟩]) 
 (.seq
  (.seq
  (.ops [⟨some 42, .mv (.r 13), none⟩, ⟨some 43, .bin .lss (.r 42) (.c (.int .i64 (.ofNat 0))), none⟩, ⟨some 44, .mv (.r 43), none⟩, ⟨some 45, .mv (.r 13), some (44, false)⟩, ⟨some 46, .mv (.r 8), some (44, false)⟩, ⟨some 47, .bin .gtr (.r 45) (.r 46), some (44, false)⟩, ⟨some 48, .pick (.r 44) (.c (.bool true)) (.r 47), none⟩]) 
 (.cond (.r 48) (.seq
  (.ops [⟨some 49, .build [.int .i64 (.ofNat 0), .nilslice] [], none⟩, ⟨none, .store 2 (.r 4) (.r 49), none⟩, ⟨some 5, .mv (.c (.int .i64 (.ofNat 0))), none⟩, ⟨some 6, .mv (.c .nilslice), none⟩, ⟨some 7, .mv (.c (.int .i64 (.ofNat 1))), none⟩]) 
 .ret) .skip)) 
 (.seq
  (.seq
  (.ops [⟨some 50, .mv (.r 13), none⟩, ⟨some 51, .indexArr 256 1 (.r 9) (.r 50), none⟩, ⟨some 52, .load1 (.r 51), none⟩, ⟨some 53, .bin .add (.r 52) (.c (.int .u32 (.ofNat 1))), none⟩, ⟨some 54, .indexArr 256 1 (.r 9) (.r 50), none⟩, ⟨none, .store 1 (.r 54) (.r 53), none⟩]) 
 (.seq
  (.ops [⟨some 55, .mv (.r 13), none⟩, ⟨some 56, .indexArr 256 1 (.r 9) (.r 55), none⟩, ⟨some 57, .load1 (.r 56), none⟩, ⟨some 58, .bin .eql (.r 57) (.c (.int .u32 (.ofNat 1))), none⟩]) 
 (.cond (.r 58) (.ops [⟨some 59, .mv (.r 10), none⟩, ⟨some 60, .bin .add (.r 59) (.c (.int .i64 (.ofNat 1))), none⟩, ⟨some 10, .mv (.r 60), none⟩]) .skip))) 
 (.ops [⟨some 61, .mv (.r 11), none⟩, ⟨some 62, .mv (.r 13), none⟩, ⟨some 63, .maxmin true (.r 61) [.r 62], none⟩, ⟨some 11, .mv (.r 63), none⟩]))))) 
 (.ops [⟨some 64, .bin .add (.r 38) (.c (.int .i64 (.ofNat 1))), none⟩, ⟨some 38, .mv (.r 64), none⟩]))))))) 
 (.seq
  (.ops [⟨some 65, .mv (.r 0), none⟩, ⟨some 66, .call 166 [.r 65], none⟩, ⟨some 14, .alloc [.int .i64 (.ofNat 0), .nilslice], none⟩, ⟨none, .store 2 (.r 14) (.r 66), none⟩]) 
 (.seq
  (.block 2 (.seq
  (.ops [⟨some 68, .mv (.r 10), none⟩, ⟨some 69, .bin .eql (.r 68) (.c (.int .i64 (.ofNat 1))), none⟩, ⟨some 67, .mv (.r 69), none⟩]) 
 (.cond (.r 67) (.seq
  (.multi [(0, ⟨some 70, .mv (.r 1), none⟩), (0, ⟨some 71, .indexSl 1 (.r 70) (.c (.int .i64 (.ofNat 0))), none⟩), (1, ⟨some 72, .load1 (.r 71), none⟩), (0, ⟨some 73, .toInt .u8 (.r 72), none⟩), (4, ⟨some 74, .call 167 [.r 73], none⟩), (0, ⟨some 75, .mv (.r 1), none⟩), (0, ⟨some 76, .indexSl 1 (.r 75) (.c (.int .i64 (.ofNat 0))), none⟩), (1, ⟨some 77, .load1 (.r 76), none⟩), (0, ⟨some 78, .toInt .u8 (.r 77), none⟩), (2, ⟨some 79, .buildSlice 1 1 [.int .u8 (.ofNat 0)] [(0, (1, .r 78))], none⟩), (3, ⟨none, .store 2 (.r 4) (.r 74), none⟩), (0, ⟨some 5, .mv (.c (.int .i64 (.ofNat 1))), none⟩), (0, ⟨some 6, .mv (.r 79), none⟩), (0, ⟨some 7, .mv (.c (.int .i64 (.ofNat 0))), none⟩)] [(2, 9), (4, 7), (4, 9), (7, 10), (9, 10)]) 
 .ret) (.seq
  (.ops [⟨some 81, .mv (.r 1), none⟩, ⟨some 82, .len .slice (.r 81), none⟩, ⟨some 83, .bin .lss (.r 82) (.c (.int .i64 (.ofNat 64))), none⟩, ⟨some 84, .mv (.r 83), none⟩, ⟨some 85, .mv (.r 11), some (84, true)⟩, ⟨some 86, .fieldAt 1 (.r 14), some (84, true)⟩, ⟨some 87, .load1 (.r 86), some (84, true)⟩, ⟨some 88, .len .slice (.r 87), some (84, true)⟩, ⟨some 89, .bin .lss (.r 85) (.r 88), some (84, true)⟩, ⟨some 90, .pick (.r 84) (.r 89) (.c (.bool false)), none⟩, ⟨some 80, .mv (.r 90), none⟩]) 
 (.cond (.r 80) (.seq
  (.ops [⟨some 92, .loadN 2 (.r 14), none⟩, ⟨some 93, .call 168 [.r 92], none⟩, ⟨some 91, .mv (.r 93), none⟩, ⟨some 94, .extract 0 (.r 91), none⟩, ⟨some 95, .extract 1 (.r 91), none⟩, ⟨some 15, .alloc [.int .i64 (.ofNat 0), .nilslice], none⟩, ⟨none, .store 2 (.r 15) (.r 94), none⟩, ⟨some 16, .mv (.r 95), none⟩]) 
 (.seq
  (.ops [⟨some 96, .loadN 2 (.r 15), none⟩, ⟨some 97, .mv (.r 16), none⟩, ⟨none, .store 2 (.r 4) (.r 96), none⟩, ⟨some 5, .mv (.c (.int .i64 (.ofNat 0))), none⟩, ⟨some 6, .mv (.c .nilslice), none⟩, ⟨some 7, .mv (.r 97), none⟩]) 
 .ret)) .skip))))) 
 (.seq
  (.multi [(0, ⟨some 99, .mv (.r 11), none⟩), (0, ⟨some 100, .bin .add (.r 99) (.c (.int .i64 (.ofNat 1))), none⟩), (0, ⟨some 101, .sliceArr 256 1 (.r 9) none (some (.r 100)) none, none⟩), (0, ⟨some 102, .mv (.r 0), none⟩), (0, ⟨some 103, .pcall 170 [.r 102], none⟩), (4, ⟨some 104, .call 169 [.r 101, .r 103], none⟩), (0, ⟨some 98, .mv (.r 104), none⟩), (0, ⟨some 105, .extract 0 (.r 98), none⟩), (0, ⟨some 106, .extract 1 (.r 98), none⟩), (2, ⟨some 17, .alloc [.int .i64 (.ofNat 0), .nilslice], none⟩), (5, ⟨none, .store 2 (.r 17) (.r 105), none⟩), (0, ⟨some 18, .mv (.r 106), none⟩)] [(5, 9)]) 
 (.seq
  (.seq
  (.ops [⟨some 107, .mv (.r 18), none⟩, ⟨some 108, .bin .neq (.r 107) (.c (.int .i64 (.ofNat 0))), none⟩]) 
 (.cond (.r 108) (.seq
  (.ops [⟨some 109, .build [.int .i64 (.ofNat 0), .nilslice] [], none⟩, ⟨some 110, .mv (.r 18), none⟩, ⟨none, .store 2 (.r 4) (.r 109), none⟩, ⟨some 5, .mv (.c (.int .i64 (.ofNat 0))), none⟩, ⟨some 6, .mv (.c .nilslice), none⟩, ⟨some 7, .mv (.r 110), none⟩]) 
 .ret) .skip)) 
 (.seq
  (.ops [⟨some 112, .loadN 2 (.r 17), none⟩, ⟨some 113, .call 171 [.r 112], none⟩, ⟨some 111, .mv (.r 113), none⟩, ⟨some 114, .extract 0 (.r 111), none⟩, ⟨some 115, .extract 1 (.r 111), none⟩, ⟨some 19, .mv (.r 114), none⟩, ⟨some 18, .mv (.r 115), none⟩]) 
 (.seq
  (.seq
  (.ops [⟨some 116, .mv (.r 18), none⟩, ⟨some 117, .bin .neq (.r 116) (.c (.int .i64 (.ofNat 0))), none⟩]) 
 (.cond (.r 117) (.seq
  (.ops [⟨some 118, .build [.int .i64 (.ofNat 0), .nilslice] [], none⟩, ⟨some 119, .mv (.r 18), none⟩, ⟨none, .store 2 (.r 4) (.r 118), none⟩, ⟨some 5, .mv (.c (.int .i64 (.ofNat 0))), none⟩, ⟨some 6, .mv (.c .nilslice), none⟩, ⟨some 7, .mv (.r 119), none⟩]) 
 .ret) .skip)) 
 (.seq
  (.ops [⟨some 121, .loadN 2 (.r 17), none⟩, ⟨some 122, .call 168 [.r 121], none⟩, ⟨some 120, .mv (.r 122), none⟩, ⟨some 123, .extract 0 (.r 120), none⟩, ⟨some 124, .extract 1 (.r 120), none⟩, ⟨some 20, .alloc [.int .i64 (.ofNat 0), .nilslice], none⟩, ⟨none, .store 2 (.r 20) (.r 123), none⟩, ⟨some 18, .mv (.r 124), none⟩]) 
 (.seq
  (.ops [⟨some 125, .loadN 2 (.r 20), none⟩, ⟨some 126, .mv (.r 19), none⟩, ⟨some 127, .mv (.r 18), none⟩, ⟨none, .store 2 (.r 4) (.r 125), none⟩, ⟨some 5, .mv (.c (.int .i64 (.ofNat 2))), none⟩, ⟨some 6, .mv (.r 126), none⟩, ⟨some 7, .mv (.r 127), none⟩]) 
 .ret)))))))))))))⟩
def c141 : AF := ⟨138, [.reg 6, .reg 7], .seq
  (.ops [⟨some 4, .box 3 (.r 1), none⟩, ⟨some 5, .box 6 (.r 2), none⟩, ⟨some 6, .mv (.c .nilslice), none⟩, ⟨some 7, .mv (.c (.int .i64 (.ofNat 0))), none⟩]) 
 (.seq
  (.ops [⟨some 28, .call 172 [], none⟩, ⟨some 8, .mv (.r 28), none⟩]) 
 (.seq
  (.ops [⟨some 9, .alloc [.int .i64 (.ofNat 0), .int .i64 (.ofNat 0), .int .i64 (.ofNat 0)], none⟩]) 
 (.seq
  (.seq
  (.ops [⟨some 29, .mv (.r 0), none⟩, ⟨some 30, .len .slice (.r 29), none⟩, ⟨some 31, .bin .sub (.r 30) (.c (.int .i64 (.ofNat 1))), none⟩, ⟨some 10, .mv (.r 31), none⟩]) 
 (.block 0 (.loop (.seq
  (.seq
  (.ops [⟨some 32, .mv (.r 10), none⟩, ⟨some 33, .bin .geq (.r 32) (.c (.int .i64 (.ofNat 0))), none⟩]) 
 (.cond (.r 33) .skip (.exit 0))) 
 (.seq
  (.block 1 (.seq
  (.seq
  (.ops [⟨some 36, .build [.int .i64 (.ofNat 0), .int .i64 (.ofNat 0), .int .i64 (.ofNat 0)] [(0, (1, .c (.int .i64 (.ofNat 1)))), (1, (1, .c (.int .i64 (.ofNat 2)))), (2, (1, .c (.int .i64 (.ofNat 0))))], none⟩, ⟨some 37, .mv (.c (.int .i64 (.ofNat 0))), none⟩]) 
 (.block 2 (.loop (.seq
  (.ops [⟨some 38, .bin .lss (.r 37) (.c (.int .i64 (.ofNat 3))), none⟩]) 
 (.seq
  (.cond (.r 38) .skip (.exit 2)) 
 (.seq
  (.block 3 (.seq
  (.ops [⟨some 39, .indexAgg 3 1 false (.r 36) (.r 37), none⟩, ⟨some 12, .mv (.r 39), none⟩]) 
 (.seq
  (.ops [⟨some 40, .mv (.r 12), none⟩, ⟨some 41, .indexArr 3 1 (.r 4) (.r 40), none⟩, ⟨some 42, .load1 (.r 41), none⟩, ⟨some 43, .mv (.r 10), none⟩, ⟨some 44, .indexSl 1 (.r 42) (.r 43), none⟩, ⟨some 45, .load1 (.r 44), none⟩, ⟨some 46, .toInt .u8 (.r 45), none⟩, ⟨some 13, .mv (.r 46), none⟩]) 
 (.seq
  (.seq
  (.ops [⟨some 47, .mv (.r 10), none⟩, ⟨some 48, .mv (.r 0), none⟩, ⟨some 49, .len .slice (.r 48), none⟩, ⟨some 50, .bin .sub (.r 49) (.c (.int .i64 (.ofNat 1))), none⟩, ⟨some 51, .bin .eql (.r 47) (.r 50), none⟩]) 
 (.cond (.r 51) (.seq
  (.ops [⟨some 53, .mv (.r 12), none⟩, ⟨some 54, .indexArr 3 2 (.r 5) (.r 53), none⟩, ⟨some 55, .loadN 2 (.r 54), none⟩, ⟨some 56, .mv (.r 13), none⟩, ⟨some 57, .call 173 [.r 55, .r 56], none⟩, ⟨some 52, .mv (.r 57), none⟩, ⟨some 58, .extract 0 (.r 52), none⟩, ⟨some 59, .extract 1 (.r 52), none⟩, ⟨some 14, .mv (.r 58), none⟩, ⟨some 15, .mv (.r 59), none⟩]) 
 (.seq
  (.seq
  (.ops [⟨some 60, .mv (.r 15), none⟩, ⟨some 61, .bin .neq (.r 60) (.c (.int .i64 (.ofNat 0))), none⟩]) 
 (.cond (.r 61) (.seq
  (.ops [⟨some 62, .mv (.r 15), none⟩, ⟨some 6, .mv (.c .nilslice), none⟩, ⟨some 7, .mv (.r 62), none⟩]) 
 .ret) .skip)) 
 (.seq
  (.ops [⟨some 63, .mv (.r 12), none⟩, ⟨some 64, .mv (.r 14), none⟩, ⟨some 65, .indexArr 3 1 (.r 9) (.r 63), none⟩, ⟨none, .store 1 (.r 65) (.r 64), none⟩]) 
 (.exit 3)))) .skip)) 
 (.seq
  (.ops [⟨some 67, .mv (.r 12), none⟩, ⟨some 68, .indexArr 3 2 (.r 5) (.r 67), none⟩, ⟨some 69, .loadN 2 (.r 68), none⟩, ⟨some 70, .mv (.r 12), none⟩, ⟨some 71, .indexArr 3 1 (.r 9) (.r 70), none⟩, ⟨some 72, .load1 (.r 71), none⟩, ⟨some 73, .mv (.r 13), none⟩, ⟨some 74, .call 174 [.r 69, .r 72, .r 73], none⟩, ⟨some 66, .mv (.r 74), none⟩, ⟨some 75, .extract 0 (.r 66), none⟩, ⟨some 76, .extract 1 (.r 66), none⟩, ⟨some 77, .extract 2 (.r 66), none⟩, ⟨some 78, .extract 3 (.r 66), none⟩, ⟨some 16, .mv (.r 75), none⟩, ⟨some 17, .mv (.r 76), none⟩, ⟨some 18, .mv (.r 77), none⟩, ⟨some 19, .mv (.r 78), none⟩]) 
 (.seq
  (.seq
  (.ops [⟨some 79, .mv (.r 19), none⟩, ⟨some 80, .bin .neq (.r 79) (.c (.int .i64 (.ofNat 0))), none⟩]) 
 (.cond (.r 80) (.seq
  (.ops [⟨some 81, .mv (.r 19), none⟩, ⟨some 6, .mv (.c .nilslice), none⟩, ⟨some 7, .mv (.r 81), none⟩]) 
 .ret) .skip)) 
 (.seq
  (.ops [⟨some 82, .mv (.r 8), none⟩, ⟨some 83, .mv (.r 17), none⟩, ⟨some 84, .mv (.r 18), none⟩, ⟨some 85, .call 175 [.r 82, .r 83, .r 84], none⟩]) 
 (.ops [⟨some 86, .mv (.r 12), none⟩, ⟨some 87, .mv (.r 16), none⟩, ⟨some 88, .indexArr 3 1 (.r 9) (.r 86), none⟩, ⟨none, .store 1 (.r 88) (.r 87), none⟩])))))))) 
 (.ops [⟨some 89, .bin .add (.r 37) (.c (.int .i64 (.ofNat 1))), none⟩, ⟨some 37, .mv (.r 89), none⟩]))))))) 
 (.seq
  (.ops [⟨some 90, .mv (.r 0), none⟩, ⟨some 91, .mv (.r 10), none⟩, ⟨some 92, .indexSl 3 (.r 90) (.r 91), none⟩, ⟨some 93, .loadN 3 (.r 92), none⟩, ⟨some 94, .call 163 [.r 93], none⟩, ⟨some 20, .alloc [.int .u32 (.ofNat 0), .int .u32 (.ofNat 0), .int .u32 (.ofNat 0)], none⟩, ⟨none, .store 3 (.r 20) (.r 94), none⟩]) 
 (.seq
  (.ops [⟨some 95, .build [.int .i64 (.ofNat 0), .int .i64 (.ofNat 0), .int .i64 (.ofNat 0)] [(0, (1, .c (.int .i64 (.ofNat 0)))), (1, (1, .c (.int .i64 (.ofNat 2)))), (2, (1, .c (.int .i64 (.ofNat 1))))], none⟩, ⟨some 96, .mv (.c (.int .i64 (.ofNat 0))), none⟩]) 
 (.block 4 (.loop (.seq
  (.ops [⟨some 97, .bin .lss (.r 96) (.c (.int .i64 (.ofNat 3))), none⟩]) 
 (.seq
  (.cond (.r 97) .skip (.exit 4)) 
 (.seq
  (.block 5 (.seq
  (.ops [⟨some 98, .indexAgg 3 1 false (.r 95) (.r 96), none⟩, ⟨some 22, .mv (.r 98), none⟩]) 
 (.seq
  (.ops [⟨some 100, .mv (.r 22), none⟩, ⟨some 101, .mv (.r 22), none⟩, ⟨some 102, .indexArr 3 1 (.r 4) (.r 101), none⟩, ⟨some 103, .load1 (.r 102), none⟩, ⟨some 104, .mv (.r 10), none⟩, ⟨some 105, .indexSl 1 (.r 103) (.r 104), none⟩, ⟨some 106, .load1 (.r 105), none⟩, ⟨some 107, .call 176 [.r 100, .r 106], none⟩, ⟨some 99, .mv (.r 107), none⟩, ⟨some 108, .extract 0 (.r 99), none⟩, ⟨some 109, .extract 1 (.r 99), none⟩, ⟨some 110, .extract 2 (.r 99), none⟩, ⟨some 23, .mv (.r 108), none⟩, ⟨some 24, .mv (.r 109), none⟩, ⟨some 25, .mv (.r 110), none⟩]) 
 (.ops [⟨some 111, .mv (.r 8), none⟩, ⟨some 112, .mv (.r 22), none⟩, ⟨some 113, .indexArr 3 1 (.r 20) (.r 112), none⟩, ⟨some 114, .load1 (.r 113), none⟩, ⟨some 115, .mv (.r 23), none⟩, ⟨some 116, .bin .sub (.r 114) (.r 115), none⟩, ⟨some 117, .toInt .u64 (.r 116), none⟩, ⟨some 118, .mv (.r 24), none⟩, ⟨some 119, .call 175 [.r 111, .r 117, .r 118], none⟩])))) 
 (.ops [⟨some 120, .bin .add (.r 96) (.c (.int .i64 (.ofNat 1))), none⟩, ⟨some 96, .mv (.r 120), none⟩])))))))))) 
 (.ops [⟨some 34, .mv (.r 10), none⟩, ⟨some 35, .bin .sub (.r 34) (.c (.int .i64 (.ofNat 1))), none⟩, ⟨some 10, .mv (.r 35), none⟩])))))) 
 (.seq
  (.seq
  (.ops [⟨some 121, .build [.int .i64 (.ofNat 0), .int .i64 (.ofNat 0), .int .i64 (.ofNat 0)] [(0, (1, .c (.int .i64 (.ofNat 2)))), (1, (1, .c (.int .i64 (.ofNat 1)))), (2, (1, .c (.int .i64 (.ofNat 0))))], none⟩, ⟨some 122, .mv (.c (.int .i64 (.ofNat 0))), none⟩]) 
 (.block 6 (.loop (.seq
  (.ops [⟨some 123, .bin .lss (.r 122) (.c (.int .i64 (.ofNat 3))), none⟩]) 
 (.seq
  (.cond (.r 123) .skip (.exit 6)) 
 (.seq
  (.block 7 (.seq
  (.ops [⟨some 124, .indexAgg 3 1 false (.r 121) (.r 122), none⟩, ⟨some 27, .mv (.r 124), none⟩]) 
 (.ops [⟨some 125, .mv (.r 8), none⟩, ⟨some 126, .mv (.r 27), none⟩, ⟨some 127, .indexArr 3 1 (.r 9) (.r 126), none⟩, ⟨some 128, .load1 (.r 127), none⟩, ⟨some 129, .toInt .u64 (.r 128), none⟩, ⟨some 130, .mv (.r 27), none⟩, ⟨some 131, .indexArr 3 2 (.r 5) (.r 130), none⟩, ⟨some 132, .fieldAt 0 (.r 131), none⟩, ⟨some 133, .load1 (.r 132), none⟩, ⟨some 134, .call 175 [.r 125, .r 129, .r 133], none⟩]))) 
 (.ops [⟨some 135, .bin .add (.r 122) (.c (.int .i64 (.ofNat 1))), none⟩, ⟨some 122, .mv (.r 135), none⟩]))))))) 
 (.seq
  (.ops [⟨some 136, .mv (.r 8), none⟩, ⟨some 137, .call 177 [.r 136], none⟩, ⟨some 6, .mv (.r 137), none⟩, ⟨some 7, .mv (.c (.int .i64 (.ofNat 0))), none⟩]) 
 .ret)))))⟩
end Go.Am
