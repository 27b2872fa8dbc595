/- Functions of the program, as the abstract machine has them: printed by a program of this claim's author out of the model's code. -/
import Derived.Test.YtiakcbnmagpabaaGreatDoorA0
namespace Go.Am
set_option maxRecDepth 100000
def c142 : AF := ⟨17, [.reg 4, .reg 5], .seq
  (.ops [⟨some 4, .mv (.c (.int .u32 (.ofNat 0))), none⟩, ⟨some 5, .mv (.c (.int .u32 (.ofNat 0))), none⟩]) 
 (.seq
  (.ops [⟨some 7, .mv (.r 0), none⟩, ⟨some 8, .toInt .u64 (.r 7), none⟩, ⟨some 9, .mv (.r 1), none⟩, ⟨some 10, .toInt .u64 (.r 9), none⟩, ⟨some 11, .bin .mul (.r 8) (.r 10), none⟩, ⟨some 6, .mv (.r 11), none⟩]) 
 (.seq
  (.ops [⟨some 12, .mv (.r 6), none⟩, ⟨some 13, .bin .shr (.r 12) (.c (.int .u64 (.ofNat 32))), none⟩, ⟨some 14, .toInt .u32 (.r 13), none⟩, ⟨some 15, .mv (.r 6), none⟩, ⟨some 16, .toInt .u32 (.r 15), none⟩, ⟨some 4, .mv (.r 14), none⟩, ⟨some 5, .mv (.r 16), none⟩]) 
 .ret))⟩
def c143 : AF := ⟨78, [.cell 2 5 true, .reg 3], .seq
  (.ops [⟨some 2, .alloc [.int .i64 (.ofNat 0), .int .i64 (.ofNat 0), .int .i64 (.ofNat 0), .int .i64 (.ofNat 0), .int .i64 (.ofNat 0)], none⟩, ⟨some 3, .mv (.c (.int .i64 (.ofNat 0))), none⟩]) 
 (.seq
  (.seq
  (.ops [⟨some 9, .mv (.r 0), none⟩, ⟨some 10, .len .slice (.r 9), none⟩, ⟨some 11, .bin .eql (.r 10) (.c (.int .i64 (.ofNat 0))), none⟩]) 
 (.cond (.r 11) (.seq
  (.ops [⟨some 12, .build [.int .i64 (.ofNat 0), .int .i64 (.ofNat 0), .int .i64 (.ofNat 0), .int .i64 (.ofNat 0), .int .i64 (.ofNat 0)] [], none⟩, ⟨none, .store 5 (.r 2) (.r 12), none⟩, ⟨some 3, .mv (.c (.int .i64 (.ofNat 10))), none⟩]) 
 .ret) .skip)) 
 (.seq
  (.multi [(0, ⟨some 13, .mv (.r 0), none⟩), (0, ⟨some 14, .indexSl 1 (.r 13) (.c (.int .i64 (.ofNat 0))), none⟩), (1, ⟨some 15, .load1 (.r 14), none⟩), (0, ⟨some 16, .bin .and (.r 15) (.c (.int .u8 (.ofNat 3))), none⟩), (0, ⟨some 17, .toInt .i64 (.r 16), none⟩), (0, ⟨some 18, .mv (.r 0), none⟩), (0, ⟨some 19, .indexSl 1 (.r 18) (.c (.int .i64 (.ofNat 0))), none⟩), (1, ⟨some 20, .load1 (.r 19), none⟩), (0, ⟨some 21, .bin .shr (.r 20) (.c (.int .u64 (.ofNat 2))), none⟩), (0, ⟨some 22, .bin .and (.r 21) (.c (.int .u8 (.ofNat 3))), none⟩), (0, ⟨some 23, .toInt .i64 (.r 22), none⟩), (0, ⟨some 24, .build [.int .i64 (.ofNat 0), .int .i64 (.ofNat 0), .int .i64 (.ofNat 0), .int .i64 (.ofNat 0), .int .i64 (.ofNat 0)] [(0, (1, .r 17)), (1, (1, .r 23))], none⟩), (2, ⟨some 4, .alloc [.int .i64 (.ofNat 0), .int .i64 (.ofNat 0), .int .i64 (.ofNat 0), .int .i64 (.ofNat 0), .int .i64 (.ofNat 0)], none⟩), (5, ⟨none, .store 5 (.r 4) (.r 24), none⟩)] [(2, 12), (7, 12)]) 
 (.seq
  (.ops [⟨some 5, .mv (.c (.int .i64 (.ofNat 4))), none⟩, ⟨some 6, .mv (.c (.int .i64 (.ofNat 20))), none⟩]) 
 (.seq
  (.seq
  (.ops [⟨some 25, .fieldAt 0 (.r 4), none⟩, ⟨some 26, .load1 (.r 25), none⟩]) 
 (.block 0 (.seq
  (.seq
  (.ops [⟨some 37, .bin .eql (.r 26) (.c (.int .i64 (.ofNat 0))), none⟩, ⟨some 36, .mv (.r 37), none⟩]) 
 (.cond (.r 36) .skip (.ops [⟨some 38, .bin .eql (.r 26) (.c (.int .i64 (.ofNat 1))), none⟩, ⟨some 36, .mv (.r 38), none⟩]))) 
 (.cond (.r 36) (.seq
  (.ops [⟨some 39, .build [.int .i64 (.ofNat 0), .int .i64 (.ofNat 0), .int .i64 (.ofNat 0), .int .i64 (.ofNat 0)] [(0, (1, .c (.int .i64 (.ofNat 1)))), (1, (1, .c (.int .i64 (.ofNat 2)))), (2, (1, .c (.int .i64 (.ofNat 1)))), (3, (1, .c (.int .i64 (.ofNat 3))))], none⟩, ⟨some 40, .fieldAt 1 (.r 4), none⟩, ⟨some 41, .load1 (.r 40), none⟩, ⟨some 42, .indexAgg 4 1 false (.r 39) (.r 41), none⟩, ⟨some 43, .fieldAt 2 (.r 4), none⟩, ⟨none, .store 1 (.r 43) (.r 42), none⟩]) 
 (.seq
  (.ops [⟨some 44, .fieldAt 2 (.r 4), none⟩, ⟨some 45, .load1 (.r 44), none⟩, ⟨some 46, .bin .eql (.r 45) (.c (.int .i64 (.ofNat 1))), none⟩]) 
 (.cond (.r 46) (.ops [⟨some 5, .mv (.c (.int .i64 (.ofNat 3))), none⟩]) .skip))) (.seq
  (.ops [⟨some 27, .build [.int .i64 (.ofNat 0), .int .i64 (.ofNat 0), .int .i64 (.ofNat 0), .int .i64 (.ofNat 0)] [(0, (1, .c (.int .i64 (.ofNat 3)))), (1, (1, .c (.int .i64 (.ofNat 3)))), (2, (1, .c (.int .i64 (.ofNat 4)))), (3, (1, .c (.int .i64 (.ofNat 5))))], none⟩, ⟨some 28, .fieldAt 1 (.r 4), none⟩, ⟨some 29, .load1 (.r 28), none⟩, ⟨some 30, .indexAgg 4 1 false (.r 27) (.r 29), none⟩, ⟨some 31, .fieldAt 2 (.r 4), none⟩, ⟨none, .store 1 (.r 31) (.r 30), none⟩]) 
 (.ops [⟨some 32, .build [.int .i64 (.ofNat 0), .int .i64 (.ofNat 0), .int .i64 (.ofNat 0), .int .i64 (.ofNat 0)] [(0, (1, .c (.int .i64 (.ofNat 10)))), (1, (1, .c (.int .i64 (.ofNat 10)))), (2, (1, .c (.int .i64 (.ofNat 14)))), (3, (1, .c (.int .i64 (.ofNat 18))))], none⟩, ⟨some 33, .fieldAt 1 (.r 4), none⟩, ⟨some 34, .load1 (.r 33), none⟩, ⟨some 35, .indexAgg 4 1 false (.r 32) (.r 34), none⟩, ⟨some 6, .mv (.r 35), none⟩])))))) 
 (.seq
  (.ops [⟨some 47, .mv (.r 0), none⟩, ⟨some 48, .call 47 [.r 47], none⟩, ⟨some 7, .mv (.r 48), none⟩]) 
 (.seq
  (.ops [⟨some 49, .mv (.r 7), none⟩, ⟨some 50, .fieldAt 2 (.r 4), none⟩, ⟨some 51, .load1 (.r 50), none⟩, ⟨some 52, .call 49 [.r 49, .r 51], none⟩, ⟨some 53, .mv (.r 5), none⟩, ⟨some 54, .bin .shr (.r 52) (.r 53), none⟩, ⟨some 8, .mv (.r 54), none⟩]) 
 (.seq
  (.seq
  (.ops [⟨some 55, .mv (.r 7), none⟩, ⟨some 56, .call 77 [.r 55], none⟩, ⟨some 57, .bin .neq (.r 56) (.c (.int .i64 (.ofNat 0))), none⟩]) 
 (.cond (.r 57) (.seq
  (.ops [⟨some 58, .build [.int .i64 (.ofNat 0), .int .i64 (.ofNat 0), .int .i64 (.ofNat 0), .int .i64 (.ofNat 0), .int .i64 (.ofNat 0)] [], none⟩, ⟨some 59, .mv (.r 7), none⟩, ⟨some 60, .call 77 [.r 59], none⟩, ⟨none, .store 5 (.r 2) (.r 58), none⟩, ⟨some 3, .mv (.r 60), none⟩]) 
 .ret) .skip)) 
 (.seq
  (.ops [⟨some 61, .mv (.r 8), none⟩, ⟨some 62, .mv (.r 6), none⟩, ⟨some 63, .bin .shl (.c (.int .u64 (.ofNat 1))) (.r 62), none⟩, ⟨some 64, .bin .sub (.r 63) (.c (.int .u64 (.ofNat 1))), none⟩, ⟨some 65, .bin .and (.r 61) (.r 64), none⟩, ⟨some 66, .toInt .i64 (.r 65), none⟩, ⟨some 67, .fieldAt 3 (.r 4), none⟩, ⟨none, .store 1 (.r 67) (.r 66), none⟩]) 
 (.seq
  (.ops [⟨some 68, .mv (.r 8), none⟩, ⟨some 69, .mv (.r 6), none⟩, ⟨some 70, .bin .shr (.r 68) (.r 69), none⟩, ⟨some 71, .toInt .i64 (.r 70), none⟩, ⟨some 72, .fieldAt 4 (.r 4), none⟩, ⟨none, .store 1 (.r 72) (.r 71), none⟩]) 
 (.seq
  (.seq
  (.ops [⟨some 73, .fieldAt 3 (.r 4), none⟩, ⟨some 74, .load1 (.r 73), none⟩, ⟨some 75, .bin .gtr (.r 74) (.c (.int .i64 (.ofNat 131072))), none⟩]) 
 (.cond (.r 75) (.seq
  (.ops [⟨some 76, .build [.int .i64 (.ofNat 0), .int .i64 (.ofNat 0), .int .i64 (.ofNat 0), .int .i64 (.ofNat 0), .int .i64 (.ofNat 0)] [], none⟩, ⟨none, .store 5 (.r 2) (.r 76), none⟩, ⟨some 3, .mv (.c (.int .i64 (.ofNat 12))), none⟩]) 
 .ret) .skip)) 
 (.seq
  (.ops [⟨some 77, .loadN 5 (.r 4), none⟩, ⟨none, .store 5 (.r 2) (.r 77), none⟩, ⟨some 3, .mv (.c (.int .i64 (.ofNat 0))), none⟩]) 
 .ret)))))))))))⟩
def c144 : AF := ⟨61, [.reg 2, .reg 3, .reg 4], .seq
  (.ops [⟨some 2, .mv (.c .nilslice), none⟩, ⟨some 3, .mv (.c (.int .i64 (.ofNat 0))), none⟩, ⟨some 4, .mv (.c (.int .i64 (.ofNat 0))), none⟩]) 
 (.seq
  (.seq
  (.ops [⟨some 10, .mv (.r 0), none⟩, ⟨some 11, .len .slice (.r 10), none⟩, ⟨some 12, .bin .eql (.r 11) (.c (.int .i64 (.ofNat 0))), none⟩]) 
 (.cond (.r 12) (.seq
  (.ops [⟨some 2, .mv (.c .nilslice), none⟩, ⟨some 3, .mv (.c (.int .i64 (.ofNat 0))), none⟩, ⟨some 4, .mv (.c (.int .i64 (.ofNat 10))), none⟩]) 
 .ret) .skip)) 
 (.seq
  (.ops [⟨some 13, .mv (.r 0), none⟩, ⟨some 14, .indexSl 1 (.r 13) (.c (.int .i64 (.ofNat 0))), none⟩, ⟨some 15, .load1 (.r 14), none⟩, ⟨some 16, .toInt .i64 (.r 15), none⟩, ⟨some 5, .mv (.r 16), none⟩]) 
 (.seq
  (.ops [⟨some 17, .mv (.r 0), none⟩, ⟨some 18, .sliceSl 1 true (.r 17) (some (.c (.int .i64 (.ofNat 1)))) none none, none⟩, ⟨some 0, .mv (.r 18), none⟩]) 
 (.seq
  (.ops [⟨some 6, .mv (.c .nilslice), none⟩]) 
 (.seq
  (.ops [⟨some 7, .mv (.c (.int .i64 (.ofNat 0))), none⟩]) 
 (.seq
  (.ops [⟨some 8, .mv (.c (.int .i64 (.ofNat 0))), none⟩]) 
 (.seq
  (.block 0 (.seq
  (.ops [⟨some 28, .mv (.r 5), none⟩, ⟨some 29, .bin .geq (.r 28) (.c (.int .i64 (.ofNat 128))), none⟩, ⟨some 27, .mv (.r 29), none⟩]) 
 (.cond (.r 27) (.seq
  (.ops [⟨some 30, .mv (.r 5), none⟩, ⟨some 31, .bin .sub (.r 30) (.c (.int .i64 (.ofNat 128))), none⟩, ⟨some 32, .bin .add (.r 31) (.c (.int .i64 (.ofNat 2))), none⟩, ⟨some 33, .bin .quo (.r 32) (.c (.int .i64 (.ofNat 2))), none⟩, ⟨some 7, .mv (.r 33), none⟩]) 
 (.ops [⟨some 35, .mv (.r 0), none⟩, ⟨some 36, .mv (.r 5), none⟩, ⟨some 37, .bin .sub (.r 36) (.c (.int .i64 (.ofNat 128))), none⟩, ⟨some 38, .bin .add (.r 37) (.c (.int .i64 (.ofNat 1))), none⟩, ⟨some 39, .call 178 [.r 35, .r 38], none⟩, ⟨some 34, .mv (.r 39), none⟩, ⟨some 40, .extract 0 (.r 34), none⟩, ⟨some 41, .extract 1 (.r 34), none⟩, ⟨some 6, .mv (.r 40), none⟩, ⟨some 8, .mv (.r 41), none⟩])) (.seq
  (.ops [⟨some 43, .mv (.r 0), none⟩, ⟨some 44, .len .slice (.r 43), none⟩, ⟨some 45, .mv (.r 5), none⟩, ⟨some 46, .bin .lss (.r 44) (.r 45), none⟩, ⟨some 42, .mv (.r 46), none⟩]) 
 (.cond (.r 42) (.ops [⟨some 8, .mv (.c (.int .i64 (.ofNat 10))), none⟩]) (.seq
  (.ops [⟨some 19, .mv (.r 5), none⟩, ⟨some 7, .mv (.r 19), none⟩]) 
 (.ops [⟨some 21, .mv (.r 0), none⟩, ⟨some 22, .mv (.r 5), none⟩, ⟨some 23, .sliceSl 1 false (.r 21) none (some (.r 22)) none, none⟩, ⟨some 24, .call 179 [.r 23], none⟩, ⟨some 20, .mv (.r 24), none⟩, ⟨some 25, .extract 0 (.r 20), none⟩, ⟨some 26, .extract 1 (.r 20), none⟩, ⟨some 6, .mv (.r 25), none⟩, ⟨some 8, .mv (.r 26), none⟩]))))))) 
 (.seq
  (.seq
  (.ops [⟨some 47, .mv (.r 8), none⟩, ⟨some 48, .bin .neq (.r 47) (.c (.int .i64 (.ofNat 0))), none⟩]) 
 (.cond (.r 48) (.seq
  (.ops [⟨some 49, .mv (.r 8), none⟩, ⟨some 2, .mv (.c .nilslice), none⟩, ⟨some 3, .mv (.c (.int .i64 (.ofNat 0))), none⟩, ⟨some 4, .mv (.r 49), none⟩]) 
 .ret) .skip)) 
 (.seq
  (.ops [⟨some 51, .mv (.r 6), none⟩, ⟨some 52, .call 180 [.r 51], none⟩, ⟨some 50, .mv (.r 52), none⟩, ⟨some 53, .extract 0 (.r 50), none⟩, ⟨some 54, .extract 1 (.r 50), none⟩, ⟨some 9, .mv (.r 53), none⟩, ⟨some 8, .mv (.r 54), none⟩]) 
 (.seq
  (.seq
  (.ops [⟨some 55, .mv (.r 8), none⟩, ⟨some 56, .bin .neq (.r 55) (.c (.int .i64 (.ofNat 0))), none⟩]) 
 (.cond (.r 56) (.seq
  (.ops [⟨some 57, .mv (.r 8), none⟩, ⟨some 2, .mv (.c .nilslice), none⟩, ⟨some 3, .mv (.c (.int .i64 (.ofNat 0))), none⟩, ⟨some 4, .mv (.r 57), none⟩]) 
 .ret) .skip)) 
 (.seq
  (.ops [⟨some 58, .mv (.r 9), none⟩, ⟨some 59, .mv (.r 7), none⟩, ⟨some 60, .bin .add (.c (.int .i64 (.ofNat 1))) (.r 59), none⟩, ⟨some 2, .mv (.r 58), none⟩, ⟨some 3, .mv (.r 60), none⟩, ⟨some 4, .mv (.c (.int .i64 (.ofNat 0))), none⟩]) 
 .ret)))))))))))⟩
def c145 : AF := ⟨25, [.reg 6, .reg 7], .seq
  (.ops [⟨some 3, .box 5 (.r 0), none⟩, ⟨some 6, .mv (.c .nilslice), none⟩, ⟨some 7, .mv (.c (.int .i64 (.ofNat 0))), none⟩]) 
 (.seq
  (.seq
  (.ops [⟨some 8, .fieldAt 1 (.r 3), none⟩, ⟨some 9, .load1 (.r 8), none⟩, ⟨some 10, .bin .eql (.r 9) (.c (.int .i64 (.ofNat 0))), none⟩]) 
 (.cond (.r 10) (.seq
  (.ops [⟨some 11, .mv (.r 1), none⟩, ⟨some 12, .mv (.r 2), none⟩, ⟨some 13, .fieldAt 3 (.r 3), none⟩, ⟨some 14, .load1 (.r 13), none⟩, ⟨some 15, .call 181 [.r 11, .r 12, .r 14], none⟩, ⟨some 16, .extract 0 (.r 15), none⟩, ⟨some 17, .extract 1 (.r 15), none⟩, ⟨some 6, .mv (.r 16), none⟩, ⟨some 7, .mv (.r 17), none⟩]) 
 .ret) .skip)) 
 (.seq
  (.ops [⟨some 18, .mv (.r 1), none⟩, ⟨some 19, .mv (.r 2), none⟩, ⟨some 20, .fieldAt 3 (.r 3), none⟩, ⟨some 21, .load1 (.r 20), none⟩, ⟨some 22, .call 182 [.r 18, .r 19, .r 21], none⟩, ⟨some 23, .extract 0 (.r 22), none⟩, ⟨some 24, .extract 1 (.r 22), none⟩, ⟨some 6, .mv (.r 23), none⟩, ⟨some 7, .mv (.r 24), none⟩]) 
 .ret))⟩
def c146 : AF := ⟨25, [.reg 2], .seq
  (.ops [⟨some 2, .mv (.c (.int .i64 (.ofNat 0))), none⟩]) 
 (.seq
  (.ops [⟨some 4, .mv (.r 0), none⟩, ⟨some 5, .call 49 [.r 4, .c (.int .i64 (.ofNat 1))], none⟩, ⟨some 6, .toInt .i64 (.r 5), none⟩, ⟨some 3, .mv (.r 6), none⟩]) 
 (.seq
  (.block 0 (.seq
  (.ops [⟨some 8, .mv (.r 3), none⟩, ⟨some 9, .bin .lss (.r 8) (.c (.int .i64 (.ofNat 128))), none⟩, ⟨some 7, .mv (.r 9), none⟩]) 
 (.cond (.r 7) (.seq
  (.ops [⟨some 10, .mv (.r 3), none⟩, ⟨some 2, .mv (.r 10), none⟩]) 
 .ret) (.seq
  (.ops [⟨some 12, .mv (.r 3), none⟩, ⟨some 13, .bin .lss (.r 12) (.c (.int .i64 (.ofNat 255))), none⟩, ⟨some 11, .mv (.r 13), none⟩]) 
 (.cond (.r 11) (.seq
  (.ops [⟨some 14, .mv (.r 3), none⟩, ⟨some 15, .bin .sub (.r 14) (.c (.int .i64 (.ofNat 128))), none⟩, ⟨some 16, .bin .shl (.r 15) (.c (.int .u64 (.ofNat 8))), none⟩, ⟨some 17, .mv (.r 0), none⟩, ⟨some 18, .call 49 [.r 17, .c (.int .i64 (.ofNat 1))], none⟩, ⟨some 19, .toInt .i64 (.r 18), none⟩, ⟨some 20, .bin .or (.r 16) (.r 19), none⟩, ⟨some 2, .mv (.r 20), none⟩]) 
 .ret) .skip))))) 
 (.seq
  (.ops [⟨some 21, .mv (.r 0), none⟩, ⟨some 22, .call 49 [.r 21, .c (.int .i64 (.ofNat 2))], none⟩, ⟨some 23, .toInt .i64 (.r 22), none⟩, ⟨some 24, .bin .add (.r 23) (.c (.int .i64 (.ofNat 32512))), none⟩, ⟨some 2, .mv (.r 24), none⟩]) 
 .ret)))⟩
def c147 : AF := ⟨70, [.cell 4 6 true, .reg 5], .seq
  (.ops [⟨some 3, .box 6 (.r 1), none⟩, ⟨some 4, .alloc [.int .i64 (.ofNat 0), .nilslice, .int .i64 (.ofNat 0), .nilslice, .int .i64 (.ofNat 0), .nilslice], none⟩, ⟨some 5, .mv (.c (.int .i64 (.ofNat 0))), none⟩]) 
 (.seq
  (.ops [⟨some 13, .mv (.r 0), none⟩, ⟨some 14, .call 49 [.r 13, .c (.int .i64 (.ofNat 1))], none⟩, ⟨some 15, .toInt .i64 (.r 14), none⟩, ⟨some 6, .mv (.r 15), none⟩]) 
 (.seq
  (.block 0 (.seq
  (.ops [⟨some 17, .mv (.r 0), none⟩, ⟨some 18, .call 77 [.r 17], none⟩, ⟨some 19, .bin .neq (.r 18) (.c (.int .i64 (.ofNat 0))), none⟩, ⟨some 16, .mv (.r 19), none⟩]) 
 (.cond (.r 16) (.seq
  (.ops [⟨some 20, .build [.int .i64 (.ofNat 0), .nilslice, .int .i64 (.ofNat 0), .nilslice, .int .i64 (.ofNat 0), .nilslice] [], none⟩, ⟨some 21, .mv (.r 0), none⟩, ⟨some 22, .call 77 [.r 21], none⟩, ⟨none, .store 6 (.r 4) (.r 20), none⟩, ⟨some 5, .mv (.r 22), none⟩]) 
 .ret) (.seq
  (.ops [⟨some 24, .mv (.r 6), none⟩, ⟨some 25, .bin .and (.r 24) (.c (.int .i64 (.ofNat 3))), none⟩, ⟨some 26, .bin .neq (.r 25) (.c (.int .i64 (.ofNat 0))), none⟩, ⟨some 23, .mv (.r 26), none⟩]) 
 (.cond (.r 23) (.seq
  (.ops [⟨some 27, .build [.int .i64 (.ofNat 0), .nilslice, .int .i64 (.ofNat 0), .nilslice, .int .i64 (.ofNat 0), .nilslice] [], none⟩, ⟨none, .store 6 (.r 4) (.r 27), none⟩, ⟨some 5, .mv (.c (.int .i64 (.ofNat 11))), none⟩]) 
 .ret) .skip))))) 
 (.seq
  (.ops [⟨some 28, .mv (.r 0), none⟩, ⟨some 29, .mv (.r 0), none⟩, ⟨some 30, .call 76 [.r 29], none⟩, ⟨some 31, .call 50 [.r 28, .r 30], none⟩, ⟨some 7, .mv (.r 31), none⟩]) 
 (.seq
  (.ops [⟨some 32, .loadN 6 (.r 3), none⟩, ⟨some 8, .alloc [.int .i64 (.ofNat 0), .nilslice, .int .i64 (.ofNat 0), .nilslice, .int .i64 (.ofNat 0), .nilslice], none⟩, ⟨none, .store 6 (.r 8) (.r 32), none⟩]) 
 (.seq
  (.seq
  (.ops [⟨some 33, .mv (.c (.int .i64 (.ofNat 0))), none⟩]) 
 (.block 1 (.loop (.seq
  (.ops [⟨some 34, .bin .lss (.r 33) (.c (.int .i64 (.ofNat 3))), none⟩]) 
 (.seq
  (.cond (.r 34) .skip (.exit 1)) 
 (.seq
  (.block 2 (.seq
  (.ops [⟨some 35, .mv (.r 33), none⟩, ⟨some 9, .mv (.r 35), none⟩]) 
 (.seq
  (.multi [(0, ⟨some 37, .mv (.r 9), none⟩), (0, ⟨some 38, .mv (.r 6), none⟩), (0, ⟨some 39, .mv (.r 9), none⟩), (0, ⟨some 40, .bin .mul (.c (.int .i64 (.ofNat 2))) (.r 39), none⟩), (0, ⟨some 41, .bin .sub (.c (.int .i64 (.ofNat 6))) (.r 40), none⟩), (0, ⟨some 42, .bin .shr (.r 38) (.r 41), none⟩), (0, ⟨some 43, .bin .and (.r 42) (.c (.int .i64 (.ofNat 3))), none⟩), (0, ⟨some 44, .mv (.r 7), none⟩), (0, ⟨some 45, .mv (.r 9), none⟩), (0, ⟨some 46, .indexArr 3 2 (.r 3) (.r 45), none⟩), (1, ⟨some 47, .loadN 2 (.r 46), none⟩), (4, ⟨some 48, .call 183 [.r 37, .r 43, .r 44, .r 47], none⟩), (0, ⟨some 36, .mv (.r 48), none⟩), (0, ⟨some 49, .extract 0 (.r 36), none⟩), (0, ⟨some 50, .extract 1 (.r 36), none⟩), (0, ⟨some 51, .extract 2 (.r 36), none⟩), (2, ⟨some 10, .alloc [.int .i64 (.ofNat 0), .nilslice], none⟩), (5, ⟨none, .store 2 (.r 10) (.r 49), none⟩), (0, ⟨some 11, .mv (.r 50), none⟩), (0, ⟨some 12, .mv (.r 51), none⟩)] [(10, 16), (11, 16)]) 
 (.seq
  (.seq
  (.ops [⟨some 52, .mv (.r 12), none⟩, ⟨some 53, .bin .neq (.r 52) (.c (.int .i64 (.ofNat 0))), none⟩]) 
 (.cond (.r 53) (.seq
  (.ops [⟨some 54, .build [.int .i64 (.ofNat 0), .nilslice, .int .i64 (.ofNat 0), .nilslice, .int .i64 (.ofNat 0), .nilslice] [], none⟩, ⟨some 55, .mv (.r 12), none⟩, ⟨none, .store 6 (.r 4) (.r 54), none⟩, ⟨some 5, .mv (.r 55), none⟩]) 
 .ret) .skip)) 
 (.multi [(0, ⟨some 56, .mv (.r 9), none⟩), (1, ⟨some 57, .loadN 2 (.r 10), none⟩), (0, ⟨some 58, .mv (.r 7), none⟩), (0, ⟨some 59, .mv (.r 11), none⟩), (2, ⟨some 60, .sliceSl 1 true (.r 58) (some (.r 59)) none none, none⟩), (0, ⟨some 61, .indexArr 3 2 (.r 8) (.r 56), none⟩), (3, ⟨none, .store 2 (.r 61) (.r 57), none⟩), (0, ⟨some 7, .mv (.r 60), none⟩)] [(1, 4), (4, 6)]))))) 
 (.ops [⟨some 62, .bin .add (.r 33) (.c (.int .i64 (.ofNat 1))), none⟩, ⟨some 33, .mv (.r 62), none⟩]))))))) 
 (.seq
  (.ops [⟨some 63, .mv (.r 0), none⟩, ⟨some 64, .mv (.r 7), none⟩, ⟨some 65, .call 47 [.r 64], none⟩, ⟨some 66, .nilCheck (.r 65), none⟩, ⟨some 67, .loadN 2 (.r 66), none⟩, ⟨some 68, .nilCheck (.r 63), none⟩, ⟨none, .store 2 (.r 68) (.r 67), none⟩]) 
 (.seq
  (.ops [⟨some 69, .loadN 6 (.r 8), none⟩, ⟨none, .store 6 (.r 4) (.r 69), none⟩, ⟨some 5, .mv (.c (.int .i64 (.ofNat 0))), none⟩]) 
 .ret)))))))⟩
def c148 : AF := ⟨33, [.reg 2, .reg 3], .seq
  (.ops [⟨some 2, .mv (.c .nilptr), none⟩, ⟨some 3, .mv (.c (.int .i64 (.ofNat 0))), none⟩]) 
 (.seq
  (.seq
  (.ops [⟨some 4, .mv (.r 0), none⟩, ⟨some 5, .len .slice (.r 4), none⟩, ⟨some 6, .bin .eql (.r 5) (.c (.int .i64 (.ofNat 0))), none⟩, ⟨some 7, .mv (.r 6), none⟩, ⟨some 8, .mv (.r 0), some (7, false)⟩, ⟨some 9, .mv (.r 0), some (7, false)⟩, ⟨some 10, .len .slice (.r 9), some (7, false)⟩, ⟨some 11, .bin .sub (.r 10) (.c (.int .i64 (.ofNat 1))), some (7, false)⟩, ⟨some 12, .indexSl 1 (.r 8) (.r 11), some (7, false)⟩, ⟨some 13, .load1 (.r 12), some (7, false)⟩, ⟨some 14, .bin .eql (.r 13) (.c (.int .u8 (.ofNat 0))), some (7, false)⟩, ⟨some 15, .pick (.r 7) (.c (.bool true)) (.r 14), none⟩]) 
 (.cond (.r 15) (.seq
  (.ops [⟨some 2, .mv (.c .nilptr), none⟩, ⟨some 3, .mv (.c (.int .i64 (.ofNat 11))), none⟩]) 
 .ret) .skip)) 
 (.seq
  (.multi [(0, ⟨some 16, .mv (.r 0), none⟩), (4, ⟨some 17, .call 53 [.r 16], none⟩), (0, ⟨some 18, .mv (.r 0), none⟩), (0, ⟨some 19, .len .slice (.r 18), none⟩), (0, ⟨some 20, .bin .sub (.r 19) (.c (.int .i64 (.ofNat 1))), none⟩), (0, ⟨some 21, .bin .mul (.c (.int .i64 (.ofNat 8))) (.r 20), none⟩), (0, ⟨some 22, .mv (.r 0), none⟩), (0, ⟨some 23, .mv (.r 0), none⟩), (0, ⟨some 24, .len .slice (.r 23), none⟩), (0, ⟨some 25, .bin .sub (.r 24) (.c (.int .i64 (.ofNat 1))), none⟩), (0, ⟨some 26, .indexSl 1 (.r 22) (.r 25), none⟩), (1, ⟨some 27, .load1 (.r 26), none⟩), (5, ⟨some 28, .call 184 [.r 27], none⟩), (0, ⟨some 29, .bin .add (.r 21) (.r 28), none⟩), (0, ⟨some 30, .bin .sub (.r 29) (.c (.int .i64 (.ofNat 1))), none⟩), (0, ⟨some 31, .build [.nilslice, .int .i64 (.ofNat 0)] [(0, (1, .r 17)), (1, (1, .r 30))], none⟩), (5, ⟨some 32, .box 2 (.r 31), none⟩), (0, ⟨some 2, .mv (.r 32), none⟩), (0, ⟨some 3, .mv (.c (.int .i64 (.ofNat 0))), none⟩)] [(1, 11)]) 
 .ret))⟩
def c149 : AF := ⟨10, [.reg 4], .seq
  (.ops [⟨some 2, .box 2 (.r 0), none⟩, ⟨some 4, .mv (.c (.int .i64 (.ofNat 0))), none⟩]) 
 (.seq
  (.ops [⟨some 5, .mv (.r 1), none⟩, ⟨some 6, .fieldAt 0 (.r 2), none⟩, ⟨some 7, .load1 (.r 6), none⟩, ⟨some 8, .call 185 [.r 5, .r 7], none⟩, ⟨some 9, .toInt .i64 (.r 8), none⟩, ⟨some 4, .mv (.r 9), none⟩]) 
 .ret)⟩
def c150 : AF := ⟨40, [.reg 8], .seq
  (.ops [⟨some 5, .box 2 (.r 1), none⟩, ⟨some 8, .mv (.c (.int .u32 (.ofNat 0))), none⟩]) 
 (.seq
  (.seq
  (.ops [⟨some 12, .mv (.r 2), none⟩, ⟨some 13, .bin .lss (.r 12) (.c (.int .i64 (.ofNat 0))), none⟩, ⟨some 14, .mv (.r 13), none⟩, ⟨some 15, .mv (.r 2), some (14, false)⟩, ⟨some 16, .fieldAt 1 (.r 5), some (14, false)⟩, ⟨some 17, .load1 (.r 16), some (14, false)⟩, ⟨some 18, .len .slice (.r 17), some (14, false)⟩, ⟨some 19, .bin .geq (.r 15) (.r 18), some (14, false)⟩, ⟨some 20, .pick (.r 14) (.c (.bool true)) (.r 19), none⟩]) 
 (.cond (.r 20) (.seq
  (.ops [⟨some 8, .mv (.c (.int .u32 (.ofNat 0))), none⟩]) 
 .ret) .skip)) 
 (.seq
  (.ops [⟨some 22, .mv (.r 0), none⟩, ⟨some 23, .fieldAt 1 (.r 5), none⟩, ⟨some 24, .load1 (.r 23), none⟩, ⟨some 25, .mv (.r 2), none⟩, ⟨some 26, .indexSl 3 (.r 24) (.r 25), none⟩, ⟨some 27, .fieldAt 0 (.r 26), none⟩, ⟨some 28, .load1 (.r 27), none⟩, ⟨some 29, .toInt .i64 (.r 28), none⟩, ⟨some 30, .call 176 [.r 22, .r 29], none⟩, ⟨some 21, .mv (.r 30), none⟩, ⟨some 31, .extract 0 (.r 21), none⟩, ⟨some 32, .extract 1 (.r 21), none⟩, ⟨some 33, .extract 2 (.r 21), none⟩, ⟨some 9, .mv (.r 31), none⟩, ⟨some 10, .mv (.r 32), none⟩, ⟨some 11, .mv (.r 33), none⟩]) 
 (.seq
  (.ops [⟨some 34, .mv (.r 9), none⟩, ⟨some 35, .mv (.r 3), none⟩, ⟨some 36, .mv (.r 10), none⟩, ⟨some 37, .call 185 [.r 35, .r 36], none⟩, ⟨some 38, .toInt .u32 (.r 37), none⟩, ⟨some 39, .bin .add (.r 34) (.r 38), none⟩, ⟨some 8, .mv (.r 39), none⟩]) 
 .ret)))⟩
def c151 : AF := ⟨30, [.reg 6], .seq
  (.ops [⟨some 3, .box 2 (.r 0), none⟩, ⟨some 6, .mv (.c (.int .i64 (.ofNat 0))), none⟩]) 
 (.seq
  (.seq
  (.ops [⟨some 8, .mv (.r 1), none⟩, ⟨some 9, .bin .lss (.r 8) (.c (.int .i64 (.ofNat 0))), none⟩, ⟨some 10, .mv (.r 9), none⟩, ⟨some 11, .mv (.r 1), some (10, false)⟩, ⟨some 12, .fieldAt 1 (.r 3), some (10, false)⟩, ⟨some 13, .load1 (.r 12), some (10, false)⟩, ⟨some 14, .len .slice (.r 13), some (10, false)⟩, ⟨some 15, .bin .geq (.r 11) (.r 14), some (10, false)⟩, ⟨some 16, .pick (.r 10) (.c (.bool true)) (.r 15), none⟩]) 
 (.cond (.r 16) (.seq
  (.ops [⟨some 6, .mv (.c (.int .i64 (.ofNat 0))), none⟩]) 
 .ret) .skip)) 
 (.seq
  (.ops [⟨some 17, .fieldAt 1 (.r 3), none⟩, ⟨some 18, .load1 (.r 17), none⟩, ⟨some 19, .mv (.r 1), none⟩, ⟨some 20, .indexSl 3 (.r 18) (.r 19), none⟩, ⟨some 21, .loadN 3 (.r 20), none⟩, ⟨some 7, .alloc [.int .u8 (.ofNat 0), .int .i64 (.ofNat 0), .int .i64 (.ofNat 0)], none⟩, ⟨none, .store 3 (.r 7) (.r 21), none⟩]) 
 (.seq
  (.multi [(0, ⟨some 22, .fieldAt 2 (.r 7), none⟩), (1, ⟨some 23, .load1 (.r 22), none⟩), (0, ⟨some 24, .mv (.r 2), none⟩), (0, ⟨some 25, .fieldAt 1 (.r 7), none⟩), (5, ⟨some 26, .load1 (.r 25), none⟩), (4, ⟨some 27, .call 185 [.r 24, .r 26], none⟩), (0, ⟨some 28, .toInt .i64 (.r 27), none⟩), (0, ⟨some 29, .bin .add (.r 23) (.r 28), none⟩), (0, ⟨some 6, .mv (.r 29), none⟩)] [(1, 5)]) 
 .ret)))⟩
def c152 : AF := ⟨9, [.reg 2], .seq
  (.ops [⟨some 2, .mv (.c (.int .i64 (.ofNat 0))), none⟩]) 
 (.seq
  (.seq
  (.ops [⟨some 3, .mv (.r 0), none⟩, ⟨some 4, .eqnil false 0 (.r 3) (.c .nilptr), none⟩]) 
 (.cond (.r 4) (.seq
  (.ops [⟨some 2, .mv (.c (.int .i64 (.ofNat 0))), none⟩]) 
 .ret) .skip)) 
 (.seq
  (.ops [⟨some 5, .mv (.r 0), none⟩, ⟨some 6, .nilCheck (.r 5), none⟩, ⟨some 7, .fieldAt 1 (.r 6), none⟩, ⟨some 8, .load1 (.r 7), none⟩, ⟨some 2, .mv (.r 8), none⟩]) 
 .ret))⟩
def c153 : AF := ⟨15, [.reg 5], .seq
  (.ops [⟨some 5, .mv (.c (.bool false)), none⟩]) 
 (.seq
  (.ops [⟨some 6, .load1 (.r 1), none⟩, ⟨some 7, .len .slice (.r 6), none⟩, ⟨some 8, .load1 (.r 2), none⟩, ⟨some 9, .len .slice (.r 8), none⟩, ⟨some 10, .bin .sub (.r 7) (.r 9), none⟩, ⟨some 11, .mv (.r 0), none⟩, ⟨some 12, .bin .add (.r 10) (.r 11), none⟩, ⟨some 13, .load1 (.r 3), none⟩, ⟨some 14, .bin .leq (.r 12) (.r 13), none⟩, ⟨some 5, .mv (.r 14), none⟩]) 
 .ret)⟩
def c154 : AF := ⟨25, [.cell 4 4 true, .reg 5], .seq
  (.ops [⟨some 4, .alloc [.int .u8 (.ofNat 0), .int .u8 (.ofNat 0), .int .u8 (.ofNat 0), .int .u8 (.ofNat 0)], none⟩, ⟨some 5, .mv (.c (.bool false)), none⟩]) 
 (.seq
  (.seq
  (.ops [⟨some 6, .mv (.r 1), none⟩, ⟨some 7, .bin .add (.r 6) (.c (.int .i64 (.ofNat 4))), none⟩, ⟨some 8, .mv (.r 0), none⟩, ⟨some 9, .nilCheck (.r 8), none⟩, ⟨some 10, .fieldAt 0 (.r 9), none⟩, ⟨some 11, .load1 (.r 10), none⟩, ⟨some 12, .len .slice (.r 11), none⟩, ⟨some 13, .bin .gtr (.r 7) (.r 12), none⟩]) 
 (.cond (.r 13) (.seq
  (.ops [⟨some 14, .build [.int .u8 (.ofNat 0), .int .u8 (.ofNat 0), .int .u8 (.ofNat 0), .int .u8 (.ofNat 0)] [], none⟩, ⟨none, .store 4 (.r 4) (.r 14), none⟩, ⟨some 5, .mv (.c (.bool false)), none⟩]) 
 .ret) .skip)) 
 (.seq
  (.ops [⟨some 15, .mv (.r 0), none⟩, ⟨some 16, .nilCheck (.r 15), none⟩, ⟨some 17, .fieldAt 0 (.r 16), none⟩, ⟨some 18, .load1 (.r 17), none⟩, ⟨some 19, .mv (.r 1), none⟩, ⟨some 20, .mv (.r 1), none⟩, ⟨some 21, .bin .add (.r 20) (.c (.int .i64 (.ofNat 4))), none⟩, ⟨some 22, .sliceSl 1 true (.r 18) (some (.r 19)) (some (.r 21)) none, none⟩, ⟨some 23, .toArr 4 (.r 22), none⟩, ⟨some 24, .loadN 4 (.r 23), none⟩, ⟨none, .store 4 (.r 4) (.r 24), none⟩, ⟨some 5, .mv (.c (.bool true)), none⟩]) 
 .ret))⟩
def c155 : AF := ⟨44, [.reg 6], .seq
  (.ops [⟨some 6, .mv (.c (.int .i64 (.ofNat 0))), none⟩]) 
 (.seq
  (.ops [⟨some 7, .mv (.c (.int .i64 (.ofNat 0))), none⟩]) 
 (.seq
  (.block 0 (.loop (.seq
  (.seq
  (.ops [⟨some 8, .mv (.r 2), none⟩, ⟨some 9, .mv (.r 7), none⟩, ⟨some 10, .bin .add (.r 8) (.r 9), none⟩, ⟨some 11, .mv (.r 0), none⟩, ⟨some 12, .nilCheck (.r 11), none⟩, ⟨some 13, .fieldAt 1 (.r 12), none⟩, ⟨some 14, .load1 (.r 13), none⟩, ⟨some 15, .bin .lss (.r 10) (.r 14), none⟩, ⟨some 16, .mv (.r 15), none⟩, ⟨some 17, .mv (.r 7), some (16, true)⟩, ⟨some 18, .bin .lss (.r 17) (.c (.int .i64 (.ofNat 131074))), some (16, true)⟩, ⟨some 19, .pick (.r 16) (.r 18) (.c (.bool false)), none⟩, ⟨some 20, .mv (.r 19), none⟩, ⟨some 21, .mv (.r 0), some (20, true)⟩, ⟨some 22, .nilCheck (.r 21), some (20, true)⟩, ⟨some 23, .fieldAt 0 (.r 22), some (20, true)⟩, ⟨some 24, .load1 (.r 23), some (20, true)⟩, ⟨some 25, .mv (.r 1), some (20, true)⟩, ⟨some 26, .mv (.r 7), some (20, true)⟩, ⟨some 27, .bin .add (.r 25) (.r 26), some (20, true)⟩, ⟨some 28, .indexSl 1 (.r 24) (.r 27), some (20, true)⟩, ⟨some 29, .load1 (.r 28), some (20, true)⟩, ⟨some 30, .mv (.r 0), some (20, true)⟩, ⟨some 31, .nilCheck (.r 30), some (20, true)⟩, ⟨some 32, .fieldAt 0 (.r 31), some (20, true)⟩, ⟨some 33, .load1 (.r 32), some (20, true)⟩, ⟨some 34, .mv (.r 2), some (20, true)⟩, ⟨some 35, .mv (.r 7), some (20, true)⟩, ⟨some 36, .bin .add (.r 34) (.r 35), some (20, true)⟩, ⟨some 37, .indexSl 1 (.r 33) (.r 36), some (20, true)⟩, ⟨some 38, .load1 (.r 37), some (20, true)⟩, ⟨some 39, .bin .eql (.r 29) (.r 38), some (20, true)⟩, ⟨some 40, .pick (.r 20) (.r 39) (.c (.bool false)), none⟩]) 
 (.cond (.r 40) .skip (.exit 0))) 
 (.block 1 (.ops [⟨some 41, .mv (.r 7), none⟩, ⟨some 42, .bin .add (.r 41) (.c (.int .i64 (.ofNat 1))), none⟩, ⟨some 7, .mv (.r 42), none⟩]))))) 
 (.seq
  (.ops [⟨some 43, .mv (.r 7), none⟩, ⟨some 6, .mv (.r 43), none⟩]) 
 .ret)))⟩
def c156 : AF := ⟨38, [.reg 4], .seq
  (.ops [⟨some 4, .mv (.c .nilslice), none⟩]) 
 (.seq
  (.ops [⟨some 6, .call 43 [], none⟩, ⟨some 5, .mv (.r 6), none⟩]) 
 (.seq
  (.block 0 (.seq
  (.ops [⟨some 16, .mv (.r 1), none⟩, ⟨some 17, .bin .lss (.r 16) (.c (.int .i64 (.ofNat 32))), none⟩, ⟨some 15, .mv (.r 17), none⟩]) 
 (.cond (.r 15) (.ops [⟨some 18, .mv (.r 5), none⟩, ⟨some 19, .mv (.r 1), none⟩, ⟨some 20, .bin .shl (.r 19) (.c (.int .u64 (.ofNat 3))), none⟩, ⟨some 21, .mv (.r 0), none⟩, ⟨some 22, .bin .or (.r 20) (.r 21), none⟩, ⟨some 23, .toInt .u64 (.r 22), none⟩, ⟨some 24, .call 44 [.r 18, .r 23, .c (.int .i64 (.ofNat 1))], none⟩]) (.seq
  (.ops [⟨some 26, .mv (.r 1), none⟩, ⟨some 27, .bin .lss (.r 26) (.c (.int .i64 (.ofNat 4096))), none⟩, ⟨some 25, .mv (.r 27), none⟩]) 
 (.cond (.r 25) (.ops [⟨some 28, .mv (.r 5), none⟩, ⟨some 29, .mv (.r 1), none⟩, ⟨some 30, .bin .shl (.r 29) (.c (.int .u64 (.ofNat 4))), none⟩, ⟨some 31, .bin .or (.r 30) (.c (.int .i64 (.ofNat 4))), none⟩, ⟨some 32, .mv (.r 0), none⟩, ⟨some 33, .bin .or (.r 31) (.r 32), none⟩, ⟨some 34, .toInt .u64 (.r 33), none⟩, ⟨some 35, .call 44 [.r 28, .r 34, .c (.int .i64 (.ofNat 2))], none⟩]) (.ops [⟨some 7, .mv (.r 5), none⟩, ⟨some 8, .mv (.r 1), none⟩, ⟨some 9, .bin .shl (.r 8) (.c (.int .u64 (.ofNat 4))), none⟩, ⟨some 10, .bin .or (.r 9) (.c (.int .i64 (.ofNat 12))), none⟩, ⟨some 11, .mv (.r 0), none⟩, ⟨some 12, .bin .or (.r 10) (.r 11), none⟩, ⟨some 13, .toInt .u64 (.r 12), none⟩, ⟨some 14, .call 44 [.r 7, .r 13, .c (.int .i64 (.ofNat 3))], none⟩])))))) 
 (.seq
  (.ops [⟨some 36, .mv (.r 5), none⟩, ⟨some 37, .call 46 [.r 36], none⟩, ⟨some 4, .mv (.r 37), none⟩]) 
 .ret)))⟩
def c157 : AF := ⟨33, [.reg 4], .seq
  (.ops [⟨some 4, .mv (.c .nilslice), none⟩]) 
 (.seq
  (.seq
  (.ops [⟨some 7, .mv (.r 0), none⟩, ⟨some 8, .len .slice (.r 7), none⟩, ⟨some 9, .bin .lss (.r 8) (.c (.int .i64 (.ofNat 1))), none⟩]) 
 (.cond (.r 9) (.ops [⟨some 10, .bad 0, none⟩, ⟨none, .bad 0, none⟩]) .skip)) 
 (.seq
  (.ops [⟨some 11, .mv (.r 0), none⟩, ⟨some 12, .indexSl 1 (.r 11) (.c (.int .i64 (.ofNat 0))), none⟩, ⟨some 13, .load1 (.r 12), none⟩, ⟨some 5, .mv (.r 13), none⟩]) 
 (.seq
  (.seq
  (.ops [⟨some 6, .mv (.c (.int .i64 (.ofNat 1))), none⟩]) 
 (.block 0 (.loop (.seq
  (.seq
  (.ops [⟨some 14, .mv (.r 6), none⟩, ⟨some 15, .mv (.r 0), none⟩, ⟨some 16, .len .slice (.r 15), none⟩, ⟨some 17, .bin .lss (.r 14) (.r 16), none⟩]) 
 (.cond (.r 17) .skip (.exit 0))) 
 (.seq
  (.block 1 (.seq
  (.ops [⟨some 20, .mv (.r 1), none⟩, ⟨some 21, .mv (.r 0), none⟩, ⟨some 22, .mv (.r 6), none⟩, ⟨some 23, .indexSl 1 (.r 21) (.r 22), none⟩, ⟨some 24, .load1 (.r 23), none⟩, ⟨some 25, .mv (.r 5), none⟩, ⟨some 26, .callv (.r 20) [.r 24, .r 25], none⟩, ⟨some 27, .bin .lss (.r 26) (.c (.int .i64 (.ofNat 0))), none⟩]) 
 (.cond (.r 27) (.ops [⟨some 28, .mv (.r 0), none⟩, ⟨some 29, .mv (.r 6), none⟩, ⟨some 30, .indexSl 1 (.r 28) (.r 29), none⟩, ⟨some 31, .load1 (.r 30), none⟩, ⟨some 5, .mv (.r 31), none⟩]) .skip))) 
 (.ops [⟨some 18, .mv (.r 6), none⟩, ⟨some 19, .bin .add (.r 18) (.c (.int .i64 (.ofNat 1))), none⟩, ⟨some 6, .mv (.r 19), none⟩])))))) 
 (.seq
  (.ops [⟨some 32, .mv (.r 5), none⟩, ⟨some 4, .mv (.r 32), none⟩]) 
 .ret))))⟩
def c158 : AF := ⟨10, [.reg 4], .seq
  (.ops [⟨some 4, .mv (.c (.int .i64 (.ofNat 0))), none⟩]) 
 (.seq
  (.ops [⟨some 5, .mv (.r 0), none⟩, ⟨some 6, .len .slice (.r 5), none⟩, ⟨some 7, .mv (.r 1), none⟩, ⟨some 8, .len .slice (.r 7), none⟩, ⟨some 9, .bin .sub (.r 6) (.r 8), none⟩, ⟨some 4, .mv (.r 9), none⟩]) 
 .ret)⟩
def c159 : AF := ⟨188, [.reg 4], .seq
  (.ops [⟨some 4, .mv (.c .nilslice), none⟩]) 
 (.seq
  (.ops [⟨some 15, .mv (.r 0), none⟩, ⟨some 16, .len .slice (.r 15), none⟩, ⟨some 17, .makeSlice 1 8 [.int .i64 (.ofNat 0)] (.r 16) (.r 16), none⟩, ⟨some 5, .mv (.r 17), none⟩]) 
 (.seq
  (.ops [⟨some 6, .mv (.c (.int .i64 (.ofNat 2048))), none⟩]) 
 (.seq
  (.seq
  (.ops [⟨some 18, .mv (.r 0), none⟩, ⟨some 19, .len .slice (.r 18), none⟩, ⟨some 20, .mv (.c (.int .i64 (.ofNat 0))), none⟩]) 
 (.block 0 (.loop (.seq
  (.ops [⟨some 21, .bin .lss (.r 20) (.r 19), none⟩]) 
 (.seq
  (.cond (.r 21) .skip (.exit 0)) 
 (.seq
  (.block 1 (.seq
  (.ops [⟨some 22, .mv (.r 20), none⟩, ⟨some 23, .indexSl 1 (.r 18) (.r 20), none⟩, ⟨some 24, .load1 (.r 23), none⟩, ⟨some 7, .mv (.r 22), none⟩, ⟨some 8, .mv (.r 24), none⟩]) 
 (.seq
  (.ops [⟨some 25, .mv (.r 8), none⟩, ⟨some 26, .bin .gtr (.r 25) (.c (.int .u32 (.ofNat 0))), none⟩]) 
 (.cond (.r 26) (.seq
  (.ops [⟨some 27, .mv (.r 5), none⟩, ⟨some 28, .mv (.r 7), none⟩, ⟨some 29, .mv (.r 1), none⟩, ⟨some 30, .bin .sub (.r 29) (.c (.int .u64 (.ofNat 1))), none⟩, ⟨some 31, .mv (.r 8), none⟩, ⟨some 32, .toInt .u64 (.r 31), none⟩, ⟨some 33, .bin .quo (.r 30) (.r 32), none⟩, ⟨some 34, .call 98 [.r 33], none⟩, ⟨some 35, .maxmin true (.r 34) [.c (.int .i64 (.ofNat 1))], none⟩, ⟨some 36, .maxmin false (.r 35) [.c (.int .i64 (.ofNat 11))], none⟩, ⟨some 37, .indexSl 1 (.r 27) (.r 28), none⟩, ⟨none, .store 1 (.r 37) (.r 36), none⟩]) 
 (.ops [⟨some 38, .mv (.r 6), none⟩, ⟨some 39, .mv (.r 5), none⟩, ⟨some 40, .mv (.r 7), none⟩, ⟨some 41, .indexSl 1 (.r 39) (.r 40), none⟩, ⟨some 42, .load1 (.r 41), none⟩, ⟨some 43, .bin .sub (.c (.int .i64 (.ofNat 11))) (.r 42), none⟩, ⟨some 44, .bin .shl (.c (.int .i64 (.ofNat 1))) (.r 43), none⟩, ⟨some 45, .bin .sub (.r 38) (.r 44), none⟩, ⟨some 6, .mv (.r 45), none⟩])) .skip)))) 
 (.ops [⟨some 46, .bin .add (.r 20) (.c (.int .i64 (.ofNat 1))), none⟩, ⟨some 20, .mv (.r 46), none⟩]))))))) 
 (.seq
  (.block 2 (.loop (.seq
  (.seq
  (.ops [⟨some 47, .mv (.r 6), none⟩, ⟨some 48, .bin .lss (.r 47) (.c (.int .i64 (.ofNat 0))), none⟩]) 
 (.cond (.r 48) .skip (.exit 2))) 
 (.block 3 (.seq
  (.ops [⟨some 9, .mv (.c (.int .i64 (.negSucc 0))), none⟩]) 
 (.seq
  (.seq
  (.ops [⟨some 49, .mv (.r 0), none⟩, ⟨some 50, .len .slice (.r 49), none⟩, ⟨some 51, .mv (.c (.int .i64 (.ofNat 0))), none⟩]) 
 (.block 4 (.loop (.seq
  (.ops [⟨some 52, .bin .lss (.r 51) (.r 50), none⟩]) 
 (.seq
  (.cond (.r 52) .skip (.exit 4)) 
 (.seq
  (.block 5 (.seq
  (.ops [⟨some 53, .mv (.r 51), none⟩, ⟨some 54, .indexSl 1 (.r 49) (.r 51), none⟩, ⟨some 55, .load1 (.r 54), none⟩, ⟨some 10, .mv (.r 53), none⟩, ⟨some 11, .mv (.r 55), none⟩]) 
 (.seq
  (.ops [⟨some 56, .mv (.r 11), none⟩, ⟨some 57, .bin .gtr (.r 56) (.c (.int .u32 (.ofNat 0))), none⟩, ⟨some 58, .mv (.r 57), none⟩, ⟨some 59, .mv (.r 5), some (58, true)⟩, ⟨some 60, .mv (.r 10), some (58, true)⟩, ⟨some 61, .indexSl 1 (.r 59) (.r 60), some (58, true)⟩, ⟨some 62, .load1 (.r 61), some (58, true)⟩, ⟨some 63, .bin .lss (.r 62) (.c (.int .i64 (.ofNat 11))), some (58, true)⟩, ⟨some 64, .pick (.r 58) (.r 63) (.c (.bool false)), none⟩, ⟨some 65, .mv (.r 64), none⟩, ⟨some 66, .mv (.r 9), some (65, true)⟩, ⟨some 67, .bin .lss (.r 66) (.c (.int .i64 (.ofNat 0))), some (65, true)⟩, ⟨some 68, .mv (.r 67), some (65, true)⟩, ⟨some 69, .mv (.r 5), some (68, false)⟩, ⟨some 70, .mv (.r 10), some (68, false)⟩, ⟨some 71, .indexSl 1 (.r 69) (.r 70), some (68, false)⟩, ⟨some 72, .load1 (.r 71), some (68, false)⟩, ⟨some 73, .mv (.r 5), some (68, false)⟩, ⟨some 74, .mv (.r 9), some (68, false)⟩, ⟨some 75, .indexSl 1 (.r 73) (.r 74), some (68, false)⟩, ⟨some 76, .load1 (.r 75), some (68, false)⟩, ⟨some 77, .bin .gtr (.r 72) (.r 76), some (68, false)⟩, ⟨some 78, .pick (.r 68) (.c (.bool true)) (.r 77), some (65, true)⟩, ⟨some 79, .mv (.r 78), some (65, true)⟩, ⟨some 80, .mv (.r 5), some (79, false)⟩, ⟨some 81, .mv (.r 10), some (79, false)⟩, ⟨some 82, .indexSl 1 (.r 80) (.r 81), some (79, false)⟩, ⟨some 83, .load1 (.r 82), some (79, false)⟩, ⟨some 84, .mv (.r 5), some (79, false)⟩, ⟨some 85, .mv (.r 9), some (79, false)⟩, ⟨some 86, .indexSl 1 (.r 84) (.r 85), some (79, false)⟩, ⟨some 87, .load1 (.r 86), some (79, false)⟩, ⟨some 88, .bin .eql (.r 83) (.r 87), some (79, false)⟩, ⟨some 89, .mv (.r 88), some (79, false)⟩, ⟨some 90, .mv (.r 11), some (89, true)⟩, ⟨some 91, .mv (.r 0), some (89, true)⟩, ⟨some 92, .mv (.r 9), some (89, true)⟩, ⟨some 93, .indexSl 1 (.r 91) (.r 92), some (89, true)⟩, ⟨some 94, .load1 (.r 93), some (89, true)⟩, ⟨some 95, .bin .lss (.r 90) (.r 94), some (89, true)⟩, ⟨some 96, .pick (.r 89) (.r 95) (.c (.bool false)), some (79, false)⟩, ⟨some 97, .pick (.r 79) (.c (.bool true)) (.r 96), some (65, true)⟩, ⟨some 98, .pick (.r 65) (.r 97) (.c (.bool false)), none⟩]) 
 (.cond (.r 98) (.ops [⟨some 99, .mv (.r 10), none⟩, ⟨some 9, .mv (.r 99), none⟩]) .skip)))) 
 (.ops [⟨some 100, .bin .add (.r 51) (.c (.int .i64 (.ofNat 1))), none⟩, ⟨some 51, .mv (.r 100), none⟩]))))))) 
 (.seq
  (.ops [⟨some 101, .mv (.r 6), none⟩, ⟨some 102, .mv (.r 5), none⟩, ⟨some 103, .mv (.r 9), none⟩, ⟨some 104, .indexSl 1 (.r 102) (.r 103), none⟩, ⟨some 105, .load1 (.r 104), none⟩, ⟨some 106, .bin .sub (.c (.int .i64 (.ofNat 11))) (.r 105), none⟩, ⟨some 107, .bin .sub (.r 106) (.c (.int .i64 (.ofNat 1))), none⟩, ⟨some 108, .bin .shl (.c (.int .i64 (.ofNat 1))) (.r 107), none⟩, ⟨some 109, .bin .add (.r 101) (.r 108), none⟩, ⟨some 6, .mv (.r 109), none⟩]) 
 (.ops [⟨some 110, .mv (.r 5), none⟩, ⟨some 111, .mv (.r 9), none⟩, ⟨some 112, .indexSl 1 (.r 110) (.r 111), none⟩, ⟨some 113, .load1 (.r 112), none⟩, ⟨some 114, .bin .add (.r 113) (.c (.int .i64 (.ofNat 1))), none⟩, ⟨some 115, .indexSl 1 (.r 110) (.r 111), none⟩, ⟨none, .store 1 (.r 115) (.r 114), none⟩])))))))) 
 (.seq
  (.block 6 (.loop (.seq
  (.seq
  (.ops [⟨some 116, .mv (.r 6), none⟩, ⟨some 117, .bin .gtr (.r 116) (.c (.int .i64 (.ofNat 0))), none⟩]) 
 (.cond (.r 117) .skip (.exit 6))) 
 (.block 7 (.seq
  (.ops [⟨some 12, .mv (.c (.int .i64 (.negSucc 0))), none⟩]) 
 (.seq
  (.seq
  (.ops [⟨some 118, .mv (.r 0), none⟩, ⟨some 119, .len .slice (.r 118), none⟩, ⟨some 120, .mv (.c (.int .i64 (.ofNat 0))), none⟩]) 
 (.block 8 (.loop (.seq
  (.ops [⟨some 121, .bin .lss (.r 120) (.r 119), none⟩]) 
 (.seq
  (.cond (.r 121) .skip (.exit 8)) 
 (.seq
  (.block 9 (.seq
  (.ops [⟨some 122, .mv (.r 120), none⟩, ⟨some 123, .indexSl 1 (.r 118) (.r 120), none⟩, ⟨some 124, .load1 (.r 123), none⟩, ⟨some 13, .mv (.r 122), none⟩, ⟨some 14, .mv (.r 124), none⟩]) 
 (.seq
  (.ops [⟨some 125, .mv (.r 14), none⟩, ⟨some 126, .bin .gtr (.r 125) (.c (.int .u32 (.ofNat 0))), none⟩, ⟨some 127, .mv (.r 126), none⟩, ⟨some 128, .mv (.r 5), some (127, true)⟩, ⟨some 129, .mv (.r 13), some (127, true)⟩, ⟨some 130, .indexSl 1 (.r 128) (.r 129), some (127, true)⟩, ⟨some 131, .load1 (.r 130), some (127, true)⟩, ⟨some 132, .bin .sub (.c (.int .i64 (.ofNat 11))) (.r 131), some (127, true)⟩, ⟨some 133, .bin .shl (.c (.int .i64 (.ofNat 1))) (.r 132), some (127, true)⟩, ⟨some 134, .mv (.r 6), some (127, true)⟩, ⟨some 135, .bin .leq (.r 133) (.r 134), some (127, true)⟩, ⟨some 136, .pick (.r 127) (.r 135) (.c (.bool false)), none⟩, ⟨some 137, .mv (.r 136), none⟩, ⟨some 138, .mv (.r 12), some (137, true)⟩, ⟨some 139, .bin .lss (.r 138) (.c (.int .i64 (.ofNat 0))), some (137, true)⟩, ⟨some 140, .mv (.r 139), some (137, true)⟩, ⟨some 141, .mv (.r 5), some (140, false)⟩, ⟨some 142, .mv (.r 13), some (140, false)⟩, ⟨some 143, .indexSl 1 (.r 141) (.r 142), some (140, false)⟩, ⟨some 144, .load1 (.r 143), some (140, false)⟩, ⟨some 145, .mv (.r 5), some (140, false)⟩, ⟨some 146, .mv (.r 12), some (140, false)⟩, ⟨some 147, .indexSl 1 (.r 145) (.r 146), some (140, false)⟩, ⟨some 148, .load1 (.r 147), some (140, false)⟩, ⟨some 149, .bin .gtr (.r 144) (.r 148), some (140, false)⟩, ⟨some 150, .pick (.r 140) (.c (.bool true)) (.r 149), some (137, true)⟩, ⟨some 151, .mv (.r 150), some (137, true)⟩, ⟨some 152, .mv (.r 5), some (151, false)⟩, ⟨some 153, .mv (.r 13), some (151, false)⟩, ⟨some 154, .indexSl 1 (.r 152) (.r 153), some (151, false)⟩, ⟨some 155, .load1 (.r 154), some (151, false)⟩, ⟨some 156, .mv (.r 5), some (151, false)⟩, ⟨some 157, .mv (.r 12), some (151, false)⟩, ⟨some 158, .indexSl 1 (.r 156) (.r 157), some (151, false)⟩, ⟨some 159, .load1 (.r 158), some (151, false)⟩, ⟨some 160, .bin .eql (.r 155) (.r 159), some (151, false)⟩, ⟨some 161, .mv (.r 160), some (151, false)⟩, ⟨some 162, .mv (.r 14), some (161, true)⟩, ⟨some 163, .mv (.r 0), some (161, true)⟩, ⟨some 164, .mv (.r 12), some (161, true)⟩, ⟨some 165, .indexSl 1 (.r 163) (.r 164), some (161, true)⟩, ⟨some 166, .load1 (.r 165), some (161, true)⟩, ⟨some 167, .bin .gtr (.r 162) (.r 166), some (161, true)⟩, ⟨some 168, .pick (.r 161) (.r 167) (.c (.bool false)), some (151, false)⟩, ⟨some 169, .pick (.r 151) (.c (.bool true)) (.r 168), some (137, true)⟩, ⟨some 170, .pick (.r 137) (.r 169) (.c (.bool false)), none⟩]) 
 (.cond (.r 170) (.ops [⟨some 171, .mv (.r 13), none⟩, ⟨some 12, .mv (.r 171), none⟩]) .skip)))) 
 (.ops [⟨some 172, .bin .add (.r 120) (.c (.int .i64 (.ofNat 1))), none⟩, ⟨some 120, .mv (.r 172), none⟩]))))))) 
 (.seq
  (.ops [⟨some 173, .mv (.r 6), none⟩, ⟨some 174, .mv (.r 5), none⟩, ⟨some 175, .mv (.r 12), none⟩, ⟨some 176, .indexSl 1 (.r 174) (.r 175), none⟩, ⟨some 177, .load1 (.r 176), none⟩, ⟨some 178, .bin .sub (.c (.int .i64 (.ofNat 11))) (.r 177), none⟩, ⟨some 179, .bin .shl (.c (.int .i64 (.ofNat 1))) (.r 178), none⟩, ⟨some 180, .bin .sub (.r 173) (.r 179), none⟩, ⟨some 6, .mv (.r 180), none⟩]) 
 (.ops [⟨some 181, .mv (.r 5), none⟩, ⟨some 182, .mv (.r 12), none⟩, ⟨some 183, .indexSl 1 (.r 181) (.r 182), none⟩, ⟨some 184, .load1 (.r 183), none⟩, ⟨some 185, .bin .sub (.r 184) (.c (.int .i64 (.ofNat 1))), none⟩, ⟨some 186, .indexSl 1 (.r 181) (.r 182), none⟩, ⟨none, .store 1 (.r 186) (.r 185), none⟩])))))))) 
 (.seq
  (.ops [⟨some 187, .mv (.r 5), none⟩, ⟨some 4, .mv (.r 187), none⟩]) 
 .ret))))))⟩
def c160 : AF := ⟨25, [.reg 2], .seq
  (.ops [⟨some 2, .mv (.c (.int .i64 (.ofNat 0))), none⟩]) 
 (.seq
  (.seq
  (.ops [⟨some 5, .mv (.r 0), none⟩, ⟨some 6, .len .slice (.r 5), none⟩, ⟨some 7, .bin .lss (.r 6) (.c (.int .i64 (.ofNat 1))), none⟩]) 
 (.cond (.r 7) (.ops [⟨some 8, .bad 0, none⟩, ⟨none, .bad 0, none⟩]) .skip)) 
 (.seq
  (.ops [⟨some 9, .mv (.r 0), none⟩, ⟨some 10, .indexSl 1 (.r 9) (.c (.int .i64 (.ofNat 0))), none⟩, ⟨some 11, .load1 (.r 10), none⟩, ⟨some 3, .mv (.r 11), none⟩]) 
 (.seq
  (.seq
  (.ops [⟨some 4, .mv (.c (.int .i64 (.ofNat 1))), none⟩]) 
 (.block 0 (.loop (.seq
  (.seq
  (.ops [⟨some 12, .mv (.r 4), none⟩, ⟨some 13, .mv (.r 0), none⟩, ⟨some 14, .len .slice (.r 13), none⟩, ⟨some 15, .bin .lss (.r 12) (.r 14), none⟩]) 
 (.cond (.r 15) .skip (.exit 0))) 
 (.seq
  (.block 1 (.ops [⟨some 18, .mv (.r 3), none⟩, ⟨some 19, .mv (.r 0), none⟩, ⟨some 20, .mv (.r 4), none⟩, ⟨some 21, .indexSl 1 (.r 19) (.r 20), none⟩, ⟨some 22, .load1 (.r 21), none⟩, ⟨some 23, .maxmin true (.r 18) [.r 22], none⟩, ⟨some 3, .mv (.r 23), none⟩])) 
 (.ops [⟨some 16, .mv (.r 4), none⟩, ⟨some 17, .bin .add (.r 16) (.c (.int .i64 (.ofNat 1))), none⟩, ⟨some 4, .mv (.r 17), none⟩])))))) 
 (.seq
  (.ops [⟨some 24, .mv (.r 3), none⟩, ⟨some 2, .mv (.r 24), none⟩]) 
 .ret))))⟩
def c161 : AF := ⟨49, [.reg 2, .reg 3], .seq
  (.ops [⟨some 2, .mv (.c .nilslice), none⟩, ⟨some 3, .mv (.c (.int .i64 (.ofNat 0))), none⟩]) 
 (.seq
  (.block 0 (.seq
  (.ops [⟨some 9, .mv (.r 0), none⟩, ⟨some 10, .call 186 [.r 9], none⟩, ⟨some 11, .bin .eql (.r 10) (.c (.int .i64 (.ofNat 0))), none⟩, ⟨some 8, .mv (.r 11), none⟩]) 
 (.cond (.r 8) (.seq
  (.ops [⟨some 2, .mv (.c .nilslice), none⟩, ⟨some 3, .mv (.c (.int .i64 (.ofNat 1))), none⟩]) 
 .ret) (.seq
  (.ops [⟨some 13, .mv (.r 0), none⟩, ⟨some 14, .len .slice (.r 13), none⟩, ⟨some 15, .bin .gtr (.r 14) (.c (.int .i64 (.ofNat 129))), none⟩, ⟨some 12, .mv (.r 15), none⟩]) 
 (.cond (.r 12) (.seq
  (.ops [⟨some 2, .mv (.c .nilslice), none⟩, ⟨some 3, .mv (.c (.int .i64 (.ofNat 12))), none⟩]) 
 .ret) .skip))))) 
 (.seq
  (.ops [⟨some 16, .mv (.r 0), none⟩, ⟨some 17, .len .slice (.r 16), none⟩, ⟨some 18, .bin .sub (.r 17) (.c (.int .i64 (.ofNat 1))), none⟩, ⟨some 4, .mv (.r 18), none⟩]) 
 (.seq
  (.ops [⟨some 19, .mv (.r 4), none⟩, ⟨some 20, .bin .add (.c (.int .i64 (.ofNat 127))) (.r 19), none⟩, ⟨some 21, .toInt .u8 (.r 20), none⟩, ⟨some 22, .buildSlice 1 1 [.int .u8 (.ofNat 0)] [(0, (1, .r 21))], none⟩, ⟨some 5, .mv (.r 22), none⟩]) 
 (.seq
  (.seq
  (.ops [⟨some 6, .mv (.c (.int .i64 (.ofNat 0))), none⟩]) 
 (.block 1 (.loop (.seq
  (.seq
  (.ops [⟨some 23, .mv (.r 6), none⟩, ⟨some 24, .mv (.r 4), none⟩, ⟨some 25, .bin .lss (.r 23) (.r 24), none⟩]) 
 (.cond (.r 25) .skip (.exit 1))) 
 (.seq
  (.block 2 (.seq
  (.ops [⟨some 28, .mv (.r 0), none⟩, ⟨some 29, .mv (.r 6), none⟩, ⟨some 30, .indexSl 1 (.r 28) (.r 29), none⟩, ⟨some 31, .load1 (.r 30), none⟩, ⟨some 32, .bin .shl (.r 31) (.c (.int .u64 (.ofNat 4))), none⟩, ⟨some 7, .mv (.r 32), none⟩]) 
 (.seq
  (.seq
  (.ops [⟨some 33, .mv (.r 6), none⟩, ⟨some 34, .bin .add (.r 33) (.c (.int .i64 (.ofNat 1))), none⟩, ⟨some 35, .mv (.r 4), none⟩, ⟨some 36, .bin .lss (.r 34) (.r 35), none⟩]) 
 (.cond (.r 36) (.ops [⟨some 37, .mv (.r 7), none⟩, ⟨some 38, .mv (.r 0), none⟩, ⟨some 39, .mv (.r 6), none⟩, ⟨some 40, .bin .add (.r 39) (.c (.int .i64 (.ofNat 1))), none⟩, ⟨some 41, .indexSl 1 (.r 38) (.r 40), none⟩, ⟨some 42, .load1 (.r 41), none⟩, ⟨some 43, .bin .or (.r 37) (.r 42), none⟩, ⟨some 7, .mv (.r 43), none⟩]) .skip)) 
 (.ops [⟨some 44, .mv (.r 5), none⟩, ⟨some 45, .mv (.r 7), none⟩, ⟨some 46, .buildSlice 1 1 [.int .u8 (.ofNat 0)] [(0, (1, .r 45))], none⟩, ⟨some 47, .append 1 1 (.r 44) (.r 46), none⟩, ⟨some 5, .mv (.r 47), none⟩])))) 
 (.ops [⟨some 26, .mv (.r 6), none⟩, ⟨some 27, .bin .add (.r 26) (.c (.int .i64 (.ofNat 2))), none⟩, ⟨some 6, .mv (.r 27), none⟩])))))) 
 (.seq
  (.ops [⟨some 48, .mv (.r 5), none⟩, ⟨some 2, .mv (.r 48), none⟩, ⟨some 3, .mv (.c (.int .i64 (.ofNat 0))), none⟩]) 
 .ret)))))⟩
def c162 : AF := ⟨19, [.reg 4, .reg 5], .seq
  (.ops [⟨some 4, .mv (.c .nilslice), none⟩, ⟨some 5, .mv (.c (.int .i64 (.ofNat 0))), none⟩]) 
 (.seq
  (.seq
  (.ops [⟨some 6, .mv (.r 1), none⟩, ⟨some 7, .len .slice (.r 6), none⟩, ⟨some 8, .bin .lss (.r 7) (.c (.int .i64 (.ofNat 256))), none⟩]) 
 (.cond (.r 8) (.seq
  (.ops [⟨some 9, .mv (.r 0), none⟩, ⟨some 10, .mv (.r 1), none⟩, ⟨some 11, .call 187 [.r 9, .r 10], none⟩, ⟨some 12, .extract 0 (.r 11), none⟩, ⟨some 13, .extract 1 (.r 11), none⟩, ⟨some 4, .mv (.r 12), none⟩, ⟨some 5, .mv (.r 13), none⟩]) 
 .ret) .skip)) 
 (.seq
  (.ops [⟨some 14, .mv (.r 0), none⟩, ⟨some 15, .mv (.r 1), none⟩, ⟨some 16, .call 188 [.r 14, .r 15], none⟩, ⟨some 17, .extract 0 (.r 16), none⟩, ⟨some 18, .extract 1 (.r 16), none⟩, ⟨some 4, .mv (.r 17), none⟩, ⟨some 5, .mv (.r 18), none⟩]) 
 .ret))⟩
def c163 : AF := ⟨10, [.cell 2 3 true], .seq
  (.ops [⟨some 1, .box 3 (.r 0), none⟩, ⟨some 2, .alloc [.int .u32 (.ofNat 0), .int .u32 (.ofNat 0), .int .u32 (.ofNat 0)], none⟩]) 
 (.seq
  (.ops [⟨some 3, .fieldAt 0 (.r 1), none⟩, ⟨some 4, .load1 (.r 3), none⟩, ⟨some 5, .fieldAt 2 (.r 1), none⟩, ⟨some 6, .load1 (.r 5), none⟩, ⟨some 7, .fieldAt 1 (.r 1), none⟩, ⟨some 8, .load1 (.r 7), none⟩, ⟨some 9, .build [.int .u32 (.ofNat 0), .int .u32 (.ofNat 0), .int .u32 (.ofNat 0)] [(0, (1, .r 4)), (1, (1, .r 6)), (2, (1, .r 8))], none⟩, ⟨none, .store 3 (.r 2) (.r 9), none⟩]) 
 .ret)⟩
def c164 : AF := ⟨78, [.reg 4, .reg 5, .reg 6], .seq
  (.ops [⟨some 4, .mv (.c (.int .i64 (.ofNat 0))), none⟩, ⟨some 5, .mv (.c (.int .u32 (.ofNat 0))), none⟩, ⟨some 6, .mv (.c (.int .i64 (.ofNat 0))), none⟩]) 
 (.seq
  (.ops [⟨some 14, .mv (.r 0), none⟩, ⟨some 15, .call 189 [.r 14], none⟩, ⟨some 13, .mv (.r 15), none⟩, ⟨some 16, .extract 0 (.r 13), none⟩, ⟨some 17, .extract 1 (.r 13), none⟩, ⟨some 18, .extract 2 (.r 13), none⟩, ⟨some 7, .mv (.r 16), none⟩, ⟨some 8, .mv (.r 17), none⟩, ⟨some 9, .mv (.r 18), none⟩]) 
 (.seq
  (.block 0 (.seq
  (.ops [⟨some 20, .mv (.r 0), none⟩, ⟨some 21, .call 165 [.r 20], none⟩, ⟨some 22, .bin .lss (.r 21) (.c (.int .i64 (.ofNat 0))), none⟩, ⟨some 19, .mv (.r 22), none⟩]) 
 (.cond (.r 19) (.seq
  (.ops [⟨some 4, .mv (.c (.int .i64 (.ofNat 0))), none⟩, ⟨some 5, .mv (.c (.int .u32 (.ofNat 0))), none⟩, ⟨some 6, .mv (.c (.int .i64 (.ofNat 1))), none⟩]) 
 .ret) (.seq
  (.ops [⟨some 24, .mv (.r 0), none⟩, ⟨some 25, .bin .eql (.r 24) (.c (.int .i64 (.ofNat 1))), none⟩, ⟨some 26, .mv (.r 25), none⟩, ⟨some 27, .mv (.r 1), some (26, true)⟩, ⟨some 28, .bin .eql (.r 27) (.c (.int .u32 (.ofNat 0))), some (26, true)⟩, ⟨some 29, .pick (.r 26) (.r 28) (.c (.bool false)), none⟩, ⟨some 23, .mv (.r 29), none⟩]) 
 (.cond (.r 23) (.seq
  (.ops [⟨some 4, .mv (.c (.int .i64 (.ofNat 0))), none⟩, ⟨some 5, .mv (.c (.int .u32 (.ofNat 0))), none⟩, ⟨some 6, .mv (.c (.int .i64 (.ofNat 17))), none⟩]) 
 .ret) (.seq
  (.ops [⟨some 31, .mv (.r 0), none⟩, ⟨some 32, .bin .eql (.r 31) (.c (.int .i64 (.ofNat 1))), none⟩, ⟨some 30, .mv (.r 32), none⟩]) 
 (.cond (.r 30) (.seq
  (.ops [⟨some 33, .mv (.r 1), none⟩, ⟨some 34, .call 97 [.r 33], none⟩, ⟨some 35, .bin .sub (.r 34) (.c (.int .i64 (.ofNat 1))), none⟩, ⟨some 10, .mv (.r 35), none⟩]) 
 (.seq
  (.ops [⟨some 36, .mv (.r 10), none⟩, ⟨some 37, .mv (.r 1), none⟩, ⟨some 38, .mv (.r 10), none⟩, ⟨some 39, .bin .shl (.c (.int .u32 (.ofNat 1))) (.r 38), none⟩, ⟨some 40, .bin .sub (.r 37) (.r 39), none⟩, ⟨some 4, .mv (.r 36), none⟩, ⟨some 5, .mv (.r 40), none⟩, ⟨some 6, .mv (.c (.int .i64 (.ofNat 0))), none⟩]) 
 .ret)) (.seq
  (.ops [⟨some 42, .mv (.r 1), none⟩, ⟨some 43, .mv (.r 8), none⟩, ⟨some 44, .bin .lss (.r 42) (.r 43), none⟩, ⟨some 41, .mv (.r 44), none⟩]) 
 (.cond (.r 41) (.seq
  (.ops [⟨some 4, .mv (.c (.int .i64 (.ofNat 0))), none⟩, ⟨some 5, .mv (.c (.int .u32 (.ofNat 0))), none⟩, ⟨some 6, .mv (.c (.int .i64 (.ofNat 17))), none⟩]) 
 .ret) .skip))))))))) 
 (.seq
  (.ops [⟨some 45, .mv (.r 1), none⟩, ⟨some 46, .mv (.r 8), none⟩, ⟨some 47, .bin .sub (.r 45) (.r 46), none⟩, ⟨some 1, .mv (.r 47), none⟩]) 
 (.seq
  (.seq
  (.ops [⟨some 48, .mv (.r 1), none⟩, ⟨some 49, .mv (.r 7), none⟩, ⟨some 50, .toInt .u32 (.r 49), none⟩, ⟨some 51, .bin .lss (.r 48) (.r 50), none⟩]) 
 (.cond (.r 51) (.seq
  (.ops [⟨some 52, .mv (.r 1), none⟩, ⟨some 53, .toInt .i64 (.r 52), none⟩, ⟨some 4, .mv (.r 53), none⟩, ⟨some 5, .mv (.c (.int .u32 (.ofNat 0))), none⟩, ⟨some 6, .mv (.c (.int .i64 (.ofNat 0))), none⟩]) 
 .ret) .skip)) 
 (.seq
  (.ops [⟨some 54, .mv (.r 1), none⟩, ⟨some 55, .mv (.r 7), none⟩, ⟨some 56, .toInt .u32 (.r 55), none⟩, ⟨some 57, .bin .sub (.r 54) (.r 56), none⟩, ⟨some 1, .mv (.r 57), none⟩]) 
 (.seq
  (.seq
  (.ops [⟨some 58, .mv (.r 9), none⟩, ⟨some 59, .len .slice (.r 58), none⟩, ⟨some 60, .mv (.c (.int .i64 (.ofNat 0))), none⟩]) 
 (.block 1 (.loop (.seq
  (.ops [⟨some 61, .bin .lss (.r 60) (.r 59), none⟩]) 
 (.seq
  (.cond (.r 61) .skip (.exit 1)) 
 (.seq
  (.block 2 (.seq
  (.ops [⟨some 62, .mv (.r 60), none⟩, ⟨some 63, .indexSl 1 (.r 58) (.r 60), none⟩, ⟨some 64, .load1 (.r 63), none⟩, ⟨some 11, .mv (.r 62), none⟩, ⟨some 12, .mv (.r 64), none⟩]) 
 (.seq
  (.seq
  (.ops [⟨some 65, .mv (.r 1), none⟩, ⟨some 66, .mv (.r 12), none⟩, ⟨some 67, .bin .shl (.c (.int .u32 (.ofNat 1))) (.r 66), none⟩, ⟨some 68, .bin .lss (.r 65) (.r 67), none⟩]) 
 (.cond (.r 68) (.seq
  (.ops [⟨some 69, .mv (.r 7), none⟩, ⟨some 70, .mv (.r 11), none⟩, ⟨some 71, .bin .add (.r 69) (.r 70), none⟩, ⟨some 72, .mv (.r 1), none⟩, ⟨some 4, .mv (.r 71), none⟩, ⟨some 5, .mv (.r 72), none⟩, ⟨some 6, .mv (.c (.int .i64 (.ofNat 0))), none⟩]) 
 .ret) .skip)) 
 (.ops [⟨some 73, .mv (.r 1), none⟩, ⟨some 74, .mv (.r 12), none⟩, ⟨some 75, .bin .shl (.c (.int .u32 (.ofNat 1))) (.r 74), none⟩, ⟨some 76, .bin .sub (.r 73) (.r 75), none⟩, ⟨some 1, .mv (.r 76), none⟩])))) 
 (.ops [⟨some 77, .bin .add (.r 60) (.c (.int .i64 (.ofNat 1))), none⟩, ⟨some 60, .mv (.r 77), none⟩]))))))) 
 (.seq
  (.ops [⟨some 4, .mv (.c (.int .i64 (.ofNat 0))), none⟩, ⟨some 5, .mv (.c (.int .u32 (.ofNat 0))), none⟩, ⟨some 6, .mv (.c (.int .i64 (.ofNat 17))), none⟩]) 
 .ret)))))))⟩
def c165 : AF := ⟨19, [.reg 2], .seq
  (.ops [⟨some 2, .mv (.c (.int .i64 (.ofNat 0))), none⟩]) 
 (.seq
  (.seq
  (.ops [⟨some 6, .mv (.r 0), none⟩, ⟨some 7, .bin .eql (.r 6) (.c (.int .i64 (.ofNat 1))), none⟩]) 
 (.cond (.r 7) (.seq
  (.ops [⟨some 2, .mv (.c (.int .i64 (.ofNat 31))), none⟩]) 
 .ret) .skip)) 
 (.seq
  (.ops [⟨some 9, .mv (.r 0), none⟩, ⟨some 10, .call 189 [.r 9], none⟩, ⟨some 8, .mv (.r 10), none⟩, ⟨some 11, .extract 0 (.r 8), none⟩, ⟨some 12, .extract 1 (.r 8), none⟩, ⟨some 13, .extract 2 (.r 8), none⟩, ⟨some 3, .mv (.r 11), none⟩, ⟨some 4, .mv (.r 12), none⟩, ⟨some 5, .mv (.r 13), none⟩]) 
 (.seq
  (.ops [⟨some 14, .mv (.r 3), none⟩, ⟨some 15, .mv (.r 5), none⟩, ⟨some 16, .len .slice (.r 15), none⟩, ⟨some 17, .bin .add (.r 14) (.r 16), none⟩, ⟨some 18, .bin .sub (.r 17) (.c (.int .i64 (.ofNat 1))), none⟩, ⟨some 2, .mv (.r 18), none⟩]) 
 .ret)))⟩
def c166 : AF := ⟨23, [.cell 2 2 true], .seq
  (.ops [⟨some 2, .alloc [.int .i64 (.ofNat 0), .nilslice], none⟩]) 
 (.seq
  (.seq
  (.ops [⟨some 6, .mv (.r 0), none⟩]) 
 (.block 0 (.seq
  (.ops [⟨some 8, .bin .eql (.r 6) (.c (.int .i64 (.ofNat 0))), none⟩, ⟨some 7, .mv (.r 8), none⟩]) 
 (.cond (.r 7) (.seq
  (.ops [⟨some 9, .loadN 36 (.c (.ptr 6 0)), none⟩, ⟨some 3, .alloc [.int .i64 (.ofNat 0), .int .i64 (.ofNat 0), .int .i64 (.ofNat 0), .int .i64 (.ofNat 0), .int .i64 (.ofNat 0), .int .i64 (.ofNat 0), .int .i64 (.ofNat 0), .int .i64 (.ofNat 0), .int .i64 (.ofNat 0), .int .i64 (.ofNat 0), .int .i64 (.ofNat 0), .int .i64 (.ofNat 0), .int .i64 (.ofNat 0), .int .i64 (.ofNat 0), .int .i64 (.ofNat 0), .int .i64 (.ofNat 0), .int .i64 (.ofNat 0), .int .i64 (.ofNat 0), .int .i64 (.ofNat 0), .int .i64 (.ofNat 0), .int .i64 (.ofNat 0), .int .i64 (.ofNat 0), .int .i64 (.ofNat 0), .int .i64 (.ofNat 0), .int .i64 (.ofNat 0), .int .i64 (.ofNat 0), .int .i64 (.ofNat 0), .int .i64 (.ofNat 0), .int .i64 (.ofNat 0), .int .i64 (.ofNat 0), .int .i64 (.ofNat 0), .int .i64 (.ofNat 0), .int .i64 (.ofNat 0), .int .i64 (.ofNat 0), .int .i64 (.ofNat 0), .int .i64 (.ofNat 0)], none⟩, ⟨none, .store 36 (.r 3) (.r 9), none⟩]) 
 (.seq
  (.ops [⟨some 10, .sliceArr 36 1 (.r 3) none none none, none⟩, ⟨some 11, .build [.int .i64 (.ofNat 0), .nilslice] [(0, (1, .c (.int .i64 (.ofNat 6)))), (1, (1, .r 10))], none⟩, ⟨none, .store 2 (.r 2) (.r 11), none⟩]) 
 .ret)) (.seq
  (.ops [⟨some 13, .bin .eql (.r 6) (.c (.int .i64 (.ofNat 1))), none⟩, ⟨some 12, .mv (.r 13), none⟩]) 
 (.cond (.r 12) (.seq
  (.ops [⟨some 14, .loadN 29 (.c (.ptr 7 0)), none⟩, ⟨some 4, .alloc [.int .i64 (.ofNat 0), .int .i64 (.ofNat 0), .int .i64 (.ofNat 0), .int .i64 (.ofNat 0), .int .i64 (.ofNat 0), .int .i64 (.ofNat 0), .int .i64 (.ofNat 0), .int .i64 (.ofNat 0), .int .i64 (.ofNat 0), .int .i64 (.ofNat 0), .int .i64 (.ofNat 0), .int .i64 (.ofNat 0), .int .i64 (.ofNat 0), .int .i64 (.ofNat 0), .int .i64 (.ofNat 0), .int .i64 (.ofNat 0), .int .i64 (.ofNat 0), .int .i64 (.ofNat 0), .int .i64 (.ofNat 0), .int .i64 (.ofNat 0), .int .i64 (.ofNat 0), .int .i64 (.ofNat 0), .int .i64 (.ofNat 0), .int .i64 (.ofNat 0), .int .i64 (.ofNat 0), .int .i64 (.ofNat 0), .int .i64 (.ofNat 0), .int .i64 (.ofNat 0), .int .i64 (.ofNat 0)], none⟩, ⟨none, .store 29 (.r 4) (.r 14), none⟩]) 
 (.seq
  (.ops [⟨some 15, .sliceArr 29 1 (.r 4) none none none, none⟩, ⟨some 16, .build [.int .i64 (.ofNat 0), .nilslice] [(0, (1, .c (.int .i64 (.ofNat 5)))), (1, (1, .r 15))], none⟩, ⟨none, .store 2 (.r 2) (.r 16), none⟩]) 
 .ret)) (.seq
  (.ops [⟨some 18, .bin .eql (.r 6) (.c (.int .i64 (.ofNat 2))), none⟩, ⟨some 17, .mv (.r 18), none⟩]) 
 (.cond (.r 17) (.seq
  (.ops [⟨some 19, .loadN 53 (.c (.ptr 8 0)), none⟩, ⟨some 5, .alloc [.int .i64 (.ofNat 0), .int .i64 (.ofNat 0), .int .i64 (.ofNat 0), .int .i64 (.ofNat 0), .int .i64 (.ofNat 0), .int .i64 (.ofNat 0), .int .i64 (.ofNat 0), .int .i64 (.ofNat 0), .int .i64 (.ofNat 0), .int .i64 (.ofNat 0), .int .i64 (.ofNat 0), .int .i64 (.ofNat 0), .int .i64 (.ofNat 0), .int .i64 (.ofNat 0), .int .i64 (.ofNat 0), .int .i64 (.ofNat 0), .int .i64 (.ofNat 0), .int .i64 (.ofNat 0), .int .i64 (.ofNat 0), .int .i64 (.ofNat 0), .int .i64 (.ofNat 0), .int .i64 (.ofNat 0), .int .i64 (.ofNat 0), .int .i64 (.ofNat 0), .int .i64 (.ofNat 0), .int .i64 (.ofNat 0), .int .i64 (.ofNat 0), .int .i64 (.ofNat 0), .int .i64 (.ofNat 0), .int .i64 (.ofNat 0), .int .i64 (.ofNat 0), .int .i64 (.ofNat 0), .int .i64 (.ofNat 0), .int .i64 (.ofNat 0), .int .i64 (.ofNat 0), .int .i64 (.ofNat 0), .int .i64 (.ofNat 0), .int .i64 (.ofNat 0), .int .i64 (.ofNat 0), .int .i64 (.ofNat 0), .int .i64 (.ofNat 0), .int .i64 (.ofNat 0), .int .i64 (.ofNat 0), .int .i64 (.ofNat 0), .int .i64 (.ofNat 0), .int .i64 (.ofNat 0), .int .i64 (.ofNat 0), .int .i64 (.ofNat 0), .int .i64 (.ofNat 0), .int .i64 (.ofNat 0), .int .i64 (.ofNat 0), .int .i64 (.ofNat 0), .int .i64 (.ofNat 0)], none⟩, ⟨none, .store 53 (.r 5) (.r 19), none⟩]) 
 (.seq
  (.ops [⟨some 20, .sliceArr 53 1 (.r 5) none none none, none⟩, ⟨some 21, .build [.int .i64 (.ofNat 0), .nilslice] [(0, (1, .c (.int .i64 (.ofNat 6)))), (1, (1, .r 20))], none⟩, ⟨none, .store 2 (.r 2) (.r 21), none⟩]) 
 .ret)) .skip)))))))) 
 (.seq
  (.ops [⟨some 22, .build [.int .i64 (.ofNat 0), .nilslice] [], none⟩, ⟨none, .store 2 (.r 2) (.r 22), none⟩]) 
 .ret))⟩
def c167 : AF := ⟨7, [.cell 2 2 true], .seq
  (.ops [⟨some 2, .alloc [.int .i64 (.ofNat 0), .nilslice], none⟩]) 
 (.seq
  (.ops [⟨some 3, .mv (.r 0), none⟩, ⟨some 4, .build [.int .u8 (.ofNat 0), .int .i64 (.ofNat 0), .int .i64 (.ofNat 0)] [(0, (1, .r 3))], none⟩, ⟨some 5, .buildSlice 3 1 [.int .u8 (.ofNat 0), .int .i64 (.ofNat 0), .int .i64 (.ofNat 0)] [(0, (3, .r 4))], none⟩, ⟨some 6, .build [.int .i64 (.ofNat 0), .nilslice] [(1, (1, .r 5))], none⟩, ⟨none, .store 2 (.r 2) (.r 6), none⟩]) 
 .ret)⟩
def c168 : AF := ⟨91, [.cell 2 2 true, .reg 3], .seq
  (.ops [⟨some 1, .box 2 (.r 0), none⟩, ⟨some 2, .alloc [.int .i64 (.ofNat 0), .nilslice], none⟩, ⟨some 3, .mv (.c (.int .i64 (.ofNat 0))), none⟩]) 
 (.seq
  (.seq
  (.ops [⟨some 11, .loadN 2 (.r 1), none⟩, ⟨some 12, .call 190 [.r 11, .c (.int .i64 (.ofNat 15))], none⟩, ⟨some 13, .bin .neq (.r 12) (.c (.int .i64 (.ofNat 0))), none⟩]) 
 (.cond (.r 13) (.seq
  (.ops [⟨some 14, .build [.int .i64 (.ofNat 0), .nilslice] [], none⟩, ⟨none, .store 2 (.r 2) (.r 14), none⟩, ⟨some 3, .mv (.c (.int .i64 (.ofNat 1))), none⟩]) 
 .ret) .skip)) 
 (.seq
  (.multi [(0, ⟨some 15, .fieldAt 0 (.r 1), none⟩), (1, ⟨some 16, .load1 (.r 15), none⟩), (1, ⟨some 17, .loadN 2 (.r 1), none⟩), (4, ⟨some 18, .call 191 [.r 17], none⟩), (0, ⟨some 19, .build [.int .i64 (.ofNat 0), .nilslice] [(0, (1, .r 16)), (1, (1, .r 18))], none⟩), (2, ⟨some 4, .alloc [.int .i64 (.ofNat 0), .nilslice], none⟩), (5, ⟨none, .store 2 (.r 4) (.r 19), none⟩)] [(1, 3), (1, 5), (2, 5), (3, 5)]) 
 (.seq
  (.ops [⟨some 20, .fieldAt 1 (.r 1), none⟩, ⟨some 21, .load1 (.r 20), none⟩, ⟨some 22, .len .slice (.r 21), none⟩, ⟨some 23, .makeSlice 1 8 [.int .i64 (.ofNat 0)] (.r 22) (.r 22), none⟩, ⟨some 5, .mv (.r 23), none⟩]) 
 (.seq
  (.seq
  (.ops [⟨some 24, .fieldAt 1 (.r 1), none⟩, ⟨some 25, .load1 (.r 24), none⟩, ⟨some 26, .len .slice (.r 25), none⟩, ⟨some 27, .mv (.c (.int .i64 (.ofNat 0))), none⟩]) 
 (.block 0 (.loop (.seq
  (.ops [⟨some 28, .bin .lss (.r 27) (.r 26), none⟩]) 
 (.seq
  (.cond (.r 28) .skip (.exit 0)) 
 (.seq
  (.block 1 (.seq
  (.ops [⟨some 29, .mv (.r 27), none⟩, ⟨some 30, .indexSl 1 (.r 25) (.r 27), none⟩, ⟨some 31, .load1 (.r 30), none⟩, ⟨some 6, .mv (.r 29), none⟩, ⟨some 7, .mv (.r 31), none⟩]) 
 (.ops [⟨some 32, .mv (.r 5), none⟩, ⟨some 33, .mv (.r 6), none⟩, ⟨some 34, .mv (.r 7), none⟩, ⟨some 35, .mv (.r 7), none⟩, ⟨some 36, .un .neg (.r 35), none⟩, ⟨some 37, .maxmin true (.r 34) [.r 36], none⟩, ⟨some 38, .indexSl 1 (.r 32) (.r 33), none⟩, ⟨none, .store 1 (.r 38) (.r 37), none⟩]))) 
 (.ops [⟨some 39, .bin .add (.r 27) (.c (.int .i64 (.ofNat 1))), none⟩, ⟨some 27, .mv (.r 39), none⟩]))))))) 
 (.seq
  (.seq
  (.ops [⟨some 40, .fieldAt 1 (.r 4), none⟩, ⟨some 41, .load1 (.r 40), none⟩, ⟨some 42, .len .slice (.r 41), none⟩, ⟨some 43, .mv (.c (.int .i64 (.ofNat 0))), none⟩]) 
 (.block 2 (.loop (.seq
  (.ops [⟨some 44, .bin .lss (.r 43) (.r 42), none⟩]) 
 (.seq
  (.cond (.r 44) .skip (.exit 2)) 
 (.seq
  (.block 3 (.seq
  (.ops [⟨some 45, .mv (.r 43), none⟩, ⟨some 8, .mv (.r 45), none⟩]) 
 (.seq
  (.ops [⟨some 46, .fieldAt 1 (.r 4), none⟩, ⟨some 47, .load1 (.r 46), none⟩, ⟨some 48, .mv (.r 8), none⟩, ⟨some 49, .indexSl 3 (.r 47) (.r 48), none⟩, ⟨some 9, .mv (.r 49), none⟩]) 
 (.seq
  (.ops [⟨some 50, .mv (.r 5), none⟩, ⟨some 51, .mv (.r 9), none⟩, ⟨some 52, .nilCheck (.r 51), none⟩, ⟨some 53, .fieldAt 0 (.r 52), none⟩, ⟨some 54, .load1 (.r 53), none⟩, ⟨some 55, .indexSl 1 (.r 50) (.r 54), none⟩, ⟨some 56, .load1 (.r 55), none⟩, ⟨some 10, .mv (.r 56), none⟩]) 
 (.seq
  (.ops [⟨some 57, .mv (.r 5), none⟩, ⟨some 58, .mv (.r 9), none⟩, ⟨some 59, .nilCheck (.r 58), none⟩, ⟨some 60, .fieldAt 0 (.r 59), none⟩, ⟨some 61, .load1 (.r 60), none⟩, ⟨some 62, .indexSl 1 (.r 57) (.r 61), none⟩, ⟨some 63, .load1 (.r 62), none⟩, ⟨some 64, .bin .add (.r 63) (.c (.int .i64 (.ofNat 1))), none⟩, ⟨some 65, .indexSl 1 (.r 57) (.r 61), none⟩, ⟨none, .store 1 (.r 65) (.r 64), none⟩]) 
 (.seq
  (.ops [⟨some 66, .mv (.r 9), none⟩, ⟨some 67, .fieldAt 0 (.r 1), none⟩, ⟨some 68, .load1 (.r 67), none⟩, ⟨some 69, .mv (.r 10), none⟩, ⟨some 70, .toInt .u64 (.r 69), none⟩, ⟨some 71, .pcall 71 [.r 70], none⟩, ⟨some 72, .bin .sub (.r 68) (.r 71), none⟩, ⟨some 73, .bin .add (.r 72) (.c (.int .i64 (.ofNat 1))), none⟩, ⟨some 74, .nilCheck (.r 66), none⟩, ⟨some 75, .fieldAt 1 (.r 74), none⟩, ⟨none, .store 1 (.r 75) (.r 73), none⟩]) 
 (.ops [⟨some 76, .mv (.r 9), none⟩, ⟨some 77, .mv (.r 10), none⟩, ⟨some 78, .mv (.r 9), none⟩, ⟨some 79, .nilCheck (.r 78), none⟩, ⟨some 80, .fieldAt 1 (.r 79), none⟩, ⟨some 81, .load1 (.r 80), none⟩, ⟨some 82, .bin .shl (.r 77) (.r 81), none⟩, ⟨some 83, .fieldAt 1 (.r 4), none⟩, ⟨some 84, .load1 (.r 83), none⟩, ⟨some 85, .len .slice (.r 84), none⟩, ⟨some 86, .bin .sub (.r 82) (.r 85), none⟩, ⟨some 87, .nilCheck (.r 76), none⟩, ⟨some 88, .fieldAt 2 (.r 87), none⟩, ⟨none, .store 1 (.r 88) (.r 86), none⟩]))))))) 
 (.ops [⟨some 89, .bin .add (.r 43) (.c (.int .i64 (.ofNat 1))), none⟩, ⟨some 43, .mv (.r 89), none⟩]))))))) 
 (.seq
  (.ops [⟨some 90, .loadN 2 (.r 4), none⟩, ⟨none, .store 2 (.r 2) (.r 90), none⟩, ⟨some 3, .mv (.c (.int .i64 (.ofNat 0))), none⟩]) 
 .ret))))))⟩
def c169 : AF := ⟨129, [.cell 4 2 true, .reg 5], .seq
  (.ops [⟨some 4, .alloc [.int .i64 (.ofNat 0), .nilslice], none⟩, ⟨some 5, .mv (.c (.int .i64 (.ofNat 0))), none⟩]) 
 (.seq
  (.ops [⟨some 6, .mv (.c (.int .u64 (.ofNat 0))), none⟩]) 
 (.seq
  (.ops [⟨some 7, .mv (.c (.int .i64 (.ofNat 0))), none⟩, ⟨some 8, .mv (.c (.int .i64 (.ofNat 0))), none⟩]) 
 (.seq
  (.seq
  (.ops [⟨some 17, .mv (.r 0), none⟩, ⟨some 18, .len .slice (.r 17), none⟩, ⟨some 19, .mv (.c (.int .i64 (.ofNat 0))), none⟩]) 
 (.block 0 (.loop (.seq
  (.ops [⟨some 20, .bin .lss (.r 19) (.r 18), none⟩]) 
 (.seq
  (.cond (.r 20) .skip (.exit 0)) 
 (.seq
  (.block 1 (.seq
  (.ops [⟨some 21, .mv (.r 19), none⟩, ⟨some 22, .indexSl 1 (.r 17) (.r 19), none⟩, ⟨some 23, .load1 (.r 22), none⟩, ⟨some 9, .mv (.r 21), none⟩, ⟨some 10, .mv (.r 23), none⟩]) 
 (.seq
  (.ops [⟨some 24, .mv (.r 6), none⟩, ⟨some 25, .mv (.r 10), none⟩, ⟨some 26, .toInt .u64 (.r 25), none⟩, ⟨some 27, .bin .add (.r 24) (.r 26), none⟩, ⟨some 6, .mv (.r 27), none⟩]) 
 (.seq
  (.ops [⟨some 28, .mv (.r 10), none⟩, ⟨some 29, .bin .gtr (.r 28) (.c (.int .u32 (.ofNat 0))), none⟩]) 
 (.cond (.r 29) (.ops [⟨some 30, .mv (.r 7), none⟩, ⟨some 31, .bin .add (.r 30) (.c (.int .i64 (.ofNat 1))), none⟩, ⟨some 32, .mv (.r 9), none⟩, ⟨some 7, .mv (.r 31), none⟩, ⟨some 8, .mv (.r 32), none⟩]) .skip))))) 
 (.ops [⟨some 33, .bin .add (.r 19) (.c (.int .i64 (.ofNat 1))), none⟩, ⟨some 19, .mv (.r 33), none⟩]))))))) 
 (.seq
  (.seq
  (.ops [⟨some 34, .mv (.r 1), none⟩, ⟨some 35, .bin .lss (.r 34) (.c (.int .i64 (.ofNat 5))), none⟩, ⟨some 36, .mv (.r 35), none⟩, ⟨some 37, .mv (.r 1), some (36, false)⟩, ⟨some 38, .bin .gtr (.r 37) (.c (.int .i64 (.ofNat 15))), some (36, false)⟩, ⟨some 39, .pick (.r 36) (.c (.bool true)) (.r 38), none⟩, ⟨some 40, .mv (.r 39), none⟩, ⟨some 41, .mv (.r 0), some (40, false)⟩, ⟨some 42, .len .slice (.r 41), some (40, false)⟩, ⟨some 43, .bin .lss (.r 42) (.c (.int .i64 (.ofNat 1))), some (40, false)⟩, ⟨some 44, .pick (.r 40) (.c (.bool true)) (.r 43), none⟩, ⟨some 45, .mv (.r 44), none⟩, ⟨some 46, .mv (.r 0), some (45, false)⟩, ⟨some 47, .len .slice (.r 46), some (45, false)⟩, ⟨some 48, .bin .gtr (.r 47) (.c (.int .i64 (.ofNat 256))), some (45, false)⟩, ⟨some 49, .pick (.r 45) (.c (.bool true)) (.r 48), none⟩, ⟨some 50, .mv (.r 49), none⟩, ⟨some 51, .mv (.r 7), some (50, false)⟩, ⟨some 52, .bin .lss (.r 51) (.c (.int .i64 (.ofNat 2))), some (50, false)⟩, ⟨some 53, .pick (.r 50) (.c (.bool true)) (.r 52), none⟩, ⟨some 54, .mv (.r 53), none⟩, ⟨some 55, .mv (.r 7), some (54, false)⟩, ⟨some 56, .mv (.r 1), some (54, false)⟩, ⟨some 57, .bin .shl (.c (.int .i64 (.ofNat 1))) (.r 56), some (54, false)⟩, ⟨some 58, .bin .gtr (.r 55) (.r 57), some (54, false)⟩, ⟨some 59, .pick (.r 54) (.c (.bool true)) (.r 58), none⟩, ⟨some 60, .mv (.r 59), none⟩, ⟨some 61, .mv (.r 6), some (60, false)⟩, ⟨some 62, .bin .gtr (.r 61) (.c (.int .u64 (.ofNat 2147483647))), some (60, false)⟩, ⟨some 63, .pick (.r 60) (.c (.bool true)) (.r 62), none⟩]) 
 (.cond (.r 63) (.seq
  (.ops [⟨some 64, .build [.int .i64 (.ofNat 0), .nilslice] [], none⟩, ⟨none, .store 2 (.r 4) (.r 64), none⟩, ⟨some 5, .mv (.c (.int .i64 (.ofNat 1))), none⟩]) 
 .ret) .skip)) 
 (.seq
  (.ops [⟨some 65, .mv (.r 1), none⟩, ⟨some 66, .mv (.r 8), none⟩, ⟨some 67, .bin .add (.r 66) (.c (.int .i64 (.ofNat 1))), none⟩, ⟨some 68, .makeSlice 1 8 [.int .i64 (.ofNat 0)] (.r 67) (.r 67), none⟩, ⟨some 69, .build [.int .i64 (.ofNat 0), .nilslice] [(0, (1, .r 65)), (1, (1, .r 68))], none⟩, ⟨some 11, .alloc [.int .i64 (.ofNat 0), .nilslice], none⟩, ⟨none, .store 2 (.r 11) (.r 69), none⟩]) 
 (.seq
  (.ops [⟨some 70, .mv (.r 1), none⟩, ⟨some 71, .bin .shl (.c (.int .i64 (.ofNat 1))) (.r 70), none⟩, ⟨some 72, .mv (.r 7), none⟩, ⟨some 73, .bin .sub (.r 71) (.r 72), none⟩, ⟨some 12, .mv (.r 73), none⟩]) 
 (.seq
  (.ops [⟨some 74, .mv (.r 8), none⟩, ⟨some 13, .mv (.r 74), none⟩]) 
 (.seq
  (.seq
  (.ops [⟨some 75, .mv (.r 0), none⟩, ⟨some 76, .mv (.r 8), none⟩, ⟨some 77, .bin .add (.r 76) (.c (.int .i64 (.ofNat 1))), none⟩, ⟨some 78, .sliceSl 1 false (.r 75) none (some (.r 77)) none, none⟩, ⟨some 79, .len .slice (.r 78), none⟩, ⟨some 80, .mv (.c (.int .i64 (.ofNat 0))), none⟩]) 
 (.block 2 (.loop (.seq
  (.ops [⟨some 81, .bin .lss (.r 80) (.r 79), none⟩]) 
 (.seq
  (.cond (.r 81) .skip (.exit 2)) 
 (.seq
  (.block 3 (.seq
  (.ops [⟨some 82, .mv (.r 80), none⟩, ⟨some 83, .indexSl 1 (.r 78) (.r 80), none⟩, ⟨some 84, .load1 (.r 83), none⟩, ⟨some 14, .mv (.r 82), none⟩, ⟨some 15, .mv (.r 84), none⟩]) 
 (.seq
  (.seq
  (.ops [⟨some 85, .mv (.r 15), none⟩, ⟨some 86, .bin .eql (.r 85) (.c (.int .u32 (.ofNat 0))), none⟩]) 
 (.cond (.r 86) (.exit 3) .skip)) 
 (.seq
  (.ops [⟨some 87, .mv (.r 15), none⟩, ⟨some 88, .toInt .u64 (.r 87), none⟩, ⟨some 89, .mv (.r 1), none⟩, ⟨some 90, .bin .shl (.c (.int .i64 (.ofNat 1))) (.r 89), none⟩, ⟨some 91, .mv (.r 7), none⟩, ⟨some 92, .bin .sub (.r 90) (.r 91), none⟩, ⟨some 93, .toInt .u64 (.r 92), none⟩, ⟨some 94, .bin .mul (.r 88) (.r 93), none⟩, ⟨some 95, .mv (.r 6), none⟩, ⟨some 96, .bin .quo (.r 94) (.r 95), none⟩, ⟨some 97, .toInt .i64 (.r 96), none⟩, ⟨some 16, .mv (.r 97), none⟩]) 
 (.seq
  (.ops [⟨some 98, .fieldAt 1 (.r 11), none⟩, ⟨some 99, .load1 (.r 98), none⟩, ⟨some 100, .mv (.r 14), none⟩, ⟨some 101, .mv (.r 16), none⟩, ⟨some 102, .bin .add (.c (.int .i64 (.ofNat 1))) (.r 101), none⟩, ⟨some 103, .indexSl 1 (.r 99) (.r 100), none⟩, ⟨none, .store 1 (.r 103) (.r 102), none⟩]) 
 (.seq
  (.ops [⟨some 104, .mv (.r 12), none⟩, ⟨some 105, .mv (.r 16), none⟩, ⟨some 106, .bin .sub (.r 104) (.r 105), none⟩, ⟨some 12, .mv (.r 106), none⟩]) 
 (.seq
  (.ops [⟨some 107, .fieldAt 1 (.r 11), none⟩, ⟨some 108, .load1 (.r 107), none⟩, ⟨some 109, .mv (.r 14), none⟩, ⟨some 110, .indexSl 1 (.r 108) (.r 109), none⟩, ⟨some 111, .load1 (.r 110), none⟩, ⟨some 112, .fieldAt 1 (.r 11), none⟩, ⟨some 113, .load1 (.r 112), none⟩, ⟨some 114, .mv (.r 13), none⟩, ⟨some 115, .indexSl 1 (.r 113) (.r 114), none⟩, ⟨some 116, .load1 (.r 115), none⟩, ⟨some 117, .bin .gtr (.r 111) (.r 116), none⟩]) 
 (.cond (.r 117) (.ops [⟨some 118, .mv (.r 14), none⟩, ⟨some 13, .mv (.r 118), none⟩]) .skip)))))))) 
 (.ops [⟨some 119, .bin .add (.r 80) (.c (.int .i64 (.ofNat 1))), none⟩, ⟨some 80, .mv (.r 119), none⟩]))))))) 
 (.seq
  (.ops [⟨some 120, .fieldAt 1 (.r 11), none⟩, ⟨some 121, .load1 (.r 120), none⟩, ⟨some 122, .mv (.r 13), none⟩, ⟨some 123, .indexSl 1 (.r 121) (.r 122), none⟩, ⟨some 124, .load1 (.r 123), none⟩, ⟨some 125, .mv (.r 12), none⟩, ⟨some 126, .bin .add (.r 124) (.r 125), none⟩, ⟨some 127, .indexSl 1 (.r 121) (.r 122), none⟩, ⟨none, .store 1 (.r 127) (.r 126), none⟩]) 
 (.seq
  (.ops [⟨some 128, .loadN 2 (.r 11), none⟩, ⟨none, .store 2 (.r 4) (.r 128), none⟩, ⟨some 5, .mv (.c (.int .i64 (.ofNat 0))), none⟩]) 
 .ret))))))))))⟩
def c170 : AF := ⟨9, [.reg 2], .seq
  (.ops [⟨some 2, .mv (.c (.int .i64 (.ofNat 0))), none⟩]) 
 (.seq
  (.seq
  (.ops [⟨some 3, .mv (.r 0), none⟩]) 
 (.block 0 (.seq
  (.seq
  (.ops [⟨some 5, .bin .eql (.r 3) (.c (.int .i64 (.ofNat 0))), none⟩, ⟨some 4, .mv (.r 5), none⟩]) 
 (.cond (.r 4) .skip (.ops [⟨some 6, .bin .eql (.r 3) (.c (.int .i64 (.ofNat 2))), none⟩, ⟨some 4, .mv (.r 6), none⟩]))) 
 (.cond (.r 4) (.seq
  (.ops [⟨some 2, .mv (.c (.int .i64 (.ofNat 9))), none⟩]) 
 .ret) (.seq
  (.ops [⟨some 8, .bin .eql (.r 3) (.c (.int .i64 (.ofNat 1))), none⟩, ⟨some 7, .mv (.r 8), none⟩]) 
 (.cond (.r 7) (.seq
  (.ops [⟨some 2, .mv (.c (.int .i64 (.ofNat 8))), none⟩]) 
 .ret) .skip)))))) 
 (.seq
  (.ops [⟨some 2, .mv (.c (.int .i64 (.ofNat 0))), none⟩]) 
 .ret))⟩
def c171 : AF := ⟨108, [.reg 2, .reg 3], .seq
  (.ops [⟨some 1, .box 2 (.r 0), none⟩, ⟨some 2, .mv (.c .nilslice), none⟩, ⟨some 3, .mv (.c (.int .i64 (.ofNat 0))), none⟩]) 
 (.seq
  (.seq
  (.ops [⟨some 12, .loadN 2 (.r 1), none⟩, ⟨some 13, .call 192 [.r 12], none⟩, ⟨some 14, .un .not (.r 13), none⟩]) 
 (.cond (.r 14) (.seq
  (.ops [⟨some 2, .mv (.c .nilslice), none⟩, ⟨some 3, .mv (.c (.int .i64 (.ofNat 1))), none⟩]) 
 .ret) .skip)) 
 (.seq
  (.ops [⟨some 15, .call 172 [], none⟩, ⟨some 4, .mv (.r 15), none⟩]) 
 (.seq
  (.ops [⟨some 16, .mv (.r 4), none⟩, ⟨some 17, .fieldAt 0 (.r 1), none⟩, ⟨some 18, .load1 (.r 17), none⟩, ⟨some 19, .bin .sub (.r 18) (.c (.int .i64 (.ofNat 5))), none⟩, ⟨some 20, .toInt .u64 (.r 19), none⟩, ⟨some 21, .call 175 [.r 16, .r 20, .c (.int .i64 (.ofNat 4))], none⟩]) 
 (.seq
  (.ops [⟨some 22, .fieldAt 0 (.r 1), none⟩, ⟨some 23, .load1 (.r 22), none⟩, ⟨some 24, .bin .shl (.c (.int .i64 (.ofNat 1))) (.r 23), none⟩, ⟨some 5, .mv (.r 24), none⟩]) 
 (.seq
  (.seq
  (.ops [⟨some 6, .mv (.c (.int .i64 (.ofNat 0))), none⟩]) 
 (.block 0 (.loop (.seq
  (.seq
  (.ops [⟨some 25, .mv (.r 6), none⟩, ⟨some 26, .fieldAt 1 (.r 1), none⟩, ⟨some 27, .load1 (.r 26), none⟩, ⟨some 28, .len .slice (.r 27), none⟩, ⟨some 29, .bin .lss (.r 25) (.r 28), none⟩]) 
 (.cond (.r 29) .skip (.exit 0))) 
 (.seq
  (.block 1 (.seq
  (.ops [⟨some 32, .fieldAt 1 (.r 1), none⟩, ⟨some 33, .load1 (.r 32), none⟩, ⟨some 34, .mv (.r 6), none⟩, ⟨some 35, .indexSl 1 (.r 33) (.r 34), none⟩, ⟨some 36, .load1 (.r 35), none⟩, ⟨some 7, .mv (.r 36), none⟩]) 
 (.seq
  (.ops [⟨some 37, .mv (.r 5), none⟩, ⟨some 38, .bin .add (.r 37) (.c (.int .i64 (.ofNat 1))), none⟩, ⟨some 39, .toInt .u64 (.r 38), none⟩, ⟨some 40, .call 71 [.r 39], none⟩, ⟨some 8, .mv (.r 40), none⟩]) 
 (.seq
  (.ops [⟨some 41, .mv (.r 8), none⟩, ⟨some 42, .bin .shl (.c (.int .i64 (.ofNat 1))) (.r 41), none⟩, ⟨some 43, .bin .sub (.r 42) (.c (.int .i64 (.ofNat 2))), none⟩, ⟨some 44, .mv (.r 5), none⟩, ⟨some 45, .bin .sub (.r 43) (.r 44), none⟩, ⟨some 9, .mv (.r 45), none⟩]) 
 (.seq
  (.ops [⟨some 46, .mv (.r 7), none⟩, ⟨some 47, .bin .add (.r 46) (.c (.int .i64 (.ofNat 1))), none⟩, ⟨some 10, .mv (.r 47), none⟩]) 
 (.seq
  (.block 2 (.seq
  (.ops [⟨some 56, .mv (.r 10), none⟩, ⟨some 57, .mv (.r 9), none⟩, ⟨some 58, .bin .lss (.r 56) (.r 57), none⟩, ⟨some 55, .mv (.r 58), none⟩]) 
 (.cond (.r 55) (.ops [⟨some 59, .mv (.r 4), none⟩, ⟨some 60, .mv (.r 10), none⟩, ⟨some 61, .toInt .u64 (.r 60), none⟩, ⟨some 62, .mv (.r 8), none⟩, ⟨some 63, .bin .sub (.r 62) (.c (.int .i64 (.ofNat 1))), none⟩, ⟨some 64, .call 175 [.r 59, .r 61, .r 63], none⟩]) (.seq
  (.ops [⟨some 66, .mv (.r 10), none⟩, ⟨some 67, .mv (.r 8), none⟩, ⟨some 68, .bin .sub (.r 67) (.c (.int .i64 (.ofNat 1))), none⟩, ⟨some 69, .bin .shl (.c (.int .i64 (.ofNat 1))) (.r 68), none⟩, ⟨some 70, .bin .lss (.r 66) (.r 69), none⟩, ⟨some 65, .mv (.r 70), none⟩]) 
 (.cond (.r 65) (.ops [⟨some 71, .mv (.r 4), none⟩, ⟨some 72, .mv (.r 10), none⟩, ⟨some 73, .toInt .u64 (.r 72), none⟩, ⟨some 74, .mv (.r 8), none⟩, ⟨some 75, .call 175 [.r 71, .r 73, .r 74], none⟩]) (.ops [⟨some 48, .mv (.r 4), none⟩, ⟨some 49, .mv (.r 10), none⟩, ⟨some 50, .mv (.r 9), none⟩, ⟨some 51, .bin .add (.r 49) (.r 50), none⟩, ⟨some 52, .toInt .u64 (.r 51), none⟩, ⟨some 53, .mv (.r 8), none⟩, ⟨some 54, .call 175 [.r 48, .r 52, .r 53], none⟩])))))) 
 (.seq
  (.ops [⟨some 76, .mv (.r 5), none⟩, ⟨some 77, .mv (.r 7), none⟩, ⟨some 78, .call 193 [.r 77], none⟩, ⟨some 79, .bin .sub (.r 76) (.r 78), none⟩, ⟨some 5, .mv (.r 79), none⟩]) 
 (.seq
  (.seq
  (.ops [⟨some 80, .mv (.r 7), none⟩, ⟨some 81, .bin .neq (.r 80) (.c (.int .i64 (.ofNat 0))), none⟩]) 
 (.cond (.r 81) (.exit 1) .skip)) 
 (.seq
  (.ops [⟨some 11, .mv (.c (.int .i64 (.ofNat 0))), none⟩]) 
 (.seq
  (.block 3 (.loop (.seq
  (.seq
  (.ops [⟨some 82, .fieldAt 1 (.r 1), none⟩, ⟨some 83, .load1 (.r 82), none⟩, ⟨some 84, .mv (.r 6), none⟩, ⟨some 85, .bin .add (.r 84) (.c (.int .i64 (.ofNat 1))), none⟩, ⟨some 86, .mv (.r 11), none⟩, ⟨some 87, .bin .add (.r 85) (.r 86), none⟩, ⟨some 88, .indexSl 1 (.r 83) (.r 87), none⟩, ⟨some 89, .load1 (.r 88), none⟩, ⟨some 90, .bin .eql (.r 89) (.c (.int .i64 (.ofNat 0))), none⟩]) 
 (.cond (.r 90) .skip (.exit 3))) 
 (.block 4 (.ops [⟨some 91, .mv (.r 11), none⟩, ⟨some 92, .bin .add (.r 91) (.c (.int .i64 (.ofNat 1))), none⟩, ⟨some 11, .mv (.r 92), none⟩]))))) 
 (.seq
  (.ops [⟨some 93, .mv (.r 6), none⟩, ⟨some 94, .mv (.r 11), none⟩, ⟨some 95, .bin .add (.r 93) (.r 94), none⟩, ⟨some 6, .mv (.r 95), none⟩]) 
 (.seq
  (.block 5 (.loop (.seq
  (.seq
  (.ops [⟨some 96, .mv (.r 11), none⟩, ⟨some 97, .bin .geq (.r 96) (.c (.int .i64 (.ofNat 3))), none⟩]) 
 (.cond (.r 97) .skip (.exit 5))) 
 (.seq
  (.block 6 (.ops [⟨some 100, .mv (.r 4), none⟩, ⟨some 101, .call 175 [.r 100, .c (.int .u64 (.ofNat 3)), .c (.int .i64 (.ofNat 2))], none⟩])) 
 (.ops [⟨some 98, .mv (.r 11), none⟩, ⟨some 99, .bin .sub (.r 98) (.c (.int .i64 (.ofNat 3))), none⟩, ⟨some 11, .mv (.r 99), none⟩]))))) 
 (.ops [⟨some 102, .mv (.r 4), none⟩, ⟨some 103, .mv (.r 11), none⟩, ⟨some 104, .toInt .u64 (.r 103), none⟩, ⟨some 105, .call 175 [.r 102, .r 104, .c (.int .i64 (.ofNat 2))], none⟩]))))))))))))) 
 (.ops [⟨some 30, .mv (.r 6), none⟩, ⟨some 31, .bin .add (.r 30) (.c (.int .i64 (.ofNat 1))), none⟩, ⟨some 6, .mv (.r 31), none⟩])))))) 
 (.seq
  (.ops [⟨some 106, .mv (.r 4), none⟩, ⟨some 107, .call 194 [.r 106], none⟩, ⟨some 2, .mv (.r 107), none⟩, ⟨some 3, .mv (.c (.int .i64 (.ofNat 0))), none⟩]) 
 .ret))))))⟩
def c172 : AF := ⟨3, [.reg 0], .seq
  (.ops [⟨some 0, .mv (.c .nilptr), none⟩]) 
 (.seq
  (.ops [⟨some 1, .build [.nilslice, .int .i64 (.ofNat 0)] [], none⟩, ⟨some 2, .box 2 (.r 1), none⟩, ⟨some 0, .mv (.r 2), none⟩]) 
 .ret)⟩
def c173 : AF := ⟨22, [.reg 4, .reg 5], .seq
  (.ops [⟨some 2, .box 2 (.r 0), none⟩, ⟨some 4, .mv (.c (.int .i64 (.ofNat 0))), none⟩, ⟨some 5, .mv (.c (.int .i64 (.ofNat 0))), none⟩]) 
 (.seq
  (.seq
  (.ops [⟨some 8, .fieldAt 1 (.r 2), none⟩, ⟨some 9, .load1 (.r 8), none⟩, ⟨some 10, .len .slice (.r 9), none⟩, ⟨some 11, .mv (.c (.int .i64 (.ofNat 0))), none⟩]) 
 (.block 0 (.loop (.seq
  (.ops [⟨some 12, .bin .lss (.r 11) (.r 10), none⟩]) 
 (.seq
  (.cond (.r 12) .skip (.exit 0)) 
 (.seq
  (.block 1 (.seq
  (.ops [⟨some 13, .mv (.r 11), none⟩, ⟨some 14, .indexSl 3 (.r 9) (.r 11), none⟩, ⟨some 15, .loadN 3 (.r 14), none⟩, ⟨some 7, .alloc [.int .u8 (.ofNat 0), .int .i64 (.ofNat 0), .int .i64 (.ofNat 0)], none⟩, ⟨some 6, .mv (.r 13), none⟩, ⟨none, .store 3 (.r 7) (.r 15), none⟩]) 
 (.seq
  (.ops [⟨some 16, .fieldAt 0 (.r 7), none⟩, ⟨some 17, .load1 (.r 16), none⟩, ⟨some 18, .mv (.r 1), none⟩, ⟨some 19, .bin .eql (.r 17) (.r 18), none⟩]) 
 (.cond (.r 19) (.seq
  (.ops [⟨some 20, .mv (.r 6), none⟩, ⟨some 4, .mv (.r 20), none⟩, ⟨some 5, .mv (.c (.int .i64 (.ofNat 0))), none⟩]) 
 .ret) .skip)))) 
 (.ops [⟨some 21, .bin .add (.r 11) (.c (.int .i64 (.ofNat 1))), none⟩, ⟨some 11, .mv (.r 21), none⟩]))))))) 
 (.seq
  (.ops [⟨some 4, .mv (.c (.int .i64 (.ofNat 0))), none⟩, ⟨some 5, .mv (.c (.int .i64 (.ofNat 21))), none⟩]) 
 .ret))⟩
def c174 : AF := ⟨55, [.reg 6, .reg 7, .reg 8, .reg 9], .seq
  (.ops [⟨some 3, .box 2 (.r 0), none⟩, ⟨some 6, .mv (.c (.int .i64 (.ofNat 0))), none⟩, ⟨some 7, .mv (.c (.int .u64 (.ofNat 0))), none⟩, ⟨some 8, .mv (.c (.int .i64 (.ofNat 0))), none⟩, ⟨some 9, .mv (.c (.int .i64 (.ofNat 0))), none⟩]) 
 (.seq
  (.seq
  (.ops [⟨some 13, .mv (.r 1), none⟩, ⟨some 14, .bin .lss (.r 13) (.c (.int .i64 (.ofNat 0))), none⟩, ⟨some 15, .mv (.r 14), none⟩, ⟨some 16, .mv (.r 1), some (15, false)⟩, ⟨some 17, .fieldAt 1 (.r 3), some (15, false)⟩, ⟨some 18, .load1 (.r 17), some (15, false)⟩, ⟨some 19, .len .slice (.r 18), some (15, false)⟩, ⟨some 20, .bin .geq (.r 16) (.r 19), some (15, false)⟩, ⟨some 21, .pick (.r 15) (.c (.bool true)) (.r 20), none⟩]) 
 (.cond (.r 21) (.seq
  (.ops [⟨some 6, .mv (.c (.int .i64 (.ofNat 0))), none⟩, ⟨some 7, .mv (.c (.int .u64 (.ofNat 0))), none⟩, ⟨some 8, .mv (.c (.int .i64 (.ofNat 0))), none⟩, ⟨some 9, .mv (.c (.int .i64 (.ofNat 1))), none⟩]) 
 .ret) .skip)) 
 (.seq
  (.seq
  (.ops [⟨some 22, .fieldAt 1 (.r 3), none⟩, ⟨some 23, .load1 (.r 22), none⟩, ⟨some 24, .len .slice (.r 23), none⟩, ⟨some 25, .mv (.c (.int .i64 (.ofNat 0))), none⟩]) 
 (.block 0 (.loop (.seq
  (.ops [⟨some 26, .bin .lss (.r 25) (.r 24), none⟩]) 
 (.seq
  (.cond (.r 26) .skip (.exit 0)) 
 (.seq
  (.block 1 (.seq
  (.ops [⟨some 27, .mv (.r 25), none⟩, ⟨some 28, .indexSl 3 (.r 23) (.r 25), none⟩, ⟨some 29, .loadN 3 (.r 28), none⟩, ⟨some 11, .alloc [.int .u8 (.ofNat 0), .int .i64 (.ofNat 0), .int .i64 (.ofNat 0)], none⟩, ⟨some 10, .mv (.r 27), none⟩, ⟨none, .store 3 (.r 11) (.r 29), none⟩]) 
 (.seq
  (.ops [⟨some 30, .mv (.r 1), none⟩, ⟨some 31, .fieldAt 2 (.r 11), none⟩, ⟨some 32, .load1 (.r 31), none⟩, ⟨some 33, .bin .sub (.r 30) (.r 32), none⟩, ⟨some 12, .mv (.r 33), none⟩]) 
 (.seq
  (.ops [⟨some 34, .fieldAt 0 (.r 11), none⟩, ⟨some 35, .load1 (.r 34), none⟩, ⟨some 36, .mv (.r 2), none⟩, ⟨some 37, .bin .eql (.r 35) (.r 36), none⟩, ⟨some 38, .mv (.r 37), none⟩, ⟨some 39, .mv (.r 12), some (38, true)⟩, ⟨some 40, .bin .geq (.r 39) (.c (.int .i64 (.ofNat 0))), some (38, true)⟩, ⟨some 41, .pick (.r 38) (.r 40) (.c (.bool false)), none⟩, ⟨some 42, .mv (.r 41), none⟩, ⟨some 43, .mv (.r 12), some (42, true)⟩, ⟨some 44, .fieldAt 1 (.r 11), some (42, true)⟩, ⟨some 45, .load1 (.r 44), some (42, true)⟩, ⟨some 46, .bin .shl (.c (.int .i64 (.ofNat 1))) (.r 45), some (42, true)⟩, ⟨some 47, .bin .lss (.r 43) (.r 46), some (42, true)⟩, ⟨some 48, .pick (.r 42) (.r 47) (.c (.bool false)), none⟩]) 
 (.cond (.r 48) (.seq
  (.ops [⟨some 49, .mv (.r 10), none⟩, ⟨some 50, .mv (.r 12), none⟩, ⟨some 51, .toInt .u64 (.r 50), none⟩, ⟨some 52, .fieldAt 1 (.r 11), none⟩, ⟨some 53, .load1 (.r 52), none⟩, ⟨some 6, .mv (.r 49), none⟩, ⟨some 7, .mv (.r 51), none⟩, ⟨some 8, .mv (.r 53), none⟩, ⟨some 9, .mv (.c (.int .i64 (.ofNat 0))), none⟩]) 
 .ret) .skip))))) 
 (.ops [⟨some 54, .bin .add (.r 25) (.c (.int .i64 (.ofNat 1))), none⟩, ⟨some 25, .mv (.r 54), none⟩]))))))) 
 (.seq
  (.ops [⟨some 6, .mv (.c (.int .i64 (.ofNat 0))), none⟩, ⟨some 7, .mv (.c (.int .u64 (.ofNat 0))), none⟩, ⟨some 8, .mv (.c (.int .i64 (.ofNat 0))), none⟩, ⟨some 9, .mv (.c (.int .i64 (.ofNat 21))), none⟩]) 
 .ret)))⟩
def c175 : AF := ⟨69, [], .seq
  (.seq
  (.ops [⟨some 7, .mv (.r 0), none⟩, ⟨some 8, .eqnil false 0 (.r 7) (.c .nilptr), none⟩, ⟨some 9, .mv (.r 8), none⟩, ⟨some 10, .mv (.r 2), some (9, false)⟩, ⟨some 11, .bin .lss (.r 10) (.c (.int .i64 (.ofNat 1))), some (9, false)⟩, ⟨some 12, .pick (.r 9) (.c (.bool true)) (.r 11), none⟩, ⟨some 13, .mv (.r 12), none⟩, ⟨some 14, .mv (.r 2), some (13, false)⟩, ⟨some 15, .bin .gtr (.r 14) (.c (.int .i64 (.ofNat 56))), some (13, false)⟩, ⟨some 16, .pick (.r 13) (.c (.bool true)) (.r 15), none⟩]) 
 (.cond (.r 16) .ret .skip)) 
 (.seq
  (.ops [⟨some 17, .mv (.r 2), none⟩, ⟨some 18, .mv (.c (.int .i64 (.ofNat 0))), none⟩]) 
 (.block 0 (.loop (.seq
  (.ops [⟨some 19, .bin .lss (.r 18) (.r 17), none⟩]) 
 (.seq
  (.cond (.r 19) .skip (.exit 0)) 
 (.seq
  (.block 1 (.seq
  (.ops [⟨some 20, .mv (.r 18), none⟩, ⟨some 6, .mv (.r 20), none⟩]) 
 (.seq
  (.seq
  (.ops [⟨some 21, .mv (.r 0), none⟩, ⟨some 22, .nilCheck (.r 21), none⟩, ⟨some 23, .fieldAt 1 (.r 22), none⟩, ⟨some 24, .load1 (.r 23), none⟩, ⟨some 25, .bin .rem (.r 24) (.c (.int .i64 (.ofNat 8))), none⟩, ⟨some 26, .bin .eql (.r 25) (.c (.int .i64 (.ofNat 0))), none⟩]) 
 (.cond (.r 26) (.ops [⟨some 27, .mv (.r 0), none⟩, ⟨some 28, .mv (.r 0), none⟩, ⟨some 29, .nilCheck (.r 28), none⟩, ⟨some 30, .fieldAt 0 (.r 29), none⟩, ⟨some 31, .load1 (.r 30), none⟩, ⟨some 32, .buildSlice 1 1 [.int .u8 (.ofNat 0)] [(0, (1, .c (.int .u8 (.ofNat 0))))], none⟩, ⟨some 33, .append 1 1 (.r 31) (.r 32), none⟩, ⟨some 34, .nilCheck (.r 27), none⟩, ⟨some 35, .fieldAt 0 (.r 34), none⟩, ⟨none, .store 1 (.r 35) (.r 33), none⟩]) .skip)) 
 (.seq
  (.ops [⟨some 36, .mv (.r 0), none⟩, ⟨some 37, .nilCheck (.r 36), none⟩, ⟨some 38, .fieldAt 0 (.r 37), none⟩, ⟨some 39, .load1 (.r 38), none⟩, ⟨some 40, .mv (.r 0), none⟩, ⟨some 41, .nilCheck (.r 40), none⟩, ⟨some 42, .fieldAt 1 (.r 41), none⟩, ⟨some 43, .load1 (.r 42), none⟩, ⟨some 44, .bin .quo (.r 43) (.c (.int .i64 (.ofNat 8))), none⟩, ⟨some 45, .indexSl 1 (.r 39) (.r 44), none⟩, ⟨some 46, .load1 (.r 45), none⟩, ⟨some 47, .mv (.r 1), none⟩, ⟨some 48, .mv (.r 6), none⟩, ⟨some 49, .toInt .u64 (.r 48), none⟩, ⟨some 50, .bin .shr (.r 47) (.r 49), none⟩, ⟨some 51, .bin .and (.r 50) (.c (.int .u64 (.ofNat 1))), none⟩, ⟨some 52, .toInt .u8 (.r 51), none⟩, ⟨some 53, .mv (.r 0), none⟩, ⟨some 54, .nilCheck (.r 53), none⟩, ⟨some 55, .fieldAt 1 (.r 54), none⟩, ⟨some 56, .load1 (.r 55), none⟩, ⟨some 57, .bin .rem (.r 56) (.c (.int .i64 (.ofNat 8))), none⟩, ⟨some 58, .bin .shl (.r 52) (.r 57), none⟩, ⟨some 59, .bin .or (.r 46) (.r 58), none⟩, ⟨some 60, .indexSl 1 (.r 39) (.r 44), none⟩, ⟨none, .store 1 (.r 60) (.r 59), none⟩]) 
 (.ops [⟨some 61, .mv (.r 0), none⟩, ⟨some 62, .nilCheck (.r 61), none⟩, ⟨some 63, .fieldAt 1 (.r 62), none⟩, ⟨some 64, .load1 (.r 63), none⟩, ⟨some 65, .bin .add (.r 64) (.c (.int .i64 (.ofNat 1))), none⟩, ⟨some 66, .nilCheck (.r 61), none⟩, ⟨some 67, .fieldAt 1 (.r 66), none⟩, ⟨none, .store 1 (.r 67) (.r 65), none⟩]))))) 
 (.ops [⟨some 68, .bin .add (.r 18) (.c (.int .i64 (.ofNat 1))), none⟩, ⟨some 18, .mv (.r 68), none⟩])))))))⟩
def c176 : AF := ⟨71, [.reg 4, .reg 5, .reg 6], .seq
  (.ops [⟨some 4, .mv (.c (.int .u32 (.ofNat 0))), none⟩, ⟨some 5, .mv (.c (.int .i64 (.ofNat 0))), none⟩, ⟨some 6, .mv (.c (.int .i64 (.ofNat 0))), none⟩]) 
 (.seq
  (.seq
  (.ops [⟨some 13, .mv (.r 0), none⟩, ⟨some 14, .call 165 [.r 13], none⟩, ⟨some 7, .mv (.r 14), none⟩]) 
 (.block 0 (.seq
  (.ops [⟨some 16, .mv (.r 7), none⟩, ⟨some 17, .bin .lss (.r 16) (.c (.int .i64 (.ofNat 0))), none⟩, ⟨some 15, .mv (.r 17), none⟩]) 
 (.cond (.r 15) (.seq
  (.ops [⟨some 4, .mv (.c (.int .u32 (.ofNat 0))), none⟩, ⟨some 5, .mv (.c (.int .i64 (.ofNat 0))), none⟩, ⟨some 6, .mv (.c (.int .i64 (.ofNat 1))), none⟩]) 
 .ret) (.seq
  (.ops [⟨some 19, .mv (.r 1), none⟩, ⟨some 20, .bin .lss (.r 19) (.c (.int .i64 (.ofNat 0))), none⟩, ⟨some 21, .mv (.r 20), none⟩, ⟨some 22, .mv (.r 1), some (21, false)⟩, ⟨some 23, .mv (.r 7), some (21, false)⟩, ⟨some 24, .bin .gtr (.r 22) (.r 23), some (21, false)⟩, ⟨some 25, .pick (.r 21) (.c (.bool true)) (.r 24), none⟩, ⟨some 18, .mv (.r 25), none⟩]) 
 (.cond (.r 18) (.seq
  (.ops [⟨some 4, .mv (.c (.int .u32 (.ofNat 0))), none⟩, ⟨some 5, .mv (.c (.int .i64 (.ofNat 0))), none⟩, ⟨some 6, .mv (.c (.int .i64 (.ofNat 17))), none⟩]) 
 .ret) (.seq
  (.ops [⟨some 27, .mv (.r 0), none⟩, ⟨some 28, .bin .eql (.r 27) (.c (.int .i64 (.ofNat 1))), none⟩, ⟨some 26, .mv (.r 28), none⟩]) 
 (.cond (.r 26) (.seq
  (.ops [⟨some 29, .mv (.r 1), none⟩, ⟨some 30, .bin .shl (.c (.int .u32 (.ofNat 1))) (.r 29), none⟩, ⟨some 31, .mv (.r 1), none⟩, ⟨some 4, .mv (.r 30), none⟩, ⟨some 5, .mv (.r 31), none⟩, ⟨some 6, .mv (.c (.int .i64 (.ofNat 0))), none⟩]) 
 .ret) .skip)))))))) 
 (.seq
  (.ops [⟨some 33, .mv (.r 0), none⟩, ⟨some 34, .call 189 [.r 33], none⟩, ⟨some 32, .mv (.r 34), none⟩, ⟨some 35, .extract 0 (.r 32), none⟩, ⟨some 36, .extract 1 (.r 32), none⟩, ⟨some 37, .extract 2 (.r 32), none⟩, ⟨some 8, .mv (.r 35), none⟩, ⟨some 9, .mv (.r 36), none⟩, ⟨some 10, .mv (.r 37), none⟩]) 
 (.seq
  (.seq
  (.ops [⟨some 38, .mv (.r 1), none⟩, ⟨some 39, .mv (.r 8), none⟩, ⟨some 40, .bin .lss (.r 38) (.r 39), none⟩]) 
 (.cond (.r 40) (.seq
  (.ops [⟨some 41, .mv (.r 9), none⟩, ⟨some 42, .mv (.r 1), none⟩, ⟨some 43, .toInt .u32 (.r 42), none⟩, ⟨some 44, .bin .add (.r 41) (.r 43), none⟩, ⟨some 4, .mv (.r 44), none⟩, ⟨some 5, .mv (.c (.int .i64 (.ofNat 0))), none⟩, ⟨some 6, .mv (.c (.int .i64 (.ofNat 0))), none⟩]) 
 .ret) .skip)) 
 (.seq
  (.ops [⟨some 45, .mv (.r 9), none⟩, ⟨some 46, .mv (.r 8), none⟩, ⟨some 47, .toInt .u32 (.r 46), none⟩, ⟨some 48, .bin .add (.r 45) (.r 47), none⟩, ⟨some 9, .mv (.r 48), none⟩]) 
 (.seq
  (.seq
  (.ops [⟨some 49, .mv (.r 10), none⟩, ⟨some 50, .mv (.r 1), none⟩, ⟨some 51, .mv (.r 8), none⟩, ⟨some 52, .bin .sub (.r 50) (.r 51), none⟩, ⟨some 53, .sliceSl 1 false (.r 49) none (some (.r 52)) none, none⟩, ⟨some 54, .len .slice (.r 53), none⟩, ⟨some 55, .mv (.c (.int .i64 (.ofNat 0))), none⟩]) 
 (.block 1 (.loop (.seq
  (.ops [⟨some 56, .bin .lss (.r 55) (.r 54), none⟩]) 
 (.seq
  (.cond (.r 56) .skip (.exit 1)) 
 (.seq
  (.block 2 (.seq
  (.ops [⟨some 57, .indexSl 1 (.r 53) (.r 55), none⟩, ⟨some 58, .load1 (.r 57), none⟩, ⟨some 12, .mv (.r 58), none⟩]) 
 (.ops [⟨some 59, .mv (.r 9), none⟩, ⟨some 60, .mv (.r 12), none⟩, ⟨some 61, .bin .shl (.c (.int .u32 (.ofNat 1))) (.r 60), none⟩, ⟨some 62, .bin .add (.r 59) (.r 61), none⟩, ⟨some 9, .mv (.r 62), none⟩]))) 
 (.ops [⟨some 63, .bin .add (.r 55) (.c (.int .i64 (.ofNat 1))), none⟩, ⟨some 55, .mv (.r 63), none⟩]))))))) 
 (.seq
  (.ops [⟨some 64, .mv (.r 9), none⟩, ⟨some 65, .mv (.r 10), none⟩, ⟨some 66, .mv (.r 1), none⟩, ⟨some 67, .mv (.r 8), none⟩, ⟨some 68, .bin .sub (.r 66) (.r 67), none⟩, ⟨some 69, .indexSl 1 (.r 65) (.r 68), none⟩, ⟨some 70, .load1 (.r 69), none⟩, ⟨some 4, .mv (.r 64), none⟩, ⟨some 5, .mv (.r 70), none⟩, ⟨some 6, .mv (.c (.int .i64 (.ofNat 0))), none⟩]) 
 .ret))))))⟩
def c177 : AF := ⟨23, [.reg 2], .seq
  (.ops [⟨some 2, .mv (.c .nilslice), none⟩]) 
 (.seq
  (.seq
  (.ops [⟨some 4, .mv (.r 0), none⟩, ⟨some 5, .eqnil false 0 (.r 4) (.c .nilptr), none⟩]) 
 (.cond (.r 5) (.seq
  (.ops [⟨some 2, .mv (.c .nilslice), none⟩]) 
 .ret) .skip)) 
 (.seq
  (.multi [(0, ⟨some 6, .mv (.r 0), none⟩), (0, ⟨some 7, .nilCheck (.r 6), none⟩), (0, ⟨some 8, .fieldAt 0 (.r 7), none⟩), (5, ⟨some 9, .load1 (.r 8), none⟩), (4, ⟨some 10, .call 53 [.r 9], none⟩), (0, ⟨some 11, .mv (.r 0), none⟩), (0, ⟨some 12, .nilCheck (.r 11), none⟩), (0, ⟨some 13, .fieldAt 1 (.r 12), none⟩), (1, ⟨some 14, .load1 (.r 13), none⟩), (0, ⟨some 15, .build [.nilslice, .int .i64 (.ofNat 0)] [(0, (1, .r 10)), (1, (1, .r 14))], none⟩), (5, ⟨some 16, .box 2 (.r 15), none⟩), (0, ⟨some 3, .mv (.r 16), none⟩)] [(4, 8)]) 
 (.seq
  (.ops [⟨some 17, .mv (.r 3), none⟩, ⟨some 18, .call 175 [.r 17, .c (.int .u64 (.ofNat 1)), .c (.int .i64 (.ofNat 1))], none⟩]) 
 (.seq
  (.ops [⟨some 19, .mv (.r 3), none⟩, ⟨some 20, .nilCheck (.r 19), none⟩, ⟨some 21, .fieldAt 0 (.r 20), none⟩, ⟨some 22, .load1 (.r 21), none⟩, ⟨some 2, .mv (.r 22), none⟩]) 
 .ret))))⟩
def c178 : AF := ⟨36, [.reg 4, .reg 5], .seq
  (.ops [⟨some 4, .mv (.c .nilslice), none⟩, ⟨some 5, .mv (.c (.int .i64 (.ofNat 0))), none⟩]) 
 (.seq
  (.seq
  (.ops [⟨some 9, .mv (.r 0), none⟩, ⟨some 10, .len .slice (.r 9), none⟩, ⟨some 11, .mv (.r 1), none⟩, ⟨some 12, .bin .add (.r 11) (.c (.int .i64 (.ofNat 1))), none⟩, ⟨some 13, .bin .quo (.r 12) (.c (.int .i64 (.ofNat 2))), none⟩, ⟨some 14, .bin .lss (.r 10) (.r 13), none⟩]) 
 (.cond (.r 14) (.seq
  (.ops [⟨some 4, .mv (.c .nilslice), none⟩, ⟨some 5, .mv (.c (.int .i64 (.ofNat 10))), none⟩]) 
 .ret) .skip)) 
 (.seq
  (.ops [⟨some 6, .mv (.c .nilslice), none⟩]) 
 (.seq
  (.seq
  (.ops [⟨some 15, .mv (.r 1), none⟩, ⟨some 16, .mv (.c (.int .i64 (.ofNat 0))), none⟩]) 
 (.block 0 (.loop (.seq
  (.ops [⟨some 17, .bin .lss (.r 16) (.r 15), none⟩]) 
 (.seq
  (.cond (.r 17) .skip (.exit 0)) 
 (.seq
  (.block 1 (.seq
  (.ops [⟨some 18, .mv (.r 16), none⟩, ⟨some 7, .mv (.r 18), none⟩]) 
 (.seq
  (.ops [⟨some 19, .mv (.r 0), none⟩, ⟨some 20, .mv (.r 7), none⟩, ⟨some 21, .bin .quo (.r 20) (.c (.int .i64 (.ofNat 2))), none⟩, ⟨some 22, .indexSl 1 (.r 19) (.r 21), none⟩, ⟨some 23, .load1 (.r 22), none⟩, ⟨some 8, .mv (.r 23), none⟩]) 
 (.seq
  (.seq
  (.ops [⟨some 24, .mv (.r 7), none⟩, ⟨some 25, .bin .rem (.r 24) (.c (.int .i64 (.ofNat 2))), none⟩, ⟨some 26, .bin .eql (.r 25) (.c (.int .i64 (.ofNat 0))), none⟩]) 
 (.cond (.r 26) (.ops [⟨some 27, .mv (.r 8), none⟩, ⟨some 28, .bin .shr (.r 27) (.c (.int .u64 (.ofNat 4))), none⟩, ⟨some 8, .mv (.r 28), none⟩]) .skip)) 
 (.ops [⟨some 29, .mv (.r 6), none⟩, ⟨some 30, .mv (.r 8), none⟩, ⟨some 31, .bin .and (.r 30) (.c (.int .u8 (.ofNat 15))), none⟩, ⟨some 32, .buildSlice 1 1 [.int .u8 (.ofNat 0)] [(0, (1, .r 31))], none⟩, ⟨some 33, .append 1 1 (.r 29) (.r 32), none⟩, ⟨some 6, .mv (.r 33), none⟩]))))) 
 (.ops [⟨some 34, .bin .add (.r 16) (.c (.int .i64 (.ofNat 1))), none⟩, ⟨some 16, .mv (.r 34), none⟩]))))))) 
 (.seq
  (.ops [⟨some 35, .mv (.r 6), none⟩, ⟨some 4, .mv (.r 35), none⟩, ⟨some 5, .mv (.c (.int .i64 (.ofNat 0))), none⟩]) 
 .ret))))⟩
def c179 : AF := ⟨103, [.reg 2, .reg 3], .seq
  (.ops [⟨some 2, .mv (.c .nilslice), none⟩, ⟨some 3, .mv (.c (.int .i64 (.ofNat 0))), none⟩]) 
 (.seq
  (.ops [⟨some 15, .mv (.r 0), none⟩, ⟨some 16, .call 195 [.r 15, .c (.int .i64 (.ofNat 6)), .c (.int .i64 (.ofNat 12))], none⟩, ⟨some 14, .mv (.r 16), none⟩, ⟨some 17, .extract 0 (.r 14), none⟩, ⟨some 18, .extract 1 (.r 14), none⟩, ⟨some 19, .extract 2 (.r 14), none⟩, ⟨some 4, .alloc [.int .i64 (.ofNat 0), .nilslice], none⟩, ⟨none, .store 2 (.r 4) (.r 17), none⟩, ⟨some 5, .mv (.r 18), none⟩, ⟨some 6, .mv (.r 19), none⟩]) 
 (.seq
  (.seq
  (.ops [⟨some 20, .mv (.r 6), none⟩, ⟨some 21, .bin .neq (.r 20) (.c (.int .i64 (.ofNat 0))), none⟩]) 
 (.cond (.r 21) (.seq
  (.ops [⟨some 22, .mv (.r 6), none⟩, ⟨some 2, .mv (.c .nilslice), none⟩, ⟨some 3, .mv (.r 22), none⟩]) 
 .ret) .skip)) 
 (.seq
  (.ops [⟨some 24, .mv (.r 0), none⟩, ⟨some 25, .mv (.r 5), none⟩, ⟨some 26, .sliceSl 1 true (.r 24) (some (.r 25)) none none, none⟩, ⟨some 27, .call 148 [.r 26], none⟩, ⟨some 23, .mv (.r 27), none⟩, ⟨some 28, .extract 0 (.r 23), none⟩, ⟨some 29, .extract 1 (.r 23), none⟩, ⟨some 7, .mv (.r 28), none⟩, ⟨some 6, .mv (.r 29), none⟩]) 
 (.seq
  (.seq
  (.ops [⟨some 30, .mv (.r 6), none⟩, ⟨some 31, .bin .neq (.r 30) (.c (.int .i64 (.ofNat 0))), none⟩]) 
 (.cond (.r 31) (.seq
  (.ops [⟨some 32, .mv (.r 6), none⟩, ⟨some 2, .mv (.c .nilslice), none⟩, ⟨some 3, .mv (.r 32), none⟩]) 
 .ret) .skip)) 
 (.seq
  (.ops [⟨some 34, .loadN 2 (.r 4), none⟩, ⟨some 35, .call 168 [.r 34], none⟩, ⟨some 33, .mv (.r 35), none⟩, ⟨some 36, .extract 0 (.r 33), none⟩, ⟨some 37, .extract 1 (.r 33), none⟩, ⟨some 8, .alloc [.int .i64 (.ofNat 0), .nilslice], none⟩, ⟨none, .store 2 (.r 8) (.r 36), none⟩, ⟨some 6, .mv (.r 37), none⟩]) 
 (.seq
  (.seq
  (.ops [⟨some 38, .mv (.r 6), none⟩, ⟨some 39, .bin .neq (.r 38) (.c (.int .i64 (.ofNat 0))), none⟩]) 
 (.cond (.r 39) (.seq
  (.ops [⟨some 40, .mv (.r 6), none⟩, ⟨some 2, .mv (.c .nilslice), none⟩, ⟨some 3, .mv (.r 40), none⟩]) 
 .ret) .skip)) 
 (.seq
  (.ops [⟨some 41, .build [.int .i64 (.ofNat 0), .int .i64 (.ofNat 0)] [], none⟩, ⟨some 9, .alloc [.int .i64 (.ofNat 0), .int .i64 (.ofNat 0)], none⟩, ⟨none, .store 2 (.r 9) (.r 41), none⟩]) 
 (.seq
  (.seq
  (.ops [⟨some 42, .mv (.c (.int .i64 (.ofNat 0))), none⟩]) 
 (.block 0 (.loop (.seq
  (.ops [⟨some 43, .bin .lss (.r 42) (.c (.int .i64 (.ofNat 2))), none⟩]) 
 (.seq
  (.cond (.r 43) .skip (.exit 0)) 
 (.seq
  (.block 1 (.seq
  (.ops [⟨some 44, .mv (.r 42), none⟩, ⟨some 10, .mv (.r 44), none⟩]) 
 (.ops [⟨some 45, .mv (.r 10), none⟩, ⟨some 46, .loadN 2 (.r 8), none⟩, ⟨some 47, .mv (.r 7), none⟩, ⟨some 48, .call 149 [.r 46, .r 47], none⟩, ⟨some 49, .indexArr 2 1 (.r 9) (.r 45), none⟩, ⟨none, .store 1 (.r 49) (.r 48), none⟩]))) 
 (.ops [⟨some 50, .bin .add (.r 42) (.c (.int .i64 (.ofNat 1))), none⟩, ⟨some 42, .mv (.r 50), none⟩]))))))) 
 (.seq
  (.seq
  (.ops [⟨some 51, .mv (.r 7), none⟩, ⟨some 52, .call 152 [.r 51], none⟩, ⟨some 53, .bin .lss (.r 52) (.c (.int .i64 (.ofNat 0))), none⟩]) 
 (.cond (.r 53) (.seq
  (.ops [⟨some 2, .mv (.c .nilslice), none⟩, ⟨some 3, .mv (.c (.int .i64 (.ofNat 11))), none⟩]) 
 .ret) .skip)) 
 (.seq
  (.ops [⟨some 11, .mv (.c .nilslice), none⟩]) 
 (.seq
  .skip 
 (.seq
  (.seq
  (.ops [⟨some 54, .mv (.c (.int .i64 (.ofNat 0))), none⟩]) 
 (.block 2 (.loop (.seq
  (.ops [⟨some 55, .bin .lss (.r 54) (.c (.int .i64 (.ofNat 256))), none⟩]) 
 (.seq
  (.cond (.r 55) .skip (.exit 2)) 
 (.seq
  (.block 3 (.seq
  (.ops [⟨some 56, .mv (.r 54), none⟩, ⟨some 12, .mv (.r 56), none⟩]) 
 (.seq
  (.multi [(0, ⟨some 57, .fieldAt 1 (.r 8), none⟩), (1, ⟨some 58, .load1 (.r 57), none⟩), (0, ⟨some 59, .mv (.r 12), none⟩), (0, ⟨some 60, .bin .rem (.r 59) (.c (.int .i64 (.ofNat 2))), none⟩), (0, ⟨some 61, .indexArr 2 1 (.r 9) (.r 60), none⟩), (1, ⟨some 62, .load1 (.r 61), none⟩), (0, ⟨some 63, .indexSl 3 (.r 58) (.r 62), none⟩), (1, ⟨some 64, .loadN 3 (.r 63), none⟩), (2, ⟨some 13, .alloc [.int .u8 (.ofNat 0), .int .i64 (.ofNat 0), .int .i64 (.ofNat 0)], none⟩), (5, ⟨none, .store 3 (.r 13) (.r 64), none⟩)] [(1, 8), (5, 8), (7, 8)]) 
 (.seq
  (.ops [⟨some 65, .mv (.r 11), none⟩, ⟨some 66, .fieldAt 0 (.r 13), none⟩, ⟨some 67, .load1 (.r 66), none⟩, ⟨some 68, .buildSlice 1 1 [.int .u8 (.ofNat 0)] [(0, (1, .r 67))], none⟩, ⟨some 69, .append 1 1 (.r 65) (.r 68), none⟩, ⟨some 11, .mv (.r 69), none⟩]) 
 (.seq
  (.seq
  (.multi [(0, ⟨some 70, .mv (.r 7), none⟩), (4, ⟨some 71, .call 152 [.r 70], none⟩), (0, ⟨some 72, .fieldAt 1 (.r 13), none⟩), (1, ⟨some 73, .load1 (.r 72), none⟩), (0, ⟨some 74, .bin .lss (.r 71) (.r 73), none⟩)] [(1, 3)]) 
 (.cond (.r 74) (.seq
  (.ops [⟨some 75, .mv (.r 11), none⟩, ⟨some 76, .fieldAt 1 (.r 8), none⟩, ⟨some 77, .load1 (.r 76), none⟩, ⟨some 78, .mv (.r 12), none⟩, ⟨some 79, .bin .add (.r 78) (.c (.int .i64 (.ofNat 1))), none⟩, ⟨some 80, .bin .rem (.r 79) (.c (.int .i64 (.ofNat 2))), none⟩, ⟨some 81, .indexArr 2 1 (.r 9) (.r 80), none⟩, ⟨some 82, .load1 (.r 81), none⟩, ⟨some 83, .indexSl 3 (.r 77) (.r 82), none⟩, ⟨some 84, .fieldAt 0 (.r 83), none⟩, ⟨some 85, .load1 (.r 84), none⟩, ⟨some 86, .buildSlice 1 1 [.int .u8 (.ofNat 0)] [(0, (1, .r 85))], none⟩, ⟨some 87, .append 1 1 (.r 75) (.r 86), none⟩, ⟨some 11, .mv (.r 87), none⟩]) 
 (.exit 2)) .skip)) 
 (.ops [⟨some 88, .mv (.r 12), none⟩, ⟨some 89, .bin .rem (.r 88) (.c (.int .i64 (.ofNat 2))), none⟩, ⟨some 90, .loadN 2 (.r 8), none⟩, ⟨some 91, .mv (.r 12), none⟩, ⟨some 92, .bin .rem (.r 91) (.c (.int .i64 (.ofNat 2))), none⟩, ⟨some 93, .indexArr 2 1 (.r 9) (.r 92), none⟩, ⟨some 94, .load1 (.r 93), none⟩, ⟨some 95, .mv (.r 7), none⟩, ⟨some 96, .call 151 [.r 90, .r 94, .r 95], none⟩, ⟨some 97, .indexArr 2 1 (.r 9) (.r 89), none⟩, ⟨none, .store 1 (.r 97) (.r 96), none⟩])))))) 
 (.ops [⟨some 98, .bin .add (.r 54) (.c (.int .i64 (.ofNat 1))), none⟩, ⟨some 54, .mv (.r 98), none⟩]))))))) 
 (.seq
  (.seq
  (.ops [⟨some 99, .mv (.r 11), none⟩, ⟨some 100, .len .slice (.r 99), none⟩, ⟨some 101, .bin .geq (.r 100) (.c (.int .i64 (.ofNat 256))), none⟩]) 
 (.cond (.r 101) (.seq
  (.ops [⟨some 2, .mv (.c .nilslice), none⟩, ⟨some 3, .mv (.c (.int .i64 (.ofNat 11))), none⟩]) 
 .ret) .skip)) 
 (.seq
  (.ops [⟨some 102, .mv (.r 11), none⟩, ⟨some 2, .mv (.r 102), none⟩, ⟨some 3, .mv (.c (.int .i64 (.ofNat 0))), none⟩]) 
 .ret))))))))))))))⟩
def c180 : AF := ⟨53, [.reg 2, .reg 3], .seq
  (.ops [⟨some 2, .mv (.c .nilslice), none⟩, ⟨some 3, .mv (.c (.int .i64 (.ofNat 0))), none⟩]) 
 (.seq
  (.ops [⟨some 9, .mv (.r 0), none⟩, ⟨some 10, .call 196 [.r 9], none⟩, ⟨some 8, .mv (.r 10), none⟩, ⟨some 11, .extract 0 (.r 8), none⟩, ⟨some 12, .extract 1 (.r 8), none⟩, ⟨some 4, .mv (.r 11), none⟩, ⟨some 5, .mv (.r 12), none⟩]) 
 (.seq
  (.seq
  (.ops [⟨some 13, .mv (.r 5), none⟩, ⟨some 14, .un .not (.r 13), none⟩, ⟨some 15, .mv (.r 14), none⟩, ⟨some 16, .mv (.r 0), some (15, false)⟩, ⟨some 17, .len .slice (.r 16), some (15, false)⟩, ⟨some 18, .bin .eql (.r 17) (.c (.int .i64 (.ofNat 0))), some (15, false)⟩, ⟨some 19, .pick (.r 15) (.c (.bool true)) (.r 18), none⟩, ⟨some 20, .mv (.r 19), none⟩, ⟨some 21, .mv (.r 0), some (20, false)⟩, ⟨some 22, .len .slice (.r 21), some (20, false)⟩, ⟨some 23, .bin .geq (.r 22) (.c (.int .i64 (.ofNat 256))), some (20, false)⟩, ⟨some 24, .pick (.r 20) (.c (.bool true)) (.r 23), none⟩, ⟨some 25, .mv (.r 24), none⟩, ⟨some 26, .mv (.r 4), some (25, false)⟩, ⟨some 27, .bin .eql (.r 26) (.c (.int .i64 (.ofNat 0))), some (25, false)⟩, ⟨some 28, .pick (.r 25) (.c (.bool true)) (.r 27), none⟩]) 
 (.cond (.r 28) (.seq
  (.ops [⟨some 2, .mv (.c .nilslice), none⟩, ⟨some 3, .mv (.c (.int .i64 (.ofNat 11))), none⟩]) 
 .ret) .skip)) 
 (.seq
  (.ops [⟨some 29, .mv (.r 4), none⟩, ⟨some 30, .toInt .u64 (.r 29), none⟩, ⟨some 31, .call 71 [.r 30], none⟩, ⟨some 6, .mv (.r 31), none⟩]) 
 (.seq
  (.ops [⟨some 32, .mv (.r 6), none⟩, ⟨some 33, .bin .shl (.c (.int .i64 (.ofNat 1))) (.r 32), none⟩, ⟨some 34, .mv (.r 4), none⟩, ⟨some 35, .bin .sub (.r 33) (.r 34), none⟩, ⟨some 7, .mv (.r 35), none⟩]) 
 (.seq
  (.seq
  (.ops [⟨some 36, .mv (.r 6), none⟩, ⟨some 37, .bin .gtr (.r 36) (.c (.int .i64 (.ofNat 11))), none⟩, ⟨some 38, .mv (.r 37), none⟩, ⟨some 39, .mv (.r 7), some (38, false)⟩, ⟨some 40, .mv (.r 7), some (38, false)⟩, ⟨some 41, .bin .sub (.r 40) (.c (.int .i64 (.ofNat 1))), some (38, false)⟩, ⟨some 42, .bin .and (.r 39) (.r 41), some (38, false)⟩, ⟨some 43, .bin .neq (.r 42) (.c (.int .i64 (.ofNat 0))), some (38, false)⟩, ⟨some 44, .pick (.r 38) (.c (.bool true)) (.r 43), none⟩]) 
 (.cond (.r 44) (.seq
  (.ops [⟨some 2, .mv (.c .nilslice), none⟩, ⟨some 3, .mv (.c (.int .i64 (.ofNat 11))), none⟩]) 
 .ret) .skip)) 
 (.seq
  (.ops [⟨some 45, .mv (.r 0), none⟩, ⟨some 46, .call 53 [.r 45], none⟩, ⟨some 47, .mv (.r 7), none⟩, ⟨some 48, .toInt .u64 (.r 47), none⟩, ⟨some 49, .call 71 [.r 48], none⟩, ⟨some 50, .toInt .u8 (.r 49), none⟩, ⟨some 51, .buildSlice 1 1 [.int .u8 (.ofNat 0)] [(0, (1, .r 50))], none⟩, ⟨some 52, .append 1 1 (.r 46) (.r 51), none⟩, ⟨some 2, .mv (.r 52), none⟩, ⟨some 3, .mv (.c (.int .i64 (.ofNat 0))), none⟩]) 
 .ret))))))⟩
def c181 : AF := ⟨32, [.reg 6, .reg 7], .seq
  (.ops [⟨some 6, .mv (.c .nilslice), none⟩, ⟨some 7, .mv (.c (.int .i64 (.ofNat 0))), none⟩]) 
 (.seq
  (.ops [⟨some 11, .mv (.r 0), none⟩, ⟨some 12, .call 197 [.r 11], none⟩, ⟨some 10, .mv (.r 12), none⟩, ⟨some 13, .extract 0 (.r 10), none⟩, ⟨some 14, .extract 1 (.r 10), none⟩, ⟨some 8, .alloc [.int .i64 (.ofNat 0), .nilslice], none⟩, ⟨none, .store 2 (.r 8) (.r 13), none⟩, ⟨some 9, .mv (.r 14), none⟩]) 
 (.seq
  (.block 0 (.seq
  (.ops [⟨some 16, .mv (.r 9), none⟩, ⟨some 17, .bin .neq (.r 16) (.c (.int .i64 (.ofNat 0))), none⟩, ⟨some 15, .mv (.r 17), none⟩]) 
 (.cond (.r 15) (.seq
  (.ops [⟨some 18, .mv (.r 9), none⟩, ⟨some 6, .mv (.c .nilslice), none⟩, ⟨some 7, .mv (.r 18), none⟩]) 
 .ret) (.seq
  (.ops [⟨some 20, .mv (.r 2), none⟩, ⟨some 21, .bin .lss (.r 20) (.c (.int .i64 (.ofNat 0))), none⟩, ⟨some 22, .mv (.r 21), none⟩, ⟨some 23, .mv (.r 2), some (22, false)⟩, ⟨some 24, .bin .gtr (.r 23) (.c (.int .i64 (.ofNat 131072))), some (22, false)⟩, ⟨some 25, .pick (.r 22) (.c (.bool true)) (.r 24), none⟩, ⟨some 19, .mv (.r 25), none⟩]) 
 (.cond (.r 19) (.seq
  (.ops [⟨some 6, .mv (.c .nilslice), none⟩, ⟨some 7, .mv (.c (.int .i64 (.ofNat 1))), none⟩]) 
 .ret) .skip))))) 
 (.seq
  (.ops [⟨some 26, .loadN 2 (.r 8), none⟩, ⟨some 27, .mv (.r 1), none⟩, ⟨some 28, .mv (.r 2), none⟩, ⟨some 29, .call 198 [.r 26, .r 27, .r 28], none⟩, ⟨some 30, .extract 0 (.r 29), none⟩, ⟨some 31, .extract 1 (.r 29), none⟩, ⟨some 6, .mv (.r 30), none⟩, ⟨some 7, .mv (.r 31), none⟩]) 
 .ret)))⟩
def c182 : AF := ⟨95, [.reg 6, .reg 7], .seq
  (.ops [⟨some 6, .mv (.c .nilslice), none⟩, ⟨some 7, .mv (.c (.int .i64 (.ofNat 0))), none⟩]) 
 (.seq
  (.ops [⟨some 20, .mv (.r 0), none⟩, ⟨some 21, .call 197 [.r 20], none⟩, ⟨some 19, .mv (.r 21), none⟩, ⟨some 22, .extract 0 (.r 19), none⟩, ⟨some 23, .extract 1 (.r 19), none⟩, ⟨some 8, .alloc [.int .i64 (.ofNat 0), .nilslice], none⟩, ⟨none, .store 2 (.r 8) (.r 22), none⟩, ⟨some 9, .mv (.r 23), none⟩]) 
 (.seq
  (.seq
  (.ops [⟨some 24, .mv (.r 9), none⟩, ⟨some 25, .bin .neq (.r 24) (.c (.int .i64 (.ofNat 0))), none⟩]) 
 (.cond (.r 25) (.seq
  (.ops [⟨some 26, .mv (.r 9), none⟩, ⟨some 6, .mv (.c .nilslice), none⟩, ⟨some 7, .mv (.r 26), none⟩]) 
 .ret) .skip)) 
 (.seq
  (.seq
  (.ops [⟨some 27, .mv (.r 2), none⟩, ⟨some 28, .bin .lss (.r 27) (.c (.int .i64 (.ofNat 0))), none⟩, ⟨some 29, .mv (.r 28), none⟩, ⟨some 30, .mv (.r 2), some (29, false)⟩, ⟨some 31, .bin .gtr (.r 30) (.c (.int .i64 (.ofNat 131072))), some (29, false)⟩, ⟨some 32, .pick (.r 29) (.c (.bool true)) (.r 31), none⟩]) 
 (.cond (.r 32) (.seq
  (.ops [⟨some 6, .mv (.c .nilslice), none⟩, ⟨some 7, .mv (.c (.int .i64 (.ofNat 1))), none⟩]) 
 .ret) .skip)) 
 (.seq
  (.ops [⟨some 34, .mv (.r 2), none⟩, ⟨some 35, .call 199 [.r 34], none⟩, ⟨some 33, .mv (.r 35), none⟩, ⟨some 36, .extract 0 (.r 33), none⟩, ⟨some 37, .extract 1 (.r 33), none⟩, ⟨some 10, .alloc [.int .i64 (.ofNat 0), .int .i64 (.ofNat 0), .int .i64 (.ofNat 0), .int .i64 (.ofNat 0)], none⟩, ⟨none, .store 4 (.r 10) (.r 36), none⟩, ⟨some 11, .mv (.r 37), none⟩]) 
 (.seq
  (.seq
  (.ops [⟨some 38, .mv (.r 11), none⟩, ⟨some 39, .un .not (.r 38), none⟩]) 
 (.cond (.r 39) (.seq
  (.ops [⟨some 6, .mv (.c .nilslice), none⟩, ⟨some 7, .mv (.c (.int .i64 (.ofNat 11))), none⟩]) 
 .ret) .skip)) 
 (.seq
  (.ops [⟨some 40, .mv (.r 1), none⟩, ⟨some 41, .call 47 [.r 40], none⟩, ⟨some 12, .mv (.r 41), none⟩]) 
 (.seq
  (.ops [⟨some 13, .alloc [.int .i64 (.ofNat 0), .int .i64 (.ofNat 0), .int .i64 (.ofNat 0), .int .i64 (.ofNat 0)], none⟩]) 
 (.seq
  (.seq
  (.ops [⟨some 42, .mv (.c (.int .i64 (.ofNat 0))), none⟩]) 
 (.block 0 (.loop (.seq
  (.ops [⟨some 43, .bin .lss (.r 42) (.c (.int .i64 (.ofNat 3))), none⟩]) 
 (.seq
  (.cond (.r 43) .skip (.exit 0)) 
 (.seq
  (.block 1 (.seq
  (.ops [⟨some 44, .mv (.r 42), none⟩, ⟨some 14, .mv (.r 44), none⟩]) 
 (.ops [⟨some 45, .mv (.r 14), none⟩, ⟨some 46, .mv (.r 12), none⟩, ⟨some 47, .call 49 [.r 46, .c (.int .i64 (.ofNat 2))], none⟩, ⟨some 48, .toInt .i64 (.r 47), none⟩, ⟨some 49, .indexArr 4 1 (.r 13) (.r 45), none⟩, ⟨none, .store 1 (.r 49) (.r 48), none⟩]))) 
 (.ops [⟨some 50, .bin .add (.r 42) (.c (.int .i64 (.ofNat 1))), none⟩, ⟨some 42, .mv (.r 50), none⟩]))))))) 
 (.seq
  (.multi [(0, ⟨some 51, .mv (.r 12), none⟩), (4, ⟨some 52, .call 76 [.r 51], none⟩), (0, ⟨some 53, .indexArr 4 1 (.r 13) (.c (.int .i64 (.ofNat 0))), none⟩), (1, ⟨some 54, .load1 (.r 53), none⟩), (0, ⟨some 55, .bin .sub (.r 52) (.r 54), none⟩), (0, ⟨some 56, .indexArr 4 1 (.r 13) (.c (.int .i64 (.ofNat 1))), none⟩), (1, ⟨some 57, .load1 (.r 56), none⟩), (0, ⟨some 58, .bin .sub (.r 55) (.r 57), none⟩), (0, ⟨some 59, .indexArr 4 1 (.r 13) (.c (.int .i64 (.ofNat 2))), none⟩), (1, ⟨some 60, .load1 (.r 59), none⟩), (0, ⟨some 61, .bin .sub (.r 58) (.r 60), none⟩), (0, ⟨some 62, .indexArr 4 1 (.r 13) (.c (.int .i64 (.ofNat 3))), none⟩), (5, ⟨none, .store 1 (.r 62) (.r 61), none⟩)] [(1, 3), (1, 6), (1, 9)]) 
 (.seq
  (.seq
  (.ops [⟨some 63, .mv (.r 12), none⟩, ⟨some 64, .call 77 [.r 63], none⟩, ⟨some 65, .bin .neq (.r 64) (.c (.int .i64 (.ofNat 0))), none⟩, ⟨some 66, .mv (.r 65), none⟩, ⟨some 67, .indexArr 4 1 (.r 13) (.c (.int .i64 (.ofNat 3))), some (66, false)⟩, ⟨some 68, .load1 (.r 67), some (66, false)⟩, ⟨some 69, .bin .lss (.r 68) (.c (.int .i64 (.ofNat 0))), some (66, false)⟩, ⟨some 70, .pick (.r 66) (.c (.bool true)) (.r 69), none⟩]) 
 (.cond (.r 70) (.seq
  (.ops [⟨some 6, .mv (.c .nilslice), none⟩, ⟨some 7, .mv (.c (.int .i64 (.ofNat 10))), none⟩]) 
 .ret) .skip)) 
 (.seq
  (.ops [⟨some 15, .mv (.c .nilslice), none⟩]) 
 (.seq
  (.seq
  (.ops [⟨some 71, .mv (.c (.int .i64 (.ofNat 0))), none⟩]) 
 (.block 2 (.loop (.seq
  (.ops [⟨some 72, .bin .lss (.r 71) (.c (.int .i64 (.ofNat 4))), none⟩]) 
 (.seq
  (.cond (.r 72) .skip (.exit 2)) 
 (.seq
  (.block 3 (.seq
  (.ops [⟨some 73, .mv (.r 71), none⟩, ⟨some 16, .mv (.r 73), none⟩]) 
 (.seq
  (.multi [(1, ⟨some 75, .loadN 2 (.r 8), none⟩), (0, ⟨some 76, .mv (.r 12), none⟩), (0, ⟨some 77, .mv (.r 16), none⟩), (0, ⟨some 78, .indexArr 4 1 (.r 13) (.r 77), none⟩), (5, ⟨some 79, .load1 (.r 78), none⟩), (4, ⟨some 80, .call 50 [.r 76, .r 79], none⟩), (0, ⟨some 81, .mv (.r 16), none⟩), (0, ⟨some 82, .indexArr 4 1 (.r 10) (.r 81), none⟩), (1, ⟨some 83, .load1 (.r 82), none⟩), (5, ⟨some 84, .call 198 [.r 75, .r 80, .r 83], none⟩), (0, ⟨some 74, .mv (.r 84), none⟩), (0, ⟨some 85, .extract 0 (.r 74), none⟩), (0, ⟨some 86, .extract 1 (.r 74), none⟩), (0, ⟨some 17, .mv (.r 85), none⟩), (0, ⟨some 18, .mv (.r 86), none⟩)] [(0, 5), (5, 8)]) 
 (.seq
  (.seq
  (.ops [⟨some 87, .mv (.r 18), none⟩, ⟨some 88, .bin .neq (.r 87) (.c (.int .i64 (.ofNat 0))), none⟩]) 
 (.cond (.r 88) (.seq
  (.ops [⟨some 89, .mv (.r 18), none⟩, ⟨some 6, .mv (.c .nilslice), none⟩, ⟨some 7, .mv (.r 89), none⟩]) 
 .ret) .skip)) 
 (.ops [⟨some 90, .mv (.r 15), none⟩, ⟨some 91, .mv (.r 17), none⟩, ⟨some 92, .append 1 1 (.r 90) (.r 91), none⟩, ⟨some 15, .mv (.r 92), none⟩]))))) 
 (.ops [⟨some 93, .bin .add (.r 71) (.c (.int .i64 (.ofNat 1))), none⟩, ⟨some 71, .mv (.r 93), none⟩]))))))) 
 (.seq
  (.ops [⟨some 94, .mv (.r 15), none⟩, ⟨some 6, .mv (.r 94), none⟩, ⟨some 7, .mv (.c (.int .i64 (.ofNat 0))), none⟩]) 
 .ret)))))))))))))⟩
def c183 : AF := ⟨93, [.cell 8 2 true, .reg 9, .reg 10], .seq
  (.ops [⟨some 7, .box 2 (.r 3), none⟩, ⟨some 8, .alloc [.int .i64 (.ofNat 0), .nilslice], none⟩, ⟨some 9, .mv (.c (.int .i64 (.ofNat 0))), none⟩, ⟨some 10, .mv (.c (.int .i64 (.ofNat 0))), none⟩]) 
 (.seq
  (.ops [⟨some 18, .mv (.r 0), none⟩, ⟨some 19, .call 165 [.r 18], none⟩, ⟨some 11, .mv (.r 19), none⟩]) 
 (.seq
  (.seq
  (.ops [⟨some 20, .mv (.r 11), none⟩, ⟨some 21, .bin .lss (.r 20) (.c (.int .i64 (.ofNat 0))), none⟩, ⟨some 22, .mv (.r 21), none⟩, ⟨some 23, .mv (.r 1), some (22, false)⟩, ⟨some 24, .bin .lss (.r 23) (.c (.int .i64 (.ofNat 0))), some (22, false)⟩, ⟨some 25, .pick (.r 22) (.c (.bool true)) (.r 24), none⟩, ⟨some 26, .mv (.r 25), none⟩, ⟨some 27, .mv (.r 1), some (26, false)⟩, ⟨some 28, .bin .gtr (.r 27) (.c (.int .i64 (.ofNat 3))), some (26, false)⟩, ⟨some 29, .pick (.r 26) (.c (.bool true)) (.r 28), none⟩]) 
 (.cond (.r 29) (.seq
  (.ops [⟨some 30, .build [.int .i64 (.ofNat 0), .nilslice] [], none⟩, ⟨none, .store 2 (.r 8) (.r 30), none⟩, ⟨some 9, .mv (.c (.int .i64 (.ofNat 0))), none⟩, ⟨some 10, .mv (.c (.int .i64 (.ofNat 1))), none⟩]) 
 .ret) .skip)) 
 (.seq
  (.seq
  (.ops [⟨some 31, .mv (.r 1), none⟩]) 
 (.block 0 (.seq
  (.ops [⟨some 33, .bin .eql (.r 31) (.c (.int .i64 (.ofNat 0))), none⟩, ⟨some 32, .mv (.r 33), none⟩]) 
 (.cond (.r 32) (.seq
  (.ops [⟨some 35, .mv (.r 0), none⟩, ⟨some 36, .call 200 [.r 35], none⟩, ⟨some 34, .mv (.r 36), none⟩, ⟨some 37, .extract 0 (.r 34), none⟩, ⟨some 38, .extract 1 (.r 34), none⟩, ⟨some 12, .alloc [.int .i64 (.ofNat 0), .nilslice], none⟩, ⟨none, .store 2 (.r 12) (.r 37), none⟩, ⟨some 13, .mv (.r 38), none⟩]) 
 (.seq
  (.ops [⟨some 39, .loadN 2 (.r 12), none⟩, ⟨some 40, .mv (.r 13), none⟩, ⟨none, .store 2 (.r 8) (.r 39), none⟩, ⟨some 9, .mv (.c (.int .i64 (.ofNat 0))), none⟩, ⟨some 10, .mv (.r 40), none⟩]) 
 .ret)) (.seq
  (.ops [⟨some 42, .bin .eql (.r 31) (.c (.int .i64 (.ofNat 1))), none⟩, ⟨some 41, .mv (.r 42), none⟩]) 
 (.cond (.r 41) (.seq
  (.block 1 (.seq
  (.ops [⟨some 44, .mv (.r 2), none⟩, ⟨some 45, .len .slice (.r 44), none⟩, ⟨some 46, .bin .eql (.r 45) (.c (.int .i64 (.ofNat 0))), none⟩, ⟨some 43, .mv (.r 46), none⟩]) 
 (.cond (.r 43) (.seq
  (.ops [⟨some 47, .build [.int .i64 (.ofNat 0), .nilslice] [], none⟩, ⟨none, .store 2 (.r 8) (.r 47), none⟩, ⟨some 9, .mv (.c (.int .i64 (.ofNat 0))), none⟩, ⟨some 10, .mv (.c (.int .i64 (.ofNat 10))), none⟩]) 
 .ret) (.seq
  (.ops [⟨some 49, .mv (.r 2), none⟩, ⟨some 50, .indexSl 1 (.r 49) (.c (.int .i64 (.ofNat 0))), none⟩, ⟨some 51, .load1 (.r 50), none⟩, ⟨some 52, .toInt .i64 (.r 51), none⟩, ⟨some 53, .mv (.r 11), none⟩, ⟨some 54, .bin .gtr (.r 52) (.r 53), none⟩, ⟨some 48, .mv (.r 54), none⟩]) 
 (.cond (.r 48) (.seq
  (.ops [⟨some 55, .build [.int .i64 (.ofNat 0), .nilslice] [], none⟩, ⟨none, .store 2 (.r 8) (.r 55), none⟩, ⟨some 9, .mv (.c (.int .i64 (.ofNat 0))), none⟩, ⟨some 10, .mv (.c (.int .i64 (.ofNat 11))), none⟩]) 
 .ret) .skip))))) 
 (.seq
  (.ops [⟨some 56, .mv (.r 2), none⟩, ⟨some 57, .indexSl 1 (.r 56) (.c (.int .i64 (.ofNat 0))), none⟩, ⟨some 58, .load1 (.r 57), none⟩, ⟨some 59, .call 167 [.r 58], none⟩, ⟨none, .store 2 (.r 8) (.r 59), none⟩, ⟨some 9, .mv (.c (.int .i64 (.ofNat 1))), none⟩, ⟨some 10, .mv (.c (.int .i64 (.ofNat 0))), none⟩]) 
 .ret)) (.seq
  (.ops [⟨some 61, .bin .eql (.r 31) (.c (.int .i64 (.ofNat 3))), none⟩, ⟨some 60, .mv (.r 61), none⟩]) 
 (.cond (.r 60) (.seq
  (.seq
  (.ops [⟨some 62, .fieldAt 1 (.r 7), none⟩, ⟨some 63, .load1 (.r 62), none⟩, ⟨some 64, .len .slice (.r 63), none⟩, ⟨some 65, .bin .eql (.r 64) (.c (.int .i64 (.ofNat 0))), none⟩]) 
 (.cond (.r 65) (.seq
  (.ops [⟨some 66, .build [.int .i64 (.ofNat 0), .nilslice] [], none⟩, ⟨none, .store 2 (.r 8) (.r 66), none⟩, ⟨some 9, .mv (.c (.int .i64 (.ofNat 0))), none⟩, ⟨some 10, .mv (.c (.int .i64 (.ofNat 11))), none⟩]) 
 .ret) .skip)) 
 (.seq
  (.ops [⟨some 67, .loadN 2 (.r 7), none⟩, ⟨none, .store 2 (.r 8) (.r 67), none⟩, ⟨some 9, .mv (.c (.int .i64 (.ofNat 0))), none⟩, ⟨some 10, .mv (.c (.int .i64 (.ofNat 0))), none⟩]) 
 .ret)) .skip)))))))) 
 (.seq
  (.ops [⟨some 69, .mv (.r 2), none⟩, ⟨some 70, .mv (.r 0), none⟩, ⟨some 71, .call 170 [.r 70], none⟩, ⟨some 72, .mv (.r 11), none⟩, ⟨some 73, .bin .add (.r 72) (.c (.int .i64 (.ofNat 1))), none⟩, ⟨some 74, .call 195 [.r 69, .r 71, .r 73], none⟩, ⟨some 68, .mv (.r 74), none⟩, ⟨some 75, .extract 0 (.r 68), none⟩, ⟨some 76, .extract 1 (.r 68), none⟩, ⟨some 77, .extract 2 (.r 68), none⟩, ⟨some 14, .alloc [.int .i64 (.ofNat 0), .nilslice], none⟩, ⟨none, .store 2 (.r 14) (.r 75), none⟩, ⟨some 15, .mv (.r 76), none⟩, ⟨some 16, .mv (.r 77), none⟩]) 
 (.seq
  (.seq
  (.ops [⟨some 78, .mv (.r 16), none⟩, ⟨some 79, .bin .neq (.r 78) (.c (.int .i64 (.ofNat 0))), none⟩]) 
 (.cond (.r 79) (.seq
  (.ops [⟨some 80, .build [.int .i64 (.ofNat 0), .nilslice] [], none⟩, ⟨some 81, .mv (.r 16), none⟩, ⟨none, .store 2 (.r 8) (.r 80), none⟩, ⟨some 9, .mv (.c (.int .i64 (.ofNat 0))), none⟩, ⟨some 10, .mv (.r 81), none⟩]) 
 .ret) .skip)) 
 (.seq
  (.ops [⟨some 83, .loadN 2 (.r 14), none⟩, ⟨some 84, .call 168 [.r 83], none⟩, ⟨some 82, .mv (.r 84), none⟩, ⟨some 85, .extract 0 (.r 82), none⟩, ⟨some 86, .extract 1 (.r 82), none⟩, ⟨some 17, .alloc [.int .i64 (.ofNat 0), .nilslice], none⟩, ⟨none, .store 2 (.r 17) (.r 85), none⟩, ⟨some 16, .mv (.r 86), none⟩]) 
 (.seq
  (.seq
  (.ops [⟨some 87, .mv (.r 16), none⟩, ⟨some 88, .bin .neq (.r 87) (.c (.int .i64 (.ofNat 0))), none⟩]) 
 (.cond (.r 88) (.seq
  (.ops [⟨some 89, .build [.int .i64 (.ofNat 0), .nilslice] [], none⟩, ⟨some 90, .mv (.r 16), none⟩, ⟨none, .store 2 (.r 8) (.r 89), none⟩, ⟨some 9, .mv (.c (.int .i64 (.ofNat 0))), none⟩, ⟨some 10, .mv (.r 90), none⟩]) 
 .ret) .skip)) 
 (.seq
  (.ops [⟨some 91, .loadN 2 (.r 17), none⟩, ⟨some 92, .mv (.r 15), none⟩, ⟨none, .store 2 (.r 8) (.r 91), none⟩, ⟨some 9, .mv (.r 92), none⟩, ⟨some 10, .mv (.c (.int .i64 (.ofNat 0))), none⟩]) 
 .ret))))))))⟩
def c184 : AF := ⟨6, [.reg 2], .seq
  (.ops [⟨some 2, .mv (.c (.int .i64 (.ofNat 0))), none⟩]) 
 (.seq
  (.ops [⟨some 3, .mv (.r 0), none⟩, ⟨some 4, .indexStr (.c (.str [0, 1, 2, 2, 3, 3, 3, 3, 4, 4, 4, 4, 4, 4, 4, 4, 5, 5, 5, 5, 5, 5, 5, 5, 5, 5, 5, 5, 5, 5, 5, 5, 6, 6, 6, 6, 6, 6, 6, 6, 6, 6, 6, 6, 6, 6, 6, 6, 6, 6, 6, 6, 6, 6, 6, 6, 6, 6, 6, 6, 6, 6, 6, 6, 7, 7, 7, 7, 7, 7, 7, 7, 7, 7, 7, 7, 7, 7, 7, 7, 7, 7, 7, 7, 7, 7, 7, 7, 7, 7, 7, 7, 7, 7, 7, 7, 7, 7, 7, 7, 7, 7, 7, 7, 7, 7, 7, 7, 7, 7, 7, 7, 7, 7, 7, 7, 7, 7, 7, 7, 7, 7, 7, 7, 7, 7, 7, 7, 8, 8, 8, 8, 8, 8, 8, 8, 8, 8, 8, 8, 8, 8, 8, 8, 8, 8, 8, 8, 8, 8, 8, 8, 8, 8, 8, 8, 8, 8, 8, 8, 8, 8, 8, 8, 8, 8, 8, 8, 8, 8, 8, 8, 8, 8, 8, 8, 8, 8, 8, 8, 8, 8, 8, 8, 8, 8, 8, 8, 8, 8, 8, 8, 8, 8, 8, 8, 8, 8, 8, 8, 8, 8, 8, 8, 8, 8, 8, 8, 8, 8, 8, 8, 8, 8, 8, 8, 8, 8, 8, 8, 8, 8, 8, 8, 8, 8, 8, 8, 8, 8, 8, 8, 8, 8, 8, 8, 8, 8, 8, 8, 8, 8, 8, 8, 8, 8, 8, 8, 8, 8, 8, 8, 8, 8, 8, 8])) (.r 3), none⟩, ⟨some 5, .toInt .i64 (.r 4), none⟩, ⟨some 2, .mv (.r 5), none⟩]) 
 .ret)⟩
def c185 : AF := ⟨51, [.reg 4], .seq
  (.ops [⟨some 4, .mv (.c (.int .u64 (.ofNat 0))), none⟩]) 
 (.seq
  (.seq
  (.ops [⟨some 7, .mv (.r 0), none⟩, ⟨some 8, .eqnil false 0 (.r 7) (.c .nilptr), none⟩, ⟨some 9, .mv (.r 8), none⟩, ⟨some 10, .mv (.r 1), some (9, false)⟩, ⟨some 11, .bin .lss (.r 10) (.c (.int .i64 (.ofNat 1))), some (9, false)⟩, ⟨some 12, .pick (.r 9) (.c (.bool true)) (.r 11), none⟩, ⟨some 13, .mv (.r 12), none⟩, ⟨some 14, .mv (.r 1), some (13, false)⟩, ⟨some 15, .bin .gtr (.r 14) (.c (.int .i64 (.ofNat 56))), some (13, false)⟩, ⟨some 16, .pick (.r 13) (.c (.bool true)) (.r 15), none⟩]) 
 (.cond (.r 16) (.seq
  (.ops [⟨some 4, .mv (.c (.int .u64 (.ofNat 0))), none⟩]) 
 .ret) .skip)) 
 (.seq
  (.ops [⟨some 17, .mv (.r 0), none⟩, ⟨some 18, .nilCheck (.r 17), none⟩, ⟨some 19, .fieldAt 1 (.r 18), none⟩, ⟨some 20, .load1 (.r 19), none⟩, ⟨some 21, .maxmin true (.r 20) [.c (.int .i64 (.ofNat 0))], none⟩, ⟨some 22, .mv (.r 1), none⟩, ⟨some 23, .maxmin false (.r 21) [.r 22], none⟩, ⟨some 5, .mv (.r 23), none⟩]) 
 (.seq
  (.ops [⟨some 24, .mv (.r 0), none⟩, ⟨some 25, .nilCheck (.r 24), none⟩, ⟨some 26, .fieldAt 0 (.r 25), none⟩, ⟨some 27, .load1 (.r 26), none⟩, ⟨some 28, .mv (.r 0), none⟩, ⟨some 29, .nilCheck (.r 28), none⟩, ⟨some 30, .fieldAt 1 (.r 29), none⟩, ⟨some 31, .load1 (.r 30), none⟩, ⟨some 32, .maxmin true (.r 31) [.c (.int .i64 (.ofNat 0))], none⟩, ⟨some 33, .mv (.r 5), none⟩, ⟨some 34, .bin .sub (.r 32) (.r 33), none⟩, ⟨some 35, .mv (.r 5), none⟩, ⟨some 36, .call 201 [.r 27, .r 34, .r 35], none⟩, ⟨some 37, .mv (.r 1), none⟩, ⟨some 38, .mv (.r 5), none⟩, ⟨some 39, .bin .sub (.r 37) (.r 38), none⟩, ⟨some 40, .toInt .u64 (.r 39), none⟩, ⟨some 41, .bin .shl (.r 36) (.r 40), none⟩, ⟨some 6, .mv (.r 41), none⟩]) 
 (.seq
  (.ops [⟨some 42, .mv (.r 0), none⟩, ⟨some 43, .nilCheck (.r 42), none⟩, ⟨some 44, .fieldAt 1 (.r 43), none⟩, ⟨some 45, .load1 (.r 44), none⟩, ⟨some 46, .mv (.r 1), none⟩, ⟨some 47, .bin .sub (.r 45) (.r 46), none⟩, ⟨some 48, .nilCheck (.r 42), none⟩, ⟨some 49, .fieldAt 1 (.r 48), none⟩, ⟨none, .store 1 (.r 49) (.r 47), none⟩]) 
 (.seq
  (.ops [⟨some 50, .mv (.r 6), none⟩, ⟨some 4, .mv (.r 50), none⟩]) 
 .ret)))))⟩
def c186 : AF := ⟨53, [.reg 2], .seq
  (.ops [⟨some 2, .mv (.c (.int .i64 (.ofNat 0))), none⟩]) 
 (.seq
  (.ops [⟨some 7, .mv (.r 0), none⟩, ⟨some 8, .call 196 [.r 7], none⟩, ⟨some 6, .mv (.r 8), none⟩, ⟨some 9, .extract 0 (.r 6), none⟩, ⟨some 10, .extract 1 (.r 6), none⟩, ⟨some 3, .mv (.r 9), none⟩, ⟨some 4, .mv (.r 10), none⟩]) 
 (.seq
  (.seq
  (.ops [⟨some 11, .mv (.r 4), none⟩, ⟨some 12, .un .not (.r 11), none⟩, ⟨some 13, .mv (.r 12), none⟩, ⟨some 14, .mv (.r 0), some (13, false)⟩, ⟨some 15, .len .slice (.r 14), some (13, false)⟩, ⟨some 16, .bin .lss (.r 15) (.c (.int .i64 (.ofNat 2))), some (13, false)⟩, ⟨some 17, .pick (.r 13) (.c (.bool true)) (.r 16), none⟩, ⟨some 18, .mv (.r 17), none⟩, ⟨some 19, .mv (.r 0), some (18, false)⟩, ⟨some 20, .len .slice (.r 19), some (18, false)⟩, ⟨some 21, .bin .gtr (.r 20) (.c (.int .i64 (.ofNat 256))), some (18, false)⟩, ⟨some 22, .pick (.r 18) (.c (.bool true)) (.r 21), none⟩, ⟨some 23, .mv (.r 22), none⟩, ⟨some 24, .mv (.r 0), some (23, false)⟩, ⟨some 25, .mv (.r 0), some (23, false)⟩, ⟨some 26, .len .slice (.r 25), some (23, false)⟩, ⟨some 27, .bin .sub (.r 26) (.c (.int .i64 (.ofNat 1))), some (23, false)⟩, ⟨some 28, .indexSl 1 (.r 24) (.r 27), some (23, false)⟩, ⟨some 29, .load1 (.r 28), some (23, false)⟩, ⟨some 30, .bin .eql (.r 29) (.c (.int .u8 (.ofNat 0))), some (23, false)⟩, ⟨some 31, .pick (.r 23) (.c (.bool true)) (.r 30), none⟩, ⟨some 32, .mv (.r 31), none⟩, ⟨some 33, .mv (.r 3), some (32, false)⟩, ⟨some 34, .mv (.r 3), some (32, false)⟩, ⟨some 35, .bin .sub (.r 34) (.c (.int .i64 (.ofNat 1))), some (32, false)⟩, ⟨some 36, .bin .and (.r 33) (.r 35), some (32, false)⟩, ⟨some 37, .bin .neq (.r 36) (.c (.int .i64 (.ofNat 0))), some (32, false)⟩, ⟨some 38, .pick (.r 32) (.c (.bool true)) (.r 37), none⟩]) 
 (.cond (.r 38) (.seq
  (.ops [⟨some 2, .mv (.c (.int .i64 (.ofNat 0))), none⟩]) 
 .ret) .skip)) 
 (.seq
  (.ops [⟨some 39, .mv (.r 3), none⟩, ⟨some 40, .toInt .u64 (.r 39), none⟩, ⟨some 41, .call 71 [.r 40], none⟩, ⟨some 42, .bin .sub (.r 41) (.c (.int .i64 (.ofNat 1))), none⟩, ⟨some 5, .mv (.r 42), none⟩]) 
 (.seq
  (.seq
  (.ops [⟨some 43, .mv (.r 5), none⟩, ⟨some 44, .bin .gtr (.r 43) (.c (.int .i64 (.ofNat 11))), none⟩, ⟨some 45, .mv (.r 44), none⟩, ⟨some 46, .mv (.r 0), some (45, false)⟩, ⟨some 47, .call 202 [.r 46], some (45, false)⟩, ⟨some 48, .toInt .i64 (.r 47), some (45, false)⟩, ⟨some 49, .mv (.r 5), some (45, false)⟩, ⟨some 50, .bin .gtr (.r 48) (.r 49), some (45, false)⟩, ⟨some 51, .pick (.r 45) (.c (.bool true)) (.r 50), none⟩]) 
 (.cond (.r 51) (.seq
  (.ops [⟨some 2, .mv (.c (.int .i64 (.ofNat 0))), none⟩]) 
 .ret) .skip)) 
 (.seq
  (.ops [⟨some 52, .mv (.r 5), none⟩, ⟨some 2, .mv (.r 52), none⟩]) 
 .ret)))))⟩
def c187 : AF := ⟨26, [.reg 4, .reg 5], .seq
  (.ops [⟨some 4, .mv (.c .nilslice), none⟩, ⟨some 5, .mv (.c (.int .i64 (.ofNat 0))), none⟩]) 
 (.seq
  (.ops [⟨some 9, .mv (.r 0), none⟩, ⟨some 10, .call 203 [.r 9], none⟩, ⟨some 8, .mv (.r 10), none⟩, ⟨some 11, .extract 0 (.r 8), none⟩, ⟨some 12, .extract 1 (.r 8), none⟩, ⟨some 6, .mv (.r 11), none⟩, ⟨some 7, .mv (.r 12), none⟩]) 
 (.seq
  (.block 0 (.seq
  (.ops [⟨some 14, .mv (.r 7), none⟩, ⟨some 15, .bin .neq (.r 14) (.c (.int .i64 (.ofNat 0))), none⟩, ⟨some 13, .mv (.r 15), none⟩]) 
 (.cond (.r 13) (.seq
  (.ops [⟨some 16, .mv (.r 7), none⟩, ⟨some 4, .mv (.c .nilslice), none⟩, ⟨some 5, .mv (.r 16), none⟩]) 
 .ret) (.seq
  (.ops [⟨some 18, .mv (.r 1), none⟩, ⟨some 19, .len .slice (.r 18), none⟩, ⟨some 20, .bin .gtr (.r 19) (.c (.int .i64 (.ofNat 131072))), none⟩, ⟨some 17, .mv (.r 20), none⟩]) 
 (.cond (.r 17) (.seq
  (.ops [⟨some 4, .mv (.c .nilslice), none⟩, ⟨some 5, .mv (.c (.int .i64 (.ofNat 1))), none⟩]) 
 .ret) .skip))))) 
 (.seq
  (.ops [⟨some 21, .mv (.r 6), none⟩, ⟨some 22, .mv (.r 1), none⟩, ⟨some 23, .call 204 [.r 21, .r 22], none⟩, ⟨some 24, .extract 0 (.r 23), none⟩, ⟨some 25, .extract 1 (.r 23), none⟩, ⟨some 4, .mv (.r 24), none⟩, ⟨some 5, .mv (.r 25), none⟩]) 
 .ret)))⟩
def c188 : AF := ⟨76, [.reg 4, .reg 5], .seq
  (.ops [⟨some 4, .mv (.c .nilslice), none⟩, ⟨some 5, .mv (.c (.int .i64 (.ofNat 0))), none⟩]) 
 (.seq
  (.ops [⟨some 17, .mv (.r 0), none⟩, ⟨some 18, .call 203 [.r 17], none⟩, ⟨some 16, .mv (.r 18), none⟩, ⟨some 19, .extract 0 (.r 16), none⟩, ⟨some 20, .extract 1 (.r 16), none⟩, ⟨some 6, .mv (.r 19), none⟩, ⟨some 7, .mv (.r 20), none⟩]) 
 (.seq
  (.seq
  (.ops [⟨some 21, .mv (.r 7), none⟩, ⟨some 22, .bin .neq (.r 21) (.c (.int .i64 (.ofNat 0))), none⟩]) 
 (.cond (.r 22) (.seq
  (.ops [⟨some 23, .mv (.r 7), none⟩, ⟨some 4, .mv (.c .nilslice), none⟩, ⟨some 5, .mv (.r 23), none⟩]) 
 .ret) .skip)) 
 (.seq
  (.ops [⟨some 25, .mv (.r 1), none⟩, ⟨some 26, .len .slice (.r 25), none⟩, ⟨some 27, .call 199 [.r 26], none⟩, ⟨some 24, .mv (.r 27), none⟩, ⟨some 28, .extract 0 (.r 24), none⟩, ⟨some 29, .extract 1 (.r 24), none⟩, ⟨some 8, .alloc [.int .i64 (.ofNat 0), .int .i64 (.ofNat 0), .int .i64 (.ofNat 0), .int .i64 (.ofNat 0)], none⟩, ⟨none, .store 4 (.r 8) (.r 28), none⟩, ⟨some 9, .mv (.r 29), none⟩]) 
 (.seq
  (.seq
  (.ops [⟨some 30, .mv (.r 9), none⟩, ⟨some 31, .un .not (.r 30), none⟩, ⟨some 32, .mv (.r 31), none⟩, ⟨some 33, .mv (.r 1), some (32, false)⟩, ⟨some 34, .len .slice (.r 33), some (32, false)⟩, ⟨some 35, .bin .gtr (.r 34) (.c (.int .i64 (.ofNat 131072))), some (32, false)⟩, ⟨some 36, .pick (.r 32) (.c (.bool true)) (.r 35), none⟩]) 
 (.cond (.r 36) (.seq
  (.ops [⟨some 4, .mv (.c .nilslice), none⟩, ⟨some 5, .mv (.c (.int .i64 (.ofNat 1))), none⟩]) 
 .ret) .skip)) 
 (.seq
  (.ops [⟨some 37, .call 43 [], none⟩, ⟨some 10, .mv (.r 37), none⟩]) 
 (.seq
  (.ops [⟨some 11, .mv (.c .nilslice), none⟩]) 
 (.seq
  (.seq
  (.ops [⟨some 38, .loadN 4 (.r 8), none⟩, ⟨some 39, .mv (.c (.int .i64 (.ofNat 0))), none⟩]) 
 (.block 0 (.loop (.seq
  (.ops [⟨some 40, .bin .lss (.r 39) (.c (.int .i64 (.ofNat 4))), none⟩]) 
 (.seq
  (.cond (.r 40) .skip (.exit 0)) 
 (.seq
  (.block 1 (.seq
  (.ops [⟨some 41, .mv (.r 39), none⟩, ⟨some 42, .indexAgg 4 1 false (.r 38) (.r 39), none⟩, ⟨some 12, .mv (.r 41), none⟩, ⟨some 13, .mv (.r 42), none⟩]) 
 (.seq
  (.ops [⟨some 44, .mv (.r 6), none⟩, ⟨some 45, .mv (.r 1), none⟩, ⟨some 46, .mv (.r 13), none⟩, ⟨some 47, .sliceSl 1 false (.r 45) none (some (.r 46)) none, none⟩, ⟨some 48, .call 204 [.r 44, .r 47], none⟩, ⟨some 43, .mv (.r 48), none⟩, ⟨some 49, .extract 0 (.r 43), none⟩, ⟨some 50, .extract 1 (.r 43), none⟩, ⟨some 14, .mv (.r 49), none⟩, ⟨some 15, .mv (.r 50), none⟩]) 
 (.seq
  (.seq
  (.ops [⟨some 51, .mv (.r 15), none⟩, ⟨some 52, .bin .neq (.r 51) (.c (.int .i64 (.ofNat 0))), none⟩]) 
 (.cond (.r 52) (.seq
  (.ops [⟨some 53, .mv (.r 15), none⟩, ⟨some 4, .mv (.c .nilslice), none⟩, ⟨some 5, .mv (.r 53), none⟩]) 
 .ret) .skip)) 
 (.seq
  (.ops [⟨some 54, .mv (.r 1), none⟩, ⟨some 55, .mv (.r 13), none⟩, ⟨some 56, .sliceSl 1 true (.r 54) (some (.r 55)) none none, none⟩, ⟨some 1, .mv (.r 56), none⟩]) 
 (.seq
  (.seq
  (.ops [⟨some 57, .mv (.r 12), none⟩, ⟨some 58, .bin .lss (.r 57) (.c (.int .i64 (.ofNat 3))), none⟩]) 
 (.cond (.r 58) (.seq
  (.seq
  (.ops [⟨some 59, .mv (.r 14), none⟩, ⟨some 60, .len .slice (.r 59), none⟩, ⟨some 61, .bin .geq (.r 60) (.c (.int .i64 (.ofNat 65536))), none⟩]) 
 (.cond (.r 61) (.seq
  (.ops [⟨some 4, .mv (.c .nilslice), none⟩, ⟨some 5, .mv (.c (.int .i64 (.ofNat 1))), none⟩]) 
 .ret) .skip)) 
 (.ops [⟨some 62, .mv (.r 10), none⟩, ⟨some 63, .mv (.r 14), none⟩, ⟨some 64, .len .slice (.r 63), none⟩, ⟨some 65, .toInt .u64 (.r 64), none⟩, ⟨some 66, .call 44 [.r 62, .r 65, .c (.int .i64 (.ofNat 2))], none⟩])) .skip)) 
 (.ops [⟨some 67, .mv (.r 11), none⟩, ⟨some 68, .mv (.r 14), none⟩, ⟨some 69, .append 1 1 (.r 67) (.r 68), none⟩, ⟨some 11, .mv (.r 69), none⟩]))))))) 
 (.ops [⟨some 70, .bin .add (.r 39) (.c (.int .i64 (.ofNat 1))), none⟩, ⟨some 39, .mv (.r 70), none⟩]))))))) 
 (.seq
  (.ops [⟨some 71, .mv (.r 10), none⟩, ⟨some 72, .mv (.r 11), none⟩, ⟨some 73, .call 45 [.r 71, .r 72], none⟩]) 
 (.seq
  (.ops [⟨some 74, .mv (.r 10), none⟩, ⟨some 75, .call 46 [.r 74], none⟩, ⟨some 4, .mv (.r 75), none⟩, ⟨some 5, .mv (.c (.int .i64 (.ofNat 0))), none⟩]) 
 .ret)))))))))⟩
def c189 : AF := ⟨16, [.reg 2, .reg 3, .reg 4], .seq
  (.ops [⟨some 2, .mv (.c (.int .i64 (.ofNat 0))), none⟩, ⟨some 3, .mv (.c (.int .u32 (.ofNat 0))), none⟩, ⟨some 4, .mv (.c .nilslice), none⟩]) 
 (.seq
  (.seq
  (.ops [⟨some 7, .mv (.r 0), none⟩]) 
 (.block 0 (.seq
  (.ops [⟨some 9, .bin .eql (.r 7) (.c (.int .i64 (.ofNat 0))), none⟩, ⟨some 8, .mv (.r 9), none⟩]) 
 (.cond (.r 8) (.seq
  (.ops [⟨some 10, .loadN 20 (.c (.ptr 9 0)), none⟩, ⟨some 5, .alloc [.int .i64 (.ofNat 0), .int .i64 (.ofNat 0), .int .i64 (.ofNat 0), .int .i64 (.ofNat 0), .int .i64 (.ofNat 0), .int .i64 (.ofNat 0), .int .i64 (.ofNat 0), .int .i64 (.ofNat 0), .int .i64 (.ofNat 0), .int .i64 (.ofNat 0), .int .i64 (.ofNat 0), .int .i64 (.ofNat 0), .int .i64 (.ofNat 0), .int .i64 (.ofNat 0), .int .i64 (.ofNat 0), .int .i64 (.ofNat 0), .int .i64 (.ofNat 0), .int .i64 (.ofNat 0), .int .i64 (.ofNat 0), .int .i64 (.ofNat 0)], none⟩, ⟨none, .store 20 (.r 5) (.r 10), none⟩]) 
 (.seq
  (.ops [⟨some 11, .sliceArr 20 1 (.r 5) none none none, none⟩, ⟨some 2, .mv (.c (.int .i64 (.ofNat 16))), none⟩, ⟨some 3, .mv (.c (.int .u32 (.ofNat 0))), none⟩, ⟨some 4, .mv (.r 11), none⟩]) 
 .ret)) (.seq
  (.ops [⟨some 13, .bin .eql (.r 7) (.c (.int .i64 (.ofNat 2))), none⟩, ⟨some 12, .mv (.r 13), none⟩]) 
 (.cond (.r 12) (.seq
  (.ops [⟨some 14, .loadN 21 (.c (.ptr 10 0)), none⟩, ⟨some 6, .alloc [.int .i64 (.ofNat 0), .int .i64 (.ofNat 0), .int .i64 (.ofNat 0), .int .i64 (.ofNat 0), .int .i64 (.ofNat 0), .int .i64 (.ofNat 0), .int .i64 (.ofNat 0), .int .i64 (.ofNat 0), .int .i64 (.ofNat 0), .int .i64 (.ofNat 0), .int .i64 (.ofNat 0), .int .i64 (.ofNat 0), .int .i64 (.ofNat 0), .int .i64 (.ofNat 0), .int .i64 (.ofNat 0), .int .i64 (.ofNat 0), .int .i64 (.ofNat 0), .int .i64 (.ofNat 0), .int .i64 (.ofNat 0), .int .i64 (.ofNat 0), .int .i64 (.ofNat 0)], none⟩, ⟨none, .store 21 (.r 6) (.r 14), none⟩]) 
 (.seq
  (.ops [⟨some 15, .sliceArr 21 1 (.r 6) none none none, none⟩, ⟨some 2, .mv (.c (.int .i64 (.ofNat 32))), none⟩, ⟨some 3, .mv (.c (.int .u32 (.ofNat 3))), none⟩, ⟨some 4, .mv (.r 15), none⟩]) 
 .ret)) .skip)))))) 
 (.seq
  (.ops [⟨some 2, .mv (.c (.int .i64 (.ofNat 0))), none⟩, ⟨some 3, .mv (.c (.int .u32 (.ofNat 0))), none⟩, ⟨some 4, .mv (.c .nilslice), none⟩]) 
 .ret))⟩
def c190 : AF := ⟨14, [.reg 4], .seq
  (.ops [⟨some 2, .box 2 (.r 0), none⟩, ⟨some 4, .mv (.c (.int .i64 (.ofNat 0))), none⟩]) 
 (.seq
  (.block 0 (.seq
  (.ops [⟨some 6, .loadN 2 (.r 2), none⟩, ⟨some 7, .call 192 [.r 6], none⟩, ⟨some 8, .un .not (.r 7), none⟩, ⟨some 5, .mv (.r 8), none⟩]) 
 (.cond (.r 5) (.seq
  (.ops [⟨some 4, .mv (.c (.int .i64 (.ofNat 1))), none⟩]) 
 .ret) (.seq
  (.ops [⟨some 10, .fieldAt 0 (.r 2), none⟩, ⟨some 11, .load1 (.r 10), none⟩, ⟨some 12, .mv (.r 1), none⟩, ⟨some 13, .bin .gtr (.r 11) (.r 12), none⟩, ⟨some 9, .mv (.r 13), none⟩]) 
 (.cond (.r 9) (.seq
  (.ops [⟨some 4, .mv (.c (.int .i64 (.ofNat 12))), none⟩]) 
 .ret) .skip))))) 
 (.seq
  (.ops [⟨some 4, .mv (.c (.int .i64 (.ofNat 0))), none⟩]) 
 .ret))⟩
def c191 : AF := ⟨70, [.reg 2], .seq
  (.ops [⟨some 1, .box 2 (.r 0), none⟩, ⟨some 2, .mv (.c .nilslice), none⟩]) 
 (.seq
  (.ops [⟨some 11, .fieldAt 0 (.r 1), none⟩, ⟨some 12, .load1 (.r 11), none⟩, ⟨some 13, .bin .shl (.c (.int .i64 (.ofNat 1))) (.r 12), none⟩, ⟨some 3, .mv (.r 13), none⟩]) 
 (.seq
  (.ops [⟨some 14, .mv (.r 3), none⟩, ⟨some 15, .makeSlice 3 24 [.int .u8 (.ofNat 0), .int .i64 (.ofNat 0), .int .i64 (.ofNat 0)] (.r 14) (.r 14), none⟩, ⟨some 4, .mv (.r 15), none⟩]) 
 (.seq
  (.ops [⟨some 16, .mv (.r 3), none⟩, ⟨some 5, .mv (.r 16), none⟩]) 
 (.seq
  (.seq
  (.ops [⟨some 17, .fieldAt 1 (.r 1), none⟩, ⟨some 18, .load1 (.r 17), none⟩, ⟨some 19, .len .slice (.r 18), none⟩, ⟨some 20, .mv (.c (.int .i64 (.ofNat 0))), none⟩]) 
 (.block 0 (.loop (.seq
  (.ops [⟨some 21, .bin .lss (.r 20) (.r 19), none⟩]) 
 (.seq
  (.cond (.r 21) .skip (.exit 0)) 
 (.seq
  (.block 1 (.seq
  (.ops [⟨some 22, .mv (.r 20), none⟩, ⟨some 23, .indexSl 1 (.r 18) (.r 20), none⟩, ⟨some 24, .load1 (.r 23), none⟩, ⟨some 6, .mv (.r 22), none⟩, ⟨some 7, .mv (.r 24), none⟩]) 
 (.seq
  (.ops [⟨some 25, .mv (.r 7), none⟩, ⟨some 26, .bin .eql (.r 25) (.c (.int .i64 (.negSucc 0))), none⟩]) 
 (.cond (.r 26) (.seq
  (.ops [⟨some 27, .mv (.r 5), none⟩, ⟨some 28, .bin .sub (.r 27) (.c (.int .i64 (.ofNat 1))), none⟩, ⟨some 5, .mv (.r 28), none⟩]) 
 (.ops [⟨some 29, .mv (.r 4), none⟩, ⟨some 30, .mv (.r 5), none⟩, ⟨some 31, .mv (.r 6), none⟩, ⟨some 32, .toInt .u8 (.r 31), none⟩, ⟨some 33, .indexSl 3 (.r 29) (.r 30), none⟩, ⟨some 34, .fieldAt 0 (.r 33), none⟩, ⟨none, .store 1 (.r 34) (.r 32), none⟩])) .skip)))) 
 (.ops [⟨some 35, .bin .add (.r 20) (.c (.int .i64 (.ofNat 1))), none⟩, ⟨some 20, .mv (.r 35), none⟩]))))))) 
 (.seq
  (.ops [⟨some 8, .mv (.c (.int .i64 (.ofNat 0))), none⟩]) 
 (.seq
  (.seq
  (.ops [⟨some 36, .fieldAt 1 (.r 1), none⟩, ⟨some 37, .load1 (.r 36), none⟩, ⟨some 38, .len .slice (.r 37), none⟩, ⟨some 39, .mv (.c (.int .i64 (.ofNat 0))), none⟩]) 
 (.block 2 (.loop (.seq
  (.ops [⟨some 40, .bin .lss (.r 39) (.r 38), none⟩]) 
 (.seq
  (.cond (.r 40) .skip (.exit 2)) 
 (.seq
  (.block 3 (.seq
  (.ops [⟨some 41, .mv (.r 39), none⟩, ⟨some 42, .indexSl 1 (.r 37) (.r 39), none⟩, ⟨some 43, .load1 (.r 42), none⟩, ⟨some 9, .mv (.r 41), none⟩, ⟨some 10, .mv (.r 43), none⟩]) 
 (.seq
  .skip 
 (.seq
  (.ops [⟨some 44, .mv (.r 10), none⟩, ⟨some 45, .maxmin true (.r 44) [.c (.int .i64 (.ofNat 0))], none⟩, ⟨some 46, .mv (.c (.int .i64 (.ofNat 0))), none⟩]) 
 (.block 4 (.loop (.seq
  (.ops [⟨some 47, .bin .lss (.r 46) (.r 45), none⟩]) 
 (.seq
  (.cond (.r 47) .skip (.exit 4)) 
 (.seq
  (.block 5 (.seq
  (.ops [⟨some 48, .mv (.r 4), none⟩, ⟨some 49, .mv (.r 8), none⟩, ⟨some 50, .mv (.r 9), none⟩, ⟨some 51, .toInt .u8 (.r 50), none⟩, ⟨some 52, .indexSl 3 (.r 48) (.r 49), none⟩, ⟨some 53, .fieldAt 0 (.r 52), none⟩, ⟨none, .store 1 (.r 53) (.r 51), none⟩]) 
 (.block 6 (.loop (.block 7 (.seq
  (.ops [⟨some 54, .mv (.r 8), none⟩, ⟨some 55, .mv (.r 3), none⟩, ⟨some 56, .bin .shr (.r 55) (.c (.int .u64 (.ofNat 1))), none⟩, ⟨some 57, .bin .add (.r 54) (.r 56), none⟩, ⟨some 58, .mv (.r 3), none⟩, ⟨some 59, .bin .shr (.r 58) (.c (.int .u64 (.ofNat 3))), none⟩, ⟨some 60, .bin .add (.r 57) (.r 59), none⟩, ⟨some 61, .bin .add (.r 60) (.c (.int .i64 (.ofNat 3))), none⟩, ⟨some 62, .mv (.r 3), none⟩, ⟨some 63, .bin .rem (.r 61) (.r 62), none⟩, ⟨some 8, .mv (.r 63), none⟩]) 
 (.seq
  (.ops [⟨some 64, .mv (.r 8), none⟩, ⟨some 65, .mv (.r 5), none⟩, ⟨some 66, .bin .lss (.r 64) (.r 65), none⟩]) 
 (.cond (.r 66) (.exit 5) .skip)))))))) 
 (.ops [⟨some 67, .bin .add (.r 46) (.c (.int .i64 (.ofNat 1))), none⟩, ⟨some 46, .mv (.r 67), none⟩])))))))))) 
 (.ops [⟨some 68, .bin .add (.r 39) (.c (.int .i64 (.ofNat 1))), none⟩, ⟨some 39, .mv (.r 68), none⟩]))))))) 
 (.seq
  (.ops [⟨some 69, .mv (.r 4), none⟩, ⟨some 2, .mv (.r 69), none⟩]) 
 .ret)))))))⟩
def c192 : AF := ⟨62, [.reg 2], .seq
  (.ops [⟨some 1, .box 2 (.r 0), none⟩, ⟨some 2, .mv (.c (.bool false)), none⟩]) 
 (.seq
  (.seq
  (.ops [⟨some 6, .fieldAt 0 (.r 1), none⟩, ⟨some 7, .load1 (.r 6), none⟩, ⟨some 8, .bin .lss (.r 7) (.c (.int .i64 (.ofNat 5))), none⟩, ⟨some 9, .mv (.r 8), none⟩, ⟨some 10, .fieldAt 0 (.r 1), some (9, false)⟩, ⟨some 11, .load1 (.r 10), some (9, false)⟩, ⟨some 12, .bin .gtr (.r 11) (.c (.int .i64 (.ofNat 15))), some (9, false)⟩, ⟨some 13, .pick (.r 9) (.c (.bool true)) (.r 12), none⟩, ⟨some 14, .mv (.r 13), none⟩, ⟨some 15, .fieldAt 1 (.r 1), some (14, false)⟩, ⟨some 16, .load1 (.r 15), some (14, false)⟩, ⟨some 17, .len .slice (.r 16), some (14, false)⟩, ⟨some 18, .bin .lss (.r 17) (.c (.int .i64 (.ofNat 1))), some (14, false)⟩, ⟨some 19, .pick (.r 14) (.c (.bool true)) (.r 18), none⟩, ⟨some 20, .mv (.r 19), none⟩, ⟨some 21, .fieldAt 1 (.r 1), some (20, false)⟩, ⟨some 22, .load1 (.r 21), some (20, false)⟩, ⟨some 23, .len .slice (.r 22), some (20, false)⟩, ⟨some 24, .bin .gtr (.r 23) (.c (.int .i64 (.ofNat 256))), some (20, false)⟩, ⟨some 25, .pick (.r 20) (.c (.bool true)) (.r 24), none⟩, ⟨some 26, .mv (.r 25), none⟩, ⟨some 27, .fieldAt 1 (.r 1), some (26, false)⟩, ⟨some 28, .load1 (.r 27), some (26, false)⟩, ⟨some 29, .fieldAt 1 (.r 1), some (26, false)⟩, ⟨some 30, .load1 (.r 29), some (26, false)⟩, ⟨some 31, .len .slice (.r 30), some (26, false)⟩, ⟨some 32, .bin .sub (.r 31) (.c (.int .i64 (.ofNat 1))), some (26, false)⟩, ⟨some 33, .indexSl 1 (.r 28) (.r 32), some (26, false)⟩, ⟨some 34, .load1 (.r 33), some (26, false)⟩, ⟨some 35, .bin .eql (.r 34) (.c (.int .i64 (.ofNat 0))), some (26, false)⟩, ⟨some 36, .pick (.r 26) (.c (.bool true)) (.r 35), none⟩]) 
 (.cond (.r 36) (.seq
  (.ops [⟨some 2, .mv (.c (.bool false)), none⟩]) 
 .ret) .skip)) 
 (.seq
  (.ops [⟨some 37, .fieldAt 0 (.r 1), none⟩, ⟨some 38, .load1 (.r 37), none⟩, ⟨some 39, .bin .shl (.c (.int .i64 (.ofNat 1))) (.r 38), none⟩, ⟨some 3, .mv (.r 39), none⟩]) 
 (.seq
  (.seq
  (.ops [⟨some 40, .fieldAt 1 (.r 1), none⟩, ⟨some 41, .load1 (.r 40), none⟩, ⟨some 42, .len .slice (.r 41), none⟩, ⟨some 43, .mv (.c (.int .i64 (.ofNat 0))), none⟩]) 
 (.block 0 (.loop (.seq
  (.ops [⟨some 44, .bin .lss (.r 43) (.r 42), none⟩]) 
 (.seq
  (.cond (.r 44) .skip (.exit 0)) 
 (.seq
  (.block 1 (.seq
  (.ops [⟨some 45, .indexSl 1 (.r 41) (.r 43), none⟩, ⟨some 46, .load1 (.r 45), none⟩, ⟨some 5, .mv (.r 46), none⟩]) 
 (.seq
  (.seq
  (.ops [⟨some 47, .mv (.r 5), none⟩, ⟨some 48, .bin .lss (.r 47) (.c (.int .i64 (.negSucc 0))), none⟩, ⟨some 49, .mv (.r 48), none⟩, ⟨some 50, .mv (.r 5), some (49, false)⟩, ⟨some 51, .call 193 [.r 50], some (49, false)⟩, ⟨some 52, .mv (.r 3), some (49, false)⟩, ⟨some 53, .bin .gtr (.r 51) (.r 52), some (49, false)⟩, ⟨some 54, .pick (.r 49) (.c (.bool true)) (.r 53), none⟩]) 
 (.cond (.r 54) (.seq
  (.ops [⟨some 2, .mv (.c (.bool false)), none⟩]) 
 .ret) .skip)) 
 (.ops [⟨some 55, .mv (.r 3), none⟩, ⟨some 56, .mv (.r 5), none⟩, ⟨some 57, .call 193 [.r 56], none⟩, ⟨some 58, .bin .sub (.r 55) (.r 57), none⟩, ⟨some 3, .mv (.r 58), none⟩])))) 
 (.ops [⟨some 59, .bin .add (.r 43) (.c (.int .i64 (.ofNat 1))), none⟩, ⟨some 43, .mv (.r 59), none⟩]))))))) 
 (.seq
  (.ops [⟨some 60, .mv (.r 3), none⟩, ⟨some 61, .bin .eql (.r 60) (.c (.int .i64 (.ofNat 0))), none⟩, ⟨some 2, .mv (.r 61), none⟩]) 
 .ret))))⟩
def c193 : AF := ⟨6, [.reg 2], .seq
  (.ops [⟨some 2, .mv (.c (.int .i64 (.ofNat 0))), none⟩]) 
 (.seq
  (.seq
  (.ops [⟨some 3, .mv (.r 0), none⟩, ⟨some 4, .bin .lss (.r 3) (.c (.int .i64 (.ofNat 0))), none⟩]) 
 (.cond (.r 4) (.seq
  (.ops [⟨some 2, .mv (.c (.int .i64 (.ofNat 1))), none⟩]) 
 .ret) .skip)) 
 (.seq
  (.ops [⟨some 5, .mv (.r 0), none⟩, ⟨some 2, .mv (.r 5), none⟩]) 
 .ret))⟩
def c194 : AF := ⟨10, [.reg 2], .seq
  (.ops [⟨some 2, .mv (.c .nilslice), none⟩]) 
 (.seq
  (.seq
  (.ops [⟨some 3, .mv (.r 0), none⟩, ⟨some 4, .eqnil false 0 (.r 3) (.c .nilptr), none⟩]) 
 (.cond (.r 4) (.seq
  (.ops [⟨some 2, .mv (.c .nilslice), none⟩]) 
 .ret) .skip)) 
 (.seq
  (.ops [⟨some 5, .mv (.r 0), none⟩, ⟨some 6, .nilCheck (.r 5), none⟩, ⟨some 7, .fieldAt 0 (.r 6), none⟩, ⟨some 8, .load1 (.r 7), none⟩, ⟨some 9, .call 53 [.r 8], none⟩, ⟨some 2, .mv (.r 9), none⟩]) 
 .ret))⟩
def c195 : AF := ⟨104, [.cell 6 2 true, .reg 7, .reg 8], .seq
  (.ops [⟨some 6, .alloc [.int .i64 (.ofNat 0), .nilslice], none⟩, ⟨some 7, .mv (.c (.int .i64 (.ofNat 0))), none⟩, ⟨some 8, .mv (.c (.int .i64 (.ofNat 0))), none⟩]) 
 (.seq
  (.ops [⟨some 19, .mv (.r 0), none⟩, ⟨some 20, .call 205 [.r 19], none⟩, ⟨some 9, .mv (.r 20), none⟩]) 
 (.seq
  (.ops [⟨some 22, .mv (.r 9), none⟩, ⟨some 23, .call 206 [.r 22, .c (.int .i64 (.ofNat 4))], none⟩, ⟨some 21, .mv (.r 23), none⟩, ⟨some 24, .extract 0 (.r 21), none⟩, ⟨some 25, .extract 1 (.r 21), none⟩, ⟨some 10, .mv (.r 24), none⟩, ⟨some 11, .mv (.r 25), none⟩]) 
 (.seq
  (.seq
  (.ops [⟨some 26, .mv (.r 11), none⟩, ⟨some 27, .bin .neq (.r 26) (.c (.int .i64 (.ofNat 0))), none⟩]) 
 (.cond (.r 27) (.seq
  (.ops [⟨some 28, .build [.int .i64 (.ofNat 0), .nilslice] [], none⟩, ⟨some 29, .mv (.r 11), none⟩, ⟨none, .store 2 (.r 6) (.r 28), none⟩, ⟨some 7, .mv (.c (.int .i64 (.ofNat 0))), none⟩, ⟨some 8, .mv (.r 29), none⟩]) 
 .ret) .skip)) 
 (.seq
  (.ops [⟨some 30, .mv (.r 10), none⟩, ⟨some 31, .toInt .i64 (.r 30), none⟩, ⟨some 32, .bin .add (.r 31) (.c (.int .i64 (.ofNat 5))), none⟩, ⟨some 33, .build [.int .i64 (.ofNat 0), .nilslice] [(0, (1, .r 32))], none⟩, ⟨some 12, .alloc [.int .i64 (.ofNat 0), .nilslice], none⟩, ⟨none, .store 2 (.r 12) (.r 33), none⟩]) 
 (.seq
  (.seq
  (.ops [⟨some 34, .fieldAt 0 (.r 12), none⟩, ⟨some 35, .load1 (.r 34), none⟩, ⟨some 36, .mv (.r 1), none⟩, ⟨some 37, .bin .gtr (.r 35) (.r 36), none⟩, ⟨some 38, .mv (.r 37), none⟩, ⟨some 39, .fieldAt 0 (.r 12), some (38, false)⟩, ⟨some 40, .load1 (.r 39), some (38, false)⟩, ⟨some 41, .bin .gtr (.r 40) (.c (.int .i64 (.ofNat 15))), some (38, false)⟩, ⟨some 42, .pick (.r 38) (.c (.bool true)) (.r 41), none⟩]) 
 (.cond (.r 42) (.seq
  (.ops [⟨some 43, .build [.int .i64 (.ofNat 0), .nilslice] [], none⟩, ⟨none, .store 2 (.r 6) (.r 43), none⟩, ⟨some 7, .mv (.c (.int .i64 (.ofNat 0))), none⟩, ⟨some 8, .mv (.c (.int .i64 (.ofNat 12))), none⟩]) 
 .ret) .skip)) 
 (.seq
  (.ops [⟨some 44, .fieldAt 0 (.r 12), none⟩, ⟨some 45, .load1 (.r 44), none⟩, ⟨some 46, .bin .shl (.c (.int .i64 (.ofNat 1))) (.r 45), none⟩, ⟨some 13, .mv (.r 46), none⟩]) 
 (.seq
  (.block 0 (.loop (.seq
  (.seq
  (.ops [⟨some 47, .mv (.r 13), none⟩, ⟨some 48, .bin .gtr (.r 47) (.c (.int .i64 (.ofNat 0))), none⟩]) 
 (.cond (.r 48) .skip (.exit 0))) 
 (.block 1 (.seq
  (.ops [⟨some 50, .mv (.r 9), none⟩, ⟨some 51, .mv (.r 13), none⟩, ⟨some 52, .call 207 [.r 50, .r 51], none⟩, ⟨some 49, .mv (.r 52), none⟩, ⟨some 53, .extract 0 (.r 49), none⟩, ⟨some 54, .extract 1 (.r 49), none⟩, ⟨some 14, .mv (.r 53), none⟩, ⟨some 15, .mv (.r 54), none⟩]) 
 (.seq
  (.seq
  (.ops [⟨some 55, .mv (.r 15), none⟩, ⟨some 56, .bin .neq (.r 55) (.c (.int .i64 (.ofNat 0))), none⟩]) 
 (.cond (.r 56) (.seq
  (.ops [⟨some 57, .build [.int .i64 (.ofNat 0), .nilslice] [], none⟩, ⟨some 58, .mv (.r 15), none⟩, ⟨none, .store 2 (.r 6) (.r 57), none⟩, ⟨some 7, .mv (.c (.int .i64 (.ofNat 0))), none⟩, ⟨some 8, .mv (.r 58), none⟩]) 
 .ret) .skip)) 
 (.seq
  (.ops [⟨some 59, .mv (.r 14), none⟩, ⟨some 60, .bin .sub (.r 59) (.c (.int .i64 (.ofNat 1))), none⟩, ⟨some 16, .mv (.r 60), none⟩]) 
 (.seq
  (.ops [⟨some 61, .mv (.r 13), none⟩, ⟨some 62, .mv (.r 16), none⟩, ⟨some 63, .call 193 [.r 62], none⟩, ⟨some 64, .bin .sub (.r 61) (.r 63), none⟩, ⟨some 13, .mv (.r 64), none⟩]) 
 (.seq
  (.ops [⟨some 65, .fieldAt 1 (.r 12), none⟩, ⟨some 66, .load1 (.r 65), none⟩, ⟨some 67, .mv (.r 16), none⟩, ⟨some 68, .buildSlice 1 1 [.int .i64 (.ofNat 0)] [(0, (1, .r 67))], none⟩, ⟨some 69, .append 1 8 (.r 66) (.r 68), none⟩, ⟨some 70, .fieldAt 1 (.r 12), none⟩, ⟨none, .store 1 (.r 70) (.r 69), none⟩]) 
 (.seq
  (.seq
  (.ops [⟨some 71, .mv (.r 16), none⟩, ⟨some 72, .bin .eql (.r 71) (.c (.int .i64 (.ofNat 0))), none⟩]) 
 (.cond (.r 72) (.seq
  (.ops [⟨some 74, .mv (.r 9), none⟩, ⟨some 75, .call 208 [.r 74], none⟩, ⟨some 73, .mv (.r 75), none⟩, ⟨some 76, .extract 0 (.r 73), none⟩, ⟨some 77, .extract 1 (.r 73), none⟩, ⟨some 17, .mv (.r 76), none⟩, ⟨some 18, .mv (.r 77), none⟩]) 
 (.seq
  (.seq
  (.ops [⟨some 78, .mv (.r 18), none⟩, ⟨some 79, .bin .neq (.r 78) (.c (.int .i64 (.ofNat 0))), none⟩]) 
 (.cond (.r 79) (.seq
  (.ops [⟨some 80, .build [.int .i64 (.ofNat 0), .nilslice] [], none⟩, ⟨some 81, .mv (.r 18), none⟩, ⟨none, .store 2 (.r 6) (.r 80), none⟩, ⟨some 7, .mv (.c (.int .i64 (.ofNat 0))), none⟩, ⟨some 8, .mv (.r 81), none⟩]) 
 .ret) .skip)) 
 (.seq
  (.seq
  (.ops [⟨some 82, .mv (.r 17), none⟩, ⟨some 83, .mv (.r 2), none⟩, ⟨some 84, .bin .gtr (.r 82) (.r 83), none⟩]) 
 (.cond (.r 84) (.seq
  (.ops [⟨some 85, .build [.int .i64 (.ofNat 0), .nilslice] [], none⟩, ⟨none, .store 2 (.r 6) (.r 85), none⟩, ⟨some 7, .mv (.c (.int .i64 (.ofNat 0))), none⟩, ⟨some 8, .mv (.c (.int .i64 (.ofNat 11))), none⟩]) 
 .ret) .skip)) 
 (.ops [⟨some 86, .fieldAt 1 (.r 12), none⟩, ⟨some 87, .load1 (.r 86), none⟩, ⟨some 88, .mv (.r 17), none⟩, ⟨some 89, .appendZ 1 8 [.int .i64 (.ofNat 0)] (.r 87) (.r 88), none⟩, ⟨some 90, .fieldAt 1 (.r 12), none⟩, ⟨none, .store 1 (.r 90) (.r 89), none⟩])))) .skip)) 
 (.seq
  (.ops [⟨some 91, .fieldAt 1 (.r 12), none⟩, ⟨some 92, .load1 (.r 91), none⟩, ⟨some 93, .len .slice (.r 92), none⟩, ⟨some 94, .mv (.r 2), none⟩, ⟨some 95, .bin .gtr (.r 93) (.r 94), none⟩, ⟨some 96, .mv (.r 95), none⟩, ⟨some 97, .mv (.r 13), some (96, false)⟩, ⟨some 98, .bin .lss (.r 97) (.c (.int .i64 (.ofNat 0))), some (96, false)⟩, ⟨some 99, .pick (.r 96) (.c (.bool true)) (.r 98), none⟩]) 
 (.cond (.r 99) (.seq
  (.ops [⟨some 100, .build [.int .i64 (.ofNat 0), .nilslice] [], none⟩, ⟨none, .store 2 (.r 6) (.r 100), none⟩, ⟨some 7, .mv (.c (.int .i64 (.ofNat 0))), none⟩, ⟨some 8, .mv (.c (.int .i64 (.ofNat 11))), none⟩]) 
 .ret) .skip)))))))))))) 
 (.seq
  (.multi [(1, ⟨some 101, .loadN 2 (.r 12), none⟩), (0, ⟨some 102, .mv (.r 9), none⟩), (4, ⟨some 103, .call 209 [.r 102], none⟩), (5, ⟨none, .store 2 (.r 6) (.r 101), none⟩), (0, ⟨some 7, .mv (.r 103), none⟩), (0, ⟨some 8, .mv (.c (.int .i64 (.ofNat 0))), none⟩)] [(0, 2)]) 
 .ret))))))))⟩
def c196 : AF := ⟨24, [.reg 2, .reg 3], .seq
  (.ops [⟨some 2, .mv (.c (.int .i64 (.ofNat 0))), none⟩, ⟨some 3, .mv (.c (.bool false)), none⟩]) 
 (.seq
  (.ops [⟨some 4, .mv (.c (.int .i64 (.ofNat 0))), none⟩]) 
 (.seq
  (.seq
  (.ops [⟨some 7, .mv (.r 0), none⟩, ⟨some 8, .len .slice (.r 7), none⟩, ⟨some 9, .mv (.c (.int .i64 (.ofNat 0))), none⟩]) 
 (.block 0 (.loop (.seq
  (.ops [⟨some 10, .bin .lss (.r 9) (.r 8), none⟩]) 
 (.seq
  (.cond (.r 10) .skip (.exit 0)) 
 (.seq
  (.block 1 (.seq
  (.ops [⟨some 11, .indexSl 1 (.r 7) (.r 9), none⟩, ⟨some 12, .load1 (.r 11), none⟩, ⟨some 6, .mv (.r 12), none⟩]) 
 (.seq
  (.seq
  (.ops [⟨some 13, .mv (.r 6), none⟩, ⟨some 14, .bin .gtr (.r 13) (.c (.int .u8 (.ofNat 11))), none⟩]) 
 (.cond (.r 14) (.seq
  (.ops [⟨some 2, .mv (.c (.int .i64 (.ofNat 0))), none⟩, ⟨some 3, .mv (.c (.bool false)), none⟩]) 
 .ret) .skip)) 
 (.seq
  (.ops [⟨some 15, .mv (.r 6), none⟩, ⟨some 16, .bin .gtr (.r 15) (.c (.int .u8 (.ofNat 0))), none⟩]) 
 (.cond (.r 16) (.ops [⟨some 17, .mv (.r 4), none⟩, ⟨some 18, .mv (.r 6), none⟩, ⟨some 19, .bin .sub (.r 18) (.c (.int .u8 (.ofNat 1))), none⟩, ⟨some 20, .bin .shl (.c (.int .i64 (.ofNat 1))) (.r 19), none⟩, ⟨some 21, .bin .add (.r 17) (.r 20), none⟩, ⟨some 4, .mv (.r 21), none⟩]) .skip))))) 
 (.ops [⟨some 22, .bin .add (.r 9) (.c (.int .i64 (.ofNat 1))), none⟩, ⟨some 9, .mv (.r 22), none⟩]))))))) 
 (.seq
  (.ops [⟨some 23, .mv (.r 4), none⟩, ⟨some 2, .mv (.r 23), none⟩, ⟨some 3, .mv (.c (.bool true)), none⟩]) 
 .ret)))⟩
def c197 : AF := ⟨82, [.cell 2 2 true, .reg 3], .seq
  (.ops [⟨some 2, .alloc [.int .i64 (.ofNat 0), .nilslice], none⟩, ⟨some 3, .mv (.c (.int .i64 (.ofNat 0))), none⟩]) 
 (.seq
  (.ops [⟨some 14, .mv (.r 0), none⟩, ⟨some 15, .call 203 [.r 14], none⟩, ⟨some 13, .mv (.r 15), none⟩, ⟨some 16, .extract 0 (.r 13), none⟩, ⟨some 17, .extract 1 (.r 13), none⟩, ⟨some 4, .mv (.r 16), none⟩, ⟨some 5, .mv (.r 17), none⟩]) 
 (.seq
  (.seq
  (.ops [⟨some 18, .mv (.r 5), none⟩, ⟨some 19, .bin .neq (.r 18) (.c (.int .i64 (.ofNat 0))), none⟩]) 
 (.cond (.r 19) (.seq
  (.ops [⟨some 20, .build [.int .i64 (.ofNat 0), .nilslice] [], none⟩, ⟨some 21, .mv (.r 5), none⟩, ⟨none, .store 2 (.r 2) (.r 20), none⟩, ⟨some 3, .mv (.r 21), none⟩]) 
 .ret) .skip)) 
 (.seq
  (.ops [⟨some 22, .build [.int .i64 (.ofNat 0), .nilslice] [], none⟩, ⟨some 6, .alloc [.int .i64 (.ofNat 0), .nilslice], none⟩, ⟨none, .store 2 (.r 6) (.r 22), none⟩]) 
 (.seq
  (.seq
  (.ops [⟨some 23, .mv (.r 4), none⟩, ⟨some 24, .len .slice (.r 23), none⟩, ⟨some 25, .mv (.c (.int .i64 (.ofNat 0))), none⟩]) 
 (.block 0 (.loop (.seq
  (.ops [⟨some 26, .bin .lss (.r 25) (.r 24), none⟩]) 
 (.seq
  (.cond (.r 26) .skip (.exit 0)) 
 (.seq
  (.block 1 (.seq
  (.ops [⟨some 27, .indexSl 2 (.r 23) (.r 25), none⟩, ⟨some 28, .loadN 2 (.r 27), none⟩, ⟨some 8, .alloc [.int .i64 (.ofNat 0), .int .i64 (.ofNat 0)], none⟩, ⟨none, .store 2 (.r 8) (.r 28), none⟩]) 
 (.ops [⟨some 29, .fieldAt 0 (.r 6), none⟩, ⟨some 30, .load1 (.r 29), none⟩, ⟨some 31, .fieldAt 0 (.r 8), none⟩, ⟨some 32, .load1 (.r 31), none⟩, ⟨some 33, .maxmin true (.r 30) [.r 32], none⟩, ⟨some 34, .fieldAt 0 (.r 6), none⟩, ⟨none, .store 1 (.r 34) (.r 33), none⟩]))) 
 (.ops [⟨some 35, .bin .add (.r 25) (.c (.int .i64 (.ofNat 1))), none⟩, ⟨some 25, .mv (.r 35), none⟩]))))))) 
 (.seq
  (.ops [⟨some 36, .fieldAt 0 (.r 6), none⟩, ⟨some 37, .load1 (.r 36), none⟩, ⟨some 38, .bin .shl (.c (.int .i64 (.ofNat 1))) (.r 37), none⟩, ⟨some 39, .makeSlice 2 16 [.int .u8 (.ofNat 0), .int .i64 (.ofNat 0)] (.r 38) (.r 38), none⟩, ⟨some 40, .fieldAt 1 (.r 6), none⟩, ⟨none, .store 1 (.r 40) (.r 39), none⟩]) 
 (.seq
  (.seq
  (.ops [⟨some 41, .mv (.r 4), none⟩, ⟨some 42, .len .slice (.r 41), none⟩, ⟨some 43, .mv (.c (.int .i64 (.ofNat 0))), none⟩]) 
 (.block 2 (.loop (.seq
  (.ops [⟨some 44, .bin .lss (.r 43) (.r 42), none⟩]) 
 (.seq
  (.cond (.r 44) .skip (.exit 2)) 
 (.seq
  (.block 3 (.seq
  (.ops [⟨some 45, .mv (.r 43), none⟩, ⟨some 46, .indexSl 2 (.r 41) (.r 43), none⟩, ⟨some 47, .loadN 2 (.r 46), none⟩, ⟨some 10, .alloc [.int .i64 (.ofNat 0), .int .i64 (.ofNat 0)], none⟩, ⟨some 9, .mv (.r 45), none⟩, ⟨none, .store 2 (.r 10) (.r 47), none⟩]) 
 (.seq
  (.seq
  (.ops [⟨some 48, .fieldAt 0 (.r 10), none⟩, ⟨some 49, .load1 (.r 48), none⟩, ⟨some 50, .bin .eql (.r 49) (.c (.int .i64 (.ofNat 0))), none⟩]) 
 (.cond (.r 50) (.exit 3) .skip)) 
 (.seq
  (.ops [⟨some 51, .fieldAt 1 (.r 10), none⟩, ⟨some 52, .load1 (.r 51), none⟩, ⟨some 53, .fieldAt 0 (.r 6), none⟩, ⟨some 54, .load1 (.r 53), none⟩, ⟨some 55, .fieldAt 0 (.r 10), none⟩, ⟨some 56, .load1 (.r 55), none⟩, ⟨some 57, .bin .sub (.r 54) (.r 56), none⟩, ⟨some 58, .bin .shl (.r 52) (.r 57), none⟩, ⟨some 11, .mv (.r 58), none⟩]) 
 (.seq
  (.ops [⟨some 59, .fieldAt 0 (.r 6), none⟩, ⟨some 60, .load1 (.r 59), none⟩, ⟨some 61, .fieldAt 0 (.r 10), none⟩, ⟨some 62, .load1 (.r 61), none⟩, ⟨some 63, .bin .sub (.r 60) (.r 62), none⟩, ⟨some 64, .bin .shl (.c (.int .i64 (.ofNat 1))) (.r 63), none⟩, ⟨some 65, .mv (.c (.int .i64 (.ofNat 0))), none⟩]) 
 (.block 4 (.loop (.seq
  (.ops [⟨some 66, .bin .lss (.r 65) (.r 64), none⟩]) 
 (.seq
  (.cond (.r 66) .skip (.exit 4)) 
 (.seq
  (.block 5 (.seq
  (.ops [⟨some 67, .mv (.r 65), none⟩, ⟨some 12, .mv (.r 67), none⟩]) 
 (.ops [⟨some 68, .fieldAt 1 (.r 6), none⟩, ⟨some 69, .load1 (.r 68), none⟩, ⟨some 70, .mv (.r 11), none⟩, ⟨some 71, .mv (.r 12), none⟩, ⟨some 72, .bin .add (.r 70) (.r 71), none⟩, ⟨some 73, .mv (.r 9), none⟩, ⟨some 74, .toInt .u8 (.r 73), none⟩, ⟨some 75, .fieldAt 0 (.r 10), none⟩, ⟨some 76, .load1 (.r 75), none⟩, ⟨some 77, .build [.int .u8 (.ofNat 0), .int .i64 (.ofNat 0)] [(0, (1, .r 74)), (1, (1, .r 76))], none⟩, ⟨some 78, .indexSl 2 (.r 69) (.r 72), none⟩, ⟨none, .store 2 (.r 78) (.r 77), none⟩]))) 
 (.ops [⟨some 79, .bin .add (.r 65) (.c (.int .i64 (.ofNat 1))), none⟩, ⟨some 65, .mv (.r 79), none⟩]))))))))))) 
 (.ops [⟨some 80, .bin .add (.r 43) (.c (.int .i64 (.ofNat 1))), none⟩, ⟨some 43, .mv (.r 80), none⟩]))))))) 
 (.seq
  (.ops [⟨some 81, .loadN 2 (.r 6), none⟩, ⟨none, .store 2 (.r 2) (.r 81), none⟩, ⟨some 3, .mv (.c (.int .i64 (.ofNat 0))), none⟩]) 
 .ret)))))))⟩
def c198 : AF := ⟨73, [.reg 6, .reg 7], .seq
  (.ops [⟨some 3, .box 2 (.r 0), none⟩, ⟨some 6, .mv (.c .nilslice), none⟩, ⟨some 7, .mv (.c (.int .i64 (.ofNat 0))), none⟩]) 
 (.seq
  (.ops [⟨some 17, .mv (.r 1), none⟩, ⟨some 18, .call 148 [.r 17], none⟩, ⟨some 16, .mv (.r 18), none⟩, ⟨some 19, .extract 0 (.r 16), none⟩, ⟨some 20, .extract 1 (.r 16), none⟩, ⟨some 8, .mv (.r 19), none⟩, ⟨some 9, .mv (.r 20), none⟩]) 
 (.seq
  (.seq
  (.ops [⟨some 21, .mv (.r 9), none⟩, ⟨some 22, .bin .neq (.r 21) (.c (.int .i64 (.ofNat 0))), none⟩]) 
 (.cond (.r 22) (.seq
  (.ops [⟨some 23, .mv (.r 9), none⟩, ⟨some 6, .mv (.c .nilslice), none⟩, ⟨some 7, .mv (.r 23), none⟩]) 
 .ret) .skip)) 
 (.seq
  (.ops [⟨some 24, .mv (.r 2), none⟩, ⟨some 25, .makeSlice 1 1 [.int .u8 (.ofNat 0)] (.c (.int .i64 (.ofNat 0))) (.r 24), none⟩, ⟨some 10, .mv (.r 25), none⟩]) 
 (.seq
  (.ops [⟨some 11, .mv (.c (.int .i64 (.ofNat 0))), none⟩, ⟨some 12, .mv (.c (.int .i64 (.ofNat 0))), none⟩]) 
 (.seq
  (.seq
  (.ops [⟨some 26, .mv (.r 2), none⟩, ⟨some 27, .mv (.c (.int .i64 (.ofNat 0))), none⟩]) 
 (.block 0 (.loop (.seq
  (.ops [⟨some 28, .bin .lss (.r 27) (.r 26), none⟩]) 
 (.seq
  (.cond (.r 28) .skip (.exit 0)) 
 (.seq
  (.block 1 (.seq
  (.ops [⟨some 29, .fieldAt 0 (.r 3), none⟩, ⟨some 30, .load1 (.r 29), none⟩, ⟨some 31, .mv (.r 12), none⟩, ⟨some 32, .bin .sub (.r 30) (.r 31), none⟩, ⟨some 13, .mv (.r 32), none⟩]) 
 (.seq
  (.ops [⟨some 33, .mv (.r 11), none⟩, ⟨some 34, .mv (.r 13), none⟩, ⟨some 35, .bin .shl (.r 33) (.r 34), none⟩, ⟨some 36, .mv (.r 8), none⟩, ⟨some 37, .mv (.r 13), none⟩, ⟨some 38, .call 185 [.r 36, .r 37], none⟩, ⟨some 39, .toInt .i64 (.r 38), none⟩, ⟨some 40, .bin .or (.r 35) (.r 39), none⟩, ⟨some 11, .mv (.r 40), none⟩]) 
 (.seq
  (.ops [⟨some 41, .fieldAt 1 (.r 3), none⟩, ⟨some 42, .load1 (.r 41), none⟩, ⟨some 43, .mv (.r 11), none⟩, ⟨some 44, .indexSl 2 (.r 42) (.r 43), none⟩, ⟨some 45, .loadN 2 (.r 44), none⟩, ⟨some 14, .alloc [.int .u8 (.ofNat 0), .int .i64 (.ofNat 0)], none⟩, ⟨none, .store 2 (.r 14) (.r 45), none⟩]) 
 (.seq
  (.ops [⟨some 46, .mv (.r 10), none⟩, ⟨some 47, .fieldAt 0 (.r 14), none⟩, ⟨some 48, .load1 (.r 47), none⟩, ⟨some 49, .buildSlice 1 1 [.int .u8 (.ofNat 0)] [(0, (1, .r 48))], none⟩, ⟨some 50, .append 1 1 (.r 46) (.r 49), none⟩, ⟨some 10, .mv (.r 50), none⟩]) 
 (.seq
  (.ops [⟨some 51, .fieldAt 0 (.r 3), none⟩, ⟨some 52, .load1 (.r 51), none⟩, ⟨some 53, .fieldAt 1 (.r 14), none⟩, ⟨some 54, .load1 (.r 53), none⟩, ⟨some 55, .bin .sub (.r 52) (.r 54), none⟩, ⟨some 12, .mv (.r 55), none⟩]) 
 (.ops [⟨some 56, .mv (.r 11), none⟩, ⟨some 57, .mv (.r 12), none⟩, ⟨some 58, .bin .shl (.c (.int .i64 (.ofNat 1))) (.r 57), none⟩, ⟨some 59, .bin .sub (.r 58) (.c (.int .i64 (.ofNat 1))), none⟩, ⟨some 60, .bin .and (.r 56) (.r 59), none⟩, ⟨some 11, .mv (.r 60), none⟩]))))))) 
 (.ops [⟨some 61, .bin .add (.r 27) (.c (.int .i64 (.ofNat 1))), none⟩, ⟨some 27, .mv (.r 61), none⟩]))))))) 
 (.seq
  (.seq
  (.ops [⟨some 62, .mv (.r 8), none⟩, ⟨some 63, .call 152 [.r 62], none⟩, ⟨some 64, .mv (.r 12), none⟩, ⟨some 65, .bin .add (.r 63) (.r 64), none⟩, ⟨some 15, .mv (.r 65), none⟩]) 
 (.block 2 (.seq
  (.ops [⟨some 67, .mv (.r 15), none⟩, ⟨some 68, .bin .lss (.r 67) (.c (.int .i64 (.ofNat 0))), none⟩, ⟨some 66, .mv (.r 68), none⟩]) 
 (.cond (.r 66) (.seq
  (.ops [⟨some 6, .mv (.c .nilslice), none⟩, ⟨some 7, .mv (.c (.int .i64 (.ofNat 11))), none⟩]) 
 .ret) (.seq
  (.ops [⟨some 70, .mv (.r 15), none⟩, ⟨some 71, .bin .gtr (.r 70) (.c (.int .i64 (.ofNat 0))), none⟩, ⟨some 69, .mv (.r 71), none⟩]) 
 (.cond (.r 69) (.seq
  (.ops [⟨some 6, .mv (.c .nilslice), none⟩, ⟨some 7, .mv (.c (.int .i64 (.ofNat 15))), none⟩]) 
 .ret) .skip)))))) 
 (.seq
  (.ops [⟨some 72, .mv (.r 10), none⟩, ⟨some 6, .mv (.r 72), none⟩, ⟨some 7, .mv (.c (.int .i64 (.ofNat 0))), none⟩]) 
 .ret)))))))⟩
def c199 : AF := ⟨21, [.cell 2 4 true, .reg 3], .seq
  (.ops [⟨some 2, .alloc [.int .i64 (.ofNat 0), .int .i64 (.ofNat 0), .int .i64 (.ofNat 0), .int .i64 (.ofNat 0)], none⟩, ⟨some 3, .mv (.c (.bool false)), none⟩]) 
 (.seq
  (.ops [⟨some 5, .mv (.r 0), none⟩, ⟨some 6, .bin .add (.r 5) (.c (.int .i64 (.ofNat 4))), none⟩, ⟨some 7, .bin .sub (.r 6) (.c (.int .i64 (.ofNat 1))), none⟩, ⟨some 8, .bin .quo (.r 7) (.c (.int .i64 (.ofNat 4))), none⟩, ⟨some 4, .mv (.r 8), none⟩]) 
 (.seq
  (.ops [⟨some 9, .mv (.r 4), none⟩, ⟨some 10, .mv (.r 4), none⟩, ⟨some 11, .mv (.r 4), none⟩, ⟨some 12, .mv (.r 0), none⟩, ⟨some 13, .mv (.r 4), none⟩, ⟨some 14, .bin .mul (.c (.int .i64 (.ofNat 3))) (.r 13), none⟩, ⟨some 15, .bin .sub (.r 12) (.r 14), none⟩, ⟨some 16, .build [.int .i64 (.ofNat 0), .int .i64 (.ofNat 0), .int .i64 (.ofNat 0), .int .i64 (.ofNat 0)] [(0, (1, .r 9)), (1, (1, .r 10)), (2, (1, .r 11)), (3, (1, .r 15))], none⟩, ⟨some 17, .mv (.r 0), none⟩, ⟨some 18, .mv (.r 4), none⟩, ⟨some 19, .bin .mul (.c (.int .i64 (.ofNat 3))) (.r 18), none⟩, ⟨some 20, .bin .geq (.r 17) (.r 19), none⟩, ⟨none, .store 4 (.r 2) (.r 16), none⟩, ⟨some 3, .mv (.r 20), none⟩]) 
 .ret))⟩
def c200 : AF := ⟨9, [.cell 2 2 true, .reg 3], .seq
  (.ops [⟨some 2, .alloc [.int .i64 (.ofNat 0), .nilslice], none⟩, ⟨some 3, .mv (.c (.int .i64 (.ofNat 0))), none⟩]) 
 (.seq
  (.ops [⟨some 4, .mv (.r 0), none⟩, ⟨some 5, .call 166 [.r 4], none⟩, ⟨some 6, .call 168 [.r 5], none⟩, ⟨some 7, .extract 0 (.r 6), none⟩, ⟨some 8, .extract 1 (.r 6), none⟩, ⟨none, .store 2 (.r 2) (.r 7), none⟩, ⟨some 3, .mv (.r 8), none⟩]) 
 .ret)⟩
def c201 : AF := ⟨34, [.reg 6], .seq
  (.ops [⟨some 6, .mv (.c (.int .u64 (.ofNat 0))), none⟩]) 
 (.seq
  (.ops [⟨some 7, .mv (.c (.int .u64 (.ofNat 0))), none⟩]) 
 (.seq
  (.seq
  (.ops [⟨some 10, .mv (.r 2), none⟩, ⟨some 11, .mv (.c (.int .i64 (.ofNat 0))), none⟩]) 
 (.block 0 (.loop (.seq
  (.ops [⟨some 12, .bin .lss (.r 11) (.r 10), none⟩]) 
 (.seq
  (.cond (.r 12) .skip (.exit 0)) 
 (.seq
  (.block 1 (.seq
  (.ops [⟨some 13, .mv (.r 11), none⟩, ⟨some 8, .mv (.r 13), none⟩]) 
 (.seq
  (.ops [⟨some 14, .mv (.r 1), none⟩, ⟨some 15, .mv (.r 8), none⟩, ⟨some 16, .bin .add (.r 14) (.r 15), none⟩, ⟨some 9, .mv (.r 16), none⟩]) 
 (.ops [⟨some 17, .mv (.r 7), none⟩, ⟨some 18, .mv (.r 0), none⟩, ⟨some 19, .mv (.r 9), none⟩, ⟨some 20, .bin .quo (.r 19) (.c (.int .i64 (.ofNat 8))), none⟩, ⟨some 21, .indexSl 1 (.r 18) (.r 20), none⟩, ⟨some 22, .load1 (.r 21), none⟩, ⟨some 23, .mv (.r 9), none⟩, ⟨some 24, .bin .rem (.r 23) (.c (.int .i64 (.ofNat 8))), none⟩, ⟨some 25, .bin .shr (.r 22) (.r 24), none⟩, ⟨some 26, .bin .and (.r 25) (.c (.int .u8 (.ofNat 1))), none⟩, ⟨some 27, .toInt .u64 (.r 26), none⟩, ⟨some 28, .mv (.r 8), none⟩, ⟨some 29, .toInt .u64 (.r 28), none⟩, ⟨some 30, .bin .shl (.r 27) (.r 29), none⟩, ⟨some 31, .bin .or (.r 17) (.r 30), none⟩, ⟨some 7, .mv (.r 31), none⟩])))) 
 (.ops [⟨some 32, .bin .add (.r 11) (.c (.int .i64 (.ofNat 1))), none⟩, ⟨some 11, .mv (.r 32), none⟩]))))))) 
 (.seq
  (.ops [⟨some 33, .mv (.r 7), none⟩, ⟨some 6, .mv (.r 33), none⟩]) 
 .ret)))⟩
def c202 : AF := ⟨25, [.reg 2], .seq
  (.ops [⟨some 2, .mv (.c (.int .u8 (.ofNat 0))), none⟩]) 
 (.seq
  (.seq
  (.ops [⟨some 5, .mv (.r 0), none⟩, ⟨some 6, .len .slice (.r 5), none⟩, ⟨some 7, .bin .lss (.r 6) (.c (.int .i64 (.ofNat 1))), none⟩]) 
 (.cond (.r 7) (.ops [⟨some 8, .bad 0, none⟩, ⟨none, .bad 0, none⟩]) .skip)) 
 (.seq
  (.ops [⟨some 9, .mv (.r 0), none⟩, ⟨some 10, .indexSl 1 (.r 9) (.c (.int .i64 (.ofNat 0))), none⟩, ⟨some 11, .load1 (.r 10), none⟩, ⟨some 3, .mv (.r 11), none⟩]) 
 (.seq
  (.seq
  (.ops [⟨some 4, .mv (.c (.int .i64 (.ofNat 1))), none⟩]) 
 (.block 0 (.loop (.seq
  (.seq
  (.ops [⟨some 12, .mv (.r 4), none⟩, ⟨some 13, .mv (.r 0), none⟩, ⟨some 14, .len .slice (.r 13), none⟩, ⟨some 15, .bin .lss (.r 12) (.r 14), none⟩]) 
 (.cond (.r 15) .skip (.exit 0))) 
 (.seq
  (.block 1 (.ops [⟨some 18, .mv (.r 3), none⟩, ⟨some 19, .mv (.r 0), none⟩, ⟨some 20, .mv (.r 4), none⟩, ⟨some 21, .indexSl 1 (.r 19) (.r 20), none⟩, ⟨some 22, .load1 (.r 21), none⟩, ⟨some 23, .maxmin true (.r 18) [.r 22], none⟩, ⟨some 3, .mv (.r 23), none⟩])) 
 (.ops [⟨some 16, .mv (.r 4), none⟩, ⟨some 17, .bin .add (.r 16) (.c (.int .i64 (.ofNat 1))), none⟩, ⟨some 4, .mv (.r 17), none⟩])))))) 
 (.seq
  (.ops [⟨some 24, .mv (.r 3), none⟩, ⟨some 2, .mv (.r 24), none⟩]) 
 .ret))))⟩
def c203 : AF := ⟨52, [.reg 2, .reg 3], .seq
  (.ops [⟨some 2, .mv (.c .nilslice), none⟩, ⟨some 3, .mv (.c (.int .i64 (.ofNat 0))), none⟩]) 
 (.seq
  (.ops [⟨some 9, .mv (.r 0), none⟩, ⟨some 10, .call 186 [.r 9], none⟩, ⟨some 4, .mv (.r 10), none⟩]) 
 (.seq
  (.seq
  (.ops [⟨some 11, .mv (.r 4), none⟩, ⟨some 12, .bin .eql (.r 11) (.c (.int .i64 (.ofNat 0))), none⟩]) 
 (.cond (.r 12) (.seq
  (.ops [⟨some 2, .mv (.c .nilslice), none⟩, ⟨some 3, .mv (.c (.int .i64 (.ofNat 1))), none⟩]) 
 .ret) .skip)) 
 (.seq
  (.ops [⟨some 13, .mv (.r 0), none⟩, ⟨some 14, .len .slice (.r 13), none⟩, ⟨some 15, .makeSlice 2 16 [.int .i64 (.ofNat 0), .int .i64 (.ofNat 0)] (.r 14) (.r 14), none⟩, ⟨some 5, .mv (.r 15), none⟩]) 
 (.seq
  (.ops [⟨some 6, .mv (.c (.int .i64 (.ofNat 0))), none⟩]) 
 (.seq
  (.seq
  (.ops [⟨some 7, .mv (.c (.int .i64 (.ofNat 1))), none⟩]) 
 (.block 0 (.loop (.seq
  (.seq
  (.ops [⟨some 16, .mv (.r 7), none⟩, ⟨some 17, .mv (.r 4), none⟩, ⟨some 18, .bin .leq (.r 16) (.r 17), none⟩]) 
 (.cond (.r 18) .skip (.exit 0))) 
 (.seq
  (.block 1 (.seq
  (.ops [⟨some 21, .mv (.r 0), none⟩, ⟨some 22, .len .slice (.r 21), none⟩, ⟨some 23, .mv (.c (.int .i64 (.ofNat 0))), none⟩]) 
 (.block 2 (.loop (.seq
  (.ops [⟨some 24, .bin .lss (.r 23) (.r 22), none⟩]) 
 (.seq
  (.cond (.r 24) .skip (.exit 2)) 
 (.seq
  (.block 3 (.seq
  (.ops [⟨some 25, .mv (.r 23), none⟩, ⟨some 8, .mv (.r 25), none⟩]) 
 (.seq
  (.seq
  (.ops [⟨some 26, .mv (.r 0), none⟩, ⟨some 27, .mv (.r 8), none⟩, ⟨some 28, .indexSl 1 (.r 26) (.r 27), none⟩, ⟨some 29, .load1 (.r 28), none⟩, ⟨some 30, .toInt .i64 (.r 29), none⟩, ⟨some 31, .mv (.r 7), none⟩, ⟨some 32, .bin .neq (.r 30) (.r 31), none⟩]) 
 (.cond (.r 32) (.exit 3) .skip)) 
 (.seq
  (.ops [⟨some 33, .mv (.r 5), none⟩, ⟨some 34, .mv (.r 8), none⟩, ⟨some 35, .mv (.r 4), none⟩, ⟨some 36, .bin .add (.r 35) (.c (.int .i64 (.ofNat 1))), none⟩, ⟨some 37, .mv (.r 7), none⟩, ⟨some 38, .bin .sub (.r 36) (.r 37), none⟩, ⟨some 39, .mv (.r 6), none⟩, ⟨some 40, .mv (.r 7), none⟩, ⟨some 41, .bin .sub (.r 40) (.c (.int .i64 (.ofNat 1))), none⟩, ⟨some 42, .bin .shr (.r 39) (.r 41), none⟩, ⟨some 43, .build [.int .i64 (.ofNat 0), .int .i64 (.ofNat 0)] [(0, (1, .r 38)), (1, (1, .r 42))], none⟩, ⟨some 44, .indexSl 2 (.r 33) (.r 34), none⟩, ⟨none, .store 2 (.r 44) (.r 43), none⟩]) 
 (.ops [⟨some 45, .mv (.r 6), none⟩, ⟨some 46, .mv (.r 7), none⟩, ⟨some 47, .bin .sub (.r 46) (.c (.int .i64 (.ofNat 1))), none⟩, ⟨some 48, .bin .shl (.c (.int .i64 (.ofNat 1))) (.r 47), none⟩, ⟨some 49, .bin .add (.r 45) (.r 48), none⟩, ⟨some 6, .mv (.r 49), none⟩]))))) 
 (.ops [⟨some 50, .bin .add (.r 23) (.c (.int .i64 (.ofNat 1))), none⟩, ⟨some 23, .mv (.r 50), none⟩])))))))) 
 (.ops [⟨some 19, .mv (.r 7), none⟩, ⟨some 20, .bin .add (.r 19) (.c (.int .i64 (.ofNat 1))), none⟩, ⟨some 7, .mv (.r 20), none⟩])))))) 
 (.seq
  (.ops [⟨some 51, .mv (.r 5), none⟩, ⟨some 2, .mv (.r 51), none⟩, ⟨some 3, .mv (.c (.int .i64 (.ofNat 0))), none⟩]) 
 .ret))))))⟩
def c204 : AF := ⟨42, [.cell 4 1 false, .cell 5 1 false], .seq
  (.ops [⟨some 2, .box 1 (.r 0), none⟩, ⟨some 4, .alloc [.nilslice], none⟩, ⟨some 5, .alloc [.int .i64 (.ofNat 0)], none⟩]) 
 (.seq
  (.ops [⟨some 9, .call 172 [], none⟩, ⟨some 6, .alloc [.nilptr], none⟩, ⟨none, .store 1 (.r 6) (.r 9), none⟩]) 
 (.seq
  (.seq
  (.ops [⟨some 10, .mv (.r 1), none⟩, ⟨some 11, .call 210 [.r 10], none⟩]) 
 (.block 0 (.rfun (.r 11) [12, 13] (.ops [⟨some 8, .mv (.r 13), none⟩]) (.block 1 (.seq
  (.seq
  (.ops [⟨some 14, .mv (.r 8), none⟩, ⟨some 15, .toInt .i64 (.r 14), none⟩, ⟨some 16, .load1 (.r 2), none⟩, ⟨some 17, .len .slice (.r 16), none⟩, ⟨some 18, .bin .geq (.r 15) (.r 17), none⟩, ⟨some 19, .mv (.r 18), none⟩, ⟨some 20, .load1 (.r 2), some (19, false)⟩, ⟨some 21, .mv (.r 8), some (19, false)⟩, ⟨some 22, .indexSl 2 (.r 20) (.r 21), some (19, false)⟩, ⟨some 23, .fieldAt 0 (.r 22), some (19, false)⟩, ⟨some 24, .load1 (.r 23), some (19, false)⟩, ⟨some 25, .bin .eql (.r 24) (.c (.int .i64 (.ofNat 0))), some (19, false)⟩, ⟨some 26, .pick (.r 19) (.c (.bool true)) (.r 25), none⟩]) 
 (.cond (.r 26) (.seq
  (.ops [⟨none, .store 1 (.r 4) (.c .nilslice), none⟩, ⟨none, .store 1 (.r 5) (.c (.int .i64 (.ofNat 1))), none⟩]) 
 .ret) .skip)) 
 (.ops [⟨some 27, .load1 (.r 6), none⟩, ⟨some 28, .load1 (.r 2), none⟩, ⟨some 29, .mv (.r 8), none⟩, ⟨some 30, .indexSl 2 (.r 28) (.r 29), none⟩, ⟨some 31, .fieldAt 1 (.r 30), none⟩, ⟨some 32, .load1 (.r 31), none⟩, ⟨some 33, .toInt .u64 (.r 32), none⟩, ⟨some 34, .load1 (.r 2), none⟩, ⟨some 35, .mv (.r 8), none⟩, ⟨some 36, .indexSl 2 (.r 34) (.r 35), none⟩, ⟨some 37, .fieldAt 0 (.r 36), none⟩, ⟨some 38, .load1 (.r 37), none⟩, ⟨some 39, .call 175 [.r 27, .r 33, .r 38], none⟩])))))) 
 (.seq
  (.ops [⟨some 40, .load1 (.r 6), none⟩, ⟨some 41, .call 177 [.r 40], none⟩, ⟨none, .store 1 (.r 4) (.r 41), none⟩, ⟨none, .store 1 (.r 5) (.c (.int .i64 (.ofNat 0))), none⟩]) 
 .ret)))⟩
def c205 : AF := ⟨7, [.reg 2], .seq
  (.ops [⟨some 2, .mv (.c .nilptr), none⟩]) 
 (.seq
  (.ops [⟨some 3, .mv (.r 0), none⟩, ⟨some 4, .call 53 [.r 3], none⟩, ⟨some 5, .build [.nilslice, .int .i64 (.ofNat 0)] [(0, (1, .r 4))], none⟩, ⟨some 6, .box 2 (.r 5), none⟩, ⟨some 2, .mv (.r 6), none⟩]) 
 .ret)⟩
def c206 : AF := ⟨51, [.reg 4, .reg 5], .seq
  (.ops [⟨some 4, .mv (.c (.int .u64 (.ofNat 0))), none⟩, ⟨some 5, .mv (.c (.int .i64 (.ofNat 0))), none⟩]) 
 (.seq
  (.block 0 (.seq
  (.ops [⟨some 8, .mv (.r 0), none⟩, ⟨some 9, .eqnil false 0 (.r 8) (.c .nilptr), none⟩, ⟨some 10, .mv (.r 9), none⟩, ⟨some 11, .mv (.r 1), some (10, false)⟩, ⟨some 12, .bin .lss (.r 11) (.c (.int .i64 (.ofNat 0))), some (10, false)⟩, ⟨some 13, .pick (.r 10) (.c (.bool true)) (.r 12), none⟩, ⟨some 14, .mv (.r 13), none⟩, ⟨some 15, .mv (.r 1), some (14, false)⟩, ⟨some 16, .bin .gtr (.r 15) (.c (.int .i64 (.ofNat 32))), some (14, false)⟩, ⟨some 17, .pick (.r 14) (.c (.bool true)) (.r 16), none⟩, ⟨some 7, .mv (.r 17), none⟩]) 
 (.cond (.r 7) (.seq
  (.ops [⟨some 4, .mv (.c (.int .u64 (.ofNat 0))), none⟩, ⟨some 5, .mv (.c (.int .i64 (.ofNat 1))), none⟩]) 
 .ret) (.seq
  (.ops [⟨some 19, .mv (.r 0), none⟩, ⟨some 20, .nilCheck (.r 19), none⟩, ⟨some 21, .fieldAt 0 (.r 20), none⟩, ⟨some 22, .load1 (.r 21), none⟩, ⟨some 23, .len .slice (.r 22), none⟩, ⟨some 24, .bin .mul (.c (.int .i64 (.ofNat 8))) (.r 23), none⟩, ⟨some 25, .mv (.r 0), none⟩, ⟨some 26, .nilCheck (.r 25), none⟩, ⟨some 27, .fieldAt 1 (.r 26), none⟩, ⟨some 28, .load1 (.r 27), none⟩, ⟨some 29, .bin .sub (.r 24) (.r 28), none⟩, ⟨some 30, .mv (.r 1), none⟩, ⟨some 31, .bin .lss (.r 29) (.r 30), none⟩, ⟨some 18, .mv (.r 31), none⟩]) 
 (.cond (.r 18) (.seq
  (.ops [⟨some 4, .mv (.c (.int .u64 (.ofNat 0))), none⟩, ⟨some 5, .mv (.c (.int .i64 (.ofNat 10))), none⟩]) 
 .ret) .skip))))) 
 (.seq
  (.ops [⟨some 32, .mv (.r 0), none⟩, ⟨some 33, .nilCheck (.r 32), none⟩, ⟨some 34, .fieldAt 0 (.r 33), none⟩, ⟨some 35, .load1 (.r 34), none⟩, ⟨some 36, .mv (.r 0), none⟩, ⟨some 37, .nilCheck (.r 36), none⟩, ⟨some 38, .fieldAt 1 (.r 37), none⟩, ⟨some 39, .load1 (.r 38), none⟩, ⟨some 40, .mv (.r 1), none⟩, ⟨some 41, .call 201 [.r 35, .r 39, .r 40], none⟩, ⟨some 6, .mv (.r 41), none⟩]) 
 (.seq
  (.ops [⟨some 42, .mv (.r 0), none⟩, ⟨some 43, .nilCheck (.r 42), none⟩, ⟨some 44, .fieldAt 1 (.r 43), none⟩, ⟨some 45, .load1 (.r 44), none⟩, ⟨some 46, .mv (.r 1), none⟩, ⟨some 47, .bin .add (.r 45) (.r 46), none⟩, ⟨some 48, .nilCheck (.r 42), none⟩, ⟨some 49, .fieldAt 1 (.r 48), none⟩, ⟨none, .store 1 (.r 49) (.r 47), none⟩]) 
 (.seq
  (.ops [⟨some 50, .mv (.r 6), none⟩, ⟨some 4, .mv (.r 50), none⟩, ⟨some 5, .mv (.c (.int .i64 (.ofNat 0))), none⟩]) 
 .ret))))⟩
def c207 : AF := ⟨58, [.reg 4, .reg 5], .seq
  (.ops [⟨some 4, .mv (.c (.int .i64 (.ofNat 0))), none⟩, ⟨some 5, .mv (.c (.int .i64 (.ofNat 0))), none⟩]) 
 (.seq
  (.ops [⟨some 11, .mv (.r 1), none⟩, ⟨some 12, .bin .add (.r 11) (.c (.int .i64 (.ofNat 1))), none⟩, ⟨some 13, .toInt .u64 (.r 12), none⟩, ⟨some 14, .call 71 [.r 13], none⟩, ⟨some 6, .mv (.r 14), none⟩]) 
 (.seq
  (.ops [⟨some 16, .mv (.r 0), none⟩, ⟨some 17, .mv (.r 6), none⟩, ⟨some 18, .bin .sub (.r 17) (.c (.int .i64 (.ofNat 1))), none⟩, ⟨some 19, .call 206 [.r 16, .r 18], none⟩, ⟨some 15, .mv (.r 19), none⟩, ⟨some 20, .extract 0 (.r 15), none⟩, ⟨some 21, .extract 1 (.r 15), none⟩, ⟨some 7, .mv (.r 20), none⟩, ⟨some 8, .mv (.r 21), none⟩]) 
 (.seq
  (.seq
  (.ops [⟨some 22, .mv (.r 8), none⟩, ⟨some 23, .bin .neq (.r 22) (.c (.int .i64 (.ofNat 0))), none⟩]) 
 (.cond (.r 23) (.seq
  (.ops [⟨some 24, .mv (.r 8), none⟩, ⟨some 4, .mv (.c (.int .i64 (.ofNat 0))), none⟩, ⟨some 5, .mv (.r 24), none⟩]) 
 .ret) .skip)) 
 (.seq
  (.ops [⟨some 25, .mv (.r 6), none⟩, ⟨some 26, .bin .shl (.c (.int .i64 (.ofNat 1))) (.r 25), none⟩, ⟨some 27, .bin .sub (.r 26) (.c (.int .i64 (.ofNat 2))), none⟩, ⟨some 28, .mv (.r 1), none⟩, ⟨some 29, .bin .sub (.r 27) (.r 28), none⟩, ⟨some 9, .mv (.r 29), none⟩]) 
 (.seq
  (.seq
  (.ops [⟨some 30, .mv (.r 7), none⟩, ⟨some 31, .toInt .i64 (.r 30), none⟩, ⟨some 32, .mv (.r 9), none⟩, ⟨some 33, .bin .lss (.r 31) (.r 32), none⟩]) 
 (.cond (.r 33) (.seq
  (.ops [⟨some 34, .mv (.r 7), none⟩, ⟨some 35, .toInt .i64 (.r 34), none⟩, ⟨some 4, .mv (.r 35), none⟩, ⟨some 5, .mv (.c (.int .i64 (.ofNat 0))), none⟩]) 
 .ret) .skip)) 
 (.seq
  (.ops [⟨some 37, .mv (.r 0), none⟩, ⟨some 38, .call 206 [.r 37, .c (.int .i64 (.ofNat 1))], none⟩, ⟨some 36, .mv (.r 38), none⟩, ⟨some 39, .extract 0 (.r 36), none⟩, ⟨some 40, .extract 1 (.r 36), none⟩, ⟨some 10, .mv (.r 39), none⟩, ⟨some 8, .mv (.r 40), none⟩]) 
 (.seq
  (.block 0 (.seq
  (.ops [⟨some 42, .mv (.r 8), none⟩, ⟨some 43, .bin .neq (.r 42) (.c (.int .i64 (.ofNat 0))), none⟩, ⟨some 41, .mv (.r 43), none⟩]) 
 (.cond (.r 41) (.seq
  (.ops [⟨some 44, .mv (.r 8), none⟩, ⟨some 4, .mv (.c (.int .i64 (.ofNat 0))), none⟩, ⟨some 5, .mv (.r 44), none⟩]) 
 .ret) (.seq
  (.ops [⟨some 46, .mv (.r 10), none⟩, ⟨some 47, .bin .eql (.r 46) (.c (.int .u64 (.ofNat 0))), none⟩, ⟨some 45, .mv (.r 47), none⟩]) 
 (.cond (.r 45) (.seq
  (.ops [⟨some 48, .mv (.r 7), none⟩, ⟨some 49, .toInt .i64 (.r 48), none⟩, ⟨some 4, .mv (.r 49), none⟩, ⟨some 5, .mv (.c (.int .i64 (.ofNat 0))), none⟩]) 
 .ret) .skip))))) 
 (.seq
  (.ops [⟨some 50, .mv (.r 7), none⟩, ⟨some 51, .toInt .i64 (.r 50), none⟩, ⟨some 52, .mv (.r 6), none⟩, ⟨some 53, .bin .sub (.r 52) (.c (.int .i64 (.ofNat 1))), none⟩, ⟨some 54, .bin .shl (.c (.int .i64 (.ofNat 1))) (.r 53), none⟩, ⟨some 55, .bin .add (.r 51) (.r 54), none⟩, ⟨some 56, .mv (.r 9), none⟩, ⟨some 57, .bin .sub (.r 55) (.r 56), none⟩, ⟨some 4, .mv (.r 57), none⟩, ⟨some 5, .mv (.c (.int .i64 (.ofNat 0))), none⟩]) 
 .ret))))))))⟩
def c208 : AF := ⟨22, [.reg 2, .reg 3], .seq
  (.ops [⟨some 2, .mv (.c (.int .i64 (.ofNat 0))), none⟩, ⟨some 3, .mv (.c (.int .i64 (.ofNat 0))), none⟩]) 
 (.seq
  (.ops [⟨some 4, .mv (.c (.int .i64 (.ofNat 0))), none⟩]) 
 (.seq
  .skip 
 (.seq
  (.block 0 (.loop (.block 1 (.seq
  (.ops [⟨some 8, .mv (.r 0), none⟩, ⟨some 9, .call 206 [.r 8, .c (.int .i64 (.ofNat 2))], none⟩, ⟨some 7, .mv (.r 9), none⟩, ⟨some 10, .extract 0 (.r 7), none⟩, ⟨some 11, .extract 1 (.r 7), none⟩, ⟨some 5, .mv (.r 10), none⟩, ⟨some 6, .mv (.r 11), none⟩]) 
 (.seq
  (.seq
  (.ops [⟨some 12, .mv (.r 6), none⟩, ⟨some 13, .bin .neq (.r 12) (.c (.int .i64 (.ofNat 0))), none⟩]) 
 (.cond (.r 13) (.seq
  (.ops [⟨some 14, .mv (.r 6), none⟩, ⟨some 2, .mv (.c (.int .i64 (.ofNat 0))), none⟩, ⟨some 3, .mv (.r 14), none⟩]) 
 .ret) .skip)) 
 (.seq
  (.ops [⟨some 15, .mv (.r 4), none⟩, ⟨some 16, .mv (.r 5), none⟩, ⟨some 17, .toInt .i64 (.r 16), none⟩, ⟨some 18, .bin .add (.r 15) (.r 17), none⟩, ⟨some 4, .mv (.r 18), none⟩]) 
 (.seq
  (.ops [⟨some 19, .mv (.r 5), none⟩, ⟨some 20, .bin .lss (.r 19) (.c (.int .u64 (.ofNat 3))), none⟩]) 
 (.cond (.r 20) (.exit 0) .skip)))))))) 
 (.seq
  (.ops [⟨some 21, .mv (.r 4), none⟩, ⟨some 2, .mv (.r 21), none⟩, ⟨some 3, .mv (.c (.int .i64 (.ofNat 0))), none⟩]) 
 .ret))))⟩
def c209 : AF := ⟨11, [.reg 2], .seq
  (.ops [⟨some 2, .mv (.c (.int .i64 (.ofNat 0))), none⟩]) 
 (.seq
  (.seq
  (.ops [⟨some 3, .mv (.r 0), none⟩, ⟨some 4, .eqnil false 0 (.r 3) (.c .nilptr), none⟩]) 
 (.cond (.r 4) (.seq
  (.ops [⟨some 2, .mv (.c (.int .i64 (.ofNat 0))), none⟩]) 
 .ret) .skip)) 
 (.seq
  (.ops [⟨some 5, .mv (.r 0), none⟩, ⟨some 6, .nilCheck (.r 5), none⟩, ⟨some 7, .fieldAt 1 (.r 6), none⟩, ⟨some 8, .load1 (.r 7), none⟩, ⟨some 9, .bin .add (.r 8) (.c (.int .i64 (.ofNat 7))), none⟩, ⟨some 10, .bin .quo (.r 9) (.c (.int .i64 (.ofNat 8))), none⟩, ⟨some 2, .mv (.r 10), none⟩]) 
 .ret))⟩
def c210 : AF := ⟨4, [.reg 2], .seq
  (.ops [⟨some 1, .box 1 (.r 0), none⟩, ⟨some 2, .mv (.c .nilfunc), none⟩]) 
 (.seq
  (.ops [⟨some 3, .makeFunc (.func 211) [] [.r 1], none⟩, ⟨some 2, .mv (.r 3), none⟩]) 
 .ret)⟩
def c211 : AF := ⟨19, [], .seq
  (.ops [⟨some 4, .load1 (.r 1), none⟩, ⟨some 5, .len .slice (.r 4), none⟩, ⟨some 6, .bin .sub (.r 5) (.c (.int .i64 (.ofNat 1))), none⟩, ⟨some 3, .mv (.r 6), none⟩]) 
 (.block 0 (.loop (.seq
  (.seq
  (.ops [⟨some 7, .mv (.r 3), none⟩, ⟨some 8, .bin .geq (.r 7) (.c (.int .i64 (.ofNat 0))), none⟩]) 
 (.cond (.r 8) .skip (.exit 0))) 
 (.seq
  (.block 1 (.seq
  (.ops [⟨some 11, .mv (.r 0), none⟩, ⟨some 12, .mv (.r 3), none⟩, ⟨some 13, .load1 (.r 1), none⟩, ⟨some 14, .mv (.r 3), none⟩, ⟨some 15, .indexSl 1 (.r 13) (.r 14), none⟩, ⟨some 16, .load1 (.r 15), none⟩, ⟨some 17, .callv (.r 11) [.r 12, .r 16], none⟩, ⟨some 18, .un .not (.r 17), none⟩]) 
 (.cond (.r 18) .ret .skip))) 
 (.ops [⟨some 9, .mv (.r 3), none⟩, ⟨some 10, .bin .sub (.r 9) (.c (.int .i64 (.ofNat 1))), none⟩, ⟨some 3, .mv (.r 10), none⟩])))))⟩
end Go.Am
