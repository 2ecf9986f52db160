/- The codes of functions of this seat, as annotated, compared with the program by the kernel. No conditions. -/
import Derived.Test.YtchmkekndbfflaaProg
import Derived.Test.YtchmkekndbfflaaAbE
set_option linter.unusedVariables false
set_option linter.unusedSimpArgs false
namespace Go.Ab
/- clearway clearwaylaw33.LinkMatches -/
def ac3_L0 (q : Option (Nat × Nat)) : AC := .seq (.seq (.rg [⟨none, some 50, .mv (.tmp 10)⟩,
    ⟨none, some 51, .mv (.tmp 5)⟩,
    ⟨none, some 52, .len (.tmp 51)⟩,
    ⟨none, some 53, .bin .lss (.tmp 50) (.tmp 52)⟩])
  (.cond (.tmp 53) (.skip) (.exit 0)))
  (.seq (.blk 1 (.seq (.seq (.dr [(false, [(0, 0), (1, 0), (2, 0), (3, 0), (4, 0), (5, 0), (6, 0), (7, 0)], [⟨none, some 56, .mv (.tmp 5)⟩,
    ⟨none, some 57, .mv (.tmp 10)⟩,
    ⟨none, some 58, .idx 1 (.tmp 56) (.tmp 57)⟩,
    ⟨none, some 59, .load (.tmp 58)⟩,
    ⟨none, some 60, .mv (.tmp 0)⟩,
    ⟨none, some 61, .mv (.tmp 10)⟩,
    ⟨none, some 62, .idx 1 (.tmp 60) (.tmp 61)⟩,
    ⟨none, some 63, .load (.tmp 62)⟩]),
   (true, [(8, 0)], [⟨none, some 64, .bin .neq (.tmp 59) (.tmp 63)⟩])])
  (.cond (.tmp 64) (.seq (.rg [⟨none, some 4, .mv (.const (.bool false))⟩])
  (.ret)) (.skip)))
  (.rg [⟨none, some 65, .mv (.tmp 5)⟩,
    ⟨none, some 66, .mv (.tmp 10)⟩,
    ⟨none, some 67, .idx 1 (.tmp 65) (.tmp 66)⟩,
    ⟨none, none, .store 1 (.tmp 67) (.const (.int .i64 (-1)))⟩])))
  (.rg [⟨none, some 54, .mv (.tmp 10)⟩,
    ⟨none, some 55, .bin .add (.tmp 54) (.const (.int .i64 1))⟩,
    ⟨none, some 10, .mv (.tmp 55)⟩]))
def ac3_L1 (q : Option (Nat × Nat)) : AC := .seq (.seq (.rg [⟨none, some 122, .mv (.tmp 17)⟩,
    ⟨none, some 123, .mv (.tmp 13)⟩,
    ⟨none, some 124, .len (.tmp 123)⟩,
    ⟨none, some 125, .bin .lss (.tmp 122) (.tmp 124)⟩])
  (.cond (.tmp 125) (.skip) (.exit 4)))
  (.seq (.blk 5 (.rg [⟨none, some 128, .mv (.tmp 13)⟩,
    ⟨none, some 129, .mv (.tmp 17)⟩,
    ⟨none, some 130, .build [.p (.v (.int .i64 0)), .p (.v (.int .i64 0)), .p (.v (.int .u8 0)), .p (.v (.int .i64 0))] []⟩,
    ⟨none, some 131, .idx 4 (.tmp 128) (.tmp 129)⟩,
    ⟨none, none, .store 4 (.tmp 131) (.tmp 130)⟩]))
  (.rg [⟨none, some 126, .mv (.tmp 17)⟩,
    ⟨none, some 127, .bin .add (.tmp 126) (.const (.int .i64 1))⟩,
    ⟨none, some 17, .mv (.tmp 127)⟩]))
def ac3_L2 (q : Option (Nat × Nat)) : AC := .seq (.seq (.rg [⟨none, some 149, .mv (.tmp 19)⟩,
    ⟨none, some 150, .mv (.tmp 18)⟩,
    ⟨none, some 151, .len (.tmp 150)⟩,
    ⟨none, some 152, .bin .lss (.tmp 149) (.tmp 151)⟩])
  (.cond (.tmp 152) (.skip) (.exit 6)))
  (.seq (.blk 7 (.rg [⟨none, some 155, .mv (.tmp 18)⟩,
    ⟨none, some 156, .mv (.tmp 19)⟩,
    ⟨none, some 157, .build [.p (.v (.int .i64 0)), .p (.v (.int .i64 0)), .p (.v (.int .i64 0)), .p (.v (.int .i64 0)), .p (.v (.int .u8 0)), .p (.v (.int .i64 0))] []⟩,
    ⟨none, some 158, .idx 6 (.tmp 155) (.tmp 156)⟩,
    ⟨none, none, .store 6 (.tmp 158) (.tmp 157)⟩]))
  (.rg [⟨none, some 153, .mv (.tmp 19)⟩,
    ⟨none, some 154, .bin .add (.tmp 153) (.const (.int .i64 1))⟩,
    ⟨none, some 19, .mv (.tmp 154)⟩]))
def ac3_L3 (q : Option (Nat × Nat)) : AC := .seq (.seq (.rg [⟨none, some 68, .mv (.tmp 11)⟩,
    ⟨none, some 69, .mv (.tmp 1)⟩,
    ⟨none, some 70, .len (.tmp 69)⟩,
    ⟨none, some 71, .bin .lss (.tmp 68) (.tmp 70)⟩,
    ⟨none, some 72, .mv (.tmp 71)⟩,
    ⟨some (72, true), some 73, .mv (.tmp 11)⟩,
    ⟨some (72, true), some 74, .bin .lss (.tmp 73) (.const (.int .i64 90))⟩,
    ⟨none, some 75, .pick (.tmp 72) (.tmp 74) (.const (.bool false))⟩])
  (.cond (.tmp 75) (.skip) (.exit 2)))
  (.seq (.blk 3 (.seq (.rg [⟨none, some 78, .mv (.tmp 1)⟩,
    ⟨none, some 79, .mv (.tmp 11)⟩,
    ⟨none, some 80, .idx 6 (.tmp 78) (.tmp 79)⟩,
    ⟨none, some 81, .loadA 6 (.tmp 80)⟩,
    ⟨none, some 12, .alloc 35 [.p (.v (.int .u8 0)), .p (.v (.int .i64 0)), .p (.v (.int .i64 0)), .p (.v (.int .i64 0)), .p (.v (.int .u8 0)), .p (.v (.int .i64 0))]⟩,
    ⟨none, none, .store 6 (.tmp 12) (.tmp 81)⟩])
  (.seq (.seq (.rg [⟨none, some 82, .fieldA 0 (.tmp 12)⟩,
    ⟨none, some 83, .load (.tmp 82)⟩,
    ⟨none, some 84, .bin .rem (.tmp 83) (.const (.int .u8 2))⟩,
    ⟨none, some 85, .bin .eql (.tmp 84) (.const (.int .u8 0))⟩])
  (.cond (.tmp 85) (.seq (.dr [(false, [(0, 0), (1, 0), (2, 0), (3, 0), (4, 0), (6, 0), (7, 0), (8, 0), (9, 0), (10, 0), (5, 0)], [⟨none, some 86, .mv (.tmp 6)⟩,
    ⟨none, some 87, .fieldA 1 (.tmp 12)⟩,
    ⟨none, some 88, .load (.tmp 87)⟩,
    ⟨none, some 89, .fieldA 2 (.tmp 12)⟩,
    ⟨none, some 90, .loadA 4 (.tmp 89)⟩,
    ⟨none, some 92, .mv (.tmp 8)⟩,
    ⟨none, some 93, .fieldA 1 (.tmp 12)⟩,
    ⟨none, some 94, .load (.tmp 93)⟩,
    ⟨none, some 95, .fieldA 2 (.tmp 12)⟩,
    ⟨none, some 96, .loadA 4 (.tmp 95)⟩,
    ⟨none, some 91, .call 13 [.tmp 86, .tmp 88, .tmp 90]⟩]),
   (true, [(11, 0), (12, 0)], [⟨none, some 97, .call 14 [.tmp 92, .tmp 94, .tmp 96]⟩,
    ⟨none, some 98, .bin .neq (.tmp 91) (.tmp 97)⟩])])
  (.cond (.tmp 98) (.seq (.rg [⟨none, some 4, .mv (.const (.bool false))⟩])
  (.ret)) (.skip))) (.seq (.rg [⟨none, some 100, .mv (.tmp 6)⟩,
    ⟨none, some 101, .fieldA 1 (.tmp 12)⟩,
    ⟨none, some 102, .load (.tmp 101)⟩,
    ⟨none, some 103, .call 15 [.tmp 100, .tmp 102]⟩,
    ⟨none, some 99, .mv (.tmp 103)⟩,
    ⟨none, some 104, .extract (.tmp 99) 0⟩,
    ⟨none, some 105, .extract (.tmp 99) 1⟩,
    ⟨none, some 13, .mv (.tmp 104)⟩,
    ⟨none, some 14, .mv (.tmp 105)⟩])
  (.seq (.rg [⟨none, some 107, .mv (.tmp 8)⟩,
    ⟨none, some 108, .fieldA 1 (.tmp 12)⟩,
    ⟨none, some 109, .load (.tmp 108)⟩,
    ⟨none, some 110, .call 16 [.tmp 107, .tmp 109]⟩,
    ⟨none, some 106, .mv (.tmp 110)⟩,
    ⟨none, some 111, .extract (.tmp 106) 0⟩,
    ⟨none, some 112, .extract (.tmp 106) 1⟩,
    ⟨none, some 15, .mv (.tmp 111)⟩,
    ⟨none, some 16, .mv (.tmp 112)⟩])
  (.seq (.seq (.rg [⟨none, some 113, .mv (.tmp 14)⟩,
    ⟨none, some 114, .mv (.tmp 16)⟩,
    ⟨none, some 115, .bin .neq (.tmp 113) (.tmp 114)⟩,
    ⟨none, some 116, .mv (.tmp 115)⟩,
    ⟨some (116, false), some 117, .mv (.tmp 13)⟩,
    ⟨some (116, false), some 118, .mv (.tmp 15)⟩,
    ⟨some (116, false), some 119, .call 17 [.tmp 117, .tmp 118]⟩,
    ⟨some (116, false), some 120, .un .not (.tmp 119)⟩,
    ⟨none, some 121, .pick (.tmp 116) (.const (.bool true)) (.tmp 120)⟩])
  (.cond (.tmp 121) (.seq (.rg [⟨none, some 4, .mv (.const (.bool false))⟩])
  (.ret)) (.skip)))
  (.seq (.rg [⟨none, some 17, .mv (.const (.int .i64 0))⟩])
  (.blk 4 (.loop q [1, 6, 8, 11, 13, 17] (ac3_L1 q)))))))))
  (.seq (.rg [⟨none, some 132, .mv (.tmp 6)⟩,
    ⟨none, some 133, .call 18 [.tmp 132]⟩,
    ⟨none, some 18, .mv (.tmp 133)⟩])
  (.seq (.seq (.dr [(false, [(0, 0), (1, 0), (2, 0)], [⟨none, some 134, .mv (.tmp 18)⟩,
    ⟨none, some 135, .mv (.tmp 8)⟩,
    ⟨none, some 136, .call 20 [.tmp 135]⟩]),
   (true, [(3, 0), (4, 0), (5, 0)], [⟨none, some 137, .call 19 [.tmp 134, .tmp 136]⟩,
    ⟨none, some 138, .un .not (.tmp 137)⟩,
    ⟨none, some 139, .mv (.tmp 138)⟩]),
   (false, [(6, 0), (8, 0), (9, 0), (10, 0), (11, 0), (12, 0), (7, 0)], [⟨some (139, false), some 140, .mv (.tmp 6)⟩,
    ⟨some (139, false), some 142, .mv (.tmp 8)⟩,
    ⟨some (139, false), some 143, .nilck (.tmp 142)⟩,
    ⟨some (139, false), some 144, .fieldA 2 (.tmp 143)⟩,
    ⟨some (139, false), some 145, .load (.tmp 144)⟩,
    ⟨some (139, false), some 146, .len (.tmp 145)⟩,
    ⟨some (139, false), some 141, .call 21 [.tmp 140]⟩]),
   (true, [(13, 0), (14, 0)], [⟨some (139, false), some 147, .bin .neq (.tmp 141) (.tmp 146)⟩,
    ⟨none, some 148, .pick (.tmp 139) (.const (.bool true)) (.tmp 147)⟩])])
  (.cond (.tmp 148) (.seq (.rg [⟨none, some 4, .mv (.const (.bool false))⟩])
  (.ret)) (.skip)))
  (.seq (.seq (.rg [⟨none, some 19, .mv (.const (.int .i64 0))⟩])
  (.blk 6 (.loop q [1, 6, 8, 11, 18, 19] (ac3_L2 q))))
  (.seq (.rg [⟨none, some 159, .mv (.tmp 6)⟩,
    ⟨none, some 160, .call 18 [.tmp 159]⟩,
    ⟨none, some 161, .mv (.tmp 8)⟩,
    ⟨none, some 162, .call 20 [.tmp 161]⟩,
    ⟨none, some 163, .call 19 [.tmp 160, .tmp 162]⟩,
    ⟨none, some 164, .un .not (.tmp 163)⟩])
  (.cond (.tmp 164) (.seq (.rg [⟨none, some 4, .mv (.const (.bool false))⟩])
  (.ret)) (.skip)))))))))
  (.rg [⟨none, some 76, .mv (.tmp 11)⟩,
    ⟨none, some 77, .bin .add (.tmp 76) (.const (.int .i64 1))⟩,
    ⟨none, some 11, .mv (.tmp 77)⟩]))
def ac3 (q : Option (Nat × Nat)) : AC := .seq (.rg [⟨none, some 4, .mv (.const (.bool false))⟩])
  (.seq (.seq (.rg [⟨none, some 20, .mv (.tmp 0)⟩,
    ⟨none, some 21, .len (.tmp 20)⟩,
    ⟨none, some 22, .bin .gtr (.tmp 21) (.const (.int .i64 300))⟩])
  (.cond (.tmp 22) (.seq (.rg [⟨none, some 23, .call 10 []⟩,
    ⟨none, some 4, .mv (.tmp 23)⟩])
  (.ret)) (.skip)))
  (.seq (.rg [⟨none, some 24, .bslice true 3 0 1 [.p (.v (.int .i64 0))] []⟩,
    ⟨none, some 25, .mv (.tmp 0)⟩,
    ⟨none, some 26, .append 3 1 8 (.tmp 24) (.tmp 25)⟩,
    ⟨none, some 5, .mv (.tmp 26)⟩])
  (.seq (.rg [⟨none, some 28, .mv (.tmp 5)⟩,
    ⟨none, some 29, .call 11 [.tmp 28]⟩,
    ⟨none, some 27, .mv (.tmp 29)⟩,
    ⟨none, some 30, .extract (.tmp 27) 0⟩,
    ⟨none, some 31, .extract (.tmp 27) 1⟩,
    ⟨none, some 6, .mv (.tmp 30)⟩,
    ⟨none, some 7, .mv (.tmp 31)⟩])
  (.seq (.rg [⟨none, some 33, .mv (.tmp 0)⟩,
    ⟨none, some 34, .call 12 [.tmp 33]⟩,
    ⟨none, some 32, .mv (.tmp 34)⟩,
    ⟨none, some 35, .extract (.tmp 32) 0⟩,
    ⟨none, some 36, .extract (.tmp 32) 1⟩,
    ⟨none, some 8, .mv (.tmp 35)⟩,
    ⟨none, some 9, .mv (.tmp 36)⟩])
  (.seq (.seq (.rg [⟨none, some 37, .mv (.tmp 7)⟩,
    ⟨none, some 38, .mv (.tmp 9)⟩,
    ⟨none, some 39, .bin .neq (.tmp 37) (.tmp 38)⟩,
    ⟨none, some 40, .mv (.tmp 39)⟩,
    ⟨some (40, false), some 41, .mv (.tmp 6)⟩,
    ⟨some (40, false), some 42, .eqP false (.tmp 41) (.const (.pointer none))⟩,
    ⟨some (40, false), some 43, .mv (.tmp 8)⟩,
    ⟨some (40, false), some 44, .eqP false (.tmp 43) (.const (.pointer none))⟩,
    ⟨some (40, false), some 45, .binB true (.tmp 42) (.tmp 44)⟩,
    ⟨none, some 46, .pick (.tmp 40) (.const (.bool true)) (.tmp 45)⟩])
  (.cond (.tmp 46) (.seq (.rg [⟨none, some 4, .mv (.const (.bool false))⟩])
  (.ret)) (.skip)))
  (.seq (.seq (.rg [⟨none, some 47, .mv (.tmp 6)⟩,
    ⟨none, some 48, .eqP false (.tmp 47) (.const (.pointer none))⟩])
  (.cond (.tmp 48) (.seq (.rg [⟨none, some 49, .call 10 []⟩,
    ⟨none, some 4, .mv (.tmp 49)⟩])
  (.ret)) (.skip)))
  (.seq (.seq (.rg [⟨none, some 10, .mv (.const (.int .i64 0))⟩])
  (.blk 0 (.loop q [0, 1, 5, 6, 8, 10] (ac3_L0 q))))
  (.seq (.seq (.rg [⟨none, some 11, .mv (.const (.int .i64 0))⟩])
  (.blk 2 (.loop q [1, 6, 8, 11] (ac3_L3 q))))
  (.seq (.rg [⟨none, some 165, .call 10 []⟩,
    ⟨none, some 4, .mv (.tmp 165)⟩])
  (.ret))))))))))
theorem ac3_ok (q : Option (Nat × Nat)) : compF Go.Proofs.Try.prog Go.Proofs.Try.f3 (ac3 q) = some (ac3 q, [.tmp 4]) := by kernel_rfl

/- clearway clearwaylaw33.LinkLost -/
def ac4 (q : Option (Nat × Nat)) : AC := .seq (.rg [⟨none, some 2, .mv (.const (.bool false))⟩])
  (.seq (.seq (.rg [⟨none, some 7, .mv (.tmp 0)⟩,
    ⟨none, some 8, .len (.tmp 7)⟩,
    ⟨none, some 9, .bin .gtr (.tmp 8) (.const (.int .i64 300))⟩])
  (.cond (.tmp 9) (.seq (.rg [⟨none, some 10, .call 10 []⟩,
    ⟨none, some 2, .mv (.tmp 10)⟩])
  (.ret)) (.skip)))
  (.seq (.rg [⟨none, some 12, .mv (.tmp 0)⟩,
    ⟨none, some 13, .call 22 [.tmp 12]⟩,
    ⟨none, some 11, .mv (.tmp 13)⟩,
    ⟨none, some 14, .extract (.tmp 11) 0⟩,
    ⟨none, some 15, .extract (.tmp 11) 1⟩,
    ⟨none, some 3, .mv (.tmp 14)⟩,
    ⟨none, some 4, .mv (.tmp 15)⟩])
  (.seq (.rg [⟨none, some 17, .mv (.tmp 0)⟩,
    ⟨none, some 18, .call 23 [.tmp 17]⟩,
    ⟨none, some 16, .mv (.tmp 18)⟩,
    ⟨none, some 19, .extract (.tmp 16) 0⟩,
    ⟨none, some 20, .extract (.tmp 16) 1⟩,
    ⟨none, some 5, .mv (.tmp 19)⟩,
    ⟨none, some 6, .mv (.tmp 20)⟩])
  (.seq (.rg [⟨none, some 21, .mv (.tmp 3)⟩,
    ⟨none, some 22, .mv (.tmp 5)⟩,
    ⟨none, some 23, .bin .eql (.tmp 21) (.tmp 22)⟩,
    ⟨none, some 24, .mv (.tmp 23)⟩,
    ⟨some (24, true), some 25, .mv (.tmp 4)⟩,
    ⟨some (24, true), some 26, .mv (.tmp 6)⟩,
    ⟨some (24, true), some 27, .bin .eql (.tmp 25) (.tmp 26)⟩,
    ⟨none, some 28, .pick (.tmp 24) (.tmp 27) (.const (.bool false))⟩,
    ⟨none, some 29, .mv (.tmp 28)⟩,
    ⟨some (29, true), some 30, .call 10 []⟩,
    ⟨none, some 31, .pick (.tmp 29) (.tmp 30) (.const (.bool false))⟩,
    ⟨none, some 2, .mv (.tmp 31)⟩])
  (.ret)))))
theorem ac4_ok (q : Option (Nat × Nat)) : compF Go.Proofs.Try.prog Go.Proofs.Try.f4 (ac4 q) = some (ac4 q, [.tmp 2]) := by kernel_rfl

/- clearway clearwaylaw33.LinkExamples -/
def ac5_L0 (q : Option (Nat × Nat)) : AC := .seq (.seq (.rg [⟨none, some 95, .mv (.tmp 15)⟩,
    ⟨none, some 96, .bin .lss (.tmp 95) (.const (.int .i64 64))⟩])
  (.cond (.tmp 96) (.skip) (.exit 0)))
  (.seq (.blk 1 (.rg [⟨none, some 99, .mv (.tmp 14)⟩,
    ⟨none, some 100, .mv (.tmp 15)⟩,
    ⟨none, some 101, .mv (.tmp 15)⟩,
    ⟨none, some 102, .bin .rem (.tmp 101) (.const (.int .i64 8))⟩,
    ⟨none, some 103, .bin .add (.const (.int .i64 1)) (.tmp 102)⟩,
    ⟨none, some 104, .idx 1 (.tmp 99) (.tmp 100)⟩,
    ⟨none, none, .store 1 (.tmp 104) (.tmp 103)⟩]))
  (.rg [⟨none, some 97, .mv (.tmp 15)⟩,
    ⟨none, some 98, .bin .add (.tmp 97) (.const (.int .i64 1))⟩,
    ⟨none, some 15, .mv (.tmp 98)⟩]))
def ac5_L1 (q : Option (Nat × Nat)) : AC := .seq (.seq (.rg [⟨none, some 145, .mv (.tmp 18)⟩,
    ⟨none, some 146, .bin .lss (.tmp 145) (.const (.int .i64 64))⟩])
  (.cond (.tmp 146) (.skip) (.exit 2)))
  (.seq (.blk 3 (.seq (.rg [⟨none, some 149, .mv (.tmp 16)⟩,
    ⟨none, some 150, .loadA 4 (.tmp 13)⟩,
    ⟨none, some 151, .call 13 [.tmp 149, .const (.int .i64 3), .tmp 150]⟩,
    ⟨none, some 152, .bin .neq (.tmp 151) (.const (.int .i64 0))⟩])
  (.cond (.tmp 152) (.seq (.rg [⟨none, some 0, .mv (.const (.bool false))⟩])
  (.ret)) (.skip))))
  (.rg [⟨none, some 147, .mv (.tmp 18)⟩,
    ⟨none, some 148, .bin .add (.tmp 147) (.const (.int .i64 1))⟩,
    ⟨none, some 18, .mv (.tmp 148)⟩]))
def ac5 (q : Option (Nat × Nat)) : AC := .seq (.rg [⟨none, some 0, .mv (.const (.bool false))⟩])
  (.seq (.seq (.rg [⟨none, some 25, .call 10 []⟩,
    ⟨none, some 26, .un .not (.tmp 25)⟩,
    ⟨none, some 27, .mv (.tmp 26)⟩,
    ⟨some (27, false), some 28, .call 24 []⟩,
    ⟨some (27, false), some 29, .un .not (.tmp 28)⟩,
    ⟨none, some 30, .pick (.tmp 27) (.const (.bool true)) (.tmp 29)⟩,
    ⟨none, some 31, .mv (.tmp 30)⟩,
    ⟨none, some 32, .pick (.tmp 31) (.const (.bool true)) (.const (.bool false))⟩,
    ⟨none, some 33, .mv (.tmp 32)⟩,
    ⟨none, some 34, .pick (.tmp 33) (.const (.bool true)) (.const (.bool false))⟩,
    ⟨none, some 35, .mv (.tmp 34)⟩,
    ⟨none, some 36, .pick (.tmp 35) (.const (.bool true)) (.const (.bool false))⟩,
    ⟨none, some 37, .mv (.tmp 36)⟩,
    ⟨none, some 38, .pick (.tmp 37) (.const (.bool true)) (.const (.bool false))⟩])
  (.cond (.tmp 38) (.seq (.rg [⟨none, some 0, .mv (.const (.bool false))⟩])
  (.ret)) (.skip)))
  (.seq (.rg [⟨none, some 40, .mslice 3 1 8 [.p (.v (.int .i64 0))] (.const (.int .i64 257)) (.const (.int .i64 257))⟩,
    ⟨none, some 41, .call 11 [.tmp 40]⟩,
    ⟨none, some 39, .mv (.tmp 41)⟩,
    ⟨none, some 42, .extract (.tmp 39) 0⟩,
    ⟨none, some 43, .extract (.tmp 39) 1⟩,
    ⟨none, some 1, .mv (.tmp 42)⟩,
    ⟨none, some 2, .mv (.tmp 43)⟩])
  (.seq (.rg [⟨none, some 45, .bslice false 3 2 1 [.p (.v (.int .i64 0))] [(0, 1, .const (.int .i64 0)), (1, 1, .const (.int .i64 9))]⟩,
    ⟨none, some 46, .call 11 [.tmp 45]⟩,
    ⟨none, some 44, .mv (.tmp 46)⟩,
    ⟨none, some 47, .extract (.tmp 44) 0⟩,
    ⟨none, some 48, .extract (.tmp 44) 1⟩,
    ⟨none, some 3, .mv (.tmp 47)⟩,
    ⟨none, some 4, .mv (.tmp 48)⟩])
  (.seq (.rg [⟨none, some 50, .bslice false 3 1 1 [.p (.v (.int .i64 0))] [(0, 1, .const (.int .i64 (-2)))]⟩,
    ⟨none, some 51, .call 11 [.tmp 50]⟩,
    ⟨none, some 49, .mv (.tmp 51)⟩,
    ⟨none, some 52, .extract (.tmp 49) 0⟩,
    ⟨none, some 53, .extract (.tmp 49) 1⟩,
    ⟨none, some 5, .mv (.tmp 52)⟩,
    ⟨none, some 6, .mv (.tmp 53)⟩])
  (.seq (.rg [⟨none, some 55, .mslice 3 1 8 [.p (.v (.int .i64 0))] (.const (.int .i64 256)) (.const (.int .i64 256))⟩,
    ⟨none, some 56, .call 11 [.tmp 55]⟩,
    ⟨none, some 54, .mv (.tmp 56)⟩,
    ⟨none, some 57, .extract (.tmp 54) 0⟩,
    ⟨none, some 58, .extract (.tmp 54) 1⟩,
    ⟨none, some 7, .mv (.tmp 57)⟩,
    ⟨none, some 8, .mv (.tmp 58)⟩])
  (.seq (.rg [⟨none, some 60, .mslice 3 1 8 [.p (.v (.int .i64 0))] (.const (.int .i64 256)) (.const (.int .i64 256))⟩,
    ⟨none, some 61, .bslice false 3 1 1 [.p (.v (.int .i64 0))] [(0, 1, .const (.int .i64 99))]⟩,
    ⟨none, some 62, .append 3 1 8 (.tmp 60) (.tmp 61)⟩,
    ⟨none, some 63, .call 22 [.tmp 62]⟩,
    ⟨none, some 59, .mv (.tmp 63)⟩,
    ⟨none, some 64, .extract (.tmp 59) 0⟩,
    ⟨none, some 65, .extract (.tmp 59) 1⟩,
    ⟨none, some 9, .mv (.tmp 64)⟩,
    ⟨none, some 10, .mv (.tmp 65)⟩])
  (.seq (.rg [⟨none, some 67, .bslice false 3 1 1 [.p (.v (.int .i64 0))] [(0, 1, .const (.int .i64 9))]⟩,
    ⟨none, some 68, .call 22 [.tmp 67]⟩,
    ⟨none, some 66, .mv (.tmp 68)⟩,
    ⟨none, some 69, .extract (.tmp 66) 0⟩,
    ⟨none, some 70, .extract (.tmp 66) 1⟩,
    ⟨none, some 11, .mv (.tmp 69)⟩,
    ⟨none, some 12, .mv (.tmp 70)⟩])
  (.seq (.seq (.rg [⟨none, some 71, .mv (.tmp 2)⟩,
    ⟨none, some 72, .bin .neq (.tmp 71) (.const (.int .i64 4))⟩,
    ⟨none, some 73, .mv (.tmp 72)⟩,
    ⟨some (73, false), some 74, .mv (.tmp 4)⟩,
    ⟨some (73, false), some 75, .bin .neq (.tmp 74) (.const (.int .i64 1))⟩,
    ⟨none, some 76, .pick (.tmp 73) (.const (.bool true)) (.tmp 75)⟩,
    ⟨none, some 77, .mv (.tmp 76)⟩,
    ⟨some (77, false), some 78, .mv (.tmp 6)⟩,
    ⟨some (77, false), some 79, .bin .neq (.tmp 78) (.const (.int .i64 1))⟩,
    ⟨none, some 80, .pick (.tmp 77) (.const (.bool true)) (.tmp 79)⟩,
    ⟨none, some 81, .mv (.tmp 80)⟩,
    ⟨some (81, false), some 82, .mv (.tmp 8)⟩,
    ⟨some (81, false), some 83, .bin .neq (.tmp 82) (.const (.int .i64 0))⟩,
    ⟨none, some 84, .pick (.tmp 81) (.const (.bool true)) (.tmp 83)⟩,
    ⟨none, some 85, .mv (.tmp 84)⟩,
    ⟨some (85, false), some 86, .mv (.tmp 10)⟩,
    ⟨some (85, false), some 87, .bin .neq (.tmp 86) (.const (.int .i64 4))⟩,
    ⟨none, some 88, .pick (.tmp 85) (.const (.bool true)) (.tmp 87)⟩,
    ⟨none, some 89, .mv (.tmp 88)⟩,
    ⟨some (89, false), some 90, .mv (.tmp 12)⟩,
    ⟨some (89, false), some 91, .bin .neq (.tmp 90) (.const (.int .i64 1))⟩,
    ⟨none, some 92, .pick (.tmp 89) (.const (.bool true)) (.tmp 91)⟩])
  (.cond (.tmp 92) (.seq (.rg [⟨none, some 0, .mv (.const (.bool false))⟩])
  (.ret)) (.skip)))
  (.seq (.rg [⟨none, some 93, .build [.p (.v (.int .i64 0)), .p (.v (.int .i64 0)), .p (.v (.int .u8 0)), .p (.v (.int .i64 0))] [(0, 1, .const (.int .i64 1)), (1, 1, .const (.int .i64 2)), (3, 1, .const (.int .i64 1))]⟩,
    ⟨none, some 13, .alloc 33 [.p (.v (.int .i64 0)), .p (.v (.int .i64 0)), .p (.v (.int .u8 0)), .p (.v (.int .i64 0))]⟩,
    ⟨none, none, .store 4 (.tmp 13) (.tmp 93)⟩])
  (.seq (.rg [⟨none, some 94, .mslice 3 1 8 [.p (.v (.int .i64 0))] (.const (.int .i64 66)) (.const (.int .i64 66))⟩,
    ⟨none, some 14, .mv (.tmp 94)⟩])
  (.seq (.seq (.rg [⟨none, some 15, .mv (.const (.int .i64 0))⟩])
  (.blk 0 (.loop q [13, 14, 15] (ac5_L0 q))))
  (.seq (.rg [⟨none, some 105, .mv (.tmp 14)⟩,
    ⟨none, some 106, .idx 1 (.tmp 105) (.const (.int .i64 64))⟩,
    ⟨none, none, .store 1 (.tmp 106) (.const (.int .i64 (-1)))⟩])
  (.seq (.rg [⟨none, some 108, .mv (.tmp 14)⟩,
    ⟨none, some 109, .call 11 [.tmp 108]⟩,
    ⟨none, some 107, .mv (.tmp 109)⟩,
    ⟨none, some 110, .extract (.tmp 107) 0⟩,
    ⟨none, some 111, .extract (.tmp 107) 1⟩,
    ⟨none, some 16, .mv (.tmp 110)⟩,
    ⟨none, some 17, .mv (.tmp 111)⟩])
  (.seq (.seq (.rg [⟨none, some 112, .mv (.tmp 17)⟩,
    ⟨none, some 113, .bin .neq (.tmp 112) (.const (.int .i64 0))⟩,
    ⟨none, some 114, .mv (.tmp 113)⟩,
    ⟨some (114, false), some 115, .mv (.tmp 16)⟩,
    ⟨some (114, false), some 116, .eqP false (.tmp 115) (.const (.pointer none))⟩,
    ⟨none, some 117, .pick (.tmp 114) (.const (.bool true)) (.tmp 116)⟩])
  (.cond (.tmp 117) (.seq (.rg [⟨none, some 0, .mv (.const (.bool false))⟩])
  (.ret)) (.skip)))
  (.seq (.seq (.rg [⟨none, some 118, .mv (.tmp 16)⟩,
    ⟨none, some 119, .loadA 4 (.tmp 13)⟩,
    ⟨none, some 120, .call 13 [.tmp 118, .const (.int .i64 (-1)), .tmp 119]⟩,
    ⟨none, some 121, .bin .neq (.tmp 120) (.const (.int .i64 1))⟩,
    ⟨none, some 122, .mv (.tmp 121)⟩,
    ⟨some (122, false), some 123, .mv (.tmp 16)⟩,
    ⟨some (122, false), some 124, .loadA 4 (.tmp 13)⟩,
    ⟨some (122, false), some 125, .call 13 [.tmp 123, .const (.int .i64 1099511627777), .tmp 124]⟩,
    ⟨some (122, false), some 126, .bin .neq (.tmp 125) (.const (.int .i64 1))⟩,
    ⟨none, some 127, .pick (.tmp 122) (.const (.bool true)) (.tmp 126)⟩,
    ⟨none, some 128, .mv (.tmp 127)⟩,
    ⟨some (128, false), some 129, .mv (.tmp 16)⟩,
    ⟨some (128, false), some 130, .build [.p (.v (.int .i64 0)), .p (.v (.int .i64 0)), .p (.v (.int .u8 0)), .p (.v (.int .i64 0))] []⟩,
    ⟨some (128, false), some 131, .call 13 [.tmp 129, .const (.int .i64 0), .tmp 130]⟩,
    ⟨some (128, false), some 132, .bin .neq (.tmp 131) (.const (.int .i64 1))⟩,
    ⟨none, some 133, .pick (.tmp 128) (.const (.bool true)) (.tmp 132)⟩,
    ⟨none, some 134, .mv (.tmp 133)⟩,
    ⟨some (134, false), some 135, .mv (.tmp 16)⟩,
    ⟨some (134, false), some 136, .build [.p (.v (.int .i64 0)), .p (.v (.int .i64 0)), .p (.v (.int .u8 0)), .p (.v (.int .i64 0))] [(0, 1, .const (.int .i64 1)), (2, 1, .const (.int .u8 3))]⟩,
    ⟨some (134, false), some 137, .call 13 [.tmp 135, .const (.int .i64 0), .tmp 136]⟩,
    ⟨some (134, false), some 138, .bin .neq (.tmp 137) (.const (.int .i64 6))⟩,
    ⟨none, some 139, .pick (.tmp 134) (.const (.bool true)) (.tmp 138)⟩,
    ⟨none, some 140, .mv (.tmp 139)⟩,
    ⟨some (140, false), some 141, .mv (.tmp 16)⟩,
    ⟨some (140, false), some 142, .call 21 [.tmp 141]⟩,
    ⟨some (140, false), some 143, .bin .neq (.tmp 142) (.const (.int .i64 0))⟩,
    ⟨none, some 144, .pick (.tmp 140) (.const (.bool true)) (.tmp 143)⟩])
  (.cond (.tmp 144) (.seq (.rg [⟨none, some 0, .mv (.const (.bool false))⟩])
  (.ret)) (.skip)))
  (.seq (.seq (.rg [⟨none, some 18, .mv (.const (.int .i64 0))⟩])
  (.blk 2 (.loop q [13, 16, 18] (ac5_L1 q))))
  (.seq (.seq (.rg [⟨none, some 153, .mv (.tmp 16)⟩,
    ⟨none, some 154, .loadA 4 (.tmp 13)⟩,
    ⟨none, some 155, .call 13 [.tmp 153, .const (.int .i64 3), .tmp 154]⟩,
    ⟨none, some 156, .bin .neq (.tmp 155) (.const (.int .i64 0))⟩,
    ⟨none, some 157, .mv (.tmp 156)⟩,
    ⟨some (157, false), some 158, .mv (.tmp 16)⟩,
    ⟨some (157, false), some 159, .loadA 4 (.tmp 13)⟩,
    ⟨some (157, false), some 160, .call 13 [.tmp 158, .const (.int .i64 3), .tmp 159]⟩,
    ⟨some (157, false), some 161, .bin .neq (.tmp 160) (.const (.int .i64 17))⟩,
    ⟨none, some 162, .pick (.tmp 157) (.const (.bool true)) (.tmp 161)⟩,
    ⟨none, some 163, .mv (.tmp 162)⟩,
    ⟨some (163, false), some 164, .mv (.tmp 16)⟩,
    ⟨some (163, false), some 165, .call 21 [.tmp 164]⟩,
    ⟨some (163, false), some 166, .bin .neq (.tmp 165) (.const (.int .i64 65))⟩,
    ⟨none, some 167, .pick (.tmp 163) (.const (.bool true)) (.tmp 166)⟩,
    ⟨none, some 168, .mv (.tmp 167)⟩,
    ⟨some (168, false), some 169, .mv (.tmp 16)⟩,
    ⟨some (168, false), some 170, .call 18 [.tmp 169]⟩,
    ⟨some (168, false), some 171, .len (.tmp 170)⟩,
    ⟨some (168, false), some 172, .bin .neq (.tmp 171) (.const (.int .i64 64))⟩,
    ⟨none, some 173, .pick (.tmp 168) (.const (.bool true)) (.tmp 172)⟩,
    ⟨none, some 174, .mv (.tmp 173)⟩,
    ⟨some (174, false), some 175, .mv (.tmp 16)⟩,
    ⟨some (174, false), some 176, .build [.p (.v (.int .i64 0)), .p (.v (.int .i64 0)), .p (.v (.int .u8 0)), .p (.v (.int .i64 0))] []⟩,
    ⟨some (174, false), some 177, .call 13 [.tmp 175, .const (.int .i64 2), .tmp 176]⟩,
    ⟨some (174, false), some 178, .bin .neq (.tmp 177) (.const (.int .i64 12))⟩,
    ⟨none, some 179, .pick (.tmp 174) (.const (.bool true)) (.tmp 178)⟩])
  (.cond (.tmp 179) (.seq (.rg [⟨none, some 0, .mv (.const (.bool false))⟩])
  (.ret)) (.skip)))
  (.seq (.rg [⟨none, some 181, .mv (.tmp 16)⟩,
    ⟨none, some 182, .call 15 [.tmp 181, .const (.int .i64 4)]⟩,
    ⟨none, some 180, .mv (.tmp 182)⟩,
    ⟨none, some 183, .extract (.tmp 180) 0⟩,
    ⟨none, some 184, .extract (.tmp 180) 1⟩,
    ⟨none, some 19, .mv (.tmp 183)⟩,
    ⟨none, some 20, .mv (.tmp 184)⟩])
  (.seq (.seq (.rg [⟨none, some 185, .mv (.tmp 20)⟩,
    ⟨none, some 186, .bin .neq (.tmp 185) (.const (.int .i64 0))⟩,
    ⟨none, some 187, .mv (.tmp 186)⟩,
    ⟨some (187, false), some 188, .mv (.tmp 19)⟩,
    ⟨some (187, false), some 189, .len (.tmp 188)⟩,
    ⟨some (187, false), some 190, .bin .neq (.tmp 189) (.const (.int .i64 8))⟩,
    ⟨none, some 191, .pick (.tmp 187) (.const (.bool true)) (.tmp 190)⟩,
    ⟨none, some 192, .mv (.tmp 191)⟩,
    ⟨some (192, false), some 193, .mv (.tmp 16)⟩,
    ⟨some (192, false), some 194, .loadA 4 (.tmp 13)⟩,
    ⟨some (192, false), some 195, .call 13 [.tmp 193, .const (.int .i64 4), .tmp 194]⟩,
    ⟨some (192, false), some 196, .bin .neq (.tmp 195) (.const (.int .i64 0))⟩,
    ⟨none, some 197, .pick (.tmp 192) (.const (.bool true)) (.tmp 196)⟩,
    ⟨none, some 198, .mv (.tmp 197)⟩,
    ⟨some (198, false), some 199, .mv (.tmp 16)⟩,
    ⟨some (198, false), some 200, .call 21 [.tmp 199]⟩,
    ⟨some (198, false), some 201, .bin .neq (.tmp 200) (.const (.int .i64 66))⟩,
    ⟨none, some 202, .pick (.tmp 198) (.const (.bool true)) (.tmp 201)⟩])
  (.cond (.tmp 202) (.seq (.rg [⟨none, some 0, .mv (.const (.bool false))⟩])
  (.ret)) (.skip)))
  (.seq (.rg [⟨none, some 204, .mv (.tmp 16)⟩,
    ⟨none, some 205, .call 15 [.tmp 204, .const (.int .i64 1099511627776)]⟩,
    ⟨none, some 203, .mv (.tmp 205)⟩,
    ⟨none, some 206, .extract (.tmp 203) 0⟩,
    ⟨none, some 207, .extract (.tmp 203) 1⟩,
    ⟨none, some 21, .mv (.tmp 206)⟩,
    ⟨none, some 22, .mv (.tmp 207)⟩])
  (.seq (.rg [⟨none, some 209, .mv (.tmp 16)⟩,
    ⟨none, some 210, .call 15 [.tmp 209, .const (.int .i64 1099511627775)]⟩,
    ⟨none, some 208, .mv (.tmp 210)⟩,
    ⟨none, some 211, .extract (.tmp 208) 0⟩,
    ⟨none, some 212, .extract (.tmp 208) 1⟩,
    ⟨none, some 23, .mv (.tmp 211)⟩,
    ⟨none, some 24, .mv (.tmp 212)⟩])
  (.seq (.rg [⟨none, some 213, .mv (.tmp 22)⟩,
    ⟨none, some 214, .bin .eql (.tmp 213) (.const (.int .i64 0))⟩,
    ⟨none, some 215, .mv (.tmp 214)⟩,
    ⟨some (215, true), some 216, .mv (.tmp 21)⟩,
    ⟨some (215, true), some 217, .len (.tmp 216)⟩,
    ⟨some (215, true), some 218, .bin .eql (.tmp 217) (.const (.int .i64 57))⟩,
    ⟨none, some 219, .pick (.tmp 215) (.tmp 218) (.const (.bool false))⟩,
    ⟨none, some 220, .mv (.tmp 219)⟩,
    ⟨some (220, true), some 221, .mv (.tmp 24)⟩,
    ⟨some (220, true), some 222, .bin .eql (.tmp 221) (.const (.int .i64 12))⟩,
    ⟨none, some 223, .pick (.tmp 220) (.tmp 222) (.const (.bool false))⟩,
    ⟨none, some 224, .mv (.tmp 223)⟩,
    ⟨some (224, true), some 225, .mv (.tmp 16)⟩,
    ⟨some (224, true), some 226, .call 18 [.tmp 225]⟩,
    ⟨some (224, true), some 227, .len (.tmp 226)⟩,
    ⟨some (224, true), some 228, .bin .eql (.tmp 227) (.const (.int .i64 0))⟩,
    ⟨none, some 229, .pick (.tmp 224) (.tmp 228) (.const (.bool false))⟩,
    ⟨none, some 0, .mv (.tmp 229)⟩])
  (.ret)))))))))))))))))))))))
theorem ac5_ok (q : Option (Nat × Nat)) : compF Go.Proofs.Try.prog Go.Proofs.Try.f5 (ac5 q) = some (ac5 q, [.tmp 0]) := by kernel_rfl

/- clearway clearwaylaw33.LinkOnce -/
def ac6_L0 (q : Option (Nat × Nat)) : AC := .seq (.seq (.rg [⟨none, some 14, .mv (.tmp 6)⟩,
    ⟨none, some 15, .mv (.tmp 0)⟩,
    ⟨none, some 16, .len (.tmp 15)⟩,
    ⟨none, some 17, .bin .lss (.tmp 14) (.tmp 16)⟩,
    ⟨none, some 18, .mv (.tmp 17)⟩,
    ⟨some (18, true), some 19, .mv (.tmp 6)⟩,
    ⟨some (18, true), some 20, .bin .lss (.tmp 19) (.const (.int .i64 40))⟩,
    ⟨none, some 21, .pick (.tmp 18) (.tmp 20) (.const (.bool false))⟩])
  (.cond (.tmp 21) (.skip) (.exit 0)))
  (.seq (.blk 1 (.rg [⟨none, some 24, .mv (.tmp 5)⟩,
    ⟨none, some 25, .mv (.tmp 0)⟩,
    ⟨none, some 26, .mv (.tmp 6)⟩,
    ⟨none, some 27, .idx 1 (.tmp 25) (.tmp 26)⟩,
    ⟨none, some 28, .load (.tmp 27)⟩,
    ⟨none, some 29, .call 25 [.tmp 28]⟩,
    ⟨none, some 30, .bslice false 3 1 1 [.p (.v (.int .i64 0))] [(0, 1, .tmp 29)]⟩,
    ⟨none, some 31, .append 3 1 8 (.tmp 24) (.tmp 30)⟩,
    ⟨none, some 5, .mv (.tmp 31)⟩]))
  (.rg [⟨none, some 22, .mv (.tmp 6)⟩,
    ⟨none, some 23, .bin .add (.tmp 22) (.const (.int .i64 1))⟩,
    ⟨none, some 6, .mv (.tmp 23)⟩]))
def ac6_L1 (q : Option (Nat × Nat)) : AC := .seq (.seq (.rg [⟨none, some 43, .mv (.tmp 11)⟩,
    ⟨none, some 44, .mv (.tmp 1)⟩,
    ⟨none, some 45, .len (.tmp 44)⟩,
    ⟨none, some 46, .bin .lss (.tmp 43) (.tmp 45)⟩,
    ⟨none, some 47, .mv (.tmp 46)⟩,
    ⟨some (47, true), some 48, .mv (.tmp 11)⟩,
    ⟨some (47, true), some 49, .bin .lss (.tmp 48) (.const (.int .i64 40))⟩,
    ⟨none, some 50, .pick (.tmp 47) (.tmp 49) (.const (.bool false))⟩])
  (.cond (.tmp 50) (.skip) (.exit 2)))
  (.seq (.blk 3 (.seq (.rg [⟨none, some 53, .mv (.tmp 9)⟩,
    ⟨none, some 54, .mv (.tmp 1)⟩,
    ⟨none, some 55, .mv (.tmp 11)⟩,
    ⟨none, some 56, .idx 2 (.tmp 54) (.tmp 55)⟩,
    ⟨none, some 57, .fieldA 0 (.tmp 56)⟩,
    ⟨none, some 58, .load (.tmp 57)⟩,
    ⟨none, some 59, .conv .i64 (.tmp 58)⟩,
    ⟨none, some 60, .bin .rem (.tmp 59) (.const (.int .i64 4))⟩,
    ⟨none, some 61, .bin .add (.tmp 53) (.tmp 60)⟩,
    ⟨none, some 9, .mv (.tmp 61)⟩])
  (.seq (.seq (.rg [⟨none, some 62, .mv (.tmp 1)⟩,
    ⟨none, some 63, .mv (.tmp 11)⟩,
    ⟨none, some 64, .idx 2 (.tmp 62) (.tmp 63)⟩,
    ⟨none, some 65, .fieldA 1 (.tmp 64)⟩,
    ⟨none, some 66, .load (.tmp 65)⟩,
    ⟨none, some 67, .mv (.tmp 66)⟩,
    ⟨some (67, true), some 68, .mv (.tmp 7)⟩,
    ⟨some (67, true), some 69, .mv (.tmp 9)⟩,
    ⟨some (67, true), some 70, .mv (.tmp 10)⟩,
    ⟨some (67, true), some 71, .call 26 [.tmp 68, .tmp 69, .tmp 70]⟩,
    ⟨some (67, true), some 72, .un .not (.tmp 71)⟩,
    ⟨none, some 73, .pick (.tmp 67) (.tmp 72) (.const (.bool false))⟩])
  (.cond (.tmp 73) (.seq (.rg [⟨none, some 4, .mv (.const (.bool false))⟩])
  (.ret)) (.skip)))
  (.seq (.seq (.rg [⟨none, some 74, .mv (.tmp 7)⟩,
    ⟨none, some 75, .mv (.tmp 9)⟩,
    ⟨none, some 76, .mv (.tmp 11)⟩,
    ⟨none, some 77, .bin .add (.tmp 76) (.const (.int .i64 1))⟩,
    ⟨none, some 78, .call 27 [.tmp 77]⟩,
    ⟨none, some 79, .call 13 [.tmp 74, .tmp 75, .tmp 78]⟩,
    ⟨none, some 80, .bin .neq (.tmp 79) (.const (.int .i64 0))⟩])
  (.cond (.tmp 80) (.seq (.rg [⟨none, some 4, .mv (.const (.bool false))⟩])
  (.ret)) (.skip)))
  (.blk 4 (.seq (.rg [⟨none, some 91, .mv (.tmp 11)⟩,
    ⟨none, some 92, .mv (.tmp 5)⟩,
    ⟨none, some 93, .len (.tmp 92)⟩,
    ⟨none, some 94, .bin .geq (.tmp 91) (.tmp 93)⟩,
    ⟨none, some 90, .mv (.tmp 94)⟩])
  (.cond (.tmp 90) (.rg [⟨none, some 95, .mv (.tmp 10)⟩,
    ⟨none, some 96, .mv (.tmp 9)⟩,
    ⟨none, some 97, .bslice false 3 1 1 [.p (.v (.int .i64 0))] [(0, 1, .tmp 96)]⟩,
    ⟨none, some 98, .append 3 1 8 (.tmp 95) (.tmp 97)⟩,
    ⟨none, some 10, .mv (.tmp 98)⟩]) (.seq (.rg [⟨none, some 100, .mv (.tmp 5)⟩,
    ⟨none, some 101, .mv (.tmp 11)⟩,
    ⟨none, some 102, .idx 1 (.tmp 100) (.tmp 101)⟩,
    ⟨none, some 103, .load (.tmp 102)⟩,
    ⟨none, some 104, .bin .lss (.tmp 103) (.const (.int .i64 0))⟩,
    ⟨none, some 99, .mv (.tmp 104)⟩])
  (.cond (.tmp 99) (.rg [⟨none, some 105, .mv (.tmp 10)⟩,
    ⟨none, some 106, .bslice false 3 1 1 [.p (.v (.int .i64 0))] [(0, 1, .const (.int .i64 (-1)))]⟩,
    ⟨none, some 107, .append 3 1 8 (.tmp 105) (.tmp 106)⟩,
    ⟨none, some 10, .mv (.tmp 107)⟩]) (.rg [⟨none, some 81, .mv (.tmp 10)⟩,
    ⟨none, some 82, .mv (.tmp 9)⟩,
    ⟨none, some 83, .mv (.tmp 5)⟩,
    ⟨none, some 84, .mv (.tmp 11)⟩,
    ⟨none, some 85, .idx 1 (.tmp 83) (.tmp 84)⟩,
    ⟨none, some 86, .load (.tmp 85)⟩,
    ⟨none, some 87, .bin .add (.tmp 82) (.tmp 86)⟩,
    ⟨none, some 88, .bslice false 3 1 1 [.p (.v (.int .i64 0))] [(0, 1, .tmp 87)]⟩,
    ⟨none, some 89, .append 3 1 8 (.tmp 81) (.tmp 88)⟩,
    ⟨none, some 10, .mv (.tmp 89)⟩]))))))))))
  (.rg [⟨none, some 51, .mv (.tmp 11)⟩,
    ⟨none, some 52, .bin .add (.tmp 51) (.const (.int .i64 1))⟩,
    ⟨none, some 11, .mv (.tmp 52)⟩]))
def ac6 (q : Option (Nat × Nat)) : AC := .seq (.rg [⟨none, some 4, .mv (.const (.bool false))⟩])
  (.seq (.seq (.rg [⟨none, some 12, .call 10 []⟩,
    ⟨none, some 13, .un .not (.tmp 12)⟩])
  (.cond (.tmp 13) (.seq (.rg [⟨none, some 4, .mv (.const (.bool false))⟩])
  (.ret)) (.skip)))
  (.seq (.rg [⟨none, some 5, .mv (.const (.slice none 0 0))⟩])
  (.seq (.seq (.rg [⟨none, some 6, .mv (.const (.int .i64 0))⟩])
  (.blk 0 (.loop q [0, 1, 5, 6] (ac6_L0 q))))
  (.seq (.rg [⟨none, some 33, .mv (.tmp 5)⟩,
    ⟨none, some 34, .call 11 [.tmp 33]⟩,
    ⟨none, some 32, .mv (.tmp 34)⟩,
    ⟨none, some 35, .extract (.tmp 32) 0⟩,
    ⟨none, some 36, .extract (.tmp 32) 1⟩,
    ⟨none, some 7, .mv (.tmp 35)⟩,
    ⟨none, some 8, .mv (.tmp 36)⟩])
  (.seq (.seq (.rg [⟨none, some 37, .mv (.tmp 8)⟩,
    ⟨none, some 38, .bin .neq (.tmp 37) (.const (.int .i64 0))⟩,
    ⟨none, some 39, .mv (.tmp 38)⟩,
    ⟨some (39, false), some 40, .mv (.tmp 7)⟩,
    ⟨some (39, false), some 41, .eqP false (.tmp 40) (.const (.pointer none))⟩,
    ⟨none, some 42, .pick (.tmp 39) (.const (.bool true)) (.tmp 41)⟩])
  (.cond (.tmp 42) (.seq (.rg [⟨none, some 4, .mv (.const (.bool false))⟩])
  (.ret)) (.skip)))
  (.seq (.rg [⟨none, some 9, .mv (.const (.int .i64 0))⟩])
  (.seq (.rg [⟨none, some 10, .mv (.const (.slice none 0 0))⟩])
  (.seq (.seq (.rg [⟨none, some 11, .mv (.const (.int .i64 0))⟩])
  (.blk 2 (.loop q [1, 5, 7, 9, 10, 11] (ac6_L1 q))))
  (.seq (.rg [⟨none, some 108, .mv (.tmp 7)⟩,
    ⟨none, some 109, .mv (.tmp 9)⟩,
    ⟨none, some 110, .bin .add (.tmp 109) (.const (.int .i64 9))⟩,
    ⟨none, some 111, .mv (.tmp 10)⟩,
    ⟨none, some 112, .call 26 [.tmp 108, .tmp 110, .tmp 111]⟩,
    ⟨none, some 113, .mv (.tmp 112)⟩,
    ⟨some (113, true), some 114, .mv (.tmp 7)⟩,
    ⟨some (113, true), some 115, .call 18 [.tmp 114]⟩,
    ⟨some (113, true), some 116, .len (.tmp 115)⟩,
    ⟨some (113, true), some 117, .bin .eql (.tmp 116) (.const (.int .i64 0))⟩,
    ⟨none, some 118, .pick (.tmp 113) (.tmp 117) (.const (.bool false))⟩,
    ⟨none, some 4, .mv (.tmp 118)⟩])
  (.ret))))))))))
theorem ac6_ok (q : Option (Nat × Nat)) : compF Go.Proofs.Try.prog Go.Proofs.Try.f6 (ac6 q) = some (ac6 q, [.tmp 4]) := by kernel_rfl

/- clearway clearwaylaw33.LinkSplit -/
def ac7_L0 (q : Option (Nat × Nat)) : AC := .seq (.seq (.rg [⟨none, some 24, .mv (.tmp 8)⟩,
    ⟨none, some 25, .mv (.tmp 0)⟩,
    ⟨none, some 26, .len (.tmp 25)⟩,
    ⟨none, some 27, .bin .lss (.tmp 24) (.tmp 26)⟩,
    ⟨none, some 28, .mv (.tmp 27)⟩,
    ⟨some (28, true), some 29, .mv (.tmp 8)⟩,
    ⟨some (28, true), some 30, .bin .lss (.tmp 29) (.const (.int .i64 30))⟩,
    ⟨none, some 31, .pick (.tmp 28) (.tmp 30) (.const (.bool false))⟩])
  (.cond (.tmp 31) (.skip) (.exit 0)))
  (.seq (.blk 1 (.rg [⟨none, some 34, .mv (.tmp 7)⟩,
    ⟨none, some 35, .mv (.tmp 0)⟩,
    ⟨none, some 36, .mv (.tmp 8)⟩,
    ⟨none, some 37, .idx 1 (.tmp 35) (.tmp 36)⟩,
    ⟨none, some 38, .load (.tmp 37)⟩,
    ⟨none, some 39, .call 25 [.tmp 38]⟩,
    ⟨none, some 40, .bslice false 3 1 1 [.p (.v (.int .i64 0))] [(0, 1, .tmp 39)]⟩,
    ⟨none, some 41, .append 3 1 8 (.tmp 34) (.tmp 40)⟩,
    ⟨none, some 7, .mv (.tmp 41)⟩]))
  (.rg [⟨none, some 32, .mv (.tmp 8)⟩,
    ⟨none, some 33, .bin .add (.tmp 32) (.const (.int .i64 1))⟩,
    ⟨none, some 8, .mv (.tmp 33)⟩]))
def ac7_L1 (q : Option (Nat × Nat)) : AC := .seq (.seq (.rg [⟨none, some 66, .mv (.tmp 13)⟩,
    ⟨none, some 67, .mv (.tmp 7)⟩,
    ⟨none, some 68, .len (.tmp 67)⟩,
    ⟨none, some 69, .bin .lss (.tmp 66) (.tmp 68)⟩])
  (.cond (.tmp 69) (.skip) (.exit 2)))
  (.seq (.blk 3 (.seq (.rg [⟨none, some 72, .mv (.tmp 9)⟩,
    ⟨none, some 73, .mv (.tmp 13)⟩,
    ⟨none, some 74, .mv (.tmp 13)⟩,
    ⟨none, some 75, .bin .add (.tmp 74) (.const (.int .i64 1))⟩,
    ⟨none, some 76, .call 27 [.tmp 75]⟩,
    ⟨none, some 77, .call 13 [.tmp 72, .tmp 73, .tmp 76]⟩,
    ⟨none, some 78, .bin .neq (.tmp 77) (.const (.int .i64 0))⟩,
    ⟨none, some 79, .mv (.tmp 78)⟩,
    ⟨some (79, false), some 80, .mv (.tmp 11)⟩,
    ⟨some (79, false), some 81, .mv (.tmp 13)⟩,
    ⟨some (79, false), some 82, .mv (.tmp 13)⟩,
    ⟨some (79, false), some 83, .bin .add (.tmp 82) (.const (.int .i64 1))⟩,
    ⟨some (79, false), some 84, .call 27 [.tmp 83]⟩,
    ⟨some (79, false), some 85, .call 13 [.tmp 80, .tmp 81, .tmp 84]⟩,
    ⟨some (79, false), some 86, .bin .neq (.tmp 85) (.const (.int .i64 0))⟩,
    ⟨none, some 87, .pick (.tmp 79) (.const (.bool true)) (.tmp 86)⟩])
  (.cond (.tmp 87) (.seq (.rg [⟨none, some 6, .mv (.const (.bool false))⟩])
  (.ret)) (.skip))))
  (.rg [⟨none, some 70, .mv (.tmp 13)⟩,
    ⟨none, some 71, .bin .add (.tmp 70) (.const (.int .i64 1))⟩,
    ⟨none, some 13, .mv (.tmp 71)⟩]))
def ac7 (q : Option (Nat × Nat)) : AC := .seq (.rg [⟨none, some 6, .mv (.const (.bool false))⟩])
  (.seq (.seq (.rg [⟨none, some 22, .call 10 []⟩,
    ⟨none, some 23, .un .not (.tmp 22)⟩])
  (.cond (.tmp 23) (.seq (.rg [⟨none, some 6, .mv (.const (.bool false))⟩])
  (.ret)) (.skip)))
  (.seq (.rg [⟨none, some 7, .mv (.const (.slice none 0 0))⟩])
  (.seq (.seq (.rg [⟨none, some 8, .mv (.const (.int .i64 0))⟩])
  (.blk 0 (.loop q [0, 1, 2, 7, 8] (ac7_L0 q))))
  (.seq (.rg [⟨none, some 43, .mv (.tmp 7)⟩,
    ⟨none, some 44, .call 11 [.tmp 43]⟩,
    ⟨none, some 42, .mv (.tmp 44)⟩,
    ⟨none, some 45, .extract (.tmp 42) 0⟩,
    ⟨none, some 46, .extract (.tmp 42) 1⟩,
    ⟨none, some 9, .mv (.tmp 45)⟩,
    ⟨none, some 10, .mv (.tmp 46)⟩])
  (.seq (.rg [⟨none, some 48, .mv (.tmp 7)⟩,
    ⟨none, some 49, .call 11 [.tmp 48]⟩,
    ⟨none, some 47, .mv (.tmp 49)⟩,
    ⟨none, some 50, .extract (.tmp 47) 0⟩,
    ⟨none, some 51, .extract (.tmp 47) 1⟩,
    ⟨none, some 11, .mv (.tmp 50)⟩,
    ⟨none, some 12, .mv (.tmp 51)⟩])
  (.seq (.seq (.rg [⟨none, some 52, .mv (.tmp 10)⟩,
    ⟨none, some 53, .bin .neq (.tmp 52) (.const (.int .i64 0))⟩,
    ⟨none, some 54, .mv (.tmp 53)⟩,
    ⟨some (54, false), some 55, .mv (.tmp 12)⟩,
    ⟨some (54, false), some 56, .bin .neq (.tmp 55) (.const (.int .i64 0))⟩,
    ⟨none, some 57, .pick (.tmp 54) (.const (.bool true)) (.tmp 56)⟩,
    ⟨none, some 58, .mv (.tmp 57)⟩,
    ⟨some (58, false), some 59, .mv (.tmp 9)⟩,
    ⟨some (58, false), some 60, .eqP false (.tmp 59) (.const (.pointer none))⟩,
    ⟨none, some 61, .pick (.tmp 58) (.const (.bool true)) (.tmp 60)⟩,
    ⟨none, some 62, .mv (.tmp 61)⟩,
    ⟨some (62, false), some 63, .mv (.tmp 11)⟩,
    ⟨some (62, false), some 64, .eqP false (.tmp 63) (.const (.pointer none))⟩,
    ⟨none, some 65, .pick (.tmp 62) (.const (.bool true)) (.tmp 64)⟩])
  (.cond (.tmp 65) (.seq (.rg [⟨none, some 6, .mv (.const (.bool false))⟩])
  (.ret)) (.skip)))
  (.seq (.seq (.rg [⟨none, some 13, .mv (.const (.int .i64 0))⟩])
  (.blk 2 (.loop q [1, 2, 7, 9, 11, 13] (ac7_L1 q))))
  (.seq (.rg [⟨none, some 88, .mv (.tmp 7)⟩,
    ⟨none, some 89, .len (.tmp 88)⟩,
    ⟨none, some 90, .mv (.tmp 1)⟩,
    ⟨none, some 91, .conv .i64 (.tmp 90)⟩,
    ⟨none, some 92, .bin .rem (.tmp 91) (.const (.int .i64 12))⟩,
    ⟨none, some 93, .bin .add (.tmp 89) (.tmp 92)⟩,
    ⟨none, some 14, .mv (.tmp 93)⟩])
  (.seq (.rg [⟨none, some 94, .mv (.tmp 14)⟩,
    ⟨none, some 95, .mv (.tmp 2)⟩,
    ⟨none, some 96, .conv .i64 (.tmp 95)⟩,
    ⟨none, some 97, .bin .rem (.tmp 96) (.const (.int .i64 12))⟩,
    ⟨none, some 98, .bin .add (.tmp 94) (.tmp 97)⟩,
    ⟨none, some 15, .mv (.tmp 98)⟩])
  (.seq (.rg [⟨none, some 100, .mv (.tmp 9)⟩,
    ⟨none, some 101, .mv (.tmp 14)⟩,
    ⟨none, some 102, .call 15 [.tmp 100, .tmp 101]⟩,
    ⟨none, some 99, .mv (.tmp 102)⟩,
    ⟨none, some 103, .extract (.tmp 99) 0⟩,
    ⟨none, some 104, .extract (.tmp 99) 1⟩,
    ⟨none, some 16, .mv (.tmp 103)⟩,
    ⟨none, some 17, .mv (.tmp 104)⟩])
  (.seq (.rg [⟨none, some 106, .mv (.tmp 9)⟩,
    ⟨none, some 107, .mv (.tmp 15)⟩,
    ⟨none, some 108, .call 15 [.tmp 106, .tmp 107]⟩,
    ⟨none, some 105, .mv (.tmp 108)⟩,
    ⟨none, some 109, .extract (.tmp 105) 0⟩,
    ⟨none, some 110, .extract (.tmp 105) 1⟩,
    ⟨none, some 18, .mv (.tmp 109)⟩,
    ⟨none, some 19, .mv (.tmp 110)⟩])
  (.seq (.rg [⟨none, some 112, .mv (.tmp 11)⟩,
    ⟨none, some 113, .mv (.tmp 15)⟩,
    ⟨none, some 114, .call 15 [.tmp 112, .tmp 113]⟩,
    ⟨none, some 111, .mv (.tmp 114)⟩,
    ⟨none, some 115, .extract (.tmp 111) 0⟩,
    ⟨none, some 116, .extract (.tmp 111) 1⟩,
    ⟨none, some 20, .mv (.tmp 115)⟩,
    ⟨none, some 21, .mv (.tmp 116)⟩])
  (.seq (.rg [⟨none, some 117, .mv (.tmp 17)⟩,
    ⟨none, some 118, .bin .eql (.tmp 117) (.const (.int .i64 0))⟩,
    ⟨none, some 119, .mv (.tmp 118)⟩,
    ⟨some (119, true), some 120, .mv (.tmp 19)⟩,
    ⟨some (119, true), some 121, .bin .eql (.tmp 120) (.const (.int .i64 0))⟩,
    ⟨none, some 122, .pick (.tmp 119) (.tmp 121) (.const (.bool false))⟩,
    ⟨none, some 123, .mv (.tmp 122)⟩,
    ⟨some (123, true), some 124, .mv (.tmp 21)⟩,
    ⟨some (123, true), some 125, .bin .eql (.tmp 124) (.const (.int .i64 0))⟩,
    ⟨none, some 126, .pick (.tmp 123) (.tmp 125) (.const (.bool false))⟩,
    ⟨none, some 127, .mv (.tmp 126)⟩,
    ⟨some (127, true), some 128, .bslice true 33 0 4 [.p (.v (.int .i64 0)), .p (.v (.int .i64 0)), .p (.v (.int .u8 0)), .p (.v (.int .i64 0))] []⟩,
    ⟨some (127, true), some 129, .mv (.tmp 16)⟩,
    ⟨some (127, true), some 130, .append 33 4 32 (.tmp 128) (.tmp 129)⟩,
    ⟨some (127, true), some 131, .mv (.tmp 18)⟩,
    ⟨some (127, true), some 132, .append 33 4 32 (.tmp 130) (.tmp 131)⟩,
    ⟨some (127, true), some 133, .mv (.tmp 20)⟩,
    ⟨some (127, true), some 134, .call 17 [.tmp 132, .tmp 133]⟩,
    ⟨none, some 135, .pick (.tmp 127) (.tmp 134) (.const (.bool false))⟩,
    ⟨none, some 136, .mv (.tmp 135)⟩,
    ⟨some (136, true), some 137, .mv (.tmp 9)⟩,
    ⟨some (136, true), some 138, .call 18 [.tmp 137]⟩,
    ⟨some (136, true), some 139, .mv (.tmp 11)⟩,
    ⟨some (136, true), some 140, .call 18 [.tmp 139]⟩,
    ⟨some (136, true), some 141, .call 19 [.tmp 138, .tmp 140]⟩,
    ⟨none, some 142, .pick (.tmp 136) (.tmp 141) (.const (.bool false))⟩,
    ⟨none, some 6, .mv (.tmp 142)⟩])
  (.ret))))))))))))))
theorem ac7_ok (q : Option (Nat × Nat)) : compF Go.Proofs.Try.prog Go.Proofs.Try.f7 (ac7 q) = some (ac7 q, [.tmp 6]) := by kernel_rfl

/- clearway clearwaylaw33.LinkOrder -/
def ac8_L0 (q : Option (Nat × Nat)) : AC := .seq (.seq (.rg [⟨none, some 30, .mv (.tmp 9)⟩,
    ⟨none, some 31, .mv (.tmp 6)⟩,
    ⟨none, some 32, .bin .lss (.tmp 30) (.tmp 31)⟩])
  (.cond (.tmp 32) (.skip) (.exit 0)))
  (.seq (.blk 1 (.seq (.rg [⟨none, some 35, .mv (.tmp 7)⟩,
    ⟨none, some 36, .mv (.tmp 5)⟩,
    ⟨none, some 37, .bslice false 3 1 1 [.p (.v (.int .i64 0))] [(0, 1, .tmp 36)]⟩,
    ⟨none, some 38, .append 3 1 8 (.tmp 35) (.tmp 37)⟩,
    ⟨none, some 7, .mv (.tmp 38)⟩])
  (.rg [⟨none, some 39, .mv (.tmp 8)⟩,
    ⟨none, some 40, .mv (.tmp 9)⟩,
    ⟨none, some 41, .bin .add (.tmp 40) (.const (.int .i64 1))⟩,
    ⟨none, some 42, .call 27 [.tmp 41]⟩,
    ⟨none, some 43, .bslice false 33 1 4 [.p (.v (.int .i64 0)), .p (.v (.int .i64 0)), .p (.v (.int .u8 0)), .p (.v (.int .i64 0))] [(0, 4, .tmp 42)]⟩,
    ⟨none, some 44, .append 33 4 32 (.tmp 39) (.tmp 43)⟩,
    ⟨none, some 8, .mv (.tmp 44)⟩])))
  (.rg [⟨none, some 33, .mv (.tmp 9)⟩,
    ⟨none, some 34, .bin .add (.tmp 33) (.const (.int .i64 1))⟩,
    ⟨none, some 9, .mv (.tmp 34)⟩]))
def ac8_L1 (q : Option (Nat × Nat)) : AC := .seq (.seq (.rg [⟨none, some 68, .mv (.tmp 14)⟩,
    ⟨none, some 69, .mv (.tmp 6)⟩,
    ⟨none, some 70, .bin .lss (.tmp 68) (.tmp 69)⟩])
  (.cond (.tmp 70) (.skip) (.exit 2)))
  (.seq (.blk 3 (.seq (.rg [⟨none, some 73, .mv (.tmp 10)⟩,
    ⟨none, some 74, .mv (.tmp 8)⟩,
    ⟨none, some 75, .mv (.tmp 14)⟩,
    ⟨none, some 76, .idx 4 (.tmp 74) (.tmp 75)⟩,
    ⟨none, some 77, .loadA 4 (.tmp 76)⟩,
    ⟨none, some 78, .call 13 [.tmp 73, .const (.int .i64 10), .tmp 77]⟩,
    ⟨none, some 79, .bin .neq (.tmp 78) (.const (.int .i64 0))⟩,
    ⟨none, some 80, .mv (.tmp 79)⟩,
    ⟨some (80, false), some 81, .mv (.tmp 12)⟩,
    ⟨some (80, false), some 82, .mv (.tmp 8)⟩,
    ⟨some (80, false), some 83, .mv (.tmp 14)⟩,
    ⟨some (80, false), some 84, .idx 4 (.tmp 82) (.tmp 83)⟩,
    ⟨some (80, false), some 85, .loadA 4 (.tmp 84)⟩,
    ⟨some (80, false), some 86, .call 13 [.tmp 81, .const (.int .i64 10), .tmp 85]⟩,
    ⟨some (80, false), some 87, .bin .neq (.tmp 86) (.const (.int .i64 0))⟩,
    ⟨none, some 88, .pick (.tmp 80) (.const (.bool true)) (.tmp 87)⟩])
  (.cond (.tmp 88) (.seq (.rg [⟨none, some 4, .mv (.const (.bool false))⟩])
  (.ret)) (.skip))))
  (.rg [⟨none, some 71, .mv (.tmp 14)⟩,
    ⟨none, some 72, .bin .add (.tmp 71) (.const (.int .i64 1))⟩,
    ⟨none, some 14, .mv (.tmp 72)⟩]))
def ac8 (q : Option (Nat × Nat)) : AC := .seq (.rg [⟨none, some 4, .mv (.const (.bool false))⟩])
  (.seq (.seq (.rg [⟨none, some 22, .call 10 []⟩,
    ⟨none, some 23, .un .not (.tmp 22)⟩])
  (.cond (.tmp 23) (.seq (.rg [⟨none, some 4, .mv (.const (.bool false))⟩])
  (.ret)) (.skip)))
  (.seq (.rg [⟨none, some 24, .mv (.tmp 0)⟩,
    ⟨none, some 25, .conv .i64 (.tmp 24)⟩,
    ⟨none, some 26, .bin .rem (.tmp 25) (.const (.int .i64 9))⟩,
    ⟨none, some 27, .mv (.tmp 1)⟩,
    ⟨none, some 28, .conv .i64 (.tmp 27)⟩,
    ⟨none, some 29, .bin .rem (.tmp 28) (.const (.int .i64 41))⟩,
    ⟨none, some 5, .mv (.tmp 26)⟩,
    ⟨none, some 6, .mv (.tmp 29)⟩])
  (.seq (.rg [⟨none, some 7, .mv (.const (.slice none 0 0))⟩])
  (.seq (.rg [⟨none, some 8, .mv (.const (.slice none 0 0))⟩])
  (.seq (.seq (.rg [⟨none, some 9, .mv (.const (.int .i64 0))⟩])
  (.blk 0 (.loop q [5, 6, 7, 8, 9] (ac8_L0 q))))
  (.seq (.rg [⟨none, some 46, .call 11 [.const (.slice none 0 0)]⟩,
    ⟨none, some 45, .mv (.tmp 46)⟩,
    ⟨none, some 47, .extract (.tmp 45) 0⟩,
    ⟨none, some 48, .extract (.tmp 45) 1⟩,
    ⟨none, some 10, .mv (.tmp 47)⟩,
    ⟨none, some 11, .mv (.tmp 48)⟩])
  (.seq (.rg [⟨none, some 50, .mv (.tmp 7)⟩,
    ⟨none, some 51, .call 11 [.tmp 50]⟩,
    ⟨none, some 49, .mv (.tmp 51)⟩,
    ⟨none, some 52, .extract (.tmp 49) 0⟩,
    ⟨none, some 53, .extract (.tmp 49) 1⟩,
    ⟨none, some 12, .mv (.tmp 52)⟩,
    ⟨none, some 13, .mv (.tmp 53)⟩])
  (.seq (.seq (.rg [⟨none, some 54, .mv (.tmp 11)⟩,
    ⟨none, some 55, .bin .neq (.tmp 54) (.const (.int .i64 0))⟩,
    ⟨none, some 56, .mv (.tmp 55)⟩,
    ⟨some (56, false), some 57, .mv (.tmp 13)⟩,
    ⟨some (56, false), some 58, .bin .neq (.tmp 57) (.const (.int .i64 0))⟩,
    ⟨none, some 59, .pick (.tmp 56) (.const (.bool true)) (.tmp 58)⟩,
    ⟨none, some 60, .mv (.tmp 59)⟩,
    ⟨some (60, false), some 61, .mv (.tmp 10)⟩,
    ⟨some (60, false), some 62, .eqP false (.tmp 61) (.const (.pointer none))⟩,
    ⟨none, some 63, .pick (.tmp 60) (.const (.bool true)) (.tmp 62)⟩,
    ⟨none, some 64, .mv (.tmp 63)⟩,
    ⟨some (64, false), some 65, .mv (.tmp 12)⟩,
    ⟨some (64, false), some 66, .eqP false (.tmp 65) (.const (.pointer none))⟩,
    ⟨none, some 67, .pick (.tmp 64) (.const (.bool true)) (.tmp 66)⟩])
  (.cond (.tmp 67) (.seq (.rg [⟨none, some 4, .mv (.const (.bool false))⟩])
  (.ret)) (.skip)))
  (.seq (.seq (.rg [⟨none, some 14, .mv (.const (.int .i64 0))⟩])
  (.blk 2 (.loop q [5, 6, 8, 10, 12, 14] (ac8_L1 q))))
  (.seq (.rg [⟨none, some 90, .mv (.tmp 10)⟩,
    ⟨none, some 91, .call 15 [.tmp 90, .const (.int .i64 10)]⟩,
    ⟨none, some 89, .mv (.tmp 91)⟩,
    ⟨none, some 92, .extract (.tmp 89) 0⟩,
    ⟨none, some 93, .extract (.tmp 89) 1⟩,
    ⟨none, some 15, .mv (.tmp 92)⟩,
    ⟨none, some 16, .mv (.tmp 93)⟩])
  (.seq (.rg [⟨none, some 95, .mv (.tmp 12)⟩,
    ⟨none, some 96, .mv (.tmp 5)⟩,
    ⟨none, some 97, .bin .add (.const (.int .i64 10)) (.tmp 96)⟩,
    ⟨none, some 98, .bin .sub (.tmp 97) (.const (.int .i64 1))⟩,
    ⟨none, some 99, .mv (.tmp 5)⟩,
    ⟨none, some 100, .bin .eql (.tmp 99) (.const (.int .i64 0))⟩,
    ⟨none, some 101, .call 28 [.tmp 100]⟩,
    ⟨none, some 102, .bin .add (.tmp 98) (.tmp 101)⟩,
    ⟨none, some 103, .call 15 [.tmp 95, .tmp 102]⟩,
    ⟨none, some 94, .mv (.tmp 103)⟩,
    ⟨none, some 104, .extract (.tmp 94) 0⟩,
    ⟨none, some 105, .extract (.tmp 94) 1⟩,
    ⟨none, some 17, .mv (.tmp 104)⟩,
    ⟨none, some 18, .mv (.tmp 105)⟩])
  (.seq (.rg [⟨none, some 107, .mv (.tmp 12)⟩,
    ⟨none, some 108, .mv (.tmp 5)⟩,
    ⟨none, some 109, .bin .add (.const (.int .i64 10)) (.tmp 108)⟩,
    ⟨none, some 110, .call 15 [.tmp 107, .tmp 109]⟩,
    ⟨none, some 106, .mv (.tmp 110)⟩,
    ⟨none, some 111, .extract (.tmp 106) 0⟩,
    ⟨none, some 112, .extract (.tmp 106) 1⟩,
    ⟨none, some 19, .mv (.tmp 111)⟩,
    ⟨none, some 20, .mv (.tmp 112)⟩])
  (.seq (.rg [⟨none, some 113, .mv (.tmp 17)⟩,
    ⟨none, some 114, .len (.tmp 113)⟩,
    ⟨none, some 115, .bin .eql (.tmp 114) (.const (.int .i64 0))⟩,
    ⟨none, some 116, .mv (.tmp 115)⟩,
    ⟨some (116, false), some 117, .mv (.tmp 5)⟩,
    ⟨some (116, false), some 118, .bin .eql (.tmp 117) (.const (.int .i64 0))⟩,
    ⟨some (116, false), some 119, .mv (.tmp 118)⟩,
    ⟨some (119, true), some 120, .mv (.tmp 17)⟩,
    ⟨some (119, true), some 121, .mv (.tmp 8)⟩,
    ⟨some (119, true), some 122, .call 17 [.tmp 120, .tmp 121]⟩,
    ⟨some (116, false), some 123, .pick (.tmp 119) (.tmp 122) (.const (.bool false))⟩,
    ⟨none, some 124, .pick (.tmp 116) (.const (.bool true)) (.tmp 123)⟩,
    ⟨none, some 21, .mv (.tmp 124)⟩])
  (.seq (.rg [⟨none, some 125, .mv (.tmp 16)⟩,
    ⟨none, some 126, .bin .eql (.tmp 125) (.const (.int .i64 0))⟩,
    ⟨none, some 127, .mv (.tmp 126)⟩,
    ⟨some (127, true), some 128, .mv (.tmp 18)⟩,
    ⟨some (127, true), some 129, .bin .eql (.tmp 128) (.const (.int .i64 0))⟩,
    ⟨none, some 130, .pick (.tmp 127) (.tmp 129) (.const (.bool false))⟩,
    ⟨none, some 131, .mv (.tmp 130)⟩,
    ⟨some (131, true), some 132, .mv (.tmp 20)⟩,
    ⟨some (131, true), some 133, .bin .eql (.tmp 132) (.const (.int .i64 0))⟩,
    ⟨none, some 134, .pick (.tmp 131) (.tmp 133) (.const (.bool false))⟩,
    ⟨none, some 135, .mv (.tmp 134)⟩,
    ⟨some (135, true), some 136, .mv (.tmp 15)⟩,
    ⟨some (135, true), some 137, .mv (.tmp 8)⟩,
    ⟨some (135, true), some 138, .call 17 [.tmp 136, .tmp 137]⟩,
    ⟨none, some 139, .pick (.tmp 135) (.tmp 138) (.const (.bool false))⟩,
    ⟨none, some 140, .mv (.tmp 139)⟩,
    ⟨some (140, true), some 141, .mv (.tmp 21)⟩,
    ⟨none, some 142, .pick (.tmp 140) (.tmp 141) (.const (.bool false))⟩,
    ⟨none, some 143, .mv (.tmp 142)⟩,
    ⟨some (143, true), some 144, .bslice true 33 0 4 [.p (.v (.int .i64 0)), .p (.v (.int .i64 0)), .p (.v (.int .u8 0)), .p (.v (.int .i64 0))] []⟩,
    ⟨some (143, true), some 145, .mv (.tmp 17)⟩,
    ⟨some (143, true), some 146, .append 33 4 32 (.tmp 144) (.tmp 145)⟩,
    ⟨some (143, true), some 147, .mv (.tmp 19)⟩,
    ⟨some (143, true), some 148, .append 33 4 32 (.tmp 146) (.tmp 147)⟩,
    ⟨some (143, true), some 149, .mv (.tmp 8)⟩,
    ⟨some (143, true), some 150, .call 17 [.tmp 148, .tmp 149]⟩,
    ⟨none, some 151, .pick (.tmp 143) (.tmp 150) (.const (.bool false))⟩,
    ⟨none, some 4, .mv (.tmp 151)⟩])
  (.ret)))))))))))))))
theorem ac8_ok (q : Option (Nat × Nat)) : compF Go.Proofs.Try.prog Go.Proofs.Try.f8 (ac8 q) = some (ac8 q, [.tmp 4]) := by kernel_rfl

/- clearway clearwaylaw33.LinkRuns -/
def ac9_L0 (q : Option (Nat × Nat)) : AC := .seq (.seq (.rg [⟨none, some 23, .mv (.tmp 8)⟩,
    ⟨none, some 24, .mv (.tmp 0)⟩,
    ⟨none, some 25, .len (.tmp 24)⟩,
    ⟨none, some 26, .bin .lss (.tmp 23) (.tmp 25)⟩,
    ⟨none, some 27, .mv (.tmp 26)⟩,
    ⟨some (27, true), some 28, .mv (.tmp 8)⟩,
    ⟨some (27, true), some 29, .bin .lss (.tmp 28) (.const (.int .i64 60))⟩,
    ⟨none, some 30, .pick (.tmp 27) (.tmp 29) (.const (.bool false))⟩])
  (.cond (.tmp 30) (.skip) (.exit 0)))
  (.seq (.blk 1 (.rg [⟨none, some 33, .mv (.tmp 5)⟩,
    ⟨none, some 34, .mv (.tmp 0)⟩,
    ⟨none, some 35, .mv (.tmp 8)⟩,
    ⟨none, some 36, .idx 1 (.tmp 34) (.tmp 35)⟩,
    ⟨none, some 37, .load (.tmp 36)⟩,
    ⟨none, some 38, .call 25 [.tmp 37]⟩,
    ⟨none, some 39, .bslice false 3 1 1 [.p (.v (.int .i64 0))] [(0, 1, .tmp 38)]⟩,
    ⟨none, some 40, .append 3 1 8 (.tmp 33) (.tmp 39)⟩,
    ⟨none, some 5, .mv (.tmp 40)⟩]))
  (.rg [⟨none, some 31, .mv (.tmp 8)⟩,
    ⟨none, some 32, .bin .add (.tmp 31) (.const (.int .i64 1))⟩,
    ⟨none, some 8, .mv (.tmp 32)⟩]))
def ac9_L1 (q : Option (Nat × Nat)) : AC := .seq (.seq (.rg [⟨none, some 41, .mv (.tmp 9)⟩,
    ⟨none, some 42, .mv (.tmp 1)⟩,
    ⟨none, some 43, .len (.tmp 42)⟩,
    ⟨none, some 44, .bin .lss (.tmp 41) (.tmp 43)⟩,
    ⟨none, some 45, .mv (.tmp 44)⟩,
    ⟨some (45, true), some 46, .mv (.tmp 9)⟩,
    ⟨some (45, true), some 47, .bin .lss (.tmp 46) (.const (.int .i64 60))⟩,
    ⟨none, some 48, .pick (.tmp 45) (.tmp 47) (.const (.bool false))⟩])
  (.cond (.tmp 48) (.skip) (.exit 2)))
  (.seq (.blk 3 (.rg [⟨none, some 51, .mv (.tmp 6)⟩,
    ⟨none, some 52, .mv (.tmp 1)⟩,
    ⟨none, some 53, .mv (.tmp 9)⟩,
    ⟨none, some 54, .idx 1 (.tmp 52) (.tmp 53)⟩,
    ⟨none, some 55, .load (.tmp 54)⟩,
    ⟨none, some 56, .call 25 [.tmp 55]⟩,
    ⟨none, some 57, .bslice false 3 1 1 [.p (.v (.int .i64 0))] [(0, 1, .tmp 56)]⟩,
    ⟨none, some 58, .append 3 1 8 (.tmp 51) (.tmp 57)⟩,
    ⟨none, some 6, .mv (.tmp 58)⟩]))
  (.rg [⟨none, some 49, .mv (.tmp 9)⟩,
    ⟨none, some 50, .bin .add (.tmp 49) (.const (.int .i64 1))⟩,
    ⟨none, some 9, .mv (.tmp 50)⟩]))
def ac9_L2 (q : Option (Nat × Nat)) : AC := .seq (.seq (.rg [⟨none, some 62, .mv (.tmp 10)⟩,
    ⟨none, some 63, .bin .geq (.tmp 62) (.const (.int .i64 0))⟩])
  (.cond (.tmp 63) (.skip) (.exit 4)))
  (.seq (.blk 5 (.rg [⟨none, some 66, .mv (.tmp 7)⟩,
    ⟨none, some 67, .mv (.tmp 5)⟩,
    ⟨none, some 68, .mv (.tmp 10)⟩,
    ⟨none, some 69, .idx 1 (.tmp 67) (.tmp 68)⟩,
    ⟨none, some 70, .load (.tmp 69)⟩,
    ⟨none, some 71, .bslice false 3 1 1 [.p (.v (.int .i64 0))] [(0, 1, .tmp 70)]⟩,
    ⟨none, some 72, .append 3 1 8 (.tmp 66) (.tmp 71)⟩,
    ⟨none, some 7, .mv (.tmp 72)⟩]))
  (.rg [⟨none, some 64, .mv (.tmp 10)⟩,
    ⟨none, some 65, .bin .sub (.tmp 64) (.const (.int .i64 1))⟩,
    ⟨none, some 10, .mv (.tmp 65)⟩]))
def ac9 (q : Option (Nat × Nat)) : AC := .seq (.rg [⟨none, some 4, .mv (.const (.bool false))⟩])
  (.seq (.seq (.rg [⟨none, some 21, .call 10 []⟩,
    ⟨none, some 22, .un .not (.tmp 21)⟩])
  (.cond (.tmp 22) (.seq (.rg [⟨none, some 4, .mv (.const (.bool false))⟩])
  (.ret)) (.skip)))
  (.seq (.rg [⟨none, some 5, .mv (.const (.slice none 0 0))⟩,
    ⟨none, some 6, .mv (.const (.slice none 0 0))⟩,
    ⟨none, some 7, .mv (.const (.slice none 0 0))⟩])
  (.seq (.seq (.rg [⟨none, some 8, .mv (.const (.int .i64 0))⟩])
  (.blk 0 (.loop q [0, 1, 5, 6, 7, 8] (ac9_L0 q))))
  (.seq (.seq (.rg [⟨none, some 9, .mv (.const (.int .i64 0))⟩])
  (.blk 2 (.loop q [1, 5, 6, 7, 9] (ac9_L1 q))))
  (.seq (.seq (.rg [⟨none, some 59, .mv (.tmp 5)⟩,
    ⟨none, some 60, .len (.tmp 59)⟩,
    ⟨none, some 61, .bin .sub (.tmp 60) (.const (.int .i64 1))⟩,
    ⟨none, some 10, .mv (.tmp 61)⟩])
  (.blk 4 (.loop q [5, 6, 7, 10] (ac9_L2 q))))
  (.seq (.rg [⟨none, some 74, .mv (.tmp 5)⟩,
    ⟨none, some 75, .call 22 [.tmp 74]⟩,
    ⟨none, some 73, .mv (.tmp 75)⟩,
    ⟨none, some 76, .extract (.tmp 73) 0⟩,
    ⟨none, some 77, .extract (.tmp 73) 1⟩,
    ⟨none, some 11, .mv (.tmp 76)⟩,
    ⟨none, some 12, .mv (.tmp 77)⟩])
  (.seq (.rg [⟨none, some 79, .mv (.tmp 6)⟩,
    ⟨none, some 80, .call 22 [.tmp 79]⟩,
    ⟨none, some 78, .mv (.tmp 80)⟩,
    ⟨none, some 81, .extract (.tmp 78) 0⟩,
    ⟨none, some 82, .extract (.tmp 78) 1⟩,
    ⟨none, some 13, .mv (.tmp 81)⟩,
    ⟨none, some 14, .mv (.tmp 82)⟩])
  (.seq (.rg [⟨none, some 84, .mv (.tmp 7)⟩,
    ⟨none, some 85, .call 22 [.tmp 84]⟩,
    ⟨none, some 83, .mv (.tmp 85)⟩,
    ⟨none, some 86, .extract (.tmp 83) 0⟩,
    ⟨none, some 87, .extract (.tmp 83) 1⟩,
    ⟨none, some 15, .mv (.tmp 86)⟩,
    ⟨none, some 16, .mv (.tmp 87)⟩])
  (.seq (.rg [⟨none, some 89, .bslice true 3 0 1 [.p (.v (.int .i64 0))] []⟩,
    ⟨none, some 90, .mv (.tmp 5)⟩,
    ⟨none, some 91, .append 3 1 8 (.tmp 89) (.tmp 90)⟩,
    ⟨none, some 92, .bslice false 3 1 1 [.p (.v (.int .i64 0))] [(0, 1, .const (.int .i64 0))]⟩,
    ⟨none, some 93, .append 3 1 8 (.tmp 91) (.tmp 92)⟩,
    ⟨none, some 94, .mv (.tmp 6)⟩,
    ⟨none, some 95, .append 3 1 8 (.tmp 93) (.tmp 94)⟩,
    ⟨none, some 96, .call 22 [.tmp 95]⟩,
    ⟨none, some 88, .mv (.tmp 96)⟩,
    ⟨none, some 97, .extract (.tmp 88) 0⟩,
    ⟨none, some 98, .extract (.tmp 88) 1⟩,
    ⟨none, some 17, .mv (.tmp 97)⟩,
    ⟨none, some 18, .mv (.tmp 98)⟩])
  (.seq (.rg [⟨none, some 100, .bslice true 3 0 1 [.p (.v (.int .i64 0))] []⟩,
    ⟨none, some 101, .mv (.tmp 5)⟩,
    ⟨none, some 102, .append 3 1 8 (.tmp 100) (.tmp 101)⟩,
    ⟨none, some 103, .mv (.tmp 6)⟩,
    ⟨none, some 104, .append 3 1 8 (.tmp 102) (.tmp 103)⟩,
    ⟨none, some 105, .call 22 [.tmp 104]⟩,
    ⟨none, some 99, .mv (.tmp 105)⟩,
    ⟨none, some 106, .extract (.tmp 99) 0⟩,
    ⟨none, some 107, .extract (.tmp 99) 1⟩,
    ⟨none, some 19, .mv (.tmp 106)⟩,
    ⟨none, some 20, .mv (.tmp 107)⟩])
  (.seq (.rg [⟨none, some 108, .mv (.tmp 12)⟩,
    ⟨none, some 109, .bin .eql (.tmp 108) (.const (.int .i64 0))⟩,
    ⟨none, some 110, .mv (.tmp 109)⟩,
    ⟨some (110, true), some 111, .mv (.tmp 14)⟩,
    ⟨some (110, true), some 112, .bin .eql (.tmp 111) (.const (.int .i64 0))⟩,
    ⟨none, some 113, .pick (.tmp 110) (.tmp 112) (.const (.bool false))⟩,
    ⟨none, some 114, .mv (.tmp 113)⟩,
    ⟨some (114, true), some 115, .mv (.tmp 16)⟩,
    ⟨some (114, true), some 116, .bin .eql (.tmp 115) (.const (.int .i64 0))⟩,
    ⟨none, some 117, .pick (.tmp 114) (.tmp 116) (.const (.bool false))⟩,
    ⟨none, some 118, .mv (.tmp 117)⟩,
    ⟨some (118, true), some 119, .mv (.tmp 18)⟩,
    ⟨some (118, true), some 120, .bin .eql (.tmp 119) (.const (.int .i64 0))⟩,
    ⟨none, some 121, .pick (.tmp 118) (.tmp 120) (.const (.bool false))⟩,
    ⟨none, some 122, .mv (.tmp 121)⟩,
    ⟨some (122, true), some 123, .mv (.tmp 20)⟩,
    ⟨some (122, true), some 124, .bin .eql (.tmp 123) (.const (.int .i64 0))⟩,
    ⟨none, some 125, .pick (.tmp 122) (.tmp 124) (.const (.bool false))⟩,
    ⟨none, some 126, .mv (.tmp 125)⟩,
    ⟨some (126, true), some 127, .mv (.tmp 15)⟩,
    ⟨some (126, true), some 128, .mv (.tmp 11)⟩,
    ⟨some (126, true), some 129, .bin .eql (.tmp 127) (.tmp 128)⟩,
    ⟨none, some 130, .pick (.tmp 126) (.tmp 129) (.const (.bool false))⟩,
    ⟨none, some 131, .mv (.tmp 130)⟩,
    ⟨some (131, true), some 132, .mv (.tmp 17)⟩,
    ⟨some (131, true), some 133, .mv (.tmp 11)⟩,
    ⟨some (131, true), some 134, .mv (.tmp 13)⟩,
    ⟨some (131, true), some 135, .minmax true [.tmp 133, .tmp 134]⟩,
    ⟨some (131, true), some 136, .bin .eql (.tmp 132) (.tmp 135)⟩,
    ⟨none, some 137, .pick (.tmp 131) (.tmp 136) (.const (.bool false))⟩,
    ⟨none, some 138, .mv (.tmp 137)⟩,
    ⟨some (138, true), some 139, .mv (.tmp 19)⟩,
    ⟨some (138, true), some 140, .mv (.tmp 11)⟩,
    ⟨some (138, true), some 141, .mv (.tmp 13)⟩,
    ⟨some (138, true), some 142, .minmax true [.tmp 140, .tmp 141]⟩,
    ⟨some (138, true), some 143, .bin .geq (.tmp 139) (.tmp 142)⟩,
    ⟨none, some 144, .pick (.tmp 138) (.tmp 143) (.const (.bool false))⟩,
    ⟨none, some 145, .mv (.tmp 144)⟩,
    ⟨some (145, true), some 146, .mv (.tmp 19)⟩,
    ⟨some (145, true), some 147, .mv (.tmp 11)⟩,
    ⟨some (145, true), some 148, .mv (.tmp 13)⟩,
    ⟨some (145, true), some 149, .bin .add (.tmp 147) (.tmp 148)⟩,
    ⟨some (145, true), some 150, .bin .leq (.tmp 146) (.tmp 149)⟩,
    ⟨none, some 151, .pick (.tmp 145) (.tmp 150) (.const (.bool false))⟩,
    ⟨none, some 4, .mv (.tmp 151)⟩])
  (.ret))))))))))))
theorem ac9_ok (q : Option (Nat × Nat)) : compF Go.Proofs.Try.prog Go.Proofs.Try.f9 (ac9 q) = some (ac9 q, [.tmp 4]) := by kernel_rfl

/- clearway clearwaylaw33.awake -/
def ac10 (q : Option (Nat × Nat)) : AC := .seq (.rg [⟨none, some 0, .mv (.const (.bool false))⟩])
  (.seq (.rg [⟨none, some 6, .bslice false 3 3 1 [.p (.v (.int .i64 0))] [(0, 1, .const (.int .i64 2)), (1, 1, .const (.int .i64 (-1))), (2, 1, .const (.int .i64 0))]⟩,
    ⟨none, some 7, .call 11 [.tmp 6]⟩,
    ⟨none, some 5, .mv (.tmp 7)⟩,
    ⟨none, some 8, .extract (.tmp 5) 0⟩,
    ⟨none, some 9, .extract (.tmp 5) 1⟩,
    ⟨none, some 1, .mv (.tmp 8)⟩,
    ⟨none, some 2, .mv (.tmp 9)⟩])
  (.seq (.seq (.rg [⟨none, some 10, .mv (.tmp 2)⟩,
    ⟨none, some 11, .bin .neq (.tmp 10) (.const (.int .i64 0))⟩,
    ⟨none, some 12, .mv (.tmp 11)⟩,
    ⟨some (12, false), some 13, .mv (.tmp 1)⟩,
    ⟨some (12, false), some 14, .eqP false (.tmp 13) (.const (.pointer none))⟩,
    ⟨none, some 15, .pick (.tmp 12) (.const (.bool true)) (.tmp 14)⟩,
    ⟨none, some 16, .mv (.tmp 15)⟩,
    ⟨some (16, false), some 17, .mv (.tmp 1)⟩,
    ⟨some (16, false), some 18, .call 27 [.const (.int .i64 1)]⟩,
    ⟨some (16, false), some 19, .call 13 [.tmp 17, .const (.int .i64 5), .tmp 18]⟩,
    ⟨some (16, false), some 20, .bin .neq (.tmp 19) (.const (.int .i64 0))⟩,
    ⟨none, some 21, .pick (.tmp 16) (.const (.bool true)) (.tmp 20)⟩,
    ⟨none, some 22, .mv (.tmp 21)⟩,
    ⟨some (22, false), some 23, .mv (.tmp 1)⟩,
    ⟨some (22, false), some 24, .call 27 [.const (.int .i64 2)]⟩,
    ⟨some (22, false), some 25, .call 13 [.tmp 23, .const (.int .i64 5), .tmp 24]⟩,
    ⟨some (22, false), some 26, .bin .neq (.tmp 25) (.const (.int .i64 0))⟩,
    ⟨none, some 27, .pick (.tmp 22) (.const (.bool true)) (.tmp 26)⟩,
    ⟨none, some 28, .mv (.tmp 27)⟩,
    ⟨some (28, false), some 29, .mv (.tmp 1)⟩,
    ⟨some (28, false), some 30, .call 27 [.const (.int .i64 3)]⟩,
    ⟨some (28, false), some 31, .call 13 [.tmp 29, .const (.int .i64 5), .tmp 30]⟩,
    ⟨some (28, false), some 32, .bin .neq (.tmp 31) (.const (.int .i64 0))⟩,
    ⟨none, some 33, .pick (.tmp 28) (.const (.bool true)) (.tmp 32)⟩])
  (.cond (.tmp 33) (.seq (.rg [⟨none, some 0, .mv (.const (.bool false))⟩])
  (.ret)) (.skip)))
  (.seq (.seq (.rg [⟨none, some 34, .mv (.tmp 1)⟩,
    ⟨none, some 35, .call 18 [.tmp 34]⟩,
    ⟨none, some 36, .call 27 [.const (.int .i64 3)]⟩,
    ⟨none, some 37, .build [.p (.v (.int .i64 0)), .p (.v (.int .i64 0)), .p (.v (.int .i64 0)), .p (.v (.int .i64 0)), .p (.v (.int .u8 0)), .p (.v (.int .i64 0))] [(0, 1, .const (.int .i64 5)), (1, 1, .const (.int .i64 2)), (2, 4, .tmp 36)]⟩,
    ⟨none, some 38, .call 27 [.const (.int .i64 1)]⟩,
    ⟨none, some 39, .build [.p (.v (.int .i64 0)), .p (.v (.int .i64 0)), .p (.v (.int .i64 0)), .p (.v (.int .i64 0)), .p (.v (.int .u8 0)), .p (.v (.int .i64 0))] [(0, 1, .const (.int .i64 7)), (1, 1, .const (.int .i64 0)), (2, 4, .tmp 38)]⟩,
    ⟨none, some 40, .bslice false 49 2 6 [.p (.v (.int .i64 0)), .p (.v (.int .i64 0)), .p (.v (.int .i64 0)), .p (.v (.int .i64 0)), .p (.v (.int .u8 0)), .p (.v (.int .i64 0))] [(0, 6, .tmp 37), (6, 6, .tmp 39)]⟩,
    ⟨none, some 41, .call 19 [.tmp 35, .tmp 40]⟩,
    ⟨none, some 42, .un .not (.tmp 41)⟩,
    ⟨none, some 43, .mv (.tmp 42)⟩,
    ⟨some (43, false), some 44, .mv (.tmp 1)⟩,
    ⟨some (43, false), some 45, .bslice false 3 1 1 [.p (.v (.int .i64 0))] [(0, 1, .const (.int .i64 3))]⟩,
    ⟨some (43, false), some 46, .call 29 [.tmp 44, .const (.int .i64 5), .tmp 45]⟩,
    ⟨some (43, false), some 47, .un .not (.tmp 46)⟩,
    ⟨none, some 48, .pick (.tmp 43) (.const (.bool true)) (.tmp 47)⟩,
    ⟨none, some 49, .mv (.tmp 48)⟩,
    ⟨some (49, false), some 50, .mv (.tmp 1)⟩,
    ⟨some (49, false), some 51, .call 29 [.tmp 50, .const (.int .i64 6), .const (.slice none 0 0)]⟩,
    ⟨some (49, false), some 52, .un .not (.tmp 51)⟩,
    ⟨none, some 53, .pick (.tmp 49) (.const (.bool true)) (.tmp 52)⟩,
    ⟨none, some 54, .mv (.tmp 53)⟩,
    ⟨some (54, false), some 55, .mv (.tmp 1)⟩,
    ⟨some (54, false), some 56, .bslice false 3 1 1 [.p (.v (.int .i64 0))] [(0, 1, .const (.int .i64 1))]⟩,
    ⟨some (54, false), some 57, .call 29 [.tmp 55, .const (.int .i64 7), .tmp 56]⟩,
    ⟨some (54, false), some 58, .un .not (.tmp 57)⟩,
    ⟨none, some 59, .pick (.tmp 54) (.const (.bool true)) (.tmp 58)⟩])
  (.cond (.tmp 59) (.seq (.rg [⟨none, some 0, .mv (.const (.bool false))⟩])
  (.ret)) (.skip)))
  (.seq (.seq (.rg [⟨none, some 60, .mv (.tmp 1)⟩,
    ⟨none, some 61, .call 27 [.const (.int .i64 4)]⟩,
    ⟨none, some 62, .call 13 [.tmp 60, .const (.int .i64 7), .tmp 61]⟩,
    ⟨none, some 63, .bin .neq (.tmp 62) (.const (.int .i64 0))⟩,
    ⟨none, some 64, .mv (.tmp 63)⟩,
    ⟨some (64, false), some 65, .mv (.tmp 1)⟩,
    ⟨some (64, false), some 66, .call 21 [.tmp 65]⟩,
    ⟨some (64, false), some 67, .bin .neq (.tmp 66) (.const (.int .i64 4))⟩,
    ⟨none, some 68, .pick (.tmp 64) (.const (.bool true)) (.tmp 67)⟩,
    ⟨none, some 69, .mv (.tmp 68)⟩,
    ⟨some (69, false), some 70, .mv (.tmp 1)⟩,
    ⟨some (69, false), some 71, .bslice false 3 1 1 [.p (.v (.int .i64 0))] [(0, 1, .const (.int .i64 4))]⟩,
    ⟨some (69, false), some 72, .call 29 [.tmp 70, .const (.int .i64 7), .tmp 71]⟩,
    ⟨some (69, false), some 73, .un .not (.tmp 72)⟩,
    ⟨none, some 74, .pick (.tmp 69) (.const (.bool true)) (.tmp 73)⟩])
  (.cond (.tmp 74) (.seq (.rg [⟨none, some 0, .mv (.const (.bool false))⟩])
  (.ret)) (.skip)))
  (.seq (.rg [⟨none, some 76, .bslice false 3 4 1 [.p (.v (.int .i64 0))] [(0, 1, .const (.int .i64 (-1))), (1, 1, .const (.int .i64 0)), (2, 1, .const (.int .i64 (-1))), (3, 1, .const (.int .i64 (-1)))]⟩,
    ⟨none, some 77, .call 22 [.tmp 76]⟩,
    ⟨none, some 75, .mv (.tmp 77)⟩,
    ⟨none, some 78, .extract (.tmp 75) 0⟩,
    ⟨none, some 79, .extract (.tmp 75) 1⟩,
    ⟨none, some 3, .mv (.tmp 78)⟩,
    ⟨none, some 4, .mv (.tmp 79)⟩])
  (.seq (.rg [⟨none, some 80, .mv (.tmp 3)⟩,
    ⟨none, some 81, .bin .eql (.tmp 80) (.const (.int .i64 2))⟩,
    ⟨none, some 82, .mv (.tmp 81)⟩,
    ⟨some (82, true), some 83, .mv (.tmp 4)⟩,
    ⟨some (82, true), some 84, .bin .eql (.tmp 83) (.const (.int .i64 0))⟩,
    ⟨none, some 85, .pick (.tmp 82) (.tmp 84) (.const (.bool false))⟩,
    ⟨none, some 0, .mv (.tmp 85)⟩])
  (.ret)))))))
theorem ac10_ok (q : Option (Nat × Nat)) : compF Go.Proofs.Try.prog Go.Proofs.Try.f10 (ac10 q) = some (ac10 q, [.tmp 0]) := by kernel_rfl

/- clearway link.New -/
def ac11 (q : Option (Nat × Nat)) : AC := .seq (.rg [⟨none, some 2, .mv (.const (.pointer none))⟩,
    ⟨none, some 3, .mv (.const (.int .i64 0))⟩])
  (.seq (.seq (.rg [⟨none, some 6, .mv (.tmp 0)⟩,
    ⟨none, some 7, .call 30 [.tmp 6]⟩,
    ⟨none, some 4, .mv (.tmp 7)⟩])
  (.seq (.rg [⟨none, some 8, .mv (.tmp 4)⟩,
    ⟨none, some 9, .bin .neq (.tmp 8) (.const (.int .i64 0))⟩])
  (.cond (.tmp 9) (.seq (.rg [⟨none, some 10, .mv (.tmp 4)⟩,
    ⟨none, some 2, .mv (.const (.pointer none))⟩,
    ⟨none, some 3, .mv (.tmp 10)⟩])
  (.ret)) (.skip))))
  (.seq (.rg [⟨none, some 11, .bsliceM 49 0 6 [.p (.v (.int .i64 0)), .p (.v (.int .i64 0)), .p (.v (.int .i64 0)), .p (.v (.int .i64 0)), .p (.v (.int .u8 0)), .p (.v (.int .i64 0))] []⟩,
    ⟨none, some 12, .box 70 (.tmp 11)⟩,
    ⟨none, some 13, .build (List.replicate 258 (.p (.v (.int .i64 0))) ++ [.p (.v (.pointer none))]) [(258, 1, .tmp 12)]⟩,
    ⟨none, some 14, .box 73 (.tmp 13)⟩,
    ⟨none, some 5, .mv (.tmp 14)⟩])
  (.seq (.rg [⟨none, some 15, .mv (.tmp 5)⟩,
    ⟨none, some 16, .nilck (.tmp 15)⟩,
    ⟨none, some 17, .fieldA 0 (.tmp 16)⟩,
    ⟨none, some 18, .sliceA 256 1 (.tmp 17)⟩,
    ⟨none, some 19, .mv (.tmp 0)⟩,
    ⟨none, some 20, .copy 1 (.tmp 18) (.tmp 19)⟩])
  (.seq (.rg [⟨none, some 21, .mv (.tmp 5)⟩,
    ⟨none, some 2, .mv (.tmp 21)⟩,
    ⟨none, some 3, .mv (.const (.int .i64 0))⟩])
  (.ret)))))
theorem ac11_ok (q : Option (Nat × Nat)) : compF Go.Proofs.Try.prog Go.Proofs.Try.f11 (ac11 q) = some (ac11 q, [.tmp 2, .tmp 3]) := by kernel_rfl
end Go.Ab
