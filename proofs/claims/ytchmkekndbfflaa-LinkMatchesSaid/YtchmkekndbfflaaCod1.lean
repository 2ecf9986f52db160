/- The codes of functions of this seat, as annotated, compared with the program by the kernel. No conditions. -/
import Derived.Test.YtchmkekndbfflaaProg
import Derived.Test.YtchmkekndbfflaaAbE
set_option linter.unusedVariables false
set_option linter.unusedSimpArgs false
namespace Go.Ab
/- clearway clearwaylaw33.LinkMatches -/
def ac3_L0 (q : Option (Nat × Nat)) : AC := .seq (.seq (.rg [⟨none, some 50, .mv (.tmp 10)⟩,
    ⟨none, some 51, .mv (.tmp 5)⟩,
    ⟨none, some 52, .len (.tmp 51)⟩,
    ⟨none, some 53, .bin .lss (.tmp 50) (.tmp 52)⟩])
  (.cond (.tmp 53) (.skip) (.exit 0)))
  (.seq (.blk 1 (.seq (.seq (.dr [(false, [(0, 0), (1, 0), (2, 0), (3, 0), (4, 0), (5, 0), (6, 0), (7, 0)], [⟨none, some 56, .mv (.tmp 5)⟩,
    ⟨none, some 57, .mv (.tmp 10)⟩,
    ⟨none, some 58, .idx 1 (.tmp 56) (.tmp 57)⟩,
    ⟨none, some 59, .load (.tmp 58)⟩,
    ⟨none, some 60, .mv (.tmp 0)⟩,
    ⟨none, some 61, .mv (.tmp 10)⟩,
    ⟨none, some 62, .idx 1 (.tmp 60) (.tmp 61)⟩,
    ⟨none, some 63, .load (.tmp 62)⟩]),
   (true, [(8, 0)], [⟨none, some 64, .bin .neq (.tmp 59) (.tmp 63)⟩])])
  (.cond (.tmp 64) (.seq (.rg [⟨none, some 4, .mv (.const (.bool false))⟩])
  (.ret)) (.skip)))
  (.rg [⟨none, some 65, .mv (.tmp 5)⟩,
    ⟨none, some 66, .mv (.tmp 10)⟩,
    ⟨none, some 67, .idx 1 (.tmp 65) (.tmp 66)⟩,
    ⟨none, none, .store 1 (.tmp 67) (.const (.int .i64 (-1)))⟩])))
  (.rg [⟨none, some 54, .mv (.tmp 10)⟩,
    ⟨none, some 55, .bin .add (.tmp 54) (.const (.int .i64 1))⟩,
    ⟨none, some 10, .mv (.tmp 55)⟩]))
def ac3_L1 (q : Option (Nat × Nat)) : AC := .seq (.seq (.rg [⟨none, some 122, .mv (.tmp 17)⟩,
    ⟨none, some 123, .mv (.tmp 13)⟩,
    ⟨none, some 124, .len (.tmp 123)⟩,
    ⟨none, some 125, .bin .lss (.tmp 122) (.tmp 124)⟩])
  (.cond (.tmp 125) (.skip) (.exit 4)))
  (.seq (.blk 5 (.rg [⟨none, some 128, .mv (.tmp 13)⟩,
    ⟨none, some 129, .mv (.tmp 17)⟩,
    ⟨none, some 130, .build [.p (.v (.int .i64 0)), .p (.v (.int .i64 0)), .p (.v (.int .u8 0)), .p (.v (.int .i64 0))] []⟩,
    ⟨none, some 131, .idx 4 (.tmp 128) (.tmp 129)⟩,
    ⟨none, none, .store 4 (.tmp 131) (.tmp 130)⟩]))
  (.rg [⟨none, some 126, .mv (.tmp 17)⟩,
    ⟨none, some 127, .bin .add (.tmp 126) (.const (.int .i64 1))⟩,
    ⟨none, some 17, .mv (.tmp 127)⟩]))
def ac3_L2 (q : Option (Nat × Nat)) : AC := .seq (.seq (.rg [⟨none, some 149, .mv (.tmp 19)⟩,
    ⟨none, some 150, .mv (.tmp 18)⟩,
    ⟨none, some 151, .len (.tmp 150)⟩,
    ⟨none, some 152, .bin .lss (.tmp 149) (.tmp 151)⟩])
  (.cond (.tmp 152) (.skip) (.exit 6)))
  (.seq (.blk 7 (.rg [⟨none, some 155, .mv (.tmp 18)⟩,
    ⟨none, some 156, .mv (.tmp 19)⟩,
    ⟨none, some 157, .build [.p (.v (.int .i64 0)), .p (.v (.int .i64 0)), .p (.v (.int .i64 0)), .p (.v (.int .i64 0)), .p (.v (.int .u8 0)), .p (.v (.int .i64 0))] []⟩,
    ⟨none, some 158, .idx 6 (.tmp 155) (.tmp 156)⟩,
    ⟨none, none, .store 6 (.tmp 158) (.tmp 157)⟩]))
  (.rg [⟨none, some 153, .mv (.tmp 19)⟩,
    ⟨none, some 154, .bin .add (.tmp 153) (.const (.int .i64 1))⟩,
    ⟨none, some 19, .mv (.tmp 154)⟩]))
def ac3_L3 (q : Option (Nat × Nat)) : AC := .seq (.seq (.rg [⟨none, some 68, .mv (.tmp 11)⟩,
    ⟨none, some 69, .mv (.tmp 1)⟩,
    ⟨none, some 70, .len (.tmp 69)⟩,
    ⟨none, some 71, .bin .lss (.tmp 68) (.tmp 70)⟩,
    ⟨none, some 72, .mv (.tmp 71)⟩,
    ⟨some (72, true), some 73, .mv (.tmp 11)⟩,
    ⟨some (72, true), some 74, .bin .lss (.tmp 73) (.const (.int .i64 90))⟩,
    ⟨none, some 75, .pick (.tmp 72) (.tmp 74) (.const (.bool false))⟩])
  (.cond (.tmp 75) (.skip) (.exit 2)))
  (.seq (.blk 3 (.seq (.rg [⟨none, some 78, .mv (.tmp 1)⟩,
    ⟨none, some 79, .mv (.tmp 11)⟩,
    ⟨none, some 80, .idx 6 (.tmp 78) (.tmp 79)⟩,
    ⟨none, some 81, .loadA 6 (.tmp 80)⟩,
    ⟨none, some 12, .alloc 35 [.p (.v (.int .u8 0)), .p (.v (.int .i64 0)), .p (.v (.int .i64 0)), .p (.v (.int .i64 0)), .p (.v (.int .u8 0)), .p (.v (.int .i64 0))]⟩,
    ⟨none, none, .store 6 (.tmp 12) (.tmp 81)⟩])
  (.seq (.seq (.rg [⟨none, some 82, .fieldA 0 (.tmp 12)⟩,
    ⟨none, some 83, .load (.tmp 82)⟩,
    ⟨none, some 84, .bin .rem (.tmp 83) (.const (.int .u8 2))⟩,
    ⟨none, some 85, .bin .eql (.tmp 84) (.const (.int .u8 0))⟩])
  (.cond (.tmp 85) (.seq (.dr [(false, [(0, 0), (1, 0), (2, 0), (3, 0), (4, 0), (6, 0), (7, 0), (8, 0), (9, 0), (10, 0), (5, 0)], [⟨none, some 86, .mv (.tmp 6)⟩,
    ⟨none, some 87, .fieldA 1 (.tmp 12)⟩,
    ⟨none, some 88, .load (.tmp 87)⟩,
    ⟨none, some 89, .fieldA 2 (.tmp 12)⟩,
    ⟨none, some 90, .loadA 4 (.tmp 89)⟩,
    ⟨none, some 92, .mv (.tmp 8)⟩,
    ⟨none, some 93, .fieldA 1 (.tmp 12)⟩,
    ⟨none, some 94, .load (.tmp 93)⟩,
    ⟨none, some 95, .fieldA 2 (.tmp 12)⟩,
    ⟨none, some 96, .loadA 4 (.tmp 95)⟩,
    ⟨none, some 91, .call 13 [.tmp 86, .tmp 88, .tmp 90]⟩]),
   (true, [(11, 0), (12, 0)], [⟨none, some 97, .call 14 [.tmp 92, .tmp 94, .tmp 96]⟩,
    ⟨none, some 98, .bin .neq (.tmp 91) (.tmp 97)⟩])])
  (.cond (.tmp 98) (.seq (.rg [⟨none, some 4, .mv (.const (.bool false))⟩])
  (.ret)) (.skip))) (.seq (.rg [⟨none, some 100, .mv (.tmp 6)⟩,
    ⟨none, some 101, .fieldA 1 (.tmp 12)⟩,
    ⟨none, some 102, .load (.tmp 101)⟩,
    ⟨none, some 103, .call 15 [.tmp 100, .tmp 102]⟩,
    ⟨none, some 99, .mv (.tmp 103)⟩,
    ⟨none, some 104, .extract (.tmp 99) 0⟩,
    ⟨none, some 105, .extract (.tmp 99) 1⟩,
    ⟨none, some 13, .mv (.tmp 104)⟩,
    ⟨none, some 14, .mv (.tmp 105)⟩])
  (.seq (.rg [⟨none, some 107, .mv (.tmp 8)⟩,
    ⟨none, some 108, .fieldA 1 (.tmp 12)⟩,
    ⟨none, some 109, .load (.tmp 108)⟩,
    ⟨none, some 110, .call 16 [.tmp 107, .tmp 109]⟩,
    ⟨none, some 106, .mv (.tmp 110)⟩,
    ⟨none, some 111, .extract (.tmp 106) 0⟩,
    ⟨none, some 112, .extract (.tmp 106) 1⟩,
    ⟨none, some 15, .mv (.tmp 111)⟩,
    ⟨none, some 16, .mv (.tmp 112)⟩])
  (.seq (.seq (.rg [⟨none, some 113, .mv (.tmp 14)⟩,
    ⟨none, some 114, .mv (.tmp 16)⟩,
    ⟨none, some 115, .bin .neq (.tmp 113) (.tmp 114)⟩,
    ⟨none, some 116, .mv (.tmp 115)⟩,
    ⟨some (116, false), some 117, .mv (.tmp 13)⟩,
    ⟨some (116, false), some 118, .mv (.tmp 15)⟩,
    ⟨some (116, false), some 119, .call 17 [.tmp 117, .tmp 118]⟩,
    ⟨some (116, false), some 120, .un .not (.tmp 119)⟩,
    ⟨none, some 121, .pick (.tmp 116) (.const (.bool true)) (.tmp 120)⟩])
  (.cond (.tmp 121) (.seq (.rg [⟨none, some 4, .mv (.const (.bool false))⟩])
  (.ret)) (.skip)))
  (.seq (.rg [⟨none, some 17, .mv (.const (.int .i64 0))⟩])
  (.blk 4 (.loop q [1, 6, 8, 11, 13, 17] (ac3_L1 q)))))))))
  (.seq (.rg [⟨none, some 132, .mv (.tmp 6)⟩,
    ⟨none, some 133, .call 18 [.tmp 132]⟩,
    ⟨none, some 18, .mv (.tmp 133)⟩])
  (.seq (.seq (.dr [(false, [(0, 0), (1, 0), (2, 0)], [⟨none, some 134, .mv (.tmp 18)⟩,
    ⟨none, some 135, .mv (.tmp 8)⟩,
    ⟨none, some 136, .call 20 [.tmp 135]⟩]),
   (true, [(3, 0), (4, 0), (5, 0)], [⟨none, some 137, .call 19 [.tmp 134, .tmp 136]⟩,
    ⟨none, some 138, .un .not (.tmp 137)⟩,
    ⟨none, some 139, .mv (.tmp 138)⟩]),
   (false, [(6, 0), (8, 0), (9, 0), (10, 0), (11, 0), (12, 0), (7, 0)], [⟨some (139, false), some 140, .mv (.tmp 6)⟩,
    ⟨some (139, false), some 142, .mv (.tmp 8)⟩,
    ⟨some (139, false), some 143, .nilck (.tmp 142)⟩,
    ⟨some (139, false), some 144, .fieldA 2 (.tmp 143)⟩,
    ⟨some (139, false), some 145, .load (.tmp 144)⟩,
    ⟨some (139, false), some 146, .len (.tmp 145)⟩,
    ⟨some (139, false), some 141, .call 21 [.tmp 140]⟩]),
   (true, [(13, 0), (14, 0)], [⟨some (139, false), some 147, .bin .neq (.tmp 141) (.tmp 146)⟩,
    ⟨none, some 148, .pick (.tmp 139) (.const (.bool true)) (.tmp 147)⟩])])
  (.cond (.tmp 148) (.seq (.rg [⟨none, some 4, .mv (.const (.bool false))⟩])
  (.ret)) (.skip)))
  (.seq (.seq (.rg [⟨none, some 19, .mv (.const (.int .i64 0))⟩])
  (.blk 6 (.loop q [1, 6, 8, 11, 18, 19] (ac3_L2 q))))
  (.seq (.rg [⟨none, some 159, .mv (.tmp 6)⟩,
    ⟨none, some 160, .call 18 [.tmp 159]⟩,
    ⟨none, some 161, .mv (.tmp 8)⟩,
    ⟨none, some 162, .call 20 [.tmp 161]⟩,
    ⟨none, some 163, .call 19 [.tmp 160, .tmp 162]⟩,
    ⟨none, some 164, .un .not (.tmp 163)⟩])
  (.cond (.tmp 164) (.seq (.rg [⟨none, some 4, .mv (.const (.bool false))⟩])
  (.ret)) (.skip)))))))))
  (.rg [⟨none, some 76, .mv (.tmp 11)⟩,
    ⟨none, some 77, .bin .add (.tmp 76) (.const (.int .i64 1))⟩,
    ⟨none, some 11, .mv (.tmp 77)⟩]))
def ac3 (q : Option (Nat × Nat)) : AC := .seq (.rg [⟨none, some 4, .mv (.const (.bool false))⟩])
  (.seq (.seq (.rg [⟨none, some 20, .mv (.tmp 0)⟩,
    ⟨none, some 21, .len (.tmp 20)⟩,
    ⟨none, some 22, .bin .gtr (.tmp 21) (.const (.int .i64 300))⟩])
  (.cond (.tmp 22) (.seq (.rg [⟨none, some 23, .call 10 []⟩,
    ⟨none, some 4, .mv (.tmp 23)⟩])
  (.ret)) (.skip)))
  (.seq (.rg [⟨none, some 24, .bsliceM 3 0 1 [.p (.v (.int .i64 0))] []⟩,
    ⟨none, some 25, .mv (.tmp 0)⟩,
    ⟨none, some 26, .append 3 1 8 (.tmp 24) (.tmp 25)⟩,
    ⟨none, some 5, .mv (.tmp 26)⟩])
  (.seq (.rg [⟨none, some 28, .mv (.tmp 5)⟩,
    ⟨none, some 29, .call 11 [.tmp 28]⟩,
    ⟨none, some 27, .mv (.tmp 29)⟩,
    ⟨none, some 30, .extract (.tmp 27) 0⟩,
    ⟨none, some 31, .extract (.tmp 27) 1⟩,
    ⟨none, some 6, .mv (.tmp 30)⟩,
    ⟨none, some 7, .mv (.tmp 31)⟩])
  (.seq (.rg [⟨none, some 33, .mv (.tmp 0)⟩,
    ⟨none, some 34, .call 12 [.tmp 33]⟩,
    ⟨none, some 32, .mv (.tmp 34)⟩,
    ⟨none, some 35, .extract (.tmp 32) 0⟩,
    ⟨none, some 36, .extract (.tmp 32) 1⟩,
    ⟨none, some 8, .mv (.tmp 35)⟩,
    ⟨none, some 9, .mv (.tmp 36)⟩])
  (.seq (.seq (.rg [⟨none, some 37, .mv (.tmp 7)⟩,
    ⟨none, some 38, .mv (.tmp 9)⟩,
    ⟨none, some 39, .bin .neq (.tmp 37) (.tmp 38)⟩,
    ⟨none, some 40, .mv (.tmp 39)⟩,
    ⟨some (40, false), some 41, .mv (.tmp 6)⟩,
    ⟨some (40, false), some 42, .eqP false (.tmp 41) (.const (.pointer none))⟩,
    ⟨some (40, false), some 43, .mv (.tmp 8)⟩,
    ⟨some (40, false), some 44, .eqP false (.tmp 43) (.const (.pointer none))⟩,
    ⟨some (40, false), some 45, .binB true (.tmp 42) (.tmp 44)⟩,
    ⟨none, some 46, .pick (.tmp 40) (.const (.bool true)) (.tmp 45)⟩])
  (.cond (.tmp 46) (.seq (.rg [⟨none, some 4, .mv (.const (.bool false))⟩])
  (.ret)) (.skip)))
  (.seq (.seq (.rg [⟨none, some 47, .mv (.tmp 6)⟩,
    ⟨none, some 48, .eqP false (.tmp 47) (.const (.pointer none))⟩])
  (.cond (.tmp 48) (.seq (.rg [⟨none, some 49, .call 10 []⟩,
    ⟨none, some 4, .mv (.tmp 49)⟩])
  (.ret)) (.skip)))
  (.seq (.seq (.rg [⟨none, some 10, .mv (.const (.int .i64 0))⟩])
  (.blk 0 (.loop q [0, 1, 5, 6, 8, 10] (ac3_L0 q))))
  (.seq (.seq (.rg [⟨none, some 11, .mv (.const (.int .i64 0))⟩])
  (.blk 2 (.loop q [1, 6, 8, 11] (ac3_L3 q))))
  (.seq (.rg [⟨none, some 165, .call 10 []⟩,
    ⟨none, some 4, .mv (.tmp 165)⟩])
  (.ret))))))))))
theorem ac3_ok (q : Option (Nat × Nat)) : compF Go.Proofs.Try.prog Go.Proofs.Try.f3 (ac3 q) = some (ac3 q, [.tmp 4]) := by kernel_rfl

/- clearway clearwaylaw33.awake -/
def ac10 (q : Option (Nat × Nat)) : AC := .seq (.rg [⟨none, some 0, .mv (.const (.bool false))⟩])
  (.seq (.rg [⟨none, some 6, .bslice false 3 3 1 [.p (.v (.int .i64 0))] [(0, 1, .const (.int .i64 2)), (1, 1, .const (.int .i64 (-1))), (2, 1, .const (.int .i64 0))]⟩,
    ⟨none, some 7, .call 11 [.tmp 6]⟩,
    ⟨none, some 5, .mv (.tmp 7)⟩,
    ⟨none, some 8, .extract (.tmp 5) 0⟩,
    ⟨none, some 9, .extract (.tmp 5) 1⟩,
    ⟨none, some 1, .mv (.tmp 8)⟩,
    ⟨none, some 2, .mv (.tmp 9)⟩])
  (.seq (.seq (.rg [⟨none, some 10, .mv (.tmp 2)⟩,
    ⟨none, some 11, .bin .neq (.tmp 10) (.const (.int .i64 0))⟩,
    ⟨none, some 12, .mv (.tmp 11)⟩,
    ⟨some (12, false), some 13, .mv (.tmp 1)⟩,
    ⟨some (12, false), some 14, .eqP false (.tmp 13) (.const (.pointer none))⟩,
    ⟨none, some 15, .pick (.tmp 12) (.const (.bool true)) (.tmp 14)⟩,
    ⟨none, some 16, .mv (.tmp 15)⟩,
    ⟨some (16, false), some 17, .mv (.tmp 1)⟩,
    ⟨some (16, false), some 18, .call 27 [.const (.int .i64 1)]⟩,
    ⟨some (16, false), some 19, .call 13 [.tmp 17, .const (.int .i64 5), .tmp 18]⟩,
    ⟨some (16, false), some 20, .bin .neq (.tmp 19) (.const (.int .i64 0))⟩,
    ⟨none, some 21, .pick (.tmp 16) (.const (.bool true)) (.tmp 20)⟩,
    ⟨none, some 22, .mv (.tmp 21)⟩,
    ⟨some (22, false), some 23, .mv (.tmp 1)⟩,
    ⟨some (22, false), some 24, .call 27 [.const (.int .i64 2)]⟩,
    ⟨some (22, false), some 25, .call 13 [.tmp 23, .const (.int .i64 5), .tmp 24]⟩,
    ⟨some (22, false), some 26, .bin .neq (.tmp 25) (.const (.int .i64 0))⟩,
    ⟨none, some 27, .pick (.tmp 22) (.const (.bool true)) (.tmp 26)⟩,
    ⟨none, some 28, .mv (.tmp 27)⟩,
    ⟨some (28, false), some 29, .mv (.tmp 1)⟩,
    ⟨some (28, false), some 30, .call 27 [.const (.int .i64 3)]⟩,
    ⟨some (28, false), some 31, .call 13 [.tmp 29, .const (.int .i64 5), .tmp 30]⟩,
    ⟨some (28, false), some 32, .bin .neq (.tmp 31) (.const (.int .i64 0))⟩,
    ⟨none, some 33, .pick (.tmp 28) (.const (.bool true)) (.tmp 32)⟩])
  (.cond (.tmp 33) (.seq (.rg [⟨none, some 0, .mv (.const (.bool false))⟩])
  (.ret)) (.skip)))
  (.seq (.seq (.rg [⟨none, some 34, .mv (.tmp 1)⟩,
    ⟨none, some 35, .call 18 [.tmp 34]⟩,
    ⟨none, some 36, .call 27 [.const (.int .i64 3)]⟩,
    ⟨none, some 37, .build [.p (.v (.int .i64 0)), .p (.v (.int .i64 0)), .p (.v (.int .i64 0)), .p (.v (.int .i64 0)), .p (.v (.int .u8 0)), .p (.v (.int .i64 0))] [(0, 1, .const (.int .i64 5)), (1, 1, .const (.int .i64 2)), (2, 4, .tmp 36)]⟩,
    ⟨none, some 38, .call 27 [.const (.int .i64 1)]⟩,
    ⟨none, some 39, .build [.p (.v (.int .i64 0)), .p (.v (.int .i64 0)), .p (.v (.int .i64 0)), .p (.v (.int .i64 0)), .p (.v (.int .u8 0)), .p (.v (.int .i64 0))] [(0, 1, .const (.int .i64 7)), (1, 1, .const (.int .i64 0)), (2, 4, .tmp 38)]⟩,
    ⟨none, some 40, .bslice false 49 2 6 [.p (.v (.int .i64 0)), .p (.v (.int .i64 0)), .p (.v (.int .i64 0)), .p (.v (.int .i64 0)), .p (.v (.int .u8 0)), .p (.v (.int .i64 0))] [(0, 6, .tmp 37), (6, 6, .tmp 39)]⟩,
    ⟨none, some 41, .call 19 [.tmp 35, .tmp 40]⟩,
    ⟨none, some 42, .un .not (.tmp 41)⟩,
    ⟨none, some 43, .mv (.tmp 42)⟩,
    ⟨some (43, false), some 44, .mv (.tmp 1)⟩,
    ⟨some (43, false), some 45, .bslice false 3 1 1 [.p (.v (.int .i64 0))] [(0, 1, .const (.int .i64 3))]⟩,
    ⟨some (43, false), some 46, .call 29 [.tmp 44, .const (.int .i64 5), .tmp 45]⟩,
    ⟨some (43, false), some 47, .un .not (.tmp 46)⟩,
    ⟨none, some 48, .pick (.tmp 43) (.const (.bool true)) (.tmp 47)⟩,
    ⟨none, some 49, .mv (.tmp 48)⟩,
    ⟨some (49, false), some 50, .mv (.tmp 1)⟩,
    ⟨some (49, false), some 51, .call 29 [.tmp 50, .const (.int .i64 6), .const (.slice none 0 0)]⟩,
    ⟨some (49, false), some 52, .un .not (.tmp 51)⟩,
    ⟨none, some 53, .pick (.tmp 49) (.const (.bool true)) (.tmp 52)⟩,
    ⟨none, some 54, .mv (.tmp 53)⟩,
    ⟨some (54, false), some 55, .mv (.tmp 1)⟩,
    ⟨some (54, false), some 56, .bslice false 3 1 1 [.p (.v (.int .i64 0))] [(0, 1, .const (.int .i64 1))]⟩,
    ⟨some (54, false), some 57, .call 29 [.tmp 55, .const (.int .i64 7), .tmp 56]⟩,
    ⟨some (54, false), some 58, .un .not (.tmp 57)⟩,
    ⟨none, some 59, .pick (.tmp 54) (.const (.bool true)) (.tmp 58)⟩])
  (.cond (.tmp 59) (.seq (.rg [⟨none, some 0, .mv (.const (.bool false))⟩])
  (.ret)) (.skip)))
  (.seq (.seq (.rg [⟨none, some 60, .mv (.tmp 1)⟩,
    ⟨none, some 61, .call 27 [.const (.int .i64 4)]⟩,
    ⟨none, some 62, .call 13 [.tmp 60, .const (.int .i64 7), .tmp 61]⟩,
    ⟨none, some 63, .bin .neq (.tmp 62) (.const (.int .i64 0))⟩,
    ⟨none, some 64, .mv (.tmp 63)⟩,
    ⟨some (64, false), some 65, .mv (.tmp 1)⟩,
    ⟨some (64, false), some 66, .call 21 [.tmp 65]⟩,
    ⟨some (64, false), some 67, .bin .neq (.tmp 66) (.const (.int .i64 4))⟩,
    ⟨none, some 68, .pick (.tmp 64) (.const (.bool true)) (.tmp 67)⟩,
    ⟨none, some 69, .mv (.tmp 68)⟩,
    ⟨some (69, false), some 70, .mv (.tmp 1)⟩,
    ⟨some (69, false), some 71, .bslice false 3 1 1 [.p (.v (.int .i64 0))] [(0, 1, .const (.int .i64 4))]⟩,
    ⟨some (69, false), some 72, .call 29 [.tmp 70, .const (.int .i64 7), .tmp 71]⟩,
    ⟨some (69, false), some 73, .un .not (.tmp 72)⟩,
    ⟨none, some 74, .pick (.tmp 69) (.const (.bool true)) (.tmp 73)⟩])
  (.cond (.tmp 74) (.seq (.rg [⟨none, some 0, .mv (.const (.bool false))⟩])
  (.ret)) (.skip)))
  (.seq (.rg [⟨none, some 76, .bslice false 3 4 1 [.p (.v (.int .i64 0))] [(0, 1, .const (.int .i64 (-1))), (1, 1, .const (.int .i64 0)), (2, 1, .const (.int .i64 (-1))), (3, 1, .const (.int .i64 (-1)))]⟩,
    ⟨none, some 77, .call 22 [.tmp 76]⟩,
    ⟨none, some 75, .mv (.tmp 77)⟩,
    ⟨none, some 78, .extract (.tmp 75) 0⟩,
    ⟨none, some 79, .extract (.tmp 75) 1⟩,
    ⟨none, some 3, .mv (.tmp 78)⟩,
    ⟨none, some 4, .mv (.tmp 79)⟩])
  (.seq (.rg [⟨none, some 80, .mv (.tmp 3)⟩,
    ⟨none, some 81, .bin .eql (.tmp 80) (.const (.int .i64 2))⟩,
    ⟨none, some 82, .mv (.tmp 81)⟩,
    ⟨some (82, true), some 83, .mv (.tmp 4)⟩,
    ⟨some (82, true), some 84, .bin .eql (.tmp 83) (.const (.int .i64 0))⟩,
    ⟨none, some 85, .pick (.tmp 82) (.tmp 84) (.const (.bool false))⟩,
    ⟨none, some 0, .mv (.tmp 85)⟩])
  (.ret)))))))
theorem ac10_ok (q : Option (Nat × Nat)) : compF Go.Proofs.Try.prog Go.Proofs.Try.f10 (ac10 q) = some (ac10 q, [.tmp 0]) := by kernel_rfl

/- clearway link.New -/
def ac11 (q : Option (Nat × Nat)) : AC := .seq (.rg [⟨none, some 2, .mv (.const (.pointer none))⟩,
    ⟨none, some 3, .mv (.const (.int .i64 0))⟩])
  (.seq (.seq (.rg [⟨none, some 6, .mv (.tmp 0)⟩,
    ⟨none, some 7, .call 30 [.tmp 6]⟩,
    ⟨none, some 4, .mv (.tmp 7)⟩])
  (.seq (.rg [⟨none, some 8, .mv (.tmp 4)⟩,
    ⟨none, some 9, .bin .neq (.tmp 8) (.const (.int .i64 0))⟩])
  (.cond (.tmp 9) (.seq (.rg [⟨none, some 10, .mv (.tmp 4)⟩,
    ⟨none, some 2, .mv (.const (.pointer none))⟩,
    ⟨none, some 3, .mv (.tmp 10)⟩])
  (.ret)) (.skip))))
  (.seq (.rg [⟨none, some 11, .bsliceM 49 0 6 [.p (.v (.int .i64 0)), .p (.v (.int .i64 0)), .p (.v (.int .i64 0)), .p (.v (.int .i64 0)), .p (.v (.int .u8 0)), .p (.v (.int .i64 0))] []⟩,
    ⟨none, some 12, .box 70 (.tmp 11)⟩,
    ⟨none, some 13, .build (List.replicate 258 (.p (.v (.int .i64 0))) ++ [.p (.v (.pointer none))]) [(258, 1, .tmp 12)]⟩,
    ⟨none, some 14, .box 73 (.tmp 13)⟩,
    ⟨none, some 5, .mv (.tmp 14)⟩])
  (.seq (.rg [⟨none, some 15, .mv (.tmp 5)⟩,
    ⟨none, some 16, .nilck (.tmp 15)⟩,
    ⟨none, some 17, .fieldA 0 (.tmp 16)⟩,
    ⟨none, some 18, .sliceA 256 1 (.tmp 17)⟩,
    ⟨none, some 19, .mv (.tmp 0)⟩,
    ⟨none, some 20, .copy 1 (.tmp 18) (.tmp 19)⟩])
  (.seq (.rg [⟨none, some 21, .mv (.tmp 5)⟩,
    ⟨none, some 2, .mv (.tmp 21)⟩,
    ⟨none, some 3, .mv (.const (.int .i64 0))⟩])
  (.ret)))))
theorem ac11_ok (q : Option (Nat × Nat)) : compF Go.Proofs.Try.prog Go.Proofs.Try.f11 (ac11 q) = some (ac11 q, [.tmp 2, .tmp 3]) := by kernel_rfl

/- clearway clearwayref33.New -/
def ac12 (q : Option (Nat × Nat)) : AC := .seq (.rg [⟨none, some 2, .mv (.const (.pointer none))⟩,
    ⟨none, some 3, .mv (.const (.int .i64 0))⟩])
  (.seq (.seq (.rg [⟨none, some 5, .mv (.tmp 0)⟩,
    ⟨none, some 6, .call 31 [.tmp 5]⟩,
    ⟨none, some 4, .mv (.tmp 6)⟩])
  (.seq (.rg [⟨none, some 7, .mv (.tmp 4)⟩,
    ⟨none, some 8, .bin .neq (.tmp 7) (.const (.int .i64 0))⟩])
  (.cond (.tmp 8) (.seq (.rg [⟨none, some 9, .mv (.tmp 4)⟩,
    ⟨none, some 2, .mv (.const (.pointer none))⟩,
    ⟨none, some 3, .mv (.tmp 9)⟩])
  (.ret)) (.skip))))
  (.seq (.rg [⟨none, some 10, .bsliceM 3 0 1 [.p (.v (.int .i64 0))] []⟩,
    ⟨none, some 11, .mv (.tmp 0)⟩,
    ⟨none, some 12, .append 3 1 8 (.tmp 10) (.tmp 11)⟩,
    ⟨none, some 13, .build [.p (.sl (some true) 0 []), .p (.v (.int .i64 0)), .p (.sl (some true) 0 []), .p (.sl (some true) 0 [])] [(0, 1, .tmp 12)]⟩,
    ⟨none, some 14, .box 47 (.tmp 13)⟩,
    ⟨none, some 2, .mv (.tmp 14)⟩,
    ⟨none, some 3, .mv (.const (.int .i64 0))⟩])
  (.ret)))
theorem ac12_ok (q : Option (Nat × Nat)) : compF Go.Proofs.Try.prog Go.Proofs.Try.f12 (ac12 q) = some (ac12 q, [.tmp 2, .tmp 3]) := by kernel_rfl

/- (*clearway link.Link).Send -/
def ac13 (q : Option (Nat × Nat)) : AC := .seq (.rg [⟨none, some 5, .box 33 (.tmp 2)⟩,
    ⟨none, some 6, .mv (.const (.int .i64 0))⟩])
  (.seq (.seq (.rg [⟨none, some 10, .mv (.tmp 0)⟩,
    ⟨none, some 11, .mv (.tmp 1)⟩,
    ⟨none, some 12, .call 32 [.tmp 10, .tmp 11]⟩,
    ⟨none, some 7, .mv (.tmp 12)⟩])
  (.seq (.rg [⟨none, some 13, .mv (.tmp 7)⟩,
    ⟨none, some 14, .bin .neq (.tmp 13) (.const (.int .i64 0))⟩])
  (.cond (.tmp 14) (.seq (.rg [⟨none, some 15, .mv (.tmp 7)⟩,
    ⟨none, some 6, .mv (.tmp 15)⟩])
  (.ret)) (.skip))))
  (.seq (.seq (.rg [⟨none, some 16, .loadA 4 (.tmp 5)⟩,
    ⟨none, some 17, .call 33 [.tmp 16]⟩,
    ⟨none, some 8, .mv (.tmp 17)⟩])
  (.seq (.rg [⟨none, some 18, .mv (.tmp 8)⟩,
    ⟨none, some 19, .bin .neq (.tmp 18) (.const (.int .i64 0))⟩])
  (.cond (.tmp 19) (.seq (.rg [⟨none, some 20, .mv (.tmp 8)⟩,
    ⟨none, some 6, .mv (.tmp 20)⟩])
  (.ret)) (.skip))))
  (.seq (.rg [⟨none, some 9, .mv (.const (.int .i64 0))⟩])
  (.seq (.seq (.rg [⟨none, some 21, .mv (.tmp 0)⟩,
    ⟨none, some 22, .nilck (.tmp 21)⟩,
    ⟨none, some 23, .fieldA 257 (.tmp 22)⟩,
    ⟨none, some 24, .load (.tmp 23)⟩,
    ⟨none, some 25, .bin .lss (.tmp 24) (.const (.int .i64 256))⟩])
  (.cond (.tmp 25) (.dr [(false, [(0, 0), (1, 0), (2, 0), (3, 0), (4, 0), (5, 0), (6, 0)], [⟨none, some 26, .mv (.tmp 0)⟩,
    ⟨none, some 27, .mv (.tmp 0)⟩,
    ⟨none, some 28, .nilck (.tmp 27)⟩,
    ⟨none, some 29, .fieldA 257 (.tmp 28)⟩,
    ⟨none, some 30, .load (.tmp 29)⟩,
    ⟨none, some 31, .nilck (.tmp 26)⟩,
    ⟨none, some 32, .fieldA 0 (.tmp 31)⟩]),
   (true, [(7, 0), (8, 0), (9, 0)], [⟨none, some 33, .idxA 256 1 (.tmp 32) (.tmp 30)⟩,
    ⟨none, some 34, .load (.tmp 33)⟩,
    ⟨none, some 9, .mv (.tmp 34)⟩])]) (.skip)))
  (.seq (.seq (.rg [⟨none, some 35, .mv (.tmp 9)⟩,
    ⟨none, some 36, .bin .neq (.tmp 35) (.const (.int .i64 (-1)))⟩])
  (.cond (.tmp 36) (.seq (.seq (.rg [⟨none, some 37, .mv (.tmp 0)⟩,
    ⟨none, some 38, .nilck (.tmp 37)⟩,
    ⟨none, some 39, .fieldA 258 (.tmp 38)⟩,
    ⟨none, some 40, .load (.tmp 39)⟩,
    ⟨none, some 41, .nilck (.tmp 40)⟩,
    ⟨none, some 42, .load (.tmp 41)⟩,
    ⟨none, some 43, .call 34 [.tmp 42]⟩,
    ⟨none, some 44, .bin .eql (.tmp 43) (.const (.int .i64 64))⟩])
  (.cond (.tmp 44) (.seq (.rg [⟨none, some 6, .mv (.const (.int .i64 17))⟩])
  (.ret)) (.skip)))
  (.dr [(false, [(0, 0), (1, 0), (2, 0), (3, 0), (4, 0), (5, 0), (6, 0), (7, 0), (8, 0), (9, 0), (10, 0), (11, 0), (12, 0), (13, 0), (14, 0)], [⟨none, some 45, .mv (.tmp 0)⟩,
    ⟨none, some 46, .nilck (.tmp 45)⟩,
    ⟨none, some 47, .fieldA 258 (.tmp 46)⟩,
    ⟨none, some 48, .load (.tmp 47)⟩,
    ⟨none, some 49, .mkifc 69 (.tmp 48)⟩,
    ⟨none, some 50, .mv (.tmp 1)⟩,
    ⟨none, some 51, .mv (.tmp 9)⟩,
    ⟨none, some 52, .bin .add (.tmp 50) (.tmp 51)⟩,
    ⟨none, some 53, .mv (.tmp 0)⟩,
    ⟨none, some 54, .nilck (.tmp 53)⟩,
    ⟨none, some 55, .fieldA 257 (.tmp 54)⟩,
    ⟨none, some 56, .load (.tmp 55)⟩,
    ⟨none, some 57, .loadA 4 (.tmp 5)⟩,
    ⟨none, some 58, .build [.p (.v (.int .i64 0)), .p (.v (.int .i64 0)), .p (.v (.int .i64 0)), .p (.v (.int .i64 0)), .p (.v (.int .u8 0)), .p (.v (.int .i64 0))] [(0, 1, .tmp 52), (1, 1, .tmp 56), (2, 4, .tmp 57)]⟩,
    ⟨none, some 59, .mkifc 49 (.tmp 58)⟩]),
   (true, [(15, 0)], [⟨none, some 60, .call 35 [.tmp 49, .tmp 59]⟩])])) (.skip)))
  (.seq (.rg [⟨none, some 61, .mv (.tmp 0)⟩,
    ⟨none, some 62, .mv (.tmp 1)⟩,
    ⟨none, some 63, .nilck (.tmp 61)⟩,
    ⟨none, some 64, .fieldA 256 (.tmp 63)⟩,
    ⟨none, none, .store 1 (.tmp 64) (.tmp 62)⟩])
  (.seq (.rg [⟨none, some 65, .mv (.tmp 0)⟩,
    ⟨none, some 66, .nilck (.tmp 65)⟩,
    ⟨none, some 67, .fieldA 257 (.tmp 66)⟩,
    ⟨none, some 68, .load (.tmp 67)⟩,
    ⟨none, some 69, .bin .add (.tmp 68) (.const (.int .i64 1))⟩,
    ⟨none, some 70, .nilck (.tmp 65)⟩,
    ⟨none, some 71, .fieldA 257 (.tmp 70)⟩,
    ⟨none, none, .store 1 (.tmp 71) (.tmp 69)⟩])
  (.seq (.rg [⟨none, some 6, .mv (.const (.int .i64 0))⟩])
  (.ret)))))))))
theorem ac13_ok (q : Option (Nat × Nat)) : compF Go.Proofs.Try.prog Go.Proofs.Try.f13 (ac13 q) = some (ac13 q, [.tmp 6]) := by kernel_rfl

/- (*clearway clearwayref33.Link).Send -/
def ac14 (q : Option (Nat × Nat)) : AC := .seq (.rg [⟨none, some 5, .box 33 (.tmp 2)⟩,
    ⟨none, some 6, .mv (.const (.int .i64 0))⟩])
  (.seq (.rg [⟨none, some 10, .mv (.tmp 0)⟩,
    ⟨none, some 11, .mv (.tmp 1)⟩,
    ⟨none, some 12, .call 36 [.tmp 10, .tmp 11]⟩,
    ⟨none, some 7, .mv (.tmp 12)⟩])
  (.seq (.seq (.rg [⟨none, some 13, .mv (.tmp 7)⟩,
    ⟨none, some 14, .bin .eql (.tmp 13) (.const (.int .i64 0))⟩])
  (.cond (.tmp 14) (.rg [⟨none, some 15, .loadA 4 (.tmp 5)⟩,
    ⟨none, some 16, .call 37 [.tmp 15]⟩,
    ⟨none, some 7, .mv (.tmp 16)⟩]) (.skip)))
  (.seq (.seq (.rg [⟨none, some 17, .mv (.tmp 7)⟩,
    ⟨none, some 18, .bin .neq (.tmp 17) (.const (.int .i64 0))⟩])
  (.cond (.tmp 18) (.seq (.rg [⟨none, some 19, .mv (.tmp 7)⟩,
    ⟨none, some 6, .mv (.tmp 19)⟩])
  (.ret)) (.skip)))
  (.seq (.rg [⟨none, some 20, .mv (.tmp 0)⟩,
    ⟨none, some 21, .nilck (.tmp 20)⟩,
    ⟨none, some 22, .fieldA 2 (.tmp 21)⟩,
    ⟨none, some 23, .load (.tmp 22)⟩,
    ⟨none, some 24, .len (.tmp 23)⟩,
    ⟨none, some 8, .mv (.tmp 24)⟩])
  (.seq (.rg [⟨none, some 9, .mv (.const (.int .i64 0))⟩])
  (.seq (.seq (.rg [⟨none, some 25, .mv (.tmp 8)⟩,
    ⟨none, some 26, .mv (.tmp 0)⟩,
    ⟨none, some 27, .nilck (.tmp 26)⟩,
    ⟨none, some 28, .fieldA 0 (.tmp 27)⟩,
    ⟨none, some 29, .load (.tmp 28)⟩,
    ⟨none, some 30, .len (.tmp 29)⟩,
    ⟨none, some 31, .bin .lss (.tmp 25) (.tmp 30)⟩])
  (.cond (.tmp 31) (.rg [⟨none, some 32, .mv (.tmp 0)⟩,
    ⟨none, some 33, .nilck (.tmp 32)⟩,
    ⟨none, some 34, .fieldA 0 (.tmp 33)⟩,
    ⟨none, some 35, .load (.tmp 34)⟩,
    ⟨none, some 36, .mv (.tmp 8)⟩,
    ⟨none, some 37, .idx 1 (.tmp 35) (.tmp 36)⟩,
    ⟨none, some 38, .load (.tmp 37)⟩,
    ⟨none, some 9, .mv (.tmp 38)⟩]) (.skip)))
  (.seq (.seq (.rg [⟨none, some 39, .mv (.tmp 9)⟩,
    ⟨none, some 40, .bin .geq (.tmp 39) (.const (.int .i64 0))⟩,
    ⟨none, some 41, .mv (.tmp 40)⟩,
    ⟨some (41, true), some 42, .mv (.tmp 0)⟩,
    ⟨some (41, true), some 43, .call 20 [.tmp 42]⟩,
    ⟨some (41, true), some 44, .len (.tmp 43)⟩,
    ⟨some (41, true), some 45, .bin .geq (.tmp 44) (.const (.int .i64 64))⟩,
    ⟨none, some 46, .pick (.tmp 41) (.tmp 45) (.const (.bool false))⟩])
  (.cond (.tmp 46) (.seq (.rg [⟨none, some 6, .mv (.const (.int .i64 17))⟩])
  (.ret)) (.skip)))
  (.seq (.rg [⟨none, some 47, .mv (.tmp 0)⟩,
    ⟨none, some 48, .mv (.tmp 1)⟩,
    ⟨none, some 49, .nilck (.tmp 47)⟩,
    ⟨none, some 50, .fieldA 1 (.tmp 49)⟩,
    ⟨none, none, .store 1 (.tmp 50) (.tmp 48)⟩])
  (.seq (.dr [(false, [(0, 0), (1, 0), (2, 0), (3, 0), (4, 0), (5, 0), (6, 0), (7, 0), (8, 0), (9, 0), (10, 0), (11, 0), (12, 1)], [⟨none, some 51, .mv (.tmp 0)⟩,
    ⟨none, some 52, .mv (.tmp 0)⟩,
    ⟨none, some 53, .nilck (.tmp 52)⟩,
    ⟨none, some 54, .fieldA 2 (.tmp 53)⟩,
    ⟨none, some 55, .load (.tmp 54)⟩,
    ⟨none, some 56, .mv (.tmp 1)⟩,
    ⟨none, some 57, .mv (.tmp 9)⟩,
    ⟨none, some 58, .bin .add (.tmp 56) (.tmp 57)⟩,
    ⟨none, some 59, .mv (.tmp 8)⟩,
    ⟨none, some 60, .loadA 4 (.tmp 5)⟩,
    ⟨none, some 61, .build [.p (.v (.int .i64 0)), .p (.v (.int .i64 0)), .p (.v (.int .i64 0)), .p (.v (.int .i64 0)), .p (.v (.int .u8 0)), .p (.v (.int .i64 0))] [(0, 1, .tmp 58), (1, 1, .tmp 59), (2, 4, .tmp 60)]⟩,
    ⟨none, some 62, .bslice false 49 1 6 [.p (.v (.int .i64 0)), .p (.v (.int .i64 0)), .p (.v (.int .i64 0)), .p (.v (.int .i64 0)), .p (.v (.int .u8 0)), .p (.v (.int .i64 0))] [(0, 6, .tmp 61)]⟩,
    ⟨none, some 63, .append 49 6 48 (.tmp 55) (.tmp 62)⟩]),
   (true, [(13, 0), (14, 0), (15, 0)], [⟨none, some 64, .nilck (.tmp 51)⟩,
    ⟨none, some 65, .fieldA 2 (.tmp 64)⟩,
    ⟨none, none, .store 1 (.tmp 65) (.tmp 63)⟩])])
  (.seq (.rg [⟨none, some 66, .mv (.tmp 0)⟩,
    ⟨none, some 67, .mv (.tmp 0)⟩,
    ⟨none, some 68, .nilck (.tmp 67)⟩,
    ⟨none, some 69, .fieldA 3 (.tmp 68)⟩,
    ⟨none, some 70, .load (.tmp 69)⟩,
    ⟨none, some 71, .mv (.tmp 9)⟩,
    ⟨none, some 72, .bin .geq (.tmp 71) (.const (.int .i64 0))⟩,
    ⟨none, some 73, .bslice false 4 1 1 [.p (.v (.bool false))] [(0, 1, .tmp 72)]⟩,
    ⟨none, some 74, .append 4 1 1 (.tmp 70) (.tmp 73)⟩,
    ⟨none, some 75, .nilck (.tmp 66)⟩,
    ⟨none, some 76, .fieldA 3 (.tmp 75)⟩,
    ⟨none, none, .store 1 (.tmp 76) (.tmp 74)⟩])
  (.seq (.rg [⟨none, some 6, .mv (.const (.int .i64 0))⟩])
  (.ret))))))))))))
theorem ac14_ok (q : Option (Nat × Nat)) : compF Go.Proofs.Try.prog Go.Proofs.Try.f14 (ac14 q) = some (ac14 q, [.tmp 6]) := by kernel_rfl

/- (*clearway link.Link).Hear -/
def ac15_L0 (q : Option (Nat × Nat)) : AC := .seq (.seq (.rg [⟨none, some 19, .mv (.tmp 0)⟩,
    ⟨none, some 20, .nilck (.tmp 19)⟩,
    ⟨none, some 21, .fieldA 258 (.tmp 20)⟩,
    ⟨none, some 22, .load (.tmp 21)⟩,
    ⟨none, some 23, .nilck (.tmp 22)⟩,
    ⟨none, some 24, .load (.tmp 23)⟩,
    ⟨none, some 25, .call 34 [.tmp 24]⟩,
    ⟨none, some 26, .bin .gtr (.tmp 25) (.const (.int .i64 0))⟩,
    ⟨none, some 27, .mv (.tmp 26)⟩,
    ⟨some (27, true), some 28, .mv (.tmp 0)⟩,
    ⟨some (27, true), some 29, .nilck (.tmp 28)⟩,
    ⟨some (27, true), some 30, .fieldA 258 (.tmp 29)⟩,
    ⟨some (27, true), some 31, .load (.tmp 30)⟩,
    ⟨some (27, true), some 32, .nilck (.tmp 31)⟩,
    ⟨some (27, true), some 33, .load (.tmp 32)⟩,
    ⟨some (27, true), some 34, .idx 6 (.tmp 33) (.const (.int .i64 0))⟩,
    ⟨some (27, true), some 35, .fieldA 0 (.tmp 34)⟩,
    ⟨some (27, true), some 36, .load (.tmp 35)⟩,
    ⟨some (27, true), some 37, .mv (.tmp 1)⟩,
    ⟨some (27, true), some 38, .bin .leq (.tmp 36) (.tmp 37)⟩,
    ⟨none, some 39, .pick (.tmp 27) (.tmp 38) (.const (.bool false))⟩])
  (.cond (.tmp 39) (.skip) (.exit 0)))
  (.blk 1 (.seq (.rg [⟨none, some 41, .mv (.tmp 0)⟩,
    ⟨none, some 42, .nilck (.tmp 41)⟩,
    ⟨none, some 43, .fieldA 258 (.tmp 42)⟩,
    ⟨none, some 44, .load (.tmp 43)⟩,
    ⟨none, some 45, .mkifc 69 (.tmp 44)⟩,
    ⟨none, some 46, .call 38 [.tmp 45]⟩,
    ⟨none, some 47, .tassert 49 true (.tmp 46)⟩,
    ⟨none, some 40, .mv (.tmp 47)⟩,
    ⟨none, some 48, .extract (.tmp 40) 0⟩,
    ⟨none, some 49, .extract (.tmp 40) 1⟩,
    ⟨none, some 7, .alloc 49 [.p (.v (.int .i64 0)), .p (.v (.int .i64 0)), .p (.v (.int .i64 0)), .p (.v (.int .i64 0)), .p (.v (.int .u8 0)), .p (.v (.int .i64 0))]⟩,
    ⟨none, none, .store 6 (.tmp 7) (.tmp 48)⟩,
    ⟨none, some 8, .mv (.tmp 49)⟩])
  (.seq (.rg [⟨none, some 50, .mv (.tmp 8)⟩])
  (.cond (.tmp 50) (.rg [⟨none, some 51, .mv (.tmp 4)⟩,
    ⟨none, some 52, .fieldA 2 (.tmp 7)⟩,
    ⟨none, some 53, .loadA 4 (.tmp 52)⟩,
    ⟨none, some 54, .bslice false 33 1 4 [.p (.v (.int .i64 0)), .p (.v (.int .i64 0)), .p (.v (.int .u8 0)), .p (.v (.int .i64 0))] [(0, 4, .tmp 53)]⟩,
    ⟨none, some 55, .append 33 4 32 (.tmp 51) (.tmp 54)⟩,
    ⟨none, some 4, .mv (.tmp 55)⟩]) (.skip)))))
def ac15 (q : Option (Nat × Nat)) : AC := .seq (.rg [⟨none, some 4, .mv (.const (.slice none 0 0))⟩,
    ⟨none, some 5, .mv (.const (.int .i64 0))⟩])
  (.seq (.seq (.rg [⟨none, some 9, .mv (.tmp 0)⟩,
    ⟨none, some 10, .mv (.tmp 1)⟩,
    ⟨none, some 11, .call 32 [.tmp 9, .tmp 10]⟩,
    ⟨none, some 6, .mv (.tmp 11)⟩])
  (.seq (.rg [⟨none, some 12, .mv (.tmp 6)⟩,
    ⟨none, some 13, .bin .neq (.tmp 12) (.const (.int .i64 0))⟩])
  (.cond (.tmp 13) (.seq (.rg [⟨none, some 14, .mv (.tmp 6)⟩,
    ⟨none, some 4, .mv (.const (.slice none 0 0))⟩,
    ⟨none, some 5, .mv (.tmp 14)⟩])
  (.ret)) (.skip))))
  (.seq (.rg [⟨none, some 15, .mv (.tmp 0)⟩,
    ⟨none, some 16, .mv (.tmp 1)⟩,
    ⟨none, some 17, .nilck (.tmp 15)⟩,
    ⟨none, some 18, .fieldA 256 (.tmp 17)⟩,
    ⟨none, none, .store 1 (.tmp 18) (.tmp 16)⟩])
  (.seq (.blk 0 (.loop q [0, 1, 4] (ac15_L0 q)))
  (.seq (.rg [⟨none, some 56, .mv (.tmp 4)⟩,
    ⟨none, some 4, .mv (.tmp 56)⟩,
    ⟨none, some 5, .mv (.const (.int .i64 0))⟩])
  (.ret)))))
theorem ac15_ok (q : Option (Nat × Nat)) : compF Go.Proofs.Try.prog Go.Proofs.Try.f15 (ac15 q) = some (ac15 q, [.tmp 4, .tmp 5]) := by kernel_rfl

/- (*clearway clearwayref33.Link).Hear -/
def ac16_L0 (q : Option (Nat × Nat)) : AC := .seq (.seq (.rg [⟨none, some 22, .mv (.tmp 9)⟩,
    ⟨none, some 23, .mv (.tmp 8)⟩,
    ⟨none, some 24, .len (.tmp 23)⟩,
    ⟨none, some 25, .bin .lss (.tmp 22) (.tmp 24)⟩])
  (.cond (.tmp 25) (.skip) (.exit 0)))
  (.seq (.blk 1 (.seq (.rg [⟨none, some 28, .mv (.tmp 8)⟩,
    ⟨none, some 29, .mv (.tmp 9)⟩,
    ⟨none, some 30, .idx 6 (.tmp 28) (.tmp 29)⟩,
    ⟨none, some 31, .fieldA 0 (.tmp 30)⟩,
    ⟨none, some 32, .load (.tmp 31)⟩,
    ⟨none, some 33, .mv (.tmp 1)⟩,
    ⟨none, some 34, .bin .leq (.tmp 32) (.tmp 33)⟩])
  (.cond (.tmp 34) (.seq (.rg [⟨none, some 35, .mv (.tmp 7)⟩,
    ⟨none, some 36, .mv (.tmp 8)⟩,
    ⟨none, some 37, .mv (.tmp 9)⟩,
    ⟨none, some 38, .idx 6 (.tmp 36) (.tmp 37)⟩,
    ⟨none, some 39, .fieldA 2 (.tmp 38)⟩,
    ⟨none, some 40, .loadA 4 (.tmp 39)⟩,
    ⟨none, some 41, .bslice false 33 1 4 [.p (.v (.int .i64 0)), .p (.v (.int .i64 0)), .p (.v (.int .u8 0)), .p (.v (.int .i64 0))] [(0, 4, .tmp 40)]⟩,
    ⟨none, some 42, .append 33 4 32 (.tmp 35) (.tmp 41)⟩,
    ⟨none, some 7, .mv (.tmp 42)⟩])
  (.dr [(false, [(0, 0), (1, 0), (2, 0), (3, 0), (4, 0), (5, 0), (6, 0), (7, 0), (8, 0)], [⟨none, some 43, .mv (.tmp 0)⟩,
    ⟨none, some 44, .nilck (.tmp 43)⟩,
    ⟨none, some 45, .fieldA 3 (.tmp 44)⟩,
    ⟨none, some 46, .load (.tmp 45)⟩,
    ⟨none, some 47, .mv (.tmp 8)⟩,
    ⟨none, some 48, .mv (.tmp 9)⟩,
    ⟨none, some 49, .idx 6 (.tmp 47) (.tmp 48)⟩,
    ⟨none, some 50, .fieldA 1 (.tmp 49)⟩,
    ⟨none, some 51, .load (.tmp 50)⟩]),
   (true, [(9, 0), (10, 0)], [⟨none, some 52, .idx 1 (.tmp 46) (.tmp 51)⟩,
    ⟨none, none, .store 1 (.tmp 52) (.const (.bool false))⟩])])) (.skip))))
  (.rg [⟨none, some 26, .mv (.tmp 9)⟩,
    ⟨none, some 27, .bin .add (.tmp 26) (.const (.int .i64 1))⟩,
    ⟨none, some 9, .mv (.tmp 27)⟩]))
def ac16 (q : Option (Nat × Nat)) : AC := .seq (.rg [⟨none, some 4, .mv (.const (.slice none 0 0))⟩,
    ⟨none, some 5, .mv (.const (.int .i64 0))⟩])
  (.seq (.seq (.rg [⟨none, some 10, .mv (.tmp 0)⟩,
    ⟨none, some 11, .mv (.tmp 1)⟩,
    ⟨none, some 12, .call 36 [.tmp 10, .tmp 11]⟩,
    ⟨none, some 6, .mv (.tmp 12)⟩])
  (.seq (.rg [⟨none, some 13, .mv (.tmp 6)⟩,
    ⟨none, some 14, .bin .neq (.tmp 13) (.const (.int .i64 0))⟩])
  (.cond (.tmp 14) (.seq (.rg [⟨none, some 15, .mv (.tmp 6)⟩,
    ⟨none, some 4, .mv (.const (.slice none 0 0))⟩,
    ⟨none, some 5, .mv (.tmp 15)⟩])
  (.ret)) (.skip))))
  (.seq (.rg [⟨none, some 16, .mv (.tmp 0)⟩,
    ⟨none, some 17, .mv (.tmp 1)⟩,
    ⟨none, some 18, .nilck (.tmp 16)⟩,
    ⟨none, some 19, .fieldA 1 (.tmp 18)⟩,
    ⟨none, none, .store 1 (.tmp 19) (.tmp 17)⟩])
  (.seq (.rg [⟨none, some 7, .mv (.const (.slice none 0 0))⟩])
  (.seq (.rg [⟨none, some 20, .mv (.tmp 0)⟩,
    ⟨none, some 21, .call 20 [.tmp 20]⟩,
    ⟨none, some 8, .mv (.tmp 21)⟩])
  (.seq (.seq (.rg [⟨none, some 9, .mv (.const (.int .i64 0))⟩])
  (.blk 0 (.loop q [0, 1, 7, 8, 9] (ac16_L0 q))))
  (.seq (.rg [⟨none, some 53, .mv (.tmp 7)⟩,
    ⟨none, some 4, .mv (.tmp 53)⟩,
    ⟨none, some 5, .mv (.const (.int .i64 0))⟩])
  (.ret)))))))
theorem ac16_ok (q : Option (Nat × Nat)) : compF Go.Proofs.Try.prog Go.Proofs.Try.f16 (ac16 q) = some (ac16 q, [.tmp 4, .tmp 5]) := by kernel_rfl

/- clearway clearwaylaw33.choices -/
def ac17_L0 (q : Option (Nat × Nat)) : AC := .seq (.seq (.rg [⟨none, some 11, .mv (.tmp 5)⟩,
    ⟨none, some 12, .mv (.tmp 0)⟩,
    ⟨none, some 13, .len (.tmp 12)⟩,
    ⟨none, some 14, .bin .lss (.tmp 11) (.tmp 13)⟩])
  (.cond (.tmp 14) (.skip) (.exit 0)))
  (.seq (.blk 1 (.seq (.dr [(false, [(0, 0), (1, 0), (2, 0), (3, 0), (4, 0), (5, 0), (6, 0), (7, 0)], [⟨none, some 17, .mv (.tmp 0)⟩,
    ⟨none, some 18, .mv (.tmp 5)⟩,
    ⟨none, some 19, .idx 4 (.tmp 17) (.tmp 18)⟩,
    ⟨none, some 20, .loadA 4 (.tmp 19)⟩,
    ⟨none, some 21, .mv (.tmp 1)⟩,
    ⟨none, some 22, .mv (.tmp 5)⟩,
    ⟨none, some 23, .idx 4 (.tmp 21) (.tmp 22)⟩,
    ⟨none, some 24, .loadA 4 (.tmp 23)⟩]),
   (true, [(8, 0)], [⟨none, some 25, .eqA [false, false, false, false] true (.tmp 20) (.tmp 24)⟩])])
  (.cond (.tmp 25) (.seq (.rg [⟨none, some 4, .mv (.const (.bool false))⟩])
  (.ret)) (.skip))))
  (.rg [⟨none, some 15, .mv (.tmp 5)⟩,
    ⟨none, some 16, .bin .add (.tmp 15) (.const (.int .i64 1))⟩,
    ⟨none, some 5, .mv (.tmp 16)⟩]))
def ac17 (q : Option (Nat × Nat)) : AC := .seq (.rg [⟨none, some 4, .mv (.const (.bool false))⟩])
  (.seq (.seq (.rg [⟨none, some 6, .mv (.tmp 0)⟩,
    ⟨none, some 7, .len (.tmp 6)⟩,
    ⟨none, some 8, .mv (.tmp 1)⟩,
    ⟨none, some 9, .len (.tmp 8)⟩,
    ⟨none, some 10, .bin .neq (.tmp 7) (.tmp 9)⟩])
  (.cond (.tmp 10) (.seq (.rg [⟨none, some 4, .mv (.const (.bool false))⟩])
  (.ret)) (.skip)))
  (.seq (.seq (.rg [⟨none, some 5, .mv (.const (.int .i64 0))⟩])
  (.blk 0 (.loop q [0, 1, 5] (ac17_L0 q))))
  (.seq (.rg [⟨none, some 4, .mv (.const (.bool true))⟩])
  (.ret))))
theorem ac17_ok (q : Option (Nat × Nat)) : compF Go.Proofs.Try.prog Go.Proofs.Try.f17 (ac17 q) = some (ac17 q, [.tmp 4]) := by kernel_rfl

/- (*clearway link.Link).Pending -/
def ac18 (q : Option (Nat × Nat)) : AC := .seq (.rg [⟨none, some 2, .mv (.const (.slice none 0 0))⟩])
  (.seq (.seq (.rg [⟨none, some 4, .mv (.tmp 0)⟩,
    ⟨none, some 5, .eqP false (.tmp 4) (.const (.pointer none))⟩,
    ⟨none, some 6, .mv (.tmp 5)⟩,
    ⟨some (6, false), some 7, .mv (.tmp 0)⟩,
    ⟨some (6, false), some 8, .nilck (.tmp 7)⟩,
    ⟨some (6, false), some 9, .fieldA 258 (.tmp 8)⟩,
    ⟨some (6, false), some 10, .load (.tmp 9)⟩,
    ⟨some (6, false), some 11, .eqP false (.tmp 10) (.const (.pointer none))⟩,
    ⟨none, some 12, .pick (.tmp 6) (.const (.bool true)) (.tmp 11)⟩])
  (.cond (.tmp 12) (.seq (.rg [⟨none, some 2, .mv (.const (.slice none 0 0))⟩])
  (.ret)) (.skip)))
  (.seq (.rg [⟨none, some 13, .mv (.tmp 0)⟩,
    ⟨none, some 14, .nilck (.tmp 13)⟩,
    ⟨none, some 15, .fieldA 258 (.tmp 14)⟩,
    ⟨none, some 16, .load (.tmp 15)⟩,
    ⟨none, some 17, .nilck (.tmp 16)⟩,
    ⟨none, some 18, .load (.tmp 17)⟩,
    ⟨none, some 19, .call 39 [.tmp 18]⟩,
    ⟨none, some 3, .mv (.tmp 19)⟩])
  (.seq (.rg [⟨none, some 20, .mv (.tmp 3)⟩,
    ⟨none, some 21, .call 40 [.tmp 20, .func 41]⟩])
  (.seq (.rg [⟨none, some 22, .mv (.tmp 3)⟩,
    ⟨none, some 2, .mv (.tmp 22)⟩])
  (.ret)))))
theorem ac18_ok (q : Option (Nat × Nat)) : compF Go.Proofs.Try.prog Go.Proofs.Try.f18 (ac18 q) = some (ac18 q, [.tmp 2]) := by kernel_rfl

/- clearway clearwaylaw33.parcels -/
def ac19_L0 (q : Option (Nat × Nat)) : AC := .seq (.seq (.rg [⟨none, some 11, .mv (.tmp 5)⟩,
    ⟨none, some 12, .mv (.tmp 0)⟩,
    ⟨none, some 13, .len (.tmp 12)⟩,
    ⟨none, some 14, .bin .lss (.tmp 11) (.tmp 13)⟩])
  (.cond (.tmp 14) (.skip) (.exit 0)))
  (.seq (.blk 1 (.seq (.dr [(false, [(0, 0), (1, 0), (2, 0), (3, 0), (4, 0), (5, 0), (6, 0), (7, 0)], [⟨none, some 17, .mv (.tmp 0)⟩,
    ⟨none, some 18, .mv (.tmp 5)⟩,
    ⟨none, some 19, .idx 6 (.tmp 17) (.tmp 18)⟩,
    ⟨none, some 20, .loadA 6 (.tmp 19)⟩,
    ⟨none, some 21, .mv (.tmp 1)⟩,
    ⟨none, some 22, .mv (.tmp 5)⟩,
    ⟨none, some 23, .idx 6 (.tmp 21) (.tmp 22)⟩,
    ⟨none, some 24, .loadA 6 (.tmp 23)⟩]),
   (true, [(8, 0)], [⟨none, some 25, .eqA [false, false, false, false, false, false] true (.tmp 20) (.tmp 24)⟩])])
  (.cond (.tmp 25) (.seq (.rg [⟨none, some 4, .mv (.const (.bool false))⟩])
  (.ret)) (.skip))))
  (.rg [⟨none, some 15, .mv (.tmp 5)⟩,
    ⟨none, some 16, .bin .add (.tmp 15) (.const (.int .i64 1))⟩,
    ⟨none, some 5, .mv (.tmp 16)⟩]))
def ac19 (q : Option (Nat × Nat)) : AC := .seq (.rg [⟨none, some 4, .mv (.const (.bool false))⟩])
  (.seq (.seq (.rg [⟨none, some 6, .mv (.tmp 0)⟩,
    ⟨none, some 7, .len (.tmp 6)⟩,
    ⟨none, some 8, .mv (.tmp 1)⟩,
    ⟨none, some 9, .len (.tmp 8)⟩,
    ⟨none, some 10, .bin .neq (.tmp 7) (.tmp 9)⟩])
  (.cond (.tmp 10) (.seq (.rg [⟨none, some 4, .mv (.const (.bool false))⟩])
  (.ret)) (.skip)))
  (.seq (.seq (.rg [⟨none, some 5, .mv (.const (.int .i64 0))⟩])
  (.blk 0 (.loop q [0, 1, 5] (ac19_L0 q))))
  (.seq (.rg [⟨none, some 4, .mv (.const (.bool true))⟩])
  (.ret))))
theorem ac19_ok (q : Option (Nat × Nat)) : compF Go.Proofs.Try.prog Go.Proofs.Try.f19 (ac19 q) = some (ac19 q, [.tmp 4]) := by kernel_rfl

/- (*clearway clearwayref33.Link).Pending -/
def ac20_L0 (q : Option (Nat × Nat)) : AC := .seq (.seq (.rg [⟨none, some 13, .mv (.tmp 6)⟩,
    ⟨none, some 14, .mv (.tmp 0)⟩,
    ⟨none, some 15, .nilck (.tmp 14)⟩,
    ⟨none, some 16, .fieldA 2 (.tmp 15)⟩,
    ⟨none, some 17, .load (.tmp 16)⟩,
    ⟨none, some 18, .len (.tmp 17)⟩,
    ⟨none, some 19, .bin .lss (.tmp 13) (.tmp 18)⟩])
  (.cond (.tmp 19) (.skip) (.exit 2)))
  (.seq (.blk 3 (.seq (.dr [(false, [(0, 0), (1, 0), (2, 0), (3, 0), (4, 0)], [⟨none, some 22, .mv (.tmp 0)⟩,
    ⟨none, some 23, .nilck (.tmp 22)⟩,
    ⟨none, some 24, .fieldA 3 (.tmp 23)⟩,
    ⟨none, some 25, .load (.tmp 24)⟩,
    ⟨none, some 26, .mv (.tmp 6)⟩]),
   (true, [(5, 0), (6, 0), (7, 0)], [⟨none, some 27, .idx 1 (.tmp 25) (.tmp 26)⟩,
    ⟨none, some 28, .load (.tmp 27)⟩,
    ⟨none, some 29, .mv (.tmp 28)⟩]),
   (false, [(8, 0), (9, 0)], [⟨some (29, true), some 30, .mv (.tmp 4)⟩,
    ⟨some (29, true), some 31, .mv (.tmp 6)⟩]),
   (true, [(10, 0), (11, 0), (12, 0), (13, 0), (14, 0), (15, 0), (16, 0), (17, 0)], [⟨some (29, true), some 32, .idx 1 (.tmp 30) (.tmp 31)⟩,
    ⟨some (29, true), some 33, .load (.tmp 32)⟩,
    ⟨some (29, true), some 34, .un .not (.tmp 33)⟩,
    ⟨none, some 35, .pick (.tmp 29) (.tmp 34) (.const (.bool false))⟩,
    ⟨none, some 36, .mv (.tmp 35)⟩,
    ⟨some (36, true), some 37, .mv (.tmp 5)⟩,
    ⟨some (36, true), some 38, .bin .lss (.tmp 37) (.const (.int .i64 0))⟩,
    ⟨some (36, true), some 39, .mv (.tmp 38)⟩]),
   (false, [(18, 0), (19, 0), (20, 0), (21, 0), (22, 0), (23, 0), (24, 0), (25, 0), (26, 0), (27, 0), (28, 0), (29, 0), (30, 0), (31, 0), (32, 0), (33, 0)], [⟨some (39, false), some 40, .mv (.tmp 0)⟩,
    ⟨some (39, false), some 41, .nilck (.tmp 40)⟩,
    ⟨some (39, false), some 42, .fieldA 2 (.tmp 41)⟩,
    ⟨some (39, false), some 43, .load (.tmp 42)⟩,
    ⟨some (39, false), some 44, .mv (.tmp 6)⟩,
    ⟨some (39, false), some 45, .idx 6 (.tmp 43) (.tmp 44)⟩,
    ⟨some (39, false), some 46, .fieldA 0 (.tmp 45)⟩,
    ⟨some (39, false), some 47, .load (.tmp 46)⟩,
    ⟨some (39, false), some 48, .mv (.tmp 0)⟩,
    ⟨some (39, false), some 49, .nilck (.tmp 48)⟩,
    ⟨some (39, false), some 50, .fieldA 2 (.tmp 49)⟩,
    ⟨some (39, false), some 51, .load (.tmp 50)⟩,
    ⟨some (39, false), some 52, .mv (.tmp 5)⟩,
    ⟨some (39, false), some 53, .idx 6 (.tmp 51) (.tmp 52)⟩,
    ⟨some (39, false), some 54, .fieldA 0 (.tmp 53)⟩,
    ⟨some (39, false), some 55, .load (.tmp 54)⟩]),
   (true, [(34, 0), (35, 0), (36, 0)], [⟨some (39, false), some 56, .bin .lss (.tmp 47) (.tmp 55)⟩,
    ⟨some (36, true), some 57, .pick (.tmp 39) (.const (.bool true)) (.tmp 56)⟩,
    ⟨none, some 58, .pick (.tmp 36) (.tmp 57) (.const (.bool false))⟩])])
  (.cond (.tmp 58) (.rg [⟨none, some 59, .mv (.tmp 6)⟩,
    ⟨none, some 5, .mv (.tmp 59)⟩]) (.skip))))
  (.rg [⟨none, some 20, .mv (.tmp 6)⟩,
    ⟨none, some 21, .bin .add (.tmp 20) (.const (.int .i64 1))⟩,
    ⟨none, some 6, .mv (.tmp 21)⟩]))
def ac20_L1 (q : Option (Nat × Nat)) : AC := .blk 1 (.seq (.rg [⟨none, some 5, .mv (.const (.int .i64 (-1)))⟩])
  (.seq (.seq (.rg [⟨none, some 6, .mv (.const (.int .i64 0))⟩])
  (.blk 2 (.loop q [0, 3, 4, 5, 6] (ac20_L0 q))))
  (.seq (.seq (.rg [⟨none, some 60, .mv (.tmp 5)⟩,
    ⟨none, some 61, .bin .lss (.tmp 60) (.const (.int .i64 0))⟩])
  (.cond (.tmp 61) (.seq (.rg [⟨none, some 62, .mv (.tmp 3)⟩,
    ⟨none, some 2, .mv (.tmp 62)⟩])
  (.ret)) (.skip)))
  (.seq (.rg [⟨none, some 63, .mv (.tmp 4)⟩,
    ⟨none, some 64, .mv (.tmp 5)⟩,
    ⟨none, some 65, .idx 1 (.tmp 63) (.tmp 64)⟩,
    ⟨none, none, .store 1 (.tmp 65) (.const (.bool true))⟩])
  (.rg [⟨none, some 66, .mv (.tmp 3)⟩,
    ⟨none, some 67, .mv (.tmp 0)⟩,
    ⟨none, some 68, .nilck (.tmp 67)⟩,
    ⟨none, some 69, .fieldA 2 (.tmp 68)⟩,
    ⟨none, some 70, .load (.tmp 69)⟩,
    ⟨none, some 71, .mv (.tmp 5)⟩,
    ⟨none, some 72, .idx 6 (.tmp 70) (.tmp 71)⟩,
    ⟨none, some 73, .loadA 6 (.tmp 72)⟩,
    ⟨none, some 74, .bslice false 49 1 6 [.p (.v (.int .i64 0)), .p (.v (.int .i64 0)), .p (.v (.int .i64 0)), .p (.v (.int .i64 0)), .p (.v (.int .u8 0)), .p (.v (.int .i64 0))] [(0, 6, .tmp 73)]⟩,
    ⟨none, some 75, .append 49 6 48 (.tmp 66) (.tmp 74)⟩,
    ⟨none, some 3, .mv (.tmp 75)⟩])))))
def ac20 (q : Option (Nat × Nat)) : AC := .seq (.rg [⟨none, some 2, .mv (.const (.slice none 0 0))⟩])
  (.seq (.rg [⟨none, some 3, .mv (.const (.slice none 0 0))⟩])
  (.seq (.rg [⟨none, some 7, .mv (.tmp 0)⟩,
    ⟨none, some 8, .nilck (.tmp 7)⟩,
    ⟨none, some 9, .fieldA 2 (.tmp 8)⟩,
    ⟨none, some 10, .load (.tmp 9)⟩,
    ⟨none, some 11, .len (.tmp 10)⟩,
    ⟨none, some 12, .mslice 4 1 1 [.p (.v (.bool false))] (.tmp 11) (.tmp 11)⟩,
    ⟨none, some 4, .mv (.tmp 12)⟩])
  (.blk 0 (.loop q [0, 3, 4] (ac20_L1 q)))))
theorem ac20_ok (q : Option (Nat × Nat)) : compF Go.Proofs.Try.prog Go.Proofs.Try.f20 (ac20 q) = some (ac20 q, [.tmp 2]) := by kernel_rfl

/- (*clearway link.Link).Sent -/
def ac21 (q : Option (Nat × Nat)) : AC := .seq (.rg [⟨none, some 2, .mv (.const (.int .i64 0))⟩])
  (.seq (.seq (.rg [⟨none, some 3, .mv (.tmp 0)⟩,
    ⟨none, some 4, .eqP false (.tmp 3) (.const (.pointer none))⟩])
  (.cond (.tmp 4) (.seq (.rg [⟨none, some 2, .mv (.const (.int .i64 0))⟩])
  (.ret)) (.skip)))
  (.seq (.rg [⟨none, some 5, .mv (.tmp 0)⟩,
    ⟨none, some 6, .nilck (.tmp 5)⟩,
    ⟨none, some 7, .fieldA 257 (.tmp 6)⟩,
    ⟨none, some 8, .load (.tmp 7)⟩,
    ⟨none, some 2, .mv (.tmp 8)⟩])
  (.ret)))
theorem ac21_ok (q : Option (Nat × Nat)) : compF Go.Proofs.Try.prog Go.Proofs.Try.f21 (ac21 q) = some (ac21 q, [.tmp 2]) := by kernel_rfl

/- clearway link.Lost -/
def ac22_L0 (q : Option (Nat × Nat)) : AC := .seq (.rg [⟨none, some 17, .bin .lss (.tmp 16) (.tmp 15)⟩])
  (.seq (.cond (.tmp 17) (.skip) (.exit 0))
  (.seq (.blk 1 (.seq (.rg [⟨none, some 18, .idx 1 (.tmp 14) (.tmp 16)⟩,
    ⟨none, some 19, .load (.tmp 18)⟩,
    ⟨none, some 8, .mv (.tmp 19)⟩])
  (.seq (.seq (.rg [⟨none, some 20, .mv (.tmp 8)⟩,
    ⟨none, some 21, .bin .eql (.tmp 20) (.const (.int .i64 (-1)))⟩])
  (.cond (.tmp 21) (.rg [⟨none, some 22, .mv (.tmp 6)⟩,
    ⟨none, some 23, .bin .add (.tmp 22) (.const (.int .i64 1))⟩,
    ⟨none, some 6, .mv (.tmp 23)⟩]) (.rg [⟨none, some 6, .mv (.const (.int .i64 0))⟩])))
  (.rg [⟨none, some 24, .mv (.tmp 5)⟩,
    ⟨none, some 25, .mv (.tmp 6)⟩,
    ⟨none, some 26, .minmax true [.tmp 24, .tmp 25]⟩,
    ⟨none, some 5, .mv (.tmp 26)⟩]))))
  (.rg [⟨none, some 27, .bin .add (.tmp 16) (.const (.int .i64 1))⟩,
    ⟨none, some 16, .mv (.tmp 27)⟩])))
def ac22 (q : Option (Nat × Nat)) : AC := .seq (.rg [⟨none, some 2, .mv (.const (.int .i64 0))⟩,
    ⟨none, some 3, .mv (.const (.int .i64 0))⟩])
  (.seq (.seq (.rg [⟨none, some 9, .mv (.tmp 0)⟩,
    ⟨none, some 10, .call 30 [.tmp 9]⟩,
    ⟨none, some 4, .mv (.tmp 10)⟩])
  (.seq (.rg [⟨none, some 11, .mv (.tmp 4)⟩,
    ⟨none, some 12, .bin .neq (.tmp 11) (.const (.int .i64 0))⟩])
  (.cond (.tmp 12) (.seq (.rg [⟨none, some 13, .mv (.tmp 4)⟩,
    ⟨none, some 2, .mv (.const (.int .i64 0))⟩,
    ⟨none, some 3, .mv (.tmp 13)⟩])
  (.ret)) (.skip))))
  (.seq (.rg [⟨none, some 5, .mv (.const (.int .i64 0))⟩,
    ⟨none, some 6, .mv (.const (.int .i64 0))⟩])
  (.seq (.seq (.rg [⟨none, some 14, .mv (.tmp 0)⟩,
    ⟨none, some 15, .len (.tmp 14)⟩,
    ⟨none, some 16, .mv (.const (.int .i64 0))⟩])
  (.blk 0 (.loop q [5, 6, 14, 15, 16] (ac22_L0 q))))
  (.seq (.rg [⟨none, some 28, .mv (.tmp 5)⟩,
    ⟨none, some 2, .mv (.tmp 28)⟩,
    ⟨none, some 3, .mv (.const (.int .i64 0))⟩])
  (.ret)))))
theorem ac22_ok (q : Option (Nat × Nat)) : compF Go.Proofs.Try.prog Go.Proofs.Try.f22 (ac22 q) = some (ac22 q, [.tmp 2, .tmp 3]) := by kernel_rfl
end Go.Ab
