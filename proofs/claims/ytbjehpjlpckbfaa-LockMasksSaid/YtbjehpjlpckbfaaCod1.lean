/- The codes of functions of this seat, as annotated, compared with the program by the kernel. No conditions. -/
import Derived.Test.YtbjehpjlpckbfaaProg
import Derived.Test.YtbjehpjlpckbfaaAbG
set_option linter.unusedVariables false
set_option linter.unusedSimpArgs false
namespace Go.Ab
def ac9_L0 (q : Option (Nat × Nat)) : AC := .seq (.seq (.rg [⟨none, some 41, .mv (.tmp 9)⟩,
    ⟨none, some 42, .mv (.tmp 7)⟩,
    ⟨none, some 43, .len (.tmp 42)⟩,
    ⟨none, some 44, .bin .lss (.tmp 41) (.tmp 43)⟩])
  (.cond (.tmp 44) (.skip) (.exit 0)))
  (.seq (.blk 1 (.seq (.rg [⟨none, some 47, .mv (.tmp 7)⟩,
    ⟨none, some 48, .mv (.tmp 9)⟩,
    ⟨none, some 49, .idx 1 (.tmp 47) (.tmp 48)⟩,
    ⟨none, some 50, .load (.tmp 49)⟩,
    ⟨none, some 51, .un .not (.tmp 50)⟩])
  (.cond (.tmp 51) (.seq (.rg [⟨none, some 4, .mv (.const (.bool false))⟩])
  (.ret)) (.skip))))
  (.rg [⟨none, some 45, .mv (.tmp 9)⟩,
    ⟨none, some 46, .bin .add (.tmp 45) (.const (.int .i64 1))⟩,
    ⟨none, some 9, .mv (.tmp 46)⟩]))
def ac9_L1 (q : Option (Nat × Nat)) : AC := .seq (.seq (.rg [⟨none, some 53, .mv (.tmp 11)⟩,
    ⟨none, some 54, .mv (.tmp 0)⟩,
    ⟨none, some 55, .len (.tmp 54)⟩,
    ⟨none, some 56, .bin .lss (.tmp 53) (.tmp 55)⟩,
    ⟨none, some 57, .mv (.tmp 56)⟩,
    ⟨some (57, true), some 58, .mv (.tmp 11)⟩,
    ⟨some (57, true), some 59, .bin .lss (.tmp 58) (.const (.int .i64 16))⟩,
    ⟨none, some 60, .pick (.tmp 57) (.tmp 59) (.const (.bool false))⟩])
  (.cond (.tmp 60) (.skip) (.exit 2)))
  (.seq (.blk 3 (.seq (.rg [⟨none, some 63, .mv (.tmp 0)⟩,
    ⟨none, some 64, .mv (.tmp 11)⟩,
    ⟨none, some 65, .idx 1 (.tmp 63) (.tmp 64)⟩,
    ⟨none, some 66, .load (.tmp 65)⟩,
    ⟨none, some 67, .bin .rem (.tmp 66) (.const (.int .u8 3))⟩,
    ⟨none, some 12, .mv (.tmp 67)⟩])
  (.seq (.rg [⟨none, some 68, .mv (.tmp 10)⟩,
    ⟨none, some 69, .mv (.tmp 12)⟩,
    ⟨none, some 70, .idx 1 (.tmp 68) (.tmp 69)⟩,
    ⟨none, none, .store 1 (.tmp 70) (.const (.bool true))⟩])
  (.seq (.rg [⟨none, some 71, .mv (.tmp 5)⟩,
    ⟨none, some 72, .mv (.tmp 11)⟩,
    ⟨none, some 73, .mv (.tmp 12)⟩,
    ⟨none, some 74, .build [.p (.v (.int .i64 0)), .p (.v (.int .i64 0)), .p (.v (.int .u8 0)), .p (.v (.int .i64 0))] [(0, 1, .tmp 72), (1, 1, .const (.int .i64 99)), (2, 1, .tmp 73), (3, 1, .const (.int .i64 1))]⟩,
    ⟨none, some 75, .call 14 [.tmp 71, .const (.int .i64 1), .tmp 74]⟩,
    ⟨none, some 76, .bin .neq (.tmp 75) (.const (.int .i64 0))⟩])
  (.cond (.tmp 76) (.seq (.rg [⟨none, some 4, .mv (.const (.bool false))⟩])
  (.ret)) (.skip))))))
  (.rg [⟨none, some 61, .mv (.tmp 11)⟩,
    ⟨none, some 62, .bin .add (.tmp 61) (.const (.int .i64 1))⟩,
    ⟨none, some 11, .mv (.tmp 62)⟩]))
def ac9_L2 (q : Option (Nat × Nat)) : AC := .seq (.seq (.rg [⟨none, some 104, .mv (.tmp 15)⟩,
    ⟨none, some 105, .mv (.tmp 13)⟩,
    ⟨none, some 106, .len (.tmp 105)⟩,
    ⟨none, some 107, .bin .lss (.tmp 104) (.tmp 106)⟩])
  (.cond (.tmp 107) (.skip) (.exit 4)))
  (.seq (.blk 5 (.seq (.rg [⟨none, some 110, .mv (.tmp 1)⟩,
    ⟨none, some 111, .mv (.tmp 15)⟩,
    ⟨none, some 112, .idx 3 (.tmp 110) (.tmp 111)⟩,
    ⟨none, some 113, .fieldA 0 (.tmp 112)⟩,
    ⟨none, some 114, .load (.tmp 113)⟩,
    ⟨none, some 16, .mv (.tmp 114)⟩])
  (.seq (.rg [⟨none, some 115, .mv (.tmp 15)⟩,
    ⟨none, some 116, .bin .eql (.tmp 115) (.const (.int .i64 0))⟩,
    ⟨none, some 117, .mv (.tmp 116)⟩,
    ⟨some (117, false), some 118, .mv (.tmp 16)⟩,
    ⟨some (117, false), some 119, .bin .eql (.tmp 118) (.const (.int .u8 0))⟩,
    ⟨none, some 120, .pick (.tmp 117) (.const (.bool true)) (.tmp 119)⟩])
  (.cond (.tmp 120) (.seq (.rg [⟨none, some 121, .mv (.tmp 13)⟩,
    ⟨none, some 122, .mv (.tmp 15)⟩,
    ⟨none, some 123, .idx 1 (.tmp 121) (.tmp 122)⟩,
    ⟨none, some 124, .load (.tmp 123)⟩,
    ⟨none, some 125, .un .not (.tmp 124)⟩])
  (.cond (.tmp 125) (.seq (.rg [⟨none, some 4, .mv (.const (.bool false))⟩])
  (.ret)) (.skip))) (.seq (.dr [(true, [(0, 0), (1, 0), (2, 0)], [⟨none, some 126, .mv (.tmp 16)⟩,
    ⟨none, some 127, .bin .gtr (.tmp 126) (.const (.int .u8 2))⟩,
    ⟨none, some 128, .mv (.tmp 127)⟩]),
   (false, [(3, 0), (4, 0), (5, 0), (6, 0), (7, 0), (8, 0), (9, 0), (10, 0)], [⟨some (128, false), some 129, .mv (.tmp 13)⟩,
    ⟨some (128, false), some 130, .mv (.tmp 15)⟩,
    ⟨some (128, false), some 131, .idx 1 (.tmp 129) (.tmp 130)⟩,
    ⟨some (128, false), some 132, .load (.tmp 131)⟩,
    ⟨some (128, false), some 133, .mv (.tmp 10)⟩,
    ⟨some (128, false), some 134, .mv (.tmp 16)⟩,
    ⟨some (128, false), some 135, .idx 1 (.tmp 133) (.tmp 134)⟩,
    ⟨some (128, false), some 136, .load (.tmp 135)⟩]),
   (true, [(11, 0), (12, 0)], [⟨some (128, false), some 137, .binB false (.tmp 132) (.tmp 136)⟩,
    ⟨none, some 138, .pick (.tmp 128) (.const (.bool true)) (.tmp 137)⟩])])
  (.cond (.tmp 138) (.seq (.rg [⟨none, some 4, .mv (.const (.bool false))⟩])
  (.ret)) (.skip)))))))
  (.rg [⟨none, some 108, .mv (.tmp 15)⟩,
    ⟨none, some 109, .bin .add (.tmp 108) (.const (.int .i64 1))⟩,
    ⟨none, some 15, .mv (.tmp 109)⟩]))
def ac9 (q : Option (Nat × Nat)) : AC := .seq (.rg [⟨none, some 4, .mv (.const (.bool false))⟩])
  (.seq (.seq (.rg [⟨none, some 17, .mv (.tmp 1)⟩,
    ⟨none, some 18, .call 10 [.tmp 17]⟩,
    ⟨none, some 19, .un .not (.tmp 18)⟩,
    ⟨none, some 20, .mv (.tmp 19)⟩,
    ⟨some (20, false), some 21, .call 11 []⟩,
    ⟨some (20, false), some 22, .un .not (.tmp 21)⟩,
    ⟨none, some 23, .pick (.tmp 20) (.const (.bool true)) (.tmp 22)⟩])
  (.cond (.tmp 23) (.seq (.rg [⟨none, some 24, .call 11 []⟩,
    ⟨none, some 4, .mv (.tmp 24)⟩])
  (.ret)) (.skip)))
  (.seq (.rg [⟨none, some 26, .call 12 [.const (.int .i64 9)]⟩,
    ⟨none, some 25, .mv (.tmp 26)⟩,
    ⟨none, some 27, .extract (.tmp 25) 0⟩,
    ⟨none, some 28, .extract (.tmp 25) 1⟩,
    ⟨none, some 5, .mv (.tmp 27)⟩,
    ⟨none, some 6, .mv (.tmp 28)⟩])
  (.seq (.seq (.rg [⟨none, some 29, .mv (.tmp 6)⟩,
    ⟨none, some 30, .bin .neq (.tmp 29) (.const (.int .i64 0))⟩,
    ⟨none, some 31, .mv (.tmp 30)⟩,
    ⟨some (31, false), some 32, .mv (.tmp 5)⟩,
    ⟨some (31, false), some 33, .eqP false (.tmp 32) (.const (.pointer none))⟩,
    ⟨none, some 34, .pick (.tmp 31) (.const (.bool true)) (.tmp 33)⟩])
  (.cond (.tmp 34) (.seq (.rg [⟨none, some 4, .mv (.const (.bool false))⟩])
  (.ret)) (.skip)))
  (.seq (.rg [⟨none, some 36, .mv (.tmp 5)⟩,
    ⟨none, some 37, .mv (.tmp 1)⟩,
    ⟨none, some 38, .call 19 [.tmp 36, .tmp 37]⟩,
    ⟨none, some 35, .mv (.tmp 38)⟩,
    ⟨none, some 39, .extract (.tmp 35) 0⟩,
    ⟨none, some 40, .extract (.tmp 35) 1⟩,
    ⟨none, some 7, .mv (.tmp 39)⟩,
    ⟨none, some 8, .mv (.tmp 40)⟩])
  (.seq (.seq (.rg [⟨none, some 9, .mv (.const (.int .i64 0))⟩])
  (.blk 0 (.loop q [0, 1, 5, 7, 8, 9] (ac9_L0 q))))
  (.seq (.rg [⟨none, some 52, .mslice 4 1 1 [.p (.v (.bool false))] (.const (.int .i64 3)) (.const (.int .i64 3))⟩,
    ⟨none, some 10, .mv (.tmp 52)⟩])
  (.seq (.seq (.rg [⟨none, some 11, .mv (.const (.int .i64 0))⟩])
  (.blk 2 (.loop q [0, 1, 5, 7, 8, 10, 11] (ac9_L1 q))))
  (.seq (.rg [⟨none, some 78, .mv (.tmp 5)⟩,
    ⟨none, some 79, .mv (.tmp 1)⟩,
    ⟨none, some 80, .call 19 [.tmp 78, .tmp 79]⟩,
    ⟨none, some 77, .mv (.tmp 80)⟩,
    ⟨none, some 81, .extract (.tmp 77) 0⟩,
    ⟨none, some 82, .extract (.tmp 77) 1⟩,
    ⟨none, some 13, .mv (.tmp 81)⟩,
    ⟨none, some 14, .mv (.tmp 82)⟩])
  (.seq (.seq (.rg [⟨none, some 83, .mv (.tmp 8)⟩,
    ⟨none, some 84, .mv (.tmp 14)⟩,
    ⟨none, some 85, .bin .neq (.tmp 83) (.tmp 84)⟩,
    ⟨none, some 86, .mv (.tmp 85)⟩,
    ⟨some (86, false), some 87, .mv (.tmp 8)⟩,
    ⟨some (86, false), some 88, .bin .eql (.tmp 87) (.const (.int .i64 0))⟩,
    ⟨some (86, false), some 89, .mv (.tmp 88)⟩,
    ⟨some (89, true), some 90, .mv (.tmp 7)⟩,
    ⟨some (89, true), some 91, .len (.tmp 90)⟩,
    ⟨some (89, true), some 92, .mv (.tmp 1)⟩,
    ⟨some (89, true), some 93, .len (.tmp 92)⟩,
    ⟨some (89, true), some 94, .bin .neq (.tmp 91) (.tmp 93)⟩,
    ⟨some (89, true), some 95, .mv (.tmp 94)⟩,
    ⟨some (95, false), some 96, .mv (.tmp 13)⟩,
    ⟨some (95, false), some 97, .len (.tmp 96)⟩,
    ⟨some (95, false), some 98, .mv (.tmp 1)⟩,
    ⟨some (95, false), some 99, .len (.tmp 98)⟩,
    ⟨some (95, false), some 100, .bin .neq (.tmp 97) (.tmp 99)⟩,
    ⟨some (89, true), some 101, .pick (.tmp 95) (.const (.bool true)) (.tmp 100)⟩,
    ⟨some (86, false), some 102, .pick (.tmp 89) (.tmp 101) (.const (.bool false))⟩,
    ⟨none, some 103, .pick (.tmp 86) (.const (.bool true)) (.tmp 102)⟩])
  (.cond (.tmp 103) (.seq (.rg [⟨none, some 4, .mv (.const (.bool false))⟩])
  (.ret)) (.skip)))
  (.seq (.seq (.rg [⟨none, some 15, .mv (.const (.int .i64 0))⟩])
  (.blk 4 (.loop q [1, 10, 13, 15] (ac9_L2 q))))
  (.seq (.rg [⟨none, some 4, .mv (.const (.bool true))⟩])
  (.ret))))))))))))
theorem ac9_ok (q : Option (Nat × Nat)) : compF Go.Proofs.Try.prog Go.Proofs.Try.f9 (ac9 q) = some (ac9 q, [.tmp 4]) := by kernel_rfl
def ac10 (q : Option (Nat × Nat)) : AC := .seq (.rg [⟨none, some 2, .mv (.const (.bool false))⟩])
  (.seq (.rg [⟨none, some 3, .mv (.tmp 0)⟩,
    ⟨none, some 4, .len (.tmp 3)⟩,
    ⟨none, some 5, .bin .leq (.tmp 4) (.const (.int .i64 20))⟩,
    ⟨none, some 2, .mv (.tmp 5)⟩])
  (.ret))
theorem ac10_ok (q : Option (Nat × Nat)) : compF Go.Proofs.Try.prog Go.Proofs.Try.f10 (ac10 q) = some (ac10 q, [.tmp 2]) := by kernel_rfl
def ac11 (q : Option (Nat × Nat)) : AC := .seq (.rg [⟨none, some 0, .mv (.const (.bool false))⟩])
  (.seq (.rg [⟨none, some 12, .call 12 [.const (.int .i64 3)]⟩,
    ⟨none, some 11, .mv (.tmp 12)⟩,
    ⟨none, some 13, .extract (.tmp 11) 0⟩,
    ⟨none, some 14, .extract (.tmp 11) 1⟩,
    ⟨none, some 1, .mv (.tmp 13)⟩,
    ⟨none, some 2, .mv (.tmp 14)⟩])
  (.seq (.seq (.rg [⟨none, some 15, .mv (.tmp 2)⟩,
    ⟨none, some 16, .bin .neq (.tmp 15) (.const (.int .i64 0))⟩,
    ⟨none, some 17, .mv (.tmp 16)⟩,
    ⟨some (17, false), some 18, .mv (.tmp 1)⟩,
    ⟨some (17, false), some 19, .eqP false (.tmp 18) (.const (.pointer none))⟩,
    ⟨none, some 20, .pick (.tmp 17) (.const (.bool true)) (.tmp 19)⟩,
    ⟨none, some 21, .mv (.tmp 20)⟩,
    ⟨some (21, false), some 22, .mv (.tmp 1)⟩,
    ⟨some (21, false), some 23, .call 37 [.const (.int .u8 1), .const (.int .i64 1)]⟩,
    ⟨some (21, false), some 24, .call 14 [.tmp 22, .const (.int .i64 10), .tmp 23]⟩,
    ⟨some (21, false), some 25, .bin .neq (.tmp 24) (.const (.int .i64 0))⟩,
    ⟨none, some 26, .pick (.tmp 21) (.const (.bool true)) (.tmp 25)⟩,
    ⟨none, some 27, .mv (.tmp 26)⟩,
    ⟨some (27, false), some 28, .mv (.tmp 1)⟩,
    ⟨some (27, false), some 29, .call 18 [.tmp 28]⟩,
    ⟨some (27, false), some 30, .build [.p (.v (.int .i64 0)), .p (.v (.int .u8 0)), .p (.v (.int .i64 0)), .p (.v (.int .i64 0))] [(0, 1, .const (.int .i64 7)), (1, 1, .const (.int .u8 1)), (2, 1, .const (.int .i64 1)), (3, 1, .const (.int .i64 13))]⟩,
    ⟨some (27, false), some 31, .bslice false 50 1 4 [.p (.v (.int .i64 0)), .p (.v (.int .u8 0)), .p (.v (.int .i64 0)), .p (.v (.int .i64 0))] [(0, 4, .tmp 30)]⟩,
    ⟨some (27, false), some 32, .call 21 [.tmp 29, .tmp 31]⟩,
    ⟨some (27, false), some 33, .un .not (.tmp 32)⟩,
    ⟨none, some 34, .pick (.tmp 27) (.const (.bool true)) (.tmp 33)⟩])
  (.cond (.tmp 34) (.seq (.rg [⟨none, some 0, .mv (.const (.bool false))⟩])
  (.ret)) (.skip)))
  (.seq (.rg [⟨none, some 35, .build [.p (.v (.int .i64 0)), .p (.v (.int .u8 0)), .p (.v (.int .i64 0)), .p (.v (.int .i64 0))] [(0, 1, .const (.int .i64 7)), (1, 1, .const (.int .u8 2)), (2, 1, .const (.int .i64 2)), (3, 1, .const (.int .i64 14))]⟩,
    ⟨none, some 36, .bslice false 50 1 4 [.p (.v (.int .i64 0)), .p (.v (.int .u8 0)), .p (.v (.int .i64 0)), .p (.v (.int .i64 0))] [(0, 4, .tmp 35)]⟩,
    ⟨none, some 3, .mv (.tmp 36)⟩])
  (.seq (.seq (.rg [⟨none, some 37, .mv (.tmp 1)⟩,
    ⟨none, some 38, .call 37 [.const (.int .u8 2), .const (.int .i64 2)]⟩,
    ⟨none, some 39, .call 14 [.tmp 37, .const (.int .i64 11), .tmp 38]⟩,
    ⟨none, some 40, .bin .neq (.tmp 39) (.const (.int .i64 0))⟩,
    ⟨none, some 41, .mv (.tmp 40)⟩,
    ⟨some (41, false), some 42, .mv (.tmp 1)⟩,
    ⟨some (41, false), some 43, .call 18 [.tmp 42]⟩,
    ⟨some (41, false), some 44, .mv (.tmp 3)⟩,
    ⟨some (41, false), some 45, .call 21 [.tmp 43, .tmp 44]⟩,
    ⟨some (41, false), some 46, .un .not (.tmp 45)⟩,
    ⟨none, some 47, .pick (.tmp 41) (.const (.bool true)) (.tmp 46)⟩,
    ⟨none, some 48, .mv (.tmp 47)⟩,
    ⟨some (48, false), some 49, .mv (.tmp 1)⟩,
    ⟨some (48, false), some 50, .call 37 [.const (.int .u8 1), .const (.int .i64 1)]⟩,
    ⟨some (48, false), some 51, .call 14 [.tmp 49, .const (.int .i64 12), .tmp 50]⟩,
    ⟨some (48, false), some 52, .bin .neq (.tmp 51) (.const (.int .i64 0))⟩,
    ⟨none, some 53, .pick (.tmp 48) (.const (.bool true)) (.tmp 52)⟩,
    ⟨none, some 54, .mv (.tmp 53)⟩,
    ⟨some (54, false), some 55, .mv (.tmp 1)⟩,
    ⟨some (54, false), some 56, .call 18 [.tmp 55]⟩,
    ⟨some (54, false), some 57, .mv (.tmp 3)⟩,
    ⟨some (54, false), some 58, .call 21 [.tmp 56, .tmp 57]⟩,
    ⟨some (54, false), some 59, .un .not (.tmp 58)⟩,
    ⟨none, some 60, .pick (.tmp 54) (.const (.bool true)) (.tmp 59)⟩,
    ⟨none, some 61, .mv (.tmp 60)⟩,
    ⟨some (61, false), some 62, .mv (.tmp 1)⟩,
    ⟨some (61, false), some 63, .call 16 [.tmp 62, .const (.int .i64 14)]⟩,
    ⟨some (61, false), some 64, .bin .neq (.tmp 63) (.const (.int .i64 0))⟩,
    ⟨none, some 65, .pick (.tmp 61) (.const (.bool true)) (.tmp 64)⟩,
    ⟨none, some 66, .mv (.tmp 65)⟩,
    ⟨some (66, false), some 67, .mv (.tmp 1)⟩,
    ⟨some (66, false), some 68, .call 18 [.tmp 67]⟩,
    ⟨some (66, false), some 69, .mv (.tmp 3)⟩,
    ⟨some (66, false), some 70, .call 21 [.tmp 68, .tmp 69]⟩,
    ⟨some (66, false), some 71, .un .not (.tmp 70)⟩,
    ⟨none, some 72, .pick (.tmp 66) (.const (.bool true)) (.tmp 71)⟩,
    ⟨none, some 73, .mv (.tmp 72)⟩,
    ⟨some (73, false), some 74, .mv (.tmp 1)⟩,
    ⟨some (73, false), some 75, .call 23 [.tmp 74, .const (.int .i64 7)]⟩,
    ⟨some (73, false), some 76, .bin .neq (.tmp 75) (.const (.int .u8 2))⟩,
    ⟨none, some 77, .pick (.tmp 73) (.const (.bool true)) (.tmp 76)⟩])
  (.cond (.tmp 77) (.seq (.rg [⟨none, some 0, .mv (.const (.bool false))⟩])
  (.ret)) (.skip)))
  (.seq (.rg [⟨none, some 79, .mv (.tmp 1)⟩,
    ⟨none, some 80, .build [.p (.v (.int .u8 0)), .p (.v (.int .i64 0)), .p (.v (.int .i64 0))] []⟩,
    ⟨none, some 81, .build [.p (.v (.int .u8 0)), .p (.v (.int .i64 0)), .p (.v (.int .i64 0))] [(0, 1, .const (.int .u8 1)), (1, 1, .const (.int .i64 5)), (2, 1, .const (.int .i64 9))]⟩,
    ⟨none, some 82, .build [.p (.v (.int .u8 0)), .p (.v (.int .i64 0)), .p (.v (.int .i64 0))] [(0, 1, .const (.int .u8 2)), (1, 1, .const (.int .i64 (-9))), (2, 1, .const (.int .i64 (-5)))]⟩,
    ⟨none, some 83, .bslice false 74 3 3 [.p (.v (.int .u8 0)), .p (.v (.int .i64 0)), .p (.v (.int .i64 0))] [(0, 3, .tmp 80), (3, 3, .tmp 81), (6, 3, .tmp 82)]⟩,
    ⟨none, some 84, .call 19 [.tmp 79, .tmp 83]⟩,
    ⟨none, some 78, .mv (.tmp 84)⟩,
    ⟨none, some 85, .extract (.tmp 78) 0⟩,
    ⟨none, some 86, .extract (.tmp 78) 1⟩,
    ⟨none, some 4, .mv (.tmp 85)⟩,
    ⟨none, some 5, .mv (.tmp 86)⟩])
  (.seq (.seq (.rg [⟨none, some 87, .mv (.tmp 5)⟩,
    ⟨none, some 88, .bin .neq (.tmp 87) (.const (.int .i64 0))⟩,
    ⟨none, some 89, .mv (.tmp 88)⟩,
    ⟨some (89, false), some 90, .mv (.tmp 4)⟩,
    ⟨some (89, false), some 91, .bslice false 4 3 1 [.p (.v (.bool false))] [(0, 1, .const (.bool true)), (1, 1, .const (.bool true)), (2, 1, .const (.bool false))]⟩,
    ⟨some (89, false), some 92, .call 22 [.tmp 90, .tmp 91]⟩,
    ⟨some (89, false), some 93, .un .not (.tmp 92)⟩,
    ⟨none, some 94, .pick (.tmp 89) (.const (.bool true)) (.tmp 93)⟩,
    ⟨none, some 95, .mv (.tmp 94)⟩,
    ⟨some (95, false), some 96, .mv (.tmp 1)⟩,
    ⟨some (95, false), some 97, .call 16 [.tmp 96, .const (.int .i64 15)]⟩,
    ⟨some (95, false), some 98, .bin .neq (.tmp 97) (.const (.int .i64 0))⟩,
    ⟨none, some 99, .pick (.tmp 95) (.const (.bool true)) (.tmp 98)⟩,
    ⟨none, some 100, .mv (.tmp 99)⟩,
    ⟨some (100, false), some 101, .mv (.tmp 1)⟩,
    ⟨some (100, false), some 102, .call 18 [.tmp 101]⟩,
    ⟨some (100, false), some 103, .len (.tmp 102)⟩,
    ⟨some (100, false), some 104, .bin .neq (.tmp 103) (.const (.int .i64 0))⟩,
    ⟨none, some 105, .pick (.tmp 100) (.const (.bool true)) (.tmp 104)⟩,
    ⟨none, some 106, .mv (.tmp 105)⟩,
    ⟨some (106, false), some 107, .mv (.tmp 1)⟩,
    ⟨some (106, false), some 108, .call 16 [.tmp 107, .const (.int .i64 14)]⟩,
    ⟨some (106, false), some 109, .bin .neq (.tmp 108) (.const (.int .i64 12))⟩,
    ⟨none, some 110, .pick (.tmp 106) (.const (.bool true)) (.tmp 109)⟩])
  (.cond (.tmp 110) (.seq (.rg [⟨none, some 0, .mv (.const (.bool false))⟩])
  (.ret)) (.skip)))
  (.seq (.rg [⟨none, some 112, .build [.p (.v (.int .i64 0)), .p (.v (.int .i64 0)), .p (.v (.int .u8 0)), .p (.v (.int .i64 0))] [(0, 1, .const (.int .i64 5)), (1, 1, .const (.int .i64 9)), (2, 1, .const (.int .u8 1)), (3, 1, .const (.int .i64 3))]⟩,
    ⟨none, some 113, .call 29 [.tmp 112]⟩,
    ⟨none, some 111, .mv (.tmp 113)⟩,
    ⟨none, some 114, .extract (.tmp 111) 0⟩,
    ⟨none, some 115, .extract (.tmp 111) 1⟩,
    ⟨none, some 6, .mv (.tmp 114)⟩,
    ⟨none, some 7, .mv (.tmp 115)⟩])
  (.seq (.rg [⟨none, some 116, .mslice 5 1 1 [.p (.v (.int .u8 0))] (.const (.int .i64 56)) (.const (.int .i64 56))⟩,
    ⟨none, some 8, .mv (.tmp 116)⟩])
  (.seq (.rg [⟨none, some 117, .mv (.tmp 8)⟩,
    ⟨none, some 118, .mv (.tmp 8)⟩,
    ⟨none, some 119, .mv (.tmp 8)⟩,
    ⟨none, some 120, .mv (.tmp 8)⟩,
    ⟨none, some 121, .mv (.tmp 8)⟩,
    ⟨none, some 122, .idx 1 (.tmp 117) (.const (.int .i64 21))⟩,
    ⟨none, none, .store 1 (.tmp 122) (.const (.int .u8 1))⟩,
    ⟨none, some 123, .idx 1 (.tmp 118) (.const (.int .i64 23))⟩,
    ⟨none, none, .store 1 (.tmp 123) (.const (.int .u8 1))⟩,
    ⟨none, some 124, .idx 1 (.tmp 119) (.const (.int .i64 25))⟩,
    ⟨none, none, .store 1 (.tmp 124) (.const (.int .u8 1))⟩,
    ⟨none, some 125, .idx 1 (.tmp 120) (.const (.int .i64 44))⟩,
    ⟨none, none, .store 1 (.tmp 125) (.const (.int .u8 1))⟩,
    ⟨none, some 126, .idx 1 (.tmp 121) (.const (.int .i64 45))⟩,
    ⟨none, none, .store 1 (.tmp 126) (.const (.int .u8 1))⟩])
  (.seq (.rg [⟨none, some 128, .mv (.tmp 8)⟩,
    ⟨none, some 129, .call 30 [.tmp 128, .const (.int .i64 9)]⟩,
    ⟨none, some 127, .mv (.tmp 129)⟩,
    ⟨none, some 130, .extract (.tmp 127) 0⟩,
    ⟨none, some 131, .extract (.tmp 127) 1⟩,
    ⟨none, some 9, .alloc 34 [.p (.v (.int .i64 0)), .p (.v (.int .i64 0)), .p (.v (.int .u8 0)), .p (.v (.int .i64 0))]⟩,
    ⟨none, none, .store 4 (.tmp 9) (.tmp 130)⟩,
    ⟨none, some 10, .mv (.tmp 131)⟩])
  (.seq (.rg [⟨none, some 132, .mv (.tmp 7)⟩,
    ⟨none, some 133, .bin .eql (.tmp 132) (.const (.int .i64 0))⟩,
    ⟨none, some 134, .mv (.tmp 133)⟩,
    ⟨some (134, true), some 135, .mv (.tmp 6)⟩,
    ⟨some (134, true), some 136, .mv (.tmp 8)⟩,
    ⟨some (134, true), some 137, .call 33 [.tmp 135, .tmp 136]⟩,
    ⟨none, some 138, .pick (.tmp 134) (.tmp 137) (.const (.bool false))⟩,
    ⟨none, some 139, .mv (.tmp 138)⟩,
    ⟨some (139, true), some 140, .mv (.tmp 10)⟩,
    ⟨some (139, true), some 141, .bin .eql (.tmp 140) (.const (.int .i64 0))⟩,
    ⟨none, some 142, .pick (.tmp 139) (.tmp 141) (.const (.bool false))⟩,
    ⟨none, some 143, .mv (.tmp 142)⟩,
    ⟨some (143, true), some 144, .loadA 4 (.tmp 9)⟩,
    ⟨some (143, true), some 145, .build [.p (.v (.int .i64 0)), .p (.v (.int .i64 0)), .p (.v (.int .u8 0)), .p (.v (.int .i64 0))] [(0, 1, .const (.int .i64 5)), (1, 1, .const (.int .i64 9)), (2, 1, .const (.int .u8 1)), (3, 1, .const (.int .i64 3))]⟩,
    ⟨some (143, true), some 146, .eqA [false, false, false, false] false (.tmp 144) (.tmp 145)⟩,
    ⟨none, some 147, .pick (.tmp 143) (.tmp 146) (.const (.bool false))⟩,
    ⟨none, some 0, .mv (.tmp 147)⟩])
  (.ret))))))))))))
theorem ac11_ok (q : Option (Nat × Nat)) : compF Go.Proofs.Try.prog Go.Proofs.Try.f11 (ac11 q) = some (ac11 q, [.tmp 0]) := by kernel_rfl
def ac12 (q : Option (Nat × Nat)) : AC := .seq (.rg [⟨none, some 2, .mv (.const (.pointer none))⟩,
    ⟨none, some 3, .mv (.const (.int .i64 0))⟩])
  (.seq (.seq (.rg [⟨none, some 4, .mv (.tmp 0)⟩,
    ⟨none, some 5, .bin .lss (.tmp 4) (.const (.int .i64 1))⟩,
    ⟨none, some 6, .mv (.tmp 5)⟩,
    ⟨some (6, false), some 7, .mv (.tmp 0)⟩,
    ⟨some (6, false), some 8, .bin .gtr (.tmp 7) (.const (.int .i64 60))⟩,
    ⟨none, some 9, .pick (.tmp 6) (.const (.bool true)) (.tmp 8)⟩])
  (.cond (.tmp 9) (.seq (.rg [⟨none, some 2, .mv (.const (.pointer none))⟩,
    ⟨none, some 3, .mv (.const (.int .i64 1))⟩])
  (.ret)) (.skip)))
  (.seq (.rg [⟨none, some 10, .mv (.tmp 0)⟩,
    ⟨none, some 11, .mop (.mk 0 5)⟩,
    ⟨none, some 12, .build [.p (.v (.int .i64 0)), .p (.v (.int .i64 0)), .p (.v (.map none))] [(0, 1, .tmp 10), (2, 1, .tmp 11)]⟩,
    ⟨none, some 13, .box 78 (.tmp 12)⟩,
    ⟨none, some 2, .mv (.tmp 13)⟩,
    ⟨none, some 3, .mv (.const (.int .i64 0))⟩])
  (.ret)))
theorem ac12_ok (q : Option (Nat × Nat)) : compF Go.Proofs.Try.prog Go.Proofs.Try.f12 (ac12 q) = some (ac12 q, [.tmp 2, .tmp 3]) := by kernel_rfl
def ac14 (q : Option (Nat × Nat)) : AC := .seq (.rg [⟨none, some 3, .box 26 (.tmp 0)⟩,
    ⟨none, some 4, .box 3 (.tmp 1)⟩,
    ⟨none, some 5, .box 34 (.tmp 2)⟩,
    ⟨none, some 6, .mv (.const (.int .i64 0))⟩])
  (.seq (.rg [⟨none, some 8, .load (.tmp 3)⟩,
    ⟨none, some 9, .mkfn (.func 39) [.tmp 8] []⟩,
    ⟨none, some 7, .mv (.tmp 9)⟩])
  (.seq (.rg [⟨none, some 10, .mv (.tmp 7)⟩,
    ⟨none, some 11, .load (.tmp 4)⟩,
    ⟨none, some 12, .mkfn (.func 40) [] [.tmp 5, .tmp 4, .tmp 3]⟩,
    ⟨none, some 13, .callv (.tmp 10) [.tmp 11, .tmp 12]⟩,
    ⟨none, some 6, .mv (.tmp 13)⟩])
  (.ret)))
theorem ac14_ok (q : Option (Nat × Nat)) : compF Go.Proofs.Try.prog Go.Proofs.Try.f14 (ac14 q) = some (ac14 q, [.tmp 6]) := by kernel_rfl
def ac16 (q : Option (Nat × Nat)) : AC := .seq (.rg [⟨none, some 4, .mv (.const (.int .i64 0))⟩])
  (.seq (.rg [⟨none, some 6, .mv (.tmp 0)⟩,
    ⟨none, some 7, .mkfn (.func 39) [.tmp 6] []⟩,
    ⟨none, some 5, .mv (.tmp 7)⟩])
  (.seq (.rg [⟨none, some 8, .mv (.tmp 5)⟩,
    ⟨none, some 9, .mv (.tmp 1)⟩,
    ⟨none, some 10, .callv (.tmp 8) [.tmp 9, .func 43]⟩,
    ⟨none, some 4, .mv (.tmp 10)⟩])
  (.ret)))
theorem ac16_ok (q : Option (Nat × Nat)) : compF Go.Proofs.Try.prog Go.Proofs.Try.f16 (ac16 q) = some (ac16 q, [.tmp 4]) := by kernel_rfl
def ac18_L0 (q : Option (Nat × Nat)) : AC := .seq (.rg [⟨none, some 15, .bin .lss (.tmp 14) (.tmp 13)⟩])
  (.seq (.cond (.tmp 15) (.skip) (.exit 0))
  (.seq (.blk 1 (.seq (.rg [⟨none, some 16, .idx 1 (.tmp 12) (.tmp 14)⟩,
    ⟨none, some 17, .load (.tmp 16)⟩,
    ⟨none, some 4, .mv (.tmp 17)⟩])
  (.rg [⟨none, some 18, .mv (.tmp 2)⟩,
    ⟨none, some 19, .mv (.tmp 0)⟩,
    ⟨none, some 20, .nilck (.tmp 19)⟩,
    ⟨none, some 21, .fieldA 2 (.tmp 20)⟩,
    ⟨none, some 22, .load (.tmp 21)⟩,
    ⟨none, some 23, .mv (.tmp 4)⟩,
    ⟨none, some 24, .mop (.look false 5 [.p (.v (.int .i64 0)), .p (.v (.int .u8 0)), .p (.v (.int .i64 0)), .p (.v (.int .i64 0))] (.tmp 22) (.tmp 23))⟩,
    ⟨none, some 25, .bslice false 50 1 4 [.p (.v (.int .i64 0)), .p (.v (.int .u8 0)), .p (.v (.int .i64 0)), .p (.v (.int .i64 0))] [(0, 4, .tmp 24)]⟩,
    ⟨none, some 26, .append 50 4 32 (.tmp 18) (.tmp 25)⟩,
    ⟨none, some 2, .mv (.tmp 26)⟩])))
  (.rg [⟨none, some 27, .bin .add (.tmp 14) (.const (.int .i64 1))⟩,
    ⟨none, some 14, .mv (.tmp 27)⟩])))
def ac18 (q : Option (Nat × Nat)) : AC := .seq (.rg [⟨none, some 2, .mv (.const (.slice none 0 0))⟩])
  (.seq (.seq (.rg [⟨none, some 5, .mv (.tmp 0)⟩,
    ⟨none, some 6, .eqP false (.tmp 5) (.const (.pointer none))⟩])
  (.cond (.tmp 6) (.seq (.rg [⟨none, some 2, .mv (.const (.slice none 0 0))⟩])
  (.ret)) (.skip)))
  (.seq (.seq (.rg [⟨none, some 7, .mv (.tmp 0)⟩,
    ⟨none, some 8, .nilck (.tmp 7)⟩,
    ⟨none, some 9, .fieldA 2 (.tmp 8)⟩,
    ⟨none, some 10, .load (.tmp 9)⟩,
    ⟨none, some 11, .call 45 [.tmp 10]⟩,
    ⟨none, some 12, .call 44 [.tmp 11]⟩,
    ⟨none, some 13, .len (.tmp 12)⟩,
    ⟨none, some 14, .mv (.const (.int .i64 0))⟩])
  (.blk 0 (.loop q [0, 2, 12, 13, 14] (ac18_L0 q))))
  (.seq (.rg [⟨none, some 28, .mv (.tmp 2)⟩,
    ⟨none, some 2, .mv (.tmp 28)⟩])
  (.ret))))
theorem ac18_ok (q : Option (Nat × Nat)) : compF Go.Proofs.Try.prog Go.Proofs.Try.f18 (ac18 q) = some (ac18 q, [.tmp 2]) := by kernel_rfl
def ac19_L0 (q : Option (Nat × Nat)) : AC := .seq (.rg [⟨none, some 32, .mop (.nxt 0 5 (.tmp 31))⟩,
    ⟨none, some 33, .extract (.tmp 32) 0⟩])
  (.seq (.cond (.tmp 33) (.skip) (.exit 0))
  (.blk 1 (.seq (.rg [⟨none, some 34, .mop (.ent 0 5 (.tmp 31))⟩,
    ⟨none, some 35, .extract (.tmp 34) 1⟩,
    ⟨none, some 9, .alloc 50 [.p (.v (.int .i64 0)), .p (.v (.int .u8 0)), .p (.v (.int .i64 0)), .p (.v (.int .i64 0))]⟩,
    ⟨none, none, .store 4 (.tmp 9) (.tmp 35)⟩])
  (.rg [⟨none, some 36, .fieldA 1 (.tmp 9)⟩,
    ⟨none, some 37, .load (.tmp 36)⟩,
    ⟨none, some 38, .idxA 3 1 (.tmp 7) (.tmp 37)⟩,
    ⟨none, none, .store 1 (.tmp 38) (.const (.bool true))⟩]))))
def ac19_L1 (q : Option (Nat × Nat)) : AC := .seq (.rg [⟨none, some 45, .bin .lss (.tmp 44) (.tmp 43)⟩])
  (.seq (.cond (.tmp 45) (.skip) (.exit 2))
  (.seq (.blk 3 (.seq (.rg [⟨none, some 46, .mv (.tmp 44)⟩,
    ⟨none, some 47, .idx 3 (.tmp 42) (.tmp 44)⟩,
    ⟨none, some 48, .loadA 3 (.tmp 47)⟩,
    ⟨none, some 12, .alloc 74 [.p (.v (.int .u8 0)), .p (.v (.int .i64 0)), .p (.v (.int .i64 0))]⟩,
    ⟨none, some 11, .mv (.tmp 46)⟩,
    ⟨none, none, .store 3 (.tmp 12) (.tmp 48)⟩])
  (.rg [⟨none, some 49, .mv (.tmp 10)⟩,
    ⟨none, some 50, .mv (.tmp 11)⟩,
    ⟨none, some 51, .mv (.tmp 11)⟩,
    ⟨none, some 52, .bin .eql (.tmp 51) (.const (.int .i64 0))⟩,
    ⟨none, some 53, .mv (.tmp 52)⟩,
    ⟨some (53, false), some 54, .fieldA 0 (.tmp 12)⟩,
    ⟨some (53, false), some 55, .load (.tmp 54)⟩,
    ⟨some (53, false), some 56, .idxA 3 1 (.tmp 7) (.tmp 55)⟩,
    ⟨some (53, false), some 57, .load (.tmp 56)⟩,
    ⟨some (53, false), some 58, .un .not (.tmp 57)⟩,
    ⟨none, some 59, .pick (.tmp 53) (.const (.bool true)) (.tmp 58)⟩,
    ⟨none, some 60, .idx 1 (.tmp 49) (.tmp 50)⟩,
    ⟨none, none, .store 1 (.tmp 60) (.tmp 59)⟩])))
  (.rg [⟨none, some 61, .bin .add (.tmp 44) (.const (.int .i64 1))⟩,
    ⟨none, some 44, .mv (.tmp 61)⟩])))
def ac19 (q : Option (Nat × Nat)) : AC := .seq (.rg [⟨none, some 4, .mv (.const (.slice none 0 0))⟩,
    ⟨none, some 5, .mv (.const (.int .i64 0))⟩])
  (.seq (.seq (.rg [⟨none, some 13, .mv (.tmp 0)⟩,
    ⟨none, some 14, .eqP false (.tmp 13) (.const (.pointer none))⟩,
    ⟨none, some 15, .mv (.tmp 14)⟩,
    ⟨some (15, false), some 16, .mv (.tmp 0)⟩,
    ⟨some (15, false), some 17, .nilck (.tmp 16)⟩,
    ⟨some (15, false), some 18, .fieldA 2 (.tmp 17)⟩,
    ⟨some (15, false), some 19, .load (.tmp 18)⟩,
    ⟨some (15, false), some 20, .mop (.eqN false (.tmp 19) (.const (.map none)))⟩,
    ⟨none, some 21, .pick (.tmp 15) (.const (.bool true)) (.tmp 20)⟩])
  (.cond (.tmp 21) (.seq (.rg [⟨none, some 4, .mv (.const (.slice none 0 0))⟩,
    ⟨none, some 5, .mv (.const (.int .i64 11))⟩])
  (.ret)) (.skip)))
  (.seq (.seq (.rg [⟨none, some 22, .mv (.tmp 1)⟩,
    ⟨none, some 23, .call 46 [.tmp 22]⟩,
    ⟨none, some 6, .mv (.tmp 23)⟩])
  (.seq (.rg [⟨none, some 24, .mv (.tmp 6)⟩,
    ⟨none, some 25, .bin .neq (.tmp 24) (.const (.int .i64 0))⟩])
  (.cond (.tmp 25) (.seq (.rg [⟨none, some 26, .mv (.tmp 6)⟩,
    ⟨none, some 4, .mv (.const (.slice none 0 0))⟩,
    ⟨none, some 5, .mv (.tmp 26)⟩])
  (.ret)) (.skip))))
  (.seq (.rg [⟨none, some 7, .alloc 89 [.p (.v (.bool false)), .p (.v (.bool false)), .p (.v (.bool false))]⟩])
  (.seq (.seq (.rg [⟨none, some 27, .mv (.tmp 0)⟩,
    ⟨none, some 28, .nilck (.tmp 27)⟩,
    ⟨none, some 29, .fieldA 2 (.tmp 28)⟩,
    ⟨none, some 30, .load (.tmp 29)⟩,
    ⟨none, some 31, .mop (.rng 0 5 (.tmp 30))⟩])
  (.blk 0 (.loop q [1, 7, 31] (ac19_L0 q))))
  (.seq (.rg [⟨none, some 39, .mv (.tmp 1)⟩,
    ⟨none, some 40, .len (.tmp 39)⟩,
    ⟨none, some 41, .mslice 4 1 1 [.p (.v (.bool false))] (.tmp 40) (.tmp 40)⟩,
    ⟨none, some 10, .mv (.tmp 41)⟩])
  (.seq (.seq (.rg [⟨none, some 42, .mv (.tmp 1)⟩,
    ⟨none, some 43, .len (.tmp 42)⟩,
    ⟨none, some 44, .mv (.const (.int .i64 0))⟩])
  (.blk 2 (.loop q [7, 10, 42, 43, 44] (ac19_L1 q))))
  (.seq (.rg [⟨none, some 62, .mv (.tmp 10)⟩,
    ⟨none, some 4, .mv (.tmp 62)⟩,
    ⟨none, some 5, .mv (.const (.int .i64 0))⟩])
  (.ret))))))))
theorem ac19_ok (q : Option (Nat × Nat)) : compF Go.Proofs.Try.prog Go.Proofs.Try.f19 (ac19 q) = some (ac19 q, [.tmp 4, .tmp 5]) := by kernel_rfl
def ac21_L0 (q : Option (Nat × Nat)) : AC := .seq (.seq (.rg [⟨none, some 11, .mv (.tmp 5)⟩,
    ⟨none, some 12, .mv (.tmp 0)⟩,
    ⟨none, some 13, .len (.tmp 12)⟩,
    ⟨none, some 14, .bin .lss (.tmp 11) (.tmp 13)⟩])
  (.cond (.tmp 14) (.skip) (.exit 0)))
  (.seq (.blk 1 (.seq (.dr [(false, [(0, 0), (1, 0), (2, 0), (3, 0), (4, 0), (5, 0), (6, 0), (7, 0)], [⟨none, some 17, .mv (.tmp 0)⟩,
    ⟨none, some 18, .mv (.tmp 5)⟩,
    ⟨none, some 19, .idx 4 (.tmp 17) (.tmp 18)⟩,
    ⟨none, some 20, .loadA 4 (.tmp 19)⟩,
    ⟨none, some 21, .mv (.tmp 1)⟩,
    ⟨none, some 22, .mv (.tmp 5)⟩,
    ⟨none, some 23, .idx 4 (.tmp 21) (.tmp 22)⟩,
    ⟨none, some 24, .loadA 4 (.tmp 23)⟩]),
   (true, [(8, 0)], [⟨none, some 25, .eqA [false, false, false, false] true (.tmp 20) (.tmp 24)⟩])])
  (.cond (.tmp 25) (.seq (.rg [⟨none, some 4, .mv (.const (.bool false))⟩])
  (.ret)) (.skip))))
  (.rg [⟨none, some 15, .mv (.tmp 5)⟩,
    ⟨none, some 16, .bin .add (.tmp 15) (.const (.int .i64 1))⟩,
    ⟨none, some 5, .mv (.tmp 16)⟩]))
def ac21 (q : Option (Nat × Nat)) : AC := .seq (.rg [⟨none, some 4, .mv (.const (.bool false))⟩])
  (.seq (.seq (.rg [⟨none, some 6, .mv (.tmp 0)⟩,
    ⟨none, some 7, .len (.tmp 6)⟩,
    ⟨none, some 8, .mv (.tmp 1)⟩,
    ⟨none, some 9, .len (.tmp 8)⟩,
    ⟨none, some 10, .bin .neq (.tmp 7) (.tmp 9)⟩])
  (.cond (.tmp 10) (.seq (.rg [⟨none, some 4, .mv (.const (.bool false))⟩])
  (.ret)) (.skip)))
  (.seq (.seq (.rg [⟨none, some 5, .mv (.const (.int .i64 0))⟩])
  (.blk 0 (.loop q [0, 1, 5] (ac21_L0 q))))
  (.seq (.rg [⟨none, some 4, .mv (.const (.bool true))⟩])
  (.ret))))
theorem ac21_ok (q : Option (Nat × Nat)) : compF Go.Proofs.Try.prog Go.Proofs.Try.f21 (ac21 q) = some (ac21 q, [.tmp 4]) := by kernel_rfl
def ac22_L0 (q : Option (Nat × Nat)) : AC := .seq (.seq (.rg [⟨none, some 11, .mv (.tmp 5)⟩,
    ⟨none, some 12, .mv (.tmp 0)⟩,
    ⟨none, some 13, .len (.tmp 12)⟩,
    ⟨none, some 14, .bin .lss (.tmp 11) (.tmp 13)⟩])
  (.cond (.tmp 14) (.skip) (.exit 0)))
  (.seq (.blk 1 (.seq (.dr [(false, [(0, 0), (1, 0), (2, 0), (3, 0), (4, 0), (5, 0), (6, 0), (7, 0)], [⟨none, some 17, .mv (.tmp 0)⟩,
    ⟨none, some 18, .mv (.tmp 5)⟩,
    ⟨none, some 19, .idx 1 (.tmp 17) (.tmp 18)⟩,
    ⟨none, some 20, .load (.tmp 19)⟩,
    ⟨none, some 21, .mv (.tmp 1)⟩,
    ⟨none, some 22, .mv (.tmp 5)⟩,
    ⟨none, some 23, .idx 1 (.tmp 21) (.tmp 22)⟩,
    ⟨none, some 24, .load (.tmp 23)⟩]),
   (true, [(8, 0)], [⟨none, some 25, .binB true (.tmp 20) (.tmp 24)⟩])])
  (.cond (.tmp 25) (.seq (.rg [⟨none, some 4, .mv (.const (.bool false))⟩])
  (.ret)) (.skip))))
  (.rg [⟨none, some 15, .mv (.tmp 5)⟩,
    ⟨none, some 16, .bin .add (.tmp 15) (.const (.int .i64 1))⟩,
    ⟨none, some 5, .mv (.tmp 16)⟩]))
def ac22 (q : Option (Nat × Nat)) : AC := .seq (.rg [⟨none, some 4, .mv (.const (.bool false))⟩])
  (.seq (.seq (.rg [⟨none, some 6, .mv (.tmp 0)⟩,
    ⟨none, some 7, .len (.tmp 6)⟩,
    ⟨none, some 8, .mv (.tmp 1)⟩,
    ⟨none, some 9, .len (.tmp 8)⟩,
    ⟨none, some 10, .bin .neq (.tmp 7) (.tmp 9)⟩])
  (.cond (.tmp 10) (.seq (.rg [⟨none, some 4, .mv (.const (.bool false))⟩])
  (.ret)) (.skip)))
  (.seq (.seq (.rg [⟨none, some 5, .mv (.const (.int .i64 0))⟩])
  (.blk 0 (.loop q [0, 1, 5] (ac22_L0 q))))
  (.seq (.rg [⟨none, some 4, .mv (.const (.bool true))⟩])
  (.ret))))
theorem ac22_ok (q : Option (Nat × Nat)) : compF Go.Proofs.Try.prog Go.Proofs.Try.f22 (ac22 q) = some (ac22 q, [.tmp 4]) := by kernel_rfl
def ac23 (q : Option (Nat × Nat)) : AC := .seq (.rg [⟨none, some 4, .mv (.const (.int .u8 0))⟩])
  (.seq (.seq (.rg [⟨none, some 5, .mv (.tmp 0)⟩,
    ⟨none, some 6, .eqP false (.tmp 5) (.const (.pointer none))⟩])
  (.cond (.tmp 6) (.seq (.rg [⟨none, some 4, .mv (.const (.int .u8 0))⟩])
  (.ret)) (.skip)))
  (.seq (.rg [⟨none, some 7, .mv (.tmp 0)⟩,
    ⟨none, some 8, .nilck (.tmp 7)⟩,
    ⟨none, some 9, .fieldA 2 (.tmp 8)⟩,
    ⟨none, some 10, .load (.tmp 9)⟩,
    ⟨none, some 11, .mv (.tmp 1)⟩,
    ⟨none, some 12, .mop (.look false 5 [.p (.v (.int .i64 0)), .p (.v (.int .u8 0)), .p (.v (.int .i64 0)), .p (.v (.int .i64 0))] (.tmp 10) (.tmp 11))⟩,
    ⟨none, some 13, .field 1 none (.tmp 12)⟩,
    ⟨none, some 4, .mv (.tmp 13)⟩])
  (.ret)))
theorem ac23_ok (q : Option (Nat × Nat)) : compF Go.Proofs.Try.prog Go.Proofs.Try.f23 (ac23 q) = some (ac23 q, [.tmp 4]) := by kernel_rfl
def ac29 (q : Option (Nat × Nat)) : AC := .seq (.rg [⟨none, some 1, .box 34 (.tmp 0)⟩,
    ⟨none, some 2, .mv (.const (.slice none 0 0))⟩,
    ⟨none, some 3, .mv (.const (.int .i64 0))⟩])
  (.seq (.seq (.rg [⟨none, some 8, .loadA 4 (.tmp 1)⟩,
    ⟨none, some 9, .call 31 [.tmp 8]⟩,
    ⟨none, some 4, .mv (.tmp 9)⟩])
  (.seq (.rg [⟨none, some 10, .mv (.tmp 4)⟩,
    ⟨none, some 11, .bin .neq (.tmp 10) (.const (.int .i64 0))⟩])
  (.cond (.tmp 11) (.seq (.rg [⟨none, some 12, .mv (.tmp 4)⟩,
    ⟨none, some 2, .mv (.const (.slice none 0 0))⟩,
    ⟨none, some 3, .mv (.tmp 12)⟩])
  (.ret)) (.skip))))
  (.seq (.rg [⟨none, some 13, .mslice 5 1 1 [.p (.v (.int .u8 0))] (.const (.int .i64 56)) (.const (.int .i64 56))⟩,
    ⟨none, some 5, .alloc 54 [.p (.sl (some true) 0 [])]⟩,
    ⟨none, none, .store 1 (.tmp 5) (.tmp 13)⟩])
  (.seq (.rg [⟨none, some 6, .alloc 3 [.p (.v (.int .i64 0))]⟩,
    ⟨none, none, .store 1 (.tmp 6) (.const (.int .i64 0))⟩])
  (.seq (.rg [⟨none, some 14, .mkfn (.func 51) [] [.tmp 5, .tmp 6]⟩,
    ⟨none, some 7, .mv (.tmp 14)⟩])
  (.seq (.rg [⟨none, some 15, .mv (.tmp 7)⟩,
    ⟨none, some 16, .fieldA 0 (.tmp 1)⟩,
    ⟨none, some 17, .load (.tmp 16)⟩,
    ⟨none, some 18, .callv (.tmp 15) [.const (.int .i64 24), .tmp 17]⟩])
  (.seq (.rg [⟨none, some 19, .mv (.tmp 7)⟩,
    ⟨none, some 20, .fieldA 2 (.tmp 1)⟩,
    ⟨none, some 21, .load (.tmp 20)⟩,
    ⟨none, some 22, .conv .i64 (.tmp 21)⟩,
    ⟨none, some 23, .callv (.tmp 19) [.const (.int .i64 2), .tmp 22]⟩])
  (.seq (.rg [⟨none, some 24, .mv (.tmp 7)⟩,
    ⟨none, some 25, .fieldA 3 (.tmp 1)⟩,
    ⟨none, some 26, .load (.tmp 25)⟩,
    ⟨none, some 27, .callv (.tmp 24) [.const (.int .i64 20), .tmp 26]⟩])
  (.seq (.rg [⟨none, some 28, .load (.tmp 5)⟩,
    ⟨none, some 2, .mv (.tmp 28)⟩,
    ⟨none, some 3, .mv (.const (.int .i64 0))⟩])
  (.ret)))))))))
theorem ac29_ok (q : Option (Nat × Nat)) : compF Go.Proofs.Try.prog Go.Proofs.Try.f29 (ac29 q) = some (ac29 q, [.tmp 2, .tmp 3]) := by kernel_rfl
def ac30 (q : Option (Nat × Nat)) : AC := .seq (.rg [⟨none, some 2, .box 54 (.tmp 0)⟩,
    ⟨none, some 4, .alloc 34 [.p (.v (.int .i64 0)), .p (.v (.int .i64 0)), .p (.v (.int .u8 0)), .p (.v (.int .i64 0))]⟩,
    ⟨none, some 5, .mv (.const (.int .i64 0))⟩])
  (.seq (.blk 0 (.seq (.rg [⟨none, some 11, .load (.tmp 2)⟩,
    ⟨none, some 12, .len (.tmp 11)⟩,
    ⟨none, some 13, .bin .lss (.tmp 12) (.const (.int .i64 56))⟩,
    ⟨none, some 10, .mv (.tmp 13)⟩])
  (.cond (.tmp 10) (.seq (.rg [⟨none, some 14, .build [.p (.v (.int .i64 0)), .p (.v (.int .i64 0)), .p (.v (.int .u8 0)), .p (.v (.int .i64 0))] []⟩,
    ⟨none, none, .store 4 (.tmp 4) (.tmp 14)⟩,
    ⟨none, some 5, .mv (.const (.int .i64 3))⟩])
  (.ret)) (.seq (.rg [⟨none, some 16, .load (.tmp 2)⟩,
    ⟨none, some 17, .len (.tmp 16)⟩,
    ⟨none, some 18, .bin .gtr (.tmp 17) (.const (.int .i64 56))⟩,
    ⟨none, some 15, .mv (.tmp 18)⟩])
  (.cond (.tmp 15) (.seq (.rg [⟨none, some 19, .build [.p (.v (.int .i64 0)), .p (.v (.int .i64 0)), .p (.v (.int .u8 0)), .p (.v (.int .i64 0))] []⟩,
    ⟨none, none, .store 4 (.tmp 4) (.tmp 19)⟩,
    ⟨none, some 5, .mv (.const (.int .i64 4))⟩])
  (.ret)) (.seq (.rg [⟨none, some 21, .load (.tmp 2)⟩,
    ⟨none, some 22, .call 53 [.tmp 21]⟩,
    ⟨none, some 23, .bin .neq (.tmp 22) (.const (.int .i64 0))⟩,
    ⟨none, some 20, .mv (.tmp 23)⟩])
  (.cond (.tmp 20) (.seq (.rg [⟨none, some 24, .build [.p (.v (.int .i64 0)), .p (.v (.int .i64 0)), .p (.v (.int .u8 0)), .p (.v (.int .i64 0))] []⟩,
    ⟨none, none, .store 4 (.tmp 4) (.tmp 24)⟩,
    ⟨none, some 5, .mv (.const (.int .i64 2))⟩])
  (.ret)) (.skip))))))))
  (.seq (.rg [⟨none, some 6, .alloc 3 [.p (.v (.int .i64 0))]⟩,
    ⟨none, none, .store 1 (.tmp 6) (.const (.int .i64 0))⟩])
  (.seq (.rg [⟨none, some 25, .mkfn (.func 54) [] [.tmp 2, .tmp 6]⟩,
    ⟨none, some 7, .mv (.tmp 25)⟩])
  (.seq (.rg [⟨none, some 26, .mv (.tmp 1)⟩,
    ⟨none, some 27, .build [.p (.v (.int .i64 0)), .p (.v (.int .i64 0)), .p (.v (.int .u8 0)), .p (.v (.int .i64 0))] [(1, 1, .tmp 26)]⟩,
    ⟨none, some 8, .alloc 34 [.p (.v (.int .i64 0)), .p (.v (.int .i64 0)), .p (.v (.int .u8 0)), .p (.v (.int .i64 0))]⟩,
    ⟨none, none, .store 4 (.tmp 8) (.tmp 27)⟩])
  (.seq (.rg [⟨none, some 28, .mv (.tmp 7)⟩,
    ⟨none, some 29, .callv (.tmp 28) [.const (.int .i64 24)]⟩,
    ⟨none, some 30, .mv (.tmp 7)⟩,
    ⟨none, some 31, .callv (.tmp 30) [.const (.int .i64 2)]⟩,
    ⟨none, some 32, .conv .u8 (.tmp 31)⟩,
    ⟨none, some 33, .mv (.tmp 7)⟩,
    ⟨none, some 34, .callv (.tmp 33) [.const (.int .i64 20)]⟩,
    ⟨none, some 35, .fieldA 0 (.tmp 8)⟩,
    ⟨none, none, .store 1 (.tmp 35) (.tmp 29)⟩,
    ⟨none, some 36, .fieldA 2 (.tmp 8)⟩,
    ⟨none, none, .store 1 (.tmp 36) (.tmp 32)⟩,
    ⟨none, some 37, .fieldA 3 (.tmp 8)⟩,
    ⟨none, none, .store 1 (.tmp 37) (.tmp 34)⟩])
  (.seq (.seq (.rg [⟨none, some 38, .mv (.tmp 7)⟩,
    ⟨none, some 39, .load (.tmp 6)⟩,
    ⟨none, some 40, .bin .sub (.const (.int .i64 56)) (.tmp 39)⟩,
    ⟨none, some 41, .callv (.tmp 38) [.tmp 40]⟩,
    ⟨none, some 42, .bin .neq (.tmp 41) (.const (.int .i64 0))⟩])
  (.cond (.tmp 42) (.seq (.rg [⟨none, some 43, .build [.p (.v (.int .i64 0)), .p (.v (.int .i64 0)), .p (.v (.int .u8 0)), .p (.v (.int .i64 0))] []⟩,
    ⟨none, none, .store 4 (.tmp 4) (.tmp 43)⟩,
    ⟨none, some 5, .mv (.const (.int .i64 2))⟩])
  (.ret)) (.skip)))
  (.seq (.seq (.rg [⟨none, some 44, .loadA 4 (.tmp 8)⟩,
    ⟨none, some 45, .call 31 [.tmp 44]⟩,
    ⟨none, some 9, .mv (.tmp 45)⟩])
  (.seq (.rg [⟨none, some 46, .mv (.tmp 9)⟩,
    ⟨none, some 47, .bin .neq (.tmp 46) (.const (.int .i64 0))⟩])
  (.cond (.tmp 47) (.seq (.rg [⟨none, some 48, .build [.p (.v (.int .i64 0)), .p (.v (.int .i64 0)), .p (.v (.int .u8 0)), .p (.v (.int .i64 0))] []⟩,
    ⟨none, some 49, .mv (.tmp 9)⟩,
    ⟨none, none, .store 4 (.tmp 4) (.tmp 48)⟩,
    ⟨none, some 5, .mv (.tmp 49)⟩])
  (.ret)) (.skip))))
  (.seq (.rg [⟨none, some 50, .loadA 4 (.tmp 8)⟩,
    ⟨none, none, .store 4 (.tmp 4) (.tmp 50)⟩,
    ⟨none, some 5, .mv (.const (.int .i64 0))⟩])
  (.ret)))))))))
theorem ac30_ok (q : Option (Nat × Nat)) : compF Go.Proofs.Try.prog Go.Proofs.Try.f30 (ac30 q) = some (ac30 q, [.cell 4 (some 4), .tmp 5]) := by kernel_rfl
def ac31 (q : Option (Nat × Nat)) : AC := .seq (.rg [⟨none, some 1, .box 34 (.tmp 0)⟩,
    ⟨none, some 2, .mv (.const (.int .i64 0))⟩])
  (.seq (.rg [⟨none, some 3, .mv (.func 56)⟩])
  (.seq (.blk 0 (.seq (.rg [⟨none, some 5, .mv (.tmp 3)⟩,
    ⟨none, some 6, .fieldA 0 (.tmp 1)⟩,
    ⟨none, some 7, .load (.tmp 6)⟩,
    ⟨none, some 8, .callv (.tmp 5) [.tmp 7]⟩,
    ⟨none, some 9, .mv (.tmp 8)⟩,
    ⟨some (9, false), some 10, .mv (.tmp 3)⟩,
    ⟨some (9, false), some 11, .fieldA 1 (.tmp 1)⟩,
    ⟨some (9, false), some 12, .load (.tmp 11)⟩,
    ⟨some (9, false), some 13, .callv (.tmp 10) [.tmp 12]⟩,
    ⟨none, some 14, .pick (.tmp 9) (.const (.bool true)) (.tmp 13)⟩,
    ⟨none, some 15, .mv (.tmp 14)⟩,
    ⟨some (15, false), some 16, .fieldA 0 (.tmp 1)⟩,
    ⟨some (15, false), some 17, .load (.tmp 16)⟩,
    ⟨some (15, false), some 18, .fieldA 1 (.tmp 1)⟩,
    ⟨some (15, false), some 19, .load (.tmp 18)⟩,
    ⟨some (15, false), some 20, .bin .eql (.tmp 17) (.tmp 19)⟩,
    ⟨none, some 21, .pick (.tmp 15) (.const (.bool true)) (.tmp 20)⟩,
    ⟨none, some 4, .mv (.tmp 21)⟩])
  (.cond (.tmp 4) (.seq (.rg [⟨none, some 2, .mv (.const (.int .i64 1))⟩])
  (.ret)) (.seq (.rg [⟨none, some 23, .fieldA 2 (.tmp 1)⟩,
    ⟨none, some 24, .load (.tmp 23)⟩,
    ⟨none, some 25, .bin .gtr (.tmp 24) (.const (.int .u8 2))⟩,
    ⟨none, some 22, .mv (.tmp 25)⟩])
  (.cond (.tmp 22) (.seq (.rg [⟨none, some 2, .mv (.const (.int .i64 6))⟩])
  (.ret)) (.seq (.rg [⟨none, some 27, .fieldA 3 (.tmp 1)⟩,
    ⟨none, some 28, .load (.tmp 27)⟩,
    ⟨none, some 29, .bin .lss (.tmp 28) (.const (.int .i64 1))⟩,
    ⟨none, some 30, .mv (.tmp 29)⟩,
    ⟨some (30, false), some 31, .fieldA 3 (.tmp 1)⟩,
    ⟨some (30, false), some 32, .load (.tmp 31)⟩,
    ⟨some (30, false), some 33, .bin .gtr (.tmp 32) (.const (.int .i64 1048575))⟩,
    ⟨none, some 34, .pick (.tmp 30) (.const (.bool true)) (.tmp 33)⟩,
    ⟨none, some 26, .mv (.tmp 34)⟩])
  (.cond (.tmp 26) (.seq (.rg [⟨none, some 2, .mv (.const (.int .i64 1))⟩])
  (.ret)) (.skip))))))))
  (.seq (.rg [⟨none, some 2, .mv (.const (.int .i64 0))⟩])
  (.ret))))
theorem ac31_ok (q : Option (Nat × Nat)) : compF Go.Proofs.Try.prog Go.Proofs.Try.f31 (ac31 q) = some (ac31 q, [.tmp 2]) := by kernel_rfl
def ac33 (q : Option (Nat × Nat)) : AC := .seq (.rg [⟨none, some 4, .mv (.const (.bool false))⟩])
  (.seq (.rg [⟨none, some 5, .mv (.tmp 0)⟩,
    ⟨none, some 6, .mv (.tmp 1)⟩,
    ⟨none, some 7, .call 57 [.tmp 5, .tmp 6]⟩,
    ⟨none, some 4, .mv (.tmp 7)⟩])
  (.ret))
theorem ac33_ok (q : Option (Nat × Nat)) : compF Go.Proofs.Try.prog Go.Proofs.Try.f33 (ac33 q) = some (ac33 q, [.tmp 4]) := by kernel_rfl
def ac37 (q : Option (Nat × Nat)) : AC := .seq (.rg [⟨none, some 4, .alloc 34 [.p (.v (.int .i64 0)), .p (.v (.int .i64 0)), .p (.v (.int .u8 0)), .p (.v (.int .i64 0))]⟩])
  (.seq (.rg [⟨none, some 5, .mv (.tmp 0)⟩,
    ⟨none, some 6, .mv (.tmp 1)⟩,
    ⟨none, some 7, .build [.p (.v (.int .i64 0)), .p (.v (.int .i64 0)), .p (.v (.int .u8 0)), .p (.v (.int .i64 0))] [(0, 1, .const (.int .i64 7)), (1, 1, .const (.int .i64 9)), (2, 1, .tmp 5), (3, 1, .tmp 6)]⟩,
    ⟨none, none, .store 4 (.tmp 4) (.tmp 7)⟩])
  (.ret))
theorem ac37_ok (q : Option (Nat × Nat)) : compF Go.Proofs.Try.prog Go.Proofs.Try.f37 (ac37 q) = some (ac37 q, [.cell 4 (some 4)]) := by kernel_rfl
def ac39 (q : Option (Nat × Nat)) : AC := .seq (.rg [⟨none, some 6, .mv (.const (.int .i64 0))⟩])
  (.seq (.blk 0 (.seq (.rg [⟨none, some 10, .mv (.tmp 0)⟩,
    ⟨none, some 11, .eqP false (.tmp 10) (.const (.pointer none))⟩,
    ⟨none, some 12, .mv (.tmp 11)⟩,
    ⟨some (12, false), some 13, .mv (.tmp 0)⟩,
    ⟨some (12, false), some 14, .nilck (.tmp 13)⟩,
    ⟨some (12, false), some 15, .fieldA 2 (.tmp 14)⟩,
    ⟨some (12, false), some 16, .load (.tmp 15)⟩,
    ⟨some (12, false), some 17, .mop (.eqN false (.tmp 16) (.const (.map none)))⟩,
    ⟨none, some 18, .pick (.tmp 12) (.const (.bool true)) (.tmp 17)⟩,
    ⟨none, some 9, .mv (.tmp 18)⟩])
  (.cond (.tmp 9) (.seq (.rg [⟨none, some 6, .mv (.const (.int .i64 11))⟩])
  (.ret)) (.seq (.rg [⟨none, some 20, .mv (.tmp 1)⟩,
    ⟨none, some 21, .bin .lss (.tmp 20) (.const (.int .i64 0))⟩,
    ⟨none, some 22, .mv (.tmp 21)⟩,
    ⟨some (22, false), some 23, .mv (.tmp 1)⟩,
    ⟨some (22, false), some 24, .bin .gtr (.tmp 23) (.const (.int .i64 1099511627776))⟩,
    ⟨none, some 25, .pick (.tmp 22) (.const (.bool true)) (.tmp 24)⟩,
    ⟨none, some 19, .mv (.tmp 25)⟩])
  (.cond (.tmp 19) (.seq (.rg [⟨none, some 6, .mv (.const (.int .i64 1))⟩])
  (.ret)) (.seq (.rg [⟨none, some 27, .mv (.tmp 1)⟩,
    ⟨none, some 28, .mv (.tmp 0)⟩,
    ⟨none, some 29, .nilck (.tmp 28)⟩,
    ⟨none, some 30, .fieldA 1 (.tmp 29)⟩,
    ⟨none, some 31, .load (.tmp 30)⟩,
    ⟨none, some 32, .bin .lss (.tmp 27) (.tmp 31)⟩,
    ⟨none, some 26, .mv (.tmp 32)⟩])
  (.cond (.tmp 26) (.seq (.rg [⟨none, some 6, .mv (.const (.int .i64 12))⟩])
  (.ret)) (.skip))))))))
  (.seq (.rg [⟨none, some 33, .mv (.tmp 0)⟩,
    ⟨none, some 34, .mv (.tmp 1)⟩,
    ⟨none, some 35, .call 59 [.tmp 33, .tmp 34]⟩,
    ⟨none, some 7, .mv (.tmp 35)⟩])
  (.seq (.seq (.rg [⟨none, some 36, .mv (.tmp 2)⟩,
    ⟨none, some 37, .mv (.tmp 7)⟩,
    ⟨none, some 38, .callv (.tmp 36) [.tmp 37]⟩,
    ⟨none, some 8, .mv (.tmp 38)⟩])
  (.seq (.rg [⟨none, some 39, .mv (.tmp 8)⟩,
    ⟨none, some 40, .bin .neq (.tmp 39) (.const (.int .i64 0))⟩])
  (.cond (.tmp 40) (.seq (.rg [⟨none, some 41, .mv (.tmp 8)⟩,
    ⟨none, some 6, .mv (.tmp 41)⟩])
  (.ret)) (.skip))))
  (.seq (.rg [⟨none, some 42, .mv (.tmp 0)⟩,
    ⟨none, some 43, .mv (.tmp 0)⟩,
    ⟨none, some 44, .mv (.tmp 7)⟩,
    ⟨none, some 45, .mv (.tmp 1)⟩,
    ⟨none, some 46, .nilck (.tmp 42)⟩,
    ⟨none, some 47, .fieldA 2 (.tmp 46)⟩,
    ⟨none, none, .store 1 (.tmp 47) (.tmp 44)⟩,
    ⟨none, some 48, .nilck (.tmp 43)⟩,
    ⟨none, some 49, .fieldA 1 (.tmp 48)⟩,
    ⟨none, none, .store 1 (.tmp 49) (.tmp 45)⟩])
  (.seq (.rg [⟨none, some 6, .mv (.const (.int .i64 0))⟩])
  (.ret))))))
theorem ac39_ok (q : Option (Nat × Nat)) : compF Go.Proofs.Try.prog Go.Proofs.Try.f39 (ac39 q) = some (ac39 q, [.tmp 6]) := by kernel_rfl
end Go.Ab
