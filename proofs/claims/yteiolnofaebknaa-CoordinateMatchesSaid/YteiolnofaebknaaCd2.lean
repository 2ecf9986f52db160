/- The codes of functions of this seat, as annotated, compared with the program by the kernel. No conditions. -/
import Derived.Test.YteiolnofaebknaaProg
import Derived.Test.YteiolnofaebknaaAbB
import Derived.Test.YteiolnofaebknaaCd1
namespace Go.Ab
/- clearway clearwayref34.Say -/
def ac16 : AC := .seq (.rg [⟨none, some 1, .box 23 (.tmp 0)⟩,
    ⟨none, some 2, .alloc 25 [.p (.v (.int .i64 0)), .p (.v (.int .i64 0)), .p (.v (.int .u8 0)), .p (.v (.int .i64 0))]⟩,
    ⟨none, some 3, .mv (.const (.int .i64 0))⟩])
  (.seq (.rg [⟨none, some 5, .loadA 6 (.tmp 1)⟩,
    ⟨none, some 6, .call 20 [.tmp 5]⟩,
    ⟨none, some 4, .mv (.tmp 6)⟩])
  (.seq (.seq (.rg [⟨none, some 7, .mv (.tmp 4)⟩,
    ⟨none, some 8, .bin .neq (.tmp 7) (.const (.int .i64 0))⟩])
  (.cond (.tmp 8) (.seq (.rg [⟨none, some 9, .build [.p (.v (.int .i64 0)), .p (.v (.int .i64 0)), .p (.v (.int .u8 0)), .p (.v (.int .i64 0))] []⟩,
    ⟨none, some 10, .mv (.tmp 4)⟩,
    ⟨none, none, .store 4 (.tmp 2) (.tmp 9)⟩,
    ⟨none, some 3, .mv (.tmp 10)⟩])
  (.ret)) (.skip)))
  (.seq (.seq (.rg [⟨none, some 11, .fieldA 3 (.tmp 1)⟩,
    ⟨none, some 12, .load (.tmp 11)⟩,
    ⟨none, some 13, .bin .eql (.tmp 12) (.const (.int .i64 0))⟩])
  (.cond (.tmp 13) (.seq (.rg [⟨none, some 14, .build [.p (.v (.int .i64 0)), .p (.v (.int .i64 0)), .p (.v (.int .u8 0)), .p (.v (.int .i64 0))] []⟩,
    ⟨none, none, .store 4 (.tmp 2) (.tmp 14)⟩,
    ⟨none, some 3, .mv (.const (.int .i64 9))⟩])
  (.ret)) (.skip)))
  (.seq (.rg [⟨none, some 15, .fieldA 0 (.tmp 1)⟩,
    ⟨none, some 16, .load (.tmp 15)⟩,
    ⟨none, some 17, .fieldA 1 (.tmp 1)⟩,
    ⟨none, some 18, .load (.tmp 17)⟩,
    ⟨none, some 19, .fieldA 2 (.tmp 1)⟩,
    ⟨none, some 20, .load (.tmp 19)⟩,
    ⟨none, some 21, .fieldA 3 (.tmp 1)⟩,
    ⟨none, some 22, .load (.tmp 21)⟩,
    ⟨none, some 23, .build [.p (.v (.int .i64 0)), .p (.v (.int .i64 0)), .p (.v (.int .u8 0)), .p (.v (.int .i64 0))] [(0, 1, .tmp 16), (1, 1, .tmp 18), (2, 1, .tmp 20), (3, 1, .tmp 22)]⟩,
    ⟨none, none, .store 4 (.tmp 2) (.tmp 23)⟩,
    ⟨none, some 3, .mv (.const (.int .i64 0))⟩])
  (.ret)))))
theorem ac16_ok : compF Go.Proofs.Try.prog Go.Proofs.Try.f16 ac16 = some (ac16, [.cell 2 (some 4), .tmp 3]) := by kernel_rfl

/- clearway coordinate.New -/
def ac17 : AC := .seq (.rg [⟨none, some 4, .alloc 23 [.p (.v (.int .i64 0)), .p (.v (.int .i64 0)), .p (.v (.int .u8 0)), .p (.v (.int .i64 0)), .p (.v (.int .u8 0)), .p (.v (.int .i64 0))]⟩,
    ⟨none, some 5, .mv (.const (.int .i64 0))⟩])
  (.seq (.rg [⟨none, some 8, .mv (.tmp 0)⟩,
    ⟨none, some 9, .mv (.tmp 1)⟩,
    ⟨none, some 10, .build [.p (.v (.int .i64 0)), .p (.v (.int .i64 0)), .p (.v (.int .u8 0)), .p (.v (.int .i64 0)), .p (.v (.int .u8 0)), .p (.v (.int .i64 0))] [(0, 1, .tmp 8), (1, 1, .tmp 9)]⟩,
    ⟨none, some 6, .alloc 23 [.p (.v (.int .i64 0)), .p (.v (.int .i64 0)), .p (.v (.int .u8 0)), .p (.v (.int .i64 0)), .p (.v (.int .u8 0)), .p (.v (.int .i64 0))]⟩,
    ⟨none, none, .store 6 (.tmp 6) (.tmp 10)⟩])
  (.seq (.seq (.rg [⟨none, some 11, .loadA 6 (.tmp 6)⟩,
    ⟨none, some 12, .call 19 [.tmp 11]⟩,
    ⟨none, some 7, .mv (.tmp 12)⟩])
  (.seq (.rg [⟨none, some 13, .mv (.tmp 7)⟩,
    ⟨none, some 14, .bin .neq (.tmp 13) (.const (.int .i64 0))⟩])
  (.cond (.tmp 14) (.seq (.rg [⟨none, some 15, .build [.p (.v (.int .i64 0)), .p (.v (.int .i64 0)), .p (.v (.int .u8 0)), .p (.v (.int .i64 0)), .p (.v (.int .u8 0)), .p (.v (.int .i64 0))] []⟩,
    ⟨none, some 16, .mv (.tmp 7)⟩,
    ⟨none, none, .store 6 (.tmp 4) (.tmp 15)⟩,
    ⟨none, some 5, .mv (.tmp 16)⟩])
  (.ret)) (.skip))))
  (.seq (.rg [⟨none, some 17, .loadA 6 (.tmp 6)⟩,
    ⟨none, none, .store 6 (.tmp 4) (.tmp 17)⟩,
    ⟨none, some 5, .mv (.const (.int .i64 0))⟩])
  (.ret))))
theorem ac17_ok : compF Go.Proofs.Try.prog Go.Proofs.Try.f17 ac17 = some (ac17, [.cell 4 (some 6), .tmp 5]) := by kernel_rfl

/- clearway clearwayref34.New -/
def ac18 : AC := .seq (.rg [⟨none, some 4, .alloc 23 [.p (.v (.int .i64 0)), .p (.v (.int .i64 0)), .p (.v (.int .u8 0)), .p (.v (.int .i64 0)), .p (.v (.int .u8 0)), .p (.v (.int .i64 0))]⟩,
    ⟨none, some 5, .mv (.const (.int .i64 0))⟩])
  (.seq (.seq (.rg [⟨none, some 6, .mv (.tmp 0)⟩,
    ⟨none, some 7, .mv (.tmp 1)⟩,
    ⟨none, some 8, .call 38 [.tmp 6, .tmp 7]⟩,
    ⟨none, some 9, .un .not (.tmp 8)⟩])
  (.cond (.tmp 9) (.seq (.rg [⟨none, some 10, .build [.p (.v (.int .i64 0)), .p (.v (.int .i64 0)), .p (.v (.int .u8 0)), .p (.v (.int .i64 0)), .p (.v (.int .u8 0)), .p (.v (.int .i64 0))] []⟩,
    ⟨none, none, .store 6 (.tmp 4) (.tmp 10)⟩,
    ⟨none, some 5, .mv (.const (.int .i64 1))⟩])
  (.ret)) (.skip)))
  (.seq (.rg [⟨none, some 11, .mv (.tmp 0)⟩,
    ⟨none, some 12, .mv (.tmp 1)⟩,
    ⟨none, some 13, .build [.p (.v (.int .i64 0)), .p (.v (.int .i64 0)), .p (.v (.int .u8 0)), .p (.v (.int .i64 0)), .p (.v (.int .u8 0)), .p (.v (.int .i64 0))] [(0, 1, .tmp 11), (1, 1, .tmp 12)]⟩,
    ⟨none, none, .store 6 (.tmp 4) (.tmp 13)⟩,
    ⟨none, some 5, .mv (.const (.int .i64 0))⟩])
  (.ret)))
theorem ac18_ok : compF Go.Proofs.Try.prog Go.Proofs.Try.f18 ac18 = some (ac18, [.cell 4 (some 6), .tmp 5]) := by kernel_rfl

/- clearway coordinate.Check -/
def ac19 : AC := .seq (.rg [⟨none, some 1, .box 23 (.tmp 0)⟩,
    ⟨none, some 2, .mv (.const (.int .i64 0))⟩])
  (.seq (.rg [⟨none, some 3, .mv (.func 39)⟩])
  (.seq (.blk 0 (.seq (.rg [⟨none, some 5, .mv (.tmp 3)⟩,
    ⟨none, some 6, .fieldA 0 (.tmp 1)⟩,
    ⟨none, some 7, .load (.tmp 6)⟩,
    ⟨none, some 8, .callv (.tmp 5) [.tmp 7, .const (.int .i64 16777215)]⟩,
    ⟨none, some 9, .mv (.tmp 8)⟩,
    ⟨some (9, false), some 10, .mv (.tmp 3)⟩,
    ⟨some (9, false), some 11, .fieldA 1 (.tmp 1)⟩,
    ⟨some (9, false), some 12, .load (.tmp 11)⟩,
    ⟨some (9, false), some 13, .callv (.tmp 10) [.tmp 12, .const (.int .i64 16777215)]⟩,
    ⟨none, some 14, .pick (.tmp 9) (.const (.bool true)) (.tmp 13)⟩,
    ⟨none, some 15, .mv (.tmp 14)⟩,
    ⟨some (15, false), some 16, .fieldA 0 (.tmp 1)⟩,
    ⟨some (15, false), some 17, .load (.tmp 16)⟩,
    ⟨some (15, false), some 18, .fieldA 1 (.tmp 1)⟩,
    ⟨some (15, false), some 19, .load (.tmp 18)⟩,
    ⟨some (15, false), some 20, .bin .eql (.tmp 17) (.tmp 19)⟩,
    ⟨none, some 21, .pick (.tmp 15) (.const (.bool true)) (.tmp 20)⟩,
    ⟨none, some 4, .mv (.tmp 21)⟩])
  (.cond (.tmp 4) (.seq (.rg [⟨none, some 2, .mv (.const (.int .i64 1))⟩])
  (.ret)) (.seq (.rg [⟨none, some 23, .fieldA 2 (.tmp 1)⟩,
    ⟨none, some 24, .load (.tmp 23)⟩,
    ⟨none, some 25, .fieldA 4 (.tmp 1)⟩,
    ⟨none, some 26, .load (.tmp 25)⟩,
    ⟨none, some 27, .minmax true [.tmp 24, .tmp 26]⟩,
    ⟨none, some 28, .bin .gtr (.tmp 27) (.const (.int .u8 2))⟩,
    ⟨none, some 22, .mv (.tmp 28)⟩])
  (.cond (.tmp 22) (.seq (.rg [⟨none, some 2, .mv (.const (.int .i64 6))⟩])
  (.ret)) (.seq (.rg [⟨none, some 30, .mv (.tmp 3)⟩,
    ⟨none, some 31, .fieldA 3 (.tmp 1)⟩,
    ⟨none, some 32, .load (.tmp 31)⟩,
    ⟨none, some 33, .callv (.tmp 30) [.tmp 32, .const (.int .i64 1048575)]⟩,
    ⟨none, some 34, .mv (.tmp 33)⟩,
    ⟨some (34, false), some 35, .mv (.tmp 3)⟩,
    ⟨some (34, false), some 36, .fieldA 5 (.tmp 1)⟩,
    ⟨some (34, false), some 37, .load (.tmp 36)⟩,
    ⟨some (34, false), some 38, .callv (.tmp 35) [.tmp 37, .const (.int .i64 1048575)]⟩,
    ⟨none, some 39, .pick (.tmp 34) (.const (.bool true)) (.tmp 38)⟩,
    ⟨none, some 29, .mv (.tmp 39)⟩])
  (.cond (.tmp 29) (.seq (.rg [⟨none, some 2, .mv (.const (.int .i64 1))⟩])
  (.ret)) (.seq (.rg [⟨none, some 41, .fieldA 3 (.tmp 1)⟩,
    ⟨none, some 42, .load (.tmp 41)⟩,
    ⟨none, some 43, .bin .eql (.tmp 42) (.const (.int .i64 0))⟩,
    ⟨none, some 44, .mv (.tmp 43)⟩,
    ⟨some (44, true), some 45, .fieldA 2 (.tmp 1)⟩,
    ⟨some (44, true), some 46, .load (.tmp 45)⟩,
    ⟨some (44, true), some 47, .bin .neq (.tmp 46) (.const (.int .u8 0))⟩,
    ⟨none, some 48, .pick (.tmp 44) (.tmp 47) (.const (.bool false))⟩,
    ⟨none, some 49, .mv (.tmp 48)⟩,
    ⟨some (49, false), some 50, .fieldA 5 (.tmp 1)⟩,
    ⟨some (49, false), some 51, .load (.tmp 50)⟩,
    ⟨some (49, false), some 52, .bin .eql (.tmp 51) (.const (.int .i64 0))⟩,
    ⟨some (49, false), some 53, .mv (.tmp 52)⟩,
    ⟨some (53, true), some 54, .fieldA 4 (.tmp 1)⟩,
    ⟨some (53, true), some 55, .load (.tmp 54)⟩,
    ⟨some (53, true), some 56, .bin .neq (.tmp 55) (.const (.int .u8 0))⟩,
    ⟨some (49, false), some 57, .pick (.tmp 53) (.tmp 56) (.const (.bool false))⟩,
    ⟨none, some 58, .pick (.tmp 49) (.const (.bool true)) (.tmp 57)⟩,
    ⟨none, some 40, .mv (.tmp 58)⟩])
  (.cond (.tmp 40) (.seq (.rg [⟨none, some 2, .mv (.const (.int .i64 16))⟩])
  (.ret)) (.skip))))))))))
  (.seq (.rg [⟨none, some 2, .mv (.const (.int .i64 0))⟩])
  (.ret))))
theorem ac19_ok : compF Go.Proofs.Try.prog Go.Proofs.Try.f19 ac19 = some (ac19, [.tmp 2]) := by kernel_rfl

/- clearway clearwayref34.Check -/
def ac20 : AC := .seq (.rg [⟨none, some 1, .box 23 (.tmp 0)⟩,
    ⟨none, some 2, .mv (.const (.int .i64 0))⟩])
  (.seq (.seq (.rg [⟨none, some 3, .fieldA 0 (.tmp 1)⟩,
    ⟨none, some 4, .load (.tmp 3)⟩,
    ⟨none, some 5, .fieldA 1 (.tmp 1)⟩,
    ⟨none, some 6, .load (.tmp 5)⟩,
    ⟨none, some 7, .call 38 [.tmp 4, .tmp 6]⟩,
    ⟨none, some 8, .un .not (.tmp 7)⟩])
  (.cond (.tmp 8) (.seq (.rg [⟨none, some 2, .mv (.const (.int .i64 1))⟩])
  (.ret)) (.skip)))
  (.seq (.seq (.rg [⟨none, some 9, .fieldA 2 (.tmp 1)⟩,
    ⟨none, some 10, .load (.tmp 9)⟩,
    ⟨none, some 11, .bin .gtr (.tmp 10) (.const (.int .u8 2))⟩,
    ⟨none, some 12, .mv (.tmp 11)⟩,
    ⟨some (12, false), some 13, .fieldA 4 (.tmp 1)⟩,
    ⟨some (12, false), some 14, .load (.tmp 13)⟩,
    ⟨some (12, false), some 15, .bin .gtr (.tmp 14) (.const (.int .u8 2))⟩,
    ⟨none, some 16, .pick (.tmp 12) (.const (.bool true)) (.tmp 15)⟩])
  (.cond (.tmp 16) (.seq (.rg [⟨none, some 2, .mv (.const (.int .i64 6))⟩])
  (.ret)) (.skip)))
  (.seq (.seq (.rg [⟨none, some 17, .fieldA 3 (.tmp 1)⟩,
    ⟨none, some 18, .load (.tmp 17)⟩,
    ⟨none, some 19, .bin .lss (.tmp 18) (.const (.int .i64 0))⟩,
    ⟨none, some 20, .mv (.tmp 19)⟩,
    ⟨some (20, false), some 21, .fieldA 3 (.tmp 1)⟩,
    ⟨some (20, false), some 22, .load (.tmp 21)⟩,
    ⟨some (20, false), some 23, .bin .gtr (.tmp 22) (.const (.int .i64 1048575))⟩,
    ⟨none, some 24, .pick (.tmp 20) (.const (.bool true)) (.tmp 23)⟩,
    ⟨none, some 25, .mv (.tmp 24)⟩,
    ⟨some (25, false), some 26, .fieldA 5 (.tmp 1)⟩,
    ⟨some (25, false), some 27, .load (.tmp 26)⟩,
    ⟨some (25, false), some 28, .bin .lss (.tmp 27) (.const (.int .i64 0))⟩,
    ⟨none, some 29, .pick (.tmp 25) (.const (.bool true)) (.tmp 28)⟩,
    ⟨none, some 30, .mv (.tmp 29)⟩,
    ⟨some (30, false), some 31, .fieldA 5 (.tmp 1)⟩,
    ⟨some (30, false), some 32, .load (.tmp 31)⟩,
    ⟨some (30, false), some 33, .bin .gtr (.tmp 32) (.const (.int .i64 1048575))⟩,
    ⟨none, some 34, .pick (.tmp 30) (.const (.bool true)) (.tmp 33)⟩])
  (.cond (.tmp 34) (.seq (.rg [⟨none, some 2, .mv (.const (.int .i64 1))⟩])
  (.ret)) (.skip)))
  (.seq (.seq (.rg [⟨none, some 35, .fieldA 3 (.tmp 1)⟩,
    ⟨none, some 36, .load (.tmp 35)⟩,
    ⟨none, some 37, .bin .eql (.tmp 36) (.const (.int .i64 0))⟩,
    ⟨none, some 38, .mv (.tmp 37)⟩,
    ⟨some (38, true), some 39, .fieldA 2 (.tmp 1)⟩,
    ⟨some (38, true), some 40, .load (.tmp 39)⟩,
    ⟨some (38, true), some 41, .bin .neq (.tmp 40) (.const (.int .u8 0))⟩,
    ⟨none, some 42, .pick (.tmp 38) (.tmp 41) (.const (.bool false))⟩,
    ⟨none, some 43, .mv (.tmp 42)⟩,
    ⟨some (43, false), some 44, .fieldA 5 (.tmp 1)⟩,
    ⟨some (43, false), some 45, .load (.tmp 44)⟩,
    ⟨some (43, false), some 46, .bin .eql (.tmp 45) (.const (.int .i64 0))⟩,
    ⟨some (43, false), some 47, .mv (.tmp 46)⟩,
    ⟨some (47, true), some 48, .fieldA 4 (.tmp 1)⟩,
    ⟨some (47, true), some 49, .load (.tmp 48)⟩,
    ⟨some (47, true), some 50, .bin .neq (.tmp 49) (.const (.int .u8 0))⟩,
    ⟨some (43, false), some 51, .pick (.tmp 47) (.tmp 50) (.const (.bool false))⟩,
    ⟨none, some 52, .pick (.tmp 43) (.const (.bool true)) (.tmp 51)⟩])
  (.cond (.tmp 52) (.seq (.rg [⟨none, some 2, .mv (.const (.int .i64 16))⟩])
  (.ret)) (.skip)))
  (.seq (.rg [⟨none, some 2, .mv (.const (.int .i64 0))⟩])
  (.ret))))))
theorem ac20_ok : compF Go.Proofs.Try.prog Go.Proofs.Try.f20 ac20 = some (ac20, [.tmp 2]) := by kernel_rfl

/- clearway clearwaylaw34.awake -/
def ac21 : AC := .seq (.rg [⟨none, some 0, .mv (.const (.bool false))⟩])
  (.seq (.rg [⟨none, some 7, .build [.p (.v (.int .u8 0)), .p (.v (.int .u8 0))] [(0, 1, .const (.int .u8 1)), (1, 1, .const (.int .u8 1))]⟩,
    ⟨none, some 1, .alloc 46 [.p (.v (.int .u8 0)), .p (.v (.int .u8 0))]⟩,
    ⟨none, none, .store 2 (.tmp 1) (.tmp 7)⟩])
  (.seq (.rg [⟨none, some 9, .loadA 2 (.tmp 1)⟩,
    ⟨none, some 10, .loadA 2 (.tmp 1)⟩,
    ⟨none, some 11, .loadA 2 (.tmp 1)⟩,
    ⟨none, some 12, .bslice false 46 3 2 [.p (.v (.int .u8 0)), .p (.v (.int .u8 0))] [(0, 2, .tmp 9), (2, 2, .tmp 10), (4, 2, .tmp 11)]⟩,
    ⟨none, some 13, .bslice false 3 1 1 [.p (.v (.int .i64 0))] [(0, 1, .const (.int .i64 (-1)))]⟩,
    ⟨none, some 14, .call 23 [.const (.int .i64 3), .const (.int .i64 8), .tmp 12, .tmp 13, .const (.slice none 0 0)]⟩,
    ⟨none, some 8, .mv (.tmp 14)⟩,
    ⟨none, some 15, .extract (.tmp 8) 0⟩,
    ⟨none, some 16, .extract (.tmp 8) 1⟩,
    ⟨none, some 2, .mv (.tmp 15)⟩,
    ⟨none, some 3, .mv (.tmp 16)⟩])
  (.seq (.seq (.rg [⟨none, some 17, .mv (.tmp 3)⟩,
    ⟨none, some 18, .bin .neq (.tmp 17) (.const (.int .i64 0))⟩,
    ⟨none, some 19, .mv (.tmp 18)⟩,
    ⟨some (19, false), some 20, .mv (.tmp 2)⟩,
    ⟨some (19, false), some 21, .len (.tmp 20)⟩,
    ⟨some (19, false), some 22, .bin .neq (.tmp 21) (.const (.int .i64 3))⟩,
    ⟨none, some 23, .pick (.tmp 19) (.const (.bool true)) (.tmp 22)⟩])
  (.cond (.tmp 23) (.seq (.rg [⟨none, some 0, .mv (.const (.bool false))⟩])
  (.ret)) (.skip)))
  (.seq (.rg [⟨none, some 24, .build [.p (.v (.int .i64 0)), .p (.v (.int .i64 0)), .p (.v (.int .u8 0)), .p (.v (.int .i64 0)), .p (.v (.int .u8 0)), .p (.v (.int .i64 0))] [(0, 1, .const (.int .i64 3)), (1, 1, .const (.int .i64 8)), (2, 1, .const (.int .u8 1)), (3, 1, .const (.int .i64 1)), (4, 1, .const (.int .u8 1)), (5, 1, .const (.int .i64 1))]⟩,
    ⟨none, some 25, .build [.p (.v (.int .i64 0)), .p (.v (.int .i64 0)), .p (.v (.int .u8 0)), .p (.v (.int .i64 0)), .p (.v (.int .u8 0)), .p (.v (.int .i64 0))] [(0, 1, .const (.int .i64 8)), (1, 1, .const (.int .i64 3)), (2, 1, .const (.int .u8 1)), (3, 1, .const (.int .i64 1))]⟩,
    ⟨none, some 26, .build [.p (.v (.int .i64 0)), .p (.v (.int .i64 0)), .p (.v (.int .u8 0)), .p (.v (.int .i64 0)), .p (.v (.int .u8 0)), .p (.v (.int .i64 0)), .p (.v (.int .i64 0)), .p (.v (.int .i64 0)), .p (.v (.int .u8 0)), .p (.v (.int .i64 0)), .p (.v (.int .u8 0)), .p (.v (.int .i64 0))] [(0, 6, .tmp 24), (6, 6, .tmp 25)]⟩,
    ⟨none, some 4, .alloc 45 [.p (.v (.int .i64 0)), .p (.v (.int .i64 0)), .p (.v (.int .u8 0)), .p (.v (.int .i64 0)), .p (.v (.int .u8 0)), .p (.v (.int .i64 0)), .p (.v (.int .i64 0)), .p (.v (.int .i64 0)), .p (.v (.int .u8 0)), .p (.v (.int .i64 0)), .p (.v (.int .u8 0)), .p (.v (.int .i64 0))]⟩,
    ⟨none, none, .store 12 (.tmp 4) (.tmp 26)⟩])
  (.seq (.rg [⟨none, some 27, .loadA 12 (.tmp 4)⟩,
    ⟨none, some 5, .alloc 45 [.p (.v (.int .i64 0)), .p (.v (.int .i64 0)), .p (.v (.int .u8 0)), .p (.v (.int .i64 0)), .p (.v (.int .u8 0)), .p (.v (.int .i64 0)), .p (.v (.int .i64 0)), .p (.v (.int .i64 0)), .p (.v (.int .u8 0)), .p (.v (.int .i64 0)), .p (.v (.int .u8 0)), .p (.v (.int .i64 0))]⟩,
    ⟨none, none, .store 12 (.tmp 5) (.tmp 27)⟩])
  (.seq (.rg [⟨none, some 28, .build [.p (.v (.int .i64 0)), .p (.v (.int .i64 0)), .p (.v (.int .u8 0)), .p (.v (.int .i64 0)), .p (.v (.int .u8 0)), .p (.v (.int .i64 0))] [(0, 1, .const (.int .i64 8)), (1, 1, .const (.int .i64 3)), (2, 1, .const (.int .u8 2)), (3, 1, .const (.int .i64 2)), (4, 1, .const (.int .u8 1)), (5, 1, .const (.int .i64 1))]⟩,
    ⟨none, some 29, .fieldA 6 (.tmp 5)⟩,
    ⟨none, none, .store 6 (.tmp 29) (.tmp 28)⟩])
  (.seq (.rg [⟨none, some 30, .loadA 12 (.tmp 5)⟩,
    ⟨none, some 6, .alloc 45 [.p (.v (.int .i64 0)), .p (.v (.int .i64 0)), .p (.v (.int .u8 0)), .p (.v (.int .i64 0)), .p (.v (.int .u8 0)), .p (.v (.int .i64 0)), .p (.v (.int .i64 0)), .p (.v (.int .i64 0)), .p (.v (.int .u8 0)), .p (.v (.int .i64 0)), .p (.v (.int .u8 0)), .p (.v (.int .i64 0))]⟩,
    ⟨none, none, .store 12 (.tmp 6) (.tmp 30)⟩])
  (.seq (.rg [⟨none, some 31, .fieldA 0 (.tmp 6)⟩,
    ⟨none, some 32, .fieldA 4 (.tmp 31)⟩,
    ⟨none, none, .store 1 (.tmp 32) (.const (.int .u8 2))⟩,
    ⟨none, some 33, .fieldA 0 (.tmp 6)⟩,
    ⟨none, some 34, .fieldA 5 (.tmp 33)⟩,
    ⟨none, none, .store 1 (.tmp 34) (.const (.int .i64 2))⟩])
  (.seq (.dr [(false, [(0, 0), (1, 0), (2, 0), (3, 0)], [⟨none, some 35, .mv (.tmp 2)⟩,
    ⟨none, some 36, .idx 12 (.tmp 35) (.const (.int .i64 0))⟩,
    ⟨none, some 37, .loadA 12 (.tmp 36)⟩,
    ⟨none, some 38, .loadA 12 (.tmp 4)⟩]),
   (true, [(4, 0), (5, 0)], [⟨none, some 39, .eqA [false, false, false, false, false, false, false, false, false, false, false, false] false (.tmp 37) (.tmp 38)⟩,
    ⟨none, some 40, .mv (.tmp 39)⟩]),
   (false, [(6, 0), (7, 0), (8, 0), (9, 0)], [⟨some (40, true), some 41, .mv (.tmp 2)⟩,
    ⟨some (40, true), some 42, .idx 12 (.tmp 41) (.const (.int .i64 1))⟩,
    ⟨some (40, true), some 43, .loadA 12 (.tmp 42)⟩,
    ⟨some (40, true), some 44, .loadA 12 (.tmp 5)⟩]),
   (true, [(10, 0), (11, 0), (12, 0)], [⟨some (40, true), some 45, .eqA [false, false, false, false, false, false, false, false, false, false, false, false] false (.tmp 43) (.tmp 44)⟩,
    ⟨none, some 46, .pick (.tmp 40) (.tmp 45) (.const (.bool false))⟩,
    ⟨none, some 47, .mv (.tmp 46)⟩]),
   (false, [(13, 0), (14, 0), (15, 0), (16, 0)], [⟨some (47, true), some 48, .mv (.tmp 2)⟩,
    ⟨some (47, true), some 49, .idx 12 (.tmp 48) (.const (.int .i64 2))⟩,
    ⟨some (47, true), some 50, .loadA 12 (.tmp 49)⟩,
    ⟨some (47, true), some 51, .loadA 12 (.tmp 6)⟩]),
   (true, [(17, 0), (18, 0), (19, 0), (20, 0), (21, 0), (22, 0), (23, 0), (24, 0), (25, 0), (26, 0), (27, 0), (28, 0), (29, 0), (30, 0)], [⟨some (47, true), some 52, .eqA [false, false, false, false, false, false, false, false, false, false, false, false] false (.tmp 50) (.tmp 51)⟩,
    ⟨none, some 53, .pick (.tmp 47) (.tmp 52) (.const (.bool false))⟩,
    ⟨none, some 54, .mv (.tmp 53)⟩,
    ⟨some (54, true), some 55, .fieldA 0 (.tmp 4)⟩,
    ⟨some (54, true), some 56, .loadA 6 (.tmp 55)⟩,
    ⟨some (54, true), some 57, .call 40 [.tmp 56]⟩,
    ⟨none, some 58, .pick (.tmp 54) (.tmp 57) (.const (.bool false))⟩,
    ⟨none, some 59, .mv (.tmp 58)⟩,
    ⟨some (59, true), some 60, .fieldA 6 (.tmp 4)⟩,
    ⟨some (59, true), some 61, .loadA 6 (.tmp 60)⟩,
    ⟨some (59, true), some 62, .call 40 [.tmp 61]⟩,
    ⟨some (59, true), some 63, .un .not (.tmp 62)⟩,
    ⟨none, some 64, .pick (.tmp 59) (.tmp 63) (.const (.bool false))⟩,
    ⟨none, some 65, .mv (.tmp 64)⟩]),
   (false, [(31, 0), (32, 0), (33, 0), (34, 0)], [⟨some (65, true), some 66, .fieldA 0 (.tmp 4)⟩,
    ⟨some (65, true), some 67, .loadA 6 (.tmp 66)⟩,
    ⟨some (65, true), some 68, .fieldA 6 (.tmp 4)⟩,
    ⟨some (65, true), some 69, .loadA 6 (.tmp 68)⟩]),
   (true, [(35, 0), (36, 0), (37, 0), (38, 0)], [⟨some (65, true), some 70, .call 25 [.tmp 67, .tmp 69]⟩,
    ⟨some (65, true), some 71, .un .not (.tmp 70)⟩,
    ⟨none, some 72, .pick (.tmp 65) (.tmp 71) (.const (.bool false))⟩,
    ⟨none, some 73, .mv (.tmp 72)⟩]),
   (false, [(39, 0), (40, 0), (41, 0), (42, 0)], [⟨some (73, true), some 74, .fieldA 0 (.tmp 4)⟩,
    ⟨some (73, true), some 75, .loadA 6 (.tmp 74)⟩,
    ⟨some (73, true), some 76, .fieldA 6 (.tmp 4)⟩,
    ⟨some (73, true), some 77, .loadA 6 (.tmp 76)⟩]),
   (true, [(43, 0), (44, 0), (45, 0), (46, 0)], [⟨some (73, true), some 78, .call 26 [.tmp 75, .tmp 77]⟩,
    ⟨some (73, true), some 79, .un .not (.tmp 78)⟩,
    ⟨none, some 80, .pick (.tmp 73) (.tmp 79) (.const (.bool false))⟩,
    ⟨none, some 81, .mv (.tmp 80)⟩]),
   (false, [(47, 0), (48, 0), (49, 0), (50, 0)], [⟨some (81, true), some 82, .fieldA 0 (.tmp 5)⟩,
    ⟨some (81, true), some 83, .loadA 6 (.tmp 82)⟩,
    ⟨some (81, true), some 84, .fieldA 6 (.tmp 5)⟩,
    ⟨some (81, true), some 85, .loadA 6 (.tmp 84)⟩]),
   (true, [(51, 0), (52, 0), (53, 0)], [⟨some (81, true), some 86, .call 25 [.tmp 83, .tmp 85]⟩,
    ⟨none, some 87, .pick (.tmp 81) (.tmp 86) (.const (.bool false))⟩,
    ⟨none, some 88, .mv (.tmp 87)⟩]),
   (false, [(54, 0), (55, 0), (56, 0), (57, 0)], [⟨some (88, true), some 89, .fieldA 0 (.tmp 5)⟩,
    ⟨some (88, true), some 90, .loadA 6 (.tmp 89)⟩,
    ⟨some (88, true), some 91, .fieldA 6 (.tmp 5)⟩,
    ⟨some (88, true), some 92, .loadA 6 (.tmp 91)⟩]),
   (true, [(58, 0), (59, 0), (60, 0), (61, 0)], [⟨some (88, true), some 93, .call 26 [.tmp 90, .tmp 92]⟩,
    ⟨some (88, true), some 94, .un .not (.tmp 93)⟩,
    ⟨none, some 95, .pick (.tmp 88) (.tmp 94) (.const (.bool false))⟩,
    ⟨none, some 96, .mv (.tmp 95)⟩]),
   (false, [(62, 0), (63, 0), (64, 0), (65, 0)], [⟨some (96, true), some 97, .fieldA 0 (.tmp 6)⟩,
    ⟨some (96, true), some 98, .loadA 6 (.tmp 97)⟩,
    ⟨some (96, true), some 99, .fieldA 6 (.tmp 6)⟩,
    ⟨some (96, true), some 100, .loadA 6 (.tmp 99)⟩]),
   (true, [(66, 0), (67, 0), (68, 0)], [⟨some (96, true), some 101, .call 26 [.tmp 98, .tmp 100]⟩,
    ⟨none, some 102, .pick (.tmp 96) (.tmp 101) (.const (.bool false))⟩,
    ⟨none, some 0, .mv (.tmp 102)⟩])])
  (.ret))))))))))
theorem ac21_ok : compF Go.Proofs.Try.prog Go.Proofs.Try.f21 ac21 = some (ac21, [.tmp 0]) := by kernel_rfl

/- clearway coordinate.Run -/
def ac23_L0 : AC := .seq (.rg [⟨none, some 78, .bin .lss (.tmp 77) (.const (.int .i64 2))⟩])
  (.seq (.cond (.tmp 78) (.skip) (.exit 2))
  (.seq (.blk 3 (.seq (.rg [⟨none, some 79, .mv (.tmp 77)⟩,
    ⟨none, some 22, .mv (.tmp 79)⟩])
  (.dr [(false, [(0, 0), (1, 0), (2, 0), (3, 0), (4, 0), (5, 0), (6, 0), (7, 0), (8, 0)], [⟨none, some 80, .mv (.tmp 22)⟩,
    ⟨none, some 81, .mv (.tmp 22)⟩,
    ⟨none, some 82, .mv (.tmp 20)⟩,
    ⟨none, some 83, .mv (.tmp 22)⟩,
    ⟨none, some 84, .idxA 2 1 (.tmp 21) (.tmp 83)⟩,
    ⟨none, some 85, .load (.tmp 84)⟩,
    ⟨none, some 86, .idxA 2 10 (.tmp 18) (.tmp 80)⟩,
    ⟨none, some 87, .fieldA 8 (.tmp 86)⟩,
    ⟨none, none, .store 1 (.tmp 87) (.tmp 82)⟩]),
   (true, [(9, 0), (10, 0), (11, 0)], [⟨none, some 88, .idxA 2 10 (.tmp 18) (.tmp 81)⟩,
    ⟨none, some 89, .fieldA 9 (.tmp 88)⟩,
    ⟨none, none, .store 1 (.tmp 89) (.tmp 85)⟩])])))
  (.rg [⟨none, some 90, .bin .add (.tmp 77) (.const (.int .i64 1))⟩,
    ⟨none, some 77, .mv (.tmp 90)⟩])))
def ac23_L1 : AC := .seq (.rg [⟨none, some 93, .bin .lss (.tmp 92) (.const (.int .i64 3))⟩])
  (.seq (.cond (.tmp 93) (.skip) (.exit 4))
  (.seq (.blk 5 (.seq (.rg [⟨none, some 94, .index 3 1 false (.tmp 91) (.tmp 92)⟩,
    ⟨none, some 24, .mv (.tmp 94)⟩])
  (.seq (.rg [⟨none, some 95, .mv (.tmp 24)⟩,
    ⟨none, some 96, .idxA 2 10 (.tmp 18) (.const (.int .i64 0))⟩,
    ⟨none, some 97, .callv (.tmp 95) [.tmp 96]⟩])
  (.rg [⟨none, some 98, .mv (.tmp 24)⟩,
    ⟨none, some 99, .idxA 2 10 (.tmp 18) (.const (.int .i64 1))⟩,
    ⟨none, some 100, .callv (.tmp 98) [.tmp 99]⟩]))))
  (.rg [⟨none, some 101, .bin .add (.tmp 92) (.const (.int .i64 1))⟩,
    ⟨none, some 92, .mv (.tmp 101)⟩])))
def ac23_L2 : AC := .seq (.rg [⟨none, some 73, .bin .lss (.tmp 72) (.tmp 71)⟩])
  (.seq (.cond (.tmp 73) (.skip) (.exit 0))
  (.seq (.blk 1 (.seq (.rg [⟨none, some 74, .mv (.tmp 72)⟩,
    ⟨none, some 75, .idx 2 (.tmp 70) (.tmp 72)⟩,
    ⟨none, some 76, .loadA 2 (.tmp 75)⟩,
    ⟨none, some 21, .alloc 46 [.p (.v (.int .u8 0)), .p (.v (.int .u8 0))]⟩,
    ⟨none, some 20, .mv (.tmp 74)⟩,
    ⟨none, none, .store 2 (.tmp 21) (.tmp 76)⟩])
  (.seq (.seq (.rg [⟨none, some 77, .mv (.const (.int .i64 0))⟩])
  (.blk 2 (.loop [18, 19, 20, 21, 70, 71, 72, 77] ac23_L0)))
  (.seq (.seq (.rg [⟨none, some 91, .build [.p (.v .nilFunc), .p (.v .nilFunc), .p (.v .nilFunc)] [(0, 1, .func 47), (1, 1, .func 48), (2, 1, .func 49)]⟩,
    ⟨none, some 92, .mv (.const (.int .i64 0))⟩])
  (.blk 4 (.loop [18, 19, 70, 71, 72, 91, 92] ac23_L1)))
  (.rg [⟨none, some 102, .mv (.tmp 19)⟩,
    ⟨none, some 103, .idxA 2 10 (.tmp 18) (.const (.int .i64 0))⟩,
    ⟨none, some 104, .fieldA 0 (.tmp 103)⟩,
    ⟨none, some 105, .loadA 6 (.tmp 104)⟩,
    ⟨none, some 106, .idxA 2 10 (.tmp 18) (.const (.int .i64 1))⟩,
    ⟨none, some 107, .fieldA 0 (.tmp 106)⟩,
    ⟨none, some 108, .loadA 6 (.tmp 107)⟩,
    ⟨none, some 109, .build [.p (.v (.int .i64 0)), .p (.v (.int .i64 0)), .p (.v (.int .u8 0)), .p (.v (.int .i64 0)), .p (.v (.int .u8 0)), .p (.v (.int .i64 0)), .p (.v (.int .i64 0)), .p (.v (.int .i64 0)), .p (.v (.int .u8 0)), .p (.v (.int .i64 0)), .p (.v (.int .u8 0)), .p (.v (.int .i64 0))] [(0, 6, .tmp 105), (6, 6, .tmp 108)]⟩,
    ⟨none, some 110, .bslice false 45 1 12 [.p (.v (.int .i64 0)), .p (.v (.int .i64 0)), .p (.v (.int .u8 0)), .p (.v (.int .i64 0)), .p (.v (.int .u8 0)), .p (.v (.int .i64 0)), .p (.v (.int .i64 0)), .p (.v (.int .i64 0)), .p (.v (.int .u8 0)), .p (.v (.int .i64 0)), .p (.v (.int .u8 0)), .p (.v (.int .i64 0))] [(0, 12, .tmp 109)]⟩,
    ⟨none, some 111, .append 45 12 96 (.tmp 102) (.tmp 110)⟩,
    ⟨none, some 19, .mv (.tmp 111)⟩])))))
  (.rg [⟨none, some 112, .bin .add (.tmp 72) (.const (.int .i64 1))⟩,
    ⟨none, some 72, .mv (.tmp 112)⟩])))
def ac23 : AC := .seq (.rg [⟨none, some 10, .mv (.const (.slice none 0 0))⟩,
    ⟨none, some 11, .mv (.const (.int .i64 0))⟩])
  (.seq (.rg [⟨none, some 26, .mv (.tmp 0)⟩,
    ⟨none, some 27, .mv (.tmp 1)⟩,
    ⟨none, some 28, .call 17 [.tmp 26, .tmp 27]⟩,
    ⟨none, some 25, .mv (.tmp 28)⟩,
    ⟨none, some 29, .extract (.tmp 25) 0⟩,
    ⟨none, some 30, .extract (.tmp 25) 1⟩,
    ⟨none, some 12, .alloc 23 [.p (.v (.int .i64 0)), .p (.v (.int .i64 0)), .p (.v (.int .u8 0)), .p (.v (.int .i64 0)), .p (.v (.int .u8 0)), .p (.v (.int .i64 0))]⟩,
    ⟨none, none, .store 6 (.tmp 12) (.tmp 29)⟩,
    ⟨none, some 13, .mv (.tmp 30)⟩])
  (.seq (.seq (.rg [⟨none, some 31, .mv (.tmp 13)⟩,
    ⟨none, some 32, .bin .neq (.tmp 31) (.const (.int .i64 0))⟩])
  (.cond (.tmp 32) (.seq (.rg [⟨none, some 33, .mv (.tmp 13)⟩,
    ⟨none, some 10, .mv (.const (.slice none 0 0))⟩,
    ⟨none, some 11, .mv (.tmp 33)⟩])
  (.ret)) (.skip)))
  (.seq (.seq (.rg [⟨none, some 34, .mv (.tmp 2)⟩,
    ⟨none, some 35, .len (.tmp 34)⟩,
    ⟨none, some 36, .bin .gtr (.tmp 35) (.const (.int .i64 64))⟩])
  (.cond (.tmp 36) (.seq (.rg [⟨none, some 10, .mv (.const (.slice none 0 0))⟩,
    ⟨none, some 11, .mv (.const (.int .i64 4))⟩])
  (.ret)) (.skip)))
  (.seq (.seq (.rg [⟨none, some 37, .mv (.tmp 2)⟩,
    ⟨none, some 38, .call 44 [.tmp 37, .func 45]⟩])
  (.cond (.tmp 38) (.seq (.rg [⟨none, some 10, .mv (.const (.slice none 0 0))⟩,
    ⟨none, some 11, .mv (.const (.int .i64 6))⟩])
  (.ret)) (.skip)))
  (.seq (.rg [⟨none, some 40, .mv (.tmp 3)⟩,
    ⟨none, some 41, .call 46 [.tmp 40]⟩,
    ⟨none, some 39, .mv (.tmp 41)⟩,
    ⟨none, some 42, .extract (.tmp 39) 0⟩,
    ⟨none, some 43, .extract (.tmp 39) 1⟩,
    ⟨none, some 14, .mv (.tmp 42)⟩,
    ⟨none, some 13, .mv (.tmp 43)⟩])
  (.seq (.seq (.rg [⟨none, some 44, .mv (.tmp 13)⟩,
    ⟨none, some 45, .bin .neq (.tmp 44) (.const (.int .i64 0))⟩])
  (.cond (.tmp 45) (.seq (.rg [⟨none, some 46, .mv (.tmp 13)⟩,
    ⟨none, some 10, .mv (.const (.slice none 0 0))⟩,
    ⟨none, some 11, .mv (.tmp 46)⟩])
  (.ret)) (.skip)))
  (.seq (.rg [⟨none, some 48, .mv (.tmp 4)⟩,
    ⟨none, some 49, .call 46 [.tmp 48]⟩,
    ⟨none, some 47, .mv (.tmp 49)⟩,
    ⟨none, some 50, .extract (.tmp 47) 0⟩,
    ⟨none, some 51, .extract (.tmp 47) 1⟩,
    ⟨none, some 15, .mv (.tmp 50)⟩,
    ⟨none, some 13, .mv (.tmp 51)⟩])
  (.seq (.seq (.rg [⟨none, some 52, .mv (.tmp 13)⟩,
    ⟨none, some 53, .bin .neq (.tmp 52) (.const (.int .i64 0))⟩])
  (.cond (.tmp 53) (.seq (.rg [⟨none, some 54, .mv (.tmp 13)⟩,
    ⟨none, some 10, .mv (.const (.slice none 0 0))⟩,
    ⟨none, some 11, .mv (.tmp 54)⟩])
  (.ret)) (.skip)))
  (.seq (.rg [⟨none, some 56, .mv (.tmp 1)⟩,
    ⟨none, some 57, .mv (.tmp 0)⟩,
    ⟨none, some 58, .call 17 [.tmp 56, .tmp 57]⟩,
    ⟨none, some 55, .mv (.tmp 58)⟩,
    ⟨none, some 59, .extract (.tmp 55) 0⟩,
    ⟨none, some 60, .extract (.tmp 55) 1⟩,
    ⟨none, some 16, .alloc 23 [.p (.v (.int .i64 0)), .p (.v (.int .i64 0)), .p (.v (.int .u8 0)), .p (.v (.int .i64 0)), .p (.v (.int .u8 0)), .p (.v (.int .i64 0))]⟩,
    ⟨none, none, .store 6 (.tmp 16) (.tmp 59)⟩,
    ⟨none, some 17, .mv (.tmp 60)⟩])
  (.seq (.rg [⟨none, some 61, .loadA 6 (.tmp 12)⟩,
    ⟨none, some 62, .mv (.tmp 14)⟩,
    ⟨none, some 63, .mv (.tmp 15)⟩,
    ⟨none, some 64, .build [.p (.v (.int .i64 0)), .p (.v (.int .i64 0)), .p (.v (.int .u8 0)), .p (.v (.int .i64 0)), .p (.v (.int .u8 0)), .p (.v (.int .i64 0)), .p (.v (.pointer none)), .p (.v (.pointer none)), .p (.v (.int .i64 0)), .p (.v (.int .u8 0))] [(0, 6, .tmp 61), (6, 1, .tmp 62), (7, 1, .tmp 63)]⟩,
    ⟨none, some 65, .loadA 6 (.tmp 16)⟩,
    ⟨none, some 66, .mv (.tmp 15)⟩,
    ⟨none, some 67, .mv (.tmp 14)⟩,
    ⟨none, some 68, .build [.p (.v (.int .i64 0)), .p (.v (.int .i64 0)), .p (.v (.int .u8 0)), .p (.v (.int .i64 0)), .p (.v (.int .u8 0)), .p (.v (.int .i64 0)), .p (.v (.pointer none)), .p (.v (.pointer none)), .p (.v (.int .i64 0)), .p (.v (.int .u8 0))] [(0, 6, .tmp 65), (6, 1, .tmp 66), (7, 1, .tmp 67)]⟩,
    ⟨none, some 69, .build ([.p (.v (.int .i64 0)), .p (.v (.int .i64 0))] ++ [.p (.v (.int .u8 0))] ++ [.p (.v (.int .i64 0))] ++ [.p (.v (.int .u8 0))] ++ [.p (.v (.int .i64 0))] ++ [.p (.v (.pointer none)), .p (.v (.pointer none))] ++ [.p (.v (.int .i64 0))] ++ [.p (.v (.int .u8 0))] ++ [.p (.v (.int .i64 0)), .p (.v (.int .i64 0))] ++ [.p (.v (.int .u8 0))] ++ [.p (.v (.int .i64 0))] ++ [.p (.v (.int .u8 0))] ++ [.p (.v (.int .i64 0))] ++ [.p (.v (.pointer none)), .p (.v (.pointer none))] ++ [.p (.v (.int .i64 0))] ++ [.p (.v (.int .u8 0))]) [(0, 10, .tmp 64), (10, 10, .tmp 68)]⟩,
    ⟨none, some 18, .alloc 85 ([.p (.v (.int .i64 0)), .p (.v (.int .i64 0))] ++ [.p (.v (.int .u8 0))] ++ [.p (.v (.int .i64 0))] ++ [.p (.v (.int .u8 0))] ++ [.p (.v (.int .i64 0))] ++ [.p (.v (.pointer none)), .p (.v (.pointer none))] ++ [.p (.v (.int .i64 0))] ++ [.p (.v (.int .u8 0))] ++ [.p (.v (.int .i64 0)), .p (.v (.int .i64 0))] ++ [.p (.v (.int .u8 0))] ++ [.p (.v (.int .i64 0))] ++ [.p (.v (.int .u8 0))] ++ [.p (.v (.int .i64 0))] ++ [.p (.v (.pointer none)), .p (.v (.pointer none))] ++ [.p (.v (.int .i64 0))] ++ [.p (.v (.int .u8 0))])⟩,
    ⟨none, none, .store 20 (.tmp 18) (.tmp 69)⟩])
  (.seq (.rg [⟨none, some 19, .mv (.const (.slice none 0 0))⟩])
  (.seq (.seq (.rg [⟨none, some 70, .mv (.tmp 2)⟩,
    ⟨none, some 71, .len (.tmp 70)⟩,
    ⟨none, some 72, .mv (.const (.int .i64 0))⟩])
  (.blk 0 (.loop [18, 19, 70, 71, 72] ac23_L2)))
  (.seq (.rg [⟨none, some 113, .mv (.tmp 19)⟩,
    ⟨none, some 10, .mv (.tmp 113)⟩,
    ⟨none, some 11, .mv (.const (.int .i64 0))⟩])
  (.ret))))))))))))))
theorem ac23_ok : compF Go.Proofs.Try.prog Go.Proofs.Try.f23 ac23 = some (ac23, [.tmp 10, .tmp 11]) := by kernel_rfl
end Go.Ab
