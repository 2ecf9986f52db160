/- The codes of functions of this seat, as annotated, compared with the program by the kernel. No conditions. -/
import Derived.Test.YteiolnofaebknaaProg
import Derived.Test.YteiolnofaebknaaAbB
import Derived.Test.YteiolnofaebknaaCd2
namespace Go.Ab
/- clearway coordinate.Safe -/
def ac25 : AC := .seq (.rg [⟨none, some 2, .box 23 (.tmp 0)⟩,
    ⟨none, some 3, .box 23 (.tmp 1)⟩,
    ⟨none, some 4, .mv (.const (.bool false))⟩])
  (.seq (.rg [⟨none, some 5, .fieldA 2 (.tmp 2)⟩,
    ⟨none, some 6, .load (.tmp 5)⟩,
    ⟨none, some 7, .fieldA 2 (.tmp 3)⟩,
    ⟨none, some 8, .load (.tmp 7)⟩,
    ⟨none, some 9, .call 50 [.tmp 6, .tmp 8]⟩,
    ⟨none, some 10, .un .not (.tmp 9)⟩,
    ⟨none, some 4, .mv (.tmp 10)⟩])
  (.ret))
theorem ac25_ok : compF Go.Proofs.Try.prog Go.Proofs.Try.f25 ac25 = some (ac25, [.tmp 4]) := by kernel_rfl

/- clearway coordinate.Agreed -/
def ac26 : AC := .seq (.rg [⟨none, some 2, .box 23 (.tmp 0)⟩,
    ⟨none, some 3, .box 23 (.tmp 1)⟩,
    ⟨none, some 4, .mv (.const (.bool false))⟩])
  (.seq (.rg [⟨none, some 5, .fieldA 5 (.tmp 2)⟩,
    ⟨none, some 6, .load (.tmp 5)⟩,
    ⟨none, some 7, .fieldA 3 (.tmp 3)⟩,
    ⟨none, some 8, .load (.tmp 7)⟩,
    ⟨none, some 9, .bin .eql (.tmp 6) (.tmp 8)⟩,
    ⟨none, some 10, .mv (.tmp 9)⟩,
    ⟨some (10, true), some 11, .fieldA 5 (.tmp 3)⟩,
    ⟨some (10, true), some 12, .load (.tmp 11)⟩,
    ⟨some (10, true), some 13, .fieldA 3 (.tmp 2)⟩,
    ⟨some (10, true), some 14, .load (.tmp 13)⟩,
    ⟨some (10, true), some 15, .bin .eql (.tmp 12) (.tmp 14)⟩,
    ⟨none, some 16, .pick (.tmp 10) (.tmp 15) (.const (.bool false))⟩,
    ⟨none, some 4, .mv (.tmp 16)⟩])
  (.ret))
theorem ac26_ok : compF Go.Proofs.Try.prog Go.Proofs.Try.f26 ac26 = some (ac26, [.tmp 4]) := by kernel_rfl

/- clearway coordinate.take -/
def ac31 : AC := .seq (.rg [⟨none, some 2, .box 23 (.tmp 0)⟩,
    ⟨none, some 4, .alloc 23 [.p (.v (.int .i64 0)), .p (.v (.int .i64 0)), .p (.v (.int .u8 0)), .p (.v (.int .i64 0)), .p (.v (.int .u8 0)), .p (.v (.int .i64 0))]⟩,
    ⟨none, some 5, .mv (.const (.int .i64 0))⟩])
  (.seq (.blk 0 (.seq (.rg [⟨none, some 7, .mv (.tmp 1)⟩,
    ⟨none, some 8, .fieldA 2 (.tmp 2)⟩,
    ⟨none, some 9, .load (.tmp 8)⟩,
    ⟨none, some 10, .bin .eql (.tmp 7) (.tmp 9)⟩,
    ⟨none, some 6, .mv (.tmp 10)⟩])
  (.cond (.tmp 6) (.seq (.rg [⟨none, some 11, .loadA 6 (.tmp 2)⟩,
    ⟨none, none, .store 6 (.tmp 4) (.tmp 11)⟩,
    ⟨none, some 5, .mv (.const (.int .i64 0))⟩])
  (.ret)) (.seq (.rg [⟨none, some 13, .fieldA 3 (.tmp 2)⟩,
    ⟨none, some 14, .load (.tmp 13)⟩,
    ⟨none, some 15, .bin .eql (.tmp 14) (.const (.int .i64 1048575))⟩,
    ⟨none, some 12, .mv (.tmp 15)⟩])
  (.cond (.tmp 12) (.seq (.rg [⟨none, some 16, .build [.p (.v (.int .i64 0)), .p (.v (.int .i64 0)), .p (.v (.int .u8 0)), .p (.v (.int .i64 0)), .p (.v (.int .u8 0)), .p (.v (.int .i64 0))] []⟩,
    ⟨none, none, .store 6 (.tmp 4) (.tmp 16)⟩,
    ⟨none, some 5, .mv (.const (.int .i64 17))⟩])
  (.ret)) (.skip))))))
  (.seq (.rg [⟨none, some 17, .mv (.tmp 1)⟩,
    ⟨none, some 18, .fieldA 2 (.tmp 2)⟩,
    ⟨none, none, .store 1 (.tmp 18) (.tmp 17)⟩])
  (.seq (.rg [⟨none, some 19, .fieldA 3 (.tmp 2)⟩,
    ⟨none, some 20, .load (.tmp 19)⟩,
    ⟨none, some 21, .bin .add (.tmp 20) (.const (.int .i64 1))⟩,
    ⟨none, some 22, .fieldA 3 (.tmp 2)⟩,
    ⟨none, none, .store 1 (.tmp 22) (.tmp 21)⟩])
  (.seq (.rg [⟨none, some 23, .loadA 6 (.tmp 2)⟩,
    ⟨none, none, .store 6 (.tmp 4) (.tmp 23)⟩,
    ⟨none, some 5, .mv (.const (.int .i64 0))⟩])
  (.ret)))))
theorem ac31_ok : compF Go.Proofs.Try.prog Go.Proofs.Try.f31 ac31 = some (ac31, [.cell 4 (some 6), .tmp 5]) := by kernel_rfl

/- clearway coordinate.yielding -/
def ac32 : AC := .seq (.rg [⟨none, some 2, .box 23 (.tmp 0)⟩,
    ⟨none, some 4, .mv (.const (.int .u8 0))⟩])
  (.seq (.seq (.rg [⟨none, some 5, .loadA 6 (.tmp 2)⟩,
    ⟨none, some 6, .call 40 [.tmp 5]⟩,
    ⟨none, some 7, .un .not (.tmp 6)⟩,
    ⟨none, some 8, .mv (.tmp 7)⟩,
    ⟨some (8, true), some 9, .mv (.tmp 1)⟩,
    ⟨some (8, true), some 10, .fieldA 4 (.tmp 2)⟩,
    ⟨some (8, true), some 11, .load (.tmp 10)⟩,
    ⟨some (8, true), some 12, .call 50 [.tmp 9, .tmp 11]⟩,
    ⟨none, some 13, .pick (.tmp 8) (.tmp 12) (.const (.bool false))⟩])
  (.cond (.tmp 13) (.seq (.rg [⟨none, some 14, .mv (.tmp 1)⟩,
    ⟨none, some 15, .bin .sub (.const (.int .u8 3)) (.tmp 14)⟩,
    ⟨none, some 4, .mv (.tmp 15)⟩])
  (.ret)) (.skip)))
  (.seq (.rg [⟨none, some 16, .mv (.tmp 1)⟩,
    ⟨none, some 4, .mv (.tmp 16)⟩])
  (.ret)))
theorem ac32_ok : compF Go.Proofs.Try.prog Go.Proofs.Try.f32 ac32 = some (ac32, [.tmp 4]) := by kernel_rfl

/- clearway clearwayref34.like -/
def ac33 : AC := .seq (.rg [⟨none, some 4, .mv (.const (.bool false))⟩])
  (.seq (.rg [⟨none, some 5, .mv (.tmp 0)⟩,
    ⟨none, some 6, .mv (.tmp 1)⟩,
    ⟨none, some 7, .bin .eql (.tmp 5) (.tmp 6)⟩,
    ⟨none, some 8, .mv (.tmp 7)⟩,
    ⟨some (8, true), some 9, .mv (.tmp 0)⟩,
    ⟨some (8, true), some 10, .bin .neq (.tmp 9) (.const (.int .u8 0))⟩,
    ⟨none, some 11, .pick (.tmp 8) (.tmp 10) (.const (.bool false))⟩,
    ⟨none, some 4, .mv (.tmp 11)⟩])
  (.ret))
theorem ac33_ok : compF Go.Proofs.Try.prog Go.Proofs.Try.f33 ac33 = some (ac33, [.tmp 4]) := by kernel_rfl

/- clearway clearwayref34.take -/
def ac34 : AC := .seq (.rg [⟨none, some 2, .box 23 (.tmp 0)⟩,
    ⟨none, some 4, .alloc 23 [.p (.v (.int .i64 0)), .p (.v (.int .i64 0)), .p (.v (.int .u8 0)), .p (.v (.int .i64 0)), .p (.v (.int .u8 0)), .p (.v (.int .i64 0))]⟩,
    ⟨none, some 5, .mv (.const (.int .i64 0))⟩])
  (.seq (.seq (.rg [⟨none, some 6, .mv (.tmp 1)⟩,
    ⟨none, some 7, .fieldA 2 (.tmp 2)⟩,
    ⟨none, some 8, .load (.tmp 7)⟩,
    ⟨none, some 9, .bin .eql (.tmp 6) (.tmp 8)⟩])
  (.cond (.tmp 9) (.seq (.rg [⟨none, some 10, .loadA 6 (.tmp 2)⟩,
    ⟨none, none, .store 6 (.tmp 4) (.tmp 10)⟩,
    ⟨none, some 5, .mv (.const (.int .i64 0))⟩])
  (.ret)) (.skip)))
  (.seq (.seq (.rg [⟨none, some 11, .fieldA 3 (.tmp 2)⟩,
    ⟨none, some 12, .load (.tmp 11)⟩,
    ⟨none, some 13, .bin .eql (.tmp 12) (.const (.int .i64 1048575))⟩])
  (.cond (.tmp 13) (.seq (.rg [⟨none, some 14, .build [.p (.v (.int .i64 0)), .p (.v (.int .i64 0)), .p (.v (.int .u8 0)), .p (.v (.int .i64 0)), .p (.v (.int .u8 0)), .p (.v (.int .i64 0))] []⟩,
    ⟨none, none, .store 6 (.tmp 4) (.tmp 14)⟩,
    ⟨none, some 5, .mv (.const (.int .i64 17))⟩])
  (.ret)) (.skip)))
  (.seq (.rg [⟨none, some 15, .mv (.tmp 1)⟩,
    ⟨none, some 16, .fieldA 2 (.tmp 2)⟩,
    ⟨none, none, .store 1 (.tmp 16) (.tmp 15)⟩])
  (.seq (.rg [⟨none, some 17, .fieldA 3 (.tmp 2)⟩,
    ⟨none, some 18, .load (.tmp 17)⟩,
    ⟨none, some 19, .bin .add (.tmp 18) (.const (.int .i64 1))⟩,
    ⟨none, some 20, .fieldA 3 (.tmp 2)⟩,
    ⟨none, none, .store 1 (.tmp 20) (.tmp 19)⟩])
  (.seq (.rg [⟨none, some 21, .loadA 6 (.tmp 2)⟩,
    ⟨none, none, .store 6 (.tmp 4) (.tmp 21)⟩,
    ⟨none, some 5, .mv (.const (.int .i64 0))⟩])
  (.ret))))))
theorem ac34_ok : compF Go.Proofs.Try.prog Go.Proofs.Try.f34 ac34 = some (ac34, [.cell 4 (some 6), .tmp 5]) := by kernel_rfl

/- clearway clearwayref34.opposite -/
def ac35 : AC := .seq (.rg [⟨none, some 2, .mv (.const (.int .u8 0))⟩])
  (.seq (.rg [⟨none, some 3, .mv (.tmp 0)⟩,
    ⟨none, some 4, .bin .sub (.const (.int .u8 3)) (.tmp 3)⟩,
    ⟨none, some 2, .mv (.tmp 4)⟩])
  (.ret))
theorem ac35_ok : compF Go.Proofs.Try.prog Go.Proofs.Try.f35 ac35 = some (ac35, [.tmp 2]) := by kernel_rfl

/- clearway lock.Check -/
def ac36 : AC := .seq (.rg [⟨none, some 1, .box 25 (.tmp 0)⟩,
    ⟨none, some 2, .mv (.const (.int .i64 0))⟩])
  (.seq (.rg [⟨none, some 3, .mv (.func 51)⟩])
  (.seq (.blk 0 (.seq (.rg [⟨none, some 5, .mv (.tmp 3)⟩,
    ⟨none, some 6, .fieldA 0 (.tmp 1)⟩,
    ⟨none, some 7, .load (.tmp 6)⟩,
    ⟨none, some 8, .callv (.tmp 5) [.tmp 7]⟩,
    ⟨none, some 9, .mv (.tmp 8)⟩,
    ⟨some (9, false), some 10, .mv (.tmp 3)⟩,
    ⟨some (9, false), some 11, .fieldA 1 (.tmp 1)⟩,
    ⟨some (9, false), some 12, .load (.tmp 11)⟩,
    ⟨some (9, false), some 13, .callv (.tmp 10) [.tmp 12]⟩,
    ⟨none, some 14, .pick (.tmp 9) (.const (.bool true)) (.tmp 13)⟩,
    ⟨none, some 15, .mv (.tmp 14)⟩,
    ⟨some (15, false), some 16, .fieldA 0 (.tmp 1)⟩,
    ⟨some (15, false), some 17, .load (.tmp 16)⟩,
    ⟨some (15, false), some 18, .fieldA 1 (.tmp 1)⟩,
    ⟨some (15, false), some 19, .load (.tmp 18)⟩,
    ⟨some (15, false), some 20, .bin .eql (.tmp 17) (.tmp 19)⟩,
    ⟨none, some 21, .pick (.tmp 15) (.const (.bool true)) (.tmp 20)⟩,
    ⟨none, some 4, .mv (.tmp 21)⟩])
  (.cond (.tmp 4) (.seq (.rg [⟨none, some 2, .mv (.const (.int .i64 1))⟩])
  (.ret)) (.seq (.rg [⟨none, some 23, .fieldA 2 (.tmp 1)⟩,
    ⟨none, some 24, .load (.tmp 23)⟩,
    ⟨none, some 25, .bin .gtr (.tmp 24) (.const (.int .u8 2))⟩,
    ⟨none, some 22, .mv (.tmp 25)⟩])
  (.cond (.tmp 22) (.seq (.rg [⟨none, some 2, .mv (.const (.int .i64 6))⟩])
  (.ret)) (.seq (.rg [⟨none, some 27, .fieldA 3 (.tmp 1)⟩,
    ⟨none, some 28, .load (.tmp 27)⟩,
    ⟨none, some 29, .bin .lss (.tmp 28) (.const (.int .i64 1))⟩,
    ⟨none, some 30, .mv (.tmp 29)⟩,
    ⟨some (30, false), some 31, .fieldA 3 (.tmp 1)⟩,
    ⟨some (30, false), some 32, .load (.tmp 31)⟩,
    ⟨some (30, false), some 33, .bin .gtr (.tmp 32) (.const (.int .i64 1048575))⟩,
    ⟨none, some 34, .pick (.tmp 30) (.const (.bool true)) (.tmp 33)⟩,
    ⟨none, some 26, .mv (.tmp 34)⟩])
  (.cond (.tmp 26) (.seq (.rg [⟨none, some 2, .mv (.const (.int .i64 1))⟩])
  (.ret)) (.skip))))))))
  (.seq (.rg [⟨none, some 2, .mv (.const (.int .i64 0))⟩])
  (.ret))))
theorem ac36_ok : compF Go.Proofs.Try.prog Go.Proofs.Try.f36 ac36 = some (ac36, [.tmp 2]) := by kernel_rfl

/- clearway clearwayref32.Check -/
def ac37 : AC := .seq (.rg [⟨none, some 1, .box 25 (.tmp 0)⟩,
    ⟨none, some 2, .mv (.const (.int .i64 0))⟩])
  (.seq (.seq (.rg [⟨none, some 3, .fieldA 0 (.tmp 1)⟩,
    ⟨none, some 4, .load (.tmp 3)⟩,
    ⟨none, some 5, .bin .lss (.tmp 4) (.const (.int .i64 0))⟩,
    ⟨none, some 6, .mv (.tmp 5)⟩,
    ⟨some (6, false), some 7, .fieldA 0 (.tmp 1)⟩,
    ⟨some (6, false), some 8, .load (.tmp 7)⟩,
    ⟨some (6, false), some 9, .bin .gtr (.tmp 8) (.const (.int .i64 16777215))⟩,
    ⟨none, some 10, .pick (.tmp 6) (.const (.bool true)) (.tmp 9)⟩,
    ⟨none, some 11, .mv (.tmp 10)⟩,
    ⟨some (11, false), some 12, .fieldA 1 (.tmp 1)⟩,
    ⟨some (11, false), some 13, .load (.tmp 12)⟩,
    ⟨some (11, false), some 14, .bin .lss (.tmp 13) (.const (.int .i64 0))⟩,
    ⟨none, some 15, .pick (.tmp 11) (.const (.bool true)) (.tmp 14)⟩,
    ⟨none, some 16, .mv (.tmp 15)⟩,
    ⟨some (16, false), some 17, .fieldA 1 (.tmp 1)⟩,
    ⟨some (16, false), some 18, .load (.tmp 17)⟩,
    ⟨some (16, false), some 19, .bin .gtr (.tmp 18) (.const (.int .i64 16777215))⟩,
    ⟨none, some 20, .pick (.tmp 16) (.const (.bool true)) (.tmp 19)⟩,
    ⟨none, some 21, .mv (.tmp 20)⟩,
    ⟨some (21, false), some 22, .fieldA 0 (.tmp 1)⟩,
    ⟨some (21, false), some 23, .load (.tmp 22)⟩,
    ⟨some (21, false), some 24, .fieldA 1 (.tmp 1)⟩,
    ⟨some (21, false), some 25, .load (.tmp 24)⟩,
    ⟨some (21, false), some 26, .bin .eql (.tmp 23) (.tmp 25)⟩,
    ⟨none, some 27, .pick (.tmp 21) (.const (.bool true)) (.tmp 26)⟩])
  (.cond (.tmp 27) (.seq (.rg [⟨none, some 2, .mv (.const (.int .i64 1))⟩])
  (.ret)) (.skip)))
  (.seq (.seq (.rg [⟨none, some 28, .fieldA 2 (.tmp 1)⟩,
    ⟨none, some 29, .load (.tmp 28)⟩,
    ⟨none, some 30, .bin .gtr (.tmp 29) (.const (.int .u8 2))⟩])
  (.cond (.tmp 30) (.seq (.rg [⟨none, some 2, .mv (.const (.int .i64 6))⟩])
  (.ret)) (.skip)))
  (.seq (.seq (.rg [⟨none, some 31, .fieldA 3 (.tmp 1)⟩,
    ⟨none, some 32, .load (.tmp 31)⟩,
    ⟨none, some 33, .bin .lss (.tmp 32) (.const (.int .i64 1))⟩,
    ⟨none, some 34, .mv (.tmp 33)⟩,
    ⟨some (34, false), some 35, .fieldA 3 (.tmp 1)⟩,
    ⟨some (34, false), some 36, .load (.tmp 35)⟩,
    ⟨some (34, false), some 37, .bin .gtr (.tmp 36) (.const (.int .i64 1048575))⟩,
    ⟨none, some 38, .pick (.tmp 34) (.const (.bool true)) (.tmp 37)⟩])
  (.cond (.tmp 38) (.seq (.rg [⟨none, some 2, .mv (.const (.int .i64 1))⟩])
  (.ret)) (.skip)))
  (.seq (.rg [⟨none, some 2, .mv (.const (.int .i64 0))⟩])
  (.ret)))))
theorem ac37_ok : compF Go.Proofs.Try.prog Go.Proofs.Try.f37 ac37 = some (ac37, [.tmp 2]) := by kernel_rfl

/- clearway clearwayref34.pair -/
def ac38 : AC := .seq (.rg [⟨none, some 4, .mv (.const (.bool false))⟩])
  (.seq (.rg [⟨none, some 5, .mv (.tmp 0)⟩,
    ⟨none, some 6, .bin .geq (.tmp 5) (.const (.int .i64 0))⟩,
    ⟨none, some 7, .mv (.tmp 6)⟩,
    ⟨some (7, true), some 8, .mv (.tmp 0)⟩,
    ⟨some (7, true), some 9, .bin .leq (.tmp 8) (.const (.int .i64 16777215))⟩,
    ⟨none, some 10, .pick (.tmp 7) (.tmp 9) (.const (.bool false))⟩,
    ⟨none, some 11, .mv (.tmp 10)⟩,
    ⟨some (11, true), some 12, .mv (.tmp 1)⟩,
    ⟨some (11, true), some 13, .bin .geq (.tmp 12) (.const (.int .i64 0))⟩,
    ⟨none, some 14, .pick (.tmp 11) (.tmp 13) (.const (.bool false))⟩,
    ⟨none, some 15, .mv (.tmp 14)⟩,
    ⟨some (15, true), some 16, .mv (.tmp 1)⟩,
    ⟨some (15, true), some 17, .bin .leq (.tmp 16) (.const (.int .i64 16777215))⟩,
    ⟨none, some 18, .pick (.tmp 15) (.tmp 17) (.const (.bool false))⟩,
    ⟨none, some 19, .mv (.tmp 18)⟩,
    ⟨some (19, true), some 20, .mv (.tmp 0)⟩,
    ⟨some (19, true), some 21, .mv (.tmp 1)⟩,
    ⟨some (19, true), some 22, .bin .neq (.tmp 20) (.tmp 21)⟩,
    ⟨none, some 23, .pick (.tmp 19) (.tmp 22) (.const (.bool false))⟩,
    ⟨none, some 4, .mv (.tmp 23)⟩])
  (.ret))
theorem ac38_ok : compF Go.Proofs.Try.prog Go.Proofs.Try.f38 ac38 = some (ac38, [.tmp 4]) := by kernel_rfl

/- clearway coordinate.Check$1 -/
def ac39 : AC := .seq (.rg [⟨none, some 4, .mv (.const (.bool false))⟩])
  (.seq (.rg [⟨none, some 5, .mv (.tmp 0)⟩,
    ⟨none, some 6, .bin .lss (.tmp 5) (.const (.int .i64 0))⟩,
    ⟨none, some 7, .mv (.tmp 6)⟩,
    ⟨some (7, false), some 8, .mv (.tmp 0)⟩,
    ⟨some (7, false), some 9, .mv (.tmp 1)⟩,
    ⟨some (7, false), some 10, .bin .gtr (.tmp 8) (.tmp 9)⟩,
    ⟨none, some 11, .pick (.tmp 7) (.const (.bool true)) (.tmp 10)⟩,
    ⟨none, some 4, .mv (.tmp 11)⟩])
  (.ret))
theorem ac39_ok : compF Go.Proofs.Try.prog Go.Proofs.Try.f39 ac39 = some (ac39, [.tmp 4]) := by kernel_rfl

/- clearway coordinate.Leads -/
def ac40 : AC := .seq (.rg [⟨none, some 1, .box 23 (.tmp 0)⟩,
    ⟨none, some 2, .mv (.const (.bool false))⟩])
  (.seq (.rg [⟨none, some 3, .fieldA 0 (.tmp 1)⟩,
    ⟨none, some 4, .load (.tmp 3)⟩,
    ⟨none, some 5, .fieldA 1 (.tmp 1)⟩,
    ⟨none, some 6, .load (.tmp 5)⟩,
    ⟨none, some 7, .bin .lss (.tmp 4) (.tmp 6)⟩,
    ⟨none, some 2, .mv (.tmp 7)⟩])
  (.ret))
theorem ac40_ok : compF Go.Proofs.Try.prog Go.Proofs.Try.f40 ac40 = some (ac40, [.tmp 2]) := by kernel_rfl

/- slices.ContainsFunc[[][2]uint8,[2]uint8] -/
def ac44 : AC := .seq (.rg [⟨none, some 4, .mv (.const (.bool false))⟩])
  (.seq (.rg [⟨none, some 5, .mv (.tmp 0)⟩,
    ⟨none, some 6, .mv (.tmp 1)⟩,
    ⟨none, some 7, .call 55 [.tmp 5, .tmp 6]⟩,
    ⟨none, some 8, .bin .geq (.tmp 7) (.const (.int .i64 0))⟩,
    ⟨none, some 4, .mv (.tmp 8)⟩])
  (.ret))
theorem ac44_ok : compF Go.Proofs.Try.prog Go.Proofs.Try.f44 ac44 = some (ac44, [.tmp 4]) := by kernel_rfl

/- clearway coordinate.Run$1 -/
def ac45 : AC := .seq (.rg [⟨none, some 1, .box 46 (.tmp 0)⟩,
    ⟨none, some 2, .mv (.const (.bool false))⟩])
  (.seq (.rg [⟨none, some 3, .idxA 2 1 (.tmp 1) (.const (.int .i64 0))⟩,
    ⟨none, some 4, .load (.tmp 3)⟩,
    ⟨none, some 5, .idxA 2 1 (.tmp 1) (.const (.int .i64 1))⟩,
    ⟨none, some 6, .load (.tmp 5)⟩,
    ⟨none, some 7, .minmax true [.tmp 4, .tmp 6]⟩,
    ⟨none, some 8, .bin .gtr (.tmp 7) (.const (.int .u8 2))⟩,
    ⟨none, some 2, .mv (.tmp 8)⟩])
  (.ret))
theorem ac45_ok : compF Go.Proofs.Try.prog Go.Proofs.Try.f45 ac45 = some (ac45, [.tmp 2]) := by kernel_rfl

/- clearway link.New -/
def ac46 : AC := .seq (.rg [⟨none, some 2, .mv (.const (.pointer none))⟩,
    ⟨none, some 3, .mv (.const (.int .i64 0))⟩])
  (.seq (.seq (.rg [⟨none, some 6, .mv (.tmp 0)⟩,
    ⟨none, some 7, .call 56 [.tmp 6]⟩,
    ⟨none, some 4, .mv (.tmp 7)⟩])
  (.seq (.rg [⟨none, some 8, .mv (.tmp 4)⟩,
    ⟨none, some 9, .bin .neq (.tmp 8) (.const (.int .i64 0))⟩])
  (.cond (.tmp 9) (.seq (.rg [⟨none, some 10, .mv (.tmp 4)⟩,
    ⟨none, some 2, .mv (.const (.pointer none))⟩,
    ⟨none, some 3, .mv (.tmp 10)⟩])
  (.ret)) (.skip))))
  (.seq (.rg [⟨none, some 11, .bsliceM 97 0 6 [.p (.v (.int .i64 0)), .p (.v (.int .i64 0)), .p (.v (.int .i64 0)), .p (.v (.int .i64 0)), .p (.v (.int .u8 0)), .p (.v (.int .i64 0))] []⟩,
    ⟨none, some 12, .box 100 (.tmp 11)⟩,
    ⟨none, some 13, .build (List.replicate 258 (.p (.v (.int .i64 0))) ++ [.p (.v (.pointer none))]) [(258, 1, .tmp 12)]⟩,
    ⟨none, some 14, .box 103 (.tmp 13)⟩,
    ⟨none, some 5, .mv (.tmp 14)⟩])
  (.seq (.rg [⟨none, some 15, .mv (.tmp 5)⟩,
    ⟨none, some 16, .nilck (.tmp 15)⟩,
    ⟨none, some 17, .fieldA 0 (.tmp 16)⟩,
    ⟨none, some 18, .sliceA 256 1 (.tmp 17)⟩,
    ⟨none, some 19, .mv (.tmp 0)⟩,
    ⟨none, some 20, .copy 1 (.tmp 18) (.tmp 19)⟩])
  (.seq (.rg [⟨none, some 21, .mv (.tmp 5)⟩,
    ⟨none, some 2, .mv (.tmp 21)⟩,
    ⟨none, some 3, .mv (.const (.int .i64 0))⟩])
  (.ret)))))
theorem ac46_ok : compF Go.Proofs.Try.prog Go.Proofs.Try.f46 ac46 = some (ac46, [.tmp 2, .tmp 3]) := by kernel_rfl

/- (*clearway coordinate.party).choose -/
def ac47 : AC := .dr [(false, [(0, 0), (1, 0), (2, 0), (3, 0), (4, 0), (5, 0), (6, 0), (7, 0), (8, 0), (9, 0), (10, 0), (11, 0), (12, 0), (13, 0), (14, 0), (15, 1)], [⟨none, some 3, .mv (.tmp 0)⟩,
    ⟨none, some 4, .mv (.tmp 0)⟩,
    ⟨none, some 5, .nilck (.tmp 4)⟩,
    ⟨none, some 6, .fieldA 0 (.tmp 5)⟩,
    ⟨none, some 7, .loadA 6 (.tmp 6)⟩,
    ⟨none, some 8, .mv (.tmp 0)⟩,
    ⟨none, some 9, .nilck (.tmp 8)⟩,
    ⟨none, some 10, .fieldA 9 (.tmp 9)⟩,
    ⟨none, some 11, .load (.tmp 10)⟩,
    ⟨none, some 12, .call 11 [.tmp 7, .tmp 11]⟩,
    ⟨none, some 2, .mv (.tmp 12)⟩,
    ⟨none, some 13, .extract (.tmp 2) 0⟩,
    ⟨none, some 14, .extract (.tmp 2) 1⟩,
    ⟨none, some 15, .nilck (.tmp 3)⟩,
    ⟨none, some 16, .fieldA 0 (.tmp 15)⟩,
    ⟨none, none, .store 6 (.tmp 16) (.tmp 13)⟩])]
theorem ac47_ok : compF Go.Proofs.Try.prog Go.Proofs.Try.f47 ac47 = some (ac47, []) := by kernel_rfl

/- (*clearway coordinate.party).send -/
def ac48 : AC := .seq (.rg [⟨none, some 5, .mv (.tmp 0)⟩,
    ⟨none, some 6, .nilck (.tmp 5)⟩,
    ⟨none, some 7, .fieldA 0 (.tmp 6)⟩,
    ⟨none, some 8, .loadA 6 (.tmp 7)⟩,
    ⟨none, some 9, .call 15 [.tmp 8]⟩,
    ⟨none, some 4, .mv (.tmp 9)⟩,
    ⟨none, some 10, .extract (.tmp 4) 0⟩,
    ⟨none, some 11, .extract (.tmp 4) 1⟩,
    ⟨none, some 2, .alloc 25 [.p (.v (.int .i64 0)), .p (.v (.int .i64 0)), .p (.v (.int .u8 0)), .p (.v (.int .i64 0))]⟩,
    ⟨none, none, .store 4 (.tmp 2) (.tmp 10)⟩,
    ⟨none, some 3, .mv (.tmp 11)⟩])
  (.seq (.rg [⟨none, some 12, .mv (.tmp 3)⟩,
    ⟨none, some 13, .bin .eql (.tmp 12) (.const (.int .i64 0))⟩])
  (.cond (.tmp 13) (.dr [(false, [(0, 0), (1, 0), (2, 0), (3, 0), (4, 0), (5, 0), (6, 0), (7, 0), (8, 0)], [⟨none, some 14, .mv (.tmp 0)⟩,
    ⟨none, some 15, .nilck (.tmp 14)⟩,
    ⟨none, some 16, .fieldA 6 (.tmp 15)⟩,
    ⟨none, some 17, .load (.tmp 16)⟩,
    ⟨none, some 18, .mv (.tmp 0)⟩,
    ⟨none, some 19, .nilck (.tmp 18)⟩,
    ⟨none, some 20, .fieldA 8 (.tmp 19)⟩,
    ⟨none, some 21, .load (.tmp 20)⟩,
    ⟨none, some 22, .loadA 4 (.tmp 2)⟩]),
   (true, [(9, 0)], [⟨none, some 23, .call 57 [.tmp 17, .tmp 21, .tmp 22]⟩])]) (.skip)))
theorem ac48_ok : compF Go.Proofs.Try.prog Go.Proofs.Try.f48 ac48 = some (ac48, []) := by kernel_rfl

/- (*clearway coordinate.party).receive -/
def ac49_L0 : AC := .seq (.rg [⟨none, some 21, .bin .lss (.tmp 20) (.tmp 19)⟩])
  (.seq (.cond (.tmp 21) (.skip) (.exit 0))
  (.seq (.blk 1 (.seq (.rg [⟨none, some 22, .idx 4 (.tmp 18) (.tmp 20)⟩,
    ⟨none, some 23, .loadA 4 (.tmp 22)⟩,
    ⟨none, some 5, .alloc 25 [.p (.v (.int .i64 0)), .p (.v (.int .i64 0)), .p (.v (.int .u8 0)), .p (.v (.int .i64 0))]⟩,
    ⟨none, none, .store 4 (.tmp 5) (.tmp 23)⟩])
  (.dr [(false, [(0, 0), (1, 0), (2, 0), (3, 0), (4, 0), (5, 0), (6, 0), (7, 0), (8, 0), (9, 0), (10, 0), (11, 0), (12, 1)], [⟨none, some 25, .mv (.tmp 0)⟩,
    ⟨none, some 26, .mv (.tmp 0)⟩,
    ⟨none, some 27, .nilck (.tmp 26)⟩,
    ⟨none, some 28, .fieldA 0 (.tmp 27)⟩,
    ⟨none, some 29, .loadA 6 (.tmp 28)⟩,
    ⟨none, some 30, .loadA 4 (.tmp 5)⟩,
    ⟨none, some 31, .call 13 [.tmp 29, .tmp 30]⟩,
    ⟨none, some 24, .mv (.tmp 31)⟩,
    ⟨none, some 32, .extract (.tmp 24) 0⟩,
    ⟨none, some 33, .extract (.tmp 24) 1⟩,
    ⟨none, some 34, .nilck (.tmp 25)⟩,
    ⟨none, some 35, .fieldA 0 (.tmp 34)⟩,
    ⟨none, none, .store 6 (.tmp 35) (.tmp 32)⟩])])))
  (.rg [⟨none, some 36, .bin .add (.tmp 20) (.const (.int .i64 1))⟩,
    ⟨none, some 20, .mv (.tmp 36)⟩])))
def ac49 : AC := .seq (.dr [(false, [(0, 0), (1, 0), (2, 0), (3, 0), (4, 0), (5, 0), (6, 0), (7, 0)], [⟨none, some 7, .mv (.tmp 0)⟩,
    ⟨none, some 8, .nilck (.tmp 7)⟩,
    ⟨none, some 9, .fieldA 7 (.tmp 8)⟩,
    ⟨none, some 10, .load (.tmp 9)⟩,
    ⟨none, some 11, .mv (.tmp 0)⟩,
    ⟨none, some 12, .nilck (.tmp 11)⟩,
    ⟨none, some 13, .fieldA 8 (.tmp 12)⟩,
    ⟨none, some 14, .load (.tmp 13)⟩]),
   (true, [(8, 0), (9, 0)], [⟨none, some 15, .call 58 [.tmp 10, .tmp 14]⟩,
    ⟨none, some 6, .mv (.tmp 15)⟩]),
   (false, [(10, 0), (11, 0), (12, 0)], [⟨none, some 16, .extract (.tmp 6) 0⟩,
    ⟨none, some 17, .extract (.tmp 6) 1⟩,
    ⟨none, some 2, .mv (.tmp 16)⟩]),
   (true, [(13, 0)], [⟨none, some 3, .mv (.tmp 17)⟩])])
  (.seq (.rg [⟨none, some 18, .mv (.tmp 2)⟩,
    ⟨none, some 19, .len (.tmp 18)⟩,
    ⟨none, some 20, .mv (.const (.int .i64 0))⟩])
  (.blk 0 (.loop [0, 18, 19, 20] ac49_L0)))
theorem ac49_ok : compF Go.Proofs.Try.prog Go.Proofs.Try.f49 ac49 = some (ac49, []) := by kernel_rfl
end Go.Ab
