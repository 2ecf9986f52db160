/- The codes of functions of this seat, as annotated, compared with the program by the kernel. No conditions. -/
import Derived.Test.YteiolnofaebknaaProg
import Derived.Test.YteiolnofaebknaaAbB
import Derived.Test.YteiolnofaebknaaCd3
namespace Go.Ab
/- clearway coordinate.like -/
def ac50 : AC := .seq (.rg [⟨none, some 4, .mv (.const (.bool false))⟩])
  (.seq (.rg [⟨none, some 5, .mv (.tmp 0)⟩,
    ⟨none, some 6, .bin .neq (.tmp 5) (.const (.int .u8 0))⟩,
    ⟨none, some 7, .mv (.tmp 6)⟩,
    ⟨some (7, true), some 8, .mv (.tmp 0)⟩,
    ⟨some (7, true), some 9, .mv (.tmp 1)⟩,
    ⟨some (7, true), some 10, .bin .eql (.tmp 8) (.tmp 9)⟩,
    ⟨none, some 11, .pick (.tmp 7) (.tmp 10) (.const (.bool false))⟩,
    ⟨none, some 4, .mv (.tmp 11)⟩])
  (.ret))
theorem ac50_ok : compF Go.Proofs.Try.prog Go.Proofs.Try.f50 ac50 = some (ac50, [.tmp 4]) := by kernel_rfl

/- clearway lock.Check$1 -/
def ac51 : AC := .seq (.rg [⟨none, some 2, .mv (.const (.bool false))⟩])
  (.seq (.rg [⟨none, some 3, .mv (.tmp 0)⟩,
    ⟨none, some 4, .bin .lss (.tmp 3) (.const (.int .i64 0))⟩,
    ⟨none, some 5, .mv (.tmp 4)⟩,
    ⟨some (5, false), some 6, .mv (.tmp 0)⟩,
    ⟨some (5, false), some 7, .bin .gtr (.tmp 6) (.const (.int .i64 16777215))⟩,
    ⟨none, some 8, .pick (.tmp 5) (.const (.bool true)) (.tmp 7)⟩,
    ⟨none, some 2, .mv (.tmp 8)⟩])
  (.ret))
theorem ac51_ok : compF Go.Proofs.Try.prog Go.Proofs.Try.f51 ac51 = some (ac51, [.tmp 2]) := by kernel_rfl

/- slices.IndexFunc[[][2]uint8,[2]uint8] -/
def ac55_L0 : AC := .seq (.rg [⟨none, some 9, .bin .lss (.tmp 8) (.tmp 7)⟩])
  (.seq (.cond (.tmp 9) (.skip) (.exit 0))
  (.seq (.blk 1 (.seq (.rg [⟨none, some 10, .mv (.tmp 8)⟩,
    ⟨none, some 5, .mv (.tmp 10)⟩])
  (.seq (.rg [⟨none, some 11, .mv (.tmp 1)⟩,
    ⟨none, some 12, .mv (.tmp 0)⟩,
    ⟨none, some 13, .mv (.tmp 5)⟩,
    ⟨none, some 14, .idx 2 (.tmp 12) (.tmp 13)⟩,
    ⟨none, some 15, .loadA 2 (.tmp 14)⟩,
    ⟨none, some 16, .callv (.tmp 11) [.tmp 15]⟩])
  (.cond (.tmp 16) (.seq (.rg [⟨none, some 17, .mv (.tmp 5)⟩,
    ⟨none, some 4, .mv (.tmp 17)⟩])
  (.ret)) (.skip)))))
  (.rg [⟨none, some 18, .bin .add (.tmp 8) (.const (.int .i64 1))⟩,
    ⟨none, some 8, .mv (.tmp 18)⟩])))
def ac55 : AC := .seq (.rg [⟨none, some 4, .mv (.const (.int .i64 0))⟩])
  (.seq (.seq (.rg [⟨none, some 6, .mv (.tmp 0)⟩,
    ⟨none, some 7, .len (.tmp 6)⟩,
    ⟨none, some 8, .mv (.const (.int .i64 0))⟩])
  (.blk 0 (.loop [0, 1, 7, 8] ac55_L0)))
  (.seq (.rg [⟨none, some 4, .mv (.const (.int .i64 (-1)))⟩])
  (.ret)))
theorem ac55_ok : compF Go.Proofs.Try.prog Go.Proofs.Try.f55 ac55 = some (ac55, [.tmp 4]) := by kernel_rfl

/- clearway link.check -/
def ac56 : AC := .seq (.rg [⟨none, some 2, .mv (.const (.int .i64 0))⟩])
  (.seq (.blk 0 (.seq (.rg [⟨none, some 4, .mv (.tmp 0)⟩,
    ⟨none, some 5, .len (.tmp 4)⟩,
    ⟨none, some 6, .bin .gtr (.tmp 5) (.const (.int .i64 256))⟩,
    ⟨none, some 3, .mv (.tmp 6)⟩])
  (.cond (.tmp 3) (.seq (.rg [⟨none, some 2, .mv (.const (.int .i64 4))⟩])
  (.ret)) (.seq (.rg [⟨none, some 8, .mv (.tmp 0)⟩,
    ⟨none, some 9, .call 59 [.tmp 8, .func 60]⟩,
    ⟨none, some 7, .mv (.tmp 9)⟩])
  (.cond (.tmp 7) (.seq (.rg [⟨none, some 2, .mv (.const (.int .i64 1))⟩])
  (.ret)) (.skip))))))
  (.seq (.rg [⟨none, some 2, .mv (.const (.int .i64 0))⟩])
  (.ret)))
theorem ac56_ok : compF Go.Proofs.Try.prog Go.Proofs.Try.f56 ac56 = some (ac56, [.tmp 2]) := by kernel_rfl

/- (*clearway link.Link).Send -/
def ac57 : AC := .seq (.rg [⟨none, some 5, .box 25 (.tmp 2)⟩,
    ⟨none, some 6, .mv (.const (.int .i64 0))⟩])
  (.seq (.seq (.rg [⟨none, some 10, .mv (.tmp 0)⟩,
    ⟨none, some 11, .mv (.tmp 1)⟩,
    ⟨none, some 12, .call 61 [.tmp 10, .tmp 11]⟩,
    ⟨none, some 7, .mv (.tmp 12)⟩])
  (.seq (.rg [⟨none, some 13, .mv (.tmp 7)⟩,
    ⟨none, some 14, .bin .neq (.tmp 13) (.const (.int .i64 0))⟩])
  (.cond (.tmp 14) (.seq (.rg [⟨none, some 15, .mv (.tmp 7)⟩,
    ⟨none, some 6, .mv (.tmp 15)⟩])
  (.ret)) (.skip))))
  (.seq (.seq (.rg [⟨none, some 16, .loadA 4 (.tmp 5)⟩,
    ⟨none, some 17, .call 36 [.tmp 16]⟩,
    ⟨none, some 8, .mv (.tmp 17)⟩])
  (.seq (.rg [⟨none, some 18, .mv (.tmp 8)⟩,
    ⟨none, some 19, .bin .neq (.tmp 18) (.const (.int .i64 0))⟩])
  (.cond (.tmp 19) (.seq (.rg [⟨none, some 20, .mv (.tmp 8)⟩,
    ⟨none, some 6, .mv (.tmp 20)⟩])
  (.ret)) (.skip))))
  (.seq (.rg [⟨none, some 9, .mv (.const (.int .i64 0))⟩])
  (.seq (.seq (.rg [⟨none, some 21, .mv (.tmp 0)⟩,
    ⟨none, some 22, .nilck (.tmp 21)⟩,
    ⟨none, some 23, .fieldA 257 (.tmp 22)⟩,
    ⟨none, some 24, .load (.tmp 23)⟩,
    ⟨none, some 25, .bin .lss (.tmp 24) (.const (.int .i64 256))⟩])
  (.cond (.tmp 25) (.dr [(false, [(0, 0), (1, 0), (2, 0), (3, 0), (4, 0), (5, 0), (6, 0)], [⟨none, some 26, .mv (.tmp 0)⟩,
    ⟨none, some 27, .mv (.tmp 0)⟩,
    ⟨none, some 28, .nilck (.tmp 27)⟩,
    ⟨none, some 29, .fieldA 257 (.tmp 28)⟩,
    ⟨none, some 30, .load (.tmp 29)⟩,
    ⟨none, some 31, .nilck (.tmp 26)⟩,
    ⟨none, some 32, .fieldA 0 (.tmp 31)⟩]),
   (true, [(7, 0), (8, 0), (9, 0)], [⟨none, some 33, .idxA 256 1 (.tmp 32) (.tmp 30)⟩,
    ⟨none, some 34, .load (.tmp 33)⟩,
    ⟨none, some 9, .mv (.tmp 34)⟩])]) (.skip)))
  (.seq (.seq (.rg [⟨none, some 35, .mv (.tmp 9)⟩,
    ⟨none, some 36, .bin .neq (.tmp 35) (.const (.int .i64 (-1)))⟩])
  (.cond (.tmp 36) (.seq (.seq (.rg [⟨none, some 37, .mv (.tmp 0)⟩,
    ⟨none, some 38, .nilck (.tmp 37)⟩,
    ⟨none, some 39, .fieldA 258 (.tmp 38)⟩,
    ⟨none, some 40, .load (.tmp 39)⟩,
    ⟨none, some 41, .nilck (.tmp 40)⟩,
    ⟨none, some 42, .load (.tmp 41)⟩,
    ⟨none, some 43, .call 62 [.tmp 42]⟩,
    ⟨none, some 44, .bin .eql (.tmp 43) (.const (.int .i64 64))⟩])
  (.cond (.tmp 44) (.seq (.rg [⟨none, some 6, .mv (.const (.int .i64 17))⟩])
  (.ret)) (.skip)))
  (.dr [(false, [(0, 0), (1, 0), (2, 0), (3, 0), (4, 0), (5, 0), (6, 0), (7, 0), (8, 0), (9, 0), (10, 0), (11, 0), (12, 0), (13, 0), (14, 0)], [⟨none, some 45, .mv (.tmp 0)⟩,
    ⟨none, some 46, .nilck (.tmp 45)⟩,
    ⟨none, some 47, .fieldA 258 (.tmp 46)⟩,
    ⟨none, some 48, .load (.tmp 47)⟩,
    ⟨none, some 49, .mkifc 99 (.tmp 48)⟩,
    ⟨none, some 50, .mv (.tmp 1)⟩,
    ⟨none, some 51, .mv (.tmp 9)⟩,
    ⟨none, some 52, .bin .add (.tmp 50) (.tmp 51)⟩,
    ⟨none, some 53, .mv (.tmp 0)⟩,
    ⟨none, some 54, .nilck (.tmp 53)⟩,
    ⟨none, some 55, .fieldA 257 (.tmp 54)⟩,
    ⟨none, some 56, .load (.tmp 55)⟩,
    ⟨none, some 57, .loadA 4 (.tmp 5)⟩,
    ⟨none, some 58, .build [.p (.v (.int .i64 0)), .p (.v (.int .i64 0)), .p (.v (.int .i64 0)), .p (.v (.int .i64 0)), .p (.v (.int .u8 0)), .p (.v (.int .i64 0))] [(0, 1, .tmp 52), (1, 1, .tmp 56), (2, 4, .tmp 57)]⟩,
    ⟨none, some 59, .mkifc 97 (.tmp 58)⟩]),
   (true, [(15, 0)], [⟨none, some 60, .call 63 [.tmp 49, .tmp 59]⟩])])) (.skip)))
  (.seq (.rg [⟨none, some 61, .mv (.tmp 0)⟩,
    ⟨none, some 62, .mv (.tmp 1)⟩,
    ⟨none, some 63, .nilck (.tmp 61)⟩,
    ⟨none, some 64, .fieldA 256 (.tmp 63)⟩,
    ⟨none, none, .store 1 (.tmp 64) (.tmp 62)⟩])
  (.seq (.rg [⟨none, some 65, .mv (.tmp 0)⟩,
    ⟨none, some 66, .nilck (.tmp 65)⟩,
    ⟨none, some 67, .fieldA 257 (.tmp 66)⟩,
    ⟨none, some 68, .load (.tmp 67)⟩,
    ⟨none, some 69, .bin .add (.tmp 68) (.const (.int .i64 1))⟩,
    ⟨none, some 70, .nilck (.tmp 65)⟩,
    ⟨none, some 71, .fieldA 257 (.tmp 70)⟩,
    ⟨none, none, .store 1 (.tmp 71) (.tmp 69)⟩])
  (.seq (.rg [⟨none, some 6, .mv (.const (.int .i64 0))⟩])
  (.ret)))))))))
theorem ac57_ok : compF Go.Proofs.Try.prog Go.Proofs.Try.f57 ac57 = some (ac57, [.tmp 6]) := by kernel_rfl

/- (*clearway link.Link).Hear -/
def ac58_L0 : AC := .seq (.seq (.rg [⟨none, some 19, .mv (.tmp 0)⟩,
    ⟨none, some 20, .nilck (.tmp 19)⟩,
    ⟨none, some 21, .fieldA 258 (.tmp 20)⟩,
    ⟨none, some 22, .load (.tmp 21)⟩,
    ⟨none, some 23, .nilck (.tmp 22)⟩,
    ⟨none, some 24, .load (.tmp 23)⟩,
    ⟨none, some 25, .call 62 [.tmp 24]⟩,
    ⟨none, some 26, .bin .gtr (.tmp 25) (.const (.int .i64 0))⟩,
    ⟨none, some 27, .mv (.tmp 26)⟩,
    ⟨some (27, true), some 28, .mv (.tmp 0)⟩,
    ⟨some (27, true), some 29, .nilck (.tmp 28)⟩,
    ⟨some (27, true), some 30, .fieldA 258 (.tmp 29)⟩,
    ⟨some (27, true), some 31, .load (.tmp 30)⟩,
    ⟨some (27, true), some 32, .nilck (.tmp 31)⟩,
    ⟨some (27, true), some 33, .load (.tmp 32)⟩,
    ⟨some (27, true), some 34, .idx 6 (.tmp 33) (.const (.int .i64 0))⟩,
    ⟨some (27, true), some 35, .fieldA 0 (.tmp 34)⟩,
    ⟨some (27, true), some 36, .load (.tmp 35)⟩,
    ⟨some (27, true), some 37, .mv (.tmp 1)⟩,
    ⟨some (27, true), some 38, .bin .leq (.tmp 36) (.tmp 37)⟩,
    ⟨none, some 39, .pick (.tmp 27) (.tmp 38) (.const (.bool false))⟩])
  (.cond (.tmp 39) (.skip) (.exit 0)))
  (.blk 1 (.seq (.rg [⟨none, some 41, .mv (.tmp 0)⟩,
    ⟨none, some 42, .nilck (.tmp 41)⟩,
    ⟨none, some 43, .fieldA 258 (.tmp 42)⟩,
    ⟨none, some 44, .load (.tmp 43)⟩,
    ⟨none, some 45, .mkifc 99 (.tmp 44)⟩,
    ⟨none, some 46, .call 64 [.tmp 45]⟩,
    ⟨none, some 47, .tassert 97 true (.tmp 46)⟩,
    ⟨none, some 40, .mv (.tmp 47)⟩,
    ⟨none, some 48, .extract (.tmp 40) 0⟩,
    ⟨none, some 49, .extract (.tmp 40) 1⟩,
    ⟨none, some 7, .alloc 97 [.p (.v (.int .i64 0)), .p (.v (.int .i64 0)), .p (.v (.int .i64 0)), .p (.v (.int .i64 0)), .p (.v (.int .u8 0)), .p (.v (.int .i64 0))]⟩,
    ⟨none, none, .store 6 (.tmp 7) (.tmp 48)⟩,
    ⟨none, some 8, .mv (.tmp 49)⟩])
  (.seq (.rg [⟨none, some 50, .mv (.tmp 8)⟩])
  (.cond (.tmp 50) (.rg [⟨none, some 51, .mv (.tmp 4)⟩,
    ⟨none, some 52, .fieldA 2 (.tmp 7)⟩,
    ⟨none, some 53, .loadA 4 (.tmp 52)⟩,
    ⟨none, some 54, .bslice false 25 1 4 [.p (.v (.int .i64 0)), .p (.v (.int .i64 0)), .p (.v (.int .u8 0)), .p (.v (.int .i64 0))] [(0, 4, .tmp 53)]⟩,
    ⟨none, some 55, .append 25 4 32 (.tmp 51) (.tmp 54)⟩,
    ⟨none, some 4, .mv (.tmp 55)⟩]) (.skip)))))
def ac58 : AC := .seq (.rg [⟨none, some 4, .mv (.const (.slice none 0 0))⟩,
    ⟨none, some 5, .mv (.const (.int .i64 0))⟩])
  (.seq (.seq (.rg [⟨none, some 9, .mv (.tmp 0)⟩,
    ⟨none, some 10, .mv (.tmp 1)⟩,
    ⟨none, some 11, .call 61 [.tmp 9, .tmp 10]⟩,
    ⟨none, some 6, .mv (.tmp 11)⟩])
  (.seq (.rg [⟨none, some 12, .mv (.tmp 6)⟩,
    ⟨none, some 13, .bin .neq (.tmp 12) (.const (.int .i64 0))⟩])
  (.cond (.tmp 13) (.seq (.rg [⟨none, some 14, .mv (.tmp 6)⟩,
    ⟨none, some 4, .mv (.const (.slice none 0 0))⟩,
    ⟨none, some 5, .mv (.tmp 14)⟩])
  (.ret)) (.skip))))
  (.seq (.rg [⟨none, some 15, .mv (.tmp 0)⟩,
    ⟨none, some 16, .mv (.tmp 1)⟩,
    ⟨none, some 17, .nilck (.tmp 15)⟩,
    ⟨none, some 18, .fieldA 256 (.tmp 17)⟩,
    ⟨none, none, .store 1 (.tmp 18) (.tmp 16)⟩])
  (.seq (.blk 0 (.loop [0, 1, 4] ac58_L0))
  (.seq (.rg [⟨none, some 56, .mv (.tmp 4)⟩,
    ⟨none, some 4, .mv (.tmp 56)⟩,
    ⟨none, some 5, .mv (.const (.int .i64 0))⟩])
  (.ret)))))
theorem ac58_ok : compF Go.Proofs.Try.prog Go.Proofs.Try.f58 ac58 = some (ac58, [.tmp 4, .tmp 5]) := by kernel_rfl

/- slices.ContainsFunc[[]int,int] -/
def ac59 : AC := .seq (.rg [⟨none, some 4, .mv (.const (.bool false))⟩])
  (.seq (.rg [⟨none, some 5, .mv (.tmp 0)⟩,
    ⟨none, some 6, .mv (.tmp 1)⟩,
    ⟨none, some 7, .call 65 [.tmp 5, .tmp 6]⟩,
    ⟨none, some 8, .bin .geq (.tmp 7) (.const (.int .i64 0))⟩,
    ⟨none, some 4, .mv (.tmp 8)⟩])
  (.ret))
theorem ac59_ok : compF Go.Proofs.Try.prog Go.Proofs.Try.f59 ac59 = some (ac59, [.tmp 4]) := by kernel_rfl

/- clearway link.check$1 -/
def ac60 : AC := .seq (.rg [⟨none, some 2, .mv (.const (.bool false))⟩])
  (.seq (.rg [⟨none, some 3, .mv (.tmp 0)⟩,
    ⟨none, some 4, .bin .lss (.tmp 3) (.const (.int .i64 (-1)))⟩,
    ⟨none, some 5, .mv (.tmp 4)⟩,
    ⟨some (5, false), some 6, .mv (.tmp 0)⟩,
    ⟨some (5, false), some 7, .bin .gtr (.tmp 6) (.const (.int .i64 8))⟩,
    ⟨none, some 8, .pick (.tmp 5) (.const (.bool true)) (.tmp 7)⟩,
    ⟨none, some 2, .mv (.tmp 8)⟩])
  (.ret))
theorem ac60_ok : compF Go.Proofs.Try.prog Go.Proofs.Try.f60 ac60 = some (ac60, [.tmp 2]) := by kernel_rfl

/- (*clearway link.Link).at -/
def ac61 : AC := .seq (.rg [⟨none, some 4, .mv (.const (.int .i64 0))⟩])
  (.seq (.blk 0 (.seq (.rg [⟨none, some 6, .mv (.tmp 0)⟩,
    ⟨none, some 7, .eqP false (.tmp 6) (.const (.pointer none))⟩,
    ⟨none, some 8, .mv (.tmp 7)⟩,
    ⟨some (8, false), some 9, .mv (.tmp 0)⟩,
    ⟨some (8, false), some 10, .nilck (.tmp 9)⟩,
    ⟨some (8, false), some 11, .fieldA 258 (.tmp 10)⟩,
    ⟨some (8, false), some 12, .load (.tmp 11)⟩,
    ⟨some (8, false), some 13, .eqP false (.tmp 12) (.const (.pointer none))⟩,
    ⟨none, some 14, .pick (.tmp 8) (.const (.bool true)) (.tmp 13)⟩,
    ⟨none, some 5, .mv (.tmp 14)⟩])
  (.cond (.tmp 5) (.seq (.rg [⟨none, some 4, .mv (.const (.int .i64 11))⟩])
  (.ret)) (.seq (.rg [⟨none, some 16, .mv (.tmp 1)⟩,
    ⟨none, some 17, .bin .lss (.tmp 16) (.const (.int .i64 0))⟩,
    ⟨none, some 18, .mv (.tmp 17)⟩,
    ⟨some (18, false), some 19, .mv (.tmp 1)⟩,
    ⟨some (18, false), some 20, .bin .gtr (.tmp 19) (.const (.int .i64 1099511627776))⟩,
    ⟨none, some 21, .pick (.tmp 18) (.const (.bool true)) (.tmp 20)⟩,
    ⟨none, some 15, .mv (.tmp 21)⟩])
  (.cond (.tmp 15) (.seq (.rg [⟨none, some 4, .mv (.const (.int .i64 1))⟩])
  (.ret)) (.seq (.rg [⟨none, some 23, .mv (.tmp 1)⟩,
    ⟨none, some 24, .mv (.tmp 0)⟩,
    ⟨none, some 25, .nilck (.tmp 24)⟩,
    ⟨none, some 26, .fieldA 256 (.tmp 25)⟩,
    ⟨none, some 27, .load (.tmp 26)⟩,
    ⟨none, some 28, .bin .lss (.tmp 23) (.tmp 27)⟩,
    ⟨none, some 22, .mv (.tmp 28)⟩])
  (.cond (.tmp 22) (.seq (.rg [⟨none, some 4, .mv (.const (.int .i64 12))⟩])
  (.ret)) (.skip))))))))
  (.seq (.rg [⟨none, some 4, .mv (.const (.int .i64 0))⟩])
  (.ret)))
theorem ac61_ok : compF Go.Proofs.Try.prog Go.Proofs.Try.f61 ac61 = some (ac61, [.tmp 4]) := by kernel_rfl

/- (clearway link.queue).Len -/
def ac62 : AC := .seq (.rg [⟨none, some 2, .mv (.const (.int .i64 0))⟩])
  (.seq (.rg [⟨none, some 3, .mv (.tmp 0)⟩,
    ⟨none, some 4, .len (.tmp 3)⟩,
    ⟨none, some 2, .mv (.tmp 4)⟩])
  (.ret))
theorem ac62_ok : compF Go.Proofs.Try.prog Go.Proofs.Try.f62 ac62 = some (ac62, [.tmp 2]) := by kernel_rfl

/- container heap.Push -/
def ac63 : AC := .seq (.rg [⟨none, some 4, .mv (.tmp 0)⟩,
    ⟨none, some 5, .mv (.tmp 1)⟩,
    ⟨none, some 6, .invk [(99, 87, false)] (.tmp 4) [.tmp 5]⟩])
  (.rg [⟨none, some 7, .mv (.tmp 0)⟩,
    ⟨none, some 8, .mv (.tmp 0)⟩,
    ⟨none, some 9, .invk [(99, 62, true)] (.tmp 8) []⟩,
    ⟨none, some 10, .bin .sub (.tmp 9) (.const (.int .i64 1))⟩,
    ⟨none, some 11, .call 66 [.tmp 7, .tmp 10]⟩])
theorem ac63_ok : compF Go.Proofs.Try.prog Go.Proofs.Try.f63 ac63 = some (ac63, []) := by kernel_rfl

/- container heap.Pop -/
def ac64 : AC := .seq (.rg [⟨none, some 2, .mv (.const .nilIface)⟩])
  (.seq (.rg [⟨none, some 4, .mv (.tmp 0)⟩,
    ⟨none, some 5, .invk [(99, 62, true)] (.tmp 4) []⟩,
    ⟨none, some 6, .bin .sub (.tmp 5) (.const (.int .i64 1))⟩,
    ⟨none, some 3, .mv (.tmp 6)⟩])
  (.seq (.rg [⟨none, some 7, .mv (.tmp 0)⟩,
    ⟨none, some 8, .mv (.tmp 3)⟩,
    ⟨none, some 9, .invk [(99, 88, true)] (.tmp 7) [.const (.int .i64 0), .tmp 8]⟩])
  (.seq (.rg [⟨none, some 10, .mv (.tmp 0)⟩,
    ⟨none, some 11, .mv (.tmp 3)⟩,
    ⟨none, some 12, .call 67 [.tmp 10, .const (.int .i64 0), .tmp 11]⟩])
  (.seq (.rg [⟨none, some 13, .mv (.tmp 0)⟩,
    ⟨none, some 14, .invk [(99, 86, false)] (.tmp 13) []⟩,
    ⟨none, some 2, .mv (.tmp 14)⟩])
  (.ret)))))
theorem ac64_ok : compF Go.Proofs.Try.prog Go.Proofs.Try.f64 ac64 = some (ac64, [.tmp 2]) := by kernel_rfl

/- slices.IndexFunc[[]int,int] -/
def ac65_L0 : AC := .seq (.rg [⟨none, some 9, .bin .lss (.tmp 8) (.tmp 7)⟩])
  (.seq (.cond (.tmp 9) (.skip) (.exit 0))
  (.seq (.blk 1 (.seq (.rg [⟨none, some 10, .mv (.tmp 8)⟩,
    ⟨none, some 5, .mv (.tmp 10)⟩])
  (.seq (.rg [⟨none, some 11, .mv (.tmp 1)⟩,
    ⟨none, some 12, .mv (.tmp 0)⟩,
    ⟨none, some 13, .mv (.tmp 5)⟩,
    ⟨none, some 14, .idx 1 (.tmp 12) (.tmp 13)⟩,
    ⟨none, some 15, .load (.tmp 14)⟩,
    ⟨none, some 16, .callv (.tmp 11) [.tmp 15]⟩])
  (.cond (.tmp 16) (.seq (.rg [⟨none, some 17, .mv (.tmp 5)⟩,
    ⟨none, some 4, .mv (.tmp 17)⟩])
  (.ret)) (.skip)))))
  (.rg [⟨none, some 18, .bin .add (.tmp 8) (.const (.int .i64 1))⟩,
    ⟨none, some 8, .mv (.tmp 18)⟩])))
def ac65 : AC := .seq (.rg [⟨none, some 4, .mv (.const (.int .i64 0))⟩])
  (.seq (.seq (.rg [⟨none, some 6, .mv (.tmp 0)⟩,
    ⟨none, some 7, .len (.tmp 6)⟩,
    ⟨none, some 8, .mv (.const (.int .i64 0))⟩])
  (.blk 0 (.loop [0, 1, 7, 8] ac65_L0)))
  (.seq (.rg [⟨none, some 4, .mv (.const (.int .i64 (-1)))⟩])
  (.ret)))
theorem ac65_ok : compF Go.Proofs.Try.prog Go.Proofs.Try.f65 ac65 = some (ac65, [.tmp 4]) := by kernel_rfl

/- container heap.up -/
def ac66_L0 : AC := .blk 1 (.seq (.rg [⟨none, some 5, .mv (.tmp 1)⟩,
    ⟨none, some 6, .bin .sub (.tmp 5) (.const (.int .i64 1))⟩,
    ⟨none, some 7, .bin .quo (.tmp 6) (.const (.int .i64 2))⟩,
    ⟨none, some 4, .mv (.tmp 7)⟩])
  (.seq (.seq (.rg [⟨none, some 8, .mv (.tmp 4)⟩,
    ⟨none, some 9, .mv (.tmp 1)⟩,
    ⟨none, some 10, .bin .eql (.tmp 8) (.tmp 9)⟩,
    ⟨none, some 11, .mv (.tmp 10)⟩,
    ⟨some (11, false), some 12, .mv (.tmp 0)⟩,
    ⟨some (11, false), some 13, .mv (.tmp 1)⟩,
    ⟨some (11, false), some 14, .mv (.tmp 4)⟩,
    ⟨some (11, false), some 15, .invk [(99, 85, true)] (.tmp 12) [.tmp 13, .tmp 14]⟩,
    ⟨some (11, false), some 16, .un .not (.tmp 15)⟩,
    ⟨none, some 17, .pick (.tmp 11) (.const (.bool true)) (.tmp 16)⟩])
  (.cond (.tmp 17) (.exit 0) (.skip)))
  (.seq (.rg [⟨none, some 18, .mv (.tmp 0)⟩,
    ⟨none, some 19, .mv (.tmp 4)⟩,
    ⟨none, some 20, .mv (.tmp 1)⟩,
    ⟨none, some 21, .invk [(99, 88, true)] (.tmp 18) [.tmp 19, .tmp 20]⟩])
  (.rg [⟨none, some 22, .mv (.tmp 4)⟩,
    ⟨none, some 1, .mv (.tmp 22)⟩]))))
def ac66 : AC := .blk 0 (.loop [0, 1] ac66_L0)
theorem ac66_ok : compF Go.Proofs.Try.prog Go.Proofs.Try.f66 ac66 = some (ac66, []) := by kernel_rfl

/- container heap.down -/
def ac67_L0 : AC := .blk 1 (.seq (.rg [⟨none, some 12, .mv (.tmp 7)⟩,
    ⟨none, some 13, .bin .mul (.const (.int .i64 2)) (.tmp 12)⟩,
    ⟨none, some 14, .bin .add (.tmp 13) (.const (.int .i64 1))⟩,
    ⟨none, some 8, .mv (.tmp 14)⟩])
  (.seq (.seq (.rg [⟨none, some 15, .mv (.tmp 8)⟩,
    ⟨none, some 16, .mv (.tmp 2)⟩,
    ⟨none, some 17, .bin .geq (.tmp 15) (.tmp 16)⟩,
    ⟨none, some 18, .mv (.tmp 17)⟩,
    ⟨some (18, false), some 19, .mv (.tmp 8)⟩,
    ⟨some (18, false), some 20, .bin .lss (.tmp 19) (.const (.int .i64 0))⟩,
    ⟨none, some 21, .pick (.tmp 18) (.const (.bool true)) (.tmp 20)⟩])
  (.cond (.tmp 21) (.exit 0) (.skip)))
  (.seq (.rg [⟨none, some 22, .mv (.tmp 8)⟩,
    ⟨none, some 9, .mv (.tmp 22)⟩])
  (.seq (.seq (.rg [⟨none, some 23, .mv (.tmp 8)⟩,
    ⟨none, some 24, .bin .add (.tmp 23) (.const (.int .i64 1))⟩,
    ⟨none, some 10, .mv (.tmp 24)⟩])
  (.seq (.rg [⟨none, some 25, .mv (.tmp 10)⟩,
    ⟨none, some 26, .mv (.tmp 2)⟩,
    ⟨none, some 27, .bin .lss (.tmp 25) (.tmp 26)⟩,
    ⟨none, some 28, .mv (.tmp 27)⟩,
    ⟨some (28, true), some 29, .mv (.tmp 0)⟩,
    ⟨some (28, true), some 30, .mv (.tmp 10)⟩,
    ⟨some (28, true), some 31, .mv (.tmp 8)⟩,
    ⟨some (28, true), some 32, .invk [(99, 85, true)] (.tmp 29) [.tmp 30, .tmp 31]⟩,
    ⟨none, some 33, .pick (.tmp 28) (.tmp 32) (.const (.bool false))⟩])
  (.cond (.tmp 33) (.rg [⟨none, some 34, .mv (.tmp 10)⟩,
    ⟨none, some 9, .mv (.tmp 34)⟩]) (.skip))))
  (.seq (.seq (.rg [⟨none, some 35, .mv (.tmp 0)⟩,
    ⟨none, some 36, .mv (.tmp 9)⟩,
    ⟨none, some 37, .mv (.tmp 7)⟩,
    ⟨none, some 38, .invk [(99, 85, true)] (.tmp 35) [.tmp 36, .tmp 37]⟩,
    ⟨none, some 39, .un .not (.tmp 38)⟩])
  (.cond (.tmp 39) (.exit 0) (.skip)))
  (.seq (.rg [⟨none, some 40, .mv (.tmp 0)⟩,
    ⟨none, some 41, .mv (.tmp 7)⟩,
    ⟨none, some 42, .mv (.tmp 9)⟩,
    ⟨none, some 43, .invk [(99, 88, true)] (.tmp 40) [.tmp 41, .tmp 42]⟩])
  (.rg [⟨none, some 44, .mv (.tmp 9)⟩,
    ⟨none, some 7, .mv (.tmp 44)⟩])))))))
def ac67 : AC := .seq (.rg [⟨none, some 6, .mv (.const (.bool false))⟩])
  (.seq (.rg [⟨none, some 11, .mv (.tmp 1)⟩,
    ⟨none, some 7, .mv (.tmp 11)⟩])
  (.seq (.blk 0 (.loop [0, 1, 2, 7] ac67_L0))
  (.seq (.rg [⟨none, some 45, .mv (.tmp 7)⟩,
    ⟨none, some 46, .mv (.tmp 1)⟩,
    ⟨none, some 47, .bin .gtr (.tmp 45) (.tmp 46)⟩,
    ⟨none, some 6, .mv (.tmp 47)⟩])
  (.ret))))
theorem ac67_ok : compF Go.Proofs.Try.prog Go.Proofs.Try.f67 ac67 = some (ac67, [.tmp 6]) := by kernel_rfl

/- (clearway link.queue).Less -/
def ac85 : AC := .seq (.rg [⟨none, some 6, .mv (.const (.bool false))⟩])
  (.seq (.dr [(false, [(0, 0), (1, 0), (2, 0), (3, 0), (4, 0), (5, 0), (6, 0), (7, 0)], [⟨none, some 7, .mv (.tmp 0)⟩,
    ⟨none, some 8, .mv (.tmp 1)⟩,
    ⟨none, some 9, .idx 6 (.tmp 7) (.tmp 8)⟩,
    ⟨none, some 10, .loadA 6 (.tmp 9)⟩,
    ⟨none, some 11, .mv (.tmp 0)⟩,
    ⟨none, some 12, .mv (.tmp 2)⟩,
    ⟨none, some 13, .idx 6 (.tmp 11) (.tmp 12)⟩,
    ⟨none, some 14, .loadA 6 (.tmp 13)⟩]),
   (true, [(8, 0), (9, 0)], [⟨none, some 15, .call 89 [.tmp 10, .tmp 14]⟩,
    ⟨none, some 6, .mv (.tmp 15)⟩])])
  (.ret))
theorem ac85_ok : compF Go.Proofs.Try.prog Go.Proofs.Try.f85 ac85 = some (ac85, [.tmp 6]) := by kernel_rfl

/- (*clearway link.queue).Pop -/
def ac86 : AC := .seq (.rg [⟨none, some 2, .mv (.const .nilIface)⟩])
  (.seq (.rg [⟨none, some 5, .mv (.tmp 0)⟩,
    ⟨none, some 6, .nilck (.tmp 5)⟩,
    ⟨none, some 7, .load (.tmp 6)⟩,
    ⟨none, some 8, .len (.tmp 7)⟩,
    ⟨none, some 9, .bin .sub (.tmp 8) (.const (.int .i64 1))⟩,
    ⟨none, some 3, .mv (.tmp 9)⟩])
  (.seq (.rg [⟨none, some 10, .mv (.tmp 0)⟩,
    ⟨none, some 11, .nilck (.tmp 10)⟩,
    ⟨none, some 12, .load (.tmp 11)⟩,
    ⟨none, some 13, .mv (.tmp 3)⟩,
    ⟨none, some 14, .idx 6 (.tmp 12) (.tmp 13)⟩,
    ⟨none, some 15, .loadA 6 (.tmp 14)⟩,
    ⟨none, some 4, .alloc 97 [.p (.v (.int .i64 0)), .p (.v (.int .i64 0)), .p (.v (.int .i64 0)), .p (.v (.int .i64 0)), .p (.v (.int .u8 0)), .p (.v (.int .i64 0))]⟩,
    ⟨none, none, .store 6 (.tmp 4) (.tmp 15)⟩])
  (.seq (.rg [⟨none, some 16, .mv (.tmp 0)⟩,
    ⟨none, some 17, .mv (.tmp 0)⟩,
    ⟨none, some 18, .nilck (.tmp 17)⟩,
    ⟨none, some 19, .load (.tmp 18)⟩,
    ⟨none, some 20, .mv (.tmp 3)⟩,
    ⟨none, some 21, .slice 6 (.tmp 19) none (some (.tmp 20))⟩,
    ⟨none, some 22, .nilck (.tmp 16)⟩,
    ⟨none, none, .store 1 (.tmp 22) (.tmp 21)⟩])
  (.seq (.rg [⟨none, some 23, .loadA 6 (.tmp 4)⟩,
    ⟨none, some 24, .mkifc 97 (.tmp 23)⟩,
    ⟨none, some 2, .mv (.tmp 24)⟩])
  (.ret)))))
theorem ac86_ok : compF Go.Proofs.Try.prog Go.Proofs.Try.f86 ac86 = some (ac86, [.tmp 2]) := by kernel_rfl

/- (*clearway link.queue).Push -/
def ac87 : AC := .dr [(false, [(0, 0), (1, 0), (2, 0), (3, 0), (4, 0), (5, 0), (6, 0), (7, 1)], [⟨none, some 4, .mv (.tmp 0)⟩,
    ⟨none, some 5, .mv (.tmp 0)⟩,
    ⟨none, some 6, .nilck (.tmp 5)⟩,
    ⟨none, some 7, .load (.tmp 6)⟩,
    ⟨none, some 8, .mv (.tmp 1)⟩,
    ⟨none, some 9, .tassert 97 false (.tmp 8)⟩,
    ⟨none, some 10, .bslice false 97 1 6 [.p (.v (.int .i64 0)), .p (.v (.int .i64 0)), .p (.v (.int .i64 0)), .p (.v (.int .i64 0)), .p (.v (.int .u8 0)), .p (.v (.int .i64 0))] [(0, 6, .tmp 9)]⟩,
    ⟨none, some 11, .append 97 6 48 (.tmp 7) (.tmp 10)⟩]),
   (true, [(8, 0), (9, 0)], [⟨none, some 12, .nilck (.tmp 4)⟩,
    ⟨none, none, .store 1 (.tmp 12) (.tmp 11)⟩])]
theorem ac87_ok : compF Go.Proofs.Try.prog Go.Proofs.Try.f87 ac87 = some (ac87, []) := by kernel_rfl

/- (clearway link.queue).Swap -/
def ac88 : AC := .dr [(false, [(0, 0), (1, 0), (2, 0), (3, 0), (4, 0), (5, 0), (6, 0), (7, 0), (8, 0), (9, 0), (10, 0), (11, 0), (12, 0), (13, 1)], [⟨none, some 6, .mv (.tmp 0)⟩,
    ⟨none, some 7, .mv (.tmp 1)⟩,
    ⟨none, some 8, .mv (.tmp 0)⟩,
    ⟨none, some 9, .mv (.tmp 2)⟩,
    ⟨none, some 10, .mv (.tmp 0)⟩,
    ⟨none, some 11, .mv (.tmp 2)⟩,
    ⟨none, some 12, .idx 6 (.tmp 10) (.tmp 11)⟩,
    ⟨none, some 13, .loadA 6 (.tmp 12)⟩,
    ⟨none, some 14, .mv (.tmp 0)⟩,
    ⟨none, some 15, .mv (.tmp 1)⟩,
    ⟨none, some 16, .idx 6 (.tmp 14) (.tmp 15)⟩,
    ⟨none, some 17, .loadA 6 (.tmp 16)⟩,
    ⟨none, some 18, .idx 6 (.tmp 6) (.tmp 7)⟩,
    ⟨none, none, .store 6 (.tmp 18) (.tmp 13)⟩]),
   (true, [(14, 0), (15, 0)], [⟨none, some 19, .idx 6 (.tmp 8) (.tmp 9)⟩,
    ⟨none, none, .store 6 (.tmp 19) (.tmp 17)⟩])]
theorem ac88_ok : compF Go.Proofs.Try.prog Go.Proofs.Try.f88 ac88 = some (ac88, []) := by kernel_rfl

/- clearway link.before -/
def ac89 : AC := .seq (.rg [⟨none, some 2, .box 97 (.tmp 0)⟩,
    ⟨none, some 3, .box 97 (.tmp 1)⟩,
    ⟨none, some 4, .mv (.const (.bool false))⟩])
  (.seq (.rg [⟨none, some 5, .fieldA 0 (.tmp 2)⟩,
    ⟨none, some 6, .load (.tmp 5)⟩,
    ⟨none, some 7, .fieldA 0 (.tmp 3)⟩,
    ⟨none, some 8, .load (.tmp 7)⟩,
    ⟨none, some 9, .bin .lss (.tmp 6) (.tmp 8)⟩,
    ⟨none, some 10, .mv (.tmp 9)⟩,
    ⟨some (10, false), some 11, .fieldA 0 (.tmp 2)⟩,
    ⟨some (10, false), some 12, .load (.tmp 11)⟩,
    ⟨some (10, false), some 13, .fieldA 0 (.tmp 3)⟩,
    ⟨some (10, false), some 14, .load (.tmp 13)⟩,
    ⟨some (10, false), some 15, .bin .eql (.tmp 12) (.tmp 14)⟩,
    ⟨some (10, false), some 16, .mv (.tmp 15)⟩,
    ⟨some (16, true), some 17, .fieldA 1 (.tmp 2)⟩,
    ⟨some (16, true), some 18, .load (.tmp 17)⟩,
    ⟨some (16, true), some 19, .fieldA 1 (.tmp 3)⟩,
    ⟨some (16, true), some 20, .load (.tmp 19)⟩,
    ⟨some (16, true), some 21, .bin .lss (.tmp 18) (.tmp 20)⟩,
    ⟨some (10, false), some 22, .pick (.tmp 16) (.tmp 21) (.const (.bool false))⟩,
    ⟨none, some 23, .pick (.tmp 10) (.const (.bool true)) (.tmp 22)⟩,
    ⟨none, some 4, .mv (.tmp 23)⟩])
  (.ret))
theorem ac89_ok : compF Go.Proofs.Try.prog Go.Proofs.Try.f89 ac89 = some (ac89, [.tmp 4]) := by kernel_rfl

noncomputable def t34tbl : Tbl :=
  tcons 3 (ac3, [.tmp 6], 121) <|
  tcons 10 (ac10, [.tmp 6], 86) <|
  tcons 11 (ac11, [.cell 4 (some 6), .tmp 5], 23) <|
  tcons 12 (ac12, [.cell 4 (some 6), .tmp 5], 38) <|
  tcons 13 (ac13, [.cell 4 (some 6), .tmp 5], 55) <|
  tcons 14 (ac14, [.cell 4 (some 6), .tmp 5], 65) <|
  tcons 15 (ac15, [.cell 2 (some 4), .tmp 3], 24) <|
  tcons 16 (ac16, [.cell 2 (some 4), .tmp 3], 24) <|
  tcons 17 (ac17, [.cell 4 (some 6), .tmp 5], 18) <|
  tcons 18 (ac18, [.cell 4 (some 6), .tmp 5], 14) <|
  tcons 19 (ac19, [.tmp 2], 59) <|
  tcons 20 (ac20, [.tmp 2], 53) <|
  tcons 21 (ac21, [.tmp 0], 103) <|
  tcons 23 (ac23, [.tmp 10, .tmp 11], 114) <|
  tcons 25 (ac25, [.tmp 4], 11) <|
  tcons 26 (ac26, [.tmp 4], 17) <|
  tcons 31 (ac31, [.cell 4 (some 6), .tmp 5], 24) <|
  tcons 32 (ac32, [.tmp 4], 17) <|
  tcons 33 (ac33, [.tmp 4], 12) <|
  tcons 34 (ac34, [.cell 4 (some 6), .tmp 5], 22) <|
  tcons 35 (ac35, [.tmp 2], 5) <|
  tcons 36 (ac36, [.tmp 2], 35) <|
  tcons 37 (ac37, [.tmp 2], 39) <|
  tcons 38 (ac38, [.tmp 4], 24) <|
  tcons 39 (ac39, [.tmp 4], 12) <|
  tcons 40 (ac40, [.tmp 2], 8) <|
  tcons 44 (ac44, [.tmp 4], 9) <|
  tcons 45 (ac45, [.tmp 2], 9) <|
  tcons 46 (ac46, [.tmp 2, .tmp 3], 22) <|
  tcons 47 (ac47, [], 17) <|
  tcons 48 (ac48, [], 24) <|
  tcons 49 (ac49, [], 37) <|
  tcons 50 (ac50, [.tmp 4], 12) <|
  tcons 51 (ac51, [.tmp 2], 9) <|
  tcons 55 (ac55, [.tmp 4], 19) <|
  tcons 56 (ac56, [.tmp 2], 10) <|
  tcons 57 (ac57, [.tmp 6], 72) <|
  tcons 58 (ac58, [.tmp 4, .tmp 5], 57) <|
  tcons 59 (ac59, [.tmp 4], 9) <|
  tcons 60 (ac60, [.tmp 2], 9) <|
  tcons 61 (ac61, [.tmp 4], 29) <|
  tcons 62 (ac62, [.tmp 2], 5) <|
  tcons 63 (ac63, [], 12) <|
  tcons 64 (ac64, [.tmp 2], 15) <|
  tcons 65 (ac65, [.tmp 4], 19) <|
  tcons 66 (ac66, [], 23) <|
  tcons 67 (ac67, [.tmp 6], 48) <|
  tcons 85 (ac85, [.tmp 6], 16) <|
  tcons 86 (ac86, [.tmp 2], 25) <|
  tcons 87 (ac87, [], 13) <|
  tcons 88 (ac88, [], 20) <|
  tcons 89 (ac89, [.tmp 4], 24) <|
  fun _ => none
theorem t34tbl_ok : TblOK Go.Proofs.Try.prog t34tbl :=
  .cons Go.Proofs.Try.call3 Go.Proofs.Try.func3 ac3_ok (by rw [Go.Proofs.Try.ntmps3]; exact Nat.le_refl _) <|
  .cons Go.Proofs.Try.call10 Go.Proofs.Try.func10 ac10_ok (by rw [Go.Proofs.Try.ntmps10]; exact Nat.le_refl _) <|
  .cons Go.Proofs.Try.call11 Go.Proofs.Try.func11 ac11_ok (by rw [Go.Proofs.Try.ntmps11]; exact Nat.le_refl _) <|
  .cons Go.Proofs.Try.call12 Go.Proofs.Try.func12 ac12_ok (by rw [Go.Proofs.Try.ntmps12]; exact Nat.le_refl _) <|
  .cons Go.Proofs.Try.call13 Go.Proofs.Try.func13 ac13_ok (by rw [Go.Proofs.Try.ntmps13]; exact Nat.le_refl _) <|
  .cons Go.Proofs.Try.call14 Go.Proofs.Try.func14 ac14_ok (by rw [Go.Proofs.Try.ntmps14]; exact Nat.le_refl _) <|
  .cons Go.Proofs.Try.call15 Go.Proofs.Try.func15 ac15_ok (by rw [Go.Proofs.Try.ntmps15]; exact Nat.le_refl _) <|
  .cons Go.Proofs.Try.call16 Go.Proofs.Try.func16 ac16_ok (by rw [Go.Proofs.Try.ntmps16]; exact Nat.le_refl _) <|
  .cons Go.Proofs.Try.call17 Go.Proofs.Try.func17 ac17_ok (by rw [Go.Proofs.Try.ntmps17]; exact Nat.le_refl _) <|
  .cons Go.Proofs.Try.call18 Go.Proofs.Try.func18 ac18_ok (by rw [Go.Proofs.Try.ntmps18]; exact Nat.le_refl _) <|
  .cons Go.Proofs.Try.call19 Go.Proofs.Try.func19 ac19_ok (by rw [Go.Proofs.Try.ntmps19]; exact Nat.le_refl _) <|
  .cons Go.Proofs.Try.call20 Go.Proofs.Try.func20 ac20_ok (by rw [Go.Proofs.Try.ntmps20]; exact Nat.le_refl _) <|
  .cons Go.Proofs.Try.call21 Go.Proofs.Try.func21 ac21_ok (by rw [Go.Proofs.Try.ntmps21]; exact Nat.le_refl _) <|
  .cons Go.Proofs.Try.call23 Go.Proofs.Try.func23 ac23_ok (by rw [Go.Proofs.Try.ntmps23]; exact Nat.le_refl _) <|
  .cons Go.Proofs.Try.call25 Go.Proofs.Try.func25 ac25_ok (by rw [Go.Proofs.Try.ntmps25]; exact Nat.le_refl _) <|
  .cons Go.Proofs.Try.call26 Go.Proofs.Try.func26 ac26_ok (by rw [Go.Proofs.Try.ntmps26]; exact Nat.le_refl _) <|
  .cons Go.Proofs.Try.call31 Go.Proofs.Try.func31 ac31_ok (by rw [Go.Proofs.Try.ntmps31]; exact Nat.le_refl _) <|
  .cons Go.Proofs.Try.call32 Go.Proofs.Try.func32 ac32_ok (by rw [Go.Proofs.Try.ntmps32]; exact Nat.le_refl _) <|
  .cons Go.Proofs.Try.call33 Go.Proofs.Try.func33 ac33_ok (by rw [Go.Proofs.Try.ntmps33]; exact Nat.le_refl _) <|
  .cons Go.Proofs.Try.call34 Go.Proofs.Try.func34 ac34_ok (by rw [Go.Proofs.Try.ntmps34]; exact Nat.le_refl _) <|
  .cons Go.Proofs.Try.call35 Go.Proofs.Try.func35 ac35_ok (by rw [Go.Proofs.Try.ntmps35]; exact Nat.le_refl _) <|
  .cons Go.Proofs.Try.call36 Go.Proofs.Try.func36 ac36_ok (by rw [Go.Proofs.Try.ntmps36]; exact Nat.le_refl _) <|
  .cons Go.Proofs.Try.call37 Go.Proofs.Try.func37 ac37_ok (by rw [Go.Proofs.Try.ntmps37]; exact Nat.le_refl _) <|
  .cons Go.Proofs.Try.call38 Go.Proofs.Try.func38 ac38_ok (by rw [Go.Proofs.Try.ntmps38]; exact Nat.le_refl _) <|
  .cons Go.Proofs.Try.call39 Go.Proofs.Try.func39 ac39_ok (by rw [Go.Proofs.Try.ntmps39]; exact Nat.le_refl _) <|
  .cons Go.Proofs.Try.call40 Go.Proofs.Try.func40 ac40_ok (by rw [Go.Proofs.Try.ntmps40]; exact Nat.le_refl _) <|
  .cons Go.Proofs.Try.call44 Go.Proofs.Try.func44 ac44_ok (by rw [Go.Proofs.Try.ntmps44]; exact Nat.le_refl _) <|
  .cons Go.Proofs.Try.call45 Go.Proofs.Try.func45 ac45_ok (by rw [Go.Proofs.Try.ntmps45]; exact Nat.le_refl _) <|
  .cons Go.Proofs.Try.call46 Go.Proofs.Try.func46 ac46_ok (by rw [Go.Proofs.Try.ntmps46]; exact Nat.le_refl _) <|
  .cons Go.Proofs.Try.call47 Go.Proofs.Try.func47 ac47_ok (by rw [Go.Proofs.Try.ntmps47]; exact Nat.le_refl _) <|
  .cons Go.Proofs.Try.call48 Go.Proofs.Try.func48 ac48_ok (by rw [Go.Proofs.Try.ntmps48]; exact Nat.le_refl _) <|
  .cons Go.Proofs.Try.call49 Go.Proofs.Try.func49 ac49_ok (by rw [Go.Proofs.Try.ntmps49]; exact Nat.le_refl _) <|
  .cons Go.Proofs.Try.call50 Go.Proofs.Try.func50 ac50_ok (by rw [Go.Proofs.Try.ntmps50]; exact Nat.le_refl _) <|
  .cons Go.Proofs.Try.call51 Go.Proofs.Try.func51 ac51_ok (by rw [Go.Proofs.Try.ntmps51]; exact Nat.le_refl _) <|
  .cons Go.Proofs.Try.call55 Go.Proofs.Try.func55 ac55_ok (by rw [Go.Proofs.Try.ntmps55]; exact Nat.le_refl _) <|
  .cons Go.Proofs.Try.call56 Go.Proofs.Try.func56 ac56_ok (by rw [Go.Proofs.Try.ntmps56]; exact Nat.le_refl _) <|
  .cons Go.Proofs.Try.call57 Go.Proofs.Try.func57 ac57_ok (by rw [Go.Proofs.Try.ntmps57]; exact Nat.le_refl _) <|
  .cons Go.Proofs.Try.call58 Go.Proofs.Try.func58 ac58_ok (by rw [Go.Proofs.Try.ntmps58]; exact Nat.le_refl _) <|
  .cons Go.Proofs.Try.call59 Go.Proofs.Try.func59 ac59_ok (by rw [Go.Proofs.Try.ntmps59]; exact Nat.le_refl _) <|
  .cons Go.Proofs.Try.call60 Go.Proofs.Try.func60 ac60_ok (by rw [Go.Proofs.Try.ntmps60]; exact Nat.le_refl _) <|
  .cons Go.Proofs.Try.call61 Go.Proofs.Try.func61 ac61_ok (by rw [Go.Proofs.Try.ntmps61]; exact Nat.le_refl _) <|
  .cons Go.Proofs.Try.call62 Go.Proofs.Try.func62 ac62_ok (by rw [Go.Proofs.Try.ntmps62]; exact Nat.le_refl _) <|
  .cons Go.Proofs.Try.call63 Go.Proofs.Try.func63 ac63_ok (by rw [Go.Proofs.Try.ntmps63]; exact Nat.le_refl _) <|
  .cons Go.Proofs.Try.call64 Go.Proofs.Try.func64 ac64_ok (by rw [Go.Proofs.Try.ntmps64]; exact Nat.le_refl _) <|
  .cons Go.Proofs.Try.call65 Go.Proofs.Try.func65 ac65_ok (by rw [Go.Proofs.Try.ntmps65]; exact Nat.le_refl _) <|
  .cons Go.Proofs.Try.call66 Go.Proofs.Try.func66 ac66_ok (by rw [Go.Proofs.Try.ntmps66]; exact Nat.le_refl _) <|
  .cons Go.Proofs.Try.call67 Go.Proofs.Try.func67 ac67_ok (by rw [Go.Proofs.Try.ntmps67]; exact Nat.le_refl _) <|
  .cons Go.Proofs.Try.call85 Go.Proofs.Try.func85 ac85_ok (by rw [Go.Proofs.Try.ntmps85]; exact Nat.le_refl _) <|
  .cons Go.Proofs.Try.call86 Go.Proofs.Try.func86 ac86_ok (by rw [Go.Proofs.Try.ntmps86]; exact Nat.le_refl _) <|
  .cons Go.Proofs.Try.call87 Go.Proofs.Try.func87 ac87_ok (by rw [Go.Proofs.Try.ntmps87]; exact Nat.le_refl _) <|
  .cons Go.Proofs.Try.call88 Go.Proofs.Try.func88 ac88_ok (by rw [Go.Proofs.Try.ntmps88]; exact Nat.le_refl _) <|
  .cons Go.Proofs.Try.call89 Go.Proofs.Try.func89 ac89_ok (by rw [Go.Proofs.Try.ntmps89]; exact Nat.le_refl _) <|
  .nil
end Go.Ab
