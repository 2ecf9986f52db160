/- The codes of functions of this seat, as annotated, compared with the program by the kernel. No conditions. -/
import Derived.Test.YtchmkekndbfflaaProg
import Derived.Test.YtchmkekndbfflaaAbE
import Derived.Test.YtchmkekndbfflaaCod1
set_option linter.unusedVariables false
set_option linter.unusedSimpArgs false
namespace Go.Ab
/- clearway clearwayref33.New -/
def ac12 (q : Option (Nat × Nat)) : AC := .seq (.rg [⟨none, some 2, .mv (.const (.pointer none))⟩,
    ⟨none, some 3, .mv (.const (.int .i64 0))⟩])
  (.seq (.seq (.rg [⟨none, some 5, .mv (.tmp 0)⟩,
    ⟨none, some 6, .call 31 [.tmp 5]⟩,
    ⟨none, some 4, .mv (.tmp 6)⟩])
  (.seq (.rg [⟨none, some 7, .mv (.tmp 4)⟩,
    ⟨none, some 8, .bin .neq (.tmp 7) (.const (.int .i64 0))⟩])
  (.cond (.tmp 8) (.seq (.rg [⟨none, some 9, .mv (.tmp 4)⟩,
    ⟨none, some 2, .mv (.const (.pointer none))⟩,
    ⟨none, some 3, .mv (.tmp 9)⟩])
  (.ret)) (.skip))))
  (.seq (.rg [⟨none, some 10, .bslice true 3 0 1 [.p (.v (.int .i64 0))] []⟩,
    ⟨none, some 11, .mv (.tmp 0)⟩,
    ⟨none, some 12, .append 3 1 8 (.tmp 10) (.tmp 11)⟩,
    ⟨none, some 13, .build [.p (.sl (some true) 0 []), .p (.v (.int .i64 0)), .p (.sl (some true) 0 []), .p (.sl (some true) 0 [])] [(0, 1, .tmp 12)]⟩,
    ⟨none, some 14, .box 47 (.tmp 13)⟩,
    ⟨none, some 2, .mv (.tmp 14)⟩,
    ⟨none, some 3, .mv (.const (.int .i64 0))⟩])
  (.ret)))
theorem ac12_ok (q : Option (Nat × Nat)) : compF Go.Proofs.Try.prog Go.Proofs.Try.f12 (ac12 q) = some (ac12 q, [.tmp 2, .tmp 3]) := by kernel_rfl

/- (*clearway link.Link).Send -/
def ac13 (q : Option (Nat × Nat)) : AC := .seq (.rg [⟨none, some 5, .box 33 (.tmp 2)⟩,
    ⟨none, some 6, .mv (.const (.int .i64 0))⟩])
  (.seq (.seq (.rg [⟨none, some 10, .mv (.tmp 0)⟩,
    ⟨none, some 11, .mv (.tmp 1)⟩,
    ⟨none, some 12, .call 32 [.tmp 10, .tmp 11]⟩,
    ⟨none, some 7, .mv (.tmp 12)⟩])
  (.seq (.rg [⟨none, some 13, .mv (.tmp 7)⟩,
    ⟨none, some 14, .bin .neq (.tmp 13) (.const (.int .i64 0))⟩])
  (.cond (.tmp 14) (.seq (.rg [⟨none, some 15, .mv (.tmp 7)⟩,
    ⟨none, some 6, .mv (.tmp 15)⟩])
  (.ret)) (.skip))))
  (.seq (.seq (.rg [⟨none, some 16, .loadA 4 (.tmp 5)⟩,
    ⟨none, some 17, .call 33 [.tmp 16]⟩,
    ⟨none, some 8, .mv (.tmp 17)⟩])
  (.seq (.rg [⟨none, some 18, .mv (.tmp 8)⟩,
    ⟨none, some 19, .bin .neq (.tmp 18) (.const (.int .i64 0))⟩])
  (.cond (.tmp 19) (.seq (.rg [⟨none, some 20, .mv (.tmp 8)⟩,
    ⟨none, some 6, .mv (.tmp 20)⟩])
  (.ret)) (.skip))))
  (.seq (.rg [⟨none, some 9, .mv (.const (.int .i64 0))⟩])
  (.seq (.seq (.rg [⟨none, some 21, .mv (.tmp 0)⟩,
    ⟨none, some 22, .nilck (.tmp 21)⟩,
    ⟨none, some 23, .fieldA 257 (.tmp 22)⟩,
    ⟨none, some 24, .load (.tmp 23)⟩,
    ⟨none, some 25, .bin .lss (.tmp 24) (.const (.int .i64 256))⟩])
  (.cond (.tmp 25) (.dr [(false, [(0, 0), (1, 0), (2, 0), (3, 0), (4, 0), (5, 0), (6, 0)], [⟨none, some 26, .mv (.tmp 0)⟩,
    ⟨none, some 27, .mv (.tmp 0)⟩,
    ⟨none, some 28, .nilck (.tmp 27)⟩,
    ⟨none, some 29, .fieldA 257 (.tmp 28)⟩,
    ⟨none, some 30, .load (.tmp 29)⟩,
    ⟨none, some 31, .nilck (.tmp 26)⟩,
    ⟨none, some 32, .fieldA 0 (.tmp 31)⟩]),
   (true, [(7, 0), (8, 0), (9, 0)], [⟨none, some 33, .idxA 256 1 (.tmp 32) (.tmp 30)⟩,
    ⟨none, some 34, .load (.tmp 33)⟩,
    ⟨none, some 9, .mv (.tmp 34)⟩])]) (.skip)))
  (.seq (.seq (.rg [⟨none, some 35, .mv (.tmp 9)⟩,
    ⟨none, some 36, .bin .neq (.tmp 35) (.const (.int .i64 (-1)))⟩])
  (.cond (.tmp 36) (.seq (.seq (.rg [⟨none, some 37, .mv (.tmp 0)⟩,
    ⟨none, some 38, .nilck (.tmp 37)⟩,
    ⟨none, some 39, .fieldA 258 (.tmp 38)⟩,
    ⟨none, some 40, .load (.tmp 39)⟩,
    ⟨none, some 41, .nilck (.tmp 40)⟩,
    ⟨none, some 42, .load (.tmp 41)⟩,
    ⟨none, some 43, .call 34 [.tmp 42]⟩,
    ⟨none, some 44, .bin .eql (.tmp 43) (.const (.int .i64 64))⟩])
  (.cond (.tmp 44) (.seq (.rg [⟨none, some 6, .mv (.const (.int .i64 17))⟩])
  (.ret)) (.skip)))
  (.dr [(false, [(0, 0), (1, 0), (2, 0), (3, 0), (4, 0), (5, 0), (6, 0), (7, 0), (8, 0), (9, 0), (10, 0), (11, 0), (12, 0), (13, 0), (14, 0)], [⟨none, some 45, .mv (.tmp 0)⟩,
    ⟨none, some 46, .nilck (.tmp 45)⟩,
    ⟨none, some 47, .fieldA 258 (.tmp 46)⟩,
    ⟨none, some 48, .load (.tmp 47)⟩,
    ⟨none, some 49, .mkifc 69 (.tmp 48)⟩,
    ⟨none, some 50, .mv (.tmp 1)⟩,
    ⟨none, some 51, .mv (.tmp 9)⟩,
    ⟨none, some 52, .bin .add (.tmp 50) (.tmp 51)⟩,
    ⟨none, some 53, .mv (.tmp 0)⟩,
    ⟨none, some 54, .nilck (.tmp 53)⟩,
    ⟨none, some 55, .fieldA 257 (.tmp 54)⟩,
    ⟨none, some 56, .load (.tmp 55)⟩,
    ⟨none, some 57, .loadA 4 (.tmp 5)⟩,
    ⟨none, some 58, .build [.p (.v (.int .i64 0)), .p (.v (.int .i64 0)), .p (.v (.int .i64 0)), .p (.v (.int .i64 0)), .p (.v (.int .u8 0)), .p (.v (.int .i64 0))] [(0, 1, .tmp 52), (1, 1, .tmp 56), (2, 4, .tmp 57)]⟩,
    ⟨none, some 59, .mkifc 49 (.tmp 58)⟩]),
   (true, [(15, 0)], [⟨none, some 60, .call 35 [.tmp 49, .tmp 59]⟩])])) (.skip)))
  (.seq (.rg [⟨none, some 61, .mv (.tmp 0)⟩,
    ⟨none, some 62, .mv (.tmp 1)⟩,
    ⟨none, some 63, .nilck (.tmp 61)⟩,
    ⟨none, some 64, .fieldA 256 (.tmp 63)⟩,
    ⟨none, none, .store 1 (.tmp 64) (.tmp 62)⟩])
  (.seq (.rg [⟨none, some 65, .mv (.tmp 0)⟩,
    ⟨none, some 66, .nilck (.tmp 65)⟩,
    ⟨none, some 67, .fieldA 257 (.tmp 66)⟩,
    ⟨none, some 68, .load (.tmp 67)⟩,
    ⟨none, some 69, .bin .add (.tmp 68) (.const (.int .i64 1))⟩,
    ⟨none, some 70, .nilck (.tmp 65)⟩,
    ⟨none, some 71, .fieldA 257 (.tmp 70)⟩,
    ⟨none, none, .store 1 (.tmp 71) (.tmp 69)⟩])
  (.seq (.rg [⟨none, some 6, .mv (.const (.int .i64 0))⟩])
  (.ret)))))))))
theorem ac13_ok (q : Option (Nat × Nat)) : compF Go.Proofs.Try.prog Go.Proofs.Try.f13 (ac13 q) = some (ac13 q, [.tmp 6]) := by kernel_rfl

/- (*clearway clearwayref33.Link).Send -/
def ac14 (q : Option (Nat × Nat)) : AC := .seq (.rg [⟨none, some 5, .box 33 (.tmp 2)⟩,
    ⟨none, some 6, .mv (.const (.int .i64 0))⟩])
  (.seq (.rg [⟨none, some 10, .mv (.tmp 0)⟩,
    ⟨none, some 11, .mv (.tmp 1)⟩,
    ⟨none, some 12, .call 36 [.tmp 10, .tmp 11]⟩,
    ⟨none, some 7, .mv (.tmp 12)⟩])
  (.seq (.seq (.rg [⟨none, some 13, .mv (.tmp 7)⟩,
    ⟨none, some 14, .bin .eql (.tmp 13) (.const (.int .i64 0))⟩])
  (.cond (.tmp 14) (.rg [⟨none, some 15, .loadA 4 (.tmp 5)⟩,
    ⟨none, some 16, .call 37 [.tmp 15]⟩,
    ⟨none, some 7, .mv (.tmp 16)⟩]) (.skip)))
  (.seq (.seq (.rg [⟨none, some 17, .mv (.tmp 7)⟩,
    ⟨none, some 18, .bin .neq (.tmp 17) (.const (.int .i64 0))⟩])
  (.cond (.tmp 18) (.seq (.rg [⟨none, some 19, .mv (.tmp 7)⟩,
    ⟨none, some 6, .mv (.tmp 19)⟩])
  (.ret)) (.skip)))
  (.seq (.rg [⟨none, some 20, .mv (.tmp 0)⟩,
    ⟨none, some 21, .nilck (.tmp 20)⟩,
    ⟨none, some 22, .fieldA 2 (.tmp 21)⟩,
    ⟨none, some 23, .load (.tmp 22)⟩,
    ⟨none, some 24, .len (.tmp 23)⟩,
    ⟨none, some 8, .mv (.tmp 24)⟩])
  (.seq (.rg [⟨none, some 9, .mv (.const (.int .i64 0))⟩])
  (.seq (.seq (.rg [⟨none, some 25, .mv (.tmp 8)⟩,
    ⟨none, some 26, .mv (.tmp 0)⟩,
    ⟨none, some 27, .nilck (.tmp 26)⟩,
    ⟨none, some 28, .fieldA 0 (.tmp 27)⟩,
    ⟨none, some 29, .load (.tmp 28)⟩,
    ⟨none, some 30, .len (.tmp 29)⟩,
    ⟨none, some 31, .bin .lss (.tmp 25) (.tmp 30)⟩])
  (.cond (.tmp 31) (.rg [⟨none, some 32, .mv (.tmp 0)⟩,
    ⟨none, some 33, .nilck (.tmp 32)⟩,
    ⟨none, some 34, .fieldA 0 (.tmp 33)⟩,
    ⟨none, some 35, .load (.tmp 34)⟩,
    ⟨none, some 36, .mv (.tmp 8)⟩,
    ⟨none, some 37, .idx 1 (.tmp 35) (.tmp 36)⟩,
    ⟨none, some 38, .load (.tmp 37)⟩,
    ⟨none, some 9, .mv (.tmp 38)⟩]) (.skip)))
  (.seq (.seq (.rg [⟨none, some 39, .mv (.tmp 9)⟩,
    ⟨none, some 40, .bin .geq (.tmp 39) (.const (.int .i64 0))⟩,
    ⟨none, some 41, .mv (.tmp 40)⟩,
    ⟨some (41, true), some 42, .mv (.tmp 0)⟩,
    ⟨some (41, true), some 43, .call 20 [.tmp 42]⟩,
    ⟨some (41, true), some 44, .len (.tmp 43)⟩,
    ⟨some (41, true), some 45, .bin .geq (.tmp 44) (.const (.int .i64 64))⟩,
    ⟨none, some 46, .pick (.tmp 41) (.tmp 45) (.const (.bool false))⟩])
  (.cond (.tmp 46) (.seq (.rg [⟨none, some 6, .mv (.const (.int .i64 17))⟩])
  (.ret)) (.skip)))
  (.seq (.rg [⟨none, some 47, .mv (.tmp 0)⟩,
    ⟨none, some 48, .mv (.tmp 1)⟩,
    ⟨none, some 49, .nilck (.tmp 47)⟩,
    ⟨none, some 50, .fieldA 1 (.tmp 49)⟩,
    ⟨none, none, .store 1 (.tmp 50) (.tmp 48)⟩])
  (.seq (.dr [(false, [(0, 0), (1, 0), (2, 0), (3, 0), (4, 0), (5, 0), (6, 0), (7, 0), (8, 0), (9, 0), (10, 0), (11, 0), (12, 1)], [⟨none, some 51, .mv (.tmp 0)⟩,
    ⟨none, some 52, .mv (.tmp 0)⟩,
    ⟨none, some 53, .nilck (.tmp 52)⟩,
    ⟨none, some 54, .fieldA 2 (.tmp 53)⟩,
    ⟨none, some 55, .load (.tmp 54)⟩,
    ⟨none, some 56, .mv (.tmp 1)⟩,
    ⟨none, some 57, .mv (.tmp 9)⟩,
    ⟨none, some 58, .bin .add (.tmp 56) (.tmp 57)⟩,
    ⟨none, some 59, .mv (.tmp 8)⟩,
    ⟨none, some 60, .loadA 4 (.tmp 5)⟩,
    ⟨none, some 61, .build [.p (.v (.int .i64 0)), .p (.v (.int .i64 0)), .p (.v (.int .i64 0)), .p (.v (.int .i64 0)), .p (.v (.int .u8 0)), .p (.v (.int .i64 0))] [(0, 1, .tmp 58), (1, 1, .tmp 59), (2, 4, .tmp 60)]⟩,
    ⟨none, some 62, .bslice false 49 1 6 [.p (.v (.int .i64 0)), .p (.v (.int .i64 0)), .p (.v (.int .i64 0)), .p (.v (.int .i64 0)), .p (.v (.int .u8 0)), .p (.v (.int .i64 0))] [(0, 6, .tmp 61)]⟩,
    ⟨none, some 63, .append 49 6 48 (.tmp 55) (.tmp 62)⟩]),
   (true, [(13, 0), (14, 0), (15, 0)], [⟨none, some 64, .nilck (.tmp 51)⟩,
    ⟨none, some 65, .fieldA 2 (.tmp 64)⟩,
    ⟨none, none, .store 1 (.tmp 65) (.tmp 63)⟩])])
  (.seq (.rg [⟨none, some 66, .mv (.tmp 0)⟩,
    ⟨none, some 67, .mv (.tmp 0)⟩,
    ⟨none, some 68, .nilck (.tmp 67)⟩,
    ⟨none, some 69, .fieldA 3 (.tmp 68)⟩,
    ⟨none, some 70, .load (.tmp 69)⟩,
    ⟨none, some 71, .mv (.tmp 9)⟩,
    ⟨none, some 72, .bin .geq (.tmp 71) (.const (.int .i64 0))⟩,
    ⟨none, some 73, .bslice false 4 1 1 [.p (.v (.bool false))] [(0, 1, .tmp 72)]⟩,
    ⟨none, some 74, .append 4 1 1 (.tmp 70) (.tmp 73)⟩,
    ⟨none, some 75, .nilck (.tmp 66)⟩,
    ⟨none, some 76, .fieldA 3 (.tmp 75)⟩,
    ⟨none, none, .store 1 (.tmp 76) (.tmp 74)⟩])
  (.seq (.rg [⟨none, some 6, .mv (.const (.int .i64 0))⟩])
  (.ret))))))))))))
theorem ac14_ok (q : Option (Nat × Nat)) : compF Go.Proofs.Try.prog Go.Proofs.Try.f14 (ac14 q) = some (ac14 q, [.tmp 6]) := by kernel_rfl

/- (*clearway link.Link).Hear -/
def ac15_L0 (q : Option (Nat × Nat)) : AC := .seq (.seq (.rg [⟨none, some 19, .mv (.tmp 0)⟩,
    ⟨none, some 20, .nilck (.tmp 19)⟩,
    ⟨none, some 21, .fieldA 258 (.tmp 20)⟩,
    ⟨none, some 22, .load (.tmp 21)⟩,
    ⟨none, some 23, .nilck (.tmp 22)⟩,
    ⟨none, some 24, .load (.tmp 23)⟩,
    ⟨none, some 25, .call 34 [.tmp 24]⟩,
    ⟨none, some 26, .bin .gtr (.tmp 25) (.const (.int .i64 0))⟩,
    ⟨none, some 27, .mv (.tmp 26)⟩,
    ⟨some (27, true), some 28, .mv (.tmp 0)⟩,
    ⟨some (27, true), some 29, .nilck (.tmp 28)⟩,
    ⟨some (27, true), some 30, .fieldA 258 (.tmp 29)⟩,
    ⟨some (27, true), some 31, .load (.tmp 30)⟩,
    ⟨some (27, true), some 32, .nilck (.tmp 31)⟩,
    ⟨some (27, true), some 33, .load (.tmp 32)⟩,
    ⟨some (27, true), some 34, .idx 6 (.tmp 33) (.const (.int .i64 0))⟩,
    ⟨some (27, true), some 35, .fieldA 0 (.tmp 34)⟩,
    ⟨some (27, true), some 36, .load (.tmp 35)⟩,
    ⟨some (27, true), some 37, .mv (.tmp 1)⟩,
    ⟨some (27, true), some 38, .bin .leq (.tmp 36) (.tmp 37)⟩,
    ⟨none, some 39, .pick (.tmp 27) (.tmp 38) (.const (.bool false))⟩])
  (.cond (.tmp 39) (.skip) (.exit 0)))
  (.blk 1 (.seq (.rg [⟨none, some 41, .mv (.tmp 0)⟩,
    ⟨none, some 42, .nilck (.tmp 41)⟩,
    ⟨none, some 43, .fieldA 258 (.tmp 42)⟩,
    ⟨none, some 44, .load (.tmp 43)⟩,
    ⟨none, some 45, .mkifc 69 (.tmp 44)⟩,
    ⟨none, some 46, .call 38 [.tmp 45]⟩,
    ⟨none, some 47, .tassert 49 true (.tmp 46)⟩,
    ⟨none, some 40, .mv (.tmp 47)⟩,
    ⟨none, some 48, .extract (.tmp 40) 0⟩,
    ⟨none, some 49, .extract (.tmp 40) 1⟩,
    ⟨none, some 7, .alloc 49 [.p (.v (.int .i64 0)), .p (.v (.int .i64 0)), .p (.v (.int .i64 0)), .p (.v (.int .i64 0)), .p (.v (.int .u8 0)), .p (.v (.int .i64 0))]⟩,
    ⟨none, none, .store 6 (.tmp 7) (.tmp 48)⟩,
    ⟨none, some 8, .mv (.tmp 49)⟩])
  (.seq (.rg [⟨none, some 50, .mv (.tmp 8)⟩])
  (.cond (.tmp 50) (.rg [⟨none, some 51, .mv (.tmp 4)⟩,
    ⟨none, some 52, .fieldA 2 (.tmp 7)⟩,
    ⟨none, some 53, .loadA 4 (.tmp 52)⟩,
    ⟨none, some 54, .bslice false 33 1 4 [.p (.v (.int .i64 0)), .p (.v (.int .i64 0)), .p (.v (.int .u8 0)), .p (.v (.int .i64 0))] [(0, 4, .tmp 53)]⟩,
    ⟨none, some 55, .append 33 4 32 (.tmp 51) (.tmp 54)⟩,
    ⟨none, some 4, .mv (.tmp 55)⟩]) (.skip)))))
def ac15 (q : Option (Nat × Nat)) : AC := .seq (.rg [⟨none, some 4, .mv (.const (.slice none 0 0))⟩,
    ⟨none, some 5, .mv (.const (.int .i64 0))⟩])
  (.seq (.seq (.rg [⟨none, some 9, .mv (.tmp 0)⟩,
    ⟨none, some 10, .mv (.tmp 1)⟩,
    ⟨none, some 11, .call 32 [.tmp 9, .tmp 10]⟩,
    ⟨none, some 6, .mv (.tmp 11)⟩])
  (.seq (.rg [⟨none, some 12, .mv (.tmp 6)⟩,
    ⟨none, some 13, .bin .neq (.tmp 12) (.const (.int .i64 0))⟩])
  (.cond (.tmp 13) (.seq (.rg [⟨none, some 14, .mv (.tmp 6)⟩,
    ⟨none, some 4, .mv (.const (.slice none 0 0))⟩,
    ⟨none, some 5, .mv (.tmp 14)⟩])
  (.ret)) (.skip))))
  (.seq (.rg [⟨none, some 15, .mv (.tmp 0)⟩,
    ⟨none, some 16, .mv (.tmp 1)⟩,
    ⟨none, some 17, .nilck (.tmp 15)⟩,
    ⟨none, some 18, .fieldA 256 (.tmp 17)⟩,
    ⟨none, none, .store 1 (.tmp 18) (.tmp 16)⟩])
  (.seq (.blk 0 (.loop q [0, 1, 4] (ac15_L0 q)))
  (.seq (.rg [⟨none, some 56, .mv (.tmp 4)⟩,
    ⟨none, some 4, .mv (.tmp 56)⟩,
    ⟨none, some 5, .mv (.const (.int .i64 0))⟩])
  (.ret)))))
theorem ac15_ok (q : Option (Nat × Nat)) : compF Go.Proofs.Try.prog Go.Proofs.Try.f15 (ac15 q) = some (ac15 q, [.tmp 4, .tmp 5]) := by kernel_rfl

/- (*clearway clearwayref33.Link).Hear -/
def ac16_L0 (q : Option (Nat × Nat)) : AC := .seq (.seq (.rg [⟨none, some 22, .mv (.tmp 9)⟩,
    ⟨none, some 23, .mv (.tmp 8)⟩,
    ⟨none, some 24, .len (.tmp 23)⟩,
    ⟨none, some 25, .bin .lss (.tmp 22) (.tmp 24)⟩])
  (.cond (.tmp 25) (.skip) (.exit 0)))
  (.seq (.blk 1 (.seq (.rg [⟨none, some 28, .mv (.tmp 8)⟩,
    ⟨none, some 29, .mv (.tmp 9)⟩,
    ⟨none, some 30, .idx 6 (.tmp 28) (.tmp 29)⟩,
    ⟨none, some 31, .fieldA 0 (.tmp 30)⟩,
    ⟨none, some 32, .load (.tmp 31)⟩,
    ⟨none, some 33, .mv (.tmp 1)⟩,
    ⟨none, some 34, .bin .leq (.tmp 32) (.tmp 33)⟩])
  (.cond (.tmp 34) (.seq (.rg [⟨none, some 35, .mv (.tmp 7)⟩,
    ⟨none, some 36, .mv (.tmp 8)⟩,
    ⟨none, some 37, .mv (.tmp 9)⟩,
    ⟨none, some 38, .idx 6 (.tmp 36) (.tmp 37)⟩,
    ⟨none, some 39, .fieldA 2 (.tmp 38)⟩,
    ⟨none, some 40, .loadA 4 (.tmp 39)⟩,
    ⟨none, some 41, .bslice false 33 1 4 [.p (.v (.int .i64 0)), .p (.v (.int .i64 0)), .p (.v (.int .u8 0)), .p (.v (.int .i64 0))] [(0, 4, .tmp 40)]⟩,
    ⟨none, some 42, .append 33 4 32 (.tmp 35) (.tmp 41)⟩,
    ⟨none, some 7, .mv (.tmp 42)⟩])
  (.dr [(false, [(0, 0), (1, 0), (2, 0), (3, 0), (4, 0), (5, 0), (6, 0), (7, 0), (8, 0)], [⟨none, some 43, .mv (.tmp 0)⟩,
    ⟨none, some 44, .nilck (.tmp 43)⟩,
    ⟨none, some 45, .fieldA 3 (.tmp 44)⟩,
    ⟨none, some 46, .load (.tmp 45)⟩,
    ⟨none, some 47, .mv (.tmp 8)⟩,
    ⟨none, some 48, .mv (.tmp 9)⟩,
    ⟨none, some 49, .idx 6 (.tmp 47) (.tmp 48)⟩,
    ⟨none, some 50, .fieldA 1 (.tmp 49)⟩,
    ⟨none, some 51, .load (.tmp 50)⟩]),
   (true, [(9, 0), (10, 0)], [⟨none, some 52, .idx 1 (.tmp 46) (.tmp 51)⟩,
    ⟨none, none, .store 1 (.tmp 52) (.const (.bool false))⟩])])) (.skip))))
  (.rg [⟨none, some 26, .mv (.tmp 9)⟩,
    ⟨none, some 27, .bin .add (.tmp 26) (.const (.int .i64 1))⟩,
    ⟨none, some 9, .mv (.tmp 27)⟩]))
def ac16 (q : Option (Nat × Nat)) : AC := .seq (.rg [⟨none, some 4, .mv (.const (.slice none 0 0))⟩,
    ⟨none, some 5, .mv (.const (.int .i64 0))⟩])
  (.seq (.seq (.rg [⟨none, some 10, .mv (.tmp 0)⟩,
    ⟨none, some 11, .mv (.tmp 1)⟩,
    ⟨none, some 12, .call 36 [.tmp 10, .tmp 11]⟩,
    ⟨none, some 6, .mv (.tmp 12)⟩])
  (.seq (.rg [⟨none, some 13, .mv (.tmp 6)⟩,
    ⟨none, some 14, .bin .neq (.tmp 13) (.const (.int .i64 0))⟩])
  (.cond (.tmp 14) (.seq (.rg [⟨none, some 15, .mv (.tmp 6)⟩,
    ⟨none, some 4, .mv (.const (.slice none 0 0))⟩,
    ⟨none, some 5, .mv (.tmp 15)⟩])
  (.ret)) (.skip))))
  (.seq (.rg [⟨none, some 16, .mv (.tmp 0)⟩,
    ⟨none, some 17, .mv (.tmp 1)⟩,
    ⟨none, some 18, .nilck (.tmp 16)⟩,
    ⟨none, some 19, .fieldA 1 (.tmp 18)⟩,
    ⟨none, none, .store 1 (.tmp 19) (.tmp 17)⟩])
  (.seq (.rg [⟨none, some 7, .mv (.const (.slice none 0 0))⟩])
  (.seq (.rg [⟨none, some 20, .mv (.tmp 0)⟩,
    ⟨none, some 21, .call 20 [.tmp 20]⟩,
    ⟨none, some 8, .mv (.tmp 21)⟩])
  (.seq (.seq (.rg [⟨none, some 9, .mv (.const (.int .i64 0))⟩])
  (.blk 0 (.loop q [0, 1, 7, 8, 9] (ac16_L0 q))))
  (.seq (.rg [⟨none, some 53, .mv (.tmp 7)⟩,
    ⟨none, some 4, .mv (.tmp 53)⟩,
    ⟨none, some 5, .mv (.const (.int .i64 0))⟩])
  (.ret)))))))
theorem ac16_ok (q : Option (Nat × Nat)) : compF Go.Proofs.Try.prog Go.Proofs.Try.f16 (ac16 q) = some (ac16 q, [.tmp 4, .tmp 5]) := by kernel_rfl

/- clearway clearwaylaw33.choices -/
def ac17_L0 (q : Option (Nat × Nat)) : AC := .seq (.seq (.rg [⟨none, some 11, .mv (.tmp 5)⟩,
    ⟨none, some 12, .mv (.tmp 0)⟩,
    ⟨none, some 13, .len (.tmp 12)⟩,
    ⟨none, some 14, .bin .lss (.tmp 11) (.tmp 13)⟩])
  (.cond (.tmp 14) (.skip) (.exit 0)))
  (.seq (.blk 1 (.seq (.dr [(false, [(0, 0), (1, 0), (2, 0), (3, 0), (4, 0), (5, 0), (6, 0), (7, 0)], [⟨none, some 17, .mv (.tmp 0)⟩,
    ⟨none, some 18, .mv (.tmp 5)⟩,
    ⟨none, some 19, .idx 4 (.tmp 17) (.tmp 18)⟩,
    ⟨none, some 20, .loadA 4 (.tmp 19)⟩,
    ⟨none, some 21, .mv (.tmp 1)⟩,
    ⟨none, some 22, .mv (.tmp 5)⟩,
    ⟨none, some 23, .idx 4 (.tmp 21) (.tmp 22)⟩,
    ⟨none, some 24, .loadA 4 (.tmp 23)⟩]),
   (true, [(8, 0)], [⟨none, some 25, .eqA [false, false, false, false] true (.tmp 20) (.tmp 24)⟩])])
  (.cond (.tmp 25) (.seq (.rg [⟨none, some 4, .mv (.const (.bool false))⟩])
  (.ret)) (.skip))))
  (.rg [⟨none, some 15, .mv (.tmp 5)⟩,
    ⟨none, some 16, .bin .add (.tmp 15) (.const (.int .i64 1))⟩,
    ⟨none, some 5, .mv (.tmp 16)⟩]))
def ac17 (q : Option (Nat × Nat)) : AC := .seq (.rg [⟨none, some 4, .mv (.const (.bool false))⟩])
  (.seq (.seq (.rg [⟨none, some 6, .mv (.tmp 0)⟩,
    ⟨none, some 7, .len (.tmp 6)⟩,
    ⟨none, some 8, .mv (.tmp 1)⟩,
    ⟨none, some 9, .len (.tmp 8)⟩,
    ⟨none, some 10, .bin .neq (.tmp 7) (.tmp 9)⟩])
  (.cond (.tmp 10) (.seq (.rg [⟨none, some 4, .mv (.const (.bool false))⟩])
  (.ret)) (.skip)))
  (.seq (.seq (.rg [⟨none, some 5, .mv (.const (.int .i64 0))⟩])
  (.blk 0 (.loop q [0, 1, 5] (ac17_L0 q))))
  (.seq (.rg [⟨none, some 4, .mv (.const (.bool true))⟩])
  (.ret))))
theorem ac17_ok (q : Option (Nat × Nat)) : compF Go.Proofs.Try.prog Go.Proofs.Try.f17 (ac17 q) = some (ac17 q, [.tmp 4]) := by kernel_rfl

/- (*clearway link.Link).Pending -/
def ac18 (q : Option (Nat × Nat)) : AC := .seq (.rg [⟨none, some 2, .mv (.const (.slice none 0 0))⟩])
  (.seq (.seq (.rg [⟨none, some 4, .mv (.tmp 0)⟩,
    ⟨none, some 5, .eqP false (.tmp 4) (.const (.pointer none))⟩,
    ⟨none, some 6, .mv (.tmp 5)⟩,
    ⟨some (6, false), some 7, .mv (.tmp 0)⟩,
    ⟨some (6, false), some 8, .nilck (.tmp 7)⟩,
    ⟨some (6, false), some 9, .fieldA 258 (.tmp 8)⟩,
    ⟨some (6, false), some 10, .load (.tmp 9)⟩,
    ⟨some (6, false), some 11, .eqP false (.tmp 10) (.const (.pointer none))⟩,
    ⟨none, some 12, .pick (.tmp 6) (.const (.bool true)) (.tmp 11)⟩])
  (.cond (.tmp 12) (.seq (.rg [⟨none, some 2, .mv (.const (.slice none 0 0))⟩])
  (.ret)) (.skip)))
  (.seq (.rg [⟨none, some 13, .mv (.tmp 0)⟩,
    ⟨none, some 14, .nilck (.tmp 13)⟩,
    ⟨none, some 15, .fieldA 258 (.tmp 14)⟩,
    ⟨none, some 16, .load (.tmp 15)⟩,
    ⟨none, some 17, .nilck (.tmp 16)⟩,
    ⟨none, some 18, .load (.tmp 17)⟩,
    ⟨none, some 19, .call 39 [.tmp 18]⟩,
    ⟨none, some 3, .mv (.tmp 19)⟩])
  (.seq (.rg [⟨none, some 20, .mv (.tmp 3)⟩,
    ⟨none, some 21, .call 40 [.tmp 20, .func 41]⟩])
  (.seq (.rg [⟨none, some 22, .mv (.tmp 3)⟩,
    ⟨none, some 2, .mv (.tmp 22)⟩])
  (.ret)))))
theorem ac18_ok (q : Option (Nat × Nat)) : compF Go.Proofs.Try.prog Go.Proofs.Try.f18 (ac18 q) = some (ac18 q, [.tmp 2]) := by kernel_rfl

/- clearway clearwaylaw33.parcels -/
def ac19_L0 (q : Option (Nat × Nat)) : AC := .seq (.seq (.rg [⟨none, some 11, .mv (.tmp 5)⟩,
    ⟨none, some 12, .mv (.tmp 0)⟩,
    ⟨none, some 13, .len (.tmp 12)⟩,
    ⟨none, some 14, .bin .lss (.tmp 11) (.tmp 13)⟩])
  (.cond (.tmp 14) (.skip) (.exit 0)))
  (.seq (.blk 1 (.seq (.dr [(false, [(0, 0), (1, 0), (2, 0), (3, 0), (4, 0), (5, 0), (6, 0), (7, 0)], [⟨none, some 17, .mv (.tmp 0)⟩,
    ⟨none, some 18, .mv (.tmp 5)⟩,
    ⟨none, some 19, .idx 6 (.tmp 17) (.tmp 18)⟩,
    ⟨none, some 20, .loadA 6 (.tmp 19)⟩,
    ⟨none, some 21, .mv (.tmp 1)⟩,
    ⟨none, some 22, .mv (.tmp 5)⟩,
    ⟨none, some 23, .idx 6 (.tmp 21) (.tmp 22)⟩,
    ⟨none, some 24, .loadA 6 (.tmp 23)⟩]),
   (true, [(8, 0)], [⟨none, some 25, .eqA [false, false, false, false, false, false] true (.tmp 20) (.tmp 24)⟩])])
  (.cond (.tmp 25) (.seq (.rg [⟨none, some 4, .mv (.const (.bool false))⟩])
  (.ret)) (.skip))))
  (.rg [⟨none, some 15, .mv (.tmp 5)⟩,
    ⟨none, some 16, .bin .add (.tmp 15) (.const (.int .i64 1))⟩,
    ⟨none, some 5, .mv (.tmp 16)⟩]))
def ac19 (q : Option (Nat × Nat)) : AC := .seq (.rg [⟨none, some 4, .mv (.const (.bool false))⟩])
  (.seq (.seq (.rg [⟨none, some 6, .mv (.tmp 0)⟩,
    ⟨none, some 7, .len (.tmp 6)⟩,
    ⟨none, some 8, .mv (.tmp 1)⟩,
    ⟨none, some 9, .len (.tmp 8)⟩,
    ⟨none, some 10, .bin .neq (.tmp 7) (.tmp 9)⟩])
  (.cond (.tmp 10) (.seq (.rg [⟨none, some 4, .mv (.const (.bool false))⟩])
  (.ret)) (.skip)))
  (.seq (.seq (.rg [⟨none, some 5, .mv (.const (.int .i64 0))⟩])
  (.blk 0 (.loop q [0, 1, 5] (ac19_L0 q))))
  (.seq (.rg [⟨none, some 4, .mv (.const (.bool true))⟩])
  (.ret))))
theorem ac19_ok (q : Option (Nat × Nat)) : compF Go.Proofs.Try.prog Go.Proofs.Try.f19 (ac19 q) = some (ac19 q, [.tmp 4]) := by kernel_rfl

/- (*clearway clearwayref33.Link).Pending -/
def ac20_L0 (q : Option (Nat × Nat)) : AC := .seq (.seq (.rg [⟨none, some 13, .mv (.tmp 6)⟩,
    ⟨none, some 14, .mv (.tmp 0)⟩,
    ⟨none, some 15, .nilck (.tmp 14)⟩,
    ⟨none, some 16, .fieldA 2 (.tmp 15)⟩,
    ⟨none, some 17, .load (.tmp 16)⟩,
    ⟨none, some 18, .len (.tmp 17)⟩,
    ⟨none, some 19, .bin .lss (.tmp 13) (.tmp 18)⟩])
  (.cond (.tmp 19) (.skip) (.exit 2)))
  (.seq (.blk 3 (.seq (.dr [(false, [(0, 0), (1, 0), (2, 0), (3, 0), (4, 0)], [⟨none, some 22, .mv (.tmp 0)⟩,
    ⟨none, some 23, .nilck (.tmp 22)⟩,
    ⟨none, some 24, .fieldA 3 (.tmp 23)⟩,
    ⟨none, some 25, .load (.tmp 24)⟩,
    ⟨none, some 26, .mv (.tmp 6)⟩]),
   (true, [(5, 0), (6, 0), (7, 0)], [⟨none, some 27, .idx 1 (.tmp 25) (.tmp 26)⟩,
    ⟨none, some 28, .load (.tmp 27)⟩,
    ⟨none, some 29, .mv (.tmp 28)⟩]),
   (false, [(8, 0), (9, 0)], [⟨some (29, true), some 30, .mv (.tmp 4)⟩,
    ⟨some (29, true), some 31, .mv (.tmp 6)⟩]),
   (true, [(10, 0), (11, 0), (12, 0), (13, 0), (14, 0), (15, 0), (16, 0), (17, 0)], [⟨some (29, true), some 32, .idx 1 (.tmp 30) (.tmp 31)⟩,
    ⟨some (29, true), some 33, .load (.tmp 32)⟩,
    ⟨some (29, true), some 34, .un .not (.tmp 33)⟩,
    ⟨none, some 35, .pick (.tmp 29) (.tmp 34) (.const (.bool false))⟩,
    ⟨none, some 36, .mv (.tmp 35)⟩,
    ⟨some (36, true), some 37, .mv (.tmp 5)⟩,
    ⟨some (36, true), some 38, .bin .lss (.tmp 37) (.const (.int .i64 0))⟩,
    ⟨some (36, true), some 39, .mv (.tmp 38)⟩]),
   (false, [(18, 0), (19, 0), (20, 0), (21, 0), (22, 0), (23, 0), (24, 0), (25, 0), (26, 0), (27, 0), (28, 0), (29, 0), (30, 0), (31, 0), (32, 0), (33, 0)], [⟨some (39, false), some 40, .mv (.tmp 0)⟩,
    ⟨some (39, false), some 41, .nilck (.tmp 40)⟩,
    ⟨some (39, false), some 42, .fieldA 2 (.tmp 41)⟩,
    ⟨some (39, false), some 43, .load (.tmp 42)⟩,
    ⟨some (39, false), some 44, .mv (.tmp 6)⟩,
    ⟨some (39, false), some 45, .idx 6 (.tmp 43) (.tmp 44)⟩,
    ⟨some (39, false), some 46, .fieldA 0 (.tmp 45)⟩,
    ⟨some (39, false), some 47, .load (.tmp 46)⟩,
    ⟨some (39, false), some 48, .mv (.tmp 0)⟩,
    ⟨some (39, false), some 49, .nilck (.tmp 48)⟩,
    ⟨some (39, false), some 50, .fieldA 2 (.tmp 49)⟩,
    ⟨some (39, false), some 51, .load (.tmp 50)⟩,
    ⟨some (39, false), some 52, .mv (.tmp 5)⟩,
    ⟨some (39, false), some 53, .idx 6 (.tmp 51) (.tmp 52)⟩,
    ⟨some (39, false), some 54, .fieldA 0 (.tmp 53)⟩,
    ⟨some (39, false), some 55, .load (.tmp 54)⟩]),
   (true, [(34, 0), (35, 0), (36, 0)], [⟨some (39, false), some 56, .bin .lss (.tmp 47) (.tmp 55)⟩,
    ⟨some (36, true), some 57, .pick (.tmp 39) (.const (.bool true)) (.tmp 56)⟩,
    ⟨none, some 58, .pick (.tmp 36) (.tmp 57) (.const (.bool false))⟩])])
  (.cond (.tmp 58) (.rg [⟨none, some 59, .mv (.tmp 6)⟩,
    ⟨none, some 5, .mv (.tmp 59)⟩]) (.skip))))
  (.rg [⟨none, some 20, .mv (.tmp 6)⟩,
    ⟨none, some 21, .bin .add (.tmp 20) (.const (.int .i64 1))⟩,
    ⟨none, some 6, .mv (.tmp 21)⟩]))
def ac20_L1 (q : Option (Nat × Nat)) : AC := .blk 1 (.seq (.rg [⟨none, some 5, .mv (.const (.int .i64 (-1)))⟩])
  (.seq (.seq (.rg [⟨none, some 6, .mv (.const (.int .i64 0))⟩])
  (.blk 2 (.loop q [0, 3, 4, 5, 6] (ac20_L0 q))))
  (.seq (.seq (.rg [⟨none, some 60, .mv (.tmp 5)⟩,
    ⟨none, some 61, .bin .lss (.tmp 60) (.const (.int .i64 0))⟩])
  (.cond (.tmp 61) (.seq (.rg [⟨none, some 62, .mv (.tmp 3)⟩,
    ⟨none, some 2, .mv (.tmp 62)⟩])
  (.ret)) (.skip)))
  (.seq (.rg [⟨none, some 63, .mv (.tmp 4)⟩,
    ⟨none, some 64, .mv (.tmp 5)⟩,
    ⟨none, some 65, .idx 1 (.tmp 63) (.tmp 64)⟩,
    ⟨none, none, .store 1 (.tmp 65) (.const (.bool true))⟩])
  (.rg [⟨none, some 66, .mv (.tmp 3)⟩,
    ⟨none, some 67, .mv (.tmp 0)⟩,
    ⟨none, some 68, .nilck (.tmp 67)⟩,
    ⟨none, some 69, .fieldA 2 (.tmp 68)⟩,
    ⟨none, some 70, .load (.tmp 69)⟩,
    ⟨none, some 71, .mv (.tmp 5)⟩,
    ⟨none, some 72, .idx 6 (.tmp 70) (.tmp 71)⟩,
    ⟨none, some 73, .loadA 6 (.tmp 72)⟩,
    ⟨none, some 74, .bslice false 49 1 6 [.p (.v (.int .i64 0)), .p (.v (.int .i64 0)), .p (.v (.int .i64 0)), .p (.v (.int .i64 0)), .p (.v (.int .u8 0)), .p (.v (.int .i64 0))] [(0, 6, .tmp 73)]⟩,
    ⟨none, some 75, .append 49 6 48 (.tmp 66) (.tmp 74)⟩,
    ⟨none, some 3, .mv (.tmp 75)⟩])))))
def ac20 (q : Option (Nat × Nat)) : AC := .seq (.rg [⟨none, some 2, .mv (.const (.slice none 0 0))⟩])
  (.seq (.rg [⟨none, some 3, .mv (.const (.slice none 0 0))⟩])
  (.seq (.rg [⟨none, some 7, .mv (.tmp 0)⟩,
    ⟨none, some 8, .nilck (.tmp 7)⟩,
    ⟨none, some 9, .fieldA 2 (.tmp 8)⟩,
    ⟨none, some 10, .load (.tmp 9)⟩,
    ⟨none, some 11, .len (.tmp 10)⟩,
    ⟨none, some 12, .mslice 4 1 1 [.p (.v (.bool false))] (.tmp 11) (.tmp 11)⟩,
    ⟨none, some 4, .mv (.tmp 12)⟩])
  (.blk 0 (.loop q [0, 3, 4] (ac20_L1 q)))))
theorem ac20_ok (q : Option (Nat × Nat)) : compF Go.Proofs.Try.prog Go.Proofs.Try.f20 (ac20 q) = some (ac20 q, [.tmp 2]) := by kernel_rfl

/- (*clearway link.Link).Sent -/
def ac21 (q : Option (Nat × Nat)) : AC := .seq (.rg [⟨none, some 2, .mv (.const (.int .i64 0))⟩])
  (.seq (.seq (.rg [⟨none, some 3, .mv (.tmp 0)⟩,
    ⟨none, some 4, .eqP false (.tmp 3) (.const (.pointer none))⟩])
  (.cond (.tmp 4) (.seq (.rg [⟨none, some 2, .mv (.const (.int .i64 0))⟩])
  (.ret)) (.skip)))
  (.seq (.rg [⟨none, some 5, .mv (.tmp 0)⟩,
    ⟨none, some 6, .nilck (.tmp 5)⟩,
    ⟨none, some 7, .fieldA 257 (.tmp 6)⟩,
    ⟨none, some 8, .load (.tmp 7)⟩,
    ⟨none, some 2, .mv (.tmp 8)⟩])
  (.ret)))
theorem ac21_ok (q : Option (Nat × Nat)) : compF Go.Proofs.Try.prog Go.Proofs.Try.f21 (ac21 q) = some (ac21 q, [.tmp 2]) := by kernel_rfl

/- clearway link.Lost -/
def ac22_L0 (q : Option (Nat × Nat)) : AC := .seq (.rg [⟨none, some 17, .bin .lss (.tmp 16) (.tmp 15)⟩])
  (.seq (.cond (.tmp 17) (.skip) (.exit 0))
  (.seq (.blk 1 (.seq (.rg [⟨none, some 18, .idx 1 (.tmp 14) (.tmp 16)⟩,
    ⟨none, some 19, .load (.tmp 18)⟩,
    ⟨none, some 8, .mv (.tmp 19)⟩])
  (.seq (.seq (.rg [⟨none, some 20, .mv (.tmp 8)⟩,
    ⟨none, some 21, .bin .eql (.tmp 20) (.const (.int .i64 (-1)))⟩])
  (.cond (.tmp 21) (.rg [⟨none, some 22, .mv (.tmp 6)⟩,
    ⟨none, some 23, .bin .add (.tmp 22) (.const (.int .i64 1))⟩,
    ⟨none, some 6, .mv (.tmp 23)⟩]) (.rg [⟨none, some 6, .mv (.const (.int .i64 0))⟩])))
  (.rg [⟨none, some 24, .mv (.tmp 5)⟩,
    ⟨none, some 25, .mv (.tmp 6)⟩,
    ⟨none, some 26, .minmax true [.tmp 24, .tmp 25]⟩,
    ⟨none, some 5, .mv (.tmp 26)⟩]))))
  (.rg [⟨none, some 27, .bin .add (.tmp 16) (.const (.int .i64 1))⟩,
    ⟨none, some 16, .mv (.tmp 27)⟩])))
def ac22 (q : Option (Nat × Nat)) : AC := .seq (.rg [⟨none, some 2, .mv (.const (.int .i64 0))⟩,
    ⟨none, some 3, .mv (.const (.int .i64 0))⟩])
  (.seq (.seq (.rg [⟨none, some 9, .mv (.tmp 0)⟩,
    ⟨none, some 10, .call 30 [.tmp 9]⟩,
    ⟨none, some 4, .mv (.tmp 10)⟩])
  (.seq (.rg [⟨none, some 11, .mv (.tmp 4)⟩,
    ⟨none, some 12, .bin .neq (.tmp 11) (.const (.int .i64 0))⟩])
  (.cond (.tmp 12) (.seq (.rg [⟨none, some 13, .mv (.tmp 4)⟩,
    ⟨none, some 2, .mv (.const (.int .i64 0))⟩,
    ⟨none, some 3, .mv (.tmp 13)⟩])
  (.ret)) (.skip))))
  (.seq (.rg [⟨none, some 5, .mv (.const (.int .i64 0))⟩,
    ⟨none, some 6, .mv (.const (.int .i64 0))⟩])
  (.seq (.seq (.rg [⟨none, some 14, .mv (.tmp 0)⟩,
    ⟨none, some 15, .len (.tmp 14)⟩,
    ⟨none, some 16, .mv (.const (.int .i64 0))⟩])
  (.blk 0 (.loop q [5, 6, 14, 15, 16] (ac22_L0 q))))
  (.seq (.rg [⟨none, some 28, .mv (.tmp 5)⟩,
    ⟨none, some 2, .mv (.tmp 28)⟩,
    ⟨none, some 3, .mv (.const (.int .i64 0))⟩])
  (.ret)))))
theorem ac22_ok (q : Option (Nat × Nat)) : compF Go.Proofs.Try.prog Go.Proofs.Try.f22 (ac22 q) = some (ac22 q, [.tmp 2, .tmp 3]) := by kernel_rfl

/- clearway clearwayref33.Lost -/
def ac23_L0 (q : Option (Nat × Nat)) : AC := .seq (.seq (.rg [⟨none, some 13, .mv (.tmp 7)⟩,
    ⟨none, some 14, .mv (.tmp 0)⟩,
    ⟨none, some 15, .len (.tmp 14)⟩,
    ⟨none, some 16, .bin .lss (.tmp 13) (.tmp 15)⟩])
  (.cond (.tmp 16) (.skip) (.exit 0)))
  (.seq (.blk 1 (.seq (.seq (.rg [⟨none, some 19, .mv (.tmp 0)⟩,
    ⟨none, some 20, .mv (.tmp 7)⟩,
    ⟨none, some 21, .idx 1 (.tmp 19) (.tmp 20)⟩,
    ⟨none, some 22, .load (.tmp 21)⟩,
    ⟨none, some 23, .bin .lss (.tmp 22) (.const (.int .i64 0))⟩])
  (.cond (.tmp 23) (.rg [⟨none, some 24, .mv (.tmp 6)⟩,
    ⟨none, some 25, .bin .add (.tmp 24) (.const (.int .i64 1))⟩,
    ⟨none, some 6, .mv (.tmp 25)⟩]) (.rg [⟨none, some 6, .mv (.const (.int .i64 0))⟩])))
  (.rg [⟨none, some 26, .mv (.tmp 5)⟩,
    ⟨none, some 27, .mv (.tmp 6)⟩,
    ⟨none, some 28, .minmax true [.tmp 26, .tmp 27]⟩,
    ⟨none, some 5, .mv (.tmp 28)⟩])))
  (.rg [⟨none, some 17, .mv (.tmp 7)⟩,
    ⟨none, some 18, .bin .add (.tmp 17) (.const (.int .i64 1))⟩,
    ⟨none, some 7, .mv (.tmp 18)⟩]))
def ac23 (q : Option (Nat × Nat)) : AC := .seq (.rg [⟨none, some 2, .mv (.const (.int .i64 0))⟩,
    ⟨none, some 3, .mv (.const (.int .i64 0))⟩])
  (.seq (.seq (.rg [⟨none, some 8, .mv (.tmp 0)⟩,
    ⟨none, some 9, .call 31 [.tmp 8]⟩,
    ⟨none, some 4, .mv (.tmp 9)⟩])
  (.seq (.rg [⟨none, some 10, .mv (.tmp 4)⟩,
    ⟨none, some 11, .bin .neq (.tmp 10) (.const (.int .i64 0))⟩])
  (.cond (.tmp 11) (.seq (.rg [⟨none, some 12, .mv (.tmp 4)⟩,
    ⟨none, some 2, .mv (.const (.int .i64 0))⟩,
    ⟨none, some 3, .mv (.tmp 12)⟩])
  (.ret)) (.skip))))
  (.seq (.rg [⟨none, some 5, .mv (.const (.int .i64 0))⟩,
    ⟨none, some 6, .mv (.const (.int .i64 0))⟩])
  (.seq (.seq (.rg [⟨none, some 7, .mv (.const (.int .i64 0))⟩])
  (.blk 0 (.loop q [0, 5, 6, 7] (ac23_L0 q))))
  (.seq (.rg [⟨none, some 29, .mv (.tmp 5)⟩,
    ⟨none, some 2, .mv (.tmp 29)⟩,
    ⟨none, some 3, .mv (.const (.int .i64 0))⟩])
  (.ret)))))
theorem ac23_ok (q : Option (Nat × Nat)) : compF Go.Proofs.Try.prog Go.Proofs.Try.f23 (ac23 q) = some (ac23 q, [.tmp 2, .tmp 3]) := by kernel_rfl

/- clearway clearwaylaw33.nothing -/
def ac24_L0 (q : Option (Nat × Nat)) : AC := .seq (.rg [⟨none, some 11, .bin .lss (.tmp 10) (.tmp 9)⟩])
  (.seq (.cond (.tmp 11) (.skip) (.exit 0))
  (.seq (.blk 1 (.seq (.rg [⟨none, some 12, .idx 1 (.tmp 8) (.tmp 10)⟩,
    ⟨none, some 13, .load (.tmp 12)⟩,
    ⟨none, some 3, .mv (.tmp 13)⟩])
  (.seq (.rg [⟨none, some 15, .mv (.tmp 3)⟩,
    ⟨none, some 16, .call 15 [.tmp 15, .const (.int .i64 (-1))]⟩,
    ⟨none, some 14, .mv (.tmp 16)⟩,
    ⟨none, some 17, .extract (.tmp 14) 0⟩,
    ⟨none, some 18, .extract (.tmp 14) 1⟩,
    ⟨none, some 4, .mv (.tmp 17)⟩,
    ⟨none, some 5, .mv (.tmp 18)⟩])
  (.seq (.rg [⟨none, some 19, .mv (.tmp 3)⟩,
    ⟨none, some 20, .build [.p (.v (.int .i64 0)), .p (.v (.int .i64 0)), .p (.v (.int .u8 0)), .p (.v (.int .i64 0))] []⟩,
    ⟨none, some 21, .call 13 [.tmp 19, .const (.int .i64 (-1)), .tmp 20]⟩,
    ⟨none, some 22, .bin .neq (.tmp 21) (.const (.int .i64 11))⟩,
    ⟨none, some 23, .mv (.tmp 22)⟩,
    ⟨some (23, false), some 24, .mv (.tmp 4)⟩,
    ⟨some (23, false), some 25, .len (.tmp 24)⟩,
    ⟨some (23, false), some 26, .bin .neq (.tmp 25) (.const (.int .i64 0))⟩,
    ⟨none, some 27, .pick (.tmp 23) (.const (.bool true)) (.tmp 26)⟩,
    ⟨none, some 28, .mv (.tmp 27)⟩,
    ⟨some (28, false), some 29, .mv (.tmp 5)⟩,
    ⟨some (28, false), some 30, .bin .neq (.tmp 29) (.const (.int .i64 11))⟩,
    ⟨none, some 31, .pick (.tmp 28) (.const (.bool true)) (.tmp 30)⟩,
    ⟨none, some 32, .mv (.tmp 31)⟩,
    ⟨some (32, false), some 33, .mv (.tmp 3)⟩,
    ⟨some (32, false), some 34, .call 18 [.tmp 33]⟩,
    ⟨some (32, false), some 35, .len (.tmp 34)⟩,
    ⟨some (32, false), some 36, .bin .neq (.tmp 35) (.const (.int .i64 0))⟩,
    ⟨none, some 37, .pick (.tmp 32) (.const (.bool true)) (.tmp 36)⟩,
    ⟨none, some 38, .mv (.tmp 37)⟩,
    ⟨some (38, false), some 39, .mv (.tmp 3)⟩,
    ⟨some (38, false), some 40, .call 21 [.tmp 39]⟩,
    ⟨some (38, false), some 41, .bin .neq (.tmp 40) (.const (.int .i64 0))⟩,
    ⟨none, some 42, .pick (.tmp 38) (.const (.bool true)) (.tmp 41)⟩])
  (.cond (.tmp 42) (.seq (.rg [⟨none, some 0, .mv (.const (.bool false))⟩])
  (.ret)) (.skip))))))
  (.rg [⟨none, some 43, .bin .add (.tmp 10) (.const (.int .i64 1))⟩,
    ⟨none, some 10, .mv (.tmp 43)⟩])))
def ac24 (q : Option (Nat × Nat)) : AC := .seq (.rg [⟨none, some 0, .mv (.const (.bool false))⟩])
  (.seq (.rg [⟨none, some 1, .mv (.const (.pointer none))⟩])
  (.seq (.seq (.rg [⟨none, some 6, .mv (.tmp 1)⟩,
    ⟨none, some 7, .allocL 73 [(258, .int .i64 0), (1, .pointer none)]⟩,
    ⟨none, some 8, .bsliceM 25 2 1 [.p (.v (.pointer none))] [(0, 1, .tmp 6), (1, 1, .tmp 7)]⟩,
    ⟨none, some 9, .len (.tmp 8)⟩,
    ⟨none, some 10, .mv (.const (.int .i64 0))⟩])
  (.blk 0 (.loop q [8, 9, 10] (ac24_L0 q))))
  (.seq (.rg [⟨none, some 0, .mv (.const (.bool true))⟩])
  (.ret))))
theorem ac24_ok (q : Option (Nat × Nat)) : compF Go.Proofs.Try.prog Go.Proofs.Try.f24 (ac24 q) = some (ac24 q, [.tmp 0]) := by kernel_rfl

/- clearway clearwaylaw33.clipped -/
def ac25 (q : Option (Nat × Nat)) : AC := .seq (.rg [⟨none, some 2, .mv (.const (.int .i64 0))⟩])
  (.seq (.rg [⟨none, some 3, .mv (.tmp 0)⟩,
    ⟨none, some 4, .conv .u8 (.tmp 3)⟩,
    ⟨none, some 5, .conv .i64 (.tmp 4)⟩,
    ⟨none, some 6, .bin .rem (.tmp 5) (.const (.int .i64 10))⟩,
    ⟨none, some 7, .bin .sub (.tmp 6) (.const (.int .i64 1))⟩,
    ⟨none, some 2, .mv (.tmp 7)⟩])
  (.ret))
theorem ac25_ok (q : Option (Nat × Nat)) : compF Go.Proofs.Try.prog Go.Proofs.Try.f25 (ac25 q) = some (ac25 q, [.tmp 2]) := by kernel_rfl

/- clearway clearwaylaw33.hears -/
def ac26_L0 (q : Option (Nat × Nat)) : AC := .seq (.seq (.rg [⟨none, some 22, .mv (.tmp 11)⟩,
    ⟨none, some 23, .mv (.tmp 7)⟩,
    ⟨none, some 24, .len (.tmp 23)⟩,
    ⟨none, some 25, .bin .lss (.tmp 22) (.tmp 24)⟩])
  (.cond (.tmp 25) (.skip) (.exit 0)))
  (.seq (.blk 1 (.seq (.rg [⟨none, some 28, .mv (.tmp 7)⟩,
    ⟨none, some 29, .mv (.tmp 11)⟩,
    ⟨none, some 30, .idx 4 (.tmp 28) (.tmp 29)⟩,
    ⟨none, some 31, .fieldA 3 (.tmp 30)⟩,
    ⟨none, some 32, .load (.tmp 31)⟩,
    ⟨none, some 33, .bin .sub (.tmp 32) (.const (.int .i64 1))⟩,
    ⟨none, some 12, .mv (.tmp 33)⟩])
  (.seq (.seq (.dr [(true, [(0, 0), (1, 0), (2, 0)], [⟨none, some 34, .mv (.tmp 12)⟩,
    ⟨none, some 35, .bin .lss (.tmp 34) (.const (.int .i64 0))⟩,
    ⟨none, some 36, .mv (.tmp 35)⟩]),
   (false, [(3, 0), (4, 0), (5, 0)], [⟨some (36, false), some 37, .mv (.tmp 12)⟩,
    ⟨some (36, false), some 38, .mv (.tmp 2)⟩,
    ⟨some (36, false), some 39, .len (.tmp 38)⟩]),
   (true, [(6, 0), (7, 0), (8, 0)], [⟨some (36, false), some 40, .bin .geq (.tmp 37) (.tmp 39)⟩,
    ⟨none, some 41, .pick (.tmp 36) (.const (.bool true)) (.tmp 40)⟩,
    ⟨none, some 42, .mv (.tmp 41)⟩]),
   (false, [(9, 0), (10, 0)], [⟨some (42, false), some 43, .mv (.tmp 2)⟩,
    ⟨some (42, false), some 44, .mv (.tmp 12)⟩]),
   (true, [(11, 0), (12, 0), (13, 0), (14, 0), (15, 0)], [⟨some (42, false), some 45, .idx 1 (.tmp 43) (.tmp 44)⟩,
    ⟨some (42, false), some 46, .load (.tmp 45)⟩,
    ⟨some (42, false), some 47, .bin .lss (.tmp 46) (.const (.int .i64 0))⟩,
    ⟨none, some 48, .pick (.tmp 42) (.const (.bool true)) (.tmp 47)⟩,
    ⟨none, some 49, .mv (.tmp 48)⟩]),
   (false, [(16, 0), (17, 0), (18, 0), (19, 0), (20, 0)], [⟨some (49, false), some 50, .mv (.tmp 2)⟩,
    ⟨some (49, false), some 51, .mv (.tmp 12)⟩,
    ⟨some (49, false), some 52, .idx 1 (.tmp 50) (.tmp 51)⟩,
    ⟨some (49, false), some 53, .load (.tmp 52)⟩,
    ⟨some (49, false), some 54, .mv (.tmp 1)⟩]),
   (true, [(21, 0), (22, 0), (23, 0)], [⟨some (49, false), some 55, .bin .gtr (.tmp 53) (.tmp 54)⟩,
    ⟨none, some 56, .pick (.tmp 49) (.const (.bool true)) (.tmp 55)⟩,
    ⟨none, some 57, .mv (.tmp 56)⟩]),
   (false, [(24, 0), (25, 0), (26, 0), (27, 0), (28, 0)], [⟨some (57, false), some 58, .mv (.tmp 2)⟩,
    ⟨some (57, false), some 59, .mv (.tmp 12)⟩,
    ⟨some (57, false), some 60, .idx 1 (.tmp 58) (.tmp 59)⟩,
    ⟨some (57, false), some 61, .load (.tmp 60)⟩,
    ⟨some (57, false), some 62, .mv (.tmp 9)⟩]),
   (true, [(29, 0), (30, 0), (31, 0)], [⟨some (57, false), some 63, .bin .lss (.tmp 61) (.tmp 62)⟩,
    ⟨none, some 64, .pick (.tmp 57) (.const (.bool true)) (.tmp 63)⟩,
    ⟨none, some 65, .mv (.tmp 64)⟩]),
   (false, [(32, 0), (33, 0), (34, 0), (35, 0), (36, 0), (37, 0), (38, 0)], [⟨some (65, false), some 66, .mv (.tmp 7)⟩,
    ⟨some (65, false), some 67, .mv (.tmp 11)⟩,
    ⟨some (65, false), some 68, .idx 4 (.tmp 66) (.tmp 67)⟩,
    ⟨some (65, false), some 69, .loadA 4 (.tmp 68)⟩,
    ⟨some (65, false), some 70, .mv (.tmp 12)⟩,
    ⟨some (65, false), some 71, .bin .add (.tmp 70) (.const (.int .i64 1))⟩,
    ⟨some (65, false), some 72, .call 27 [.tmp 71]⟩]),
   (true, [(39, 0), (40, 0)], [⟨some (65, false), some 73, .eqA [false, false, false, false] true (.tmp 69) (.tmp 72)⟩,
    ⟨none, some 74, .pick (.tmp 65) (.const (.bool true)) (.tmp 73)⟩])])
  (.cond (.tmp 74) (.seq (.rg [⟨none, some 6, .mv (.const (.bool false))⟩])
  (.ret)) (.skip)))
  (.seq (.rg [⟨none, some 75, .mv (.tmp 2)⟩,
    ⟨none, some 76, .mv (.tmp 12)⟩,
    ⟨none, some 77, .idx 1 (.tmp 75) (.tmp 76)⟩,
    ⟨none, some 78, .load (.tmp 77)⟩,
    ⟨none, some 9, .mv (.tmp 78)⟩])
  (.seq (.rg [⟨none, some 79, .mv (.tmp 2)⟩,
    ⟨none, some 80, .mv (.tmp 12)⟩,
    ⟨none, some 81, .idx 1 (.tmp 79) (.tmp 80)⟩,
    ⟨none, none, .store 1 (.tmp 81) (.const (.int .i64 (-1)))⟩])
  (.rg [⟨none, some 82, .mv (.tmp 10)⟩,
    ⟨none, some 83, .bin .add (.tmp 82) (.const (.int .i64 1))⟩,
    ⟨none, some 10, .mv (.tmp 83)⟩]))))))
  (.rg [⟨none, some 26, .mv (.tmp 11)⟩,
    ⟨none, some 27, .bin .add (.tmp 26) (.const (.int .i64 1))⟩,
    ⟨none, some 11, .mv (.tmp 27)⟩]))
def ac26_L1 (q : Option (Nat × Nat)) : AC := .seq (.seq (.rg [⟨none, some 84, .mv (.tmp 13)⟩,
    ⟨none, some 85, .mv (.tmp 2)⟩,
    ⟨none, some 86, .len (.tmp 85)⟩,
    ⟨none, some 87, .bin .lss (.tmp 84) (.tmp 86)⟩])
  (.cond (.tmp 87) (.skip) (.exit 2)))
  (.seq (.blk 3 (.seq (.rg [⟨none, some 90, .mv (.tmp 2)⟩,
    ⟨none, some 91, .mv (.tmp 13)⟩,
    ⟨none, some 92, .idx 1 (.tmp 90) (.tmp 91)⟩,
    ⟨none, some 93, .load (.tmp 92)⟩,
    ⟨none, some 94, .bin .geq (.tmp 93) (.const (.int .i64 0))⟩,
    ⟨none, some 95, .mv (.tmp 94)⟩,
    ⟨some (95, true), some 96, .mv (.tmp 2)⟩,
    ⟨some (95, true), some 97, .mv (.tmp 13)⟩,
    ⟨some (95, true), some 98, .idx 1 (.tmp 96) (.tmp 97)⟩,
    ⟨some (95, true), some 99, .load (.tmp 98)⟩,
    ⟨some (95, true), some 100, .mv (.tmp 1)⟩,
    ⟨some (95, true), some 101, .bin .leq (.tmp 99) (.tmp 100)⟩,
    ⟨none, some 102, .pick (.tmp 95) (.tmp 101) (.const (.bool false))⟩])
  (.cond (.tmp 102) (.seq (.rg [⟨none, some 6, .mv (.const (.bool false))⟩])
  (.ret)) (.skip))))
  (.rg [⟨none, some 88, .mv (.tmp 13)⟩,
    ⟨none, some 89, .bin .add (.tmp 88) (.const (.int .i64 1))⟩,
    ⟨none, some 13, .mv (.tmp 89)⟩]))
def ac26 (q : Option (Nat × Nat)) : AC := .seq (.rg [⟨none, some 6, .mv (.const (.bool false))⟩])
  (.seq (.rg [⟨none, some 15, .mv (.tmp 0)⟩,
    ⟨none, some 16, .mv (.tmp 1)⟩,
    ⟨none, some 17, .call 15 [.tmp 15, .tmp 16]⟩,
    ⟨none, some 14, .mv (.tmp 17)⟩,
    ⟨none, some 18, .extract (.tmp 14) 0⟩,
    ⟨none, some 19, .extract (.tmp 14) 1⟩,
    ⟨none, some 7, .mv (.tmp 18)⟩,
    ⟨none, some 8, .mv (.tmp 19)⟩])
  (.seq (.seq (.rg [⟨none, some 20, .mv (.tmp 8)⟩,
    ⟨none, some 21, .bin .neq (.tmp 20) (.const (.int .i64 0))⟩])
  (.cond (.tmp 21) (.seq (.rg [⟨none, some 6, .mv (.const (.bool false))⟩])
  (.ret)) (.skip)))
  (.seq (.rg [⟨none, some 9, .mv (.const (.int .i64 (-1)))⟩,
    ⟨none, some 10, .mv (.const (.int .i64 0))⟩])
  (.seq (.seq (.rg [⟨none, some 11, .mv (.const (.int .i64 0))⟩])
  (.blk 0 (.loop q [1, 2, 7, 9, 10, 11] (ac26_L0 q))))
  (.seq (.seq (.rg [⟨none, some 13, .mv (.const (.int .i64 0))⟩])
  (.blk 2 (.loop q [1, 2, 7, 10, 13] (ac26_L1 q))))
  (.seq (.rg [⟨none, some 103, .mv (.tmp 10)⟩,
    ⟨none, some 104, .mv (.tmp 7)⟩,
    ⟨none, some 105, .len (.tmp 104)⟩,
    ⟨none, some 106, .bin .eql (.tmp 103) (.tmp 105)⟩,
    ⟨none, some 6, .mv (.tmp 106)⟩])
  (.ret)))))))
theorem ac26_ok (q : Option (Nat × Nat)) : compF Go.Proofs.Try.prog Go.Proofs.Try.f26 (ac26 q) = some (ac26 q, [.tmp 6]) := by kernel_rfl

/- clearway clearwaylaw33.choice -/
def ac27 (q : Option (Nat × Nat)) : AC := .seq (.rg [⟨none, some 2, .alloc 33 [.p (.v (.int .i64 0)), .p (.v (.int .i64 0)), .p (.v (.int .u8 0)), .p (.v (.int .i64 0))]⟩])
  (.seq (.rg [⟨none, some 3, .mv (.tmp 0)⟩,
    ⟨none, some 4, .build [.p (.v (.int .i64 0)), .p (.v (.int .i64 0)), .p (.v (.int .u8 0)), .p (.v (.int .i64 0))] [(0, 1, .const (.int .i64 3)), (1, 1, .const (.int .i64 4)), (3, 1, .tmp 3)]⟩,
    ⟨none, none, .store 4 (.tmp 2) (.tmp 4)⟩])
  (.ret))
theorem ac27_ok (q : Option (Nat × Nat)) : compF Go.Proofs.Try.prog Go.Proofs.Try.f27 (ac27 q) = some (ac27 q, [.cell 2 (some 4)]) := by kernel_rfl

/- clearway clearwaylaw33.boolean -/
def ac28 (q : Option (Nat × Nat)) : AC := .seq (.rg [⟨none, some 2, .mv (.const (.int .i64 0))⟩])
  (.seq (.seq (.rg [⟨none, some 3, .mv (.tmp 0)⟩])
  (.cond (.tmp 3) (.seq (.rg [⟨none, some 2, .mv (.const (.int .i64 1))⟩])
  (.ret)) (.skip)))
  (.seq (.rg [⟨none, some 2, .mv (.const (.int .i64 0))⟩])
  (.ret)))
theorem ac28_ok (q : Option (Nat × Nat)) : compF Go.Proofs.Try.prog Go.Proofs.Try.f28 (ac28 q) = some (ac28 q, [.tmp 2]) := by kernel_rfl

/- clearway clearwaylaw33.heard -/
def ac29_L0 (q : Option (Nat × Nat)) : AC := .seq (.seq (.rg [⟨none, some 11, .mv (.tmp 8)⟩,
    ⟨none, some 12, .mv (.tmp 2)⟩,
    ⟨none, some 13, .len (.tmp 12)⟩,
    ⟨none, some 14, .bin .lss (.tmp 11) (.tmp 13)⟩])
  (.cond (.tmp 14) (.skip) (.exit 0)))
  (.seq (.blk 1 (.rg [⟨none, some 17, .mv (.tmp 7)⟩,
    ⟨none, some 18, .mv (.tmp 2)⟩,
    ⟨none, some 19, .mv (.tmp 8)⟩,
    ⟨none, some 20, .idx 1 (.tmp 18) (.tmp 19)⟩,
    ⟨none, some 21, .load (.tmp 20)⟩,
    ⟨none, some 22, .call 27 [.tmp 21]⟩,
    ⟨none, some 23, .bslice false 33 1 4 [.p (.v (.int .i64 0)), .p (.v (.int .i64 0)), .p (.v (.int .u8 0)), .p (.v (.int .i64 0))] [(0, 4, .tmp 22)]⟩,
    ⟨none, some 24, .append 33 4 32 (.tmp 17) (.tmp 23)⟩,
    ⟨none, some 7, .mv (.tmp 24)⟩]))
  (.rg [⟨none, some 15, .mv (.tmp 8)⟩,
    ⟨none, some 16, .bin .add (.tmp 15) (.const (.int .i64 1))⟩,
    ⟨none, some 8, .mv (.tmp 16)⟩]))
def ac29 (q : Option (Nat × Nat)) : AC := .seq (.rg [⟨none, some 6, .mv (.const (.bool false))⟩])
  (.seq (.rg [⟨none, some 7, .mv (.const (.slice none 0 0))⟩])
  (.seq (.seq (.rg [⟨none, some 8, .mv (.const (.int .i64 0))⟩])
  (.blk 0 (.loop q [0, 1, 2, 7, 8] (ac29_L0 q))))
  (.seq (.rg [⟨none, some 26, .mv (.tmp 0)⟩,
    ⟨none, some 27, .mv (.tmp 1)⟩,
    ⟨none, some 28, .call 15 [.tmp 26, .tmp 27]⟩,
    ⟨none, some 25, .mv (.tmp 28)⟩,
    ⟨none, some 29, .extract (.tmp 25) 0⟩,
    ⟨none, some 30, .extract (.tmp 25) 1⟩,
    ⟨none, some 9, .mv (.tmp 29)⟩,
    ⟨none, some 10, .mv (.tmp 30)⟩])
  (.seq (.rg [⟨none, some 31, .mv (.tmp 10)⟩,
    ⟨none, some 32, .bin .eql (.tmp 31) (.const (.int .i64 0))⟩,
    ⟨none, some 33, .mv (.tmp 32)⟩,
    ⟨some (33, true), some 34, .mv (.tmp 9)⟩,
    ⟨some (33, true), some 35, .mv (.tmp 7)⟩,
    ⟨some (33, true), some 36, .call 17 [.tmp 34, .tmp 35]⟩,
    ⟨none, some 37, .pick (.tmp 33) (.tmp 36) (.const (.bool false))⟩,
    ⟨none, some 6, .mv (.tmp 37)⟩])
  (.ret)))))
theorem ac29_ok (q : Option (Nat × Nat)) : compF Go.Proofs.Try.prog Go.Proofs.Try.f29 (ac29 q) = some (ac29 q, [.tmp 6]) := by kernel_rfl

/- clearway link.check -/
def ac30 (q : Option (Nat × Nat)) : AC := .seq (.rg [⟨none, some 2, .mv (.const (.int .i64 0))⟩])
  (.seq (.blk 0 (.seq (.rg [⟨none, some 4, .mv (.tmp 0)⟩,
    ⟨none, some 5, .len (.tmp 4)⟩,
    ⟨none, some 6, .bin .gtr (.tmp 5) (.const (.int .i64 256))⟩,
    ⟨none, some 3, .mv (.tmp 6)⟩])
  (.cond (.tmp 3) (.seq (.rg [⟨none, some 2, .mv (.const (.int .i64 4))⟩])
  (.ret)) (.seq (.rg [⟨none, some 8, .mv (.tmp 0)⟩,
    ⟨none, some 9, .call 43 [.tmp 8, .func 44]⟩,
    ⟨none, some 7, .mv (.tmp 9)⟩])
  (.cond (.tmp 7) (.seq (.rg [⟨none, some 2, .mv (.const (.int .i64 1))⟩])
  (.ret)) (.skip))))))
  (.seq (.rg [⟨none, some 2, .mv (.const (.int .i64 0))⟩])
  (.ret)))
theorem ac30_ok (q : Option (Nat × Nat)) : compF Go.Proofs.Try.prog Go.Proofs.Try.f30 (ac30 q) = some (ac30 q, [.tmp 2]) := by kernel_rfl

/- clearway clearwayref33.wrong -/
def ac31_L0 (q : Option (Nat × Nat)) : AC := .seq (.seq (.rg [⟨none, some 7, .mv (.tmp 3)⟩,
    ⟨none, some 8, .mv (.tmp 0)⟩,
    ⟨none, some 9, .len (.tmp 8)⟩,
    ⟨none, some 10, .bin .lss (.tmp 7) (.tmp 9)⟩])
  (.cond (.tmp 10) (.skip) (.exit 0)))
  (.seq (.blk 1 (.seq (.rg [⟨none, some 13, .mv (.tmp 0)⟩,
    ⟨none, some 14, .mv (.tmp 3)⟩,
    ⟨none, some 15, .idx 1 (.tmp 13) (.tmp 14)⟩,
    ⟨none, some 16, .load (.tmp 15)⟩,
    ⟨none, some 17, .bin .lss (.tmp 16) (.const (.int .i64 (-1)))⟩,
    ⟨none, some 18, .mv (.tmp 17)⟩,
    ⟨some (18, false), some 19, .mv (.tmp 0)⟩,
    ⟨some (18, false), some 20, .mv (.tmp 3)⟩,
    ⟨some (18, false), some 21, .idx 1 (.tmp 19) (.tmp 20)⟩,
    ⟨some (18, false), some 22, .load (.tmp 21)⟩,
    ⟨some (18, false), some 23, .bin .gtr (.tmp 22) (.const (.int .i64 8))⟩,
    ⟨none, some 24, .pick (.tmp 18) (.const (.bool true)) (.tmp 23)⟩])
  (.cond (.tmp 24) (.seq (.rg [⟨none, some 2, .mv (.const (.int .i64 1))⟩])
  (.ret)) (.skip))))
  (.rg [⟨none, some 11, .mv (.tmp 3)⟩,
    ⟨none, some 12, .bin .add (.tmp 11) (.const (.int .i64 1))⟩,
    ⟨none, some 3, .mv (.tmp 12)⟩]))
def ac31 (q : Option (Nat × Nat)) : AC := .seq (.rg [⟨none, some 2, .mv (.const (.int .i64 0))⟩])
  (.seq (.seq (.rg [⟨none, some 4, .mv (.tmp 0)⟩,
    ⟨none, some 5, .len (.tmp 4)⟩,
    ⟨none, some 6, .bin .gtr (.tmp 5) (.const (.int .i64 256))⟩])
  (.cond (.tmp 6) (.seq (.rg [⟨none, some 2, .mv (.const (.int .i64 4))⟩])
  (.ret)) (.skip)))
  (.seq (.seq (.rg [⟨none, some 3, .mv (.const (.int .i64 0))⟩])
  (.blk 0 (.loop q [0, 3] (ac31_L0 q))))
  (.seq (.rg [⟨none, some 2, .mv (.const (.int .i64 0))⟩])
  (.ret))))
theorem ac31_ok (q : Option (Nat × Nat)) : compF Go.Proofs.Try.prog Go.Proofs.Try.f31 (ac31 q) = some (ac31 q, [.tmp 2]) := by kernel_rfl

/- (*clearway link.Link).at -/
def ac32 (q : Option (Nat × Nat)) : AC := .seq (.rg [⟨none, some 4, .mv (.const (.int .i64 0))⟩])
  (.seq (.blk 0 (.seq (.rg [⟨none, some 6, .mv (.tmp 0)⟩,
    ⟨none, some 7, .eqP false (.tmp 6) (.const (.pointer none))⟩,
    ⟨none, some 8, .mv (.tmp 7)⟩,
    ⟨some (8, false), some 9, .mv (.tmp 0)⟩,
    ⟨some (8, false), some 10, .nilck (.tmp 9)⟩,
    ⟨some (8, false), some 11, .fieldA 258 (.tmp 10)⟩,
    ⟨some (8, false), some 12, .load (.tmp 11)⟩,
    ⟨some (8, false), some 13, .eqP false (.tmp 12) (.const (.pointer none))⟩,
    ⟨none, some 14, .pick (.tmp 8) (.const (.bool true)) (.tmp 13)⟩,
    ⟨none, some 5, .mv (.tmp 14)⟩])
  (.cond (.tmp 5) (.seq (.rg [⟨none, some 4, .mv (.const (.int .i64 11))⟩])
  (.ret)) (.seq (.rg [⟨none, some 16, .mv (.tmp 1)⟩,
    ⟨none, some 17, .bin .lss (.tmp 16) (.const (.int .i64 0))⟩,
    ⟨none, some 18, .mv (.tmp 17)⟩,
    ⟨some (18, false), some 19, .mv (.tmp 1)⟩,
    ⟨some (18, false), some 20, .bin .gtr (.tmp 19) (.const (.int .i64 1099511627776))⟩,
    ⟨none, some 21, .pick (.tmp 18) (.const (.bool true)) (.tmp 20)⟩,
    ⟨none, some 15, .mv (.tmp 21)⟩])
  (.cond (.tmp 15) (.seq (.rg [⟨none, some 4, .mv (.const (.int .i64 1))⟩])
  (.ret)) (.seq (.rg [⟨none, some 23, .mv (.tmp 1)⟩,
    ⟨none, some 24, .mv (.tmp 0)⟩,
    ⟨none, some 25, .nilck (.tmp 24)⟩,
    ⟨none, some 26, .fieldA 256 (.tmp 25)⟩,
    ⟨none, some 27, .load (.tmp 26)⟩,
    ⟨none, some 28, .bin .lss (.tmp 23) (.tmp 27)⟩,
    ⟨none, some 22, .mv (.tmp 28)⟩])
  (.cond (.tmp 22) (.seq (.rg [⟨none, some 4, .mv (.const (.int .i64 12))⟩])
  (.ret)) (.skip))))))))
  (.seq (.rg [⟨none, some 4, .mv (.const (.int .i64 0))⟩])
  (.ret)))
theorem ac32_ok (q : Option (Nat × Nat)) : compF Go.Proofs.Try.prog Go.Proofs.Try.f32 (ac32 q) = some (ac32 q, [.tmp 4]) := by kernel_rfl

/- clearway lock.Check -/
def ac33 (q : Option (Nat × Nat)) : AC := .seq (.rg [⟨none, some 1, .box 33 (.tmp 0)⟩,
    ⟨none, some 2, .mv (.const (.int .i64 0))⟩])
  (.seq (.rg [⟨none, some 3, .mv (.func 45)⟩])
  (.seq (.blk 0 (.seq (.rg [⟨none, some 5, .mv (.tmp 3)⟩,
    ⟨none, some 6, .fieldA 0 (.tmp 1)⟩,
    ⟨none, some 7, .load (.tmp 6)⟩,
    ⟨none, some 8, .callv (.tmp 5) [.tmp 7]⟩,
    ⟨none, some 9, .mv (.tmp 8)⟩,
    ⟨some (9, false), some 10, .mv (.tmp 3)⟩,
    ⟨some (9, false), some 11, .fieldA 1 (.tmp 1)⟩,
    ⟨some (9, false), some 12, .load (.tmp 11)⟩,
    ⟨some (9, false), some 13, .callv (.tmp 10) [.tmp 12]⟩,
    ⟨none, some 14, .pick (.tmp 9) (.const (.bool true)) (.tmp 13)⟩,
    ⟨none, some 15, .mv (.tmp 14)⟩,
    ⟨some (15, false), some 16, .fieldA 0 (.tmp 1)⟩,
    ⟨some (15, false), some 17, .load (.tmp 16)⟩,
    ⟨some (15, false), some 18, .fieldA 1 (.tmp 1)⟩,
    ⟨some (15, false), some 19, .load (.tmp 18)⟩,
    ⟨some (15, false), some 20, .bin .eql (.tmp 17) (.tmp 19)⟩,
    ⟨none, some 21, .pick (.tmp 15) (.const (.bool true)) (.tmp 20)⟩,
    ⟨none, some 4, .mv (.tmp 21)⟩])
  (.cond (.tmp 4) (.seq (.rg [⟨none, some 2, .mv (.const (.int .i64 1))⟩])
  (.ret)) (.seq (.rg [⟨none, some 23, .fieldA 2 (.tmp 1)⟩,
    ⟨none, some 24, .load (.tmp 23)⟩,
    ⟨none, some 25, .bin .gtr (.tmp 24) (.const (.int .u8 2))⟩,
    ⟨none, some 22, .mv (.tmp 25)⟩])
  (.cond (.tmp 22) (.seq (.rg [⟨none, some 2, .mv (.const (.int .i64 6))⟩])
  (.ret)) (.seq (.rg [⟨none, some 27, .fieldA 3 (.tmp 1)⟩,
    ⟨none, some 28, .load (.tmp 27)⟩,
    ⟨none, some 29, .bin .lss (.tmp 28) (.const (.int .i64 1))⟩,
    ⟨none, some 30, .mv (.tmp 29)⟩,
    ⟨some (30, false), some 31, .fieldA 3 (.tmp 1)⟩,
    ⟨some (30, false), some 32, .load (.tmp 31)⟩,
    ⟨some (30, false), some 33, .bin .gtr (.tmp 32) (.const (.int .i64 1048575))⟩,
    ⟨none, some 34, .pick (.tmp 30) (.const (.bool true)) (.tmp 33)⟩,
    ⟨none, some 26, .mv (.tmp 34)⟩])
  (.cond (.tmp 26) (.seq (.rg [⟨none, some 2, .mv (.const (.int .i64 1))⟩])
  (.ret)) (.skip))))))))
  (.seq (.rg [⟨none, some 2, .mv (.const (.int .i64 0))⟩])
  (.ret))))
theorem ac33_ok (q : Option (Nat × Nat)) : compF Go.Proofs.Try.prog Go.Proofs.Try.f33 (ac33 q) = some (ac33 q, [.tmp 2]) := by kernel_rfl

/- (clearway link.queue).Len -/
def ac34 (q : Option (Nat × Nat)) : AC := .seq (.rg [⟨none, some 2, .mv (.const (.int .i64 0))⟩])
  (.seq (.rg [⟨none, some 3, .mv (.tmp 0)⟩,
    ⟨none, some 4, .len (.tmp 3)⟩,
    ⟨none, some 2, .mv (.tmp 4)⟩])
  (.ret))
theorem ac34_ok (q : Option (Nat × Nat)) : compF Go.Proofs.Try.prog Go.Proofs.Try.f34 (ac34 q) = some (ac34 q, [.tmp 2]) := by kernel_rfl

/- container heap.Push -/
def ac35 (q : Option (Nat × Nat)) : AC := .seq (.rg [⟨none, some 4, .mv (.tmp 0)⟩,
    ⟨none, some 5, .mv (.tmp 1)⟩,
    ⟨none, some 6, .invk [(69, 85, false)] (.tmp 4) [.tmp 5]⟩])
  (.rg [⟨none, some 7, .mv (.tmp 0)⟩,
    ⟨none, some 8, .mv (.tmp 0)⟩,
    ⟨none, some 9, .invk [(69, 34, true)] (.tmp 8) []⟩,
    ⟨none, some 10, .bin .sub (.tmp 9) (.const (.int .i64 1))⟩,
    ⟨none, some 11, .call 46 [.tmp 7, .tmp 10]⟩])
theorem ac35_ok (q : Option (Nat × Nat)) : compF Go.Proofs.Try.prog Go.Proofs.Try.f35 (ac35 q) = some (ac35 q, []) := by kernel_rfl

/- (*clearway clearwayref33.Link).time -/
def ac36 (q : Option (Nat × Nat)) : AC := .seq (.rg [⟨none, some 4, .mv (.const (.int .i64 0))⟩])
  (.seq (.seq (.rg [⟨none, some 5, .mv (.tmp 1)⟩,
    ⟨none, some 6, .bin .lss (.tmp 5) (.const (.int .i64 0))⟩,
    ⟨none, some 7, .mv (.tmp 6)⟩,
    ⟨some (7, false), some 8, .mv (.tmp 1)⟩,
    ⟨some (7, false), some 9, .bin .gtr (.tmp 8) (.const (.int .i64 1099511627776))⟩,
    ⟨none, some 10, .pick (.tmp 7) (.const (.bool true)) (.tmp 9)⟩])
  (.cond (.tmp 10) (.seq (.rg [⟨none, some 4, .mv (.const (.int .i64 1))⟩])
  (.ret)) (.skip)))
  (.seq (.seq (.rg [⟨none, some 11, .mv (.tmp 1)⟩,
    ⟨none, some 12, .mv (.tmp 0)⟩,
    ⟨none, some 13, .nilck (.tmp 12)⟩,
    ⟨none, some 14, .fieldA 1 (.tmp 13)⟩,
    ⟨none, some 15, .load (.tmp 14)⟩,
    ⟨none, some 16, .bin .lss (.tmp 11) (.tmp 15)⟩])
  (.cond (.tmp 16) (.seq (.rg [⟨none, some 4, .mv (.const (.int .i64 12))⟩])
  (.ret)) (.skip)))
  (.seq (.rg [⟨none, some 4, .mv (.const (.int .i64 0))⟩])
  (.ret))))
theorem ac36_ok (q : Option (Nat × Nat)) : compF Go.Proofs.Try.prog Go.Proofs.Try.f36 (ac36 q) = some (ac36 q, [.tmp 4]) := by kernel_rfl

/- clearway clearwayref32.Check -/
def ac37 (q : Option (Nat × Nat)) : AC := .seq (.rg [⟨none, some 1, .box 33 (.tmp 0)⟩,
    ⟨none, some 2, .mv (.const (.int .i64 0))⟩])
  (.seq (.seq (.rg [⟨none, some 3, .fieldA 0 (.tmp 1)⟩,
    ⟨none, some 4, .load (.tmp 3)⟩,
    ⟨none, some 5, .bin .lss (.tmp 4) (.const (.int .i64 0))⟩,
    ⟨none, some 6, .mv (.tmp 5)⟩,
    ⟨some (6, false), some 7, .fieldA 0 (.tmp 1)⟩,
    ⟨some (6, false), some 8, .load (.tmp 7)⟩,
    ⟨some (6, false), some 9, .bin .gtr (.tmp 8) (.const (.int .i64 16777215))⟩,
    ⟨none, some 10, .pick (.tmp 6) (.const (.bool true)) (.tmp 9)⟩,
    ⟨none, some 11, .mv (.tmp 10)⟩,
    ⟨some (11, false), some 12, .fieldA 1 (.tmp 1)⟩,
    ⟨some (11, false), some 13, .load (.tmp 12)⟩,
    ⟨some (11, false), some 14, .bin .lss (.tmp 13) (.const (.int .i64 0))⟩,
    ⟨none, some 15, .pick (.tmp 11) (.const (.bool true)) (.tmp 14)⟩,
    ⟨none, some 16, .mv (.tmp 15)⟩,
    ⟨some (16, false), some 17, .fieldA 1 (.tmp 1)⟩,
    ⟨some (16, false), some 18, .load (.tmp 17)⟩,
    ⟨some (16, false), some 19, .bin .gtr (.tmp 18) (.const (.int .i64 16777215))⟩,
    ⟨none, some 20, .pick (.tmp 16) (.const (.bool true)) (.tmp 19)⟩,
    ⟨none, some 21, .mv (.tmp 20)⟩,
    ⟨some (21, false), some 22, .fieldA 0 (.tmp 1)⟩,
    ⟨some (21, false), some 23, .load (.tmp 22)⟩,
    ⟨some (21, false), some 24, .fieldA 1 (.tmp 1)⟩,
    ⟨some (21, false), some 25, .load (.tmp 24)⟩,
    ⟨some (21, false), some 26, .bin .eql (.tmp 23) (.tmp 25)⟩,
    ⟨none, some 27, .pick (.tmp 21) (.const (.bool true)) (.tmp 26)⟩])
  (.cond (.tmp 27) (.seq (.rg [⟨none, some 2, .mv (.const (.int .i64 1))⟩])
  (.ret)) (.skip)))
  (.seq (.seq (.rg [⟨none, some 28, .fieldA 2 (.tmp 1)⟩,
    ⟨none, some 29, .load (.tmp 28)⟩,
    ⟨none, some 30, .bin .gtr (.tmp 29) (.const (.int .u8 2))⟩])
  (.cond (.tmp 30) (.seq (.rg [⟨none, some 2, .mv (.const (.int .i64 6))⟩])
  (.ret)) (.skip)))
  (.seq (.seq (.rg [⟨none, some 31, .fieldA 3 (.tmp 1)⟩,
    ⟨none, some 32, .load (.tmp 31)⟩,
    ⟨none, some 33, .bin .lss (.tmp 32) (.const (.int .i64 1))⟩,
    ⟨none, some 34, .mv (.tmp 33)⟩,
    ⟨some (34, false), some 35, .fieldA 3 (.tmp 1)⟩,
    ⟨some (34, false), some 36, .load (.tmp 35)⟩,
    ⟨some (34, false), some 37, .bin .gtr (.tmp 36) (.const (.int .i64 1048575))⟩,
    ⟨none, some 38, .pick (.tmp 34) (.const (.bool true)) (.tmp 37)⟩])
  (.cond (.tmp 38) (.seq (.rg [⟨none, some 2, .mv (.const (.int .i64 1))⟩])
  (.ret)) (.skip)))
  (.seq (.rg [⟨none, some 2, .mv (.const (.int .i64 0))⟩])
  (.ret)))))
theorem ac37_ok (q : Option (Nat × Nat)) : compF Go.Proofs.Try.prog Go.Proofs.Try.f37 (ac37 q) = some (ac37 q, [.tmp 2]) := by kernel_rfl

/- container heap.Pop -/
def ac38 (q : Option (Nat × Nat)) : AC := .seq (.rg [⟨none, some 2, .mv (.const .nilIface)⟩])
  (.seq (.rg [⟨none, some 4, .mv (.tmp 0)⟩,
    ⟨none, some 5, .invk [(69, 34, true)] (.tmp 4) []⟩,
    ⟨none, some 6, .bin .sub (.tmp 5) (.const (.int .i64 1))⟩,
    ⟨none, some 3, .mv (.tmp 6)⟩])
  (.seq (.rg [⟨none, some 7, .mv (.tmp 0)⟩,
    ⟨none, some 8, .mv (.tmp 3)⟩,
    ⟨none, some 9, .invk [(69, 86, true)] (.tmp 7) [.const (.int .i64 0), .tmp 8]⟩])
  (.seq (.rg [⟨none, some 10, .mv (.tmp 0)⟩,
    ⟨none, some 11, .mv (.tmp 3)⟩,
    ⟨none, some 12, .call 47 [.tmp 10, .const (.int .i64 0), .tmp 11]⟩])
  (.seq (.rg [⟨none, some 13, .mv (.tmp 0)⟩,
    ⟨none, some 14, .invk [(69, 84, false)] (.tmp 13) []⟩,
    ⟨none, some 2, .mv (.tmp 14)⟩])
  (.ret)))))
theorem ac38_ok (q : Option (Nat × Nat)) : compF Go.Proofs.Try.prog Go.Proofs.Try.f38 (ac38 q) = some (ac38 q, [.tmp 2]) := by kernel_rfl

/- slices.Clone[[]clearway api.Parcel,clearway api.Parcel] -/
def ac39 (q : Option (Nat × Nat)) : AC := .seq (.rg [⟨none, some 2, .mv (.const (.slice none 0 0))⟩])
  (.seq (.seq (.rg [⟨none, some 3, .mv (.tmp 0)⟩,
    ⟨none, some 4, .eqN false (.tmp 3) (.const (.slice none 0 0))⟩])
  (.cond (.tmp 4) (.seq (.rg [⟨none, some 2, .mv (.const (.slice none 0 0))⟩])
  (.ret)) (.skip)))
  (.seq (.rg [⟨none, some 5, .bsliceM 49 0 6 [.p (.v (.int .i64 0)), .p (.v (.int .i64 0)), .p (.v (.int .i64 0)), .p (.v (.int .i64 0)), .p (.v (.int .u8 0)), .p (.v (.int .i64 0))] []⟩,
    ⟨none, some 6, .mv (.tmp 0)⟩,
    ⟨none, some 7, .append 49 6 48 (.tmp 5) (.tmp 6)⟩,
    ⟨none, some 2, .mv (.tmp 7)⟩])
  (.ret)))
theorem ac39_ok (q : Option (Nat × Nat)) : compF Go.Proofs.Try.prog Go.Proofs.Try.f39 (ac39 q) = some (ac39 q, [.tmp 2]) := by kernel_rfl

/- slices.SortFunc[[]clearway api.Parcel,clearway api.Parcel] -/
def ac40 (q : Option (Nat × Nat)) : AC := .seq (.rg [⟨none, some 5, .mv (.tmp 0)⟩,
    ⟨none, some 6, .len (.tmp 5)⟩,
    ⟨none, some 4, .mv (.tmp 6)⟩])
  (.rg [⟨none, some 7, .mv (.tmp 0)⟩,
    ⟨none, some 8, .mv (.tmp 4)⟩,
    ⟨none, some 9, .mv (.tmp 4)⟩,
    ⟨none, some 10, .conv .u64 (.tmp 9)⟩,
    ⟨none, some 11, .call 49 [.tmp 10]⟩,
    ⟨none, some 12, .mv (.tmp 1)⟩,
    ⟨none, some 13, .call 48 [.tmp 7, .const (.int .i64 0), .tmp 8, .tmp 11, .tmp 12]⟩])
theorem ac40_ok (q : Option (Nat × Nat)) : compF Go.Proofs.Try.prog Go.Proofs.Try.f40 (ac40 q) = some (ac40 q, []) := by kernel_rfl

/- (*clearway link.Link).Pending$1 -/
def ac41 (q : Option (Nat × Nat)) : AC := .seq (.rg [⟨none, some 2, .box 49 (.tmp 0)⟩,
    ⟨none, some 3, .box 49 (.tmp 1)⟩,
    ⟨none, some 4, .mv (.const (.int .i64 0))⟩])
  (.seq (.seq (.rg [⟨none, some 5, .loadA 6 (.tmp 2)⟩,
    ⟨none, some 6, .loadA 6 (.tmp 3)⟩,
    ⟨none, some 7, .call 42 [.tmp 5, .tmp 6]⟩])
  (.cond (.tmp 7) (.seq (.rg [⟨none, some 4, .mv (.const (.int .i64 (-1)))⟩])
  (.ret)) (.skip)))
  (.seq (.rg [⟨none, some 4, .mv (.const (.int .i64 1))⟩])
  (.ret)))
theorem ac41_ok (q : Option (Nat × Nat)) : compF Go.Proofs.Try.prog Go.Proofs.Try.f41 (ac41 q) = some (ac41 q, [.tmp 4]) := by kernel_rfl

/- clearway link.before -/
def ac42 (q : Option (Nat × Nat)) : AC := .seq (.rg [⟨none, some 2, .box 49 (.tmp 0)⟩,
    ⟨none, some 3, .box 49 (.tmp 1)⟩,
    ⟨none, some 4, .mv (.const (.bool false))⟩])
  (.seq (.rg [⟨none, some 5, .fieldA 0 (.tmp 2)⟩,
    ⟨none, some 6, .load (.tmp 5)⟩,
    ⟨none, some 7, .fieldA 0 (.tmp 3)⟩,
    ⟨none, some 8, .load (.tmp 7)⟩,
    ⟨none, some 9, .bin .lss (.tmp 6) (.tmp 8)⟩,
    ⟨none, some 10, .mv (.tmp 9)⟩,
    ⟨some (10, false), some 11, .fieldA 0 (.tmp 2)⟩,
    ⟨some (10, false), some 12, .load (.tmp 11)⟩,
    ⟨some (10, false), some 13, .fieldA 0 (.tmp 3)⟩,
    ⟨some (10, false), some 14, .load (.tmp 13)⟩,
    ⟨some (10, false), some 15, .bin .eql (.tmp 12) (.tmp 14)⟩,
    ⟨some (10, false), some 16, .mv (.tmp 15)⟩,
    ⟨some (16, true), some 17, .fieldA 1 (.tmp 2)⟩,
    ⟨some (16, true), some 18, .load (.tmp 17)⟩,
    ⟨some (16, true), some 19, .fieldA 1 (.tmp 3)⟩,
    ⟨some (16, true), some 20, .load (.tmp 19)⟩,
    ⟨some (16, true), some 21, .bin .lss (.tmp 18) (.tmp 20)⟩,
    ⟨some (10, false), some 22, .pick (.tmp 16) (.tmp 21) (.const (.bool false))⟩,
    ⟨none, some 23, .pick (.tmp 10) (.const (.bool true)) (.tmp 22)⟩,
    ⟨none, some 4, .mv (.tmp 23)⟩])
  (.ret))
theorem ac42_ok (q : Option (Nat × Nat)) : compF Go.Proofs.Try.prog Go.Proofs.Try.f42 (ac42 q) = some (ac42 q, [.tmp 4]) := by kernel_rfl

/- slices.ContainsFunc[[]int,int] -/
def ac43 (q : Option (Nat × Nat)) : AC := .seq (.rg [⟨none, some 4, .mv (.const (.bool false))⟩])
  (.seq (.rg [⟨none, some 5, .mv (.tmp 0)⟩,
    ⟨none, some 6, .mv (.tmp 1)⟩,
    ⟨none, some 7, .call 50 [.tmp 5, .tmp 6]⟩,
    ⟨none, some 8, .bin .geq (.tmp 7) (.const (.int .i64 0))⟩,
    ⟨none, some 4, .mv (.tmp 8)⟩])
  (.ret))
theorem ac43_ok (q : Option (Nat × Nat)) : compF Go.Proofs.Try.prog Go.Proofs.Try.f43 (ac43 q) = some (ac43 q, [.tmp 4]) := by kernel_rfl

/- clearway link.check$1 -/
def ac44 (q : Option (Nat × Nat)) : AC := .seq (.rg [⟨none, some 2, .mv (.const (.bool false))⟩])
  (.seq (.rg [⟨none, some 3, .mv (.tmp 0)⟩,
    ⟨none, some 4, .bin .lss (.tmp 3) (.const (.int .i64 (-1)))⟩,
    ⟨none, some 5, .mv (.tmp 4)⟩,
    ⟨some (5, false), some 6, .mv (.tmp 0)⟩,
    ⟨some (5, false), some 7, .bin .gtr (.tmp 6) (.const (.int .i64 8))⟩,
    ⟨none, some 8, .pick (.tmp 5) (.const (.bool true)) (.tmp 7)⟩,
    ⟨none, some 2, .mv (.tmp 8)⟩])
  (.ret))
theorem ac44_ok (q : Option (Nat × Nat)) : compF Go.Proofs.Try.prog Go.Proofs.Try.f44 (ac44 q) = some (ac44 q, [.tmp 2]) := by kernel_rfl

/- clearway lock.Check$1 -/
def ac45 (q : Option (Nat × Nat)) : AC := .seq (.rg [⟨none, some 2, .mv (.const (.bool false))⟩])
  (.seq (.rg [⟨none, some 3, .mv (.tmp 0)⟩,
    ⟨none, some 4, .bin .lss (.tmp 3) (.const (.int .i64 0))⟩,
    ⟨none, some 5, .mv (.tmp 4)⟩,
    ⟨some (5, false), some 6, .mv (.tmp 0)⟩,
    ⟨some (5, false), some 7, .bin .gtr (.tmp 6) (.const (.int .i64 16777215))⟩,
    ⟨none, some 8, .pick (.tmp 5) (.const (.bool true)) (.tmp 7)⟩,
    ⟨none, some 2, .mv (.tmp 8)⟩])
  (.ret))
theorem ac45_ok (q : Option (Nat × Nat)) : compF Go.Proofs.Try.prog Go.Proofs.Try.f45 (ac45 q) = some (ac45 q, [.tmp 2]) := by kernel_rfl

/- container heap.up -/
def ac46_L0 (q : Option (Nat × Nat)) : AC := .blk 1 (.seq (.rg [⟨none, some 5, .mv (.tmp 1)⟩,
    ⟨none, some 6, .bin .sub (.tmp 5) (.const (.int .i64 1))⟩,
    ⟨none, some 7, .bin .quo (.tmp 6) (.const (.int .i64 2))⟩,
    ⟨none, some 4, .mv (.tmp 7)⟩])
  (.seq (.seq (.rg [⟨none, some 8, .mv (.tmp 4)⟩,
    ⟨none, some 9, .mv (.tmp 1)⟩,
    ⟨none, some 10, .bin .eql (.tmp 8) (.tmp 9)⟩,
    ⟨none, some 11, .mv (.tmp 10)⟩,
    ⟨some (11, false), some 12, .mv (.tmp 0)⟩,
    ⟨some (11, false), some 13, .mv (.tmp 1)⟩,
    ⟨some (11, false), some 14, .mv (.tmp 4)⟩,
    ⟨some (11, false), some 15, .invk [(69, 83, true)] (.tmp 12) [.tmp 13, .tmp 14]⟩,
    ⟨some (11, false), some 16, .un .not (.tmp 15)⟩,
    ⟨none, some 17, .pick (.tmp 11) (.const (.bool true)) (.tmp 16)⟩])
  (.cond (.tmp 17) (.exit 0) (.skip)))
  (.seq (.rg [⟨none, some 18, .mv (.tmp 0)⟩,
    ⟨none, some 19, .mv (.tmp 4)⟩,
    ⟨none, some 20, .mv (.tmp 1)⟩,
    ⟨none, some 21, .invk [(69, 86, true)] (.tmp 18) [.tmp 19, .tmp 20]⟩])
  (.rg [⟨none, some 22, .mv (.tmp 4)⟩,
    ⟨none, some 1, .mv (.tmp 22)⟩]))))
def ac46 (q : Option (Nat × Nat)) : AC := .blk 0 (.loop q [0, 1] (ac46_L0 q))
theorem ac46_ok (q : Option (Nat × Nat)) : compF Go.Proofs.Try.prog Go.Proofs.Try.f46 (ac46 q) = some (ac46 q, []) := by kernel_rfl

/- container heap.down -/
def ac47_L0 (q : Option (Nat × Nat)) : AC := .blk 1 (.seq (.rg [⟨none, some 12, .mv (.tmp 7)⟩,
    ⟨none, some 13, .bin .mul (.const (.int .i64 2)) (.tmp 12)⟩,
    ⟨none, some 14, .bin .add (.tmp 13) (.const (.int .i64 1))⟩,
    ⟨none, some 8, .mv (.tmp 14)⟩])
  (.seq (.seq (.rg [⟨none, some 15, .mv (.tmp 8)⟩,
    ⟨none, some 16, .mv (.tmp 2)⟩,
    ⟨none, some 17, .bin .geq (.tmp 15) (.tmp 16)⟩,
    ⟨none, some 18, .mv (.tmp 17)⟩,
    ⟨some (18, false), some 19, .mv (.tmp 8)⟩,
    ⟨some (18, false), some 20, .bin .lss (.tmp 19) (.const (.int .i64 0))⟩,
    ⟨none, some 21, .pick (.tmp 18) (.const (.bool true)) (.tmp 20)⟩])
  (.cond (.tmp 21) (.exit 0) (.skip)))
  (.seq (.rg [⟨none, some 22, .mv (.tmp 8)⟩,
    ⟨none, some 9, .mv (.tmp 22)⟩])
  (.seq (.seq (.rg [⟨none, some 23, .mv (.tmp 8)⟩,
    ⟨none, some 24, .bin .add (.tmp 23) (.const (.int .i64 1))⟩,
    ⟨none, some 10, .mv (.tmp 24)⟩])
  (.seq (.rg [⟨none, some 25, .mv (.tmp 10)⟩,
    ⟨none, some 26, .mv (.tmp 2)⟩,
    ⟨none, some 27, .bin .lss (.tmp 25) (.tmp 26)⟩,
    ⟨none, some 28, .mv (.tmp 27)⟩,
    ⟨some (28, true), some 29, .mv (.tmp 0)⟩,
    ⟨some (28, true), some 30, .mv (.tmp 10)⟩,
    ⟨some (28, true), some 31, .mv (.tmp 8)⟩,
    ⟨some (28, true), some 32, .invk [(69, 83, true)] (.tmp 29) [.tmp 30, .tmp 31]⟩,
    ⟨none, some 33, .pick (.tmp 28) (.tmp 32) (.const (.bool false))⟩])
  (.cond (.tmp 33) (.rg [⟨none, some 34, .mv (.tmp 10)⟩,
    ⟨none, some 9, .mv (.tmp 34)⟩]) (.skip))))
  (.seq (.seq (.rg [⟨none, some 35, .mv (.tmp 0)⟩,
    ⟨none, some 36, .mv (.tmp 9)⟩,
    ⟨none, some 37, .mv (.tmp 7)⟩,
    ⟨none, some 38, .invk [(69, 83, true)] (.tmp 35) [.tmp 36, .tmp 37]⟩,
    ⟨none, some 39, .un .not (.tmp 38)⟩])
  (.cond (.tmp 39) (.exit 0) (.skip)))
  (.seq (.rg [⟨none, some 40, .mv (.tmp 0)⟩,
    ⟨none, some 41, .mv (.tmp 7)⟩,
    ⟨none, some 42, .mv (.tmp 9)⟩,
    ⟨none, some 43, .invk [(69, 86, true)] (.tmp 40) [.tmp 41, .tmp 42]⟩])
  (.rg [⟨none, some 44, .mv (.tmp 9)⟩,
    ⟨none, some 7, .mv (.tmp 44)⟩])))))))
def ac47 (q : Option (Nat × Nat)) : AC := .seq (.rg [⟨none, some 6, .mv (.const (.bool false))⟩])
  (.seq (.rg [⟨none, some 11, .mv (.tmp 1)⟩,
    ⟨none, some 7, .mv (.tmp 11)⟩])
  (.seq (.blk 0 (.loop q [0, 1, 2, 7] (ac47_L0 q)))
  (.seq (.rg [⟨none, some 45, .mv (.tmp 7)⟩,
    ⟨none, some 46, .mv (.tmp 1)⟩,
    ⟨none, some 47, .bin .gtr (.tmp 45) (.tmp 46)⟩,
    ⟨none, some 6, .mv (.tmp 47)⟩])
  (.ret))))
theorem ac47_ok (q : Option (Nat × Nat)) : compF Go.Proofs.Try.prog Go.Proofs.Try.f47 (ac47 q) = some (ac47 q, [.tmp 6]) := by kernel_rfl
end Go.Ab
