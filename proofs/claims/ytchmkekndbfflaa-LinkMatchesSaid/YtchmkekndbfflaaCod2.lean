/- The codes of functions of this seat, as annotated, compared with the program by the kernel. No conditions. -/
import Derived.Test.YtchmkekndbfflaaProg
import Derived.Test.YtchmkekndbfflaaAbE
import Derived.Test.YtchmkekndbfflaaCod1
set_option linter.unusedVariables false
set_option linter.unusedSimpArgs false
namespace Go.Ab
/- clearway clearwaylaw33.choice -/
def ac27 (q : Option (Nat × Nat)) : AC := .seq (.rg [⟨none, some 2, .alloc 33 [.p (.v (.int .i64 0)), .p (.v (.int .i64 0)), .p (.v (.int .u8 0)), .p (.v (.int .i64 0))]⟩])
  (.seq (.rg [⟨none, some 3, .mv (.tmp 0)⟩,
    ⟨none, some 4, .build [.p (.v (.int .i64 0)), .p (.v (.int .i64 0)), .p (.v (.int .u8 0)), .p (.v (.int .i64 0))] [(0, 1, .const (.int .i64 3)), (1, 1, .const (.int .i64 4)), (3, 1, .tmp 3)]⟩,
    ⟨none, none, .store 4 (.tmp 2) (.tmp 4)⟩])
  (.ret))
theorem ac27_ok (q : Option (Nat × Nat)) : compF Go.Proofs.Try.prog Go.Proofs.Try.f27 (ac27 q) = some (ac27 q, [.cell 2 (some 4)]) := by kernel_rfl

/- clearway clearwaylaw33.heard -/
def ac29_L0 (q : Option (Nat × Nat)) : AC := .seq (.seq (.rg [⟨none, some 11, .mv (.tmp 8)⟩,
    ⟨none, some 12, .mv (.tmp 2)⟩,
    ⟨none, some 13, .len (.tmp 12)⟩,
    ⟨none, some 14, .bin .lss (.tmp 11) (.tmp 13)⟩])
  (.cond (.tmp 14) (.skip) (.exit 0)))
  (.seq (.blk 1 (.rg [⟨none, some 17, .mv (.tmp 7)⟩,
    ⟨none, some 18, .mv (.tmp 2)⟩,
    ⟨none, some 19, .mv (.tmp 8)⟩,
    ⟨none, some 20, .idx 1 (.tmp 18) (.tmp 19)⟩,
    ⟨none, some 21, .load (.tmp 20)⟩,
    ⟨none, some 22, .call 27 [.tmp 21]⟩,
    ⟨none, some 23, .bslice false 33 1 4 [.p (.v (.int .i64 0)), .p (.v (.int .i64 0)), .p (.v (.int .u8 0)), .p (.v (.int .i64 0))] [(0, 4, .tmp 22)]⟩,
    ⟨none, some 24, .append 33 4 32 (.tmp 17) (.tmp 23)⟩,
    ⟨none, some 7, .mv (.tmp 24)⟩]))
  (.rg [⟨none, some 15, .mv (.tmp 8)⟩,
    ⟨none, some 16, .bin .add (.tmp 15) (.const (.int .i64 1))⟩,
    ⟨none, some 8, .mv (.tmp 16)⟩]))
def ac29 (q : Option (Nat × Nat)) : AC := .seq (.rg [⟨none, some 6, .mv (.const (.bool false))⟩])
  (.seq (.rg [⟨none, some 7, .mv (.const (.slice none 0 0))⟩])
  (.seq (.seq (.rg [⟨none, some 8, .mv (.const (.int .i64 0))⟩])
  (.blk 0 (.loop q [0, 1, 2, 7, 8] (ac29_L0 q))))
  (.seq (.rg [⟨none, some 26, .mv (.tmp 0)⟩,
    ⟨none, some 27, .mv (.tmp 1)⟩,
    ⟨none, some 28, .call 15 [.tmp 26, .tmp 27]⟩,
    ⟨none, some 25, .mv (.tmp 28)⟩,
    ⟨none, some 29, .extract (.tmp 25) 0⟩,
    ⟨none, some 30, .extract (.tmp 25) 1⟩,
    ⟨none, some 9, .mv (.tmp 29)⟩,
    ⟨none, some 10, .mv (.tmp 30)⟩])
  (.seq (.rg [⟨none, some 31, .mv (.tmp 10)⟩,
    ⟨none, some 32, .bin .eql (.tmp 31) (.const (.int .i64 0))⟩,
    ⟨none, some 33, .mv (.tmp 32)⟩,
    ⟨some (33, true), some 34, .mv (.tmp 9)⟩,
    ⟨some (33, true), some 35, .mv (.tmp 7)⟩,
    ⟨some (33, true), some 36, .call 17 [.tmp 34, .tmp 35]⟩,
    ⟨none, some 37, .pick (.tmp 33) (.tmp 36) (.const (.bool false))⟩,
    ⟨none, some 6, .mv (.tmp 37)⟩])
  (.ret)))))
theorem ac29_ok (q : Option (Nat × Nat)) : compF Go.Proofs.Try.prog Go.Proofs.Try.f29 (ac29 q) = some (ac29 q, [.tmp 6]) := by kernel_rfl

/- clearway link.check -/
def ac30 (q : Option (Nat × Nat)) : AC := .seq (.rg [⟨none, some 2, .mv (.const (.int .i64 0))⟩])
  (.seq (.blk 0 (.seq (.rg [⟨none, some 4, .mv (.tmp 0)⟩,
    ⟨none, some 5, .len (.tmp 4)⟩,
    ⟨none, some 6, .bin .gtr (.tmp 5) (.const (.int .i64 256))⟩,
    ⟨none, some 3, .mv (.tmp 6)⟩])
  (.cond (.tmp 3) (.seq (.rg [⟨none, some 2, .mv (.const (.int .i64 4))⟩])
  (.ret)) (.seq (.rg [⟨none, some 8, .mv (.tmp 0)⟩,
    ⟨none, some 9, .call 43 [.tmp 8, .func 44]⟩,
    ⟨none, some 7, .mv (.tmp 9)⟩])
  (.cond (.tmp 7) (.seq (.rg [⟨none, some 2, .mv (.const (.int .i64 1))⟩])
  (.ret)) (.skip))))))
  (.seq (.rg [⟨none, some 2, .mv (.const (.int .i64 0))⟩])
  (.ret)))
theorem ac30_ok (q : Option (Nat × Nat)) : compF Go.Proofs.Try.prog Go.Proofs.Try.f30 (ac30 q) = some (ac30 q, [.tmp 2]) := by kernel_rfl

/- clearway clearwayref33.wrong -/
def ac31_L0 (q : Option (Nat × Nat)) : AC := .seq (.seq (.rg [⟨none, some 7, .mv (.tmp 3)⟩,
    ⟨none, some 8, .mv (.tmp 0)⟩,
    ⟨none, some 9, .len (.tmp 8)⟩,
    ⟨none, some 10, .bin .lss (.tmp 7) (.tmp 9)⟩])
  (.cond (.tmp 10) (.skip) (.exit 0)))
  (.seq (.blk 1 (.seq (.rg [⟨none, some 13, .mv (.tmp 0)⟩,
    ⟨none, some 14, .mv (.tmp 3)⟩,
    ⟨none, some 15, .idx 1 (.tmp 13) (.tmp 14)⟩,
    ⟨none, some 16, .load (.tmp 15)⟩,
    ⟨none, some 17, .bin .lss (.tmp 16) (.const (.int .i64 (-1)))⟩,
    ⟨none, some 18, .mv (.tmp 17)⟩,
    ⟨some (18, false), some 19, .mv (.tmp 0)⟩,
    ⟨some (18, false), some 20, .mv (.tmp 3)⟩,
    ⟨some (18, false), some 21, .idx 1 (.tmp 19) (.tmp 20)⟩,
    ⟨some (18, false), some 22, .load (.tmp 21)⟩,
    ⟨some (18, false), some 23, .bin .gtr (.tmp 22) (.const (.int .i64 8))⟩,
    ⟨none, some 24, .pick (.tmp 18) (.const (.bool true)) (.tmp 23)⟩])
  (.cond (.tmp 24) (.seq (.rg [⟨none, some 2, .mv (.const (.int .i64 1))⟩])
  (.ret)) (.skip))))
  (.rg [⟨none, some 11, .mv (.tmp 3)⟩,
    ⟨none, some 12, .bin .add (.tmp 11) (.const (.int .i64 1))⟩,
    ⟨none, some 3, .mv (.tmp 12)⟩]))
def ac31 (q : Option (Nat × Nat)) : AC := .seq (.rg [⟨none, some 2, .mv (.const (.int .i64 0))⟩])
  (.seq (.seq (.rg [⟨none, some 4, .mv (.tmp 0)⟩,
    ⟨none, some 5, .len (.tmp 4)⟩,
    ⟨none, some 6, .bin .gtr (.tmp 5) (.const (.int .i64 256))⟩])
  (.cond (.tmp 6) (.seq (.rg [⟨none, some 2, .mv (.const (.int .i64 4))⟩])
  (.ret)) (.skip)))
  (.seq (.seq (.rg [⟨none, some 3, .mv (.const (.int .i64 0))⟩])
  (.blk 0 (.loop q [0, 3] (ac31_L0 q))))
  (.seq (.rg [⟨none, some 2, .mv (.const (.int .i64 0))⟩])
  (.ret))))
theorem ac31_ok (q : Option (Nat × Nat)) : compF Go.Proofs.Try.prog Go.Proofs.Try.f31 (ac31 q) = some (ac31 q, [.tmp 2]) := by kernel_rfl

/- (*clearway link.Link).at -/
def ac32 (q : Option (Nat × Nat)) : AC := .seq (.rg [⟨none, some 4, .mv (.const (.int .i64 0))⟩])
  (.seq (.blk 0 (.seq (.rg [⟨none, some 6, .mv (.tmp 0)⟩,
    ⟨none, some 7, .eqP false (.tmp 6) (.const (.pointer none))⟩,
    ⟨none, some 8, .mv (.tmp 7)⟩,
    ⟨some (8, false), some 9, .mv (.tmp 0)⟩,
    ⟨some (8, false), some 10, .nilck (.tmp 9)⟩,
    ⟨some (8, false), some 11, .fieldA 258 (.tmp 10)⟩,
    ⟨some (8, false), some 12, .load (.tmp 11)⟩,
    ⟨some (8, false), some 13, .eqP false (.tmp 12) (.const (.pointer none))⟩,
    ⟨none, some 14, .pick (.tmp 8) (.const (.bool true)) (.tmp 13)⟩,
    ⟨none, some 5, .mv (.tmp 14)⟩])
  (.cond (.tmp 5) (.seq (.rg [⟨none, some 4, .mv (.const (.int .i64 11))⟩])
  (.ret)) (.seq (.rg [⟨none, some 16, .mv (.tmp 1)⟩,
    ⟨none, some 17, .bin .lss (.tmp 16) (.const (.int .i64 0))⟩,
    ⟨none, some 18, .mv (.tmp 17)⟩,
    ⟨some (18, false), some 19, .mv (.tmp 1)⟩,
    ⟨some (18, false), some 20, .bin .gtr (.tmp 19) (.const (.int .i64 1099511627776))⟩,
    ⟨none, some 21, .pick (.tmp 18) (.const (.bool true)) (.tmp 20)⟩,
    ⟨none, some 15, .mv (.tmp 21)⟩])
  (.cond (.tmp 15) (.seq (.rg [⟨none, some 4, .mv (.const (.int .i64 1))⟩])
  (.ret)) (.seq (.rg [⟨none, some 23, .mv (.tmp 1)⟩,
    ⟨none, some 24, .mv (.tmp 0)⟩,
    ⟨none, some 25, .nilck (.tmp 24)⟩,
    ⟨none, some 26, .fieldA 256 (.tmp 25)⟩,
    ⟨none, some 27, .load (.tmp 26)⟩,
    ⟨none, some 28, .bin .lss (.tmp 23) (.tmp 27)⟩,
    ⟨none, some 22, .mv (.tmp 28)⟩])
  (.cond (.tmp 22) (.seq (.rg [⟨none, some 4, .mv (.const (.int .i64 12))⟩])
  (.ret)) (.skip))))))))
  (.seq (.rg [⟨none, some 4, .mv (.const (.int .i64 0))⟩])
  (.ret)))
theorem ac32_ok (q : Option (Nat × Nat)) : compF Go.Proofs.Try.prog Go.Proofs.Try.f32 (ac32 q) = some (ac32 q, [.tmp 4]) := by kernel_rfl

/- clearway lock.Check -/
def ac33 (q : Option (Nat × Nat)) : AC := .seq (.rg [⟨none, some 1, .box 33 (.tmp 0)⟩,
    ⟨none, some 2, .mv (.const (.int .i64 0))⟩])
  (.seq (.rg [⟨none, some 3, .mv (.func 45)⟩])
  (.seq (.blk 0 (.seq (.rg [⟨none, some 5, .mv (.tmp 3)⟩,
    ⟨none, some 6, .fieldA 0 (.tmp 1)⟩,
    ⟨none, some 7, .load (.tmp 6)⟩,
    ⟨none, some 8, .callv (.tmp 5) [.tmp 7]⟩,
    ⟨none, some 9, .mv (.tmp 8)⟩,
    ⟨some (9, false), some 10, .mv (.tmp 3)⟩,
    ⟨some (9, false), some 11, .fieldA 1 (.tmp 1)⟩,
    ⟨some (9, false), some 12, .load (.tmp 11)⟩,
    ⟨some (9, false), some 13, .callv (.tmp 10) [.tmp 12]⟩,
    ⟨none, some 14, .pick (.tmp 9) (.const (.bool true)) (.tmp 13)⟩,
    ⟨none, some 15, .mv (.tmp 14)⟩,
    ⟨some (15, false), some 16, .fieldA 0 (.tmp 1)⟩,
    ⟨some (15, false), some 17, .load (.tmp 16)⟩,
    ⟨some (15, false), some 18, .fieldA 1 (.tmp 1)⟩,
    ⟨some (15, false), some 19, .load (.tmp 18)⟩,
    ⟨some (15, false), some 20, .bin .eql (.tmp 17) (.tmp 19)⟩,
    ⟨none, some 21, .pick (.tmp 15) (.const (.bool true)) (.tmp 20)⟩,
    ⟨none, some 4, .mv (.tmp 21)⟩])
  (.cond (.tmp 4) (.seq (.rg [⟨none, some 2, .mv (.const (.int .i64 1))⟩])
  (.ret)) (.seq (.rg [⟨none, some 23, .fieldA 2 (.tmp 1)⟩,
    ⟨none, some 24, .load (.tmp 23)⟩,
    ⟨none, some 25, .bin .gtr (.tmp 24) (.const (.int .u8 2))⟩,
    ⟨none, some 22, .mv (.tmp 25)⟩])
  (.cond (.tmp 22) (.seq (.rg [⟨none, some 2, .mv (.const (.int .i64 6))⟩])
  (.ret)) (.seq (.rg [⟨none, some 27, .fieldA 3 (.tmp 1)⟩,
    ⟨none, some 28, .load (.tmp 27)⟩,
    ⟨none, some 29, .bin .lss (.tmp 28) (.const (.int .i64 1))⟩,
    ⟨none, some 30, .mv (.tmp 29)⟩,
    ⟨some (30, false), some 31, .fieldA 3 (.tmp 1)⟩,
    ⟨some (30, false), some 32, .load (.tmp 31)⟩,
    ⟨some (30, false), some 33, .bin .gtr (.tmp 32) (.const (.int .i64 1048575))⟩,
    ⟨none, some 34, .pick (.tmp 30) (.const (.bool true)) (.tmp 33)⟩,
    ⟨none, some 26, .mv (.tmp 34)⟩])
  (.cond (.tmp 26) (.seq (.rg [⟨none, some 2, .mv (.const (.int .i64 1))⟩])
  (.ret)) (.skip))))))))
  (.seq (.rg [⟨none, some 2, .mv (.const (.int .i64 0))⟩])
  (.ret))))
theorem ac33_ok (q : Option (Nat × Nat)) : compF Go.Proofs.Try.prog Go.Proofs.Try.f33 (ac33 q) = some (ac33 q, [.tmp 2]) := by kernel_rfl

/- (clearway link.queue).Len -/
def ac34 (q : Option (Nat × Nat)) : AC := .seq (.rg [⟨none, some 2, .mv (.const (.int .i64 0))⟩])
  (.seq (.rg [⟨none, some 3, .mv (.tmp 0)⟩,
    ⟨none, some 4, .len (.tmp 3)⟩,
    ⟨none, some 2, .mv (.tmp 4)⟩])
  (.ret))
theorem ac34_ok (q : Option (Nat × Nat)) : compF Go.Proofs.Try.prog Go.Proofs.Try.f34 (ac34 q) = some (ac34 q, [.tmp 2]) := by kernel_rfl

/- container heap.Push -/
def ac35 (q : Option (Nat × Nat)) : AC := .seq (.rg [⟨none, some 4, .mv (.tmp 0)⟩,
    ⟨none, some 5, .mv (.tmp 1)⟩,
    ⟨none, some 6, .invk [(69, 85, false)] (.tmp 4) [.tmp 5]⟩])
  (.rg [⟨none, some 7, .mv (.tmp 0)⟩,
    ⟨none, some 8, .mv (.tmp 0)⟩,
    ⟨none, some 9, .invk [(69, 34, true)] (.tmp 8) []⟩,
    ⟨none, some 10, .bin .sub (.tmp 9) (.const (.int .i64 1))⟩,
    ⟨none, some 11, .call 46 [.tmp 7, .tmp 10]⟩])
theorem ac35_ok (q : Option (Nat × Nat)) : compF Go.Proofs.Try.prog Go.Proofs.Try.f35 (ac35 q) = some (ac35 q, []) := by kernel_rfl

/- (*clearway clearwayref33.Link).time -/
def ac36 (q : Option (Nat × Nat)) : AC := .seq (.rg [⟨none, some 4, .mv (.const (.int .i64 0))⟩])
  (.seq (.seq (.rg [⟨none, some 5, .mv (.tmp 1)⟩,
    ⟨none, some 6, .bin .lss (.tmp 5) (.const (.int .i64 0))⟩,
    ⟨none, some 7, .mv (.tmp 6)⟩,
    ⟨some (7, false), some 8, .mv (.tmp 1)⟩,
    ⟨some (7, false), some 9, .bin .gtr (.tmp 8) (.const (.int .i64 1099511627776))⟩,
    ⟨none, some 10, .pick (.tmp 7) (.const (.bool true)) (.tmp 9)⟩])
  (.cond (.tmp 10) (.seq (.rg [⟨none, some 4, .mv (.const (.int .i64 1))⟩])
  (.ret)) (.skip)))
  (.seq (.seq (.rg [⟨none, some 11, .mv (.tmp 1)⟩,
    ⟨none, some 12, .mv (.tmp 0)⟩,
    ⟨none, some 13, .nilck (.tmp 12)⟩,
    ⟨none, some 14, .fieldA 1 (.tmp 13)⟩,
    ⟨none, some 15, .load (.tmp 14)⟩,
    ⟨none, some 16, .bin .lss (.tmp 11) (.tmp 15)⟩])
  (.cond (.tmp 16) (.seq (.rg [⟨none, some 4, .mv (.const (.int .i64 12))⟩])
  (.ret)) (.skip)))
  (.seq (.rg [⟨none, some 4, .mv (.const (.int .i64 0))⟩])
  (.ret))))
theorem ac36_ok (q : Option (Nat × Nat)) : compF Go.Proofs.Try.prog Go.Proofs.Try.f36 (ac36 q) = some (ac36 q, [.tmp 4]) := by kernel_rfl

/- clearway clearwayref32.Check -/
def ac37 (q : Option (Nat × Nat)) : AC := .seq (.rg [⟨none, some 1, .box 33 (.tmp 0)⟩,
    ⟨none, some 2, .mv (.const (.int .i64 0))⟩])
  (.seq (.seq (.rg [⟨none, some 3, .fieldA 0 (.tmp 1)⟩,
    ⟨none, some 4, .load (.tmp 3)⟩,
    ⟨none, some 5, .bin .lss (.tmp 4) (.const (.int .i64 0))⟩,
    ⟨none, some 6, .mv (.tmp 5)⟩,
    ⟨some (6, false), some 7, .fieldA 0 (.tmp 1)⟩,
    ⟨some (6, false), some 8, .load (.tmp 7)⟩,
    ⟨some (6, false), some 9, .bin .gtr (.tmp 8) (.const (.int .i64 16777215))⟩,
    ⟨none, some 10, .pick (.tmp 6) (.const (.bool true)) (.tmp 9)⟩,
    ⟨none, some 11, .mv (.tmp 10)⟩,
    ⟨some (11, false), some 12, .fieldA 1 (.tmp 1)⟩,
    ⟨some (11, false), some 13, .load (.tmp 12)⟩,
    ⟨some (11, false), some 14, .bin .lss (.tmp 13) (.const (.int .i64 0))⟩,
    ⟨none, some 15, .pick (.tmp 11) (.const (.bool true)) (.tmp 14)⟩,
    ⟨none, some 16, .mv (.tmp 15)⟩,
    ⟨some (16, false), some 17, .fieldA 1 (.tmp 1)⟩,
    ⟨some (16, false), some 18, .load (.tmp 17)⟩,
    ⟨some (16, false), some 19, .bin .gtr (.tmp 18) (.const (.int .i64 16777215))⟩,
    ⟨none, some 20, .pick (.tmp 16) (.const (.bool true)) (.tmp 19)⟩,
    ⟨none, some 21, .mv (.tmp 20)⟩,
    ⟨some (21, false), some 22, .fieldA 0 (.tmp 1)⟩,
    ⟨some (21, false), some 23, .load (.tmp 22)⟩,
    ⟨some (21, false), some 24, .fieldA 1 (.tmp 1)⟩,
    ⟨some (21, false), some 25, .load (.tmp 24)⟩,
    ⟨some (21, false), some 26, .bin .eql (.tmp 23) (.tmp 25)⟩,
    ⟨none, some 27, .pick (.tmp 21) (.const (.bool true)) (.tmp 26)⟩])
  (.cond (.tmp 27) (.seq (.rg [⟨none, some 2, .mv (.const (.int .i64 1))⟩])
  (.ret)) (.skip)))
  (.seq (.seq (.rg [⟨none, some 28, .fieldA 2 (.tmp 1)⟩,
    ⟨none, some 29, .load (.tmp 28)⟩,
    ⟨none, some 30, .bin .gtr (.tmp 29) (.const (.int .u8 2))⟩])
  (.cond (.tmp 30) (.seq (.rg [⟨none, some 2, .mv (.const (.int .i64 6))⟩])
  (.ret)) (.skip)))
  (.seq (.seq (.rg [⟨none, some 31, .fieldA 3 (.tmp 1)⟩,
    ⟨none, some 32, .load (.tmp 31)⟩,
    ⟨none, some 33, .bin .lss (.tmp 32) (.const (.int .i64 1))⟩,
    ⟨none, some 34, .mv (.tmp 33)⟩,
    ⟨some (34, false), some 35, .fieldA 3 (.tmp 1)⟩,
    ⟨some (34, false), some 36, .load (.tmp 35)⟩,
    ⟨some (34, false), some 37, .bin .gtr (.tmp 36) (.const (.int .i64 1048575))⟩,
    ⟨none, some 38, .pick (.tmp 34) (.const (.bool true)) (.tmp 37)⟩])
  (.cond (.tmp 38) (.seq (.rg [⟨none, some 2, .mv (.const (.int .i64 1))⟩])
  (.ret)) (.skip)))
  (.seq (.rg [⟨none, some 2, .mv (.const (.int .i64 0))⟩])
  (.ret)))))
theorem ac37_ok (q : Option (Nat × Nat)) : compF Go.Proofs.Try.prog Go.Proofs.Try.f37 (ac37 q) = some (ac37 q, [.tmp 2]) := by kernel_rfl

/- container heap.Pop -/
def ac38 (q : Option (Nat × Nat)) : AC := .seq (.rg [⟨none, some 2, .mv (.const .nilIface)⟩])
  (.seq (.rg [⟨none, some 4, .mv (.tmp 0)⟩,
    ⟨none, some 5, .invk [(69, 34, true)] (.tmp 4) []⟩,
    ⟨none, some 6, .bin .sub (.tmp 5) (.const (.int .i64 1))⟩,
    ⟨none, some 3, .mv (.tmp 6)⟩])
  (.seq (.rg [⟨none, some 7, .mv (.tmp 0)⟩,
    ⟨none, some 8, .mv (.tmp 3)⟩,
    ⟨none, some 9, .invk [(69, 86, true)] (.tmp 7) [.const (.int .i64 0), .tmp 8]⟩])
  (.seq (.rg [⟨none, some 10, .mv (.tmp 0)⟩,
    ⟨none, some 11, .mv (.tmp 3)⟩,
    ⟨none, some 12, .call 47 [.tmp 10, .const (.int .i64 0), .tmp 11]⟩])
  (.seq (.rg [⟨none, some 13, .mv (.tmp 0)⟩,
    ⟨none, some 14, .invk [(69, 84, false)] (.tmp 13) []⟩,
    ⟨none, some 2, .mv (.tmp 14)⟩])
  (.ret)))))
theorem ac38_ok (q : Option (Nat × Nat)) : compF Go.Proofs.Try.prog Go.Proofs.Try.f38 (ac38 q) = some (ac38 q, [.tmp 2]) := by kernel_rfl

/- slices.Clone[[]clearway api.Parcel,clearway api.Parcel] -/
def ac39 (q : Option (Nat × Nat)) : AC := .seq (.rg [⟨none, some 2, .mv (.const (.slice none 0 0))⟩])
  (.seq (.seq (.rg [⟨none, some 3, .mv (.tmp 0)⟩,
    ⟨none, some 4, .eqN false (.tmp 3) (.const (.slice none 0 0))⟩])
  (.cond (.tmp 4) (.seq (.rg [⟨none, some 2, .mv (.const (.slice none 0 0))⟩])
  (.ret)) (.skip)))
  (.seq (.rg [⟨none, some 5, .bsliceM 49 0 6 [.p (.v (.int .i64 0)), .p (.v (.int .i64 0)), .p (.v (.int .i64 0)), .p (.v (.int .i64 0)), .p (.v (.int .u8 0)), .p (.v (.int .i64 0))] []⟩,
    ⟨none, some 6, .mv (.tmp 0)⟩,
    ⟨none, some 7, .append 49 6 48 (.tmp 5) (.tmp 6)⟩,
    ⟨none, some 2, .mv (.tmp 7)⟩])
  (.ret)))
theorem ac39_ok (q : Option (Nat × Nat)) : compF Go.Proofs.Try.prog Go.Proofs.Try.f39 (ac39 q) = some (ac39 q, [.tmp 2]) := by kernel_rfl

/- slices.SortFunc[[]clearway api.Parcel,clearway api.Parcel] -/
def ac40 (q : Option (Nat × Nat)) : AC := .seq (.rg [⟨none, some 5, .mv (.tmp 0)⟩,
    ⟨none, some 6, .len (.tmp 5)⟩,
    ⟨none, some 4, .mv (.tmp 6)⟩])
  (.rg [⟨none, some 7, .mv (.tmp 0)⟩,
    ⟨none, some 8, .mv (.tmp 4)⟩,
    ⟨none, some 9, .mv (.tmp 4)⟩,
    ⟨none, some 10, .conv .u64 (.tmp 9)⟩,
    ⟨none, some 11, .call 49 [.tmp 10]⟩,
    ⟨none, some 12, .mv (.tmp 1)⟩,
    ⟨none, some 13, .call 48 [.tmp 7, .const (.int .i64 0), .tmp 8, .tmp 11, .tmp 12]⟩])
theorem ac40_ok (q : Option (Nat × Nat)) : compF Go.Proofs.Try.prog Go.Proofs.Try.f40 (ac40 q) = some (ac40 q, []) := by kernel_rfl

/- (*clearway link.Link).Pending$1 -/
def ac41 (q : Option (Nat × Nat)) : AC := .seq (.rg [⟨none, some 2, .box 49 (.tmp 0)⟩,
    ⟨none, some 3, .box 49 (.tmp 1)⟩,
    ⟨none, some 4, .mv (.const (.int .i64 0))⟩])
  (.seq (.seq (.rg [⟨none, some 5, .loadA 6 (.tmp 2)⟩,
    ⟨none, some 6, .loadA 6 (.tmp 3)⟩,
    ⟨none, some 7, .call 42 [.tmp 5, .tmp 6]⟩])
  (.cond (.tmp 7) (.seq (.rg [⟨none, some 4, .mv (.const (.int .i64 (-1)))⟩])
  (.ret)) (.skip)))
  (.seq (.rg [⟨none, some 4, .mv (.const (.int .i64 1))⟩])
  (.ret)))
theorem ac41_ok (q : Option (Nat × Nat)) : compF Go.Proofs.Try.prog Go.Proofs.Try.f41 (ac41 q) = some (ac41 q, [.tmp 4]) := by kernel_rfl

/- clearway link.before -/
def ac42 (q : Option (Nat × Nat)) : AC := .seq (.rg [⟨none, some 2, .box 49 (.tmp 0)⟩,
    ⟨none, some 3, .box 49 (.tmp 1)⟩,
    ⟨none, some 4, .mv (.const (.bool false))⟩])
  (.seq (.rg [⟨none, some 5, .fieldA 0 (.tmp 2)⟩,
    ⟨none, some 6, .load (.tmp 5)⟩,
    ⟨none, some 7, .fieldA 0 (.tmp 3)⟩,
    ⟨none, some 8, .load (.tmp 7)⟩,
    ⟨none, some 9, .bin .lss (.tmp 6) (.tmp 8)⟩,
    ⟨none, some 10, .mv (.tmp 9)⟩,
    ⟨some (10, false), some 11, .fieldA 0 (.tmp 2)⟩,
    ⟨some (10, false), some 12, .load (.tmp 11)⟩,
    ⟨some (10, false), some 13, .fieldA 0 (.tmp 3)⟩,
    ⟨some (10, false), some 14, .load (.tmp 13)⟩,
    ⟨some (10, false), some 15, .bin .eql (.tmp 12) (.tmp 14)⟩,
    ⟨some (10, false), some 16, .mv (.tmp 15)⟩,
    ⟨some (16, true), some 17, .fieldA 1 (.tmp 2)⟩,
    ⟨some (16, true), some 18, .load (.tmp 17)⟩,
    ⟨some (16, true), some 19, .fieldA 1 (.tmp 3)⟩,
    ⟨some (16, true), some 20, .load (.tmp 19)⟩,
    ⟨some (16, true), some 21, .bin .lss (.tmp 18) (.tmp 20)⟩,
    ⟨some (10, false), some 22, .pick (.tmp 16) (.tmp 21) (.const (.bool false))⟩,
    ⟨none, some 23, .pick (.tmp 10) (.const (.bool true)) (.tmp 22)⟩,
    ⟨none, some 4, .mv (.tmp 23)⟩])
  (.ret))
theorem ac42_ok (q : Option (Nat × Nat)) : compF Go.Proofs.Try.prog Go.Proofs.Try.f42 (ac42 q) = some (ac42 q, [.tmp 4]) := by kernel_rfl

/- slices.ContainsFunc[[]int,int] -/
def ac43 (q : Option (Nat × Nat)) : AC := .seq (.rg [⟨none, some 4, .mv (.const (.bool false))⟩])
  (.seq (.rg [⟨none, some 5, .mv (.tmp 0)⟩,
    ⟨none, some 6, .mv (.tmp 1)⟩,
    ⟨none, some 7, .call 50 [.tmp 5, .tmp 6]⟩,
    ⟨none, some 8, .bin .geq (.tmp 7) (.const (.int .i64 0))⟩,
    ⟨none, some 4, .mv (.tmp 8)⟩])
  (.ret))
theorem ac43_ok (q : Option (Nat × Nat)) : compF Go.Proofs.Try.prog Go.Proofs.Try.f43 (ac43 q) = some (ac43 q, [.tmp 4]) := by kernel_rfl

/- clearway link.check$1 -/
def ac44 (q : Option (Nat × Nat)) : AC := .seq (.rg [⟨none, some 2, .mv (.const (.bool false))⟩])
  (.seq (.rg [⟨none, some 3, .mv (.tmp 0)⟩,
    ⟨none, some 4, .bin .lss (.tmp 3) (.const (.int .i64 (-1)))⟩,
    ⟨none, some 5, .mv (.tmp 4)⟩,
    ⟨some (5, false), some 6, .mv (.tmp 0)⟩,
    ⟨some (5, false), some 7, .bin .gtr (.tmp 6) (.const (.int .i64 8))⟩,
    ⟨none, some 8, .pick (.tmp 5) (.const (.bool true)) (.tmp 7)⟩,
    ⟨none, some 2, .mv (.tmp 8)⟩])
  (.ret))
theorem ac44_ok (q : Option (Nat × Nat)) : compF Go.Proofs.Try.prog Go.Proofs.Try.f44 (ac44 q) = some (ac44 q, [.tmp 2]) := by kernel_rfl

/- clearway lock.Check$1 -/
def ac45 (q : Option (Nat × Nat)) : AC := .seq (.rg [⟨none, some 2, .mv (.const (.bool false))⟩])
  (.seq (.rg [⟨none, some 3, .mv (.tmp 0)⟩,
    ⟨none, some 4, .bin .lss (.tmp 3) (.const (.int .i64 0))⟩,
    ⟨none, some 5, .mv (.tmp 4)⟩,
    ⟨some (5, false), some 6, .mv (.tmp 0)⟩,
    ⟨some (5, false), some 7, .bin .gtr (.tmp 6) (.const (.int .i64 16777215))⟩,
    ⟨none, some 8, .pick (.tmp 5) (.const (.bool true)) (.tmp 7)⟩,
    ⟨none, some 2, .mv (.tmp 8)⟩])
  (.ret))
theorem ac45_ok (q : Option (Nat × Nat)) : compF Go.Proofs.Try.prog Go.Proofs.Try.f45 (ac45 q) = some (ac45 q, [.tmp 2]) := by kernel_rfl

/- container heap.up -/
def ac46_L0 (q : Option (Nat × Nat)) : AC := .blk 1 (.seq (.rg [⟨none, some 5, .mv (.tmp 1)⟩,
    ⟨none, some 6, .bin .sub (.tmp 5) (.const (.int .i64 1))⟩,
    ⟨none, some 7, .bin .quo (.tmp 6) (.const (.int .i64 2))⟩,
    ⟨none, some 4, .mv (.tmp 7)⟩])
  (.seq (.seq (.rg [⟨none, some 8, .mv (.tmp 4)⟩,
    ⟨none, some 9, .mv (.tmp 1)⟩,
    ⟨none, some 10, .bin .eql (.tmp 8) (.tmp 9)⟩,
    ⟨none, some 11, .mv (.tmp 10)⟩,
    ⟨some (11, false), some 12, .mv (.tmp 0)⟩,
    ⟨some (11, false), some 13, .mv (.tmp 1)⟩,
    ⟨some (11, false), some 14, .mv (.tmp 4)⟩,
    ⟨some (11, false), some 15, .invk [(69, 83, true)] (.tmp 12) [.tmp 13, .tmp 14]⟩,
    ⟨some (11, false), some 16, .un .not (.tmp 15)⟩,
    ⟨none, some 17, .pick (.tmp 11) (.const (.bool true)) (.tmp 16)⟩])
  (.cond (.tmp 17) (.exit 0) (.skip)))
  (.seq (.rg [⟨none, some 18, .mv (.tmp 0)⟩,
    ⟨none, some 19, .mv (.tmp 4)⟩,
    ⟨none, some 20, .mv (.tmp 1)⟩,
    ⟨none, some 21, .invk [(69, 86, true)] (.tmp 18) [.tmp 19, .tmp 20]⟩])
  (.rg [⟨none, some 22, .mv (.tmp 4)⟩,
    ⟨none, some 1, .mv (.tmp 22)⟩]))))
def ac46 (q : Option (Nat × Nat)) : AC := .blk 0 (.loop q [0, 1] (ac46_L0 q))
theorem ac46_ok (q : Option (Nat × Nat)) : compF Go.Proofs.Try.prog Go.Proofs.Try.f46 (ac46 q) = some (ac46 q, []) := by kernel_rfl

/- container heap.down -/
def ac47_L0 (q : Option (Nat × Nat)) : AC := .blk 1 (.seq (.rg [⟨none, some 12, .mv (.tmp 7)⟩,
    ⟨none, some 13, .bin .mul (.const (.int .i64 2)) (.tmp 12)⟩,
    ⟨none, some 14, .bin .add (.tmp 13) (.const (.int .i64 1))⟩,
    ⟨none, some 8, .mv (.tmp 14)⟩])
  (.seq (.seq (.rg [⟨none, some 15, .mv (.tmp 8)⟩,
    ⟨none, some 16, .mv (.tmp 2)⟩,
    ⟨none, some 17, .bin .geq (.tmp 15) (.tmp 16)⟩,
    ⟨none, some 18, .mv (.tmp 17)⟩,
    ⟨some (18, false), some 19, .mv (.tmp 8)⟩,
    ⟨some (18, false), some 20, .bin .lss (.tmp 19) (.const (.int .i64 0))⟩,
    ⟨none, some 21, .pick (.tmp 18) (.const (.bool true)) (.tmp 20)⟩])
  (.cond (.tmp 21) (.exit 0) (.skip)))
  (.seq (.rg [⟨none, some 22, .mv (.tmp 8)⟩,
    ⟨none, some 9, .mv (.tmp 22)⟩])
  (.seq (.seq (.rg [⟨none, some 23, .mv (.tmp 8)⟩,
    ⟨none, some 24, .bin .add (.tmp 23) (.const (.int .i64 1))⟩,
    ⟨none, some 10, .mv (.tmp 24)⟩])
  (.seq (.rg [⟨none, some 25, .mv (.tmp 10)⟩,
    ⟨none, some 26, .mv (.tmp 2)⟩,
    ⟨none, some 27, .bin .lss (.tmp 25) (.tmp 26)⟩,
    ⟨none, some 28, .mv (.tmp 27)⟩,
    ⟨some (28, true), some 29, .mv (.tmp 0)⟩,
    ⟨some (28, true), some 30, .mv (.tmp 10)⟩,
    ⟨some (28, true), some 31, .mv (.tmp 8)⟩,
    ⟨some (28, true), some 32, .invk [(69, 83, true)] (.tmp 29) [.tmp 30, .tmp 31]⟩,
    ⟨none, some 33, .pick (.tmp 28) (.tmp 32) (.const (.bool false))⟩])
  (.cond (.tmp 33) (.rg [⟨none, some 34, .mv (.tmp 10)⟩,
    ⟨none, some 9, .mv (.tmp 34)⟩]) (.skip))))
  (.seq (.seq (.rg [⟨none, some 35, .mv (.tmp 0)⟩,
    ⟨none, some 36, .mv (.tmp 9)⟩,
    ⟨none, some 37, .mv (.tmp 7)⟩,
    ⟨none, some 38, .invk [(69, 83, true)] (.tmp 35) [.tmp 36, .tmp 37]⟩,
    ⟨none, some 39, .un .not (.tmp 38)⟩])
  (.cond (.tmp 39) (.exit 0) (.skip)))
  (.seq (.rg [⟨none, some 40, .mv (.tmp 0)⟩,
    ⟨none, some 41, .mv (.tmp 7)⟩,
    ⟨none, some 42, .mv (.tmp 9)⟩,
    ⟨none, some 43, .invk [(69, 86, true)] (.tmp 40) [.tmp 41, .tmp 42]⟩])
  (.rg [⟨none, some 44, .mv (.tmp 9)⟩,
    ⟨none, some 7, .mv (.tmp 44)⟩])))))))
def ac47 (q : Option (Nat × Nat)) : AC := .seq (.rg [⟨none, some 6, .mv (.const (.bool false))⟩])
  (.seq (.rg [⟨none, some 11, .mv (.tmp 1)⟩,
    ⟨none, some 7, .mv (.tmp 11)⟩])
  (.seq (.blk 0 (.loop q [0, 1, 2, 7] (ac47_L0 q)))
  (.seq (.rg [⟨none, some 45, .mv (.tmp 7)⟩,
    ⟨none, some 46, .mv (.tmp 1)⟩,
    ⟨none, some 47, .bin .gtr (.tmp 45) (.tmp 46)⟩,
    ⟨none, some 6, .mv (.tmp 47)⟩])
  (.ret))))
theorem ac47_ok (q : Option (Nat × Nat)) : compF Go.Proofs.Try.prog Go.Proofs.Try.f47 (ac47 q) = some (ac47 q, [.tmp 6]) := by kernel_rfl

/- slices.pdqsortCmpFunc[clearway api.Parcel] -/
def ac48_L0 (q : Option (Nat × Nat)) : AC := .blk 1 (.seq (.rg [⟨none, some 21, .mv (.tmp 2)⟩,
    ⟨none, some 22, .mv (.tmp 1)⟩,
    ⟨none, some 23, .bin .sub (.tmp 21) (.tmp 22)⟩,
    ⟨none, some 12, .mv (.tmp 23)⟩])
  (.seq (.seq (.rg [⟨none, some 24, .mv (.tmp 12)⟩,
    ⟨none, some 25, .bin .leq (.tmp 24) (.const (.int .i64 12))⟩])
  (.cond (.tmp 25) (.seq (.rg [⟨none, some 26, .mv (.tmp 0)⟩,
    ⟨none, some 27, .mv (.tmp 1)⟩,
    ⟨none, some 28, .mv (.tmp 2)⟩,
    ⟨none, some 29, .mv (.tmp 4)⟩,
    ⟨none, some 30, .call 51 [.tmp 26, .tmp 27, .tmp 28, .tmp 29]⟩])
  (.ret)) (.skip)))
  (.seq (.seq (.rg [⟨none, some 31, .mv (.tmp 3)⟩,
    ⟨none, some 32, .bin .eql (.tmp 31) (.const (.int .i64 0))⟩])
  (.cond (.tmp 32) (.seq (.rg [⟨none, some 33, .mv (.tmp 0)⟩,
    ⟨none, some 34, .mv (.tmp 1)⟩,
    ⟨none, some 35, .mv (.tmp 2)⟩,
    ⟨none, some 36, .mv (.tmp 4)⟩,
    ⟨none, some 37, .call 52 [.tmp 33, .tmp 34, .tmp 35, .tmp 36]⟩])
  (.ret)) (.skip)))
  (.seq (.seq (.rg [⟨none, some 38, .mv (.tmp 10)⟩,
    ⟨none, some 39, .un .not (.tmp 38)⟩])
  (.cond (.tmp 39) (.seq (.rg [⟨none, some 40, .mv (.tmp 0)⟩,
    ⟨none, some 41, .mv (.tmp 1)⟩,
    ⟨none, some 42, .mv (.tmp 2)⟩,
    ⟨none, some 43, .mv (.tmp 4)⟩,
    ⟨none, some 44, .call 53 [.tmp 40, .tmp 41, .tmp 42, .tmp 43]⟩])
  (.rg [⟨none, some 45, .mv (.tmp 3)⟩,
    ⟨none, some 46, .bin .sub (.tmp 45) (.const (.int .i64 1))⟩,
    ⟨none, some 3, .mv (.tmp 46)⟩])) (.skip)))
  (.seq (.rg [⟨none, some 48, .mv (.tmp 0)⟩,
    ⟨none, some 49, .mv (.tmp 1)⟩,
    ⟨none, some 50, .mv (.tmp 2)⟩,
    ⟨none, some 51, .mv (.tmp 4)⟩,
    ⟨none, some 52, .call 54 [.tmp 48, .tmp 49, .tmp 50, .tmp 51]⟩,
    ⟨none, some 47, .mv (.tmp 52)⟩,
    ⟨none, some 53, .extract (.tmp 47) 0⟩,
    ⟨none, some 54, .extract (.tmp 47) 1⟩,
    ⟨none, some 13, .mv (.tmp 53)⟩,
    ⟨none, some 14, .mv (.tmp 54)⟩])
  (.seq (.seq (.rg [⟨none, some 55, .mv (.tmp 14)⟩,
    ⟨none, some 56, .bin .eql (.tmp 55) (.const (.int .i64 2))⟩])
  (.cond (.tmp 56) (.seq (.rg [⟨none, some 57, .mv (.tmp 0)⟩,
    ⟨none, some 58, .mv (.tmp 1)⟩,
    ⟨none, some 59, .mv (.tmp 2)⟩,
    ⟨none, some 60, .mv (.tmp 4)⟩,
    ⟨none, some 61, .call 55 [.tmp 57, .tmp 58, .tmp 59, .tmp 60]⟩])
  (.seq (.rg [⟨none, some 62, .mv (.tmp 2)⟩,
    ⟨none, some 63, .bin .sub (.tmp 62) (.const (.int .i64 1))⟩,
    ⟨none, some 64, .mv (.tmp 13)⟩,
    ⟨none, some 65, .mv (.tmp 1)⟩,
    ⟨none, some 66, .bin .sub (.tmp 64) (.tmp 65)⟩,
    ⟨none, some 67, .bin .sub (.tmp 63) (.tmp 66)⟩,
    ⟨none, some 13, .mv (.tmp 67)⟩])
  (.rg [⟨none, some 14, .mv (.const (.int .i64 1))⟩]))) (.skip)))
  (.seq (.seq (.rg [⟨none, some 68, .mv (.tmp 10)⟩,
    ⟨none, some 69, .mv (.tmp 68)⟩,
    ⟨some (69, true), some 70, .mv (.tmp 11)⟩,
    ⟨none, some 71, .pick (.tmp 69) (.tmp 70) (.const (.bool false))⟩,
    ⟨none, some 72, .mv (.tmp 71)⟩,
    ⟨some (72, true), some 73, .mv (.tmp 14)⟩,
    ⟨some (72, true), some 74, .bin .eql (.tmp 73) (.const (.int .i64 1))⟩,
    ⟨none, some 75, .pick (.tmp 72) (.tmp 74) (.const (.bool false))⟩])
  (.cond (.tmp 75) (.seq (.rg [⟨none, some 76, .mv (.tmp 0)⟩,
    ⟨none, some 77, .mv (.tmp 1)⟩,
    ⟨none, some 78, .mv (.tmp 2)⟩,
    ⟨none, some 79, .mv (.tmp 4)⟩,
    ⟨none, some 80, .call 56 [.tmp 76, .tmp 77, .tmp 78, .tmp 79]⟩])
  (.cond (.tmp 80) (.ret) (.skip))) (.skip)))
  (.seq (.seq (.dr [(true, [(0, 0), (1, 0), (2, 0)], [⟨none, some 81, .mv (.tmp 1)⟩,
    ⟨none, some 82, .bin .gtr (.tmp 81) (.const (.int .i64 0))⟩,
    ⟨none, some 83, .mv (.tmp 82)⟩]),
   (false, [(3, 0), (4, 0), (5, 0), (6, 0), (7, 0), (8, 0), (9, 0), (10, 0), (11, 0), (12, 0)], [⟨some (83, true), some 84, .mv (.tmp 4)⟩,
    ⟨some (83, true), some 85, .mv (.tmp 0)⟩,
    ⟨some (83, true), some 86, .mv (.tmp 1)⟩,
    ⟨some (83, true), some 87, .bin .sub (.tmp 86) (.const (.int .i64 1))⟩,
    ⟨some (83, true), some 88, .idx 6 (.tmp 85) (.tmp 87)⟩,
    ⟨some (83, true), some 89, .loadA 6 (.tmp 88)⟩,
    ⟨some (83, true), some 90, .mv (.tmp 0)⟩,
    ⟨some (83, true), some 91, .mv (.tmp 13)⟩,
    ⟨some (83, true), some 92, .idx 6 (.tmp 90) (.tmp 91)⟩,
    ⟨some (83, true), some 93, .loadA 6 (.tmp 92)⟩]),
   (true, [(13, 0), (14, 0), (15, 0), (16, 0)], [⟨some (83, true), some 94, .callv (.tmp 84) [.tmp 89, .tmp 93]⟩,
    ⟨some (83, true), some 95, .bin .lss (.tmp 94) (.const (.int .i64 0))⟩,
    ⟨some (83, true), some 96, .un .not (.tmp 95)⟩,
    ⟨none, some 97, .pick (.tmp 83) (.tmp 96) (.const (.bool false))⟩])])
  (.cond (.tmp 97) (.seq (.rg [⟨none, some 98, .mv (.tmp 0)⟩,
    ⟨none, some 99, .mv (.tmp 1)⟩,
    ⟨none, some 100, .mv (.tmp 2)⟩,
    ⟨none, some 101, .mv (.tmp 13)⟩,
    ⟨none, some 102, .mv (.tmp 4)⟩,
    ⟨none, some 103, .call 57 [.tmp 98, .tmp 99, .tmp 100, .tmp 101, .tmp 102]⟩,
    ⟨none, some 15, .mv (.tmp 103)⟩])
  (.seq (.rg [⟨none, some 104, .mv (.tmp 15)⟩,
    ⟨none, some 1, .mv (.tmp 104)⟩])
  (.exit 1))) (.skip)))
  (.seq (.rg [⟨none, some 106, .mv (.tmp 0)⟩,
    ⟨none, some 107, .mv (.tmp 1)⟩,
    ⟨none, some 108, .mv (.tmp 2)⟩,
    ⟨none, some 109, .mv (.tmp 13)⟩,
    ⟨none, some 110, .mv (.tmp 4)⟩,
    ⟨none, some 111, .call 58 [.tmp 106, .tmp 107, .tmp 108, .tmp 109, .tmp 110]⟩,
    ⟨none, some 105, .mv (.tmp 111)⟩,
    ⟨none, some 112, .extract (.tmp 105) 0⟩,
    ⟨none, some 113, .extract (.tmp 105) 1⟩,
    ⟨none, some 16, .mv (.tmp 112)⟩,
    ⟨none, some 17, .mv (.tmp 113)⟩])
  (.seq (.rg [⟨none, some 114, .mv (.tmp 17)⟩,
    ⟨none, some 11, .mv (.tmp 114)⟩])
  (.seq (.rg [⟨none, some 115, .mv (.tmp 16)⟩,
    ⟨none, some 116, .mv (.tmp 1)⟩,
    ⟨none, some 117, .bin .sub (.tmp 115) (.tmp 116)⟩,
    ⟨none, some 118, .mv (.tmp 2)⟩,
    ⟨none, some 119, .mv (.tmp 16)⟩,
    ⟨none, some 120, .bin .sub (.tmp 118) (.tmp 119)⟩,
    ⟨none, some 18, .mv (.tmp 117)⟩,
    ⟨none, some 19, .mv (.tmp 120)⟩])
  (.seq (.rg [⟨none, some 121, .mv (.tmp 12)⟩,
    ⟨none, some 122, .bin .quo (.tmp 121) (.const (.int .i64 8))⟩,
    ⟨none, some 20, .mv (.tmp 122)⟩])
  (.seq (.rg [⟨none, some 123, .mv (.tmp 18)⟩,
    ⟨none, some 124, .mv (.tmp 19)⟩,
    ⟨none, some 125, .bin .lss (.tmp 123) (.tmp 124)⟩])
  (.cond (.tmp 125) (.seq (.rg [⟨none, some 126, .mv (.tmp 18)⟩,
    ⟨none, some 127, .mv (.tmp 20)⟩,
    ⟨none, some 128, .bin .geq (.tmp 126) (.tmp 127)⟩,
    ⟨none, some 10, .mv (.tmp 128)⟩])
  (.seq (.rg [⟨none, some 129, .mv (.tmp 0)⟩,
    ⟨none, some 130, .mv (.tmp 1)⟩,
    ⟨none, some 131, .mv (.tmp 16)⟩,
    ⟨none, some 132, .mv (.tmp 3)⟩,
    ⟨none, some 133, .mv (.tmp 4)⟩,
    ⟨none, some 134, .call 48 [.tmp 129, .tmp 130, .tmp 131, .tmp 132, .tmp 133]⟩])
  (.rg [⟨none, some 135, .mv (.tmp 16)⟩,
    ⟨none, some 136, .bin .add (.tmp 135) (.const (.int .i64 1))⟩,
    ⟨none, some 1, .mv (.tmp 136)⟩]))) (.seq (.rg [⟨none, some 137, .mv (.tmp 19)⟩,
    ⟨none, some 138, .mv (.tmp 20)⟩,
    ⟨none, some 139, .bin .geq (.tmp 137) (.tmp 138)⟩,
    ⟨none, some 10, .mv (.tmp 139)⟩])
  (.seq (.rg [⟨none, some 140, .mv (.tmp 0)⟩,
    ⟨none, some 141, .mv (.tmp 16)⟩,
    ⟨none, some 142, .bin .add (.tmp 141) (.const (.int .i64 1))⟩,
    ⟨none, some 143, .mv (.tmp 2)⟩,
    ⟨none, some 144, .mv (.tmp 3)⟩,
    ⟨none, some 145, .mv (.tmp 4)⟩,
    ⟨none, some 146, .call 48 [.tmp 140, .tmp 142, .tmp 143, .tmp 144, .tmp 145]⟩])
  (.rg [⟨none, some 147, .mv (.tmp 16)⟩,
    ⟨none, some 2, .mv (.tmp 147)⟩])))))))))))))))))
def ac48 (q : Option (Nat × Nat)) : AC := .seq (.rg [⟨none, some 10, .mv (.const (.bool true))⟩])
  (.seq (.rg [⟨none, some 11, .mv (.const (.bool true))⟩])
  (.blk 0 (.loop q [0, 1, 2, 3, 4, 10, 11] (ac48_L0 q))))
theorem ac48_ok (q : Option (Nat × Nat)) : compF Go.Proofs.Try.prog Go.Proofs.Try.f48 (ac48 q) = some (ac48 q, []) := by kernel_rfl

/- math bits.Len -/
def ac49 (q : Option (Nat × Nat)) : AC := .seq (.rg [⟨none, some 2, .mv (.const (.int .i64 0))⟩])
  (.seq (.cond (.const (.bool false)) (.seq (.rg [⟨none, some 3, .mv (.tmp 0)⟩,
    ⟨none, some 4, .conv .u32 (.tmp 3)⟩,
    ⟨none, some 5, .call 59 [.tmp 4]⟩,
    ⟨none, some 2, .mv (.tmp 5)⟩])
  (.ret)) (.skip))
  (.seq (.rg [⟨none, some 6, .mv (.tmp 0)⟩,
    ⟨none, some 7, .call 60 [.tmp 6]⟩,
    ⟨none, some 2, .mv (.tmp 7)⟩])
  (.ret)))
theorem ac49_ok (q : Option (Nat × Nat)) : compF Go.Proofs.Try.prog Go.Proofs.Try.f49 (ac49 q) = some (ac49 q, [.tmp 2]) := by kernel_rfl

/- slices.IndexFunc[[]int,int] -/
def ac50_L0 (q : Option (Nat × Nat)) : AC := .seq (.rg [⟨none, some 9, .bin .lss (.tmp 8) (.tmp 7)⟩])
  (.seq (.cond (.tmp 9) (.skip) (.exit 0))
  (.seq (.blk 1 (.seq (.rg [⟨none, some 10, .mv (.tmp 8)⟩,
    ⟨none, some 5, .mv (.tmp 10)⟩])
  (.seq (.rg [⟨none, some 11, .mv (.tmp 1)⟩,
    ⟨none, some 12, .mv (.tmp 0)⟩,
    ⟨none, some 13, .mv (.tmp 5)⟩,
    ⟨none, some 14, .idx 1 (.tmp 12) (.tmp 13)⟩,
    ⟨none, some 15, .load (.tmp 14)⟩,
    ⟨none, some 16, .callv (.tmp 11) [.tmp 15]⟩])
  (.cond (.tmp 16) (.seq (.rg [⟨none, some 17, .mv (.tmp 5)⟩,
    ⟨none, some 4, .mv (.tmp 17)⟩])
  (.ret)) (.skip)))))
  (.rg [⟨none, some 18, .bin .add (.tmp 8) (.const (.int .i64 1))⟩,
    ⟨none, some 8, .mv (.tmp 18)⟩])))
def ac50 (q : Option (Nat × Nat)) : AC := .seq (.rg [⟨none, some 4, .mv (.const (.int .i64 0))⟩])
  (.seq (.seq (.rg [⟨none, some 6, .mv (.tmp 0)⟩,
    ⟨none, some 7, .len (.tmp 6)⟩,
    ⟨none, some 8, .mv (.const (.int .i64 0))⟩])
  (.blk 0 (.loop q [0, 1, 7, 8] (ac50_L0 q))))
  (.seq (.rg [⟨none, some 4, .mv (.const (.int .i64 (-1)))⟩])
  (.ret)))
theorem ac50_ok (q : Option (Nat × Nat)) : compF Go.Proofs.Try.prog Go.Proofs.Try.f50 (ac50 q) = some (ac50 q, [.tmp 4]) := by kernel_rfl

/- slices.insertionSortCmpFunc[clearway api.Parcel] -/
def ac51_L0 (q : Option (Nat × Nat)) : AC := .seq (.seq (.dr [(false, [(0, 0), (1, 0)], [⟨none, some 18, .mv (.tmp 9)⟩,
    ⟨none, some 19, .mv (.tmp 1)⟩]),
   (true, [(2, 0), (3, 0)], [⟨none, some 20, .bin .gtr (.tmp 18) (.tmp 19)⟩,
    ⟨none, some 21, .mv (.tmp 20)⟩]),
   (false, [(4, 0), (5, 0), (6, 0), (7, 0), (8, 0), (9, 0), (10, 0), (11, 0), (12, 0), (13, 0)], [⟨some (21, true), some 22, .mv (.tmp 3)⟩,
    ⟨some (21, true), some 23, .mv (.tmp 0)⟩,
    ⟨some (21, true), some 24, .mv (.tmp 9)⟩,
    ⟨some (21, true), some 25, .idx 6 (.tmp 23) (.tmp 24)⟩,
    ⟨some (21, true), some 26, .loadA 6 (.tmp 25)⟩,
    ⟨some (21, true), some 27, .mv (.tmp 0)⟩,
    ⟨some (21, true), some 28, .mv (.tmp 9)⟩,
    ⟨some (21, true), some 29, .bin .sub (.tmp 28) (.const (.int .i64 1))⟩,
    ⟨some (21, true), some 30, .idx 6 (.tmp 27) (.tmp 29)⟩,
    ⟨some (21, true), some 31, .loadA 6 (.tmp 30)⟩]),
   (true, [(14, 0), (15, 0), (16, 0)], [⟨some (21, true), some 32, .callv (.tmp 22) [.tmp 26, .tmp 31]⟩,
    ⟨some (21, true), some 33, .bin .lss (.tmp 32) (.const (.int .i64 0))⟩,
    ⟨none, some 34, .pick (.tmp 21) (.tmp 33) (.const (.bool false))⟩])])
  (.cond (.tmp 34) (.skip) (.exit 2)))
  (.seq (.blk 3 (.dr [(false, [(0, 0), (1, 0), (2, 0), (3, 0), (4, 0), (5, 0), (6, 0), (7, 0), (8, 0), (9, 0), (10, 0), (11, 0), (12, 0), (13, 0), (14, 0), (15, 1)], [⟨none, some 37, .mv (.tmp 0)⟩,
    ⟨none, some 38, .mv (.tmp 9)⟩,
    ⟨none, some 39, .mv (.tmp 0)⟩,
    ⟨none, some 40, .mv (.tmp 9)⟩,
    ⟨none, some 41, .bin .sub (.tmp 40) (.const (.int .i64 1))⟩,
    ⟨none, some 42, .mv (.tmp 0)⟩,
    ⟨none, some 43, .mv (.tmp 9)⟩,
    ⟨none, some 44, .bin .sub (.tmp 43) (.const (.int .i64 1))⟩,
    ⟨none, some 45, .idx 6 (.tmp 42) (.tmp 44)⟩,
    ⟨none, some 46, .loadA 6 (.tmp 45)⟩,
    ⟨none, some 47, .mv (.tmp 0)⟩,
    ⟨none, some 48, .mv (.tmp 9)⟩,
    ⟨none, some 49, .idx 6 (.tmp 47) (.tmp 48)⟩,
    ⟨none, some 50, .loadA 6 (.tmp 49)⟩,
    ⟨none, some 51, .idx 6 (.tmp 37) (.tmp 38)⟩,
    ⟨none, none, .store 6 (.tmp 51) (.tmp 46)⟩]),
   (true, [(16, 0), (17, 0)], [⟨none, some 52, .idx 6 (.tmp 39) (.tmp 41)⟩,
    ⟨none, none, .store 6 (.tmp 52) (.tmp 50)⟩])]))
  (.rg [⟨none, some 35, .mv (.tmp 9)⟩,
    ⟨none, some 36, .bin .sub (.tmp 35) (.const (.int .i64 1))⟩,
    ⟨none, some 9, .mv (.tmp 36)⟩]))
def ac51_L1 (q : Option (Nat × Nat)) : AC := .seq (.seq (.rg [⟨none, some 12, .mv (.tmp 8)⟩,
    ⟨none, some 13, .mv (.tmp 2)⟩,
    ⟨none, some 14, .bin .lss (.tmp 12) (.tmp 13)⟩])
  (.cond (.tmp 14) (.skip) (.exit 0)))
  (.seq (.blk 1 (.seq (.rg [⟨none, some 17, .mv (.tmp 8)⟩,
    ⟨none, some 9, .mv (.tmp 17)⟩])
  (.blk 2 (.loop q [0, 1, 2, 3, 8, 9] (ac51_L0 q)))))
  (.rg [⟨none, some 15, .mv (.tmp 8)⟩,
    ⟨none, some 16, .bin .add (.tmp 15) (.const (.int .i64 1))⟩,
    ⟨none, some 8, .mv (.tmp 16)⟩]))
def ac51 (q : Option (Nat × Nat)) : AC := .seq (.rg [⟨none, some 10, .mv (.tmp 1)⟩,
    ⟨none, some 11, .bin .add (.tmp 10) (.const (.int .i64 1))⟩,
    ⟨none, some 8, .mv (.tmp 11)⟩])
  (.blk 0 (.loop q [0, 1, 2, 3, 8] (ac51_L1 q)))
theorem ac51_ok (q : Option (Nat × Nat)) : compF Go.Proofs.Try.prog Go.Proofs.Try.f51 (ac51 q) = some (ac51 q, []) := by kernel_rfl

/- slices.heapSortCmpFunc[clearway api.Parcel] -/
def ac52_L0 (q : Option (Nat × Nat)) : AC := .seq (.seq (.rg [⟨none, some 20, .mv (.tmp 11)⟩,
    ⟨none, some 21, .bin .geq (.tmp 20) (.const (.int .i64 0))⟩])
  (.cond (.tmp 21) (.skip) (.exit 0)))
  (.seq (.blk 1 (.rg [⟨none, some 24, .mv (.tmp 0)⟩,
    ⟨none, some 25, .mv (.tmp 11)⟩,
    ⟨none, some 26, .mv (.tmp 10)⟩,
    ⟨none, some 27, .mv (.tmp 8)⟩,
    ⟨none, some 28, .mv (.tmp 3)⟩,
    ⟨none, some 29, .call 61 [.tmp 24, .tmp 25, .tmp 26, .tmp 27, .tmp 28]⟩]))
  (.rg [⟨none, some 22, .mv (.tmp 11)⟩,
    ⟨none, some 23, .bin .sub (.tmp 22) (.const (.int .i64 1))⟩,
    ⟨none, some 11, .mv (.tmp 23)⟩]))
def ac52_L1 (q : Option (Nat × Nat)) : AC := .seq (.seq (.rg [⟨none, some 32, .mv (.tmp 12)⟩,
    ⟨none, some 33, .bin .geq (.tmp 32) (.const (.int .i64 0))⟩])
  (.cond (.tmp 33) (.skip) (.exit 2)))
  (.seq (.blk 3 (.seq (.dr [(false, [(0, 0), (1, 0), (2, 0), (3, 0), (4, 0), (5, 0), (6, 0), (7, 0), (8, 0), (9, 0), (10, 0), (11, 0), (12, 0), (13, 0), (14, 0), (15, 0), (16, 0), (17, 1)], [⟨none, some 36, .mv (.tmp 0)⟩,
    ⟨none, some 37, .mv (.tmp 8)⟩,
    ⟨none, some 38, .mv (.tmp 0)⟩,
    ⟨none, some 39, .mv (.tmp 8)⟩,
    ⟨none, some 40, .mv (.tmp 12)⟩,
    ⟨none, some 41, .bin .add (.tmp 39) (.tmp 40)⟩,
    ⟨none, some 42, .mv (.tmp 0)⟩,
    ⟨none, some 43, .mv (.tmp 8)⟩,
    ⟨none, some 44, .mv (.tmp 12)⟩,
    ⟨none, some 45, .bin .add (.tmp 43) (.tmp 44)⟩,
    ⟨none, some 46, .idx 6 (.tmp 42) (.tmp 45)⟩,
    ⟨none, some 47, .loadA 6 (.tmp 46)⟩,
    ⟨none, some 48, .mv (.tmp 0)⟩,
    ⟨none, some 49, .mv (.tmp 8)⟩,
    ⟨none, some 50, .idx 6 (.tmp 48) (.tmp 49)⟩,
    ⟨none, some 51, .loadA 6 (.tmp 50)⟩,
    ⟨none, some 52, .idx 6 (.tmp 36) (.tmp 37)⟩,
    ⟨none, none, .store 6 (.tmp 52) (.tmp 47)⟩]),
   (true, [(18, 0), (19, 0)], [⟨none, some 53, .idx 6 (.tmp 38) (.tmp 41)⟩,
    ⟨none, none, .store 6 (.tmp 53) (.tmp 51)⟩])])
  (.rg [⟨none, some 54, .mv (.tmp 0)⟩,
    ⟨none, some 55, .mv (.tmp 9)⟩,
    ⟨none, some 56, .mv (.tmp 12)⟩,
    ⟨none, some 57, .mv (.tmp 8)⟩,
    ⟨none, some 58, .mv (.tmp 3)⟩,
    ⟨none, some 59, .call 61 [.tmp 54, .tmp 55, .tmp 56, .tmp 57, .tmp 58]⟩])))
  (.rg [⟨none, some 34, .mv (.tmp 12)⟩,
    ⟨none, some 35, .bin .sub (.tmp 34) (.const (.int .i64 1))⟩,
    ⟨none, some 12, .mv (.tmp 35)⟩]))
def ac52 (q : Option (Nat × Nat)) : AC := .seq (.rg [⟨none, some 13, .mv (.tmp 1)⟩,
    ⟨none, some 8, .mv (.tmp 13)⟩])
  (.seq (.rg [⟨none, some 9, .mv (.const (.int .i64 0))⟩])
  (.seq (.rg [⟨none, some 14, .mv (.tmp 2)⟩,
    ⟨none, some 15, .mv (.tmp 1)⟩,
    ⟨none, some 16, .bin .sub (.tmp 14) (.tmp 15)⟩,
    ⟨none, some 10, .mv (.tmp 16)⟩])
  (.seq (.seq (.rg [⟨none, some 17, .mv (.tmp 10)⟩,
    ⟨none, some 18, .bin .sub (.tmp 17) (.const (.int .i64 1))⟩,
    ⟨none, some 19, .bin .quo (.tmp 18) (.const (.int .i64 2))⟩,
    ⟨none, some 11, .mv (.tmp 19)⟩])
  (.blk 0 (.loop q [0, 3, 8, 9, 10, 11] (ac52_L0 q))))
  (.seq (.rg [⟨none, some 30, .mv (.tmp 10)⟩,
    ⟨none, some 31, .bin .sub (.tmp 30) (.const (.int .i64 1))⟩,
    ⟨none, some 12, .mv (.tmp 31)⟩])
  (.blk 2 (.loop q [0, 3, 8, 9, 12] (ac52_L1 q)))))))
theorem ac52_ok (q : Option (Nat × Nat)) : compF Go.Proofs.Try.prog Go.Proofs.Try.f52 (ac52 q) = some (ac52 q, []) := by kernel_rfl

/- slices.breakPatternsCmpFunc[clearway api.Parcel] -/
def ac53_L0 (q : Option (Nat × Nat)) : AC := .seq (.seq (.rg [⟨none, some 28, .mv (.tmp 11)⟩,
    ⟨none, some 29, .mv (.tmp 1)⟩,
    ⟨none, some 30, .mv (.tmp 8)⟩,
    ⟨none, some 31, .bin .quo (.tmp 30) (.const (.int .i64 4))⟩,
    ⟨none, some 32, .bin .mul (.tmp 31) (.const (.int .i64 2))⟩,
    ⟨none, some 33, .bin .add (.tmp 29) (.tmp 32)⟩,
    ⟨none, some 34, .bin .add (.tmp 33) (.const (.int .i64 1))⟩,
    ⟨none, some 35, .bin .leq (.tmp 28) (.tmp 34)⟩])
  (.cond (.tmp 35) (.skip) (.exit 0)))
  (.seq (.blk 1 (.seq (.rg [⟨none, some 38, .call 63 [.tmp 9]⟩,
    ⟨none, some 39, .mv (.tmp 10)⟩,
    ⟨none, some 40, .bin .sub (.tmp 39) (.const (.int .u64 1))⟩,
    ⟨none, some 41, .bin .and (.tmp 38) (.tmp 40)⟩,
    ⟨none, some 42, .conv .i64 (.tmp 41)⟩,
    ⟨none, some 12, .mv (.tmp 42)⟩])
  (.seq (.seq (.rg [⟨none, some 43, .mv (.tmp 12)⟩,
    ⟨none, some 44, .mv (.tmp 8)⟩,
    ⟨none, some 45, .bin .geq (.tmp 43) (.tmp 44)⟩])
  (.cond (.tmp 45) (.rg [⟨none, some 46, .mv (.tmp 12)⟩,
    ⟨none, some 47, .mv (.tmp 8)⟩,
    ⟨none, some 48, .bin .sub (.tmp 46) (.tmp 47)⟩,
    ⟨none, some 12, .mv (.tmp 48)⟩]) (.skip)))
  (.dr [(false, [(0, 0), (1, 0), (2, 0), (3, 0), (4, 0), (5, 0), (6, 0), (7, 0), (8, 0), (9, 0), (10, 0), (11, 0), (12, 0), (13, 0), (14, 0), (15, 0), (16, 0), (17, 1)], [⟨none, some 49, .mv (.tmp 0)⟩,
    ⟨none, some 50, .mv (.tmp 11)⟩,
    ⟨none, some 51, .mv (.tmp 0)⟩,
    ⟨none, some 52, .mv (.tmp 1)⟩,
    ⟨none, some 53, .mv (.tmp 12)⟩,
    ⟨none, some 54, .bin .add (.tmp 52) (.tmp 53)⟩,
    ⟨none, some 55, .mv (.tmp 0)⟩,
    ⟨none, some 56, .mv (.tmp 1)⟩,
    ⟨none, some 57, .mv (.tmp 12)⟩,
    ⟨none, some 58, .bin .add (.tmp 56) (.tmp 57)⟩,
    ⟨none, some 59, .idx 6 (.tmp 55) (.tmp 58)⟩,
    ⟨none, some 60, .loadA 6 (.tmp 59)⟩,
    ⟨none, some 61, .mv (.tmp 0)⟩,
    ⟨none, some 62, .mv (.tmp 11)⟩,
    ⟨none, some 63, .idx 6 (.tmp 61) (.tmp 62)⟩,
    ⟨none, some 64, .loadA 6 (.tmp 63)⟩,
    ⟨none, some 65, .idx 6 (.tmp 49) (.tmp 50)⟩,
    ⟨none, none, .store 6 (.tmp 65) (.tmp 60)⟩]),
   (true, [(18, 0), (19, 0)], [⟨none, some 66, .idx 6 (.tmp 51) (.tmp 54)⟩,
    ⟨none, none, .store 6 (.tmp 66) (.tmp 64)⟩])]))))
  (.rg [⟨none, some 36, .mv (.tmp 11)⟩,
    ⟨none, some 37, .bin .add (.tmp 36) (.const (.int .i64 1))⟩,
    ⟨none, some 11, .mv (.tmp 37)⟩]))
def ac53 (q : Option (Nat × Nat)) : AC := .seq (.rg [⟨none, some 13, .mv (.tmp 2)⟩,
    ⟨none, some 14, .mv (.tmp 1)⟩,
    ⟨none, some 15, .bin .sub (.tmp 13) (.tmp 14)⟩,
    ⟨none, some 8, .mv (.tmp 15)⟩])
  (.seq (.rg [⟨none, some 16, .mv (.tmp 8)⟩,
    ⟨none, some 17, .bin .geq (.tmp 16) (.const (.int .i64 8))⟩])
  (.cond (.tmp 17) (.seq (.rg [⟨none, some 18, .mv (.tmp 8)⟩,
    ⟨none, some 19, .conv .u64 (.tmp 18)⟩,
    ⟨none, some 9, .alloc 110 [.p (.v (.int .u64 0))]⟩,
    ⟨none, none, .store 1 (.tmp 9) (.tmp 19)⟩])
  (.seq (.rg [⟨none, some 20, .mv (.tmp 8)⟩,
    ⟨none, some 21, .call 62 [.tmp 20]⟩,
    ⟨none, some 10, .mv (.tmp 21)⟩])
  (.seq (.rg [⟨none, some 22, .mv (.tmp 1)⟩,
    ⟨none, some 23, .mv (.tmp 8)⟩,
    ⟨none, some 24, .bin .quo (.tmp 23) (.const (.int .i64 4))⟩,
    ⟨none, some 25, .bin .mul (.tmp 24) (.const (.int .i64 2))⟩,
    ⟨none, some 26, .bin .add (.tmp 22) (.tmp 25)⟩,
    ⟨none, some 27, .bin .sub (.tmp 26) (.const (.int .i64 1))⟩,
    ⟨none, some 11, .mv (.tmp 27)⟩])
  (.blk 0 (.loop q [0, 1, 8, 9, 10, 11] (ac53_L0 q)))))) (.skip)))
theorem ac53_ok (q : Option (Nat × Nat)) : compF Go.Proofs.Try.prog Go.Proofs.Try.f53 (ac53 q) = some (ac53 q, []) := by kernel_rfl

/- slices.choosePivotCmpFunc[clearway api.Parcel] -/
def ac54 (q : Option (Nat × Nat)) : AC := .seq (.rg [⟨none, some 8, .mv (.const (.int .i64 0))⟩,
    ⟨none, some 9, .mv (.const (.int .i64 0))⟩])
  (.seq (.rg [⟨none, some 15, .mv (.tmp 2)⟩,
    ⟨none, some 16, .mv (.tmp 1)⟩,
    ⟨none, some 17, .bin .sub (.tmp 15) (.tmp 16)⟩,
    ⟨none, some 10, .mv (.tmp 17)⟩])
  (.seq (.rg [⟨none, some 11, .alloc 3 [.p (.v (.int .i64 0))]⟩])
  (.seq (.rg [⟨none, some 18, .mv (.tmp 1)⟩,
    ⟨none, some 19, .mv (.tmp 10)⟩,
    ⟨none, some 20, .bin .quo (.tmp 19) (.const (.int .i64 4))⟩,
    ⟨none, some 21, .bin .mul (.tmp 20) (.const (.int .i64 1))⟩,
    ⟨none, some 22, .bin .add (.tmp 18) (.tmp 21)⟩,
    ⟨none, some 12, .mv (.tmp 22)⟩])
  (.seq (.rg [⟨none, some 23, .mv (.tmp 1)⟩,
    ⟨none, some 24, .mv (.tmp 10)⟩,
    ⟨none, some 25, .bin .quo (.tmp 24) (.const (.int .i64 4))⟩,
    ⟨none, some 26, .bin .mul (.tmp 25) (.const (.int .i64 2))⟩,
    ⟨none, some 27, .bin .add (.tmp 23) (.tmp 26)⟩,
    ⟨none, some 13, .mv (.tmp 27)⟩])
  (.seq (.rg [⟨none, some 28, .mv (.tmp 1)⟩,
    ⟨none, some 29, .mv (.tmp 10)⟩,
    ⟨none, some 30, .bin .quo (.tmp 29) (.const (.int .i64 4))⟩,
    ⟨none, some 31, .bin .mul (.tmp 30) (.const (.int .i64 3))⟩,
    ⟨none, some 32, .bin .add (.tmp 28) (.tmp 31)⟩,
    ⟨none, some 14, .mv (.tmp 32)⟩])
  (.seq (.seq (.rg [⟨none, some 33, .mv (.tmp 10)⟩,
    ⟨none, some 34, .bin .geq (.tmp 33) (.const (.int .i64 8))⟩])
  (.cond (.tmp 34) (.seq (.seq (.rg [⟨none, some 35, .mv (.tmp 10)⟩,
    ⟨none, some 36, .bin .geq (.tmp 35) (.const (.int .i64 50))⟩])
  (.cond (.tmp 36) (.seq (.rg [⟨none, some 37, .mv (.tmp 0)⟩,
    ⟨none, some 38, .mv (.tmp 12)⟩,
    ⟨none, some 39, .mv (.tmp 3)⟩,
    ⟨none, some 40, .call 64 [.tmp 37, .tmp 38, .tmp 11, .tmp 39]⟩,
    ⟨none, some 12, .mv (.tmp 40)⟩])
  (.seq (.rg [⟨none, some 41, .mv (.tmp 0)⟩,
    ⟨none, some 42, .mv (.tmp 13)⟩,
    ⟨none, some 43, .mv (.tmp 3)⟩,
    ⟨none, some 44, .call 64 [.tmp 41, .tmp 42, .tmp 11, .tmp 43]⟩,
    ⟨none, some 13, .mv (.tmp 44)⟩])
  (.rg [⟨none, some 45, .mv (.tmp 0)⟩,
    ⟨none, some 46, .mv (.tmp 14)⟩,
    ⟨none, some 47, .mv (.tmp 3)⟩,
    ⟨none, some 48, .call 64 [.tmp 45, .tmp 46, .tmp 11, .tmp 47]⟩,
    ⟨none, some 14, .mv (.tmp 48)⟩]))) (.skip)))
  (.rg [⟨none, some 49, .mv (.tmp 0)⟩,
    ⟨none, some 50, .mv (.tmp 12)⟩,
    ⟨none, some 51, .mv (.tmp 13)⟩,
    ⟨none, some 52, .mv (.tmp 14)⟩,
    ⟨none, some 53, .mv (.tmp 3)⟩,
    ⟨none, some 54, .call 65 [.tmp 49, .tmp 50, .tmp 51, .tmp 52, .tmp 11, .tmp 53]⟩,
    ⟨none, some 13, .mv (.tmp 54)⟩])) (.skip)))
  (.seq (.rg [⟨none, some 55, .load (.tmp 11)⟩])
  (.blk 0 (.seq (.rg [⟨none, some 58, .bin .eql (.tmp 55) (.const (.int .i64 0))⟩,
    ⟨none, some 57, .mv (.tmp 58)⟩])
  (.cond (.tmp 57) (.seq (.rg [⟨none, some 59, .mv (.tmp 13)⟩,
    ⟨none, some 8, .mv (.tmp 59)⟩,
    ⟨none, some 9, .mv (.const (.int .i64 1))⟩])
  (.ret)) (.seq (.rg [⟨none, some 61, .bin .eql (.tmp 55) (.const (.int .i64 12))⟩,
    ⟨none, some 60, .mv (.tmp 61)⟩])
  (.cond (.tmp 60) (.seq (.rg [⟨none, some 62, .mv (.tmp 13)⟩,
    ⟨none, some 8, .mv (.tmp 62)⟩,
    ⟨none, some 9, .mv (.const (.int .i64 2))⟩])
  (.ret)) (.seq (.rg [⟨none, some 56, .mv (.tmp 13)⟩,
    ⟨none, some 8, .mv (.tmp 56)⟩,
    ⟨none, some 9, .mv (.const (.int .i64 0))⟩])
  (.ret))))))))))))))
theorem ac54_ok (q : Option (Nat × Nat)) : compF Go.Proofs.Try.prog Go.Proofs.Try.f54 (ac54 q) = some (ac54 q, [.tmp 8, .tmp 9]) := by kernel_rfl
end Go.Ab
