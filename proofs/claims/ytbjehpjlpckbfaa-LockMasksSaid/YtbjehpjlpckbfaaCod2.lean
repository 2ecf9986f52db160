/- The codes of functions of this seat, as annotated, compared with the program by the kernel. No conditions. -/
import Derived.Test.YtbjehpjlpckbfaaProg
import Derived.Test.YtbjehpjlpckbfaaAbG
import Derived.Test.YtbjehpjlpckbfaaCod1
set_option linter.unusedVariables false
set_option linter.unusedSimpArgs false
namespace Go.Ab
def ac40 (q : Option (Nat × Nat)) : AC := .seq (.rg [⟨none, some 5, .mv (.const (.int .i64 0))⟩])
  (.seq (.seq (.rg [⟨none, some 9, .loadA 4 (.tmp 1)⟩,
    ⟨none, some 10, .call 31 [.tmp 9]⟩,
    ⟨none, some 6, .mv (.tmp 10)⟩])
  (.seq (.rg [⟨none, some 11, .mv (.tmp 6)⟩,
    ⟨none, some 12, .bin .neq (.tmp 11) (.const (.int .i64 0))⟩])
  (.cond (.tmp 12) (.seq (.rg [⟨none, some 13, .mv (.tmp 6)⟩,
    ⟨none, some 5, .mv (.tmp 13)⟩])
  (.ret)) (.skip))))
  (.seq (.rg [⟨none, some 15, .mv (.tmp 0)⟩,
    ⟨none, some 16, .fieldA 0 (.tmp 1)⟩,
    ⟨none, some 17, .load (.tmp 16)⟩,
    ⟨none, some 18, .mop (.look true 5 [.p (.v (.int .i64 0)), .p (.v (.int .u8 0)), .p (.v (.int .i64 0)), .p (.v (.int .i64 0))] (.tmp 15) (.tmp 17))⟩,
    ⟨none, some 14, .mv (.tmp 18)⟩,
    ⟨none, some 19, .extract (.tmp 14) 0⟩,
    ⟨none, some 20, .extract (.tmp 14) 1⟩,
    ⟨none, some 7, .alloc 50 [.p (.v (.int .i64 0)), .p (.v (.int .u8 0)), .p (.v (.int .i64 0)), .p (.v (.int .i64 0))]⟩,
    ⟨none, none, .store 4 (.tmp 7) (.tmp 19)⟩,
    ⟨none, some 8, .mv (.tmp 20)⟩])
  (.seq (.blk 0 (.seq (.rg [⟨none, some 22, .mv (.tmp 8)⟩,
    ⟨none, some 23, .un .not (.tmp 22)⟩,
    ⟨none, some 24, .mv (.tmp 23)⟩,
    ⟨some (24, true), some 25, .mv (.tmp 0)⟩,
    ⟨some (24, true), some 26, .mop (.len 0 5 (.tmp 25))⟩,
    ⟨some (24, true), some 27, .bin .eql (.tmp 26) (.const (.int .i64 16))⟩,
    ⟨none, some 28, .pick (.tmp 24) (.tmp 27) (.const (.bool false))⟩,
    ⟨none, some 21, .mv (.tmp 28)⟩])
  (.cond (.tmp 21) (.seq (.rg [⟨none, some 5, .mv (.const (.int .i64 17))⟩])
  (.ret)) (.seq (.rg [⟨none, some 30, .mv (.tmp 8)⟩,
    ⟨none, some 31, .mv (.tmp 30)⟩,
    ⟨some (31, true), some 32, .fieldA 2 (.tmp 7)⟩,
    ⟨some (31, true), some 33, .load (.tmp 32)⟩,
    ⟨some (31, true), some 34, .fieldA 3 (.tmp 1)⟩,
    ⟨some (31, true), some 35, .load (.tmp 34)⟩,
    ⟨some (31, true), some 36, .bin .gtr (.tmp 33) (.tmp 35)⟩,
    ⟨none, some 37, .pick (.tmp 31) (.tmp 36) (.const (.bool false))⟩,
    ⟨none, some 29, .mv (.tmp 37)⟩])
  (.cond (.tmp 29) (.seq (.rg [⟨none, some 5, .mv (.const (.int .i64 0))⟩])
  (.ret)) (.seq (.rg [⟨none, some 39, .mv (.tmp 8)⟩,
    ⟨none, some 40, .un .not (.tmp 39)⟩,
    ⟨none, some 41, .mv (.tmp 40)⟩,
    ⟨some (41, false), some 42, .fieldA 2 (.tmp 7)⟩,
    ⟨some (41, false), some 43, .load (.tmp 42)⟩,
    ⟨some (41, false), some 44, .fieldA 3 (.tmp 1)⟩,
    ⟨some (41, false), some 45, .load (.tmp 44)⟩,
    ⟨some (41, false), some 46, .bin .lss (.tmp 43) (.tmp 45)⟩,
    ⟨none, some 47, .pick (.tmp 41) (.const (.bool true)) (.tmp 46)⟩,
    ⟨none, some 38, .mv (.tmp 47)⟩])
  (.cond (.tmp 38) (.rg [⟨none, some 48, .fieldA 0 (.tmp 1)⟩,
    ⟨none, some 49, .load (.tmp 48)⟩,
    ⟨none, some 50, .fieldA 2 (.tmp 1)⟩,
    ⟨none, some 51, .load (.tmp 50)⟩,
    ⟨none, some 52, .fieldA 3 (.tmp 1)⟩,
    ⟨none, some 53, .load (.tmp 52)⟩,
    ⟨none, some 54, .build [.p (.v (.int .i64 0)), .p (.v (.int .u8 0)), .p (.v (.int .i64 0)), .p (.v (.int .i64 0))] [(0, 1, .tmp 49), (1, 1, .tmp 51), (2, 1, .tmp 53)]⟩,
    ⟨none, none, .store 4 (.tmp 7) (.tmp 54)⟩]) (.skip))))))))
  (.seq (.dr [(false, [(0, 0), (1, 0), (2, 0), (3, 0), (4, 0)], [⟨none, some 55, .load (.tmp 2)⟩,
    ⟨none, some 56, .load (.tmp 3)⟩,
    ⟨none, some 57, .nilck (.tmp 56)⟩,
    ⟨none, some 58, .fieldA 0 (.tmp 57)⟩,
    ⟨none, some 59, .load (.tmp 58)⟩]),
   (true, [(5, 0), (6, 0), (7, 0)], [⟨none, some 60, .bin .add (.tmp 55) (.tmp 59)⟩,
    ⟨none, some 61, .fieldA 3 (.tmp 7)⟩,
    ⟨none, none, .store 1 (.tmp 61) (.tmp 60)⟩])])
  (.seq (.rg [⟨none, some 62, .mv (.tmp 0)⟩,
    ⟨none, some 63, .fieldA 0 (.tmp 1)⟩,
    ⟨none, some 64, .load (.tmp 63)⟩,
    ⟨none, some 65, .loadA 4 (.tmp 7)⟩,
    ⟨none, none, .mop (.upd 5 (.tmp 62) (.tmp 64) (.tmp 65))⟩])
  (.seq (.rg [⟨none, some 5, .mv (.const (.int .i64 0))⟩])
  (.ret)))))))
theorem ac40_ok (q : Option (Nat × Nat)) : compF Go.Proofs.Try.prog Go.Proofs.Try.f40 (ac40 q) = some (ac40 q, [.tmp 5]) := by kernel_rfl
def ac43 (q : Option (Nat × Nat)) : AC := .seq (.rg [⟨none, some 2, .mv (.const (.int .i64 0))⟩])
  (.seq (.rg [⟨none, some 2, .mv (.const (.int .i64 0))⟩])
  (.ret))
theorem ac43_ok (q : Option (Nat × Nat)) : compF Go.Proofs.Try.prog Go.Proofs.Try.f43 (ac43 q) = some (ac43 q, [.tmp 2]) := by kernel_rfl
def ac44 (q : Option (Nat × Nat)) : AC := .seq (.rg [⟨none, some 2, .mv (.const (.slice none 0 0))⟩])
  (.seq (.rg [⟨none, some 4, .mv (.tmp 0)⟩,
    ⟨none, some 5, .call 60 [.tmp 4]⟩,
    ⟨none, some 3, .mv (.tmp 5)⟩])
  (.seq (.rg [⟨none, some 6, .mv (.tmp 3)⟩,
    ⟨none, some 7, .call 61 [.tmp 6]⟩])
  (.seq (.rg [⟨none, some 8, .mv (.tmp 3)⟩,
    ⟨none, some 2, .mv (.tmp 8)⟩])
  (.ret))))
theorem ac44_ok (q : Option (Nat × Nat)) : compF Go.Proofs.Try.prog Go.Proofs.Try.f44 (ac44 q) = some (ac44 q, [.tmp 2]) := by kernel_rfl
def ac45 (q : Option (Nat × Nat)) : AC := .seq (.rg [⟨none, some 1, .box 76 (.tmp 0)⟩,
    ⟨none, some 2, .mv (.const .nilFunc)⟩])
  (.seq (.rg [⟨none, some 3, .mkfn (.func 62) [] [.tmp 1]⟩,
    ⟨none, some 2, .mv (.tmp 3)⟩])
  (.ret))
theorem ac45_ok (q : Option (Nat × Nat)) : compF Go.Proofs.Try.prog Go.Proofs.Try.f45 (ac45 q) = some (ac45 q, [.tmp 2]) := by kernel_rfl
def ac46_L0 (q : Option (Nat × Nat)) : AC := .seq (.rg [⟨none, some 17, .bin .lss (.tmp 16) (.tmp 15)⟩])
  (.seq (.cond (.tmp 17) (.skip) (.exit 1))
  (.seq (.blk 2 (.seq (.rg [⟨none, some 18, .idx 3 (.tmp 14) (.tmp 16)⟩,
    ⟨none, some 19, .loadA 3 (.tmp 18)⟩,
    ⟨none, some 4, .alloc 74 [.p (.v (.int .u8 0)), .p (.v (.int .i64 0)), .p (.v (.int .i64 0))]⟩,
    ⟨none, none, .store 3 (.tmp 4) (.tmp 19)⟩])
  (.blk 3 (.seq (.rg [⟨none, some 21, .fieldA 0 (.tmp 4)⟩,
    ⟨none, some 22, .load (.tmp 21)⟩,
    ⟨none, some 23, .bin .neq (.tmp 22) (.const (.int .u8 1))⟩,
    ⟨none, some 24, .mv (.tmp 23)⟩,
    ⟨some (24, true), some 25, .fieldA 0 (.tmp 4)⟩,
    ⟨some (24, true), some 26, .load (.tmp 25)⟩,
    ⟨some (24, true), some 27, .bin .neq (.tmp 26) (.const (.int .u8 2))⟩,
    ⟨none, some 28, .pick (.tmp 24) (.tmp 27) (.const (.bool false))⟩,
    ⟨none, some 20, .mv (.tmp 28)⟩])
  (.cond (.tmp 20) (.seq (.rg [⟨none, some 2, .mv (.const (.int .i64 6))⟩])
  (.ret)) (.seq (.rg [⟨none, some 30, .fieldA 1 (.tmp 4)⟩,
    ⟨none, some 31, .load (.tmp 30)⟩,
    ⟨none, some 32, .fieldA 2 (.tmp 4)⟩,
    ⟨none, some 33, .load (.tmp 32)⟩,
    ⟨none, some 34, .bin .gtr (.tmp 31) (.tmp 33)⟩,
    ⟨none, some 35, .mv (.tmp 34)⟩,
    ⟨some (35, false), some 36, .fieldA 1 (.tmp 4)⟩,
    ⟨some (35, false), some 37, .load (.tmp 36)⟩,
    ⟨some (35, false), some 38, .bin .lss (.tmp 37) (.const (.int .i64 (-100)))⟩,
    ⟨none, some 39, .pick (.tmp 35) (.const (.bool true)) (.tmp 38)⟩,
    ⟨none, some 40, .mv (.tmp 39)⟩,
    ⟨some (40, false), some 41, .fieldA 2 (.tmp 4)⟩,
    ⟨some (40, false), some 42, .load (.tmp 41)⟩,
    ⟨some (40, false), some 43, .bin .gtr (.tmp 42) (.const (.int .i64 100))⟩,
    ⟨none, some 44, .pick (.tmp 40) (.const (.bool true)) (.tmp 43)⟩,
    ⟨none, some 29, .mv (.tmp 44)⟩])
  (.cond (.tmp 29) (.seq (.rg [⟨none, some 2, .mv (.const (.int .i64 1))⟩])
  (.ret)) (.skip))))))))
  (.rg [⟨none, some 45, .bin .add (.tmp 16) (.const (.int .i64 1))⟩,
    ⟨none, some 16, .mv (.tmp 45)⟩])))
def ac46 (q : Option (Nat × Nat)) : AC := .seq (.rg [⟨none, some 2, .mv (.const (.int .i64 0))⟩])
  (.seq (.blk 0 (.seq (.rg [⟨none, some 6, .mv (.tmp 0)⟩,
    ⟨none, some 7, .len (.tmp 6)⟩,
    ⟨none, some 8, .bin .eql (.tmp 7) (.const (.int .i64 0))⟩,
    ⟨none, some 5, .mv (.tmp 8)⟩])
  (.cond (.tmp 5) (.seq (.rg [⟨none, some 2, .mv (.const (.int .i64 3))⟩])
  (.ret)) (.seq (.rg [⟨none, some 10, .mv (.tmp 0)⟩,
    ⟨none, some 11, .len (.tmp 10)⟩,
    ⟨none, some 12, .bin .gtr (.tmp 11) (.const (.int .i64 6))⟩,
    ⟨none, some 9, .mv (.tmp 12)⟩])
  (.cond (.tmp 9) (.seq (.rg [⟨none, some 2, .mv (.const (.int .i64 4))⟩])
  (.ret)) (.skip))))))
  (.seq (.seq (.rg [⟨none, some 13, .mv (.tmp 0)⟩,
    ⟨none, some 14, .slice 3 (.tmp 13) (some (.const (.int .i64 1))) none⟩,
    ⟨none, some 15, .len (.tmp 14)⟩,
    ⟨none, some 16, .mv (.const (.int .i64 0))⟩])
  (.blk 1 (.loop q [14, 15, 16] (ac46_L0 q))))
  (.seq (.rg [⟨none, some 2, .mv (.const (.int .i64 0))⟩])
  (.ret))))
theorem ac46_ok (q : Option (Nat × Nat)) : compF Go.Proofs.Try.prog Go.Proofs.Try.f46 (ac46 q) = some (ac46 q, [.tmp 2]) := by kernel_rfl
def ac51 (q : Option (Nat × Nat)) : AC := .seq (.rg [⟨none, some 7, .load (.tmp 2)⟩,
    ⟨none, some 8, .load (.tmp 3)⟩,
    ⟨none, some 9, .mv (.tmp 0)⟩,
    ⟨none, some 10, .mv (.tmp 1)⟩,
    ⟨none, some 11, .conv .u64 (.tmp 10)⟩,
    ⟨none, some 12, .call 52 [.tmp 7, .tmp 8, .tmp 9, .tmp 11]⟩,
    ⟨none, some 6, .mv (.tmp 12)⟩,
    ⟨none, some 13, .extract (.tmp 6) 0⟩,
    ⟨none, some 14, .extract (.tmp 6) 1⟩,
    ⟨none, none, .store 1 (.tmp 2) (.tmp 13)⟩])
  (.rg [⟨none, some 15, .load (.tmp 3)⟩,
    ⟨none, some 16, .mv (.tmp 0)⟩,
    ⟨none, some 17, .bin .add (.tmp 15) (.tmp 16)⟩,
    ⟨none, none, .store 1 (.tmp 3) (.tmp 17)⟩])
theorem ac51_ok (q : Option (Nat × Nat)) : compF Go.Proofs.Try.prog Go.Proofs.Try.f51 (ac51 q) = some (ac51 q, []) := by kernel_rfl
def ac53 (q : Option (Nat × Nat)) : AC := .seq (.rg [⟨none, some 2, .mv (.const (.int .i64 0))⟩])
  (.seq (.rg [⟨none, some 3, .mv (.tmp 0)⟩,
    ⟨none, some 4, .bslice false 54 1 1 [.p (.sl (some true) 0 [])] [(0, 1, .tmp 3)]⟩,
    ⟨none, some 5, .call 66 [.tmp 4]⟩,
    ⟨none, some 2, .mv (.tmp 5)⟩])
  (.ret))
theorem ac53_ok (q : Option (Nat × Nat)) : compF Go.Proofs.Try.prog Go.Proofs.Try.f53 (ac53 q) = some (ac53 q, [.tmp 2]) := by kernel_rfl
def ac54 (q : Option (Nat × Nat)) : AC := .seq (.rg [⟨none, some 4, .mv (.const (.int .i64 0))⟩])
  (.seq (.rg [⟨none, some 8, .load (.tmp 1)⟩,
    ⟨none, some 9, .load (.tmp 2)⟩,
    ⟨none, some 10, .mv (.tmp 0)⟩,
    ⟨none, some 11, .call 55 [.tmp 8, .tmp 9, .tmp 10]⟩,
    ⟨none, some 7, .mv (.tmp 11)⟩,
    ⟨none, some 12, .extract (.tmp 7) 0⟩,
    ⟨none, some 13, .extract (.tmp 7) 1⟩,
    ⟨none, some 5, .mv (.tmp 12)⟩,
    ⟨none, some 6, .mv (.tmp 13)⟩])
  (.seq (.rg [⟨none, some 14, .load (.tmp 2)⟩,
    ⟨none, some 15, .mv (.tmp 0)⟩,
    ⟨none, some 16, .bin .add (.tmp 14) (.tmp 15)⟩,
    ⟨none, none, .store 1 (.tmp 2) (.tmp 16)⟩])
  (.seq (.rg [⟨none, some 17, .mv (.tmp 5)⟩,
    ⟨none, some 18, .conv .i64 (.tmp 17)⟩,
    ⟨none, some 4, .mv (.tmp 18)⟩])
  (.ret))))
theorem ac54_ok (q : Option (Nat × Nat)) : compF Go.Proofs.Try.prog Go.Proofs.Try.f54 (ac54 q) = some (ac54 q, [.tmp 4]) := by kernel_rfl
def ac56 (q : Option (Nat × Nat)) : AC := .seq (.rg [⟨none, some 2, .mv (.const (.bool false))⟩])
  (.seq (.rg [⟨none, some 3, .mv (.tmp 0)⟩,
    ⟨none, some 4, .bin .lss (.tmp 3) (.const (.int .i64 0))⟩,
    ⟨none, some 5, .mv (.tmp 4)⟩,
    ⟨some (5, false), some 6, .mv (.tmp 0)⟩,
    ⟨some (5, false), some 7, .bin .gtr (.tmp 6) (.const (.int .i64 16777215))⟩,
    ⟨none, some 8, .pick (.tmp 5) (.const (.bool true)) (.tmp 7)⟩,
    ⟨none, some 2, .mv (.tmp 8)⟩])
  (.ret))
theorem ac56_ok (q : Option (Nat × Nat)) : compF Go.Proofs.Try.prog Go.Proofs.Try.f56 (ac56 q) = some (ac56 q, [.tmp 2]) := by kernel_rfl
def ac57_L0 (q : Option (Nat × Nat)) : AC := .seq (.seq (.rg [⟨none, some 11, .mv (.tmp 5)⟩,
    ⟨none, some 12, .mv (.tmp 0)⟩,
    ⟨none, some 13, .len (.tmp 12)⟩,
    ⟨none, some 14, .bin .lss (.tmp 11) (.tmp 13)⟩])
  (.cond (.tmp 14) (.skip) (.exit 0)))
  (.seq (.blk 1 (.seq (.dr [(false, [(0, 0), (1, 0), (2, 0), (3, 0), (4, 0), (5, 0), (6, 0), (7, 0)], [⟨none, some 17, .mv (.tmp 0)⟩,
    ⟨none, some 18, .mv (.tmp 5)⟩,
    ⟨none, some 19, .idx 1 (.tmp 17) (.tmp 18)⟩,
    ⟨none, some 20, .load (.tmp 19)⟩,
    ⟨none, some 21, .mv (.tmp 1)⟩,
    ⟨none, some 22, .mv (.tmp 5)⟩,
    ⟨none, some 23, .idx 1 (.tmp 21) (.tmp 22)⟩,
    ⟨none, some 24, .load (.tmp 23)⟩]),
   (true, [(8, 0)], [⟨none, some 25, .bin .neq (.tmp 20) (.tmp 24)⟩])])
  (.cond (.tmp 25) (.seq (.rg [⟨none, some 4, .mv (.const (.bool false))⟩])
  (.ret)) (.skip))))
  (.rg [⟨none, some 15, .mv (.tmp 5)⟩,
    ⟨none, some 16, .bin .add (.tmp 15) (.const (.int .i64 1))⟩,
    ⟨none, some 5, .mv (.tmp 16)⟩]))
def ac57 (q : Option (Nat × Nat)) : AC := .seq (.rg [⟨none, some 4, .mv (.const (.bool false))⟩])
  (.seq (.seq (.rg [⟨none, some 6, .mv (.tmp 0)⟩,
    ⟨none, some 7, .len (.tmp 6)⟩,
    ⟨none, some 8, .mv (.tmp 1)⟩,
    ⟨none, some 9, .len (.tmp 8)⟩,
    ⟨none, some 10, .bin .neq (.tmp 7) (.tmp 9)⟩])
  (.cond (.tmp 10) (.seq (.rg [⟨none, some 4, .mv (.const (.bool false))⟩])
  (.ret)) (.skip)))
  (.seq (.seq (.rg [⟨none, some 5, .mv (.const (.int .i64 0))⟩])
  (.blk 0 (.loop q [0, 1, 5] (ac57_L0 q))))
  (.seq (.rg [⟨none, some 4, .mv (.const (.bool true))⟩])
  (.ret))))
theorem ac57_ok (q : Option (Nat × Nat)) : compF Go.Proofs.Try.prog Go.Proofs.Try.f57 (ac57 q) = some (ac57 q, [.tmp 4]) := by kernel_rfl
def ac59 (q : Option (Nat × Nat)) : AC := .seq (.rg [⟨none, some 3, .box 3 (.tmp 1)⟩,
    ⟨none, some 4, .mv (.const (.map none))⟩])
  (.seq (.rg [⟨none, some 6, .mv (.tmp 0)⟩,
    ⟨none, some 7, .nilck (.tmp 6)⟩,
    ⟨none, some 8, .fieldA 2 (.tmp 7)⟩,
    ⟨none, some 9, .load (.tmp 8)⟩,
    ⟨none, some 10, .call 67 [.tmp 9]⟩,
    ⟨none, some 5, .mv (.tmp 10)⟩])
  (.seq (.rg [⟨none, some 11, .mv (.tmp 5)⟩,
    ⟨none, some 12, .mkfn (.func 69) [] [.tmp 3]⟩,
    ⟨none, some 13, .call 68 [.tmp 11, .tmp 12]⟩])
  (.seq (.rg [⟨none, some 14, .mv (.tmp 5)⟩,
    ⟨none, some 4, .mv (.tmp 14)⟩])
  (.ret))))
theorem ac59_ok (q : Option (Nat × Nat)) : compF Go.Proofs.Try.prog Go.Proofs.Try.f59 (ac59 q) = some (ac59 q, [.tmp 4]) := by kernel_rfl
def ac60 (q : Option (Nat × Nat)) : AC := .seq (.rg [⟨none, some 2, .mv (.const (.slice none 0 0))⟩])
  (.seq (.rg [⟨none, some 3, .mv (.tmp 0)⟩,
    ⟨none, some 4, .call 70 [.const (.slice none 0 0), .tmp 3]⟩,
    ⟨none, some 2, .mv (.tmp 4)⟩])
  (.ret))
theorem ac60_ok (q : Option (Nat × Nat)) : compF Go.Proofs.Try.prog Go.Proofs.Try.f60 (ac60 q) = some (ac60 q, [.tmp 2]) := by kernel_rfl
def ac61 (q : Option (Nat × Nat)) : AC := .seq (.rg [⟨none, some 3, .mv (.tmp 0)⟩,
    ⟨none, some 4, .len (.tmp 3)⟩,
    ⟨none, some 2, .mv (.tmp 4)⟩])
  (.rg [⟨none, some 5, .mv (.tmp 0)⟩,
    ⟨none, some 6, .mv (.tmp 2)⟩,
    ⟨none, some 7, .mv (.tmp 2)⟩,
    ⟨none, some 8, .conv .u64 (.tmp 7)⟩,
    ⟨none, some 9, .call 72 [.tmp 8]⟩,
    ⟨none, some 10, .call 71 [.tmp 5, .const (.int .i64 0), .tmp 6, .tmp 9]⟩])
theorem ac61_ok (q : Option (Nat × Nat)) : compF Go.Proofs.Try.prog Go.Proofs.Try.f61 (ac61 q) = some (ac61 q, []) := by kernel_rfl
def ac62_L0 (q : Option (Nat × Nat)) : AC := .seq (.rg [⟨none, some 6, .mop (.nxt 0 5 (.tmp 5))⟩,
    ⟨none, some 7, .extract (.tmp 6) 0⟩])
  (.seq (.cond (.tmp 7) (.skip) (.exit 0))
  (.blk 1 (.seq (.rg [⟨none, some 8, .mop (.ent 0 5 (.tmp 5))⟩,
    ⟨none, some 9, .extract (.tmp 8) 0⟩,
    ⟨none, some 3, .mv (.tmp 9)⟩])
  (.iy 2 [⟨none, some 10, .mv (.tmp 0)⟩,
    ⟨none, some 11, .mv (.tmp 3)⟩,
    ⟨none, some 12, .callv (.tmp 10) [.tmp 11]⟩,
    ⟨none, some 13, .un .not (.tmp 12)⟩] (.tmp 13) (.ret) (.skip)))))
def ac62 (q : Option (Nat × Nat)) : AC := .seq (.rg [⟨none, some 4, .load (.tmp 1)⟩,
    ⟨none, some 5, .mop (.rng 0 5 (.tmp 4))⟩])
  (.blk 0 (.loop q [0, 5] (ac62_L0 q)))
theorem ac62_ok (q : Option (Nat × Nat)) : compF Go.Proofs.Try.prog Go.Proofs.Try.f62 (ac62 q) = some (ac62 q, []) := by kernel_rfl
def ac63 (q : Option (Nat × Nat)) : AC := .seq (.rg [⟨none, some 6, .mv (.const (.int .i64 0))⟩])
  (.seq (.seq (.rg [⟨none, some 8, .mv (.tmp 0)⟩,
    ⟨none, some 9, .bslice false 54 1 1 [.p (.sl (some true) 0 [])] [(0, 1, .tmp 8)]⟩,
    ⟨none, some 10, .call 66 [.tmp 9]⟩,
    ⟨none, some 7, .mv (.tmp 10)⟩])
  (.blk 0 (.seq (.rg [⟨none, some 12, .mv (.tmp 7)⟩,
    ⟨none, some 13, .bin .neq (.tmp 12) (.const (.int .i64 0))⟩,
    ⟨none, some 11, .mv (.tmp 13)⟩])
  (.cond (.tmp 11) (.seq (.rg [⟨none, some 14, .mv (.tmp 7)⟩,
    ⟨none, some 6, .mv (.tmp 14)⟩])
  (.ret)) (.seq (.rg [⟨none, some 16, .mv (.tmp 2)⟩,
    ⟨none, some 17, .bin .lss (.tmp 16) (.const (.int .i64 0))⟩,
    ⟨none, some 18, .mv (.tmp 17)⟩,
    ⟨some (18, false), some 19, .mv (.tmp 2)⟩,
    ⟨some (18, false), some 20, .bin .gtr (.tmp 19) (.const (.int .i64 64))⟩,
    ⟨none, some 21, .pick (.tmp 18) (.const (.bool true)) (.tmp 20)⟩,
    ⟨none, some 15, .mv (.tmp 21)⟩])
  (.cond (.tmp 15) (.seq (.rg [⟨none, some 6, .mv (.const (.int .i64 1))⟩])
  (.ret)) (.seq (.rg [⟨none, some 23, .mv (.tmp 1)⟩,
    ⟨none, some 24, .bin .lss (.tmp 23) (.const (.int .i64 0))⟩,
    ⟨none, some 25, .mv (.tmp 24)⟩,
    ⟨some (25, false), some 26, .mv (.tmp 1)⟩,
    ⟨some (25, false), some 27, .mv (.tmp 0)⟩,
    ⟨some (25, false), some 28, .len (.tmp 27)⟩,
    ⟨some (25, false), some 29, .mv (.tmp 2)⟩,
    ⟨some (25, false), some 30, .bin .sub (.tmp 28) (.tmp 29)⟩,
    ⟨some (25, false), some 31, .bin .gtr (.tmp 26) (.tmp 30)⟩,
    ⟨none, some 32, .pick (.tmp 25) (.const (.bool true)) (.tmp 31)⟩,
    ⟨none, some 22, .mv (.tmp 32)⟩])
  (.cond (.tmp 22) (.seq (.rg [⟨none, some 6, .mv (.const (.int .i64 8))⟩])
  (.ret)) (.skip)))))))))
  (.seq (.rg [⟨none, some 6, .mv (.const (.int .i64 0))⟩])
  (.ret)))
theorem ac63_ok (q : Option (Nat × Nat)) : compF Go.Proofs.Try.prog Go.Proofs.Try.f63 (ac63 q) = some (ac63 q, [.tmp 6]) := by kernel_rfl
def ac64 (q : Option (Nat × Nat)) : AC := .seq (.rg [⟨none, some 2, .mv (.const (.slice none 0 0))⟩])
  (.seq (.seq (.rg [⟨none, some 3, .mv (.tmp 0)⟩,
    ⟨none, some 4, .eqN false (.tmp 3) (.const (.slice none 0 0))⟩])
  (.cond (.tmp 4) (.seq (.rg [⟨none, some 2, .mv (.const (.slice none 0 0))⟩])
  (.ret)) (.skip)))
  (.seq (.rg [⟨none, some 5, .bsliceM 5 0 1 [.p (.v (.int .u8 0))] []⟩,
    ⟨none, some 6, .mv (.tmp 0)⟩,
    ⟨none, some 7, .append 5 1 1 (.tmp 5) (.tmp 6)⟩,
    ⟨none, some 2, .mv (.tmp 7)⟩])
  (.ret)))
theorem ac64_ok (q : Option (Nat × Nat)) : compF Go.Proofs.Try.prog Go.Proofs.Try.f64 (ac64 q) = some (ac64 q, [.tmp 2]) := by kernel_rfl
def ac65 (q : Option (Nat × Nat)) : AC := .seq (.rg [⟨none, some 2, .box 3 (.tmp 0)⟩,
    ⟨none, some 3, .box 3 (.tmp 1)⟩,
    ⟨none, some 4, .mv (.const .nilFunc)⟩])
  (.seq (.rg [⟨none, some 5, .mkfn (.func 73) [] [.tmp 3, .tmp 2]⟩,
    ⟨none, some 4, .mv (.tmp 5)⟩])
  (.ret))
theorem ac65_ok (q : Option (Nat × Nat)) : compF Go.Proofs.Try.prog Go.Proofs.Try.f65 (ac65 q) = some (ac65 q, [.tmp 4]) := by kernel_rfl
def ac66_L0 (q : Option (Nat × Nat)) : AC := .seq (.rg [⟨none, some 8, .bin .lss (.tmp 7) (.tmp 6)⟩])
  (.seq (.cond (.tmp 8) (.skip) (.exit 0))
  (.seq (.blk 1 (.seq (.rg [⟨none, some 9, .idx 1 (.tmp 5) (.tmp 7)⟩,
    ⟨none, some 10, .load (.tmp 9)⟩,
    ⟨none, some 4, .mv (.tmp 10)⟩])
  (.seq (.seq (.rg [⟨none, some 11, .mv (.tmp 4)⟩,
    ⟨none, some 12, .len (.tmp 11)⟩,
    ⟨none, some 13, .bin .gtr (.tmp 12) (.const (.int .i64 128))⟩])
  (.cond (.tmp 13) (.seq (.rg [⟨none, some 2, .mv (.const (.int .i64 4))⟩])
  (.ret)) (.skip)))
  (.seq (.rg [⟨none, some 14, .mv (.tmp 4)⟩,
    ⟨none, some 15, .call 74 [.tmp 14, .func 75]⟩])
  (.cond (.tmp 15) (.seq (.rg [⟨none, some 2, .mv (.const (.int .i64 1))⟩])
  (.ret)) (.skip))))))
  (.rg [⟨none, some 16, .bin .add (.tmp 7) (.const (.int .i64 1))⟩,
    ⟨none, some 7, .mv (.tmp 16)⟩])))
def ac66 (q : Option (Nat × Nat)) : AC := .seq (.rg [⟨none, some 2, .mv (.const (.int .i64 0))⟩])
  (.seq (.seq (.rg [⟨none, some 5, .mv (.tmp 0)⟩,
    ⟨none, some 6, .len (.tmp 5)⟩,
    ⟨none, some 7, .mv (.const (.int .i64 0))⟩])
  (.blk 0 (.loop q [5, 6, 7] (ac66_L0 q))))
  (.seq (.rg [⟨none, some 2, .mv (.const (.int .i64 0))⟩])
  (.ret)))
theorem ac66_ok (q : Option (Nat × Nat)) : compF Go.Proofs.Try.prog Go.Proofs.Try.f66 (ac66 q) = some (ac66 q, [.tmp 2]) := by kernel_rfl
def ac67 (q : Option (Nat × Nat)) : AC := .seq (.rg [⟨none, some 2, .mv (.const (.map none))⟩])
  (.seq (.seq (.rg [⟨none, some 3, .mv (.tmp 0)⟩,
    ⟨none, some 4, .mop (.eqN false (.tmp 3) (.const (.map none)))⟩])
  (.cond (.tmp 4) (.seq (.rg [⟨none, some 2, .mv (.const (.map none))⟩])
  (.ret)) (.skip)))
  (.seq (.rg [⟨none, some 5, .mv (.tmp 0)⟩,
    ⟨none, some 6, .mkifc 76 (.tmp 5)⟩,
    ⟨none, some 7, .call 76 [.tmp 6]⟩,
    ⟨none, some 8, .tassert 76 false (.tmp 7)⟩,
    ⟨none, some 2, .mv (.tmp 8)⟩])
  (.ret)))
theorem ac67_ok (q : Option (Nat × Nat)) : compF Go.Proofs.Try.prog Go.Proofs.Try.f67 (ac67 q) = some (ac67 q, [.tmp 2]) := by kernel_rfl
def ac68_L0 (q : Option (Nat × Nat)) : AC := .seq (.rg [⟨none, some 8, .mop (.nxt 0 5 (.tmp 7))⟩,
    ⟨none, some 9, .extract (.tmp 8) 0⟩])
  (.seq (.cond (.tmp 9) (.skip) (.exit 0))
  (.blk 1 (.seq (.rg [⟨none, some 10, .mop (.ent 0 5 (.tmp 7))⟩,
    ⟨none, some 11, .extract (.tmp 10) 0⟩,
    ⟨none, some 12, .extract (.tmp 10) 1⟩,
    ⟨none, some 5, .alloc 50 [.p (.v (.int .i64 0)), .p (.v (.int .u8 0)), .p (.v (.int .i64 0)), .p (.v (.int .i64 0))]⟩,
    ⟨none, some 4, .mv (.tmp 11)⟩,
    ⟨none, none, .store 4 (.tmp 5) (.tmp 12)⟩])
  (.seq (.rg [⟨none, some 13, .mv (.tmp 1)⟩,
    ⟨none, some 14, .mv (.tmp 4)⟩,
    ⟨none, some 15, .loadA 4 (.tmp 5)⟩,
    ⟨none, some 16, .callv (.tmp 13) [.tmp 14, .tmp 15]⟩])
  (.cond (.tmp 16) (.rg [⟨none, some 17, .mv (.tmp 0)⟩,
    ⟨none, some 18, .mv (.tmp 4)⟩,
    ⟨none, none, .mop (.del 5 (.tmp 17) (.tmp 18))⟩]) (.skip))))))
def ac68 (q : Option (Nat × Nat)) : AC := .seq (.rg [⟨none, some 6, .mv (.tmp 0)⟩,
    ⟨none, some 7, .mop (.rng 0 5 (.tmp 6))⟩])
  (.blk 0 (.loop q [0, 1, 7] (ac68_L0 q)))
theorem ac68_ok (q : Option (Nat × Nat)) : compF Go.Proofs.Try.prog Go.Proofs.Try.f68 (ac68 q) = some (ac68 q, []) := by kernel_rfl
def ac69 (q : Option (Nat × Nat)) : AC := .seq (.rg [⟨none, some 4, .box 50 (.tmp 1)⟩,
    ⟨none, some 5, .mv (.const (.bool false))⟩])
  (.seq (.rg [⟨none, some 6, .fieldA 3 (.tmp 4)⟩,
    ⟨none, some 7, .load (.tmp 6)⟩,
    ⟨none, some 8, .load (.tmp 2)⟩,
    ⟨none, some 9, .bin .lss (.tmp 7) (.tmp 8)⟩,
    ⟨none, some 5, .mv (.tmp 9)⟩])
  (.ret))
theorem ac69_ok (q : Option (Nat × Nat)) : compF Go.Proofs.Try.prog Go.Proofs.Try.f69 (ac69 q) = some (ac69 q, [.tmp 5]) := by kernel_rfl
def ac71_L0 (q : Option (Nat × Nat)) : AC := .blk 1 (.seq (.rg [⟨none, some 19, .mv (.tmp 2)⟩,
    ⟨none, some 20, .mv (.tmp 1)⟩,
    ⟨none, some 21, .bin .sub (.tmp 19) (.tmp 20)⟩,
    ⟨none, some 10, .mv (.tmp 21)⟩])
  (.seq (.seq (.rg [⟨none, some 22, .mv (.tmp 10)⟩,
    ⟨none, some 23, .bin .leq (.tmp 22) (.const (.int .i64 12))⟩])
  (.cond (.tmp 23) (.seq (.rg [⟨none, some 24, .mv (.tmp 0)⟩,
    ⟨none, some 25, .mv (.tmp 1)⟩,
    ⟨none, some 26, .mv (.tmp 2)⟩,
    ⟨none, some 27, .call 77 [.tmp 24, .tmp 25, .tmp 26]⟩])
  (.ret)) (.skip)))
  (.seq (.seq (.rg [⟨none, some 28, .mv (.tmp 3)⟩,
    ⟨none, some 29, .bin .eql (.tmp 28) (.const (.int .i64 0))⟩])
  (.cond (.tmp 29) (.seq (.rg [⟨none, some 30, .mv (.tmp 0)⟩,
    ⟨none, some 31, .mv (.tmp 1)⟩,
    ⟨none, some 32, .mv (.tmp 2)⟩,
    ⟨none, some 33, .call 78 [.tmp 30, .tmp 31, .tmp 32]⟩])
  (.ret)) (.skip)))
  (.seq (.seq (.rg [⟨none, some 34, .mv (.tmp 8)⟩,
    ⟨none, some 35, .un .not (.tmp 34)⟩])
  (.cond (.tmp 35) (.seq (.rg [⟨none, some 36, .mv (.tmp 0)⟩,
    ⟨none, some 37, .mv (.tmp 1)⟩,
    ⟨none, some 38, .mv (.tmp 2)⟩,
    ⟨none, some 39, .call 79 [.tmp 36, .tmp 37, .tmp 38]⟩])
  (.rg [⟨none, some 40, .mv (.tmp 3)⟩,
    ⟨none, some 41, .bin .sub (.tmp 40) (.const (.int .i64 1))⟩,
    ⟨none, some 3, .mv (.tmp 41)⟩])) (.skip)))
  (.seq (.rg [⟨none, some 43, .mv (.tmp 0)⟩,
    ⟨none, some 44, .mv (.tmp 1)⟩,
    ⟨none, some 45, .mv (.tmp 2)⟩,
    ⟨none, some 46, .call 80 [.tmp 43, .tmp 44, .tmp 45]⟩,
    ⟨none, some 42, .mv (.tmp 46)⟩,
    ⟨none, some 47, .extract (.tmp 42) 0⟩,
    ⟨none, some 48, .extract (.tmp 42) 1⟩,
    ⟨none, some 11, .mv (.tmp 47)⟩,
    ⟨none, some 12, .mv (.tmp 48)⟩])
  (.seq (.seq (.rg [⟨none, some 49, .mv (.tmp 12)⟩,
    ⟨none, some 50, .bin .eql (.tmp 49) (.const (.int .i64 2))⟩])
  (.cond (.tmp 50) (.seq (.rg [⟨none, some 51, .mv (.tmp 0)⟩,
    ⟨none, some 52, .mv (.tmp 1)⟩,
    ⟨none, some 53, .mv (.tmp 2)⟩,
    ⟨none, some 54, .call 81 [.tmp 51, .tmp 52, .tmp 53]⟩])
  (.seq (.rg [⟨none, some 55, .mv (.tmp 2)⟩,
    ⟨none, some 56, .bin .sub (.tmp 55) (.const (.int .i64 1))⟩,
    ⟨none, some 57, .mv (.tmp 11)⟩,
    ⟨none, some 58, .mv (.tmp 1)⟩,
    ⟨none, some 59, .bin .sub (.tmp 57) (.tmp 58)⟩,
    ⟨none, some 60, .bin .sub (.tmp 56) (.tmp 59)⟩,
    ⟨none, some 11, .mv (.tmp 60)⟩])
  (.rg [⟨none, some 12, .mv (.const (.int .i64 1))⟩]))) (.skip)))
  (.seq (.seq (.rg [⟨none, some 61, .mv (.tmp 8)⟩,
    ⟨none, some 62, .mv (.tmp 61)⟩,
    ⟨some (62, true), some 63, .mv (.tmp 9)⟩,
    ⟨none, some 64, .pick (.tmp 62) (.tmp 63) (.const (.bool false))⟩,
    ⟨none, some 65, .mv (.tmp 64)⟩,
    ⟨some (65, true), some 66, .mv (.tmp 12)⟩,
    ⟨some (65, true), some 67, .bin .eql (.tmp 66) (.const (.int .i64 1))⟩,
    ⟨none, some 68, .pick (.tmp 65) (.tmp 67) (.const (.bool false))⟩])
  (.cond (.tmp 68) (.seq (.rg [⟨none, some 69, .mv (.tmp 0)⟩,
    ⟨none, some 70, .mv (.tmp 1)⟩,
    ⟨none, some 71, .mv (.tmp 2)⟩,
    ⟨none, some 72, .call 82 [.tmp 69, .tmp 70, .tmp 71]⟩])
  (.cond (.tmp 72) (.ret) (.skip))) (.skip)))
  (.seq (.seq (.dr [(true, [(0, 0), (1, 0), (2, 0)], [⟨none, some 73, .mv (.tmp 1)⟩,
    ⟨none, some 74, .bin .gtr (.tmp 73) (.const (.int .i64 0))⟩,
    ⟨none, some 75, .mv (.tmp 74)⟩]),
   (false, [(3, 0), (4, 0), (5, 0), (6, 0), (7, 0), (8, 0), (9, 0), (10, 0), (11, 0)], [⟨some (75, true), some 76, .mv (.tmp 0)⟩,
    ⟨some (75, true), some 77, .mv (.tmp 1)⟩,
    ⟨some (75, true), some 78, .bin .sub (.tmp 77) (.const (.int .i64 1))⟩,
    ⟨some (75, true), some 79, .idx 1 (.tmp 76) (.tmp 78)⟩,
    ⟨some (75, true), some 80, .load (.tmp 79)⟩,
    ⟨some (75, true), some 81, .mv (.tmp 0)⟩,
    ⟨some (75, true), some 82, .mv (.tmp 11)⟩,
    ⟨some (75, true), some 83, .idx 1 (.tmp 81) (.tmp 82)⟩,
    ⟨some (75, true), some 84, .load (.tmp 83)⟩]),
   (true, [(12, 0), (13, 0), (14, 0)], [⟨some (75, true), some 85, .call 83 [.tmp 80, .tmp 84]⟩,
    ⟨some (75, true), some 86, .un .not (.tmp 85)⟩,
    ⟨none, some 87, .pick (.tmp 75) (.tmp 86) (.const (.bool false))⟩])])
  (.cond (.tmp 87) (.seq (.rg [⟨none, some 88, .mv (.tmp 0)⟩,
    ⟨none, some 89, .mv (.tmp 1)⟩,
    ⟨none, some 90, .mv (.tmp 2)⟩,
    ⟨none, some 91, .mv (.tmp 11)⟩,
    ⟨none, some 92, .call 84 [.tmp 88, .tmp 89, .tmp 90, .tmp 91]⟩,
    ⟨none, some 13, .mv (.tmp 92)⟩])
  (.seq (.rg [⟨none, some 93, .mv (.tmp 13)⟩,
    ⟨none, some 1, .mv (.tmp 93)⟩])
  (.exit 1))) (.skip)))
  (.seq (.rg [⟨none, some 95, .mv (.tmp 0)⟩,
    ⟨none, some 96, .mv (.tmp 1)⟩,
    ⟨none, some 97, .mv (.tmp 2)⟩,
    ⟨none, some 98, .mv (.tmp 11)⟩,
    ⟨none, some 99, .call 85 [.tmp 95, .tmp 96, .tmp 97, .tmp 98]⟩,
    ⟨none, some 94, .mv (.tmp 99)⟩,
    ⟨none, some 100, .extract (.tmp 94) 0⟩,
    ⟨none, some 101, .extract (.tmp 94) 1⟩,
    ⟨none, some 14, .mv (.tmp 100)⟩,
    ⟨none, some 15, .mv (.tmp 101)⟩])
  (.seq (.rg [⟨none, some 102, .mv (.tmp 15)⟩,
    ⟨none, some 9, .mv (.tmp 102)⟩])
  (.seq (.rg [⟨none, some 103, .mv (.tmp 14)⟩,
    ⟨none, some 104, .mv (.tmp 1)⟩,
    ⟨none, some 105, .bin .sub (.tmp 103) (.tmp 104)⟩,
    ⟨none, some 106, .mv (.tmp 2)⟩,
    ⟨none, some 107, .mv (.tmp 14)⟩,
    ⟨none, some 108, .bin .sub (.tmp 106) (.tmp 107)⟩,
    ⟨none, some 16, .mv (.tmp 105)⟩,
    ⟨none, some 17, .mv (.tmp 108)⟩])
  (.seq (.rg [⟨none, some 109, .mv (.tmp 10)⟩,
    ⟨none, some 110, .bin .quo (.tmp 109) (.const (.int .i64 8))⟩,
    ⟨none, some 18, .mv (.tmp 110)⟩])
  (.seq (.rg [⟨none, some 111, .mv (.tmp 16)⟩,
    ⟨none, some 112, .mv (.tmp 17)⟩,
    ⟨none, some 113, .bin .lss (.tmp 111) (.tmp 112)⟩])
  (.cond (.tmp 113) (.seq (.rg [⟨none, some 114, .mv (.tmp 16)⟩,
    ⟨none, some 115, .mv (.tmp 18)⟩,
    ⟨none, some 116, .bin .geq (.tmp 114) (.tmp 115)⟩,
    ⟨none, some 8, .mv (.tmp 116)⟩])
  (.seq (.rg [⟨none, some 117, .mv (.tmp 0)⟩,
    ⟨none, some 118, .mv (.tmp 1)⟩,
    ⟨none, some 119, .mv (.tmp 14)⟩,
    ⟨none, some 120, .mv (.tmp 3)⟩,
    ⟨none, some 121, .call 71 [.tmp 117, .tmp 118, .tmp 119, .tmp 120]⟩])
  (.rg [⟨none, some 122, .mv (.tmp 14)⟩,
    ⟨none, some 123, .bin .add (.tmp 122) (.const (.int .i64 1))⟩,
    ⟨none, some 1, .mv (.tmp 123)⟩]))) (.seq (.rg [⟨none, some 124, .mv (.tmp 17)⟩,
    ⟨none, some 125, .mv (.tmp 18)⟩,
    ⟨none, some 126, .bin .geq (.tmp 124) (.tmp 125)⟩,
    ⟨none, some 8, .mv (.tmp 126)⟩])
  (.seq (.rg [⟨none, some 127, .mv (.tmp 0)⟩,
    ⟨none, some 128, .mv (.tmp 14)⟩,
    ⟨none, some 129, .bin .add (.tmp 128) (.const (.int .i64 1))⟩,
    ⟨none, some 130, .mv (.tmp 2)⟩,
    ⟨none, some 131, .mv (.tmp 3)⟩,
    ⟨none, some 132, .call 71 [.tmp 127, .tmp 129, .tmp 130, .tmp 131]⟩])
  (.rg [⟨none, some 133, .mv (.tmp 14)⟩,
    ⟨none, some 2, .mv (.tmp 133)⟩])))))))))))))))))
def ac71 (q : Option (Nat × Nat)) : AC := .seq (.rg [⟨none, some 8, .mv (.const (.bool true))⟩])
  (.seq (.rg [⟨none, some 9, .mv (.const (.bool true))⟩])
  (.blk 0 (.loop q [0, 1, 2, 3, 8, 9] (ac71_L0 q))))
theorem ac71_ok (q : Option (Nat × Nat)) : compF Go.Proofs.Try.prog Go.Proofs.Try.f71 (ac71 q) = some (ac71 q, []) := by kernel_rfl
def ac72 (q : Option (Nat × Nat)) : AC := .seq (.rg [⟨none, some 2, .mv (.const (.int .i64 0))⟩])
  (.seq (.cond (.const (.bool false)) (.seq (.rg [⟨none, some 3, .mv (.tmp 0)⟩,
    ⟨none, some 4, .conv .u32 (.tmp 3)⟩,
    ⟨none, some 5, .call 86 [.tmp 4]⟩,
    ⟨none, some 2, .mv (.tmp 5)⟩])
  (.ret)) (.skip))
  (.seq (.rg [⟨none, some 6, .mv (.tmp 0)⟩,
    ⟨none, some 7, .call 87 [.tmp 6]⟩,
    ⟨none, some 2, .mv (.tmp 7)⟩])
  (.ret)))
theorem ac72_ok (q : Option (Nat × Nat)) : compF Go.Proofs.Try.prog Go.Proofs.Try.f72 (ac72 q) = some (ac72 q, [.tmp 2]) := by kernel_rfl
def ac73_L0 (q : Option (Nat × Nat)) : AC := .seq (.rg [⟨none, some 7, .bin .lss (.tmp 6) (.tmp 5)⟩])
  (.seq (.cond (.tmp 7) (.skip) (.exit 0))
  (.seq (.blk 1 (.seq (.rg [⟨none, some 8, .mv (.tmp 6)⟩,
    ⟨none, some 4, .mv (.tmp 8)⟩])
  (.iy 8 [⟨none, some 9, .mv (.tmp 0)⟩,
    ⟨none, some 10, .load (.tmp 2)⟩,
    ⟨none, some 11, .load (.tmp 1)⟩,
    ⟨none, some 12, .bin .add (.tmp 10) (.tmp 11)⟩,
    ⟨none, some 13, .bin .sub (.tmp 12) (.const (.int .i64 1))⟩,
    ⟨none, some 14, .mv (.tmp 4)⟩,
    ⟨none, some 15, .bin .sub (.tmp 13) (.tmp 14)⟩,
    ⟨none, some 16, .mv (.tmp 4)⟩,
    ⟨none, some 17, .callv (.tmp 9) [.tmp 15, .tmp 16]⟩,
    ⟨none, some 18, .un .not (.tmp 17)⟩] (.tmp 18) (.ret) (.skip))))
  (.rg [⟨none, some 19, .bin .add (.tmp 6) (.const (.int .i64 1))⟩,
    ⟨none, some 6, .mv (.tmp 19)⟩])))
def ac73 (q : Option (Nat × Nat)) : AC := .seq (.rg [⟨none, some 5, .load (.tmp 1)⟩,
    ⟨none, some 6, .mv (.const (.int .i64 0))⟩])
  (.blk 0 (.loop q [0, 1, 2, 5, 6] (ac73_L0 q)))
theorem ac73_ok (q : Option (Nat × Nat)) : compF Go.Proofs.Try.prog Go.Proofs.Try.f73 (ac73 q) = some (ac73 q, []) := by kernel_rfl
def ac74 (q : Option (Nat × Nat)) : AC := .seq (.rg [⟨none, some 4, .mv (.const (.bool false))⟩])
  (.seq (.rg [⟨none, some 5, .mv (.tmp 0)⟩,
    ⟨none, some 6, .mv (.tmp 1)⟩,
    ⟨none, some 7, .call 88 [.tmp 5, .tmp 6]⟩,
    ⟨none, some 8, .bin .geq (.tmp 7) (.const (.int .i64 0))⟩,
    ⟨none, some 4, .mv (.tmp 8)⟩])
  (.ret))
theorem ac74_ok (q : Option (Nat × Nat)) : compF Go.Proofs.Try.prog Go.Proofs.Try.f74 (ac74 q) = some (ac74 q, [.tmp 4]) := by kernel_rfl
def ac75 (q : Option (Nat × Nat)) : AC := .seq (.rg [⟨none, some 2, .mv (.const (.bool false))⟩])
  (.seq (.rg [⟨none, some 3, .mv (.tmp 0)⟩,
    ⟨none, some 4, .bin .gtr (.tmp 3) (.const (.int .u8 1))⟩,
    ⟨none, some 2, .mv (.tmp 4)⟩])
  (.ret))
theorem ac75_ok (q : Option (Nat × Nat)) : compF Go.Proofs.Try.prog Go.Proofs.Try.f75 (ac75 q) = some (ac75 q, [.tmp 2]) := by kernel_rfl
def ac77_L0 (q : Option (Nat × Nat)) : AC := .seq (.seq (.dr [(false, [(0, 0), (1, 0)], [⟨none, some 16, .mv (.tmp 7)⟩,
    ⟨none, some 17, .mv (.tmp 1)⟩]),
   (true, [(2, 0), (3, 0)], [⟨none, some 18, .bin .gtr (.tmp 16) (.tmp 17)⟩,
    ⟨none, some 19, .mv (.tmp 18)⟩]),
   (false, [(4, 0), (5, 0), (6, 0), (7, 0), (8, 0), (9, 0), (10, 0), (11, 0), (12, 0)], [⟨some (19, true), some 20, .mv (.tmp 0)⟩,
    ⟨some (19, true), some 21, .mv (.tmp 7)⟩,
    ⟨some (19, true), some 22, .idx 1 (.tmp 20) (.tmp 21)⟩,
    ⟨some (19, true), some 23, .load (.tmp 22)⟩,
    ⟨some (19, true), some 24, .mv (.tmp 0)⟩,
    ⟨some (19, true), some 25, .mv (.tmp 7)⟩,
    ⟨some (19, true), some 26, .bin .sub (.tmp 25) (.const (.int .i64 1))⟩,
    ⟨some (19, true), some 27, .idx 1 (.tmp 24) (.tmp 26)⟩,
    ⟨some (19, true), some 28, .load (.tmp 27)⟩]),
   (true, [(13, 0), (14, 0)], [⟨some (19, true), some 29, .call 83 [.tmp 23, .tmp 28]⟩,
    ⟨none, some 30, .pick (.tmp 19) (.tmp 29) (.const (.bool false))⟩])])
  (.cond (.tmp 30) (.skip) (.exit 2)))
  (.seq (.blk 3 (.dr [(false, [(0, 0), (1, 0), (2, 0), (3, 0), (4, 0), (5, 0), (6, 0), (7, 0), (8, 0), (9, 0), (10, 0), (11, 0), (12, 0), (13, 0), (14, 0), (15, 1)], [⟨none, some 33, .mv (.tmp 0)⟩,
    ⟨none, some 34, .mv (.tmp 7)⟩,
    ⟨none, some 35, .mv (.tmp 0)⟩,
    ⟨none, some 36, .mv (.tmp 7)⟩,
    ⟨none, some 37, .bin .sub (.tmp 36) (.const (.int .i64 1))⟩,
    ⟨none, some 38, .mv (.tmp 0)⟩,
    ⟨none, some 39, .mv (.tmp 7)⟩,
    ⟨none, some 40, .bin .sub (.tmp 39) (.const (.int .i64 1))⟩,
    ⟨none, some 41, .idx 1 (.tmp 38) (.tmp 40)⟩,
    ⟨none, some 42, .load (.tmp 41)⟩,
    ⟨none, some 43, .mv (.tmp 0)⟩,
    ⟨none, some 44, .mv (.tmp 7)⟩,
    ⟨none, some 45, .idx 1 (.tmp 43) (.tmp 44)⟩,
    ⟨none, some 46, .load (.tmp 45)⟩,
    ⟨none, some 47, .idx 1 (.tmp 33) (.tmp 34)⟩,
    ⟨none, none, .store 1 (.tmp 47) (.tmp 42)⟩]),
   (true, [(16, 0), (17, 0)], [⟨none, some 48, .idx 1 (.tmp 35) (.tmp 37)⟩,
    ⟨none, none, .store 1 (.tmp 48) (.tmp 46)⟩])]))
  (.rg [⟨none, some 31, .mv (.tmp 7)⟩,
    ⟨none, some 32, .bin .sub (.tmp 31) (.const (.int .i64 1))⟩,
    ⟨none, some 7, .mv (.tmp 32)⟩]))
def ac77_L1 (q : Option (Nat × Nat)) : AC := .seq (.seq (.rg [⟨none, some 10, .mv (.tmp 6)⟩,
    ⟨none, some 11, .mv (.tmp 2)⟩,
    ⟨none, some 12, .bin .lss (.tmp 10) (.tmp 11)⟩])
  (.cond (.tmp 12) (.skip) (.exit 0)))
  (.seq (.blk 1 (.seq (.rg [⟨none, some 15, .mv (.tmp 6)⟩,
    ⟨none, some 7, .mv (.tmp 15)⟩])
  (.blk 2 (.loop q [0, 1, 2, 6, 7] (ac77_L0 q)))))
  (.rg [⟨none, some 13, .mv (.tmp 6)⟩,
    ⟨none, some 14, .bin .add (.tmp 13) (.const (.int .i64 1))⟩,
    ⟨none, some 6, .mv (.tmp 14)⟩]))
def ac77 (q : Option (Nat × Nat)) : AC := .seq (.rg [⟨none, some 8, .mv (.tmp 1)⟩,
    ⟨none, some 9, .bin .add (.tmp 8) (.const (.int .i64 1))⟩,
    ⟨none, some 6, .mv (.tmp 9)⟩])
  (.blk 0 (.loop q [0, 1, 2, 6] (ac77_L1 q)))
theorem ac77_ok (q : Option (Nat × Nat)) : compF Go.Proofs.Try.prog Go.Proofs.Try.f77 (ac77 q) = some (ac77 q, []) := by kernel_rfl
def ac78_L0 (q : Option (Nat × Nat)) : AC := .seq (.seq (.rg [⟨none, some 18, .mv (.tmp 9)⟩,
    ⟨none, some 19, .bin .geq (.tmp 18) (.const (.int .i64 0))⟩])
  (.cond (.tmp 19) (.skip) (.exit 0)))
  (.seq (.blk 1 (.rg [⟨none, some 22, .mv (.tmp 0)⟩,
    ⟨none, some 23, .mv (.tmp 9)⟩,
    ⟨none, some 24, .mv (.tmp 8)⟩,
    ⟨none, some 25, .mv (.tmp 6)⟩,
    ⟨none, some 26, .call 89 [.tmp 22, .tmp 23, .tmp 24, .tmp 25]⟩]))
  (.rg [⟨none, some 20, .mv (.tmp 9)⟩,
    ⟨none, some 21, .bin .sub (.tmp 20) (.const (.int .i64 1))⟩,
    ⟨none, some 9, .mv (.tmp 21)⟩]))
def ac78_L1 (q : Option (Nat × Nat)) : AC := .seq (.seq (.rg [⟨none, some 29, .mv (.tmp 10)⟩,
    ⟨none, some 30, .bin .geq (.tmp 29) (.const (.int .i64 0))⟩])
  (.cond (.tmp 30) (.skip) (.exit 2)))
  (.seq (.blk 3 (.seq (.dr [(false, [(0, 0), (1, 0), (2, 0), (3, 0), (4, 0), (5, 0), (6, 0), (7, 0), (8, 0), (9, 0), (10, 0), (11, 0), (12, 0), (13, 0), (14, 0), (15, 0), (16, 0), (17, 1)], [⟨none, some 33, .mv (.tmp 0)⟩,
    ⟨none, some 34, .mv (.tmp 6)⟩,
    ⟨none, some 35, .mv (.tmp 0)⟩,
    ⟨none, some 36, .mv (.tmp 6)⟩,
    ⟨none, some 37, .mv (.tmp 10)⟩,
    ⟨none, some 38, .bin .add (.tmp 36) (.tmp 37)⟩,
    ⟨none, some 39, .mv (.tmp 0)⟩,
    ⟨none, some 40, .mv (.tmp 6)⟩,
    ⟨none, some 41, .mv (.tmp 10)⟩,
    ⟨none, some 42, .bin .add (.tmp 40) (.tmp 41)⟩,
    ⟨none, some 43, .idx 1 (.tmp 39) (.tmp 42)⟩,
    ⟨none, some 44, .load (.tmp 43)⟩,
    ⟨none, some 45, .mv (.tmp 0)⟩,
    ⟨none, some 46, .mv (.tmp 6)⟩,
    ⟨none, some 47, .idx 1 (.tmp 45) (.tmp 46)⟩,
    ⟨none, some 48, .load (.tmp 47)⟩,
    ⟨none, some 49, .idx 1 (.tmp 33) (.tmp 34)⟩,
    ⟨none, none, .store 1 (.tmp 49) (.tmp 44)⟩]),
   (true, [(18, 0), (19, 0)], [⟨none, some 50, .idx 1 (.tmp 35) (.tmp 38)⟩,
    ⟨none, none, .store 1 (.tmp 50) (.tmp 48)⟩])])
  (.rg [⟨none, some 51, .mv (.tmp 0)⟩,
    ⟨none, some 52, .mv (.tmp 7)⟩,
    ⟨none, some 53, .mv (.tmp 10)⟩,
    ⟨none, some 54, .mv (.tmp 6)⟩,
    ⟨none, some 55, .call 89 [.tmp 51, .tmp 52, .tmp 53, .tmp 54]⟩])))
  (.rg [⟨none, some 31, .mv (.tmp 10)⟩,
    ⟨none, some 32, .bin .sub (.tmp 31) (.const (.int .i64 1))⟩,
    ⟨none, some 10, .mv (.tmp 32)⟩]))
def ac78 (q : Option (Nat × Nat)) : AC := .seq (.rg [⟨none, some 11, .mv (.tmp 1)⟩,
    ⟨none, some 6, .mv (.tmp 11)⟩])
  (.seq (.rg [⟨none, some 7, .mv (.const (.int .i64 0))⟩])
  (.seq (.rg [⟨none, some 12, .mv (.tmp 2)⟩,
    ⟨none, some 13, .mv (.tmp 1)⟩,
    ⟨none, some 14, .bin .sub (.tmp 12) (.tmp 13)⟩,
    ⟨none, some 8, .mv (.tmp 14)⟩])
  (.seq (.seq (.rg [⟨none, some 15, .mv (.tmp 8)⟩,
    ⟨none, some 16, .bin .sub (.tmp 15) (.const (.int .i64 1))⟩,
    ⟨none, some 17, .bin .quo (.tmp 16) (.const (.int .i64 2))⟩,
    ⟨none, some 9, .mv (.tmp 17)⟩])
  (.blk 0 (.loop q [0, 6, 7, 8, 9] (ac78_L0 q))))
  (.seq (.rg [⟨none, some 27, .mv (.tmp 8)⟩,
    ⟨none, some 28, .bin .sub (.tmp 27) (.const (.int .i64 1))⟩,
    ⟨none, some 10, .mv (.tmp 28)⟩])
  (.blk 2 (.loop q [0, 6, 7, 10] (ac78_L1 q)))))))
theorem ac78_ok (q : Option (Nat × Nat)) : compF Go.Proofs.Try.prog Go.Proofs.Try.f78 (ac78 q) = some (ac78 q, []) := by kernel_rfl
def ac79_L0 (q : Option (Nat × Nat)) : AC := .seq (.seq (.rg [⟨none, some 26, .mv (.tmp 9)⟩,
    ⟨none, some 27, .mv (.tmp 1)⟩,
    ⟨none, some 28, .mv (.tmp 6)⟩,
    ⟨none, some 29, .bin .quo (.tmp 28) (.const (.int .i64 4))⟩,
    ⟨none, some 30, .bin .mul (.tmp 29) (.const (.int .i64 2))⟩,
    ⟨none, some 31, .bin .add (.tmp 27) (.tmp 30)⟩,
    ⟨none, some 32, .bin .add (.tmp 31) (.const (.int .i64 1))⟩,
    ⟨none, some 33, .bin .leq (.tmp 26) (.tmp 32)⟩])
  (.cond (.tmp 33) (.skip) (.exit 0)))
  (.seq (.blk 1 (.seq (.rg [⟨none, some 36, .call 91 [.tmp 7]⟩,
    ⟨none, some 37, .mv (.tmp 8)⟩,
    ⟨none, some 38, .bin .sub (.tmp 37) (.const (.int .u64 1))⟩,
    ⟨none, some 39, .bin .and (.tmp 36) (.tmp 38)⟩,
    ⟨none, some 40, .conv .i64 (.tmp 39)⟩,
    ⟨none, some 10, .mv (.tmp 40)⟩])
  (.seq (.seq (.rg [⟨none, some 41, .mv (.tmp 10)⟩,
    ⟨none, some 42, .mv (.tmp 6)⟩,
    ⟨none, some 43, .bin .geq (.tmp 41) (.tmp 42)⟩])
  (.cond (.tmp 43) (.rg [⟨none, some 44, .mv (.tmp 10)⟩,
    ⟨none, some 45, .mv (.tmp 6)⟩,
    ⟨none, some 46, .bin .sub (.tmp 44) (.tmp 45)⟩,
    ⟨none, some 10, .mv (.tmp 46)⟩]) (.skip)))
  (.dr [(false, [(0, 0), (1, 0), (2, 0), (3, 0), (4, 0), (5, 0), (6, 0), (7, 0), (8, 0), (9, 0), (10, 0), (11, 0), (12, 0), (13, 0), (14, 0), (15, 0), (16, 0), (17, 1)], [⟨none, some 47, .mv (.tmp 0)⟩,
    ⟨none, some 48, .mv (.tmp 9)⟩,
    ⟨none, some 49, .mv (.tmp 0)⟩,
    ⟨none, some 50, .mv (.tmp 1)⟩,
    ⟨none, some 51, .mv (.tmp 10)⟩,
    ⟨none, some 52, .bin .add (.tmp 50) (.tmp 51)⟩,
    ⟨none, some 53, .mv (.tmp 0)⟩,
    ⟨none, some 54, .mv (.tmp 1)⟩,
    ⟨none, some 55, .mv (.tmp 10)⟩,
    ⟨none, some 56, .bin .add (.tmp 54) (.tmp 55)⟩,
    ⟨none, some 57, .idx 1 (.tmp 53) (.tmp 56)⟩,
    ⟨none, some 58, .load (.tmp 57)⟩,
    ⟨none, some 59, .mv (.tmp 0)⟩,
    ⟨none, some 60, .mv (.tmp 9)⟩,
    ⟨none, some 61, .idx 1 (.tmp 59) (.tmp 60)⟩,
    ⟨none, some 62, .load (.tmp 61)⟩,
    ⟨none, some 63, .idx 1 (.tmp 47) (.tmp 48)⟩,
    ⟨none, none, .store 1 (.tmp 63) (.tmp 58)⟩]),
   (true, [(18, 0), (19, 0)], [⟨none, some 64, .idx 1 (.tmp 49) (.tmp 52)⟩,
    ⟨none, none, .store 1 (.tmp 64) (.tmp 62)⟩])]))))
  (.rg [⟨none, some 34, .mv (.tmp 9)⟩,
    ⟨none, some 35, .bin .add (.tmp 34) (.const (.int .i64 1))⟩,
    ⟨none, some 9, .mv (.tmp 35)⟩]))
def ac79 (q : Option (Nat × Nat)) : AC := .seq (.rg [⟨none, some 11, .mv (.tmp 2)⟩,
    ⟨none, some 12, .mv (.tmp 1)⟩,
    ⟨none, some 13, .bin .sub (.tmp 11) (.tmp 12)⟩,
    ⟨none, some 6, .mv (.tmp 13)⟩])
  (.seq (.rg [⟨none, some 14, .mv (.tmp 6)⟩,
    ⟨none, some 15, .bin .geq (.tmp 14) (.const (.int .i64 8))⟩])
  (.cond (.tmp 15) (.seq (.rg [⟨none, some 16, .mv (.tmp 6)⟩,
    ⟨none, some 17, .conv .u64 (.tmp 16)⟩,
    ⟨none, some 7, .alloc 137 [.p (.v (.int .u64 0))]⟩,
    ⟨none, none, .store 1 (.tmp 7) (.tmp 17)⟩])
  (.seq (.rg [⟨none, some 18, .mv (.tmp 6)⟩,
    ⟨none, some 19, .call 90 [.tmp 18]⟩,
    ⟨none, some 8, .mv (.tmp 19)⟩])
  (.seq (.rg [⟨none, some 20, .mv (.tmp 1)⟩,
    ⟨none, some 21, .mv (.tmp 6)⟩,
    ⟨none, some 22, .bin .quo (.tmp 21) (.const (.int .i64 4))⟩,
    ⟨none, some 23, .bin .mul (.tmp 22) (.const (.int .i64 2))⟩,
    ⟨none, some 24, .bin .add (.tmp 20) (.tmp 23)⟩,
    ⟨none, some 25, .bin .sub (.tmp 24) (.const (.int .i64 1))⟩,
    ⟨none, some 9, .mv (.tmp 25)⟩])
  (.blk 0 (.loop q [0, 1, 6, 7, 8, 9] (ac79_L0 q)))))) (.skip)))
theorem ac79_ok (q : Option (Nat × Nat)) : compF Go.Proofs.Try.prog Go.Proofs.Try.f79 (ac79 q) = some (ac79 q, []) := by kernel_rfl
def ac80 (q : Option (Nat × Nat)) : AC := .seq (.rg [⟨none, some 6, .mv (.const (.int .i64 0))⟩,
    ⟨none, some 7, .mv (.const (.int .i64 0))⟩])
  (.seq (.rg [⟨none, some 13, .mv (.tmp 2)⟩,
    ⟨none, some 14, .mv (.tmp 1)⟩,
    ⟨none, some 15, .bin .sub (.tmp 13) (.tmp 14)⟩,
    ⟨none, some 8, .mv (.tmp 15)⟩])
  (.seq (.rg [⟨none, some 9, .alloc 3 [.p (.v (.int .i64 0))]⟩])
  (.seq (.rg [⟨none, some 16, .mv (.tmp 1)⟩,
    ⟨none, some 17, .mv (.tmp 8)⟩,
    ⟨none, some 18, .bin .quo (.tmp 17) (.const (.int .i64 4))⟩,
    ⟨none, some 19, .bin .mul (.tmp 18) (.const (.int .i64 1))⟩,
    ⟨none, some 20, .bin .add (.tmp 16) (.tmp 19)⟩,
    ⟨none, some 10, .mv (.tmp 20)⟩])
  (.seq (.rg [⟨none, some 21, .mv (.tmp 1)⟩,
    ⟨none, some 22, .mv (.tmp 8)⟩,
    ⟨none, some 23, .bin .quo (.tmp 22) (.const (.int .i64 4))⟩,
    ⟨none, some 24, .bin .mul (.tmp 23) (.const (.int .i64 2))⟩,
    ⟨none, some 25, .bin .add (.tmp 21) (.tmp 24)⟩,
    ⟨none, some 11, .mv (.tmp 25)⟩])
  (.seq (.rg [⟨none, some 26, .mv (.tmp 1)⟩,
    ⟨none, some 27, .mv (.tmp 8)⟩,
    ⟨none, some 28, .bin .quo (.tmp 27) (.const (.int .i64 4))⟩,
    ⟨none, some 29, .bin .mul (.tmp 28) (.const (.int .i64 3))⟩,
    ⟨none, some 30, .bin .add (.tmp 26) (.tmp 29)⟩,
    ⟨none, some 12, .mv (.tmp 30)⟩])
  (.seq (.seq (.rg [⟨none, some 31, .mv (.tmp 8)⟩,
    ⟨none, some 32, .bin .geq (.tmp 31) (.const (.int .i64 8))⟩])
  (.cond (.tmp 32) (.seq (.seq (.rg [⟨none, some 33, .mv (.tmp 8)⟩,
    ⟨none, some 34, .bin .geq (.tmp 33) (.const (.int .i64 50))⟩])
  (.cond (.tmp 34) (.seq (.rg [⟨none, some 35, .mv (.tmp 0)⟩,
    ⟨none, some 36, .mv (.tmp 10)⟩,
    ⟨none, some 37, .call 92 [.tmp 35, .tmp 36, .tmp 9]⟩,
    ⟨none, some 10, .mv (.tmp 37)⟩])
  (.seq (.rg [⟨none, some 38, .mv (.tmp 0)⟩,
    ⟨none, some 39, .mv (.tmp 11)⟩,
    ⟨none, some 40, .call 92 [.tmp 38, .tmp 39, .tmp 9]⟩,
    ⟨none, some 11, .mv (.tmp 40)⟩])
  (.rg [⟨none, some 41, .mv (.tmp 0)⟩,
    ⟨none, some 42, .mv (.tmp 12)⟩,
    ⟨none, some 43, .call 92 [.tmp 41, .tmp 42, .tmp 9]⟩,
    ⟨none, some 12, .mv (.tmp 43)⟩]))) (.skip)))
  (.rg [⟨none, some 44, .mv (.tmp 0)⟩,
    ⟨none, some 45, .mv (.tmp 10)⟩,
    ⟨none, some 46, .mv (.tmp 11)⟩,
    ⟨none, some 47, .mv (.tmp 12)⟩,
    ⟨none, some 48, .call 93 [.tmp 44, .tmp 45, .tmp 46, .tmp 47, .tmp 9]⟩,
    ⟨none, some 11, .mv (.tmp 48)⟩])) (.skip)))
  (.seq (.rg [⟨none, some 49, .load (.tmp 9)⟩])
  (.blk 0 (.seq (.rg [⟨none, some 52, .bin .eql (.tmp 49) (.const (.int .i64 0))⟩,
    ⟨none, some 51, .mv (.tmp 52)⟩])
  (.cond (.tmp 51) (.seq (.rg [⟨none, some 53, .mv (.tmp 11)⟩,
    ⟨none, some 6, .mv (.tmp 53)⟩,
    ⟨none, some 7, .mv (.const (.int .i64 1))⟩])
  (.ret)) (.seq (.rg [⟨none, some 55, .bin .eql (.tmp 49) (.const (.int .i64 12))⟩,
    ⟨none, some 54, .mv (.tmp 55)⟩])
  (.cond (.tmp 54) (.seq (.rg [⟨none, some 56, .mv (.tmp 11)⟩,
    ⟨none, some 6, .mv (.tmp 56)⟩,
    ⟨none, some 7, .mv (.const (.int .i64 2))⟩])
  (.ret)) (.seq (.rg [⟨none, some 50, .mv (.tmp 11)⟩,
    ⟨none, some 6, .mv (.tmp 50)⟩,
    ⟨none, some 7, .mv (.const (.int .i64 0))⟩])
  (.ret))))))))))))))
theorem ac80_ok (q : Option (Nat × Nat)) : compF Go.Proofs.Try.prog Go.Proofs.Try.f80 (ac80 q) = some (ac80 q, [.tmp 6, .tmp 7]) := by kernel_rfl
end Go.Ab
