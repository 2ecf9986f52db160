/- The codes of functions of this seat, as annotated, compared with the program by the kernel. No conditions. -/
import Derived.Test.YtnfimkmjjjbopaaDoorProg
import Derived.Test.YtnfimkmjjjbopaaDoorAbE
import Derived.Test.YtnfimkmjjjbopaaDoorCod1
set_option linter.unusedVariables false
set_option linter.unusedSimpArgs false
namespace Go.Ab
/- clearway clearwaykit.CopyBits -/
def ac11 (q : Option (Nat × Nat)) : AC := .seq (.rg [⟨none, some 2, .mv (.const (.slice none 0 0))⟩])
  (.seq (.rg [⟨none, some 3, .mv (.tmp 0)⟩,
    ⟨none, some 4, .call 35 [.tmp 3]⟩,
    ⟨none, some 2, .mv (.tmp 4)⟩])
  (.ret))
theorem ac11_ok (q : Option (Nat × Nat)) : compF Go.Proofs.Tryd.prog Go.Proofs.Tryd.f11 (ac11 q) = some (ac11 q, [.tmp 2]) := by kernel_rfl

/- clearway clearwaykit.CopyTrains -/
def ac12_L0 (q : Option (Nat × Nat)) : AC := .seq (.seq (.rg [⟨none, some 5, .mv (.tmp 4)⟩,
    ⟨none, some 6, .mv (.tmp 0)⟩,
    ⟨none, some 7, .len (.tmp 6)⟩,
    ⟨none, some 8, .bin .lss (.tmp 5) (.tmp 7)⟩])
  (.cond (.tmp 8) (.skip) (.exit 0)))
  (.seq (.blk 1 (.rg [⟨none, some 11, .mv (.tmp 3)⟩,
    ⟨none, some 12, .mv (.tmp 0)⟩,
    ⟨none, some 13, .mv (.tmp 4)⟩,
    ⟨none, some 14, .idx 1 (.tmp 12) (.tmp 13)⟩,
    ⟨none, some 15, .load (.tmp 14)⟩,
    ⟨none, some 16, .call 24 [.tmp 15]⟩,
    ⟨none, some 17, .bslice false 30 1 1 [.p (.sl (some true) 0 [])] [(0, 1, .tmp 16)]⟩,
    ⟨none, some 18, .append 30 1 24 (.tmp 11) (.tmp 17)⟩,
    ⟨none, some 3, .mv (.tmp 18)⟩]))
  (.rg [⟨none, some 9, .mv (.tmp 4)⟩,
    ⟨none, some 10, .bin .add (.tmp 9) (.const (.int .i64 1))⟩,
    ⟨none, some 4, .mv (.tmp 10)⟩]))
def ac12 (q : Option (Nat × Nat)) : AC := .seq (.rg [⟨none, some 2, .mv (.const (.slice none 0 0))⟩])
  (.seq (.rg [⟨none, some 3, .mv (.const (.slice none 0 0))⟩])
  (.seq (.seq (.rg [⟨none, some 4, .mv (.const (.int .i64 0))⟩])
  (.blk 0 (.loop q [0, 3, 4] (ac12_L0 q))))
  (.seq (.rg [⟨none, some 19, .mv (.tmp 3)⟩,
    ⟨none, some 2, .mv (.tmp 19)⟩])
  (.ret))))
theorem ac12_ok (q : Option (Nat × Nat)) : compF Go.Proofs.Tryd.prog Go.Proofs.Tryd.f12 (ac12 q) = some (ac12 q, [.tmp 2]) := by kernel_rfl

/- clearway pulse.Make -/
def ac13_L0 (q : Option (Nat × Nat)) : AC := .seq (.rg [⟨none, some 26, .bin .lss (.tmp 25) (.tmp 24)⟩])
  (.seq (.cond (.tmp 26) (.skip) (.exit 0))
  (.seq (.blk 1 (.seq (.rg [⟨none, some 27, .mv (.tmp 25)⟩,
    ⟨none, some 28, .idx 1 (.tmp 23) (.tmp 25)⟩,
    ⟨none, some 29, .load (.tmp 28)⟩,
    ⟨none, some 6, .mv (.tmp 27)⟩,
    ⟨none, some 7, .mv (.tmp 29)⟩])
  (.rg [⟨none, some 30, .mv (.tmp 5)⟩,
    ⟨none, some 31, .mv (.tmp 6)⟩,
    ⟨none, some 32, .bin .mul (.const (.int .i64 2)) (.tmp 31)⟩,
    ⟨none, some 33, .bin .add (.const (.int .i64 16)) (.tmp 32)⟩,
    ⟨none, some 34, .bin .add (.tmp 33) (.const (.int .i64 1))⟩,
    ⟨none, some 35, .mv (.tmp 7)⟩,
    ⟨none, some 36, .conv .i64 (.tmp 35)⟩,
    ⟨none, some 37, .bin .sub (.tmp 34) (.tmp 36)⟩,
    ⟨none, some 38, .bslice false 3 1 1 [.p (.v (.int .i64 0))] [(0, 1, .tmp 37)]⟩,
    ⟨none, some 39, .append 3 1 8 (.tmp 30) (.tmp 38)⟩,
    ⟨none, some 5, .mv (.tmp 39)⟩])))
  (.rg [⟨none, some 40, .bin .add (.tmp 25) (.const (.int .i64 1))⟩,
    ⟨none, some 25, .mv (.tmp 40)⟩])))
def ac13 (q : Option (Nat × Nat)) : AC := .seq (.rg [⟨none, some 2, .mv (.const (.slice none 0 0))⟩,
    ⟨none, some 3, .mv (.const (.int .i64 0))⟩])
  (.seq (.seq (.rg [⟨none, some 8, .mv (.tmp 0)⟩,
    ⟨none, some 9, .call 36 [.tmp 8]⟩,
    ⟨none, some 4, .mv (.tmp 9)⟩])
  (.seq (.rg [⟨none, some 10, .mv (.tmp 4)⟩,
    ⟨none, some 11, .bin .neq (.tmp 10) (.const (.int .i64 0))⟩])
  (.cond (.tmp 11) (.seq (.rg [⟨none, some 12, .mv (.tmp 4)⟩,
    ⟨none, some 2, .mv (.const (.slice none 0 0))⟩,
    ⟨none, some 3, .mv (.tmp 12)⟩])
  (.ret)) (.skip))))
  (.seq (.seq (.rg [⟨none, some 13, .mv (.tmp 0)⟩,
    ⟨none, some 14, .len (.tmp 13)⟩,
    ⟨none, some 15, .bin .neq (.tmp 14) (.const (.int .i64 56))⟩,
    ⟨none, some 16, .mv (.tmp 15)⟩,
    ⟨some (16, true), some 17, .mv (.tmp 0)⟩,
    ⟨some (16, true), some 18, .len (.tmp 17)⟩,
    ⟨some (16, true), some 19, .bin .neq (.tmp 18) (.const (.int .i64 112))⟩,
    ⟨none, some 20, .pick (.tmp 16) (.tmp 19) (.const (.bool false))⟩])
  (.cond (.tmp 20) (.seq (.rg [⟨none, some 2, .mv (.const (.slice none 0 0))⟩,
    ⟨none, some 3, .mv (.const (.int .i64 2))⟩])
  (.ret)) (.skip)))
  (.seq (.rg [⟨none, some 21, .sliceA 4 1 (.global 0)⟩,
    ⟨none, some 22, .append 3 1 8 (.const (.slice none 0 0)) (.tmp 21)⟩,
    ⟨none, some 5, .mv (.tmp 22)⟩])
  (.seq (.seq (.rg [⟨none, some 23, .mv (.tmp 0)⟩,
    ⟨none, some 24, .len (.tmp 23)⟩,
    ⟨none, some 25, .mv (.const (.int .i64 0))⟩])
  (.blk 0 (.loop q [5, 23, 24, 25] (ac13_L0 q))))
  (.seq (.rg [⟨none, some 41, .mv (.tmp 5)⟩,
    ⟨none, some 2, .mv (.tmp 41)⟩,
    ⟨none, some 3, .mv (.const (.int .i64 0))⟩])
  (.ret))))))
theorem ac13_ok (q : Option (Nat × Nat)) : compF Go.Proofs.Tryd.prog Go.Proofs.Tryd.f13 (ac13 q) = some (ac13 q, [.tmp 2, .tmp 3]) := by kernel_rfl

/- clearway clearwayref10.Make -/
def ac14_L0 (q : Option (Nat × Nat)) : AC := .seq (.seq (.rg [⟨none, some 7, .mv (.tmp 4)⟩,
    ⟨none, some 8, .mv (.tmp 0)⟩,
    ⟨none, some 9, .len (.tmp 8)⟩,
    ⟨none, some 10, .bin .lss (.tmp 7) (.tmp 9)⟩,
    ⟨none, some 11, .mv (.tmp 10)⟩,
    ⟨some (11, true), some 12, .mv (.tmp 0)⟩,
    ⟨some (11, true), some 13, .len (.tmp 12)⟩,
    ⟨some (11, true), some 14, .bin .leq (.tmp 13) (.const (.int .i64 128))⟩,
    ⟨none, some 15, .pick (.tmp 11) (.tmp 14) (.const (.bool false))⟩])
  (.cond (.tmp 15) (.skip) (.exit 0)))
  (.seq (.blk 1 (.seq (.rg [⟨none, some 18, .mv (.tmp 0)⟩,
    ⟨none, some 19, .mv (.tmp 4)⟩,
    ⟨none, some 20, .idx 1 (.tmp 18) (.tmp 19)⟩,
    ⟨none, some 21, .load (.tmp 20)⟩,
    ⟨none, some 22, .bin .gtr (.tmp 21) (.const (.int .u8 1))⟩])
  (.cond (.tmp 22) (.seq (.rg [⟨none, some 2, .mv (.const (.slice none 0 0))⟩,
    ⟨none, some 3, .mv (.const (.int .i64 1))⟩])
  (.ret)) (.skip))))
  (.rg [⟨none, some 16, .mv (.tmp 4)⟩,
    ⟨none, some 17, .bin .add (.tmp 16) (.const (.int .i64 1))⟩,
    ⟨none, some 4, .mv (.tmp 17)⟩]))
def ac14_L1 (q : Option (Nat × Nat)) : AC := .seq (.seq (.rg [⟨none, some 35, .mv (.tmp 6)⟩,
    ⟨none, some 36, .mv (.tmp 0)⟩,
    ⟨none, some 37, .len (.tmp 36)⟩,
    ⟨none, some 38, .bin .lss (.tmp 35) (.tmp 37)⟩])
  (.cond (.tmp 38) (.skip) (.exit 2)))
  (.seq (.blk 3 (.rg [⟨none, some 41, .mv (.tmp 5)⟩,
    ⟨none, some 42, .mv (.tmp 6)⟩,
    ⟨none, some 43, .bin .mul (.const (.int .i64 2)) (.tmp 42)⟩,
    ⟨none, some 44, .bin .add (.const (.int .i64 17)) (.tmp 43)⟩,
    ⟨none, some 45, .mv (.tmp 0)⟩,
    ⟨none, some 46, .mv (.tmp 6)⟩,
    ⟨none, some 47, .idx 1 (.tmp 45) (.tmp 46)⟩,
    ⟨none, some 48, .load (.tmp 47)⟩,
    ⟨none, some 49, .conv .i64 (.tmp 48)⟩,
    ⟨none, some 50, .bin .sub (.tmp 44) (.tmp 49)⟩,
    ⟨none, some 51, .bslice false 3 1 1 [.p (.v (.int .i64 0))] [(0, 1, .tmp 50)]⟩,
    ⟨none, some 52, .append 3 1 8 (.tmp 41) (.tmp 51)⟩,
    ⟨none, some 5, .mv (.tmp 52)⟩]))
  (.rg [⟨none, some 39, .mv (.tmp 6)⟩,
    ⟨none, some 40, .bin .add (.tmp 39) (.const (.int .i64 1))⟩,
    ⟨none, some 6, .mv (.tmp 40)⟩]))
def ac14 (q : Option (Nat × Nat)) : AC := .seq (.rg [⟨none, some 2, .mv (.const (.slice none 0 0))⟩,
    ⟨none, some 3, .mv (.const (.int .i64 0))⟩])
  (.seq (.seq (.rg [⟨none, some 4, .mv (.const (.int .i64 0))⟩])
  (.blk 0 (.loop q [0, 4] (ac14_L0 q))))
  (.seq (.seq (.rg [⟨none, some 23, .mv (.tmp 0)⟩,
    ⟨none, some 24, .len (.tmp 23)⟩,
    ⟨none, some 25, .bin .gtr (.tmp 24) (.const (.int .i64 128))⟩])
  (.cond (.tmp 25) (.seq (.rg [⟨none, some 2, .mv (.const (.slice none 0 0))⟩,
    ⟨none, some 3, .mv (.const (.int .i64 4))⟩])
  (.ret)) (.skip)))
  (.seq (.seq (.rg [⟨none, some 26, .mv (.tmp 0)⟩,
    ⟨none, some 27, .len (.tmp 26)⟩,
    ⟨none, some 28, .bin .neq (.tmp 27) (.const (.int .i64 56))⟩,
    ⟨none, some 29, .mv (.tmp 28)⟩,
    ⟨some (29, true), some 30, .mv (.tmp 0)⟩,
    ⟨some (29, true), some 31, .len (.tmp 30)⟩,
    ⟨some (29, true), some 32, .bin .neq (.tmp 31) (.const (.int .i64 112))⟩,
    ⟨none, some 33, .pick (.tmp 29) (.tmp 32) (.const (.bool false))⟩])
  (.cond (.tmp 33) (.seq (.rg [⟨none, some 2, .mv (.const (.slice none 0 0))⟩,
    ⟨none, some 3, .mv (.const (.int .i64 2))⟩])
  (.ret)) (.skip)))
  (.seq (.rg [⟨none, some 34, .call 37 [.const (.int .i64 0)]⟩,
    ⟨none, some 5, .mv (.tmp 34)⟩])
  (.seq (.seq (.rg [⟨none, some 6, .mv (.const (.int .i64 0))⟩])
  (.blk 2 (.loop q [0, 5, 6] (ac14_L1 q))))
  (.seq (.rg [⟨none, some 53, .mv (.tmp 5)⟩,
    ⟨none, some 2, .mv (.tmp 53)⟩,
    ⟨none, some 3, .mv (.const (.int .i64 0))⟩])
  (.ret)))))))
theorem ac14_ok (q : Option (Nat × Nat)) : compF Go.Proofs.Tryd.prog Go.Proofs.Tryd.f14 (ac14 q) = some (ac14 q, [.tmp 2, .tmp 3]) := by kernel_rfl

/- clearway clearwayref10.Merge -/
def ac16_L0 (q : Option (Nat × Nat)) : AC := .seq (.seq (.rg [⟨none, some 13, .mv (.tmp 4)⟩,
    ⟨none, some 14, .mv (.tmp 0)⟩,
    ⟨none, some 15, .len (.tmp 14)⟩,
    ⟨none, some 16, .bin .lss (.tmp 13) (.tmp 15)⟩])
  (.cond (.tmp 16) (.skip) (.exit 0)))
  (.seq (.blk 1 (.seq (.rg [⟨none, some 19, .mv (.tmp 0)⟩,
    ⟨none, some 20, .mv (.tmp 4)⟩,
    ⟨none, some 21, .idx 1 (.tmp 19) (.tmp 20)⟩,
    ⟨none, some 22, .load (.tmp 21)⟩,
    ⟨none, some 23, .call 23 [.tmp 22]⟩,
    ⟨none, some 5, .mv (.tmp 23)⟩])
  (.seq (.rg [⟨none, some 24, .mv (.tmp 5)⟩,
    ⟨none, some 25, .bin .neq (.tmp 24) (.const (.int .i64 0))⟩])
  (.cond (.tmp 25) (.seq (.rg [⟨none, some 26, .mv (.tmp 5)⟩,
    ⟨none, some 2, .mv (.const (.slice none 0 0))⟩,
    ⟨none, some 3, .mv (.tmp 26)⟩])
  (.ret)) (.skip)))))
  (.rg [⟨none, some 17, .mv (.tmp 4)⟩,
    ⟨none, some 18, .bin .add (.tmp 17) (.const (.int .i64 1))⟩,
    ⟨none, some 4, .mv (.tmp 18)⟩]))
def ac16_L1 (q : Option (Nat × Nat)) : AC := .seq (.seq (.rg [⟨none, some 31, .mv (.tmp 9)⟩,
    ⟨none, some 32, .mv (.tmp 0)⟩,
    ⟨none, some 33, .len (.tmp 32)⟩,
    ⟨none, some 34, .bin .lss (.tmp 31) (.tmp 33)⟩])
  (.cond (.tmp 34) (.skip) (.exit 4)))
  (.seq (.blk 5 (.rg [⟨none, some 37, .mv (.tmp 8)⟩,
    ⟨none, some 38, .mv (.tmp 37)⟩,
    ⟨some (38, false), some 39, .mv (.tmp 0)⟩,
    ⟨some (38, false), some 40, .mv (.tmp 9)⟩,
    ⟨some (38, false), some 41, .idx 1 (.tmp 39) (.tmp 40)⟩,
    ⟨some (38, false), some 42, .load (.tmp 41)⟩,
    ⟨some (38, false), some 43, .mv (.tmp 7)⟩,
    ⟨some (38, false), some 44, .call 40 [.tmp 42, .tmp 43]⟩,
    ⟨none, some 45, .pick (.tmp 38) (.const (.bool true)) (.tmp 44)⟩,
    ⟨none, some 8, .mv (.tmp 45)⟩]))
  (.rg [⟨none, some 35, .mv (.tmp 9)⟩,
    ⟨none, some 36, .bin .add (.tmp 35) (.const (.int .i64 1))⟩,
    ⟨none, some 9, .mv (.tmp 36)⟩]))
def ac16_L2 (q : Option (Nat × Nat)) : AC := .seq (.seq (.rg [⟨none, some 27, .mv (.tmp 7)⟩,
    ⟨none, some 28, .bin .lss (.tmp 27) (.const (.int .i64 1024))⟩])
  (.cond (.tmp 28) (.skip) (.exit 2)))
  (.seq (.blk 3 (.seq (.rg [⟨none, some 8, .mv (.const (.bool false))⟩])
  (.seq (.seq (.rg [⟨none, some 9, .mv (.const (.int .i64 0))⟩])
  (.blk 4 (.loop q [0, 6, 7, 8, 9] (ac16_L1 q))))
  (.seq (.rg [⟨none, some 46, .mv (.tmp 8)⟩])
  (.cond (.tmp 46) (.rg [⟨none, some 47, .mv (.tmp 6)⟩,
    ⟨none, some 48, .mv (.tmp 7)⟩,
    ⟨none, some 49, .bslice false 3 1 1 [.p (.v (.int .i64 0))] [(0, 1, .tmp 48)]⟩,
    ⟨none, some 50, .append 3 1 8 (.tmp 47) (.tmp 49)⟩,
    ⟨none, some 6, .mv (.tmp 50)⟩]) (.skip))))))
  (.rg [⟨none, some 29, .mv (.tmp 7)⟩,
    ⟨none, some 30, .bin .add (.tmp 29) (.const (.int .i64 1))⟩,
    ⟨none, some 7, .mv (.tmp 30)⟩]))
def ac16 (q : Option (Nat × Nat)) : AC := .seq (.rg [⟨none, some 2, .mv (.const (.slice none 0 0))⟩,
    ⟨none, some 3, .mv (.const (.int .i64 0))⟩])
  (.seq (.seq (.rg [⟨none, some 10, .mv (.tmp 0)⟩,
    ⟨none, some 11, .len (.tmp 10)⟩,
    ⟨none, some 12, .bin .gtr (.tmp 11) (.const (.int .i64 8))⟩])
  (.cond (.tmp 12) (.seq (.rg [⟨none, some 2, .mv (.const (.slice none 0 0))⟩,
    ⟨none, some 3, .mv (.const (.int .i64 10))⟩])
  (.ret)) (.skip)))
  (.seq (.seq (.rg [⟨none, some 4, .mv (.const (.int .i64 0))⟩])
  (.blk 0 (.loop q [0, 4] (ac16_L0 q))))
  (.seq (.rg [⟨none, some 6, .mv (.const (.slice none 0 0))⟩])
  (.seq (.seq (.rg [⟨none, some 7, .mv (.const (.int .i64 0))⟩])
  (.blk 2 (.loop q [0, 6, 7] (ac16_L2 q))))
  (.seq (.rg [⟨none, some 51, .mv (.tmp 6)⟩,
    ⟨none, some 2, .mv (.tmp 51)⟩,
    ⟨none, some 3, .mv (.const (.int .i64 0))⟩])
  (.ret))))))
theorem ac16_ok (q : Option (Nat × Nat)) : compF Go.Proofs.Tryd.prog Go.Proofs.Tryd.f16 (ac16 q) = some (ac16 q, [.tmp 2, .tmp 3]) := by kernel_rfl

/- clearway clearwaykit.EqualTrain -/
def ac17 (q : Option (Nat × Nat)) : AC := .seq (.rg [⟨none, some 4, .mv (.const (.bool false))⟩])
  (.seq (.rg [⟨none, some 5, .mv (.tmp 0)⟩,
    ⟨none, some 6, .mv (.tmp 1)⟩,
    ⟨none, some 7, .call 29 [.tmp 5, .tmp 6]⟩,
    ⟨none, some 4, .mv (.tmp 7)⟩])
  (.ret))
theorem ac17_ok (q : Option (Nat × Nat)) : compF Go.Proofs.Tryd.prog Go.Proofs.Tryd.f17 (ac17 q) = some (ac17 q, [.tmp 4]) := by kernel_rfl

/- clearway clearwaykit.EqualBits -/
def ac18 (q : Option (Nat × Nat)) : AC := .seq (.rg [⟨none, some 4, .mv (.const (.bool false))⟩])
  (.seq (.rg [⟨none, some 5, .mv (.tmp 0)⟩,
    ⟨none, some 6, .mv (.tmp 1)⟩,
    ⟨none, some 7, .call 32 [.tmp 5, .tmp 6]⟩,
    ⟨none, some 4, .mv (.tmp 7)⟩])
  (.ret))
theorem ac18_ok (q : Option (Nat × Nat)) : compF Go.Proofs.Tryd.prog Go.Proofs.Tryd.f18 (ac18 q) = some (ac18 q, [.tmp 4]) := by kernel_rfl

/- clearway clearwaykit.OverInts -/
def ac19_L0 (q : Option (Nat × Nat)) : AC := .seq (.seq (.rg [⟨none, some 3, .mv (.tmp 2)⟩,
    ⟨none, some 4, .mv (.tmp 0)⟩,
    ⟨none, some 5, .len (.tmp 4)⟩,
    ⟨none, some 6, .bin .lss (.tmp 3) (.tmp 5)⟩])
  (.cond (.tmp 6) (.skip) (.exit 0)))
  (.seq (.blk 1 (.rg [⟨none, some 9, .mv (.tmp 0)⟩,
    ⟨none, some 10, .mv (.tmp 2)⟩,
    ⟨none, some 11, .idx 1 (.tmp 9) (.tmp 10)⟩,
    ⟨none, none, .store 1 (.tmp 11) (.const (.int .i64 77))⟩]))
  (.rg [⟨none, some 7, .mv (.tmp 2)⟩,
    ⟨none, some 8, .bin .add (.tmp 7) (.const (.int .i64 1))⟩,
    ⟨none, some 2, .mv (.tmp 8)⟩]))
def ac19 (q : Option (Nat × Nat)) : AC := .seq (.rg [⟨none, some 2, .mv (.const (.int .i64 0))⟩])
  (.blk 0 (.loop q [0, 2] (ac19_L0 q)))
theorem ac19_ok (q : Option (Nat × Nat)) : compF Go.Proofs.Tryd.prog Go.Proofs.Tryd.f19 (ac19 q) = some (ac19 q, []) := by kernel_rfl

/- clearway pulse.Shift -/
def ac20_L0 (q : Option (Nat × Nat)) : AC := .seq (.rg [⟨none, some 41, .bin .lss (.tmp 40) (.tmp 39)⟩])
  (.seq (.cond (.tmp 41) (.skip) (.exit 0))
  (.seq (.blk 1 (.seq (.rg [⟨none, some 42, .mv (.tmp 40)⟩,
    ⟨none, some 43, .idx 1 (.tmp 38) (.tmp 40)⟩,
    ⟨none, some 44, .load (.tmp 43)⟩,
    ⟨none, some 8, .mv (.tmp 42)⟩,
    ⟨none, some 9, .mv (.tmp 44)⟩])
  (.rg [⟨none, some 45, .mv (.tmp 7)⟩,
    ⟨none, some 46, .mv (.tmp 8)⟩,
    ⟨none, some 47, .mv (.tmp 9)⟩,
    ⟨none, some 48, .mv (.tmp 1)⟩,
    ⟨none, some 49, .bin .add (.tmp 47) (.tmp 48)⟩,
    ⟨none, some 50, .idx 1 (.tmp 45) (.tmp 46)⟩,
    ⟨none, none, .store 1 (.tmp 50) (.tmp 49)⟩])))
  (.rg [⟨none, some 51, .bin .add (.tmp 40) (.const (.int .i64 1))⟩,
    ⟨none, some 40, .mv (.tmp 51)⟩])))
def ac20 (q : Option (Nat × Nat)) : AC := .seq (.rg [⟨none, some 4, .mv (.const (.slice none 0 0))⟩,
    ⟨none, some 5, .mv (.const (.int .i64 0))⟩])
  (.seq (.seq (.rg [⟨none, some 10, .mv (.tmp 0)⟩,
    ⟨none, some 11, .call 22 [.tmp 10]⟩,
    ⟨none, some 6, .mv (.tmp 11)⟩])
  (.seq (.rg [⟨none, some 12, .mv (.tmp 6)⟩,
    ⟨none, some 13, .bin .neq (.tmp 12) (.const (.int .i64 0))⟩])
  (.cond (.tmp 13) (.seq (.rg [⟨none, some 14, .mv (.tmp 6)⟩,
    ⟨none, some 4, .mv (.const (.slice none 0 0))⟩,
    ⟨none, some 5, .mv (.tmp 14)⟩])
  (.ret)) (.skip))))
  (.seq (.seq (.rg [⟨none, some 15, .mv (.tmp 0)⟩,
    ⟨none, some 16, .len (.tmp 15)⟩,
    ⟨none, some 17, .bin .eql (.tmp 16) (.const (.int .i64 0))⟩])
  (.cond (.tmp 17) (.seq (.rg [⟨none, some 4, .mv (.const (.slice none 0 0))⟩,
    ⟨none, some 5, .mv (.const (.int .i64 0))⟩])
  (.ret)) (.skip)))
  (.seq (.seq (.rg [⟨none, some 18, .mv (.tmp 1)⟩,
    ⟨none, some 19, .mv (.tmp 0)⟩,
    ⟨none, some 20, .idx 1 (.tmp 19) (.const (.int .i64 0))⟩,
    ⟨none, some 21, .load (.tmp 20)⟩,
    ⟨none, some 22, .un .neg (.tmp 21)⟩,
    ⟨none, some 23, .bin .lss (.tmp 18) (.tmp 22)⟩,
    ⟨none, some 24, .mv (.tmp 23)⟩,
    ⟨some (24, false), some 25, .mv (.tmp 1)⟩,
    ⟨some (24, false), some 26, .mv (.tmp 0)⟩,
    ⟨some (24, false), some 27, .mv (.tmp 0)⟩,
    ⟨some (24, false), some 28, .len (.tmp 27)⟩,
    ⟨some (24, false), some 29, .bin .sub (.tmp 28) (.const (.int .i64 1))⟩,
    ⟨some (24, false), some 30, .idx 1 (.tmp 26) (.tmp 29)⟩,
    ⟨some (24, false), some 31, .load (.tmp 30)⟩,
    ⟨some (24, false), some 32, .bin .sub (.const (.int .i64 1024)) (.tmp 31)⟩,
    ⟨some (24, false), some 33, .bin .geq (.tmp 25) (.tmp 32)⟩,
    ⟨none, some 34, .pick (.tmp 24) (.const (.bool true)) (.tmp 33)⟩])
  (.cond (.tmp 34) (.seq (.rg [⟨none, some 4, .mv (.const (.slice none 0 0))⟩,
    ⟨none, some 5, .mv (.const (.int .i64 7))⟩])
  (.ret)) (.skip)))
  (.seq (.rg [⟨none, some 35, .mv (.tmp 0)⟩,
    ⟨none, some 36, .len (.tmp 35)⟩,
    ⟨none, some 37, .mslice 3 1 8 [.p (.v (.int .i64 0))] (.tmp 36) (.tmp 36)⟩,
    ⟨none, some 7, .mv (.tmp 37)⟩])
  (.seq (.seq (.rg [⟨none, some 38, .mv (.tmp 0)⟩,
    ⟨none, some 39, .len (.tmp 38)⟩,
    ⟨none, some 40, .mv (.const (.int .i64 0))⟩])
  (.blk 0 (.loop q [1, 7, 38, 39, 40] (ac20_L0 q))))
  (.seq (.rg [⟨none, some 52, .mv (.tmp 7)⟩,
    ⟨none, some 4, .mv (.tmp 52)⟩,
    ⟨none, some 5, .mv (.const (.int .i64 0))⟩])
  (.ret)))))))
theorem ac20_ok (q : Option (Nat × Nat)) : compF Go.Proofs.Tryd.prog Go.Proofs.Tryd.f20 (ac20 q) = some (ac20 q, [.tmp 4, .tmp 5]) := by kernel_rfl

/- clearway clearwayref10.Shift -/
def ac21_L0 (q : Option (Nat × Nat)) : AC := .seq (.seq (.rg [⟨none, some 14, .mv (.tmp 8)⟩,
    ⟨none, some 15, .mv (.tmp 0)⟩,
    ⟨none, some 16, .len (.tmp 15)⟩,
    ⟨none, some 17, .bin .lss (.tmp 14) (.tmp 16)⟩])
  (.cond (.tmp 17) (.skip) (.exit 0)))
  (.seq (.blk 1 (.seq (.seq (.rg [⟨none, some 20, .mv (.tmp 1)⟩,
    ⟨none, some 21, .bin .lss (.tmp 20) (.const (.int .i64 (-1023)))⟩,
    ⟨none, some 22, .mv (.tmp 21)⟩,
    ⟨some (22, false), some 23, .mv (.tmp 1)⟩,
    ⟨some (22, false), some 24, .bin .gtr (.tmp 23) (.const (.int .i64 1023))⟩,
    ⟨none, some 25, .pick (.tmp 22) (.const (.bool true)) (.tmp 24)⟩,
    ⟨none, some 26, .mv (.tmp 25)⟩,
    ⟨some (26, false), some 27, .mv (.tmp 0)⟩,
    ⟨some (26, false), some 28, .mv (.tmp 8)⟩,
    ⟨some (26, false), some 29, .idx 1 (.tmp 27) (.tmp 28)⟩,
    ⟨some (26, false), some 30, .load (.tmp 29)⟩,
    ⟨some (26, false), some 31, .mv (.tmp 1)⟩,
    ⟨some (26, false), some 32, .bin .add (.tmp 30) (.tmp 31)⟩,
    ⟨some (26, false), some 33, .bin .lss (.tmp 32) (.const (.int .i64 0))⟩,
    ⟨none, some 34, .pick (.tmp 26) (.const (.bool true)) (.tmp 33)⟩,
    ⟨none, some 35, .mv (.tmp 34)⟩,
    ⟨some (35, false), some 36, .mv (.tmp 0)⟩,
    ⟨some (35, false), some 37, .mv (.tmp 8)⟩,
    ⟨some (35, false), some 38, .idx 1 (.tmp 36) (.tmp 37)⟩,
    ⟨some (35, false), some 39, .load (.tmp 38)⟩,
    ⟨some (35, false), some 40, .mv (.tmp 1)⟩,
    ⟨some (35, false), some 41, .bin .add (.tmp 39) (.tmp 40)⟩,
    ⟨some (35, false), some 42, .bin .gtr (.tmp 41) (.const (.int .i64 1023))⟩,
    ⟨none, some 43, .pick (.tmp 35) (.const (.bool true)) (.tmp 42)⟩])
  (.cond (.tmp 43) (.seq (.rg [⟨none, some 4, .mv (.const (.slice none 0 0))⟩,
    ⟨none, some 5, .mv (.const (.int .i64 7))⟩])
  (.ret)) (.skip)))
  (.rg [⟨none, some 44, .mv (.tmp 7)⟩,
    ⟨none, some 45, .mv (.tmp 0)⟩,
    ⟨none, some 46, .mv (.tmp 8)⟩,
    ⟨none, some 47, .idx 1 (.tmp 45) (.tmp 46)⟩,
    ⟨none, some 48, .load (.tmp 47)⟩,
    ⟨none, some 49, .mv (.tmp 1)⟩,
    ⟨none, some 50, .bin .add (.tmp 48) (.tmp 49)⟩,
    ⟨none, some 51, .bslice false 3 1 1 [.p (.v (.int .i64 0))] [(0, 1, .tmp 50)]⟩,
    ⟨none, some 52, .append 3 1 8 (.tmp 44) (.tmp 51)⟩,
    ⟨none, some 7, .mv (.tmp 52)⟩])))
  (.rg [⟨none, some 18, .mv (.tmp 8)⟩,
    ⟨none, some 19, .bin .add (.tmp 18) (.const (.int .i64 1))⟩,
    ⟨none, some 8, .mv (.tmp 19)⟩]))
def ac21 (q : Option (Nat × Nat)) : AC := .seq (.rg [⟨none, some 4, .mv (.const (.slice none 0 0))⟩,
    ⟨none, some 5, .mv (.const (.int .i64 0))⟩])
  (.seq (.seq (.rg [⟨none, some 9, .mv (.tmp 0)⟩,
    ⟨none, some 10, .call 23 [.tmp 9]⟩,
    ⟨none, some 6, .mv (.tmp 10)⟩])
  (.seq (.rg [⟨none, some 11, .mv (.tmp 6)⟩,
    ⟨none, some 12, .bin .neq (.tmp 11) (.const (.int .i64 0))⟩])
  (.cond (.tmp 12) (.seq (.rg [⟨none, some 13, .mv (.tmp 6)⟩,
    ⟨none, some 4, .mv (.const (.slice none 0 0))⟩,
    ⟨none, some 5, .mv (.tmp 13)⟩])
  (.ret)) (.skip))))
  (.seq (.rg [⟨none, some 7, .mv (.const (.slice none 0 0))⟩])
  (.seq (.seq (.rg [⟨none, some 8, .mv (.const (.int .i64 0))⟩])
  (.blk 0 (.loop q [0, 1, 7, 8] (ac21_L0 q))))
  (.seq (.rg [⟨none, some 53, .mv (.tmp 7)⟩,
    ⟨none, some 4, .mv (.tmp 53)⟩,
    ⟨none, some 5, .mv (.const (.int .i64 0))⟩])
  (.ret)))))
theorem ac21_ok (q : Option (Nat × Nat)) : compF Go.Proofs.Tryd.prog Go.Proofs.Tryd.f21 (ac21 q) = some (ac21 q, [.tmp 4, .tmp 5]) := by kernel_rfl

/- clearway pulse.Check -/
def ac22_L0 (q : Option (Nat × Nat)) : AC := .seq (.rg [⟨none, some 9, .bin .lss (.tmp 8) (.tmp 7)⟩])
  (.seq (.cond (.tmp 9) (.skip) (.exit 0))
  (.seq (.blk 1 (.seq (.rg [⟨none, some 10, .idx 1 (.tmp 6) (.tmp 8)⟩,
    ⟨none, some 11, .load (.tmp 10)⟩,
    ⟨none, some 5, .mv (.tmp 11)⟩])
  (.seq (.seq (.rg [⟨none, some 12, .mv (.tmp 5)⟩,
    ⟨none, some 13, .mv (.tmp 3)⟩,
    ⟨none, some 14, .bin .leq (.tmp 12) (.tmp 13)⟩,
    ⟨none, some 15, .mv (.tmp 14)⟩,
    ⟨some (15, false), some 16, .mv (.tmp 5)⟩,
    ⟨some (15, false), some 17, .bin .geq (.tmp 16) (.const (.int .i64 1024))⟩,
    ⟨none, some 18, .pick (.tmp 15) (.const (.bool true)) (.tmp 17)⟩])
  (.cond (.tmp 18) (.seq (.rg [⟨none, some 2, .mv (.const (.int .i64 1))⟩])
  (.ret)) (.skip)))
  (.rg [⟨none, some 19, .mv (.tmp 5)⟩,
    ⟨none, some 3, .mv (.tmp 19)⟩]))))
  (.rg [⟨none, some 20, .bin .add (.tmp 8) (.const (.int .i64 1))⟩,
    ⟨none, some 8, .mv (.tmp 20)⟩])))
def ac22 (q : Option (Nat × Nat)) : AC := .seq (.rg [⟨none, some 2, .mv (.const (.int .i64 0))⟩])
  (.seq (.rg [⟨none, some 3, .mv (.const (.int .i64 (-1)))⟩])
  (.seq (.seq (.rg [⟨none, some 6, .mv (.tmp 0)⟩,
    ⟨none, some 7, .len (.tmp 6)⟩,
    ⟨none, some 8, .mv (.const (.int .i64 0))⟩])
  (.blk 0 (.loop q [3, 6, 7, 8] (ac22_L0 q))))
  (.seq (.rg [⟨none, some 2, .mv (.const (.int .i64 0))⟩])
  (.ret))))
theorem ac22_ok (q : Option (Nat × Nat)) : compF Go.Proofs.Tryd.prog Go.Proofs.Tryd.f22 (ac22 q) = some (ac22 q, [.tmp 2]) := by kernel_rfl

/- clearway clearwayref10.Check -/
def ac23_L0 (q : Option (Nat × Nat)) : AC := .seq (.seq (.rg [⟨none, some 4, .mv (.tmp 3)⟩,
    ⟨none, some 5, .mv (.tmp 0)⟩,
    ⟨none, some 6, .len (.tmp 5)⟩,
    ⟨none, some 7, .bin .lss (.tmp 4) (.tmp 6)⟩])
  (.cond (.tmp 7) (.skip) (.exit 0)))
  (.seq (.blk 1 (.seq (.dr [(false, [(0, 0), (1, 0)], [⟨none, some 10, .mv (.tmp 0)⟩,
    ⟨none, some 11, .mv (.tmp 3)⟩]),
   (true, [(2, 0), (3, 0), (4, 0), (5, 0)], [⟨none, some 12, .idx 1 (.tmp 10) (.tmp 11)⟩,
    ⟨none, some 13, .load (.tmp 12)⟩,
    ⟨none, some 14, .bin .lss (.tmp 13) (.const (.int .i64 0))⟩,
    ⟨none, some 15, .mv (.tmp 14)⟩]),
   (false, [(6, 0), (7, 0)], [⟨some (15, false), some 16, .mv (.tmp 0)⟩,
    ⟨some (15, false), some 17, .mv (.tmp 3)⟩]),
   (true, [(8, 0), (9, 0), (10, 0), (11, 0), (12, 0), (13, 0), (14, 0), (15, 0)], [⟨some (15, false), some 18, .idx 1 (.tmp 16) (.tmp 17)⟩,
    ⟨some (15, false), some 19, .load (.tmp 18)⟩,
    ⟨some (15, false), some 20, .bin .gtr (.tmp 19) (.const (.int .i64 1023))⟩,
    ⟨none, some 21, .pick (.tmp 15) (.const (.bool true)) (.tmp 20)⟩,
    ⟨none, some 22, .mv (.tmp 21)⟩,
    ⟨some (22, false), some 23, .mv (.tmp 3)⟩,
    ⟨some (22, false), some 24, .bin .gtr (.tmp 23) (.const (.int .i64 0))⟩,
    ⟨some (22, false), some 25, .mv (.tmp 24)⟩]),
   (false, [(16, 0), (17, 0), (18, 0), (19, 0), (20, 0), (21, 0), (22, 0), (23, 0), (24, 0)], [⟨some (25, true), some 26, .mv (.tmp 0)⟩,
    ⟨some (25, true), some 27, .mv (.tmp 3)⟩,
    ⟨some (25, true), some 28, .idx 1 (.tmp 26) (.tmp 27)⟩,
    ⟨some (25, true), some 29, .load (.tmp 28)⟩,
    ⟨some (25, true), some 30, .mv (.tmp 0)⟩,
    ⟨some (25, true), some 31, .mv (.tmp 3)⟩,
    ⟨some (25, true), some 32, .bin .sub (.tmp 31) (.const (.int .i64 1))⟩,
    ⟨some (25, true), some 33, .idx 1 (.tmp 30) (.tmp 32)⟩,
    ⟨some (25, true), some 34, .load (.tmp 33)⟩]),
   (true, [(25, 0), (26, 0), (27, 0)], [⟨some (25, true), some 35, .bin .leq (.tmp 29) (.tmp 34)⟩,
    ⟨some (22, false), some 36, .pick (.tmp 25) (.tmp 35) (.const (.bool false))⟩,
    ⟨none, some 37, .pick (.tmp 22) (.const (.bool true)) (.tmp 36)⟩])])
  (.cond (.tmp 37) (.seq (.rg [⟨none, some 2, .mv (.const (.int .i64 1))⟩])
  (.ret)) (.skip))))
  (.rg [⟨none, some 8, .mv (.tmp 3)⟩,
    ⟨none, some 9, .bin .add (.tmp 8) (.const (.int .i64 1))⟩,
    ⟨none, some 3, .mv (.tmp 9)⟩]))
def ac23 (q : Option (Nat × Nat)) : AC := .seq (.rg [⟨none, some 2, .mv (.const (.int .i64 0))⟩])
  (.seq (.seq (.rg [⟨none, some 3, .mv (.const (.int .i64 0))⟩])
  (.blk 0 (.loop q [0, 3] (ac23_L0 q))))
  (.seq (.rg [⟨none, some 2, .mv (.const (.int .i64 0))⟩])
  (.ret)))
theorem ac23_ok (q : Option (Nat × Nat)) : compF Go.Proofs.Tryd.prog Go.Proofs.Tryd.f23 (ac23 q) = some (ac23 q, [.tmp 2]) := by kernel_rfl

/- clearway clearwaykit.CopyTrain -/
def ac24 (q : Option (Nat × Nat)) : AC := .seq (.rg [⟨none, some 2, .mv (.const (.slice none 0 0))⟩])
  (.seq (.rg [⟨none, some 3, .mv (.tmp 0)⟩,
    ⟨none, some 4, .call 41 [.tmp 3]⟩,
    ⟨none, some 2, .mv (.tmp 4)⟩])
  (.ret))
theorem ac24_ok (q : Option (Nat × Nat)) : compF Go.Proofs.Tryd.prog Go.Proofs.Tryd.f24 (ac24 q) = some (ac24 q, [.tmp 2]) := by kernel_rfl

/- clearway clearwayref10.Starts -/
def ac26_L0 (q : Option (Nat × Nat)) : AC := .seq (.seq (.rg [⟨none, some 12, .mv (.tmp 6)⟩,
    ⟨none, some 13, .mv (.tmp 0)⟩,
    ⟨none, some 14, .len (.tmp 13)⟩,
    ⟨none, some 15, .bin .lss (.tmp 12) (.tmp 14)⟩])
  (.cond (.tmp 15) (.skip) (.exit 0)))
  (.seq (.blk 1 (.seq (.rg [⟨none, some 18, .mv (.tmp 0)⟩,
    ⟨none, some 19, .mv (.tmp 0)⟩,
    ⟨none, some 20, .mv (.tmp 6)⟩,
    ⟨none, some 21, .idx 1 (.tmp 19) (.tmp 20)⟩,
    ⟨none, some 22, .load (.tmp 21)⟩,
    ⟨none, some 23, .call 43 [.tmp 18, .tmp 22]⟩])
  (.cond (.tmp 23) (.rg [⟨none, some 24, .mv (.tmp 5)⟩,
    ⟨none, some 25, .mv (.tmp 0)⟩,
    ⟨none, some 26, .mv (.tmp 6)⟩,
    ⟨none, some 27, .idx 1 (.tmp 25) (.tmp 26)⟩,
    ⟨none, some 28, .load (.tmp 27)⟩,
    ⟨none, some 29, .bslice false 3 1 1 [.p (.v (.int .i64 0))] [(0, 1, .tmp 28)]⟩,
    ⟨none, some 30, .append 3 1 8 (.tmp 24) (.tmp 29)⟩,
    ⟨none, some 5, .mv (.tmp 30)⟩]) (.skip))))
  (.rg [⟨none, some 16, .mv (.tmp 6)⟩,
    ⟨none, some 17, .bin .add (.tmp 16) (.const (.int .i64 1))⟩,
    ⟨none, some 6, .mv (.tmp 17)⟩]))
def ac26 (q : Option (Nat × Nat)) : AC := .seq (.rg [⟨none, some 2, .mv (.const (.slice none 0 0))⟩,
    ⟨none, some 3, .mv (.const (.int .i64 0))⟩])
  (.seq (.seq (.rg [⟨none, some 7, .mv (.tmp 0)⟩,
    ⟨none, some 8, .call 23 [.tmp 7]⟩,
    ⟨none, some 4, .mv (.tmp 8)⟩])
  (.seq (.rg [⟨none, some 9, .mv (.tmp 4)⟩,
    ⟨none, some 10, .bin .neq (.tmp 9) (.const (.int .i64 0))⟩])
  (.cond (.tmp 10) (.seq (.rg [⟨none, some 11, .mv (.tmp 4)⟩,
    ⟨none, some 2, .mv (.const (.slice none 0 0))⟩,
    ⟨none, some 3, .mv (.tmp 11)⟩])
  (.ret)) (.skip))))
  (.seq (.rg [⟨none, some 5, .mv (.const (.slice none 0 0))⟩])
  (.seq (.seq (.rg [⟨none, some 6, .mv (.const (.int .i64 0))⟩])
  (.blk 0 (.loop q [0, 5, 6] (ac26_L0 q))))
  (.seq (.rg [⟨none, some 31, .mv (.tmp 5)⟩,
    ⟨none, some 2, .mv (.tmp 31)⟩,
    ⟨none, some 3, .mv (.const (.int .i64 0))⟩])
  (.ret)))))
theorem ac26_ok (q : Option (Nat × Nat)) : compF Go.Proofs.Tryd.prog Go.Proofs.Tryd.f26 (ac26 q) = some (ac26 q, [.tmp 2, .tmp 3]) := by kernel_rfl

/- clearway pulse.Read -/
def ac27_L0 (q : Option (Nat × Nat)) : AC := .seq (.rg [⟨none, some 44, .bin .lss (.tmp 43) (.tmp 42)⟩])
  (.seq (.cond (.tmp 44) (.skip) (.exit 0))
  (.seq (.blk 1 (.seq (.rg [⟨none, some 45, .mv (.tmp 43)⟩,
    ⟨none, some 11, .mv (.tmp 45)⟩])
  (.seq (.dr [(false, [(0, 0), (1, 0), (2, 0), (3, 0), (4, 0), (5, 0), (6, 0), (7, 0), (8, 0), (9, 0), (10, 0), (11, 0), (12, 0), (13, 0), (14, 0), (15, 0)], [⟨none, some 46, .mv (.tmp 1)⟩,
    ⟨none, some 47, .bin .add (.tmp 46) (.const (.int .i64 16))⟩,
    ⟨none, some 48, .mv (.tmp 11)⟩,
    ⟨none, some 49, .bin .mul (.const (.int .i64 2)) (.tmp 48)⟩,
    ⟨none, some 50, .bin .add (.tmp 47) (.tmp 49)⟩,
    ⟨none, some 51, .idxA 1024 1 (.tmp 8) (.tmp 50)⟩,
    ⟨none, some 52, .load (.tmp 51)⟩,
    ⟨none, some 53, .mv (.tmp 1)⟩,
    ⟨none, some 54, .bin .add (.tmp 53) (.const (.int .i64 16))⟩,
    ⟨none, some 55, .mv (.tmp 11)⟩,
    ⟨none, some 56, .bin .mul (.const (.int .i64 2)) (.tmp 55)⟩,
    ⟨none, some 57, .bin .add (.tmp 54) (.tmp 56)⟩,
    ⟨none, some 58, .bin .add (.tmp 57) (.const (.int .i64 1))⟩,
    ⟨none, some 59, .idxA 1024 1 (.tmp 8) (.tmp 58)⟩,
    ⟨none, some 60, .load (.tmp 59)⟩,
    ⟨none, some 12, .mv (.tmp 52)⟩]),
   (true, [(16, 0)], [⟨none, some 13, .mv (.tmp 60)⟩])])
  (.blk 2 (.seq (.rg [⟨none, some 62, .mv (.tmp 12)⟩,
    ⟨none, some 63, .mv (.tmp 62)⟩,
    ⟨some (63, true), some 64, .mv (.tmp 13)⟩,
    ⟨none, some 65, .pick (.tmp 63) (.tmp 64) (.const (.bool false))⟩,
    ⟨none, some 61, .mv (.tmp 65)⟩])
  (.cond (.tmp 61) (.rg [⟨none, some 66, .mv (.tmp 10)⟩,
    ⟨none, some 67, .mv (.tmp 11)⟩,
    ⟨none, some 68, .idx 1 (.tmp 66) (.tmp 67)⟩,
    ⟨none, none, .store 1 (.tmp 68) (.const (.int .u8 2))⟩]) (.seq (.rg [⟨none, some 70, .mv (.tmp 12)⟩,
    ⟨none, some 69, .mv (.tmp 70)⟩])
  (.cond (.tmp 69) (.rg [⟨none, some 71, .mv (.tmp 10)⟩,
    ⟨none, some 72, .mv (.tmp 11)⟩,
    ⟨none, some 73, .idx 1 (.tmp 71) (.tmp 72)⟩,
    ⟨none, none, .store 1 (.tmp 73) (.const (.int .u8 1))⟩]) (.seq (.rg [⟨none, some 75, .mv (.tmp 13)⟩,
    ⟨none, some 76, .un .not (.tmp 75)⟩,
    ⟨none, some 74, .mv (.tmp 76)⟩])
  (.cond (.tmp 74) (.seq (.rg [⟨none, some 77, .loadA 2 (.tmp 6)⟩,
    ⟨none, none, .store 2 (.tmp 6) (.tmp 77)⟩,
    ⟨none, some 7, .mv (.const (.int .i64 9))⟩])
  (.ret)) (.skip)))))))))))
  (.rg [⟨none, some 78, .bin .add (.tmp 43) (.const (.int .i64 1))⟩,
    ⟨none, some 43, .mv (.tmp 78)⟩])))
def ac27 (q : Option (Nat × Nat)) : AC := .seq (.rg [⟨none, some 6, .alloc 46 [.p (.v (.int .i64 0)), .p (.sl (some true) 0 [])]⟩,
    ⟨none, some 7, .mv (.const (.int .i64 0))⟩])
  (.seq (.rg [⟨none, some 15, .mv (.tmp 0)⟩,
    ⟨none, some 16, .bslice false 30 1 1 [.p (.sl (some true) 0 [])] [(0, 1, .tmp 15)]⟩,
    ⟨none, some 17, .call 38 [.tmp 16]⟩,
    ⟨none, some 14, .mv (.tmp 17)⟩,
    ⟨none, some 18, .extract (.tmp 14) 0⟩,
    ⟨none, some 19, .extract (.tmp 14) 1⟩,
    ⟨none, some 8, .allocL 67 [(1024, .bool false)]⟩,
    ⟨none, none, .store 1024 (.tmp 8) (.tmp 18)⟩,
    ⟨none, some 7, .mv (.tmp 19)⟩])
  (.seq (.seq (.rg [⟨none, some 20, .mv (.tmp 7)⟩,
    ⟨none, some 21, .bin .neq (.tmp 20) (.const (.int .i64 0))⟩])
  (.cond (.tmp 21) (.seq (.rg [⟨none, some 22, .loadA 2 (.tmp 6)⟩,
    ⟨none, some 23, .mv (.tmp 7)⟩,
    ⟨none, none, .store 2 (.tmp 6) (.tmp 22)⟩,
    ⟨none, some 7, .mv (.tmp 23)⟩])
  (.ret)) (.skip)))
  (.seq (.rg [⟨none, some 9, .mv (.const (.int .i64 56))⟩])
  (.seq (.seq (.rg [⟨none, some 24, .mv (.tmp 2)⟩])
  (.cond (.tmp 24) (.rg [⟨none, some 9, .mv (.const (.int .i64 112))⟩]) (.skip)))
  (.seq (.seq (.rg [⟨none, some 25, .mv (.tmp 1)⟩,
    ⟨none, some 26, .bin .lss (.tmp 25) (.const (.int .i64 0))⟩,
    ⟨none, some 27, .mv (.tmp 26)⟩,
    ⟨some (27, false), some 28, .mv (.tmp 1)⟩,
    ⟨some (27, false), some 29, .mv (.tmp 9)⟩,
    ⟨some (27, false), some 30, .bin .mul (.const (.int .i64 2)) (.tmp 29)⟩,
    ⟨some (27, false), some 31, .bin .sub (.const (.int .i64 1008)) (.tmp 30)⟩,
    ⟨some (27, false), some 32, .bin .gtr (.tmp 28) (.tmp 31)⟩,
    ⟨none, some 33, .pick (.tmp 27) (.const (.bool true)) (.tmp 32)⟩])
  (.cond (.tmp 33) (.seq (.rg [⟨none, some 34, .loadA 2 (.tmp 6)⟩,
    ⟨none, none, .store 2 (.tmp 6) (.tmp 34)⟩,
    ⟨none, some 7, .mv (.const (.int .i64 7))⟩])
  (.ret)) (.skip)))
  (.seq (.seq (.rg [⟨none, some 35, .mv (.tmp 1)⟩,
    ⟨none, some 36, .call 42 [.tmp 8, .tmp 35]⟩,
    ⟨none, some 37, .un .not (.tmp 36)⟩])
  (.cond (.tmp 37) (.seq (.rg [⟨none, some 38, .loadA 2 (.tmp 6)⟩,
    ⟨none, none, .store 2 (.tmp 6) (.tmp 38)⟩,
    ⟨none, some 7, .mv (.const (.int .i64 9))⟩])
  (.ret)) (.skip)))
  (.seq (.rg [⟨none, some 39, .mv (.tmp 9)⟩,
    ⟨none, some 40, .mslice 5 1 1 [.p (.v (.int .u8 0))] (.tmp 39) (.tmp 39)⟩,
    ⟨none, some 10, .mv (.tmp 40)⟩])
  (.seq (.seq (.rg [⟨none, some 41, .mv (.tmp 10)⟩,
    ⟨none, some 42, .len (.tmp 41)⟩,
    ⟨none, some 43, .mv (.const (.int .i64 0))⟩])
  (.blk 0 (.loop q [1, 6, 8, 10, 42, 43] (ac27_L0 q))))
  (.seq (.rg [⟨none, some 79, .mv (.tmp 1)⟩,
    ⟨none, some 80, .mv (.tmp 10)⟩,
    ⟨none, some 81, .build [.p (.v (.int .i64 0)), .p (.sl (some true) 0 [])] [(0, 1, .tmp 79), (1, 1, .tmp 80)]⟩,
    ⟨none, none, .store 2 (.tmp 6) (.tmp 81)⟩,
    ⟨none, some 7, .mv (.const (.int .i64 0))⟩])
  (.ret))))))))))
theorem ac27_ok (q : Option (Nat × Nat)) : compF Go.Proofs.Tryd.prog Go.Proofs.Tryd.f27 (ac27 q) = some (ac27 q, [.cell 6 (some 2), .tmp 7]) := by kernel_rfl

/- clearway clearwayref10.Read -/
def ac28_L0 (q : Option (Nat × Nat)) : AC := .seq (.seq (.rg [⟨none, some 43, .mv (.tmp 11)⟩,
    ⟨none, some 44, .mv (.tmp 9)⟩,
    ⟨none, some 45, .bin .lss (.tmp 43) (.tmp 44)⟩])
  (.cond (.tmp 45) (.skip) (.exit 0)))
  (.seq (.blk 1 (.seq (.rg [⟨none, some 48, .mv (.tmp 0)⟩,
    ⟨none, some 49, .mv (.tmp 1)⟩,
    ⟨none, some 50, .bin .add (.tmp 49) (.const (.int .i64 16))⟩,
    ⟨none, some 51, .mv (.tmp 11)⟩,
    ⟨none, some 52, .bin .mul (.const (.int .i64 2)) (.tmp 51)⟩,
    ⟨none, some 53, .bin .add (.tmp 50) (.tmp 52)⟩,
    ⟨none, some 54, .call 40 [.tmp 48, .tmp 53]⟩,
    ⟨none, some 55, .mv (.tmp 0)⟩,
    ⟨none, some 56, .mv (.tmp 1)⟩,
    ⟨none, some 57, .bin .add (.tmp 56) (.const (.int .i64 17))⟩,
    ⟨none, some 58, .mv (.tmp 11)⟩,
    ⟨none, some 59, .bin .mul (.const (.int .i64 2)) (.tmp 58)⟩,
    ⟨none, some 60, .bin .add (.tmp 57) (.tmp 59)⟩,
    ⟨none, some 61, .call 40 [.tmp 55, .tmp 60]⟩,
    ⟨none, some 12, .mv (.tmp 54)⟩,
    ⟨none, some 13, .mv (.tmp 61)⟩])
  (.blk 2 (.seq (.rg [⟨none, some 64, .mv (.tmp 12)⟩,
    ⟨none, some 65, .mv (.tmp 64)⟩,
    ⟨some (65, true), some 66, .mv (.tmp 13)⟩,
    ⟨none, some 67, .pick (.tmp 65) (.tmp 66) (.const (.bool false))⟩,
    ⟨none, some 63, .mv (.tmp 67)⟩])
  (.cond (.tmp 63) (.rg [⟨none, some 68, .fieldA 1 (.tmp 10)⟩,
    ⟨none, some 69, .load (.tmp 68)⟩,
    ⟨none, some 70, .bslice false 5 1 1 [.p (.v (.int .u8 0))] [(0, 1, .const (.int .u8 2))]⟩,
    ⟨none, some 71, .append 5 1 1 (.tmp 69) (.tmp 70)⟩,
    ⟨none, some 72, .fieldA 1 (.tmp 10)⟩,
    ⟨none, none, .store 1 (.tmp 72) (.tmp 71)⟩]) (.seq (.rg [⟨none, some 74, .mv (.tmp 12)⟩,
    ⟨none, some 73, .mv (.tmp 74)⟩])
  (.cond (.tmp 73) (.rg [⟨none, some 75, .fieldA 1 (.tmp 10)⟩,
    ⟨none, some 76, .load (.tmp 75)⟩,
    ⟨none, some 77, .bslice false 5 1 1 [.p (.v (.int .u8 0))] [(0, 1, .const (.int .u8 1))]⟩,
    ⟨none, some 78, .append 5 1 1 (.tmp 76) (.tmp 77)⟩,
    ⟨none, some 79, .fieldA 1 (.tmp 10)⟩,
    ⟨none, none, .store 1 (.tmp 79) (.tmp 78)⟩]) (.seq (.rg [⟨none, some 81, .mv (.tmp 13)⟩,
    ⟨none, some 80, .mv (.tmp 81)⟩])
  (.cond (.tmp 80) (.rg [⟨none, some 82, .fieldA 1 (.tmp 10)⟩,
    ⟨none, some 83, .load (.tmp 82)⟩,
    ⟨none, some 84, .bslice false 5 1 1 [.p (.v (.int .u8 0))] [(0, 1, .const (.int .u8 0))]⟩,
    ⟨none, some 85, .append 5 1 1 (.tmp 83) (.tmp 84)⟩,
    ⟨none, some 86, .fieldA 1 (.tmp 10)⟩,
    ⟨none, none, .store 1 (.tmp 86) (.tmp 85)⟩]) (.seq (.rg [⟨none, some 62, .build [.p (.v (.int .i64 0)), .p (.sl (some true) 0 [])] []⟩,
    ⟨none, none, .store 2 (.tmp 6) (.tmp 62)⟩,
    ⟨none, some 7, .mv (.const (.int .i64 9))⟩])
  (.ret)))))))))))
  (.rg [⟨none, some 46, .mv (.tmp 11)⟩,
    ⟨none, some 47, .bin .add (.tmp 46) (.const (.int .i64 1))⟩,
    ⟨none, some 11, .mv (.tmp 47)⟩]))
def ac28 (q : Option (Nat × Nat)) : AC := .seq (.rg [⟨none, some 6, .alloc 46 [.p (.v (.int .i64 0)), .p (.sl (some true) 0 [])]⟩,
    ⟨none, some 7, .mv (.const (.int .i64 0))⟩])
  (.seq (.seq (.rg [⟨none, some 14, .mv (.tmp 0)⟩,
    ⟨none, some 15, .call 23 [.tmp 14]⟩,
    ⟨none, some 8, .mv (.tmp 15)⟩])
  (.seq (.rg [⟨none, some 16, .mv (.tmp 8)⟩,
    ⟨none, some 17, .bin .neq (.tmp 16) (.const (.int .i64 0))⟩])
  (.cond (.tmp 17) (.seq (.rg [⟨none, some 18, .build [.p (.v (.int .i64 0)), .p (.sl (some true) 0 [])] []⟩,
    ⟨none, some 19, .mv (.tmp 8)⟩,
    ⟨none, none, .store 2 (.tmp 6) (.tmp 18)⟩,
    ⟨none, some 7, .mv (.tmp 19)⟩])
  (.ret)) (.skip))))
  (.seq (.rg [⟨none, some 9, .mv (.const (.int .i64 56))⟩])
  (.seq (.seq (.rg [⟨none, some 20, .mv (.tmp 2)⟩])
  (.cond (.tmp 20) (.rg [⟨none, some 9, .mv (.const (.int .i64 112))⟩]) (.skip)))
  (.seq (.seq (.rg [⟨none, some 21, .mv (.tmp 1)⟩,
    ⟨none, some 22, .bin .lss (.tmp 21) (.const (.int .i64 0))⟩,
    ⟨none, some 23, .mv (.tmp 22)⟩,
    ⟨some (23, false), some 24, .mv (.tmp 1)⟩,
    ⟨some (23, false), some 25, .bin .gtr (.tmp 24) (.const (.int .i64 1023))⟩,
    ⟨none, some 26, .pick (.tmp 23) (.const (.bool true)) (.tmp 25)⟩,
    ⟨none, some 27, .mv (.tmp 26)⟩,
    ⟨some (27, false), some 28, .mv (.tmp 1)⟩,
    ⟨some (27, false), some 29, .bin .add (.tmp 28) (.const (.int .i64 15))⟩,
    ⟨some (27, false), some 30, .mv (.tmp 9)⟩,
    ⟨some (27, false), some 31, .bin .mul (.const (.int .i64 2)) (.tmp 30)⟩,
    ⟨some (27, false), some 32, .bin .add (.tmp 29) (.tmp 31)⟩,
    ⟨some (27, false), some 33, .bin .gtr (.tmp 32) (.const (.int .i64 1023))⟩,
    ⟨none, some 34, .pick (.tmp 27) (.const (.bool true)) (.tmp 33)⟩])
  (.cond (.tmp 34) (.seq (.rg [⟨none, some 35, .build [.p (.v (.int .i64 0)), .p (.sl (some true) 0 [])] []⟩,
    ⟨none, none, .store 2 (.tmp 6) (.tmp 35)⟩,
    ⟨none, some 7, .mv (.const (.int .i64 7))⟩])
  (.ret)) (.skip)))
  (.seq (.seq (.rg [⟨none, some 36, .mv (.tmp 0)⟩,
    ⟨none, some 37, .mv (.tmp 1)⟩,
    ⟨none, some 38, .call 43 [.tmp 36, .tmp 37]⟩,
    ⟨none, some 39, .un .not (.tmp 38)⟩])
  (.cond (.tmp 39) (.seq (.rg [⟨none, some 40, .build [.p (.v (.int .i64 0)), .p (.sl (some true) 0 [])] []⟩,
    ⟨none, none, .store 2 (.tmp 6) (.tmp 40)⟩,
    ⟨none, some 7, .mv (.const (.int .i64 9))⟩])
  (.ret)) (.skip)))
  (.seq (.rg [⟨none, some 41, .mv (.tmp 1)⟩,
    ⟨none, some 42, .build [.p (.v (.int .i64 0)), .p (.sl (some true) 0 [])] [(0, 1, .tmp 41)]⟩,
    ⟨none, some 10, .alloc 46 [.p (.v (.int .i64 0)), .p (.sl (some true) 0 [])]⟩,
    ⟨none, none, .store 2 (.tmp 10) (.tmp 42)⟩])
  (.seq (.seq (.rg [⟨none, some 11, .mv (.const (.int .i64 0))⟩])
  (.blk 0 (.loop q [0, 1, 6, 9, 10, 11] (ac28_L0 q))))
  (.seq (.rg [⟨none, some 87, .loadA 2 (.tmp 10)⟩,
    ⟨none, none, .store 2 (.tmp 6) (.tmp 87)⟩,
    ⟨none, some 7, .mv (.const (.int .i64 0))⟩])
  (.ret)))))))))
theorem ac28_ok (q : Option (Nat × Nat)) : compF Go.Proofs.Tryd.prog Go.Proofs.Tryd.f28 (ac28 q) = some (ac28 q, [.cell 6 (some 2), .tmp 7]) := by kernel_rfl

/- clearway clearwaykit.EqualInts -/
def ac29_L0 (q : Option (Nat × Nat)) : AC := .seq (.seq (.rg [⟨none, some 11, .mv (.tmp 5)⟩,
    ⟨none, some 12, .mv (.tmp 0)⟩,
    ⟨none, some 13, .len (.tmp 12)⟩,
    ⟨none, some 14, .bin .lss (.tmp 11) (.tmp 13)⟩])
  (.cond (.tmp 14) (.skip) (.exit 0)))
  (.seq (.blk 1 (.seq (.dr [(false, [(0, 0), (1, 0), (2, 0), (3, 0), (4, 0), (5, 0), (6, 0), (7, 0)], [⟨none, some 17, .mv (.tmp 0)⟩,
    ⟨none, some 18, .mv (.tmp 5)⟩,
    ⟨none, some 19, .idx 1 (.tmp 17) (.tmp 18)⟩,
    ⟨none, some 20, .load (.tmp 19)⟩,
    ⟨none, some 21, .mv (.tmp 1)⟩,
    ⟨none, some 22, .mv (.tmp 5)⟩,
    ⟨none, some 23, .idx 1 (.tmp 21) (.tmp 22)⟩,
    ⟨none, some 24, .load (.tmp 23)⟩]),
   (true, [(8, 0)], [⟨none, some 25, .bin .neq (.tmp 20) (.tmp 24)⟩])])
  (.cond (.tmp 25) (.seq (.rg [⟨none, some 4, .mv (.const (.bool false))⟩])
  (.ret)) (.skip))))
  (.rg [⟨none, some 15, .mv (.tmp 5)⟩,
    ⟨none, some 16, .bin .add (.tmp 15) (.const (.int .i64 1))⟩,
    ⟨none, some 5, .mv (.tmp 16)⟩]))
def ac29 (q : Option (Nat × Nat)) : AC := .seq (.rg [⟨none, some 4, .mv (.const (.bool false))⟩])
  (.seq (.seq (.rg [⟨none, some 6, .mv (.tmp 0)⟩,
    ⟨none, some 7, .len (.tmp 6)⟩,
    ⟨none, some 8, .mv (.tmp 1)⟩,
    ⟨none, some 9, .len (.tmp 8)⟩,
    ⟨none, some 10, .bin .neq (.tmp 7) (.tmp 9)⟩])
  (.cond (.tmp 10) (.seq (.rg [⟨none, some 4, .mv (.const (.bool false))⟩])
  (.ret)) (.skip)))
  (.seq (.seq (.rg [⟨none, some 5, .mv (.const (.int .i64 0))⟩])
  (.blk 0 (.loop q [0, 1, 5] (ac29_L0 q))))
  (.seq (.rg [⟨none, some 4, .mv (.const (.bool true))⟩])
  (.ret))))
theorem ac29_ok (q : Option (Nat × Nat)) : compF Go.Proofs.Tryd.prog Go.Proofs.Tryd.f29 (ac29 q) = some (ac29 q, [.tmp 4]) := by kernel_rfl

/- clearway clearwaykit.EqualGuess -/
def ac30 (q : Option (Nat × Nat)) : AC := .seq (.rg [⟨none, some 2, .box 46 (.tmp 0)⟩,
    ⟨none, some 3, .box 46 (.tmp 1)⟩,
    ⟨none, some 4, .mv (.const (.bool false))⟩])
  (.seq (.rg [⟨none, some 5, .fieldA 0 (.tmp 2)⟩,
    ⟨none, some 6, .load (.tmp 5)⟩,
    ⟨none, some 7, .fieldA 0 (.tmp 3)⟩,
    ⟨none, some 8, .load (.tmp 7)⟩,
    ⟨none, some 9, .bin .eql (.tmp 6) (.tmp 8)⟩,
    ⟨none, some 10, .mv (.tmp 9)⟩,
    ⟨some (10, true), some 11, .fieldA 1 (.tmp 2)⟩,
    ⟨some (10, true), some 12, .load (.tmp 11)⟩,
    ⟨some (10, true), some 13, .fieldA 1 (.tmp 3)⟩,
    ⟨some (10, true), some 14, .load (.tmp 13)⟩,
    ⟨some (10, true), some 15, .call 32 [.tmp 12, .tmp 14]⟩,
    ⟨none, some 16, .pick (.tmp 10) (.tmp 15) (.const (.bool false))⟩,
    ⟨none, some 4, .mv (.tmp 16)⟩])
  (.ret))
theorem ac30_ok (q : Option (Nat × Nat)) : compF Go.Proofs.Tryd.prog Go.Proofs.Tryd.f30 (ac30 q) = some (ac30 q, [.tmp 4]) := by kernel_rfl

/- clearway clearwaykit.OverBytes -/
def ac31_L0 (q : Option (Nat × Nat)) : AC := .seq (.seq (.rg [⟨none, some 3, .mv (.tmp 2)⟩,
    ⟨none, some 4, .mv (.tmp 0)⟩,
    ⟨none, some 5, .len (.tmp 4)⟩,
    ⟨none, some 6, .bin .lss (.tmp 3) (.tmp 5)⟩])
  (.cond (.tmp 6) (.skip) (.exit 0)))
  (.seq (.blk 1 (.rg [⟨none, some 9, .mv (.tmp 0)⟩,
    ⟨none, some 10, .mv (.tmp 2)⟩,
    ⟨none, some 11, .idx 1 (.tmp 9) (.tmp 10)⟩,
    ⟨none, none, .store 1 (.tmp 11) (.const (.int .u8 77))⟩]))
  (.rg [⟨none, some 7, .mv (.tmp 2)⟩,
    ⟨none, some 8, .bin .add (.tmp 7) (.const (.int .i64 1))⟩,
    ⟨none, some 2, .mv (.tmp 8)⟩]))
def ac31 (q : Option (Nat × Nat)) : AC := .seq (.rg [⟨none, some 2, .mv (.const (.int .i64 0))⟩])
  (.blk 0 (.loop q [0, 2] (ac31_L0 q)))
theorem ac31_ok (q : Option (Nat × Nat)) : compF Go.Proofs.Tryd.prog Go.Proofs.Tryd.f31 (ac31 q) = some (ac31 q, []) := by kernel_rfl

/- clearway clearwaykit.EqualBytes -/
def ac32_L0 (q : Option (Nat × Nat)) : AC := .seq (.seq (.rg [⟨none, some 11, .mv (.tmp 5)⟩,
    ⟨none, some 12, .mv (.tmp 0)⟩,
    ⟨none, some 13, .len (.tmp 12)⟩,
    ⟨none, some 14, .bin .lss (.tmp 11) (.tmp 13)⟩])
  (.cond (.tmp 14) (.skip) (.exit 0)))
  (.seq (.blk 1 (.seq (.dr [(false, [(0, 0), (1, 0), (2, 0), (3, 0), (4, 0), (5, 0), (6, 0), (7, 0)], [⟨none, some 17, .mv (.tmp 0)⟩,
    ⟨none, some 18, .mv (.tmp 5)⟩,
    ⟨none, some 19, .idx 1 (.tmp 17) (.tmp 18)⟩,
    ⟨none, some 20, .load (.tmp 19)⟩,
    ⟨none, some 21, .mv (.tmp 1)⟩,
    ⟨none, some 22, .mv (.tmp 5)⟩,
    ⟨none, some 23, .idx 1 (.tmp 21) (.tmp 22)⟩,
    ⟨none, some 24, .load (.tmp 23)⟩]),
   (true, [(8, 0)], [⟨none, some 25, .bin .neq (.tmp 20) (.tmp 24)⟩])])
  (.cond (.tmp 25) (.seq (.rg [⟨none, some 4, .mv (.const (.bool false))⟩])
  (.ret)) (.skip))))
  (.rg [⟨none, some 15, .mv (.tmp 5)⟩,
    ⟨none, some 16, .bin .add (.tmp 15) (.const (.int .i64 1))⟩,
    ⟨none, some 5, .mv (.tmp 16)⟩]))
def ac32 (q : Option (Nat × Nat)) : AC := .seq (.rg [⟨none, some 4, .mv (.const (.bool false))⟩])
  (.seq (.seq (.rg [⟨none, some 6, .mv (.tmp 0)⟩,
    ⟨none, some 7, .len (.tmp 6)⟩,
    ⟨none, some 8, .mv (.tmp 1)⟩,
    ⟨none, some 9, .len (.tmp 8)⟩,
    ⟨none, some 10, .bin .neq (.tmp 7) (.tmp 9)⟩])
  (.cond (.tmp 10) (.seq (.rg [⟨none, some 4, .mv (.const (.bool false))⟩])
  (.ret)) (.skip)))
  (.seq (.seq (.rg [⟨none, some 5, .mv (.const (.int .i64 0))⟩])
  (.blk 0 (.loop q [0, 1, 5] (ac32_L0 q))))
  (.seq (.rg [⟨none, some 4, .mv (.const (.bool true))⟩])
  (.ret))))
theorem ac32_ok (q : Option (Nat × Nat)) : compF Go.Proofs.Tryd.prog Go.Proofs.Tryd.f32 (ac32 q) = some (ac32 q, [.tmp 4]) := by kernel_rfl

/- clearway clearwaykit.HasInt -/
def ac33_L0 (q : Option (Nat × Nat)) : AC := .seq (.seq (.rg [⟨none, some 6, .mv (.tmp 5)⟩,
    ⟨none, some 7, .mv (.tmp 0)⟩,
    ⟨none, some 8, .len (.tmp 7)⟩,
    ⟨none, some 9, .bin .lss (.tmp 6) (.tmp 8)⟩])
  (.cond (.tmp 9) (.skip) (.exit 0)))
  (.seq (.blk 1 (.seq (.rg [⟨none, some 12, .mv (.tmp 0)⟩,
    ⟨none, some 13, .mv (.tmp 5)⟩,
    ⟨none, some 14, .idx 1 (.tmp 12) (.tmp 13)⟩,
    ⟨none, some 15, .load (.tmp 14)⟩,
    ⟨none, some 16, .mv (.tmp 1)⟩,
    ⟨none, some 17, .bin .eql (.tmp 15) (.tmp 16)⟩])
  (.cond (.tmp 17) (.seq (.rg [⟨none, some 4, .mv (.const (.bool true))⟩])
  (.ret)) (.skip))))
  (.rg [⟨none, some 10, .mv (.tmp 5)⟩,
    ⟨none, some 11, .bin .add (.tmp 10) (.const (.int .i64 1))⟩,
    ⟨none, some 5, .mv (.tmp 11)⟩]))
def ac33 (q : Option (Nat × Nat)) : AC := .seq (.rg [⟨none, some 4, .mv (.const (.bool false))⟩])
  (.seq (.seq (.rg [⟨none, some 5, .mv (.const (.int .i64 0))⟩])
  (.blk 0 (.loop q [0, 1, 5] (ac33_L0 q))))
  (.seq (.rg [⟨none, some 4, .mv (.const (.bool false))⟩])
  (.ret)))
theorem ac33_ok (q : Option (Nat × Nat)) : compF Go.Proofs.Tryd.prog Go.Proofs.Tryd.f33 (ac33 q) = some (ac33 q, [.tmp 4]) := by kernel_rfl

/- clearway clearwaylaw10.all -/
def ac34_L0 (q : Option (Nat × Nat)) : AC := .seq (.seq (.rg [⟨none, some 9, .mv (.tmp 6)⟩,
    ⟨none, some 10, .mv (.tmp 0)⟩,
    ⟨none, some 11, .bin .lss (.tmp 9) (.tmp 10)⟩])
  (.cond (.tmp 11) (.skip) (.exit 0)))
  (.seq (.blk 1 (.rg [⟨none, some 14, .mv (.tmp 5)⟩,
    ⟨none, some 15, .mv (.tmp 6)⟩,
    ⟨none, some 16, .mv (.tmp 1)⟩,
    ⟨none, some 17, .idx 1 (.tmp 14) (.tmp 15)⟩,
    ⟨none, none, .store 1 (.tmp 17) (.tmp 16)⟩]))
  (.rg [⟨none, some 12, .mv (.tmp 6)⟩,
    ⟨none, some 13, .bin .add (.tmp 12) (.const (.int .i64 1))⟩,
    ⟨none, some 6, .mv (.tmp 13)⟩]))
def ac34 (q : Option (Nat × Nat)) : AC := .seq (.rg [⟨none, some 4, .mv (.const (.slice none 0 0))⟩])
  (.seq (.rg [⟨none, some 7, .mv (.tmp 0)⟩,
    ⟨none, some 8, .mslice 5 1 1 [.p (.v (.int .u8 0))] (.tmp 7) (.tmp 7)⟩,
    ⟨none, some 5, .mv (.tmp 8)⟩])
  (.seq (.seq (.rg [⟨none, some 6, .mv (.const (.int .i64 0))⟩])
  (.blk 0 (.loop q [0, 1, 5, 6] (ac34_L0 q))))
  (.seq (.rg [⟨none, some 18, .mv (.tmp 5)⟩,
    ⟨none, some 4, .mv (.tmp 18)⟩])
  (.ret))))
theorem ac34_ok (q : Option (Nat × Nat)) : compF Go.Proofs.Tryd.prog Go.Proofs.Tryd.f34 (ac34 q) = some (ac34 q, [.tmp 4]) := by kernel_rfl

/- clearway clearwaykit.CopyBytes -/
def ac35_L0 (q : Option (Nat × Nat)) : AC := .seq (.seq (.rg [⟨none, some 5, .mv (.tmp 4)⟩,
    ⟨none, some 6, .mv (.tmp 0)⟩,
    ⟨none, some 7, .len (.tmp 6)⟩,
    ⟨none, some 8, .bin .lss (.tmp 5) (.tmp 7)⟩])
  (.cond (.tmp 8) (.skip) (.exit 0)))
  (.seq (.blk 1 (.rg [⟨none, some 11, .mv (.tmp 3)⟩,
    ⟨none, some 12, .mv (.tmp 0)⟩,
    ⟨none, some 13, .mv (.tmp 4)⟩,
    ⟨none, some 14, .idx 1 (.tmp 12) (.tmp 13)⟩,
    ⟨none, some 15, .load (.tmp 14)⟩,
    ⟨none, some 16, .bslice false 5 1 1 [.p (.v (.int .u8 0))] [(0, 1, .tmp 15)]⟩,
    ⟨none, some 17, .append 5 1 1 (.tmp 11) (.tmp 16)⟩,
    ⟨none, some 3, .mv (.tmp 17)⟩]))
  (.rg [⟨none, some 9, .mv (.tmp 4)⟩,
    ⟨none, some 10, .bin .add (.tmp 9) (.const (.int .i64 1))⟩,
    ⟨none, some 4, .mv (.tmp 10)⟩]))
def ac35 (q : Option (Nat × Nat)) : AC := .seq (.rg [⟨none, some 2, .mv (.const (.slice none 0 0))⟩])
  (.seq (.rg [⟨none, some 3, .mv (.const (.slice none 0 0))⟩])
  (.seq (.seq (.rg [⟨none, some 4, .mv (.const (.int .i64 0))⟩])
  (.blk 0 (.loop q [0, 3, 4] (ac35_L0 q))))
  (.seq (.rg [⟨none, some 18, .mv (.tmp 3)⟩,
    ⟨none, some 2, .mv (.tmp 18)⟩])
  (.ret))))
theorem ac35_ok (q : Option (Nat × Nat)) : compF Go.Proofs.Tryd.prog Go.Proofs.Tryd.f35 (ac35 q) = some (ac35 q, [.tmp 2]) := by kernel_rfl

/- clearway bits.Check -/
def ac36 (q : Option (Nat × Nat)) : AC := .seq (.rg [⟨none, some 2, .mv (.const (.int .i64 0))⟩])
  (.seq (.rg [⟨none, some 3, .mv (.tmp 0)⟩,
    ⟨none, some 4, .bslice false 23 1 1 [.p (.sl (some true) 0 [])] [(0, 1, .tmp 3)]⟩,
    ⟨none, some 5, .call 44 [.tmp 4]⟩,
    ⟨none, some 2, .mv (.tmp 5)⟩])
  (.ret))
theorem ac36_ok (q : Option (Nat × Nat)) : compF Go.Proofs.Tryd.prog Go.Proofs.Tryd.f36 (ac36 q) = some (ac36 q, [.tmp 2]) := by kernel_rfl

/- clearway clearwayref10.preamble -/
def ac37 (q : Option (Nat × Nat)) : AC := .seq (.rg [⟨none, some 2, .mv (.const (.slice none 0 0))⟩])
  (.seq (.rg [⟨none, some 3, .mv (.tmp 0)⟩,
    ⟨none, some 4, .mv (.tmp 0)⟩,
    ⟨none, some 5, .bin .add (.tmp 4) (.const (.int .i64 2))⟩,
    ⟨none, some 6, .mv (.tmp 0)⟩,
    ⟨none, some 7, .bin .add (.tmp 6) (.const (.int .i64 7))⟩,
    ⟨none, some 8, .mv (.tmp 0)⟩,
    ⟨none, some 9, .bin .add (.tmp 8) (.const (.int .i64 9))⟩,
    ⟨none, some 10, .bslice true 3 4 1 [.p (.v (.int .i64 0))] [(0, 1, .tmp 3), (1, 1, .tmp 5), (2, 1, .tmp 7), (3, 1, .tmp 9)]⟩,
    ⟨none, some 2, .mv (.tmp 10)⟩])
  (.ret))
theorem ac37_ok (q : Option (Nat × Nat)) : compF Go.Proofs.Tryd.prog Go.Proofs.Tryd.f37 (ac37 q) = some (ac37 q, [.tmp 2]) := by kernel_rfl

/- clearway pulse.of -/
def ac38_L0 (q : Option (Nat × Nat)) : AC := .seq (.rg [⟨none, some 24, .bin .lss (.tmp 23) (.tmp 22)⟩])
  (.seq (.cond (.tmp 24) (.skip) (.exit 2))
  (.seq (.blk 3 (.seq (.rg [⟨none, some 25, .idx 1 (.tmp 21) (.tmp 23)⟩,
    ⟨none, some 26, .load (.tmp 25)⟩,
    ⟨none, some 8, .mv (.tmp 26)⟩])
  (.rg [⟨none, some 27, .mv (.tmp 8)⟩,
    ⟨none, some 28, .idxA 1024 1 (.tmp 2) (.tmp 27)⟩,
    ⟨none, none, .store 1 (.tmp 28) (.const (.bool true))⟩])))
  (.rg [⟨none, some 29, .bin .add (.tmp 23) (.const (.int .i64 1))⟩,
    ⟨none, some 23, .mv (.tmp 29)⟩])))
def ac38_L1 (q : Option (Nat × Nat)) : AC := .seq (.rg [⟨none, some 12, .bin .lss (.tmp 11) (.tmp 10)⟩])
  (.seq (.cond (.tmp 12) (.skip) (.exit 0))
  (.seq (.blk 1 (.seq (.rg [⟨none, some 13, .idx 1 (.tmp 9) (.tmp 11)⟩,
    ⟨none, some 14, .load (.tmp 13)⟩,
    ⟨none, some 5, .mv (.tmp 14)⟩])
  (.seq (.seq (.rg [⟨none, some 15, .mv (.tmp 5)⟩,
    ⟨none, some 16, .call 22 [.tmp 15]⟩,
    ⟨none, some 6, .mv (.tmp 16)⟩])
  (.seq (.rg [⟨none, some 17, .mv (.tmp 6)⟩,
    ⟨none, some 18, .bin .neq (.tmp 17) (.const (.int .i64 0))⟩])
  (.cond (.tmp 18) (.seq (.rg [⟨none, some 19, .loadA 1024 (.tmp 2)⟩,
    ⟨none, some 20, .mv (.tmp 6)⟩,
    ⟨none, none, .store 1024 (.tmp 2) (.tmp 19)⟩,
    ⟨none, some 3, .mv (.tmp 20)⟩])
  (.ret)) (.skip))))
  (.seq (.rg [⟨none, some 21, .mv (.tmp 5)⟩,
    ⟨none, some 22, .len (.tmp 21)⟩,
    ⟨none, some 23, .mv (.const (.int .i64 0))⟩])
  (.blk 2 (.loop q [2, 9, 10, 11, 21, 22, 23] (ac38_L0 q)))))))
  (.rg [⟨none, some 30, .bin .add (.tmp 11) (.const (.int .i64 1))⟩,
    ⟨none, some 11, .mv (.tmp 30)⟩])))
def ac38 (q : Option (Nat × Nat)) : AC := .seq (.rg [⟨none, some 2, .allocL 67 [(1024, .bool false)]⟩,
    ⟨none, some 3, .mv (.const (.int .i64 0))⟩])
  (.seq (.seq (.rg [⟨none, some 9, .mv (.tmp 0)⟩,
    ⟨none, some 10, .len (.tmp 9)⟩,
    ⟨none, some 11, .mv (.const (.int .i64 0))⟩])
  (.blk 0 (.loop q [2, 9, 10, 11] (ac38_L1 q))))
  (.seq (.rg [⟨none, some 31, .loadA 1024 (.tmp 2)⟩,
    ⟨none, none, .store 1024 (.tmp 2) (.tmp 31)⟩,
    ⟨none, some 3, .mv (.const (.int .i64 0))⟩])
  (.ret)))
theorem ac38_ok (q : Option (Nat × Nat)) : compF Go.Proofs.Tryd.prog Go.Proofs.Tryd.f38 (ac38 q) = some (ac38 q, [.cell 2 (some 1024), .tmp 3]) := by kernel_rfl

/- (*clearway pulse.sweep).slots -/
def ac39 (q : Option (Nat × Nat)) : AC := .seq (.rg [⟨none, some 1, .box 77 (.tmp 0)⟩,
    ⟨none, some 2, .mv (.const .nilFunc)⟩])
  (.seq (.rg [⟨none, some 3, .mkfn (.func 45) [] [.tmp 1]⟩,
    ⟨none, some 2, .mv (.tmp 3)⟩])
  (.ret))
theorem ac39_ok (q : Option (Nat × Nat)) : compF Go.Proofs.Tryd.prog Go.Proofs.Tryd.f39 (ac39 q) = some (ac39 q, [.tmp 2]) := by kernel_rfl

/- clearway clearwayref10.on -/
def ac40_L0 (q : Option (Nat × Nat)) : AC := .seq (.seq (.rg [⟨none, some 6, .mv (.tmp 5)⟩,
    ⟨none, some 7, .mv (.tmp 0)⟩,
    ⟨none, some 8, .len (.tmp 7)⟩,
    ⟨none, some 9, .bin .lss (.tmp 6) (.tmp 8)⟩])
  (.cond (.tmp 9) (.skip) (.exit 0)))
  (.seq (.blk 1 (.seq (.rg [⟨none, some 12, .mv (.tmp 0)⟩,
    ⟨none, some 13, .mv (.tmp 5)⟩,
    ⟨none, some 14, .idx 1 (.tmp 12) (.tmp 13)⟩,
    ⟨none, some 15, .load (.tmp 14)⟩,
    ⟨none, some 16, .mv (.tmp 1)⟩,
    ⟨none, some 17, .bin .eql (.tmp 15) (.tmp 16)⟩])
  (.cond (.tmp 17) (.seq (.rg [⟨none, some 4, .mv (.const (.bool true))⟩])
  (.ret)) (.skip))))
  (.rg [⟨none, some 10, .mv (.tmp 5)⟩,
    ⟨none, some 11, .bin .add (.tmp 10) (.const (.int .i64 1))⟩,
    ⟨none, some 5, .mv (.tmp 11)⟩]))
def ac40 (q : Option (Nat × Nat)) : AC := .seq (.rg [⟨none, some 4, .mv (.const (.bool false))⟩])
  (.seq (.seq (.rg [⟨none, some 5, .mv (.const (.int .i64 0))⟩])
  (.blk 0 (.loop q [0, 1, 5] (ac40_L0 q))))
  (.seq (.rg [⟨none, some 4, .mv (.const (.bool false))⟩])
  (.ret)))
theorem ac40_ok (q : Option (Nat × Nat)) : compF Go.Proofs.Tryd.prog Go.Proofs.Tryd.f40 (ac40 q) = some (ac40 q, [.tmp 4]) := by kernel_rfl

/- clearway clearwaykit.CopyInts -/
def ac41_L0 (q : Option (Nat × Nat)) : AC := .seq (.seq (.rg [⟨none, some 5, .mv (.tmp 4)⟩,
    ⟨none, some 6, .mv (.tmp 0)⟩,
    ⟨none, some 7, .len (.tmp 6)⟩,
    ⟨none, some 8, .bin .lss (.tmp 5) (.tmp 7)⟩])
  (.cond (.tmp 8) (.skip) (.exit 0)))
  (.seq (.blk 1 (.rg [⟨none, some 11, .mv (.tmp 3)⟩,
    ⟨none, some 12, .mv (.tmp 0)⟩,
    ⟨none, some 13, .mv (.tmp 4)⟩,
    ⟨none, some 14, .idx 1 (.tmp 12) (.tmp 13)⟩,
    ⟨none, some 15, .load (.tmp 14)⟩,
    ⟨none, some 16, .bslice false 3 1 1 [.p (.v (.int .i64 0))] [(0, 1, .tmp 15)]⟩,
    ⟨none, some 17, .append 3 1 8 (.tmp 11) (.tmp 16)⟩,
    ⟨none, some 3, .mv (.tmp 17)⟩]))
  (.rg [⟨none, some 9, .mv (.tmp 4)⟩,
    ⟨none, some 10, .bin .add (.tmp 9) (.const (.int .i64 1))⟩,
    ⟨none, some 4, .mv (.tmp 10)⟩]))
def ac41 (q : Option (Nat × Nat)) : AC := .seq (.rg [⟨none, some 2, .mv (.const (.slice none 0 0))⟩])
  (.seq (.rg [⟨none, some 3, .mv (.const (.slice none 0 0))⟩])
  (.seq (.seq (.rg [⟨none, some 4, .mv (.const (.int .i64 0))⟩])
  (.blk 0 (.loop q [0, 3, 4] (ac41_L0 q))))
  (.seq (.rg [⟨none, some 18, .mv (.tmp 3)⟩,
    ⟨none, some 2, .mv (.tmp 18)⟩])
  (.ret))))
theorem ac41_ok (q : Option (Nat × Nat)) : compF Go.Proofs.Tryd.prog Go.Proofs.Tryd.f41 (ac41 q) = some (ac41 q, [.tmp 2]) := by kernel_rfl

/- (*clearway pulse.sweep).starts -/
def ac42_L0 (q : Option (Nat × Nat)) : AC := .seq (.rg [⟨none, some 9, .bin .lss (.tmp 8) (.const (.int .i64 4))⟩])
  (.seq (.cond (.tmp 9) (.skip) (.exit 0))
  (.seq (.blk 1 (.seq (.rg [⟨none, some 10, .index 4 1 false (.tmp 7) (.tmp 8)⟩,
    ⟨none, some 6, .mv (.tmp 10)⟩])
  (.seq (.rg [⟨none, some 11, .mv (.tmp 1)⟩,
    ⟨none, some 12, .mv (.tmp 6)⟩,
    ⟨none, some 13, .bin .add (.tmp 11) (.tmp 12)⟩,
    ⟨none, some 14, .bin .geq (.tmp 13) (.const (.int .i64 1024))⟩,
    ⟨none, some 15, .mv (.tmp 14)⟩,
    ⟨some (15, false), some 16, .mv (.tmp 0)⟩,
    ⟨some (15, false), some 17, .mv (.tmp 1)⟩,
    ⟨some (15, false), some 18, .mv (.tmp 6)⟩,
    ⟨some (15, false), some 19, .bin .add (.tmp 17) (.tmp 18)⟩,
    ⟨some (15, false), some 20, .nilck (.tmp 16)⟩,
    ⟨some (15, false), some 21, .idxA 1024 1 (.tmp 20) (.tmp 19)⟩,
    ⟨some (15, false), some 22, .load (.tmp 21)⟩,
    ⟨some (15, false), some 23, .un .not (.tmp 22)⟩,
    ⟨none, some 24, .pick (.tmp 15) (.const (.bool true)) (.tmp 23)⟩])
  (.cond (.tmp 24) (.seq (.rg [⟨none, some 4, .mv (.const (.bool false))⟩])
  (.ret)) (.skip)))))
  (.rg [⟨none, some 25, .bin .add (.tmp 8) (.const (.int .i64 1))⟩,
    ⟨none, some 8, .mv (.tmp 25)⟩])))
def ac42 (q : Option (Nat × Nat)) : AC := .seq (.rg [⟨none, some 4, .mv (.const (.bool false))⟩])
  (.seq (.seq (.rg [⟨none, some 7, .loadA 4 (.global 0)⟩,
    ⟨none, some 8, .mv (.const (.int .i64 0))⟩])
  (.blk 0 (.loop q [0, 1, 7, 8] (ac42_L0 q))))
  (.seq (.rg [⟨none, some 4, .mv (.const (.bool true))⟩])
  (.ret)))
theorem ac42_ok (q : Option (Nat × Nat)) : compF Go.Proofs.Tryd.prog Go.Proofs.Tryd.f42 (ac42 q) = some (ac42 q, [.tmp 4]) := by kernel_rfl

/- clearway clearwayref10.starts -/
def ac43 (q : Option (Nat × Nat)) : AC := .seq (.rg [⟨none, some 4, .mv (.const (.bool false))⟩])
  (.seq (.rg [⟨none, some 6, .mv (.tmp 1)⟩,
    ⟨none, some 7, .call 37 [.tmp 6]⟩,
    ⟨none, some 5, .mv (.tmp 7)⟩])
  (.seq (.rg [⟨none, some 8, .mv (.tmp 0)⟩,
    ⟨none, some 9, .mv (.tmp 5)⟩,
    ⟨none, some 10, .idx 1 (.tmp 9) (.const (.int .i64 0))⟩,
    ⟨none, some 11, .load (.tmp 10)⟩,
    ⟨none, some 12, .call 40 [.tmp 8, .tmp 11]⟩,
    ⟨none, some 13, .mv (.tmp 12)⟩,
    ⟨some (13, true), some 14, .mv (.tmp 0)⟩,
    ⟨some (13, true), some 15, .mv (.tmp 5)⟩,
    ⟨some (13, true), some 16, .idx 1 (.tmp 15) (.const (.int .i64 1))⟩,
    ⟨some (13, true), some 17, .load (.tmp 16)⟩,
    ⟨some (13, true), some 18, .call 40 [.tmp 14, .tmp 17]⟩,
    ⟨none, some 19, .pick (.tmp 13) (.tmp 18) (.const (.bool false))⟩,
    ⟨none, some 20, .mv (.tmp 19)⟩,
    ⟨some (20, true), some 21, .mv (.tmp 0)⟩,
    ⟨some (20, true), some 22, .mv (.tmp 5)⟩,
    ⟨some (20, true), some 23, .idx 1 (.tmp 22) (.const (.int .i64 2))⟩,
    ⟨some (20, true), some 24, .load (.tmp 23)⟩,
    ⟨some (20, true), some 25, .call 40 [.tmp 21, .tmp 24]⟩,
    ⟨none, some 26, .pick (.tmp 20) (.tmp 25) (.const (.bool false))⟩,
    ⟨none, some 27, .mv (.tmp 26)⟩,
    ⟨some (27, true), some 28, .mv (.tmp 0)⟩,
    ⟨some (27, true), some 29, .mv (.tmp 5)⟩,
    ⟨some (27, true), some 30, .idx 1 (.tmp 29) (.const (.int .i64 3))⟩,
    ⟨some (27, true), some 31, .load (.tmp 30)⟩,
    ⟨some (27, true), some 32, .call 40 [.tmp 28, .tmp 31]⟩,
    ⟨none, some 33, .pick (.tmp 27) (.tmp 32) (.const (.bool false))⟩,
    ⟨none, some 4, .mv (.tmp 33)⟩])
  (.ret)))
theorem ac43_ok (q : Option (Nat × Nat)) : compF Go.Proofs.Tryd.prog Go.Proofs.Tryd.f43 (ac43 q) = some (ac43 q, [.tmp 4]) := by kernel_rfl

/- clearway bits.check -/
def ac44_L0 (q : Option (Nat × Nat)) : AC := .seq (.rg [⟨none, some 8, .bin .lss (.tmp 7) (.tmp 6)⟩])
  (.seq (.cond (.tmp 8) (.skip) (.exit 0))
  (.seq (.blk 1 (.seq (.rg [⟨none, some 9, .idx 1 (.tmp 5) (.tmp 7)⟩,
    ⟨none, some 10, .load (.tmp 9)⟩,
    ⟨none, some 4, .mv (.tmp 10)⟩])
  (.seq (.seq (.rg [⟨none, some 11, .mv (.tmp 4)⟩,
    ⟨none, some 12, .len (.tmp 11)⟩,
    ⟨none, some 13, .bin .gtr (.tmp 12) (.const (.int .i64 128))⟩])
  (.cond (.tmp 13) (.seq (.rg [⟨none, some 2, .mv (.const (.int .i64 4))⟩])
  (.ret)) (.skip)))
  (.seq (.rg [⟨none, some 14, .mv (.tmp 4)⟩,
    ⟨none, some 15, .call 46 [.tmp 14, .func 47]⟩])
  (.cond (.tmp 15) (.seq (.rg [⟨none, some 2, .mv (.const (.int .i64 1))⟩])
  (.ret)) (.skip))))))
  (.rg [⟨none, some 16, .bin .add (.tmp 7) (.const (.int .i64 1))⟩,
    ⟨none, some 7, .mv (.tmp 16)⟩])))
def ac44 (q : Option (Nat × Nat)) : AC := .seq (.rg [⟨none, some 2, .mv (.const (.int .i64 0))⟩])
  (.seq (.seq (.rg [⟨none, some 5, .mv (.tmp 0)⟩,
    ⟨none, some 6, .len (.tmp 5)⟩,
    ⟨none, some 7, .mv (.const (.int .i64 0))⟩])
  (.blk 0 (.loop q [5, 6, 7] (ac44_L0 q))))
  (.seq (.rg [⟨none, some 2, .mv (.const (.int .i64 0))⟩])
  (.ret)))
theorem ac44_ok (q : Option (Nat × Nat)) : compF Go.Proofs.Tryd.prog Go.Proofs.Tryd.f44 (ac44 q) = some (ac44 q, [.tmp 2]) := by kernel_rfl

/- (*clearway pulse.sweep).slots$1 -/
def ac45_L0 (q : Option (Nat × Nat)) : AC := .seq (.rg [⟨none, some 7, .bin .lss (.tmp 6) (.const (.int .i64 1024))⟩])
  (.seq (.cond (.tmp 7) (.skip) (.exit 0))
  (.seq (.blk 1 (.seq (.dr [(false, [(0, 0), (1, 0), (2, 0), (3, 0), (4, 0)], [⟨none, some 8, .mv (.tmp 6)⟩,
    ⟨none, some 9, .nilck (.tmp 5)⟩,
    ⟨none, some 10, .idxA 1024 1 (.tmp 9) (.tmp 6)⟩,
    ⟨none, some 11, .load (.tmp 10)⟩,
    ⟨none, some 3, .mv (.tmp 8)⟩]),
   (true, [(5, 0)], [⟨none, some 4, .mv (.tmp 11)⟩])])
  (.iy 4 [⟨none, some 12, .mv (.tmp 4)⟩,
    ⟨none, some 13, .mv (.tmp 12)⟩,
    ⟨some (13, true), some 14, .mv (.tmp 0)⟩,
    ⟨some (13, true), some 15, .mv (.tmp 3)⟩,
    ⟨some (13, true), some 16, .callv (.tmp 14) [.tmp 15]⟩,
    ⟨some (13, true), some 17, .un .not (.tmp 16)⟩,
    ⟨none, some 18, .pick (.tmp 13) (.tmp 17) (.const (.bool false))⟩] (.tmp 18) (.ret) (.skip))))
  (.rg [⟨none, some 19, .bin .add (.tmp 6) (.const (.int .i64 1))⟩,
    ⟨none, some 6, .mv (.tmp 19)⟩])))
def ac45 (q : Option (Nat × Nat)) : AC := .seq (.rg [⟨none, some 5, .load (.tmp 1)⟩,
    ⟨none, some 6, .mv (.const (.int .i64 0))⟩])
  (.blk 0 (.loop q [0, 5, 6] (ac45_L0 q)))
theorem ac45_ok (q : Option (Nat × Nat)) : compF Go.Proofs.Tryd.prog Go.Proofs.Tryd.f45 (ac45 q) = some (ac45 q, []) := by kernel_rfl

/- slices.ContainsFunc[clearway api.Bits,uint8] -/
def ac46 (q : Option (Nat × Nat)) : AC := .seq (.rg [⟨none, some 4, .mv (.const (.bool false))⟩])
  (.seq (.rg [⟨none, some 5, .mv (.tmp 0)⟩,
    ⟨none, some 6, .mv (.tmp 1)⟩,
    ⟨none, some 7, .call 48 [.tmp 5, .tmp 6]⟩,
    ⟨none, some 8, .bin .geq (.tmp 7) (.const (.int .i64 0))⟩,
    ⟨none, some 4, .mv (.tmp 8)⟩])
  (.ret))
theorem ac46_ok (q : Option (Nat × Nat)) : compF Go.Proofs.Tryd.prog Go.Proofs.Tryd.f46 (ac46 q) = some (ac46 q, [.tmp 4]) := by kernel_rfl

/- clearway bits.check$1 -/
def ac47 (q : Option (Nat × Nat)) : AC := .seq (.rg [⟨none, some 2, .mv (.const (.bool false))⟩])
  (.seq (.rg [⟨none, some 3, .mv (.tmp 0)⟩,
    ⟨none, some 4, .bin .gtr (.tmp 3) (.const (.int .u8 1))⟩,
    ⟨none, some 2, .mv (.tmp 4)⟩])
  (.ret))
theorem ac47_ok (q : Option (Nat × Nat)) : compF Go.Proofs.Tryd.prog Go.Proofs.Tryd.f47 (ac47 q) = some (ac47 q, [.tmp 2]) := by kernel_rfl

/- slices.IndexFunc[clearway api.Bits,uint8] -/
def ac48_L0 (q : Option (Nat × Nat)) : AC := .seq (.rg [⟨none, some 9, .bin .lss (.tmp 8) (.tmp 7)⟩])
  (.seq (.cond (.tmp 9) (.skip) (.exit 0))
  (.seq (.blk 1 (.seq (.rg [⟨none, some 10, .mv (.tmp 8)⟩,
    ⟨none, some 5, .mv (.tmp 10)⟩])
  (.seq (.rg [⟨none, some 11, .mv (.tmp 1)⟩,
    ⟨none, some 12, .mv (.tmp 0)⟩,
    ⟨none, some 13, .mv (.tmp 5)⟩,
    ⟨none, some 14, .idx 1 (.tmp 12) (.tmp 13)⟩,
    ⟨none, some 15, .load (.tmp 14)⟩,
    ⟨none, some 16, .callv (.tmp 11) [.tmp 15]⟩])
  (.cond (.tmp 16) (.seq (.rg [⟨none, some 17, .mv (.tmp 5)⟩,
    ⟨none, some 4, .mv (.tmp 17)⟩])
  (.ret)) (.skip)))))
  (.rg [⟨none, some 18, .bin .add (.tmp 8) (.const (.int .i64 1))⟩,
    ⟨none, some 8, .mv (.tmp 18)⟩])))
def ac48 (q : Option (Nat × Nat)) : AC := .seq (.rg [⟨none, some 4, .mv (.const (.int .i64 0))⟩])
  (.seq (.seq (.rg [⟨none, some 6, .mv (.tmp 0)⟩,
    ⟨none, some 7, .len (.tmp 6)⟩,
    ⟨none, some 8, .mv (.const (.int .i64 0))⟩])
  (.blk 0 (.loop q [0, 1, 7, 8] (ac48_L0 q))))
  (.seq (.rg [⟨none, some 4, .mv (.const (.int .i64 (-1)))⟩])
  (.ret)))
theorem ac48_ok (q : Option (Nat × Nat)) : compF Go.Proofs.Tryd.prog Go.Proofs.Tryd.f48 (ac48 q) = some (ac48 q, [.tmp 4]) := by kernel_rfl

/- clearway pulse.Merge -/
def ac15 (q : Option (Nat × Nat)) (q2 : Option (Nat × Nat) := none) : AC := .seq (.rg [⟨none, some 2, .alloc 30 [.p (.sl (some true) 0 [])]⟩,
    ⟨none, some 3, .mv (.const (.int .i64 0))⟩])
  (.seq (.seq (.rg [⟨none, some 6, .mv (.tmp 0)⟩,
    ⟨none, some 7, .len (.tmp 6)⟩,
    ⟨none, some 8, .bin .gtr (.tmp 7) (.const (.int .i64 8))⟩])
  (.cond (.tmp 8) (.seq (.rg [⟨none, none, .store 1 (.tmp 2) (.const (.slice none 0 0))⟩,
    ⟨none, some 3, .mv (.const (.int .i64 10))⟩])
  (.ret)) (.skip)))
  (.seq (.rg [⟨none, some 10, .mv (.tmp 0)⟩,
    ⟨none, some 11, .call 38 [.tmp 10]⟩,
    ⟨none, some 9, .mv (.tmp 11)⟩,
    ⟨none, some 12, .extract (.tmp 9) 0⟩,
    ⟨none, some 13, .extract (.tmp 9) 1⟩,
    ⟨none, some 4, .allocL 67 [(1024, .bool false)]⟩,
    ⟨none, none, .store 1024 (.tmp 4) (.tmp 12)⟩,
    ⟨none, some 3, .mv (.tmp 13)⟩])
  (.seq (.seq (.rg [⟨none, some 14, .mv (.tmp 3)⟩,
    ⟨none, some 15, .bin .neq (.tmp 14) (.const (.int .i64 0))⟩])
  (.cond (.tmp 15) (.seq (.rg [⟨none, some 16, .mv (.tmp 3)⟩,
    ⟨none, none, .store 1 (.tmp 2) (.const (.slice none 0 0))⟩,
    ⟨none, some 3, .mv (.tmp 16)⟩])
  (.ret)) (.skip)))
  (.seq (.seq (.rg [⟨none, some 17, .call 39 [.tmp 4]⟩])
  (.blk 0 (.rf (.tmp 17) [18] 45 20 (ac45 q2)
  (.rg [⟨none, some 5, .mv (.tmp 18)⟩])
  (.blk 1 (.rg [⟨none, some 19, .load (.tmp 2)⟩,
    ⟨none, some 20, .mv (.tmp 5)⟩,
    ⟨none, some 21, .bslice false 3 1 1 [.p (.v (.int .i64 0))] [(0, 1, .tmp 20)]⟩,
    ⟨none, some 22, .append 3 1 8 (.tmp 19) (.tmp 21)⟩,
    ⟨none, none, .store 1 (.tmp 2) (.tmp 22)⟩])))))
  (.seq (.rg [⟨none, some 23, .load (.tmp 2)⟩,
    ⟨none, none, .store 1 (.tmp 2) (.tmp 23)⟩,
    ⟨none, some 3, .mv (.const (.int .i64 0))⟩])
  (.ret))))))
theorem ac15_ok (q : Option (Nat × Nat)) (q2 : Option (Nat × Nat) := none) : compF Go.Proofs.Tryd.prog Go.Proofs.Tryd.f15 (ac15 q q2) = some (ac15 q q2, [.cell 2 none, .tmp 3]) := by kernel_rfl

/- clearway pulse.Starts -/
def ac25 (q : Option (Nat × Nat)) (q2 : Option (Nat × Nat) := none) : AC := .seq (.rg [⟨none, some 2, .alloc 29 [.p (.sl (some true) 0 [])]⟩,
    ⟨none, some 3, .mv (.const (.int .i64 0))⟩])
  (.seq (.rg [⟨none, some 7, .mv (.tmp 0)⟩,
    ⟨none, some 8, .bslice false 30 1 1 [.p (.sl (some true) 0 [])] [(0, 1, .tmp 7)]⟩,
    ⟨none, some 9, .call 38 [.tmp 8]⟩,
    ⟨none, some 6, .mv (.tmp 9)⟩,
    ⟨none, some 10, .extract (.tmp 6) 0⟩,
    ⟨none, some 11, .extract (.tmp 6) 1⟩,
    ⟨none, some 4, .allocL 67 [(1024, .bool false)]⟩,
    ⟨none, none, .store 1024 (.tmp 4) (.tmp 10)⟩,
    ⟨none, some 3, .mv (.tmp 11)⟩])
  (.seq (.seq (.rg [⟨none, some 12, .mv (.tmp 3)⟩,
    ⟨none, some 13, .bin .neq (.tmp 12) (.const (.int .i64 0))⟩])
  (.cond (.tmp 13) (.seq (.rg [⟨none, some 14, .mv (.tmp 3)⟩,
    ⟨none, none, .store 1 (.tmp 2) (.const (.slice none 0 0))⟩,
    ⟨none, some 3, .mv (.tmp 14)⟩])
  (.ret)) (.skip)))
  (.seq (.seq (.rg [⟨none, some 15, .call 39 [.tmp 4]⟩])
  (.blk 0 (.rf (.tmp 15) [16] 45 20 (ac45 q2)
  (.rg [⟨none, some 5, .mv (.tmp 16)⟩])
  (.blk 1 (.seq (.rg [⟨none, some 17, .mv (.tmp 5)⟩,
    ⟨none, some 18, .call 42 [.tmp 4, .tmp 17]⟩])
  (.cond (.tmp 18) (.rg [⟨none, some 19, .load (.tmp 2)⟩,
    ⟨none, some 20, .mv (.tmp 5)⟩,
    ⟨none, some 21, .bslice false 3 1 1 [.p (.v (.int .i64 0))] [(0, 1, .tmp 20)]⟩,
    ⟨none, some 22, .append 3 1 8 (.tmp 19) (.tmp 21)⟩,
    ⟨none, none, .store 1 (.tmp 2) (.tmp 22)⟩]) (.skip)))))))
  (.seq (.rg [⟨none, some 23, .load (.tmp 2)⟩,
    ⟨none, none, .store 1 (.tmp 2) (.tmp 23)⟩,
    ⟨none, some 3, .mv (.const (.int .i64 0))⟩])
  (.ret)))))
theorem ac25_ok (q : Option (Nat × Nat)) (q2 : Option (Nat × Nat) := none) : compF Go.Proofs.Tryd.prog Go.Proofs.Tryd.f25 (ac25 q q2) = some (ac25 q q2, [.cell 2 none, .tmp 3]) := by kernel_rfl

noncomputable def s10tbl : Tbl :=
  tcons 3 (ac3 none, [.tmp 6], 141) <|
  tcons 4 (ac4 none, [.tmp 6], 77) <|
  tcons 5 (ac5 none, [.tmp 4], 214) <|
  tcons 6 (ac6 none, [.tmp 8], 198) <|
  tcons 7 (ac7 none, [.tmp 8], 129) <|
  tcons 8 (ac8 none, [.tmp 0], 227) <|
  tcons 9 (ac9 none, [.tmp 2], 19) <|
  tcons 10 (ac10 none, [.tmp 0], 151) <|
  tcons 11 (ac11 none, [.tmp 2], 5) <|
  tcons 12 (ac12 none, [.tmp 2], 20) <|
  tcons 13 (ac13 none, [.tmp 2, .tmp 3], 42) <|
  tcons 14 (ac14 none, [.tmp 2, .tmp 3], 54) <|
  tcons 15 (ac15 none, [.cell 2 none, .tmp 3], 24) <|
  tcons 16 (ac16 none, [.tmp 2, .tmp 3], 52) <|
  tcons 17 (ac17 none, [.tmp 4], 8) <|
  tcons 18 (ac18 none, [.tmp 4], 8) <|
  tcons 19 (ac19 none, [], 12) <|
  tcons 20 (ac20 none, [.tmp 4, .tmp 5], 53) <|
  tcons 21 (ac21 none, [.tmp 4, .tmp 5], 54) <|
  tcons 22 (ac22 none, [.tmp 2], 21) <|
  tcons 23 (ac23 none, [.tmp 2], 38) <|
  tcons 24 (ac24 none, [.tmp 2], 5) <|
  tcons 25 (ac25 none, [.cell 2 none, .tmp 3], 24) <|
  tcons 26 (ac26 none, [.tmp 2, .tmp 3], 32) <|
  tcons 27 (ac27 none, [.cell 6 (some 2), .tmp 7], 82) <|
  tcons 28 (ac28 none, [.cell 6 (some 2), .tmp 7], 88) <|
  tcons 29 (ac29 none, [.tmp 4], 26) <|
  tcons 30 (ac30 none, [.tmp 4], 17) <|
  tcons 31 (ac31 none, [], 12) <|
  tcons 32 (ac32 none, [.tmp 4], 26) <|
  tcons 33 (ac33 none, [.tmp 4], 18) <|
  tcons 34 (ac34 none, [.tmp 4], 19) <|
  tcons 35 (ac35 none, [.tmp 2], 19) <|
  tcons 36 (ac36 none, [.tmp 2], 6) <|
  tcons 37 (ac37 none, [.tmp 2], 11) <|
  tcons 38 (ac38 none, [.cell 2 (some 1024), .tmp 3], 32) <|
  tcons 39 (ac39 none, [.tmp 2], 4) <|
  tcons 40 (ac40 none, [.tmp 4], 18) <|
  tcons 41 (ac41 none, [.tmp 2], 19) <|
  tcons 42 (ac42 none, [.tmp 4], 26) <|
  tcons 43 (ac43 none, [.tmp 4], 34) <|
  tcons 44 (ac44 none, [.tmp 2], 17) <|
  tcons 45 (ac45 none, [], 20) <|
  tcons 46 (ac46 none, [.tmp 4], 9) <|
  tcons 47 (ac47 none, [.tmp 2], 5) <|
  tcons 48 (ac48 none, [.tmp 4], 19) <|
  fun _ => none
theorem s10tbl_ok : TblOK Go.Proofs.Tryd.prog s10tbl :=
  .cons Go.Proofs.Tryd.call3 Go.Proofs.Tryd.func3 (ac3_ok none) (by rw [Go.Proofs.Tryd.ntmps3]; exact Nat.le_refl _) <|
  .cons Go.Proofs.Tryd.call4 Go.Proofs.Tryd.func4 (ac4_ok none) (by rw [Go.Proofs.Tryd.ntmps4]; exact Nat.le_refl _) <|
  .cons Go.Proofs.Tryd.call5 Go.Proofs.Tryd.func5 (ac5_ok none) (by rw [Go.Proofs.Tryd.ntmps5]; exact Nat.le_refl _) <|
  .cons Go.Proofs.Tryd.call6 Go.Proofs.Tryd.func6 (ac6_ok none) (by rw [Go.Proofs.Tryd.ntmps6]; exact Nat.le_refl _) <|
  .cons Go.Proofs.Tryd.call7 Go.Proofs.Tryd.func7 (ac7_ok none) (by rw [Go.Proofs.Tryd.ntmps7]; exact Nat.le_refl _) <|
  .cons Go.Proofs.Tryd.call8 Go.Proofs.Tryd.func8 (ac8_ok none) (by rw [Go.Proofs.Tryd.ntmps8]; exact Nat.le_refl _) <|
  .cons Go.Proofs.Tryd.call9 Go.Proofs.Tryd.func9 (ac9_ok none) (by rw [Go.Proofs.Tryd.ntmps9]; exact Nat.le_refl _) <|
  .cons Go.Proofs.Tryd.call10 Go.Proofs.Tryd.func10 (ac10_ok none) (by rw [Go.Proofs.Tryd.ntmps10]; exact Nat.le_refl _) <|
  .cons Go.Proofs.Tryd.call11 Go.Proofs.Tryd.func11 (ac11_ok none) (by rw [Go.Proofs.Tryd.ntmps11]; exact Nat.le_refl _) <|
  .cons Go.Proofs.Tryd.call12 Go.Proofs.Tryd.func12 (ac12_ok none) (by rw [Go.Proofs.Tryd.ntmps12]; exact Nat.le_refl _) <|
  .cons Go.Proofs.Tryd.call13 Go.Proofs.Tryd.func13 (ac13_ok none) (by rw [Go.Proofs.Tryd.ntmps13]; exact Nat.le_refl _) <|
  .cons Go.Proofs.Tryd.call14 Go.Proofs.Tryd.func14 (ac14_ok none) (by rw [Go.Proofs.Tryd.ntmps14]; exact Nat.le_refl _) <|
  .cons Go.Proofs.Tryd.call15 Go.Proofs.Tryd.func15 (ac15_ok none) (by rw [Go.Proofs.Tryd.ntmps15]; exact Nat.le_refl _) <|
  .cons Go.Proofs.Tryd.call16 Go.Proofs.Tryd.func16 (ac16_ok none) (by rw [Go.Proofs.Tryd.ntmps16]; exact Nat.le_refl _) <|
  .cons Go.Proofs.Tryd.call17 Go.Proofs.Tryd.func17 (ac17_ok none) (by rw [Go.Proofs.Tryd.ntmps17]; exact Nat.le_refl _) <|
  .cons Go.Proofs.Tryd.call18 Go.Proofs.Tryd.func18 (ac18_ok none) (by rw [Go.Proofs.Tryd.ntmps18]; exact Nat.le_refl _) <|
  .cons Go.Proofs.Tryd.call19 Go.Proofs.Tryd.func19 (ac19_ok none) (by rw [Go.Proofs.Tryd.ntmps19]; exact Nat.le_refl _) <|
  .cons Go.Proofs.Tryd.call20 Go.Proofs.Tryd.func20 (ac20_ok none) (by rw [Go.Proofs.Tryd.ntmps20]; exact Nat.le_refl _) <|
  .cons Go.Proofs.Tryd.call21 Go.Proofs.Tryd.func21 (ac21_ok none) (by rw [Go.Proofs.Tryd.ntmps21]; exact Nat.le_refl _) <|
  .cons Go.Proofs.Tryd.call22 Go.Proofs.Tryd.func22 (ac22_ok none) (by rw [Go.Proofs.Tryd.ntmps22]; exact Nat.le_refl _) <|
  .cons Go.Proofs.Tryd.call23 Go.Proofs.Tryd.func23 (ac23_ok none) (by rw [Go.Proofs.Tryd.ntmps23]; exact Nat.le_refl _) <|
  .cons Go.Proofs.Tryd.call24 Go.Proofs.Tryd.func24 (ac24_ok none) (by rw [Go.Proofs.Tryd.ntmps24]; exact Nat.le_refl _) <|
  .cons Go.Proofs.Tryd.call25 Go.Proofs.Tryd.func25 (ac25_ok none) (by rw [Go.Proofs.Tryd.ntmps25]; exact Nat.le_refl _) <|
  .cons Go.Proofs.Tryd.call26 Go.Proofs.Tryd.func26 (ac26_ok none) (by rw [Go.Proofs.Tryd.ntmps26]; exact Nat.le_refl _) <|
  .cons Go.Proofs.Tryd.call27 Go.Proofs.Tryd.func27 (ac27_ok none) (by rw [Go.Proofs.Tryd.ntmps27]; exact Nat.le_refl _) <|
  .cons Go.Proofs.Tryd.call28 Go.Proofs.Tryd.func28 (ac28_ok none) (by rw [Go.Proofs.Tryd.ntmps28]; exact Nat.le_refl _) <|
  .cons Go.Proofs.Tryd.call29 Go.Proofs.Tryd.func29 (ac29_ok none) (by rw [Go.Proofs.Tryd.ntmps29]; exact Nat.le_refl _) <|
  .cons Go.Proofs.Tryd.call30 Go.Proofs.Tryd.func30 (ac30_ok none) (by rw [Go.Proofs.Tryd.ntmps30]; exact Nat.le_refl _) <|
  .cons Go.Proofs.Tryd.call31 Go.Proofs.Tryd.func31 (ac31_ok none) (by rw [Go.Proofs.Tryd.ntmps31]; exact Nat.le_refl _) <|
  .cons Go.Proofs.Tryd.call32 Go.Proofs.Tryd.func32 (ac32_ok none) (by rw [Go.Proofs.Tryd.ntmps32]; exact Nat.le_refl _) <|
  .cons Go.Proofs.Tryd.call33 Go.Proofs.Tryd.func33 (ac33_ok none) (by rw [Go.Proofs.Tryd.ntmps33]; exact Nat.le_refl _) <|
  .cons Go.Proofs.Tryd.call34 Go.Proofs.Tryd.func34 (ac34_ok none) (by rw [Go.Proofs.Tryd.ntmps34]; exact Nat.le_refl _) <|
  .cons Go.Proofs.Tryd.call35 Go.Proofs.Tryd.func35 (ac35_ok none) (by rw [Go.Proofs.Tryd.ntmps35]; exact Nat.le_refl _) <|
  .cons Go.Proofs.Tryd.call36 Go.Proofs.Tryd.func36 (ac36_ok none) (by rw [Go.Proofs.Tryd.ntmps36]; exact Nat.le_refl _) <|
  .cons Go.Proofs.Tryd.call37 Go.Proofs.Tryd.func37 (ac37_ok none) (by rw [Go.Proofs.Tryd.ntmps37]; exact Nat.le_refl _) <|
  .cons Go.Proofs.Tryd.call38 Go.Proofs.Tryd.func38 (ac38_ok none) (by rw [Go.Proofs.Tryd.ntmps38]; exact Nat.le_refl _) <|
  .cons Go.Proofs.Tryd.call39 Go.Proofs.Tryd.func39 (ac39_ok none) (by rw [Go.Proofs.Tryd.ntmps39]; exact Nat.le_refl _) <|
  .cons Go.Proofs.Tryd.call40 Go.Proofs.Tryd.func40 (ac40_ok none) (by rw [Go.Proofs.Tryd.ntmps40]; exact Nat.le_refl _) <|
  .cons Go.Proofs.Tryd.call41 Go.Proofs.Tryd.func41 (ac41_ok none) (by rw [Go.Proofs.Tryd.ntmps41]; exact Nat.le_refl _) <|
  .cons Go.Proofs.Tryd.call42 Go.Proofs.Tryd.func42 (ac42_ok none) (by rw [Go.Proofs.Tryd.ntmps42]; exact Nat.le_refl _) <|
  .cons Go.Proofs.Tryd.call43 Go.Proofs.Tryd.func43 (ac43_ok none) (by rw [Go.Proofs.Tryd.ntmps43]; exact Nat.le_refl _) <|
  .cons Go.Proofs.Tryd.call44 Go.Proofs.Tryd.func44 (ac44_ok none) (by rw [Go.Proofs.Tryd.ntmps44]; exact Nat.le_refl _) <|
  .cons Go.Proofs.Tryd.call45 Go.Proofs.Tryd.func45 (ac45_ok none) (by rw [Go.Proofs.Tryd.ntmps45]; exact Nat.le_refl _) <|
  .cons Go.Proofs.Tryd.call46 Go.Proofs.Tryd.func46 (ac46_ok none) (by rw [Go.Proofs.Tryd.ntmps46]; exact Nat.le_refl _) <|
  .cons Go.Proofs.Tryd.call47 Go.Proofs.Tryd.func47 (ac47_ok none) (by rw [Go.Proofs.Tryd.ntmps47]; exact Nat.le_refl _) <|
  .cons Go.Proofs.Tryd.call48 Go.Proofs.Tryd.func48 (ac48_ok none) (by rw [Go.Proofs.Tryd.ntmps48]; exact Nat.le_refl _) <|
  .nil
def cfg : Cfg := ⟨[(3, (.int .i64)), (5, (.int .u8)), (23, (.sl (.int .u8))), (30, (.sl (.int .i64)))], [(67, [.a 1024 .bool])]⟩
end Go.Ab
