/- The codes of functions of this seat, as annotated, compared with the program by the kernel. No conditions. -/
import Derived.Test.YtchmkekndbfflaaProg
import Derived.Test.YtchmkekndbfflaaAbE
import Derived.Test.YtchmkekndbfflaaCod2
set_option linter.unusedVariables false
set_option linter.unusedSimpArgs false
namespace Go.Ab
/- slices.reverseRangeCmpFunc[clearway api.Parcel] -/
def ac55_L0 (q : Option (Nat × Nat)) : AC := .seq (.seq (.rg [⟨none, some 13, .mv (.tmp 8)⟩,
    ⟨none, some 14, .mv (.tmp 9)⟩,
    ⟨none, some 15, .bin .lss (.tmp 13) (.tmp 14)⟩])
  (.cond (.tmp 15) (.skip) (.exit 0)))
  (.blk 1 (.seq (.dr [(false, [(0, 0), (1, 0), (2, 0), (3, 0), (4, 0), (5, 0), (6, 0), (7, 0), (8, 0), (9, 0), (10, 0), (11, 0), (12, 0), (13, 1)], [⟨none, some 16, .mv (.tmp 0)⟩,
    ⟨none, some 17, .mv (.tmp 8)⟩,
    ⟨none, some 18, .mv (.tmp 0)⟩,
    ⟨none, some 19, .mv (.tmp 9)⟩,
    ⟨none, some 20, .mv (.tmp 0)⟩,
    ⟨none, some 21, .mv (.tmp 9)⟩,
    ⟨none, some 22, .idx 6 (.tmp 20) (.tmp 21)⟩,
    ⟨none, some 23, .loadA 6 (.tmp 22)⟩,
    ⟨none, some 24, .mv (.tmp 0)⟩,
    ⟨none, some 25, .mv (.tmp 8)⟩,
    ⟨none, some 26, .idx 6 (.tmp 24) (.tmp 25)⟩,
    ⟨none, some 27, .loadA 6 (.tmp 26)⟩,
    ⟨none, some 28, .idx 6 (.tmp 16) (.tmp 17)⟩,
    ⟨none, none, .store 6 (.tmp 28) (.tmp 23)⟩]),
   (true, [(14, 0), (15, 0)], [⟨none, some 29, .idx 6 (.tmp 18) (.tmp 19)⟩,
    ⟨none, none, .store 6 (.tmp 29) (.tmp 27)⟩])])
  (.seq (.rg [⟨none, some 30, .mv (.tmp 8)⟩,
    ⟨none, some 31, .bin .add (.tmp 30) (.const (.int .i64 1))⟩,
    ⟨none, some 8, .mv (.tmp 31)⟩])
  (.rg [⟨none, some 32, .mv (.tmp 9)⟩,
    ⟨none, some 33, .bin .sub (.tmp 32) (.const (.int .i64 1))⟩,
    ⟨none, some 9, .mv (.tmp 33)⟩]))))
def ac55 (q : Option (Nat × Nat)) : AC := .seq (.rg [⟨none, some 10, .mv (.tmp 1)⟩,
    ⟨none, some 8, .mv (.tmp 10)⟩])
  (.seq (.rg [⟨none, some 11, .mv (.tmp 2)⟩,
    ⟨none, some 12, .bin .sub (.tmp 11) (.const (.int .i64 1))⟩,
    ⟨none, some 9, .mv (.tmp 12)⟩])
  (.blk 0 (.loop q [0, 8, 9] (ac55_L0 q))))
theorem ac55_ok (q : Option (Nat × Nat)) : compF Go.Proofs.Try.prog Go.Proofs.Try.f55 (ac55 q) = some (ac55 q, []) := by kernel_rfl

/- slices.partialInsertionSortCmpFunc[clearway api.Parcel] -/
def ac56_L0 (q : Option (Nat × Nat)) : AC := .seq (.seq (.dr [(false, [(0, 0), (1, 0)], [⟨none, some 19, .mv (.tmp 9)⟩,
    ⟨none, some 20, .mv (.tmp 2)⟩]),
   (true, [(2, 0), (3, 0)], [⟨none, some 21, .bin .lss (.tmp 19) (.tmp 20)⟩,
    ⟨none, some 22, .mv (.tmp 21)⟩]),
   (false, [(4, 0), (5, 0), (6, 0), (7, 0), (8, 0), (9, 0), (10, 0), (11, 0), (12, 0), (13, 0)], [⟨some (22, true), some 23, .mv (.tmp 3)⟩,
    ⟨some (22, true), some 24, .mv (.tmp 0)⟩,
    ⟨some (22, true), some 25, .mv (.tmp 9)⟩,
    ⟨some (22, true), some 26, .idx 6 (.tmp 24) (.tmp 25)⟩,
    ⟨some (22, true), some 27, .loadA 6 (.tmp 26)⟩,
    ⟨some (22, true), some 28, .mv (.tmp 0)⟩,
    ⟨some (22, true), some 29, .mv (.tmp 9)⟩,
    ⟨some (22, true), some 30, .bin .sub (.tmp 29) (.const (.int .i64 1))⟩,
    ⟨some (22, true), some 31, .idx 6 (.tmp 28) (.tmp 30)⟩,
    ⟨some (22, true), some 32, .loadA 6 (.tmp 31)⟩]),
   (true, [(14, 0), (15, 0), (16, 0), (17, 0)], [⟨some (22, true), some 33, .callv (.tmp 23) [.tmp 27, .tmp 32]⟩,
    ⟨some (22, true), some 34, .bin .lss (.tmp 33) (.const (.int .i64 0))⟩,
    ⟨some (22, true), some 35, .un .not (.tmp 34)⟩,
    ⟨none, some 36, .pick (.tmp 22) (.tmp 35) (.const (.bool false))⟩])])
  (.cond (.tmp 36) (.skip) (.exit 2)))
  (.blk 3 (.rg [⟨none, some 37, .mv (.tmp 9)⟩,
    ⟨none, some 38, .bin .add (.tmp 37) (.const (.int .i64 1))⟩,
    ⟨none, some 9, .mv (.tmp 38)⟩]))
def ac56_L1 (q : Option (Nat × Nat)) : AC := .seq (.seq (.rg [⟨none, some 68, .mv (.tmp 11)⟩,
    ⟨none, some 69, .bin .geq (.tmp 68) (.const (.int .i64 1))⟩])
  (.cond (.tmp 69) (.skip) (.exit 4)))
  (.seq (.blk 5 (.seq (.seq (.dr [(false, [(0, 0), (1, 0), (2, 0), (3, 0), (4, 0), (5, 0), (6, 0), (7, 0), (8, 0), (9, 0)], [⟨none, some 72, .mv (.tmp 3)⟩,
    ⟨none, some 73, .mv (.tmp 0)⟩,
    ⟨none, some 74, .mv (.tmp 11)⟩,
    ⟨none, some 75, .idx 6 (.tmp 73) (.tmp 74)⟩,
    ⟨none, some 76, .loadA 6 (.tmp 75)⟩,
    ⟨none, some 77, .mv (.tmp 0)⟩,
    ⟨none, some 78, .mv (.tmp 11)⟩,
    ⟨none, some 79, .bin .sub (.tmp 78) (.const (.int .i64 1))⟩,
    ⟨none, some 80, .idx 6 (.tmp 77) (.tmp 79)⟩,
    ⟨none, some 81, .loadA 6 (.tmp 80)⟩]),
   (true, [(10, 0), (11, 0), (12, 0)], [⟨none, some 82, .callv (.tmp 72) [.tmp 76, .tmp 81]⟩,
    ⟨none, some 83, .bin .lss (.tmp 82) (.const (.int .i64 0))⟩,
    ⟨none, some 84, .un .not (.tmp 83)⟩])])
  (.cond (.tmp 84) (.exit 4) (.skip)))
  (.dr [(false, [(0, 0), (1, 0), (2, 0), (3, 0), (4, 0), (5, 0), (6, 0), (7, 0), (8, 0), (9, 0), (10, 0), (11, 0), (12, 0), (13, 0), (14, 0), (15, 1)], [⟨none, some 85, .mv (.tmp 0)⟩,
    ⟨none, some 86, .mv (.tmp 11)⟩,
    ⟨none, some 87, .mv (.tmp 0)⟩,
    ⟨none, some 88, .mv (.tmp 11)⟩,
    ⟨none, some 89, .bin .sub (.tmp 88) (.const (.int .i64 1))⟩,
    ⟨none, some 90, .mv (.tmp 0)⟩,
    ⟨none, some 91, .mv (.tmp 11)⟩,
    ⟨none, some 92, .bin .sub (.tmp 91) (.const (.int .i64 1))⟩,
    ⟨none, some 93, .idx 6 (.tmp 90) (.tmp 92)⟩,
    ⟨none, some 94, .loadA 6 (.tmp 93)⟩,
    ⟨none, some 95, .mv (.tmp 0)⟩,
    ⟨none, some 96, .mv (.tmp 11)⟩,
    ⟨none, some 97, .idx 6 (.tmp 95) (.tmp 96)⟩,
    ⟨none, some 98, .loadA 6 (.tmp 97)⟩,
    ⟨none, some 99, .idx 6 (.tmp 85) (.tmp 86)⟩,
    ⟨none, none, .store 6 (.tmp 99) (.tmp 94)⟩]),
   (true, [(16, 0), (17, 0)], [⟨none, some 100, .idx 6 (.tmp 87) (.tmp 89)⟩,
    ⟨none, none, .store 6 (.tmp 100) (.tmp 98)⟩])])))
  (.rg [⟨none, some 70, .mv (.tmp 11)⟩,
    ⟨none, some 71, .bin .sub (.tmp 70) (.const (.int .i64 1))⟩,
    ⟨none, some 11, .mv (.tmp 71)⟩]))
def ac56_L2 (q : Option (Nat × Nat)) : AC := .seq (.seq (.rg [⟨none, some 107, .mv (.tmp 12)⟩,
    ⟨none, some 108, .mv (.tmp 2)⟩,
    ⟨none, some 109, .bin .lss (.tmp 107) (.tmp 108)⟩])
  (.cond (.tmp 109) (.skip) (.exit 6)))
  (.seq (.blk 7 (.seq (.seq (.dr [(false, [(0, 0), (1, 0), (2, 0), (3, 0), (4, 0), (5, 0), (6, 0), (7, 0), (8, 0), (9, 0)], [⟨none, some 112, .mv (.tmp 3)⟩,
    ⟨none, some 113, .mv (.tmp 0)⟩,
    ⟨none, some 114, .mv (.tmp 12)⟩,
    ⟨none, some 115, .idx 6 (.tmp 113) (.tmp 114)⟩,
    ⟨none, some 116, .loadA 6 (.tmp 115)⟩,
    ⟨none, some 117, .mv (.tmp 0)⟩,
    ⟨none, some 118, .mv (.tmp 12)⟩,
    ⟨none, some 119, .bin .sub (.tmp 118) (.const (.int .i64 1))⟩,
    ⟨none, some 120, .idx 6 (.tmp 117) (.tmp 119)⟩,
    ⟨none, some 121, .loadA 6 (.tmp 120)⟩]),
   (true, [(10, 0), (11, 0), (12, 0)], [⟨none, some 122, .callv (.tmp 112) [.tmp 116, .tmp 121]⟩,
    ⟨none, some 123, .bin .lss (.tmp 122) (.const (.int .i64 0))⟩,
    ⟨none, some 124, .un .not (.tmp 123)⟩])])
  (.cond (.tmp 124) (.exit 6) (.skip)))
  (.dr [(false, [(0, 0), (1, 0), (2, 0), (3, 0), (4, 0), (5, 0), (6, 0), (7, 0), (8, 0), (9, 0), (10, 0), (11, 0), (12, 0), (13, 0), (14, 0), (15, 1)], [⟨none, some 125, .mv (.tmp 0)⟩,
    ⟨none, some 126, .mv (.tmp 12)⟩,
    ⟨none, some 127, .mv (.tmp 0)⟩,
    ⟨none, some 128, .mv (.tmp 12)⟩,
    ⟨none, some 129, .bin .sub (.tmp 128) (.const (.int .i64 1))⟩,
    ⟨none, some 130, .mv (.tmp 0)⟩,
    ⟨none, some 131, .mv (.tmp 12)⟩,
    ⟨none, some 132, .bin .sub (.tmp 131) (.const (.int .i64 1))⟩,
    ⟨none, some 133, .idx 6 (.tmp 130) (.tmp 132)⟩,
    ⟨none, some 134, .loadA 6 (.tmp 133)⟩,
    ⟨none, some 135, .mv (.tmp 0)⟩,
    ⟨none, some 136, .mv (.tmp 12)⟩,
    ⟨none, some 137, .idx 6 (.tmp 135) (.tmp 136)⟩,
    ⟨none, some 138, .loadA 6 (.tmp 137)⟩,
    ⟨none, some 139, .idx 6 (.tmp 125) (.tmp 126)⟩,
    ⟨none, none, .store 6 (.tmp 139) (.tmp 134)⟩]),
   (true, [(16, 0), (17, 0)], [⟨none, some 140, .idx 6 (.tmp 127) (.tmp 129)⟩,
    ⟨none, none, .store 6 (.tmp 140) (.tmp 138)⟩])])))
  (.rg [⟨none, some 110, .mv (.tmp 12)⟩,
    ⟨none, some 111, .bin .add (.tmp 110) (.const (.int .i64 1))⟩,
    ⟨none, some 12, .mv (.tmp 111)⟩]))
def ac56_L3 (q : Option (Nat × Nat)) : AC := .seq (.seq (.rg [⟨none, some 15, .mv (.tmp 10)⟩,
    ⟨none, some 16, .bin .lss (.tmp 15) (.const (.int .i64 5))⟩])
  (.cond (.tmp 16) (.skip) (.exit 0)))
  (.seq (.blk 1 (.seq (.blk 2 (.loop q [0, 1, 2, 3, 9, 10] (ac56_L0 q)))
  (.seq (.seq (.rg [⟨none, some 39, .mv (.tmp 9)⟩,
    ⟨none, some 40, .mv (.tmp 2)⟩,
    ⟨none, some 41, .bin .eql (.tmp 39) (.tmp 40)⟩])
  (.cond (.tmp 41) (.seq (.rg [⟨none, some 8, .mv (.const (.bool true))⟩])
  (.ret)) (.skip)))
  (.seq (.seq (.rg [⟨none, some 42, .mv (.tmp 2)⟩,
    ⟨none, some 43, .mv (.tmp 1)⟩,
    ⟨none, some 44, .bin .sub (.tmp 42) (.tmp 43)⟩,
    ⟨none, some 45, .bin .lss (.tmp 44) (.const (.int .i64 50))⟩])
  (.cond (.tmp 45) (.seq (.rg [⟨none, some 8, .mv (.const (.bool false))⟩])
  (.ret)) (.skip)))
  (.seq (.dr [(false, [(0, 0), (1, 0), (2, 0), (3, 0), (4, 0), (5, 0), (6, 0), (7, 0), (8, 0), (9, 0), (10, 0), (11, 0), (12, 0), (13, 0), (14, 0), (15, 1)], [⟨none, some 46, .mv (.tmp 0)⟩,
    ⟨none, some 47, .mv (.tmp 9)⟩,
    ⟨none, some 48, .mv (.tmp 0)⟩,
    ⟨none, some 49, .mv (.tmp 9)⟩,
    ⟨none, some 50, .bin .sub (.tmp 49) (.const (.int .i64 1))⟩,
    ⟨none, some 51, .mv (.tmp 0)⟩,
    ⟨none, some 52, .mv (.tmp 9)⟩,
    ⟨none, some 53, .bin .sub (.tmp 52) (.const (.int .i64 1))⟩,
    ⟨none, some 54, .idx 6 (.tmp 51) (.tmp 53)⟩,
    ⟨none, some 55, .loadA 6 (.tmp 54)⟩,
    ⟨none, some 56, .mv (.tmp 0)⟩,
    ⟨none, some 57, .mv (.tmp 9)⟩,
    ⟨none, some 58, .idx 6 (.tmp 56) (.tmp 57)⟩,
    ⟨none, some 59, .loadA 6 (.tmp 58)⟩,
    ⟨none, some 60, .idx 6 (.tmp 46) (.tmp 47)⟩,
    ⟨none, none, .store 6 (.tmp 60) (.tmp 55)⟩]),
   (true, [(16, 0), (17, 0)], [⟨none, some 61, .idx 6 (.tmp 48) (.tmp 50)⟩,
    ⟨none, none, .store 6 (.tmp 61) (.tmp 59)⟩])])
  (.seq (.seq (.rg [⟨none, some 62, .mv (.tmp 9)⟩,
    ⟨none, some 63, .mv (.tmp 1)⟩,
    ⟨none, some 64, .bin .sub (.tmp 62) (.tmp 63)⟩,
    ⟨none, some 65, .bin .geq (.tmp 64) (.const (.int .i64 2))⟩])
  (.cond (.tmp 65) (.seq (.rg [⟨none, some 66, .mv (.tmp 9)⟩,
    ⟨none, some 67, .bin .sub (.tmp 66) (.const (.int .i64 1))⟩,
    ⟨none, some 11, .mv (.tmp 67)⟩])
  (.blk 4 (.loop q [0, 1, 2, 3, 9, 10, 11] (ac56_L1 q)))) (.skip)))
  (.seq (.rg [⟨none, some 101, .mv (.tmp 2)⟩,
    ⟨none, some 102, .mv (.tmp 9)⟩,
    ⟨none, some 103, .bin .sub (.tmp 101) (.tmp 102)⟩,
    ⟨none, some 104, .bin .geq (.tmp 103) (.const (.int .i64 2))⟩])
  (.cond (.tmp 104) (.seq (.rg [⟨none, some 105, .mv (.tmp 9)⟩,
    ⟨none, some 106, .bin .add (.tmp 105) (.const (.int .i64 1))⟩,
    ⟨none, some 12, .mv (.tmp 106)⟩])
  (.blk 6 (.loop q [0, 1, 2, 3, 9, 10, 12] (ac56_L2 q)))) (.skip)))))))))
  (.rg [⟨none, some 17, .mv (.tmp 10)⟩,
    ⟨none, some 18, .bin .add (.tmp 17) (.const (.int .i64 1))⟩,
    ⟨none, some 10, .mv (.tmp 18)⟩]))
def ac56 (q : Option (Nat × Nat)) : AC := .seq (.rg [⟨none, some 8, .mv (.const (.bool false))⟩])
  (.seq (.rg [⟨none, some 13, .mv (.tmp 1)⟩,
    ⟨none, some 14, .bin .add (.tmp 13) (.const (.int .i64 1))⟩,
    ⟨none, some 9, .mv (.tmp 14)⟩])
  (.seq (.seq (.rg [⟨none, some 10, .mv (.const (.int .i64 0))⟩])
  (.blk 0 (.loop q [0, 1, 2, 3, 9, 10] (ac56_L3 q))))
  (.seq (.rg [⟨none, some 8, .mv (.const (.bool false))⟩])
  (.ret))))
theorem ac56_ok (q : Option (Nat × Nat)) : compF Go.Proofs.Try.prog Go.Proofs.Try.f56 (ac56 q) = some (ac56 q, [.tmp 8]) := by kernel_rfl

/- slices.partitionEqualCmpFunc[clearway api.Parcel] -/
def ac57_L0 (q : Option (Nat × Nat)) : AC := .seq (.seq (.dr [(false, [(0, 0), (1, 0)], [⟨none, some 31, .mv (.tmp 11)⟩,
    ⟨none, some 32, .mv (.tmp 12)⟩]),
   (true, [(2, 0), (3, 0)], [⟨none, some 33, .bin .leq (.tmp 31) (.tmp 32)⟩,
    ⟨none, some 34, .mv (.tmp 33)⟩]),
   (false, [(4, 0), (5, 0), (6, 0), (7, 0), (8, 0), (9, 0), (10, 0), (11, 0), (12, 0)], [⟨some (34, true), some 35, .mv (.tmp 4)⟩,
    ⟨some (34, true), some 36, .mv (.tmp 0)⟩,
    ⟨some (34, true), some 37, .mv (.tmp 1)⟩,
    ⟨some (34, true), some 38, .idx 6 (.tmp 36) (.tmp 37)⟩,
    ⟨some (34, true), some 39, .loadA 6 (.tmp 38)⟩,
    ⟨some (34, true), some 40, .mv (.tmp 0)⟩,
    ⟨some (34, true), some 41, .mv (.tmp 11)⟩,
    ⟨some (34, true), some 42, .idx 6 (.tmp 40) (.tmp 41)⟩,
    ⟨some (34, true), some 43, .loadA 6 (.tmp 42)⟩]),
   (true, [(13, 0), (14, 0), (15, 0), (16, 0)], [⟨some (34, true), some 44, .callv (.tmp 35) [.tmp 39, .tmp 43]⟩,
    ⟨some (34, true), some 45, .bin .lss (.tmp 44) (.const (.int .i64 0))⟩,
    ⟨some (34, true), some 46, .un .not (.tmp 45)⟩,
    ⟨none, some 47, .pick (.tmp 34) (.tmp 46) (.const (.bool false))⟩])])
  (.cond (.tmp 47) (.skip) (.exit 2)))
  (.blk 3 (.rg [⟨none, some 48, .mv (.tmp 11)⟩,
    ⟨none, some 49, .bin .add (.tmp 48) (.const (.int .i64 1))⟩,
    ⟨none, some 11, .mv (.tmp 49)⟩]))
def ac57_L1 (q : Option (Nat × Nat)) : AC := .seq (.seq (.dr [(false, [(0, 0), (1, 0)], [⟨none, some 50, .mv (.tmp 11)⟩,
    ⟨none, some 51, .mv (.tmp 12)⟩]),
   (true, [(2, 0), (3, 0)], [⟨none, some 52, .bin .leq (.tmp 50) (.tmp 51)⟩,
    ⟨none, some 53, .mv (.tmp 52)⟩]),
   (false, [(4, 0), (5, 0), (6, 0), (7, 0), (8, 0), (9, 0), (10, 0), (11, 0), (12, 0)], [⟨some (53, true), some 54, .mv (.tmp 4)⟩,
    ⟨some (53, true), some 55, .mv (.tmp 0)⟩,
    ⟨some (53, true), some 56, .mv (.tmp 1)⟩,
    ⟨some (53, true), some 57, .idx 6 (.tmp 55) (.tmp 56)⟩,
    ⟨some (53, true), some 58, .loadA 6 (.tmp 57)⟩,
    ⟨some (53, true), some 59, .mv (.tmp 0)⟩,
    ⟨some (53, true), some 60, .mv (.tmp 12)⟩,
    ⟨some (53, true), some 61, .idx 6 (.tmp 59) (.tmp 60)⟩,
    ⟨some (53, true), some 62, .loadA 6 (.tmp 61)⟩]),
   (true, [(13, 0), (14, 0), (15, 0)], [⟨some (53, true), some 63, .callv (.tmp 54) [.tmp 58, .tmp 62]⟩,
    ⟨some (53, true), some 64, .bin .lss (.tmp 63) (.const (.int .i64 0))⟩,
    ⟨none, some 65, .pick (.tmp 53) (.tmp 64) (.const (.bool false))⟩])])
  (.cond (.tmp 65) (.skip) (.exit 4)))
  (.blk 5 (.rg [⟨none, some 66, .mv (.tmp 12)⟩,
    ⟨none, some 67, .bin .sub (.tmp 66) (.const (.int .i64 1))⟩,
    ⟨none, some 12, .mv (.tmp 67)⟩]))
def ac57_L2 (q : Option (Nat × Nat)) : AC := .blk 1 (.seq (.blk 2 (.loop q [0, 1, 4, 11, 12] (ac57_L0 q)))
  (.seq (.blk 4 (.loop q [0, 1, 4, 11, 12] (ac57_L1 q)))
  (.seq (.seq (.rg [⟨none, some 68, .mv (.tmp 11)⟩,
    ⟨none, some 69, .mv (.tmp 12)⟩,
    ⟨none, some 70, .bin .gtr (.tmp 68) (.tmp 69)⟩])
  (.cond (.tmp 70) (.exit 0) (.skip)))
  (.seq (.dr [(false, [(0, 0), (1, 0), (2, 0), (3, 0), (4, 0), (5, 0), (6, 0), (7, 0), (8, 0), (9, 0), (10, 0), (11, 0), (12, 0), (13, 1)], [⟨none, some 71, .mv (.tmp 0)⟩,
    ⟨none, some 72, .mv (.tmp 11)⟩,
    ⟨none, some 73, .mv (.tmp 0)⟩,
    ⟨none, some 74, .mv (.tmp 12)⟩,
    ⟨none, some 75, .mv (.tmp 0)⟩,
    ⟨none, some 76, .mv (.tmp 12)⟩,
    ⟨none, some 77, .idx 6 (.tmp 75) (.tmp 76)⟩,
    ⟨none, some 78, .loadA 6 (.tmp 77)⟩,
    ⟨none, some 79, .mv (.tmp 0)⟩,
    ⟨none, some 80, .mv (.tmp 11)⟩,
    ⟨none, some 81, .idx 6 (.tmp 79) (.tmp 80)⟩,
    ⟨none, some 82, .loadA 6 (.tmp 81)⟩,
    ⟨none, some 83, .idx 6 (.tmp 71) (.tmp 72)⟩,
    ⟨none, none, .store 6 (.tmp 83) (.tmp 78)⟩]),
   (true, [(14, 0), (15, 0)], [⟨none, some 84, .idx 6 (.tmp 73) (.tmp 74)⟩,
    ⟨none, none, .store 6 (.tmp 84) (.tmp 82)⟩])])
  (.seq (.rg [⟨none, some 85, .mv (.tmp 11)⟩,
    ⟨none, some 86, .bin .add (.tmp 85) (.const (.int .i64 1))⟩,
    ⟨none, some 11, .mv (.tmp 86)⟩])
  (.rg [⟨none, some 87, .mv (.tmp 12)⟩,
    ⟨none, some 88, .bin .sub (.tmp 87) (.const (.int .i64 1))⟩,
    ⟨none, some 12, .mv (.tmp 88)⟩]))))))
def ac57 (q : Option (Nat × Nat)) : AC := .seq (.rg [⟨none, some 10, .mv (.const (.int .i64 0))⟩])
  (.seq (.dr [(false, [(0, 0), (1, 0), (2, 0), (3, 0), (4, 0), (5, 0), (6, 0), (7, 0), (8, 0), (9, 0), (10, 0), (11, 0), (12, 0), (13, 1)], [⟨none, some 13, .mv (.tmp 0)⟩,
    ⟨none, some 14, .mv (.tmp 1)⟩,
    ⟨none, some 15, .mv (.tmp 0)⟩,
    ⟨none, some 16, .mv (.tmp 3)⟩,
    ⟨none, some 17, .mv (.tmp 0)⟩,
    ⟨none, some 18, .mv (.tmp 3)⟩,
    ⟨none, some 19, .idx 6 (.tmp 17) (.tmp 18)⟩,
    ⟨none, some 20, .loadA 6 (.tmp 19)⟩,
    ⟨none, some 21, .mv (.tmp 0)⟩,
    ⟨none, some 22, .mv (.tmp 1)⟩,
    ⟨none, some 23, .idx 6 (.tmp 21) (.tmp 22)⟩,
    ⟨none, some 24, .loadA 6 (.tmp 23)⟩,
    ⟨none, some 25, .idx 6 (.tmp 13) (.tmp 14)⟩,
    ⟨none, none, .store 6 (.tmp 25) (.tmp 20)⟩]),
   (true, [(14, 0), (15, 0)], [⟨none, some 26, .idx 6 (.tmp 15) (.tmp 16)⟩,
    ⟨none, none, .store 6 (.tmp 26) (.tmp 24)⟩])])
  (.seq (.rg [⟨none, some 27, .mv (.tmp 1)⟩,
    ⟨none, some 28, .bin .add (.tmp 27) (.const (.int .i64 1))⟩,
    ⟨none, some 29, .mv (.tmp 2)⟩,
    ⟨none, some 30, .bin .sub (.tmp 29) (.const (.int .i64 1))⟩,
    ⟨none, some 11, .mv (.tmp 28)⟩,
    ⟨none, some 12, .mv (.tmp 30)⟩])
  (.seq (.blk 0 (.loop q [0, 1, 4, 11, 12] (ac57_L2 q)))
  (.seq (.rg [⟨none, some 89, .mv (.tmp 11)⟩,
    ⟨none, some 10, .mv (.tmp 89)⟩])
  (.ret)))))
theorem ac57_ok (q : Option (Nat × Nat)) : compF Go.Proofs.Try.prog Go.Proofs.Try.f57 (ac57 q) = some (ac57 q, [.tmp 10]) := by kernel_rfl

/- slices.partitionCmpFunc[clearway api.Parcel] -/
def ac58_L0 (q : Option (Nat × Nat)) : AC := .seq (.seq (.dr [(false, [(0, 0), (1, 0)], [⟨none, some 32, .mv (.tmp 12)⟩,
    ⟨none, some 33, .mv (.tmp 13)⟩]),
   (true, [(2, 0), (3, 0)], [⟨none, some 34, .bin .leq (.tmp 32) (.tmp 33)⟩,
    ⟨none, some 35, .mv (.tmp 34)⟩]),
   (false, [(4, 0), (5, 0), (6, 0), (7, 0), (8, 0), (9, 0), (10, 0), (11, 0), (12, 0)], [⟨some (35, true), some 36, .mv (.tmp 4)⟩,
    ⟨some (35, true), some 37, .mv (.tmp 0)⟩,
    ⟨some (35, true), some 38, .mv (.tmp 12)⟩,
    ⟨some (35, true), some 39, .idx 6 (.tmp 37) (.tmp 38)⟩,
    ⟨some (35, true), some 40, .loadA 6 (.tmp 39)⟩,
    ⟨some (35, true), some 41, .mv (.tmp 0)⟩,
    ⟨some (35, true), some 42, .mv (.tmp 1)⟩,
    ⟨some (35, true), some 43, .idx 6 (.tmp 41) (.tmp 42)⟩,
    ⟨some (35, true), some 44, .loadA 6 (.tmp 43)⟩]),
   (true, [(13, 0), (14, 0), (15, 0)], [⟨some (35, true), some 45, .callv (.tmp 36) [.tmp 40, .tmp 44]⟩,
    ⟨some (35, true), some 46, .bin .lss (.tmp 45) (.const (.int .i64 0))⟩,
    ⟨none, some 47, .pick (.tmp 35) (.tmp 46) (.const (.bool false))⟩])])
  (.cond (.tmp 47) (.skip) (.exit 0)))
  (.blk 1 (.rg [⟨none, some 48, .mv (.tmp 12)⟩,
    ⟨none, some 49, .bin .add (.tmp 48) (.const (.int .i64 1))⟩,
    ⟨none, some 12, .mv (.tmp 49)⟩]))
def ac58_L1 (q : Option (Nat × Nat)) : AC := .seq (.seq (.dr [(false, [(0, 0), (1, 0)], [⟨none, some 50, .mv (.tmp 12)⟩,
    ⟨none, some 51, .mv (.tmp 13)⟩]),
   (true, [(2, 0), (3, 0)], [⟨none, some 52, .bin .leq (.tmp 50) (.tmp 51)⟩,
    ⟨none, some 53, .mv (.tmp 52)⟩]),
   (false, [(4, 0), (5, 0), (6, 0), (7, 0), (8, 0), (9, 0), (10, 0), (11, 0), (12, 0)], [⟨some (53, true), some 54, .mv (.tmp 4)⟩,
    ⟨some (53, true), some 55, .mv (.tmp 0)⟩,
    ⟨some (53, true), some 56, .mv (.tmp 13)⟩,
    ⟨some (53, true), some 57, .idx 6 (.tmp 55) (.tmp 56)⟩,
    ⟨some (53, true), some 58, .loadA 6 (.tmp 57)⟩,
    ⟨some (53, true), some 59, .mv (.tmp 0)⟩,
    ⟨some (53, true), some 60, .mv (.tmp 1)⟩,
    ⟨some (53, true), some 61, .idx 6 (.tmp 59) (.tmp 60)⟩,
    ⟨some (53, true), some 62, .loadA 6 (.tmp 61)⟩]),
   (true, [(13, 0), (14, 0), (15, 0), (16, 0)], [⟨some (53, true), some 63, .callv (.tmp 54) [.tmp 58, .tmp 62]⟩,
    ⟨some (53, true), some 64, .bin .lss (.tmp 63) (.const (.int .i64 0))⟩,
    ⟨some (53, true), some 65, .un .not (.tmp 64)⟩,
    ⟨none, some 66, .pick (.tmp 53) (.tmp 65) (.const (.bool false))⟩])])
  (.cond (.tmp 66) (.skip) (.exit 2)))
  (.blk 3 (.rg [⟨none, some 67, .mv (.tmp 13)⟩,
    ⟨none, some 68, .bin .sub (.tmp 67) (.const (.int .i64 1))⟩,
    ⟨none, some 13, .mv (.tmp 68)⟩]))
def ac58_L2 (q : Option (Nat × Nat)) : AC := .seq (.seq (.dr [(false, [(0, 0), (1, 0)], [⟨none, some 105, .mv (.tmp 12)⟩,
    ⟨none, some 106, .mv (.tmp 13)⟩]),
   (true, [(2, 0), (3, 0)], [⟨none, some 107, .bin .leq (.tmp 105) (.tmp 106)⟩,
    ⟨none, some 108, .mv (.tmp 107)⟩]),
   (false, [(4, 0), (5, 0), (6, 0), (7, 0), (8, 0), (9, 0), (10, 0), (11, 0), (12, 0)], [⟨some (108, true), some 109, .mv (.tmp 4)⟩,
    ⟨some (108, true), some 110, .mv (.tmp 0)⟩,
    ⟨some (108, true), some 111, .mv (.tmp 12)⟩,
    ⟨some (108, true), some 112, .idx 6 (.tmp 110) (.tmp 111)⟩,
    ⟨some (108, true), some 113, .loadA 6 (.tmp 112)⟩,
    ⟨some (108, true), some 114, .mv (.tmp 0)⟩,
    ⟨some (108, true), some 115, .mv (.tmp 1)⟩,
    ⟨some (108, true), some 116, .idx 6 (.tmp 114) (.tmp 115)⟩,
    ⟨some (108, true), some 117, .loadA 6 (.tmp 116)⟩]),
   (true, [(13, 0), (14, 0), (15, 0)], [⟨some (108, true), some 118, .callv (.tmp 109) [.tmp 113, .tmp 117]⟩,
    ⟨some (108, true), some 119, .bin .lss (.tmp 118) (.const (.int .i64 0))⟩,
    ⟨none, some 120, .pick (.tmp 108) (.tmp 119) (.const (.bool false))⟩])])
  (.cond (.tmp 120) (.skip) (.exit 6)))
  (.blk 7 (.rg [⟨none, some 121, .mv (.tmp 12)⟩,
    ⟨none, some 122, .bin .add (.tmp 121) (.const (.int .i64 1))⟩,
    ⟨none, some 12, .mv (.tmp 122)⟩]))
def ac58_L3 (q : Option (Nat × Nat)) : AC := .seq (.seq (.dr [(false, [(0, 0), (1, 0)], [⟨none, some 123, .mv (.tmp 12)⟩,
    ⟨none, some 124, .mv (.tmp 13)⟩]),
   (true, [(2, 0), (3, 0)], [⟨none, some 125, .bin .leq (.tmp 123) (.tmp 124)⟩,
    ⟨none, some 126, .mv (.tmp 125)⟩]),
   (false, [(4, 0), (5, 0), (6, 0), (7, 0), (8, 0), (9, 0), (10, 0), (11, 0), (12, 0)], [⟨some (126, true), some 127, .mv (.tmp 4)⟩,
    ⟨some (126, true), some 128, .mv (.tmp 0)⟩,
    ⟨some (126, true), some 129, .mv (.tmp 13)⟩,
    ⟨some (126, true), some 130, .idx 6 (.tmp 128) (.tmp 129)⟩,
    ⟨some (126, true), some 131, .loadA 6 (.tmp 130)⟩,
    ⟨some (126, true), some 132, .mv (.tmp 0)⟩,
    ⟨some (126, true), some 133, .mv (.tmp 1)⟩,
    ⟨some (126, true), some 134, .idx 6 (.tmp 132) (.tmp 133)⟩,
    ⟨some (126, true), some 135, .loadA 6 (.tmp 134)⟩]),
   (true, [(13, 0), (14, 0), (15, 0), (16, 0)], [⟨some (126, true), some 136, .callv (.tmp 127) [.tmp 131, .tmp 135]⟩,
    ⟨some (126, true), some 137, .bin .lss (.tmp 136) (.const (.int .i64 0))⟩,
    ⟨some (126, true), some 138, .un .not (.tmp 137)⟩,
    ⟨none, some 139, .pick (.tmp 126) (.tmp 138) (.const (.bool false))⟩])])
  (.cond (.tmp 139) (.skip) (.exit 8)))
  (.blk 9 (.rg [⟨none, some 140, .mv (.tmp 13)⟩,
    ⟨none, some 141, .bin .sub (.tmp 140) (.const (.int .i64 1))⟩,
    ⟨none, some 13, .mv (.tmp 141)⟩]))
def ac58_L4 (q : Option (Nat × Nat)) : AC := .blk 5 (.seq (.blk 6 (.loop q [0, 1, 4, 12, 13] (ac58_L2 q)))
  (.seq (.blk 8 (.loop q [0, 1, 4, 12, 13] (ac58_L3 q)))
  (.seq (.seq (.rg [⟨none, some 142, .mv (.tmp 12)⟩,
    ⟨none, some 143, .mv (.tmp 13)⟩,
    ⟨none, some 144, .bin .gtr (.tmp 142) (.tmp 143)⟩])
  (.cond (.tmp 144) (.exit 4) (.skip)))
  (.seq (.dr [(false, [(0, 0), (1, 0), (2, 0), (3, 0), (4, 0), (5, 0), (6, 0), (7, 0), (8, 0), (9, 0), (10, 0), (11, 0), (12, 0), (13, 1)], [⟨none, some 145, .mv (.tmp 0)⟩,
    ⟨none, some 146, .mv (.tmp 12)⟩,
    ⟨none, some 147, .mv (.tmp 0)⟩,
    ⟨none, some 148, .mv (.tmp 13)⟩,
    ⟨none, some 149, .mv (.tmp 0)⟩,
    ⟨none, some 150, .mv (.tmp 13)⟩,
    ⟨none, some 151, .idx 6 (.tmp 149) (.tmp 150)⟩,
    ⟨none, some 152, .loadA 6 (.tmp 151)⟩,
    ⟨none, some 153, .mv (.tmp 0)⟩,
    ⟨none, some 154, .mv (.tmp 12)⟩,
    ⟨none, some 155, .idx 6 (.tmp 153) (.tmp 154)⟩,
    ⟨none, some 156, .loadA 6 (.tmp 155)⟩,
    ⟨none, some 157, .idx 6 (.tmp 145) (.tmp 146)⟩,
    ⟨none, none, .store 6 (.tmp 157) (.tmp 152)⟩]),
   (true, [(14, 0), (15, 0)], [⟨none, some 158, .idx 6 (.tmp 147) (.tmp 148)⟩,
    ⟨none, none, .store 6 (.tmp 158) (.tmp 156)⟩])])
  (.seq (.rg [⟨none, some 159, .mv (.tmp 12)⟩,
    ⟨none, some 160, .bin .add (.tmp 159) (.const (.int .i64 1))⟩,
    ⟨none, some 12, .mv (.tmp 160)⟩])
  (.rg [⟨none, some 161, .mv (.tmp 13)⟩,
    ⟨none, some 162, .bin .sub (.tmp 161) (.const (.int .i64 1))⟩,
    ⟨none, some 13, .mv (.tmp 162)⟩]))))))
def ac58 (q : Option (Nat × Nat)) : AC := .seq (.rg [⟨none, some 10, .mv (.const (.int .i64 0))⟩,
    ⟨none, some 11, .mv (.const (.bool false))⟩])
  (.seq (.dr [(false, [(0, 0), (1, 0), (2, 0), (3, 0), (4, 0), (5, 0), (6, 0), (7, 0), (8, 0), (9, 0), (10, 0), (11, 0), (12, 0), (13, 1)], [⟨none, some 14, .mv (.tmp 0)⟩,
    ⟨none, some 15, .mv (.tmp 1)⟩,
    ⟨none, some 16, .mv (.tmp 0)⟩,
    ⟨none, some 17, .mv (.tmp 3)⟩,
    ⟨none, some 18, .mv (.tmp 0)⟩,
    ⟨none, some 19, .mv (.tmp 3)⟩,
    ⟨none, some 20, .idx 6 (.tmp 18) (.tmp 19)⟩,
    ⟨none, some 21, .loadA 6 (.tmp 20)⟩,
    ⟨none, some 22, .mv (.tmp 0)⟩,
    ⟨none, some 23, .mv (.tmp 1)⟩,
    ⟨none, some 24, .idx 6 (.tmp 22) (.tmp 23)⟩,
    ⟨none, some 25, .loadA 6 (.tmp 24)⟩,
    ⟨none, some 26, .idx 6 (.tmp 14) (.tmp 15)⟩,
    ⟨none, none, .store 6 (.tmp 26) (.tmp 21)⟩]),
   (true, [(14, 0), (15, 0)], [⟨none, some 27, .idx 6 (.tmp 16) (.tmp 17)⟩,
    ⟨none, none, .store 6 (.tmp 27) (.tmp 25)⟩])])
  (.seq (.rg [⟨none, some 28, .mv (.tmp 1)⟩,
    ⟨none, some 29, .bin .add (.tmp 28) (.const (.int .i64 1))⟩,
    ⟨none, some 30, .mv (.tmp 2)⟩,
    ⟨none, some 31, .bin .sub (.tmp 30) (.const (.int .i64 1))⟩,
    ⟨none, some 12, .mv (.tmp 29)⟩,
    ⟨none, some 13, .mv (.tmp 31)⟩])
  (.seq (.blk 0 (.loop q [0, 1, 4, 12, 13] (ac58_L0 q)))
  (.seq (.blk 2 (.loop q [0, 1, 4, 12, 13] (ac58_L1 q)))
  (.seq (.seq (.rg [⟨none, some 69, .mv (.tmp 12)⟩,
    ⟨none, some 70, .mv (.tmp 13)⟩,
    ⟨none, some 71, .bin .gtr (.tmp 69) (.tmp 70)⟩])
  (.cond (.tmp 71) (.seq (.dr [(false, [(0, 0), (1, 0), (2, 0), (3, 0), (4, 0), (5, 0), (6, 0), (7, 0), (8, 0), (9, 0), (10, 0), (11, 0), (12, 0), (13, 1)], [⟨none, some 72, .mv (.tmp 0)⟩,
    ⟨none, some 73, .mv (.tmp 13)⟩,
    ⟨none, some 74, .mv (.tmp 0)⟩,
    ⟨none, some 75, .mv (.tmp 1)⟩,
    ⟨none, some 76, .mv (.tmp 0)⟩,
    ⟨none, some 77, .mv (.tmp 1)⟩,
    ⟨none, some 78, .idx 6 (.tmp 76) (.tmp 77)⟩,
    ⟨none, some 79, .loadA 6 (.tmp 78)⟩,
    ⟨none, some 80, .mv (.tmp 0)⟩,
    ⟨none, some 81, .mv (.tmp 13)⟩,
    ⟨none, some 82, .idx 6 (.tmp 80) (.tmp 81)⟩,
    ⟨none, some 83, .loadA 6 (.tmp 82)⟩,
    ⟨none, some 84, .idx 6 (.tmp 72) (.tmp 73)⟩,
    ⟨none, none, .store 6 (.tmp 84) (.tmp 79)⟩]),
   (true, [(14, 0), (15, 0)], [⟨none, some 85, .idx 6 (.tmp 74) (.tmp 75)⟩,
    ⟨none, none, .store 6 (.tmp 85) (.tmp 83)⟩])])
  (.seq (.rg [⟨none, some 86, .mv (.tmp 13)⟩,
    ⟨none, some 10, .mv (.tmp 86)⟩,
    ⟨none, some 11, .mv (.const (.bool true))⟩])
  (.ret))) (.skip)))
  (.seq (.dr [(false, [(0, 0), (1, 0), (2, 0), (3, 0), (4, 0), (5, 0), (6, 0), (7, 0), (8, 0), (9, 0), (10, 0), (11, 0), (12, 0), (13, 1)], [⟨none, some 87, .mv (.tmp 0)⟩,
    ⟨none, some 88, .mv (.tmp 12)⟩,
    ⟨none, some 89, .mv (.tmp 0)⟩,
    ⟨none, some 90, .mv (.tmp 13)⟩,
    ⟨none, some 91, .mv (.tmp 0)⟩,
    ⟨none, some 92, .mv (.tmp 13)⟩,
    ⟨none, some 93, .idx 6 (.tmp 91) (.tmp 92)⟩,
    ⟨none, some 94, .loadA 6 (.tmp 93)⟩,
    ⟨none, some 95, .mv (.tmp 0)⟩,
    ⟨none, some 96, .mv (.tmp 12)⟩,
    ⟨none, some 97, .idx 6 (.tmp 95) (.tmp 96)⟩,
    ⟨none, some 98, .loadA 6 (.tmp 97)⟩,
    ⟨none, some 99, .idx 6 (.tmp 87) (.tmp 88)⟩,
    ⟨none, none, .store 6 (.tmp 99) (.tmp 94)⟩]),
   (true, [(14, 0), (15, 0)], [⟨none, some 100, .idx 6 (.tmp 89) (.tmp 90)⟩,
    ⟨none, none, .store 6 (.tmp 100) (.tmp 98)⟩])])
  (.seq (.rg [⟨none, some 101, .mv (.tmp 12)⟩,
    ⟨none, some 102, .bin .add (.tmp 101) (.const (.int .i64 1))⟩,
    ⟨none, some 12, .mv (.tmp 102)⟩])
  (.seq (.rg [⟨none, some 103, .mv (.tmp 13)⟩,
    ⟨none, some 104, .bin .sub (.tmp 103) (.const (.int .i64 1))⟩,
    ⟨none, some 13, .mv (.tmp 104)⟩])
  (.seq (.blk 4 (.loop q [0, 1, 4, 12, 13] (ac58_L4 q)))
  (.seq (.dr [(false, [(0, 0), (1, 0), (2, 0), (3, 0), (4, 0), (5, 0), (6, 0), (7, 0), (8, 0), (9, 0), (10, 0), (11, 0), (12, 0), (13, 1)], [⟨none, some 163, .mv (.tmp 0)⟩,
    ⟨none, some 164, .mv (.tmp 13)⟩,
    ⟨none, some 165, .mv (.tmp 0)⟩,
    ⟨none, some 166, .mv (.tmp 1)⟩,
    ⟨none, some 167, .mv (.tmp 0)⟩,
    ⟨none, some 168, .mv (.tmp 1)⟩,
    ⟨none, some 169, .idx 6 (.tmp 167) (.tmp 168)⟩,
    ⟨none, some 170, .loadA 6 (.tmp 169)⟩,
    ⟨none, some 171, .mv (.tmp 0)⟩,
    ⟨none, some 172, .mv (.tmp 13)⟩,
    ⟨none, some 173, .idx 6 (.tmp 171) (.tmp 172)⟩,
    ⟨none, some 174, .loadA 6 (.tmp 173)⟩,
    ⟨none, some 175, .idx 6 (.tmp 163) (.tmp 164)⟩,
    ⟨none, none, .store 6 (.tmp 175) (.tmp 170)⟩]),
   (true, [(14, 0), (15, 0)], [⟨none, some 176, .idx 6 (.tmp 165) (.tmp 166)⟩,
    ⟨none, none, .store 6 (.tmp 176) (.tmp 174)⟩])])
  (.seq (.rg [⟨none, some 177, .mv (.tmp 13)⟩,
    ⟨none, some 10, .mv (.tmp 177)⟩,
    ⟨none, some 11, .mv (.const (.bool false))⟩])
  (.ret))))))))))))
theorem ac58_ok (q : Option (Nat × Nat)) : compF Go.Proofs.Try.prog Go.Proofs.Try.f58 (ac58 q) = some (ac58 q, [.tmp 10, .tmp 11]) := by kernel_rfl

/- slices.siftDownCmpFunc[clearway api.Parcel] -/
def ac61_L0 (q : Option (Nat × Nat)) : AC := .blk 1 (.seq (.rg [⟨none, some 13, .mv (.tmp 10)⟩,
    ⟨none, some 14, .bin .mul (.const (.int .i64 2)) (.tmp 13)⟩,
    ⟨none, some 15, .bin .add (.tmp 14) (.const (.int .i64 1))⟩,
    ⟨none, some 11, .mv (.tmp 15)⟩])
  (.seq (.seq (.rg [⟨none, some 16, .mv (.tmp 11)⟩,
    ⟨none, some 17, .mv (.tmp 2)⟩,
    ⟨none, some 18, .bin .geq (.tmp 16) (.tmp 17)⟩])
  (.cond (.tmp 18) (.exit 0) (.skip)))
  (.seq (.seq (.dr [(false, [(0, 0), (1, 0), (2, 0)], [⟨none, some 19, .mv (.tmp 11)⟩,
    ⟨none, some 20, .bin .add (.tmp 19) (.const (.int .i64 1))⟩,
    ⟨none, some 21, .mv (.tmp 2)⟩]),
   (true, [(3, 0), (4, 0)], [⟨none, some 22, .bin .lss (.tmp 20) (.tmp 21)⟩,
    ⟨none, some 23, .mv (.tmp 22)⟩]),
   (false, [(5, 0), (6, 0), (7, 0), (8, 0), (9, 0), (10, 0), (11, 0), (12, 0), (13, 0), (14, 0), (15, 0), (16, 0), (17, 0), (18, 0)], [⟨some (23, true), some 24, .mv (.tmp 4)⟩,
    ⟨some (23, true), some 25, .mv (.tmp 0)⟩,
    ⟨some (23, true), some 26, .mv (.tmp 3)⟩,
    ⟨some (23, true), some 27, .mv (.tmp 11)⟩,
    ⟨some (23, true), some 28, .bin .add (.tmp 26) (.tmp 27)⟩,
    ⟨some (23, true), some 29, .idx 6 (.tmp 25) (.tmp 28)⟩,
    ⟨some (23, true), some 30, .loadA 6 (.tmp 29)⟩,
    ⟨some (23, true), some 31, .mv (.tmp 0)⟩,
    ⟨some (23, true), some 32, .mv (.tmp 3)⟩,
    ⟨some (23, true), some 33, .mv (.tmp 11)⟩,
    ⟨some (23, true), some 34, .bin .add (.tmp 32) (.tmp 33)⟩,
    ⟨some (23, true), some 35, .bin .add (.tmp 34) (.const (.int .i64 1))⟩,
    ⟨some (23, true), some 36, .idx 6 (.tmp 31) (.tmp 35)⟩,
    ⟨some (23, true), some 37, .loadA 6 (.tmp 36)⟩]),
   (true, [(19, 0), (20, 0), (21, 0)], [⟨some (23, true), some 38, .callv (.tmp 24) [.tmp 30, .tmp 37]⟩,
    ⟨some (23, true), some 39, .bin .lss (.tmp 38) (.const (.int .i64 0))⟩,
    ⟨none, some 40, .pick (.tmp 23) (.tmp 39) (.const (.bool false))⟩])])
  (.cond (.tmp 40) (.rg [⟨none, some 41, .mv (.tmp 11)⟩,
    ⟨none, some 42, .bin .add (.tmp 41) (.const (.int .i64 1))⟩,
    ⟨none, some 11, .mv (.tmp 42)⟩]) (.skip)))
  (.seq (.seq (.dr [(false, [(0, 0), (1, 0), (2, 0), (3, 0), (4, 0), (5, 0), (6, 0), (7, 0), (8, 0), (9, 0), (10, 0), (11, 0), (12, 0)], [⟨none, some 43, .mv (.tmp 4)⟩,
    ⟨none, some 44, .mv (.tmp 0)⟩,
    ⟨none, some 45, .mv (.tmp 3)⟩,
    ⟨none, some 46, .mv (.tmp 10)⟩,
    ⟨none, some 47, .bin .add (.tmp 45) (.tmp 46)⟩,
    ⟨none, some 48, .idx 6 (.tmp 44) (.tmp 47)⟩,
    ⟨none, some 49, .loadA 6 (.tmp 48)⟩,
    ⟨none, some 50, .mv (.tmp 0)⟩,
    ⟨none, some 51, .mv (.tmp 3)⟩,
    ⟨none, some 52, .mv (.tmp 11)⟩,
    ⟨none, some 53, .bin .add (.tmp 51) (.tmp 52)⟩,
    ⟨none, some 54, .idx 6 (.tmp 50) (.tmp 53)⟩,
    ⟨none, some 55, .loadA 6 (.tmp 54)⟩]),
   (true, [(13, 0), (14, 0), (15, 0)], [⟨none, some 56, .callv (.tmp 43) [.tmp 49, .tmp 55]⟩,
    ⟨none, some 57, .bin .lss (.tmp 56) (.const (.int .i64 0))⟩,
    ⟨none, some 58, .un .not (.tmp 57)⟩])])
  (.cond (.tmp 58) (.ret) (.skip)))
  (.seq (.dr [(false, [(0, 0), (1, 0), (2, 0), (3, 0), (4, 0), (5, 0), (6, 0), (7, 0), (8, 0), (9, 0), (10, 0), (11, 0), (12, 0), (13, 0), (14, 0), (15, 0), (16, 0), (17, 0), (18, 0), (19, 0), (20, 0), (21, 1)], [⟨none, some 59, .mv (.tmp 0)⟩,
    ⟨none, some 60, .mv (.tmp 3)⟩,
    ⟨none, some 61, .mv (.tmp 10)⟩,
    ⟨none, some 62, .bin .add (.tmp 60) (.tmp 61)⟩,
    ⟨none, some 63, .mv (.tmp 0)⟩,
    ⟨none, some 64, .mv (.tmp 3)⟩,
    ⟨none, some 65, .mv (.tmp 11)⟩,
    ⟨none, some 66, .bin .add (.tmp 64) (.tmp 65)⟩,
    ⟨none, some 67, .mv (.tmp 0)⟩,
    ⟨none, some 68, .mv (.tmp 3)⟩,
    ⟨none, some 69, .mv (.tmp 11)⟩,
    ⟨none, some 70, .bin .add (.tmp 68) (.tmp 69)⟩,
    ⟨none, some 71, .idx 6 (.tmp 67) (.tmp 70)⟩,
    ⟨none, some 72, .loadA 6 (.tmp 71)⟩,
    ⟨none, some 73, .mv (.tmp 0)⟩,
    ⟨none, some 74, .mv (.tmp 3)⟩,
    ⟨none, some 75, .mv (.tmp 10)⟩,
    ⟨none, some 76, .bin .add (.tmp 74) (.tmp 75)⟩,
    ⟨none, some 77, .idx 6 (.tmp 73) (.tmp 76)⟩,
    ⟨none, some 78, .loadA 6 (.tmp 77)⟩,
    ⟨none, some 79, .idx 6 (.tmp 59) (.tmp 62)⟩,
    ⟨none, none, .store 6 (.tmp 79) (.tmp 72)⟩]),
   (true, [(22, 0), (23, 0)], [⟨none, some 80, .idx 6 (.tmp 63) (.tmp 66)⟩,
    ⟨none, none, .store 6 (.tmp 80) (.tmp 78)⟩])])
  (.rg [⟨none, some 81, .mv (.tmp 11)⟩,
    ⟨none, some 10, .mv (.tmp 81)⟩]))))))
def ac61 (q : Option (Nat × Nat)) : AC := .seq (.rg [⟨none, some 12, .mv (.tmp 1)⟩,
    ⟨none, some 10, .mv (.tmp 12)⟩])
  (.blk 0 (.loop q [0, 2, 3, 4, 10] (ac61_L0 q)))
theorem ac61_ok (q : Option (Nat × Nat)) : compF Go.Proofs.Try.prog Go.Proofs.Try.f61 (ac61 q) = some (ac61 q, []) := by kernel_rfl

/- slices.nextPowerOfTwo -/
def ac62 (q : Option (Nat × Nat)) : AC := .seq (.rg [⟨none, some 2, .mv (.const (.int .u64 0))⟩])
  (.seq (.rg [⟨none, some 3, .mv (.tmp 0)⟩,
    ⟨none, some 4, .conv .u64 (.tmp 3)⟩,
    ⟨none, some 5, .call 49 [.tmp 4]⟩,
    ⟨none, some 6, .bin .shl (.const (.int .u64 1)) (.tmp 5)⟩,
    ⟨none, some 2, .mv (.tmp 6)⟩])
  (.ret))
theorem ac62_ok (q : Option (Nat × Nat)) : compF Go.Proofs.Try.prog Go.Proofs.Try.f62 (ac62 q) = some (ac62 q, [.tmp 2]) := by kernel_rfl

/- (*slices.xorshift).Next -/
def ac63 (q : Option (Nat × Nat)) : AC := .seq (.rg [⟨none, some 2, .mv (.const (.int .u64 0))⟩])
  (.seq (.dr [(false, [(0, 0), (1, 0), (2, 0), (3, 0), (4, 0), (5, 0), (6, 0)], [⟨none, some 3, .mv (.tmp 0)⟩,
    ⟨none, some 4, .nilck (.tmp 3)⟩,
    ⟨none, some 5, .load (.tmp 4)⟩,
    ⟨none, some 6, .mv (.tmp 0)⟩,
    ⟨none, some 7, .nilck (.tmp 6)⟩,
    ⟨none, some 8, .load (.tmp 7)⟩,
    ⟨none, some 9, .bin .shl (.tmp 8) (.const (.int .u64 13))⟩]),
   (true, [(7, 0), (8, 0), (9, 0)], [⟨none, some 10, .bin .xor (.tmp 5) (.tmp 9)⟩,
    ⟨none, some 11, .nilck (.tmp 3)⟩,
    ⟨none, none, .store 1 (.tmp 11) (.tmp 10)⟩])])
  (.seq (.dr [(false, [(0, 0), (1, 0), (2, 0), (3, 0), (4, 0), (5, 0), (6, 0)], [⟨none, some 12, .mv (.tmp 0)⟩,
    ⟨none, some 13, .nilck (.tmp 12)⟩,
    ⟨none, some 14, .load (.tmp 13)⟩,
    ⟨none, some 15, .mv (.tmp 0)⟩,
    ⟨none, some 16, .nilck (.tmp 15)⟩,
    ⟨none, some 17, .load (.tmp 16)⟩,
    ⟨none, some 18, .bin .shr (.tmp 17) (.const (.int .u64 7))⟩]),
   (true, [(7, 0), (8, 0), (9, 0)], [⟨none, some 19, .bin .xor (.tmp 14) (.tmp 18)⟩,
    ⟨none, some 20, .nilck (.tmp 12)⟩,
    ⟨none, none, .store 1 (.tmp 20) (.tmp 19)⟩])])
  (.seq (.dr [(false, [(0, 0), (1, 0), (2, 0), (3, 0), (4, 0), (5, 0), (6, 0)], [⟨none, some 21, .mv (.tmp 0)⟩,
    ⟨none, some 22, .nilck (.tmp 21)⟩,
    ⟨none, some 23, .load (.tmp 22)⟩,
    ⟨none, some 24, .mv (.tmp 0)⟩,
    ⟨none, some 25, .nilck (.tmp 24)⟩,
    ⟨none, some 26, .load (.tmp 25)⟩,
    ⟨none, some 27, .bin .shl (.tmp 26) (.const (.int .u64 17))⟩]),
   (true, [(7, 0), (8, 0), (9, 0)], [⟨none, some 28, .bin .xor (.tmp 23) (.tmp 27)⟩,
    ⟨none, some 29, .nilck (.tmp 21)⟩,
    ⟨none, none, .store 1 (.tmp 29) (.tmp 28)⟩])])
  (.seq (.rg [⟨none, some 30, .mv (.tmp 0)⟩,
    ⟨none, some 31, .nilck (.tmp 30)⟩,
    ⟨none, some 32, .load (.tmp 31)⟩,
    ⟨none, some 2, .mv (.tmp 32)⟩])
  (.ret)))))
theorem ac63_ok (q : Option (Nat × Nat)) : compF Go.Proofs.Try.prog Go.Proofs.Try.f63 (ac63 q) = some (ac63 q, [.tmp 2]) := by kernel_rfl

/- slices.medianAdjacentCmpFunc[clearway api.Parcel] -/
def ac64 (q : Option (Nat × Nat)) : AC := .seq (.rg [⟨none, some 8, .mv (.const (.int .i64 0))⟩])
  (.seq (.rg [⟨none, some 9, .mv (.tmp 0)⟩,
    ⟨none, some 10, .mv (.tmp 1)⟩,
    ⟨none, some 11, .bin .sub (.tmp 10) (.const (.int .i64 1))⟩,
    ⟨none, some 12, .mv (.tmp 1)⟩,
    ⟨none, some 13, .mv (.tmp 1)⟩,
    ⟨none, some 14, .bin .add (.tmp 13) (.const (.int .i64 1))⟩,
    ⟨none, some 15, .mv (.tmp 2)⟩,
    ⟨none, some 16, .mv (.tmp 3)⟩,
    ⟨none, some 17, .call 65 [.tmp 9, .tmp 11, .tmp 12, .tmp 14, .tmp 15, .tmp 16]⟩,
    ⟨none, some 8, .mv (.tmp 17)⟩])
  (.ret))
theorem ac64_ok (q : Option (Nat × Nat)) : compF Go.Proofs.Try.prog Go.Proofs.Try.f64 (ac64 q) = some (ac64 q, [.tmp 8]) := by kernel_rfl

/- slices.medianCmpFunc[clearway api.Parcel] -/
def ac65 (q : Option (Nat × Nat)) : AC := .seq (.rg [⟨none, some 12, .mv (.const (.int .i64 0))⟩])
  (.seq (.rg [⟨none, some 14, .mv (.tmp 0)⟩,
    ⟨none, some 15, .mv (.tmp 1)⟩,
    ⟨none, some 16, .mv (.tmp 2)⟩,
    ⟨none, some 17, .mv (.tmp 4)⟩,
    ⟨none, some 18, .mv (.tmp 5)⟩,
    ⟨none, some 19, .call 66 [.tmp 14, .tmp 15, .tmp 16, .tmp 17, .tmp 18]⟩,
    ⟨none, some 13, .mv (.tmp 19)⟩,
    ⟨none, some 20, .extract (.tmp 13) 0⟩,
    ⟨none, some 21, .extract (.tmp 13) 1⟩,
    ⟨none, some 1, .mv (.tmp 20)⟩,
    ⟨none, some 2, .mv (.tmp 21)⟩])
  (.seq (.rg [⟨none, some 23, .mv (.tmp 0)⟩,
    ⟨none, some 24, .mv (.tmp 2)⟩,
    ⟨none, some 25, .mv (.tmp 3)⟩,
    ⟨none, some 26, .mv (.tmp 4)⟩,
    ⟨none, some 27, .mv (.tmp 5)⟩,
    ⟨none, some 28, .call 66 [.tmp 23, .tmp 24, .tmp 25, .tmp 26, .tmp 27]⟩,
    ⟨none, some 22, .mv (.tmp 28)⟩,
    ⟨none, some 29, .extract (.tmp 22) 0⟩,
    ⟨none, some 30, .extract (.tmp 22) 1⟩,
    ⟨none, some 2, .mv (.tmp 29)⟩,
    ⟨none, some 3, .mv (.tmp 30)⟩])
  (.seq (.rg [⟨none, some 32, .mv (.tmp 0)⟩,
    ⟨none, some 33, .mv (.tmp 1)⟩,
    ⟨none, some 34, .mv (.tmp 2)⟩,
    ⟨none, some 35, .mv (.tmp 4)⟩,
    ⟨none, some 36, .mv (.tmp 5)⟩,
    ⟨none, some 37, .call 66 [.tmp 32, .tmp 33, .tmp 34, .tmp 35, .tmp 36]⟩,
    ⟨none, some 31, .mv (.tmp 37)⟩,
    ⟨none, some 38, .extract (.tmp 31) 0⟩,
    ⟨none, some 39, .extract (.tmp 31) 1⟩,
    ⟨none, some 1, .mv (.tmp 38)⟩,
    ⟨none, some 2, .mv (.tmp 39)⟩])
  (.seq (.rg [⟨none, some 40, .mv (.tmp 2)⟩,
    ⟨none, some 12, .mv (.tmp 40)⟩])
  (.ret)))))
theorem ac65_ok (q : Option (Nat × Nat)) : compF Go.Proofs.Try.prog Go.Proofs.Try.f65 (ac65 q) = some (ac65 q, [.tmp 12]) := by kernel_rfl

/- slices.order2CmpFunc[clearway api.Parcel] -/
def ac66 (q : Option (Nat × Nat)) : AC := .seq (.rg [⟨none, some 10, .mv (.const (.int .i64 0))⟩,
    ⟨none, some 11, .mv (.const (.int .i64 0))⟩])
  (.seq (.seq (.dr [(false, [(0, 0), (1, 0), (2, 0), (3, 0), (4, 0), (5, 0), (6, 0), (7, 0), (8, 0)], [⟨none, some 12, .mv (.tmp 4)⟩,
    ⟨none, some 13, .mv (.tmp 0)⟩,
    ⟨none, some 14, .mv (.tmp 2)⟩,
    ⟨none, some 15, .idx 6 (.tmp 13) (.tmp 14)⟩,
    ⟨none, some 16, .loadA 6 (.tmp 15)⟩,
    ⟨none, some 17, .mv (.tmp 0)⟩,
    ⟨none, some 18, .mv (.tmp 1)⟩,
    ⟨none, some 19, .idx 6 (.tmp 17) (.tmp 18)⟩,
    ⟨none, some 20, .loadA 6 (.tmp 19)⟩]),
   (true, [(9, 0), (10, 0)], [⟨none, some 21, .callv (.tmp 12) [.tmp 16, .tmp 20]⟩,
    ⟨none, some 22, .bin .lss (.tmp 21) (.const (.int .i64 0))⟩])])
  (.cond (.tmp 22) (.seq (.rg [⟨none, some 23, .mv (.tmp 3)⟩,
    ⟨none, some 24, .nilck (.tmp 23)⟩,
    ⟨none, some 25, .load (.tmp 24)⟩,
    ⟨none, some 26, .bin .add (.tmp 25) (.const (.int .i64 1))⟩,
    ⟨none, some 27, .nilck (.tmp 23)⟩,
    ⟨none, none, .store 1 (.tmp 27) (.tmp 26)⟩])
  (.seq (.rg [⟨none, some 28, .mv (.tmp 2)⟩,
    ⟨none, some 29, .mv (.tmp 1)⟩,
    ⟨none, some 10, .mv (.tmp 28)⟩,
    ⟨none, some 11, .mv (.tmp 29)⟩])
  (.ret))) (.skip)))
  (.seq (.rg [⟨none, some 30, .mv (.tmp 1)⟩,
    ⟨none, some 31, .mv (.tmp 2)⟩,
    ⟨none, some 10, .mv (.tmp 30)⟩,
    ⟨none, some 11, .mv (.tmp 31)⟩])
  (.ret)))
theorem ac66_ok (q : Option (Nat × Nat)) : compF Go.Proofs.Try.prog Go.Proofs.Try.f66 (ac66 q) = some (ac66 q, [.tmp 10, .tmp 11]) := by kernel_rfl

/- (clearway link.queue).Less -/
def ac83 (q : Option (Nat × Nat)) : AC := .seq (.rg [⟨none, some 6, .mv (.const (.bool false))⟩])
  (.seq (.dr [(false, [(0, 0), (1, 0), (2, 0), (3, 0), (4, 0), (5, 0), (6, 0), (7, 0)], [⟨none, some 7, .mv (.tmp 0)⟩,
    ⟨none, some 8, .mv (.tmp 1)⟩,
    ⟨none, some 9, .idx 6 (.tmp 7) (.tmp 8)⟩,
    ⟨none, some 10, .loadA 6 (.tmp 9)⟩,
    ⟨none, some 11, .mv (.tmp 0)⟩,
    ⟨none, some 12, .mv (.tmp 2)⟩,
    ⟨none, some 13, .idx 6 (.tmp 11) (.tmp 12)⟩,
    ⟨none, some 14, .loadA 6 (.tmp 13)⟩]),
   (true, [(8, 0), (9, 0)], [⟨none, some 15, .call 42 [.tmp 10, .tmp 14]⟩,
    ⟨none, some 6, .mv (.tmp 15)⟩])])
  (.ret))
theorem ac83_ok (q : Option (Nat × Nat)) : compF Go.Proofs.Try.prog Go.Proofs.Try.f83 (ac83 q) = some (ac83 q, [.tmp 6]) := by kernel_rfl

/- (*clearway link.queue).Pop -/
def ac84 (q : Option (Nat × Nat)) : AC := .seq (.rg [⟨none, some 2, .mv (.const .nilIface)⟩])
  (.seq (.rg [⟨none, some 5, .mv (.tmp 0)⟩,
    ⟨none, some 6, .nilck (.tmp 5)⟩,
    ⟨none, some 7, .load (.tmp 6)⟩,
    ⟨none, some 8, .len (.tmp 7)⟩,
    ⟨none, some 9, .bin .sub (.tmp 8) (.const (.int .i64 1))⟩,
    ⟨none, some 3, .mv (.tmp 9)⟩])
  (.seq (.rg [⟨none, some 10, .mv (.tmp 0)⟩,
    ⟨none, some 11, .nilck (.tmp 10)⟩,
    ⟨none, some 12, .load (.tmp 11)⟩,
    ⟨none, some 13, .mv (.tmp 3)⟩,
    ⟨none, some 14, .idx 6 (.tmp 12) (.tmp 13)⟩,
    ⟨none, some 15, .loadA 6 (.tmp 14)⟩,
    ⟨none, some 4, .alloc 49 [.p (.v (.int .i64 0)), .p (.v (.int .i64 0)), .p (.v (.int .i64 0)), .p (.v (.int .i64 0)), .p (.v (.int .u8 0)), .p (.v (.int .i64 0))]⟩,
    ⟨none, none, .store 6 (.tmp 4) (.tmp 15)⟩])
  (.seq (.rg [⟨none, some 16, .mv (.tmp 0)⟩,
    ⟨none, some 17, .mv (.tmp 0)⟩,
    ⟨none, some 18, .nilck (.tmp 17)⟩,
    ⟨none, some 19, .load (.tmp 18)⟩,
    ⟨none, some 20, .mv (.tmp 3)⟩,
    ⟨none, some 21, .slice 6 (.tmp 19) none (some (.tmp 20))⟩,
    ⟨none, some 22, .nilck (.tmp 16)⟩,
    ⟨none, none, .store 1 (.tmp 22) (.tmp 21)⟩])
  (.seq (.rg [⟨none, some 23, .loadA 6 (.tmp 4)⟩,
    ⟨none, some 24, .mkifc 49 (.tmp 23)⟩,
    ⟨none, some 2, .mv (.tmp 24)⟩])
  (.ret)))))
theorem ac84_ok (q : Option (Nat × Nat)) : compF Go.Proofs.Try.prog Go.Proofs.Try.f84 (ac84 q) = some (ac84 q, [.tmp 2]) := by kernel_rfl

/- (*clearway link.queue).Push -/
def ac85 (q : Option (Nat × Nat)) : AC := .dr [(false, [(0, 0), (1, 0), (2, 0), (3, 0), (4, 0), (5, 0), (6, 0), (7, 1)], [⟨none, some 4, .mv (.tmp 0)⟩,
    ⟨none, some 5, .mv (.tmp 0)⟩,
    ⟨none, some 6, .nilck (.tmp 5)⟩,
    ⟨none, some 7, .load (.tmp 6)⟩,
    ⟨none, some 8, .mv (.tmp 1)⟩,
    ⟨none, some 9, .tassert 49 false (.tmp 8)⟩,
    ⟨none, some 10, .bslice false 49 1 6 [.p (.v (.int .i64 0)), .p (.v (.int .i64 0)), .p (.v (.int .i64 0)), .p (.v (.int .i64 0)), .p (.v (.int .u8 0)), .p (.v (.int .i64 0))] [(0, 6, .tmp 9)]⟩,
    ⟨none, some 11, .append 49 6 48 (.tmp 7) (.tmp 10)⟩]),
   (true, [(8, 0), (9, 0)], [⟨none, some 12, .nilck (.tmp 4)⟩,
    ⟨none, none, .store 1 (.tmp 12) (.tmp 11)⟩])]
theorem ac85_ok (q : Option (Nat × Nat)) : compF Go.Proofs.Try.prog Go.Proofs.Try.f85 (ac85 q) = some (ac85 q, []) := by kernel_rfl

/- (clearway link.queue).Swap -/
def ac86 (q : Option (Nat × Nat)) : AC := .dr [(false, [(0, 0), (1, 0), (2, 0), (3, 0), (4, 0), (5, 0), (6, 0), (7, 0), (8, 0), (9, 0), (10, 0), (11, 0), (12, 0), (13, 1)], [⟨none, some 6, .mv (.tmp 0)⟩,
    ⟨none, some 7, .mv (.tmp 1)⟩,
    ⟨none, some 8, .mv (.tmp 0)⟩,
    ⟨none, some 9, .mv (.tmp 2)⟩,
    ⟨none, some 10, .mv (.tmp 0)⟩,
    ⟨none, some 11, .mv (.tmp 2)⟩,
    ⟨none, some 12, .idx 6 (.tmp 10) (.tmp 11)⟩,
    ⟨none, some 13, .loadA 6 (.tmp 12)⟩,
    ⟨none, some 14, .mv (.tmp 0)⟩,
    ⟨none, some 15, .mv (.tmp 1)⟩,
    ⟨none, some 16, .idx 6 (.tmp 14) (.tmp 15)⟩,
    ⟨none, some 17, .loadA 6 (.tmp 16)⟩,
    ⟨none, some 18, .idx 6 (.tmp 6) (.tmp 7)⟩,
    ⟨none, none, .store 6 (.tmp 18) (.tmp 13)⟩]),
   (true, [(14, 0), (15, 0)], [⟨none, some 19, .idx 6 (.tmp 8) (.tmp 9)⟩,
    ⟨none, none, .store 6 (.tmp 19) (.tmp 17)⟩])]
theorem ac86_ok (q : Option (Nat × Nat)) : compF Go.Proofs.Try.prog Go.Proofs.Try.f86 (ac86 q) = some (ac86 q, []) := by kernel_rfl

noncomputable def s33tbl : Tbl :=
  tcons 3 (ac3 none, [.tmp 4], 166) <|
  tcons 10 (ac10 none, [.tmp 0], 86) <|
  tcons 11 (ac11 none, [.tmp 2, .tmp 3], 22) <|
  tcons 12 (ac12 none, [.tmp 2, .tmp 3], 15) <|
  tcons 13 (ac13 none, [.tmp 6], 72) <|
  tcons 14 (ac14 none, [.tmp 6], 77) <|
  tcons 15 (ac15 none, [.tmp 4, .tmp 5], 57) <|
  tcons 16 (ac16 none, [.tmp 4, .tmp 5], 54) <|
  tcons 17 (ac17 none, [.tmp 4], 26) <|
  tcons 18 (ac18 none, [.tmp 2], 23) <|
  tcons 19 (ac19 none, [.tmp 4], 26) <|
  tcons 20 (ac20 none, [.tmp 2], 76) <|
  tcons 21 (ac21 none, [.tmp 2], 9) <|
  tcons 22 (ac22 none, [.tmp 2, .tmp 3], 29) <|
  tcons 27 (ac27 none, [.cell 2 (some 4)], 5) <|
  tcons 29 (ac29 none, [.tmp 6], 38) <|
  tcons 30 (ac30 none, [.tmp 2], 10) <|
  tcons 31 (ac31 none, [.tmp 2], 25) <|
  tcons 32 (ac32 none, [.tmp 4], 29) <|
  tcons 33 (ac33 none, [.tmp 2], 35) <|
  tcons 34 (ac34 none, [.tmp 2], 5) <|
  tcons 35 (ac35 none, [], 12) <|
  tcons 36 (ac36 none, [.tmp 4], 17) <|
  tcons 37 (ac37 none, [.tmp 2], 39) <|
  tcons 38 (ac38 none, [.tmp 2], 15) <|
  tcons 39 (ac39 none, [.tmp 2], 8) <|
  tcons 40 (ac40 none, [], 14) <|
  tcons 41 (ac41 none, [.tmp 4], 8) <|
  tcons 42 (ac42 none, [.tmp 4], 24) <|
  tcons 43 (ac43 none, [.tmp 4], 9) <|
  tcons 44 (ac44 none, [.tmp 2], 9) <|
  tcons 45 (ac45 none, [.tmp 2], 9) <|
  tcons 46 (ac46 none, [], 23) <|
  tcons 47 (ac47 none, [.tmp 6], 48) <|
  tcons 48 (ac48 none, [], 148) <|
  tcons 49 (ac49 none, [.tmp 2], 8) <|
  tcons 50 (ac50 none, [.tmp 4], 19) <|
  tcons 51 (ac51 none, [], 53) <|
  tcons 52 (ac52 none, [], 60) <|
  tcons 53 (ac53 none, [], 67) <|
  tcons 54 (ac54 none, [.tmp 8, .tmp 9], 63) <|
  tcons 55 (ac55 none, [], 34) <|
  tcons 56 (ac56 none, [.tmp 8], 141) <|
  tcons 57 (ac57 none, [.tmp 10], 90) <|
  tcons 58 (ac58 none, [.tmp 10, .tmp 11], 178) <|
  tcons 61 (ac61 none, [], 82) <|
  tcons 62 (ac62 none, [.tmp 2], 7) <|
  tcons 63 (ac63 none, [.tmp 2], 33) <|
  tcons 64 (ac64 none, [.tmp 8], 18) <|
  tcons 65 (ac65 none, [.tmp 12], 41) <|
  tcons 66 (ac66 none, [.tmp 10, .tmp 11], 32) <|
  tcons 83 (ac83 none, [.tmp 6], 16) <|
  tcons 84 (ac84 none, [.tmp 2], 25) <|
  tcons 85 (ac85 none, [], 13) <|
  tcons 86 (ac86 none, [], 20) <|
  fun _ => none
theorem s33tbl_ok : TblOK Go.Proofs.Try.prog s33tbl :=
  .cons Go.Proofs.Try.call3 Go.Proofs.Try.func3 (ac3_ok none) (by rw [Go.Proofs.Try.ntmps3]; exact Nat.le_refl _) <|
  .cons Go.Proofs.Try.call10 Go.Proofs.Try.func10 (ac10_ok none) (by rw [Go.Proofs.Try.ntmps10]; exact Nat.le_refl _) <|
  .cons Go.Proofs.Try.call11 Go.Proofs.Try.func11 (ac11_ok none) (by rw [Go.Proofs.Try.ntmps11]; exact Nat.le_refl _) <|
  .cons Go.Proofs.Try.call12 Go.Proofs.Try.func12 (ac12_ok none) (by rw [Go.Proofs.Try.ntmps12]; exact Nat.le_refl _) <|
  .cons Go.Proofs.Try.call13 Go.Proofs.Try.func13 (ac13_ok none) (by rw [Go.Proofs.Try.ntmps13]; exact Nat.le_refl _) <|
  .cons Go.Proofs.Try.call14 Go.Proofs.Try.func14 (ac14_ok none) (by rw [Go.Proofs.Try.ntmps14]; exact Nat.le_refl _) <|
  .cons Go.Proofs.Try.call15 Go.Proofs.Try.func15 (ac15_ok none) (by rw [Go.Proofs.Try.ntmps15]; exact Nat.le_refl _) <|
  .cons Go.Proofs.Try.call16 Go.Proofs.Try.func16 (ac16_ok none) (by rw [Go.Proofs.Try.ntmps16]; exact Nat.le_refl _) <|
  .cons Go.Proofs.Try.call17 Go.Proofs.Try.func17 (ac17_ok none) (by rw [Go.Proofs.Try.ntmps17]; exact Nat.le_refl _) <|
  .cons Go.Proofs.Try.call18 Go.Proofs.Try.func18 (ac18_ok none) (by rw [Go.Proofs.Try.ntmps18]; exact Nat.le_refl _) <|
  .cons Go.Proofs.Try.call19 Go.Proofs.Try.func19 (ac19_ok none) (by rw [Go.Proofs.Try.ntmps19]; exact Nat.le_refl _) <|
  .cons Go.Proofs.Try.call20 Go.Proofs.Try.func20 (ac20_ok none) (by rw [Go.Proofs.Try.ntmps20]; exact Nat.le_refl _) <|
  .cons Go.Proofs.Try.call21 Go.Proofs.Try.func21 (ac21_ok none) (by rw [Go.Proofs.Try.ntmps21]; exact Nat.le_refl _) <|
  .cons Go.Proofs.Try.call22 Go.Proofs.Try.func22 (ac22_ok none) (by rw [Go.Proofs.Try.ntmps22]; exact Nat.le_refl _) <|
  .cons Go.Proofs.Try.call27 Go.Proofs.Try.func27 (ac27_ok none) (by rw [Go.Proofs.Try.ntmps27]; exact Nat.le_refl _) <|
  .cons Go.Proofs.Try.call29 Go.Proofs.Try.func29 (ac29_ok none) (by rw [Go.Proofs.Try.ntmps29]; exact Nat.le_refl _) <|
  .cons Go.Proofs.Try.call30 Go.Proofs.Try.func30 (ac30_ok none) (by rw [Go.Proofs.Try.ntmps30]; exact Nat.le_refl _) <|
  .cons Go.Proofs.Try.call31 Go.Proofs.Try.func31 (ac31_ok none) (by rw [Go.Proofs.Try.ntmps31]; exact Nat.le_refl _) <|
  .cons Go.Proofs.Try.call32 Go.Proofs.Try.func32 (ac32_ok none) (by rw [Go.Proofs.Try.ntmps32]; exact Nat.le_refl _) <|
  .cons Go.Proofs.Try.call33 Go.Proofs.Try.func33 (ac33_ok none) (by rw [Go.Proofs.Try.ntmps33]; exact Nat.le_refl _) <|
  .cons Go.Proofs.Try.call34 Go.Proofs.Try.func34 (ac34_ok none) (by rw [Go.Proofs.Try.ntmps34]; exact Nat.le_refl _) <|
  .cons Go.Proofs.Try.call35 Go.Proofs.Try.func35 (ac35_ok none) (by rw [Go.Proofs.Try.ntmps35]; exact Nat.le_refl _) <|
  .cons Go.Proofs.Try.call36 Go.Proofs.Try.func36 (ac36_ok none) (by rw [Go.Proofs.Try.ntmps36]; exact Nat.le_refl _) <|
  .cons Go.Proofs.Try.call37 Go.Proofs.Try.func37 (ac37_ok none) (by rw [Go.Proofs.Try.ntmps37]; exact Nat.le_refl _) <|
  .cons Go.Proofs.Try.call38 Go.Proofs.Try.func38 (ac38_ok none) (by rw [Go.Proofs.Try.ntmps38]; exact Nat.le_refl _) <|
  .cons Go.Proofs.Try.call39 Go.Proofs.Try.func39 (ac39_ok none) (by rw [Go.Proofs.Try.ntmps39]; exact Nat.le_refl _) <|
  .cons Go.Proofs.Try.call40 Go.Proofs.Try.func40 (ac40_ok none) (by rw [Go.Proofs.Try.ntmps40]; exact Nat.le_refl _) <|
  .cons Go.Proofs.Try.call41 Go.Proofs.Try.func41 (ac41_ok none) (by rw [Go.Proofs.Try.ntmps41]; exact Nat.le_refl _) <|
  .cons Go.Proofs.Try.call42 Go.Proofs.Try.func42 (ac42_ok none) (by rw [Go.Proofs.Try.ntmps42]; exact Nat.le_refl _) <|
  .cons Go.Proofs.Try.call43 Go.Proofs.Try.func43 (ac43_ok none) (by rw [Go.Proofs.Try.ntmps43]; exact Nat.le_refl _) <|
  .cons Go.Proofs.Try.call44 Go.Proofs.Try.func44 (ac44_ok none) (by rw [Go.Proofs.Try.ntmps44]; exact Nat.le_refl _) <|
  .cons Go.Proofs.Try.call45 Go.Proofs.Try.func45 (ac45_ok none) (by rw [Go.Proofs.Try.ntmps45]; exact Nat.le_refl _) <|
  .cons Go.Proofs.Try.call46 Go.Proofs.Try.func46 (ac46_ok none) (by rw [Go.Proofs.Try.ntmps46]; exact Nat.le_refl _) <|
  .cons Go.Proofs.Try.call47 Go.Proofs.Try.func47 (ac47_ok none) (by rw [Go.Proofs.Try.ntmps47]; exact Nat.le_refl _) <|
  .cons Go.Proofs.Try.call48 Go.Proofs.Try.func48 (ac48_ok none) (by rw [Go.Proofs.Try.ntmps48]; exact Nat.le_refl _) <|
  .cons Go.Proofs.Try.call49 Go.Proofs.Try.func49 (ac49_ok none) (by rw [Go.Proofs.Try.ntmps49]; exact Nat.le_refl _) <|
  .cons Go.Proofs.Try.call50 Go.Proofs.Try.func50 (ac50_ok none) (by rw [Go.Proofs.Try.ntmps50]; exact Nat.le_refl _) <|
  .cons Go.Proofs.Try.call51 Go.Proofs.Try.func51 (ac51_ok none) (by rw [Go.Proofs.Try.ntmps51]; exact Nat.le_refl _) <|
  .cons Go.Proofs.Try.call52 Go.Proofs.Try.func52 (ac52_ok none) (by rw [Go.Proofs.Try.ntmps52]; exact Nat.le_refl _) <|
  .cons Go.Proofs.Try.call53 Go.Proofs.Try.func53 (ac53_ok none) (by rw [Go.Proofs.Try.ntmps53]; exact Nat.le_refl _) <|
  .cons Go.Proofs.Try.call54 Go.Proofs.Try.func54 (ac54_ok none) (by rw [Go.Proofs.Try.ntmps54]; exact Nat.le_refl _) <|
  .cons Go.Proofs.Try.call55 Go.Proofs.Try.func55 (ac55_ok none) (by rw [Go.Proofs.Try.ntmps55]; exact Nat.le_refl _) <|
  .cons Go.Proofs.Try.call56 Go.Proofs.Try.func56 (ac56_ok none) (by rw [Go.Proofs.Try.ntmps56]; exact Nat.le_refl _) <|
  .cons Go.Proofs.Try.call57 Go.Proofs.Try.func57 (ac57_ok none) (by rw [Go.Proofs.Try.ntmps57]; exact Nat.le_refl _) <|
  .cons Go.Proofs.Try.call58 Go.Proofs.Try.func58 (ac58_ok none) (by rw [Go.Proofs.Try.ntmps58]; exact Nat.le_refl _) <|
  .cons Go.Proofs.Try.call61 Go.Proofs.Try.func61 (ac61_ok none) (by rw [Go.Proofs.Try.ntmps61]; exact Nat.le_refl _) <|
  .cons Go.Proofs.Try.call62 Go.Proofs.Try.func62 (ac62_ok none) (by rw [Go.Proofs.Try.ntmps62]; exact Nat.le_refl _) <|
  .cons Go.Proofs.Try.call63 Go.Proofs.Try.func63 (ac63_ok none) (by rw [Go.Proofs.Try.ntmps63]; exact Nat.le_refl _) <|
  .cons Go.Proofs.Try.call64 Go.Proofs.Try.func64 (ac64_ok none) (by rw [Go.Proofs.Try.ntmps64]; exact Nat.le_refl _) <|
  .cons Go.Proofs.Try.call65 Go.Proofs.Try.func65 (ac65_ok none) (by rw [Go.Proofs.Try.ntmps65]; exact Nat.le_refl _) <|
  .cons Go.Proofs.Try.call66 Go.Proofs.Try.func66 (ac66_ok none) (by rw [Go.Proofs.Try.ntmps66]; exact Nat.le_refl _) <|
  .cons Go.Proofs.Try.call83 Go.Proofs.Try.func83 (ac83_ok none) (by rw [Go.Proofs.Try.ntmps83]; exact Nat.le_refl _) <|
  .cons Go.Proofs.Try.call84 Go.Proofs.Try.func84 (ac84_ok none) (by rw [Go.Proofs.Try.ntmps84]; exact Nat.le_refl _) <|
  .cons Go.Proofs.Try.call85 Go.Proofs.Try.func85 (ac85_ok none) (by rw [Go.Proofs.Try.ntmps85]; exact Nat.le_refl _) <|
  .cons Go.Proofs.Try.call86 Go.Proofs.Try.func86 (ac86_ok none) (by rw [Go.Proofs.Try.ntmps86]; exact Nat.le_refl _) <|
  .nil
def cfg : Cfg := ⟨[(3, (.int .i64)), (4, .bool), (33, (.pair (.int .i64) (.pair (.int .i64) (.pair (.int .u8) (.int .i64))))), (49, (.pair (.int .i64) (.pair (.int .i64) (.pair (.int .i64) (.pair (.int .i64) (.pair (.int .u8) (.int .i64)))))))], [(73, [.a 256 (.int .i64), .c (.v (.int .i64 0)), .c (.v (.int .i64 0)), .c (.v (.pointer none))])]⟩
end Go.Ab
