/- The codes of functions of this seat, as annotated, compared with the program by the kernel. No conditions. -/
import Derived.Test.YteiolnofaebknaaProg
import Derived.Test.YteiolnofaebknaaAbE
set_option linter.unusedVariables false
set_option linter.unusedSimpArgs false
namespace Go.Ab
/- clearway clearwaylaw34.CoordinateSafe -/
def ac6_L0 (q : Option (Nat × Nat)) : AC := .seq (.seq (.rg [⟨none, some 40, .mv (.tmp 12)⟩,
    ⟨none, some 41, .mv (.tmp 10)⟩,
    ⟨none, some 42, .len (.tmp 41)⟩,
    ⟨none, some 43, .bin .lss (.tmp 40) (.tmp 42)⟩])
  (.cond (.tmp 43) (.skip) (.exit 0)))
  (.seq (.blk 1 (.seq (.rg [⟨none, some 46, .mv (.tmp 10)⟩,
    ⟨none, some 47, .mv (.tmp 12)⟩,
    ⟨none, some 48, .idx 12 (.tmp 46) (.tmp 47)⟩,
    ⟨none, some 49, .loadA 12 (.tmp 48)⟩,
    ⟨none, some 50, .call 29 [.tmp 49]⟩,
    ⟨none, some 51, .un .not (.tmp 50)⟩])
  (.cond (.tmp 51) (.seq (.rg [⟨none, some 6, .mv (.const (.bool false))⟩])
  (.ret)) (.skip))))
  (.rg [⟨none, some 44, .mv (.tmp 12)⟩,
    ⟨none, some 45, .bin .add (.tmp 44) (.const (.int .i64 1))⟩,
    ⟨none, some 12, .mv (.tmp 45)⟩]))
def ac6 (q : Option (Nat × Nat)) : AC := .seq (.rg [⟨none, some 4, .box 52 (.tmp 1)⟩,
    ⟨none, some 6, .mv (.const (.bool false))⟩])
  (.seq (.seq (.rg [⟨none, some 13, .call 21 []⟩,
    ⟨none, some 14, .un .not (.tmp 13)⟩])
  (.cond (.tmp 14) (.seq (.rg [⟨none, some 6, .mv (.const (.bool false))⟩])
  (.ret)) (.skip)))
  (.seq (.rg [⟨none, some 7, .mv (.const (.int .i64 5))⟩,
    ⟨none, some 8, .mv (.const (.int .i64 6))⟩])
  (.seq (.seq (.rg [⟨none, some 15, .mv (.tmp 2)⟩])
  (.cond (.tmp 15) (.rg [⟨none, some 7, .mv (.const (.int .i64 6))⟩,
    ⟨none, some 8, .mv (.const (.int .i64 5))⟩]) (.skip)))
  (.seq (.rg [⟨none, some 16, .mv (.tmp 0)⟩,
    ⟨none, some 17, .call 27 [.tmp 16]⟩,
    ⟨none, some 9, .mv (.tmp 17)⟩])
  (.seq (.dr [(false, [(0, 0), (1, 0), (2, 0), (3, 0), (4, 0), (6, 0), (7, 0), (5, 0), (8, 0)], [⟨none, some 19, .mv (.tmp 7)⟩,
    ⟨none, some 20, .mv (.tmp 8)⟩,
    ⟨none, some 21, .mv (.tmp 9)⟩,
    ⟨none, some 22, .idxA 2 1 (.tmp 4) (.const (.int .i64 0))⟩,
    ⟨none, some 23, .load (.tmp 22)⟩,
    ⟨none, some 25, .idxA 2 1 (.tmp 4) (.const (.int .i64 1))⟩,
    ⟨none, some 26, .load (.tmp 25)⟩,
    ⟨none, some 24, .call 28 [.tmp 23, .const (.int .i64 8)]⟩,
    ⟨none, some 27, .call 28 [.tmp 26, .const (.int .i64 8)]⟩]),
   (true, [(9, 0), (10, 0)], [⟨none, some 28, .call 23 [.tmp 19, .tmp 20, .tmp 21, .tmp 24, .tmp 27]⟩,
    ⟨none, some 18, .mv (.tmp 28)⟩]),
   (false, [(11, 0), (12, 0), (13, 0)], [⟨none, some 29, .extract (.tmp 18) 0⟩,
    ⟨none, some 30, .extract (.tmp 18) 1⟩,
    ⟨none, some 10, .mv (.tmp 29)⟩]),
   (true, [(14, 0)], [⟨none, some 11, .mv (.tmp 30)⟩])])
  (.seq (.seq (.rg [⟨none, some 31, .mv (.tmp 11)⟩,
    ⟨none, some 32, .bin .neq (.tmp 31) (.const (.int .i64 0))⟩,
    ⟨none, some 33, .mv (.tmp 32)⟩,
    ⟨some (33, false), some 34, .mv (.tmp 10)⟩,
    ⟨some (33, false), some 35, .len (.tmp 34)⟩,
    ⟨some (33, false), some 36, .mv (.tmp 9)⟩,
    ⟨some (33, false), some 37, .len (.tmp 36)⟩,
    ⟨some (33, false), some 38, .bin .neq (.tmp 35) (.tmp 37)⟩,
    ⟨none, some 39, .pick (.tmp 33) (.const (.bool true)) (.tmp 38)⟩])
  (.cond (.tmp 39) (.seq (.rg [⟨none, some 6, .mv (.const (.bool false))⟩])
  (.ret)) (.skip)))
  (.seq (.seq (.rg [⟨none, some 12, .mv (.const (.int .i64 0))⟩])
  (.blk 0 (.loop q [10, 12] (ac6_L0 q))))
  (.seq (.rg [⟨none, some 6, .mv (.const (.bool true))⟩])
  (.ret)))))))))
theorem ac6_ok (q : Option (Nat × Nat)) : compF Go.Proofs.Try.prog Go.Proofs.Try.f6 (ac6 q) = some (ac6 q, [.tmp 6]) := by kernel_rfl

/- clearway clearwaylaw34.CoordinateAll -/
def ac7_L0 (q : Option (Nat × Nat)) : AC := .seq (.seq (.rg [⟨none, some 58, .mv (.tmp 7)⟩,
    ⟨none, some 59, .bin .lss (.tmp 58) (.const (.int .i64 4))⟩])
  (.cond (.tmp 59) (.skip) (.exit 4)))
  (.seq (.blk 5 (.seq (.dr [(false, [(0, 0), (1, 0), (2, 0), (3, 0), (4, 0), (5, 0), (6, 0), (7, 0), (8, 0), (9, 0)], [⟨none, some 62, .mv (.tmp 4)⟩,
    ⟨none, some 63, .mv (.tmp 1)⟩,
    ⟨none, some 64, .mv (.tmp 7)⟩,
    ⟨none, some 65, .idx 1 (.tmp 63) (.tmp 64)⟩,
    ⟨none, some 66, .load (.tmp 65)⟩,
    ⟨none, some 67, .mv (.tmp 6)⟩,
    ⟨none, some 68, .mv (.tmp 2)⟩,
    ⟨none, some 69, .mv (.tmp 7)⟩,
    ⟨none, some 70, .idx 1 (.tmp 68) (.tmp 69)⟩,
    ⟨none, some 71, .load (.tmp 70)⟩]),
   (true, [(10, 0), (11, 0), (12, 0)], [⟨none, some 72, .call 30 [.tmp 62, .tmp 66, .tmp 67, .tmp 71]⟩,
    ⟨none, some 73, .un .not (.tmp 72)⟩,
    ⟨none, some 74, .mv (.tmp 73)⟩]),
   (false, [(13, 0), (14, 0), (15, 0), (16, 0), (17, 0), (18, 0), (19, 0), (20, 0), (21, 0), (22, 0), (23, 0), (24, 0)], [⟨some (74, false), some 75, .mv (.tmp 4)⟩,
    ⟨some (74, false), some 76, .mv (.tmp 1)⟩,
    ⟨some (74, false), some 77, .mv (.tmp 7)⟩,
    ⟨some (74, false), some 78, .idx 1 (.tmp 76) (.tmp 77)⟩,
    ⟨some (74, false), some 79, .load (.tmp 78)⟩,
    ⟨some (74, false), some 80, .mv (.tmp 6)⟩,
    ⟨some (74, false), some 81, .mv (.tmp 2)⟩,
    ⟨some (74, false), some 82, .mv (.tmp 7)⟩,
    ⟨some (74, false), some 83, .bin .add (.tmp 82) (.const (.int .i64 1))⟩,
    ⟨some (74, false), some 84, .bin .rem (.tmp 83) (.const (.int .i64 4))⟩,
    ⟨some (74, false), some 85, .idx 1 (.tmp 81) (.tmp 84)⟩,
    ⟨some (74, false), some 86, .load (.tmp 85)⟩]),
   (true, [(25, 0), (26, 0), (27, 0)], [⟨some (74, false), some 87, .call 30 [.tmp 75, .tmp 79, .tmp 80, .tmp 86]⟩,
    ⟨some (74, false), some 88, .un .not (.tmp 87)⟩,
    ⟨none, some 89, .pick (.tmp 74) (.const (.bool true)) (.tmp 88)⟩])])
  (.cond (.tmp 89) (.seq (.rg [⟨none, some 0, .mv (.const (.bool false))⟩])
  (.ret)) (.skip))))
  (.rg [⟨none, some 60, .mv (.tmp 7)⟩,
    ⟨none, some 61, .bin .add (.tmp 60) (.const (.int .i64 1))⟩,
    ⟨none, some 7, .mv (.tmp 61)⟩]))
def ac7_L1 (q : Option (Nat × Nat)) : AC := .seq (.seq (.rg [⟨none, some 39, .mv (.tmp 5)⟩,
    ⟨none, some 40, .bin .lss (.tmp 39) (.const (.int .i64 81))⟩])
  (.cond (.tmp 40) (.skip) (.exit 2)))
  (.seq (.blk 3 (.seq (.rg [⟨none, some 43, .mv (.tmp 5)⟩,
    ⟨none, some 44, .bin .rem (.tmp 43) (.const (.int .i64 3))⟩,
    ⟨none, some 45, .conv .u8 (.tmp 44)⟩,
    ⟨none, some 46, .mv (.tmp 5)⟩,
    ⟨none, some 47, .bin .quo (.tmp 46) (.const (.int .i64 3))⟩,
    ⟨none, some 48, .bin .rem (.tmp 47) (.const (.int .i64 3))⟩,
    ⟨none, some 49, .conv .u8 (.tmp 48)⟩,
    ⟨none, some 50, .mv (.tmp 5)⟩,
    ⟨none, some 51, .bin .quo (.tmp 50) (.const (.int .i64 9))⟩,
    ⟨none, some 52, .bin .rem (.tmp 51) (.const (.int .i64 3))⟩,
    ⟨none, some 53, .conv .u8 (.tmp 52)⟩,
    ⟨none, some 54, .mv (.tmp 5)⟩,
    ⟨none, some 55, .bin .quo (.tmp 54) (.const (.int .i64 27))⟩,
    ⟨none, some 56, .conv .u8 (.tmp 55)⟩,
    ⟨none, some 57, .bslice false 5 4 1 [.p (.v (.int .u8 0))] [(0, 1, .tmp 45), (1, 1, .tmp 49), (2, 1, .tmp 53), (3, 1, .tmp 56)]⟩,
    ⟨none, some 6, .mv (.tmp 57)⟩])
  (.seq (.rg [⟨none, some 7, .mv (.const (.int .i64 0))⟩])
  (.blk 4 (.loop q [1, 2, 3, 4, 5, 6, 7] (ac7_L0 q))))))
  (.rg [⟨none, some 41, .mv (.tmp 5)⟩,
    ⟨none, some 42, .bin .add (.tmp 41) (.const (.int .i64 1))⟩,
    ⟨none, some 5, .mv (.tmp 42)⟩]))
def ac7_L2 (q : Option (Nat × Nat)) : AC := .seq (.seq (.rg [⟨none, some 19, .mv (.tmp 3)⟩,
    ⟨none, some 20, .bin .lss (.tmp 19) (.const (.int .i64 16))⟩])
  (.cond (.tmp 20) (.skip) (.exit 0)))
  (.seq (.blk 1 (.seq (.rg [⟨none, some 23, .mv (.tmp 3)⟩,
    ⟨none, some 24, .bin .and (.tmp 23) (.const (.int .i64 1))⟩,
    ⟨none, some 25, .un .neg (.tmp 24)⟩,
    ⟨none, some 26, .mv (.tmp 3)⟩,
    ⟨none, some 27, .bin .shr (.tmp 26) (.const (.int .u64 1))⟩,
    ⟨none, some 28, .bin .and (.tmp 27) (.const (.int .i64 1))⟩,
    ⟨none, some 29, .un .neg (.tmp 28)⟩,
    ⟨none, some 30, .mv (.tmp 3)⟩,
    ⟨none, some 31, .bin .shr (.tmp 30) (.const (.int .u64 2))⟩,
    ⟨none, some 32, .bin .and (.tmp 31) (.const (.int .i64 1))⟩,
    ⟨none, some 33, .un .neg (.tmp 32)⟩,
    ⟨none, some 34, .mv (.tmp 3)⟩,
    ⟨none, some 35, .bin .shr (.tmp 34) (.const (.int .u64 3))⟩,
    ⟨none, some 36, .bin .and (.tmp 35) (.const (.int .i64 1))⟩,
    ⟨none, some 37, .un .neg (.tmp 36)⟩,
    ⟨none, some 38, .bslice false 3 4 1 [.p (.v (.int .i64 0))] [(0, 1, .tmp 25), (1, 1, .tmp 29), (2, 1, .tmp 33), (3, 1, .tmp 37)]⟩,
    ⟨none, some 4, .mv (.tmp 38)⟩])
  (.seq (.rg [⟨none, some 5, .mv (.const (.int .i64 0))⟩])
  (.blk 2 (.loop q [1, 2, 3, 4, 5] (ac7_L1 q))))))
  (.rg [⟨none, some 21, .mv (.tmp 3)⟩,
    ⟨none, some 22, .bin .add (.tmp 21) (.const (.int .i64 1))⟩,
    ⟨none, some 3, .mv (.tmp 22)⟩]))
def ac7 (q : Option (Nat × Nat)) : AC := .seq (.rg [⟨none, some 0, .mv (.const (.bool false))⟩])
  (.seq (.seq (.rg [⟨none, some 8, .call 21 []⟩,
    ⟨none, some 9, .un .not (.tmp 8)⟩])
  (.cond (.tmp 9) (.seq (.rg [⟨none, some 0, .mv (.const (.bool false))⟩])
  (.ret)) (.skip)))
  (.seq (.rg [⟨none, some 10, .bslice false 3 4 1 [.p (.v (.int .i64 0))] [(0, 1, .const (.int .i64 (-1))), (1, 1, .const (.int .i64 (-1))), (2, 1, .const (.int .i64 (-1))), (3, 1, .const (.int .i64 (-1)))]⟩,
    ⟨none, some 11, .bslice false 3 4 1 [.p (.v (.int .i64 0))] [(0, 1, .const (.int .i64 (-1))), (1, 1, .const (.int .i64 0)), (2, 1, .const (.int .i64 (-1))), (3, 1, .const (.int .i64 0))]⟩,
    ⟨none, some 12, .bslice false 3 4 1 [.p (.v (.int .i64 0))] [(0, 1, .const (.int .i64 0)), (1, 1, .const (.int .i64 (-1))), (2, 1, .const (.int .i64 (-1))), (3, 1, .const (.int .i64 0))]⟩,
    ⟨none, some 13, .bslice false 38 4 1 [.p (.sl (some true) 0 [])] [(0, 1, .const (.slice none 0 0)), (1, 1, .tmp 10), (2, 1, .tmp 11), (3, 1, .tmp 12)]⟩,
    ⟨none, some 1, .mv (.tmp 13)⟩])
  (.seq (.rg [⟨none, some 14, .bslice false 5 4 1 [.p (.v (.int .u8 0))] [(0, 1, .const (.int .u8 1)), (1, 1, .const (.int .u8 1)), (2, 1, .const (.int .u8 1)), (3, 1, .const (.int .u8 1))]⟩,
    ⟨none, some 15, .bslice false 5 4 1 [.p (.v (.int .u8 0))] [(0, 1, .const (.int .u8 2)), (1, 1, .const (.int .u8 2)), (2, 1, .const (.int .u8 2)), (3, 1, .const (.int .u8 2))]⟩,
    ⟨none, some 16, .bslice false 5 4 1 [.p (.v (.int .u8 0))] [(0, 1, .const (.int .u8 1)), (1, 1, .const (.int .u8 2)), (2, 1, .const (.int .u8 1)), (3, 1, .const (.int .u8 2))]⟩,
    ⟨none, some 17, .bslice false 5 4 1 [.p (.v (.int .u8 0))] [(0, 1, .const (.int .u8 0)), (1, 1, .const (.int .u8 2)), (2, 1, .const (.int .u8 2)), (3, 1, .const (.int .u8 1))]⟩,
    ⟨none, some 18, .bslice false 51 4 1 [.p (.sl (some true) 0 [])] [(0, 1, .tmp 14), (1, 1, .tmp 15), (2, 1, .tmp 16), (3, 1, .tmp 17)]⟩,
    ⟨none, some 2, .mv (.tmp 18)⟩])
  (.seq (.seq (.rg [⟨none, some 3, .mv (.const (.int .i64 0))⟩])
  (.blk 0 (.loop q [1, 2, 3] (ac7_L2 q))))
  (.seq (.rg [⟨none, some 0, .mv (.const (.bool true))⟩])
  (.ret))))))
theorem ac7_ok (q : Option (Nat × Nat)) : compF Go.Proofs.Try.prog Go.Proofs.Try.f7 (ac7 q) = some (ac7 q, [.tmp 0]) := by kernel_rfl

/- clearway clearwaylaw34.CoordinateLeader -/
def ac8_L0 (q : Option (Nat × Nat)) : AC := .seq (.seq (.rg [⟨none, some 37, .mv (.tmp 9)⟩,
    ⟨none, some 38, .mv (.tmp 6)⟩,
    ⟨none, some 39, .len (.tmp 38)⟩,
    ⟨none, some 40, .bin .lss (.tmp 37) (.tmp 39)⟩])
  (.cond (.tmp 40) (.skip) (.exit 0)))
  (.seq (.blk 1 (.seq (.dr [(false, [(0, 0), (1, 0), (2, 0), (3, 0), (4, 0), (5, 0), (6, 0), (7, 0), (8, 0), (9, 0), (10, 0), (11, 0), (12, 0)], [⟨none, some 43, .mv (.tmp 6)⟩,
    ⟨none, some 44, .mv (.tmp 9)⟩,
    ⟨none, some 45, .idx 12 (.tmp 43) (.tmp 44)⟩,
    ⟨none, some 46, .fieldA 0 (.tmp 45)⟩,
    ⟨none, some 47, .fieldA 2 (.tmp 46)⟩,
    ⟨none, some 48, .load (.tmp 47)⟩,
    ⟨none, some 49, .mv (.tmp 6)⟩,
    ⟨none, some 50, .mv (.tmp 9)⟩,
    ⟨none, some 51, .idx 12 (.tmp 49) (.tmp 50)⟩,
    ⟨none, some 52, .fieldA 6 (.tmp 51)⟩,
    ⟨none, some 53, .fieldA 2 (.tmp 52)⟩,
    ⟨none, some 54, .load (.tmp 53)⟩,
    ⟨none, some 10, .mv (.tmp 48)⟩]),
   (true, [(13, 0)], [⟨none, some 11, .mv (.tmp 54)⟩])])
  (.seq (.rg [⟨none, some 55, .mv (.tmp 8)⟩,
    ⟨none, some 56, .mv (.tmp 5)⟩,
    ⟨none, some 57, .mv (.tmp 9)⟩,
    ⟨none, some 58, .idx 2 (.tmp 56) (.tmp 57)⟩,
    ⟨none, some 59, .idxA 2 1 (.tmp 58) (.const (.int .i64 0))⟩,
    ⟨none, some 60, .load (.tmp 59)⟩,
    ⟨none, some 61, .idx 1 (.tmp 55) (.tmp 60)⟩,
    ⟨none, none, .store 1 (.tmp 61) (.const (.bool true))⟩])
  (.seq (.rg [⟨none, some 62, .mv (.tmp 10)⟩,
    ⟨none, some 63, .mv (.tmp 5)⟩,
    ⟨none, some 64, .mv (.tmp 9)⟩,
    ⟨none, some 65, .idx 2 (.tmp 63) (.tmp 64)⟩,
    ⟨none, some 66, .idxA 2 1 (.tmp 65) (.const (.int .i64 0))⟩,
    ⟨none, some 67, .load (.tmp 66)⟩,
    ⟨none, some 68, .bin .neq (.tmp 62) (.tmp 67)⟩,
    ⟨none, some 69, .mv (.tmp 68)⟩,
    ⟨some (69, false), some 70, .mv (.tmp 11)⟩,
    ⟨some (69, false), some 71, .bin .gtr (.tmp 70) (.const (.int .u8 2))⟩,
    ⟨none, some 72, .pick (.tmp 69) (.const (.bool true)) (.tmp 71)⟩,
    ⟨none, some 73, .mv (.tmp 72)⟩,
    ⟨some (73, false), some 74, .mv (.tmp 11)⟩,
    ⟨some (73, false), some 75, .mv (.tmp 5)⟩,
    ⟨some (73, false), some 76, .mv (.tmp 9)⟩,
    ⟨some (73, false), some 77, .idx 2 (.tmp 75) (.tmp 76)⟩,
    ⟨some (73, false), some 78, .idxA 2 1 (.tmp 77) (.const (.int .i64 1))⟩,
    ⟨some (73, false), some 79, .load (.tmp 78)⟩,
    ⟨some (73, false), some 80, .bin .neq (.tmp 74) (.tmp 79)⟩,
    ⟨some (73, false), some 81, .mv (.tmp 80)⟩,
    ⟨some (81, true), some 82, .mv (.tmp 11)⟩,
    ⟨some (81, true), some 83, .bin .eql (.tmp 82) (.const (.int .u8 0))⟩,
    ⟨some (81, true), some 84, .mv (.tmp 83)⟩,
    ⟨some (84, false), some 85, .mv (.tmp 8)⟩,
    ⟨some (84, false), some 86, .mv (.tmp 11)⟩,
    ⟨some (84, false), some 87, .bin .sub (.const (.int .u8 3)) (.tmp 86)⟩,
    ⟨some (84, false), some 88, .idx 1 (.tmp 85) (.tmp 87)⟩,
    ⟨some (84, false), some 89, .load (.tmp 88)⟩,
    ⟨some (84, false), some 90, .un .not (.tmp 89)⟩,
    ⟨some (81, true), some 91, .pick (.tmp 84) (.const (.bool true)) (.tmp 90)⟩,
    ⟨some (73, false), some 92, .pick (.tmp 81) (.tmp 91) (.const (.bool false))⟩,
    ⟨none, some 93, .pick (.tmp 73) (.const (.bool true)) (.tmp 92)⟩])
  (.cond (.tmp 93) (.seq (.rg [⟨none, some 4, .mv (.const (.bool false))⟩])
  (.ret)) (.skip))))))
  (.rg [⟨none, some 41, .mv (.tmp 9)⟩,
    ⟨none, some 42, .bin .add (.tmp 41) (.const (.int .i64 1))⟩,
    ⟨none, some 9, .mv (.tmp 42)⟩]))
def ac8 (q : Option (Nat × Nat)) : AC := .seq (.rg [⟨none, some 3, .box 52 (.tmp 1)⟩,
    ⟨none, some 4, .mv (.const (.bool false))⟩])
  (.seq (.seq (.rg [⟨none, some 12, .call 21 []⟩,
    ⟨none, some 13, .un .not (.tmp 12)⟩])
  (.cond (.tmp 13) (.seq (.rg [⟨none, some 4, .mv (.const (.bool false))⟩])
  (.ret)) (.skip)))
  (.seq (.rg [⟨none, some 14, .mv (.tmp 0)⟩,
    ⟨none, some 15, .call 27 [.tmp 14]⟩,
    ⟨none, some 5, .mv (.tmp 15)⟩])
  (.seq (.dr [(false, [(0, 0), (1, 0), (2, 0), (4, 0), (5, 0), (3, 0), (6, 0)], [⟨none, some 17, .mv (.tmp 5)⟩,
    ⟨none, some 18, .idxA 2 1 (.tmp 3) (.const (.int .i64 0))⟩,
    ⟨none, some 19, .load (.tmp 18)⟩,
    ⟨none, some 21, .idxA 2 1 (.tmp 3) (.const (.int .i64 1))⟩,
    ⟨none, some 22, .load (.tmp 21)⟩,
    ⟨none, some 20, .call 28 [.tmp 19, .const (.int .i64 8)]⟩,
    ⟨none, some 23, .call 28 [.tmp 22, .const (.int .i64 8)]⟩]),
   (true, [(7, 0), (8, 0)], [⟨none, some 24, .call 23 [.const (.int .i64 5), .const (.int .i64 6), .tmp 17, .tmp 20, .tmp 23]⟩,
    ⟨none, some 16, .mv (.tmp 24)⟩]),
   (false, [(9, 0), (10, 0), (11, 0)], [⟨none, some 25, .extract (.tmp 16) 0⟩,
    ⟨none, some 26, .extract (.tmp 16) 1⟩,
    ⟨none, some 6, .mv (.tmp 25)⟩]),
   (true, [(12, 0)], [⟨none, some 7, .mv (.tmp 26)⟩])])
  (.seq (.seq (.rg [⟨none, some 27, .mv (.tmp 7)⟩,
    ⟨none, some 28, .bin .neq (.tmp 27) (.const (.int .i64 0))⟩,
    ⟨none, some 29, .mv (.tmp 28)⟩,
    ⟨some (29, false), some 30, .mv (.tmp 6)⟩,
    ⟨some (29, false), some 31, .len (.tmp 30)⟩,
    ⟨some (29, false), some 32, .mv (.tmp 5)⟩,
    ⟨some (29, false), some 33, .len (.tmp 32)⟩,
    ⟨some (29, false), some 34, .bin .neq (.tmp 31) (.tmp 33)⟩,
    ⟨none, some 35, .pick (.tmp 29) (.const (.bool true)) (.tmp 34)⟩])
  (.cond (.tmp 35) (.seq (.rg [⟨none, some 4, .mv (.const (.bool false))⟩])
  (.ret)) (.skip)))
  (.seq (.rg [⟨none, some 36, .mslice 4 1 1 [.p (.v (.bool false))] (.const (.int .i64 3)) (.const (.int .i64 3))⟩,
    ⟨none, some 8, .mv (.tmp 36)⟩])
  (.seq (.seq (.rg [⟨none, some 9, .mv (.const (.int .i64 0))⟩])
  (.blk 0 (.loop q [5, 6, 8, 9] (ac8_L0 q))))
  (.seq (.rg [⟨none, some 4, .mv (.const (.bool true))⟩])
  (.ret))))))))
theorem ac8_ok (q : Option (Nat × Nat)) : compF Go.Proofs.Try.prog Go.Proofs.Try.f8 (ac8 q) = some (ac8 q, [.tmp 4]) := by kernel_rfl

/- clearway clearwaylaw34.CoordinateRecovers -/
def ac9_L0 (q : Option (Nat × Nat)) : AC := .seq (.seq (.rg [⟨none, some 21, .mv (.tmp 9)⟩,
    ⟨none, some 22, .mv (.tmp 6)⟩,
    ⟨none, some 23, .len (.tmp 22)⟩,
    ⟨none, some 24, .bin .lss (.tmp 21) (.tmp 23)⟩])
  (.cond (.tmp 24) (.skip) (.exit 0)))
  (.seq (.blk 1 (.seq (.rg [⟨none, some 27, .mv (.tmp 8)⟩,
    ⟨none, some 28, .bin .add (.tmp 27) (.const (.int .i64 1))⟩,
    ⟨none, some 8, .mv (.tmp 28)⟩])
  (.seq (.seq (.rg [⟨none, some 29, .mv (.tmp 6)⟩,
    ⟨none, some 30, .mv (.tmp 9)⟩,
    ⟨none, some 31, .idx 1 (.tmp 29) (.tmp 30)⟩,
    ⟨none, some 32, .load (.tmp 31)⟩,
    ⟨none, some 33, .bin .eql (.tmp 32) (.const (.int .i64 0))⟩])
  (.cond (.tmp 33) (.rg [⟨none, some 8, .mv (.const (.int .i64 0))⟩]) (.skip)))
  (.rg [⟨none, some 34, .mv (.tmp 7)⟩,
    ⟨none, some 35, .mv (.tmp 8)⟩,
    ⟨none, some 36, .minmax true [.tmp 34, .tmp 35]⟩,
    ⟨none, some 7, .mv (.tmp 36)⟩]))))
  (.rg [⟨none, some 25, .mv (.tmp 9)⟩,
    ⟨none, some 26, .bin .add (.tmp 25) (.const (.int .i64 1))⟩,
    ⟨none, some 9, .mv (.tmp 26)⟩]))
def ac9_L1 (q : Option (Nat × Nat)) : AC := .seq (.seq (.rg [⟨none, some 52, .mv (.tmp 14)⟩,
    ⟨none, some 53, .mv (.tmp 10)⟩,
    ⟨none, some 54, .len (.tmp 53)⟩,
    ⟨none, some 55, .bin .lss (.tmp 52) (.tmp 54)⟩])
  (.cond (.tmp 55) (.skip) (.exit 2)))
  (.seq (.blk 3 (.seq (.seq (.rg [⟨none, some 58, .mv (.tmp 5)⟩,
    ⟨none, some 59, .mv (.tmp 14)⟩,
    ⟨none, some 60, .idx 2 (.tmp 58) (.tmp 59)⟩,
    ⟨none, some 61, .idxA 2 1 (.tmp 60) (.const (.int .i64 0))⟩,
    ⟨none, some 62, .load (.tmp 61)⟩,
    ⟨none, some 63, .mv (.tmp 13)⟩,
    ⟨none, some 64, .bin .neq (.tmp 62) (.tmp 63)⟩])
  (.cond (.tmp 64) (.dr [(false, [(0, 0), (1, 0), (2, 0), (3, 0), (4, 0), (5, 0), (6, 0)], [⟨none, some 65, .mv (.tmp 14)⟩,
    ⟨none, some 66, .mv (.tmp 5)⟩,
    ⟨none, some 67, .mv (.tmp 14)⟩,
    ⟨none, some 68, .idx 2 (.tmp 66) (.tmp 67)⟩,
    ⟨none, some 69, .idxA 2 1 (.tmp 68) (.const (.int .i64 0))⟩,
    ⟨none, some 70, .load (.tmp 69)⟩,
    ⟨none, some 12, .mv (.tmp 65)⟩]),
   (true, [(7, 0)], [⟨none, some 13, .mv (.tmp 70)⟩])]) (.skip)))
  (.seq (.dr [(false, [(0, 0), (1, 0), (2, 0), (3, 0)], [⟨none, some 71, .mv (.tmp 14)⟩,
    ⟨none, some 72, .mv (.tmp 12)⟩,
    ⟨none, some 73, .mv (.tmp 7)⟩,
    ⟨none, some 74, .bin .add (.tmp 72) (.tmp 73)⟩]),
   (true, [(4, 0), (5, 0)], [⟨none, some 75, .bin .geq (.tmp 71) (.tmp 74)⟩,
    ⟨none, some 76, .mv (.tmp 75)⟩]),
   (false, [(6, 0), (7, 0), (8, 0), (9, 0), (10, 0), (11, 0), (12, 0), (13, 0), (14, 0), (15, 0)], [⟨some (76, true), some 77, .mv (.tmp 10)⟩,
    ⟨some (76, true), some 78, .mv (.tmp 14)⟩,
    ⟨some (76, true), some 79, .idx 12 (.tmp 77) (.tmp 78)⟩,
    ⟨some (76, true), some 80, .fieldA 0 (.tmp 79)⟩,
    ⟨some (76, true), some 81, .loadA 6 (.tmp 80)⟩,
    ⟨some (76, true), some 82, .mv (.tmp 10)⟩,
    ⟨some (76, true), some 83, .mv (.tmp 14)⟩,
    ⟨some (76, true), some 84, .idx 12 (.tmp 82) (.tmp 83)⟩,
    ⟨some (76, true), some 85, .fieldA 6 (.tmp 84)⟩,
    ⟨some (76, true), some 86, .loadA 6 (.tmp 85)⟩]),
   (true, [(16, 0), (17, 0), (18, 0)], [⟨some (76, true), some 87, .call 25 [.tmp 81, .tmp 86]⟩,
    ⟨some (76, true), some 88, .un .not (.tmp 87)⟩,
    ⟨none, some 89, .pick (.tmp 76) (.tmp 88) (.const (.bool false))⟩])])
  (.cond (.tmp 89) (.seq (.rg [⟨none, some 4, .mv (.const (.bool false))⟩])
  (.ret)) (.skip)))))
  (.rg [⟨none, some 56, .mv (.tmp 14)⟩,
    ⟨none, some 57, .bin .add (.tmp 56) (.const (.int .i64 1))⟩,
    ⟨none, some 14, .mv (.tmp 57)⟩]))
def ac9 (q : Option (Nat × Nat)) : AC := .seq (.rg [⟨none, some 4, .mv (.const (.bool false))⟩])
  (.seq (.seq (.rg [⟨none, some 15, .call 21 []⟩,
    ⟨none, some 16, .un .not (.tmp 15)⟩])
  (.cond (.tmp 16) (.seq (.rg [⟨none, some 4, .mv (.const (.bool false))⟩])
  (.ret)) (.skip)))
  (.seq (.rg [⟨none, some 17, .mv (.tmp 0)⟩,
    ⟨none, some 18, .call 27 [.tmp 17]⟩,
    ⟨none, some 5, .mv (.tmp 18)⟩])
  (.seq (.rg [⟨none, some 19, .mv (.tmp 1)⟩,
    ⟨none, some 20, .call 28 [.tmp 19, .const (.int .i64 0)]⟩,
    ⟨none, some 6, .mv (.tmp 20)⟩])
  (.seq (.rg [⟨none, some 7, .mv (.const (.int .i64 0))⟩,
    ⟨none, some 8, .mv (.const (.int .i64 0))⟩])
  (.seq (.seq (.rg [⟨none, some 9, .mv (.const (.int .i64 0))⟩])
  (.blk 0 (.loop q [5, 6, 7, 8, 9] (ac9_L0 q))))
  (.seq (.rg [⟨none, some 38, .mv (.tmp 5)⟩,
    ⟨none, some 39, .mv (.tmp 6)⟩,
    ⟨none, some 40, .call 23 [.const (.int .i64 5), .const (.int .i64 6), .tmp 38, .tmp 39, .const (.slice none 0 0)]⟩,
    ⟨none, some 37, .mv (.tmp 40)⟩,
    ⟨none, some 41, .extract (.tmp 37) 0⟩,
    ⟨none, some 42, .extract (.tmp 37) 1⟩,
    ⟨none, some 10, .mv (.tmp 41)⟩,
    ⟨none, some 11, .mv (.tmp 42)⟩])
  (.seq (.seq (.rg [⟨none, some 43, .mv (.tmp 11)⟩,
    ⟨none, some 44, .bin .neq (.tmp 43) (.const (.int .i64 0))⟩,
    ⟨none, some 45, .mv (.tmp 44)⟩,
    ⟨some (45, false), some 46, .mv (.tmp 10)⟩,
    ⟨some (45, false), some 47, .len (.tmp 46)⟩,
    ⟨some (45, false), some 48, .mv (.tmp 5)⟩,
    ⟨some (45, false), some 49, .len (.tmp 48)⟩,
    ⟨some (45, false), some 50, .bin .neq (.tmp 47) (.tmp 49)⟩,
    ⟨none, some 51, .pick (.tmp 45) (.const (.bool true)) (.tmp 50)⟩])
  (.cond (.tmp 51) (.seq (.rg [⟨none, some 4, .mv (.const (.bool false))⟩])
  (.ret)) (.skip)))
  (.seq (.rg [⟨none, some 12, .mv (.const (.int .i64 0))⟩,
    ⟨none, some 13, .mv (.const (.int .u8 0))⟩])
  (.seq (.seq (.rg [⟨none, some 14, .mv (.const (.int .i64 0))⟩])
  (.blk 2 (.loop q [5, 7, 10, 12, 13, 14] (ac9_L1 q))))
  (.seq (.rg [⟨none, some 4, .mv (.const (.bool true))⟩])
  (.ret)))))))))))
theorem ac9_ok (q : Option (Nat × Nat)) : compF Go.Proofs.Try.prog Go.Proofs.Try.f9 (ac9 q) = some (ac9 q, [.tmp 4]) := by kernel_rfl

/- clearway coordinate.Choose -/
def ac11 (q : Option (Nat × Nat)) : AC := .seq (.rg [⟨none, some 2, .box 23 (.tmp 0)⟩,
    ⟨none, some 4, .alloc 23 [.p (.v (.int .i64 0)), .p (.v (.int .i64 0)), .p (.v (.int .u8 0)), .p (.v (.int .i64 0)), .p (.v (.int .u8 0)), .p (.v (.int .i64 0))]⟩,
    ⟨none, some 5, .mv (.const (.int .i64 0))⟩])
  (.seq (.seq (.rg [⟨none, some 7, .loadA 6 (.tmp 2)⟩,
    ⟨none, some 8, .call 19 [.tmp 7]⟩,
    ⟨none, some 6, .mv (.tmp 8)⟩])
  (.seq (.rg [⟨none, some 9, .mv (.tmp 6)⟩,
    ⟨none, some 10, .bin .neq (.tmp 9) (.const (.int .i64 0))⟩])
  (.cond (.tmp 10) (.seq (.rg [⟨none, some 11, .build [.p (.v (.int .i64 0)), .p (.v (.int .i64 0)), .p (.v (.int .u8 0)), .p (.v (.int .i64 0)), .p (.v (.int .u8 0)), .p (.v (.int .i64 0))] []⟩,
    ⟨none, some 12, .mv (.tmp 6)⟩,
    ⟨none, none, .store 6 (.tmp 4) (.tmp 11)⟩,
    ⟨none, some 5, .mv (.tmp 12)⟩])
  (.ret)) (.skip))))
  (.seq (.seq (.rg [⟨none, some 13, .mv (.tmp 1)⟩,
    ⟨none, some 14, .bin .gtr (.tmp 13) (.const (.int .u8 2))⟩])
  (.cond (.tmp 14) (.seq (.rg [⟨none, some 15, .build [.p (.v (.int .i64 0)), .p (.v (.int .i64 0)), .p (.v (.int .u8 0)), .p (.v (.int .i64 0)), .p (.v (.int .u8 0)), .p (.v (.int .i64 0))] []⟩,
    ⟨none, none, .store 6 (.tmp 4) (.tmp 15)⟩,
    ⟨none, some 5, .mv (.const (.int .i64 6))⟩])
  (.ret)) (.skip)))
  (.seq (.dr [(false, [(0, 0), (1, 0), (2, 0), (3, 0)], [⟨none, some 16, .loadA 6 (.tmp 2)⟩,
    ⟨none, some 17, .loadA 6 (.tmp 2)⟩,
    ⟨none, some 18, .mv (.tmp 1)⟩,
    ⟨none, some 19, .call 32 [.tmp 17, .tmp 18]⟩]),
   (true, [(4, 0)], [⟨none, some 20, .call 31 [.tmp 16, .tmp 19]⟩]),
   (false, [(5, 0), (6, 0)], [⟨none, some 21, .extract (.tmp 20) 0⟩,
    ⟨none, some 22, .extract (.tmp 20) 1⟩]),
   (true, [(7, 0), (8, 0)], [⟨none, none, .store 6 (.tmp 4) (.tmp 21)⟩,
    ⟨none, some 5, .mv (.tmp 22)⟩])])
  (.ret))))
theorem ac11_ok (q : Option (Nat × Nat)) : compF Go.Proofs.Try.prog Go.Proofs.Try.f11 (ac11 q) = some (ac11 q, [.cell 4 (some 6), .tmp 5]) := by kernel_rfl

/- clearway clearwayref34.Choose -/
def ac12 (q : Option (Nat × Nat)) : AC := .seq (.rg [⟨none, some 2, .box 23 (.tmp 0)⟩,
    ⟨none, some 4, .alloc 23 [.p (.v (.int .i64 0)), .p (.v (.int .i64 0)), .p (.v (.int .u8 0)), .p (.v (.int .i64 0)), .p (.v (.int .u8 0)), .p (.v (.int .i64 0))]⟩,
    ⟨none, some 5, .mv (.const (.int .i64 0))⟩])
  (.seq (.rg [⟨none, some 7, .loadA 6 (.tmp 2)⟩,
    ⟨none, some 8, .call 20 [.tmp 7]⟩,
    ⟨none, some 6, .mv (.tmp 8)⟩])
  (.seq (.seq (.rg [⟨none, some 9, .mv (.tmp 6)⟩,
    ⟨none, some 10, .bin .neq (.tmp 9) (.const (.int .i64 0))⟩])
  (.cond (.tmp 10) (.seq (.rg [⟨none, some 11, .build [.p (.v (.int .i64 0)), .p (.v (.int .i64 0)), .p (.v (.int .u8 0)), .p (.v (.int .i64 0)), .p (.v (.int .u8 0)), .p (.v (.int .i64 0))] []⟩,
    ⟨none, some 12, .mv (.tmp 6)⟩,
    ⟨none, none, .store 6 (.tmp 4) (.tmp 11)⟩,
    ⟨none, some 5, .mv (.tmp 12)⟩])
  (.ret)) (.skip)))
  (.seq (.seq (.rg [⟨none, some 13, .mv (.tmp 1)⟩,
    ⟨none, some 14, .bin .gtr (.tmp 13) (.const (.int .u8 2))⟩])
  (.cond (.tmp 14) (.seq (.rg [⟨none, some 15, .build [.p (.v (.int .i64 0)), .p (.v (.int .i64 0)), .p (.v (.int .u8 0)), .p (.v (.int .i64 0)), .p (.v (.int .u8 0)), .p (.v (.int .i64 0))] []⟩,
    ⟨none, none, .store 6 (.tmp 4) (.tmp 15)⟩,
    ⟨none, some 5, .mv (.const (.int .i64 6))⟩])
  (.ret)) (.skip)))
  (.seq (.seq (.rg [⟨none, some 16, .fieldA 0 (.tmp 2)⟩,
    ⟨none, some 17, .load (.tmp 16)⟩,
    ⟨none, some 18, .fieldA 1 (.tmp 2)⟩,
    ⟨none, some 19, .load (.tmp 18)⟩,
    ⟨none, some 20, .bin .gtr (.tmp 17) (.tmp 19)⟩,
    ⟨none, some 21, .mv (.tmp 20)⟩,
    ⟨some (21, true), some 22, .mv (.tmp 1)⟩,
    ⟨some (21, true), some 23, .fieldA 4 (.tmp 2)⟩,
    ⟨some (21, true), some 24, .load (.tmp 23)⟩,
    ⟨some (21, true), some 25, .call 33 [.tmp 22, .tmp 24]⟩,
    ⟨none, some 26, .pick (.tmp 21) (.tmp 25) (.const (.bool false))⟩])
  (.cond (.tmp 26) (.seq (.dr [(false, [(0, 0), (1, 0), (2, 0)], [⟨none, some 27, .loadA 6 (.tmp 2)⟩,
    ⟨none, some 28, .mv (.tmp 1)⟩,
    ⟨none, some 29, .call 35 [.tmp 28]⟩]),
   (true, [(3, 0)], [⟨none, some 30, .call 34 [.tmp 27, .tmp 29]⟩]),
   (false, [(4, 0), (5, 0)], [⟨none, some 31, .extract (.tmp 30) 0⟩,
    ⟨none, some 32, .extract (.tmp 30) 1⟩]),
   (true, [(6, 0), (7, 0)], [⟨none, none, .store 6 (.tmp 4) (.tmp 31)⟩,
    ⟨none, some 5, .mv (.tmp 32)⟩])])
  (.ret)) (.skip)))
  (.seq (.rg [⟨none, some 33, .loadA 6 (.tmp 2)⟩,
    ⟨none, some 34, .mv (.tmp 1)⟩,
    ⟨none, some 35, .call 34 [.tmp 33, .tmp 34]⟩,
    ⟨none, some 36, .extract (.tmp 35) 0⟩,
    ⟨none, some 37, .extract (.tmp 35) 1⟩,
    ⟨none, none, .store 6 (.tmp 4) (.tmp 36)⟩,
    ⟨none, some 5, .mv (.tmp 37)⟩])
  (.ret))))))
theorem ac12_ok (q : Option (Nat × Nat)) : compF Go.Proofs.Try.prog Go.Proofs.Try.f12 (ac12 q) = some (ac12 q, [.cell 4 (some 6), .tmp 5]) := by kernel_rfl

/- clearway coordinate.Hear -/
def ac13 (q : Option (Nat × Nat)) : AC := .seq (.rg [⟨none, some 2, .box 23 (.tmp 0)⟩,
    ⟨none, some 3, .box 25 (.tmp 1)⟩,
    ⟨none, some 4, .alloc 23 [.p (.v (.int .i64 0)), .p (.v (.int .i64 0)), .p (.v (.int .u8 0)), .p (.v (.int .i64 0)), .p (.v (.int .u8 0)), .p (.v (.int .i64 0))]⟩,
    ⟨none, some 5, .mv (.const (.int .i64 0))⟩])
  (.seq (.seq (.rg [⟨none, some 8, .loadA 6 (.tmp 2)⟩,
    ⟨none, some 9, .call 19 [.tmp 8]⟩,
    ⟨none, some 6, .mv (.tmp 9)⟩])
  (.seq (.rg [⟨none, some 10, .mv (.tmp 6)⟩,
    ⟨none, some 11, .bin .neq (.tmp 10) (.const (.int .i64 0))⟩])
  (.cond (.tmp 11) (.seq (.rg [⟨none, some 12, .build [.p (.v (.int .i64 0)), .p (.v (.int .i64 0)), .p (.v (.int .u8 0)), .p (.v (.int .i64 0)), .p (.v (.int .u8 0)), .p (.v (.int .i64 0))] []⟩,
    ⟨none, some 13, .mv (.tmp 6)⟩,
    ⟨none, none, .store 6 (.tmp 4) (.tmp 12)⟩,
    ⟨none, some 5, .mv (.tmp 13)⟩])
  (.ret)) (.skip))))
  (.seq (.seq (.rg [⟨none, some 14, .loadA 4 (.tmp 3)⟩,
    ⟨none, some 15, .call 36 [.tmp 14]⟩,
    ⟨none, some 7, .mv (.tmp 15)⟩])
  (.seq (.rg [⟨none, some 16, .mv (.tmp 7)⟩,
    ⟨none, some 17, .bin .neq (.tmp 16) (.const (.int .i64 0))⟩])
  (.cond (.tmp 17) (.seq (.rg [⟨none, some 18, .build [.p (.v (.int .i64 0)), .p (.v (.int .i64 0)), .p (.v (.int .u8 0)), .p (.v (.int .i64 0)), .p (.v (.int .u8 0)), .p (.v (.int .i64 0))] []⟩,
    ⟨none, some 19, .mv (.tmp 7)⟩,
    ⟨none, none, .store 6 (.tmp 4) (.tmp 18)⟩,
    ⟨none, some 5, .mv (.tmp 19)⟩])
  (.ret)) (.skip))))
  (.seq (.blk 0 (.seq (.rg [⟨none, some 21, .fieldA 0 (.tmp 3)⟩,
    ⟨none, some 22, .load (.tmp 21)⟩,
    ⟨none, some 23, .fieldA 1 (.tmp 2)⟩,
    ⟨none, some 24, .load (.tmp 23)⟩,
    ⟨none, some 25, .bin .neq (.tmp 22) (.tmp 24)⟩,
    ⟨none, some 26, .mv (.tmp 25)⟩,
    ⟨some (26, false), some 27, .fieldA 1 (.tmp 3)⟩,
    ⟨some (26, false), some 28, .load (.tmp 27)⟩,
    ⟨some (26, false), some 29, .fieldA 0 (.tmp 2)⟩,
    ⟨some (26, false), some 30, .load (.tmp 29)⟩,
    ⟨some (26, false), some 31, .bin .neq (.tmp 28) (.tmp 30)⟩,
    ⟨none, some 32, .pick (.tmp 26) (.const (.bool true)) (.tmp 31)⟩,
    ⟨none, some 20, .mv (.tmp 32)⟩])
  (.cond (.tmp 20) (.seq (.rg [⟨none, some 33, .build [.p (.v (.int .i64 0)), .p (.v (.int .i64 0)), .p (.v (.int .u8 0)), .p (.v (.int .i64 0)), .p (.v (.int .u8 0)), .p (.v (.int .i64 0))] []⟩,
    ⟨none, none, .store 6 (.tmp 4) (.tmp 33)⟩,
    ⟨none, some 5, .mv (.const (.int .i64 16))⟩])
  (.ret)) (.seq (.rg [⟨none, some 35, .fieldA 3 (.tmp 3)⟩,
    ⟨none, some 36, .load (.tmp 35)⟩,
    ⟨none, some 37, .fieldA 5 (.tmp 2)⟩,
    ⟨none, some 38, .load (.tmp 37)⟩,
    ⟨none, some 39, .bin .leq (.tmp 36) (.tmp 38)⟩,
    ⟨none, some 34, .mv (.tmp 39)⟩])
  (.cond (.tmp 34) (.seq (.rg [⟨none, some 40, .loadA 6 (.tmp 2)⟩,
    ⟨none, none, .store 6 (.tmp 4) (.tmp 40)⟩,
    ⟨none, some 5, .mv (.const (.int .i64 0))⟩])
  (.ret)) (.skip))))))
  (.seq (.dr [(false, [(0, 0), (1, 0), (2, 0), (3, 0), (4, 0), (5, 0)], [⟨none, some 41, .fieldA 2 (.tmp 3)⟩,
    ⟨none, some 42, .load (.tmp 41)⟩,
    ⟨none, some 43, .fieldA 3 (.tmp 3)⟩,
    ⟨none, some 44, .load (.tmp 43)⟩,
    ⟨none, some 45, .fieldA 4 (.tmp 2)⟩,
    ⟨none, none, .store 1 (.tmp 45) (.tmp 42)⟩]),
   (true, [(6, 0), (7, 0)], [⟨none, some 46, .fieldA 5 (.tmp 2)⟩,
    ⟨none, none, .store 1 (.tmp 46) (.tmp 44)⟩])])
  (.seq (.dr [(false, [(0, 0), (1, 0), (2, 0), (3, 0), (4, 0)], [⟨none, some 47, .loadA 6 (.tmp 2)⟩,
    ⟨none, some 48, .loadA 6 (.tmp 2)⟩,
    ⟨none, some 49, .fieldA 2 (.tmp 2)⟩,
    ⟨none, some 50, .load (.tmp 49)⟩,
    ⟨none, some 51, .call 32 [.tmp 48, .tmp 50]⟩]),
   (true, [(5, 0)], [⟨none, some 52, .call 31 [.tmp 47, .tmp 51]⟩]),
   (false, [(6, 0), (7, 0)], [⟨none, some 53, .extract (.tmp 52) 0⟩,
    ⟨none, some 54, .extract (.tmp 52) 1⟩]),
   (true, [(8, 0), (9, 0)], [⟨none, none, .store 6 (.tmp 4) (.tmp 53)⟩,
    ⟨none, some 5, .mv (.tmp 54)⟩])])
  (.ret))))))
theorem ac13_ok (q : Option (Nat × Nat)) : compF Go.Proofs.Try.prog Go.Proofs.Try.f13 (ac13 q) = some (ac13 q, [.cell 4 (some 6), .tmp 5]) := by kernel_rfl

/- clearway clearwayref34.Hear -/
def ac14 (q : Option (Nat × Nat)) : AC := .seq (.rg [⟨none, some 2, .box 23 (.tmp 0)⟩,
    ⟨none, some 3, .box 25 (.tmp 1)⟩,
    ⟨none, some 4, .alloc 23 [.p (.v (.int .i64 0)), .p (.v (.int .i64 0)), .p (.v (.int .u8 0)), .p (.v (.int .i64 0)), .p (.v (.int .u8 0)), .p (.v (.int .i64 0))]⟩,
    ⟨none, some 5, .mv (.const (.int .i64 0))⟩])
  (.seq (.rg [⟨none, some 7, .loadA 6 (.tmp 2)⟩,
    ⟨none, some 8, .call 20 [.tmp 7]⟩,
    ⟨none, some 6, .mv (.tmp 8)⟩])
  (.seq (.seq (.rg [⟨none, some 9, .mv (.tmp 6)⟩,
    ⟨none, some 10, .bin .eql (.tmp 9) (.const (.int .i64 0))⟩])
  (.cond (.tmp 10) (.rg [⟨none, some 11, .loadA 4 (.tmp 3)⟩,
    ⟨none, some 12, .call 37 [.tmp 11]⟩,
    ⟨none, some 6, .mv (.tmp 12)⟩]) (.skip)))
  (.seq (.seq (.rg [⟨none, some 13, .mv (.tmp 6)⟩,
    ⟨none, some 14, .bin .eql (.tmp 13) (.const (.int .i64 0))⟩,
    ⟨none, some 15, .mv (.tmp 14)⟩,
    ⟨some (15, true), some 16, .fieldA 0 (.tmp 3)⟩,
    ⟨some (15, true), some 17, .load (.tmp 16)⟩,
    ⟨some (15, true), some 18, .fieldA 1 (.tmp 2)⟩,
    ⟨some (15, true), some 19, .load (.tmp 18)⟩,
    ⟨some (15, true), some 20, .bin .neq (.tmp 17) (.tmp 19)⟩,
    ⟨some (15, true), some 21, .mv (.tmp 20)⟩,
    ⟨some (21, false), some 22, .fieldA 1 (.tmp 3)⟩,
    ⟨some (21, false), some 23, .load (.tmp 22)⟩,
    ⟨some (21, false), some 24, .fieldA 0 (.tmp 2)⟩,
    ⟨some (21, false), some 25, .load (.tmp 24)⟩,
    ⟨some (21, false), some 26, .bin .neq (.tmp 23) (.tmp 25)⟩,
    ⟨some (15, true), some 27, .pick (.tmp 21) (.const (.bool true)) (.tmp 26)⟩,
    ⟨none, some 28, .pick (.tmp 15) (.tmp 27) (.const (.bool false))⟩])
  (.cond (.tmp 28) (.rg [⟨none, some 6, .mv (.const (.int .i64 16))⟩]) (.skip)))
  (.seq (.seq (.rg [⟨none, some 29, .mv (.tmp 6)⟩,
    ⟨none, some 30, .bin .neq (.tmp 29) (.const (.int .i64 0))⟩])
  (.cond (.tmp 30) (.seq (.rg [⟨none, some 31, .build [.p (.v (.int .i64 0)), .p (.v (.int .i64 0)), .p (.v (.int .u8 0)), .p (.v (.int .i64 0)), .p (.v (.int .u8 0)), .p (.v (.int .i64 0))] []⟩,
    ⟨none, some 32, .mv (.tmp 6)⟩,
    ⟨none, none, .store 6 (.tmp 4) (.tmp 31)⟩,
    ⟨none, some 5, .mv (.tmp 32)⟩])
  (.ret)) (.skip)))
  (.seq (.seq (.rg [⟨none, some 33, .fieldA 3 (.tmp 3)⟩,
    ⟨none, some 34, .load (.tmp 33)⟩,
    ⟨none, some 35, .fieldA 5 (.tmp 2)⟩,
    ⟨none, some 36, .load (.tmp 35)⟩,
    ⟨none, some 37, .bin .leq (.tmp 34) (.tmp 36)⟩])
  (.cond (.tmp 37) (.seq (.rg [⟨none, some 38, .loadA 6 (.tmp 2)⟩,
    ⟨none, none, .store 6 (.tmp 4) (.tmp 38)⟩,
    ⟨none, some 5, .mv (.const (.int .i64 0))⟩])
  (.ret)) (.skip)))
  (.seq (.rg [⟨none, some 39, .fieldA 2 (.tmp 3)⟩,
    ⟨none, some 40, .load (.tmp 39)⟩,
    ⟨none, some 41, .fieldA 4 (.tmp 2)⟩,
    ⟨none, none, .store 1 (.tmp 41) (.tmp 40)⟩])
  (.seq (.rg [⟨none, some 42, .fieldA 3 (.tmp 3)⟩,
    ⟨none, some 43, .load (.tmp 42)⟩,
    ⟨none, some 44, .fieldA 5 (.tmp 2)⟩,
    ⟨none, none, .store 1 (.tmp 44) (.tmp 43)⟩])
  (.seq (.seq (.rg [⟨none, some 45, .fieldA 0 (.tmp 2)⟩,
    ⟨none, some 46, .load (.tmp 45)⟩,
    ⟨none, some 47, .fieldA 1 (.tmp 2)⟩,
    ⟨none, some 48, .load (.tmp 47)⟩,
    ⟨none, some 49, .bin .gtr (.tmp 46) (.tmp 48)⟩,
    ⟨none, some 50, .mv (.tmp 49)⟩,
    ⟨some (50, true), some 51, .fieldA 2 (.tmp 2)⟩,
    ⟨some (50, true), some 52, .load (.tmp 51)⟩,
    ⟨some (50, true), some 53, .fieldA 4 (.tmp 2)⟩,
    ⟨some (50, true), some 54, .load (.tmp 53)⟩,
    ⟨some (50, true), some 55, .call 33 [.tmp 52, .tmp 54]⟩,
    ⟨none, some 56, .pick (.tmp 50) (.tmp 55) (.const (.bool false))⟩])
  (.cond (.tmp 56) (.seq (.dr [(false, [(0, 0), (1, 0), (2, 0), (3, 0)], [⟨none, some 57, .loadA 6 (.tmp 2)⟩,
    ⟨none, some 58, .fieldA 4 (.tmp 2)⟩,
    ⟨none, some 59, .load (.tmp 58)⟩,
    ⟨none, some 60, .call 35 [.tmp 59]⟩]),
   (true, [(4, 0)], [⟨none, some 61, .call 34 [.tmp 57, .tmp 60]⟩]),
   (false, [(5, 0), (6, 0)], [⟨none, some 62, .extract (.tmp 61) 0⟩,
    ⟨none, some 63, .extract (.tmp 61) 1⟩]),
   (true, [(7, 0), (8, 0)], [⟨none, none, .store 6 (.tmp 4) (.tmp 62)⟩,
    ⟨none, some 5, .mv (.tmp 63)⟩])])
  (.ret)) (.skip)))
  (.seq (.rg [⟨none, some 64, .loadA 6 (.tmp 2)⟩,
    ⟨none, none, .store 6 (.tmp 4) (.tmp 64)⟩,
    ⟨none, some 5, .mv (.const (.int .i64 0))⟩])
  (.ret))))))))))
theorem ac14_ok (q : Option (Nat × Nat)) : compF Go.Proofs.Try.prog Go.Proofs.Try.f14 (ac14 q) = some (ac14 q, [.cell 4 (some 6), .tmp 5]) := by kernel_rfl

/- clearway coordinate.Say -/
def ac15 (q : Option (Nat × Nat)) : AC := .seq (.rg [⟨none, some 1, .box 23 (.tmp 0)⟩,
    ⟨none, some 2, .alloc 25 [.p (.v (.int .i64 0)), .p (.v (.int .i64 0)), .p (.v (.int .u8 0)), .p (.v (.int .i64 0))]⟩,
    ⟨none, some 3, .mv (.const (.int .i64 0))⟩])
  (.seq (.seq (.rg [⟨none, some 5, .loadA 6 (.tmp 1)⟩,
    ⟨none, some 6, .call 19 [.tmp 5]⟩,
    ⟨none, some 4, .mv (.tmp 6)⟩])
  (.seq (.rg [⟨none, some 7, .mv (.tmp 4)⟩,
    ⟨none, some 8, .bin .neq (.tmp 7) (.const (.int .i64 0))⟩])
  (.cond (.tmp 8) (.seq (.rg [⟨none, some 9, .build [.p (.v (.int .i64 0)), .p (.v (.int .i64 0)), .p (.v (.int .u8 0)), .p (.v (.int .i64 0))] []⟩,
    ⟨none, some 10, .mv (.tmp 4)⟩,
    ⟨none, none, .store 4 (.tmp 2) (.tmp 9)⟩,
    ⟨none, some 3, .mv (.tmp 10)⟩])
  (.ret)) (.skip))))
  (.seq (.seq (.rg [⟨none, some 11, .fieldA 3 (.tmp 1)⟩,
    ⟨none, some 12, .load (.tmp 11)⟩,
    ⟨none, some 13, .bin .eql (.tmp 12) (.const (.int .i64 0))⟩])
  (.cond (.tmp 13) (.seq (.rg [⟨none, some 14, .build [.p (.v (.int .i64 0)), .p (.v (.int .i64 0)), .p (.v (.int .u8 0)), .p (.v (.int .i64 0))] []⟩,
    ⟨none, none, .store 4 (.tmp 2) (.tmp 14)⟩,
    ⟨none, some 3, .mv (.const (.int .i64 9))⟩])
  (.ret)) (.skip)))
  (.seq (.rg [⟨none, some 15, .fieldA 0 (.tmp 1)⟩,
    ⟨none, some 16, .load (.tmp 15)⟩,
    ⟨none, some 17, .fieldA 1 (.tmp 1)⟩,
    ⟨none, some 18, .load (.tmp 17)⟩,
    ⟨none, some 19, .fieldA 2 (.tmp 1)⟩,
    ⟨none, some 20, .load (.tmp 19)⟩,
    ⟨none, some 21, .fieldA 3 (.tmp 1)⟩,
    ⟨none, some 22, .load (.tmp 21)⟩,
    ⟨none, some 23, .build [.p (.v (.int .i64 0)), .p (.v (.int .i64 0)), .p (.v (.int .u8 0)), .p (.v (.int .i64 0))] [(0, 1, .tmp 16), (1, 1, .tmp 18), (2, 1, .tmp 20), (3, 1, .tmp 22)]⟩,
    ⟨none, none, .store 4 (.tmp 2) (.tmp 23)⟩,
    ⟨none, some 3, .mv (.const (.int .i64 0))⟩])
  (.ret))))
theorem ac15_ok (q : Option (Nat × Nat)) : compF Go.Proofs.Try.prog Go.Proofs.Try.f15 (ac15 q) = some (ac15 q, [.cell 2 (some 4), .tmp 3]) := by kernel_rfl

/- clearway clearwayref34.Say -/
def ac16 (q : Option (Nat × Nat)) : AC := .seq (.rg [⟨none, some 1, .box 23 (.tmp 0)⟩,
    ⟨none, some 2, .alloc 25 [.p (.v (.int .i64 0)), .p (.v (.int .i64 0)), .p (.v (.int .u8 0)), .p (.v (.int .i64 0))]⟩,
    ⟨none, some 3, .mv (.const (.int .i64 0))⟩])
  (.seq (.rg [⟨none, some 5, .loadA 6 (.tmp 1)⟩,
    ⟨none, some 6, .call 20 [.tmp 5]⟩,
    ⟨none, some 4, .mv (.tmp 6)⟩])
  (.seq (.seq (.rg [⟨none, some 7, .mv (.tmp 4)⟩,
    ⟨none, some 8, .bin .neq (.tmp 7) (.const (.int .i64 0))⟩])
  (.cond (.tmp 8) (.seq (.rg [⟨none, some 9, .build [.p (.v (.int .i64 0)), .p (.v (.int .i64 0)), .p (.v (.int .u8 0)), .p (.v (.int .i64 0))] []⟩,
    ⟨none, some 10, .mv (.tmp 4)⟩,
    ⟨none, none, .store 4 (.tmp 2) (.tmp 9)⟩,
    ⟨none, some 3, .mv (.tmp 10)⟩])
  (.ret)) (.skip)))
  (.seq (.seq (.rg [⟨none, some 11, .fieldA 3 (.tmp 1)⟩,
    ⟨none, some 12, .load (.tmp 11)⟩,
    ⟨none, some 13, .bin .eql (.tmp 12) (.const (.int .i64 0))⟩])
  (.cond (.tmp 13) (.seq (.rg [⟨none, some 14, .build [.p (.v (.int .i64 0)), .p (.v (.int .i64 0)), .p (.v (.int .u8 0)), .p (.v (.int .i64 0))] []⟩,
    ⟨none, none, .store 4 (.tmp 2) (.tmp 14)⟩,
    ⟨none, some 3, .mv (.const (.int .i64 9))⟩])
  (.ret)) (.skip)))
  (.seq (.rg [⟨none, some 15, .fieldA 0 (.tmp 1)⟩,
    ⟨none, some 16, .load (.tmp 15)⟩,
    ⟨none, some 17, .fieldA 1 (.tmp 1)⟩,
    ⟨none, some 18, .load (.tmp 17)⟩,
    ⟨none, some 19, .fieldA 2 (.tmp 1)⟩,
    ⟨none, some 20, .load (.tmp 19)⟩,
    ⟨none, some 21, .fieldA 3 (.tmp 1)⟩,
    ⟨none, some 22, .load (.tmp 21)⟩,
    ⟨none, some 23, .build [.p (.v (.int .i64 0)), .p (.v (.int .i64 0)), .p (.v (.int .u8 0)), .p (.v (.int .i64 0))] [(0, 1, .tmp 16), (1, 1, .tmp 18), (2, 1, .tmp 20), (3, 1, .tmp 22)]⟩,
    ⟨none, none, .store 4 (.tmp 2) (.tmp 23)⟩,
    ⟨none, some 3, .mv (.const (.int .i64 0))⟩])
  (.ret)))))
theorem ac16_ok (q : Option (Nat × Nat)) : compF Go.Proofs.Try.prog Go.Proofs.Try.f16 (ac16 q) = some (ac16 q, [.cell 2 (some 4), .tmp 3]) := by kernel_rfl

/- clearway coordinate.New -/
def ac17 (q : Option (Nat × Nat)) : AC := .seq (.rg [⟨none, some 4, .alloc 23 [.p (.v (.int .i64 0)), .p (.v (.int .i64 0)), .p (.v (.int .u8 0)), .p (.v (.int .i64 0)), .p (.v (.int .u8 0)), .p (.v (.int .i64 0))]⟩,
    ⟨none, some 5, .mv (.const (.int .i64 0))⟩])
  (.seq (.rg [⟨none, some 8, .mv (.tmp 0)⟩,
    ⟨none, some 9, .mv (.tmp 1)⟩,
    ⟨none, some 10, .build [.p (.v (.int .i64 0)), .p (.v (.int .i64 0)), .p (.v (.int .u8 0)), .p (.v (.int .i64 0)), .p (.v (.int .u8 0)), .p (.v (.int .i64 0))] [(0, 1, .tmp 8), (1, 1, .tmp 9)]⟩,
    ⟨none, some 6, .alloc 23 [.p (.v (.int .i64 0)), .p (.v (.int .i64 0)), .p (.v (.int .u8 0)), .p (.v (.int .i64 0)), .p (.v (.int .u8 0)), .p (.v (.int .i64 0))]⟩,
    ⟨none, none, .store 6 (.tmp 6) (.tmp 10)⟩])
  (.seq (.seq (.rg [⟨none, some 11, .loadA 6 (.tmp 6)⟩,
    ⟨none, some 12, .call 19 [.tmp 11]⟩,
    ⟨none, some 7, .mv (.tmp 12)⟩])
  (.seq (.rg [⟨none, some 13, .mv (.tmp 7)⟩,
    ⟨none, some 14, .bin .neq (.tmp 13) (.const (.int .i64 0))⟩])
  (.cond (.tmp 14) (.seq (.rg [⟨none, some 15, .build [.p (.v (.int .i64 0)), .p (.v (.int .i64 0)), .p (.v (.int .u8 0)), .p (.v (.int .i64 0)), .p (.v (.int .u8 0)), .p (.v (.int .i64 0))] []⟩,
    ⟨none, some 16, .mv (.tmp 7)⟩,
    ⟨none, none, .store 6 (.tmp 4) (.tmp 15)⟩,
    ⟨none, some 5, .mv (.tmp 16)⟩])
  (.ret)) (.skip))))
  (.seq (.rg [⟨none, some 17, .loadA 6 (.tmp 6)⟩,
    ⟨none, none, .store 6 (.tmp 4) (.tmp 17)⟩,
    ⟨none, some 5, .mv (.const (.int .i64 0))⟩])
  (.ret))))
theorem ac17_ok (q : Option (Nat × Nat)) : compF Go.Proofs.Try.prog Go.Proofs.Try.f17 (ac17 q) = some (ac17 q, [.cell 4 (some 6), .tmp 5]) := by kernel_rfl

/- clearway clearwayref34.New -/
def ac18 (q : Option (Nat × Nat)) : AC := .seq (.rg [⟨none, some 4, .alloc 23 [.p (.v (.int .i64 0)), .p (.v (.int .i64 0)), .p (.v (.int .u8 0)), .p (.v (.int .i64 0)), .p (.v (.int .u8 0)), .p (.v (.int .i64 0))]⟩,
    ⟨none, some 5, .mv (.const (.int .i64 0))⟩])
  (.seq (.seq (.rg [⟨none, some 6, .mv (.tmp 0)⟩,
    ⟨none, some 7, .mv (.tmp 1)⟩,
    ⟨none, some 8, .call 38 [.tmp 6, .tmp 7]⟩,
    ⟨none, some 9, .un .not (.tmp 8)⟩])
  (.cond (.tmp 9) (.seq (.rg [⟨none, some 10, .build [.p (.v (.int .i64 0)), .p (.v (.int .i64 0)), .p (.v (.int .u8 0)), .p (.v (.int .i64 0)), .p (.v (.int .u8 0)), .p (.v (.int .i64 0))] []⟩,
    ⟨none, none, .store 6 (.tmp 4) (.tmp 10)⟩,
    ⟨none, some 5, .mv (.const (.int .i64 1))⟩])
  (.ret)) (.skip)))
  (.seq (.rg [⟨none, some 11, .mv (.tmp 0)⟩,
    ⟨none, some 12, .mv (.tmp 1)⟩,
    ⟨none, some 13, .build [.p (.v (.int .i64 0)), .p (.v (.int .i64 0)), .p (.v (.int .u8 0)), .p (.v (.int .i64 0)), .p (.v (.int .u8 0)), .p (.v (.int .i64 0))] [(0, 1, .tmp 11), (1, 1, .tmp 12)]⟩,
    ⟨none, none, .store 6 (.tmp 4) (.tmp 13)⟩,
    ⟨none, some 5, .mv (.const (.int .i64 0))⟩])
  (.ret)))
theorem ac18_ok (q : Option (Nat × Nat)) : compF Go.Proofs.Try.prog Go.Proofs.Try.f18 (ac18 q) = some (ac18 q, [.cell 4 (some 6), .tmp 5]) := by kernel_rfl

/- clearway coordinate.Check -/
def ac19 (q : Option (Nat × Nat)) : AC := .seq (.rg [⟨none, some 1, .box 23 (.tmp 0)⟩,
    ⟨none, some 2, .mv (.const (.int .i64 0))⟩])
  (.seq (.rg [⟨none, some 3, .mv (.func 39)⟩])
  (.seq (.blk 0 (.seq (.rg [⟨none, some 5, .mv (.tmp 3)⟩,
    ⟨none, some 6, .fieldA 0 (.tmp 1)⟩,
    ⟨none, some 7, .load (.tmp 6)⟩,
    ⟨none, some 8, .callv (.tmp 5) [.tmp 7, .const (.int .i64 16777215)]⟩,
    ⟨none, some 9, .mv (.tmp 8)⟩,
    ⟨some (9, false), some 10, .mv (.tmp 3)⟩,
    ⟨some (9, false), some 11, .fieldA 1 (.tmp 1)⟩,
    ⟨some (9, false), some 12, .load (.tmp 11)⟩,
    ⟨some (9, false), some 13, .callv (.tmp 10) [.tmp 12, .const (.int .i64 16777215)]⟩,
    ⟨none, some 14, .pick (.tmp 9) (.const (.bool true)) (.tmp 13)⟩,
    ⟨none, some 15, .mv (.tmp 14)⟩,
    ⟨some (15, false), some 16, .fieldA 0 (.tmp 1)⟩,
    ⟨some (15, false), some 17, .load (.tmp 16)⟩,
    ⟨some (15, false), some 18, .fieldA 1 (.tmp 1)⟩,
    ⟨some (15, false), some 19, .load (.tmp 18)⟩,
    ⟨some (15, false), some 20, .bin .eql (.tmp 17) (.tmp 19)⟩,
    ⟨none, some 21, .pick (.tmp 15) (.const (.bool true)) (.tmp 20)⟩,
    ⟨none, some 4, .mv (.tmp 21)⟩])
  (.cond (.tmp 4) (.seq (.rg [⟨none, some 2, .mv (.const (.int .i64 1))⟩])
  (.ret)) (.seq (.rg [⟨none, some 23, .fieldA 2 (.tmp 1)⟩,
    ⟨none, some 24, .load (.tmp 23)⟩,
    ⟨none, some 25, .fieldA 4 (.tmp 1)⟩,
    ⟨none, some 26, .load (.tmp 25)⟩,
    ⟨none, some 27, .minmax true [.tmp 24, .tmp 26]⟩,
    ⟨none, some 28, .bin .gtr (.tmp 27) (.const (.int .u8 2))⟩,
    ⟨none, some 22, .mv (.tmp 28)⟩])
  (.cond (.tmp 22) (.seq (.rg [⟨none, some 2, .mv (.const (.int .i64 6))⟩])
  (.ret)) (.seq (.rg [⟨none, some 30, .mv (.tmp 3)⟩,
    ⟨none, some 31, .fieldA 3 (.tmp 1)⟩,
    ⟨none, some 32, .load (.tmp 31)⟩,
    ⟨none, some 33, .callv (.tmp 30) [.tmp 32, .const (.int .i64 1048575)]⟩,
    ⟨none, some 34, .mv (.tmp 33)⟩,
    ⟨some (34, false), some 35, .mv (.tmp 3)⟩,
    ⟨some (34, false), some 36, .fieldA 5 (.tmp 1)⟩,
    ⟨some (34, false), some 37, .load (.tmp 36)⟩,
    ⟨some (34, false), some 38, .callv (.tmp 35) [.tmp 37, .const (.int .i64 1048575)]⟩,
    ⟨none, some 39, .pick (.tmp 34) (.const (.bool true)) (.tmp 38)⟩,
    ⟨none, some 29, .mv (.tmp 39)⟩])
  (.cond (.tmp 29) (.seq (.rg [⟨none, some 2, .mv (.const (.int .i64 1))⟩])
  (.ret)) (.seq (.rg [⟨none, some 41, .fieldA 3 (.tmp 1)⟩,
    ⟨none, some 42, .load (.tmp 41)⟩,
    ⟨none, some 43, .bin .eql (.tmp 42) (.const (.int .i64 0))⟩,
    ⟨none, some 44, .mv (.tmp 43)⟩,
    ⟨some (44, true), some 45, .fieldA 2 (.tmp 1)⟩,
    ⟨some (44, true), some 46, .load (.tmp 45)⟩,
    ⟨some (44, true), some 47, .bin .neq (.tmp 46) (.const (.int .u8 0))⟩,
    ⟨none, some 48, .pick (.tmp 44) (.tmp 47) (.const (.bool false))⟩,
    ⟨none, some 49, .mv (.tmp 48)⟩,
    ⟨some (49, false), some 50, .fieldA 5 (.tmp 1)⟩,
    ⟨some (49, false), some 51, .load (.tmp 50)⟩,
    ⟨some (49, false), some 52, .bin .eql (.tmp 51) (.const (.int .i64 0))⟩,
    ⟨some (49, false), some 53, .mv (.tmp 52)⟩,
    ⟨some (53, true), some 54, .fieldA 4 (.tmp 1)⟩,
    ⟨some (53, true), some 55, .load (.tmp 54)⟩,
    ⟨some (53, true), some 56, .bin .neq (.tmp 55) (.const (.int .u8 0))⟩,
    ⟨some (49, false), some 57, .pick (.tmp 53) (.tmp 56) (.const (.bool false))⟩,
    ⟨none, some 58, .pick (.tmp 49) (.const (.bool true)) (.tmp 57)⟩,
    ⟨none, some 40, .mv (.tmp 58)⟩])
  (.cond (.tmp 40) (.seq (.rg [⟨none, some 2, .mv (.const (.int .i64 16))⟩])
  (.ret)) (.skip))))))))))
  (.seq (.rg [⟨none, some 2, .mv (.const (.int .i64 0))⟩])
  (.ret))))
theorem ac19_ok (q : Option (Nat × Nat)) : compF Go.Proofs.Try.prog Go.Proofs.Try.f19 (ac19 q) = some (ac19 q, [.tmp 2]) := by kernel_rfl

/- clearway clearwayref34.Check -/
def ac20 (q : Option (Nat × Nat)) : AC := .seq (.rg [⟨none, some 1, .box 23 (.tmp 0)⟩,
    ⟨none, some 2, .mv (.const (.int .i64 0))⟩])
  (.seq (.seq (.rg [⟨none, some 3, .fieldA 0 (.tmp 1)⟩,
    ⟨none, some 4, .load (.tmp 3)⟩,
    ⟨none, some 5, .fieldA 1 (.tmp 1)⟩,
    ⟨none, some 6, .load (.tmp 5)⟩,
    ⟨none, some 7, .call 38 [.tmp 4, .tmp 6]⟩,
    ⟨none, some 8, .un .not (.tmp 7)⟩])
  (.cond (.tmp 8) (.seq (.rg [⟨none, some 2, .mv (.const (.int .i64 1))⟩])
  (.ret)) (.skip)))
  (.seq (.seq (.rg [⟨none, some 9, .fieldA 2 (.tmp 1)⟩,
    ⟨none, some 10, .load (.tmp 9)⟩,
    ⟨none, some 11, .bin .gtr (.tmp 10) (.const (.int .u8 2))⟩,
    ⟨none, some 12, .mv (.tmp 11)⟩,
    ⟨some (12, false), some 13, .fieldA 4 (.tmp 1)⟩,
    ⟨some (12, false), some 14, .load (.tmp 13)⟩,
    ⟨some (12, false), some 15, .bin .gtr (.tmp 14) (.const (.int .u8 2))⟩,
    ⟨none, some 16, .pick (.tmp 12) (.const (.bool true)) (.tmp 15)⟩])
  (.cond (.tmp 16) (.seq (.rg [⟨none, some 2, .mv (.const (.int .i64 6))⟩])
  (.ret)) (.skip)))
  (.seq (.seq (.rg [⟨none, some 17, .fieldA 3 (.tmp 1)⟩,
    ⟨none, some 18, .load (.tmp 17)⟩,
    ⟨none, some 19, .bin .lss (.tmp 18) (.const (.int .i64 0))⟩,
    ⟨none, some 20, .mv (.tmp 19)⟩,
    ⟨some (20, false), some 21, .fieldA 3 (.tmp 1)⟩,
    ⟨some (20, false), some 22, .load (.tmp 21)⟩,
    ⟨some (20, false), some 23, .bin .gtr (.tmp 22) (.const (.int .i64 1048575))⟩,
    ⟨none, some 24, .pick (.tmp 20) (.const (.bool true)) (.tmp 23)⟩,
    ⟨none, some 25, .mv (.tmp 24)⟩,
    ⟨some (25, false), some 26, .fieldA 5 (.tmp 1)⟩,
    ⟨some (25, false), some 27, .load (.tmp 26)⟩,
    ⟨some (25, false), some 28, .bin .lss (.tmp 27) (.const (.int .i64 0))⟩,
    ⟨none, some 29, .pick (.tmp 25) (.const (.bool true)) (.tmp 28)⟩,
    ⟨none, some 30, .mv (.tmp 29)⟩,
    ⟨some (30, false), some 31, .fieldA 5 (.tmp 1)⟩,
    ⟨some (30, false), some 32, .load (.tmp 31)⟩,
    ⟨some (30, false), some 33, .bin .gtr (.tmp 32) (.const (.int .i64 1048575))⟩,
    ⟨none, some 34, .pick (.tmp 30) (.const (.bool true)) (.tmp 33)⟩])
  (.cond (.tmp 34) (.seq (.rg [⟨none, some 2, .mv (.const (.int .i64 1))⟩])
  (.ret)) (.skip)))
  (.seq (.seq (.rg [⟨none, some 35, .fieldA 3 (.tmp 1)⟩,
    ⟨none, some 36, .load (.tmp 35)⟩,
    ⟨none, some 37, .bin .eql (.tmp 36) (.const (.int .i64 0))⟩,
    ⟨none, some 38, .mv (.tmp 37)⟩,
    ⟨some (38, true), some 39, .fieldA 2 (.tmp 1)⟩,
    ⟨some (38, true), some 40, .load (.tmp 39)⟩,
    ⟨some (38, true), some 41, .bin .neq (.tmp 40) (.const (.int .u8 0))⟩,
    ⟨none, some 42, .pick (.tmp 38) (.tmp 41) (.const (.bool false))⟩,
    ⟨none, some 43, .mv (.tmp 42)⟩,
    ⟨some (43, false), some 44, .fieldA 5 (.tmp 1)⟩,
    ⟨some (43, false), some 45, .load (.tmp 44)⟩,
    ⟨some (43, false), some 46, .bin .eql (.tmp 45) (.const (.int .i64 0))⟩,
    ⟨some (43, false), some 47, .mv (.tmp 46)⟩,
    ⟨some (47, true), some 48, .fieldA 4 (.tmp 1)⟩,
    ⟨some (47, true), some 49, .load (.tmp 48)⟩,
    ⟨some (47, true), some 50, .bin .neq (.tmp 49) (.const (.int .u8 0))⟩,
    ⟨some (43, false), some 51, .pick (.tmp 47) (.tmp 50) (.const (.bool false))⟩,
    ⟨none, some 52, .pick (.tmp 43) (.const (.bool true)) (.tmp 51)⟩])
  (.cond (.tmp 52) (.seq (.rg [⟨none, some 2, .mv (.const (.int .i64 16))⟩])
  (.ret)) (.skip)))
  (.seq (.rg [⟨none, some 2, .mv (.const (.int .i64 0))⟩])
  (.ret))))))
theorem ac20_ok (q : Option (Nat × Nat)) : compF Go.Proofs.Try.prog Go.Proofs.Try.f20 (ac20 q) = some (ac20 q, [.tmp 2]) := by kernel_rfl

/- clearway clearwaylaw34.awake -/
def ac21 (q : Option (Nat × Nat)) : AC := .seq (.rg [⟨none, some 0, .mv (.const (.bool false))⟩])
  (.seq (.rg [⟨none, some 7, .build [.p (.v (.int .u8 0)), .p (.v (.int .u8 0))] [(0, 1, .const (.int .u8 1)), (1, 1, .const (.int .u8 1))]⟩,
    ⟨none, some 1, .alloc 46 [.p (.v (.int .u8 0)), .p (.v (.int .u8 0))]⟩,
    ⟨none, none, .store 2 (.tmp 1) (.tmp 7)⟩])
  (.seq (.rg [⟨none, some 9, .loadA 2 (.tmp 1)⟩,
    ⟨none, some 10, .loadA 2 (.tmp 1)⟩,
    ⟨none, some 11, .loadA 2 (.tmp 1)⟩,
    ⟨none, some 12, .bslice false 46 3 2 [.p (.v (.int .u8 0)), .p (.v (.int .u8 0))] [(0, 2, .tmp 9), (2, 2, .tmp 10), (4, 2, .tmp 11)]⟩,
    ⟨none, some 13, .bslice false 3 1 1 [.p (.v (.int .i64 0))] [(0, 1, .const (.int .i64 (-1)))]⟩,
    ⟨none, some 14, .call 23 [.const (.int .i64 3), .const (.int .i64 8), .tmp 12, .tmp 13, .const (.slice none 0 0)]⟩,
    ⟨none, some 8, .mv (.tmp 14)⟩,
    ⟨none, some 15, .extract (.tmp 8) 0⟩,
    ⟨none, some 16, .extract (.tmp 8) 1⟩,
    ⟨none, some 2, .mv (.tmp 15)⟩,
    ⟨none, some 3, .mv (.tmp 16)⟩])
  (.seq (.seq (.rg [⟨none, some 17, .mv (.tmp 3)⟩,
    ⟨none, some 18, .bin .neq (.tmp 17) (.const (.int .i64 0))⟩,
    ⟨none, some 19, .mv (.tmp 18)⟩,
    ⟨some (19, false), some 20, .mv (.tmp 2)⟩,
    ⟨some (19, false), some 21, .len (.tmp 20)⟩,
    ⟨some (19, false), some 22, .bin .neq (.tmp 21) (.const (.int .i64 3))⟩,
    ⟨none, some 23, .pick (.tmp 19) (.const (.bool true)) (.tmp 22)⟩])
  (.cond (.tmp 23) (.seq (.rg [⟨none, some 0, .mv (.const (.bool false))⟩])
  (.ret)) (.skip)))
  (.seq (.rg [⟨none, some 24, .build [.p (.v (.int .i64 0)), .p (.v (.int .i64 0)), .p (.v (.int .u8 0)), .p (.v (.int .i64 0)), .p (.v (.int .u8 0)), .p (.v (.int .i64 0))] [(0, 1, .const (.int .i64 3)), (1, 1, .const (.int .i64 8)), (2, 1, .const (.int .u8 1)), (3, 1, .const (.int .i64 1)), (4, 1, .const (.int .u8 1)), (5, 1, .const (.int .i64 1))]⟩,
    ⟨none, some 25, .build [.p (.v (.int .i64 0)), .p (.v (.int .i64 0)), .p (.v (.int .u8 0)), .p (.v (.int .i64 0)), .p (.v (.int .u8 0)), .p (.v (.int .i64 0))] [(0, 1, .const (.int .i64 8)), (1, 1, .const (.int .i64 3)), (2, 1, .const (.int .u8 1)), (3, 1, .const (.int .i64 1))]⟩,
    ⟨none, some 26, .build [.p (.v (.int .i64 0)), .p (.v (.int .i64 0)), .p (.v (.int .u8 0)), .p (.v (.int .i64 0)), .p (.v (.int .u8 0)), .p (.v (.int .i64 0)), .p (.v (.int .i64 0)), .p (.v (.int .i64 0)), .p (.v (.int .u8 0)), .p (.v (.int .i64 0)), .p (.v (.int .u8 0)), .p (.v (.int .i64 0))] [(0, 6, .tmp 24), (6, 6, .tmp 25)]⟩,
    ⟨none, some 4, .alloc 45 [.p (.v (.int .i64 0)), .p (.v (.int .i64 0)), .p (.v (.int .u8 0)), .p (.v (.int .i64 0)), .p (.v (.int .u8 0)), .p (.v (.int .i64 0)), .p (.v (.int .i64 0)), .p (.v (.int .i64 0)), .p (.v (.int .u8 0)), .p (.v (.int .i64 0)), .p (.v (.int .u8 0)), .p (.v (.int .i64 0))]⟩,
    ⟨none, none, .store 12 (.tmp 4) (.tmp 26)⟩])
  (.seq (.rg [⟨none, some 27, .loadA 12 (.tmp 4)⟩,
    ⟨none, some 5, .alloc 45 [.p (.v (.int .i64 0)), .p (.v (.int .i64 0)), .p (.v (.int .u8 0)), .p (.v (.int .i64 0)), .p (.v (.int .u8 0)), .p (.v (.int .i64 0)), .p (.v (.int .i64 0)), .p (.v (.int .i64 0)), .p (.v (.int .u8 0)), .p (.v (.int .i64 0)), .p (.v (.int .u8 0)), .p (.v (.int .i64 0))]⟩,
    ⟨none, none, .store 12 (.tmp 5) (.tmp 27)⟩])
  (.seq (.rg [⟨none, some 28, .build [.p (.v (.int .i64 0)), .p (.v (.int .i64 0)), .p (.v (.int .u8 0)), .p (.v (.int .i64 0)), .p (.v (.int .u8 0)), .p (.v (.int .i64 0))] [(0, 1, .const (.int .i64 8)), (1, 1, .const (.int .i64 3)), (2, 1, .const (.int .u8 2)), (3, 1, .const (.int .i64 2)), (4, 1, .const (.int .u8 1)), (5, 1, .const (.int .i64 1))]⟩,
    ⟨none, some 29, .fieldA 6 (.tmp 5)⟩,
    ⟨none, none, .store 6 (.tmp 29) (.tmp 28)⟩])
  (.seq (.rg [⟨none, some 30, .loadA 12 (.tmp 5)⟩,
    ⟨none, some 6, .alloc 45 [.p (.v (.int .i64 0)), .p (.v (.int .i64 0)), .p (.v (.int .u8 0)), .p (.v (.int .i64 0)), .p (.v (.int .u8 0)), .p (.v (.int .i64 0)), .p (.v (.int .i64 0)), .p (.v (.int .i64 0)), .p (.v (.int .u8 0)), .p (.v (.int .i64 0)), .p (.v (.int .u8 0)), .p (.v (.int .i64 0))]⟩,
    ⟨none, none, .store 12 (.tmp 6) (.tmp 30)⟩])
  (.seq (.rg [⟨none, some 31, .fieldA 0 (.tmp 6)⟩,
    ⟨none, some 32, .fieldA 4 (.tmp 31)⟩,
    ⟨none, none, .store 1 (.tmp 32) (.const (.int .u8 2))⟩,
    ⟨none, some 33, .fieldA 0 (.tmp 6)⟩,
    ⟨none, some 34, .fieldA 5 (.tmp 33)⟩,
    ⟨none, none, .store 1 (.tmp 34) (.const (.int .i64 2))⟩])
  (.seq (.dr [(false, [(0, 0), (1, 0), (2, 0), (3, 0)], [⟨none, some 35, .mv (.tmp 2)⟩,
    ⟨none, some 36, .idx 12 (.tmp 35) (.const (.int .i64 0))⟩,
    ⟨none, some 37, .loadA 12 (.tmp 36)⟩,
    ⟨none, some 38, .loadA 12 (.tmp 4)⟩]),
   (true, [(4, 0), (5, 0)], [⟨none, some 39, .eqA [false, false, false, false, false, false, false, false, false, false, false, false] false (.tmp 37) (.tmp 38)⟩,
    ⟨none, some 40, .mv (.tmp 39)⟩]),
   (false, [(6, 0), (7, 0), (8, 0), (9, 0)], [⟨some (40, true), some 41, .mv (.tmp 2)⟩,
    ⟨some (40, true), some 42, .idx 12 (.tmp 41) (.const (.int .i64 1))⟩,
    ⟨some (40, true), some 43, .loadA 12 (.tmp 42)⟩,
    ⟨some (40, true), some 44, .loadA 12 (.tmp 5)⟩]),
   (true, [(10, 0), (11, 0), (12, 0)], [⟨some (40, true), some 45, .eqA [false, false, false, false, false, false, false, false, false, false, false, false] false (.tmp 43) (.tmp 44)⟩,
    ⟨none, some 46, .pick (.tmp 40) (.tmp 45) (.const (.bool false))⟩,
    ⟨none, some 47, .mv (.tmp 46)⟩]),
   (false, [(13, 0), (14, 0), (15, 0), (16, 0)], [⟨some (47, true), some 48, .mv (.tmp 2)⟩,
    ⟨some (47, true), some 49, .idx 12 (.tmp 48) (.const (.int .i64 2))⟩,
    ⟨some (47, true), some 50, .loadA 12 (.tmp 49)⟩,
    ⟨some (47, true), some 51, .loadA 12 (.tmp 6)⟩]),
   (true, [(17, 0), (18, 0), (19, 0), (20, 0), (21, 0), (22, 0), (23, 0), (24, 0), (25, 0), (26, 0), (27, 0), (28, 0), (29, 0), (30, 0)], [⟨some (47, true), some 52, .eqA [false, false, false, false, false, false, false, false, false, false, false, false] false (.tmp 50) (.tmp 51)⟩,
    ⟨none, some 53, .pick (.tmp 47) (.tmp 52) (.const (.bool false))⟩,
    ⟨none, some 54, .mv (.tmp 53)⟩,
    ⟨some (54, true), some 55, .fieldA 0 (.tmp 4)⟩,
    ⟨some (54, true), some 56, .loadA 6 (.tmp 55)⟩,
    ⟨some (54, true), some 57, .call 40 [.tmp 56]⟩,
    ⟨none, some 58, .pick (.tmp 54) (.tmp 57) (.const (.bool false))⟩,
    ⟨none, some 59, .mv (.tmp 58)⟩,
    ⟨some (59, true), some 60, .fieldA 6 (.tmp 4)⟩,
    ⟨some (59, true), some 61, .loadA 6 (.tmp 60)⟩,
    ⟨some (59, true), some 62, .call 40 [.tmp 61]⟩,
    ⟨some (59, true), some 63, .un .not (.tmp 62)⟩,
    ⟨none, some 64, .pick (.tmp 59) (.tmp 63) (.const (.bool false))⟩,
    ⟨none, some 65, .mv (.tmp 64)⟩]),
   (false, [(31, 0), (32, 0), (33, 0), (34, 0)], [⟨some (65, true), some 66, .fieldA 0 (.tmp 4)⟩,
    ⟨some (65, true), some 67, .loadA 6 (.tmp 66)⟩,
    ⟨some (65, true), some 68, .fieldA 6 (.tmp 4)⟩,
    ⟨some (65, true), some 69, .loadA 6 (.tmp 68)⟩]),
   (true, [(35, 0), (36, 0), (37, 0), (38, 0)], [⟨some (65, true), some 70, .call 25 [.tmp 67, .tmp 69]⟩,
    ⟨some (65, true), some 71, .un .not (.tmp 70)⟩,
    ⟨none, some 72, .pick (.tmp 65) (.tmp 71) (.const (.bool false))⟩,
    ⟨none, some 73, .mv (.tmp 72)⟩]),
   (false, [(39, 0), (40, 0), (41, 0), (42, 0)], [⟨some (73, true), some 74, .fieldA 0 (.tmp 4)⟩,
    ⟨some (73, true), some 75, .loadA 6 (.tmp 74)⟩,
    ⟨some (73, true), some 76, .fieldA 6 (.tmp 4)⟩,
    ⟨some (73, true), some 77, .loadA 6 (.tmp 76)⟩]),
   (true, [(43, 0), (44, 0), (45, 0), (46, 0)], [⟨some (73, true), some 78, .call 26 [.tmp 75, .tmp 77]⟩,
    ⟨some (73, true), some 79, .un .not (.tmp 78)⟩,
    ⟨none, some 80, .pick (.tmp 73) (.tmp 79) (.const (.bool false))⟩,
    ⟨none, some 81, .mv (.tmp 80)⟩]),
   (false, [(47, 0), (48, 0), (49, 0), (50, 0)], [⟨some (81, true), some 82, .fieldA 0 (.tmp 5)⟩,
    ⟨some (81, true), some 83, .loadA 6 (.tmp 82)⟩,
    ⟨some (81, true), some 84, .fieldA 6 (.tmp 5)⟩,
    ⟨some (81, true), some 85, .loadA 6 (.tmp 84)⟩]),
   (true, [(51, 0), (52, 0), (53, 0)], [⟨some (81, true), some 86, .call 25 [.tmp 83, .tmp 85]⟩,
    ⟨none, some 87, .pick (.tmp 81) (.tmp 86) (.const (.bool false))⟩,
    ⟨none, some 88, .mv (.tmp 87)⟩]),
   (false, [(54, 0), (55, 0), (56, 0), (57, 0)], [⟨some (88, true), some 89, .fieldA 0 (.tmp 5)⟩,
    ⟨some (88, true), some 90, .loadA 6 (.tmp 89)⟩,
    ⟨some (88, true), some 91, .fieldA 6 (.tmp 5)⟩,
    ⟨some (88, true), some 92, .loadA 6 (.tmp 91)⟩]),
   (true, [(58, 0), (59, 0), (60, 0), (61, 0)], [⟨some (88, true), some 93, .call 26 [.tmp 90, .tmp 92]⟩,
    ⟨some (88, true), some 94, .un .not (.tmp 93)⟩,
    ⟨none, some 95, .pick (.tmp 88) (.tmp 94) (.const (.bool false))⟩,
    ⟨none, some 96, .mv (.tmp 95)⟩]),
   (false, [(62, 0), (63, 0), (64, 0), (65, 0)], [⟨some (96, true), some 97, .fieldA 0 (.tmp 6)⟩,
    ⟨some (96, true), some 98, .loadA 6 (.tmp 97)⟩,
    ⟨some (96, true), some 99, .fieldA 6 (.tmp 6)⟩,
    ⟨some (96, true), some 100, .loadA 6 (.tmp 99)⟩]),
   (true, [(66, 0), (67, 0), (68, 0)], [⟨some (96, true), some 101, .call 26 [.tmp 98, .tmp 100]⟩,
    ⟨none, some 102, .pick (.tmp 96) (.tmp 101) (.const (.bool false))⟩,
    ⟨none, some 0, .mv (.tmp 102)⟩])])
  (.ret))))))))))
theorem ac21_ok (q : Option (Nat × Nat)) : compF Go.Proofs.Try.prog Go.Proofs.Try.f21 (ac21 q) = some (ac21 q, [.tmp 0]) := by kernel_rfl
end Go.Ab
