/- The codes of functions of this seat, as annotated, compared with the program by the kernel. No conditions. -/
import Derived.Test.YtbjehpjlpckbfaaProg
import Derived.Test.YtbjehpjlpckbfaaAbG
import Derived.Test.YtbjehpjlpckbfaaCod2
set_option linter.unusedVariables false
set_option linter.unusedSimpArgs false
namespace Go.Ab
def ac81_L0 (q : Option (Nat × Nat)) : AC := .seq (.seq (.rg [⟨none, some 11, .mv (.tmp 6)⟩,
    ⟨none, some 12, .mv (.tmp 7)⟩,
    ⟨none, some 13, .bin .lss (.tmp 11) (.tmp 12)⟩])
  (.cond (.tmp 13) (.skip) (.exit 0)))
  (.blk 1 (.seq (.dr [(false, [(0, 0), (1, 0), (2, 0), (3, 0), (4, 0), (5, 0), (6, 0), (7, 0), (8, 0), (9, 0), (10, 0), (11, 0), (12, 0), (13, 1)], [⟨none, some 14, .mv (.tmp 0)⟩,
    ⟨none, some 15, .mv (.tmp 6)⟩,
    ⟨none, some 16, .mv (.tmp 0)⟩,
    ⟨none, some 17, .mv (.tmp 7)⟩,
    ⟨none, some 18, .mv (.tmp 0)⟩,
    ⟨none, some 19, .mv (.tmp 7)⟩,
    ⟨none, some 20, .idx 1 (.tmp 18) (.tmp 19)⟩,
    ⟨none, some 21, .load (.tmp 20)⟩,
    ⟨none, some 22, .mv (.tmp 0)⟩,
    ⟨none, some 23, .mv (.tmp 6)⟩,
    ⟨none, some 24, .idx 1 (.tmp 22) (.tmp 23)⟩,
    ⟨none, some 25, .load (.tmp 24)⟩,
    ⟨none, some 26, .idx 1 (.tmp 14) (.tmp 15)⟩,
    ⟨none, none, .store 1 (.tmp 26) (.tmp 21)⟩]),
   (true, [(14, 0), (15, 0)], [⟨none, some 27, .idx 1 (.tmp 16) (.tmp 17)⟩,
    ⟨none, none, .store 1 (.tmp 27) (.tmp 25)⟩])])
  (.seq (.rg [⟨none, some 28, .mv (.tmp 6)⟩,
    ⟨none, some 29, .bin .add (.tmp 28) (.const (.int .i64 1))⟩,
    ⟨none, some 6, .mv (.tmp 29)⟩])
  (.rg [⟨none, some 30, .mv (.tmp 7)⟩,
    ⟨none, some 31, .bin .sub (.tmp 30) (.const (.int .i64 1))⟩,
    ⟨none, some 7, .mv (.tmp 31)⟩]))))
def ac81 (q : Option (Nat × Nat)) : AC := .seq (.rg [⟨none, some 8, .mv (.tmp 1)⟩,
    ⟨none, some 6, .mv (.tmp 8)⟩])
  (.seq (.rg [⟨none, some 9, .mv (.tmp 2)⟩,
    ⟨none, some 10, .bin .sub (.tmp 9) (.const (.int .i64 1))⟩,
    ⟨none, some 7, .mv (.tmp 10)⟩])
  (.blk 0 (.loop q [0, 6, 7] (ac81_L0 q))))
theorem ac81_ok (q : Option (Nat × Nat)) : compF Go.Proofs.Try.prog Go.Proofs.Try.f81 (ac81 q) = some (ac81 q, []) := by kernel_rfl
def ac82_L0 (q : Option (Nat × Nat)) : AC := .seq (.seq (.dr [(false, [(0, 0), (1, 0)], [⟨none, some 17, .mv (.tmp 7)⟩,
    ⟨none, some 18, .mv (.tmp 2)⟩]),
   (true, [(2, 0), (3, 0)], [⟨none, some 19, .bin .lss (.tmp 17) (.tmp 18)⟩,
    ⟨none, some 20, .mv (.tmp 19)⟩]),
   (false, [(4, 0), (5, 0), (6, 0), (7, 0), (8, 0), (9, 0), (10, 0), (11, 0), (12, 0)], [⟨some (20, true), some 21, .mv (.tmp 0)⟩,
    ⟨some (20, true), some 22, .mv (.tmp 7)⟩,
    ⟨some (20, true), some 23, .idx 1 (.tmp 21) (.tmp 22)⟩,
    ⟨some (20, true), some 24, .load (.tmp 23)⟩,
    ⟨some (20, true), some 25, .mv (.tmp 0)⟩,
    ⟨some (20, true), some 26, .mv (.tmp 7)⟩,
    ⟨some (20, true), some 27, .bin .sub (.tmp 26) (.const (.int .i64 1))⟩,
    ⟨some (20, true), some 28, .idx 1 (.tmp 25) (.tmp 27)⟩,
    ⟨some (20, true), some 29, .load (.tmp 28)⟩]),
   (true, [(13, 0), (14, 0), (15, 0)], [⟨some (20, true), some 30, .call 83 [.tmp 24, .tmp 29]⟩,
    ⟨some (20, true), some 31, .un .not (.tmp 30)⟩,
    ⟨none, some 32, .pick (.tmp 20) (.tmp 31) (.const (.bool false))⟩])])
  (.cond (.tmp 32) (.skip) (.exit 2)))
  (.blk 3 (.rg [⟨none, some 33, .mv (.tmp 7)⟩,
    ⟨none, some 34, .bin .add (.tmp 33) (.const (.int .i64 1))⟩,
    ⟨none, some 7, .mv (.tmp 34)⟩]))
def ac82_L1 (q : Option (Nat × Nat)) : AC := .seq (.seq (.rg [⟨none, some 64, .mv (.tmp 9)⟩,
    ⟨none, some 65, .bin .geq (.tmp 64) (.const (.int .i64 1))⟩])
  (.cond (.tmp 65) (.skip) (.exit 4)))
  (.seq (.blk 5 (.seq (.seq (.dr [(false, [(0, 0), (1, 0), (2, 0), (3, 0), (4, 0), (5, 0), (6, 0), (7, 0), (8, 0)], [⟨none, some 68, .mv (.tmp 0)⟩,
    ⟨none, some 69, .mv (.tmp 9)⟩,
    ⟨none, some 70, .idx 1 (.tmp 68) (.tmp 69)⟩,
    ⟨none, some 71, .load (.tmp 70)⟩,
    ⟨none, some 72, .mv (.tmp 0)⟩,
    ⟨none, some 73, .mv (.tmp 9)⟩,
    ⟨none, some 74, .bin .sub (.tmp 73) (.const (.int .i64 1))⟩,
    ⟨none, some 75, .idx 1 (.tmp 72) (.tmp 74)⟩,
    ⟨none, some 76, .load (.tmp 75)⟩]),
   (true, [(9, 0), (10, 0)], [⟨none, some 77, .call 83 [.tmp 71, .tmp 76]⟩,
    ⟨none, some 78, .un .not (.tmp 77)⟩])])
  (.cond (.tmp 78) (.exit 4) (.skip)))
  (.dr [(false, [(0, 0), (1, 0), (2, 0), (3, 0), (4, 0), (5, 0), (6, 0), (7, 0), (8, 0), (9, 0), (10, 0), (11, 0), (12, 0), (13, 0), (14, 0), (15, 1)], [⟨none, some 79, .mv (.tmp 0)⟩,
    ⟨none, some 80, .mv (.tmp 9)⟩,
    ⟨none, some 81, .mv (.tmp 0)⟩,
    ⟨none, some 82, .mv (.tmp 9)⟩,
    ⟨none, some 83, .bin .sub (.tmp 82) (.const (.int .i64 1))⟩,
    ⟨none, some 84, .mv (.tmp 0)⟩,
    ⟨none, some 85, .mv (.tmp 9)⟩,
    ⟨none, some 86, .bin .sub (.tmp 85) (.const (.int .i64 1))⟩,
    ⟨none, some 87, .idx 1 (.tmp 84) (.tmp 86)⟩,
    ⟨none, some 88, .load (.tmp 87)⟩,
    ⟨none, some 89, .mv (.tmp 0)⟩,
    ⟨none, some 90, .mv (.tmp 9)⟩,
    ⟨none, some 91, .idx 1 (.tmp 89) (.tmp 90)⟩,
    ⟨none, some 92, .load (.tmp 91)⟩,
    ⟨none, some 93, .idx 1 (.tmp 79) (.tmp 80)⟩,
    ⟨none, none, .store 1 (.tmp 93) (.tmp 88)⟩]),
   (true, [(16, 0), (17, 0)], [⟨none, some 94, .idx 1 (.tmp 81) (.tmp 83)⟩,
    ⟨none, none, .store 1 (.tmp 94) (.tmp 92)⟩])])))
  (.rg [⟨none, some 66, .mv (.tmp 9)⟩,
    ⟨none, some 67, .bin .sub (.tmp 66) (.const (.int .i64 1))⟩,
    ⟨none, some 9, .mv (.tmp 67)⟩]))
def ac82_L2 (q : Option (Nat × Nat)) : AC := .seq (.seq (.rg [⟨none, some 101, .mv (.tmp 10)⟩,
    ⟨none, some 102, .mv (.tmp 2)⟩,
    ⟨none, some 103, .bin .lss (.tmp 101) (.tmp 102)⟩])
  (.cond (.tmp 103) (.skip) (.exit 6)))
  (.seq (.blk 7 (.seq (.seq (.dr [(false, [(0, 0), (1, 0), (2, 0), (3, 0), (4, 0), (5, 0), (6, 0), (7, 0), (8, 0)], [⟨none, some 106, .mv (.tmp 0)⟩,
    ⟨none, some 107, .mv (.tmp 10)⟩,
    ⟨none, some 108, .idx 1 (.tmp 106) (.tmp 107)⟩,
    ⟨none, some 109, .load (.tmp 108)⟩,
    ⟨none, some 110, .mv (.tmp 0)⟩,
    ⟨none, some 111, .mv (.tmp 10)⟩,
    ⟨none, some 112, .bin .sub (.tmp 111) (.const (.int .i64 1))⟩,
    ⟨none, some 113, .idx 1 (.tmp 110) (.tmp 112)⟩,
    ⟨none, some 114, .load (.tmp 113)⟩]),
   (true, [(9, 0), (10, 0)], [⟨none, some 115, .call 83 [.tmp 109, .tmp 114]⟩,
    ⟨none, some 116, .un .not (.tmp 115)⟩])])
  (.cond (.tmp 116) (.exit 6) (.skip)))
  (.dr [(false, [(0, 0), (1, 0), (2, 0), (3, 0), (4, 0), (5, 0), (6, 0), (7, 0), (8, 0), (9, 0), (10, 0), (11, 0), (12, 0), (13, 0), (14, 0), (15, 1)], [⟨none, some 117, .mv (.tmp 0)⟩,
    ⟨none, some 118, .mv (.tmp 10)⟩,
    ⟨none, some 119, .mv (.tmp 0)⟩,
    ⟨none, some 120, .mv (.tmp 10)⟩,
    ⟨none, some 121, .bin .sub (.tmp 120) (.const (.int .i64 1))⟩,
    ⟨none, some 122, .mv (.tmp 0)⟩,
    ⟨none, some 123, .mv (.tmp 10)⟩,
    ⟨none, some 124, .bin .sub (.tmp 123) (.const (.int .i64 1))⟩,
    ⟨none, some 125, .idx 1 (.tmp 122) (.tmp 124)⟩,
    ⟨none, some 126, .load (.tmp 125)⟩,
    ⟨none, some 127, .mv (.tmp 0)⟩,
    ⟨none, some 128, .mv (.tmp 10)⟩,
    ⟨none, some 129, .idx 1 (.tmp 127) (.tmp 128)⟩,
    ⟨none, some 130, .load (.tmp 129)⟩,
    ⟨none, some 131, .idx 1 (.tmp 117) (.tmp 118)⟩,
    ⟨none, none, .store 1 (.tmp 131) (.tmp 126)⟩]),
   (true, [(16, 0), (17, 0)], [⟨none, some 132, .idx 1 (.tmp 119) (.tmp 121)⟩,
    ⟨none, none, .store 1 (.tmp 132) (.tmp 130)⟩])])))
  (.rg [⟨none, some 104, .mv (.tmp 10)⟩,
    ⟨none, some 105, .bin .add (.tmp 104) (.const (.int .i64 1))⟩,
    ⟨none, some 10, .mv (.tmp 105)⟩]))
def ac82_L3 (q : Option (Nat × Nat)) : AC := .seq (.seq (.rg [⟨none, some 13, .mv (.tmp 8)⟩,
    ⟨none, some 14, .bin .lss (.tmp 13) (.const (.int .i64 5))⟩])
  (.cond (.tmp 14) (.skip) (.exit 0)))
  (.seq (.blk 1 (.seq (.blk 2 (.loop q [0, 1, 2, 7, 8] (ac82_L0 q)))
  (.seq (.seq (.rg [⟨none, some 35, .mv (.tmp 7)⟩,
    ⟨none, some 36, .mv (.tmp 2)⟩,
    ⟨none, some 37, .bin .eql (.tmp 35) (.tmp 36)⟩])
  (.cond (.tmp 37) (.seq (.rg [⟨none, some 6, .mv (.const (.bool true))⟩])
  (.ret)) (.skip)))
  (.seq (.seq (.rg [⟨none, some 38, .mv (.tmp 2)⟩,
    ⟨none, some 39, .mv (.tmp 1)⟩,
    ⟨none, some 40, .bin .sub (.tmp 38) (.tmp 39)⟩,
    ⟨none, some 41, .bin .lss (.tmp 40) (.const (.int .i64 50))⟩])
  (.cond (.tmp 41) (.seq (.rg [⟨none, some 6, .mv (.const (.bool false))⟩])
  (.ret)) (.skip)))
  (.seq (.dr [(false, [(0, 0), (1, 0), (2, 0), (3, 0), (4, 0), (5, 0), (6, 0), (7, 0), (8, 0), (9, 0), (10, 0), (11, 0), (12, 0), (13, 0), (14, 0), (15, 1)], [⟨none, some 42, .mv (.tmp 0)⟩,
    ⟨none, some 43, .mv (.tmp 7)⟩,
    ⟨none, some 44, .mv (.tmp 0)⟩,
    ⟨none, some 45, .mv (.tmp 7)⟩,
    ⟨none, some 46, .bin .sub (.tmp 45) (.const (.int .i64 1))⟩,
    ⟨none, some 47, .mv (.tmp 0)⟩,
    ⟨none, some 48, .mv (.tmp 7)⟩,
    ⟨none, some 49, .bin .sub (.tmp 48) (.const (.int .i64 1))⟩,
    ⟨none, some 50, .idx 1 (.tmp 47) (.tmp 49)⟩,
    ⟨none, some 51, .load (.tmp 50)⟩,
    ⟨none, some 52, .mv (.tmp 0)⟩,
    ⟨none, some 53, .mv (.tmp 7)⟩,
    ⟨none, some 54, .idx 1 (.tmp 52) (.tmp 53)⟩,
    ⟨none, some 55, .load (.tmp 54)⟩,
    ⟨none, some 56, .idx 1 (.tmp 42) (.tmp 43)⟩,
    ⟨none, none, .store 1 (.tmp 56) (.tmp 51)⟩]),
   (true, [(16, 0), (17, 0)], [⟨none, some 57, .idx 1 (.tmp 44) (.tmp 46)⟩,
    ⟨none, none, .store 1 (.tmp 57) (.tmp 55)⟩])])
  (.seq (.seq (.rg [⟨none, some 58, .mv (.tmp 7)⟩,
    ⟨none, some 59, .mv (.tmp 1)⟩,
    ⟨none, some 60, .bin .sub (.tmp 58) (.tmp 59)⟩,
    ⟨none, some 61, .bin .geq (.tmp 60) (.const (.int .i64 2))⟩])
  (.cond (.tmp 61) (.seq (.rg [⟨none, some 62, .mv (.tmp 7)⟩,
    ⟨none, some 63, .bin .sub (.tmp 62) (.const (.int .i64 1))⟩,
    ⟨none, some 9, .mv (.tmp 63)⟩])
  (.blk 4 (.loop q [0, 1, 2, 7, 8, 9] (ac82_L1 q)))) (.skip)))
  (.seq (.rg [⟨none, some 95, .mv (.tmp 2)⟩,
    ⟨none, some 96, .mv (.tmp 7)⟩,
    ⟨none, some 97, .bin .sub (.tmp 95) (.tmp 96)⟩,
    ⟨none, some 98, .bin .geq (.tmp 97) (.const (.int .i64 2))⟩])
  (.cond (.tmp 98) (.seq (.rg [⟨none, some 99, .mv (.tmp 7)⟩,
    ⟨none, some 100, .bin .add (.tmp 99) (.const (.int .i64 1))⟩,
    ⟨none, some 10, .mv (.tmp 100)⟩])
  (.blk 6 (.loop q [0, 1, 2, 7, 8, 10] (ac82_L2 q)))) (.skip)))))))))
  (.rg [⟨none, some 15, .mv (.tmp 8)⟩,
    ⟨none, some 16, .bin .add (.tmp 15) (.const (.int .i64 1))⟩,
    ⟨none, some 8, .mv (.tmp 16)⟩]))
def ac82 (q : Option (Nat × Nat)) : AC := .seq (.rg [⟨none, some 6, .mv (.const (.bool false))⟩])
  (.seq (.rg [⟨none, some 11, .mv (.tmp 1)⟩,
    ⟨none, some 12, .bin .add (.tmp 11) (.const (.int .i64 1))⟩,
    ⟨none, some 7, .mv (.tmp 12)⟩])
  (.seq (.seq (.rg [⟨none, some 8, .mv (.const (.int .i64 0))⟩])
  (.blk 0 (.loop q [0, 1, 2, 7, 8] (ac82_L3 q))))
  (.seq (.rg [⟨none, some 6, .mv (.const (.bool false))⟩])
  (.ret))))
theorem ac82_ok (q : Option (Nat × Nat)) : compF Go.Proofs.Try.prog Go.Proofs.Try.f82 (ac82 q) = some (ac82 q, [.tmp 6]) := by kernel_rfl
def ac83 (q : Option (Nat × Nat)) : AC := .seq (.rg [⟨none, some 4, .mv (.const (.bool false))⟩])
  (.seq (.rg [⟨none, some 5, .mv (.tmp 0)⟩,
    ⟨none, some 6, .call 94 [.tmp 5]⟩,
    ⟨none, some 7, .mv (.tmp 6)⟩,
    ⟨some (7, true), some 8, .mv (.tmp 1)⟩,
    ⟨some (7, true), some 9, .call 94 [.tmp 8]⟩,
    ⟨some (7, true), some 10, .un .not (.tmp 9)⟩,
    ⟨none, some 11, .pick (.tmp 7) (.tmp 10) (.const (.bool false))⟩,
    ⟨none, some 12, .mv (.tmp 11)⟩,
    ⟨some (12, false), some 13, .mv (.tmp 0)⟩,
    ⟨some (12, false), some 14, .mv (.tmp 1)⟩,
    ⟨some (12, false), some 15, .bin .lss (.tmp 13) (.tmp 14)⟩,
    ⟨none, some 16, .pick (.tmp 12) (.const (.bool true)) (.tmp 15)⟩,
    ⟨none, some 4, .mv (.tmp 16)⟩])
  (.ret))
theorem ac83_ok (q : Option (Nat × Nat)) : compF Go.Proofs.Try.prog Go.Proofs.Try.f83 (ac83 q) = some (ac83 q, [.tmp 4]) := by kernel_rfl
def ac84_L0 (q : Option (Nat × Nat)) : AC := .seq (.seq (.dr [(false, [(0, 0), (1, 0)], [⟨none, some 29, .mv (.tmp 9)⟩,
    ⟨none, some 30, .mv (.tmp 10)⟩]),
   (true, [(2, 0), (3, 0)], [⟨none, some 31, .bin .leq (.tmp 29) (.tmp 30)⟩,
    ⟨none, some 32, .mv (.tmp 31)⟩]),
   (false, [(4, 0), (5, 0), (6, 0), (7, 0), (8, 0), (9, 0), (10, 0), (11, 0)], [⟨some (32, true), some 33, .mv (.tmp 0)⟩,
    ⟨some (32, true), some 34, .mv (.tmp 1)⟩,
    ⟨some (32, true), some 35, .idx 1 (.tmp 33) (.tmp 34)⟩,
    ⟨some (32, true), some 36, .load (.tmp 35)⟩,
    ⟨some (32, true), some 37, .mv (.tmp 0)⟩,
    ⟨some (32, true), some 38, .mv (.tmp 9)⟩,
    ⟨some (32, true), some 39, .idx 1 (.tmp 37) (.tmp 38)⟩,
    ⟨some (32, true), some 40, .load (.tmp 39)⟩]),
   (true, [(12, 0), (13, 0), (14, 0)], [⟨some (32, true), some 41, .call 83 [.tmp 36, .tmp 40]⟩,
    ⟨some (32, true), some 42, .un .not (.tmp 41)⟩,
    ⟨none, some 43, .pick (.tmp 32) (.tmp 42) (.const (.bool false))⟩])])
  (.cond (.tmp 43) (.skip) (.exit 2)))
  (.blk 3 (.rg [⟨none, some 44, .mv (.tmp 9)⟩,
    ⟨none, some 45, .bin .add (.tmp 44) (.const (.int .i64 1))⟩,
    ⟨none, some 9, .mv (.tmp 45)⟩]))
def ac84_L1 (q : Option (Nat × Nat)) : AC := .seq (.seq (.dr [(false, [(0, 0), (1, 0)], [⟨none, some 46, .mv (.tmp 9)⟩,
    ⟨none, some 47, .mv (.tmp 10)⟩]),
   (true, [(2, 0), (3, 0)], [⟨none, some 48, .bin .leq (.tmp 46) (.tmp 47)⟩,
    ⟨none, some 49, .mv (.tmp 48)⟩]),
   (false, [(4, 0), (5, 0), (6, 0), (7, 0), (8, 0), (9, 0), (10, 0), (11, 0)], [⟨some (49, true), some 50, .mv (.tmp 0)⟩,
    ⟨some (49, true), some 51, .mv (.tmp 1)⟩,
    ⟨some (49, true), some 52, .idx 1 (.tmp 50) (.tmp 51)⟩,
    ⟨some (49, true), some 53, .load (.tmp 52)⟩,
    ⟨some (49, true), some 54, .mv (.tmp 0)⟩,
    ⟨some (49, true), some 55, .mv (.tmp 10)⟩,
    ⟨some (49, true), some 56, .idx 1 (.tmp 54) (.tmp 55)⟩,
    ⟨some (49, true), some 57, .load (.tmp 56)⟩]),
   (true, [(12, 0), (13, 0)], [⟨some (49, true), some 58, .call 83 [.tmp 53, .tmp 57]⟩,
    ⟨none, some 59, .pick (.tmp 49) (.tmp 58) (.const (.bool false))⟩])])
  (.cond (.tmp 59) (.skip) (.exit 4)))
  (.blk 5 (.rg [⟨none, some 60, .mv (.tmp 10)⟩,
    ⟨none, some 61, .bin .sub (.tmp 60) (.const (.int .i64 1))⟩,
    ⟨none, some 10, .mv (.tmp 61)⟩]))
def ac84_L2 (q : Option (Nat × Nat)) : AC := .blk 1 (.seq (.blk 2 (.loop q [0, 1, 9, 10] (ac84_L0 q)))
  (.seq (.blk 4 (.loop q [0, 1, 9, 10] (ac84_L1 q)))
  (.seq (.seq (.rg [⟨none, some 62, .mv (.tmp 9)⟩,
    ⟨none, some 63, .mv (.tmp 10)⟩,
    ⟨none, some 64, .bin .gtr (.tmp 62) (.tmp 63)⟩])
  (.cond (.tmp 64) (.exit 0) (.skip)))
  (.seq (.dr [(false, [(0, 0), (1, 0), (2, 0), (3, 0), (4, 0), (5, 0), (6, 0), (7, 0), (8, 0), (9, 0), (10, 0), (11, 0), (12, 0), (13, 1)], [⟨none, some 65, .mv (.tmp 0)⟩,
    ⟨none, some 66, .mv (.tmp 9)⟩,
    ⟨none, some 67, .mv (.tmp 0)⟩,
    ⟨none, some 68, .mv (.tmp 10)⟩,
    ⟨none, some 69, .mv (.tmp 0)⟩,
    ⟨none, some 70, .mv (.tmp 10)⟩,
    ⟨none, some 71, .idx 1 (.tmp 69) (.tmp 70)⟩,
    ⟨none, some 72, .load (.tmp 71)⟩,
    ⟨none, some 73, .mv (.tmp 0)⟩,
    ⟨none, some 74, .mv (.tmp 9)⟩,
    ⟨none, some 75, .idx 1 (.tmp 73) (.tmp 74)⟩,
    ⟨none, some 76, .load (.tmp 75)⟩,
    ⟨none, some 77, .idx 1 (.tmp 65) (.tmp 66)⟩,
    ⟨none, none, .store 1 (.tmp 77) (.tmp 72)⟩]),
   (true, [(14, 0), (15, 0)], [⟨none, some 78, .idx 1 (.tmp 67) (.tmp 68)⟩,
    ⟨none, none, .store 1 (.tmp 78) (.tmp 76)⟩])])
  (.seq (.rg [⟨none, some 79, .mv (.tmp 9)⟩,
    ⟨none, some 80, .bin .add (.tmp 79) (.const (.int .i64 1))⟩,
    ⟨none, some 9, .mv (.tmp 80)⟩])
  (.rg [⟨none, some 81, .mv (.tmp 10)⟩,
    ⟨none, some 82, .bin .sub (.tmp 81) (.const (.int .i64 1))⟩,
    ⟨none, some 10, .mv (.tmp 82)⟩]))))))
def ac84 (q : Option (Nat × Nat)) : AC := .seq (.rg [⟨none, some 8, .mv (.const (.int .i64 0))⟩])
  (.seq (.dr [(false, [(0, 0), (1, 0), (2, 0), (3, 0), (4, 0), (5, 0), (6, 0), (7, 0), (8, 0), (9, 0), (10, 0), (11, 0), (12, 0), (13, 1)], [⟨none, some 11, .mv (.tmp 0)⟩,
    ⟨none, some 12, .mv (.tmp 1)⟩,
    ⟨none, some 13, .mv (.tmp 0)⟩,
    ⟨none, some 14, .mv (.tmp 3)⟩,
    ⟨none, some 15, .mv (.tmp 0)⟩,
    ⟨none, some 16, .mv (.tmp 3)⟩,
    ⟨none, some 17, .idx 1 (.tmp 15) (.tmp 16)⟩,
    ⟨none, some 18, .load (.tmp 17)⟩,
    ⟨none, some 19, .mv (.tmp 0)⟩,
    ⟨none, some 20, .mv (.tmp 1)⟩,
    ⟨none, some 21, .idx 1 (.tmp 19) (.tmp 20)⟩,
    ⟨none, some 22, .load (.tmp 21)⟩,
    ⟨none, some 23, .idx 1 (.tmp 11) (.tmp 12)⟩,
    ⟨none, none, .store 1 (.tmp 23) (.tmp 18)⟩]),
   (true, [(14, 0), (15, 0)], [⟨none, some 24, .idx 1 (.tmp 13) (.tmp 14)⟩,
    ⟨none, none, .store 1 (.tmp 24) (.tmp 22)⟩])])
  (.seq (.rg [⟨none, some 25, .mv (.tmp 1)⟩,
    ⟨none, some 26, .bin .add (.tmp 25) (.const (.int .i64 1))⟩,
    ⟨none, some 27, .mv (.tmp 2)⟩,
    ⟨none, some 28, .bin .sub (.tmp 27) (.const (.int .i64 1))⟩,
    ⟨none, some 9, .mv (.tmp 26)⟩,
    ⟨none, some 10, .mv (.tmp 28)⟩])
  (.seq (.blk 0 (.loop q [0, 1, 9, 10] (ac84_L2 q)))
  (.seq (.rg [⟨none, some 83, .mv (.tmp 9)⟩,
    ⟨none, some 8, .mv (.tmp 83)⟩])
  (.ret)))))
theorem ac84_ok (q : Option (Nat × Nat)) : compF Go.Proofs.Try.prog Go.Proofs.Try.f84 (ac84 q) = some (ac84 q, [.tmp 8]) := by kernel_rfl
def ac85_L0 (q : Option (Nat × Nat)) : AC := .seq (.seq (.dr [(false, [(0, 0), (1, 0)], [⟨none, some 30, .mv (.tmp 10)⟩,
    ⟨none, some 31, .mv (.tmp 11)⟩]),
   (true, [(2, 0), (3, 0)], [⟨none, some 32, .bin .leq (.tmp 30) (.tmp 31)⟩,
    ⟨none, some 33, .mv (.tmp 32)⟩]),
   (false, [(4, 0), (5, 0), (6, 0), (7, 0), (8, 0), (9, 0), (10, 0), (11, 0)], [⟨some (33, true), some 34, .mv (.tmp 0)⟩,
    ⟨some (33, true), some 35, .mv (.tmp 10)⟩,
    ⟨some (33, true), some 36, .idx 1 (.tmp 34) (.tmp 35)⟩,
    ⟨some (33, true), some 37, .load (.tmp 36)⟩,
    ⟨some (33, true), some 38, .mv (.tmp 0)⟩,
    ⟨some (33, true), some 39, .mv (.tmp 1)⟩,
    ⟨some (33, true), some 40, .idx 1 (.tmp 38) (.tmp 39)⟩,
    ⟨some (33, true), some 41, .load (.tmp 40)⟩]),
   (true, [(12, 0), (13, 0)], [⟨some (33, true), some 42, .call 83 [.tmp 37, .tmp 41]⟩,
    ⟨none, some 43, .pick (.tmp 33) (.tmp 42) (.const (.bool false))⟩])])
  (.cond (.tmp 43) (.skip) (.exit 0)))
  (.blk 1 (.rg [⟨none, some 44, .mv (.tmp 10)⟩,
    ⟨none, some 45, .bin .add (.tmp 44) (.const (.int .i64 1))⟩,
    ⟨none, some 10, .mv (.tmp 45)⟩]))
def ac85_L1 (q : Option (Nat × Nat)) : AC := .seq (.seq (.dr [(false, [(0, 0), (1, 0)], [⟨none, some 46, .mv (.tmp 10)⟩,
    ⟨none, some 47, .mv (.tmp 11)⟩]),
   (true, [(2, 0), (3, 0)], [⟨none, some 48, .bin .leq (.tmp 46) (.tmp 47)⟩,
    ⟨none, some 49, .mv (.tmp 48)⟩]),
   (false, [(4, 0), (5, 0), (6, 0), (7, 0), (8, 0), (9, 0), (10, 0), (11, 0)], [⟨some (49, true), some 50, .mv (.tmp 0)⟩,
    ⟨some (49, true), some 51, .mv (.tmp 11)⟩,
    ⟨some (49, true), some 52, .idx 1 (.tmp 50) (.tmp 51)⟩,
    ⟨some (49, true), some 53, .load (.tmp 52)⟩,
    ⟨some (49, true), some 54, .mv (.tmp 0)⟩,
    ⟨some (49, true), some 55, .mv (.tmp 1)⟩,
    ⟨some (49, true), some 56, .idx 1 (.tmp 54) (.tmp 55)⟩,
    ⟨some (49, true), some 57, .load (.tmp 56)⟩]),
   (true, [(12, 0), (13, 0), (14, 0)], [⟨some (49, true), some 58, .call 83 [.tmp 53, .tmp 57]⟩,
    ⟨some (49, true), some 59, .un .not (.tmp 58)⟩,
    ⟨none, some 60, .pick (.tmp 49) (.tmp 59) (.const (.bool false))⟩])])
  (.cond (.tmp 60) (.skip) (.exit 2)))
  (.blk 3 (.rg [⟨none, some 61, .mv (.tmp 11)⟩,
    ⟨none, some 62, .bin .sub (.tmp 61) (.const (.int .i64 1))⟩,
    ⟨none, some 11, .mv (.tmp 62)⟩]))
def ac85_L2 (q : Option (Nat × Nat)) : AC := .seq (.seq (.dr [(false, [(0, 0), (1, 0)], [⟨none, some 99, .mv (.tmp 10)⟩,
    ⟨none, some 100, .mv (.tmp 11)⟩]),
   (true, [(2, 0), (3, 0)], [⟨none, some 101, .bin .leq (.tmp 99) (.tmp 100)⟩,
    ⟨none, some 102, .mv (.tmp 101)⟩]),
   (false, [(4, 0), (5, 0), (6, 0), (7, 0), (8, 0), (9, 0), (10, 0), (11, 0)], [⟨some (102, true), some 103, .mv (.tmp 0)⟩,
    ⟨some (102, true), some 104, .mv (.tmp 10)⟩,
    ⟨some (102, true), some 105, .idx 1 (.tmp 103) (.tmp 104)⟩,
    ⟨some (102, true), some 106, .load (.tmp 105)⟩,
    ⟨some (102, true), some 107, .mv (.tmp 0)⟩,
    ⟨some (102, true), some 108, .mv (.tmp 1)⟩,
    ⟨some (102, true), some 109, .idx 1 (.tmp 107) (.tmp 108)⟩,
    ⟨some (102, true), some 110, .load (.tmp 109)⟩]),
   (true, [(12, 0), (13, 0)], [⟨some (102, true), some 111, .call 83 [.tmp 106, .tmp 110]⟩,
    ⟨none, some 112, .pick (.tmp 102) (.tmp 111) (.const (.bool false))⟩])])
  (.cond (.tmp 112) (.skip) (.exit 6)))
  (.blk 7 (.rg [⟨none, some 113, .mv (.tmp 10)⟩,
    ⟨none, some 114, .bin .add (.tmp 113) (.const (.int .i64 1))⟩,
    ⟨none, some 10, .mv (.tmp 114)⟩]))
def ac85_L3 (q : Option (Nat × Nat)) : AC := .seq (.seq (.dr [(false, [(0, 0), (1, 0)], [⟨none, some 115, .mv (.tmp 10)⟩,
    ⟨none, some 116, .mv (.tmp 11)⟩]),
   (true, [(2, 0), (3, 0)], [⟨none, some 117, .bin .leq (.tmp 115) (.tmp 116)⟩,
    ⟨none, some 118, .mv (.tmp 117)⟩]),
   (false, [(4, 0), (5, 0), (6, 0), (7, 0), (8, 0), (9, 0), (10, 0), (11, 0)], [⟨some (118, true), some 119, .mv (.tmp 0)⟩,
    ⟨some (118, true), some 120, .mv (.tmp 11)⟩,
    ⟨some (118, true), some 121, .idx 1 (.tmp 119) (.tmp 120)⟩,
    ⟨some (118, true), some 122, .load (.tmp 121)⟩,
    ⟨some (118, true), some 123, .mv (.tmp 0)⟩,
    ⟨some (118, true), some 124, .mv (.tmp 1)⟩,
    ⟨some (118, true), some 125, .idx 1 (.tmp 123) (.tmp 124)⟩,
    ⟨some (118, true), some 126, .load (.tmp 125)⟩]),
   (true, [(12, 0), (13, 0), (14, 0)], [⟨some (118, true), some 127, .call 83 [.tmp 122, .tmp 126]⟩,
    ⟨some (118, true), some 128, .un .not (.tmp 127)⟩,
    ⟨none, some 129, .pick (.tmp 118) (.tmp 128) (.const (.bool false))⟩])])
  (.cond (.tmp 129) (.skip) (.exit 8)))
  (.blk 9 (.rg [⟨none, some 130, .mv (.tmp 11)⟩,
    ⟨none, some 131, .bin .sub (.tmp 130) (.const (.int .i64 1))⟩,
    ⟨none, some 11, .mv (.tmp 131)⟩]))
def ac85_L4 (q : Option (Nat × Nat)) : AC := .blk 5 (.seq (.blk 6 (.loop q [0, 1, 10, 11] (ac85_L2 q)))
  (.seq (.blk 8 (.loop q [0, 1, 10, 11] (ac85_L3 q)))
  (.seq (.seq (.rg [⟨none, some 132, .mv (.tmp 10)⟩,
    ⟨none, some 133, .mv (.tmp 11)⟩,
    ⟨none, some 134, .bin .gtr (.tmp 132) (.tmp 133)⟩])
  (.cond (.tmp 134) (.exit 4) (.skip)))
  (.seq (.dr [(false, [(0, 0), (1, 0), (2, 0), (3, 0), (4, 0), (5, 0), (6, 0), (7, 0), (8, 0), (9, 0), (10, 0), (11, 0), (12, 0), (13, 1)], [⟨none, some 135, .mv (.tmp 0)⟩,
    ⟨none, some 136, .mv (.tmp 10)⟩,
    ⟨none, some 137, .mv (.tmp 0)⟩,
    ⟨none, some 138, .mv (.tmp 11)⟩,
    ⟨none, some 139, .mv (.tmp 0)⟩,
    ⟨none, some 140, .mv (.tmp 11)⟩,
    ⟨none, some 141, .idx 1 (.tmp 139) (.tmp 140)⟩,
    ⟨none, some 142, .load (.tmp 141)⟩,
    ⟨none, some 143, .mv (.tmp 0)⟩,
    ⟨none, some 144, .mv (.tmp 10)⟩,
    ⟨none, some 145, .idx 1 (.tmp 143) (.tmp 144)⟩,
    ⟨none, some 146, .load (.tmp 145)⟩,
    ⟨none, some 147, .idx 1 (.tmp 135) (.tmp 136)⟩,
    ⟨none, none, .store 1 (.tmp 147) (.tmp 142)⟩]),
   (true, [(14, 0), (15, 0)], [⟨none, some 148, .idx 1 (.tmp 137) (.tmp 138)⟩,
    ⟨none, none, .store 1 (.tmp 148) (.tmp 146)⟩])])
  (.seq (.rg [⟨none, some 149, .mv (.tmp 10)⟩,
    ⟨none, some 150, .bin .add (.tmp 149) (.const (.int .i64 1))⟩,
    ⟨none, some 10, .mv (.tmp 150)⟩])
  (.rg [⟨none, some 151, .mv (.tmp 11)⟩,
    ⟨none, some 152, .bin .sub (.tmp 151) (.const (.int .i64 1))⟩,
    ⟨none, some 11, .mv (.tmp 152)⟩]))))))
def ac85 (q : Option (Nat × Nat)) : AC := .seq (.rg [⟨none, some 8, .mv (.const (.int .i64 0))⟩,
    ⟨none, some 9, .mv (.const (.bool false))⟩])
  (.seq (.dr [(false, [(0, 0), (1, 0), (2, 0), (3, 0), (4, 0), (5, 0), (6, 0), (7, 0), (8, 0), (9, 0), (10, 0), (11, 0), (12, 0), (13, 1)], [⟨none, some 12, .mv (.tmp 0)⟩,
    ⟨none, some 13, .mv (.tmp 1)⟩,
    ⟨none, some 14, .mv (.tmp 0)⟩,
    ⟨none, some 15, .mv (.tmp 3)⟩,
    ⟨none, some 16, .mv (.tmp 0)⟩,
    ⟨none, some 17, .mv (.tmp 3)⟩,
    ⟨none, some 18, .idx 1 (.tmp 16) (.tmp 17)⟩,
    ⟨none, some 19, .load (.tmp 18)⟩,
    ⟨none, some 20, .mv (.tmp 0)⟩,
    ⟨none, some 21, .mv (.tmp 1)⟩,
    ⟨none, some 22, .idx 1 (.tmp 20) (.tmp 21)⟩,
    ⟨none, some 23, .load (.tmp 22)⟩,
    ⟨none, some 24, .idx 1 (.tmp 12) (.tmp 13)⟩,
    ⟨none, none, .store 1 (.tmp 24) (.tmp 19)⟩]),
   (true, [(14, 0), (15, 0)], [⟨none, some 25, .idx 1 (.tmp 14) (.tmp 15)⟩,
    ⟨none, none, .store 1 (.tmp 25) (.tmp 23)⟩])])
  (.seq (.rg [⟨none, some 26, .mv (.tmp 1)⟩,
    ⟨none, some 27, .bin .add (.tmp 26) (.const (.int .i64 1))⟩,
    ⟨none, some 28, .mv (.tmp 2)⟩,
    ⟨none, some 29, .bin .sub (.tmp 28) (.const (.int .i64 1))⟩,
    ⟨none, some 10, .mv (.tmp 27)⟩,
    ⟨none, some 11, .mv (.tmp 29)⟩])
  (.seq (.blk 0 (.loop q [0, 1, 10, 11] (ac85_L0 q)))
  (.seq (.blk 2 (.loop q [0, 1, 10, 11] (ac85_L1 q)))
  (.seq (.seq (.rg [⟨none, some 63, .mv (.tmp 10)⟩,
    ⟨none, some 64, .mv (.tmp 11)⟩,
    ⟨none, some 65, .bin .gtr (.tmp 63) (.tmp 64)⟩])
  (.cond (.tmp 65) (.seq (.dr [(false, [(0, 0), (1, 0), (2, 0), (3, 0), (4, 0), (5, 0), (6, 0), (7, 0), (8, 0), (9, 0), (10, 0), (11, 0), (12, 0), (13, 1)], [⟨none, some 66, .mv (.tmp 0)⟩,
    ⟨none, some 67, .mv (.tmp 11)⟩,
    ⟨none, some 68, .mv (.tmp 0)⟩,
    ⟨none, some 69, .mv (.tmp 1)⟩,
    ⟨none, some 70, .mv (.tmp 0)⟩,
    ⟨none, some 71, .mv (.tmp 1)⟩,
    ⟨none, some 72, .idx 1 (.tmp 70) (.tmp 71)⟩,
    ⟨none, some 73, .load (.tmp 72)⟩,
    ⟨none, some 74, .mv (.tmp 0)⟩,
    ⟨none, some 75, .mv (.tmp 11)⟩,
    ⟨none, some 76, .idx 1 (.tmp 74) (.tmp 75)⟩,
    ⟨none, some 77, .load (.tmp 76)⟩,
    ⟨none, some 78, .idx 1 (.tmp 66) (.tmp 67)⟩,
    ⟨none, none, .store 1 (.tmp 78) (.tmp 73)⟩]),
   (true, [(14, 0), (15, 0)], [⟨none, some 79, .idx 1 (.tmp 68) (.tmp 69)⟩,
    ⟨none, none, .store 1 (.tmp 79) (.tmp 77)⟩])])
  (.seq (.rg [⟨none, some 80, .mv (.tmp 11)⟩,
    ⟨none, some 8, .mv (.tmp 80)⟩,
    ⟨none, some 9, .mv (.const (.bool true))⟩])
  (.ret))) (.skip)))
  (.seq (.dr [(false, [(0, 0), (1, 0), (2, 0), (3, 0), (4, 0), (5, 0), (6, 0), (7, 0), (8, 0), (9, 0), (10, 0), (11, 0), (12, 0), (13, 1)], [⟨none, some 81, .mv (.tmp 0)⟩,
    ⟨none, some 82, .mv (.tmp 10)⟩,
    ⟨none, some 83, .mv (.tmp 0)⟩,
    ⟨none, some 84, .mv (.tmp 11)⟩,
    ⟨none, some 85, .mv (.tmp 0)⟩,
    ⟨none, some 86, .mv (.tmp 11)⟩,
    ⟨none, some 87, .idx 1 (.tmp 85) (.tmp 86)⟩,
    ⟨none, some 88, .load (.tmp 87)⟩,
    ⟨none, some 89, .mv (.tmp 0)⟩,
    ⟨none, some 90, .mv (.tmp 10)⟩,
    ⟨none, some 91, .idx 1 (.tmp 89) (.tmp 90)⟩,
    ⟨none, some 92, .load (.tmp 91)⟩,
    ⟨none, some 93, .idx 1 (.tmp 81) (.tmp 82)⟩,
    ⟨none, none, .store 1 (.tmp 93) (.tmp 88)⟩]),
   (true, [(14, 0), (15, 0)], [⟨none, some 94, .idx 1 (.tmp 83) (.tmp 84)⟩,
    ⟨none, none, .store 1 (.tmp 94) (.tmp 92)⟩])])
  (.seq (.rg [⟨none, some 95, .mv (.tmp 10)⟩,
    ⟨none, some 96, .bin .add (.tmp 95) (.const (.int .i64 1))⟩,
    ⟨none, some 10, .mv (.tmp 96)⟩])
  (.seq (.rg [⟨none, some 97, .mv (.tmp 11)⟩,
    ⟨none, some 98, .bin .sub (.tmp 97) (.const (.int .i64 1))⟩,
    ⟨none, some 11, .mv (.tmp 98)⟩])
  (.seq (.blk 4 (.loop q [0, 1, 10, 11] (ac85_L4 q)))
  (.seq (.dr [(false, [(0, 0), (1, 0), (2, 0), (3, 0), (4, 0), (5, 0), (6, 0), (7, 0), (8, 0), (9, 0), (10, 0), (11, 0), (12, 0), (13, 1)], [⟨none, some 153, .mv (.tmp 0)⟩,
    ⟨none, some 154, .mv (.tmp 11)⟩,
    ⟨none, some 155, .mv (.tmp 0)⟩,
    ⟨none, some 156, .mv (.tmp 1)⟩,
    ⟨none, some 157, .mv (.tmp 0)⟩,
    ⟨none, some 158, .mv (.tmp 1)⟩,
    ⟨none, some 159, .idx 1 (.tmp 157) (.tmp 158)⟩,
    ⟨none, some 160, .load (.tmp 159)⟩,
    ⟨none, some 161, .mv (.tmp 0)⟩,
    ⟨none, some 162, .mv (.tmp 11)⟩,
    ⟨none, some 163, .idx 1 (.tmp 161) (.tmp 162)⟩,
    ⟨none, some 164, .load (.tmp 163)⟩,
    ⟨none, some 165, .idx 1 (.tmp 153) (.tmp 154)⟩,
    ⟨none, none, .store 1 (.tmp 165) (.tmp 160)⟩]),
   (true, [(14, 0), (15, 0)], [⟨none, some 166, .idx 1 (.tmp 155) (.tmp 156)⟩,
    ⟨none, none, .store 1 (.tmp 166) (.tmp 164)⟩])])
  (.seq (.rg [⟨none, some 167, .mv (.tmp 11)⟩,
    ⟨none, some 8, .mv (.tmp 167)⟩,
    ⟨none, some 9, .mv (.const (.bool false))⟩])
  (.ret))))))))))))
theorem ac85_ok (q : Option (Nat × Nat)) : compF Go.Proofs.Try.prog Go.Proofs.Try.f85 (ac85 q) = some (ac85 q, [.tmp 8, .tmp 9]) := by kernel_rfl
def ac88_L0 (q : Option (Nat × Nat)) : AC := .seq (.rg [⟨none, some 9, .bin .lss (.tmp 8) (.tmp 7)⟩])
  (.seq (.cond (.tmp 9) (.skip) (.exit 0))
  (.seq (.blk 1 (.seq (.rg [⟨none, some 10, .mv (.tmp 8)⟩,
    ⟨none, some 5, .mv (.tmp 10)⟩])
  (.seq (.rg [⟨none, some 11, .mv (.tmp 1)⟩,
    ⟨none, some 12, .mv (.tmp 0)⟩,
    ⟨none, some 13, .mv (.tmp 5)⟩,
    ⟨none, some 14, .idx 1 (.tmp 12) (.tmp 13)⟩,
    ⟨none, some 15, .load (.tmp 14)⟩,
    ⟨none, some 16, .callv (.tmp 11) [.tmp 15]⟩])
  (.cond (.tmp 16) (.seq (.rg [⟨none, some 17, .mv (.tmp 5)⟩,
    ⟨none, some 4, .mv (.tmp 17)⟩])
  (.ret)) (.skip)))))
  (.rg [⟨none, some 18, .bin .add (.tmp 8) (.const (.int .i64 1))⟩,
    ⟨none, some 8, .mv (.tmp 18)⟩])))
def ac88 (q : Option (Nat × Nat)) : AC := .seq (.rg [⟨none, some 4, .mv (.const (.int .i64 0))⟩])
  (.seq (.seq (.rg [⟨none, some 6, .mv (.tmp 0)⟩,
    ⟨none, some 7, .len (.tmp 6)⟩,
    ⟨none, some 8, .mv (.const (.int .i64 0))⟩])
  (.blk 0 (.loop q [0, 1, 7, 8] (ac88_L0 q))))
  (.seq (.rg [⟨none, some 4, .mv (.const (.int .i64 (-1)))⟩])
  (.ret)))
theorem ac88_ok (q : Option (Nat × Nat)) : compF Go.Proofs.Try.prog Go.Proofs.Try.f88 (ac88 q) = some (ac88 q, [.tmp 4]) := by kernel_rfl
def ac89_L0 (q : Option (Nat × Nat)) : AC := .blk 1 (.seq (.rg [⟨none, some 11, .mv (.tmp 8)⟩,
    ⟨none, some 12, .bin .mul (.const (.int .i64 2)) (.tmp 11)⟩,
    ⟨none, some 13, .bin .add (.tmp 12) (.const (.int .i64 1))⟩,
    ⟨none, some 9, .mv (.tmp 13)⟩])
  (.seq (.seq (.rg [⟨none, some 14, .mv (.tmp 9)⟩,
    ⟨none, some 15, .mv (.tmp 2)⟩,
    ⟨none, some 16, .bin .geq (.tmp 14) (.tmp 15)⟩])
  (.cond (.tmp 16) (.exit 0) (.skip)))
  (.seq (.seq (.dr [(false, [(0, 0), (1, 0), (2, 0)], [⟨none, some 17, .mv (.tmp 9)⟩,
    ⟨none, some 18, .bin .add (.tmp 17) (.const (.int .i64 1))⟩,
    ⟨none, some 19, .mv (.tmp 2)⟩]),
   (true, [(3, 0), (4, 0)], [⟨none, some 20, .bin .lss (.tmp 18) (.tmp 19)⟩,
    ⟨none, some 21, .mv (.tmp 20)⟩]),
   (false, [(5, 0), (6, 0), (7, 0), (8, 0), (9, 0), (10, 0), (11, 0), (12, 0), (13, 0), (14, 0), (15, 0), (16, 0), (17, 0)], [⟨some (21, true), some 22, .mv (.tmp 0)⟩,
    ⟨some (21, true), some 23, .mv (.tmp 3)⟩,
    ⟨some (21, true), some 24, .mv (.tmp 9)⟩,
    ⟨some (21, true), some 25, .bin .add (.tmp 23) (.tmp 24)⟩,
    ⟨some (21, true), some 26, .idx 1 (.tmp 22) (.tmp 25)⟩,
    ⟨some (21, true), some 27, .load (.tmp 26)⟩,
    ⟨some (21, true), some 28, .mv (.tmp 0)⟩,
    ⟨some (21, true), some 29, .mv (.tmp 3)⟩,
    ⟨some (21, true), some 30, .mv (.tmp 9)⟩,
    ⟨some (21, true), some 31, .bin .add (.tmp 29) (.tmp 30)⟩,
    ⟨some (21, true), some 32, .bin .add (.tmp 31) (.const (.int .i64 1))⟩,
    ⟨some (21, true), some 33, .idx 1 (.tmp 28) (.tmp 32)⟩,
    ⟨some (21, true), some 34, .load (.tmp 33)⟩]),
   (true, [(18, 0), (19, 0)], [⟨some (21, true), some 35, .call 83 [.tmp 27, .tmp 34]⟩,
    ⟨none, some 36, .pick (.tmp 21) (.tmp 35) (.const (.bool false))⟩])])
  (.cond (.tmp 36) (.rg [⟨none, some 37, .mv (.tmp 9)⟩,
    ⟨none, some 38, .bin .add (.tmp 37) (.const (.int .i64 1))⟩,
    ⟨none, some 9, .mv (.tmp 38)⟩]) (.skip)))
  (.seq (.seq (.dr [(false, [(0, 0), (1, 0), (2, 0), (3, 0), (4, 0), (5, 0), (6, 0), (7, 0), (8, 0), (9, 0), (10, 0), (11, 0)], [⟨none, some 39, .mv (.tmp 0)⟩,
    ⟨none, some 40, .mv (.tmp 3)⟩,
    ⟨none, some 41, .mv (.tmp 8)⟩,
    ⟨none, some 42, .bin .add (.tmp 40) (.tmp 41)⟩,
    ⟨none, some 43, .idx 1 (.tmp 39) (.tmp 42)⟩,
    ⟨none, some 44, .load (.tmp 43)⟩,
    ⟨none, some 45, .mv (.tmp 0)⟩,
    ⟨none, some 46, .mv (.tmp 3)⟩,
    ⟨none, some 47, .mv (.tmp 9)⟩,
    ⟨none, some 48, .bin .add (.tmp 46) (.tmp 47)⟩,
    ⟨none, some 49, .idx 1 (.tmp 45) (.tmp 48)⟩,
    ⟨none, some 50, .load (.tmp 49)⟩]),
   (true, [(12, 0), (13, 0)], [⟨none, some 51, .call 83 [.tmp 44, .tmp 50]⟩,
    ⟨none, some 52, .un .not (.tmp 51)⟩])])
  (.cond (.tmp 52) (.ret) (.skip)))
  (.seq (.dr [(false, [(0, 0), (1, 0), (2, 0), (3, 0), (4, 0), (5, 0), (6, 0), (7, 0), (8, 0), (9, 0), (10, 0), (11, 0), (12, 0), (13, 0), (14, 0), (15, 0), (16, 0), (17, 0), (18, 0), (19, 0), (20, 0), (21, 1)], [⟨none, some 53, .mv (.tmp 0)⟩,
    ⟨none, some 54, .mv (.tmp 3)⟩,
    ⟨none, some 55, .mv (.tmp 8)⟩,
    ⟨none, some 56, .bin .add (.tmp 54) (.tmp 55)⟩,
    ⟨none, some 57, .mv (.tmp 0)⟩,
    ⟨none, some 58, .mv (.tmp 3)⟩,
    ⟨none, some 59, .mv (.tmp 9)⟩,
    ⟨none, some 60, .bin .add (.tmp 58) (.tmp 59)⟩,
    ⟨none, some 61, .mv (.tmp 0)⟩,
    ⟨none, some 62, .mv (.tmp 3)⟩,
    ⟨none, some 63, .mv (.tmp 9)⟩,
    ⟨none, some 64, .bin .add (.tmp 62) (.tmp 63)⟩,
    ⟨none, some 65, .idx 1 (.tmp 61) (.tmp 64)⟩,
    ⟨none, some 66, .load (.tmp 65)⟩,
    ⟨none, some 67, .mv (.tmp 0)⟩,
    ⟨none, some 68, .mv (.tmp 3)⟩,
    ⟨none, some 69, .mv (.tmp 8)⟩,
    ⟨none, some 70, .bin .add (.tmp 68) (.tmp 69)⟩,
    ⟨none, some 71, .idx 1 (.tmp 67) (.tmp 70)⟩,
    ⟨none, some 72, .load (.tmp 71)⟩,
    ⟨none, some 73, .idx 1 (.tmp 53) (.tmp 56)⟩,
    ⟨none, none, .store 1 (.tmp 73) (.tmp 66)⟩]),
   (true, [(22, 0), (23, 0)], [⟨none, some 74, .idx 1 (.tmp 57) (.tmp 60)⟩,
    ⟨none, none, .store 1 (.tmp 74) (.tmp 72)⟩])])
  (.rg [⟨none, some 75, .mv (.tmp 9)⟩,
    ⟨none, some 8, .mv (.tmp 75)⟩]))))))
def ac89 (q : Option (Nat × Nat)) : AC := .seq (.rg [⟨none, some 10, .mv (.tmp 1)⟩,
    ⟨none, some 8, .mv (.tmp 10)⟩])
  (.blk 0 (.loop q [0, 2, 3, 8] (ac89_L0 q)))
theorem ac89_ok (q : Option (Nat × Nat)) : compF Go.Proofs.Try.prog Go.Proofs.Try.f89 (ac89 q) = some (ac89 q, []) := by kernel_rfl
def ac90 (q : Option (Nat × Nat)) : AC := .seq (.rg [⟨none, some 2, .mv (.const (.int .u64 0))⟩])
  (.seq (.rg [⟨none, some 3, .mv (.tmp 0)⟩,
    ⟨none, some 4, .conv .u64 (.tmp 3)⟩,
    ⟨none, some 5, .call 72 [.tmp 4]⟩,
    ⟨none, some 6, .bin .shl (.const (.int .u64 1)) (.tmp 5)⟩,
    ⟨none, some 2, .mv (.tmp 6)⟩])
  (.ret))
theorem ac90_ok (q : Option (Nat × Nat)) : compF Go.Proofs.Try.prog Go.Proofs.Try.f90 (ac90 q) = some (ac90 q, [.tmp 2]) := by kernel_rfl
def ac91 (q : Option (Nat × Nat)) : AC := .seq (.rg [⟨none, some 2, .mv (.const (.int .u64 0))⟩])
  (.seq (.dr [(false, [(0, 0), (1, 0), (2, 0), (3, 0), (4, 0), (5, 0), (6, 0)], [⟨none, some 3, .mv (.tmp 0)⟩,
    ⟨none, some 4, .nilck (.tmp 3)⟩,
    ⟨none, some 5, .load (.tmp 4)⟩,
    ⟨none, some 6, .mv (.tmp 0)⟩,
    ⟨none, some 7, .nilck (.tmp 6)⟩,
    ⟨none, some 8, .load (.tmp 7)⟩,
    ⟨none, some 9, .bin .shl (.tmp 8) (.const (.int .u64 13))⟩]),
   (true, [(7, 0), (8, 0), (9, 0)], [⟨none, some 10, .bin .xor (.tmp 5) (.tmp 9)⟩,
    ⟨none, some 11, .nilck (.tmp 3)⟩,
    ⟨none, none, .store 1 (.tmp 11) (.tmp 10)⟩])])
  (.seq (.dr [(false, [(0, 0), (1, 0), (2, 0), (3, 0), (4, 0), (5, 0), (6, 0)], [⟨none, some 12, .mv (.tmp 0)⟩,
    ⟨none, some 13, .nilck (.tmp 12)⟩,
    ⟨none, some 14, .load (.tmp 13)⟩,
    ⟨none, some 15, .mv (.tmp 0)⟩,
    ⟨none, some 16, .nilck (.tmp 15)⟩,
    ⟨none, some 17, .load (.tmp 16)⟩,
    ⟨none, some 18, .bin .shr (.tmp 17) (.const (.int .u64 7))⟩]),
   (true, [(7, 0), (8, 0), (9, 0)], [⟨none, some 19, .bin .xor (.tmp 14) (.tmp 18)⟩,
    ⟨none, some 20, .nilck (.tmp 12)⟩,
    ⟨none, none, .store 1 (.tmp 20) (.tmp 19)⟩])])
  (.seq (.dr [(false, [(0, 0), (1, 0), (2, 0), (3, 0), (4, 0), (5, 0), (6, 0)], [⟨none, some 21, .mv (.tmp 0)⟩,
    ⟨none, some 22, .nilck (.tmp 21)⟩,
    ⟨none, some 23, .load (.tmp 22)⟩,
    ⟨none, some 24, .mv (.tmp 0)⟩,
    ⟨none, some 25, .nilck (.tmp 24)⟩,
    ⟨none, some 26, .load (.tmp 25)⟩,
    ⟨none, some 27, .bin .shl (.tmp 26) (.const (.int .u64 17))⟩]),
   (true, [(7, 0), (8, 0), (9, 0)], [⟨none, some 28, .bin .xor (.tmp 23) (.tmp 27)⟩,
    ⟨none, some 29, .nilck (.tmp 21)⟩,
    ⟨none, none, .store 1 (.tmp 29) (.tmp 28)⟩])])
  (.seq (.rg [⟨none, some 30, .mv (.tmp 0)⟩,
    ⟨none, some 31, .nilck (.tmp 30)⟩,
    ⟨none, some 32, .load (.tmp 31)⟩,
    ⟨none, some 2, .mv (.tmp 32)⟩])
  (.ret)))))
theorem ac91_ok (q : Option (Nat × Nat)) : compF Go.Proofs.Try.prog Go.Proofs.Try.f91 (ac91 q) = some (ac91 q, [.tmp 2]) := by kernel_rfl
def ac92 (q : Option (Nat × Nat)) : AC := .seq (.rg [⟨none, some 6, .mv (.const (.int .i64 0))⟩])
  (.seq (.rg [⟨none, some 7, .mv (.tmp 0)⟩,
    ⟨none, some 8, .mv (.tmp 1)⟩,
    ⟨none, some 9, .bin .sub (.tmp 8) (.const (.int .i64 1))⟩,
    ⟨none, some 10, .mv (.tmp 1)⟩,
    ⟨none, some 11, .mv (.tmp 1)⟩,
    ⟨none, some 12, .bin .add (.tmp 11) (.const (.int .i64 1))⟩,
    ⟨none, some 13, .mv (.tmp 2)⟩,
    ⟨none, some 14, .call 93 [.tmp 7, .tmp 9, .tmp 10, .tmp 12, .tmp 13]⟩,
    ⟨none, some 6, .mv (.tmp 14)⟩])
  (.ret))
theorem ac92_ok (q : Option (Nat × Nat)) : compF Go.Proofs.Try.prog Go.Proofs.Try.f92 (ac92 q) = some (ac92 q, [.tmp 6]) := by kernel_rfl
def ac93 (q : Option (Nat × Nat)) : AC := .seq (.rg [⟨none, some 10, .mv (.const (.int .i64 0))⟩])
  (.seq (.rg [⟨none, some 12, .mv (.tmp 0)⟩,
    ⟨none, some 13, .mv (.tmp 1)⟩,
    ⟨none, some 14, .mv (.tmp 2)⟩,
    ⟨none, some 15, .mv (.tmp 4)⟩,
    ⟨none, some 16, .call 95 [.tmp 12, .tmp 13, .tmp 14, .tmp 15]⟩,
    ⟨none, some 11, .mv (.tmp 16)⟩,
    ⟨none, some 17, .extract (.tmp 11) 0⟩,
    ⟨none, some 18, .extract (.tmp 11) 1⟩,
    ⟨none, some 1, .mv (.tmp 17)⟩,
    ⟨none, some 2, .mv (.tmp 18)⟩])
  (.seq (.rg [⟨none, some 20, .mv (.tmp 0)⟩,
    ⟨none, some 21, .mv (.tmp 2)⟩,
    ⟨none, some 22, .mv (.tmp 3)⟩,
    ⟨none, some 23, .mv (.tmp 4)⟩,
    ⟨none, some 24, .call 95 [.tmp 20, .tmp 21, .tmp 22, .tmp 23]⟩,
    ⟨none, some 19, .mv (.tmp 24)⟩,
    ⟨none, some 25, .extract (.tmp 19) 0⟩,
    ⟨none, some 26, .extract (.tmp 19) 1⟩,
    ⟨none, some 2, .mv (.tmp 25)⟩,
    ⟨none, some 3, .mv (.tmp 26)⟩])
  (.seq (.rg [⟨none, some 28, .mv (.tmp 0)⟩,
    ⟨none, some 29, .mv (.tmp 1)⟩,
    ⟨none, some 30, .mv (.tmp 2)⟩,
    ⟨none, some 31, .mv (.tmp 4)⟩,
    ⟨none, some 32, .call 95 [.tmp 28, .tmp 29, .tmp 30, .tmp 31]⟩,
    ⟨none, some 27, .mv (.tmp 32)⟩,
    ⟨none, some 33, .extract (.tmp 27) 0⟩,
    ⟨none, some 34, .extract (.tmp 27) 1⟩,
    ⟨none, some 1, .mv (.tmp 33)⟩,
    ⟨none, some 2, .mv (.tmp 34)⟩])
  (.seq (.rg [⟨none, some 35, .mv (.tmp 2)⟩,
    ⟨none, some 10, .mv (.tmp 35)⟩])
  (.ret)))))
theorem ac93_ok (q : Option (Nat × Nat)) : compF Go.Proofs.Try.prog Go.Proofs.Try.f93 (ac93 q) = some (ac93 q, [.tmp 10]) := by kernel_rfl
def ac94 (q : Option (Nat × Nat)) : AC := .seq (.rg [⟨none, some 2, .mv (.const (.bool false))⟩])
  (.seq (.rg [⟨none, some 3, .mv (.tmp 0)⟩,
    ⟨none, some 4, .mv (.tmp 0)⟩,
    ⟨none, some 5, .bin .neq (.tmp 3) (.tmp 4)⟩,
    ⟨none, some 2, .mv (.tmp 5)⟩])
  (.ret))
theorem ac94_ok (q : Option (Nat × Nat)) : compF Go.Proofs.Try.prog Go.Proofs.Try.f94 (ac94 q) = some (ac94 q, [.tmp 2]) := by kernel_rfl
def ac95 (q : Option (Nat × Nat)) : AC := .seq (.rg [⟨none, some 8, .mv (.const (.int .i64 0))⟩,
    ⟨none, some 9, .mv (.const (.int .i64 0))⟩])
  (.seq (.seq (.dr [(false, [(0, 0), (1, 0), (2, 0), (3, 0), (4, 0), (5, 0), (6, 0), (7, 0)], [⟨none, some 10, .mv (.tmp 0)⟩,
    ⟨none, some 11, .mv (.tmp 2)⟩,
    ⟨none, some 12, .idx 1 (.tmp 10) (.tmp 11)⟩,
    ⟨none, some 13, .load (.tmp 12)⟩,
    ⟨none, some 14, .mv (.tmp 0)⟩,
    ⟨none, some 15, .mv (.tmp 1)⟩,
    ⟨none, some 16, .idx 1 (.tmp 14) (.tmp 15)⟩,
    ⟨none, some 17, .load (.tmp 16)⟩]),
   (true, [(8, 0)], [⟨none, some 18, .call 83 [.tmp 13, .tmp 17]⟩])])
  (.cond (.tmp 18) (.seq (.rg [⟨none, some 19, .mv (.tmp 3)⟩,
    ⟨none, some 20, .nilck (.tmp 19)⟩,
    ⟨none, some 21, .load (.tmp 20)⟩,
    ⟨none, some 22, .bin .add (.tmp 21) (.const (.int .i64 1))⟩,
    ⟨none, some 23, .nilck (.tmp 19)⟩,
    ⟨none, none, .store 1 (.tmp 23) (.tmp 22)⟩])
  (.seq (.rg [⟨none, some 24, .mv (.tmp 2)⟩,
    ⟨none, some 25, .mv (.tmp 1)⟩,
    ⟨none, some 8, .mv (.tmp 24)⟩,
    ⟨none, some 9, .mv (.tmp 25)⟩])
  (.ret))) (.skip)))
  (.seq (.rg [⟨none, some 26, .mv (.tmp 1)⟩,
    ⟨none, some 27, .mv (.tmp 2)⟩,
    ⟨none, some 8, .mv (.tmp 26)⟩,
    ⟨none, some 9, .mv (.tmp 27)⟩])
  (.ret)))
theorem ac95_ok (q : Option (Nat × Nat)) : compF Go.Proofs.Try.prog Go.Proofs.Try.f95 (ac95 q) = some (ac95 q, [.tmp 8, .tmp 9]) := by kernel_rfl
def ac52 (q : Option (Nat × Nat)) (q2 : Option (Nat × Nat) := none) : AC := .seq (.rg [⟨none, some 4, .box 54 (.tmp 0)⟩,
    ⟨none, some 7, .box 94 (.tmp 3)⟩,
    ⟨none, some 8, .mv (.const (.slice none 0 0))⟩,
    ⟨none, some 9, .mv (.const (.int .i64 0))⟩])
  (.seq (.seq (.rg [⟨none, some 13, .load (.tmp 4)⟩,
    ⟨none, some 14, .mv (.tmp 1)⟩,
    ⟨none, some 15, .mv (.tmp 2)⟩,
    ⟨none, some 16, .call 63 [.tmp 13, .tmp 14, .tmp 15]⟩,
    ⟨none, some 10, .mv (.tmp 16)⟩])
  (.seq (.rg [⟨none, some 17, .mv (.tmp 10)⟩,
    ⟨none, some 18, .bin .neq (.tmp 17) (.const (.int .i64 0))⟩])
  (.cond (.tmp 18) (.seq (.rg [⟨none, some 19, .mv (.tmp 10)⟩,
    ⟨none, some 8, .mv (.const (.slice none 0 0))⟩,
    ⟨none, some 9, .mv (.tmp 19)⟩])
  (.ret)) (.skip))))
  (.seq (.seq (.dr [(true, [(0, 0), (1, 0), (2, 0)], [⟨none, some 20, .mv (.tmp 2)⟩,
    ⟨none, some 21, .bin .lss (.tmp 20) (.const (.int .i64 64))⟩,
    ⟨none, some 22, .mv (.tmp 21)⟩]),
   (false, [(3, 0), (4, 0), (5, 0)], [⟨some (22, true), some 23, .load (.tmp 7)⟩,
    ⟨some (22, true), some 24, .mv (.tmp 2)⟩,
    ⟨some (22, true), some 25, .bin .shl (.const (.int .u64 1)) (.tmp 24)⟩]),
   (true, [(6, 0), (7, 0)], [⟨some (22, true), some 26, .bin .geq (.tmp 23) (.tmp 25)⟩,
    ⟨none, some 27, .pick (.tmp 22) (.tmp 26) (.const (.bool false))⟩])])
  (.cond (.tmp 27) (.seq (.rg [⟨none, some 8, .mv (.const (.slice none 0 0))⟩,
    ⟨none, some 9, .mv (.const (.int .i64 7))⟩])
  (.ret)) (.skip)))
  (.seq (.rg [⟨none, some 28, .load (.tmp 4)⟩,
    ⟨none, some 29, .call 64 [.tmp 28]⟩,
    ⟨none, none, .store 1 (.tmp 4) (.tmp 29)⟩])
  (.seq (.seq (.rg [⟨none, some 30, .mv (.tmp 1)⟩,
    ⟨none, some 31, .mv (.tmp 2)⟩,
    ⟨none, some 32, .call 65 [.tmp 30, .tmp 31]⟩])
  (.blk 0 (.rf (.tmp 32) [33, 34] 73 20 (ac73 q2)
  (.seq (.rg [⟨none, some 11, .mv (.tmp 33)⟩])
  (.rg [⟨none, some 12, .mv (.tmp 34)⟩]))
  (.blk 1 (.dr [(false, [(0, 0), (1, 0), (2, 0), (3, 0), (4, 0), (5, 0), (6, 0)], [⟨none, some 35, .load (.tmp 4)⟩,
    ⟨none, some 36, .mv (.tmp 11)⟩,
    ⟨none, some 37, .load (.tmp 7)⟩,
    ⟨none, some 38, .mv (.tmp 12)⟩,
    ⟨none, some 39, .bin .shr (.tmp 37) (.tmp 38)⟩,
    ⟨none, some 40, .bin .and (.tmp 39) (.const (.int .u64 1))⟩,
    ⟨none, some 41, .conv .u8 (.tmp 40)⟩]),
   (true, [(7, 0), (8, 0)], [⟨none, some 42, .idx 1 (.tmp 35) (.tmp 36)⟩,
    ⟨none, none, .store 1 (.tmp 42) (.tmp 41)⟩])])))))
  (.seq (.rg [⟨none, some 43, .load (.tmp 4)⟩,
    ⟨none, some 8, .mv (.tmp 43)⟩,
    ⟨none, some 9, .mv (.const (.int .i64 0))⟩])
  (.ret))))))
theorem ac52_ok (q : Option (Nat × Nat)) (q2 : Option (Nat × Nat) := none) : compF Go.Proofs.Try.prog Go.Proofs.Try.f52 (ac52 q q2) = some (ac52 q q2, [.tmp 8, .tmp 9]) := by kernel_rfl
def ac55 (q : Option (Nat × Nat)) (q2 : Option (Nat × Nat) := none) : AC := .seq (.rg [⟨none, some 3, .box 54 (.tmp 0)⟩,
    ⟨none, some 6, .alloc 94 [.p (.v (.int .u64 0))]⟩,
    ⟨none, some 7, .mv (.const (.int .i64 0))⟩])
  (.seq (.seq (.rg [⟨none, some 11, .load (.tmp 3)⟩,
    ⟨none, some 12, .mv (.tmp 1)⟩,
    ⟨none, some 13, .mv (.tmp 2)⟩,
    ⟨none, some 14, .call 63 [.tmp 11, .tmp 12, .tmp 13]⟩,
    ⟨none, some 8, .mv (.tmp 14)⟩])
  (.seq (.rg [⟨none, some 15, .mv (.tmp 8)⟩,
    ⟨none, some 16, .bin .neq (.tmp 15) (.const (.int .i64 0))⟩])
  (.cond (.tmp 16) (.seq (.rg [⟨none, some 17, .mv (.tmp 8)⟩,
    ⟨none, none, .store 1 (.tmp 6) (.const (.int .u64 0))⟩,
    ⟨none, some 7, .mv (.tmp 17)⟩])
  (.ret)) (.skip))))
  (.seq (.seq (.rg [⟨none, some 18, .mv (.tmp 1)⟩,
    ⟨none, some 19, .mv (.tmp 2)⟩,
    ⟨none, some 20, .call 65 [.tmp 18, .tmp 19]⟩])
  (.blk 0 (.rf (.tmp 20) [21, 22] 73 20 (ac73 q2)
  (.seq (.rg [⟨none, some 9, .mv (.tmp 21)⟩])
  (.rg [⟨none, some 10, .mv (.tmp 22)⟩]))
  (.blk 1 (.dr [(false, [(0, 0), (1, 0), (2, 0), (3, 0), (4, 0), (5, 0), (6, 0), (7, 0)], [⟨none, some 23, .load (.tmp 6)⟩,
    ⟨none, some 24, .load (.tmp 3)⟩,
    ⟨none, some 25, .mv (.tmp 9)⟩,
    ⟨none, some 26, .idx 1 (.tmp 24) (.tmp 25)⟩,
    ⟨none, some 27, .load (.tmp 26)⟩,
    ⟨none, some 28, .conv .u64 (.tmp 27)⟩,
    ⟨none, some 29, .mv (.tmp 10)⟩,
    ⟨none, some 30, .bin .shl (.tmp 28) (.tmp 29)⟩]),
   (true, [(8, 0), (9, 0)], [⟨none, some 31, .bin .or (.tmp 23) (.tmp 30)⟩,
    ⟨none, none, .store 1 (.tmp 6) (.tmp 31)⟩])])))))
  (.seq (.rg [⟨none, some 32, .load (.tmp 6)⟩,
    ⟨none, none, .store 1 (.tmp 6) (.tmp 32)⟩,
    ⟨none, some 7, .mv (.const (.int .i64 0))⟩])
  (.ret))))
theorem ac55_ok (q : Option (Nat × Nat)) (q2 : Option (Nat × Nat) := none) : compF Go.Proofs.Try.prog Go.Proofs.Try.f55 (ac55 q q2) = some (ac55 q q2, [.cell 6 none, .tmp 7]) := by kernel_rfl
noncomputable def s32tbl : Tbl :=
  tcons 9 (ac9 none, [.tmp 4], 139) <|
  tcons 10 (ac10 none, [.tmp 2], 6) <|
  tcons 11 (ac11 none, [.tmp 0], 148) <|
  tcons 12 (ac12 none, [.tmp 2, .tmp 3], 14) <|
  tcons 14 (ac14 none, [.tmp 6], 14) <|
  tcons 16 (ac16 none, [.tmp 4], 11) <|
  tcons 18 (ac18 none, [.tmp 2], 29) <|
  tcons 19 (ac19 none, [.tmp 4, .tmp 5], 63) <|
  tcons 21 (ac21 none, [.tmp 4], 26) <|
  tcons 22 (ac22 none, [.tmp 4], 26) <|
  tcons 23 (ac23 none, [.tmp 4], 14) <|
  tcons 29 (ac29 none, [.tmp 2, .tmp 3], 29) <|
  tcons 30 (ac30 none, [.cell 4 (some 4), .tmp 5], 51) <|
  tcons 31 (ac31 none, [.tmp 2], 35) <|
  tcons 33 (ac33 none, [.tmp 4], 8) <|
  tcons 37 (ac37 none, [.cell 4 (some 4)], 8) <|
  tcons 39 (ac39 none, [.tmp 6], 50) <|
  tcons 40 (ac40 none, [.tmp 5], 66) <|
  tcons 43 (ac43 none, [.tmp 2], 3) <|
  tcons 44 (ac44 none, [.tmp 2], 9) <|
  tcons 45 (ac45 none, [.tmp 2], 4) <|
  tcons 46 (ac46 none, [.tmp 2], 46) <|
  tcons 51 (ac51 none, [], 18) <|
  tcons 52 (ac52 none, [.tmp 8, .tmp 9], 44) <|
  tcons 53 (ac53 none, [.tmp 2], 6) <|
  tcons 54 (ac54 none, [.tmp 4], 19) <|
  tcons 55 (ac55 none, [.cell 6 none, .tmp 7], 33) <|
  tcons 56 (ac56 none, [.tmp 2], 9) <|
  tcons 57 (ac57 none, [.tmp 4], 26) <|
  tcons 59 (ac59 none, [.tmp 4], 15) <|
  tcons 60 (ac60 none, [.tmp 2], 5) <|
  tcons 61 (ac61 none, [], 11) <|
  tcons 62 (ac62 none, [], 14) <|
  tcons 63 (ac63 none, [.tmp 6], 33) <|
  tcons 64 (ac64 none, [.tmp 2], 8) <|
  tcons 65 (ac65 none, [.tmp 4], 6) <|
  tcons 66 (ac66 none, [.tmp 2], 17) <|
  tcons 67 (ac67 none, [.tmp 2], 9) <|
  tcons 68 (ac68 none, [], 19) <|
  tcons 69 (ac69 none, [.tmp 5], 10) <|
  tcons 71 (ac71 none, [], 134) <|
  tcons 72 (ac72 none, [.tmp 2], 8) <|
  tcons 73 (ac73 none, [], 20) <|
  tcons 74 (ac74 none, [.tmp 4], 9) <|
  tcons 75 (ac75 none, [.tmp 2], 5) <|
  tcons 77 (ac77 none, [], 49) <|
  tcons 78 (ac78 none, [], 56) <|
  tcons 79 (ac79 none, [], 65) <|
  tcons 80 (ac80 none, [.tmp 6, .tmp 7], 57) <|
  tcons 81 (ac81 none, [], 32) <|
  tcons 82 (ac82 none, [.tmp 6], 133) <|
  tcons 83 (ac83 none, [.tmp 4], 17) <|
  tcons 84 (ac84 none, [.tmp 8], 84) <|
  tcons 85 (ac85 none, [.tmp 8, .tmp 9], 168) <|
  tcons 88 (ac88 none, [.tmp 4], 19) <|
  tcons 89 (ac89 none, [], 76) <|
  tcons 90 (ac90 none, [.tmp 2], 7) <|
  tcons 91 (ac91 none, [.tmp 2], 33) <|
  tcons 92 (ac92 none, [.tmp 6], 15) <|
  tcons 93 (ac93 none, [.tmp 10], 36) <|
  tcons 94 (ac94 none, [.tmp 2], 6) <|
  tcons 95 (ac95 none, [.tmp 8, .tmp 9], 28) <|
  fun _ => none
theorem s32tbl_ok : TblOK Go.Proofs.Try.prog s32tbl :=
  .cons Go.Proofs.Try.call9 Go.Proofs.Try.func9 (ac9_ok none) (by rw [Go.Proofs.Try.ntmps9]; exact Nat.le_refl _) <|
  .cons Go.Proofs.Try.call10 Go.Proofs.Try.func10 (ac10_ok none) (by rw [Go.Proofs.Try.ntmps10]; exact Nat.le_refl _) <|
  .cons Go.Proofs.Try.call11 Go.Proofs.Try.func11 (ac11_ok none) (by rw [Go.Proofs.Try.ntmps11]; exact Nat.le_refl _) <|
  .cons Go.Proofs.Try.call12 Go.Proofs.Try.func12 (ac12_ok none) (by rw [Go.Proofs.Try.ntmps12]; exact Nat.le_refl _) <|
  .cons Go.Proofs.Try.call14 Go.Proofs.Try.func14 (ac14_ok none) (by rw [Go.Proofs.Try.ntmps14]; exact Nat.le_refl _) <|
  .cons Go.Proofs.Try.call16 Go.Proofs.Try.func16 (ac16_ok none) (by rw [Go.Proofs.Try.ntmps16]; exact Nat.le_refl _) <|
  .cons Go.Proofs.Try.call18 Go.Proofs.Try.func18 (ac18_ok none) (by rw [Go.Proofs.Try.ntmps18]; exact Nat.le_refl _) <|
  .cons Go.Proofs.Try.call19 Go.Proofs.Try.func19 (ac19_ok none) (by rw [Go.Proofs.Try.ntmps19]; exact Nat.le_refl _) <|
  .cons Go.Proofs.Try.call21 Go.Proofs.Try.func21 (ac21_ok none) (by rw [Go.Proofs.Try.ntmps21]; exact Nat.le_refl _) <|
  .cons Go.Proofs.Try.call22 Go.Proofs.Try.func22 (ac22_ok none) (by rw [Go.Proofs.Try.ntmps22]; exact Nat.le_refl _) <|
  .cons Go.Proofs.Try.call23 Go.Proofs.Try.func23 (ac23_ok none) (by rw [Go.Proofs.Try.ntmps23]; exact Nat.le_refl _) <|
  .cons Go.Proofs.Try.call29 Go.Proofs.Try.func29 (ac29_ok none) (by rw [Go.Proofs.Try.ntmps29]; exact Nat.le_refl _) <|
  .cons Go.Proofs.Try.call30 Go.Proofs.Try.func30 (ac30_ok none) (by rw [Go.Proofs.Try.ntmps30]; exact Nat.le_refl _) <|
  .cons Go.Proofs.Try.call31 Go.Proofs.Try.func31 (ac31_ok none) (by rw [Go.Proofs.Try.ntmps31]; exact Nat.le_refl _) <|
  .cons Go.Proofs.Try.call33 Go.Proofs.Try.func33 (ac33_ok none) (by rw [Go.Proofs.Try.ntmps33]; exact Nat.le_refl _) <|
  .cons Go.Proofs.Try.call37 Go.Proofs.Try.func37 (ac37_ok none) (by rw [Go.Proofs.Try.ntmps37]; exact Nat.le_refl _) <|
  .cons Go.Proofs.Try.call39 Go.Proofs.Try.func39 (ac39_ok none) (by rw [Go.Proofs.Try.ntmps39]; exact Nat.le_refl _) <|
  .cons Go.Proofs.Try.call40 Go.Proofs.Try.func40 (ac40_ok none) (by rw [Go.Proofs.Try.ntmps40]; exact Nat.le_refl _) <|
  .cons Go.Proofs.Try.call43 Go.Proofs.Try.func43 (ac43_ok none) (by rw [Go.Proofs.Try.ntmps43]; exact Nat.le_refl _) <|
  .cons Go.Proofs.Try.call44 Go.Proofs.Try.func44 (ac44_ok none) (by rw [Go.Proofs.Try.ntmps44]; exact Nat.le_refl _) <|
  .cons Go.Proofs.Try.call45 Go.Proofs.Try.func45 (ac45_ok none) (by rw [Go.Proofs.Try.ntmps45]; exact Nat.le_refl _) <|
  .cons Go.Proofs.Try.call46 Go.Proofs.Try.func46 (ac46_ok none) (by rw [Go.Proofs.Try.ntmps46]; exact Nat.le_refl _) <|
  .cons Go.Proofs.Try.call51 Go.Proofs.Try.func51 (ac51_ok none) (by rw [Go.Proofs.Try.ntmps51]; exact Nat.le_refl _) <|
  .cons Go.Proofs.Try.call52 Go.Proofs.Try.func52 (ac52_ok none) (by rw [Go.Proofs.Try.ntmps52]; exact Nat.le_refl _) <|
  .cons Go.Proofs.Try.call53 Go.Proofs.Try.func53 (ac53_ok none) (by rw [Go.Proofs.Try.ntmps53]; exact Nat.le_refl _) <|
  .cons Go.Proofs.Try.call54 Go.Proofs.Try.func54 (ac54_ok none) (by rw [Go.Proofs.Try.ntmps54]; exact Nat.le_refl _) <|
  .cons Go.Proofs.Try.call55 Go.Proofs.Try.func55 (ac55_ok none) (by rw [Go.Proofs.Try.ntmps55]; exact Nat.le_refl _) <|
  .cons Go.Proofs.Try.call56 Go.Proofs.Try.func56 (ac56_ok none) (by rw [Go.Proofs.Try.ntmps56]; exact Nat.le_refl _) <|
  .cons Go.Proofs.Try.call57 Go.Proofs.Try.func57 (ac57_ok none) (by rw [Go.Proofs.Try.ntmps57]; exact Nat.le_refl _) <|
  .cons Go.Proofs.Try.call59 Go.Proofs.Try.func59 (ac59_ok none) (by rw [Go.Proofs.Try.ntmps59]; exact Nat.le_refl _) <|
  .cons Go.Proofs.Try.call60 Go.Proofs.Try.func60 (ac60_ok none) (by rw [Go.Proofs.Try.ntmps60]; exact Nat.le_refl _) <|
  .cons Go.Proofs.Try.call61 Go.Proofs.Try.func61 (ac61_ok none) (by rw [Go.Proofs.Try.ntmps61]; exact Nat.le_refl _) <|
  .cons Go.Proofs.Try.call62 Go.Proofs.Try.func62 (ac62_ok none) (by rw [Go.Proofs.Try.ntmps62]; exact Nat.le_refl _) <|
  .cons Go.Proofs.Try.call63 Go.Proofs.Try.func63 (ac63_ok none) (by rw [Go.Proofs.Try.ntmps63]; exact Nat.le_refl _) <|
  .cons Go.Proofs.Try.call64 Go.Proofs.Try.func64 (ac64_ok none) (by rw [Go.Proofs.Try.ntmps64]; exact Nat.le_refl _) <|
  .cons Go.Proofs.Try.call65 Go.Proofs.Try.func65 (ac65_ok none) (by rw [Go.Proofs.Try.ntmps65]; exact Nat.le_refl _) <|
  .cons Go.Proofs.Try.call66 Go.Proofs.Try.func66 (ac66_ok none) (by rw [Go.Proofs.Try.ntmps66]; exact Nat.le_refl _) <|
  .cons Go.Proofs.Try.call67 Go.Proofs.Try.func67 (ac67_ok none) (by rw [Go.Proofs.Try.ntmps67]; exact Nat.le_refl _) <|
  .cons Go.Proofs.Try.call68 Go.Proofs.Try.func68 (ac68_ok none) (by rw [Go.Proofs.Try.ntmps68]; exact Nat.le_refl _) <|
  .cons Go.Proofs.Try.call69 Go.Proofs.Try.func69 (ac69_ok none) (by rw [Go.Proofs.Try.ntmps69]; exact Nat.le_refl _) <|
  .cons Go.Proofs.Try.call71 Go.Proofs.Try.func71 (ac71_ok none) (by rw [Go.Proofs.Try.ntmps71]; exact Nat.le_refl _) <|
  .cons Go.Proofs.Try.call72 Go.Proofs.Try.func72 (ac72_ok none) (by rw [Go.Proofs.Try.ntmps72]; exact Nat.le_refl _) <|
  .cons Go.Proofs.Try.call73 Go.Proofs.Try.func73 (ac73_ok none) (by rw [Go.Proofs.Try.ntmps73]; exact Nat.le_refl _) <|
  .cons Go.Proofs.Try.call74 Go.Proofs.Try.func74 (ac74_ok none) (by rw [Go.Proofs.Try.ntmps74]; exact Nat.le_refl _) <|
  .cons Go.Proofs.Try.call75 Go.Proofs.Try.func75 (ac75_ok none) (by rw [Go.Proofs.Try.ntmps75]; exact Nat.le_refl _) <|
  .cons Go.Proofs.Try.call77 Go.Proofs.Try.func77 (ac77_ok none) (by rw [Go.Proofs.Try.ntmps77]; exact Nat.le_refl _) <|
  .cons Go.Proofs.Try.call78 Go.Proofs.Try.func78 (ac78_ok none) (by rw [Go.Proofs.Try.ntmps78]; exact Nat.le_refl _) <|
  .cons Go.Proofs.Try.call79 Go.Proofs.Try.func79 (ac79_ok none) (by rw [Go.Proofs.Try.ntmps79]; exact Nat.le_refl _) <|
  .cons Go.Proofs.Try.call80 Go.Proofs.Try.func80 (ac80_ok none) (by rw [Go.Proofs.Try.ntmps80]; exact Nat.le_refl _) <|
  .cons Go.Proofs.Try.call81 Go.Proofs.Try.func81 (ac81_ok none) (by rw [Go.Proofs.Try.ntmps81]; exact Nat.le_refl _) <|
  .cons Go.Proofs.Try.call82 Go.Proofs.Try.func82 (ac82_ok none) (by rw [Go.Proofs.Try.ntmps82]; exact Nat.le_refl _) <|
  .cons Go.Proofs.Try.call83 Go.Proofs.Try.func83 (ac83_ok none) (by rw [Go.Proofs.Try.ntmps83]; exact Nat.le_refl _) <|
  .cons Go.Proofs.Try.call84 Go.Proofs.Try.func84 (ac84_ok none) (by rw [Go.Proofs.Try.ntmps84]; exact Nat.le_refl _) <|
  .cons Go.Proofs.Try.call85 Go.Proofs.Try.func85 (ac85_ok none) (by rw [Go.Proofs.Try.ntmps85]; exact Nat.le_refl _) <|
  .cons Go.Proofs.Try.call88 Go.Proofs.Try.func88 (ac88_ok none) (by rw [Go.Proofs.Try.ntmps88]; exact Nat.le_refl _) <|
  .cons Go.Proofs.Try.call89 Go.Proofs.Try.func89 (ac89_ok none) (by rw [Go.Proofs.Try.ntmps89]; exact Nat.le_refl _) <|
  .cons Go.Proofs.Try.call90 Go.Proofs.Try.func90 (ac90_ok none) (by rw [Go.Proofs.Try.ntmps90]; exact Nat.le_refl _) <|
  .cons Go.Proofs.Try.call91 Go.Proofs.Try.func91 (ac91_ok none) (by rw [Go.Proofs.Try.ntmps91]; exact Nat.le_refl _) <|
  .cons Go.Proofs.Try.call92 Go.Proofs.Try.func92 (ac92_ok none) (by rw [Go.Proofs.Try.ntmps92]; exact Nat.le_refl _) <|
  .cons Go.Proofs.Try.call93 Go.Proofs.Try.func93 (ac93_ok none) (by rw [Go.Proofs.Try.ntmps93]; exact Nat.le_refl _) <|
  .cons Go.Proofs.Try.call94 Go.Proofs.Try.func94 (ac94_ok none) (by rw [Go.Proofs.Try.ntmps94]; exact Nat.le_refl _) <|
  .cons Go.Proofs.Try.call95 Go.Proofs.Try.func95 (ac95_ok none) (by rw [Go.Proofs.Try.ntmps95]; exact Nat.le_refl _) <|
  .nil
def cfg : Cfg := ⟨[(4, .bool), (5, (.int .u8)), (50, (.pair (.int .i64) (.pair (.int .u8) (.pair (.int .i64) (.int .i64))))), (54, (.sl (.int .u8))), (74, (.pair (.int .u8) (.pair (.int .i64) (.int .i64))))], [], [(5, .pair (.int .i64) (.pair (.pair (.int .i64) (.pair (.int .u8) (.pair (.int .i64) (.int .i64)))) (.int .i64)))]⟩
end Go.Ab
