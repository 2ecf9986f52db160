/- The codes of functions of this seat, as annotated, compared with the program by the kernel. No conditions. -/
import Derived.Test.YteiolnofaebknaaProg
import Derived.Test.YteiolnofaebknaaAbE
import Derived.Test.YteiolnofaebknaaCod1
set_option linter.unusedVariables false
set_option linter.unusedSimpArgs false
namespace Go.Ab
/- clearway clearwayref34.Run -/
def ac22_L0 (q : Option (Nat × Nat)) : AC := .seq (.seq (.rg [⟨none, some 43, .mv (.tmp 14)⟩,
    ⟨none, some 44, .mv (.tmp 2)⟩,
    ⟨none, some 45, .len (.tmp 44)⟩,
    ⟨none, some 46, .bin .lss (.tmp 43) (.tmp 45)⟩])
  (.cond (.tmp 46) (.skip) (.exit 0)))
  (.seq (.blk 1 (.seq (.rg [⟨none, some 49, .mv (.tmp 2)⟩,
    ⟨none, some 50, .mv (.tmp 14)⟩,
    ⟨none, some 51, .idx 2 (.tmp 49) (.tmp 50)⟩,
    ⟨none, some 52, .idxA 2 1 (.tmp 51) (.const (.int .i64 0))⟩,
    ⟨none, some 53, .load (.tmp 52)⟩,
    ⟨none, some 54, .bin .gtr (.tmp 53) (.const (.int .u8 2))⟩,
    ⟨none, some 55, .mv (.tmp 54)⟩,
    ⟨some (55, false), some 56, .mv (.tmp 2)⟩,
    ⟨some (55, false), some 57, .mv (.tmp 14)⟩,
    ⟨some (55, false), some 58, .idx 2 (.tmp 56) (.tmp 57)⟩,
    ⟨some (55, false), some 59, .idxA 2 1 (.tmp 58) (.const (.int .i64 1))⟩,
    ⟨some (55, false), some 60, .load (.tmp 59)⟩,
    ⟨some (55, false), some 61, .bin .gtr (.tmp 60) (.const (.int .u8 2))⟩,
    ⟨none, some 62, .pick (.tmp 55) (.const (.bool true)) (.tmp 61)⟩])
  (.cond (.tmp 62) (.seq (.rg [⟨none, some 10, .mv (.const (.slice none 0 0))⟩,
    ⟨none, some 11, .mv (.const (.int .i64 6))⟩])
  (.ret)) (.skip))))
  (.rg [⟨none, some 47, .mv (.tmp 14)⟩,
    ⟨none, some 48, .bin .add (.tmp 47) (.const (.int .i64 1))⟩,
    ⟨none, some 14, .mv (.tmp 48)⟩]))
def ac22_L1 (q : Option (Nat × Nat)) : AC := .seq (.seq (.rg [⟨none, some 139, .mv (.tmp 27)⟩,
    ⟨none, some 140, .mv (.tmp 25)⟩,
    ⟨none, some 141, .len (.tmp 140)⟩,
    ⟨none, some 142, .bin .lss (.tmp 139) (.tmp 141)⟩])
  (.cond (.tmp 142) (.skip) (.exit 4)))
  (.seq (.blk 5 (.dr [(false, [(0, 0), (1, 0), (2, 0), (3, 0), (4, 0)], [⟨none, some 146, .loadA 6 (.tmp 12)⟩,
    ⟨none, some 147, .mv (.tmp 25)⟩,
    ⟨none, some 148, .mv (.tmp 27)⟩,
    ⟨none, some 149, .idx 4 (.tmp 147) (.tmp 148)⟩,
    ⟨none, some 150, .loadA 4 (.tmp 149)⟩]),
   (true, [(5, 0), (6, 0)], [⟨none, some 151, .call 14 [.tmp 146, .tmp 150]⟩,
    ⟨none, some 145, .mv (.tmp 151)⟩]),
   (false, [(7, 0), (8, 0), (9, 1)], [⟨none, some 152, .extract (.tmp 145) 0⟩,
    ⟨none, some 153, .extract (.tmp 145) 1⟩,
    ⟨none, none, .store 6 (.tmp 12) (.tmp 152)⟩])]))
  (.rg [⟨none, some 143, .mv (.tmp 27)⟩,
    ⟨none, some 144, .bin .add (.tmp 143) (.const (.int .i64 1))⟩,
    ⟨none, some 27, .mv (.tmp 144)⟩]))
def ac22_L2 (q : Option (Nat × Nat)) : AC := .seq (.seq (.rg [⟨none, some 160, .mv (.tmp 30)⟩,
    ⟨none, some 161, .mv (.tmp 28)⟩,
    ⟨none, some 162, .len (.tmp 161)⟩,
    ⟨none, some 163, .bin .lss (.tmp 160) (.tmp 162)⟩])
  (.cond (.tmp 163) (.skip) (.exit 6)))
  (.seq (.blk 7 (.dr [(false, [(0, 0), (1, 0), (2, 0), (3, 0), (4, 0)], [⟨none, some 167, .loadA 6 (.tmp 15)⟩,
    ⟨none, some 168, .mv (.tmp 28)⟩,
    ⟨none, some 169, .mv (.tmp 30)⟩,
    ⟨none, some 170, .idx 4 (.tmp 168) (.tmp 169)⟩,
    ⟨none, some 171, .loadA 4 (.tmp 170)⟩]),
   (true, [(5, 0), (6, 0)], [⟨none, some 172, .call 14 [.tmp 167, .tmp 171]⟩,
    ⟨none, some 166, .mv (.tmp 172)⟩]),
   (false, [(7, 0), (8, 0), (9, 1)], [⟨none, some 173, .extract (.tmp 166) 0⟩,
    ⟨none, some 174, .extract (.tmp 166) 1⟩,
    ⟨none, none, .store 6 (.tmp 15) (.tmp 173)⟩])]))
  (.rg [⟨none, some 164, .mv (.tmp 30)⟩,
    ⟨none, some 165, .bin .add (.tmp 164) (.const (.int .i64 1))⟩,
    ⟨none, some 30, .mv (.tmp 165)⟩]))
def ac22_L3 (q : Option (Nat × Nat)) : AC := .seq (.seq (.rg [⟨none, some 85, .mv (.tmp 20)⟩,
    ⟨none, some 86, .mv (.tmp 2)⟩,
    ⟨none, some 87, .len (.tmp 86)⟩,
    ⟨none, some 88, .bin .lss (.tmp 85) (.tmp 87)⟩])
  (.cond (.tmp 88) (.skip) (.exit 2)))
  (.seq (.blk 3 (.seq (.dr [(false, [(0, 0), (1, 0), (2, 0), (3, 0), (4, 0), (5, 0)], [⟨none, some 92, .loadA 6 (.tmp 12)⟩,
    ⟨none, some 93, .mv (.tmp 2)⟩,
    ⟨none, some 94, .mv (.tmp 20)⟩,
    ⟨none, some 95, .idx 2 (.tmp 93) (.tmp 94)⟩,
    ⟨none, some 96, .idxA 2 1 (.tmp 95) (.const (.int .i64 0))⟩,
    ⟨none, some 97, .load (.tmp 96)⟩]),
   (true, [(6, 0), (7, 0)], [⟨none, some 98, .call 12 [.tmp 92, .tmp 97]⟩,
    ⟨none, some 91, .mv (.tmp 98)⟩]),
   (false, [(8, 0), (9, 0), (10, 1)], [⟨none, some 99, .extract (.tmp 91) 0⟩,
    ⟨none, some 100, .extract (.tmp 91) 1⟩,
    ⟨none, none, .store 6 (.tmp 12) (.tmp 99)⟩])])
  (.seq (.dr [(false, [(0, 0), (1, 0), (2, 0), (3, 0), (4, 0), (5, 0)], [⟨none, some 102, .loadA 6 (.tmp 15)⟩,
    ⟨none, some 103, .mv (.tmp 2)⟩,
    ⟨none, some 104, .mv (.tmp 20)⟩,
    ⟨none, some 105, .idx 2 (.tmp 103) (.tmp 104)⟩,
    ⟨none, some 106, .idxA 2 1 (.tmp 105) (.const (.int .i64 1))⟩,
    ⟨none, some 107, .load (.tmp 106)⟩]),
   (true, [(6, 0), (7, 0)], [⟨none, some 108, .call 12 [.tmp 102, .tmp 107]⟩,
    ⟨none, some 101, .mv (.tmp 108)⟩]),
   (false, [(8, 0), (9, 0), (10, 1)], [⟨none, some 109, .extract (.tmp 101) 0⟩,
    ⟨none, some 110, .extract (.tmp 101) 1⟩,
    ⟨none, none, .store 6 (.tmp 15) (.tmp 109)⟩])])
  (.seq (.seq (.rg [⟨none, some 112, .loadA 6 (.tmp 12)⟩,
    ⟨none, some 113, .call 16 [.tmp 112]⟩,
    ⟨none, some 111, .mv (.tmp 113)⟩,
    ⟨none, some 114, .extract (.tmp 111) 0⟩,
    ⟨none, some 115, .extract (.tmp 111) 1⟩,
    ⟨none, some 21, .alloc 25 [.p (.v (.int .i64 0)), .p (.v (.int .i64 0)), .p (.v (.int .u8 0)), .p (.v (.int .i64 0))]⟩,
    ⟨none, none, .store 4 (.tmp 21) (.tmp 114)⟩,
    ⟨none, some 22, .mv (.tmp 115)⟩])
  (.seq (.rg [⟨none, some 116, .mv (.tmp 22)⟩,
    ⟨none, some 117, .bin .eql (.tmp 116) (.const (.int .i64 0))⟩])
  (.cond (.tmp 117) (.rg [⟨none, some 118, .mv (.tmp 17)⟩,
    ⟨none, some 119, .mv (.tmp 20)⟩,
    ⟨none, some 120, .loadA 4 (.tmp 21)⟩,
    ⟨none, some 121, .call 42 [.tmp 118, .tmp 119, .tmp 120]⟩]) (.skip))))
  (.seq (.seq (.rg [⟨none, some 123, .loadA 6 (.tmp 15)⟩,
    ⟨none, some 124, .call 16 [.tmp 123]⟩,
    ⟨none, some 122, .mv (.tmp 124)⟩,
    ⟨none, some 125, .extract (.tmp 122) 0⟩,
    ⟨none, some 126, .extract (.tmp 122) 1⟩,
    ⟨none, some 23, .alloc 25 [.p (.v (.int .i64 0)), .p (.v (.int .i64 0)), .p (.v (.int .u8 0)), .p (.v (.int .i64 0))]⟩,
    ⟨none, none, .store 4 (.tmp 23) (.tmp 125)⟩,
    ⟨none, some 24, .mv (.tmp 126)⟩])
  (.seq (.rg [⟨none, some 127, .mv (.tmp 24)⟩,
    ⟨none, some 128, .bin .eql (.tmp 127) (.const (.int .i64 0))⟩])
  (.cond (.tmp 128) (.rg [⟨none, some 129, .mv (.tmp 18)⟩,
    ⟨none, some 130, .mv (.tmp 20)⟩,
    ⟨none, some 131, .loadA 4 (.tmp 23)⟩,
    ⟨none, some 132, .call 42 [.tmp 129, .tmp 130, .tmp 131]⟩]) (.skip))))
  (.seq (.rg [⟨none, some 134, .mv (.tmp 18)⟩,
    ⟨none, some 135, .mv (.tmp 20)⟩,
    ⟨none, some 136, .call 43 [.tmp 134, .tmp 135]⟩,
    ⟨none, some 133, .mv (.tmp 136)⟩,
    ⟨none, some 137, .extract (.tmp 133) 0⟩,
    ⟨none, some 138, .extract (.tmp 133) 1⟩,
    ⟨none, some 25, .mv (.tmp 137)⟩,
    ⟨none, some 26, .mv (.tmp 138)⟩])
  (.seq (.seq (.rg [⟨none, some 27, .mv (.const (.int .i64 0))⟩])
  (.blk 4 (.loop q [2, 12, 15, 17, 18, 19, 20, 25, 27] (ac22_L1 q))))
  (.seq (.rg [⟨none, some 155, .mv (.tmp 17)⟩,
    ⟨none, some 156, .mv (.tmp 20)⟩,
    ⟨none, some 157, .call 43 [.tmp 155, .tmp 156]⟩,
    ⟨none, some 154, .mv (.tmp 157)⟩,
    ⟨none, some 158, .extract (.tmp 154) 0⟩,
    ⟨none, some 159, .extract (.tmp 154) 1⟩,
    ⟨none, some 28, .mv (.tmp 158)⟩,
    ⟨none, some 29, .mv (.tmp 159)⟩])
  (.seq (.seq (.rg [⟨none, some 30, .mv (.const (.int .i64 0))⟩])
  (.blk 6 (.loop q [2, 12, 15, 17, 18, 19, 20, 28, 30] (ac22_L2 q))))
  (.rg [⟨none, some 175, .mv (.tmp 19)⟩,
    ⟨none, some 176, .loadA 6 (.tmp 12)⟩,
    ⟨none, some 177, .loadA 6 (.tmp 15)⟩,
    ⟨none, some 178, .build [.p (.v (.int .i64 0)), .p (.v (.int .i64 0)), .p (.v (.int .u8 0)), .p (.v (.int .i64 0)), .p (.v (.int .u8 0)), .p (.v (.int .i64 0)), .p (.v (.int .i64 0)), .p (.v (.int .i64 0)), .p (.v (.int .u8 0)), .p (.v (.int .i64 0)), .p (.v (.int .u8 0)), .p (.v (.int .i64 0))] [(0, 6, .tmp 176), (6, 6, .tmp 177)]⟩,
    ⟨none, some 179, .bslice false 45 1 12 [.p (.v (.int .i64 0)), .p (.v (.int .i64 0)), .p (.v (.int .u8 0)), .p (.v (.int .i64 0)), .p (.v (.int .u8 0)), .p (.v (.int .i64 0)), .p (.v (.int .i64 0)), .p (.v (.int .i64 0)), .p (.v (.int .u8 0)), .p (.v (.int .i64 0)), .p (.v (.int .u8 0)), .p (.v (.int .i64 0))] [(0, 12, .tmp 178)]⟩,
    ⟨none, some 180, .append 45 12 96 (.tmp 175) (.tmp 179)⟩,
    ⟨none, some 19, .mv (.tmp 180)⟩]))))))))))
  (.rg [⟨none, some 89, .mv (.tmp 20)⟩,
    ⟨none, some 90, .bin .add (.tmp 89) (.const (.int .i64 1))⟩,
    ⟨none, some 20, .mv (.tmp 90)⟩]))
def ac22 (q : Option (Nat × Nat)) : AC := .seq (.rg [⟨none, some 10, .mv (.const (.slice none 0 0))⟩,
    ⟨none, some 11, .mv (.const (.int .i64 0))⟩])
  (.seq (.rg [⟨none, some 32, .mv (.tmp 0)⟩,
    ⟨none, some 33, .mv (.tmp 1)⟩,
    ⟨none, some 34, .call 18 [.tmp 32, .tmp 33]⟩,
    ⟨none, some 31, .mv (.tmp 34)⟩,
    ⟨none, some 35, .extract (.tmp 31) 0⟩,
    ⟨none, some 36, .extract (.tmp 31) 1⟩,
    ⟨none, some 12, .alloc 23 [.p (.v (.int .i64 0)), .p (.v (.int .i64 0)), .p (.v (.int .u8 0)), .p (.v (.int .i64 0)), .p (.v (.int .u8 0)), .p (.v (.int .i64 0))]⟩,
    ⟨none, none, .store 6 (.tmp 12) (.tmp 35)⟩,
    ⟨none, some 13, .mv (.tmp 36)⟩])
  (.seq (.seq (.rg [⟨none, some 37, .mv (.tmp 13)⟩,
    ⟨none, some 38, .bin .neq (.tmp 37) (.const (.int .i64 0))⟩])
  (.cond (.tmp 38) (.seq (.rg [⟨none, some 39, .mv (.tmp 13)⟩,
    ⟨none, some 10, .mv (.const (.slice none 0 0))⟩,
    ⟨none, some 11, .mv (.tmp 39)⟩])
  (.ret)) (.skip)))
  (.seq (.seq (.rg [⟨none, some 40, .mv (.tmp 2)⟩,
    ⟨none, some 41, .len (.tmp 40)⟩,
    ⟨none, some 42, .bin .gtr (.tmp 41) (.const (.int .i64 64))⟩])
  (.cond (.tmp 42) (.seq (.rg [⟨none, some 10, .mv (.const (.slice none 0 0))⟩,
    ⟨none, some 11, .mv (.const (.int .i64 4))⟩])
  (.ret)) (.skip)))
  (.seq (.seq (.rg [⟨none, some 14, .mv (.const (.int .i64 0))⟩])
  (.blk 0 (.loop q [0, 1, 2, 3, 4, 12, 14] (ac22_L0 q))))
  (.seq (.rg [⟨none, some 64, .mv (.tmp 1)⟩,
    ⟨none, some 65, .mv (.tmp 0)⟩,
    ⟨none, some 66, .call 18 [.tmp 64, .tmp 65]⟩,
    ⟨none, some 63, .mv (.tmp 66)⟩,
    ⟨none, some 67, .extract (.tmp 63) 0⟩,
    ⟨none, some 68, .extract (.tmp 63) 1⟩,
    ⟨none, some 15, .alloc 23 [.p (.v (.int .i64 0)), .p (.v (.int .i64 0)), .p (.v (.int .u8 0)), .p (.v (.int .i64 0)), .p (.v (.int .u8 0)), .p (.v (.int .i64 0))]⟩,
    ⟨none, none, .store 6 (.tmp 15) (.tmp 67)⟩,
    ⟨none, some 16, .mv (.tmp 68)⟩])
  (.seq (.rg [⟨none, some 70, .mv (.tmp 3)⟩,
    ⟨none, some 71, .call 41 [.tmp 70]⟩,
    ⟨none, some 69, .mv (.tmp 71)⟩,
    ⟨none, some 72, .extract (.tmp 69) 0⟩,
    ⟨none, some 73, .extract (.tmp 69) 1⟩,
    ⟨none, some 17, .mv (.tmp 72)⟩,
    ⟨none, some 13, .mv (.tmp 73)⟩])
  (.seq (.seq (.rg [⟨none, some 74, .mv (.tmp 13)⟩,
    ⟨none, some 75, .bin .neq (.tmp 74) (.const (.int .i64 0))⟩])
  (.cond (.tmp 75) (.seq (.rg [⟨none, some 76, .mv (.tmp 13)⟩,
    ⟨none, some 10, .mv (.const (.slice none 0 0))⟩,
    ⟨none, some 11, .mv (.tmp 76)⟩])
  (.ret)) (.skip)))
  (.seq (.rg [⟨none, some 78, .mv (.tmp 4)⟩,
    ⟨none, some 79, .call 41 [.tmp 78]⟩,
    ⟨none, some 77, .mv (.tmp 79)⟩,
    ⟨none, some 80, .extract (.tmp 77) 0⟩,
    ⟨none, some 81, .extract (.tmp 77) 1⟩,
    ⟨none, some 18, .mv (.tmp 80)⟩,
    ⟨none, some 13, .mv (.tmp 81)⟩])
  (.seq (.seq (.rg [⟨none, some 82, .mv (.tmp 13)⟩,
    ⟨none, some 83, .bin .neq (.tmp 82) (.const (.int .i64 0))⟩])
  (.cond (.tmp 83) (.seq (.rg [⟨none, some 84, .mv (.tmp 13)⟩,
    ⟨none, some 10, .mv (.const (.slice none 0 0))⟩,
    ⟨none, some 11, .mv (.tmp 84)⟩])
  (.ret)) (.skip)))
  (.seq (.rg [⟨none, some 19, .mv (.const (.slice none 0 0))⟩])
  (.seq (.seq (.rg [⟨none, some 20, .mv (.const (.int .i64 0))⟩])
  (.blk 2 (.loop q [2, 12, 15, 17, 18, 19, 20] (ac22_L3 q))))
  (.seq (.rg [⟨none, some 181, .mv (.tmp 19)⟩,
    ⟨none, some 10, .mv (.tmp 181)⟩,
    ⟨none, some 11, .mv (.const (.int .i64 0))⟩])
  (.ret)))))))))))))
theorem ac22_ok (q : Option (Nat × Nat)) : compF Go.Proofs.Try.prog Go.Proofs.Try.f22 (ac22 q) = some (ac22 q, [.tmp 10, .tmp 11]) := by kernel_rfl

/- clearway coordinate.Run -/
def ac23_L0 (q : Option (Nat × Nat)) : AC := .seq (.rg [⟨none, some 78, .bin .lss (.tmp 77) (.const (.int .i64 2))⟩])
  (.seq (.cond (.tmp 78) (.skip) (.exit 2))
  (.seq (.blk 3 (.seq (.rg [⟨none, some 79, .mv (.tmp 77)⟩,
    ⟨none, some 22, .mv (.tmp 79)⟩])
  (.dr [(false, [(0, 0), (1, 0), (2, 0), (3, 0), (4, 0), (5, 0), (6, 0), (7, 0), (8, 0)], [⟨none, some 80, .mv (.tmp 22)⟩,
    ⟨none, some 81, .mv (.tmp 22)⟩,
    ⟨none, some 82, .mv (.tmp 20)⟩,
    ⟨none, some 83, .mv (.tmp 22)⟩,
    ⟨none, some 84, .idxA 2 1 (.tmp 21) (.tmp 83)⟩,
    ⟨none, some 85, .load (.tmp 84)⟩,
    ⟨none, some 86, .idxA 2 10 (.tmp 18) (.tmp 80)⟩,
    ⟨none, some 87, .fieldA 8 (.tmp 86)⟩,
    ⟨none, none, .store 1 (.tmp 87) (.tmp 82)⟩]),
   (true, [(9, 0), (10, 0), (11, 0)], [⟨none, some 88, .idxA 2 10 (.tmp 18) (.tmp 81)⟩,
    ⟨none, some 89, .fieldA 9 (.tmp 88)⟩,
    ⟨none, none, .store 1 (.tmp 89) (.tmp 85)⟩])])))
  (.rg [⟨none, some 90, .bin .add (.tmp 77) (.const (.int .i64 1))⟩,
    ⟨none, some 77, .mv (.tmp 90)⟩])))
def ac23_L1 (q : Option (Nat × Nat)) : AC := .seq (.rg [⟨none, some 93, .bin .lss (.tmp 92) (.const (.int .i64 3))⟩])
  (.seq (.cond (.tmp 93) (.skip) (.exit 4))
  (.seq (.blk 5 (.seq (.rg [⟨none, some 94, .index 3 1 false (.tmp 91) (.tmp 92)⟩,
    ⟨none, some 24, .mv (.tmp 94)⟩])
  (.seq (.rg [⟨none, some 95, .mv (.tmp 24)⟩,
    ⟨none, some 96, .idxA 2 10 (.tmp 18) (.const (.int .i64 0))⟩,
    ⟨none, some 97, .callv (.tmp 95) [.tmp 96]⟩])
  (.rg [⟨none, some 98, .mv (.tmp 24)⟩,
    ⟨none, some 99, .idxA 2 10 (.tmp 18) (.const (.int .i64 1))⟩,
    ⟨none, some 100, .callv (.tmp 98) [.tmp 99]⟩]))))
  (.rg [⟨none, some 101, .bin .add (.tmp 92) (.const (.int .i64 1))⟩,
    ⟨none, some 92, .mv (.tmp 101)⟩])))
def ac23_L2 (q : Option (Nat × Nat)) : AC := .seq (.rg [⟨none, some 73, .bin .lss (.tmp 72) (.tmp 71)⟩])
  (.seq (.cond (.tmp 73) (.skip) (.exit 0))
  (.seq (.blk 1 (.seq (.rg [⟨none, some 74, .mv (.tmp 72)⟩,
    ⟨none, some 75, .idx 2 (.tmp 70) (.tmp 72)⟩,
    ⟨none, some 76, .loadA 2 (.tmp 75)⟩,
    ⟨none, some 21, .alloc 46 [.p (.v (.int .u8 0)), .p (.v (.int .u8 0))]⟩,
    ⟨none, some 20, .mv (.tmp 74)⟩,
    ⟨none, none, .store 2 (.tmp 21) (.tmp 76)⟩])
  (.seq (.seq (.rg [⟨none, some 77, .mv (.const (.int .i64 0))⟩])
  (.blk 2 (.loop q [18, 19, 20, 21, 70, 71, 72, 77] (ac23_L0 q))))
  (.seq (.seq (.rg [⟨none, some 91, .build [.p (.v .nilFunc), .p (.v .nilFunc), .p (.v .nilFunc)] [(0, 1, .func 47), (1, 1, .func 48), (2, 1, .func 49)]⟩,
    ⟨none, some 92, .mv (.const (.int .i64 0))⟩])
  (.blk 4 (.loop q [18, 19, 70, 71, 72, 91, 92] (ac23_L1 q))))
  (.rg [⟨none, some 102, .mv (.tmp 19)⟩,
    ⟨none, some 103, .idxA 2 10 (.tmp 18) (.const (.int .i64 0))⟩,
    ⟨none, some 104, .fieldA 0 (.tmp 103)⟩,
    ⟨none, some 105, .loadA 6 (.tmp 104)⟩,
    ⟨none, some 106, .idxA 2 10 (.tmp 18) (.const (.int .i64 1))⟩,
    ⟨none, some 107, .fieldA 0 (.tmp 106)⟩,
    ⟨none, some 108, .loadA 6 (.tmp 107)⟩,
    ⟨none, some 109, .build [.p (.v (.int .i64 0)), .p (.v (.int .i64 0)), .p (.v (.int .u8 0)), .p (.v (.int .i64 0)), .p (.v (.int .u8 0)), .p (.v (.int .i64 0)), .p (.v (.int .i64 0)), .p (.v (.int .i64 0)), .p (.v (.int .u8 0)), .p (.v (.int .i64 0)), .p (.v (.int .u8 0)), .p (.v (.int .i64 0))] [(0, 6, .tmp 105), (6, 6, .tmp 108)]⟩,
    ⟨none, some 110, .bslice false 45 1 12 [.p (.v (.int .i64 0)), .p (.v (.int .i64 0)), .p (.v (.int .u8 0)), .p (.v (.int .i64 0)), .p (.v (.int .u8 0)), .p (.v (.int .i64 0)), .p (.v (.int .i64 0)), .p (.v (.int .i64 0)), .p (.v (.int .u8 0)), .p (.v (.int .i64 0)), .p (.v (.int .u8 0)), .p (.v (.int .i64 0))] [(0, 12, .tmp 109)]⟩,
    ⟨none, some 111, .append 45 12 96 (.tmp 102) (.tmp 110)⟩,
    ⟨none, some 19, .mv (.tmp 111)⟩])))))
  (.rg [⟨none, some 112, .bin .add (.tmp 72) (.const (.int .i64 1))⟩,
    ⟨none, some 72, .mv (.tmp 112)⟩])))
def ac23 (q : Option (Nat × Nat)) : AC := .seq (.rg [⟨none, some 10, .mv (.const (.slice none 0 0))⟩,
    ⟨none, some 11, .mv (.const (.int .i64 0))⟩])
  (.seq (.rg [⟨none, some 26, .mv (.tmp 0)⟩,
    ⟨none, some 27, .mv (.tmp 1)⟩,
    ⟨none, some 28, .call 17 [.tmp 26, .tmp 27]⟩,
    ⟨none, some 25, .mv (.tmp 28)⟩,
    ⟨none, some 29, .extract (.tmp 25) 0⟩,
    ⟨none, some 30, .extract (.tmp 25) 1⟩,
    ⟨none, some 12, .alloc 23 [.p (.v (.int .i64 0)), .p (.v (.int .i64 0)), .p (.v (.int .u8 0)), .p (.v (.int .i64 0)), .p (.v (.int .u8 0)), .p (.v (.int .i64 0))]⟩,
    ⟨none, none, .store 6 (.tmp 12) (.tmp 29)⟩,
    ⟨none, some 13, .mv (.tmp 30)⟩])
  (.seq (.seq (.rg [⟨none, some 31, .mv (.tmp 13)⟩,
    ⟨none, some 32, .bin .neq (.tmp 31) (.const (.int .i64 0))⟩])
  (.cond (.tmp 32) (.seq (.rg [⟨none, some 33, .mv (.tmp 13)⟩,
    ⟨none, some 10, .mv (.const (.slice none 0 0))⟩,
    ⟨none, some 11, .mv (.tmp 33)⟩])
  (.ret)) (.skip)))
  (.seq (.seq (.rg [⟨none, some 34, .mv (.tmp 2)⟩,
    ⟨none, some 35, .len (.tmp 34)⟩,
    ⟨none, some 36, .bin .gtr (.tmp 35) (.const (.int .i64 64))⟩])
  (.cond (.tmp 36) (.seq (.rg [⟨none, some 10, .mv (.const (.slice none 0 0))⟩,
    ⟨none, some 11, .mv (.const (.int .i64 4))⟩])
  (.ret)) (.skip)))
  (.seq (.seq (.rg [⟨none, some 37, .mv (.tmp 2)⟩,
    ⟨none, some 38, .call 44 [.tmp 37, .func 45]⟩])
  (.cond (.tmp 38) (.seq (.rg [⟨none, some 10, .mv (.const (.slice none 0 0))⟩,
    ⟨none, some 11, .mv (.const (.int .i64 6))⟩])
  (.ret)) (.skip)))
  (.seq (.rg [⟨none, some 40, .mv (.tmp 3)⟩,
    ⟨none, some 41, .call 46 [.tmp 40]⟩,
    ⟨none, some 39, .mv (.tmp 41)⟩,
    ⟨none, some 42, .extract (.tmp 39) 0⟩,
    ⟨none, some 43, .extract (.tmp 39) 1⟩,
    ⟨none, some 14, .mv (.tmp 42)⟩,
    ⟨none, some 13, .mv (.tmp 43)⟩])
  (.seq (.seq (.rg [⟨none, some 44, .mv (.tmp 13)⟩,
    ⟨none, some 45, .bin .neq (.tmp 44) (.const (.int .i64 0))⟩])
  (.cond (.tmp 45) (.seq (.rg [⟨none, some 46, .mv (.tmp 13)⟩,
    ⟨none, some 10, .mv (.const (.slice none 0 0))⟩,
    ⟨none, some 11, .mv (.tmp 46)⟩])
  (.ret)) (.skip)))
  (.seq (.rg [⟨none, some 48, .mv (.tmp 4)⟩,
    ⟨none, some 49, .call 46 [.tmp 48]⟩,
    ⟨none, some 47, .mv (.tmp 49)⟩,
    ⟨none, some 50, .extract (.tmp 47) 0⟩,
    ⟨none, some 51, .extract (.tmp 47) 1⟩,
    ⟨none, some 15, .mv (.tmp 50)⟩,
    ⟨none, some 13, .mv (.tmp 51)⟩])
  (.seq (.seq (.rg [⟨none, some 52, .mv (.tmp 13)⟩,
    ⟨none, some 53, .bin .neq (.tmp 52) (.const (.int .i64 0))⟩])
  (.cond (.tmp 53) (.seq (.rg [⟨none, some 54, .mv (.tmp 13)⟩,
    ⟨none, some 10, .mv (.const (.slice none 0 0))⟩,
    ⟨none, some 11, .mv (.tmp 54)⟩])
  (.ret)) (.skip)))
  (.seq (.rg [⟨none, some 56, .mv (.tmp 1)⟩,
    ⟨none, some 57, .mv (.tmp 0)⟩,
    ⟨none, some 58, .call 17 [.tmp 56, .tmp 57]⟩,
    ⟨none, some 55, .mv (.tmp 58)⟩,
    ⟨none, some 59, .extract (.tmp 55) 0⟩,
    ⟨none, some 60, .extract (.tmp 55) 1⟩,
    ⟨none, some 16, .alloc 23 [.p (.v (.int .i64 0)), .p (.v (.int .i64 0)), .p (.v (.int .u8 0)), .p (.v (.int .i64 0)), .p (.v (.int .u8 0)), .p (.v (.int .i64 0))]⟩,
    ⟨none, none, .store 6 (.tmp 16) (.tmp 59)⟩,
    ⟨none, some 17, .mv (.tmp 60)⟩])
  (.seq (.rg [⟨none, some 61, .loadA 6 (.tmp 12)⟩,
    ⟨none, some 62, .mv (.tmp 14)⟩,
    ⟨none, some 63, .mv (.tmp 15)⟩,
    ⟨none, some 64, .build [.p (.v (.int .i64 0)), .p (.v (.int .i64 0)), .p (.v (.int .u8 0)), .p (.v (.int .i64 0)), .p (.v (.int .u8 0)), .p (.v (.int .i64 0)), .p (.v (.pointer none)), .p (.v (.pointer none)), .p (.v (.int .i64 0)), .p (.v (.int .u8 0))] [(0, 6, .tmp 61), (6, 1, .tmp 62), (7, 1, .tmp 63)]⟩,
    ⟨none, some 65, .loadA 6 (.tmp 16)⟩,
    ⟨none, some 66, .mv (.tmp 15)⟩,
    ⟨none, some 67, .mv (.tmp 14)⟩,
    ⟨none, some 68, .build [.p (.v (.int .i64 0)), .p (.v (.int .i64 0)), .p (.v (.int .u8 0)), .p (.v (.int .i64 0)), .p (.v (.int .u8 0)), .p (.v (.int .i64 0)), .p (.v (.pointer none)), .p (.v (.pointer none)), .p (.v (.int .i64 0)), .p (.v (.int .u8 0))] [(0, 6, .tmp 65), (6, 1, .tmp 66), (7, 1, .tmp 67)]⟩,
    ⟨none, some 69, .build ([.p (.v (.int .i64 0)), .p (.v (.int .i64 0))] ++ [.p (.v (.int .u8 0))] ++ [.p (.v (.int .i64 0))] ++ [.p (.v (.int .u8 0))] ++ [.p (.v (.int .i64 0))] ++ [.p (.v (.pointer none)), .p (.v (.pointer none))] ++ [.p (.v (.int .i64 0))] ++ [.p (.v (.int .u8 0))] ++ [.p (.v (.int .i64 0)), .p (.v (.int .i64 0))] ++ [.p (.v (.int .u8 0))] ++ [.p (.v (.int .i64 0))] ++ [.p (.v (.int .u8 0))] ++ [.p (.v (.int .i64 0))] ++ [.p (.v (.pointer none)), .p (.v (.pointer none))] ++ [.p (.v (.int .i64 0))] ++ [.p (.v (.int .u8 0))]) [(0, 10, .tmp 64), (10, 10, .tmp 68)]⟩,
    ⟨none, some 18, .allocL 85 [(2, .int .i64 0), (1, .int .u8 0), (1, .int .i64 0), (1, .int .u8 0), (1, .int .i64 0), (1, .pointer none), (1, .pointer none), (1, .int .i64 0), (1, .int .u8 0), (2, .int .i64 0), (1, .int .u8 0), (1, .int .i64 0), (1, .int .u8 0), (1, .int .i64 0), (1, .pointer none), (1, .pointer none), (1, .int .i64 0), (1, .int .u8 0)]⟩,
    ⟨none, none, .store 20 (.tmp 18) (.tmp 69)⟩])
  (.seq (.rg [⟨none, some 19, .mv (.const (.slice none 0 0))⟩])
  (.seq (.seq (.rg [⟨none, some 70, .mv (.tmp 2)⟩,
    ⟨none, some 71, .len (.tmp 70)⟩,
    ⟨none, some 72, .mv (.const (.int .i64 0))⟩])
  (.blk 0 (.loop q [18, 19, 70, 71, 72] (ac23_L2 q))))
  (.seq (.rg [⟨none, some 113, .mv (.tmp 19)⟩,
    ⟨none, some 10, .mv (.tmp 113)⟩,
    ⟨none, some 11, .mv (.const (.int .i64 0))⟩])
  (.ret))))))))))))))
theorem ac23_ok (q : Option (Nat × Nat)) : compF Go.Proofs.Try.prog Go.Proofs.Try.f23 (ac23 q) = some (ac23 q, [.tmp 10, .tmp 11]) := by kernel_rfl

/- clearway clearwaylaw34.same -/
def ac24_L0 (q : Option (Nat × Nat)) : AC := .seq (.seq (.rg [⟨none, some 11, .mv (.tmp 5)⟩,
    ⟨none, some 12, .mv (.tmp 0)⟩,
    ⟨none, some 13, .len (.tmp 12)⟩,
    ⟨none, some 14, .bin .lss (.tmp 11) (.tmp 13)⟩])
  (.cond (.tmp 14) (.skip) (.exit 0)))
  (.seq (.blk 1 (.seq (.dr [(false, [(0, 0), (1, 0), (2, 0), (3, 0), (4, 0), (5, 0), (6, 0), (7, 0)], [⟨none, some 17, .mv (.tmp 0)⟩,
    ⟨none, some 18, .mv (.tmp 5)⟩,
    ⟨none, some 19, .idx 12 (.tmp 17) (.tmp 18)⟩,
    ⟨none, some 20, .loadA 12 (.tmp 19)⟩,
    ⟨none, some 21, .mv (.tmp 1)⟩,
    ⟨none, some 22, .mv (.tmp 5)⟩,
    ⟨none, some 23, .idx 12 (.tmp 21) (.tmp 22)⟩,
    ⟨none, some 24, .loadA 12 (.tmp 23)⟩]),
   (true, [(8, 0)], [⟨none, some 25, .eqA [false, false, false, false, false, false, false, false, false, false, false, false] true (.tmp 20) (.tmp 24)⟩])])
  (.cond (.tmp 25) (.seq (.rg [⟨none, some 4, .mv (.const (.bool false))⟩])
  (.ret)) (.skip))))
  (.rg [⟨none, some 15, .mv (.tmp 5)⟩,
    ⟨none, some 16, .bin .add (.tmp 15) (.const (.int .i64 1))⟩,
    ⟨none, some 5, .mv (.tmp 16)⟩]))
def ac24 (q : Option (Nat × Nat)) : AC := .seq (.rg [⟨none, some 4, .mv (.const (.bool false))⟩])
  (.seq (.seq (.rg [⟨none, some 6, .mv (.tmp 0)⟩,
    ⟨none, some 7, .len (.tmp 6)⟩,
    ⟨none, some 8, .mv (.tmp 1)⟩,
    ⟨none, some 9, .len (.tmp 8)⟩,
    ⟨none, some 10, .bin .neq (.tmp 7) (.tmp 9)⟩])
  (.cond (.tmp 10) (.seq (.rg [⟨none, some 4, .mv (.const (.bool false))⟩])
  (.ret)) (.skip)))
  (.seq (.seq (.rg [⟨none, some 5, .mv (.const (.int .i64 0))⟩])
  (.blk 0 (.loop q [0, 1, 5] (ac24_L0 q))))
  (.seq (.rg [⟨none, some 4, .mv (.const (.bool true))⟩])
  (.ret))))
theorem ac24_ok (q : Option (Nat × Nat)) : compF Go.Proofs.Try.prog Go.Proofs.Try.f24 (ac24 q) = some (ac24 q, [.tmp 4]) := by kernel_rfl

/- clearway coordinate.Safe -/
def ac25 (q : Option (Nat × Nat)) : AC := .seq (.rg [⟨none, some 2, .box 23 (.tmp 0)⟩,
    ⟨none, some 3, .box 23 (.tmp 1)⟩,
    ⟨none, some 4, .mv (.const (.bool false))⟩])
  (.seq (.rg [⟨none, some 5, .fieldA 2 (.tmp 2)⟩,
    ⟨none, some 6, .load (.tmp 5)⟩,
    ⟨none, some 7, .fieldA 2 (.tmp 3)⟩,
    ⟨none, some 8, .load (.tmp 7)⟩,
    ⟨none, some 9, .call 50 [.tmp 6, .tmp 8]⟩,
    ⟨none, some 10, .un .not (.tmp 9)⟩,
    ⟨none, some 4, .mv (.tmp 10)⟩])
  (.ret))
theorem ac25_ok (q : Option (Nat × Nat)) : compF Go.Proofs.Try.prog Go.Proofs.Try.f25 (ac25 q) = some (ac25 q, [.tmp 4]) := by kernel_rfl

/- clearway coordinate.Agreed -/
def ac26 (q : Option (Nat × Nat)) : AC := .seq (.rg [⟨none, some 2, .box 23 (.tmp 0)⟩,
    ⟨none, some 3, .box 23 (.tmp 1)⟩,
    ⟨none, some 4, .mv (.const (.bool false))⟩])
  (.seq (.rg [⟨none, some 5, .fieldA 5 (.tmp 2)⟩,
    ⟨none, some 6, .load (.tmp 5)⟩,
    ⟨none, some 7, .fieldA 3 (.tmp 3)⟩,
    ⟨none, some 8, .load (.tmp 7)⟩,
    ⟨none, some 9, .bin .eql (.tmp 6) (.tmp 8)⟩,
    ⟨none, some 10, .mv (.tmp 9)⟩,
    ⟨some (10, true), some 11, .fieldA 5 (.tmp 3)⟩,
    ⟨some (10, true), some 12, .load (.tmp 11)⟩,
    ⟨some (10, true), some 13, .fieldA 3 (.tmp 2)⟩,
    ⟨some (10, true), some 14, .load (.tmp 13)⟩,
    ⟨some (10, true), some 15, .bin .eql (.tmp 12) (.tmp 14)⟩,
    ⟨none, some 16, .pick (.tmp 10) (.tmp 15) (.const (.bool false))⟩,
    ⟨none, some 4, .mv (.tmp 16)⟩])
  (.ret))
theorem ac26_ok (q : Option (Nat × Nat)) : compF Go.Proofs.Try.prog Go.Proofs.Try.f26 (ac26 q) = some (ac26 q, [.tmp 4]) := by kernel_rfl

/- clearway clearwaylaw34.cut -/
def ac27_L0 (q : Option (Nat × Nat)) : AC := .seq (.seq (.rg [⟨none, some 5, .mv (.tmp 4)⟩,
    ⟨none, some 6, .mv (.tmp 0)⟩,
    ⟨none, some 7, .len (.tmp 6)⟩,
    ⟨none, some 8, .bin .lss (.tmp 5) (.tmp 7)⟩,
    ⟨none, some 9, .mv (.tmp 8)⟩,
    ⟨some (9, true), some 10, .mv (.tmp 4)⟩,
    ⟨some (9, true), some 11, .bin .lss (.tmp 10) (.const (.int .i64 24))⟩,
    ⟨none, some 12, .pick (.tmp 9) (.tmp 11) (.const (.bool false))⟩])
  (.cond (.tmp 12) (.skip) (.exit 0)))
  (.seq (.blk 1 (.dr [(false, [(0, 0), (1, 0), (2, 0), (3, 0), (4, 0), (5, 0), (6, 0), (7, 0), (8, 0), (9, 0), (10, 0), (11, 0), (12, 0), (13, 0), (14, 0)], [⟨none, some 15, .mv (.tmp 3)⟩,
    ⟨none, some 16, .mv (.tmp 0)⟩,
    ⟨none, some 17, .mv (.tmp 4)⟩,
    ⟨none, some 18, .idx 2 (.tmp 16) (.tmp 17)⟩,
    ⟨none, some 19, .idxA 2 1 (.tmp 18) (.const (.int .i64 0))⟩,
    ⟨none, some 20, .load (.tmp 19)⟩,
    ⟨none, some 21, .bin .rem (.tmp 20) (.const (.int .u8 3))⟩,
    ⟨none, some 22, .mv (.tmp 0)⟩,
    ⟨none, some 23, .mv (.tmp 4)⟩,
    ⟨none, some 24, .idx 2 (.tmp 22) (.tmp 23)⟩,
    ⟨none, some 25, .idxA 2 1 (.tmp 24) (.const (.int .i64 1))⟩,
    ⟨none, some 26, .load (.tmp 25)⟩,
    ⟨none, some 27, .bin .rem (.tmp 26) (.const (.int .u8 3))⟩,
    ⟨none, some 28, .build [.p (.v (.int .u8 0)), .p (.v (.int .u8 0))] [(0, 1, .tmp 21), (1, 1, .tmp 27)]⟩,
    ⟨none, some 29, .bslice false 46 1 2 [.p (.v (.int .u8 0)), .p (.v (.int .u8 0))] [(0, 2, .tmp 28)]⟩]),
   (true, [(15, 0), (16, 0)], [⟨none, some 30, .append 46 2 2 (.tmp 15) (.tmp 29)⟩,
    ⟨none, some 3, .mv (.tmp 30)⟩])]))
  (.rg [⟨none, some 13, .mv (.tmp 4)⟩,
    ⟨none, some 14, .bin .add (.tmp 13) (.const (.int .i64 1))⟩,
    ⟨none, some 4, .mv (.tmp 14)⟩]))
def ac27 (q : Option (Nat × Nat)) : AC := .seq (.rg [⟨none, some 2, .mv (.const (.slice none 0 0))⟩])
  (.seq (.rg [⟨none, some 3, .mv (.const (.slice none 0 0))⟩])
  (.seq (.seq (.rg [⟨none, some 4, .mv (.const (.int .i64 0))⟩])
  (.blk 0 (.loop q [0, 3, 4] (ac27_L0 q))))
  (.seq (.rg [⟨none, some 31, .mv (.tmp 3)⟩,
    ⟨none, some 2, .mv (.tmp 31)⟩])
  (.ret))))
theorem ac27_ok (q : Option (Nat × Nat)) : compF Go.Proofs.Try.prog Go.Proofs.Try.f27 (ac27 q) = some (ac27 q, [.tmp 2]) := by kernel_rfl

/- clearway clearwaylaw34.fates -/
def ac28_L0 (q : Option (Nat × Nat)) : AC := .seq (.seq (.rg [⟨none, some 7, .mv (.tmp 6)⟩,
    ⟨none, some 8, .mv (.tmp 0)⟩,
    ⟨none, some 9, .len (.tmp 8)⟩,
    ⟨none, some 10, .bin .lss (.tmp 7) (.tmp 9)⟩,
    ⟨none, some 11, .mv (.tmp 10)⟩,
    ⟨some (11, true), some 12, .mv (.tmp 6)⟩,
    ⟨some (11, true), some 13, .bin .lss (.tmp 12) (.const (.int .i64 40))⟩,
    ⟨none, some 14, .pick (.tmp 11) (.tmp 13) (.const (.bool false))⟩])
  (.cond (.tmp 14) (.skip) (.exit 0)))
  (.seq (.blk 1 (.rg [⟨none, some 17, .mv (.tmp 5)⟩,
    ⟨none, some 18, .mv (.tmp 0)⟩,
    ⟨none, some 19, .mv (.tmp 6)⟩,
    ⟨none, some 20, .idx 1 (.tmp 18) (.tmp 19)⟩,
    ⟨none, some 21, .load (.tmp 20)⟩,
    ⟨none, some 22, .conv .i64 (.tmp 21)⟩,
    ⟨none, some 23, .mv (.tmp 1)⟩,
    ⟨none, some 24, .bin .add (.tmp 23) (.const (.int .i64 2))⟩,
    ⟨none, some 25, .bin .rem (.tmp 22) (.tmp 24)⟩,
    ⟨none, some 26, .bin .sub (.tmp 25) (.const (.int .i64 1))⟩,
    ⟨none, some 27, .bslice false 3 1 1 [.p (.v (.int .i64 0))] [(0, 1, .tmp 26)]⟩,
    ⟨none, some 28, .append 3 1 8 (.tmp 17) (.tmp 27)⟩,
    ⟨none, some 5, .mv (.tmp 28)⟩]))
  (.rg [⟨none, some 15, .mv (.tmp 6)⟩,
    ⟨none, some 16, .bin .add (.tmp 15) (.const (.int .i64 1))⟩,
    ⟨none, some 6, .mv (.tmp 16)⟩]))
def ac28 (q : Option (Nat × Nat)) : AC := .seq (.rg [⟨none, some 4, .mv (.const (.slice none 0 0))⟩])
  (.seq (.rg [⟨none, some 5, .mv (.const (.slice none 0 0))⟩])
  (.seq (.seq (.rg [⟨none, some 6, .mv (.const (.int .i64 0))⟩])
  (.blk 0 (.loop q [0, 1, 5, 6] (ac28_L0 q))))
  (.seq (.rg [⟨none, some 29, .mv (.tmp 5)⟩,
    ⟨none, some 4, .mv (.tmp 29)⟩])
  (.ret))))
theorem ac28_ok (q : Option (Nat × Nat)) : compF Go.Proofs.Try.prog Go.Proofs.Try.f28 (ac28 q) = some (ac28 q, [.tmp 4]) := by kernel_rfl

/- clearway clearwaylaw34.sound -/
def ac29 (q : Option (Nat × Nat)) : AC := .seq (.rg [⟨none, some 1, .box 45 (.tmp 0)⟩,
    ⟨none, some 2, .mv (.const (.bool false))⟩])
  (.seq (.dr [(false, [(0, 0), (1, 0), (2, 0), (3, 0), (4, 2), (5, 0), (6, 0)], [⟨none, some 5, .fieldA 0 (.tmp 1)⟩,
    ⟨none, some 6, .loadA 6 (.tmp 5)⟩,
    ⟨none, some 7, .fieldA 6 (.tmp 1)⟩,
    ⟨none, some 8, .loadA 6 (.tmp 7)⟩,
    ⟨none, some 3, .alloc 23 [.p (.v (.int .i64 0)), .p (.v (.int .i64 0)), .p (.v (.int .u8 0)), .p (.v (.int .i64 0)), .p (.v (.int .u8 0)), .p (.v (.int .i64 0))]⟩,
    ⟨none, some 4, .alloc 23 [.p (.v (.int .i64 0)), .p (.v (.int .i64 0)), .p (.v (.int .u8 0)), .p (.v (.int .i64 0)), .p (.v (.int .u8 0)), .p (.v (.int .i64 0))]⟩,
    ⟨none, none, .store 6 (.tmp 3) (.tmp 6)⟩]),
   (true, [(7, 0)], [⟨none, none, .store 6 (.tmp 4) (.tmp 8)⟩])])
  (.seq (.seq (.rg [⟨none, some 9, .loadA 6 (.tmp 3)⟩,
    ⟨none, some 10, .call 40 [.tmp 9]⟩,
    ⟨none, some 11, .un .not (.tmp 10)⟩])
  (.cond (.tmp 11) (.dr [(false, [(0, 0), (1, 0), (2, 0), (3, 0), (4, 0)], [⟨none, some 12, .fieldA 6 (.tmp 1)⟩,
    ⟨none, some 13, .loadA 6 (.tmp 12)⟩,
    ⟨none, some 14, .fieldA 0 (.tmp 1)⟩,
    ⟨none, some 15, .loadA 6 (.tmp 14)⟩,
    ⟨none, none, .store 6 (.tmp 3) (.tmp 13)⟩]),
   (true, [(5, 0)], [⟨none, none, .store 6 (.tmp 4) (.tmp 15)⟩])]) (.skip)))
  (.seq (.seq (.rg [⟨none, some 16, .fieldA 0 (.tmp 1)⟩,
    ⟨none, some 17, .loadA 6 (.tmp 16)⟩,
    ⟨none, some 18, .fieldA 6 (.tmp 1)⟩,
    ⟨none, some 19, .loadA 6 (.tmp 18)⟩,
    ⟨none, some 20, .call 26 [.tmp 17, .tmp 19]⟩,
    ⟨none, some 21, .mv (.tmp 20)⟩,
    ⟨some (21, true), some 22, .fieldA 0 (.tmp 1)⟩,
    ⟨some (21, true), some 23, .loadA 6 (.tmp 22)⟩,
    ⟨some (21, true), some 24, .fieldA 6 (.tmp 1)⟩,
    ⟨some (21, true), some 25, .loadA 6 (.tmp 24)⟩,
    ⟨some (21, true), some 26, .call 25 [.tmp 23, .tmp 25]⟩,
    ⟨some (21, true), some 27, .un .not (.tmp 26)⟩,
    ⟨none, some 28, .pick (.tmp 21) (.tmp 27) (.const (.bool false))⟩])
  (.cond (.tmp 28) (.seq (.rg [⟨none, some 2, .mv (.const (.bool false))⟩])
  (.ret)) (.skip)))
  (.seq (.rg [⟨none, some 29, .fieldA 5 (.tmp 4)⟩,
    ⟨none, some 30, .load (.tmp 29)⟩,
    ⟨none, some 31, .fieldA 3 (.tmp 3)⟩,
    ⟨none, some 32, .load (.tmp 31)⟩,
    ⟨none, some 33, .bin .neq (.tmp 30) (.tmp 32)⟩,
    ⟨none, some 34, .mv (.tmp 33)⟩,
    ⟨some (34, false), some 35, .fieldA 0 (.tmp 1)⟩,
    ⟨some (34, false), some 36, .loadA 6 (.tmp 35)⟩,
    ⟨some (34, false), some 37, .fieldA 6 (.tmp 1)⟩,
    ⟨some (34, false), some 38, .loadA 6 (.tmp 37)⟩,
    ⟨some (34, false), some 39, .call 25 [.tmp 36, .tmp 38]⟩,
    ⟨none, some 40, .pick (.tmp 34) (.const (.bool true)) (.tmp 39)⟩,
    ⟨none, some 2, .mv (.tmp 40)⟩])
  (.ret)))))
theorem ac29_ok (q : Option (Nat × Nat)) : compF Go.Proofs.Try.prog Go.Proofs.Try.f29 (ac29 q) = some (ac29 q, [.tmp 2]) := by kernel_rfl

/- clearway clearwaylaw34.four -/
def ac30_L0 (q : Option (Nat × Nat)) : AC := .seq (.seq (.rg [⟨none, some 14, .mv (.tmp 10)⟩,
    ⟨none, some 15, .bin .lss (.tmp 14) (.const (.int .i64 4))⟩])
  (.cond (.tmp 15) (.skip) (.exit 0)))
  (.seq (.blk 1 (.dr [(false, [(0, 0), (1, 0), (2, 0), (3, 0), (4, 0), (5, 0), (6, 0), (7, 0), (8, 0), (9, 0), (10, 0)], [⟨none, some 18, .mv (.tmp 9)⟩,
    ⟨none, some 19, .mv (.tmp 2)⟩,
    ⟨none, some 20, .mv (.tmp 10)⟩,
    ⟨none, some 21, .idx 1 (.tmp 19) (.tmp 20)⟩,
    ⟨none, some 22, .load (.tmp 21)⟩,
    ⟨none, some 23, .mv (.tmp 3)⟩,
    ⟨none, some 24, .mv (.tmp 10)⟩,
    ⟨none, some 25, .idx 1 (.tmp 23) (.tmp 24)⟩,
    ⟨none, some 26, .load (.tmp 25)⟩,
    ⟨none, some 27, .build [.p (.v (.int .u8 0)), .p (.v (.int .u8 0))] [(0, 1, .tmp 22), (1, 1, .tmp 26)]⟩,
    ⟨none, some 28, .bslice false 46 1 2 [.p (.v (.int .u8 0)), .p (.v (.int .u8 0))] [(0, 2, .tmp 27)]⟩]),
   (true, [(11, 0), (12, 0)], [⟨none, some 29, .append 46 2 2 (.tmp 18) (.tmp 28)⟩,
    ⟨none, some 9, .mv (.tmp 29)⟩])]))
  (.rg [⟨none, some 16, .mv (.tmp 10)⟩,
    ⟨none, some 17, .bin .add (.tmp 16) (.const (.int .i64 1))⟩,
    ⟨none, some 10, .mv (.tmp 17)⟩]))
def ac30_L1 (q : Option (Nat × Nat)) : AC := .seq (.seq (.rg [⟨none, some 44, .mv (.tmp 13)⟩,
    ⟨none, some 45, .bin .lss (.tmp 44) (.const (.int .i64 4))⟩])
  (.cond (.tmp 45) (.skip) (.exit 2)))
  (.seq (.blk 3 (.seq (.dr [(false, [(0, 0), (1, 0)], [⟨none, some 48, .mv (.tmp 11)⟩,
    ⟨none, some 49, .mv (.tmp 13)⟩]),
   (true, [(2, 0), (3, 0), (4, 0), (5, 0), (6, 0)], [⟨none, some 50, .idx 12 (.tmp 48) (.tmp 49)⟩,
    ⟨none, some 51, .loadA 12 (.tmp 50)⟩,
    ⟨none, some 52, .call 29 [.tmp 51]⟩,
    ⟨none, some 53, .un .not (.tmp 52)⟩,
    ⟨none, some 54, .mv (.tmp 53)⟩]),
   (false, [(7, 0), (8, 0), (9, 0), (10, 0), (11, 0), (12, 0), (13, 0), (14, 0), (15, 0), (16, 0)], [⟨some (54, false), some 55, .mv (.tmp 11)⟩,
    ⟨some (54, false), some 56, .mv (.tmp 13)⟩,
    ⟨some (54, false), some 57, .idx 12 (.tmp 55) (.tmp 56)⟩,
    ⟨some (54, false), some 58, .fieldA 0 (.tmp 57)⟩,
    ⟨some (54, false), some 59, .fieldA 2 (.tmp 58)⟩,
    ⟨some (54, false), some 60, .load (.tmp 59)⟩,
    ⟨some (54, false), some 61, .mv (.tmp 2)⟩,
    ⟨some (54, false), some 62, .mv (.tmp 13)⟩,
    ⟨some (54, false), some 63, .idx 1 (.tmp 61) (.tmp 62)⟩,
    ⟨some (54, false), some 64, .load (.tmp 63)⟩]),
   (true, [(17, 0), (18, 0)], [⟨some (54, false), some 65, .bin .neq (.tmp 60) (.tmp 64)⟩,
    ⟨none, some 66, .pick (.tmp 54) (.const (.bool true)) (.tmp 65)⟩])])
  (.cond (.tmp 66) (.seq (.rg [⟨none, some 8, .mv (.const (.bool false))⟩])
  (.ret)) (.skip))))
  (.rg [⟨none, some 46, .mv (.tmp 13)⟩,
    ⟨none, some 47, .bin .add (.tmp 46) (.const (.int .i64 1))⟩,
    ⟨none, some 13, .mv (.tmp 47)⟩]))
def ac30 (q : Option (Nat × Nat)) : AC := .seq (.rg [⟨none, some 8, .mv (.const (.bool false))⟩])
  (.seq (.rg [⟨none, some 9, .mv (.const (.slice none 0 0))⟩])
  (.seq (.seq (.rg [⟨none, some 10, .mv (.const (.int .i64 0))⟩])
  (.blk 0 (.loop q [0, 1, 2, 3, 9, 10] (ac30_L0 q))))
  (.seq (.rg [⟨none, some 31, .mv (.tmp 9)⟩,
    ⟨none, some 32, .mv (.tmp 0)⟩,
    ⟨none, some 33, .mv (.tmp 1)⟩,
    ⟨none, some 34, .call 23 [.const (.int .i64 1), .const (.int .i64 2), .tmp 31, .tmp 32, .tmp 33]⟩,
    ⟨none, some 30, .mv (.tmp 34)⟩,
    ⟨none, some 35, .extract (.tmp 30) 0⟩,
    ⟨none, some 36, .extract (.tmp 30) 1⟩,
    ⟨none, some 11, .mv (.tmp 35)⟩,
    ⟨none, some 12, .mv (.tmp 36)⟩])
  (.seq (.seq (.rg [⟨none, some 37, .mv (.tmp 12)⟩,
    ⟨none, some 38, .bin .neq (.tmp 37) (.const (.int .i64 0))⟩,
    ⟨none, some 39, .mv (.tmp 38)⟩,
    ⟨some (39, false), some 40, .mv (.tmp 11)⟩,
    ⟨some (39, false), some 41, .len (.tmp 40)⟩,
    ⟨some (39, false), some 42, .bin .neq (.tmp 41) (.const (.int .i64 4))⟩,
    ⟨none, some 43, .pick (.tmp 39) (.const (.bool true)) (.tmp 42)⟩])
  (.cond (.tmp 43) (.seq (.rg [⟨none, some 8, .mv (.const (.bool false))⟩])
  (.ret)) (.skip)))
  (.seq (.seq (.rg [⟨none, some 13, .mv (.const (.int .i64 0))⟩])
  (.blk 2 (.loop q [2, 11, 13] (ac30_L1 q))))
  (.seq (.rg [⟨none, some 8, .mv (.const (.bool true))⟩])
  (.ret)))))))
theorem ac30_ok (q : Option (Nat × Nat)) : compF Go.Proofs.Try.prog Go.Proofs.Try.f30 (ac30 q) = some (ac30 q, [.tmp 8]) := by kernel_rfl

/- clearway coordinate.take -/
def ac31 (q : Option (Nat × Nat)) : AC := .seq (.rg [⟨none, some 2, .box 23 (.tmp 0)⟩,
    ⟨none, some 4, .alloc 23 [.p (.v (.int .i64 0)), .p (.v (.int .i64 0)), .p (.v (.int .u8 0)), .p (.v (.int .i64 0)), .p (.v (.int .u8 0)), .p (.v (.int .i64 0))]⟩,
    ⟨none, some 5, .mv (.const (.int .i64 0))⟩])
  (.seq (.blk 0 (.seq (.rg [⟨none, some 7, .mv (.tmp 1)⟩,
    ⟨none, some 8, .fieldA 2 (.tmp 2)⟩,
    ⟨none, some 9, .load (.tmp 8)⟩,
    ⟨none, some 10, .bin .eql (.tmp 7) (.tmp 9)⟩,
    ⟨none, some 6, .mv (.tmp 10)⟩])
  (.cond (.tmp 6) (.seq (.rg [⟨none, some 11, .loadA 6 (.tmp 2)⟩,
    ⟨none, none, .store 6 (.tmp 4) (.tmp 11)⟩,
    ⟨none, some 5, .mv (.const (.int .i64 0))⟩])
  (.ret)) (.seq (.rg [⟨none, some 13, .fieldA 3 (.tmp 2)⟩,
    ⟨none, some 14, .load (.tmp 13)⟩,
    ⟨none, some 15, .bin .eql (.tmp 14) (.const (.int .i64 1048575))⟩,
    ⟨none, some 12, .mv (.tmp 15)⟩])
  (.cond (.tmp 12) (.seq (.rg [⟨none, some 16, .build [.p (.v (.int .i64 0)), .p (.v (.int .i64 0)), .p (.v (.int .u8 0)), .p (.v (.int .i64 0)), .p (.v (.int .u8 0)), .p (.v (.int .i64 0))] []⟩,
    ⟨none, none, .store 6 (.tmp 4) (.tmp 16)⟩,
    ⟨none, some 5, .mv (.const (.int .i64 17))⟩])
  (.ret)) (.skip))))))
  (.seq (.rg [⟨none, some 17, .mv (.tmp 1)⟩,
    ⟨none, some 18, .fieldA 2 (.tmp 2)⟩,
    ⟨none, none, .store 1 (.tmp 18) (.tmp 17)⟩])
  (.seq (.rg [⟨none, some 19, .fieldA 3 (.tmp 2)⟩,
    ⟨none, some 20, .load (.tmp 19)⟩,
    ⟨none, some 21, .bin .add (.tmp 20) (.const (.int .i64 1))⟩,
    ⟨none, some 22, .fieldA 3 (.tmp 2)⟩,
    ⟨none, none, .store 1 (.tmp 22) (.tmp 21)⟩])
  (.seq (.rg [⟨none, some 23, .loadA 6 (.tmp 2)⟩,
    ⟨none, none, .store 6 (.tmp 4) (.tmp 23)⟩,
    ⟨none, some 5, .mv (.const (.int .i64 0))⟩])
  (.ret)))))
theorem ac31_ok (q : Option (Nat × Nat)) : compF Go.Proofs.Try.prog Go.Proofs.Try.f31 (ac31 q) = some (ac31 q, [.cell 4 (some 6), .tmp 5]) := by kernel_rfl

/- clearway coordinate.yielding -/
def ac32 (q : Option (Nat × Nat)) : AC := .seq (.rg [⟨none, some 2, .box 23 (.tmp 0)⟩,
    ⟨none, some 4, .mv (.const (.int .u8 0))⟩])
  (.seq (.seq (.rg [⟨none, some 5, .loadA 6 (.tmp 2)⟩,
    ⟨none, some 6, .call 40 [.tmp 5]⟩,
    ⟨none, some 7, .un .not (.tmp 6)⟩,
    ⟨none, some 8, .mv (.tmp 7)⟩,
    ⟨some (8, true), some 9, .mv (.tmp 1)⟩,
    ⟨some (8, true), some 10, .fieldA 4 (.tmp 2)⟩,
    ⟨some (8, true), some 11, .load (.tmp 10)⟩,
    ⟨some (8, true), some 12, .call 50 [.tmp 9, .tmp 11]⟩,
    ⟨none, some 13, .pick (.tmp 8) (.tmp 12) (.const (.bool false))⟩])
  (.cond (.tmp 13) (.seq (.rg [⟨none, some 14, .mv (.tmp 1)⟩,
    ⟨none, some 15, .bin .sub (.const (.int .u8 3)) (.tmp 14)⟩,
    ⟨none, some 4, .mv (.tmp 15)⟩])
  (.ret)) (.skip)))
  (.seq (.rg [⟨none, some 16, .mv (.tmp 1)⟩,
    ⟨none, some 4, .mv (.tmp 16)⟩])
  (.ret)))
theorem ac32_ok (q : Option (Nat × Nat)) : compF Go.Proofs.Try.prog Go.Proofs.Try.f32 (ac32 q) = some (ac32 q, [.tmp 4]) := by kernel_rfl

/- clearway clearwayref34.like -/
def ac33 (q : Option (Nat × Nat)) : AC := .seq (.rg [⟨none, some 4, .mv (.const (.bool false))⟩])
  (.seq (.rg [⟨none, some 5, .mv (.tmp 0)⟩,
    ⟨none, some 6, .mv (.tmp 1)⟩,
    ⟨none, some 7, .bin .eql (.tmp 5) (.tmp 6)⟩,
    ⟨none, some 8, .mv (.tmp 7)⟩,
    ⟨some (8, true), some 9, .mv (.tmp 0)⟩,
    ⟨some (8, true), some 10, .bin .neq (.tmp 9) (.const (.int .u8 0))⟩,
    ⟨none, some 11, .pick (.tmp 8) (.tmp 10) (.const (.bool false))⟩,
    ⟨none, some 4, .mv (.tmp 11)⟩])
  (.ret))
theorem ac33_ok (q : Option (Nat × Nat)) : compF Go.Proofs.Try.prog Go.Proofs.Try.f33 (ac33 q) = some (ac33 q, [.tmp 4]) := by kernel_rfl

/- clearway clearwayref34.take -/
def ac34 (q : Option (Nat × Nat)) : AC := .seq (.rg [⟨none, some 2, .box 23 (.tmp 0)⟩,
    ⟨none, some 4, .alloc 23 [.p (.v (.int .i64 0)), .p (.v (.int .i64 0)), .p (.v (.int .u8 0)), .p (.v (.int .i64 0)), .p (.v (.int .u8 0)), .p (.v (.int .i64 0))]⟩,
    ⟨none, some 5, .mv (.const (.int .i64 0))⟩])
  (.seq (.seq (.rg [⟨none, some 6, .mv (.tmp 1)⟩,
    ⟨none, some 7, .fieldA 2 (.tmp 2)⟩,
    ⟨none, some 8, .load (.tmp 7)⟩,
    ⟨none, some 9, .bin .eql (.tmp 6) (.tmp 8)⟩])
  (.cond (.tmp 9) (.seq (.rg [⟨none, some 10, .loadA 6 (.tmp 2)⟩,
    ⟨none, none, .store 6 (.tmp 4) (.tmp 10)⟩,
    ⟨none, some 5, .mv (.const (.int .i64 0))⟩])
  (.ret)) (.skip)))
  (.seq (.seq (.rg [⟨none, some 11, .fieldA 3 (.tmp 2)⟩,
    ⟨none, some 12, .load (.tmp 11)⟩,
    ⟨none, some 13, .bin .eql (.tmp 12) (.const (.int .i64 1048575))⟩])
  (.cond (.tmp 13) (.seq (.rg [⟨none, some 14, .build [.p (.v (.int .i64 0)), .p (.v (.int .i64 0)), .p (.v (.int .u8 0)), .p (.v (.int .i64 0)), .p (.v (.int .u8 0)), .p (.v (.int .i64 0))] []⟩,
    ⟨none, none, .store 6 (.tmp 4) (.tmp 14)⟩,
    ⟨none, some 5, .mv (.const (.int .i64 17))⟩])
  (.ret)) (.skip)))
  (.seq (.rg [⟨none, some 15, .mv (.tmp 1)⟩,
    ⟨none, some 16, .fieldA 2 (.tmp 2)⟩,
    ⟨none, none, .store 1 (.tmp 16) (.tmp 15)⟩])
  (.seq (.rg [⟨none, some 17, .fieldA 3 (.tmp 2)⟩,
    ⟨none, some 18, .load (.tmp 17)⟩,
    ⟨none, some 19, .bin .add (.tmp 18) (.const (.int .i64 1))⟩,
    ⟨none, some 20, .fieldA 3 (.tmp 2)⟩,
    ⟨none, none, .store 1 (.tmp 20) (.tmp 19)⟩])
  (.seq (.rg [⟨none, some 21, .loadA 6 (.tmp 2)⟩,
    ⟨none, none, .store 6 (.tmp 4) (.tmp 21)⟩,
    ⟨none, some 5, .mv (.const (.int .i64 0))⟩])
  (.ret))))))
theorem ac34_ok (q : Option (Nat × Nat)) : compF Go.Proofs.Try.prog Go.Proofs.Try.f34 (ac34 q) = some (ac34 q, [.cell 4 (some 6), .tmp 5]) := by kernel_rfl

/- clearway clearwayref34.opposite -/
def ac35 (q : Option (Nat × Nat)) : AC := .seq (.rg [⟨none, some 2, .mv (.const (.int .u8 0))⟩])
  (.seq (.rg [⟨none, some 3, .mv (.tmp 0)⟩,
    ⟨none, some 4, .bin .sub (.const (.int .u8 3)) (.tmp 3)⟩,
    ⟨none, some 2, .mv (.tmp 4)⟩])
  (.ret))
theorem ac35_ok (q : Option (Nat × Nat)) : compF Go.Proofs.Try.prog Go.Proofs.Try.f35 (ac35 q) = some (ac35 q, [.tmp 2]) := by kernel_rfl

/- clearway lock.Check -/
def ac36 (q : Option (Nat × Nat)) : AC := .seq (.rg [⟨none, some 1, .box 25 (.tmp 0)⟩,
    ⟨none, some 2, .mv (.const (.int .i64 0))⟩])
  (.seq (.rg [⟨none, some 3, .mv (.func 51)⟩])
  (.seq (.blk 0 (.seq (.rg [⟨none, some 5, .mv (.tmp 3)⟩,
    ⟨none, some 6, .fieldA 0 (.tmp 1)⟩,
    ⟨none, some 7, .load (.tmp 6)⟩,
    ⟨none, some 8, .callv (.tmp 5) [.tmp 7]⟩,
    ⟨none, some 9, .mv (.tmp 8)⟩,
    ⟨some (9, false), some 10, .mv (.tmp 3)⟩,
    ⟨some (9, false), some 11, .fieldA 1 (.tmp 1)⟩,
    ⟨some (9, false), some 12, .load (.tmp 11)⟩,
    ⟨some (9, false), some 13, .callv (.tmp 10) [.tmp 12]⟩,
    ⟨none, some 14, .pick (.tmp 9) (.const (.bool true)) (.tmp 13)⟩,
    ⟨none, some 15, .mv (.tmp 14)⟩,
    ⟨some (15, false), some 16, .fieldA 0 (.tmp 1)⟩,
    ⟨some (15, false), some 17, .load (.tmp 16)⟩,
    ⟨some (15, false), some 18, .fieldA 1 (.tmp 1)⟩,
    ⟨some (15, false), some 19, .load (.tmp 18)⟩,
    ⟨some (15, false), some 20, .bin .eql (.tmp 17) (.tmp 19)⟩,
    ⟨none, some 21, .pick (.tmp 15) (.const (.bool true)) (.tmp 20)⟩,
    ⟨none, some 4, .mv (.tmp 21)⟩])
  (.cond (.tmp 4) (.seq (.rg [⟨none, some 2, .mv (.const (.int .i64 1))⟩])
  (.ret)) (.seq (.rg [⟨none, some 23, .fieldA 2 (.tmp 1)⟩,
    ⟨none, some 24, .load (.tmp 23)⟩,
    ⟨none, some 25, .bin .gtr (.tmp 24) (.const (.int .u8 2))⟩,
    ⟨none, some 22, .mv (.tmp 25)⟩])
  (.cond (.tmp 22) (.seq (.rg [⟨none, some 2, .mv (.const (.int .i64 6))⟩])
  (.ret)) (.seq (.rg [⟨none, some 27, .fieldA 3 (.tmp 1)⟩,
    ⟨none, some 28, .load (.tmp 27)⟩,
    ⟨none, some 29, .bin .lss (.tmp 28) (.const (.int .i64 1))⟩,
    ⟨none, some 30, .mv (.tmp 29)⟩,
    ⟨some (30, false), some 31, .fieldA 3 (.tmp 1)⟩,
    ⟨some (30, false), some 32, .load (.tmp 31)⟩,
    ⟨some (30, false), some 33, .bin .gtr (.tmp 32) (.const (.int .i64 1048575))⟩,
    ⟨none, some 34, .pick (.tmp 30) (.const (.bool true)) (.tmp 33)⟩,
    ⟨none, some 26, .mv (.tmp 34)⟩])
  (.cond (.tmp 26) (.seq (.rg [⟨none, some 2, .mv (.const (.int .i64 1))⟩])
  (.ret)) (.skip))))))))
  (.seq (.rg [⟨none, some 2, .mv (.const (.int .i64 0))⟩])
  (.ret))))
theorem ac36_ok (q : Option (Nat × Nat)) : compF Go.Proofs.Try.prog Go.Proofs.Try.f36 (ac36 q) = some (ac36 q, [.tmp 2]) := by kernel_rfl

/- clearway clearwayref32.Check -/
def ac37 (q : Option (Nat × Nat)) : AC := .seq (.rg [⟨none, some 1, .box 25 (.tmp 0)⟩,
    ⟨none, some 2, .mv (.const (.int .i64 0))⟩])
  (.seq (.seq (.rg [⟨none, some 3, .fieldA 0 (.tmp 1)⟩,
    ⟨none, some 4, .load (.tmp 3)⟩,
    ⟨none, some 5, .bin .lss (.tmp 4) (.const (.int .i64 0))⟩,
    ⟨none, some 6, .mv (.tmp 5)⟩,
    ⟨some (6, false), some 7, .fieldA 0 (.tmp 1)⟩,
    ⟨some (6, false), some 8, .load (.tmp 7)⟩,
    ⟨some (6, false), some 9, .bin .gtr (.tmp 8) (.const (.int .i64 16777215))⟩,
    ⟨none, some 10, .pick (.tmp 6) (.const (.bool true)) (.tmp 9)⟩,
    ⟨none, some 11, .mv (.tmp 10)⟩,
    ⟨some (11, false), some 12, .fieldA 1 (.tmp 1)⟩,
    ⟨some (11, false), some 13, .load (.tmp 12)⟩,
    ⟨some (11, false), some 14, .bin .lss (.tmp 13) (.const (.int .i64 0))⟩,
    ⟨none, some 15, .pick (.tmp 11) (.const (.bool true)) (.tmp 14)⟩,
    ⟨none, some 16, .mv (.tmp 15)⟩,
    ⟨some (16, false), some 17, .fieldA 1 (.tmp 1)⟩,
    ⟨some (16, false), some 18, .load (.tmp 17)⟩,
    ⟨some (16, false), some 19, .bin .gtr (.tmp 18) (.const (.int .i64 16777215))⟩,
    ⟨none, some 20, .pick (.tmp 16) (.const (.bool true)) (.tmp 19)⟩,
    ⟨none, some 21, .mv (.tmp 20)⟩,
    ⟨some (21, false), some 22, .fieldA 0 (.tmp 1)⟩,
    ⟨some (21, false), some 23, .load (.tmp 22)⟩,
    ⟨some (21, false), some 24, .fieldA 1 (.tmp 1)⟩,
    ⟨some (21, false), some 25, .load (.tmp 24)⟩,
    ⟨some (21, false), some 26, .bin .eql (.tmp 23) (.tmp 25)⟩,
    ⟨none, some 27, .pick (.tmp 21) (.const (.bool true)) (.tmp 26)⟩])
  (.cond (.tmp 27) (.seq (.rg [⟨none, some 2, .mv (.const (.int .i64 1))⟩])
  (.ret)) (.skip)))
  (.seq (.seq (.rg [⟨none, some 28, .fieldA 2 (.tmp 1)⟩,
    ⟨none, some 29, .load (.tmp 28)⟩,
    ⟨none, some 30, .bin .gtr (.tmp 29) (.const (.int .u8 2))⟩])
  (.cond (.tmp 30) (.seq (.rg [⟨none, some 2, .mv (.const (.int .i64 6))⟩])
  (.ret)) (.skip)))
  (.seq (.seq (.rg [⟨none, some 31, .fieldA 3 (.tmp 1)⟩,
    ⟨none, some 32, .load (.tmp 31)⟩,
    ⟨none, some 33, .bin .lss (.tmp 32) (.const (.int .i64 1))⟩,
    ⟨none, some 34, .mv (.tmp 33)⟩,
    ⟨some (34, false), some 35, .fieldA 3 (.tmp 1)⟩,
    ⟨some (34, false), some 36, .load (.tmp 35)⟩,
    ⟨some (34, false), some 37, .bin .gtr (.tmp 36) (.const (.int .i64 1048575))⟩,
    ⟨none, some 38, .pick (.tmp 34) (.const (.bool true)) (.tmp 37)⟩])
  (.cond (.tmp 38) (.seq (.rg [⟨none, some 2, .mv (.const (.int .i64 1))⟩])
  (.ret)) (.skip)))
  (.seq (.rg [⟨none, some 2, .mv (.const (.int .i64 0))⟩])
  (.ret)))))
theorem ac37_ok (q : Option (Nat × Nat)) : compF Go.Proofs.Try.prog Go.Proofs.Try.f37 (ac37 q) = some (ac37 q, [.tmp 2]) := by kernel_rfl

/- clearway clearwayref34.pair -/
def ac38 (q : Option (Nat × Nat)) : AC := .seq (.rg [⟨none, some 4, .mv (.const (.bool false))⟩])
  (.seq (.rg [⟨none, some 5, .mv (.tmp 0)⟩,
    ⟨none, some 6, .bin .geq (.tmp 5) (.const (.int .i64 0))⟩,
    ⟨none, some 7, .mv (.tmp 6)⟩,
    ⟨some (7, true), some 8, .mv (.tmp 0)⟩,
    ⟨some (7, true), some 9, .bin .leq (.tmp 8) (.const (.int .i64 16777215))⟩,
    ⟨none, some 10, .pick (.tmp 7) (.tmp 9) (.const (.bool false))⟩,
    ⟨none, some 11, .mv (.tmp 10)⟩,
    ⟨some (11, true), some 12, .mv (.tmp 1)⟩,
    ⟨some (11, true), some 13, .bin .geq (.tmp 12) (.const (.int .i64 0))⟩,
    ⟨none, some 14, .pick (.tmp 11) (.tmp 13) (.const (.bool false))⟩,
    ⟨none, some 15, .mv (.tmp 14)⟩,
    ⟨some (15, true), some 16, .mv (.tmp 1)⟩,
    ⟨some (15, true), some 17, .bin .leq (.tmp 16) (.const (.int .i64 16777215))⟩,
    ⟨none, some 18, .pick (.tmp 15) (.tmp 17) (.const (.bool false))⟩,
    ⟨none, some 19, .mv (.tmp 18)⟩,
    ⟨some (19, true), some 20, .mv (.tmp 0)⟩,
    ⟨some (19, true), some 21, .mv (.tmp 1)⟩,
    ⟨some (19, true), some 22, .bin .neq (.tmp 20) (.tmp 21)⟩,
    ⟨none, some 23, .pick (.tmp 19) (.tmp 22) (.const (.bool false))⟩,
    ⟨none, some 4, .mv (.tmp 23)⟩])
  (.ret))
theorem ac38_ok (q : Option (Nat × Nat)) : compF Go.Proofs.Try.prog Go.Proofs.Try.f38 (ac38 q) = some (ac38 q, [.tmp 4]) := by kernel_rfl
end Go.Ab
