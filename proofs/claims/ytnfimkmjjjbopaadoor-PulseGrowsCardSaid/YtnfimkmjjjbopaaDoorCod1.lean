/- The codes of functions of this seat, as annotated, compared with the program by the kernel. No conditions. -/
import Derived.Test.YtnfimkmjjjbopaaDoorProg
import Derived.Test.YtnfimkmjjjbopaaDoorAbE
set_option linter.unusedVariables false
set_option linter.unusedSimpArgs false
namespace Go.Ab
/- clearway clearwaylaw10.PulseMakes -/
def ac3_L0 (q : Option (Nat × Nat)) : AC := .seq (.seq (.rg [⟨none, some 82, .mv (.tmp 17)⟩,
    ⟨none, some 83, .mv (.tmp 1)⟩,
    ⟨none, some 84, .len (.tmp 83)⟩,
    ⟨none, some 85, .bin .lss (.tmp 82) (.tmp 84)⟩])
  (.cond (.tmp 85) (.skip) (.exit 0)))
  (.seq (.blk 1 (.seq (.rg [⟨none, some 89, .mv (.tmp 8)⟩,
    ⟨none, some 90, .mv (.tmp 17)⟩,
    ⟨none, some 91, .idx 1 (.tmp 89) (.tmp 90)⟩,
    ⟨none, some 92, .load (.tmp 91)⟩,
    ⟨none, some 93, .mv (.tmp 2)⟩,
    ⟨none, some 94, .call 20 [.tmp 92, .tmp 93]⟩,
    ⟨none, some 88, .mv (.tmp 94)⟩,
    ⟨none, some 95, .extract (.tmp 88) 0⟩,
    ⟨none, some 96, .extract (.tmp 88) 1⟩,
    ⟨none, some 18, .mv (.tmp 95)⟩,
    ⟨none, some 19, .mv (.tmp 96)⟩])
  (.seq (.rg [⟨none, some 98, .mv (.tmp 1)⟩,
    ⟨none, some 99, .mv (.tmp 17)⟩,
    ⟨none, some 100, .idx 1 (.tmp 98) (.tmp 99)⟩,
    ⟨none, some 101, .load (.tmp 100)⟩,
    ⟨none, some 102, .mv (.tmp 2)⟩,
    ⟨none, some 103, .call 21 [.tmp 101, .tmp 102]⟩,
    ⟨none, some 97, .mv (.tmp 103)⟩,
    ⟨none, some 104, .extract (.tmp 97) 0⟩,
    ⟨none, some 105, .extract (.tmp 97) 1⟩,
    ⟨none, some 20, .mv (.tmp 104)⟩,
    ⟨none, some 21, .mv (.tmp 105)⟩])
  (.seq (.seq (.dr [(false, [(0, 0), (1, 0)], [⟨none, some 106, .mv (.tmp 19)⟩,
    ⟨none, some 107, .mv (.tmp 21)⟩]),
   (true, [(2, 0), (3, 0)], [⟨none, some 108, .bin .neq (.tmp 106) (.tmp 107)⟩,
    ⟨none, some 109, .mv (.tmp 108)⟩]),
   (false, [(4, 0), (5, 0)], [⟨some (109, false), some 110, .mv (.tmp 18)⟩,
    ⟨some (109, false), some 111, .mv (.tmp 20)⟩]),
   (true, [(6, 0), (7, 0), (8, 0), (9, 0)], [⟨some (109, false), some 112, .call 17 [.tmp 110, .tmp 111]⟩,
    ⟨some (109, false), some 113, .un .not (.tmp 112)⟩,
    ⟨none, some 114, .pick (.tmp 109) (.const (.bool true)) (.tmp 113)⟩,
    ⟨none, some 115, .mv (.tmp 114)⟩]),
   (false, [(10, 0), (11, 0), (12, 0), (13, 0), (15, 0), (16, 0), (17, 0), (18, 0), (14, 0)], [⟨some (115, false), some 116, .mv (.tmp 8)⟩,
    ⟨some (115, false), some 117, .mv (.tmp 17)⟩,
    ⟨some (115, false), some 118, .idx 1 (.tmp 116) (.tmp 117)⟩,
    ⟨some (115, false), some 119, .load (.tmp 118)⟩,
    ⟨some (115, false), some 121, .mv (.tmp 1)⟩,
    ⟨some (115, false), some 122, .mv (.tmp 17)⟩,
    ⟨some (115, false), some 123, .idx 1 (.tmp 121) (.tmp 122)⟩,
    ⟨some (115, false), some 124, .load (.tmp 123)⟩,
    ⟨some (115, false), some 120, .call 22 [.tmp 119]⟩]),
   (true, [(19, 0), (20, 0), (21, 0)], [⟨some (115, false), some 125, .call 23 [.tmp 124]⟩,
    ⟨some (115, false), some 126, .bin .neq (.tmp 120) (.tmp 125)⟩,
    ⟨none, some 127, .pick (.tmp 115) (.const (.bool true)) (.tmp 126)⟩])])
  (.cond (.tmp 127) (.seq (.rg [⟨none, some 6, .mv (.const (.bool false))⟩])
  (.ret)) (.skip)))
  (.seq (.rg [⟨none, some 128, .mv (.tmp 18)⟩,
    ⟨none, some 129, .call 19 [.tmp 128]⟩])
  (.seq (.dr [(false, [(0, 0), (1, 0), (2, 0), (3, 0), (4, 0), (5, 0), (6, 0), (7, 0)], [⟨none, some 130, .mv (.tmp 8)⟩,
    ⟨none, some 131, .mv (.tmp 17)⟩,
    ⟨none, some 132, .idx 1 (.tmp 130) (.tmp 131)⟩,
    ⟨none, some 133, .load (.tmp 132)⟩,
    ⟨none, some 134, .mv (.tmp 1)⟩,
    ⟨none, some 135, .mv (.tmp 17)⟩,
    ⟨none, some 136, .idx 1 (.tmp 134) (.tmp 135)⟩,
    ⟨none, some 137, .load (.tmp 136)⟩]),
   (true, [(8, 0), (9, 0)], [⟨none, some 138, .call 17 [.tmp 133, .tmp 137]⟩,
    ⟨none, some 139, .un .not (.tmp 138)⟩])])
  (.cond (.tmp 139) (.seq (.rg [⟨none, some 6, .mv (.const (.bool false))⟩])
  (.ret)) (.skip))))))))
  (.rg [⟨none, some 86, .mv (.tmp 17)⟩,
    ⟨none, some 87, .bin .add (.tmp 86) (.const (.int .i64 1))⟩,
    ⟨none, some 17, .mv (.tmp 87)⟩]))
def ac3 (q : Option (Nat × Nat)) : AC := .seq (.rg [⟨none, some 6, .mv (.const (.bool false))⟩])
  (.seq (.seq (.rg [⟨none, some 22, .mv (.tmp 0)⟩,
    ⟨none, some 23, .len (.tmp 22)⟩,
    ⟨none, some 24, .bin .gtr (.tmp 23) (.const (.int .i64 200))⟩,
    ⟨none, some 25, .mv (.tmp 24)⟩,
    ⟨some (25, false), some 26, .mv (.tmp 1)⟩,
    ⟨some (25, false), some 27, .call 9 [.tmp 26]⟩,
    ⟨none, some 28, .pick (.tmp 25) (.const (.bool true)) (.tmp 27)⟩])
  (.cond (.tmp 28) (.seq (.rg [⟨none, some 29, .call 10 []⟩,
    ⟨none, some 6, .mv (.tmp 29)⟩])
  (.ret)) (.skip)))
  (.seq (.rg [⟨none, some 30, .mv (.tmp 0)⟩,
    ⟨none, some 31, .call 11 [.tmp 30]⟩,
    ⟨none, some 32, .mv (.tmp 1)⟩,
    ⟨none, some 33, .call 12 [.tmp 32]⟩,
    ⟨none, some 7, .mv (.tmp 31)⟩,
    ⟨none, some 8, .mv (.tmp 33)⟩])
  (.seq (.rg [⟨none, some 35, .mv (.tmp 7)⟩,
    ⟨none, some 36, .call 13 [.tmp 35]⟩,
    ⟨none, some 34, .mv (.tmp 36)⟩,
    ⟨none, some 37, .extract (.tmp 34) 0⟩,
    ⟨none, some 38, .extract (.tmp 34) 1⟩,
    ⟨none, some 9, .mv (.tmp 37)⟩,
    ⟨none, some 10, .mv (.tmp 38)⟩])
  (.seq (.rg [⟨none, some 40, .mv (.tmp 0)⟩,
    ⟨none, some 41, .call 14 [.tmp 40]⟩,
    ⟨none, some 39, .mv (.tmp 41)⟩,
    ⟨none, some 42, .extract (.tmp 39) 0⟩,
    ⟨none, some 43, .extract (.tmp 39) 1⟩,
    ⟨none, some 11, .mv (.tmp 42)⟩,
    ⟨none, some 12, .mv (.tmp 43)⟩])
  (.seq (.rg [⟨none, some 45, .mv (.tmp 8)⟩,
    ⟨none, some 46, .call 15 [.tmp 45]⟩,
    ⟨none, some 44, .mv (.tmp 46)⟩,
    ⟨none, some 47, .extract (.tmp 44) 0⟩,
    ⟨none, some 48, .extract (.tmp 44) 1⟩,
    ⟨none, some 13, .mv (.tmp 47)⟩,
    ⟨none, some 14, .mv (.tmp 48)⟩])
  (.seq (.rg [⟨none, some 50, .mv (.tmp 1)⟩,
    ⟨none, some 51, .call 16 [.tmp 50]⟩,
    ⟨none, some 49, .mv (.tmp 51)⟩,
    ⟨none, some 52, .extract (.tmp 49) 0⟩,
    ⟨none, some 53, .extract (.tmp 49) 1⟩,
    ⟨none, some 15, .mv (.tmp 52)⟩,
    ⟨none, some 16, .mv (.tmp 53)⟩])
  (.seq (.seq (.rg [⟨none, some 54, .mv (.tmp 10)⟩,
    ⟨none, some 55, .mv (.tmp 12)⟩,
    ⟨none, some 56, .bin .neq (.tmp 54) (.tmp 55)⟩,
    ⟨none, some 57, .mv (.tmp 56)⟩,
    ⟨some (57, false), some 58, .mv (.tmp 14)⟩,
    ⟨some (57, false), some 59, .mv (.tmp 16)⟩,
    ⟨some (57, false), some 60, .bin .neq (.tmp 58) (.tmp 59)⟩,
    ⟨none, some 61, .pick (.tmp 57) (.const (.bool true)) (.tmp 60)⟩,
    ⟨none, some 62, .mv (.tmp 61)⟩,
    ⟨some (62, false), some 63, .mv (.tmp 9)⟩,
    ⟨some (62, false), some 64, .mv (.tmp 11)⟩,
    ⟨some (62, false), some 65, .call 17 [.tmp 63, .tmp 64]⟩,
    ⟨some (62, false), some 66, .un .not (.tmp 65)⟩,
    ⟨none, some 67, .pick (.tmp 62) (.const (.bool true)) (.tmp 66)⟩,
    ⟨none, some 68, .mv (.tmp 67)⟩,
    ⟨some (68, false), some 69, .mv (.tmp 13)⟩,
    ⟨some (68, false), some 70, .mv (.tmp 15)⟩,
    ⟨some (68, false), some 71, .call 17 [.tmp 69, .tmp 70]⟩,
    ⟨some (68, false), some 72, .un .not (.tmp 71)⟩,
    ⟨none, some 73, .pick (.tmp 68) (.const (.bool true)) (.tmp 72)⟩,
    ⟨none, some 74, .mv (.tmp 73)⟩,
    ⟨some (74, false), some 75, .mv (.tmp 7)⟩,
    ⟨some (74, false), some 76, .mv (.tmp 0)⟩,
    ⟨some (74, false), some 77, .call 18 [.tmp 75, .tmp 76]⟩,
    ⟨some (74, false), some 78, .un .not (.tmp 77)⟩,
    ⟨none, some 79, .pick (.tmp 74) (.const (.bool true)) (.tmp 78)⟩])
  (.cond (.tmp 79) (.seq (.rg [⟨none, some 6, .mv (.const (.bool false))⟩])
  (.ret)) (.skip)))
  (.seq (.rg [⟨none, some 80, .mv (.tmp 13)⟩,
    ⟨none, some 81, .call 19 [.tmp 80]⟩])
  (.seq (.seq (.rg [⟨none, some 17, .mv (.const (.int .i64 0))⟩])
  (.blk 0 (.loop q [1, 2, 8, 17] (ac3_L0 q))))
  (.seq (.rg [⟨none, some 140, .call 10 []⟩,
    ⟨none, some 6, .mv (.tmp 140)⟩])
  (.ret)))))))))))
theorem ac3_ok (q : Option (Nat × Nat)) : compF Go.Proofs.Tryd.prog Go.Proofs.Tryd.f3 (ac3 q) = some (ac3 q, [.tmp 6]) := by kernel_rfl

/- clearway clearwaylaw10.PulseFinds -/
def ac4 (q : Option (Nat × Nat)) : AC := .seq (.rg [⟨none, some 6, .mv (.const (.bool false))⟩])
  (.seq (.seq (.rg [⟨none, some 16, .mv (.tmp 0)⟩,
    ⟨none, some 17, .bslice false 30 1 1 [.p (.sl (some true) 0 [])] [(0, 1, .tmp 16)]⟩,
    ⟨none, some 18, .call 9 [.tmp 17]⟩])
  (.cond (.tmp 18) (.seq (.rg [⟨none, some 19, .call 10 []⟩,
    ⟨none, some 6, .mv (.tmp 19)⟩])
  (.ret)) (.skip)))
  (.seq (.rg [⟨none, some 20, .mv (.tmp 0)⟩,
    ⟨none, some 21, .call 24 [.tmp 20]⟩,
    ⟨none, some 7, .mv (.tmp 21)⟩])
  (.seq (.rg [⟨none, some 23, .mv (.tmp 7)⟩,
    ⟨none, some 24, .call 25 [.tmp 23]⟩,
    ⟨none, some 22, .mv (.tmp 24)⟩,
    ⟨none, some 25, .extract (.tmp 22) 0⟩,
    ⟨none, some 26, .extract (.tmp 22) 1⟩,
    ⟨none, some 8, .mv (.tmp 25)⟩,
    ⟨none, some 9, .mv (.tmp 26)⟩])
  (.seq (.rg [⟨none, some 28, .mv (.tmp 0)⟩,
    ⟨none, some 29, .call 26 [.tmp 28]⟩,
    ⟨none, some 27, .mv (.tmp 29)⟩,
    ⟨none, some 30, .extract (.tmp 27) 0⟩,
    ⟨none, some 31, .extract (.tmp 27) 1⟩,
    ⟨none, some 10, .mv (.tmp 30)⟩,
    ⟨none, some 11, .mv (.tmp 31)⟩])
  (.seq (.rg [⟨none, some 33, .mv (.tmp 7)⟩,
    ⟨none, some 34, .mv (.tmp 1)⟩,
    ⟨none, some 35, .mv (.tmp 2)⟩,
    ⟨none, some 36, .call 27 [.tmp 33, .tmp 34, .tmp 35]⟩,
    ⟨none, some 32, .mv (.tmp 36)⟩,
    ⟨none, some 37, .extract (.tmp 32) 0⟩,
    ⟨none, some 38, .extract (.tmp 32) 1⟩,
    ⟨none, some 12, .alloc 46 [.p (.v (.int .i64 0)), .p (.sl (some true) 0 [])]⟩,
    ⟨none, none, .store 2 (.tmp 12) (.tmp 37)⟩,
    ⟨none, some 13, .mv (.tmp 38)⟩])
  (.seq (.rg [⟨none, some 40, .mv (.tmp 0)⟩,
    ⟨none, some 41, .mv (.tmp 1)⟩,
    ⟨none, some 42, .mv (.tmp 2)⟩,
    ⟨none, some 43, .call 28 [.tmp 40, .tmp 41, .tmp 42]⟩,
    ⟨none, some 39, .mv (.tmp 43)⟩,
    ⟨none, some 44, .extract (.tmp 39) 0⟩,
    ⟨none, some 45, .extract (.tmp 39) 1⟩,
    ⟨none, some 14, .alloc 46 [.p (.v (.int .i64 0)), .p (.sl (some true) 0 [])]⟩,
    ⟨none, none, .store 2 (.tmp 14) (.tmp 44)⟩,
    ⟨none, some 15, .mv (.tmp 45)⟩])
  (.seq (.seq (.rg [⟨none, some 46, .mv (.tmp 9)⟩,
    ⟨none, some 47, .mv (.tmp 11)⟩,
    ⟨none, some 48, .bin .neq (.tmp 46) (.tmp 47)⟩,
    ⟨none, some 49, .mv (.tmp 48)⟩,
    ⟨some (49, false), some 50, .mv (.tmp 13)⟩,
    ⟨some (49, false), some 51, .mv (.tmp 15)⟩,
    ⟨some (49, false), some 52, .bin .neq (.tmp 50) (.tmp 51)⟩,
    ⟨none, some 53, .pick (.tmp 49) (.const (.bool true)) (.tmp 52)⟩,
    ⟨none, some 54, .mv (.tmp 53)⟩,
    ⟨some (54, false), some 55, .mv (.tmp 8)⟩,
    ⟨some (54, false), some 56, .mv (.tmp 10)⟩,
    ⟨some (54, false), some 57, .call 29 [.tmp 55, .tmp 56]⟩,
    ⟨some (54, false), some 58, .un .not (.tmp 57)⟩,
    ⟨none, some 59, .pick (.tmp 54) (.const (.bool true)) (.tmp 58)⟩,
    ⟨none, some 60, .mv (.tmp 59)⟩,
    ⟨some (60, false), some 61, .loadA 2 (.tmp 12)⟩,
    ⟨some (60, false), some 62, .loadA 2 (.tmp 14)⟩,
    ⟨some (60, false), some 63, .call 30 [.tmp 61, .tmp 62]⟩,
    ⟨some (60, false), some 64, .un .not (.tmp 63)⟩,
    ⟨none, some 65, .pick (.tmp 60) (.const (.bool true)) (.tmp 64)⟩])
  (.cond (.tmp 65) (.seq (.rg [⟨none, some 6, .mv (.const (.bool false))⟩])
  (.ret)) (.skip)))
  (.seq (.rg [⟨none, some 66, .mv (.tmp 8)⟩,
    ⟨none, some 67, .call 19 [.tmp 66]⟩])
  (.seq (.rg [⟨none, some 68, .fieldA 1 (.tmp 12)⟩,
    ⟨none, some 69, .load (.tmp 68)⟩,
    ⟨none, some 70, .call 31 [.tmp 69]⟩])
  (.seq (.rg [⟨none, some 71, .mv (.tmp 7)⟩,
    ⟨none, some 72, .mv (.tmp 0)⟩,
    ⟨none, some 73, .call 17 [.tmp 71, .tmp 72]⟩,
    ⟨none, some 74, .mv (.tmp 73)⟩,
    ⟨some (74, true), some 75, .call 10 []⟩,
    ⟨none, some 76, .pick (.tmp 74) (.tmp 75) (.const (.bool false))⟩,
    ⟨none, some 6, .mv (.tmp 76)⟩])
  (.ret)))))))))))
theorem ac4_ok (q : Option (Nat × Nat)) : compF Go.Proofs.Tryd.prog Go.Proofs.Tryd.f4 (ac4 q) = some (ac4 q, [.tmp 6]) := by kernel_rfl

/- clearway clearwaylaw10.PulseMerges -/
def ac6 (q : Option (Nat × Nat)) : AC := .seq (.rg [⟨none, some 8, .mv (.const (.bool false))⟩])
  (.seq (.seq (.rg [⟨none, some 33, .mv (.tmp 0)⟩,
    ⟨none, some 34, .mv (.tmp 1)⟩,
    ⟨none, some 35, .mv (.tmp 2)⟩,
    ⟨none, some 36, .bslice false 30 3 1 [.p (.sl (some true) 0 [])] [(0, 1, .tmp 33), (1, 1, .tmp 34), (2, 1, .tmp 35)]⟩,
    ⟨none, some 37, .call 9 [.tmp 36]⟩,
    ⟨none, some 38, .mv (.tmp 37)⟩,
    ⟨some (38, false), some 39, .call 10 []⟩,
    ⟨some (38, false), some 40, .un .not (.tmp 39)⟩,
    ⟨none, some 41, .pick (.tmp 38) (.const (.bool true)) (.tmp 40)⟩])
  (.cond (.tmp 41) (.seq (.rg [⟨none, some 42, .call 10 []⟩,
    ⟨none, some 8, .mv (.tmp 42)⟩])
  (.ret)) (.skip)))
  (.seq (.rg [⟨none, some 44, .mv (.tmp 0)⟩,
    ⟨none, some 45, .mv (.tmp 1)⟩,
    ⟨none, some 46, .bslice false 30 2 1 [.p (.sl (some true) 0 [])] [(0, 1, .tmp 44), (1, 1, .tmp 45)]⟩,
    ⟨none, some 47, .call 15 [.tmp 46]⟩,
    ⟨none, some 43, .mv (.tmp 47)⟩,
    ⟨none, some 48, .extract (.tmp 43) 0⟩,
    ⟨none, some 49, .extract (.tmp 43) 1⟩,
    ⟨none, some 9, .mv (.tmp 48)⟩,
    ⟨none, some 10, .mv (.tmp 49)⟩])
  (.seq (.seq (.rg [⟨none, some 50, .mv (.tmp 10)⟩,
    ⟨none, some 51, .bin .neq (.tmp 50) (.const (.int .i64 0))⟩])
  (.cond (.tmp 51) (.seq (.rg [⟨none, some 52, .mv (.tmp 9)⟩,
    ⟨none, some 53, .len (.tmp 52)⟩,
    ⟨none, some 54, .bin .eql (.tmp 53) (.const (.int .i64 0))⟩,
    ⟨none, some 8, .mv (.tmp 54)⟩])
  (.ret)) (.skip)))
  (.seq (.rg [⟨none, some 56, .mv (.tmp 1)⟩,
    ⟨none, some 57, .mv (.tmp 0)⟩,
    ⟨none, some 58, .bslice false 30 2 1 [.p (.sl (some true) 0 [])] [(0, 1, .tmp 56), (1, 1, .tmp 57)]⟩,
    ⟨none, some 59, .call 15 [.tmp 58]⟩,
    ⟨none, some 55, .mv (.tmp 59)⟩,
    ⟨none, some 60, .extract (.tmp 55) 0⟩,
    ⟨none, some 61, .extract (.tmp 55) 1⟩,
    ⟨none, some 11, .mv (.tmp 60)⟩,
    ⟨none, some 12, .mv (.tmp 61)⟩])
  (.seq (.rg [⟨none, some 63, .mv (.tmp 0)⟩,
    ⟨none, some 64, .mv (.tmp 9)⟩,
    ⟨none, some 65, .bslice false 30 2 1 [.p (.sl (some true) 0 [])] [(0, 1, .tmp 63), (1, 1, .tmp 64)]⟩,
    ⟨none, some 66, .call 15 [.tmp 65]⟩,
    ⟨none, some 62, .mv (.tmp 66)⟩,
    ⟨none, some 67, .extract (.tmp 62) 0⟩,
    ⟨none, some 68, .extract (.tmp 62) 1⟩,
    ⟨none, some 13, .mv (.tmp 67)⟩,
    ⟨none, some 14, .mv (.tmp 68)⟩])
  (.seq (.rg [⟨none, some 70, .mv (.tmp 0)⟩,
    ⟨none, some 71, .bslice false 30 1 1 [.p (.sl (some true) 0 [])] [(0, 1, .tmp 70)]⟩,
    ⟨none, some 72, .call 15 [.tmp 71]⟩,
    ⟨none, some 69, .mv (.tmp 72)⟩,
    ⟨none, some 73, .extract (.tmp 69) 0⟩,
    ⟨none, some 74, .extract (.tmp 69) 1⟩,
    ⟨none, some 15, .mv (.tmp 73)⟩,
    ⟨none, some 16, .mv (.tmp 74)⟩])
  (.seq (.seq (.rg [⟨none, some 75, .mv (.tmp 12)⟩,
    ⟨none, some 76, .bin .neq (.tmp 75) (.const (.int .i64 0))⟩,
    ⟨none, some 77, .mv (.tmp 76)⟩,
    ⟨some (77, false), some 78, .mv (.tmp 14)⟩,
    ⟨some (77, false), some 79, .bin .neq (.tmp 78) (.const (.int .i64 0))⟩,
    ⟨none, some 80, .pick (.tmp 77) (.const (.bool true)) (.tmp 79)⟩,
    ⟨none, some 81, .mv (.tmp 80)⟩,
    ⟨some (81, false), some 82, .mv (.tmp 16)⟩,
    ⟨some (81, false), some 83, .bin .neq (.tmp 82) (.const (.int .i64 0))⟩,
    ⟨none, some 84, .pick (.tmp 81) (.const (.bool true)) (.tmp 83)⟩,
    ⟨none, some 85, .mv (.tmp 84)⟩,
    ⟨some (85, false), some 86, .mv (.tmp 9)⟩,
    ⟨some (85, false), some 87, .mv (.tmp 11)⟩,
    ⟨some (85, false), some 88, .call 17 [.tmp 86, .tmp 87]⟩,
    ⟨some (85, false), some 89, .un .not (.tmp 88)⟩,
    ⟨none, some 90, .pick (.tmp 85) (.const (.bool true)) (.tmp 89)⟩,
    ⟨none, some 91, .mv (.tmp 90)⟩,
    ⟨some (91, false), some 92, .mv (.tmp 13)⟩,
    ⟨some (91, false), some 93, .mv (.tmp 9)⟩,
    ⟨some (91, false), some 94, .call 17 [.tmp 92, .tmp 93]⟩,
    ⟨some (91, false), some 95, .un .not (.tmp 94)⟩,
    ⟨none, some 96, .pick (.tmp 91) (.const (.bool true)) (.tmp 95)⟩,
    ⟨none, some 97, .mv (.tmp 96)⟩,
    ⟨some (97, false), some 98, .mv (.tmp 15)⟩,
    ⟨some (97, false), some 99, .mv (.tmp 0)⟩,
    ⟨some (97, false), some 100, .call 17 [.tmp 98, .tmp 99]⟩,
    ⟨some (97, false), some 101, .un .not (.tmp 100)⟩,
    ⟨none, some 102, .pick (.tmp 97) (.const (.bool true)) (.tmp 101)⟩])
  (.cond (.tmp 102) (.seq (.rg [⟨none, some 8, .mv (.const (.bool false))⟩])
  (.ret)) (.skip)))
  (.seq (.rg [⟨none, some 104, .mv (.tmp 0)⟩,
    ⟨none, some 105, .mv (.tmp 3)⟩,
    ⟨none, some 106, .call 20 [.tmp 104, .tmp 105]⟩,
    ⟨none, some 103, .mv (.tmp 106)⟩,
    ⟨none, some 107, .extract (.tmp 103) 0⟩,
    ⟨none, some 108, .extract (.tmp 103) 1⟩,
    ⟨none, some 17, .mv (.tmp 107)⟩,
    ⟨none, some 18, .mv (.tmp 108)⟩])
  (.seq (.rg [⟨none, some 110, .mv (.tmp 1)⟩,
    ⟨none, some 111, .mv (.tmp 3)⟩,
    ⟨none, some 112, .call 20 [.tmp 110, .tmp 111]⟩,
    ⟨none, some 109, .mv (.tmp 112)⟩,
    ⟨none, some 113, .extract (.tmp 109) 0⟩,
    ⟨none, some 114, .extract (.tmp 109) 1⟩,
    ⟨none, some 19, .mv (.tmp 113)⟩,
    ⟨none, some 20, .mv (.tmp 114)⟩])
  (.seq (.rg [⟨none, some 116, .mv (.tmp 9)⟩,
    ⟨none, some 117, .mv (.tmp 3)⟩,
    ⟨none, some 118, .call 20 [.tmp 116, .tmp 117]⟩,
    ⟨none, some 115, .mv (.tmp 118)⟩,
    ⟨none, some 119, .extract (.tmp 115) 0⟩,
    ⟨none, some 120, .extract (.tmp 115) 1⟩,
    ⟨none, some 21, .mv (.tmp 119)⟩,
    ⟨none, some 22, .mv (.tmp 120)⟩])
  (.seq (.seq (.rg [⟨none, some 121, .mv (.tmp 22)⟩,
    ⟨none, some 122, .bin .eql (.tmp 121) (.const (.int .i64 0))⟩,
    ⟨none, some 123, .mv (.tmp 18)⟩,
    ⟨none, some 124, .bin .eql (.tmp 123) (.const (.int .i64 0))⟩,
    ⟨none, some 125, .mv (.tmp 124)⟩,
    ⟨some (125, true), some 126, .mv (.tmp 20)⟩,
    ⟨some (125, true), some 127, .bin .eql (.tmp 126) (.const (.int .i64 0))⟩,
    ⟨none, some 128, .pick (.tmp 125) (.tmp 127) (.const (.bool false))⟩,
    ⟨none, some 129, .binB true (.tmp 122) (.tmp 128)⟩])
  (.cond (.tmp 129) (.seq (.rg [⟨none, some 8, .mv (.const (.bool false))⟩])
  (.ret)) (.skip)))
  (.seq (.seq (.rg [⟨none, some 130, .mv (.tmp 22)⟩,
    ⟨none, some 131, .bin .eql (.tmp 130) (.const (.int .i64 0))⟩])
  (.cond (.tmp 131) (.seq (.rg [⟨none, some 133, .mv (.tmp 17)⟩,
    ⟨none, some 134, .mv (.tmp 19)⟩,
    ⟨none, some 135, .bslice false 30 2 1 [.p (.sl (some true) 0 [])] [(0, 1, .tmp 133), (1, 1, .tmp 134)]⟩,
    ⟨none, some 136, .call 15 [.tmp 135]⟩,
    ⟨none, some 132, .mv (.tmp 136)⟩,
    ⟨none, some 137, .extract (.tmp 132) 0⟩,
    ⟨none, some 138, .extract (.tmp 132) 1⟩,
    ⟨none, some 23, .mv (.tmp 137)⟩,
    ⟨none, some 24, .mv (.tmp 138)⟩])
  (.seq (.rg [⟨none, some 139, .mv (.tmp 24)⟩,
    ⟨none, some 140, .bin .neq (.tmp 139) (.const (.int .i64 0))⟩,
    ⟨none, some 141, .mv (.tmp 140)⟩,
    ⟨some (141, false), some 142, .mv (.tmp 23)⟩,
    ⟨some (141, false), some 143, .mv (.tmp 21)⟩,
    ⟨some (141, false), some 144, .call 17 [.tmp 142, .tmp 143]⟩,
    ⟨some (141, false), some 145, .un .not (.tmp 144)⟩,
    ⟨none, some 146, .pick (.tmp 141) (.const (.bool true)) (.tmp 145)⟩])
  (.cond (.tmp 146) (.seq (.rg [⟨none, some 8, .mv (.const (.bool false))⟩])
  (.ret)) (.skip)))) (.skip)))
  (.seq (.rg [⟨none, some 148, .mv (.tmp 1)⟩,
    ⟨none, some 149, .mv (.tmp 2)⟩,
    ⟨none, some 150, .bslice false 30 2 1 [.p (.sl (some true) 0 [])] [(0, 1, .tmp 148), (1, 1, .tmp 149)]⟩,
    ⟨none, some 151, .call 15 [.tmp 150]⟩,
    ⟨none, some 147, .mv (.tmp 151)⟩,
    ⟨none, some 152, .extract (.tmp 147) 0⟩,
    ⟨none, some 153, .extract (.tmp 147) 1⟩,
    ⟨none, some 25, .mv (.tmp 152)⟩,
    ⟨none, some 26, .mv (.tmp 153)⟩])
  (.seq (.seq (.rg [⟨none, some 154, .mv (.tmp 26)⟩,
    ⟨none, some 155, .bin .neq (.tmp 154) (.const (.int .i64 0))⟩])
  (.cond (.tmp 155) (.seq (.rg [⟨none, some 8, .mv (.const (.bool true))⟩])
  (.ret)) (.skip)))
  (.seq (.rg [⟨none, some 157, .mv (.tmp 9)⟩,
    ⟨none, some 158, .mv (.tmp 2)⟩,
    ⟨none, some 159, .bslice false 30 2 1 [.p (.sl (some true) 0 [])] [(0, 1, .tmp 157), (1, 1, .tmp 158)]⟩,
    ⟨none, some 160, .call 15 [.tmp 159]⟩,
    ⟨none, some 156, .mv (.tmp 160)⟩,
    ⟨none, some 161, .extract (.tmp 156) 0⟩,
    ⟨none, some 162, .extract (.tmp 156) 1⟩,
    ⟨none, some 27, .mv (.tmp 161)⟩,
    ⟨none, some 28, .mv (.tmp 162)⟩])
  (.seq (.rg [⟨none, some 164, .mv (.tmp 0)⟩,
    ⟨none, some 165, .mv (.tmp 25)⟩,
    ⟨none, some 166, .bslice false 30 2 1 [.p (.sl (some true) 0 [])] [(0, 1, .tmp 164), (1, 1, .tmp 165)]⟩,
    ⟨none, some 167, .call 15 [.tmp 166]⟩,
    ⟨none, some 163, .mv (.tmp 167)⟩,
    ⟨none, some 168, .extract (.tmp 163) 0⟩,
    ⟨none, some 169, .extract (.tmp 163) 1⟩,
    ⟨none, some 29, .mv (.tmp 168)⟩,
    ⟨none, some 30, .mv (.tmp 169)⟩])
  (.seq (.rg [⟨none, some 171, .mv (.tmp 0)⟩,
    ⟨none, some 172, .mv (.tmp 1)⟩,
    ⟨none, some 173, .mv (.tmp 2)⟩,
    ⟨none, some 174, .bslice false 30 3 1 [.p (.sl (some true) 0 [])] [(0, 1, .tmp 171), (1, 1, .tmp 172), (2, 1, .tmp 173)]⟩,
    ⟨none, some 175, .call 15 [.tmp 174]⟩,
    ⟨none, some 170, .mv (.tmp 175)⟩,
    ⟨none, some 176, .extract (.tmp 170) 0⟩,
    ⟨none, some 177, .extract (.tmp 170) 1⟩,
    ⟨none, some 31, .mv (.tmp 176)⟩,
    ⟨none, some 32, .mv (.tmp 177)⟩])
  (.seq (.rg [⟨none, some 178, .mv (.tmp 28)⟩,
    ⟨none, some 179, .bin .eql (.tmp 178) (.const (.int .i64 0))⟩,
    ⟨none, some 180, .mv (.tmp 179)⟩,
    ⟨some (180, true), some 181, .mv (.tmp 30)⟩,
    ⟨some (180, true), some 182, .bin .eql (.tmp 181) (.const (.int .i64 0))⟩,
    ⟨none, some 183, .pick (.tmp 180) (.tmp 182) (.const (.bool false))⟩,
    ⟨none, some 184, .mv (.tmp 183)⟩,
    ⟨some (184, true), some 185, .mv (.tmp 32)⟩,
    ⟨some (184, true), some 186, .bin .eql (.tmp 185) (.const (.int .i64 0))⟩,
    ⟨none, some 187, .pick (.tmp 184) (.tmp 186) (.const (.bool false))⟩,
    ⟨none, some 188, .mv (.tmp 187)⟩,
    ⟨some (188, true), some 189, .mv (.tmp 27)⟩,
    ⟨some (188, true), some 190, .mv (.tmp 29)⟩,
    ⟨some (188, true), some 191, .call 17 [.tmp 189, .tmp 190]⟩,
    ⟨none, some 192, .pick (.tmp 188) (.tmp 191) (.const (.bool false))⟩,
    ⟨none, some 193, .mv (.tmp 192)⟩,
    ⟨some (193, true), some 194, .mv (.tmp 27)⟩,
    ⟨some (193, true), some 195, .mv (.tmp 31)⟩,
    ⟨some (193, true), some 196, .call 17 [.tmp 194, .tmp 195]⟩,
    ⟨none, some 197, .pick (.tmp 193) (.tmp 196) (.const (.bool false))⟩,
    ⟨none, some 8, .mv (.tmp 197)⟩])
  (.ret)))))))))))))))))))
theorem ac6_ok (q : Option (Nat × Nat)) : compF Go.Proofs.Tryd.prog Go.Proofs.Tryd.f6 (ac6 q) = some (ac6 q, [.tmp 8]) := by kernel_rfl

/- clearway clearwaylaw10.PulseGrows -/
def ac7_L0 (q : Option (Nat × Nat)) : AC := .seq (.seq (.rg [⟨none, some 63, .mv (.tmp 15)⟩,
    ⟨none, some 64, .mv (.tmp 11)⟩,
    ⟨none, some 65, .len (.tmp 64)⟩,
    ⟨none, some 66, .bin .lss (.tmp 63) (.tmp 65)⟩])
  (.cond (.tmp 66) (.skip) (.exit 0)))
  (.seq (.blk 1 (.seq (.rg [⟨none, some 69, .mv (.tmp 13)⟩,
    ⟨none, some 70, .mv (.tmp 11)⟩,
    ⟨none, some 71, .mv (.tmp 15)⟩,
    ⟨none, some 72, .idx 1 (.tmp 70) (.tmp 71)⟩,
    ⟨none, some 73, .load (.tmp 72)⟩,
    ⟨none, some 74, .call 33 [.tmp 69, .tmp 73]⟩,
    ⟨none, some 75, .un .not (.tmp 74)⟩])
  (.cond (.tmp 75) (.seq (.rg [⟨none, some 8, .mv (.const (.bool false))⟩])
  (.ret)) (.skip))))
  (.rg [⟨none, some 67, .mv (.tmp 15)⟩,
    ⟨none, some 68, .bin .add (.tmp 67) (.const (.int .i64 1))⟩,
    ⟨none, some 15, .mv (.tmp 68)⟩]))
def ac7_L1 (q : Option (Nat × Nat)) : AC := .seq (.seq (.rg [⟨none, some 103, .mv (.tmp 20)⟩,
    ⟨none, some 104, .fieldA 1 (.tmp 16)⟩,
    ⟨none, some 105, .load (.tmp 104)⟩,
    ⟨none, some 106, .len (.tmp 105)⟩,
    ⟨none, some 107, .bin .lss (.tmp 103) (.tmp 106)⟩])
  (.cond (.tmp 107) (.skip) (.exit 2)))
  (.seq (.blk 3 (.seq (.dr [(false, [(0, 0), (1, 0), (2, 0), (3, 0), (4, 0), (5, 0), (6, 0), (7, 0), (8, 0), (9, 0)], [⟨none, some 110, .fieldA 1 (.tmp 16)⟩,
    ⟨none, some 111, .load (.tmp 110)⟩,
    ⟨none, some 112, .mv (.tmp 20)⟩,
    ⟨none, some 113, .idx 1 (.tmp 111) (.tmp 112)⟩,
    ⟨none, some 114, .load (.tmp 113)⟩,
    ⟨none, some 115, .fieldA 1 (.tmp 18)⟩,
    ⟨none, some 116, .load (.tmp 115)⟩,
    ⟨none, some 117, .mv (.tmp 20)⟩,
    ⟨none, some 118, .idx 1 (.tmp 116) (.tmp 117)⟩,
    ⟨none, some 119, .load (.tmp 118)⟩]),
   (true, [(10, 0), (11, 0)], [⟨none, some 120, .bin .neq (.tmp 114) (.tmp 119)⟩,
    ⟨none, some 121, .mv (.tmp 120)⟩]),
   (false, [(12, 0), (13, 0), (14, 0)], [⟨some (121, true), some 122, .fieldA 1 (.tmp 18)⟩,
    ⟨some (121, true), some 123, .load (.tmp 122)⟩,
    ⟨some (121, true), some 124, .mv (.tmp 20)⟩]),
   (true, [(15, 0), (16, 0), (17, 0), (18, 0)], [⟨some (121, true), some 125, .idx 1 (.tmp 123) (.tmp 124)⟩,
    ⟨some (121, true), some 126, .load (.tmp 125)⟩,
    ⟨some (121, true), some 127, .bin .neq (.tmp 126) (.const (.int .u8 2))⟩,
    ⟨none, some 128, .pick (.tmp 121) (.tmp 127) (.const (.bool false))⟩])])
  (.cond (.tmp 128) (.seq (.rg [⟨none, some 8, .mv (.const (.bool false))⟩])
  (.ret)) (.skip))))
  (.rg [⟨none, some 108, .mv (.tmp 20)⟩,
    ⟨none, some 109, .bin .add (.tmp 108) (.const (.int .i64 1))⟩,
    ⟨none, some 20, .mv (.tmp 109)⟩]))
def ac7 (q : Option (Nat × Nat)) : AC := .seq (.rg [⟨none, some 8, .mv (.const (.bool false))⟩])
  (.seq (.seq (.rg [⟨none, some 21, .mv (.tmp 0)⟩,
    ⟨none, some 22, .bslice false 30 1 1 [.p (.sl (some true) 0 [])] [(0, 1, .tmp 21)]⟩,
    ⟨none, some 23, .call 9 [.tmp 22]⟩,
    ⟨none, some 24, .mv (.tmp 23)⟩,
    ⟨some (24, false), some 25, .mv (.tmp 1)⟩,
    ⟨some (24, false), some 26, .bin .gtr (.tmp 25) (.const (.int .u16 1023))⟩,
    ⟨none, some 27, .pick (.tmp 24) (.const (.bool true)) (.tmp 26)⟩,
    ⟨none, some 28, .mv (.tmp 27)⟩,
    ⟨some (28, false), some 29, .call 10 []⟩,
    ⟨some (28, false), some 30, .un .not (.tmp 29)⟩,
    ⟨none, some 31, .pick (.tmp 28) (.const (.bool true)) (.tmp 30)⟩])
  (.cond (.tmp 31) (.seq (.rg [⟨none, some 32, .call 10 []⟩,
    ⟨none, some 8, .mv (.tmp 32)⟩])
  (.ret)) (.skip)))
  (.seq (.rg [⟨none, some 34, .mv (.tmp 0)⟩,
    ⟨none, some 35, .mv (.tmp 1)⟩,
    ⟨none, some 36, .conv .i64 (.tmp 35)⟩,
    ⟨none, some 37, .bslice false 3 1 1 [.p (.v (.int .i64 0))] [(0, 1, .tmp 36)]⟩,
    ⟨none, some 38, .bslice false 30 2 1 [.p (.sl (some true) 0 [])] [(0, 1, .tmp 34), (1, 1, .tmp 37)]⟩,
    ⟨none, some 39, .call 15 [.tmp 38]⟩,
    ⟨none, some 33, .mv (.tmp 39)⟩,
    ⟨none, some 40, .extract (.tmp 33) 0⟩,
    ⟨none, some 41, .extract (.tmp 33) 1⟩,
    ⟨none, some 9, .mv (.tmp 40)⟩,
    ⟨none, some 10, .mv (.tmp 41)⟩])
  (.seq (.seq (.rg [⟨none, some 42, .mv (.tmp 10)⟩,
    ⟨none, some 43, .bin .neq (.tmp 42) (.const (.int .i64 0))⟩])
  (.cond (.tmp 43) (.seq (.rg [⟨none, some 44, .mv (.tmp 9)⟩,
    ⟨none, some 45, .len (.tmp 44)⟩,
    ⟨none, some 46, .bin .eql (.tmp 45) (.const (.int .i64 0))⟩,
    ⟨none, some 8, .mv (.tmp 46)⟩])
  (.ret)) (.skip)))
  (.seq (.rg [⟨none, some 48, .mv (.tmp 0)⟩,
    ⟨none, some 49, .call 25 [.tmp 48]⟩,
    ⟨none, some 47, .mv (.tmp 49)⟩,
    ⟨none, some 50, .extract (.tmp 47) 0⟩,
    ⟨none, some 51, .extract (.tmp 47) 1⟩,
    ⟨none, some 11, .mv (.tmp 50)⟩,
    ⟨none, some 12, .mv (.tmp 51)⟩])
  (.seq (.rg [⟨none, some 53, .mv (.tmp 9)⟩,
    ⟨none, some 54, .call 25 [.tmp 53]⟩,
    ⟨none, some 52, .mv (.tmp 54)⟩,
    ⟨none, some 55, .extract (.tmp 52) 0⟩,
    ⟨none, some 56, .extract (.tmp 52) 1⟩,
    ⟨none, some 13, .mv (.tmp 55)⟩,
    ⟨none, some 14, .mv (.tmp 56)⟩])
  (.seq (.seq (.rg [⟨none, some 57, .mv (.tmp 12)⟩,
    ⟨none, some 58, .bin .neq (.tmp 57) (.const (.int .i64 0))⟩,
    ⟨none, some 59, .mv (.tmp 58)⟩,
    ⟨some (59, false), some 60, .mv (.tmp 14)⟩,
    ⟨some (59, false), some 61, .bin .neq (.tmp 60) (.const (.int .i64 0))⟩,
    ⟨none, some 62, .pick (.tmp 59) (.const (.bool true)) (.tmp 61)⟩])
  (.cond (.tmp 62) (.seq (.rg [⟨none, some 8, .mv (.const (.bool false))⟩])
  (.ret)) (.skip)))
  (.seq (.seq (.rg [⟨none, some 15, .mv (.const (.int .i64 0))⟩])
  (.blk 0 (.loop q [0, 2, 3, 9, 11, 13, 15] (ac7_L0 q))))
  (.seq (.rg [⟨none, some 77, .mv (.tmp 0)⟩,
    ⟨none, some 78, .mv (.tmp 2)⟩,
    ⟨none, some 79, .mv (.tmp 3)⟩,
    ⟨none, some 80, .call 27 [.tmp 77, .tmp 78, .tmp 79]⟩,
    ⟨none, some 76, .mv (.tmp 80)⟩,
    ⟨none, some 81, .extract (.tmp 76) 0⟩,
    ⟨none, some 82, .extract (.tmp 76) 1⟩,
    ⟨none, some 16, .alloc 46 [.p (.v (.int .i64 0)), .p (.sl (some true) 0 [])]⟩,
    ⟨none, none, .store 2 (.tmp 16) (.tmp 81)⟩,
    ⟨none, some 17, .mv (.tmp 82)⟩])
  (.seq (.rg [⟨none, some 84, .mv (.tmp 9)⟩,
    ⟨none, some 85, .mv (.tmp 2)⟩,
    ⟨none, some 86, .mv (.tmp 3)⟩,
    ⟨none, some 87, .call 27 [.tmp 84, .tmp 85, .tmp 86]⟩,
    ⟨none, some 83, .mv (.tmp 87)⟩,
    ⟨none, some 88, .extract (.tmp 83) 0⟩,
    ⟨none, some 89, .extract (.tmp 83) 1⟩,
    ⟨none, some 18, .alloc 46 [.p (.v (.int .i64 0)), .p (.sl (some true) 0 [])]⟩,
    ⟨none, none, .store 2 (.tmp 18) (.tmp 88)⟩,
    ⟨none, some 19, .mv (.tmp 89)⟩])
  (.seq (.seq (.rg [⟨none, some 90, .mv (.tmp 17)⟩,
    ⟨none, some 91, .bin .neq (.tmp 90) (.const (.int .i64 0))⟩])
  (.cond (.tmp 91) (.seq (.rg [⟨none, some 8, .mv (.const (.bool true))⟩])
  (.ret)) (.skip)))
  (.seq (.seq (.rg [⟨none, some 92, .mv (.tmp 19)⟩,
    ⟨none, some 93, .bin .neq (.tmp 92) (.const (.int .i64 0))⟩,
    ⟨none, some 94, .mv (.tmp 93)⟩,
    ⟨some (94, false), some 95, .fieldA 1 (.tmp 16)⟩,
    ⟨some (94, false), some 96, .load (.tmp 95)⟩,
    ⟨some (94, false), some 97, .len (.tmp 96)⟩,
    ⟨some (94, false), some 98, .fieldA 1 (.tmp 18)⟩,
    ⟨some (94, false), some 99, .load (.tmp 98)⟩,
    ⟨some (94, false), some 100, .len (.tmp 99)⟩,
    ⟨some (94, false), some 101, .bin .neq (.tmp 97) (.tmp 100)⟩,
    ⟨none, some 102, .pick (.tmp 94) (.const (.bool true)) (.tmp 101)⟩])
  (.cond (.tmp 102) (.seq (.rg [⟨none, some 8, .mv (.const (.bool false))⟩])
  (.ret)) (.skip)))
  (.seq (.seq (.rg [⟨none, some 20, .mv (.const (.int .i64 0))⟩])
  (.blk 2 (.loop q [16, 18, 20] (ac7_L1 q))))
  (.seq (.rg [⟨none, some 8, .mv (.const (.bool true))⟩])
  (.ret))))))))))))))
theorem ac7_ok (q : Option (Nat × Nat)) : compF Go.Proofs.Tryd.prog Go.Proofs.Tryd.f7 (ac7 q) = some (ac7 q, [.tmp 8]) := by kernel_rfl

/- clearway clearwaylaw10.PulseExamples -/
def ac8 (q : Option (Nat × Nat)) : AC := .seq (.rg [⟨none, some 0, .mv (.const (.bool false))⟩])
  (.seq (.seq (.rg [⟨none, some 35, .call 10 []⟩,
    ⟨none, some 36, .un .not (.tmp 35)⟩])
  (.cond (.tmp 36) (.seq (.rg [⟨none, some 0, .mv (.const (.bool false))⟩])
  (.ret)) (.skip)))
  (.seq (.rg [⟨none, some 38, .call 34 [.const (.int .i64 112), .const (.int .u8 0)]⟩,
    ⟨none, some 39, .call 13 [.tmp 38]⟩,
    ⟨none, some 37, .mv (.tmp 39)⟩,
    ⟨none, some 40, .extract (.tmp 37) 0⟩,
    ⟨none, some 41, .extract (.tmp 37) 1⟩,
    ⟨none, some 1, .mv (.tmp 40)⟩,
    ⟨none, some 2, .mv (.tmp 41)⟩])
  (.seq (.seq (.rg [⟨none, some 42, .mv (.tmp 2)⟩,
    ⟨none, some 43, .bin .neq (.tmp 42) (.const (.int .i64 0))⟩,
    ⟨none, some 44, .mv (.tmp 43)⟩,
    ⟨some (44, false), some 45, .mv (.tmp 1)⟩,
    ⟨some (44, false), some 46, .len (.tmp 45)⟩,
    ⟨some (44, false), some 47, .bin .neq (.tmp 46) (.const (.int .i64 116))⟩,
    ⟨none, some 48, .pick (.tmp 44) (.const (.bool true)) (.tmp 47)⟩,
    ⟨none, some 49, .mv (.tmp 48)⟩,
    ⟨some (49, false), some 50, .mv (.tmp 1)⟩,
    ⟨some (49, false), some 51, .idx 1 (.tmp 50) (.const (.int .i64 115))⟩,
    ⟨some (49, false), some 52, .load (.tmp 51)⟩,
    ⟨some (49, false), some 53, .bin .neq (.tmp 52) (.const (.int .i64 239))⟩,
    ⟨none, some 54, .pick (.tmp 49) (.const (.bool true)) (.tmp 53)⟩])
  (.cond (.tmp 54) (.seq (.rg [⟨none, some 0, .mv (.const (.bool false))⟩])
  (.ret)) (.skip)))
  (.seq (.rg [⟨none, some 56, .mv (.tmp 1)⟩,
    ⟨none, some 57, .call 20 [.tmp 56, .const (.int .i64 784)]⟩,
    ⟨none, some 55, .mv (.tmp 57)⟩,
    ⟨none, some 58, .extract (.tmp 55) 0⟩,
    ⟨none, some 59, .extract (.tmp 55) 1⟩,
    ⟨none, some 3, .mv (.tmp 58)⟩,
    ⟨none, some 4, .mv (.tmp 59)⟩])
  (.seq (.rg [⟨none, some 61, .mv (.tmp 3)⟩,
    ⟨none, some 62, .call 27 [.tmp 61, .const (.int .i64 784), .const (.bool true)]⟩,
    ⟨none, some 60, .mv (.tmp 62)⟩,
    ⟨none, some 63, .extract (.tmp 60) 0⟩,
    ⟨none, some 64, .extract (.tmp 60) 1⟩,
    ⟨none, some 5, .alloc 46 [.p (.v (.int .i64 0)), .p (.sl (some true) 0 [])]⟩,
    ⟨none, none, .store 2 (.tmp 5) (.tmp 63)⟩,
    ⟨none, some 6, .mv (.tmp 64)⟩])
  (.seq (.rg [⟨none, some 66, .mv (.tmp 1)⟩,
    ⟨none, some 67, .call 20 [.tmp 66, .const (.int .i64 785)]⟩,
    ⟨none, some 65, .mv (.tmp 67)⟩,
    ⟨none, some 68, .extract (.tmp 65) 0⟩,
    ⟨none, some 69, .extract (.tmp 65) 1⟩,
    ⟨none, some 7, .mv (.tmp 68)⟩,
    ⟨none, some 8, .mv (.tmp 69)⟩])
  (.seq (.rg [⟨none, some 71, .mv (.tmp 3)⟩,
    ⟨none, some 72, .call 27 [.tmp 71, .const (.int .i64 785), .const (.bool true)]⟩,
    ⟨none, some 70, .mv (.tmp 72)⟩,
    ⟨none, some 73, .extract (.tmp 70) 0⟩,
    ⟨none, some 74, .extract (.tmp 70) 1⟩,
    ⟨none, some 9, .alloc 46 [.p (.v (.int .i64 0)), .p (.sl (some true) 0 [])]⟩,
    ⟨none, none, .store 2 (.tmp 9) (.tmp 73)⟩,
    ⟨none, some 10, .mv (.tmp 74)⟩])
  (.seq (.rg [⟨none, some 76, .call 27 [.const (.slice none 0 0), .const (.int .i64 785), .const (.bool true)]⟩,
    ⟨none, some 75, .mv (.tmp 76)⟩,
    ⟨none, some 77, .extract (.tmp 75) 0⟩,
    ⟨none, some 78, .extract (.tmp 75) 1⟩,
    ⟨none, some 11, .alloc 46 [.p (.v (.int .i64 0)), .p (.sl (some true) 0 [])]⟩,
    ⟨none, none, .store 2 (.tmp 11) (.tmp 77)⟩,
    ⟨none, some 12, .mv (.tmp 78)⟩])
  (.seq (.rg [⟨none, some 80, .call 27 [.const (.slice none 0 0), .const (.int .i64 784), .const (.bool true)]⟩,
    ⟨none, some 79, .mv (.tmp 80)⟩,
    ⟨none, some 81, .extract (.tmp 79) 0⟩,
    ⟨none, some 82, .extract (.tmp 79) 1⟩,
    ⟨none, some 13, .alloc 46 [.p (.v (.int .i64 0)), .p (.sl (some true) 0 [])]⟩,
    ⟨none, none, .store 2 (.tmp 13) (.tmp 81)⟩,
    ⟨none, some 14, .mv (.tmp 82)⟩])
  (.seq (.rg [⟨none, some 84, .bslice false 3 2 1 [.p (.v (.int .i64 0))] [(0, 1, .const (.int .i64 5)), (1, 1, .const (.int .i64 5))]⟩,
    ⟨none, some 85, .call 27 [.tmp 84, .const (.int .i64 (-1)), .const (.bool true)]⟩,
    ⟨none, some 83, .mv (.tmp 85)⟩,
    ⟨none, some 86, .extract (.tmp 83) 0⟩,
    ⟨none, some 87, .extract (.tmp 83) 1⟩,
    ⟨none, some 15, .alloc 46 [.p (.v (.int .i64 0)), .p (.sl (some true) 0 [])]⟩,
    ⟨none, none, .store 2 (.tmp 15) (.tmp 86)⟩,
    ⟨none, some 16, .mv (.tmp 87)⟩])
  (.seq (.rg [⟨none, some 89, .call 34 [.const (.int .i64 57), .const (.int .u8 2)]⟩,
    ⟨none, some 90, .call 13 [.tmp 89]⟩,
    ⟨none, some 88, .mv (.tmp 90)⟩,
    ⟨none, some 91, .extract (.tmp 88) 0⟩,
    ⟨none, some 92, .extract (.tmp 88) 1⟩,
    ⟨none, some 17, .mv (.tmp 91)⟩,
    ⟨none, some 18, .mv (.tmp 92)⟩])
  (.seq (.rg [⟨none, some 94, .call 34 [.const (.int .i64 129), .const (.int .u8 0)]⟩,
    ⟨none, some 95, .call 13 [.tmp 94]⟩,
    ⟨none, some 93, .mv (.tmp 95)⟩,
    ⟨none, some 96, .extract (.tmp 93) 0⟩,
    ⟨none, some 97, .extract (.tmp 93) 1⟩,
    ⟨none, some 19, .mv (.tmp 96)⟩,
    ⟨none, some 20, .mv (.tmp 97)⟩])
  (.seq (.rg [⟨none, some 99, .call 34 [.const (.int .i64 57), .const (.int .u8 0)]⟩,
    ⟨none, some 100, .call 13 [.tmp 99]⟩,
    ⟨none, some 98, .mv (.tmp 100)⟩,
    ⟨none, some 101, .extract (.tmp 98) 0⟩,
    ⟨none, some 102, .extract (.tmp 98) 1⟩,
    ⟨none, some 21, .mv (.tmp 101)⟩,
    ⟨none, some 22, .mv (.tmp 102)⟩])
  (.seq (.rg [⟨none, some 104, .bslice false 3 1 1 [.p (.v (.int .i64 0))] [(0, 1, .const (.int .i64 (-1)))]⟩,
    ⟨none, some 105, .bslice false 30 9 1 [.p (.sl (some true) 0 [])] [(0, 1, .const (.slice none 0 0)), (1, 1, .const (.slice none 0 0)), (2, 1, .const (.slice none 0 0)), (3, 1, .const (.slice none 0 0)), (4, 1, .const (.slice none 0 0)), (5, 1, .const (.slice none 0 0)), (6, 1, .const (.slice none 0 0)), (7, 1, .const (.slice none 0 0)), (8, 1, .tmp 104)]⟩,
    ⟨none, some 106, .call 15 [.tmp 105]⟩,
    ⟨none, some 103, .mv (.tmp 106)⟩,
    ⟨none, some 107, .extract (.tmp 103) 0⟩,
    ⟨none, some 108, .extract (.tmp 103) 1⟩,
    ⟨none, some 23, .mv (.tmp 107)⟩,
    ⟨none, some 24, .mv (.tmp 108)⟩])
  (.seq (.rg [⟨none, some 110, .bslice false 3 1 1 [.p (.v (.int .i64 0))] [(0, 1, .const (.int .i64 1024))]⟩,
    ⟨none, some 111, .bslice false 30 2 1 [.p (.sl (some true) 0 [])] [(0, 1, .const (.slice none 0 0)), (1, 1, .tmp 110)]⟩,
    ⟨none, some 112, .call 15 [.tmp 111]⟩,
    ⟨none, some 109, .mv (.tmp 112)⟩,
    ⟨none, some 113, .extract (.tmp 109) 0⟩,
    ⟨none, some 114, .extract (.tmp 109) 1⟩,
    ⟨none, some 25, .mv (.tmp 113)⟩,
    ⟨none, some 26, .mv (.tmp 114)⟩])
  (.seq (.rg [⟨none, some 116, .call 15 [.const (.slice none 0 0)]⟩,
    ⟨none, some 115, .mv (.tmp 116)⟩,
    ⟨none, some 117, .extract (.tmp 115) 0⟩,
    ⟨none, some 118, .extract (.tmp 115) 1⟩,
    ⟨none, some 27, .mv (.tmp 117)⟩,
    ⟨none, some 28, .mv (.tmp 118)⟩])
  (.seq (.rg [⟨none, some 120, .call 20 [.const (.slice none 0 0), .const (.int .i64 4611686018427387904)]⟩,
    ⟨none, some 119, .mv (.tmp 120)⟩,
    ⟨none, some 121, .extract (.tmp 119) 0⟩,
    ⟨none, some 122, .extract (.tmp 119) 1⟩,
    ⟨none, some 29, .mv (.tmp 121)⟩,
    ⟨none, some 30, .mv (.tmp 122)⟩])
  (.seq (.rg [⟨none, some 124, .bslice false 3 6 1 [.p (.v (.int .i64 0))] [(0, 1, .const (.int .i64 0)), (1, 1, .const (.int .i64 2)), (2, 1, .const (.int .i64 4)), (3, 1, .const (.int .i64 7)), (4, 1, .const (.int .i64 9)), (5, 1, .const (.int .i64 11))]⟩,
    ⟨none, some 125, .call 25 [.tmp 124]⟩,
    ⟨none, some 123, .mv (.tmp 125)⟩,
    ⟨none, some 126, .extract (.tmp 123) 0⟩,
    ⟨none, some 127, .extract (.tmp 123) 1⟩,
    ⟨none, some 31, .mv (.tmp 126)⟩,
    ⟨none, some 32, .mv (.tmp 127)⟩])
  (.seq (.rg [⟨none, some 129, .mv (.tmp 3)⟩,
    ⟨none, some 130, .call 27 [.tmp 129, .const (.int .i64 784), .const (.bool false)]⟩,
    ⟨none, some 128, .mv (.tmp 130)⟩,
    ⟨none, some 131, .extract (.tmp 128) 0⟩,
    ⟨none, some 132, .extract (.tmp 128) 1⟩,
    ⟨none, some 33, .alloc 46 [.p (.v (.int .i64 0)), .p (.sl (some true) 0 [])]⟩,
    ⟨none, none, .store 2 (.tmp 33) (.tmp 131)⟩,
    ⟨none, some 34, .mv (.tmp 132)⟩])
  (.seq (.dr [(true, [(0, 0), (1, 0), (2, 0), (3, 0), (4, 0), (5, 0), (6, 0), (7, 0), (8, 0), (9, 0), (10, 0), (11, 0)], [⟨none, some 133, .mv (.tmp 4)⟩,
    ⟨none, some 134, .bin .eql (.tmp 133) (.const (.int .i64 0))⟩,
    ⟨none, some 135, .mv (.tmp 134)⟩,
    ⟨some (135, true), some 136, .mv (.tmp 6)⟩,
    ⟨some (135, true), some 137, .bin .eql (.tmp 136) (.const (.int .i64 0))⟩,
    ⟨none, some 138, .pick (.tmp 135) (.tmp 137) (.const (.bool false))⟩,
    ⟨none, some 139, .mv (.tmp 138)⟩,
    ⟨some (139, true), some 140, .fieldA 0 (.tmp 5)⟩,
    ⟨some (139, true), some 141, .load (.tmp 140)⟩,
    ⟨some (139, true), some 142, .bin .eql (.tmp 141) (.const (.int .i64 784))⟩,
    ⟨none, some 143, .pick (.tmp 139) (.tmp 142) (.const (.bool false))⟩,
    ⟨none, some 144, .mv (.tmp 143)⟩]),
   (false, [(12, 0), (13, 0), (14, 0)], [⟨some (144, true), some 145, .fieldA 1 (.tmp 5)⟩,
    ⟨some (144, true), some 146, .load (.tmp 145)⟩,
    ⟨some (144, true), some 147, .call 34 [.const (.int .i64 112), .const (.int .u8 0)]⟩]),
   (true, [(15, 0), (16, 0), (17, 0), (18, 0), (19, 0), (20, 0), (21, 0), (22, 0), (23, 0), (24, 0), (25, 0), (26, 0), (27, 0), (28, 0), (29, 0), (30, 0), (31, 0), (32, 0), (33, 0), (34, 0), (35, 0), (36, 0), (37, 0), (38, 0), (39, 0), (40, 0), (41, 0), (42, 0), (43, 0), (44, 0), (45, 0), (46, 0), (47, 0), (48, 0), (49, 0), (50, 0), (51, 0), (52, 0), (53, 0), (54, 0), (55, 0), (56, 0), (57, 0), (58, 0), (59, 0), (60, 0), (61, 0), (62, 0), (63, 0), (64, 0), (65, 0), (66, 0), (67, 0), (68, 0), (69, 0), (70, 0), (71, 0), (72, 0), (73, 0), (74, 0), (75, 0), (76, 0), (77, 0), (78, 0), (79, 0)], [⟨some (144, true), some 148, .call 32 [.tmp 146, .tmp 147]⟩,
    ⟨none, some 149, .pick (.tmp 144) (.tmp 148) (.const (.bool false))⟩,
    ⟨none, some 150, .mv (.tmp 149)⟩,
    ⟨some (150, true), some 151, .mv (.tmp 8)⟩,
    ⟨some (150, true), some 152, .bin .eql (.tmp 151) (.const (.int .i64 7))⟩,
    ⟨none, some 153, .pick (.tmp 150) (.tmp 152) (.const (.bool false))⟩,
    ⟨none, some 154, .mv (.tmp 153)⟩,
    ⟨some (154, true), some 155, .mv (.tmp 10)⟩,
    ⟨some (154, true), some 156, .bin .eql (.tmp 155) (.const (.int .i64 7))⟩,
    ⟨none, some 157, .pick (.tmp 154) (.tmp 156) (.const (.bool false))⟩,
    ⟨none, some 158, .mv (.tmp 157)⟩,
    ⟨some (158, true), some 159, .mv (.tmp 12)⟩,
    ⟨some (158, true), some 160, .bin .eql (.tmp 159) (.const (.int .i64 7))⟩,
    ⟨none, some 161, .pick (.tmp 158) (.tmp 160) (.const (.bool false))⟩,
    ⟨none, some 162, .mv (.tmp 161)⟩,
    ⟨some (162, true), some 163, .mv (.tmp 14)⟩,
    ⟨some (162, true), some 164, .bin .eql (.tmp 163) (.const (.int .i64 9))⟩,
    ⟨none, some 165, .pick (.tmp 162) (.tmp 164) (.const (.bool false))⟩,
    ⟨none, some 166, .mv (.tmp 165)⟩,
    ⟨some (166, true), some 167, .mv (.tmp 16)⟩,
    ⟨some (166, true), some 168, .bin .eql (.tmp 167) (.const (.int .i64 1))⟩,
    ⟨none, some 169, .pick (.tmp 166) (.tmp 168) (.const (.bool false))⟩,
    ⟨none, some 170, .mv (.tmp 169)⟩,
    ⟨some (170, true), some 171, .mv (.tmp 18)⟩,
    ⟨some (170, true), some 172, .bin .eql (.tmp 171) (.const (.int .i64 1))⟩,
    ⟨none, some 173, .pick (.tmp 170) (.tmp 172) (.const (.bool false))⟩,
    ⟨none, some 174, .mv (.tmp 173)⟩,
    ⟨some (174, true), some 175, .mv (.tmp 20)⟩,
    ⟨some (174, true), some 176, .bin .eql (.tmp 175) (.const (.int .i64 4))⟩,
    ⟨none, some 177, .pick (.tmp 174) (.tmp 176) (.const (.bool false))⟩,
    ⟨none, some 178, .mv (.tmp 177)⟩,
    ⟨some (178, true), some 179, .mv (.tmp 22)⟩,
    ⟨some (178, true), some 180, .bin .eql (.tmp 179) (.const (.int .i64 2))⟩,
    ⟨none, some 181, .pick (.tmp 178) (.tmp 180) (.const (.bool false))⟩,
    ⟨none, some 182, .mv (.tmp 181)⟩,
    ⟨some (182, true), some 183, .mv (.tmp 24)⟩,
    ⟨some (182, true), some 184, .bin .eql (.tmp 183) (.const (.int .i64 10))⟩,
    ⟨none, some 185, .pick (.tmp 182) (.tmp 184) (.const (.bool false))⟩,
    ⟨none, some 186, .mv (.tmp 185)⟩,
    ⟨some (186, true), some 187, .mv (.tmp 26)⟩,
    ⟨some (186, true), some 188, .bin .eql (.tmp 187) (.const (.int .i64 1))⟩,
    ⟨none, some 189, .pick (.tmp 186) (.tmp 188) (.const (.bool false))⟩,
    ⟨none, some 190, .mv (.tmp 189)⟩,
    ⟨some (190, true), some 191, .mv (.tmp 28)⟩,
    ⟨some (190, true), some 192, .bin .eql (.tmp 191) (.const (.int .i64 0))⟩,
    ⟨none, some 193, .pick (.tmp 190) (.tmp 192) (.const (.bool false))⟩,
    ⟨none, some 194, .mv (.tmp 193)⟩,
    ⟨some (194, true), some 195, .mv (.tmp 27)⟩,
    ⟨some (194, true), some 196, .len (.tmp 195)⟩,
    ⟨some (194, true), some 197, .bin .eql (.tmp 196) (.const (.int .i64 0))⟩,
    ⟨none, some 198, .pick (.tmp 194) (.tmp 197) (.const (.bool false))⟩,
    ⟨none, some 199, .mv (.tmp 198)⟩,
    ⟨some (199, true), some 200, .mv (.tmp 30)⟩,
    ⟨some (199, true), some 201, .bin .eql (.tmp 200) (.const (.int .i64 0))⟩,
    ⟨none, some 202, .pick (.tmp 199) (.tmp 201) (.const (.bool false))⟩,
    ⟨none, some 203, .mv (.tmp 202)⟩,
    ⟨some (203, true), some 204, .mv (.tmp 29)⟩,
    ⟨some (203, true), some 205, .len (.tmp 204)⟩,
    ⟨some (203, true), some 206, .bin .eql (.tmp 205) (.const (.int .i64 0))⟩,
    ⟨none, some 207, .pick (.tmp 203) (.tmp 206) (.const (.bool false))⟩,
    ⟨none, some 208, .mv (.tmp 207)⟩,
    ⟨some (208, true), some 209, .mv (.tmp 32)⟩,
    ⟨some (208, true), some 210, .bin .eql (.tmp 209) (.const (.int .i64 0))⟩,
    ⟨none, some 211, .pick (.tmp 208) (.tmp 210) (.const (.bool false))⟩,
    ⟨none, some 212, .mv (.tmp 211)⟩]),
   (false, [(80, 0), (81, 0)], [⟨some (212, true), some 213, .mv (.tmp 31)⟩,
    ⟨some (212, true), some 214, .bslice false 3 2 1 [.p (.v (.int .i64 0))] [(0, 1, .const (.int .i64 0)), (1, 1, .const (.int .i64 2))]⟩]),
   (true, [(82, 0), (83, 0), (84, 0), (85, 0), (86, 0), (87, 0), (88, 0), (89, 0), (90, 0), (91, 0), (92, 0), (93, 0), (94, 0)], [⟨some (212, true), some 215, .call 29 [.tmp 213, .tmp 214]⟩,
    ⟨none, some 216, .pick (.tmp 212) (.tmp 215) (.const (.bool false))⟩,
    ⟨none, some 217, .mv (.tmp 216)⟩,
    ⟨some (217, true), some 218, .mv (.tmp 34)⟩,
    ⟨some (217, true), some 219, .bin .eql (.tmp 218) (.const (.int .i64 0))⟩,
    ⟨none, some 220, .pick (.tmp 217) (.tmp 219) (.const (.bool false))⟩,
    ⟨none, some 221, .mv (.tmp 220)⟩,
    ⟨some (221, true), some 222, .fieldA 1 (.tmp 33)⟩,
    ⟨some (221, true), some 223, .load (.tmp 222)⟩,
    ⟨some (221, true), some 224, .len (.tmp 223)⟩,
    ⟨some (221, true), some 225, .bin .eql (.tmp 224) (.const (.int .i64 56))⟩,
    ⟨none, some 226, .pick (.tmp 221) (.tmp 225) (.const (.bool false))⟩,
    ⟨none, some 0, .mv (.tmp 226)⟩])])
  (.ret)))))))))))))))))))))
theorem ac8_ok (q : Option (Nat × Nat)) : compF Go.Proofs.Tryd.prog Go.Proofs.Tryd.f8 (ac8 q) = some (ac8 q, [.tmp 0]) := by kernel_rfl

/- clearway clearwaylaw10.Long -/
def ac9_L0 (q : Option (Nat × Nat)) : AC := .seq (.seq (.rg [⟨none, some 7, .mv (.tmp 3)⟩,
    ⟨none, some 8, .mv (.tmp 0)⟩,
    ⟨none, some 9, .len (.tmp 8)⟩,
    ⟨none, some 10, .bin .lss (.tmp 7) (.tmp 9)⟩])
  (.cond (.tmp 10) (.skip) (.exit 0)))
  (.seq (.blk 1 (.seq (.rg [⟨none, some 13, .mv (.tmp 0)⟩,
    ⟨none, some 14, .mv (.tmp 3)⟩,
    ⟨none, some 15, .idx 1 (.tmp 13) (.tmp 14)⟩,
    ⟨none, some 16, .load (.tmp 15)⟩,
    ⟨none, some 17, .len (.tmp 16)⟩,
    ⟨none, some 18, .bin .gtr (.tmp 17) (.const (.int .i64 1100))⟩])
  (.cond (.tmp 18) (.seq (.rg [⟨none, some 2, .mv (.const (.bool true))⟩])
  (.ret)) (.skip))))
  (.rg [⟨none, some 11, .mv (.tmp 3)⟩,
    ⟨none, some 12, .bin .add (.tmp 11) (.const (.int .i64 1))⟩,
    ⟨none, some 3, .mv (.tmp 12)⟩]))
def ac9 (q : Option (Nat × Nat)) : AC := .seq (.rg [⟨none, some 2, .mv (.const (.bool false))⟩])
  (.seq (.seq (.rg [⟨none, some 4, .mv (.tmp 0)⟩,
    ⟨none, some 5, .len (.tmp 4)⟩,
    ⟨none, some 6, .bin .gtr (.tmp 5) (.const (.int .i64 12))⟩])
  (.cond (.tmp 6) (.seq (.rg [⟨none, some 2, .mv (.const (.bool true))⟩])
  (.ret)) (.skip)))
  (.seq (.seq (.rg [⟨none, some 3, .mv (.const (.int .i64 0))⟩])
  (.blk 0 (.loop q [0, 3] (ac9_L0 q))))
  (.seq (.rg [⟨none, some 2, .mv (.const (.bool false))⟩])
  (.ret))))
theorem ac9_ok (q : Option (Nat × Nat)) : compF Go.Proofs.Tryd.prog Go.Proofs.Tryd.f9 (ac9 q) = some (ac9 q, [.tmp 2]) := by kernel_rfl

/- clearway clearwaylaw10.awake -/
def ac10 (q : Option (Nat × Nat)) : AC := .seq (.rg [⟨none, some 0, .mv (.const (.bool false))⟩])
  (.seq (.rg [⟨none, some 22, .call 34 [.const (.int .i64 56), .const (.int .u8 0)]⟩,
    ⟨none, some 23, .call 13 [.tmp 22]⟩,
    ⟨none, some 21, .mv (.tmp 23)⟩,
    ⟨none, some 24, .extract (.tmp 21) 0⟩,
    ⟨none, some 25, .extract (.tmp 21) 1⟩,
    ⟨none, some 1, .mv (.tmp 24)⟩,
    ⟨none, some 2, .mv (.tmp 25)⟩])
  (.seq (.rg [⟨none, some 27, .call 34 [.const (.int .i64 56), .const (.int .u8 1)]⟩,
    ⟨none, some 28, .call 13 [.tmp 27]⟩,
    ⟨none, some 26, .mv (.tmp 28)⟩,
    ⟨none, some 29, .extract (.tmp 26) 0⟩,
    ⟨none, some 30, .extract (.tmp 26) 1⟩,
    ⟨none, some 3, .mv (.tmp 29)⟩,
    ⟨none, some 4, .mv (.tmp 30)⟩])
  (.seq (.seq (.rg [⟨none, some 31, .mv (.tmp 2)⟩,
    ⟨none, some 32, .bin .neq (.tmp 31) (.const (.int .i64 0))⟩,
    ⟨none, some 33, .mv (.tmp 32)⟩,
    ⟨some (33, false), some 34, .mv (.tmp 4)⟩,
    ⟨some (33, false), some 35, .bin .neq (.tmp 34) (.const (.int .i64 0))⟩,
    ⟨none, some 36, .pick (.tmp 33) (.const (.bool true)) (.tmp 35)⟩,
    ⟨none, some 37, .mv (.tmp 36)⟩,
    ⟨some (37, false), some 38, .mv (.tmp 1)⟩,
    ⟨some (37, false), some 39, .len (.tmp 38)⟩,
    ⟨some (37, false), some 40, .bin .neq (.tmp 39) (.const (.int .i64 60))⟩,
    ⟨none, some 41, .pick (.tmp 37) (.const (.bool true)) (.tmp 40)⟩,
    ⟨none, some 42, .mv (.tmp 41)⟩,
    ⟨some (42, false), some 43, .mv (.tmp 1)⟩,
    ⟨some (42, false), some 44, .idx 1 (.tmp 43) (.const (.int .i64 3))⟩,
    ⟨some (42, false), some 45, .load (.tmp 44)⟩,
    ⟨some (42, false), some 46, .bin .neq (.tmp 45) (.const (.int .i64 9))⟩,
    ⟨none, some 47, .pick (.tmp 42) (.const (.bool true)) (.tmp 46)⟩,
    ⟨none, some 48, .mv (.tmp 47)⟩,
    ⟨some (48, false), some 49, .mv (.tmp 1)⟩,
    ⟨some (48, false), some 50, .idx 1 (.tmp 49) (.const (.int .i64 4))⟩,
    ⟨some (48, false), some 51, .load (.tmp 50)⟩,
    ⟨some (48, false), some 52, .bin .neq (.tmp 51) (.const (.int .i64 17))⟩,
    ⟨none, some 53, .pick (.tmp 48) (.const (.bool true)) (.tmp 52)⟩,
    ⟨none, some 54, .mv (.tmp 53)⟩,
    ⟨some (54, false), some 55, .mv (.tmp 1)⟩,
    ⟨some (54, false), some 56, .idx 1 (.tmp 55) (.const (.int .i64 59))⟩,
    ⟨some (54, false), some 57, .load (.tmp 56)⟩,
    ⟨some (54, false), some 58, .bin .neq (.tmp 57) (.const (.int .i64 127))⟩,
    ⟨none, some 59, .pick (.tmp 54) (.const (.bool true)) (.tmp 58)⟩])
  (.cond (.tmp 59) (.seq (.rg [⟨none, some 0, .mv (.const (.bool false))⟩])
  (.ret)) (.skip)))
  (.seq (.rg [⟨none, some 61, .mv (.tmp 1)⟩,
    ⟨none, some 62, .call 25 [.tmp 61]⟩,
    ⟨none, some 60, .mv (.tmp 62)⟩,
    ⟨none, some 63, .extract (.tmp 60) 0⟩,
    ⟨none, some 64, .extract (.tmp 60) 1⟩,
    ⟨none, some 5, .mv (.tmp 63)⟩,
    ⟨none, some 6, .mv (.tmp 64)⟩])
  (.seq (.rg [⟨none, some 66, .mv (.tmp 1)⟩,
    ⟨none, some 67, .mv (.tmp 3)⟩,
    ⟨none, some 68, .bslice false 30 2 1 [.p (.sl (some true) 0 [])] [(0, 1, .tmp 66), (1, 1, .tmp 67)]⟩,
    ⟨none, some 69, .call 15 [.tmp 68]⟩,
    ⟨none, some 65, .mv (.tmp 69)⟩,
    ⟨none, some 70, .extract (.tmp 65) 0⟩,
    ⟨none, some 71, .extract (.tmp 65) 1⟩,
    ⟨none, some 7, .mv (.tmp 70)⟩,
    ⟨none, some 8, .mv (.tmp 71)⟩])
  (.seq (.rg [⟨none, some 73, .mv (.tmp 7)⟩,
    ⟨none, some 74, .call 27 [.tmp 73, .const (.int .i64 0), .const (.bool false)]⟩,
    ⟨none, some 72, .mv (.tmp 74)⟩,
    ⟨none, some 75, .extract (.tmp 72) 0⟩,
    ⟨none, some 76, .extract (.tmp 72) 1⟩,
    ⟨none, some 9, .alloc 46 [.p (.v (.int .i64 0)), .p (.sl (some true) 0 [])]⟩,
    ⟨none, none, .store 2 (.tmp 9) (.tmp 75)⟩,
    ⟨none, some 10, .mv (.tmp 76)⟩])
  (.seq (.rg [⟨none, some 78, .mv (.tmp 3)⟩,
    ⟨none, some 79, .call 20 [.tmp 78, .const (.int .i64 1)]⟩,
    ⟨none, some 77, .mv (.tmp 79)⟩,
    ⟨none, some 80, .extract (.tmp 77) 0⟩,
    ⟨none, some 81, .extract (.tmp 77) 1⟩,
    ⟨none, some 11, .mv (.tmp 80)⟩,
    ⟨none, some 12, .mv (.tmp 81)⟩])
  (.seq (.rg [⟨none, some 83, .mv (.tmp 1)⟩,
    ⟨none, some 84, .mv (.tmp 11)⟩,
    ⟨none, some 85, .bslice false 30 2 1 [.p (.sl (some true) 0 [])] [(0, 1, .tmp 83), (1, 1, .tmp 84)]⟩,
    ⟨none, some 86, .call 15 [.tmp 85]⟩,
    ⟨none, some 82, .mv (.tmp 86)⟩,
    ⟨none, some 87, .extract (.tmp 82) 0⟩,
    ⟨none, some 88, .extract (.tmp 82) 1⟩,
    ⟨none, some 13, .mv (.tmp 87)⟩,
    ⟨none, some 14, .mv (.tmp 88)⟩])
  (.seq (.rg [⟨none, some 90, .mv (.tmp 13)⟩,
    ⟨none, some 91, .call 27 [.tmp 90, .const (.int .i64 0), .const (.bool false)]⟩,
    ⟨none, some 89, .mv (.tmp 91)⟩,
    ⟨none, some 92, .extract (.tmp 89) 0⟩,
    ⟨none, some 93, .extract (.tmp 89) 1⟩,
    ⟨none, some 15, .alloc 46 [.p (.v (.int .i64 0)), .p (.sl (some true) 0 [])]⟩,
    ⟨none, none, .store 2 (.tmp 15) (.tmp 92)⟩,
    ⟨none, some 16, .mv (.tmp 93)⟩])
  (.seq (.rg [⟨none, some 95, .mv (.tmp 1)⟩,
    ⟨none, some 96, .call 20 [.tmp 95, .const (.int .i64 (-1))]⟩,
    ⟨none, some 94, .mv (.tmp 96)⟩,
    ⟨none, some 97, .extract (.tmp 94) 0⟩,
    ⟨none, some 98, .extract (.tmp 94) 1⟩,
    ⟨none, some 17, .mv (.tmp 97)⟩,
    ⟨none, some 18, .mv (.tmp 98)⟩])
  (.seq (.rg [⟨none, some 100, .mv (.tmp 1)⟩,
    ⟨none, some 101, .call 27 [.tmp 100, .const (.int .i64 1), .const (.bool false)]⟩,
    ⟨none, some 99, .mv (.tmp 101)⟩,
    ⟨none, some 102, .extract (.tmp 99) 0⟩,
    ⟨none, some 103, .extract (.tmp 99) 1⟩,
    ⟨none, some 19, .alloc 46 [.p (.v (.int .i64 0)), .p (.sl (some true) 0 [])]⟩,
    ⟨none, none, .store 2 (.tmp 19) (.tmp 102)⟩,
    ⟨none, some 20, .mv (.tmp 103)⟩])
  (.seq (.dr [(true, [(0, 0), (1, 0), (2, 0)], [⟨none, some 104, .mv (.tmp 6)⟩,
    ⟨none, some 105, .bin .eql (.tmp 104) (.const (.int .i64 0))⟩,
    ⟨none, some 106, .mv (.tmp 105)⟩]),
   (false, [(3, 0), (4, 0)], [⟨some (106, true), some 107, .mv (.tmp 5)⟩,
    ⟨some (106, true), some 108, .bslice false 3 1 1 [.p (.v (.int .i64 0))] [(0, 1, .const (.int .i64 0))]⟩]),
   (true, [(5, 0), (6, 0), (7, 0), (8, 0), (9, 0), (10, 0), (11, 0), (12, 0), (13, 0), (14, 0), (15, 0)], [⟨some (106, true), some 109, .call 29 [.tmp 107, .tmp 108]⟩,
    ⟨none, some 110, .pick (.tmp 106) (.tmp 109) (.const (.bool false))⟩,
    ⟨none, some 111, .mv (.tmp 110)⟩,
    ⟨some (111, true), some 112, .mv (.tmp 8)⟩,
    ⟨some (111, true), some 113, .bin .eql (.tmp 112) (.const (.int .i64 0))⟩,
    ⟨none, some 114, .pick (.tmp 111) (.tmp 113) (.const (.bool false))⟩,
    ⟨none, some 115, .mv (.tmp 114)⟩,
    ⟨some (115, true), some 116, .mv (.tmp 10)⟩,
    ⟨some (115, true), some 117, .bin .eql (.tmp 116) (.const (.int .i64 0))⟩,
    ⟨none, some 118, .pick (.tmp 115) (.tmp 117) (.const (.bool false))⟩,
    ⟨none, some 119, .mv (.tmp 118)⟩]),
   (false, [(16, 0), (17, 0), (18, 0)], [⟨some (119, true), some 120, .fieldA 1 (.tmp 9)⟩,
    ⟨some (119, true), some 121, .load (.tmp 120)⟩,
    ⟨some (119, true), some 122, .call 34 [.const (.int .i64 56), .const (.int .u8 2)]⟩]),
   (true, [(19, 0), (20, 0), (21, 0), (22, 0), (23, 0), (24, 0), (25, 0), (26, 0), (27, 0), (28, 0), (29, 0), (30, 0), (31, 0), (32, 0), (33, 0)], [⟨some (119, true), some 123, .call 32 [.tmp 121, .tmp 122]⟩,
    ⟨none, some 124, .pick (.tmp 119) (.tmp 123) (.const (.bool false))⟩,
    ⟨none, some 125, .mv (.tmp 124)⟩,
    ⟨some (125, true), some 126, .mv (.tmp 12)⟩,
    ⟨some (125, true), some 127, .bin .eql (.tmp 126) (.const (.int .i64 0))⟩,
    ⟨none, some 128, .pick (.tmp 125) (.tmp 127) (.const (.bool false))⟩,
    ⟨none, some 129, .mv (.tmp 128)⟩,
    ⟨some (129, true), some 130, .mv (.tmp 14)⟩,
    ⟨some (129, true), some 131, .bin .eql (.tmp 130) (.const (.int .i64 0))⟩,
    ⟨none, some 132, .pick (.tmp 129) (.tmp 131) (.const (.bool false))⟩,
    ⟨none, some 133, .mv (.tmp 132)⟩,
    ⟨some (133, true), some 134, .mv (.tmp 16)⟩,
    ⟨some (133, true), some 135, .bin .eql (.tmp 134) (.const (.int .i64 0))⟩,
    ⟨none, some 136, .pick (.tmp 133) (.tmp 135) (.const (.bool false))⟩,
    ⟨none, some 137, .mv (.tmp 136)⟩]),
   (false, [(34, 0), (35, 0), (36, 0)], [⟨some (137, true), some 138, .fieldA 1 (.tmp 15)⟩,
    ⟨some (137, true), some 139, .load (.tmp 138)⟩,
    ⟨some (137, true), some 140, .call 34 [.const (.int .i64 56), .const (.int .u8 0)]⟩]),
   (true, [(37, 0), (38, 0), (39, 0), (40, 0), (41, 0), (42, 0), (43, 0), (44, 0), (45, 0), (46, 0), (47, 0)], [⟨some (137, true), some 141, .call 32 [.tmp 139, .tmp 140]⟩,
    ⟨none, some 142, .pick (.tmp 137) (.tmp 141) (.const (.bool false))⟩,
    ⟨none, some 143, .mv (.tmp 142)⟩,
    ⟨some (143, true), some 144, .mv (.tmp 18)⟩,
    ⟨some (143, true), some 145, .bin .eql (.tmp 144) (.const (.int .i64 7))⟩,
    ⟨none, some 146, .pick (.tmp 143) (.tmp 145) (.const (.bool false))⟩,
    ⟨none, some 147, .mv (.tmp 146)⟩,
    ⟨some (147, true), some 148, .mv (.tmp 20)⟩,
    ⟨some (147, true), some 149, .bin .eql (.tmp 148) (.const (.int .i64 9))⟩,
    ⟨none, some 150, .pick (.tmp 147) (.tmp 149) (.const (.bool false))⟩,
    ⟨none, some 0, .mv (.tmp 150)⟩])])
  (.ret)))))))))))))
theorem ac10_ok (q : Option (Nat × Nat)) : compF Go.Proofs.Tryd.prog Go.Proofs.Tryd.f10 (ac10 q) = some (ac10 q, [.tmp 0]) := by kernel_rfl

/- clearway clearwaykit.CopyBits -/
def ac11 (q : Option (Nat × Nat)) : AC := .seq (.rg [⟨none, some 2, .mv (.const (.slice none 0 0))⟩])
  (.seq (.rg [⟨none, some 3, .mv (.tmp 0)⟩,
    ⟨none, some 4, .call 35 [.tmp 3]⟩,
    ⟨none, some 2, .mv (.tmp 4)⟩])
  (.ret))
theorem ac11_ok (q : Option (Nat × Nat)) : compF Go.Proofs.Tryd.prog Go.Proofs.Tryd.f11 (ac11 q) = some (ac11 q, [.tmp 2]) := by kernel_rfl

/- clearway clearwaykit.CopyTrains -/
def ac12_L0 (q : Option (Nat × Nat)) : AC := .seq (.seq (.rg [⟨none, some 5, .mv (.tmp 4)⟩,
    ⟨none, some 6, .mv (.tmp 0)⟩,
    ⟨none, some 7, .len (.tmp 6)⟩,
    ⟨none, some 8, .bin .lss (.tmp 5) (.tmp 7)⟩])
  (.cond (.tmp 8) (.skip) (.exit 0)))
  (.seq (.blk 1 (.rg [⟨none, some 11, .mv (.tmp 3)⟩,
    ⟨none, some 12, .mv (.tmp 0)⟩,
    ⟨none, some 13, .mv (.tmp 4)⟩,
    ⟨none, some 14, .idx 1 (.tmp 12) (.tmp 13)⟩,
    ⟨none, some 15, .load (.tmp 14)⟩,
    ⟨none, some 16, .call 24 [.tmp 15]⟩,
    ⟨none, some 17, .bslice false 30 1 1 [.p (.sl (some true) 0 [])] [(0, 1, .tmp 16)]⟩,
    ⟨none, some 18, .append 30 1 24 (.tmp 11) (.tmp 17)⟩,
    ⟨none, some 3, .mv (.tmp 18)⟩]))
  (.rg [⟨none, some 9, .mv (.tmp 4)⟩,
    ⟨none, some 10, .bin .add (.tmp 9) (.const (.int .i64 1))⟩,
    ⟨none, some 4, .mv (.tmp 10)⟩]))
def ac12 (q : Option (Nat × Nat)) : AC := .seq (.rg [⟨none, some 2, .mv (.const (.slice none 0 0))⟩])
  (.seq (.rg [⟨none, some 3, .mv (.const (.slice none 0 0))⟩])
  (.seq (.seq (.rg [⟨none, some 4, .mv (.const (.int .i64 0))⟩])
  (.blk 0 (.loop q [0, 3, 4] (ac12_L0 q))))
  (.seq (.rg [⟨none, some 19, .mv (.tmp 3)⟩,
    ⟨none, some 2, .mv (.tmp 19)⟩])
  (.ret))))
theorem ac12_ok (q : Option (Nat × Nat)) : compF Go.Proofs.Tryd.prog Go.Proofs.Tryd.f12 (ac12 q) = some (ac12 q, [.tmp 2]) := by kernel_rfl

/- clearway pulse.Make -/
def ac13_L0 (q : Option (Nat × Nat)) : AC := .seq (.rg [⟨none, some 26, .bin .lss (.tmp 25) (.tmp 24)⟩])
  (.seq (.cond (.tmp 26) (.skip) (.exit 0))
  (.seq (.blk 1 (.seq (.rg [⟨none, some 27, .mv (.tmp 25)⟩,
    ⟨none, some 28, .idx 1 (.tmp 23) (.tmp 25)⟩,
    ⟨none, some 29, .load (.tmp 28)⟩,
    ⟨none, some 6, .mv (.tmp 27)⟩,
    ⟨none, some 7, .mv (.tmp 29)⟩])
  (.rg [⟨none, some 30, .mv (.tmp 5)⟩,
    ⟨none, some 31, .mv (.tmp 6)⟩,
    ⟨none, some 32, .bin .mul (.const (.int .i64 2)) (.tmp 31)⟩,
    ⟨none, some 33, .bin .add (.const (.int .i64 16)) (.tmp 32)⟩,
    ⟨none, some 34, .bin .add (.tmp 33) (.const (.int .i64 1))⟩,
    ⟨none, some 35, .mv (.tmp 7)⟩,
    ⟨none, some 36, .conv .i64 (.tmp 35)⟩,
    ⟨none, some 37, .bin .sub (.tmp 34) (.tmp 36)⟩,
    ⟨none, some 38, .bslice false 3 1 1 [.p (.v (.int .i64 0))] [(0, 1, .tmp 37)]⟩,
    ⟨none, some 39, .append 3 1 8 (.tmp 30) (.tmp 38)⟩,
    ⟨none, some 5, .mv (.tmp 39)⟩])))
  (.rg [⟨none, some 40, .bin .add (.tmp 25) (.const (.int .i64 1))⟩,
    ⟨none, some 25, .mv (.tmp 40)⟩])))
def ac13 (q : Option (Nat × Nat)) : AC := .seq (.rg [⟨none, some 2, .mv (.const (.slice none 0 0))⟩,
    ⟨none, some 3, .mv (.const (.int .i64 0))⟩])
  (.seq (.seq (.rg [⟨none, some 8, .mv (.tmp 0)⟩,
    ⟨none, some 9, .call 36 [.tmp 8]⟩,
    ⟨none, some 4, .mv (.tmp 9)⟩])
  (.seq (.rg [⟨none, some 10, .mv (.tmp 4)⟩,
    ⟨none, some 11, .bin .neq (.tmp 10) (.const (.int .i64 0))⟩])
  (.cond (.tmp 11) (.seq (.rg [⟨none, some 12, .mv (.tmp 4)⟩,
    ⟨none, some 2, .mv (.const (.slice none 0 0))⟩,
    ⟨none, some 3, .mv (.tmp 12)⟩])
  (.ret)) (.skip))))
  (.seq (.seq (.rg [⟨none, some 13, .mv (.tmp 0)⟩,
    ⟨none, some 14, .len (.tmp 13)⟩,
    ⟨none, some 15, .bin .neq (.tmp 14) (.const (.int .i64 56))⟩,
    ⟨none, some 16, .mv (.tmp 15)⟩,
    ⟨some (16, true), some 17, .mv (.tmp 0)⟩,
    ⟨some (16, true), some 18, .len (.tmp 17)⟩,
    ⟨some (16, true), some 19, .bin .neq (.tmp 18) (.const (.int .i64 112))⟩,
    ⟨none, some 20, .pick (.tmp 16) (.tmp 19) (.const (.bool false))⟩])
  (.cond (.tmp 20) (.seq (.rg [⟨none, some 2, .mv (.const (.slice none 0 0))⟩,
    ⟨none, some 3, .mv (.const (.int .i64 2))⟩])
  (.ret)) (.skip)))
  (.seq (.rg [⟨none, some 21, .sliceA 4 1 (.global 0)⟩,
    ⟨none, some 22, .append 3 1 8 (.const (.slice none 0 0)) (.tmp 21)⟩,
    ⟨none, some 5, .mv (.tmp 22)⟩])
  (.seq (.seq (.rg [⟨none, some 23, .mv (.tmp 0)⟩,
    ⟨none, some 24, .len (.tmp 23)⟩,
    ⟨none, some 25, .mv (.const (.int .i64 0))⟩])
  (.blk 0 (.loop q [5, 23, 24, 25] (ac13_L0 q))))
  (.seq (.rg [⟨none, some 41, .mv (.tmp 5)⟩,
    ⟨none, some 2, .mv (.tmp 41)⟩,
    ⟨none, some 3, .mv (.const (.int .i64 0))⟩])
  (.ret))))))
theorem ac13_ok (q : Option (Nat × Nat)) : compF Go.Proofs.Tryd.prog Go.Proofs.Tryd.f13 (ac13 q) = some (ac13 q, [.tmp 2, .tmp 3]) := by kernel_rfl

/- clearway clearwayref10.Make -/
def ac14_L0 (q : Option (Nat × Nat)) : AC := .seq (.seq (.rg [⟨none, some 7, .mv (.tmp 4)⟩,
    ⟨none, some 8, .mv (.tmp 0)⟩,
    ⟨none, some 9, .len (.tmp 8)⟩,
    ⟨none, some 10, .bin .lss (.tmp 7) (.tmp 9)⟩,
    ⟨none, some 11, .mv (.tmp 10)⟩,
    ⟨some (11, true), some 12, .mv (.tmp 0)⟩,
    ⟨some (11, true), some 13, .len (.tmp 12)⟩,
    ⟨some (11, true), some 14, .bin .leq (.tmp 13) (.const (.int .i64 128))⟩,
    ⟨none, some 15, .pick (.tmp 11) (.tmp 14) (.const (.bool false))⟩])
  (.cond (.tmp 15) (.skip) (.exit 0)))
  (.seq (.blk 1 (.seq (.rg [⟨none, some 18, .mv (.tmp 0)⟩,
    ⟨none, some 19, .mv (.tmp 4)⟩,
    ⟨none, some 20, .idx 1 (.tmp 18) (.tmp 19)⟩,
    ⟨none, some 21, .load (.tmp 20)⟩,
    ⟨none, some 22, .bin .gtr (.tmp 21) (.const (.int .u8 1))⟩])
  (.cond (.tmp 22) (.seq (.rg [⟨none, some 2, .mv (.const (.slice none 0 0))⟩,
    ⟨none, some 3, .mv (.const (.int .i64 1))⟩])
  (.ret)) (.skip))))
  (.rg [⟨none, some 16, .mv (.tmp 4)⟩,
    ⟨none, some 17, .bin .add (.tmp 16) (.const (.int .i64 1))⟩,
    ⟨none, some 4, .mv (.tmp 17)⟩]))
def ac14_L1 (q : Option (Nat × Nat)) : AC := .seq (.seq (.rg [⟨none, some 35, .mv (.tmp 6)⟩,
    ⟨none, some 36, .mv (.tmp 0)⟩,
    ⟨none, some 37, .len (.tmp 36)⟩,
    ⟨none, some 38, .bin .lss (.tmp 35) (.tmp 37)⟩])
  (.cond (.tmp 38) (.skip) (.exit 2)))
  (.seq (.blk 3 (.rg [⟨none, some 41, .mv (.tmp 5)⟩,
    ⟨none, some 42, .mv (.tmp 6)⟩,
    ⟨none, some 43, .bin .mul (.const (.int .i64 2)) (.tmp 42)⟩,
    ⟨none, some 44, .bin .add (.const (.int .i64 17)) (.tmp 43)⟩,
    ⟨none, some 45, .mv (.tmp 0)⟩,
    ⟨none, some 46, .mv (.tmp 6)⟩,
    ⟨none, some 47, .idx 1 (.tmp 45) (.tmp 46)⟩,
    ⟨none, some 48, .load (.tmp 47)⟩,
    ⟨none, some 49, .conv .i64 (.tmp 48)⟩,
    ⟨none, some 50, .bin .sub (.tmp 44) (.tmp 49)⟩,
    ⟨none, some 51, .bslice false 3 1 1 [.p (.v (.int .i64 0))] [(0, 1, .tmp 50)]⟩,
    ⟨none, some 52, .append 3 1 8 (.tmp 41) (.tmp 51)⟩,
    ⟨none, some 5, .mv (.tmp 52)⟩]))
  (.rg [⟨none, some 39, .mv (.tmp 6)⟩,
    ⟨none, some 40, .bin .add (.tmp 39) (.const (.int .i64 1))⟩,
    ⟨none, some 6, .mv (.tmp 40)⟩]))
def ac14 (q : Option (Nat × Nat)) : AC := .seq (.rg [⟨none, some 2, .mv (.const (.slice none 0 0))⟩,
    ⟨none, some 3, .mv (.const (.int .i64 0))⟩])
  (.seq (.seq (.rg [⟨none, some 4, .mv (.const (.int .i64 0))⟩])
  (.blk 0 (.loop q [0, 4] (ac14_L0 q))))
  (.seq (.seq (.rg [⟨none, some 23, .mv (.tmp 0)⟩,
    ⟨none, some 24, .len (.tmp 23)⟩,
    ⟨none, some 25, .bin .gtr (.tmp 24) (.const (.int .i64 128))⟩])
  (.cond (.tmp 25) (.seq (.rg [⟨none, some 2, .mv (.const (.slice none 0 0))⟩,
    ⟨none, some 3, .mv (.const (.int .i64 4))⟩])
  (.ret)) (.skip)))
  (.seq (.seq (.rg [⟨none, some 26, .mv (.tmp 0)⟩,
    ⟨none, some 27, .len (.tmp 26)⟩,
    ⟨none, some 28, .bin .neq (.tmp 27) (.const (.int .i64 56))⟩,
    ⟨none, some 29, .mv (.tmp 28)⟩,
    ⟨some (29, true), some 30, .mv (.tmp 0)⟩,
    ⟨some (29, true), some 31, .len (.tmp 30)⟩,
    ⟨some (29, true), some 32, .bin .neq (.tmp 31) (.const (.int .i64 112))⟩,
    ⟨none, some 33, .pick (.tmp 29) (.tmp 32) (.const (.bool false))⟩])
  (.cond (.tmp 33) (.seq (.rg [⟨none, some 2, .mv (.const (.slice none 0 0))⟩,
    ⟨none, some 3, .mv (.const (.int .i64 2))⟩])
  (.ret)) (.skip)))
  (.seq (.rg [⟨none, some 34, .call 37 [.const (.int .i64 0)]⟩,
    ⟨none, some 5, .mv (.tmp 34)⟩])
  (.seq (.seq (.rg [⟨none, some 6, .mv (.const (.int .i64 0))⟩])
  (.blk 2 (.loop q [0, 5, 6] (ac14_L1 q))))
  (.seq (.rg [⟨none, some 53, .mv (.tmp 5)⟩,
    ⟨none, some 2, .mv (.tmp 53)⟩,
    ⟨none, some 3, .mv (.const (.int .i64 0))⟩])
  (.ret)))))))
theorem ac14_ok (q : Option (Nat × Nat)) : compF Go.Proofs.Tryd.prog Go.Proofs.Tryd.f14 (ac14 q) = some (ac14 q, [.tmp 2, .tmp 3]) := by kernel_rfl
end Go.Ab
