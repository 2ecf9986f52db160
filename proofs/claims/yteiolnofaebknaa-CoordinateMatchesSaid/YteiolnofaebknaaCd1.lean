/- The codes of functions of this seat, as annotated, compared with the program by the kernel. No conditions. -/
import Derived.Test.YteiolnofaebknaaProg
import Derived.Test.YteiolnofaebknaaAbB
namespace Go.Ab
/- clearway clearwaylaw34.CoordinateMatches -/
def ac3 : AC := .seq (.rg [⟨none, some 3, .box 23 (.tmp 0)⟩,
    ⟨none, some 5, .box 25 (.tmp 2)⟩,
    ⟨none, some 6, .mv (.const (.bool false))⟩])
  (.seq (.rg [⟨none, some 24, .loadA 6 (.tmp 3)⟩,
    ⟨none, some 25, .mv (.tmp 1)⟩,
    ⟨none, some 26, .call 11 [.tmp 24, .tmp 25]⟩,
    ⟨none, some 23, .mv (.tmp 26)⟩,
    ⟨none, some 27, .extract (.tmp 23) 0⟩,
    ⟨none, some 28, .extract (.tmp 23) 1⟩,
    ⟨none, some 7, .alloc 23 [.p (.v (.int .i64 0)), .p (.v (.int .i64 0)), .p (.v (.int .u8 0)), .p (.v (.int .i64 0)), .p (.v (.int .u8 0)), .p (.v (.int .i64 0))]⟩,
    ⟨none, none, .store 6 (.tmp 7) (.tmp 27)⟩,
    ⟨none, some 8, .mv (.tmp 28)⟩])
  (.seq (.rg [⟨none, some 30, .loadA 6 (.tmp 3)⟩,
    ⟨none, some 31, .mv (.tmp 1)⟩,
    ⟨none, some 32, .call 12 [.tmp 30, .tmp 31]⟩,
    ⟨none, some 29, .mv (.tmp 32)⟩,
    ⟨none, some 33, .extract (.tmp 29) 0⟩,
    ⟨none, some 34, .extract (.tmp 29) 1⟩,
    ⟨none, some 9, .alloc 23 [.p (.v (.int .i64 0)), .p (.v (.int .i64 0)), .p (.v (.int .u8 0)), .p (.v (.int .i64 0)), .p (.v (.int .u8 0)), .p (.v (.int .i64 0))]⟩,
    ⟨none, none, .store 6 (.tmp 9) (.tmp 33)⟩,
    ⟨none, some 10, .mv (.tmp 34)⟩])
  (.seq (.rg [⟨none, some 36, .loadA 6 (.tmp 3)⟩,
    ⟨none, some 37, .loadA 4 (.tmp 5)⟩,
    ⟨none, some 38, .call 13 [.tmp 36, .tmp 37]⟩,
    ⟨none, some 35, .mv (.tmp 38)⟩,
    ⟨none, some 39, .extract (.tmp 35) 0⟩,
    ⟨none, some 40, .extract (.tmp 35) 1⟩,
    ⟨none, some 11, .alloc 23 [.p (.v (.int .i64 0)), .p (.v (.int .i64 0)), .p (.v (.int .u8 0)), .p (.v (.int .i64 0)), .p (.v (.int .u8 0)), .p (.v (.int .i64 0))]⟩,
    ⟨none, none, .store 6 (.tmp 11) (.tmp 39)⟩,
    ⟨none, some 12, .mv (.tmp 40)⟩])
  (.seq (.rg [⟨none, some 42, .loadA 6 (.tmp 3)⟩,
    ⟨none, some 43, .loadA 4 (.tmp 5)⟩,
    ⟨none, some 44, .call 14 [.tmp 42, .tmp 43]⟩,
    ⟨none, some 41, .mv (.tmp 44)⟩,
    ⟨none, some 45, .extract (.tmp 41) 0⟩,
    ⟨none, some 46, .extract (.tmp 41) 1⟩,
    ⟨none, some 13, .alloc 23 [.p (.v (.int .i64 0)), .p (.v (.int .i64 0)), .p (.v (.int .u8 0)), .p (.v (.int .i64 0)), .p (.v (.int .u8 0)), .p (.v (.int .i64 0))]⟩,
    ⟨none, none, .store 6 (.tmp 13) (.tmp 45)⟩,
    ⟨none, some 14, .mv (.tmp 46)⟩])
  (.seq (.rg [⟨none, some 48, .loadA 6 (.tmp 3)⟩,
    ⟨none, some 49, .call 15 [.tmp 48]⟩,
    ⟨none, some 47, .mv (.tmp 49)⟩,
    ⟨none, some 50, .extract (.tmp 47) 0⟩,
    ⟨none, some 51, .extract (.tmp 47) 1⟩,
    ⟨none, some 15, .alloc 25 [.p (.v (.int .i64 0)), .p (.v (.int .i64 0)), .p (.v (.int .u8 0)), .p (.v (.int .i64 0))]⟩,
    ⟨none, none, .store 4 (.tmp 15) (.tmp 50)⟩,
    ⟨none, some 16, .mv (.tmp 51)⟩])
  (.seq (.rg [⟨none, some 53, .loadA 6 (.tmp 3)⟩,
    ⟨none, some 54, .call 16 [.tmp 53]⟩,
    ⟨none, some 52, .mv (.tmp 54)⟩,
    ⟨none, some 55, .extract (.tmp 52) 0⟩,
    ⟨none, some 56, .extract (.tmp 52) 1⟩,
    ⟨none, some 17, .alloc 25 [.p (.v (.int .i64 0)), .p (.v (.int .i64 0)), .p (.v (.int .u8 0)), .p (.v (.int .i64 0))]⟩,
    ⟨none, none, .store 4 (.tmp 17) (.tmp 55)⟩,
    ⟨none, some 18, .mv (.tmp 56)⟩])
  (.seq (.rg [⟨none, some 58, .fieldA 0 (.tmp 3)⟩,
    ⟨none, some 59, .load (.tmp 58)⟩,
    ⟨none, some 60, .fieldA 1 (.tmp 3)⟩,
    ⟨none, some 61, .load (.tmp 60)⟩,
    ⟨none, some 62, .call 17 [.tmp 59, .tmp 61]⟩,
    ⟨none, some 57, .mv (.tmp 62)⟩,
    ⟨none, some 63, .extract (.tmp 57) 0⟩,
    ⟨none, some 64, .extract (.tmp 57) 1⟩,
    ⟨none, some 19, .alloc 23 [.p (.v (.int .i64 0)), .p (.v (.int .i64 0)), .p (.v (.int .u8 0)), .p (.v (.int .i64 0)), .p (.v (.int .u8 0)), .p (.v (.int .i64 0))]⟩,
    ⟨none, none, .store 6 (.tmp 19) (.tmp 63)⟩,
    ⟨none, some 20, .mv (.tmp 64)⟩])
  (.seq (.rg [⟨none, some 66, .fieldA 0 (.tmp 3)⟩,
    ⟨none, some 67, .load (.tmp 66)⟩,
    ⟨none, some 68, .fieldA 1 (.tmp 3)⟩,
    ⟨none, some 69, .load (.tmp 68)⟩,
    ⟨none, some 70, .call 18 [.tmp 67, .tmp 69]⟩,
    ⟨none, some 65, .mv (.tmp 70)⟩,
    ⟨none, some 71, .extract (.tmp 65) 0⟩,
    ⟨none, some 72, .extract (.tmp 65) 1⟩,
    ⟨none, some 21, .alloc 23 [.p (.v (.int .i64 0)), .p (.v (.int .i64 0)), .p (.v (.int .u8 0)), .p (.v (.int .i64 0)), .p (.v (.int .u8 0)), .p (.v (.int .i64 0))]⟩,
    ⟨none, none, .store 6 (.tmp 21) (.tmp 71)⟩,
    ⟨none, some 22, .mv (.tmp 72)⟩])
  (.seq (.dr [(false, [(0, 0), (2, 0), (1, 0)], [⟨none, some 73, .loadA 6 (.tmp 3)⟩,
    ⟨none, some 75, .loadA 6 (.tmp 3)⟩,
    ⟨none, some 74, .call 19 [.tmp 73]⟩]),
   (true, [(3, 0), (4, 0), (5, 0)], [⟨none, some 76, .call 20 [.tmp 75]⟩,
    ⟨none, some 77, .bin .eql (.tmp 74) (.tmp 76)⟩,
    ⟨none, some 78, .mv (.tmp 77)⟩]),
   (false, [(6, 0), (7, 0)], [⟨some (78, true), some 79, .loadA 6 (.tmp 7)⟩,
    ⟨some (78, true), some 80, .loadA 6 (.tmp 9)⟩]),
   (true, [(8, 0), (9, 0), (10, 0)], [⟨some (78, true), some 81, .eqA [false, false, false, false, false, false] false (.tmp 79) (.tmp 80)⟩,
    ⟨none, some 82, .pick (.tmp 78) (.tmp 81) (.const (.bool false))⟩,
    ⟨none, some 83, .mv (.tmp 82)⟩]),
   (false, [(11, 0), (12, 0)], [⟨some (83, true), some 84, .mv (.tmp 8)⟩,
    ⟨some (83, true), some 85, .mv (.tmp 10)⟩]),
   (true, [(13, 0), (14, 0), (15, 0)], [⟨some (83, true), some 86, .bin .eql (.tmp 84) (.tmp 85)⟩,
    ⟨none, some 87, .pick (.tmp 83) (.tmp 86) (.const (.bool false))⟩,
    ⟨none, some 88, .mv (.tmp 87)⟩]),
   (false, [(16, 0), (17, 0)], [⟨some (88, true), some 89, .loadA 6 (.tmp 11)⟩,
    ⟨some (88, true), some 90, .loadA 6 (.tmp 13)⟩]),
   (true, [(18, 0), (19, 0), (20, 0)], [⟨some (88, true), some 91, .eqA [false, false, false, false, false, false] false (.tmp 89) (.tmp 90)⟩,
    ⟨none, some 92, .pick (.tmp 88) (.tmp 91) (.const (.bool false))⟩,
    ⟨none, some 93, .mv (.tmp 92)⟩]),
   (false, [(21, 0), (22, 0)], [⟨some (93, true), some 94, .mv (.tmp 12)⟩,
    ⟨some (93, true), some 95, .mv (.tmp 14)⟩]),
   (true, [(23, 0), (24, 0), (25, 0)], [⟨some (93, true), some 96, .bin .eql (.tmp 94) (.tmp 95)⟩,
    ⟨none, some 97, .pick (.tmp 93) (.tmp 96) (.const (.bool false))⟩,
    ⟨none, some 98, .mv (.tmp 97)⟩]),
   (false, [(26, 0), (27, 0)], [⟨some (98, true), some 99, .loadA 4 (.tmp 15)⟩,
    ⟨some (98, true), some 100, .loadA 4 (.tmp 17)⟩]),
   (true, [(28, 0), (29, 0), (30, 0)], [⟨some (98, true), some 101, .eqA [false, false, false, false] false (.tmp 99) (.tmp 100)⟩,
    ⟨none, some 102, .pick (.tmp 98) (.tmp 101) (.const (.bool false))⟩,
    ⟨none, some 103, .mv (.tmp 102)⟩]),
   (false, [(31, 0), (32, 0)], [⟨some (103, true), some 104, .mv (.tmp 16)⟩,
    ⟨some (103, true), some 105, .mv (.tmp 18)⟩]),
   (true, [(33, 0), (34, 0), (35, 0)], [⟨some (103, true), some 106, .bin .eql (.tmp 104) (.tmp 105)⟩,
    ⟨none, some 107, .pick (.tmp 103) (.tmp 106) (.const (.bool false))⟩,
    ⟨none, some 108, .mv (.tmp 107)⟩]),
   (false, [(36, 0), (37, 0)], [⟨some (108, true), some 109, .loadA 6 (.tmp 19)⟩,
    ⟨some (108, true), some 110, .loadA 6 (.tmp 21)⟩]),
   (true, [(38, 0), (39, 0), (40, 0)], [⟨some (108, true), some 111, .eqA [false, false, false, false, false, false] false (.tmp 109) (.tmp 110)⟩,
    ⟨none, some 112, .pick (.tmp 108) (.tmp 111) (.const (.bool false))⟩,
    ⟨none, some 113, .mv (.tmp 112)⟩]),
   (false, [(41, 0), (42, 0)], [⟨some (113, true), some 114, .mv (.tmp 20)⟩,
    ⟨some (113, true), some 115, .mv (.tmp 22)⟩]),
   (true, [(43, 0), (44, 0), (45, 0), (46, 0), (47, 0), (48, 0)], [⟨some (113, true), some 116, .bin .eql (.tmp 114) (.tmp 115)⟩,
    ⟨none, some 117, .pick (.tmp 113) (.tmp 116) (.const (.bool false))⟩,
    ⟨none, some 118, .mv (.tmp 117)⟩,
    ⟨some (118, true), some 119, .call 21 []⟩,
    ⟨none, some 120, .pick (.tmp 118) (.tmp 119) (.const (.bool false))⟩,
    ⟨none, some 6, .mv (.tmp 120)⟩])])
  (.ret))))))))))
theorem ac3_ok : compF Go.Proofs.Try.prog Go.Proofs.Try.f3 ac3 = some (ac3, [.tmp 6]) := by kernel_rfl

/- clearway clearwaylaw34.CoordinateStale -/
def ac10 : AC := .seq (.rg [⟨none, some 3, .box 23 (.tmp 0)⟩,
    ⟨none, some 4, .box 25 (.tmp 1)⟩,
    ⟨none, some 5, .box 25 (.tmp 2)⟩,
    ⟨none, some 6, .mv (.const (.bool false))⟩])
  (.seq (.seq (.rg [⟨none, some 13, .call 21 []⟩,
    ⟨none, some 14, .un .not (.tmp 13)⟩])
  (.cond (.tmp 14) (.seq (.rg [⟨none, some 6, .mv (.const (.bool false))⟩])
  (.ret)) (.skip)))
  (.seq (.rg [⟨none, some 16, .loadA 6 (.tmp 3)⟩,
    ⟨none, some 17, .loadA 4 (.tmp 4)⟩,
    ⟨none, some 18, .call 13 [.tmp 16, .tmp 17]⟩,
    ⟨none, some 15, .mv (.tmp 18)⟩,
    ⟨none, some 19, .extract (.tmp 15) 0⟩,
    ⟨none, some 20, .extract (.tmp 15) 1⟩,
    ⟨none, some 7, .alloc 23 [.p (.v (.int .i64 0)), .p (.v (.int .i64 0)), .p (.v (.int .u8 0)), .p (.v (.int .i64 0)), .p (.v (.int .u8 0)), .p (.v (.int .i64 0))]⟩,
    ⟨none, none, .store 6 (.tmp 7) (.tmp 19)⟩,
    ⟨none, some 8, .mv (.tmp 20)⟩])
  (.seq (.seq (.rg [⟨none, some 21, .mv (.tmp 8)⟩,
    ⟨none, some 22, .bin .neq (.tmp 21) (.const (.int .i64 0))⟩])
  (.cond (.tmp 22) (.seq (.rg [⟨none, some 23, .loadA 6 (.tmp 7)⟩,
    ⟨none, some 24, .build [.p (.v (.int .i64 0)), .p (.v (.int .i64 0)), .p (.v (.int .u8 0)), .p (.v (.int .i64 0)), .p (.v (.int .u8 0)), .p (.v (.int .i64 0))] []⟩,
    ⟨none, some 25, .eqA [false, false, false, false, false, false] false (.tmp 23) (.tmp 24)⟩,
    ⟨none, some 6, .mv (.tmp 25)⟩])
  (.ret)) (.skip)))
  (.seq (.rg [⟨none, some 27, .loadA 6 (.tmp 7)⟩,
    ⟨none, some 28, .loadA 4 (.tmp 4)⟩,
    ⟨none, some 29, .call 13 [.tmp 27, .tmp 28]⟩,
    ⟨none, some 26, .mv (.tmp 29)⟩,
    ⟨none, some 30, .extract (.tmp 26) 0⟩,
    ⟨none, some 31, .extract (.tmp 26) 1⟩,
    ⟨none, some 9, .alloc 23 [.p (.v (.int .i64 0)), .p (.v (.int .i64 0)), .p (.v (.int .u8 0)), .p (.v (.int .i64 0)), .p (.v (.int .u8 0)), .p (.v (.int .i64 0))]⟩,
    ⟨none, none, .store 6 (.tmp 9) (.tmp 30)⟩,
    ⟨none, some 10, .mv (.tmp 31)⟩])
  (.seq (.seq (.rg [⟨none, some 32, .mv (.tmp 10)⟩,
    ⟨none, some 33, .bin .neq (.tmp 32) (.const (.int .i64 0))⟩,
    ⟨none, some 34, .mv (.tmp 33)⟩,
    ⟨some (34, false), some 35, .loadA 6 (.tmp 9)⟩,
    ⟨some (34, false), some 36, .loadA 6 (.tmp 7)⟩,
    ⟨some (34, false), some 37, .eqA [false, false, false, false, false, false] true (.tmp 35) (.tmp 36)⟩,
    ⟨none, some 38, .pick (.tmp 34) (.const (.bool true)) (.tmp 37)⟩])
  (.cond (.tmp 38) (.seq (.rg [⟨none, some 6, .mv (.const (.bool false))⟩])
  (.ret)) (.skip)))
  (.seq (.rg [⟨none, some 40, .loadA 6 (.tmp 7)⟩,
    ⟨none, some 41, .loadA 4 (.tmp 5)⟩,
    ⟨none, some 42, .call 13 [.tmp 40, .tmp 41]⟩,
    ⟨none, some 39, .mv (.tmp 42)⟩,
    ⟨none, some 43, .extract (.tmp 39) 0⟩,
    ⟨none, some 44, .extract (.tmp 39) 1⟩,
    ⟨none, some 11, .alloc 23 [.p (.v (.int .i64 0)), .p (.v (.int .i64 0)), .p (.v (.int .u8 0)), .p (.v (.int .i64 0)), .p (.v (.int .u8 0)), .p (.v (.int .i64 0))]⟩,
    ⟨none, none, .store 6 (.tmp 11) (.tmp 43)⟩,
    ⟨none, some 12, .mv (.tmp 44)⟩])
  (.seq (.seq (.rg [⟨none, some 45, .mv (.tmp 12)⟩,
    ⟨none, some 46, .bin .eql (.tmp 45) (.const (.int .i64 0))⟩,
    ⟨none, some 47, .mv (.tmp 46)⟩,
    ⟨some (47, true), some 48, .fieldA 3 (.tmp 5)⟩,
    ⟨some (47, true), some 49, .load (.tmp 48)⟩,
    ⟨some (47, true), some 50, .fieldA 3 (.tmp 4)⟩,
    ⟨some (47, true), some 51, .load (.tmp 50)⟩,
    ⟨some (47, true), some 52, .bin .leq (.tmp 49) (.tmp 51)⟩,
    ⟨none, some 53, .pick (.tmp 47) (.tmp 52) (.const (.bool false))⟩,
    ⟨none, some 54, .mv (.tmp 53)⟩,
    ⟨some (54, true), some 55, .loadA 6 (.tmp 11)⟩,
    ⟨some (54, true), some 56, .loadA 6 (.tmp 7)⟩,
    ⟨some (54, true), some 57, .eqA [false, false, false, false, false, false] true (.tmp 55) (.tmp 56)⟩,
    ⟨none, some 58, .pick (.tmp 54) (.tmp 57) (.const (.bool false))⟩])
  (.cond (.tmp 58) (.seq (.rg [⟨none, some 6, .mv (.const (.bool false))⟩])
  (.ret)) (.skip)))
  (.seq (.rg [⟨none, some 59, .fieldA 0 (.tmp 7)⟩,
    ⟨none, some 60, .load (.tmp 59)⟩,
    ⟨none, some 61, .fieldA 0 (.tmp 3)⟩,
    ⟨none, some 62, .load (.tmp 61)⟩,
    ⟨none, some 63, .bin .eql (.tmp 60) (.tmp 62)⟩,
    ⟨none, some 64, .mv (.tmp 63)⟩,
    ⟨some (64, true), some 65, .fieldA 1 (.tmp 7)⟩,
    ⟨some (64, true), some 66, .load (.tmp 65)⟩,
    ⟨some (64, true), some 67, .fieldA 1 (.tmp 3)⟩,
    ⟨some (64, true), some 68, .load (.tmp 67)⟩,
    ⟨some (64, true), some 69, .bin .eql (.tmp 66) (.tmp 68)⟩,
    ⟨none, some 70, .pick (.tmp 64) (.tmp 69) (.const (.bool false))⟩,
    ⟨none, some 71, .mv (.tmp 70)⟩,
    ⟨some (71, true), some 72, .fieldA 5 (.tmp 7)⟩,
    ⟨some (71, true), some 73, .load (.tmp 72)⟩,
    ⟨some (71, true), some 74, .fieldA 5 (.tmp 3)⟩,
    ⟨some (71, true), some 75, .load (.tmp 74)⟩,
    ⟨some (71, true), some 76, .fieldA 3 (.tmp 4)⟩,
    ⟨some (71, true), some 77, .load (.tmp 76)⟩,
    ⟨some (71, true), some 78, .minmax true [.tmp 75, .tmp 77]⟩,
    ⟨some (71, true), some 79, .bin .eql (.tmp 73) (.tmp 78)⟩,
    ⟨none, some 80, .pick (.tmp 71) (.tmp 79) (.const (.bool false))⟩,
    ⟨none, some 81, .mv (.tmp 80)⟩,
    ⟨some (81, true), some 82, .loadA 6 (.tmp 7)⟩,
    ⟨some (81, true), some 83, .call 19 [.tmp 82]⟩,
    ⟨some (81, true), some 84, .bin .eql (.tmp 83) (.const (.int .i64 0))⟩,
    ⟨none, some 85, .pick (.tmp 81) (.tmp 84) (.const (.bool false))⟩,
    ⟨none, some 6, .mv (.tmp 85)⟩])
  (.ret)))))))))
theorem ac10_ok : compF Go.Proofs.Try.prog Go.Proofs.Try.f10 ac10 = some (ac10, [.tmp 6]) := by kernel_rfl

/- clearway coordinate.Choose -/
def ac11 : AC := .seq (.rg [⟨none, some 2, .box 23 (.tmp 0)⟩,
    ⟨none, some 4, .alloc 23 [.p (.v (.int .i64 0)), .p (.v (.int .i64 0)), .p (.v (.int .u8 0)), .p (.v (.int .i64 0)), .p (.v (.int .u8 0)), .p (.v (.int .i64 0))]⟩,
    ⟨none, some 5, .mv (.const (.int .i64 0))⟩])
  (.seq (.seq (.rg [⟨none, some 7, .loadA 6 (.tmp 2)⟩,
    ⟨none, some 8, .call 19 [.tmp 7]⟩,
    ⟨none, some 6, .mv (.tmp 8)⟩])
  (.seq (.rg [⟨none, some 9, .mv (.tmp 6)⟩,
    ⟨none, some 10, .bin .neq (.tmp 9) (.const (.int .i64 0))⟩])
  (.cond (.tmp 10) (.seq (.rg [⟨none, some 11, .build [.p (.v (.int .i64 0)), .p (.v (.int .i64 0)), .p (.v (.int .u8 0)), .p (.v (.int .i64 0)), .p (.v (.int .u8 0)), .p (.v (.int .i64 0))] []⟩,
    ⟨none, some 12, .mv (.tmp 6)⟩,
    ⟨none, none, .store 6 (.tmp 4) (.tmp 11)⟩,
    ⟨none, some 5, .mv (.tmp 12)⟩])
  (.ret)) (.skip))))
  (.seq (.seq (.rg [⟨none, some 13, .mv (.tmp 1)⟩,
    ⟨none, some 14, .bin .gtr (.tmp 13) (.const (.int .u8 2))⟩])
  (.cond (.tmp 14) (.seq (.rg [⟨none, some 15, .build [.p (.v (.int .i64 0)), .p (.v (.int .i64 0)), .p (.v (.int .u8 0)), .p (.v (.int .i64 0)), .p (.v (.int .u8 0)), .p (.v (.int .i64 0))] []⟩,
    ⟨none, none, .store 6 (.tmp 4) (.tmp 15)⟩,
    ⟨none, some 5, .mv (.const (.int .i64 6))⟩])
  (.ret)) (.skip)))
  (.seq (.dr [(false, [(0, 0), (1, 0), (2, 0), (3, 0)], [⟨none, some 16, .loadA 6 (.tmp 2)⟩,
    ⟨none, some 17, .loadA 6 (.tmp 2)⟩,
    ⟨none, some 18, .mv (.tmp 1)⟩,
    ⟨none, some 19, .call 32 [.tmp 17, .tmp 18]⟩]),
   (true, [(4, 0)], [⟨none, some 20, .call 31 [.tmp 16, .tmp 19]⟩]),
   (false, [(5, 0), (6, 0)], [⟨none, some 21, .extract (.tmp 20) 0⟩,
    ⟨none, some 22, .extract (.tmp 20) 1⟩]),
   (true, [(7, 0), (8, 0)], [⟨none, none, .store 6 (.tmp 4) (.tmp 21)⟩,
    ⟨none, some 5, .mv (.tmp 22)⟩])])
  (.ret))))
theorem ac11_ok : compF Go.Proofs.Try.prog Go.Proofs.Try.f11 ac11 = some (ac11, [.cell 4 (some 6), .tmp 5]) := by kernel_rfl

/- clearway clearwayref34.Choose -/
def ac12 : AC := .seq (.rg [⟨none, some 2, .box 23 (.tmp 0)⟩,
    ⟨none, some 4, .alloc 23 [.p (.v (.int .i64 0)), .p (.v (.int .i64 0)), .p (.v (.int .u8 0)), .p (.v (.int .i64 0)), .p (.v (.int .u8 0)), .p (.v (.int .i64 0))]⟩,
    ⟨none, some 5, .mv (.const (.int .i64 0))⟩])
  (.seq (.rg [⟨none, some 7, .loadA 6 (.tmp 2)⟩,
    ⟨none, some 8, .call 20 [.tmp 7]⟩,
    ⟨none, some 6, .mv (.tmp 8)⟩])
  (.seq (.seq (.rg [⟨none, some 9, .mv (.tmp 6)⟩,
    ⟨none, some 10, .bin .neq (.tmp 9) (.const (.int .i64 0))⟩])
  (.cond (.tmp 10) (.seq (.rg [⟨none, some 11, .build [.p (.v (.int .i64 0)), .p (.v (.int .i64 0)), .p (.v (.int .u8 0)), .p (.v (.int .i64 0)), .p (.v (.int .u8 0)), .p (.v (.int .i64 0))] []⟩,
    ⟨none, some 12, .mv (.tmp 6)⟩,
    ⟨none, none, .store 6 (.tmp 4) (.tmp 11)⟩,
    ⟨none, some 5, .mv (.tmp 12)⟩])
  (.ret)) (.skip)))
  (.seq (.seq (.rg [⟨none, some 13, .mv (.tmp 1)⟩,
    ⟨none, some 14, .bin .gtr (.tmp 13) (.const (.int .u8 2))⟩])
  (.cond (.tmp 14) (.seq (.rg [⟨none, some 15, .build [.p (.v (.int .i64 0)), .p (.v (.int .i64 0)), .p (.v (.int .u8 0)), .p (.v (.int .i64 0)), .p (.v (.int .u8 0)), .p (.v (.int .i64 0))] []⟩,
    ⟨none, none, .store 6 (.tmp 4) (.tmp 15)⟩,
    ⟨none, some 5, .mv (.const (.int .i64 6))⟩])
  (.ret)) (.skip)))
  (.seq (.seq (.rg [⟨none, some 16, .fieldA 0 (.tmp 2)⟩,
    ⟨none, some 17, .load (.tmp 16)⟩,
    ⟨none, some 18, .fieldA 1 (.tmp 2)⟩,
    ⟨none, some 19, .load (.tmp 18)⟩,
    ⟨none, some 20, .bin .gtr (.tmp 17) (.tmp 19)⟩,
    ⟨none, some 21, .mv (.tmp 20)⟩,
    ⟨some (21, true), some 22, .mv (.tmp 1)⟩,
    ⟨some (21, true), some 23, .fieldA 4 (.tmp 2)⟩,
    ⟨some (21, true), some 24, .load (.tmp 23)⟩,
    ⟨some (21, true), some 25, .call 33 [.tmp 22, .tmp 24]⟩,
    ⟨none, some 26, .pick (.tmp 21) (.tmp 25) (.const (.bool false))⟩])
  (.cond (.tmp 26) (.seq (.dr [(false, [(0, 0), (1, 0), (2, 0)], [⟨none, some 27, .loadA 6 (.tmp 2)⟩,
    ⟨none, some 28, .mv (.tmp 1)⟩,
    ⟨none, some 29, .call 35 [.tmp 28]⟩]),
   (true, [(3, 0)], [⟨none, some 30, .call 34 [.tmp 27, .tmp 29]⟩]),
   (false, [(4, 0), (5, 0)], [⟨none, some 31, .extract (.tmp 30) 0⟩,
    ⟨none, some 32, .extract (.tmp 30) 1⟩]),
   (true, [(6, 0), (7, 0)], [⟨none, none, .store 6 (.tmp 4) (.tmp 31)⟩,
    ⟨none, some 5, .mv (.tmp 32)⟩])])
  (.ret)) (.skip)))
  (.seq (.rg [⟨none, some 33, .loadA 6 (.tmp 2)⟩,
    ⟨none, some 34, .mv (.tmp 1)⟩,
    ⟨none, some 35, .call 34 [.tmp 33, .tmp 34]⟩,
    ⟨none, some 36, .extract (.tmp 35) 0⟩,
    ⟨none, some 37, .extract (.tmp 35) 1⟩,
    ⟨none, none, .store 6 (.tmp 4) (.tmp 36)⟩,
    ⟨none, some 5, .mv (.tmp 37)⟩])
  (.ret))))))
theorem ac12_ok : compF Go.Proofs.Try.prog Go.Proofs.Try.f12 ac12 = some (ac12, [.cell 4 (some 6), .tmp 5]) := by kernel_rfl

/- clearway coordinate.Hear -/
def ac13 : AC := .seq (.rg [⟨none, some 2, .box 23 (.tmp 0)⟩,
    ⟨none, some 3, .box 25 (.tmp 1)⟩,
    ⟨none, some 4, .alloc 23 [.p (.v (.int .i64 0)), .p (.v (.int .i64 0)), .p (.v (.int .u8 0)), .p (.v (.int .i64 0)), .p (.v (.int .u8 0)), .p (.v (.int .i64 0))]⟩,
    ⟨none, some 5, .mv (.const (.int .i64 0))⟩])
  (.seq (.seq (.rg [⟨none, some 8, .loadA 6 (.tmp 2)⟩,
    ⟨none, some 9, .call 19 [.tmp 8]⟩,
    ⟨none, some 6, .mv (.tmp 9)⟩])
  (.seq (.rg [⟨none, some 10, .mv (.tmp 6)⟩,
    ⟨none, some 11, .bin .neq (.tmp 10) (.const (.int .i64 0))⟩])
  (.cond (.tmp 11) (.seq (.rg [⟨none, some 12, .build [.p (.v (.int .i64 0)), .p (.v (.int .i64 0)), .p (.v (.int .u8 0)), .p (.v (.int .i64 0)), .p (.v (.int .u8 0)), .p (.v (.int .i64 0))] []⟩,
    ⟨none, some 13, .mv (.tmp 6)⟩,
    ⟨none, none, .store 6 (.tmp 4) (.tmp 12)⟩,
    ⟨none, some 5, .mv (.tmp 13)⟩])
  (.ret)) (.skip))))
  (.seq (.seq (.rg [⟨none, some 14, .loadA 4 (.tmp 3)⟩,
    ⟨none, some 15, .call 36 [.tmp 14]⟩,
    ⟨none, some 7, .mv (.tmp 15)⟩])
  (.seq (.rg [⟨none, some 16, .mv (.tmp 7)⟩,
    ⟨none, some 17, .bin .neq (.tmp 16) (.const (.int .i64 0))⟩])
  (.cond (.tmp 17) (.seq (.rg [⟨none, some 18, .build [.p (.v (.int .i64 0)), .p (.v (.int .i64 0)), .p (.v (.int .u8 0)), .p (.v (.int .i64 0)), .p (.v (.int .u8 0)), .p (.v (.int .i64 0))] []⟩,
    ⟨none, some 19, .mv (.tmp 7)⟩,
    ⟨none, none, .store 6 (.tmp 4) (.tmp 18)⟩,
    ⟨none, some 5, .mv (.tmp 19)⟩])
  (.ret)) (.skip))))
  (.seq (.blk 0 (.seq (.rg [⟨none, some 21, .fieldA 0 (.tmp 3)⟩,
    ⟨none, some 22, .load (.tmp 21)⟩,
    ⟨none, some 23, .fieldA 1 (.tmp 2)⟩,
    ⟨none, some 24, .load (.tmp 23)⟩,
    ⟨none, some 25, .bin .neq (.tmp 22) (.tmp 24)⟩,
    ⟨none, some 26, .mv (.tmp 25)⟩,
    ⟨some (26, false), some 27, .fieldA 1 (.tmp 3)⟩,
    ⟨some (26, false), some 28, .load (.tmp 27)⟩,
    ⟨some (26, false), some 29, .fieldA 0 (.tmp 2)⟩,
    ⟨some (26, false), some 30, .load (.tmp 29)⟩,
    ⟨some (26, false), some 31, .bin .neq (.tmp 28) (.tmp 30)⟩,
    ⟨none, some 32, .pick (.tmp 26) (.const (.bool true)) (.tmp 31)⟩,
    ⟨none, some 20, .mv (.tmp 32)⟩])
  (.cond (.tmp 20) (.seq (.rg [⟨none, some 33, .build [.p (.v (.int .i64 0)), .p (.v (.int .i64 0)), .p (.v (.int .u8 0)), .p (.v (.int .i64 0)), .p (.v (.int .u8 0)), .p (.v (.int .i64 0))] []⟩,
    ⟨none, none, .store 6 (.tmp 4) (.tmp 33)⟩,
    ⟨none, some 5, .mv (.const (.int .i64 16))⟩])
  (.ret)) (.seq (.rg [⟨none, some 35, .fieldA 3 (.tmp 3)⟩,
    ⟨none, some 36, .load (.tmp 35)⟩,
    ⟨none, some 37, .fieldA 5 (.tmp 2)⟩,
    ⟨none, some 38, .load (.tmp 37)⟩,
    ⟨none, some 39, .bin .leq (.tmp 36) (.tmp 38)⟩,
    ⟨none, some 34, .mv (.tmp 39)⟩])
  (.cond (.tmp 34) (.seq (.rg [⟨none, some 40, .loadA 6 (.tmp 2)⟩,
    ⟨none, none, .store 6 (.tmp 4) (.tmp 40)⟩,
    ⟨none, some 5, .mv (.const (.int .i64 0))⟩])
  (.ret)) (.skip))))))
  (.seq (.dr [(false, [(0, 0), (1, 0), (2, 0), (3, 0), (4, 0), (5, 0)], [⟨none, some 41, .fieldA 2 (.tmp 3)⟩,
    ⟨none, some 42, .load (.tmp 41)⟩,
    ⟨none, some 43, .fieldA 3 (.tmp 3)⟩,
    ⟨none, some 44, .load (.tmp 43)⟩,
    ⟨none, some 45, .fieldA 4 (.tmp 2)⟩,
    ⟨none, none, .store 1 (.tmp 45) (.tmp 42)⟩]),
   (true, [(6, 0), (7, 0)], [⟨none, some 46, .fieldA 5 (.tmp 2)⟩,
    ⟨none, none, .store 1 (.tmp 46) (.tmp 44)⟩])])
  (.seq (.dr [(false, [(0, 0), (1, 0), (2, 0), (3, 0), (4, 0)], [⟨none, some 47, .loadA 6 (.tmp 2)⟩,
    ⟨none, some 48, .loadA 6 (.tmp 2)⟩,
    ⟨none, some 49, .fieldA 2 (.tmp 2)⟩,
    ⟨none, some 50, .load (.tmp 49)⟩,
    ⟨none, some 51, .call 32 [.tmp 48, .tmp 50]⟩]),
   (true, [(5, 0)], [⟨none, some 52, .call 31 [.tmp 47, .tmp 51]⟩]),
   (false, [(6, 0), (7, 0)], [⟨none, some 53, .extract (.tmp 52) 0⟩,
    ⟨none, some 54, .extract (.tmp 52) 1⟩]),
   (true, [(8, 0), (9, 0)], [⟨none, none, .store 6 (.tmp 4) (.tmp 53)⟩,
    ⟨none, some 5, .mv (.tmp 54)⟩])])
  (.ret))))))
theorem ac13_ok : compF Go.Proofs.Try.prog Go.Proofs.Try.f13 ac13 = some (ac13, [.cell 4 (some 6), .tmp 5]) := by kernel_rfl

/- clearway clearwayref34.Hear -/
def ac14 : AC := .seq (.rg [⟨none, some 2, .box 23 (.tmp 0)⟩,
    ⟨none, some 3, .box 25 (.tmp 1)⟩,
    ⟨none, some 4, .alloc 23 [.p (.v (.int .i64 0)), .p (.v (.int .i64 0)), .p (.v (.int .u8 0)), .p (.v (.int .i64 0)), .p (.v (.int .u8 0)), .p (.v (.int .i64 0))]⟩,
    ⟨none, some 5, .mv (.const (.int .i64 0))⟩])
  (.seq (.rg [⟨none, some 7, .loadA 6 (.tmp 2)⟩,
    ⟨none, some 8, .call 20 [.tmp 7]⟩,
    ⟨none, some 6, .mv (.tmp 8)⟩])
  (.seq (.seq (.rg [⟨none, some 9, .mv (.tmp 6)⟩,
    ⟨none, some 10, .bin .eql (.tmp 9) (.const (.int .i64 0))⟩])
  (.cond (.tmp 10) (.rg [⟨none, some 11, .loadA 4 (.tmp 3)⟩,
    ⟨none, some 12, .call 37 [.tmp 11]⟩,
    ⟨none, some 6, .mv (.tmp 12)⟩]) (.skip)))
  (.seq (.seq (.rg [⟨none, some 13, .mv (.tmp 6)⟩,
    ⟨none, some 14, .bin .eql (.tmp 13) (.const (.int .i64 0))⟩,
    ⟨none, some 15, .mv (.tmp 14)⟩,
    ⟨some (15, true), some 16, .fieldA 0 (.tmp 3)⟩,
    ⟨some (15, true), some 17, .load (.tmp 16)⟩,
    ⟨some (15, true), some 18, .fieldA 1 (.tmp 2)⟩,
    ⟨some (15, true), some 19, .load (.tmp 18)⟩,
    ⟨some (15, true), some 20, .bin .neq (.tmp 17) (.tmp 19)⟩,
    ⟨some (15, true), some 21, .mv (.tmp 20)⟩,
    ⟨some (21, false), some 22, .fieldA 1 (.tmp 3)⟩,
    ⟨some (21, false), some 23, .load (.tmp 22)⟩,
    ⟨some (21, false), some 24, .fieldA 0 (.tmp 2)⟩,
    ⟨some (21, false), some 25, .load (.tmp 24)⟩,
    ⟨some (21, false), some 26, .bin .neq (.tmp 23) (.tmp 25)⟩,
    ⟨some (15, true), some 27, .pick (.tmp 21) (.const (.bool true)) (.tmp 26)⟩,
    ⟨none, some 28, .pick (.tmp 15) (.tmp 27) (.const (.bool false))⟩])
  (.cond (.tmp 28) (.rg [⟨none, some 6, .mv (.const (.int .i64 16))⟩]) (.skip)))
  (.seq (.seq (.rg [⟨none, some 29, .mv (.tmp 6)⟩,
    ⟨none, some 30, .bin .neq (.tmp 29) (.const (.int .i64 0))⟩])
  (.cond (.tmp 30) (.seq (.rg [⟨none, some 31, .build [.p (.v (.int .i64 0)), .p (.v (.int .i64 0)), .p (.v (.int .u8 0)), .p (.v (.int .i64 0)), .p (.v (.int .u8 0)), .p (.v (.int .i64 0))] []⟩,
    ⟨none, some 32, .mv (.tmp 6)⟩,
    ⟨none, none, .store 6 (.tmp 4) (.tmp 31)⟩,
    ⟨none, some 5, .mv (.tmp 32)⟩])
  (.ret)) (.skip)))
  (.seq (.seq (.rg [⟨none, some 33, .fieldA 3 (.tmp 3)⟩,
    ⟨none, some 34, .load (.tmp 33)⟩,
    ⟨none, some 35, .fieldA 5 (.tmp 2)⟩,
    ⟨none, some 36, .load (.tmp 35)⟩,
    ⟨none, some 37, .bin .leq (.tmp 34) (.tmp 36)⟩])
  (.cond (.tmp 37) (.seq (.rg [⟨none, some 38, .loadA 6 (.tmp 2)⟩,
    ⟨none, none, .store 6 (.tmp 4) (.tmp 38)⟩,
    ⟨none, some 5, .mv (.const (.int .i64 0))⟩])
  (.ret)) (.skip)))
  (.seq (.rg [⟨none, some 39, .fieldA 2 (.tmp 3)⟩,
    ⟨none, some 40, .load (.tmp 39)⟩,
    ⟨none, some 41, .fieldA 4 (.tmp 2)⟩,
    ⟨none, none, .store 1 (.tmp 41) (.tmp 40)⟩])
  (.seq (.rg [⟨none, some 42, .fieldA 3 (.tmp 3)⟩,
    ⟨none, some 43, .load (.tmp 42)⟩,
    ⟨none, some 44, .fieldA 5 (.tmp 2)⟩,
    ⟨none, none, .store 1 (.tmp 44) (.tmp 43)⟩])
  (.seq (.seq (.rg [⟨none, some 45, .fieldA 0 (.tmp 2)⟩,
    ⟨none, some 46, .load (.tmp 45)⟩,
    ⟨none, some 47, .fieldA 1 (.tmp 2)⟩,
    ⟨none, some 48, .load (.tmp 47)⟩,
    ⟨none, some 49, .bin .gtr (.tmp 46) (.tmp 48)⟩,
    ⟨none, some 50, .mv (.tmp 49)⟩,
    ⟨some (50, true), some 51, .fieldA 2 (.tmp 2)⟩,
    ⟨some (50, true), some 52, .load (.tmp 51)⟩,
    ⟨some (50, true), some 53, .fieldA 4 (.tmp 2)⟩,
    ⟨some (50, true), some 54, .load (.tmp 53)⟩,
    ⟨some (50, true), some 55, .call 33 [.tmp 52, .tmp 54]⟩,
    ⟨none, some 56, .pick (.tmp 50) (.tmp 55) (.const (.bool false))⟩])
  (.cond (.tmp 56) (.seq (.dr [(false, [(0, 0), (1, 0), (2, 0), (3, 0)], [⟨none, some 57, .loadA 6 (.tmp 2)⟩,
    ⟨none, some 58, .fieldA 4 (.tmp 2)⟩,
    ⟨none, some 59, .load (.tmp 58)⟩,
    ⟨none, some 60, .call 35 [.tmp 59]⟩]),
   (true, [(4, 0)], [⟨none, some 61, .call 34 [.tmp 57, .tmp 60]⟩]),
   (false, [(5, 0), (6, 0)], [⟨none, some 62, .extract (.tmp 61) 0⟩,
    ⟨none, some 63, .extract (.tmp 61) 1⟩]),
   (true, [(7, 0), (8, 0)], [⟨none, none, .store 6 (.tmp 4) (.tmp 62)⟩,
    ⟨none, some 5, .mv (.tmp 63)⟩])])
  (.ret)) (.skip)))
  (.seq (.rg [⟨none, some 64, .loadA 6 (.tmp 2)⟩,
    ⟨none, none, .store 6 (.tmp 4) (.tmp 64)⟩,
    ⟨none, some 5, .mv (.const (.int .i64 0))⟩])
  (.ret))))))))))
theorem ac14_ok : compF Go.Proofs.Try.prog Go.Proofs.Try.f14 ac14 = some (ac14, [.cell 4 (some 6), .tmp 5]) := by kernel_rfl

/- clearway coordinate.Say -/
def ac15 : AC := .seq (.rg [⟨none, some 1, .box 23 (.tmp 0)⟩,
    ⟨none, some 2, .alloc 25 [.p (.v (.int .i64 0)), .p (.v (.int .i64 0)), .p (.v (.int .u8 0)), .p (.v (.int .i64 0))]⟩,
    ⟨none, some 3, .mv (.const (.int .i64 0))⟩])
  (.seq (.seq (.rg [⟨none, some 5, .loadA 6 (.tmp 1)⟩,
    ⟨none, some 6, .call 19 [.tmp 5]⟩,
    ⟨none, some 4, .mv (.tmp 6)⟩])
  (.seq (.rg [⟨none, some 7, .mv (.tmp 4)⟩,
    ⟨none, some 8, .bin .neq (.tmp 7) (.const (.int .i64 0))⟩])
  (.cond (.tmp 8) (.seq (.rg [⟨none, some 9, .build [.p (.v (.int .i64 0)), .p (.v (.int .i64 0)), .p (.v (.int .u8 0)), .p (.v (.int .i64 0))] []⟩,
    ⟨none, some 10, .mv (.tmp 4)⟩,
    ⟨none, none, .store 4 (.tmp 2) (.tmp 9)⟩,
    ⟨none, some 3, .mv (.tmp 10)⟩])
  (.ret)) (.skip))))
  (.seq (.seq (.rg [⟨none, some 11, .fieldA 3 (.tmp 1)⟩,
    ⟨none, some 12, .load (.tmp 11)⟩,
    ⟨none, some 13, .bin .eql (.tmp 12) (.const (.int .i64 0))⟩])
  (.cond (.tmp 13) (.seq (.rg [⟨none, some 14, .build [.p (.v (.int .i64 0)), .p (.v (.int .i64 0)), .p (.v (.int .u8 0)), .p (.v (.int .i64 0))] []⟩,
    ⟨none, none, .store 4 (.tmp 2) (.tmp 14)⟩,
    ⟨none, some 3, .mv (.const (.int .i64 9))⟩])
  (.ret)) (.skip)))
  (.seq (.rg [⟨none, some 15, .fieldA 0 (.tmp 1)⟩,
    ⟨none, some 16, .load (.tmp 15)⟩,
    ⟨none, some 17, .fieldA 1 (.tmp 1)⟩,
    ⟨none, some 18, .load (.tmp 17)⟩,
    ⟨none, some 19, .fieldA 2 (.tmp 1)⟩,
    ⟨none, some 20, .load (.tmp 19)⟩,
    ⟨none, some 21, .fieldA 3 (.tmp 1)⟩,
    ⟨none, some 22, .load (.tmp 21)⟩,
    ⟨none, some 23, .build [.p (.v (.int .i64 0)), .p (.v (.int .i64 0)), .p (.v (.int .u8 0)), .p (.v (.int .i64 0))] [(0, 1, .tmp 16), (1, 1, .tmp 18), (2, 1, .tmp 20), (3, 1, .tmp 22)]⟩,
    ⟨none, none, .store 4 (.tmp 2) (.tmp 23)⟩,
    ⟨none, some 3, .mv (.const (.int .i64 0))⟩])
  (.ret))))
theorem ac15_ok : compF Go.Proofs.Try.prog Go.Proofs.Try.f15 ac15 = some (ac15, [.cell 2 (some 4), .tmp 3]) := by kernel_rfl
end Go.Ab
