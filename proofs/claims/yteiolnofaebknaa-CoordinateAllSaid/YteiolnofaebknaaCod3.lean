/- The codes of functions of this seat, as annotated, compared with the program by the kernel. No conditions. -/
import Derived.Test.YteiolnofaebknaaProg
import Derived.Test.YteiolnofaebknaaAbE
import Derived.Test.YteiolnofaebknaaCod2
set_option linter.unusedVariables false
set_option linter.unusedSimpArgs false
namespace Go.Ab
/- clearway coordinate.Check$1 -/
def ac39 (q : Option (Nat × Nat)) : AC := .seq (.rg [⟨none, some 4, .mv (.const (.bool false))⟩])
  (.seq (.rg [⟨none, some 5, .mv (.tmp 0)⟩,
    ⟨none, some 6, .bin .lss (.tmp 5) (.const (.int .i64 0))⟩,
    ⟨none, some 7, .mv (.tmp 6)⟩,
    ⟨some (7, false), some 8, .mv (.tmp 0)⟩,
    ⟨some (7, false), some 9, .mv (.tmp 1)⟩,
    ⟨some (7, false), some 10, .bin .gtr (.tmp 8) (.tmp 9)⟩,
    ⟨none, some 11, .pick (.tmp 7) (.const (.bool true)) (.tmp 10)⟩,
    ⟨none, some 4, .mv (.tmp 11)⟩])
  (.ret))
theorem ac39_ok (q : Option (Nat × Nat)) : compF Go.Proofs.Try.prog Go.Proofs.Try.f39 (ac39 q) = some (ac39 q, [.tmp 4]) := by kernel_rfl

/- clearway coordinate.Leads -/
def ac40 (q : Option (Nat × Nat)) : AC := .seq (.rg [⟨none, some 1, .box 23 (.tmp 0)⟩,
    ⟨none, some 2, .mv (.const (.bool false))⟩])
  (.seq (.rg [⟨none, some 3, .fieldA 0 (.tmp 1)⟩,
    ⟨none, some 4, .load (.tmp 3)⟩,
    ⟨none, some 5, .fieldA 1 (.tmp 1)⟩,
    ⟨none, some 6, .load (.tmp 5)⟩,
    ⟨none, some 7, .bin .lss (.tmp 4) (.tmp 6)⟩,
    ⟨none, some 2, .mv (.tmp 7)⟩])
  (.ret))
theorem ac40_ok (q : Option (Nat × Nat)) : compF Go.Proofs.Try.prog Go.Proofs.Try.f40 (ac40 q) = some (ac40 q, [.tmp 2]) := by kernel_rfl

/- clearway clearwayref33.New -/
def ac41 (q : Option (Nat × Nat)) : AC := .seq (.rg [⟨none, some 2, .mv (.const (.pointer none))⟩,
    ⟨none, some 3, .mv (.const (.int .i64 0))⟩])
  (.seq (.seq (.rg [⟨none, some 5, .mv (.tmp 0)⟩,
    ⟨none, some 6, .call 52 [.tmp 5]⟩,
    ⟨none, some 4, .mv (.tmp 6)⟩])
  (.seq (.rg [⟨none, some 7, .mv (.tmp 4)⟩,
    ⟨none, some 8, .bin .neq (.tmp 7) (.const (.int .i64 0))⟩])
  (.cond (.tmp 8) (.seq (.rg [⟨none, some 9, .mv (.tmp 4)⟩,
    ⟨none, some 2, .mv (.const (.pointer none))⟩,
    ⟨none, some 3, .mv (.tmp 9)⟩])
  (.ret)) (.skip))))
  (.seq (.rg [⟨none, some 10, .bslice true 3 0 1 [.p (.v (.int .i64 0))] []⟩,
    ⟨none, some 11, .mv (.tmp 0)⟩,
    ⟨none, some 12, .append 3 1 8 (.tmp 10) (.tmp 11)⟩,
    ⟨none, some 13, .build [.p (.sl (some true) 0 []), .p (.v (.int .i64 0)), .p (.sl (some true) 0 []), .p (.sl (some true) 0 [])] [(0, 1, .tmp 12)]⟩,
    ⟨none, some 14, .box 93 (.tmp 13)⟩,
    ⟨none, some 2, .mv (.tmp 14)⟩,
    ⟨none, some 3, .mv (.const (.int .i64 0))⟩])
  (.ret)))
theorem ac41_ok (q : Option (Nat × Nat)) : compF Go.Proofs.Try.prog Go.Proofs.Try.f41 (ac41 q) = some (ac41 q, [.tmp 2, .tmp 3]) := by kernel_rfl

/- (*clearway clearwayref33.Link).Send -/
def ac42 (q : Option (Nat × Nat)) : AC := .seq (.rg [⟨none, some 5, .box 25 (.tmp 2)⟩,
    ⟨none, some 6, .mv (.const (.int .i64 0))⟩])
  (.seq (.rg [⟨none, some 10, .mv (.tmp 0)⟩,
    ⟨none, some 11, .mv (.tmp 1)⟩,
    ⟨none, some 12, .call 53 [.tmp 10, .tmp 11]⟩,
    ⟨none, some 7, .mv (.tmp 12)⟩])
  (.seq (.seq (.rg [⟨none, some 13, .mv (.tmp 7)⟩,
    ⟨none, some 14, .bin .eql (.tmp 13) (.const (.int .i64 0))⟩])
  (.cond (.tmp 14) (.rg [⟨none, some 15, .loadA 4 (.tmp 5)⟩,
    ⟨none, some 16, .call 37 [.tmp 15]⟩,
    ⟨none, some 7, .mv (.tmp 16)⟩]) (.skip)))
  (.seq (.seq (.rg [⟨none, some 17, .mv (.tmp 7)⟩,
    ⟨none, some 18, .bin .neq (.tmp 17) (.const (.int .i64 0))⟩])
  (.cond (.tmp 18) (.seq (.rg [⟨none, some 19, .mv (.tmp 7)⟩,
    ⟨none, some 6, .mv (.tmp 19)⟩])
  (.ret)) (.skip)))
  (.seq (.rg [⟨none, some 20, .mv (.tmp 0)⟩,
    ⟨none, some 21, .nilck (.tmp 20)⟩,
    ⟨none, some 22, .fieldA 2 (.tmp 21)⟩,
    ⟨none, some 23, .load (.tmp 22)⟩,
    ⟨none, some 24, .len (.tmp 23)⟩,
    ⟨none, some 8, .mv (.tmp 24)⟩])
  (.seq (.rg [⟨none, some 9, .mv (.const (.int .i64 0))⟩])
  (.seq (.seq (.rg [⟨none, some 25, .mv (.tmp 8)⟩,
    ⟨none, some 26, .mv (.tmp 0)⟩,
    ⟨none, some 27, .nilck (.tmp 26)⟩,
    ⟨none, some 28, .fieldA 0 (.tmp 27)⟩,
    ⟨none, some 29, .load (.tmp 28)⟩,
    ⟨none, some 30, .len (.tmp 29)⟩,
    ⟨none, some 31, .bin .lss (.tmp 25) (.tmp 30)⟩])
  (.cond (.tmp 31) (.rg [⟨none, some 32, .mv (.tmp 0)⟩,
    ⟨none, some 33, .nilck (.tmp 32)⟩,
    ⟨none, some 34, .fieldA 0 (.tmp 33)⟩,
    ⟨none, some 35, .load (.tmp 34)⟩,
    ⟨none, some 36, .mv (.tmp 8)⟩,
    ⟨none, some 37, .idx 1 (.tmp 35) (.tmp 36)⟩,
    ⟨none, some 38, .load (.tmp 37)⟩,
    ⟨none, some 9, .mv (.tmp 38)⟩]) (.skip)))
  (.seq (.seq (.rg [⟨none, some 39, .mv (.tmp 9)⟩,
    ⟨none, some 40, .bin .geq (.tmp 39) (.const (.int .i64 0))⟩,
    ⟨none, some 41, .mv (.tmp 40)⟩,
    ⟨some (41, true), some 42, .mv (.tmp 0)⟩,
    ⟨some (41, true), some 43, .call 54 [.tmp 42]⟩,
    ⟨some (41, true), some 44, .len (.tmp 43)⟩,
    ⟨some (41, true), some 45, .bin .geq (.tmp 44) (.const (.int .i64 64))⟩,
    ⟨none, some 46, .pick (.tmp 41) (.tmp 45) (.const (.bool false))⟩])
  (.cond (.tmp 46) (.seq (.rg [⟨none, some 6, .mv (.const (.int .i64 17))⟩])
  (.ret)) (.skip)))
  (.seq (.rg [⟨none, some 47, .mv (.tmp 0)⟩,
    ⟨none, some 48, .mv (.tmp 1)⟩,
    ⟨none, some 49, .nilck (.tmp 47)⟩,
    ⟨none, some 50, .fieldA 1 (.tmp 49)⟩,
    ⟨none, none, .store 1 (.tmp 50) (.tmp 48)⟩])
  (.seq (.dr [(false, [(0, 0), (1, 0), (2, 0), (3, 0), (4, 0), (5, 0), (6, 0), (7, 0), (8, 0), (9, 0), (10, 0), (11, 0), (12, 1)], [⟨none, some 51, .mv (.tmp 0)⟩,
    ⟨none, some 52, .mv (.tmp 0)⟩,
    ⟨none, some 53, .nilck (.tmp 52)⟩,
    ⟨none, some 54, .fieldA 2 (.tmp 53)⟩,
    ⟨none, some 55, .load (.tmp 54)⟩,
    ⟨none, some 56, .mv (.tmp 1)⟩,
    ⟨none, some 57, .mv (.tmp 9)⟩,
    ⟨none, some 58, .bin .add (.tmp 56) (.tmp 57)⟩,
    ⟨none, some 59, .mv (.tmp 8)⟩,
    ⟨none, some 60, .loadA 4 (.tmp 5)⟩,
    ⟨none, some 61, .build [.p (.v (.int .i64 0)), .p (.v (.int .i64 0)), .p (.v (.int .i64 0)), .p (.v (.int .i64 0)), .p (.v (.int .u8 0)), .p (.v (.int .i64 0))] [(0, 1, .tmp 58), (1, 1, .tmp 59), (2, 4, .tmp 60)]⟩,
    ⟨none, some 62, .bslice false 97 1 6 [.p (.v (.int .i64 0)), .p (.v (.int .i64 0)), .p (.v (.int .i64 0)), .p (.v (.int .i64 0)), .p (.v (.int .u8 0)), .p (.v (.int .i64 0))] [(0, 6, .tmp 61)]⟩,
    ⟨none, some 63, .append 97 6 48 (.tmp 55) (.tmp 62)⟩]),
   (true, [(13, 0), (14, 0), (15, 0)], [⟨none, some 64, .nilck (.tmp 51)⟩,
    ⟨none, some 65, .fieldA 2 (.tmp 64)⟩,
    ⟨none, none, .store 1 (.tmp 65) (.tmp 63)⟩])])
  (.seq (.rg [⟨none, some 66, .mv (.tmp 0)⟩,
    ⟨none, some 67, .mv (.tmp 0)⟩,
    ⟨none, some 68, .nilck (.tmp 67)⟩,
    ⟨none, some 69, .fieldA 3 (.tmp 68)⟩,
    ⟨none, some 70, .load (.tmp 69)⟩,
    ⟨none, some 71, .mv (.tmp 9)⟩,
    ⟨none, some 72, .bin .geq (.tmp 71) (.const (.int .i64 0))⟩,
    ⟨none, some 73, .bslice false 4 1 1 [.p (.v (.bool false))] [(0, 1, .tmp 72)]⟩,
    ⟨none, some 74, .append 4 1 1 (.tmp 70) (.tmp 73)⟩,
    ⟨none, some 75, .nilck (.tmp 66)⟩,
    ⟨none, some 76, .fieldA 3 (.tmp 75)⟩,
    ⟨none, none, .store 1 (.tmp 76) (.tmp 74)⟩])
  (.seq (.rg [⟨none, some 6, .mv (.const (.int .i64 0))⟩])
  (.ret))))))))))))
theorem ac42_ok (q : Option (Nat × Nat)) : compF Go.Proofs.Try.prog Go.Proofs.Try.f42 (ac42 q) = some (ac42 q, [.tmp 6]) := by kernel_rfl

/- (*clearway clearwayref33.Link).Hear -/
def ac43_L0 (q : Option (Nat × Nat)) : AC := .seq (.seq (.rg [⟨none, some 22, .mv (.tmp 9)⟩,
    ⟨none, some 23, .mv (.tmp 8)⟩,
    ⟨none, some 24, .len (.tmp 23)⟩,
    ⟨none, some 25, .bin .lss (.tmp 22) (.tmp 24)⟩])
  (.cond (.tmp 25) (.skip) (.exit 0)))
  (.seq (.blk 1 (.seq (.rg [⟨none, some 28, .mv (.tmp 8)⟩,
    ⟨none, some 29, .mv (.tmp 9)⟩,
    ⟨none, some 30, .idx 6 (.tmp 28) (.tmp 29)⟩,
    ⟨none, some 31, .fieldA 0 (.tmp 30)⟩,
    ⟨none, some 32, .load (.tmp 31)⟩,
    ⟨none, some 33, .mv (.tmp 1)⟩,
    ⟨none, some 34, .bin .leq (.tmp 32) (.tmp 33)⟩])
  (.cond (.tmp 34) (.seq (.rg [⟨none, some 35, .mv (.tmp 7)⟩,
    ⟨none, some 36, .mv (.tmp 8)⟩,
    ⟨none, some 37, .mv (.tmp 9)⟩,
    ⟨none, some 38, .idx 6 (.tmp 36) (.tmp 37)⟩,
    ⟨none, some 39, .fieldA 2 (.tmp 38)⟩,
    ⟨none, some 40, .loadA 4 (.tmp 39)⟩,
    ⟨none, some 41, .bslice false 25 1 4 [.p (.v (.int .i64 0)), .p (.v (.int .i64 0)), .p (.v (.int .u8 0)), .p (.v (.int .i64 0))] [(0, 4, .tmp 40)]⟩,
    ⟨none, some 42, .append 25 4 32 (.tmp 35) (.tmp 41)⟩,
    ⟨none, some 7, .mv (.tmp 42)⟩])
  (.dr [(false, [(0, 0), (1, 0), (2, 0), (3, 0), (4, 0), (5, 0), (6, 0), (7, 0), (8, 0)], [⟨none, some 43, .mv (.tmp 0)⟩,
    ⟨none, some 44, .nilck (.tmp 43)⟩,
    ⟨none, some 45, .fieldA 3 (.tmp 44)⟩,
    ⟨none, some 46, .load (.tmp 45)⟩,
    ⟨none, some 47, .mv (.tmp 8)⟩,
    ⟨none, some 48, .mv (.tmp 9)⟩,
    ⟨none, some 49, .idx 6 (.tmp 47) (.tmp 48)⟩,
    ⟨none, some 50, .fieldA 1 (.tmp 49)⟩,
    ⟨none, some 51, .load (.tmp 50)⟩]),
   (true, [(9, 0), (10, 0)], [⟨none, some 52, .idx 1 (.tmp 46) (.tmp 51)⟩,
    ⟨none, none, .store 1 (.tmp 52) (.const (.bool false))⟩])])) (.skip))))
  (.rg [⟨none, some 26, .mv (.tmp 9)⟩,
    ⟨none, some 27, .bin .add (.tmp 26) (.const (.int .i64 1))⟩,
    ⟨none, some 9, .mv (.tmp 27)⟩]))
def ac43 (q : Option (Nat × Nat)) : AC := .seq (.rg [⟨none, some 4, .mv (.const (.slice none 0 0))⟩,
    ⟨none, some 5, .mv (.const (.int .i64 0))⟩])
  (.seq (.seq (.rg [⟨none, some 10, .mv (.tmp 0)⟩,
    ⟨none, some 11, .mv (.tmp 1)⟩,
    ⟨none, some 12, .call 53 [.tmp 10, .tmp 11]⟩,
    ⟨none, some 6, .mv (.tmp 12)⟩])
  (.seq (.rg [⟨none, some 13, .mv (.tmp 6)⟩,
    ⟨none, some 14, .bin .neq (.tmp 13) (.const (.int .i64 0))⟩])
  (.cond (.tmp 14) (.seq (.rg [⟨none, some 15, .mv (.tmp 6)⟩,
    ⟨none, some 4, .mv (.const (.slice none 0 0))⟩,
    ⟨none, some 5, .mv (.tmp 15)⟩])
  (.ret)) (.skip))))
  (.seq (.rg [⟨none, some 16, .mv (.tmp 0)⟩,
    ⟨none, some 17, .mv (.tmp 1)⟩,
    ⟨none, some 18, .nilck (.tmp 16)⟩,
    ⟨none, some 19, .fieldA 1 (.tmp 18)⟩,
    ⟨none, none, .store 1 (.tmp 19) (.tmp 17)⟩])
  (.seq (.rg [⟨none, some 7, .mv (.const (.slice none 0 0))⟩])
  (.seq (.rg [⟨none, some 20, .mv (.tmp 0)⟩,
    ⟨none, some 21, .call 54 [.tmp 20]⟩,
    ⟨none, some 8, .mv (.tmp 21)⟩])
  (.seq (.seq (.rg [⟨none, some 9, .mv (.const (.int .i64 0))⟩])
  (.blk 0 (.loop q [0, 1, 7, 8, 9] (ac43_L0 q))))
  (.seq (.rg [⟨none, some 53, .mv (.tmp 7)⟩,
    ⟨none, some 4, .mv (.tmp 53)⟩,
    ⟨none, some 5, .mv (.const (.int .i64 0))⟩])
  (.ret)))))))
theorem ac43_ok (q : Option (Nat × Nat)) : compF Go.Proofs.Try.prog Go.Proofs.Try.f43 (ac43 q) = some (ac43 q, [.tmp 4, .tmp 5]) := by kernel_rfl

/- slices.ContainsFunc[[][2]uint8,[2]uint8] -/
def ac44 (q : Option (Nat × Nat)) : AC := .seq (.rg [⟨none, some 4, .mv (.const (.bool false))⟩])
  (.seq (.rg [⟨none, some 5, .mv (.tmp 0)⟩,
    ⟨none, some 6, .mv (.tmp 1)⟩,
    ⟨none, some 7, .call 55 [.tmp 5, .tmp 6]⟩,
    ⟨none, some 8, .bin .geq (.tmp 7) (.const (.int .i64 0))⟩,
    ⟨none, some 4, .mv (.tmp 8)⟩])
  (.ret))
theorem ac44_ok (q : Option (Nat × Nat)) : compF Go.Proofs.Try.prog Go.Proofs.Try.f44 (ac44 q) = some (ac44 q, [.tmp 4]) := by kernel_rfl

/- clearway coordinate.Run$1 -/
def ac45 (q : Option (Nat × Nat)) : AC := .seq (.rg [⟨none, some 1, .box 46 (.tmp 0)⟩,
    ⟨none, some 2, .mv (.const (.bool false))⟩])
  (.seq (.rg [⟨none, some 3, .idxA 2 1 (.tmp 1) (.const (.int .i64 0))⟩,
    ⟨none, some 4, .load (.tmp 3)⟩,
    ⟨none, some 5, .idxA 2 1 (.tmp 1) (.const (.int .i64 1))⟩,
    ⟨none, some 6, .load (.tmp 5)⟩,
    ⟨none, some 7, .minmax true [.tmp 4, .tmp 6]⟩,
    ⟨none, some 8, .bin .gtr (.tmp 7) (.const (.int .u8 2))⟩,
    ⟨none, some 2, .mv (.tmp 8)⟩])
  (.ret))
theorem ac45_ok (q : Option (Nat × Nat)) : compF Go.Proofs.Try.prog Go.Proofs.Try.f45 (ac45 q) = some (ac45 q, [.tmp 2]) := by kernel_rfl

/- clearway link.New -/
def ac46 (q : Option (Nat × Nat)) : AC := .seq (.rg [⟨none, some 2, .mv (.const (.pointer none))⟩,
    ⟨none, some 3, .mv (.const (.int .i64 0))⟩])
  (.seq (.seq (.rg [⟨none, some 6, .mv (.tmp 0)⟩,
    ⟨none, some 7, .call 56 [.tmp 6]⟩,
    ⟨none, some 4, .mv (.tmp 7)⟩])
  (.seq (.rg [⟨none, some 8, .mv (.tmp 4)⟩,
    ⟨none, some 9, .bin .neq (.tmp 8) (.const (.int .i64 0))⟩])
  (.cond (.tmp 9) (.seq (.rg [⟨none, some 10, .mv (.tmp 4)⟩,
    ⟨none, some 2, .mv (.const (.pointer none))⟩,
    ⟨none, some 3, .mv (.tmp 10)⟩])
  (.ret)) (.skip))))
  (.seq (.rg [⟨none, some 11, .bsliceM 97 0 6 [.p (.v (.int .i64 0)), .p (.v (.int .i64 0)), .p (.v (.int .i64 0)), .p (.v (.int .i64 0)), .p (.v (.int .u8 0)), .p (.v (.int .i64 0))] []⟩,
    ⟨none, some 12, .box 100 (.tmp 11)⟩,
    ⟨none, some 13, .build (List.replicate 258 (.p (.v (.int .i64 0))) ++ [.p (.v (.pointer none))]) [(258, 1, .tmp 12)]⟩,
    ⟨none, some 14, .box 103 (.tmp 13)⟩,
    ⟨none, some 5, .mv (.tmp 14)⟩])
  (.seq (.rg [⟨none, some 15, .mv (.tmp 5)⟩,
    ⟨none, some 16, .nilck (.tmp 15)⟩,
    ⟨none, some 17, .fieldA 0 (.tmp 16)⟩,
    ⟨none, some 18, .sliceA 256 1 (.tmp 17)⟩,
    ⟨none, some 19, .mv (.tmp 0)⟩,
    ⟨none, some 20, .copy 1 (.tmp 18) (.tmp 19)⟩])
  (.seq (.rg [⟨none, some 21, .mv (.tmp 5)⟩,
    ⟨none, some 2, .mv (.tmp 21)⟩,
    ⟨none, some 3, .mv (.const (.int .i64 0))⟩])
  (.ret)))))
theorem ac46_ok (q : Option (Nat × Nat)) : compF Go.Proofs.Try.prog Go.Proofs.Try.f46 (ac46 q) = some (ac46 q, [.tmp 2, .tmp 3]) := by kernel_rfl

/- (*clearway coordinate.party).choose -/
def ac47 (q : Option (Nat × Nat)) : AC := .dr [(false, [(0, 0), (1, 0), (2, 0), (3, 0), (4, 0), (5, 0), (6, 0), (7, 0), (8, 0), (9, 0), (10, 0), (11, 0), (12, 0), (13, 0), (14, 0), (15, 1)], [⟨none, some 3, .mv (.tmp 0)⟩,
    ⟨none, some 4, .mv (.tmp 0)⟩,
    ⟨none, some 5, .nilck (.tmp 4)⟩,
    ⟨none, some 6, .fieldA 0 (.tmp 5)⟩,
    ⟨none, some 7, .loadA 6 (.tmp 6)⟩,
    ⟨none, some 8, .mv (.tmp 0)⟩,
    ⟨none, some 9, .nilck (.tmp 8)⟩,
    ⟨none, some 10, .fieldA 9 (.tmp 9)⟩,
    ⟨none, some 11, .load (.tmp 10)⟩,
    ⟨none, some 12, .call 11 [.tmp 7, .tmp 11]⟩,
    ⟨none, some 2, .mv (.tmp 12)⟩,
    ⟨none, some 13, .extract (.tmp 2) 0⟩,
    ⟨none, some 14, .extract (.tmp 2) 1⟩,
    ⟨none, some 15, .nilck (.tmp 3)⟩,
    ⟨none, some 16, .fieldA 0 (.tmp 15)⟩,
    ⟨none, none, .store 6 (.tmp 16) (.tmp 13)⟩])]
theorem ac47_ok (q : Option (Nat × Nat)) : compF Go.Proofs.Try.prog Go.Proofs.Try.f47 (ac47 q) = some (ac47 q, []) := by kernel_rfl

/- (*clearway coordinate.party).send -/
def ac48 (q : Option (Nat × Nat)) : AC := .seq (.rg [⟨none, some 5, .mv (.tmp 0)⟩,
    ⟨none, some 6, .nilck (.tmp 5)⟩,
    ⟨none, some 7, .fieldA 0 (.tmp 6)⟩,
    ⟨none, some 8, .loadA 6 (.tmp 7)⟩,
    ⟨none, some 9, .call 15 [.tmp 8]⟩,
    ⟨none, some 4, .mv (.tmp 9)⟩,
    ⟨none, some 10, .extract (.tmp 4) 0⟩,
    ⟨none, some 11, .extract (.tmp 4) 1⟩,
    ⟨none, some 2, .alloc 25 [.p (.v (.int .i64 0)), .p (.v (.int .i64 0)), .p (.v (.int .u8 0)), .p (.v (.int .i64 0))]⟩,
    ⟨none, none, .store 4 (.tmp 2) (.tmp 10)⟩,
    ⟨none, some 3, .mv (.tmp 11)⟩])
  (.seq (.rg [⟨none, some 12, .mv (.tmp 3)⟩,
    ⟨none, some 13, .bin .eql (.tmp 12) (.const (.int .i64 0))⟩])
  (.cond (.tmp 13) (.dr [(false, [(0, 0), (1, 0), (2, 0), (3, 0), (4, 0), (5, 0), (6, 0), (7, 0), (8, 0)], [⟨none, some 14, .mv (.tmp 0)⟩,
    ⟨none, some 15, .nilck (.tmp 14)⟩,
    ⟨none, some 16, .fieldA 6 (.tmp 15)⟩,
    ⟨none, some 17, .load (.tmp 16)⟩,
    ⟨none, some 18, .mv (.tmp 0)⟩,
    ⟨none, some 19, .nilck (.tmp 18)⟩,
    ⟨none, some 20, .fieldA 8 (.tmp 19)⟩,
    ⟨none, some 21, .load (.tmp 20)⟩,
    ⟨none, some 22, .loadA 4 (.tmp 2)⟩]),
   (true, [(9, 0)], [⟨none, some 23, .call 57 [.tmp 17, .tmp 21, .tmp 22]⟩])]) (.skip)))
theorem ac48_ok (q : Option (Nat × Nat)) : compF Go.Proofs.Try.prog Go.Proofs.Try.f48 (ac48 q) = some (ac48 q, []) := by kernel_rfl

/- (*clearway coordinate.party).receive -/
def ac49_L0 (q : Option (Nat × Nat)) : AC := .seq (.rg [⟨none, some 21, .bin .lss (.tmp 20) (.tmp 19)⟩])
  (.seq (.cond (.tmp 21) (.skip) (.exit 0))
  (.seq (.blk 1 (.seq (.rg [⟨none, some 22, .idx 4 (.tmp 18) (.tmp 20)⟩,
    ⟨none, some 23, .loadA 4 (.tmp 22)⟩,
    ⟨none, some 5, .alloc 25 [.p (.v (.int .i64 0)), .p (.v (.int .i64 0)), .p (.v (.int .u8 0)), .p (.v (.int .i64 0))]⟩,
    ⟨none, none, .store 4 (.tmp 5) (.tmp 23)⟩])
  (.dr [(false, [(0, 0), (1, 0), (2, 0), (3, 0), (4, 0), (5, 0), (6, 0), (7, 0), (8, 0), (9, 0), (10, 0), (11, 0), (12, 1)], [⟨none, some 25, .mv (.tmp 0)⟩,
    ⟨none, some 26, .mv (.tmp 0)⟩,
    ⟨none, some 27, .nilck (.tmp 26)⟩,
    ⟨none, some 28, .fieldA 0 (.tmp 27)⟩,
    ⟨none, some 29, .loadA 6 (.tmp 28)⟩,
    ⟨none, some 30, .loadA 4 (.tmp 5)⟩,
    ⟨none, some 31, .call 13 [.tmp 29, .tmp 30]⟩,
    ⟨none, some 24, .mv (.tmp 31)⟩,
    ⟨none, some 32, .extract (.tmp 24) 0⟩,
    ⟨none, some 33, .extract (.tmp 24) 1⟩,
    ⟨none, some 34, .nilck (.tmp 25)⟩,
    ⟨none, some 35, .fieldA 0 (.tmp 34)⟩,
    ⟨none, none, .store 6 (.tmp 35) (.tmp 32)⟩])])))
  (.rg [⟨none, some 36, .bin .add (.tmp 20) (.const (.int .i64 1))⟩,
    ⟨none, some 20, .mv (.tmp 36)⟩])))
def ac49 (q : Option (Nat × Nat)) : AC := .seq (.dr [(false, [(0, 0), (1, 0), (2, 0), (3, 0), (4, 0), (5, 0), (6, 0), (7, 0)], [⟨none, some 7, .mv (.tmp 0)⟩,
    ⟨none, some 8, .nilck (.tmp 7)⟩,
    ⟨none, some 9, .fieldA 7 (.tmp 8)⟩,
    ⟨none, some 10, .load (.tmp 9)⟩,
    ⟨none, some 11, .mv (.tmp 0)⟩,
    ⟨none, some 12, .nilck (.tmp 11)⟩,
    ⟨none, some 13, .fieldA 8 (.tmp 12)⟩,
    ⟨none, some 14, .load (.tmp 13)⟩]),
   (true, [(8, 0), (9, 0)], [⟨none, some 15, .call 58 [.tmp 10, .tmp 14]⟩,
    ⟨none, some 6, .mv (.tmp 15)⟩]),
   (false, [(10, 0), (11, 0), (12, 0)], [⟨none, some 16, .extract (.tmp 6) 0⟩,
    ⟨none, some 17, .extract (.tmp 6) 1⟩,
    ⟨none, some 2, .mv (.tmp 16)⟩]),
   (true, [(13, 0)], [⟨none, some 3, .mv (.tmp 17)⟩])])
  (.seq (.rg [⟨none, some 18, .mv (.tmp 2)⟩,
    ⟨none, some 19, .len (.tmp 18)⟩,
    ⟨none, some 20, .mv (.const (.int .i64 0))⟩])
  (.blk 0 (.loop q [0, 18, 19, 20] (ac49_L0 q))))
theorem ac49_ok (q : Option (Nat × Nat)) : compF Go.Proofs.Try.prog Go.Proofs.Try.f49 (ac49 q) = some (ac49 q, []) := by kernel_rfl

/- clearway coordinate.like -/
def ac50 (q : Option (Nat × Nat)) : AC := .seq (.rg [⟨none, some 4, .mv (.const (.bool false))⟩])
  (.seq (.rg [⟨none, some 5, .mv (.tmp 0)⟩,
    ⟨none, some 6, .bin .neq (.tmp 5) (.const (.int .u8 0))⟩,
    ⟨none, some 7, .mv (.tmp 6)⟩,
    ⟨some (7, true), some 8, .mv (.tmp 0)⟩,
    ⟨some (7, true), some 9, .mv (.tmp 1)⟩,
    ⟨some (7, true), some 10, .bin .eql (.tmp 8) (.tmp 9)⟩,
    ⟨none, some 11, .pick (.tmp 7) (.tmp 10) (.const (.bool false))⟩,
    ⟨none, some 4, .mv (.tmp 11)⟩])
  (.ret))
theorem ac50_ok (q : Option (Nat × Nat)) : compF Go.Proofs.Try.prog Go.Proofs.Try.f50 (ac50 q) = some (ac50 q, [.tmp 4]) := by kernel_rfl

/- clearway lock.Check$1 -/
def ac51 (q : Option (Nat × Nat)) : AC := .seq (.rg [⟨none, some 2, .mv (.const (.bool false))⟩])
  (.seq (.rg [⟨none, some 3, .mv (.tmp 0)⟩,
    ⟨none, some 4, .bin .lss (.tmp 3) (.const (.int .i64 0))⟩,
    ⟨none, some 5, .mv (.tmp 4)⟩,
    ⟨some (5, false), some 6, .mv (.tmp 0)⟩,
    ⟨some (5, false), some 7, .bin .gtr (.tmp 6) (.const (.int .i64 16777215))⟩,
    ⟨none, some 8, .pick (.tmp 5) (.const (.bool true)) (.tmp 7)⟩,
    ⟨none, some 2, .mv (.tmp 8)⟩])
  (.ret))
theorem ac51_ok (q : Option (Nat × Nat)) : compF Go.Proofs.Try.prog Go.Proofs.Try.f51 (ac51 q) = some (ac51 q, [.tmp 2]) := by kernel_rfl

/- clearway clearwayref33.wrong -/
def ac52_L0 (q : Option (Nat × Nat)) : AC := .seq (.seq (.rg [⟨none, some 7, .mv (.tmp 3)⟩,
    ⟨none, some 8, .mv (.tmp 0)⟩,
    ⟨none, some 9, .len (.tmp 8)⟩,
    ⟨none, some 10, .bin .lss (.tmp 7) (.tmp 9)⟩])
  (.cond (.tmp 10) (.skip) (.exit 0)))
  (.seq (.blk 1 (.seq (.rg [⟨none, some 13, .mv (.tmp 0)⟩,
    ⟨none, some 14, .mv (.tmp 3)⟩,
    ⟨none, some 15, .idx 1 (.tmp 13) (.tmp 14)⟩,
    ⟨none, some 16, .load (.tmp 15)⟩,
    ⟨none, some 17, .bin .lss (.tmp 16) (.const (.int .i64 (-1)))⟩,
    ⟨none, some 18, .mv (.tmp 17)⟩,
    ⟨some (18, false), some 19, .mv (.tmp 0)⟩,
    ⟨some (18, false), some 20, .mv (.tmp 3)⟩,
    ⟨some (18, false), some 21, .idx 1 (.tmp 19) (.tmp 20)⟩,
    ⟨some (18, false), some 22, .load (.tmp 21)⟩,
    ⟨some (18, false), some 23, .bin .gtr (.tmp 22) (.const (.int .i64 8))⟩,
    ⟨none, some 24, .pick (.tmp 18) (.const (.bool true)) (.tmp 23)⟩])
  (.cond (.tmp 24) (.seq (.rg [⟨none, some 2, .mv (.const (.int .i64 1))⟩])
  (.ret)) (.skip))))
  (.rg [⟨none, some 11, .mv (.tmp 3)⟩,
    ⟨none, some 12, .bin .add (.tmp 11) (.const (.int .i64 1))⟩,
    ⟨none, some 3, .mv (.tmp 12)⟩]))
def ac52 (q : Option (Nat × Nat)) : AC := .seq (.rg [⟨none, some 2, .mv (.const (.int .i64 0))⟩])
  (.seq (.seq (.rg [⟨none, some 4, .mv (.tmp 0)⟩,
    ⟨none, some 5, .len (.tmp 4)⟩,
    ⟨none, some 6, .bin .gtr (.tmp 5) (.const (.int .i64 256))⟩])
  (.cond (.tmp 6) (.seq (.rg [⟨none, some 2, .mv (.const (.int .i64 4))⟩])
  (.ret)) (.skip)))
  (.seq (.seq (.rg [⟨none, some 3, .mv (.const (.int .i64 0))⟩])
  (.blk 0 (.loop q [0, 3] (ac52_L0 q))))
  (.seq (.rg [⟨none, some 2, .mv (.const (.int .i64 0))⟩])
  (.ret))))
theorem ac52_ok (q : Option (Nat × Nat)) : compF Go.Proofs.Try.prog Go.Proofs.Try.f52 (ac52 q) = some (ac52 q, [.tmp 2]) := by kernel_rfl

/- (*clearway clearwayref33.Link).time -/
def ac53 (q : Option (Nat × Nat)) : AC := .seq (.rg [⟨none, some 4, .mv (.const (.int .i64 0))⟩])
  (.seq (.seq (.rg [⟨none, some 5, .mv (.tmp 1)⟩,
    ⟨none, some 6, .bin .lss (.tmp 5) (.const (.int .i64 0))⟩,
    ⟨none, some 7, .mv (.tmp 6)⟩,
    ⟨some (7, false), some 8, .mv (.tmp 1)⟩,
    ⟨some (7, false), some 9, .bin .gtr (.tmp 8) (.const (.int .i64 1099511627776))⟩,
    ⟨none, some 10, .pick (.tmp 7) (.const (.bool true)) (.tmp 9)⟩])
  (.cond (.tmp 10) (.seq (.rg [⟨none, some 4, .mv (.const (.int .i64 1))⟩])
  (.ret)) (.skip)))
  (.seq (.seq (.rg [⟨none, some 11, .mv (.tmp 1)⟩,
    ⟨none, some 12, .mv (.tmp 0)⟩,
    ⟨none, some 13, .nilck (.tmp 12)⟩,
    ⟨none, some 14, .fieldA 1 (.tmp 13)⟩,
    ⟨none, some 15, .load (.tmp 14)⟩,
    ⟨none, some 16, .bin .lss (.tmp 11) (.tmp 15)⟩])
  (.cond (.tmp 16) (.seq (.rg [⟨none, some 4, .mv (.const (.int .i64 12))⟩])
  (.ret)) (.skip)))
  (.seq (.rg [⟨none, some 4, .mv (.const (.int .i64 0))⟩])
  (.ret))))
theorem ac53_ok (q : Option (Nat × Nat)) : compF Go.Proofs.Try.prog Go.Proofs.Try.f53 (ac53 q) = some (ac53 q, [.tmp 4]) := by kernel_rfl

/- (*clearway clearwayref33.Link).Pending -/
def ac54_L0 (q : Option (Nat × Nat)) : AC := .seq (.seq (.rg [⟨none, some 13, .mv (.tmp 6)⟩,
    ⟨none, some 14, .mv (.tmp 0)⟩,
    ⟨none, some 15, .nilck (.tmp 14)⟩,
    ⟨none, some 16, .fieldA 2 (.tmp 15)⟩,
    ⟨none, some 17, .load (.tmp 16)⟩,
    ⟨none, some 18, .len (.tmp 17)⟩,
    ⟨none, some 19, .bin .lss (.tmp 13) (.tmp 18)⟩])
  (.cond (.tmp 19) (.skip) (.exit 2)))
  (.seq (.blk 3 (.seq (.dr [(false, [(0, 0), (1, 0), (2, 0), (3, 0), (4, 0)], [⟨none, some 22, .mv (.tmp 0)⟩,
    ⟨none, some 23, .nilck (.tmp 22)⟩,
    ⟨none, some 24, .fieldA 3 (.tmp 23)⟩,
    ⟨none, some 25, .load (.tmp 24)⟩,
    ⟨none, some 26, .mv (.tmp 6)⟩]),
   (true, [(5, 0), (6, 0), (7, 0)], [⟨none, some 27, .idx 1 (.tmp 25) (.tmp 26)⟩,
    ⟨none, some 28, .load (.tmp 27)⟩,
    ⟨none, some 29, .mv (.tmp 28)⟩]),
   (false, [(8, 0), (9, 0)], [⟨some (29, true), some 30, .mv (.tmp 4)⟩,
    ⟨some (29, true), some 31, .mv (.tmp 6)⟩]),
   (true, [(10, 0), (11, 0), (12, 0), (13, 0), (14, 0), (15, 0), (16, 0), (17, 0)], [⟨some (29, true), some 32, .idx 1 (.tmp 30) (.tmp 31)⟩,
    ⟨some (29, true), some 33, .load (.tmp 32)⟩,
    ⟨some (29, true), some 34, .un .not (.tmp 33)⟩,
    ⟨none, some 35, .pick (.tmp 29) (.tmp 34) (.const (.bool false))⟩,
    ⟨none, some 36, .mv (.tmp 35)⟩,
    ⟨some (36, true), some 37, .mv (.tmp 5)⟩,
    ⟨some (36, true), some 38, .bin .lss (.tmp 37) (.const (.int .i64 0))⟩,
    ⟨some (36, true), some 39, .mv (.tmp 38)⟩]),
   (false, [(18, 0), (19, 0), (20, 0), (21, 0), (22, 0), (23, 0), (24, 0), (25, 0), (26, 0), (27, 0), (28, 0), (29, 0), (30, 0), (31, 0), (32, 0), (33, 0)], [⟨some (39, false), some 40, .mv (.tmp 0)⟩,
    ⟨some (39, false), some 41, .nilck (.tmp 40)⟩,
    ⟨some (39, false), some 42, .fieldA 2 (.tmp 41)⟩,
    ⟨some (39, false), some 43, .load (.tmp 42)⟩,
    ⟨some (39, false), some 44, .mv (.tmp 6)⟩,
    ⟨some (39, false), some 45, .idx 6 (.tmp 43) (.tmp 44)⟩,
    ⟨some (39, false), some 46, .fieldA 0 (.tmp 45)⟩,
    ⟨some (39, false), some 47, .load (.tmp 46)⟩,
    ⟨some (39, false), some 48, .mv (.tmp 0)⟩,
    ⟨some (39, false), some 49, .nilck (.tmp 48)⟩,
    ⟨some (39, false), some 50, .fieldA 2 (.tmp 49)⟩,
    ⟨some (39, false), some 51, .load (.tmp 50)⟩,
    ⟨some (39, false), some 52, .mv (.tmp 5)⟩,
    ⟨some (39, false), some 53, .idx 6 (.tmp 51) (.tmp 52)⟩,
    ⟨some (39, false), some 54, .fieldA 0 (.tmp 53)⟩,
    ⟨some (39, false), some 55, .load (.tmp 54)⟩]),
   (true, [(34, 0), (35, 0), (36, 0)], [⟨some (39, false), some 56, .bin .lss (.tmp 47) (.tmp 55)⟩,
    ⟨some (36, true), some 57, .pick (.tmp 39) (.const (.bool true)) (.tmp 56)⟩,
    ⟨none, some 58, .pick (.tmp 36) (.tmp 57) (.const (.bool false))⟩])])
  (.cond (.tmp 58) (.rg [⟨none, some 59, .mv (.tmp 6)⟩,
    ⟨none, some 5, .mv (.tmp 59)⟩]) (.skip))))
  (.rg [⟨none, some 20, .mv (.tmp 6)⟩,
    ⟨none, some 21, .bin .add (.tmp 20) (.const (.int .i64 1))⟩,
    ⟨none, some 6, .mv (.tmp 21)⟩]))
def ac54_L1 (q : Option (Nat × Nat)) : AC := .blk 1 (.seq (.rg [⟨none, some 5, .mv (.const (.int .i64 (-1)))⟩])
  (.seq (.seq (.rg [⟨none, some 6, .mv (.const (.int .i64 0))⟩])
  (.blk 2 (.loop q [0, 3, 4, 5, 6] (ac54_L0 q))))
  (.seq (.seq (.rg [⟨none, some 60, .mv (.tmp 5)⟩,
    ⟨none, some 61, .bin .lss (.tmp 60) (.const (.int .i64 0))⟩])
  (.cond (.tmp 61) (.seq (.rg [⟨none, some 62, .mv (.tmp 3)⟩,
    ⟨none, some 2, .mv (.tmp 62)⟩])
  (.ret)) (.skip)))
  (.seq (.rg [⟨none, some 63, .mv (.tmp 4)⟩,
    ⟨none, some 64, .mv (.tmp 5)⟩,
    ⟨none, some 65, .idx 1 (.tmp 63) (.tmp 64)⟩,
    ⟨none, none, .store 1 (.tmp 65) (.const (.bool true))⟩])
  (.rg [⟨none, some 66, .mv (.tmp 3)⟩,
    ⟨none, some 67, .mv (.tmp 0)⟩,
    ⟨none, some 68, .nilck (.tmp 67)⟩,
    ⟨none, some 69, .fieldA 2 (.tmp 68)⟩,
    ⟨none, some 70, .load (.tmp 69)⟩,
    ⟨none, some 71, .mv (.tmp 5)⟩,
    ⟨none, some 72, .idx 6 (.tmp 70) (.tmp 71)⟩,
    ⟨none, some 73, .loadA 6 (.tmp 72)⟩,
    ⟨none, some 74, .bslice false 97 1 6 [.p (.v (.int .i64 0)), .p (.v (.int .i64 0)), .p (.v (.int .i64 0)), .p (.v (.int .i64 0)), .p (.v (.int .u8 0)), .p (.v (.int .i64 0))] [(0, 6, .tmp 73)]⟩,
    ⟨none, some 75, .append 97 6 48 (.tmp 66) (.tmp 74)⟩,
    ⟨none, some 3, .mv (.tmp 75)⟩])))))
def ac54 (q : Option (Nat × Nat)) : AC := .seq (.rg [⟨none, some 2, .mv (.const (.slice none 0 0))⟩])
  (.seq (.rg [⟨none, some 3, .mv (.const (.slice none 0 0))⟩])
  (.seq (.rg [⟨none, some 7, .mv (.tmp 0)⟩,
    ⟨none, some 8, .nilck (.tmp 7)⟩,
    ⟨none, some 9, .fieldA 2 (.tmp 8)⟩,
    ⟨none, some 10, .load (.tmp 9)⟩,
    ⟨none, some 11, .len (.tmp 10)⟩,
    ⟨none, some 12, .mslice 4 1 1 [.p (.v (.bool false))] (.tmp 11) (.tmp 11)⟩,
    ⟨none, some 4, .mv (.tmp 12)⟩])
  (.blk 0 (.loop q [0, 3, 4] (ac54_L1 q)))))
theorem ac54_ok (q : Option (Nat × Nat)) : compF Go.Proofs.Try.prog Go.Proofs.Try.f54 (ac54 q) = some (ac54 q, [.tmp 2]) := by kernel_rfl

/- slices.IndexFunc[[][2]uint8,[2]uint8] -/
def ac55_L0 (q : Option (Nat × Nat)) : AC := .seq (.rg [⟨none, some 9, .bin .lss (.tmp 8) (.tmp 7)⟩])
  (.seq (.cond (.tmp 9) (.skip) (.exit 0))
  (.seq (.blk 1 (.seq (.rg [⟨none, some 10, .mv (.tmp 8)⟩,
    ⟨none, some 5, .mv (.tmp 10)⟩])
  (.seq (.rg [⟨none, some 11, .mv (.tmp 1)⟩,
    ⟨none, some 12, .mv (.tmp 0)⟩,
    ⟨none, some 13, .mv (.tmp 5)⟩,
    ⟨none, some 14, .idx 2 (.tmp 12) (.tmp 13)⟩,
    ⟨none, some 15, .loadA 2 (.tmp 14)⟩,
    ⟨none, some 16, .callv (.tmp 11) [.tmp 15]⟩])
  (.cond (.tmp 16) (.seq (.rg [⟨none, some 17, .mv (.tmp 5)⟩,
    ⟨none, some 4, .mv (.tmp 17)⟩])
  (.ret)) (.skip)))))
  (.rg [⟨none, some 18, .bin .add (.tmp 8) (.const (.int .i64 1))⟩,
    ⟨none, some 8, .mv (.tmp 18)⟩])))
def ac55 (q : Option (Nat × Nat)) : AC := .seq (.rg [⟨none, some 4, .mv (.const (.int .i64 0))⟩])
  (.seq (.seq (.rg [⟨none, some 6, .mv (.tmp 0)⟩,
    ⟨none, some 7, .len (.tmp 6)⟩,
    ⟨none, some 8, .mv (.const (.int .i64 0))⟩])
  (.blk 0 (.loop q [0, 1, 7, 8] (ac55_L0 q))))
  (.seq (.rg [⟨none, some 4, .mv (.const (.int .i64 (-1)))⟩])
  (.ret)))
theorem ac55_ok (q : Option (Nat × Nat)) : compF Go.Proofs.Try.prog Go.Proofs.Try.f55 (ac55 q) = some (ac55 q, [.tmp 4]) := by kernel_rfl

/- clearway link.check -/
def ac56 (q : Option (Nat × Nat)) : AC := .seq (.rg [⟨none, some 2, .mv (.const (.int .i64 0))⟩])
  (.seq (.blk 0 (.seq (.rg [⟨none, some 4, .mv (.tmp 0)⟩,
    ⟨none, some 5, .len (.tmp 4)⟩,
    ⟨none, some 6, .bin .gtr (.tmp 5) (.const (.int .i64 256))⟩,
    ⟨none, some 3, .mv (.tmp 6)⟩])
  (.cond (.tmp 3) (.seq (.rg [⟨none, some 2, .mv (.const (.int .i64 4))⟩])
  (.ret)) (.seq (.rg [⟨none, some 8, .mv (.tmp 0)⟩,
    ⟨none, some 9, .call 59 [.tmp 8, .func 60]⟩,
    ⟨none, some 7, .mv (.tmp 9)⟩])
  (.cond (.tmp 7) (.seq (.rg [⟨none, some 2, .mv (.const (.int .i64 1))⟩])
  (.ret)) (.skip))))))
  (.seq (.rg [⟨none, some 2, .mv (.const (.int .i64 0))⟩])
  (.ret)))
theorem ac56_ok (q : Option (Nat × Nat)) : compF Go.Proofs.Try.prog Go.Proofs.Try.f56 (ac56 q) = some (ac56 q, [.tmp 2]) := by kernel_rfl

/- (*clearway link.Link).Send -/
def ac57 (q : Option (Nat × Nat)) : AC := .seq (.rg [⟨none, some 5, .box 25 (.tmp 2)⟩,
    ⟨none, some 6, .mv (.const (.int .i64 0))⟩])
  (.seq (.seq (.rg [⟨none, some 10, .mv (.tmp 0)⟩,
    ⟨none, some 11, .mv (.tmp 1)⟩,
    ⟨none, some 12, .call 61 [.tmp 10, .tmp 11]⟩,
    ⟨none, some 7, .mv (.tmp 12)⟩])
  (.seq (.rg [⟨none, some 13, .mv (.tmp 7)⟩,
    ⟨none, some 14, .bin .neq (.tmp 13) (.const (.int .i64 0))⟩])
  (.cond (.tmp 14) (.seq (.rg [⟨none, some 15, .mv (.tmp 7)⟩,
    ⟨none, some 6, .mv (.tmp 15)⟩])
  (.ret)) (.skip))))
  (.seq (.seq (.rg [⟨none, some 16, .loadA 4 (.tmp 5)⟩,
    ⟨none, some 17, .call 36 [.tmp 16]⟩,
    ⟨none, some 8, .mv (.tmp 17)⟩])
  (.seq (.rg [⟨none, some 18, .mv (.tmp 8)⟩,
    ⟨none, some 19, .bin .neq (.tmp 18) (.const (.int .i64 0))⟩])
  (.cond (.tmp 19) (.seq (.rg [⟨none, some 20, .mv (.tmp 8)⟩,
    ⟨none, some 6, .mv (.tmp 20)⟩])
  (.ret)) (.skip))))
  (.seq (.rg [⟨none, some 9, .mv (.const (.int .i64 0))⟩])
  (.seq (.seq (.rg [⟨none, some 21, .mv (.tmp 0)⟩,
    ⟨none, some 22, .nilck (.tmp 21)⟩,
    ⟨none, some 23, .fieldA 257 (.tmp 22)⟩,
    ⟨none, some 24, .load (.tmp 23)⟩,
    ⟨none, some 25, .bin .lss (.tmp 24) (.const (.int .i64 256))⟩])
  (.cond (.tmp 25) (.dr [(false, [(0, 0), (1, 0), (2, 0), (3, 0), (4, 0), (5, 0), (6, 0)], [⟨none, some 26, .mv (.tmp 0)⟩,
    ⟨none, some 27, .mv (.tmp 0)⟩,
    ⟨none, some 28, .nilck (.tmp 27)⟩,
    ⟨none, some 29, .fieldA 257 (.tmp 28)⟩,
    ⟨none, some 30, .load (.tmp 29)⟩,
    ⟨none, some 31, .nilck (.tmp 26)⟩,
    ⟨none, some 32, .fieldA 0 (.tmp 31)⟩]),
   (true, [(7, 0), (8, 0), (9, 0)], [⟨none, some 33, .idxA 256 1 (.tmp 32) (.tmp 30)⟩,
    ⟨none, some 34, .load (.tmp 33)⟩,
    ⟨none, some 9, .mv (.tmp 34)⟩])]) (.skip)))
  (.seq (.seq (.rg [⟨none, some 35, .mv (.tmp 9)⟩,
    ⟨none, some 36, .bin .neq (.tmp 35) (.const (.int .i64 (-1)))⟩])
  (.cond (.tmp 36) (.seq (.seq (.rg [⟨none, some 37, .mv (.tmp 0)⟩,
    ⟨none, some 38, .nilck (.tmp 37)⟩,
    ⟨none, some 39, .fieldA 258 (.tmp 38)⟩,
    ⟨none, some 40, .load (.tmp 39)⟩,
    ⟨none, some 41, .nilck (.tmp 40)⟩,
    ⟨none, some 42, .load (.tmp 41)⟩,
    ⟨none, some 43, .call 62 [.tmp 42]⟩,
    ⟨none, some 44, .bin .eql (.tmp 43) (.const (.int .i64 64))⟩])
  (.cond (.tmp 44) (.seq (.rg [⟨none, some 6, .mv (.const (.int .i64 17))⟩])
  (.ret)) (.skip)))
  (.dr [(false, [(0, 0), (1, 0), (2, 0), (3, 0), (4, 0), (5, 0), (6, 0), (7, 0), (8, 0), (9, 0), (10, 0), (11, 0), (12, 0), (13, 0), (14, 0)], [⟨none, some 45, .mv (.tmp 0)⟩,
    ⟨none, some 46, .nilck (.tmp 45)⟩,
    ⟨none, some 47, .fieldA 258 (.tmp 46)⟩,
    ⟨none, some 48, .load (.tmp 47)⟩,
    ⟨none, some 49, .mkifc 99 (.tmp 48)⟩,
    ⟨none, some 50, .mv (.tmp 1)⟩,
    ⟨none, some 51, .mv (.tmp 9)⟩,
    ⟨none, some 52, .bin .add (.tmp 50) (.tmp 51)⟩,
    ⟨none, some 53, .mv (.tmp 0)⟩,
    ⟨none, some 54, .nilck (.tmp 53)⟩,
    ⟨none, some 55, .fieldA 257 (.tmp 54)⟩,
    ⟨none, some 56, .load (.tmp 55)⟩,
    ⟨none, some 57, .loadA 4 (.tmp 5)⟩,
    ⟨none, some 58, .build [.p (.v (.int .i64 0)), .p (.v (.int .i64 0)), .p (.v (.int .i64 0)), .p (.v (.int .i64 0)), .p (.v (.int .u8 0)), .p (.v (.int .i64 0))] [(0, 1, .tmp 52), (1, 1, .tmp 56), (2, 4, .tmp 57)]⟩,
    ⟨none, some 59, .mkifc 97 (.tmp 58)⟩]),
   (true, [(15, 0)], [⟨none, some 60, .call 63 [.tmp 49, .tmp 59]⟩])])) (.skip)))
  (.seq (.rg [⟨none, some 61, .mv (.tmp 0)⟩,
    ⟨none, some 62, .mv (.tmp 1)⟩,
    ⟨none, some 63, .nilck (.tmp 61)⟩,
    ⟨none, some 64, .fieldA 256 (.tmp 63)⟩,
    ⟨none, none, .store 1 (.tmp 64) (.tmp 62)⟩])
  (.seq (.rg [⟨none, some 65, .mv (.tmp 0)⟩,
    ⟨none, some 66, .nilck (.tmp 65)⟩,
    ⟨none, some 67, .fieldA 257 (.tmp 66)⟩,
    ⟨none, some 68, .load (.tmp 67)⟩,
    ⟨none, some 69, .bin .add (.tmp 68) (.const (.int .i64 1))⟩,
    ⟨none, some 70, .nilck (.tmp 65)⟩,
    ⟨none, some 71, .fieldA 257 (.tmp 70)⟩,
    ⟨none, none, .store 1 (.tmp 71) (.tmp 69)⟩])
  (.seq (.rg [⟨none, some 6, .mv (.const (.int .i64 0))⟩])
  (.ret)))))))))
theorem ac57_ok (q : Option (Nat × Nat)) : compF Go.Proofs.Try.prog Go.Proofs.Try.f57 (ac57 q) = some (ac57 q, [.tmp 6]) := by kernel_rfl

/- (*clearway link.Link).Hear -/
def ac58_L0 (q : Option (Nat × Nat)) : AC := .seq (.seq (.rg [⟨none, some 19, .mv (.tmp 0)⟩,
    ⟨none, some 20, .nilck (.tmp 19)⟩,
    ⟨none, some 21, .fieldA 258 (.tmp 20)⟩,
    ⟨none, some 22, .load (.tmp 21)⟩,
    ⟨none, some 23, .nilck (.tmp 22)⟩,
    ⟨none, some 24, .load (.tmp 23)⟩,
    ⟨none, some 25, .call 62 [.tmp 24]⟩,
    ⟨none, some 26, .bin .gtr (.tmp 25) (.const (.int .i64 0))⟩,
    ⟨none, some 27, .mv (.tmp 26)⟩,
    ⟨some (27, true), some 28, .mv (.tmp 0)⟩,
    ⟨some (27, true), some 29, .nilck (.tmp 28)⟩,
    ⟨some (27, true), some 30, .fieldA 258 (.tmp 29)⟩,
    ⟨some (27, true), some 31, .load (.tmp 30)⟩,
    ⟨some (27, true), some 32, .nilck (.tmp 31)⟩,
    ⟨some (27, true), some 33, .load (.tmp 32)⟩,
    ⟨some (27, true), some 34, .idx 6 (.tmp 33) (.const (.int .i64 0))⟩,
    ⟨some (27, true), some 35, .fieldA 0 (.tmp 34)⟩,
    ⟨some (27, true), some 36, .load (.tmp 35)⟩,
    ⟨some (27, true), some 37, .mv (.tmp 1)⟩,
    ⟨some (27, true), some 38, .bin .leq (.tmp 36) (.tmp 37)⟩,
    ⟨none, some 39, .pick (.tmp 27) (.tmp 38) (.const (.bool false))⟩])
  (.cond (.tmp 39) (.skip) (.exit 0)))
  (.blk 1 (.seq (.rg [⟨none, some 41, .mv (.tmp 0)⟩,
    ⟨none, some 42, .nilck (.tmp 41)⟩,
    ⟨none, some 43, .fieldA 258 (.tmp 42)⟩,
    ⟨none, some 44, .load (.tmp 43)⟩,
    ⟨none, some 45, .mkifc 99 (.tmp 44)⟩,
    ⟨none, some 46, .call 64 [.tmp 45]⟩,
    ⟨none, some 47, .tassert 97 true (.tmp 46)⟩,
    ⟨none, some 40, .mv (.tmp 47)⟩,
    ⟨none, some 48, .extract (.tmp 40) 0⟩,
    ⟨none, some 49, .extract (.tmp 40) 1⟩,
    ⟨none, some 7, .alloc 97 [.p (.v (.int .i64 0)), .p (.v (.int .i64 0)), .p (.v (.int .i64 0)), .p (.v (.int .i64 0)), .p (.v (.int .u8 0)), .p (.v (.int .i64 0))]⟩,
    ⟨none, none, .store 6 (.tmp 7) (.tmp 48)⟩,
    ⟨none, some 8, .mv (.tmp 49)⟩])
  (.seq (.rg [⟨none, some 50, .mv (.tmp 8)⟩])
  (.cond (.tmp 50) (.rg [⟨none, some 51, .mv (.tmp 4)⟩,
    ⟨none, some 52, .fieldA 2 (.tmp 7)⟩,
    ⟨none, some 53, .loadA 4 (.tmp 52)⟩,
    ⟨none, some 54, .bslice false 25 1 4 [.p (.v (.int .i64 0)), .p (.v (.int .i64 0)), .p (.v (.int .u8 0)), .p (.v (.int .i64 0))] [(0, 4, .tmp 53)]⟩,
    ⟨none, some 55, .append 25 4 32 (.tmp 51) (.tmp 54)⟩,
    ⟨none, some 4, .mv (.tmp 55)⟩]) (.skip)))))
def ac58 (q : Option (Nat × Nat)) : AC := .seq (.rg [⟨none, some 4, .mv (.const (.slice none 0 0))⟩,
    ⟨none, some 5, .mv (.const (.int .i64 0))⟩])
  (.seq (.seq (.rg [⟨none, some 9, .mv (.tmp 0)⟩,
    ⟨none, some 10, .mv (.tmp 1)⟩,
    ⟨none, some 11, .call 61 [.tmp 9, .tmp 10]⟩,
    ⟨none, some 6, .mv (.tmp 11)⟩])
  (.seq (.rg [⟨none, some 12, .mv (.tmp 6)⟩,
    ⟨none, some 13, .bin .neq (.tmp 12) (.const (.int .i64 0))⟩])
  (.cond (.tmp 13) (.seq (.rg [⟨none, some 14, .mv (.tmp 6)⟩,
    ⟨none, some 4, .mv (.const (.slice none 0 0))⟩,
    ⟨none, some 5, .mv (.tmp 14)⟩])
  (.ret)) (.skip))))
  (.seq (.rg [⟨none, some 15, .mv (.tmp 0)⟩,
    ⟨none, some 16, .mv (.tmp 1)⟩,
    ⟨none, some 17, .nilck (.tmp 15)⟩,
    ⟨none, some 18, .fieldA 256 (.tmp 17)⟩,
    ⟨none, none, .store 1 (.tmp 18) (.tmp 16)⟩])
  (.seq (.blk 0 (.loop q [0, 1, 4] (ac58_L0 q)))
  (.seq (.rg [⟨none, some 56, .mv (.tmp 4)⟩,
    ⟨none, some 4, .mv (.tmp 56)⟩,
    ⟨none, some 5, .mv (.const (.int .i64 0))⟩])
  (.ret)))))
theorem ac58_ok (q : Option (Nat × Nat)) : compF Go.Proofs.Try.prog Go.Proofs.Try.f58 (ac58 q) = some (ac58 q, [.tmp 4, .tmp 5]) := by kernel_rfl

/- slices.ContainsFunc[[]int,int] -/
def ac59 (q : Option (Nat × Nat)) : AC := .seq (.rg [⟨none, some 4, .mv (.const (.bool false))⟩])
  (.seq (.rg [⟨none, some 5, .mv (.tmp 0)⟩,
    ⟨none, some 6, .mv (.tmp 1)⟩,
    ⟨none, some 7, .call 65 [.tmp 5, .tmp 6]⟩,
    ⟨none, some 8, .bin .geq (.tmp 7) (.const (.int .i64 0))⟩,
    ⟨none, some 4, .mv (.tmp 8)⟩])
  (.ret))
theorem ac59_ok (q : Option (Nat × Nat)) : compF Go.Proofs.Try.prog Go.Proofs.Try.f59 (ac59 q) = some (ac59 q, [.tmp 4]) := by kernel_rfl

/- clearway link.check$1 -/
def ac60 (q : Option (Nat × Nat)) : AC := .seq (.rg [⟨none, some 2, .mv (.const (.bool false))⟩])
  (.seq (.rg [⟨none, some 3, .mv (.tmp 0)⟩,
    ⟨none, some 4, .bin .lss (.tmp 3) (.const (.int .i64 (-1)))⟩,
    ⟨none, some 5, .mv (.tmp 4)⟩,
    ⟨some (5, false), some 6, .mv (.tmp 0)⟩,
    ⟨some (5, false), some 7, .bin .gtr (.tmp 6) (.const (.int .i64 8))⟩,
    ⟨none, some 8, .pick (.tmp 5) (.const (.bool true)) (.tmp 7)⟩,
    ⟨none, some 2, .mv (.tmp 8)⟩])
  (.ret))
theorem ac60_ok (q : Option (Nat × Nat)) : compF Go.Proofs.Try.prog Go.Proofs.Try.f60 (ac60 q) = some (ac60 q, [.tmp 2]) := by kernel_rfl

/- (*clearway link.Link).at -/
def ac61 (q : Option (Nat × Nat)) : AC := .seq (.rg [⟨none, some 4, .mv (.const (.int .i64 0))⟩])
  (.seq (.blk 0 (.seq (.rg [⟨none, some 6, .mv (.tmp 0)⟩,
    ⟨none, some 7, .eqP false (.tmp 6) (.const (.pointer none))⟩,
    ⟨none, some 8, .mv (.tmp 7)⟩,
    ⟨some (8, false), some 9, .mv (.tmp 0)⟩,
    ⟨some (8, false), some 10, .nilck (.tmp 9)⟩,
    ⟨some (8, false), some 11, .fieldA 258 (.tmp 10)⟩,
    ⟨some (8, false), some 12, .load (.tmp 11)⟩,
    ⟨some (8, false), some 13, .eqP false (.tmp 12) (.const (.pointer none))⟩,
    ⟨none, some 14, .pick (.tmp 8) (.const (.bool true)) (.tmp 13)⟩,
    ⟨none, some 5, .mv (.tmp 14)⟩])
  (.cond (.tmp 5) (.seq (.rg [⟨none, some 4, .mv (.const (.int .i64 11))⟩])
  (.ret)) (.seq (.rg [⟨none, some 16, .mv (.tmp 1)⟩,
    ⟨none, some 17, .bin .lss (.tmp 16) (.const (.int .i64 0))⟩,
    ⟨none, some 18, .mv (.tmp 17)⟩,
    ⟨some (18, false), some 19, .mv (.tmp 1)⟩,
    ⟨some (18, false), some 20, .bin .gtr (.tmp 19) (.const (.int .i64 1099511627776))⟩,
    ⟨none, some 21, .pick (.tmp 18) (.const (.bool true)) (.tmp 20)⟩,
    ⟨none, some 15, .mv (.tmp 21)⟩])
  (.cond (.tmp 15) (.seq (.rg [⟨none, some 4, .mv (.const (.int .i64 1))⟩])
  (.ret)) (.seq (.rg [⟨none, some 23, .mv (.tmp 1)⟩,
    ⟨none, some 24, .mv (.tmp 0)⟩,
    ⟨none, some 25, .nilck (.tmp 24)⟩,
    ⟨none, some 26, .fieldA 256 (.tmp 25)⟩,
    ⟨none, some 27, .load (.tmp 26)⟩,
    ⟨none, some 28, .bin .lss (.tmp 23) (.tmp 27)⟩,
    ⟨none, some 22, .mv (.tmp 28)⟩])
  (.cond (.tmp 22) (.seq (.rg [⟨none, some 4, .mv (.const (.int .i64 12))⟩])
  (.ret)) (.skip))))))))
  (.seq (.rg [⟨none, some 4, .mv (.const (.int .i64 0))⟩])
  (.ret)))
theorem ac61_ok (q : Option (Nat × Nat)) : compF Go.Proofs.Try.prog Go.Proofs.Try.f61 (ac61 q) = some (ac61 q, [.tmp 4]) := by kernel_rfl

/- (clearway link.queue).Len -/
def ac62 (q : Option (Nat × Nat)) : AC := .seq (.rg [⟨none, some 2, .mv (.const (.int .i64 0))⟩])
  (.seq (.rg [⟨none, some 3, .mv (.tmp 0)⟩,
    ⟨none, some 4, .len (.tmp 3)⟩,
    ⟨none, some 2, .mv (.tmp 4)⟩])
  (.ret))
theorem ac62_ok (q : Option (Nat × Nat)) : compF Go.Proofs.Try.prog Go.Proofs.Try.f62 (ac62 q) = some (ac62 q, [.tmp 2]) := by kernel_rfl

/- container heap.Push -/
def ac63 (q : Option (Nat × Nat)) : AC := .seq (.rg [⟨none, some 4, .mv (.tmp 0)⟩,
    ⟨none, some 5, .mv (.tmp 1)⟩,
    ⟨none, some 6, .invk [(99, 87, false)] (.tmp 4) [.tmp 5]⟩])
  (.rg [⟨none, some 7, .mv (.tmp 0)⟩,
    ⟨none, some 8, .mv (.tmp 0)⟩,
    ⟨none, some 9, .invk [(99, 62, true)] (.tmp 8) []⟩,
    ⟨none, some 10, .bin .sub (.tmp 9) (.const (.int .i64 1))⟩,
    ⟨none, some 11, .call 66 [.tmp 7, .tmp 10]⟩])
theorem ac63_ok (q : Option (Nat × Nat)) : compF Go.Proofs.Try.prog Go.Proofs.Try.f63 (ac63 q) = some (ac63 q, []) := by kernel_rfl

/- container heap.Pop -/
def ac64 (q : Option (Nat × Nat)) : AC := .seq (.rg [⟨none, some 2, .mv (.const .nilIface)⟩])
  (.seq (.rg [⟨none, some 4, .mv (.tmp 0)⟩,
    ⟨none, some 5, .invk [(99, 62, true)] (.tmp 4) []⟩,
    ⟨none, some 6, .bin .sub (.tmp 5) (.const (.int .i64 1))⟩,
    ⟨none, some 3, .mv (.tmp 6)⟩])
  (.seq (.rg [⟨none, some 7, .mv (.tmp 0)⟩,
    ⟨none, some 8, .mv (.tmp 3)⟩,
    ⟨none, some 9, .invk [(99, 88, true)] (.tmp 7) [.const (.int .i64 0), .tmp 8]⟩])
  (.seq (.rg [⟨none, some 10, .mv (.tmp 0)⟩,
    ⟨none, some 11, .mv (.tmp 3)⟩,
    ⟨none, some 12, .call 67 [.tmp 10, .const (.int .i64 0), .tmp 11]⟩])
  (.seq (.rg [⟨none, some 13, .mv (.tmp 0)⟩,
    ⟨none, some 14, .invk [(99, 86, false)] (.tmp 13) []⟩,
    ⟨none, some 2, .mv (.tmp 14)⟩])
  (.ret)))))
theorem ac64_ok (q : Option (Nat × Nat)) : compF Go.Proofs.Try.prog Go.Proofs.Try.f64 (ac64 q) = some (ac64 q, [.tmp 2]) := by kernel_rfl

/- slices.IndexFunc[[]int,int] -/
def ac65_L0 (q : Option (Nat × Nat)) : AC := .seq (.rg [⟨none, some 9, .bin .lss (.tmp 8) (.tmp 7)⟩])
  (.seq (.cond (.tmp 9) (.skip) (.exit 0))
  (.seq (.blk 1 (.seq (.rg [⟨none, some 10, .mv (.tmp 8)⟩,
    ⟨none, some 5, .mv (.tmp 10)⟩])
  (.seq (.rg [⟨none, some 11, .mv (.tmp 1)⟩,
    ⟨none, some 12, .mv (.tmp 0)⟩,
    ⟨none, some 13, .mv (.tmp 5)⟩,
    ⟨none, some 14, .idx 1 (.tmp 12) (.tmp 13)⟩,
    ⟨none, some 15, .load (.tmp 14)⟩,
    ⟨none, some 16, .callv (.tmp 11) [.tmp 15]⟩])
  (.cond (.tmp 16) (.seq (.rg [⟨none, some 17, .mv (.tmp 5)⟩,
    ⟨none, some 4, .mv (.tmp 17)⟩])
  (.ret)) (.skip)))))
  (.rg [⟨none, some 18, .bin .add (.tmp 8) (.const (.int .i64 1))⟩,
    ⟨none, some 8, .mv (.tmp 18)⟩])))
def ac65 (q : Option (Nat × Nat)) : AC := .seq (.rg [⟨none, some 4, .mv (.const (.int .i64 0))⟩])
  (.seq (.seq (.rg [⟨none, some 6, .mv (.tmp 0)⟩,
    ⟨none, some 7, .len (.tmp 6)⟩,
    ⟨none, some 8, .mv (.const (.int .i64 0))⟩])
  (.blk 0 (.loop q [0, 1, 7, 8] (ac65_L0 q))))
  (.seq (.rg [⟨none, some 4, .mv (.const (.int .i64 (-1)))⟩])
  (.ret)))
theorem ac65_ok (q : Option (Nat × Nat)) : compF Go.Proofs.Try.prog Go.Proofs.Try.f65 (ac65 q) = some (ac65 q, [.tmp 4]) := by kernel_rfl

/- container heap.up -/
def ac66_L0 (q : Option (Nat × Nat)) : AC := .blk 1 (.seq (.rg [⟨none, some 5, .mv (.tmp 1)⟩,
    ⟨none, some 6, .bin .sub (.tmp 5) (.const (.int .i64 1))⟩,
    ⟨none, some 7, .bin .quo (.tmp 6) (.const (.int .i64 2))⟩,
    ⟨none, some 4, .mv (.tmp 7)⟩])
  (.seq (.seq (.rg [⟨none, some 8, .mv (.tmp 4)⟩,
    ⟨none, some 9, .mv (.tmp 1)⟩,
    ⟨none, some 10, .bin .eql (.tmp 8) (.tmp 9)⟩,
    ⟨none, some 11, .mv (.tmp 10)⟩,
    ⟨some (11, false), some 12, .mv (.tmp 0)⟩,
    ⟨some (11, false), some 13, .mv (.tmp 1)⟩,
    ⟨some (11, false), some 14, .mv (.tmp 4)⟩,
    ⟨some (11, false), some 15, .invk [(99, 85, true)] (.tmp 12) [.tmp 13, .tmp 14]⟩,
    ⟨some (11, false), some 16, .un .not (.tmp 15)⟩,
    ⟨none, some 17, .pick (.tmp 11) (.const (.bool true)) (.tmp 16)⟩])
  (.cond (.tmp 17) (.exit 0) (.skip)))
  (.seq (.rg [⟨none, some 18, .mv (.tmp 0)⟩,
    ⟨none, some 19, .mv (.tmp 4)⟩,
    ⟨none, some 20, .mv (.tmp 1)⟩,
    ⟨none, some 21, .invk [(99, 88, true)] (.tmp 18) [.tmp 19, .tmp 20]⟩])
  (.rg [⟨none, some 22, .mv (.tmp 4)⟩,
    ⟨none, some 1, .mv (.tmp 22)⟩]))))
def ac66 (q : Option (Nat × Nat)) : AC := .blk 0 (.loop q [0, 1] (ac66_L0 q))
theorem ac66_ok (q : Option (Nat × Nat)) : compF Go.Proofs.Try.prog Go.Proofs.Try.f66 (ac66 q) = some (ac66 q, []) := by kernel_rfl

/- container heap.down -/
def ac67_L0 (q : Option (Nat × Nat)) : AC := .blk 1 (.seq (.rg [⟨none, some 12, .mv (.tmp 7)⟩,
    ⟨none, some 13, .bin .mul (.const (.int .i64 2)) (.tmp 12)⟩,
    ⟨none, some 14, .bin .add (.tmp 13) (.const (.int .i64 1))⟩,
    ⟨none, some 8, .mv (.tmp 14)⟩])
  (.seq (.seq (.rg [⟨none, some 15, .mv (.tmp 8)⟩,
    ⟨none, some 16, .mv (.tmp 2)⟩,
    ⟨none, some 17, .bin .geq (.tmp 15) (.tmp 16)⟩,
    ⟨none, some 18, .mv (.tmp 17)⟩,
    ⟨some (18, false), some 19, .mv (.tmp 8)⟩,
    ⟨some (18, false), some 20, .bin .lss (.tmp 19) (.const (.int .i64 0))⟩,
    ⟨none, some 21, .pick (.tmp 18) (.const (.bool true)) (.tmp 20)⟩])
  (.cond (.tmp 21) (.exit 0) (.skip)))
  (.seq (.rg [⟨none, some 22, .mv (.tmp 8)⟩,
    ⟨none, some 9, .mv (.tmp 22)⟩])
  (.seq (.seq (.rg [⟨none, some 23, .mv (.tmp 8)⟩,
    ⟨none, some 24, .bin .add (.tmp 23) (.const (.int .i64 1))⟩,
    ⟨none, some 10, .mv (.tmp 24)⟩])
  (.seq (.rg [⟨none, some 25, .mv (.tmp 10)⟩,
    ⟨none, some 26, .mv (.tmp 2)⟩,
    ⟨none, some 27, .bin .lss (.tmp 25) (.tmp 26)⟩,
    ⟨none, some 28, .mv (.tmp 27)⟩,
    ⟨some (28, true), some 29, .mv (.tmp 0)⟩,
    ⟨some (28, true), some 30, .mv (.tmp 10)⟩,
    ⟨some (28, true), some 31, .mv (.tmp 8)⟩,
    ⟨some (28, true), some 32, .invk [(99, 85, true)] (.tmp 29) [.tmp 30, .tmp 31]⟩,
    ⟨none, some 33, .pick (.tmp 28) (.tmp 32) (.const (.bool false))⟩])
  (.cond (.tmp 33) (.rg [⟨none, some 34, .mv (.tmp 10)⟩,
    ⟨none, some 9, .mv (.tmp 34)⟩]) (.skip))))
  (.seq (.seq (.rg [⟨none, some 35, .mv (.tmp 0)⟩,
    ⟨none, some 36, .mv (.tmp 9)⟩,
    ⟨none, some 37, .mv (.tmp 7)⟩,
    ⟨none, some 38, .invk [(99, 85, true)] (.tmp 35) [.tmp 36, .tmp 37]⟩,
    ⟨none, some 39, .un .not (.tmp 38)⟩])
  (.cond (.tmp 39) (.exit 0) (.skip)))
  (.seq (.rg [⟨none, some 40, .mv (.tmp 0)⟩,
    ⟨none, some 41, .mv (.tmp 7)⟩,
    ⟨none, some 42, .mv (.tmp 9)⟩,
    ⟨none, some 43, .invk [(99, 88, true)] (.tmp 40) [.tmp 41, .tmp 42]⟩])
  (.rg [⟨none, some 44, .mv (.tmp 9)⟩,
    ⟨none, some 7, .mv (.tmp 44)⟩])))))))
def ac67 (q : Option (Nat × Nat)) : AC := .seq (.rg [⟨none, some 6, .mv (.const (.bool false))⟩])
  (.seq (.rg [⟨none, some 11, .mv (.tmp 1)⟩,
    ⟨none, some 7, .mv (.tmp 11)⟩])
  (.seq (.blk 0 (.loop q [0, 1, 2, 7] (ac67_L0 q)))
  (.seq (.rg [⟨none, some 45, .mv (.tmp 7)⟩,
    ⟨none, some 46, .mv (.tmp 1)⟩,
    ⟨none, some 47, .bin .gtr (.tmp 45) (.tmp 46)⟩,
    ⟨none, some 6, .mv (.tmp 47)⟩])
  (.ret))))
theorem ac67_ok (q : Option (Nat × Nat)) : compF Go.Proofs.Try.prog Go.Proofs.Try.f67 (ac67 q) = some (ac67 q, [.tmp 6]) := by kernel_rfl

/- (clearway link.queue).Less -/
def ac85 (q : Option (Nat × Nat)) : AC := .seq (.rg [⟨none, some 6, .mv (.const (.bool false))⟩])
  (.seq (.dr [(false, [(0, 0), (1, 0), (2, 0), (3, 0), (4, 0), (5, 0), (6, 0), (7, 0)], [⟨none, some 7, .mv (.tmp 0)⟩,
    ⟨none, some 8, .mv (.tmp 1)⟩,
    ⟨none, some 9, .idx 6 (.tmp 7) (.tmp 8)⟩,
    ⟨none, some 10, .loadA 6 (.tmp 9)⟩,
    ⟨none, some 11, .mv (.tmp 0)⟩,
    ⟨none, some 12, .mv (.tmp 2)⟩,
    ⟨none, some 13, .idx 6 (.tmp 11) (.tmp 12)⟩,
    ⟨none, some 14, .loadA 6 (.tmp 13)⟩]),
   (true, [(8, 0), (9, 0)], [⟨none, some 15, .call 89 [.tmp 10, .tmp 14]⟩,
    ⟨none, some 6, .mv (.tmp 15)⟩])])
  (.ret))
theorem ac85_ok (q : Option (Nat × Nat)) : compF Go.Proofs.Try.prog Go.Proofs.Try.f85 (ac85 q) = some (ac85 q, [.tmp 6]) := by kernel_rfl

/- (*clearway link.queue).Pop -/
def ac86 (q : Option (Nat × Nat)) : AC := .seq (.rg [⟨none, some 2, .mv (.const .nilIface)⟩])
  (.seq (.rg [⟨none, some 5, .mv (.tmp 0)⟩,
    ⟨none, some 6, .nilck (.tmp 5)⟩,
    ⟨none, some 7, .load (.tmp 6)⟩,
    ⟨none, some 8, .len (.tmp 7)⟩,
    ⟨none, some 9, .bin .sub (.tmp 8) (.const (.int .i64 1))⟩,
    ⟨none, some 3, .mv (.tmp 9)⟩])
  (.seq (.rg [⟨none, some 10, .mv (.tmp 0)⟩,
    ⟨none, some 11, .nilck (.tmp 10)⟩,
    ⟨none, some 12, .load (.tmp 11)⟩,
    ⟨none, some 13, .mv (.tmp 3)⟩,
    ⟨none, some 14, .idx 6 (.tmp 12) (.tmp 13)⟩,
    ⟨none, some 15, .loadA 6 (.tmp 14)⟩,
    ⟨none, some 4, .alloc 97 [.p (.v (.int .i64 0)), .p (.v (.int .i64 0)), .p (.v (.int .i64 0)), .p (.v (.int .i64 0)), .p (.v (.int .u8 0)), .p (.v (.int .i64 0))]⟩,
    ⟨none, none, .store 6 (.tmp 4) (.tmp 15)⟩])
  (.seq (.rg [⟨none, some 16, .mv (.tmp 0)⟩,
    ⟨none, some 17, .mv (.tmp 0)⟩,
    ⟨none, some 18, .nilck (.tmp 17)⟩,
    ⟨none, some 19, .load (.tmp 18)⟩,
    ⟨none, some 20, .mv (.tmp 3)⟩,
    ⟨none, some 21, .slice 6 (.tmp 19) none (some (.tmp 20))⟩,
    ⟨none, some 22, .nilck (.tmp 16)⟩,
    ⟨none, none, .store 1 (.tmp 22) (.tmp 21)⟩])
  (.seq (.rg [⟨none, some 23, .loadA 6 (.tmp 4)⟩,
    ⟨none, some 24, .mkifc 97 (.tmp 23)⟩,
    ⟨none, some 2, .mv (.tmp 24)⟩])
  (.ret)))))
theorem ac86_ok (q : Option (Nat × Nat)) : compF Go.Proofs.Try.prog Go.Proofs.Try.f86 (ac86 q) = some (ac86 q, [.tmp 2]) := by kernel_rfl

/- (*clearway link.queue).Push -/
def ac87 (q : Option (Nat × Nat)) : AC := .dr [(false, [(0, 0), (1, 0), (2, 0), (3, 0), (4, 0), (5, 0), (6, 0), (7, 1)], [⟨none, some 4, .mv (.tmp 0)⟩,
    ⟨none, some 5, .mv (.tmp 0)⟩,
    ⟨none, some 6, .nilck (.tmp 5)⟩,
    ⟨none, some 7, .load (.tmp 6)⟩,
    ⟨none, some 8, .mv (.tmp 1)⟩,
    ⟨none, some 9, .tassert 97 false (.tmp 8)⟩,
    ⟨none, some 10, .bslice false 97 1 6 [.p (.v (.int .i64 0)), .p (.v (.int .i64 0)), .p (.v (.int .i64 0)), .p (.v (.int .i64 0)), .p (.v (.int .u8 0)), .p (.v (.int .i64 0))] [(0, 6, .tmp 9)]⟩,
    ⟨none, some 11, .append 97 6 48 (.tmp 7) (.tmp 10)⟩]),
   (true, [(8, 0), (9, 0)], [⟨none, some 12, .nilck (.tmp 4)⟩,
    ⟨none, none, .store 1 (.tmp 12) (.tmp 11)⟩])]
theorem ac87_ok (q : Option (Nat × Nat)) : compF Go.Proofs.Try.prog Go.Proofs.Try.f87 (ac87 q) = some (ac87 q, []) := by kernel_rfl

/- (clearway link.queue).Swap -/
def ac88 (q : Option (Nat × Nat)) : AC := .dr [(false, [(0, 0), (1, 0), (2, 0), (3, 0), (4, 0), (5, 0), (6, 0), (7, 0), (8, 0), (9, 0), (10, 0), (11, 0), (12, 0), (13, 1)], [⟨none, some 6, .mv (.tmp 0)⟩,
    ⟨none, some 7, .mv (.tmp 1)⟩,
    ⟨none, some 8, .mv (.tmp 0)⟩,
    ⟨none, some 9, .mv (.tmp 2)⟩,
    ⟨none, some 10, .mv (.tmp 0)⟩,
    ⟨none, some 11, .mv (.tmp 2)⟩,
    ⟨none, some 12, .idx 6 (.tmp 10) (.tmp 11)⟩,
    ⟨none, some 13, .loadA 6 (.tmp 12)⟩,
    ⟨none, some 14, .mv (.tmp 0)⟩,
    ⟨none, some 15, .mv (.tmp 1)⟩,
    ⟨none, some 16, .idx 6 (.tmp 14) (.tmp 15)⟩,
    ⟨none, some 17, .loadA 6 (.tmp 16)⟩,
    ⟨none, some 18, .idx 6 (.tmp 6) (.tmp 7)⟩,
    ⟨none, none, .store 6 (.tmp 18) (.tmp 13)⟩]),
   (true, [(14, 0), (15, 0)], [⟨none, some 19, .idx 6 (.tmp 8) (.tmp 9)⟩,
    ⟨none, none, .store 6 (.tmp 19) (.tmp 17)⟩])]
theorem ac88_ok (q : Option (Nat × Nat)) : compF Go.Proofs.Try.prog Go.Proofs.Try.f88 (ac88 q) = some (ac88 q, []) := by kernel_rfl

/- clearway link.before -/
def ac89 (q : Option (Nat × Nat)) : AC := .seq (.rg [⟨none, some 2, .box 97 (.tmp 0)⟩,
    ⟨none, some 3, .box 97 (.tmp 1)⟩,
    ⟨none, some 4, .mv (.const (.bool false))⟩])
  (.seq (.rg [⟨none, some 5, .fieldA 0 (.tmp 2)⟩,
    ⟨none, some 6, .load (.tmp 5)⟩,
    ⟨none, some 7, .fieldA 0 (.tmp 3)⟩,
    ⟨none, some 8, .load (.tmp 7)⟩,
    ⟨none, some 9, .bin .lss (.tmp 6) (.tmp 8)⟩,
    ⟨none, some 10, .mv (.tmp 9)⟩,
    ⟨some (10, false), some 11, .fieldA 0 (.tmp 2)⟩,
    ⟨some (10, false), some 12, .load (.tmp 11)⟩,
    ⟨some (10, false), some 13, .fieldA 0 (.tmp 3)⟩,
    ⟨some (10, false), some 14, .load (.tmp 13)⟩,
    ⟨some (10, false), some 15, .bin .eql (.tmp 12) (.tmp 14)⟩,
    ⟨some (10, false), some 16, .mv (.tmp 15)⟩,
    ⟨some (16, true), some 17, .fieldA 1 (.tmp 2)⟩,
    ⟨some (16, true), some 18, .load (.tmp 17)⟩,
    ⟨some (16, true), some 19, .fieldA 1 (.tmp 3)⟩,
    ⟨some (16, true), some 20, .load (.tmp 19)⟩,
    ⟨some (16, true), some 21, .bin .lss (.tmp 18) (.tmp 20)⟩,
    ⟨some (10, false), some 22, .pick (.tmp 16) (.tmp 21) (.const (.bool false))⟩,
    ⟨none, some 23, .pick (.tmp 10) (.const (.bool true)) (.tmp 22)⟩,
    ⟨none, some 4, .mv (.tmp 23)⟩])
  (.ret))
theorem ac89_ok (q : Option (Nat × Nat)) : compF Go.Proofs.Try.prog Go.Proofs.Try.f89 (ac89 q) = some (ac89 q, [.tmp 4]) := by kernel_rfl

noncomputable def s34tbl : Tbl :=
  tcons 6 (ac6 none, [.tmp 6], 52) <|
  tcons 7 (ac7 none, [.tmp 0], 90) <|
  tcons 8 (ac8 none, [.tmp 4], 94) <|
  tcons 9 (ac9 none, [.tmp 4], 90) <|
  tcons 11 (ac11 none, [.cell 4 (some 6), .tmp 5], 23) <|
  tcons 12 (ac12 none, [.cell 4 (some 6), .tmp 5], 38) <|
  tcons 13 (ac13 none, [.cell 4 (some 6), .tmp 5], 55) <|
  tcons 14 (ac14 none, [.cell 4 (some 6), .tmp 5], 65) <|
  tcons 15 (ac15 none, [.cell 2 (some 4), .tmp 3], 24) <|
  tcons 16 (ac16 none, [.cell 2 (some 4), .tmp 3], 24) <|
  tcons 17 (ac17 none, [.cell 4 (some 6), .tmp 5], 18) <|
  tcons 18 (ac18 none, [.cell 4 (some 6), .tmp 5], 14) <|
  tcons 19 (ac19 none, [.tmp 2], 59) <|
  tcons 20 (ac20 none, [.tmp 2], 53) <|
  tcons 21 (ac21 none, [.tmp 0], 103) <|
  tcons 22 (ac22 none, [.tmp 10, .tmp 11], 182) <|
  tcons 23 (ac23 none, [.tmp 10, .tmp 11], 114) <|
  tcons 24 (ac24 none, [.tmp 4], 26) <|
  tcons 25 (ac25 none, [.tmp 4], 11) <|
  tcons 26 (ac26 none, [.tmp 4], 17) <|
  tcons 27 (ac27 none, [.tmp 2], 32) <|
  tcons 28 (ac28 none, [.tmp 4], 30) <|
  tcons 29 (ac29 none, [.tmp 2], 41) <|
  tcons 30 (ac30 none, [.tmp 8], 67) <|
  tcons 31 (ac31 none, [.cell 4 (some 6), .tmp 5], 24) <|
  tcons 32 (ac32 none, [.tmp 4], 17) <|
  tcons 33 (ac33 none, [.tmp 4], 12) <|
  tcons 34 (ac34 none, [.cell 4 (some 6), .tmp 5], 22) <|
  tcons 35 (ac35 none, [.tmp 2], 5) <|
  tcons 36 (ac36 none, [.tmp 2], 35) <|
  tcons 37 (ac37 none, [.tmp 2], 39) <|
  tcons 38 (ac38 none, [.tmp 4], 24) <|
  tcons 39 (ac39 none, [.tmp 4], 12) <|
  tcons 40 (ac40 none, [.tmp 2], 8) <|
  tcons 41 (ac41 none, [.tmp 2, .tmp 3], 15) <|
  tcons 42 (ac42 none, [.tmp 6], 77) <|
  tcons 43 (ac43 none, [.tmp 4, .tmp 5], 54) <|
  tcons 44 (ac44 none, [.tmp 4], 9) <|
  tcons 45 (ac45 none, [.tmp 2], 9) <|
  tcons 46 (ac46 none, [.tmp 2, .tmp 3], 22) <|
  tcons 47 (ac47 none, [], 17) <|
  tcons 48 (ac48 none, [], 24) <|
  tcons 49 (ac49 none, [], 37) <|
  tcons 50 (ac50 none, [.tmp 4], 12) <|
  tcons 51 (ac51 none, [.tmp 2], 9) <|
  tcons 52 (ac52 none, [.tmp 2], 25) <|
  tcons 53 (ac53 none, [.tmp 4], 17) <|
  tcons 54 (ac54 none, [.tmp 2], 76) <|
  tcons 55 (ac55 none, [.tmp 4], 19) <|
  tcons 56 (ac56 none, [.tmp 2], 10) <|
  tcons 57 (ac57 none, [.tmp 6], 72) <|
  tcons 58 (ac58 none, [.tmp 4, .tmp 5], 57) <|
  tcons 59 (ac59 none, [.tmp 4], 9) <|
  tcons 60 (ac60 none, [.tmp 2], 9) <|
  tcons 61 (ac61 none, [.tmp 4], 29) <|
  tcons 62 (ac62 none, [.tmp 2], 5) <|
  tcons 63 (ac63 none, [], 12) <|
  tcons 64 (ac64 none, [.tmp 2], 15) <|
  tcons 65 (ac65 none, [.tmp 4], 19) <|
  tcons 66 (ac66 none, [], 23) <|
  tcons 67 (ac67 none, [.tmp 6], 48) <|
  tcons 85 (ac85 none, [.tmp 6], 16) <|
  tcons 86 (ac86 none, [.tmp 2], 25) <|
  tcons 87 (ac87 none, [], 13) <|
  tcons 88 (ac88 none, [], 20) <|
  tcons 89 (ac89 none, [.tmp 4], 24) <|
  fun _ => none
theorem s34tbl_ok : TblOK Go.Proofs.Try.prog s34tbl :=
  .cons Go.Proofs.Try.call6 Go.Proofs.Try.func6 (ac6_ok none) (by rw [Go.Proofs.Try.ntmps6]; exact Nat.le_refl _) <|
  .cons Go.Proofs.Try.call7 Go.Proofs.Try.func7 (ac7_ok none) (by rw [Go.Proofs.Try.ntmps7]; exact Nat.le_refl _) <|
  .cons Go.Proofs.Try.call8 Go.Proofs.Try.func8 (ac8_ok none) (by rw [Go.Proofs.Try.ntmps8]; exact Nat.le_refl _) <|
  .cons Go.Proofs.Try.call9 Go.Proofs.Try.func9 (ac9_ok none) (by rw [Go.Proofs.Try.ntmps9]; exact Nat.le_refl _) <|
  .cons Go.Proofs.Try.call11 Go.Proofs.Try.func11 (ac11_ok none) (by rw [Go.Proofs.Try.ntmps11]; exact Nat.le_refl _) <|
  .cons Go.Proofs.Try.call12 Go.Proofs.Try.func12 (ac12_ok none) (by rw [Go.Proofs.Try.ntmps12]; exact Nat.le_refl _) <|
  .cons Go.Proofs.Try.call13 Go.Proofs.Try.func13 (ac13_ok none) (by rw [Go.Proofs.Try.ntmps13]; exact Nat.le_refl _) <|
  .cons Go.Proofs.Try.call14 Go.Proofs.Try.func14 (ac14_ok none) (by rw [Go.Proofs.Try.ntmps14]; exact Nat.le_refl _) <|
  .cons Go.Proofs.Try.call15 Go.Proofs.Try.func15 (ac15_ok none) (by rw [Go.Proofs.Try.ntmps15]; exact Nat.le_refl _) <|
  .cons Go.Proofs.Try.call16 Go.Proofs.Try.func16 (ac16_ok none) (by rw [Go.Proofs.Try.ntmps16]; exact Nat.le_refl _) <|
  .cons Go.Proofs.Try.call17 Go.Proofs.Try.func17 (ac17_ok none) (by rw [Go.Proofs.Try.ntmps17]; exact Nat.le_refl _) <|
  .cons Go.Proofs.Try.call18 Go.Proofs.Try.func18 (ac18_ok none) (by rw [Go.Proofs.Try.ntmps18]; exact Nat.le_refl _) <|
  .cons Go.Proofs.Try.call19 Go.Proofs.Try.func19 (ac19_ok none) (by rw [Go.Proofs.Try.ntmps19]; exact Nat.le_refl _) <|
  .cons Go.Proofs.Try.call20 Go.Proofs.Try.func20 (ac20_ok none) (by rw [Go.Proofs.Try.ntmps20]; exact Nat.le_refl _) <|
  .cons Go.Proofs.Try.call21 Go.Proofs.Try.func21 (ac21_ok none) (by rw [Go.Proofs.Try.ntmps21]; exact Nat.le_refl _) <|
  .cons Go.Proofs.Try.call22 Go.Proofs.Try.func22 (ac22_ok none) (by rw [Go.Proofs.Try.ntmps22]; exact Nat.le_refl _) <|
  .cons Go.Proofs.Try.call23 Go.Proofs.Try.func23 (ac23_ok none) (by rw [Go.Proofs.Try.ntmps23]; exact Nat.le_refl _) <|
  .cons Go.Proofs.Try.call24 Go.Proofs.Try.func24 (ac24_ok none) (by rw [Go.Proofs.Try.ntmps24]; exact Nat.le_refl _) <|
  .cons Go.Proofs.Try.call25 Go.Proofs.Try.func25 (ac25_ok none) (by rw [Go.Proofs.Try.ntmps25]; exact Nat.le_refl _) <|
  .cons Go.Proofs.Try.call26 Go.Proofs.Try.func26 (ac26_ok none) (by rw [Go.Proofs.Try.ntmps26]; exact Nat.le_refl _) <|
  .cons Go.Proofs.Try.call27 Go.Proofs.Try.func27 (ac27_ok none) (by rw [Go.Proofs.Try.ntmps27]; exact Nat.le_refl _) <|
  .cons Go.Proofs.Try.call28 Go.Proofs.Try.func28 (ac28_ok none) (by rw [Go.Proofs.Try.ntmps28]; exact Nat.le_refl _) <|
  .cons Go.Proofs.Try.call29 Go.Proofs.Try.func29 (ac29_ok none) (by rw [Go.Proofs.Try.ntmps29]; exact Nat.le_refl _) <|
  .cons Go.Proofs.Try.call30 Go.Proofs.Try.func30 (ac30_ok none) (by rw [Go.Proofs.Try.ntmps30]; exact Nat.le_refl _) <|
  .cons Go.Proofs.Try.call31 Go.Proofs.Try.func31 (ac31_ok none) (by rw [Go.Proofs.Try.ntmps31]; exact Nat.le_refl _) <|
  .cons Go.Proofs.Try.call32 Go.Proofs.Try.func32 (ac32_ok none) (by rw [Go.Proofs.Try.ntmps32]; exact Nat.le_refl _) <|
  .cons Go.Proofs.Try.call33 Go.Proofs.Try.func33 (ac33_ok none) (by rw [Go.Proofs.Try.ntmps33]; exact Nat.le_refl _) <|
  .cons Go.Proofs.Try.call34 Go.Proofs.Try.func34 (ac34_ok none) (by rw [Go.Proofs.Try.ntmps34]; exact Nat.le_refl _) <|
  .cons Go.Proofs.Try.call35 Go.Proofs.Try.func35 (ac35_ok none) (by rw [Go.Proofs.Try.ntmps35]; exact Nat.le_refl _) <|
  .cons Go.Proofs.Try.call36 Go.Proofs.Try.func36 (ac36_ok none) (by rw [Go.Proofs.Try.ntmps36]; exact Nat.le_refl _) <|
  .cons Go.Proofs.Try.call37 Go.Proofs.Try.func37 (ac37_ok none) (by rw [Go.Proofs.Try.ntmps37]; exact Nat.le_refl _) <|
  .cons Go.Proofs.Try.call38 Go.Proofs.Try.func38 (ac38_ok none) (by rw [Go.Proofs.Try.ntmps38]; exact Nat.le_refl _) <|
  .cons Go.Proofs.Try.call39 Go.Proofs.Try.func39 (ac39_ok none) (by rw [Go.Proofs.Try.ntmps39]; exact Nat.le_refl _) <|
  .cons Go.Proofs.Try.call40 Go.Proofs.Try.func40 (ac40_ok none) (by rw [Go.Proofs.Try.ntmps40]; exact Nat.le_refl _) <|
  .cons Go.Proofs.Try.call41 Go.Proofs.Try.func41 (ac41_ok none) (by rw [Go.Proofs.Try.ntmps41]; exact Nat.le_refl _) <|
  .cons Go.Proofs.Try.call42 Go.Proofs.Try.func42 (ac42_ok none) (by rw [Go.Proofs.Try.ntmps42]; exact Nat.le_refl _) <|
  .cons Go.Proofs.Try.call43 Go.Proofs.Try.func43 (ac43_ok none) (by rw [Go.Proofs.Try.ntmps43]; exact Nat.le_refl _) <|
  .cons Go.Proofs.Try.call44 Go.Proofs.Try.func44 (ac44_ok none) (by rw [Go.Proofs.Try.ntmps44]; exact Nat.le_refl _) <|
  .cons Go.Proofs.Try.call45 Go.Proofs.Try.func45 (ac45_ok none) (by rw [Go.Proofs.Try.ntmps45]; exact Nat.le_refl _) <|
  .cons Go.Proofs.Try.call46 Go.Proofs.Try.func46 (ac46_ok none) (by rw [Go.Proofs.Try.ntmps46]; exact Nat.le_refl _) <|
  .cons Go.Proofs.Try.call47 Go.Proofs.Try.func47 (ac47_ok none) (by rw [Go.Proofs.Try.ntmps47]; exact Nat.le_refl _) <|
  .cons Go.Proofs.Try.call48 Go.Proofs.Try.func48 (ac48_ok none) (by rw [Go.Proofs.Try.ntmps48]; exact Nat.le_refl _) <|
  .cons Go.Proofs.Try.call49 Go.Proofs.Try.func49 (ac49_ok none) (by rw [Go.Proofs.Try.ntmps49]; exact Nat.le_refl _) <|
  .cons Go.Proofs.Try.call50 Go.Proofs.Try.func50 (ac50_ok none) (by rw [Go.Proofs.Try.ntmps50]; exact Nat.le_refl _) <|
  .cons Go.Proofs.Try.call51 Go.Proofs.Try.func51 (ac51_ok none) (by rw [Go.Proofs.Try.ntmps51]; exact Nat.le_refl _) <|
  .cons Go.Proofs.Try.call52 Go.Proofs.Try.func52 (ac52_ok none) (by rw [Go.Proofs.Try.ntmps52]; exact Nat.le_refl _) <|
  .cons Go.Proofs.Try.call53 Go.Proofs.Try.func53 (ac53_ok none) (by rw [Go.Proofs.Try.ntmps53]; exact Nat.le_refl _) <|
  .cons Go.Proofs.Try.call54 Go.Proofs.Try.func54 (ac54_ok none) (by rw [Go.Proofs.Try.ntmps54]; exact Nat.le_refl _) <|
  .cons Go.Proofs.Try.call55 Go.Proofs.Try.func55 (ac55_ok none) (by rw [Go.Proofs.Try.ntmps55]; exact Nat.le_refl _) <|
  .cons Go.Proofs.Try.call56 Go.Proofs.Try.func56 (ac56_ok none) (by rw [Go.Proofs.Try.ntmps56]; exact Nat.le_refl _) <|
  .cons Go.Proofs.Try.call57 Go.Proofs.Try.func57 (ac57_ok none) (by rw [Go.Proofs.Try.ntmps57]; exact Nat.le_refl _) <|
  .cons Go.Proofs.Try.call58 Go.Proofs.Try.func58 (ac58_ok none) (by rw [Go.Proofs.Try.ntmps58]; exact Nat.le_refl _) <|
  .cons Go.Proofs.Try.call59 Go.Proofs.Try.func59 (ac59_ok none) (by rw [Go.Proofs.Try.ntmps59]; exact Nat.le_refl _) <|
  .cons Go.Proofs.Try.call60 Go.Proofs.Try.func60 (ac60_ok none) (by rw [Go.Proofs.Try.ntmps60]; exact Nat.le_refl _) <|
  .cons Go.Proofs.Try.call61 Go.Proofs.Try.func61 (ac61_ok none) (by rw [Go.Proofs.Try.ntmps61]; exact Nat.le_refl _) <|
  .cons Go.Proofs.Try.call62 Go.Proofs.Try.func62 (ac62_ok none) (by rw [Go.Proofs.Try.ntmps62]; exact Nat.le_refl _) <|
  .cons Go.Proofs.Try.call63 Go.Proofs.Try.func63 (ac63_ok none) (by rw [Go.Proofs.Try.ntmps63]; exact Nat.le_refl _) <|
  .cons Go.Proofs.Try.call64 Go.Proofs.Try.func64 (ac64_ok none) (by rw [Go.Proofs.Try.ntmps64]; exact Nat.le_refl _) <|
  .cons Go.Proofs.Try.call65 Go.Proofs.Try.func65 (ac65_ok none) (by rw [Go.Proofs.Try.ntmps65]; exact Nat.le_refl _) <|
  .cons Go.Proofs.Try.call66 Go.Proofs.Try.func66 (ac66_ok none) (by rw [Go.Proofs.Try.ntmps66]; exact Nat.le_refl _) <|
  .cons Go.Proofs.Try.call67 Go.Proofs.Try.func67 (ac67_ok none) (by rw [Go.Proofs.Try.ntmps67]; exact Nat.le_refl _) <|
  .cons Go.Proofs.Try.call85 Go.Proofs.Try.func85 (ac85_ok none) (by rw [Go.Proofs.Try.ntmps85]; exact Nat.le_refl _) <|
  .cons Go.Proofs.Try.call86 Go.Proofs.Try.func86 (ac86_ok none) (by rw [Go.Proofs.Try.ntmps86]; exact Nat.le_refl _) <|
  .cons Go.Proofs.Try.call87 Go.Proofs.Try.func87 (ac87_ok none) (by rw [Go.Proofs.Try.ntmps87]; exact Nat.le_refl _) <|
  .cons Go.Proofs.Try.call88 Go.Proofs.Try.func88 (ac88_ok none) (by rw [Go.Proofs.Try.ntmps88]; exact Nat.le_refl _) <|
  .cons Go.Proofs.Try.call89 Go.Proofs.Try.func89 (ac89_ok none) (by rw [Go.Proofs.Try.ntmps89]; exact Nat.le_refl _) <|
  .nil
def cfg : Cfg := ⟨[(3, (.int .i64)), (4, .bool), (5, (.int .u8)), (25, (.pair (.int .i64) (.pair (.int .i64) (.pair (.int .u8) (.int .i64))))), (38, (.sl (.int .i64))), (45, (.pair (.pair (.int .i64) (.pair (.int .i64) (.pair (.int .u8) (.pair (.int .i64) (.pair (.int .u8) (.int .i64)))))) (.pair (.int .i64) (.pair (.int .i64) (.pair (.int .u8) (.pair (.int .i64) (.pair (.int .u8) (.int .i64)))))))), (46, (.pair (.int .u8) (.int .u8))), (51, (.sl (.int .u8))), (97, (.pair (.int .i64) (.pair (.int .i64) (.pair (.int .i64) (.pair (.int .i64) (.pair (.int .u8) (.int .i64)))))))], [(85, [.c (.v (.int .i64 0)), .c (.v (.int .i64 0)), .c (.v (.int .u8 0)), .c (.v (.int .i64 0)), .c (.v (.int .u8 0)), .c (.v (.int .i64 0)), .c (.v (.pointer none)), .c (.v (.pointer none)), .c (.v (.int .i64 0)), .c (.v (.int .u8 0)), .c (.v (.int .i64 0)), .c (.v (.int .i64 0)), .c (.v (.int .u8 0)), .c (.v (.int .i64 0)), .c (.v (.int .u8 0)), .c (.v (.int .i64 0)), .c (.v (.pointer none)), .c (.v (.pointer none)), .c (.v (.int .i64 0)), .c (.v (.int .u8 0))]), (103, [.a 256 (.int .i64), .c (.v (.int .i64 0)), .c (.v (.int .i64 0)), .c (.v (.pointer none))])]⟩
end Go.Ab
