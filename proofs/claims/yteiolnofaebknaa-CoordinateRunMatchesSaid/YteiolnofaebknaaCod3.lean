/- The codes of functions of this seat,as annotated,compared with the program by the kernel. No conditions. -/
import Derived.Test.YteiolnofaebknaaProg
import Derived.Test.YteiolnofaebknaaAbG
import Derived.Test.YteiolnofaebknaaCod2
set_option linter.unusedVariables false
set_option linter.unusedSimpArgs false
namespace Go.Ab
open Go.Proofs
def ac44 (q:Q0):AC:=.seq (.rg [zi 4 (.mv (.const (.bool false)))]) (.seq (.rg [zi 5 (.mv (zt 0)),zi 6 (.mv (zt 1)),zi 7 (.call 55 [zt 5,zt 6]),zi 8 (.bin .geq (zt 7) (zk 0)),zi 4 (.mv (zt 8))]) .ret)
theorem ac44_ok (q:Q0):compF Try.prog Try.f44 (ac44 q)=some (ac44 q,[.tmp 4]):=by kernel_rfl
def ac45 (q:Q0):AC:=.seq (.rg [zi 1 (.box 46 (zt 0)),zi 2 (.mv (.const (.bool false)))]) (.seq (.rg [zi 3 (.idxA 2 1 (zt 1) (zk 0)),zi 4 (.load (zt 3)),zi 5 (.idxA 2 1 (zt 1) (zk 1)),zi 6 (.load (zt 5)),zi 7 (.minmax true [zt 4,zt 6]),zi 8 (.bin .gtr (zt 7) (.const (.int .u8 2))),zi 2 (.mv (zt 8))]) .ret)
theorem ac45_ok (q:Q0):compF Try.prog Try.f45 (ac45 q)=some (ac45 q,[.tmp 2]):=by kernel_rfl
def ac46 (q:Q0):AC:=.seq (.rg [zi 2 (.mv (.const (.pointer none))),zi 3 (.mv (zk 0))]) (.seq (.seq (.rg [zi 6 (.mv (zt 0)),zi 7 (.call 56 [zt 6]),zi 4 (.mv (zt 7))]) (.seq (.rg [zi 8 (.mv (zt 4)),zi 9 (.bin .neq (zt 8) (zk 0))]) (.cond (zt 9) (.seq (.rg [zi 10 (.mv (zt 4)),zi 2 (.mv (.const (.pointer none))),zi 3 (.mv (zt 10))]) .ret) .skip))) (.seq (.rg [zi 11 (.bsliceM 97 0 6 [zv 0,zv 0,zv 0,zv 0,.p (.v (.int .u8 0)),zv 0] []),zi 12 (.box 100 (zt 11)),zi 13 (.build (List.replicate 258 (zv 0) ++ [.p (.v (.pointer none))]) [(258,1,zt 12)]),zi 14 (.box 103 (zt 13)),zi 5 (.mv (zt 14))]) (.seq (.rg [zi 15 (.mv (zt 5)),zi 16 (.nilck (zt 15)),zi 17 (.fieldA 0 (zt 16)),zi 18 (.sliceA 256 1 (zt 17)),zi 19 (.mv (zt 0)),zi 20 (.copy 1 (zt 18) (zt 19))]) (.seq (.rg [zi 21 (.mv (zt 5)),zi 2 (.mv (zt 21)),zi 3 (.mv (zk 0))]) .ret))))
theorem ac46_ok (q:Q0):compF Try.prog Try.f46 (ac46 q)=some (ac46 q,[.tmp 2,.tmp 3]):=by kernel_rfl
def ac47 (q:Q0):AC:=.dr [(false,[(0,0),(1,0),(2,0),(3,0),(4,0),(5,0),(6,0),(7,0),(8,0),(9,0),(10,0),(11,0),(12,0),(13,0),(14,0),(15,1)],[zi 3 (.mv (zt 0)),zi 4 (.mv (zt 0)),zi 5 (.nilck (zt 4)),zi 6 (.fieldA 0 (zt 5)),zi 7 (.loadA 6 (zt 6)),zi 8 (.mv (zt 0)),zi 9 (.nilck (zt 8)),zi 10 (.fieldA 9 (zt 9)),zi 11 (.load (zt 10)),zi 12 (.call 11 [zt 7,zt 11]),zi 2 (.mv (zt 12)),zi 13 (.extract (zt 2) 0),zi 14 (.extract (zt 2) 1),zi 15 (.nilck (zt 3)),zi 16 (.fieldA 0 (zt 15)),ze (.store 6 (zt 16) (zt 13))])]
theorem ac47_ok (q:Q0):compF Try.prog Try.f47 (ac47 q)=some (ac47 q,[]):=by kernel_rfl
def ac48 (q:Q0):AC:=.seq (.rg [zi 5 (.mv (zt 0)),zi 6 (.nilck (zt 5)),zi 7 (.fieldA 0 (zt 6)),zi 8 (.loadA 6 (zt 7)),zi 9 (.call 15 [zt 8]),zi 4 (.mv (zt 9)),zi 10 (.extract (zt 4) 0),zi 11 (.extract (zt 4) 1),zi 2 (.alloc 25 [zv 0,zv 0,.p (.v (.int .u8 0)),zv 0]),ze (.store 4 (zt 2) (zt 10)),zi 3 (.mv (zt 11))]) (.seq (.rg [zi 12 (.mv (zt 3)),zi 13 (.bin .eql (zt 12) (zk 0))]) (.cond (zt 13) (.dr [(false,[(0,0),(1,0),(2,0),(3,0),(4,0),(5,0),(6,0),(7,0),(8,0)],[zi 14 (.mv (zt 0)),zi 15 (.nilck (zt 14)),zi 16 (.fieldA 6 (zt 15)),zi 17 (.load (zt 16)),zi 18 (.mv (zt 0)),zi 19 (.nilck (zt 18)),zi 20 (.fieldA 8 (zt 19)),zi 21 (.load (zt 20)),zi 22 (.loadA 4 (zt 2))]),(true,[(9,0)],[zi 23 (.call 57 [zt 17,zt 21,zt 22])])]) .skip))
theorem ac48_ok (q:Q0):compF Try.prog Try.f48 (ac48 q)=some (ac48 q,[]):=by kernel_rfl
def ac49_L0 (q:Q0):AC:=.seq (.rg [zi 21 (.bin .lss (zt 20) (zt 19))]) (.seq (.cond (zt 21) .skip (.exit 0)) (.seq (.blk 1 (.seq (.rg [zi 22 (.idx 4 (zt 18) (zt 20)),zi 23 (.loadA 4 (zt 22)),zi 5 (.alloc 25 [zv 0,zv 0,.p (.v (.int .u8 0)),zv 0]),ze (.store 4 (zt 5) (zt 23))]) (.dr [(false,[(0,0),(1,0),(2,0),(3,0),(4,0),(5,0),(6,0),(7,0),(8,0),(9,0),(10,0),(11,0),(12,1)],[zi 25 (.mv (zt 0)),zi 26 (.mv (zt 0)),zi 27 (.nilck (zt 26)),zi 28 (.fieldA 0 (zt 27)),zi 29 (.loadA 6 (zt 28)),zi 30 (.loadA 4 (zt 5)),zi 31 (.call 13 [zt 29,zt 30]),zi 24 (.mv (zt 31)),zi 32 (.extract (zt 24) 0),zi 33 (.extract (zt 24) 1),zi 34 (.nilck (zt 25)),zi 35 (.fieldA 0 (zt 34)),ze (.store 6 (zt 35) (zt 32))])]))) (.rg [zi 36 (.bin .add (zt 20) (zk 1)),zi 20 (.mv (zt 36))])))
def ac49 (q:Q0):AC:=.seq (.dr [(false,[(0,0),(1,0),(2,0),(3,0),(4,0),(5,0),(6,0),(7,0)],[zi 7 (.mv (zt 0)),zi 8 (.nilck (zt 7)),zi 9 (.fieldA 7 (zt 8)),zi 10 (.load (zt 9)),zi 11 (.mv (zt 0)),zi 12 (.nilck (zt 11)),zi 13 (.fieldA 8 (zt 12)),zi 14 (.load (zt 13))]),(true,[(8,0),(9,0)],[zi 15 (.call 58 [zt 10,zt 14]),zi 6 (.mv (zt 15))]),(false,[(10,0),(11,0),(12,0)],[zi 16 (.extract (zt 6) 0),zi 17 (.extract (zt 6) 1),zi 2 (.mv (zt 16))]),(true,[(13,0)],[zi 3 (.mv (zt 17))])]) (.seq (.rg [zi 18 (.mv (zt 2)),zi 19 (.len (zt 18)),zi 20 (.mv (zk 0))]) (.blk 0 (.loop q [0,18,19,20] (ac49_L0 q))))
theorem ac49_ok (q:Q0):compF Try.prog Try.f49 (ac49 q)=some (ac49 q,[]):=by kernel_rfl
def ac50 (q:Q0):AC:=.seq (.rg [zi 4 (.mv (.const (.bool false)))]) (.seq (.rg [zi 5 (.mv (zt 0)),zi 6 (.bin .neq (zt 5) (.const (.int .u8 0))),zi 7 (.mv (zt 6)),zj 7 true 8 (.mv (zt 0)),zj 7 true 9 (.mv (zt 1)),zj 7 true 10 (.bin .eql (zt 8) (zt 9)),zi 11 (.pick (zt 7) (zt 10) (.const (.bool false))),zi 4 (.mv (zt 11))]) .ret)
theorem ac50_ok (q:Q0):compF Try.prog Try.f50 (ac50 q)=some (ac50 q,[.tmp 4]):=by kernel_rfl
def ac51 (q:Q0):AC:=.seq (.rg [zi 2 (.mv (.const (.bool false)))]) (.seq (.rg [zi 3 (.mv (zt 0)),zi 4 (.bin .lss (zt 3) (zk 0)),zi 5 (.mv (zt 4)),zj 5 false 6 (.mv (zt 0)),zj 5 false 7 (.bin .gtr (zt 6) (zk 16777215)),zi 8 (.pick (zt 5) (.const (.bool true)) (zt 7)),zi 2 (.mv (zt 8))]) .ret)
theorem ac51_ok (q:Q0):compF Try.prog Try.f51 (ac51 q)=some (ac51 q,[.tmp 2]):=by kernel_rfl
def ac52_L0 (q:Q0):AC:=.seq (.seq (.rg [zi 7 (.mv (zt 3)),zi 8 (.mv (zt 0)),zi 9 (.len (zt 8)),zi 10 (.bin .lss (zt 7) (zt 9))]) (.cond (zt 10) .skip (.exit 0))) (.seq (.blk 1 (.seq (.rg [zi 13 (.mv (zt 0)),zi 14 (.mv (zt 3)),zi 15 (.idx 1 (zt 13) (zt 14)),zi 16 (.load (zt 15)),zi 17 (.bin .lss (zt 16) (.const (.int .i64 (-1)))),zi 18 (.mv (zt 17)),zj 18 false 19 (.mv (zt 0)),zj 18 false 20 (.mv (zt 3)),zj 18 false 21 (.idx 1 (zt 19) (zt 20)),zj 18 false 22 (.load (zt 21)),zj 18 false 23 (.bin .gtr (zt 22) (zk 8)),zi 24 (.pick (zt 18) (.const (.bool true)) (zt 23))]) (.cond (zt 24) (.seq (.rg [zi 2 (.mv (zk 1))]) .ret) .skip))) (.rg [zi 11 (.mv (zt 3)),zi 12 (.bin .add (zt 11) (zk 1)),zi 3 (.mv (zt 12))]))
def ac52 (q:Q0):AC:=.seq (.rg [zi 2 (.mv (zk 0))]) (.seq (.seq (.rg [zi 4 (.mv (zt 0)),zi 5 (.len (zt 4)),zi 6 (.bin .gtr (zt 5) (zk 256))]) (.cond (zt 6) (.seq (.rg [zi 2 (.mv (zk 4))]) .ret) .skip)) (.seq (.seq (.rg [zi 3 (.mv (zk 0))]) (.blk 0 (.loop q [0,3] (ac52_L0 q)))) (.seq (.rg [zi 2 (.mv (zk 0))]) .ret)))
theorem ac52_ok (q:Q0):compF Try.prog Try.f52 (ac52 q)=some (ac52 q,[.tmp 2]):=by kernel_rfl
def ac53 (q:Q0):AC:=.seq (.rg [zi 4 (.mv (zk 0))]) (.seq (.seq (.rg [zi 5 (.mv (zt 1)),zi 6 (.bin .lss (zt 5) (zk 0)),zi 7 (.mv (zt 6)),zj 7 false 8 (.mv (zt 1)),zj 7 false 9 (.bin .gtr (zt 8) (zk 1099511627776)),zi 10 (.pick (zt 7) (.const (.bool true)) (zt 9))]) (.cond (zt 10) (.seq (.rg [zi 4 (.mv (zk 1))]) .ret) .skip)) (.seq (.seq (.rg [zi 11 (.mv (zt 1)),zi 12 (.mv (zt 0)),zi 13 (.nilck (zt 12)),zi 14 (.fieldA 1 (zt 13)),zi 15 (.load (zt 14)),zi 16 (.bin .lss (zt 11) (zt 15))]) (.cond (zt 16) (.seq (.rg [zi 4 (.mv (zk 12))]) .ret) .skip)) (.seq (.rg [zi 4 (.mv (zk 0))]) .ret)))
theorem ac53_ok (q:Q0):compF Try.prog Try.f53 (ac53 q)=some (ac53 q,[.tmp 4]):=by kernel_rfl
def ac54_L0 (q:Q0):AC:=.seq (.seq (.rg [zi 13 (.mv (zt 6)),zi 14 (.mv (zt 0)),zi 15 (.nilck (zt 14)),zi 16 (.fieldA 2 (zt 15)),zi 17 (.load (zt 16)),zi 18 (.len (zt 17)),zi 19 (.bin .lss (zt 13) (zt 18))]) (.cond (zt 19) .skip (.exit 2))) (.seq (.blk 3 (.seq (.dr [(false,[(0,0),(1,0),(2,0),(3,0),(4,0)],[zi 22 (.mv (zt 0)),zi 23 (.nilck (zt 22)),zi 24 (.fieldA 3 (zt 23)),zi 25 (.load (zt 24)),zi 26 (.mv (zt 6))]),(true,[(5,0),(6,0),(7,0)],[zi 27 (.idx 1 (zt 25) (zt 26)),zi 28 (.load (zt 27)),zi 29 (.mv (zt 28))]),(false,[(8,0),(9,0)],[zj 29 true 30 (.mv (zt 4)),zj 29 true 31 (.mv (zt 6))]),(true,[(10,0),(11,0),(12,0),(13,0),(14,0),(15,0),(16,0),(17,0)],[zj 29 true 32 (.idx 1 (zt 30) (zt 31)),zj 29 true 33 (.load (zt 32)),zj 29 true 34 (.un .not (zt 33)),zi 35 (.pick (zt 29) (zt 34) (.const (.bool false))),zi 36 (.mv (zt 35)),zj 36 true 37 (.mv (zt 5)),zj 36 true 38 (.bin .lss (zt 37) (zk 0)),zj 36 true 39 (.mv (zt 38))]),(false,[(18,0),(19,0),(20,0),(21,0),(22,0),(23,0),(24,0),(25,0),(26,0),(27,0),(28,0),(29,0),(30,0),(31,0),(32,0),(33,0)],[zj 39 false 40 (.mv (zt 0)),zj 39 false 41 (.nilck (zt 40)),zj 39 false 42 (.fieldA 2 (zt 41)),zj 39 false 43 (.load (zt 42)),zj 39 false 44 (.mv (zt 6)),zj 39 false 45 (.idx 6 (zt 43) (zt 44)),zj 39 false 46 (.fieldA 0 (zt 45)),zj 39 false 47 (.load (zt 46)),zj 39 false 48 (.mv (zt 0)),zj 39 false 49 (.nilck (zt 48)),zj 39 false 50 (.fieldA 2 (zt 49)),zj 39 false 51 (.load (zt 50)),zj 39 false 52 (.mv (zt 5)),zj 39 false 53 (.idx 6 (zt 51) (zt 52)),zj 39 false 54 (.fieldA 0 (zt 53)),zj 39 false 55 (.load (zt 54))]),(true,[(34,0),(35,0),(36,0)],[zj 39 false 56 (.bin .lss (zt 47) (zt 55)),zj 36 true 57 (.pick (zt 39) (.const (.bool true)) (zt 56)),zi 58 (.pick (zt 36) (zt 57) (.const (.bool false)))])]) (.cond (zt 58) (.rg [zi 59 (.mv (zt 6)),zi 5 (.mv (zt 59))]) .skip))) (.rg [zi 20 (.mv (zt 6)),zi 21 (.bin .add (zt 20) (zk 1)),zi 6 (.mv (zt 21))]))
def ac54_L1 (q:Q0):AC:=.blk 1 (.seq (.rg [zi 5 (.mv (.const (.int .i64 (-1))))]) (.seq (.seq (.rg [zi 6 (.mv (zk 0))]) (.blk 2 (.loop q [0,3,4,5,6] (ac54_L0 q)))) (.seq (.seq (.rg [zi 60 (.mv (zt 5)),zi 61 (.bin .lss (zt 60) (zk 0))]) (.cond (zt 61) (.seq (.rg [zi 62 (.mv (zt 3)),zi 2 (.mv (zt 62))]) .ret) .skip)) (.seq (.rg [zi 63 (.mv (zt 4)),zi 64 (.mv (zt 5)),zi 65 (.idx 1 (zt 63) (zt 64)),ze (.store 1 (zt 65) (.const (.bool true)))]) (.rg [zi 66 (.mv (zt 3)),zi 67 (.mv (zt 0)),zi 68 (.nilck (zt 67)),zi 69 (.fieldA 2 (zt 68)),zi 70 (.load (zt 69)),zi 71 (.mv (zt 5)),zi 72 (.idx 6 (zt 70) (zt 71)),zi 73 (.loadA 6 (zt 72)),zi 74 (.bslice false 97 1 6 [zv 0,zv 0,zv 0,zv 0,.p (.v (.int .u8 0)),zv 0] [(0,6,zt 73)]),zi 75 (.append 97 6 48 (zt 66) (zt 74)),zi 3 (.mv (zt 75))])))))
def ac54 (q:Q0):AC:=.seq (.rg [zi 2 (.mv (.const (.slice none 0 0)))]) (.seq (.rg [zi 3 (.mv (.const (.slice none 0 0)))]) (.seq (.rg [zi 7 (.mv (zt 0)),zi 8 (.nilck (zt 7)),zi 9 (.fieldA 2 (zt 8)),zi 10 (.load (zt 9)),zi 11 (.len (zt 10)),zi 12 (.mslice 4 1 1 [.p (.v (.bool false))] (zt 11) (zt 11)),zi 4 (.mv (zt 12))]) (.blk 0 (.loop q [0,3,4] (ac54_L1 q)))))
theorem ac54_ok (q:Q0):compF Try.prog Try.f54 (ac54 q)=some (ac54 q,[.tmp 2]):=by kernel_rfl
def ac55_L0 (q:Q0):AC:=.seq (.rg [zi 9 (.bin .lss (zt 8) (zt 7))]) (.seq (.cond (zt 9) .skip (.exit 0)) (.seq (.blk 1 (.seq (.rg [zi 10 (.mv (zt 8)),zi 5 (.mv (zt 10))]) (.seq (.rg [zi 11 (.mv (zt 1)),zi 12 (.mv (zt 0)),zi 13 (.mv (zt 5)),zi 14 (.idx 2 (zt 12) (zt 13)),zi 15 (.loadA 2 (zt 14)),zi 16 (.callv (zt 11) [zt 15])]) (.cond (zt 16) (.seq (.rg [zi 17 (.mv (zt 5)),zi 4 (.mv (zt 17))]) .ret) .skip)))) (.rg [zi 18 (.bin .add (zt 8) (zk 1)),zi 8 (.mv (zt 18))])))
def ac55 (q:Q0):AC:=.seq (.rg [zi 4 (.mv (zk 0))]) (.seq (.seq (.rg [zi 6 (.mv (zt 0)),zi 7 (.len (zt 6)),zi 8 (.mv (zk 0))]) (.blk 0 (.loop q [0,1,7,8] (ac55_L0 q)))) (.seq (.rg [zi 4 (.mv (.const (.int .i64 (-1))))]) .ret))
theorem ac55_ok (q:Q0):compF Try.prog Try.f55 (ac55 q)=some (ac55 q,[.tmp 4]):=by kernel_rfl
def ac56 (q:Q0):AC:=.seq (.rg [zi 2 (.mv (zk 0))]) (.seq (.blk 0 (.seq (.rg [zi 4 (.mv (zt 0)),zi 5 (.len (zt 4)),zi 6 (.bin .gtr (zt 5) (zk 256)),zi 3 (.mv (zt 6))]) (.cond (zt 3) (.seq (.rg [zi 2 (.mv (zk 4))]) .ret) (.seq (.rg [zi 8 (.mv (zt 0)),zi 9 (.call 59 [zt 8,.func 60]),zi 7 (.mv (zt 9))]) (.cond (zt 7) (.seq (.rg [zi 2 (.mv (zk 1))]) .ret) .skip))))) (.seq (.rg [zi 2 (.mv (zk 0))]) .ret))
theorem ac56_ok (q:Q0):compF Try.prog Try.f56 (ac56 q)=some (ac56 q,[.tmp 2]):=by kernel_rfl
def ac57 (q:Q0):AC:=.seq (.rg [zi 5 (.box 25 (zt 2)),zi 6 (.mv (zk 0))]) (.seq (.seq (.rg [zi 10 (.mv (zt 0)),zi 11 (.mv (zt 1)),zi 12 (.call 61 [zt 10,zt 11]),zi 7 (.mv (zt 12))]) (.seq (.rg [zi 13 (.mv (zt 7)),zi 14 (.bin .neq (zt 13) (zk 0))]) (.cond (zt 14) (.seq (.rg [zi 15 (.mv (zt 7)),zi 6 (.mv (zt 15))]) .ret) .skip))) (.seq (.seq (.rg [zi 16 (.loadA 4 (zt 5)),zi 17 (.call 36 [zt 16]),zi 8 (.mv (zt 17))]) (.seq (.rg [zi 18 (.mv (zt 8)),zi 19 (.bin .neq (zt 18) (zk 0))]) (.cond (zt 19) (.seq (.rg [zi 20 (.mv (zt 8)),zi 6 (.mv (zt 20))]) .ret) .skip))) (.seq (.rg [zi 9 (.mv (zk 0))]) (.seq (.seq (.rg [zi 21 (.mv (zt 0)),zi 22 (.nilck (zt 21)),zi 23 (.fieldA 257 (zt 22)),zi 24 (.load (zt 23)),zi 25 (.bin .lss (zt 24) (zk 256))]) (.cond (zt 25) (.dr [(false,[(0,0),(1,0),(2,0),(3,0),(4,0),(5,0),(6,0)],[zi 26 (.mv (zt 0)),zi 27 (.mv (zt 0)),zi 28 (.nilck (zt 27)),zi 29 (.fieldA 257 (zt 28)),zi 30 (.load (zt 29)),zi 31 (.nilck (zt 26)),zi 32 (.fieldA 0 (zt 31))]),(true,[(7,0),(8,0),(9,0)],[zi 33 (.idxA 256 1 (zt 32) (zt 30)),zi 34 (.load (zt 33)),zi 9 (.mv (zt 34))])]) .skip)) (.seq (.seq (.rg [zi 35 (.mv (zt 9)),zi 36 (.bin .neq (zt 35) (.const (.int .i64 (-1))))]) (.cond (zt 36) (.seq (.seq (.rg [zi 37 (.mv (zt 0)),zi 38 (.nilck (zt 37)),zi 39 (.fieldA 258 (zt 38)),zi 40 (.load (zt 39)),zi 41 (.nilck (zt 40)),zi 42 (.load (zt 41)),zi 43 (.call 62 [zt 42]),zi 44 (.bin .eql (zt 43) (zk 64))]) (.cond (zt 44) (.seq (.rg [zi 6 (.mv (zk 17))]) .ret) .skip)) (.dr [(false,[(0,0),(1,0),(2,0),(3,0),(4,0),(5,0),(6,0),(7,0),(8,0),(9,0),(10,0),(11,0),(12,0),(13,0),(14,0)],[zi 45 (.mv (zt 0)),zi 46 (.nilck (zt 45)),zi 47 (.fieldA 258 (zt 46)),zi 48 (.load (zt 47)),zi 49 (.mkifc 99 (zt 48)),zi 50 (.mv (zt 1)),zi 51 (.mv (zt 9)),zi 52 (.bin .add (zt 50) (zt 51)),zi 53 (.mv (zt 0)),zi 54 (.nilck (zt 53)),zi 55 (.fieldA 257 (zt 54)),zi 56 (.load (zt 55)),zi 57 (.loadA 4 (zt 5)),zi 58 (.build [zv 0,zv 0,zv 0,zv 0,.p (.v (.int .u8 0)),zv 0] [(0,1,zt 52),(1,1,zt 56),(2,4,zt 57)]),zi 59 (.mkifc 97 (zt 58))]),(true,[(15,0)],[zi 60 (.call 63 [zt 49,zt 59])])])) .skip)) (.seq (.rg [zi 61 (.mv (zt 0)),zi 62 (.mv (zt 1)),zi 63 (.nilck (zt 61)),zi 64 (.fieldA 256 (zt 63)),ze (.store 1 (zt 64) (zt 62))]) (.seq (.rg [zi 65 (.mv (zt 0)),zi 66 (.nilck (zt 65)),zi 67 (.fieldA 257 (zt 66)),zi 68 (.load (zt 67)),zi 69 (.bin .add (zt 68) (zk 1)),zi 70 (.nilck (zt 65)),zi 71 (.fieldA 257 (zt 70)),ze (.store 1 (zt 71) (zt 69))]) (.seq (.rg [zi 6 (.mv (zk 0))]) .ret))))))))
theorem ac57_ok (q:Q0):compF Try.prog Try.f57 (ac57 q)=some (ac57 q,[.tmp 6]):=by kernel_rfl
def ac58_L0 (q:Q0):AC:=.seq (.seq (.rg [zi 19 (.mv (zt 0)),zi 20 (.nilck (zt 19)),zi 21 (.fieldA 258 (zt 20)),zi 22 (.load (zt 21)),zi 23 (.nilck (zt 22)),zi 24 (.load (zt 23)),zi 25 (.call 62 [zt 24]),zi 26 (.bin .gtr (zt 25) (zk 0)),zi 27 (.mv (zt 26)),zj 27 true 28 (.mv (zt 0)),zj 27 true 29 (.nilck (zt 28)),zj 27 true 30 (.fieldA 258 (zt 29)),zj 27 true 31 (.load (zt 30)),zj 27 true 32 (.nilck (zt 31)),zj 27 true 33 (.load (zt 32)),zj 27 true 34 (.idx 6 (zt 33) (zk 0)),zj 27 true 35 (.fieldA 0 (zt 34)),zj 27 true 36 (.load (zt 35)),zj 27 true 37 (.mv (zt 1)),zj 27 true 38 (.bin .leq (zt 36) (zt 37)),zi 39 (.pick (zt 27) (zt 38) (.const (.bool false)))]) (.cond (zt 39) .skip (.exit 0))) (.blk 1 (.seq (.rg [zi 41 (.mv (zt 0)),zi 42 (.nilck (zt 41)),zi 43 (.fieldA 258 (zt 42)),zi 44 (.load (zt 43)),zi 45 (.mkifc 99 (zt 44)),zi 46 (.call 64 [zt 45]),zi 47 (.tassert 97 true (zt 46)),zi 40 (.mv (zt 47)),zi 48 (.extract (zt 40) 0),zi 49 (.extract (zt 40) 1),zi 7 (.alloc 97 [zv 0,zv 0,zv 0,zv 0,.p (.v (.int .u8 0)),zv 0]),ze (.store 6 (zt 7) (zt 48)),zi 8 (.mv (zt 49))]) (.seq (.rg [zi 50 (.mv (zt 8))]) (.cond (zt 50) (.rg [zi 51 (.mv (zt 4)),zi 52 (.fieldA 2 (zt 7)),zi 53 (.loadA 4 (zt 52)),zi 54 (.bslice false 25 1 4 [zv 0,zv 0,.p (.v (.int .u8 0)),zv 0] [(0,4,zt 53)]),zi 55 (.append 25 4 32 (zt 51) (zt 54)),zi 4 (.mv (zt 55))]) .skip))))
def ac58 (q:Q0):AC:=.seq (.rg [zi 4 (.mv (.const (.slice none 0 0))),zi 5 (.mv (zk 0))]) (.seq (.seq (.rg [zi 9 (.mv (zt 0)),zi 10 (.mv (zt 1)),zi 11 (.call 61 [zt 9,zt 10]),zi 6 (.mv (zt 11))]) (.seq (.rg [zi 12 (.mv (zt 6)),zi 13 (.bin .neq (zt 12) (zk 0))]) (.cond (zt 13) (.seq (.rg [zi 14 (.mv (zt 6)),zi 4 (.mv (.const (.slice none 0 0))),zi 5 (.mv (zt 14))]) .ret) .skip))) (.seq (.rg [zi 15 (.mv (zt 0)),zi 16 (.mv (zt 1)),zi 17 (.nilck (zt 15)),zi 18 (.fieldA 256 (zt 17)),ze (.store 1 (zt 18) (zt 16))]) (.seq (.blk 0 (.loop q [0,1,4] (ac58_L0 q))) (.seq (.rg [zi 56 (.mv (zt 4)),zi 4 (.mv (zt 56)),zi 5 (.mv (zk 0))]) .ret))))
theorem ac58_ok (q:Q0):compF Try.prog Try.f58 (ac58 q)=some (ac58 q,[.tmp 4,.tmp 5]):=by kernel_rfl
def ac59 (q:Q0):AC:=.seq (.rg [zi 4 (.mv (.const (.bool false)))]) (.seq (.rg [zi 5 (.mv (zt 0)),zi 6 (.mv (zt 1)),zi 7 (.call 65 [zt 5,zt 6]),zi 8 (.bin .geq (zt 7) (zk 0)),zi 4 (.mv (zt 8))]) .ret)
theorem ac59_ok (q:Q0):compF Try.prog Try.f59 (ac59 q)=some (ac59 q,[.tmp 4]):=by kernel_rfl
def ac60 (q:Q0):AC:=.seq (.rg [zi 2 (.mv (.const (.bool false)))]) (.seq (.rg [zi 3 (.mv (zt 0)),zi 4 (.bin .lss (zt 3) (.const (.int .i64 (-1)))),zi 5 (.mv (zt 4)),zj 5 false 6 (.mv (zt 0)),zj 5 false 7 (.bin .gtr (zt 6) (zk 8)),zi 8 (.pick (zt 5) (.const (.bool true)) (zt 7)),zi 2 (.mv (zt 8))]) .ret)
theorem ac60_ok (q:Q0):compF Try.prog Try.f60 (ac60 q)=some (ac60 q,[.tmp 2]):=by kernel_rfl
def ac61 (q:Q0):AC:=.seq (.rg [zi 4 (.mv (zk 0))]) (.seq (.blk 0 (.seq (.rg [zi 6 (.mv (zt 0)),zi 7 (.eqP false (zt 6) (.const (.pointer none))),zi 8 (.mv (zt 7)),zj 8 false 9 (.mv (zt 0)),zj 8 false 10 (.nilck (zt 9)),zj 8 false 11 (.fieldA 258 (zt 10)),zj 8 false 12 (.load (zt 11)),zj 8 false 13 (.eqP false (zt 12) (.const (.pointer none))),zi 14 (.pick (zt 8) (.const (.bool true)) (zt 13)),zi 5 (.mv (zt 14))]) (.cond (zt 5) (.seq (.rg [zi 4 (.mv (zk 11))]) .ret) (.seq (.rg [zi 16 (.mv (zt 1)),zi 17 (.bin .lss (zt 16) (zk 0)),zi 18 (.mv (zt 17)),zj 18 false 19 (.mv (zt 1)),zj 18 false 20 (.bin .gtr (zt 19) (zk 1099511627776)),zi 21 (.pick (zt 18) (.const (.bool true)) (zt 20)),zi 15 (.mv (zt 21))]) (.cond (zt 15) (.seq (.rg [zi 4 (.mv (zk 1))]) .ret) (.seq (.rg [zi 23 (.mv (zt 1)),zi 24 (.mv (zt 0)),zi 25 (.nilck (zt 24)),zi 26 (.fieldA 256 (zt 25)),zi 27 (.load (zt 26)),zi 28 (.bin .lss (zt 23) (zt 27)),zi 22 (.mv (zt 28))]) (.cond (zt 22) (.seq (.rg [zi 4 (.mv (zk 12))]) .ret) .skip))))))) (.seq (.rg [zi 4 (.mv (zk 0))]) .ret))
theorem ac61_ok (q:Q0):compF Try.prog Try.f61 (ac61 q)=some (ac61 q,[.tmp 4]):=by kernel_rfl
def ac62 (q:Q0):AC:=.seq (.rg [zi 2 (.mv (zk 0))]) (.seq (.rg [zi 3 (.mv (zt 0)),zi 4 (.len (zt 3)),zi 2 (.mv (zt 4))]) .ret)
theorem ac62_ok (q:Q0):compF Try.prog Try.f62 (ac62 q)=some (ac62 q,[.tmp 2]):=by kernel_rfl
def ac63 (q:Q0):AC:=.seq (.rg [zi 4 (.mv (zt 0)),zi 5 (.mv (zt 1)),zi 6 (.invk [(99,87,false)] (zt 4) [zt 5])]) (.rg [zi 7 (.mv (zt 0)),zi 8 (.mv (zt 0)),zi 9 (.invk [(99,62,true)] (zt 8) []),zi 10 (.bin .sub (zt 9) (zk 1)),zi 11 (.call 66 [zt 7,zt 10])])
theorem ac63_ok (q:Q0):compF Try.prog Try.f63 (ac63 q)=some (ac63 q,[]):=by kernel_rfl
def ac64 (q:Q0):AC:=.seq (.rg [zi 2 (.mv (.const .nilIface))]) (.seq (.rg [zi 4 (.mv (zt 0)),zi 5 (.invk [(99,62,true)] (zt 4) []),zi 6 (.bin .sub (zt 5) (zk 1)),zi 3 (.mv (zt 6))]) (.seq (.rg [zi 7 (.mv (zt 0)),zi 8 (.mv (zt 3)),zi 9 (.invk [(99,88,true)] (zt 7) [zk 0,zt 8])]) (.seq (.rg [zi 10 (.mv (zt 0)),zi 11 (.mv (zt 3)),zi 12 (.call 67 [zt 10,zk 0,zt 11])]) (.seq (.rg [zi 13 (.mv (zt 0)),zi 14 (.invk [(99,86,false)] (zt 13) []),zi 2 (.mv (zt 14))]) .ret))))
theorem ac64_ok (q:Q0):compF Try.prog Try.f64 (ac64 q)=some (ac64 q,[.tmp 2]):=by kernel_rfl
def ac65_L0 (q:Q0):AC:=.seq (.rg [zi 9 (.bin .lss (zt 8) (zt 7))]) (.seq (.cond (zt 9) .skip (.exit 0)) (.seq (.blk 1 (.seq (.rg [zi 10 (.mv (zt 8)),zi 5 (.mv (zt 10))]) (.seq (.rg [zi 11 (.mv (zt 1)),zi 12 (.mv (zt 0)),zi 13 (.mv (zt 5)),zi 14 (.idx 1 (zt 12) (zt 13)),zi 15 (.load (zt 14)),zi 16 (.callv (zt 11) [zt 15])]) (.cond (zt 16) (.seq (.rg [zi 17 (.mv (zt 5)),zi 4 (.mv (zt 17))]) .ret) .skip)))) (.rg [zi 18 (.bin .add (zt 8) (zk 1)),zi 8 (.mv (zt 18))])))
def ac65 (q:Q0):AC:=.seq (.rg [zi 4 (.mv (zk 0))]) (.seq (.seq (.rg [zi 6 (.mv (zt 0)),zi 7 (.len (zt 6)),zi 8 (.mv (zk 0))]) (.blk 0 (.loop q [0,1,7,8] (ac65_L0 q)))) (.seq (.rg [zi 4 (.mv (.const (.int .i64 (-1))))]) .ret))
theorem ac65_ok (q:Q0):compF Try.prog Try.f65 (ac65 q)=some (ac65 q,[.tmp 4]):=by kernel_rfl
def ac66_L0 (q:Q0):AC:=.blk 1 (.seq (.rg [zi 5 (.mv (zt 1)),zi 6 (.bin .sub (zt 5) (zk 1)),zi 7 (.bin .quo (zt 6) (zk 2)),zi 4 (.mv (zt 7))]) (.seq (.seq (.rg [zi 8 (.mv (zt 4)),zi 9 (.mv (zt 1)),zi 10 (.bin .eql (zt 8) (zt 9)),zi 11 (.mv (zt 10)),zj 11 false 12 (.mv (zt 0)),zj 11 false 13 (.mv (zt 1)),zj 11 false 14 (.mv (zt 4)),zj 11 false 15 (.invk [(99,85,true)] (zt 12) [zt 13,zt 14]),zj 11 false 16 (.un .not (zt 15)),zi 17 (.pick (zt 11) (.const (.bool true)) (zt 16))]) (.cond (zt 17) (.exit 0) .skip)) (.seq (.rg [zi 18 (.mv (zt 0)),zi 19 (.mv (zt 4)),zi 20 (.mv (zt 1)),zi 21 (.invk [(99,88,true)] (zt 18) [zt 19,zt 20])]) (.rg [zi 22 (.mv (zt 4)),zi 1 (.mv (zt 22))]))))
def ac66 (q:Q0):AC:=.blk 0 (.loop q [0,1] (ac66_L0 q))
theorem ac66_ok (q:Q0):compF Try.prog Try.f66 (ac66 q)=some (ac66 q,[]):=by kernel_rfl
def ac67_L0 (q:Q0):AC:=.blk 1 (.seq (.rg [zi 12 (.mv (zt 7)),zi 13 (.bin .mul (zk 2) (zt 12)),zi 14 (.bin .add (zt 13) (zk 1)),zi 8 (.mv (zt 14))]) (.seq (.seq (.rg [zi 15 (.mv (zt 8)),zi 16 (.mv (zt 2)),zi 17 (.bin .geq (zt 15) (zt 16)),zi 18 (.mv (zt 17)),zj 18 false 19 (.mv (zt 8)),zj 18 false 20 (.bin .lss (zt 19) (zk 0)),zi 21 (.pick (zt 18) (.const (.bool true)) (zt 20))]) (.cond (zt 21) (.exit 0) .skip)) (.seq (.rg [zi 22 (.mv (zt 8)),zi 9 (.mv (zt 22))]) (.seq (.seq (.rg [zi 23 (.mv (zt 8)),zi 24 (.bin .add (zt 23) (zk 1)),zi 10 (.mv (zt 24))]) (.seq (.rg [zi 25 (.mv (zt 10)),zi 26 (.mv (zt 2)),zi 27 (.bin .lss (zt 25) (zt 26)),zi 28 (.mv (zt 27)),zj 28 true 29 (.mv (zt 0)),zj 28 true 30 (.mv (zt 10)),zj 28 true 31 (.mv (zt 8)),zj 28 true 32 (.invk [(99,85,true)] (zt 29) [zt 30,zt 31]),zi 33 (.pick (zt 28) (zt 32) (.const (.bool false)))]) (.cond (zt 33) (.rg [zi 34 (.mv (zt 10)),zi 9 (.mv (zt 34))]) .skip))) (.seq (.seq (.rg [zi 35 (.mv (zt 0)),zi 36 (.mv (zt 9)),zi 37 (.mv (zt 7)),zi 38 (.invk [(99,85,true)] (zt 35) [zt 36,zt 37]),zi 39 (.un .not (zt 38))]) (.cond (zt 39) (.exit 0) .skip)) (.seq (.rg [zi 40 (.mv (zt 0)),zi 41 (.mv (zt 7)),zi 42 (.mv (zt 9)),zi 43 (.invk [(99,88,true)] (zt 40) [zt 41,zt 42])]) (.rg [zi 44 (.mv (zt 9)),zi 7 (.mv (zt 44))])))))))
def ac67 (q:Q0):AC:=.seq (.rg [zi 6 (.mv (.const (.bool false)))]) (.seq (.rg [zi 11 (.mv (zt 1)),zi 7 (.mv (zt 11))]) (.seq (.blk 0 (.loop q [0,1,2,7] (ac67_L0 q))) (.seq (.rg [zi 45 (.mv (zt 7)),zi 46 (.mv (zt 1)),zi 47 (.bin .gtr (zt 45) (zt 46)),zi 6 (.mv (zt 47))]) .ret)))
theorem ac67_ok (q:Q0):compF Try.prog Try.f67 (ac67 q)=some (ac67 q,[.tmp 6]):=by kernel_rfl
def ac85 (q:Q0):AC:=.seq (.rg [zi 6 (.mv (.const (.bool false)))]) (.seq (.dr [(false,[(0,0),(1,0),(2,0),(3,0),(4,0),(5,0),(6,0),(7,0)],[zi 7 (.mv (zt 0)),zi 8 (.mv (zt 1)),zi 9 (.idx 6 (zt 7) (zt 8)),zi 10 (.loadA 6 (zt 9)),zi 11 (.mv (zt 0)),zi 12 (.mv (zt 2)),zi 13 (.idx 6 (zt 11) (zt 12)),zi 14 (.loadA 6 (zt 13))]),(true,[(8,0),(9,0)],[zi 15 (.call 89 [zt 10,zt 14]),zi 6 (.mv (zt 15))])]) .ret)
theorem ac85_ok (q:Q0):compF Try.prog Try.f85 (ac85 q)=some (ac85 q,[.tmp 6]):=by kernel_rfl
def ac86 (q:Q0):AC:=.seq (.rg [zi 2 (.mv (.const .nilIface))]) (.seq (.rg [zi 5 (.mv (zt 0)),zi 6 (.nilck (zt 5)),zi 7 (.load (zt 6)),zi 8 (.len (zt 7)),zi 9 (.bin .sub (zt 8) (zk 1)),zi 3 (.mv (zt 9))]) (.seq (.rg [zi 10 (.mv (zt 0)),zi 11 (.nilck (zt 10)),zi 12 (.load (zt 11)),zi 13 (.mv (zt 3)),zi 14 (.idx 6 (zt 12) (zt 13)),zi 15 (.loadA 6 (zt 14)),zi 4 (.alloc 97 [zv 0,zv 0,zv 0,zv 0,.p (.v (.int .u8 0)),zv 0]),ze (.store 6 (zt 4) (zt 15))]) (.seq (.rg [zi 16 (.mv (zt 0)),zi 17 (.mv (zt 0)),zi 18 (.nilck (zt 17)),zi 19 (.load (zt 18)),zi 20 (.mv (zt 3)),zi 21 (.slice 6 (zt 19) none (some (zt 20))),zi 22 (.nilck (zt 16)),ze (.store 1 (zt 22) (zt 21))]) (.seq (.rg [zi 23 (.loadA 6 (zt 4)),zi 24 (.mkifc 97 (zt 23)),zi 2 (.mv (zt 24))]) .ret))))
theorem ac86_ok (q:Q0):compF Try.prog Try.f86 (ac86 q)=some (ac86 q,[.tmp 2]):=by kernel_rfl
def ac87 (q:Q0):AC:=.dr [(false,[(0,0),(1,0),(2,0),(3,0),(4,0),(5,0),(6,0),(7,1)],[zi 4 (.mv (zt 0)),zi 5 (.mv (zt 0)),zi 6 (.nilck (zt 5)),zi 7 (.load (zt 6)),zi 8 (.mv (zt 1)),zi 9 (.tassert 97 false (zt 8)),zi 10 (.bslice false 97 1 6 [zv 0,zv 0,zv 0,zv 0,.p (.v (.int .u8 0)),zv 0] [(0,6,zt 9)]),zi 11 (.append 97 6 48 (zt 7) (zt 10))]),(true,[(8,0),(9,0)],[zi 12 (.nilck (zt 4)),ze (.store 1 (zt 12) (zt 11))])]
theorem ac87_ok (q:Q0):compF Try.prog Try.f87 (ac87 q)=some (ac87 q,[]):=by kernel_rfl
def ac88 (q:Q0):AC:=.dr [(false,[(0,0),(1,0),(2,0),(3,0),(4,0),(5,0),(6,0),(7,0),(8,0),(9,0),(10,0),(11,0),(12,0),(13,1)],[zi 6 (.mv (zt 0)),zi 7 (.mv (zt 1)),zi 8 (.mv (zt 0)),zi 9 (.mv (zt 2)),zi 10 (.mv (zt 0)),zi 11 (.mv (zt 2)),zi 12 (.idx 6 (zt 10) (zt 11)),zi 13 (.loadA 6 (zt 12)),zi 14 (.mv (zt 0)),zi 15 (.mv (zt 1)),zi 16 (.idx 6 (zt 14) (zt 15)),zi 17 (.loadA 6 (zt 16)),zi 18 (.idx 6 (zt 6) (zt 7)),ze (.store 6 (zt 18) (zt 13))]),(true,[(14,0),(15,0)],[zi 19 (.idx 6 (zt 8) (zt 9)),ze (.store 6 (zt 19) (zt 17))])]
theorem ac88_ok (q:Q0):compF Try.prog Try.f88 (ac88 q)=some (ac88 q,[]):=by kernel_rfl
def ac89 (q:Q0):AC:=.seq (.rg [zi 2 (.box 97 (zt 0)),zi 3 (.box 97 (zt 1)),zi 4 (.mv (.const (.bool false)))]) (.seq (.rg [zi 5 (.fieldA 0 (zt 2)),zi 6 (.load (zt 5)),zi 7 (.fieldA 0 (zt 3)),zi 8 (.load (zt 7)),zi 9 (.bin .lss (zt 6) (zt 8)),zi 10 (.mv (zt 9)),zj 10 false 11 (.fieldA 0 (zt 2)),zj 10 false 12 (.load (zt 11)),zj 10 false 13 (.fieldA 0 (zt 3)),zj 10 false 14 (.load (zt 13)),zj 10 false 15 (.bin .eql (zt 12) (zt 14)),zj 10 false 16 (.mv (zt 15)),zj 16 true 17 (.fieldA 1 (zt 2)),zj 16 true 18 (.load (zt 17)),zj 16 true 19 (.fieldA 1 (zt 3)),zj 16 true 20 (.load (zt 19)),zj 16 true 21 (.bin .lss (zt 18) (zt 20)),zj 10 false 22 (.pick (zt 16) (zt 21) (.const (.bool false))),zi 23 (.pick (zt 10) (.const (.bool true)) (zt 22)),zi 4 (.mv (zt 23))]) .ret)
theorem ac89_ok (q:Q0):compF Try.prog Try.f89 (ac89 q)=some (ac89 q,[.tmp 4]):=by kernel_rfl
noncomputable def s34tbl:Tbl:=
  tcons 4 (ac4 none,[.tmp 6],107) <|
  tcons 11 (ac11 none,[.cell 4 (some 6),.tmp 5],23) <|
  tcons 12 (ac12 none,[.cell 4 (some 6),.tmp 5],38) <|
  tcons 13 (ac13 none,[.cell 4 (some 6),.tmp 5],55) <|
  tcons 14 (ac14 none,[.cell 4 (some 6),.tmp 5],65) <|
  tcons 15 (ac15 none,[.cell 2 (some 4),.tmp 3],24) <|
  tcons 16 (ac16 none,[.cell 2 (some 4),.tmp 3],24) <|
  tcons 17 (ac17 none,[.cell 4 (some 6),.tmp 5],18) <|
  tcons 18 (ac18 none,[.cell 4 (some 6),.tmp 5],14) <|
  tcons 19 (ac19 none,[.tmp 2],59) <|
  tcons 20 (ac20 none,[.tmp 2],53) <|
  tcons 21 (ac21 none,[.tmp 0],103) <|
  tcons 22 (ac22 none,[.tmp 10,.tmp 11],182) <|
  tcons 23 (ac23 none,[.tmp 10,.tmp 11],114) <|
  tcons 24 (ac24 none,[.tmp 4],26) <|
  tcons 25 (ac25 none,[.tmp 4],11) <|
  tcons 26 (ac26 none,[.tmp 4],17) <|
  tcons 31 (ac31 none,[.cell 4 (some 6),.tmp 5],24) <|
  tcons 32 (ac32 none,[.tmp 4],17) <|
  tcons 33 (ac33 none,[.tmp 4],12) <|
  tcons 34 (ac34 none,[.cell 4 (some 6),.tmp 5],22) <|
  tcons 35 (ac35 none,[.tmp 2],5) <|
  tcons 36 (ac36 none,[.tmp 2],35) <|
  tcons 37 (ac37 none,[.tmp 2],39) <|
  tcons 38 (ac38 none,[.tmp 4],24) <|
  tcons 39 (ac39 none,[.tmp 4],12) <|
  tcons 40 (ac40 none,[.tmp 2],8) <|
  tcons 41 (ac41 none,[.tmp 2,.tmp 3],15) <|
  tcons 42 (ac42 none,[.tmp 6],77) <|
  tcons 43 (ac43 none,[.tmp 4,.tmp 5],54) <|
  tcons 44 (ac44 none,[.tmp 4],9) <|
  tcons 45 (ac45 none,[.tmp 2],9) <|
  tcons 46 (ac46 none,[.tmp 2,.tmp 3],22) <|
  tcons 47 (ac47 none,[],17) <|
  tcons 48 (ac48 none,[],24) <|
  tcons 49 (ac49 none,[],37) <|
  tcons 50 (ac50 none,[.tmp 4],12) <|
  tcons 51 (ac51 none,[.tmp 2],9) <|
  tcons 52 (ac52 none,[.tmp 2],25) <|
  tcons 53 (ac53 none,[.tmp 4],17) <|
  tcons 54 (ac54 none,[.tmp 2],76) <|
  tcons 55 (ac55 none,[.tmp 4],19) <|
  tcons 56 (ac56 none,[.tmp 2],10) <|
  tcons 57 (ac57 none,[.tmp 6],72) <|
  tcons 58 (ac58 none,[.tmp 4,.tmp 5],57) <|
  tcons 59 (ac59 none,[.tmp 4],9) <|
  tcons 60 (ac60 none,[.tmp 2],9) <|
  tcons 61 (ac61 none,[.tmp 4],29) <|
  tcons 62 (ac62 none,[.tmp 2],5) <|
  tcons 63 (ac63 none,[],12) <|
  tcons 64 (ac64 none,[.tmp 2],15) <|
  tcons 65 (ac65 none,[.tmp 4],19) <|
  tcons 66 (ac66 none,[],23) <|
  tcons 67 (ac67 none,[.tmp 6],48) <|
  tcons 85 (ac85 none,[.tmp 6],16) <|
  tcons 86 (ac86 none,[.tmp 2],25) <|
  tcons 87 (ac87 none,[],13) <|
  tcons 88 (ac88 none,[],20) <|
  tcons 89 (ac89 none,[.tmp 4],24) <|
  fun _=>none
theorem s34tbl_ok:TblOK Go.Proofs.Try.prog s34tbl:=
  .cons Go.Proofs.Try.call4 Go.Proofs.Try.func4 (ac4_ok none) (by rw[Go.Proofs.Try.ntmps4];exact Nat.le_refl _) <|
  .cons Go.Proofs.Try.call11 Go.Proofs.Try.func11 (ac11_ok none) (by rw[Go.Proofs.Try.ntmps11];exact Nat.le_refl _) <|
  .cons Go.Proofs.Try.call12 Go.Proofs.Try.func12 (ac12_ok none) (by rw[Go.Proofs.Try.ntmps12];exact Nat.le_refl _) <|
  .cons Go.Proofs.Try.call13 Go.Proofs.Try.func13 (ac13_ok none) (by rw[Go.Proofs.Try.ntmps13];exact Nat.le_refl _) <|
  .cons Go.Proofs.Try.call14 Go.Proofs.Try.func14 (ac14_ok none) (by rw[Go.Proofs.Try.ntmps14];exact Nat.le_refl _) <|
  .cons Go.Proofs.Try.call15 Go.Proofs.Try.func15 (ac15_ok none) (by rw[Go.Proofs.Try.ntmps15];exact Nat.le_refl _) <|
  .cons Go.Proofs.Try.call16 Go.Proofs.Try.func16 (ac16_ok none) (by rw[Go.Proofs.Try.ntmps16];exact Nat.le_refl _) <|
  .cons Go.Proofs.Try.call17 Go.Proofs.Try.func17 (ac17_ok none) (by rw[Go.Proofs.Try.ntmps17];exact Nat.le_refl _) <|
  .cons Go.Proofs.Try.call18 Go.Proofs.Try.func18 (ac18_ok none) (by rw[Go.Proofs.Try.ntmps18];exact Nat.le_refl _) <|
  .cons Go.Proofs.Try.call19 Go.Proofs.Try.func19 (ac19_ok none) (by rw[Go.Proofs.Try.ntmps19];exact Nat.le_refl _) <|
  .cons Go.Proofs.Try.call20 Go.Proofs.Try.func20 (ac20_ok none) (by rw[Go.Proofs.Try.ntmps20];exact Nat.le_refl _) <|
  .cons Go.Proofs.Try.call21 Go.Proofs.Try.func21 (ac21_ok none) (by rw[Go.Proofs.Try.ntmps21];exact Nat.le_refl _) <|
  .cons Go.Proofs.Try.call22 Go.Proofs.Try.func22 (ac22_ok none) (by rw[Go.Proofs.Try.ntmps22];exact Nat.le_refl _) <|
  .cons Go.Proofs.Try.call23 Go.Proofs.Try.func23 (ac23_ok none) (by rw[Go.Proofs.Try.ntmps23];exact Nat.le_refl _) <|
  .cons Go.Proofs.Try.call24 Go.Proofs.Try.func24 (ac24_ok none) (by rw[Go.Proofs.Try.ntmps24];exact Nat.le_refl _) <|
  .cons Go.Proofs.Try.call25 Go.Proofs.Try.func25 (ac25_ok none) (by rw[Go.Proofs.Try.ntmps25];exact Nat.le_refl _) <|
  .cons Go.Proofs.Try.call26 Go.Proofs.Try.func26 (ac26_ok none) (by rw[Go.Proofs.Try.ntmps26];exact Nat.le_refl _) <|
  .cons Go.Proofs.Try.call31 Go.Proofs.Try.func31 (ac31_ok none) (by rw[Go.Proofs.Try.ntmps31];exact Nat.le_refl _) <|
  .cons Go.Proofs.Try.call32 Go.Proofs.Try.func32 (ac32_ok none) (by rw[Go.Proofs.Try.ntmps32];exact Nat.le_refl _) <|
  .cons Go.Proofs.Try.call33 Go.Proofs.Try.func33 (ac33_ok none) (by rw[Go.Proofs.Try.ntmps33];exact Nat.le_refl _) <|
  .cons Go.Proofs.Try.call34 Go.Proofs.Try.func34 (ac34_ok none) (by rw[Go.Proofs.Try.ntmps34];exact Nat.le_refl _) <|
  .cons Go.Proofs.Try.call35 Go.Proofs.Try.func35 (ac35_ok none) (by rw[Go.Proofs.Try.ntmps35];exact Nat.le_refl _) <|
  .cons Go.Proofs.Try.call36 Go.Proofs.Try.func36 (ac36_ok none) (by rw[Go.Proofs.Try.ntmps36];exact Nat.le_refl _) <|
  .cons Go.Proofs.Try.call37 Go.Proofs.Try.func37 (ac37_ok none) (by rw[Go.Proofs.Try.ntmps37];exact Nat.le_refl _) <|
  .cons Go.Proofs.Try.call38 Go.Proofs.Try.func38 (ac38_ok none) (by rw[Go.Proofs.Try.ntmps38];exact Nat.le_refl _) <|
  .cons Go.Proofs.Try.call39 Go.Proofs.Try.func39 (ac39_ok none) (by rw[Go.Proofs.Try.ntmps39];exact Nat.le_refl _) <|
  .cons Go.Proofs.Try.call40 Go.Proofs.Try.func40 (ac40_ok none) (by rw[Go.Proofs.Try.ntmps40];exact Nat.le_refl _) <|
  .cons Go.Proofs.Try.call41 Go.Proofs.Try.func41 (ac41_ok none) (by rw[Go.Proofs.Try.ntmps41];exact Nat.le_refl _) <|
  .cons Go.Proofs.Try.call42 Go.Proofs.Try.func42 (ac42_ok none) (by rw[Go.Proofs.Try.ntmps42];exact Nat.le_refl _) <|
  .cons Go.Proofs.Try.call43 Go.Proofs.Try.func43 (ac43_ok none) (by rw[Go.Proofs.Try.ntmps43];exact Nat.le_refl _) <|
  .cons Go.Proofs.Try.call44 Go.Proofs.Try.func44 (ac44_ok none) (by rw[Go.Proofs.Try.ntmps44];exact Nat.le_refl _) <|
  .cons Go.Proofs.Try.call45 Go.Proofs.Try.func45 (ac45_ok none) (by rw[Go.Proofs.Try.ntmps45];exact Nat.le_refl _) <|
  .cons Go.Proofs.Try.call46 Go.Proofs.Try.func46 (ac46_ok none) (by rw[Go.Proofs.Try.ntmps46];exact Nat.le_refl _) <|
  .cons Go.Proofs.Try.call47 Go.Proofs.Try.func47 (ac47_ok none) (by rw[Go.Proofs.Try.ntmps47];exact Nat.le_refl _) <|
  .cons Go.Proofs.Try.call48 Go.Proofs.Try.func48 (ac48_ok none) (by rw[Go.Proofs.Try.ntmps48];exact Nat.le_refl _) <|
  .cons Go.Proofs.Try.call49 Go.Proofs.Try.func49 (ac49_ok none) (by rw[Go.Proofs.Try.ntmps49];exact Nat.le_refl _) <|
  .cons Go.Proofs.Try.call50 Go.Proofs.Try.func50 (ac50_ok none) (by rw[Go.Proofs.Try.ntmps50];exact Nat.le_refl _) <|
  .cons Go.Proofs.Try.call51 Go.Proofs.Try.func51 (ac51_ok none) (by rw[Go.Proofs.Try.ntmps51];exact Nat.le_refl _) <|
  .cons Go.Proofs.Try.call52 Go.Proofs.Try.func52 (ac52_ok none) (by rw[Go.Proofs.Try.ntmps52];exact Nat.le_refl _) <|
  .cons Go.Proofs.Try.call53 Go.Proofs.Try.func53 (ac53_ok none) (by rw[Go.Proofs.Try.ntmps53];exact Nat.le_refl _) <|
  .cons Go.Proofs.Try.call54 Go.Proofs.Try.func54 (ac54_ok none) (by rw[Go.Proofs.Try.ntmps54];exact Nat.le_refl _) <|
  .cons Go.Proofs.Try.call55 Go.Proofs.Try.func55 (ac55_ok none) (by rw[Go.Proofs.Try.ntmps55];exact Nat.le_refl _) <|
  .cons Go.Proofs.Try.call56 Go.Proofs.Try.func56 (ac56_ok none) (by rw[Go.Proofs.Try.ntmps56];exact Nat.le_refl _) <|
  .cons Go.Proofs.Try.call57 Go.Proofs.Try.func57 (ac57_ok none) (by rw[Go.Proofs.Try.ntmps57];exact Nat.le_refl _) <|
  .cons Go.Proofs.Try.call58 Go.Proofs.Try.func58 (ac58_ok none) (by rw[Go.Proofs.Try.ntmps58];exact Nat.le_refl _) <|
  .cons Go.Proofs.Try.call59 Go.Proofs.Try.func59 (ac59_ok none) (by rw[Go.Proofs.Try.ntmps59];exact Nat.le_refl _) <|
  .cons Go.Proofs.Try.call60 Go.Proofs.Try.func60 (ac60_ok none) (by rw[Go.Proofs.Try.ntmps60];exact Nat.le_refl _) <|
  .cons Go.Proofs.Try.call61 Go.Proofs.Try.func61 (ac61_ok none) (by rw[Go.Proofs.Try.ntmps61];exact Nat.le_refl _) <|
  .cons Go.Proofs.Try.call62 Go.Proofs.Try.func62 (ac62_ok none) (by rw[Go.Proofs.Try.ntmps62];exact Nat.le_refl _) <|
  .cons Go.Proofs.Try.call63 Go.Proofs.Try.func63 (ac63_ok none) (by rw[Go.Proofs.Try.ntmps63];exact Nat.le_refl _) <|
  .cons Go.Proofs.Try.call64 Go.Proofs.Try.func64 (ac64_ok none) (by rw[Go.Proofs.Try.ntmps64];exact Nat.le_refl _) <|
  .cons Go.Proofs.Try.call65 Go.Proofs.Try.func65 (ac65_ok none) (by rw[Go.Proofs.Try.ntmps65];exact Nat.le_refl _) <|
  .cons Go.Proofs.Try.call66 Go.Proofs.Try.func66 (ac66_ok none) (by rw[Go.Proofs.Try.ntmps66];exact Nat.le_refl _) <|
  .cons Go.Proofs.Try.call67 Go.Proofs.Try.func67 (ac67_ok none) (by rw[Go.Proofs.Try.ntmps67];exact Nat.le_refl _) <|
  .cons Go.Proofs.Try.call85 Go.Proofs.Try.func85 (ac85_ok none) (by rw[Go.Proofs.Try.ntmps85];exact Nat.le_refl _) <|
  .cons Go.Proofs.Try.call86 Go.Proofs.Try.func86 (ac86_ok none) (by rw[Go.Proofs.Try.ntmps86];exact Nat.le_refl _) <|
  .cons Go.Proofs.Try.call87 Go.Proofs.Try.func87 (ac87_ok none) (by rw[Go.Proofs.Try.ntmps87];exact Nat.le_refl _) <|
  .cons Go.Proofs.Try.call88 Go.Proofs.Try.func88 (ac88_ok none) (by rw[Go.Proofs.Try.ntmps88];exact Nat.le_refl _) <|
  .cons Go.Proofs.Try.call89 Go.Proofs.Try.func89 (ac89_ok none) (by rw[Go.Proofs.Try.ntmps89];exact Nat.le_refl _) <|
  .nil
def cfg:Cfg:=⟨[(3,(.int .i64)),(4,.bool),(25,(.pair (.int .i64) (.pair (.int .i64) (.pair (.int .u8) (.int .i64))))),(45,(.pair (.pair (.int .i64) (.pair (.int .i64) (.pair (.int .u8) (.pair (.int .i64) (.pair (.int .u8) (.int .i64)))))) (.pair (.int .i64) (.pair (.int .i64) (.pair (.int .u8) (.pair (.int .i64) (.pair (.int .u8) (.int .i64)))))))),(46,(.pair (.int .u8) (.int .u8))),(97,(.pair (.int .i64) (.pair (.int .i64) (.pair (.int .i64) (.pair (.int .i64) (.pair (.int .u8) (.int .i64)))))))],[(85,[.c (.v (.int .i64 0)),.c (.v (.int .i64 0)),.c (.v (.int .u8 0)),.c (.v (.int .i64 0)),.c (.v (.int .u8 0)),.c (.v (.int .i64 0)),.c (.v (.pointer none)),.c (.v (.pointer none)),.c (.v (.int .i64 0)),.c (.v (.int .u8 0)),.c (.v (.int .i64 0)),.c (.v (.int .i64 0)),.c (.v (.int .u8 0)),.c (.v (.int .i64 0)),.c (.v (.int .u8 0)),.c (.v (.int .i64 0)),.c (.v (.pointer none)),.c (.v (.pointer none)),.c (.v (.int .i64 0)),.c (.v (.int .u8 0))]),(103,[.a 256 (.int .i64),.c (.v (.int .i64 0)),.c (.v (.int .i64 0)),.c (.v (.pointer none))])],[]⟩
end Go.Ab
