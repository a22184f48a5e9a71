/- A law's proof, a part: what the code answers. -/
import Derived.Test.YtjnbggianlgjiaaDoorVmZu
import Derived.Test.YtjnbggianlgjiaaDoorVmC
import Derived.Test.YtjnbggianlgjiaaDoorVmZx
import Derived.Test.YtjnbggianlgjiaaDoorVmZy
import Derived.Test.YtjnbggianlgjiaaDoorProg
namespace Go.Proofs.YtjnbggianlgjiaaDoorOH
open Go Go.Proofs.YtjnbggianlgjiaaDoorVM
def G0 : List (Nat × TypeId × T) := [(0, 102, .node (wordsL.map T.str))]
def e0 : Entry := sortedE 57 69 59 9 3 37
def e1 : Entry := sortedE 57 76 66 9 37 37
def e2 : Entry := cloneE 42 37 9
def e3 : Entry := nameE 34 9 4
def e4 : Entry := cloneE 70 34 99
def e5 : Entry := cloneE 71 97 101
def e6 : Entry := { fid := 4, ins := ⟨[(0, .v 22), (1, .v 32)], []⟩, outs := ⟨[(0, .v 4)], []⟩, cuts := [([false, true, false, true, true, true, true], ⟨⟨[(0, .v 22), (1, .v 32), (5, .o 0), (6, .v 25), (7, .o 1), (8, .v 3)], [.row 41, .row 41]⟩, [(2, ⟨[(0, .v 22), (5, .v 22), (6, .v 25), (7, .v 22)], []⟩)]⟩)] }
def e7 : Entry := { fid := 5, ins := ⟨[(0, .v 22)], []⟩, outs := ⟨[(0, .v 4)], []⟩, cuts := [([false, true, false, true, true], ⟨⟨[(0, .v 22), (3, .o 0), (4, .v 3)], [.row 39]⟩, [(2, ⟨[(3, .o 0)], [.row 39]⟩)]⟩)], lit := true }
def e8 : Entry := { fid := 33, ins := ⟨[(0, .v 36)], []⟩, outs := ⟨[(0, .v 4)], []⟩, cuts := [], lit := true }
def e9 : Entry := { fid := 49, ins := ⟨[(0, .v 36)], []⟩, outs := ⟨[(0, .v 4)], []⟩, cuts := [], lit := true }
def e10 : Entry := { fid := 65, ins := ⟨[(0, .v 36), (1, .v 3), (2, .v 3)], []⟩, outs := ⟨[(0, .v 3)], []⟩, cuts := [([false, true, false, true, true], ⟨⟨[(1, .v 3), (2, .v 3), (3, .p 0 36), (7, .v 3)], [.var 36 (.v 36) false]⟩, [(2, ⟨[(2, .v 3)], []⟩), (1, ⟨[(6, .v 3)], []⟩)]⟩), ([false, true, true, true, true, false, false, true, false, false, true, false, true, true], ⟨⟨[(1, .v 3), (2, .v 3), (3, .p 0 36), (7, .v 3), (8, .p 1 99), (9, .v 3)], [.var 36 (.v 36) false, .var 99 (.v 99) false]⟩, [(4, ⟨[(1, .v 3), (2, .v 3), (3, .p 0 36), (7, .v 3)], [.var 36 (.v 36) false]⟩), (1, ⟨[(6, .v 3)], []⟩)]⟩)], lit := true }
def e11 : Entry := { fid := 50, ins := ⟨[(0, .v 36)], []⟩, outs := ⟨[(0, .v 3)], []⟩, cuts := [([false, true, false, true, true], ⟨⟨[(1, .p 0 36), (3, .v 3), (4, .v 3)], [.var 36 (.v 36) false]⟩, [(2, ⟨[(3, .v 3)], []⟩)]⟩), ([false, true, true, true, false, false, true, false, false, true, false, true, true], ⟨⟨[(1, .p 0 36), (3, .v 3), (4, .v 3), (5, .v 97), (6, .v 3)], [.var 36 (.v 36) false]⟩, [(4, ⟨[(1, .p 0 36), (3, .v 3), (4, .v 3)], [.var 36 (.v 36) false]⟩)]⟩)], lit := true }
def e12 : Entry := { fid := 6, ins := ⟨[], []⟩, outs := ⟨[(0, .v 4)], []⟩, cuts := [], lit := true }
def e13 : Entry := { fid := 14, ins := ⟨[(0, .v 3), (1, .v 9), (2, .v 37)], []⟩, outs := ⟨[(0, .v 41)], []⟩, cuts := [], lit := true }
def e14 : Entry := { fid := 7, ins := ⟨[(0, .v 22)], []⟩, outs := ⟨[(0, .o 0), (1, .v 25)], [.row 41]⟩, cuts := [([false, true, false, true, true, true], ⟨⟨[(4, .o 0), (5, .o 1), (15, .v 22), (16, .v 3), (17, .v 3)], [.row 41, .row 41]⟩, [(2, ⟨[(4, .o 0), (5, .o 1)], [.row 41, .row 41]⟩)]⟩)] }
def e15 : Entry := { fid := 15, ins := ⟨[(0, .v 22)], []⟩, outs := ⟨[(0, .v 4)], []⟩, cuts := [([false, true, false, true, true], ⟨⟨[(3, .m 0), (7, .v 22), (8, .v 3), (9, .v 3)], [.map 9 3]⟩, [(2, ⟨[], []⟩), (1, ⟨[(2, .v 4)], []⟩)]⟩)] }
def e16 : Entry := { fid := 16, ins := ⟨[(0, .v 41)], []⟩, outs := ⟨[(0, .v 4)], []⟩, cuts := [] }
def e17 : Entry := { fid := 35, ins := ⟨[(0, .v 37)], []⟩, outs := ⟨[(0, .p 0 68)], [.var 68 (.agg 68 [.m 1]) false, .map 9 37]⟩, cuts := [([false, true, false, true, true], ⟨⟨[(3, .p 0 68), (9, .v 37), (10, .v 3), (11, .v 3)], [.var 68 (.agg 68 [.m 1]) false, .map 9 37]⟩, [(2, ⟨[(3, .p 0 68)], [.var 68 (.agg 68 [.m 1]) false, .map 9 37]⟩)]⟩)] }
def e18 : Entry := { fid := 36, ins := ⟨[(0, .p 0 68), (1, .v 9)], [.var 68 (.agg 68 [.m 1]) false, .map 9 37]⟩, outs := ⟨[], [.var 68 (.agg 68 [.m 1]) false, .map 9 37]⟩, cuts := [] }
def e19 : Entry := { fid := 37, ins := ⟨[(0, .p 0 68), (1, .v 9)], [.var 68 (.agg 68 [.m 1]) false, .map 9 37]⟩, outs := ⟨[(0, .v 4)], [.var 68 (.agg 68 [.m 1]) false, .map 9 37]⟩, cuts := [] }
def e20 : Entry := { fid := 18, ins := ⟨[(0, .p 0 68), (1, .v 39), (2, .v 9)], [.var 68 (.agg 68 [.m 1]) false, .map 9 37]⟩, outs := ⟨[], [.var 68 (.agg 68 [.m 1]) false, .map 9 37]⟩, cuts := [] }
def e21 : Entry := { fid := 19, ins := ⟨[(0, .p 0 68), (1, .v 9), (2, .v 9)], [.var 68 (.agg 68 [.m 1]) false, .map 9 37]⟩, outs := ⟨[], [.var 68 (.agg 68 [.m 1]) false, .map 9 37]⟩, cuts := [] }
def e22 : Entry := { fid := 40, ins := ⟨[(0, .v 37), (1, .v 9)], []⟩, outs := ⟨[(0, .v 3), (1, .v 4)], []⟩, cuts := [([false, false, true, true, true], ⟨⟨[(0, .v 37), (1, .v 9), (6, .v 3), (7, .v 3), (8, .v 3)], []⟩, [(2, ⟨[(0, .v 37), (1, .v 9), (6, .v 3), (7, .v 3)], []⟩)]⟩)] }
def e23 : Entry := { fid := 60, ins := ⟨[(0, .v 9), (1, .v 9)], []⟩, outs := ⟨[(0, .v 4)], []⟩, cuts := [] }
def e24 : Entry := { fid := 72, ins := ⟨[(0, .v 9)], []⟩, outs := ⟨[(0, .v 4)], []⟩, cuts := [] }
def e25 : Entry := { fid := 61, ins := ⟨[(0, .v 9)], []⟩, outs := ⟨[(0, .v 4)], []⟩, cuts := [] }
def e26 : Entry := { fid := 38, ins := ⟨[(0, .p 0 68)], [.var 68 (.agg 68 [.m 1]) false, .map 9 37]⟩, outs := ⟨[(0, .o 2), (1, .v 37)], [.var 68 (.agg 68 [.m 1]) false, .map 9 37, .row 9]⟩, cuts := [([false, true, false, true, true, true, true], ⟨⟨[(0, .p 0 68), (2, .o 2), (4, .p 3 68), (5, .m 4), (6, .o 5), (18, .v 37), (19, .v 3), (20, .v 3)], [.var 68 (.agg 68 [.m 1]) false, .map 9 37, .row 9, .var 68 (.agg 68 [.m 6]) false, .map 9 3, .row 9, .map 9 37]⟩, [(2, ⟨[(2, .o 2), (4, .p 3 68), (5, .m 4), (6, .o 5)], [.var 68 (.agg 68 [.m 1]) false, .map 9 37, .row 9, .var 68 (.agg 68 [.m 6]) false, .map 9 3, .row 9, .map 9 37]⟩)]⟩), ([false, false, true, true, true, true, true], ⟨⟨[(2, .o 2), (4, .p 3 68), (5, .m 4), (6, .v 37)], [.var 68 (.agg 68 [.m 1]) false, .map 9 37, .row 9, .var 68 (.agg 68 [.m 5]) false, .map 9 3, .map 9 37]⟩, [(4, ⟨[(2, .o 2), (5, .m 3)], [.var 68 (.agg 68 [.m 1]) false, .map 9 37, .row 9, .map 9 3]⟩)]⟩), ([false, true, true, true, true, true, false, true, false, false, false, true, true, true, true, true], ⟨⟨[(2, .o 2), (4, .p 3 68), (5, .m 4), (6, .v 37), (55, .o 5), (56, .v 3), (57, .v 3)], [.var 68 (.agg 68 [.m 1]) false, .map 9 37, .row 9, .var 68 (.agg 68 [.m 6]) false, .map 9 3, .row 9, .map 9 37]⟩, [(6, ⟨[(2, .o 2), (4, .p 3 68), (5, .m 4), (6, .v 37)], [.var 68 (.agg 68 [.m 1]) false, .map 9 37, .row 9, .var 68 (.agg 68 [.m 5]) false, .map 9 3, .map 9 37]⟩)]⟩)] }
def e27 : Entry := { fid := 53, ins := ⟨[(0, .p 0 68)], [.var 68 (.agg 68 [.m 1]) false, .map 9 37]⟩, outs := ⟨[(0, .p 2 68)], [.var 68 (.agg 68 [.m 1]) false, .map 9 37, .var 68 (.agg 68 [.m 3]) false, .map 9 37]⟩, cuts := [([false, true, false, true, true], ⟨⟨[(0, .p 0 68), (3, .p 2 68), (12, .v 37), (13, .v 3), (14, .v 3)], [.var 68 (.agg 68 [.m 1]) false, .map 9 37, .var 68 (.agg 68 [.m 3]) false, .map 9 37]⟩, [(2, ⟨[(3, .p 2 68)], [.var 68 (.agg 68 [.m 1]) false, .map 9 37, .var 68 (.agg 68 [.m 3]) false, .map 9 37]⟩)]⟩), ([false, true, true, false, false, true, true, false, false, true, false, true, true], ⟨⟨[(0, .p 0 68), (3, .p 2 68), (5, .v 9), (12, .v 37), (13, .v 3), (14, .v 3), (20, .o 3), (21, .v 3), (22, .v 3)], [.var 68 (.agg 68 [.m 1]) false, .map 9 37, .var 68 (.agg 68 [.m 4]) false, .row 9, .map 9 37]⟩, [(4, ⟨[(0, .p 0 68), (3, .p 2 68), (12, .v 37), (13, .v 3), (14, .v 3)], [.var 68 (.agg 68 [.m 1]) false, .map 9 37, .var 68 (.agg 68 [.m 3]) false, .map 9 37]⟩)]⟩)] }
def e28 : Entry := { fid := 54, ins := ⟨[(0, .p 0 68)], [.var 68 (.agg 68 [.m 1]) false, .map 9 37]⟩, outs := ⟨[(0, .v 37)], [.var 68 (.agg 68 [.m 1]) false, .map 9 37]⟩, cuts := [] }
def e29 : Entry := { fid := 66, ins := ⟨[(0, .m 0)], [.map 9 37]⟩, outs := ⟨[(0, .clo 76 [.p 1 66])], [.map 9 37, .var 66 (.m 0) false]⟩, cuts := [] }
def e30 : Entry := { fid := 55, ins := ⟨[(0, .p 0 68), (1, .v 9)], [.var 68 (.agg 68 [.m 1]) false, .map 9 37]⟩, outs := ⟨[(0, .o 2)], [.var 68 (.agg 68 [.m 1]) false, .map 9 37, .row 9]⟩, cuts := [] }
def e31 : Entry := { fid := 56, ins := ⟨[(0, .v 37)], []⟩, outs := ⟨[(0, .v 9), (1, .v 37)], []⟩, cuts := [] }
def e32 : Entry := { fid := 58, ins := ⟨[(0, .m 0)], [.map 9 3]⟩, outs := ⟨[(0, .clo 69 [.p 1 59])], [.map 9 3, .var 59 (.m 0) false]⟩, cuts := [] }
def e33 : Entry := { fid := 39, ins := ⟨[(0, .v 41)], []⟩, outs := ⟨[(0, .v 41)], []⟩, cuts := [] }
def e34 : Entry := { fid := 59, ins := ⟨[(0, .v 36)], []⟩, outs := ⟨[(0, .v 36)], []⟩, cuts := [([false, true, false, true, true], ⟨⟨[(2, .p 0 36), (3, .o 1), (12, .o 1), (13, .v 3), (14, .v 3)], [.var 36 (.v 36) false, .row 99]⟩, [(2, ⟨[(2, .p 0 36), (3, .o 1)], [.var 36 (.v 36) false, .row 99]⟩)]⟩), ([false, true, false, true, true, false, false, true, true, false, false, true, false, true, true], ⟨⟨[(2, .p 0 36), (3, .o 1), (4, .v 3), (6, .o 2), (12, .o 1), (13, .v 3), (14, .v 3), (22, .o 2), (23, .v 3), (24, .v 3)], [.var 36 (.v 36) false, .row 99, .row 101]⟩, [(4, ⟨[(2, .p 0 36), (3, .o 1), (4, .v 3), (6, .o 2), (12, .o 1), (13, .v 3), (14, .v 3)], [.var 36 (.v 36) false, .row 99, .row 101]⟩)]⟩)] }
def e35 : Entry := { fid := 20, ins := ⟨[(0, .p 0 68), (1, .v 39), (2, .v 9)], [.var 68 (.agg 68 [.m 1]) false, .map 9 37]⟩, outs := ⟨[], [.var 68 (.agg 68 [.m 1]) false, .map 9 37]⟩, cuts := [] }
def e36 : Entry := { fid := 22, ins := ⟨[(0, .v 39), (1, .v 39)], []⟩, outs := ⟨[(0, .v 4)], []⟩, cuts := [], lit := true }
def e37 : Entry := { fid := 45, ins := ⟨[(0, .v 36), (1, .v 36)], []⟩, outs := ⟨[(0, .v 4)], []⟩, cuts := [], lit := true }
def e38 : Entry := { fid := 64, ins := ⟨[(0, .v 36), (1, .v 36)], []⟩, outs := ⟨[(0, .v 3)], []⟩, cuts := [([false, true, false, true], ⟨⟨[(2, .p 0 36), (3, .p 1 36), (5, .v 3)], [.var 36 (.v 36) false, .var 36 (.v 36) false]⟩, [(2, ⟨[(2, .p 0 36), (3, .p 1 36)], [.var 36 (.v 36) false, .var 36 (.v 36) false]⟩), (1, ⟨[(4, .v 3)], []⟩)]⟩)], lit := true }
def e39 : Entry := { fid := 74, ins := ⟨[(0, .v 99), (1, .v 99)], []⟩, outs := ⟨[(0, .v 3)], []⟩, cuts := [([false, true, false, true, true, true], ⟨⟨[(2, .p 0 99), (3, .p 1 99), (6, .v 3)], [.var 99 (.v 99) false, .var 99 (.v 99) false]⟩, [(2, ⟨[(2, .p 0 99), (3, .p 1 99)], [.var 99 (.v 99) false, .var 99 (.v 99) false]⟩), (1, ⟨[(4, .v 3)], []⟩)]⟩)], lit := true }
def e40 : Entry := { fid := 81, ins := ⟨[(0, .v 99), (1, .v 99)], []⟩, outs := ⟨[(0, .v 3)], []⟩, cuts := [], lit := true }
def e41 : Entry := { fid := 75, ins := ⟨[(0, .v 3), (1, .v 3)], []⟩, outs := ⟨[(0, .v 3)], []⟩, cuts := [], lit := true }
def e42 : Entry := { fid := 82, ins := ⟨[(0, .v 9), (1, .v 9)], []⟩, outs := ⟨[(0, .v 3)], []⟩, cuts := [], lit := true }
def e43 : Entry := { fid := 93, ins := ⟨[(0, .v 4), (1, .v 4)], []⟩, outs := ⟨[(0, .v 3)], []⟩, cuts := [], lit := true }
def e44 : Entry := { fid := 46, ins := ⟨[(0, .v 37), (1, .v 37)], []⟩, outs := ⟨[(0, .v 4)], []⟩, cuts := [([false, true, false, true, true], ⟨⟨[(0, .v 37), (1, .v 37), (5, .v 3)], []⟩, [(2, ⟨[], []⟩), (1, ⟨[(4, .v 4)], []⟩)]⟩)], lit := true }
def e45 : Entry := { fid := 12, ins := ⟨[(0, .v 22)], []⟩, outs := ⟨[(0, .v 3)], []⟩, cuts := [([false, true, false, true], ⟨⟨[(0, .v 22), (3, .v 3)], []⟩, [(2, ⟨[], []⟩), (1, ⟨[(2, .v 3)], []⟩)]⟩), ([false, true, false, false, true, false, false, true, false, true], ⟨⟨[(0, .v 22), (3, .v 3), (4, .v 3)], []⟩, [(4, ⟨[(0, .v 22), (3, .v 3)], []⟩), (1, ⟨[(2, .v 3)], []⟩)]⟩)], lit := true }
def e46 : Entry := { fid := 32, ins := ⟨[(0, .v 37), (1, .v 9)], []⟩, outs := ⟨[(0, .v 4)], []⟩, cuts := [([false, true, false, true], ⟨⟨[(0, .v 37), (1, .v 9), (5, .v 3)], []⟩, [(2, ⟨[], []⟩), (1, ⟨[(4, .v 4)], []⟩)]⟩)], lit := true }
def e47 : Entry := { fid := 11, ins := ⟨[(0, .v 22)], []⟩, outs := ⟨[(0, .v 3)], []⟩, cuts := [] }
def e48 : Entry := { fid := 24, ins := ⟨[(0, .v 22), (1, .clo 25 [.p 0 22])], [.var 22 (.v 22) false]⟩, outs := ⟨[(0, .v 3)], [.var 22 (.v 22) false]⟩, cuts := [([false, true, false, true], ⟨⟨[(0, .v 22), (1, .clo 25 [.p 0 22]), (7, .v 3), (8, .v 3)], [.var 22 (.v 22) false]⟩, [(2, ⟨[], [.var 22 (.v 22) false]⟩), (1, ⟨[(4, .v 3)], [.var 22 (.v 22) false]⟩)]⟩)] }
def e49 : Entry := { fid := 25, ins := ⟨[(0, .v 41), (1, .p 0 22)], [.var 22 (.v 22) false]⟩, outs := ⟨[(0, .v 4)], [.var 22 (.v 22) false]⟩, cuts := [] }
def e50 : Entry := { fid := 24, ins := ⟨[(0, .v 22), (1, .clo 26 [.p 0 41])], [.var 41 (.v 41) false]⟩, outs := ⟨[(0, .v 3)], [.var 41 (.v 41) false]⟩, cuts := [([false, true, false, true], ⟨⟨[(0, .v 22), (1, .clo 26 [.p 0 41]), (7, .v 3), (8, .v 3)], [.var 41 (.v 41) false]⟩, [(2, ⟨[], [.var 41 (.v 41) false]⟩), (1, ⟨[(4, .v 3)], [.var 41 (.v 41) false]⟩)]⟩)] }
def e51 : Entry := { fid := 26, ins := ⟨[(0, .v 41), (1, .p 0 41)], [.var 41 (.v 41) false]⟩, outs := ⟨[(0, .v 4)], [.var 41 (.v 41) false]⟩, cuts := [] }
def e52 : Entry := { fid := 27, ins := ⟨[(0, .v 22), (1, .clo 28 [])], []⟩, outs := ⟨[(0, .v 4)], []⟩, cuts := [] }
def e53 : Entry := { fid := 24, ins := ⟨[(0, .v 22), (1, .clo 28 [])], []⟩, outs := ⟨[(0, .v 3)], []⟩, cuts := [([false, true, false, true], ⟨⟨[(0, .v 22), (1, .clo 28 []), (7, .v 3), (8, .v 3)], []⟩, [(2, ⟨[], []⟩), (1, ⟨[(4, .v 3)], []⟩)]⟩)] }
def e54 : Entry := { fid := 28, ins := ⟨[(0, .v 41)], []⟩, outs := ⟨[(0, .v 4)], []⟩, cuts := [] }
def e55 : Entry := { fid := 27, ins := ⟨[(0, .v 22), (1, .clo 29 [.p 0 41])], [.var 41 (.v 41) false]⟩, outs := ⟨[(0, .v 4)], [.var 41 (.v 41) false]⟩, cuts := [] }
def e56 : Entry := { fid := 24, ins := ⟨[(0, .v 22), (1, .clo 29 [.p 0 41])], [.var 41 (.v 41) false]⟩, outs := ⟨[(0, .v 3)], [.var 41 (.v 41) false]⟩, cuts := [([false, true, false, true], ⟨⟨[(0, .v 22), (1, .clo 29 [.p 0 41]), (7, .v 3), (8, .v 3)], [.var 41 (.v 41) false]⟩, [(2, ⟨[], [.var 41 (.v 41) false]⟩), (1, ⟨[(4, .v 3)], [.var 41 (.v 41) false]⟩)]⟩)] }
def e57 : Entry := { fid := 29, ins := ⟨[(0, .v 41), (1, .p 0 41)], [.var 41 (.v 41) false]⟩, outs := ⟨[(0, .v 4)], [.var 41 (.v 41) false]⟩, cuts := [] }
def e58 : Entry := { fid := 30, ins := ⟨[(0, .v 37), (1, .v 9)], []⟩, outs := ⟨[(0, .v 4)], []⟩, cuts := [] }
def e59 : Entry := { fid := 48, ins := ⟨[(0, .v 37), (1, .v 9)], []⟩, outs := ⟨[(0, .v 3)], []⟩, cuts := [([false, true, false, true], ⟨⟨[(0, .v 37), (1, .v 9), (7, .v 3), (8, .v 3)], []⟩, [(2, ⟨[], []⟩), (1, ⟨[(4, .v 3)], []⟩)]⟩)] }
def e60 : Entry := { fid := 27, ins := ⟨[(0, .v 22), (1, .clo 31 [.p 0 41])], [.var 41 (.v 41) false]⟩, outs := ⟨[(0, .v 4)], [.var 41 (.v 41) false]⟩, cuts := [] }
def e61 : Entry := { fid := 24, ins := ⟨[(0, .v 22), (1, .clo 31 [.p 0 41])], [.var 41 (.v 41) false]⟩, outs := ⟨[(0, .v 3)], [.var 41 (.v 41) false]⟩, cuts := [([false, true, false, true], ⟨⟨[(0, .v 22), (1, .clo 31 [.p 0 41]), (7, .v 3), (8, .v 3)], [.var 41 (.v 41) false]⟩, [(2, ⟨[], [.var 41 (.v 41) false]⟩), (1, ⟨[(4, .v 3)], [.var 41 (.v 41) false]⟩)]⟩)] }
def e62 : Entry := { fid := 31, ins := ⟨[(0, .v 41), (1, .p 0 41)], [.var 41 (.v 41) false]⟩, outs := ⟨[(0, .v 4)], [.var 41 (.v 41) false]⟩, cuts := [] }
def e63 : Entry := { fid := 13, ins := ⟨[(0, .o 0)], [.row 39]⟩, outs := ⟨[(0, .v 4)], [.row 39]⟩, cuts := [([false, true, false, true, true], ⟨⟨[(0, .o 0), (3, .v 3)], [.row 39]⟩, [(2, ⟨[], [.row 39]⟩), (1, ⟨[(2, .v 4)], [.row 39]⟩)]⟩), ([false, true, true, false, false, true, false, false, true, false, true, true], ⟨⟨[(0, .o 0), (3, .v 3), (4, .v 3)], [.row 39]⟩, [(4, ⟨[(0, .o 0), (3, .v 3)], [.row 39]⟩), (1, ⟨[(2, .v 4)], [.row 39]⟩)]⟩)], lit := true }
def e64 : Entry := { fid := 17, ins := ⟨[(0, .o 0), (1, .clo 18 [])], [.row 41]⟩, outs := ⟨[(0, .o 1), (1, .v 4)], [.row 41, .row 41]⟩, cuts := [([false, true, false, true, true, true], ⟨⟨[(0, .o 0), (1, .clo 18 []), (6, .p 1 68), (7, .m 2), (21, .o 0), (22, .v 3), (23, .v 3)], [.row 41, .var 68 (.agg 68 [.m 3]) false, .map 9 41, .map 9 37]⟩, [(2, ⟨[(0, .o 0), (1, .clo 18 []), (6, .p 1 68), (7, .m 2)], [.row 41, .var 68 (.agg 68 [.m 3]) false, .map 9 41, .map 9 37]⟩)]⟩), ([false, true, false, true, true, true, true], ⟨⟨[(1, .clo 18 []), (6, .p 1 68), (7, .m 2), (38, .o 0), (39, .v 3), (40, .v 3)], [.row 41, .var 68 (.agg 68 [.m 3]) false, .map 9 41, .map 9 37]⟩, [(4, ⟨[(6, .p 1 68), (7, .m 2)], [.row 41, .var 68 (.agg 68 [.m 3]) false, .map 9 41, .map 9 37]⟩)]⟩), ([false, true, true, false, false, true, true, false, false, true, false, true, true, true, true], ⟨⟨[(1, .clo 18 []), (6, .p 1 68), (7, .m 2), (11, .p 3 41), (38, .o 0), (39, .v 3), (40, .v 3), (46, .v 37), (47, .v 3), (48, .v 3)], [.row 41, .var 68 (.agg 68 [.m 4]) false, .map 9 41, .var 41 (.v 41) false, .map 9 37]⟩, [(6, ⟨[(1, .clo 18 []), (6, .p 1 68), (7, .m 2), (38, .o 0), (39, .v 3), (40, .v 3)], [.row 41, .var 68 (.agg 68 [.m 3]) false, .map 9 41, .map 9 37]⟩)]⟩), ([false, true, false, true, true, true, true, true, true, true], ⟨⟨[(7, .m 1), (16, .o 2), (68, .o 3), (69, .v 3), (70, .v 3)], [.row 41, .map 9 41, .row 41, .row 9]⟩, [(8, ⟨[(7, .m 1), (16, .o 2)], [.row 41, .map 9 41, .row 41]⟩)]⟩)] }
def e65 : Entry := { fid := 56, ins := ⟨[(0, .o 0)], [.row 9]⟩, outs := ⟨[(0, .v 9), (1, .v 37)], [.row 9]⟩, cuts := [] }
def e66 : Entry := { fid := 17, ins := ⟨[(0, .o 0), (1, .clo 20 [])], [.row 41]⟩, outs := ⟨[(0, .o 1), (1, .v 4)], [.row 41, .row 41]⟩, cuts := [([false, true, false, true, true, true], ⟨⟨[(0, .o 0), (1, .clo 20 []), (6, .p 1 68), (7, .m 2), (21, .o 0), (22, .v 3), (23, .v 3)], [.row 41, .var 68 (.agg 68 [.m 3]) false, .map 9 41, .map 9 37]⟩, [(2, ⟨[(0, .o 0), (1, .clo 20 []), (6, .p 1 68), (7, .m 2)], [.row 41, .var 68 (.agg 68 [.m 3]) false, .map 9 41, .map 9 37]⟩)]⟩), ([false, true, false, true, true, true, true], ⟨⟨[(1, .clo 20 []), (6, .p 1 68), (7, .m 2), (38, .o 0), (39, .v 3), (40, .v 3)], [.row 41, .var 68 (.agg 68 [.m 3]) false, .map 9 41, .map 9 37]⟩, [(4, ⟨[(6, .p 1 68), (7, .m 2)], [.row 41, .var 68 (.agg 68 [.m 3]) false, .map 9 41, .map 9 37]⟩)]⟩), ([false, true, true, false, false, true, true, false, false, true, false, true, true, true, true], ⟨⟨[(1, .clo 20 []), (6, .p 1 68), (7, .m 2), (11, .p 3 41), (38, .o 0), (39, .v 3), (40, .v 3), (46, .v 37), (47, .v 3), (48, .v 3)], [.row 41, .var 68 (.agg 68 [.m 4]) false, .map 9 41, .var 41 (.v 41) false, .map 9 37]⟩, [(6, ⟨[(1, .clo 20 []), (6, .p 1 68), (7, .m 2), (38, .o 0), (39, .v 3), (40, .v 3)], [.row 41, .var 68 (.agg 68 [.m 3]) false, .map 9 41, .map 9 37]⟩)]⟩), ([false, true, false, true, true, true, true, true, true, true], ⟨⟨[(7, .m 1), (16, .o 2), (68, .o 3), (69, .v 3), (70, .v 3)], [.row 41, .map 9 41, .row 41, .row 9]⟩, [(8, ⟨[(7, .m 1), (16, .o 2)], [.row 41, .map 9 41, .row 41]⟩)]⟩)] }
def e67 : Entry := { fid := 9, ins := ⟨[(0, .v 22), (1, .o 0)], [.row 41]⟩, outs := ⟨[(0, .v 4)], [.row 41]⟩, cuts := [([false, true, false, true, true], ⟨⟨[(0, .v 22), (1, .o 0), (5, .v 3)], [.row 41]⟩, [(2, ⟨[], [.row 41]⟩), (1, ⟨[(4, .v 4)], [.row 41]⟩)]⟩)], lit := true }
def e68 : Entry := insE 41 3 9
def ents : List Entry := [e0, e1, e2, e3, e4, e5, e6, e7, e8, e9, e10, e11, e12, e13, e14, e15, e16, e17, e18, e19, e20, e21, e22, e23, e24, e25, e26, e27, e28, e29, e30, e31, e32, e33, e34, e35, e36, e37, e38, e39, e40, e41, e42, e43, e44, e45, e46, e47, e48, e49, e50, e51, e52, e53, e54, e55, e56, e57, e58, e59, e60, e61, e62, e63, e64, e65, e66, e67, e68]
def i_slices_Sorted : Nat := 0
def i_slices_Sorted_l : Nat := 1
def i_slices_Clone : Nat := 2
def i_name_Right : Nat := 3
def i_slices_Clone_Term : Nat := 4
def i_slices_Clone_Field : Nat := 5
def i_L33_OrderHolds : Nat := 6
def i_L33_Few : Nat := 7
def i_L09_Few : Nat := 8
def i_L08_Few : Nat := 9
def i_L08_left : Nat := 10
def i_R08_Weight : Nat := 11
def i_L33_awake : Nat := 12
def i_L33_act : Nat := 13
def i_order_Actions : Nat := 14
def i_order_may : Nat := 15
def i_order_deletes : Nat := 16
def i_graph_New_string : Nat := 17
def i_graph_Graph_string_Add : Nat := 18
def i_graph_Graph_string_Has : Nat := 19
def i_order_Actions_1 : Nat := 20
def i_graph_Graph_string_Link : Nat := 21
def i_slices_BinarySearch_string : Nat := 22
def i_cmp_Less_string : Nat := 23
def i_cmp_isNaN_string : Nat := 24
def i_slices_isNaN_string : Nat := 25
def i_graph_Graph_string_Order : Nat := 26
def i_graph_Graph_string_Turned : Nat := 27
def i_graph_Graph_string_Points : Nat := 28
def i_maps_Keys_map_string_string_string_string : Nat := 29
def i_graph_Graph_string_To : Nat := 30
def i_graph_least_string : Nat := 31
def i_maps_Keys_map_string_int_string_int : Nat := 32
def i_order_own : Nat := 33
def i_rank_Copy : Nat := 34
def i_order_Actions_2 : Nat := 35
def i_R29_Same : Nat := 36
def i_R08_Same : Nat := 37
def i_R08_Compare : Nat := 38
def i_R08_Terms : Nat := 39
def i_R08_plain : Nat := 40
def i_R08_nums : Nat := 41
def i_R08_texts : Nat := 42
def i_R08_bools : Nat := 43
def i_R02_Same : Nat := 44
def i_R33_Early : Nat := 45
def i_R17_Has : Nat := 46
def i_order_Early : Nat := 47
def i_slices_IndexFunc_Action_Early1 : Nat := 48
def i_order_Early_1 : Nat := 49
def i_slices_IndexFunc_Action_Early11 : Nat := 50
def i_order_Early_1_1 : Nat := 51
def i_slices_ContainsFunc_Action_Early12 : Nat := 52
def i_slices_IndexFunc_Action_Early12 : Nat := 53
def i_order_Early_1_2 : Nat := 54
def i_slices_ContainsFunc_Action_Early13 : Nat := 55
def i_slices_IndexFunc_Action_Early13 : Nat := 56
def i_order_Early_1_3 : Nat := 57
def i_slices_Contains_string : Nat := 58
def i_slices_Index_string : Nat := 59
def i_slices_ContainsFunc_Action_Early14 : Nat := 60
def i_slices_IndexFunc_Action_Early14 : Nat := 61
def i_order_Early_1_4 : Nat := 62
def i_L30_Few_o : Nat := 63
def i_order_line_Actions1_o : Nat := 64
def i_graph_least_string_o : Nat := 65
def i_order_line_Actions2_o : Nat := 66
def i_R31_Same_o : Nat := 67
def i_slices_Insert : Nat := 68
def p_L33_OrderHolds_c1 : List Bool := [false, true, false, true, true, true, true]
def p_L33_Few_c1 : List Bool := [false, true, false, true, true]
def p_L08_left_c1 : List Bool := [false, true, false, true, true]
def p_L08_left_c2 : List Bool := [false, true, true, true, true, false, false, true, false, false, true, false, true, true]
def p_R08_Weight_c1 : List Bool := [false, true, false, true, true]
def p_R08_Weight_c2 : List Bool := [false, true, true, true, false, false, true, false, false, true, false, true, true]
def p_order_Actions_c1 : List Bool := [false, true, false, true, true, true]
def p_order_may_c1 : List Bool := [false, true, false, true, true]
def p_graph_New_string_c1 : List Bool := [false, true, false, true, true]
def p_slices_BinarySearch_string_c1 : List Bool := [false, false, true, true, true]
def p_graph_Graph_string_Order_c1 : List Bool := [false, true, false, true, true, true, true]
def p_graph_Graph_string_Order_c2 : List Bool := [false, false, true, true, true, true, true]
def p_graph_Graph_string_Order_c3 : List Bool := [false, true, true, true, true, true, false, true, false, false, false, true, true, true, true, true]
def p_graph_Graph_string_Turned_c1 : List Bool := [false, true, false, true, true]
def p_graph_Graph_string_Turned_c2 : List Bool := [false, true, true, false, false, true, true, false, false, true, false, true, true]
def p_rank_Copy_c1 : List Bool := [false, true, false, true, true]
def p_rank_Copy_c2 : List Bool := [false, true, false, true, true, false, false, true, true, false, false, true, false, true, true]
def p_R08_Compare_c1 : List Bool := [false, true, false, true]
def p_R08_Terms_c1 : List Bool := [false, true, false, true, true, true]
def p_R02_Same_c1 : List Bool := [false, true, false, true, true]
def p_R33_Early_c1 : List Bool := [false, true, false, true]
def p_R33_Early_c2 : List Bool := [false, true, false, false, true, false, false, true, false, true]
def p_R17_Has_c1 : List Bool := [false, true, false, true]
def p_slices_IndexFunc_Action_Early1_c1 : List Bool := [false, true, false, true]
def p_slices_IndexFunc_Action_Early11_c1 : List Bool := [false, true, false, true]
def p_slices_IndexFunc_Action_Early12_c1 : List Bool := [false, true, false, true]
def p_slices_IndexFunc_Action_Early13_c1 : List Bool := [false, true, false, true]
def p_slices_Index_string_c1 : List Bool := [false, true, false, true]
def p_slices_IndexFunc_Action_Early14_c1 : List Bool := [false, true, false, true]
def p_L30_Few_o_c1 : List Bool := [false, true, false, true, true]
def p_L30_Few_o_c2 : List Bool := [false, true, true, false, false, true, false, false, true, false, true, true]
def p_order_line_Actions1_o_c1 : List Bool := [false, true, false, true, true, true]
def p_order_line_Actions1_o_c2 : List Bool := [false, true, false, true, true, true, true]
def p_order_line_Actions1_o_c3 : List Bool := [false, true, true, false, false, true, true, false, false, true, false, true, true, true, true]
def p_order_line_Actions1_o_c4 : List Bool := [false, true, false, true, true, true, true, true, true, true]
def p_order_line_Actions2_o_c1 : List Bool := [false, true, false, true, true, true]
def p_order_line_Actions2_o_c2 : List Bool := [false, true, false, true, true, true, true]
def p_order_line_Actions2_o_c3 : List Bool := [false, true, true, false, false, true, true, false, false, true, false, true, true, true, true]
def p_order_line_Actions2_o_c4 : List Bool := [false, true, false, true, true, true, true, true, true, true]
def p_R31_Same_o_c1 : List Bool := [false, true, false, true, true]
noncomputable def D (n i : Nat) (p : Option (List Bool)) (xs : List A) : Option (Nat × List A) := den Tryd.prog G0 ents n i p xs
noncomputable def cl (n i : Nat) (xs : List A) (k : List A → Option (Nat × List A)) : Option (Nat × List A) := Option.bind (Option.map (fun v => v.2) (den Tryd.prog G0 ents n i none xs)) k
noncomputable def lp (n i : Nat) (p : List Bool) (xs : List A) (k : Nat × List A → Option (Nat × List A)) : Option (Nat × List A) := Option.bind (den Tryd.prog G0 ents n i (some p) xs) k
end Go.Proofs.YtjnbggianlgjiaaDoorOH
set_option linter.unusedVariables false
set_option maxRecDepth 100000
namespace Go.Proofs.YtjnbggianlgjiaaDoorOH
open Go Go.Proofs.YtjnbggianlgjiaaDoorVM Go.Proofs
theorem q_L33_OrderHolds (n : Nat) (x0 x1 : T) : den Tryd.prog G0 ents (Nat.succ n) i_L33_OrderHolds none [A.t x0, A.t x1] =
  cl n i_L33_Few [aL x0.k] fun v0 => bif !(r v0 0).b then cl n i_L33_awake [] fun v1 => rt [aB (r v1 0).b] else cl n i_order_Actions [aL x0.k] fun v1 => bif decide ((0 + List.length x0.k) < 1073741824) then lp n i_L33_OrderHolds p_L33_OrderHolds_c1 [aL x0.k,aL x1.k,aI (r v1 0).n,aI 0,aL (r v1 1).k,aL x0.k] fun v2 => bif Nat.beq v2.1 2 then cl n i_order_Actions [aL (r v2.2 3).k] fun v3 => bif ((r v2.2 2).n != (r v3 0).n) == false then cl n i_R31_Same_o [aL (r v2.2 1).k,aL (r v3 1).k] fun v4 => bif !(r v4 0).b then rt [aB false] else cl n i_L33_awake [] fun v5 => bif (r v5 0).b == true then bif ((r v2.2 2).n != 0) == false then bif ((r v2.2 1).l == (r v2.2 0).l) == true then cl n i_R33_Early [aL (r v2.2 1).k] fun v6 => bif ((r v6 0).n == (-1)) == true then cl n i_order_Early [aL (r v2.2 1).k] fun v7 => rt [aB ((r v7 0).n == (-1))] else rt [aB false] else rt [aB false] else rt [aB true] else rt [aB false] else rt [aB false] else none else none := by kernel_rfl
theorem q_L33_OrderHolds_c1 (n : Nat) (x0 x1 x2 x3 x4 x5 : T) : den Tryd.prog G0 ents (Nat.succ n) i_L33_OrderHolds (some p_L33_OrderHolds_c1) [A.t x0, A.t x1, A.t x2, A.t x3, A.t x4, A.t x5] =
  bif lt x3.n x5.l then bif lt x3.n x1.l then bif ib x3.n x1.l then bif wu x5.l != 0 then bif ib x3.n x5.l then bif decide (Int.toNat x3.n < List.length x5.k) then bif ib (w6 (Int.tmod (wu (x1.a x3.n).n) (wu x5.l))) x5.l then bif decide (Int.toNat (w6 (Int.tmod (wu (x1.a x3.n).n) (wu x5.l))) < List.length x5.k) then bif ib x3.n x5.l then bif decide (Int.toNat x3.n < List.length x5.k) then bif ib (w6 (Int.tmod (wu (x1.a x3.n).n) (wu x5.l))) ((List.length (List.set x5.k (Int.toNat x3.n) (x5.a (w6 (Int.tmod (wu (x1.a x3.n).n) (wu x5.l))))) : Nat) : Int) then bif decide (Int.toNat (w6 (Int.tmod (wu (x1.a x3.n).n) (wu x5.l))) < List.length (List.set x5.k (Int.toNat x3.n) (x5.a (w6 (Int.tmod (wu (x1.a x3.n).n) (wu x5.l)))))) then D n i_L33_OrderHolds (some p_L33_OrderHolds_c1) [aL x0.k,aL x1.k,aI x2.n,aI (w6 (x3.n + 1)),aL x4.k,aL (List.set (List.set x5.k (Int.toNat x3.n) (x5.a (w6 (Int.tmod (wu (x1.a x3.n).n) (wu x5.l))))) (Int.toNat (w6 (Int.tmod (wu (x1.a x3.n).n) (wu x5.l)))) (x5.a x3.n))] else none else none else none else none else none else none else none else none else none else none else bif ib x3.n x5.l then bif decide (Int.toNat x3.n < List.length x5.k) then bif lt 0 x5.l then bif decide (0 < List.length x5.k) then bif ib x3.n x5.l then bif decide (Int.toNat x3.n < List.length x5.k) then bif lt 0 ((List.length (List.set x5.k (Int.toNat x3.n) (tAtD x5.k 0)) : Nat) : Int) then bif decide (0 < List.length (List.set x5.k (Int.toNat x3.n) (tAtD x5.k 0))) then D n i_L33_OrderHolds (some p_L33_OrderHolds_c1) [aL x0.k,aL x1.k,aI x2.n,aI (w6 (x3.n + 1)),aL x4.k,aL (List.set (List.set x5.k (Int.toNat x3.n) (tAtD x5.k 0)) 0 (x5.a x3.n))] else none else none else none else none else none else none else none else none else some (2,[aL x0.k,aL x4.k,aI x2.n,aL x5.k]) := by kernel_rfl
theorem q_L33_Few (n : Nat) (x0 : T) : den Tryd.prog G0 ents (Nat.succ n) i_L33_Few none [A.t x0] =
  lp n i_L33_Few p_L33_Few_c1 [aL x0.k,aI 0,aL []] fun v0 => bif Nat.beq v0.1 2 then cl n i_L30_Few_o [aL (r v0.2 0).k] fun v1 => rt [aB (r v1 0).b] else none := by kernel_rfl
theorem q_L33_Few_c1 (n : Nat) (x0 x1 x2 : T) : den Tryd.prog G0 ents (Nat.succ n) i_L33_Few (some p_L33_Few_c1) [A.t x0, A.t x1, A.t x2] =
  bif lt x1.n x0.l then bif ib x1.n x0.l then bif decide (Nat.succ (List.length x2.k) < 1073741824) then D n i_L33_Few (some p_L33_Few_c1) [aL x0.k,aI (w6 (x1.n + 1)),aL (x2.k ++ [(x0.a x1.n).g 1])] else none else none else some (2,[aL x2.k]) := by kernel_rfl
theorem q_L09_Few (n : Nat) (x0 : T) : den Tryd.prog G0 ents (Nat.succ n) i_L09_Few none [A.t x0] =
  cl n i_L08_Few [A.t x0] fun v0 => bif (r v0 0).b == true then cl n i_R08_Weight [A.t x0] fun v1 => rt [aB (le (r v1 0).n 40)] else rt [aB false] := by kernel_rfl
theorem q_L08_Few (n : Nat) (x0 : T) : den Tryd.prog G0 ents (Nat.succ n) i_L08_Few none [A.t x0] =
  cl n i_L08_left [A.t x0,aI 20,aI 200] fun v0 => rt [aB (ge (r v0 0).n 0)] := by kernel_rfl
theorem q_L08_left (n : Nat) (x0 x1 x2 : T) : den Tryd.prog G0 ents (Nat.succ n) i_L08_left none [A.t x0, A.t x1, A.t x2] =
  bif (x1.n == 0) == false then bif gt (x0.g 0).l x2.n then rt [aI (-1)] else lp n i_L08_left p_L08_left_c1 [aI x1.n,aI x2.n,aI 0,A.t x0] fun v0 => bif Nat.beq v0.1 2 then rt [aI (r v0.2 0).n] else bif Nat.beq v0.1 1 then rt [aI (r v0.2 0).n] else none else rt [aI (-1)] := by kernel_rfl
theorem q_L08_left_c1 (n : Nat) (x0 x1 x2 x3 : T) : den Tryd.prog G0 ents (Nat.succ n) i_L08_left (some p_L08_left_c1) [A.t x0, A.t x1, A.t x2, A.t x3] =
  bif lt x2.n (x3.g 0).l == true then bif ge x1.n 0 then bif ib x2.n (x3.g 0).l then bif gt (((x3.g 0).a x2.n).g 3).z 400 == false then bif gt (((x3.g 0).a x2.n).g 7).l 100 then rt [aI (-1)] else lp n i_L08_left p_L08_left_c2 [aI x0.n,aI (w6 (x1.n - 1)),aI x2.n,aI 0,A.t x3,A.t ((x3.g 0).a x2.n)] fun v0 => bif Nat.beq v0.1 4 then D n i_L08_left (some p_L08_left_c1) [aI (r v0.2 0).n,aI (r v0.2 1).n,aI (w6 ((r v0.2 2).n + 1)),A.t (r v0.2 3)] else bif Nat.beq v0.1 1 then rt [aI (r v0.2 0).n] else none else rt [aI (-1)] else none else some (2,[aI x1.n]) else some (2,[aI x1.n]) := by kernel_rfl
theorem q_L08_left_c2 (n : Nat) (x0 x1 x2 x3 x4 x5 : T) : den Tryd.prog G0 ents (Nat.succ n) i_L08_left (some p_L08_left_c2) [A.t x0, A.t x1, A.t x2, A.t x3, A.t x4, A.t x5] =
  bif lt x3.n (x5.g 7).l == true then bif ge x1.n 0 then bif ib x3.n (x5.g 7).l then bif gt (((x5.g 7).a x3.n).g 0).z 100 then rt [aI (-1)] else bif ib x3.n (x5.g 7).l then cl n i_L08_left [A.t (((x5.g 7).a x3.n).g 1),aI (w6 (x0.n - 1)),aI x1.n] fun v0 => D n i_L08_left (some p_L08_left_c2) [aI x0.n,aI (r v0 0).n,aI x2.n,aI (w6 (x3.n + 1)),A.t x4,A.t x5] else none else none else some (4,[aI x0.n,aI x1.n,aI x2.n,A.t x4]) else some (4,[aI x0.n,aI x1.n,aI x2.n,A.t x4]) := by kernel_rfl
theorem q_R08_Weight (n : Nat) (x0 : T) : den Tryd.prog G0 ents (Nat.succ n) i_R08_Weight none [A.t x0] =
  lp n i_R08_Weight p_R08_Weight_c1 [aI 0,aI 0,A.t x0] fun v0 => bif Nat.beq v0.1 2 then rt [aI (r v0.2 0).n] else none := by kernel_rfl
theorem q_R08_Weight_c1 (n : Nat) (x0 x1 x2 : T) : den Tryd.prog G0 ents (Nat.succ n) i_R08_Weight (some p_R08_Weight_c1) [A.t x0, A.t x1, A.t x2] =
  bif lt x1.n (x2.g 0).l then bif ib x1.n (x2.g 0).l then lp n i_R08_Weight p_R08_Weight_c2 [aI (w6 (x0.n + 1)),aI x1.n,aL (((x2.g 0).a x1.n).g 7).k,aI 0,A.t x2] fun v0 => bif Nat.beq v0.1 4 then D n i_R08_Weight (some p_R08_Weight_c1) [aI (r v0.2 0).n,aI (w6 ((r v0.2 1).n + 1)),A.t (r v0.2 2)] else none else none else some (2,[aI x0.n]) := by kernel_rfl
theorem q_R08_Weight_c2 (n : Nat) (x0 x1 x2 x3 x4 : T) : den Tryd.prog G0 ents (Nat.succ n) i_R08_Weight (some p_R08_Weight_c2) [A.t x0, A.t x1, A.t x2, A.t x3, A.t x4] =
  bif lt x3.n x2.l then bif ib x3.n x2.l then cl n i_R08_Weight [A.t ((x2.a x3.n).g 1)] fun v0 => D n i_R08_Weight (some p_R08_Weight_c2) [aI (w6 (x0.n + (r v0 0).n)),aI x1.n,aL x2.k,aI (w6 (x3.n + 1)),A.t x4] else none else some (4,[aI x0.n,aI x1.n,A.t x4]) := by kernel_rfl
theorem q_order_Actions (n : Nat) (x0 : T) : den Tryd.prog G0 ents (Nat.succ n) i_order_Actions none [A.t x0] =
  cl n i_order_may [aL x0.k] fun v0 => bif !(r v0 0).b then rt [aI 1,aL []] else lp n i_order_Actions p_order_Actions_c1 [aL x0.k,aI x0.l,aI 0,aL [],aL []] fun v1 => bif Nat.beq v1.1 2 then cl n i_order_line_Actions1_o [aL (r v1.2 0).k] fun v2 => cl n i_order_line_Actions2_o [aL (r v1.2 1).k] fun v3 => bif (!(r v2 0).b) == false then bif !(r v3 0).b then rt [aI 24,aL []] else bif decide ((List.length (r v2 2).k + List.length (r v3 2).k) < 1073741824) then rt [aI 0,aL ((r v2 2).k ++ (r v3 2).k)] else none else rt [aI 24,aL []] else none := by kernel_rfl
theorem q_order_Actions_c1 (n : Nat) (x0 x1 x2 x3 x4 : T) : den Tryd.prog G0 ents (Nat.succ n) i_order_Actions (some p_order_Actions_c1) [A.t x0, A.t x1, A.t x2, A.t x3, A.t x4] =
  bif lt x2.n x1.n then bif ib x2.n x0.l then cl n i_order_deletes [A.t (x0.a x2.n)] fun v0 => bif (r v0 0).b then bif decide (Nat.succ (List.length x3.k) < 1073741824) then D n i_order_Actions (some p_order_Actions_c1) [aL x0.k,aI x1.n,aI (w6 (x2.n + 1)),aL (x3.k ++ [x0.a x2.n]),aL x4.k] else none else bif decide (Nat.succ (List.length x4.k) < 1073741824) then D n i_order_Actions (some p_order_Actions_c1) [aL x0.k,aI x1.n,aI (w6 (x2.n + 1)),aL x3.k,aL (x4.k ++ [x0.a x2.n])] else none else none else some (2,[aL x3.k,aL x4.k]) := by kernel_rfl
theorem q_order_may (n : Nat) (x0 : T) : den Tryd.prog G0 ents (Nat.succ n) i_order_may none [A.t x0] =
  lp n i_order_may p_order_may_c1 [aL x0.k,aI x0.l,aI 0,aL []] fun v0 => bif Nat.beq v0.1 2 then rt [aB true] else bif Nat.beq v0.1 1 then rt [aB (r v0.2 0).b] else none := by kernel_rfl
theorem q_order_may_c1 (n : Nat) (x0 x1 x2 x3 : T) : den Tryd.prog G0 ents (Nat.succ n) i_order_may (some p_order_may_c1) [A.t x0, A.t x1, A.t x2, A.t x3] =
  bif lt x2.n x1.n then bif ib x2.n x0.l then bif lt ((x0.a x2.n).g 0).n 1 == false then bif gt ((x0.a x2.n).g 0).n 3 == false then cl n i_name_Right [aS (((x0.a x2.n).g 1).g 0).s] fun v0 => bif (!(r v0 0).b) == false then bif gt (mget keyS (T.int 0) (mput keyS x3.k (T.str (((x0.a x2.n).g 1).g 0).s) (T.int (w6 ((mget keyS (T.int 0) x3.k (T.str (((x0.a x2.n).g 1).g 0).s)).n + 1)))) (T.str (((x0.a x2.n).g 1).g 0).s)).n 1 then rt [aB false] else D n i_order_may (some p_order_may_c1) [aL x0.k,aI x1.n,aI (w6 (x2.n + 1)),aL (mput keyS x3.k (T.str (((x0.a x2.n).g 1).g 0).s) (T.int (w6 ((mget keyS (T.int 0) x3.k (T.str (((x0.a x2.n).g 1).g 0).s)).n + 1))))] else rt [aB false] else rt [aB false] else rt [aB false] else none else some (2,[]) := by kernel_rfl
theorem q_order_deletes (n : Nat) (x0 : T) : den Tryd.prog G0 ents (Nat.succ n) i_order_deletes none [A.t x0] =
  rt [aB ((x0.g 0).n == 1)] := by kernel_rfl
theorem q_graph_New_string (n : Nat) (x0 : T) : den Tryd.prog G0 ents (Nat.succ n) i_graph_New_string none [A.t x0] =
  lp n i_graph_New_string p_graph_New_string_c1 [aL x0.k,aI x0.l,aI 0,aL []] fun v0 => bif Nat.beq v0.1 2 then rt [aL (r v0.2 0).k] else none := by kernel_rfl
theorem q_graph_New_string_c1 (n : Nat) (x0 x1 x2 x3 : T) : den Tryd.prog G0 ents (Nat.succ n) i_graph_New_string (some p_graph_New_string_c1) [A.t x0, A.t x1, A.t x2, A.t x3] =
  bif lt x2.n x1.n then bif ib x2.n x0.l then cl n i_graph_Graph_string_Add [aS (x0.a x2.n).s,aL x3.k] fun v0 => D n i_graph_New_string (some p_graph_New_string_c1) [aL x0.k,aI x1.n,aI (w6 (x2.n + 1)),aL (r v0 0).k] else none else some (2,[aL x3.k]) := by kernel_rfl
theorem q_graph_Graph_string_Add (n : Nat) (x0 x1 : T) : den Tryd.prog G0 ents (Nat.succ n) i_graph_Graph_string_Add none [A.t x0, A.t x1] =
  cl n i_graph_Graph_string_Has [aS x0.s,aL x1.k] fun v0 => bif !(r v0 0).b then rt [aL (mput keyS (r v0 1).k (T.str x0.s) (T.node []))] else rt [aL (r v0 1).k] := by kernel_rfl
theorem q_graph_Graph_string_Has (n : Nat) (x0 x1 : T) : den Tryd.prog G0 ents (Nat.succ n) i_graph_Graph_string_Has none [A.t x0, A.t x1] =
  rt [aB (mhas keyS x1.k (T.str x0.s)),aL x1.k] := by kernel_rfl
theorem q_order_Actions_1 (n : Nat) (x0 x1 x2 : T) : den Tryd.prog G0 ents (Nat.succ n) i_order_Actions_1 none [A.t x0, A.t x1, A.t x2] =
  cl n i_graph_Graph_string_Link [aS x1.s,aS (x0.g 0).s,aL x2.k] fun v0 => rt [aL (r v0 0).k] := by kernel_rfl
theorem q_graph_Graph_string_Link (n : Nat) (x0 x1 x2 : T) : den Tryd.prog G0 ents (Nat.succ n) i_graph_Graph_string_Link none [A.t x0, A.t x1, A.t x2] =
  cl n i_graph_Graph_string_Add [aS x0.s,aL x2.k] fun v0 => cl n i_graph_Graph_string_Add [aS x1.s,aL (r v0 0).k] fun v1 => cl n i_slices_BinarySearch_string [aL (mget keyS (T.node []) (r v1 0).k (T.str x0.s)).k,aS x1.s] fun v2 => bif !(r v2 1).b then cl n i_slices_Clone [aL (mget keyS (T.node []) (r v1 0).k (T.str x0.s)).k] fun v3 => cl n i_slices_Insert [aI (r v2 0).n,aL (r v3 0).k,aL [T.str x1.s]] fun v4 => rt [aL (mput keyS (r v1 0).k (T.str x0.s) (T.node (r v4 1).k))] else rt [aL (r v1 0).k] := by kernel_rfl
theorem q_slices_BinarySearch_string (n : Nat) (x0 x1 : T) : den Tryd.prog G0 ents (Nat.succ n) i_slices_BinarySearch_string none [A.t x0, A.t x1] =
  lp n i_slices_BinarySearch_string p_slices_BinarySearch_string_c1 [aL x0.k,aS x1.s,aI x0.l,aI 0,aI x0.l] fun v0 => bif Nat.beq v0.1 2 then bif lt (r v0.2 3).n (r v0.2 2).n == true then bif ib (r v0.2 3).n (r v0.2 0).l then bif seqB ((r v0.2 0).a (r v0.2 3).n).s (r v0.2 1).s == false then bif ib (r v0.2 3).n (r v0.2 0).l then cl n i_slices_isNaN_string [aS ((r v0.2 0).a (r v0.2 3).n).s] fun v1 => bif (r v1 0).b == true then cl n i_slices_isNaN_string [aS (r v0.2 1).s] fun v2 => rt [aI (r v0.2 3).n,aB (r v2 0).b] else rt [aI (r v0.2 3).n,aB false] else none else rt [aI (r v0.2 3).n,aB true] else none else rt [aI (r v0.2 3).n,aB false] else none := by kernel_rfl
theorem q_slices_BinarySearch_string_c1 (n : Nat) (x0 x1 x2 x3 x4 : T) : den Tryd.prog G0 ents (Nat.succ n) i_slices_BinarySearch_string (some p_slices_BinarySearch_string_c1) [A.t x0, A.t x1, A.t x2, A.t x3, A.t x4] =
  bif lt x3.n x4.n then bif ib (w6 (Int.fdiv (wu (w6 (x3.n + x4.n))) 2)) x0.l then cl n i_cmp_Less_string [aS (x0.a (w6 (Int.fdiv (wu (w6 (x3.n + x4.n))) 2))).s,aS x1.s] fun v0 => bif (r v0 0).b then D n i_slices_BinarySearch_string (some p_slices_BinarySearch_string_c1) [aL x0.k,aS x1.s,aI x2.n,aI (w6 (w6 (Int.fdiv (wu (w6 (x3.n + x4.n))) 2) + 1)),aI x4.n] else D n i_slices_BinarySearch_string (some p_slices_BinarySearch_string_c1) [aL x0.k,aS x1.s,aI x2.n,aI x3.n,aI (w6 (Int.fdiv (wu (w6 (x3.n + x4.n))) 2))] else none else some (2,[aL x0.k,aS x1.s,aI x2.n,aI x3.n]) := by kernel_rfl
theorem q_cmp_Less_string (n : Nat) (x0 x1 : T) : den Tryd.prog G0 ents (Nat.succ n) i_cmp_Less_string none [A.t x0, A.t x1] =
  cl n i_cmp_isNaN_string [aS x0.s] fun v0 => bif (r v0 0).b == true then cl n i_cmp_isNaN_string [aS x1.s] fun v1 => bif (!(r v1 0).b) == false then rt [aB (sltB x0.s x1.s)] else rt [aB true] else rt [aB (sltB x0.s x1.s)] := by kernel_rfl
theorem q_cmp_isNaN_string (n : Nat) (x0 : T) : den Tryd.prog G0 ents (Nat.succ n) i_cmp_isNaN_string none [A.t x0] =
  rt [aB (!(seqB x0.s x0.s))] := by kernel_rfl
theorem q_slices_isNaN_string (n : Nat) (x0 : T) : den Tryd.prog G0 ents (Nat.succ n) i_slices_isNaN_string none [A.t x0] =
  rt [aB (!(seqB x0.s x0.s))] := by kernel_rfl
theorem q_graph_Graph_string_Order (n : Nat) (x0 : T) : den Tryd.prog G0 ents (Nat.succ n) i_graph_Graph_string_Order none [A.t x0] =
  cl n i_graph_Graph_string_Turned [aL x0.k] fun v0 => cl n i_graph_Graph_string_Points [aL (r v0 0).k] fun v1 => lp n i_graph_Graph_string_Order p_graph_Graph_string_Order_c1 [aL (r v1 0).k,aI (r v1 0).l,aI 0,aL (r v1 1).k,aL [],aL [],aL [],aL (r v0 1).k] fun v2 => bif Nat.beq v2.1 2 then lp n i_graph_Graph_string_Order p_graph_Graph_string_Order_c2 [aL (r v2.2 3).k,aL (r v2.2 0).k,aL (r v2.2 1).k,aL (r v2.2 2).k,aL (r v2.2 4).k] fun v3 => bif Nat.beq v3.1 4 then cl n i_maps_Keys_map_string_int_string_int [aL (r v3.2 2).k] fun v4 => cl n i_slices_Sorted [aL (r v4 0).k] fun v5 => rt [aL (r v5 0).k,aL (r v3.2 0).k,aL (r v3.2 1).k] else none else none := by kernel_rfl
theorem q_graph_Graph_string_Order_c1 (n : Nat) (x0 x1 x2 x3 x4 x5 x6 x7 : T) : den Tryd.prog G0 ents (Nat.succ n) i_graph_Graph_string_Order (some p_graph_Graph_string_Order_c1) [A.t x0, A.t x1, A.t x2, A.t x3, A.t x4, A.t x5, A.t x6, A.t x7] =
  bif lt x2.n x1.n then bif ib x2.n x0.l then cl n i_graph_Graph_string_To [aS (x0.a x2.n).s,aL x3.k] fun v0 => bif (mget keyS (T.int 0) (mput keyS x5.k (T.str (x0.a x2.n).s) (T.int (r v0 1).l)) (T.str (x0.a x2.n).s)).n == 0 then bif decide (Nat.succ (List.length x6.k) < 1073741824) then D n i_graph_Graph_string_Order (some p_graph_Graph_string_Order_c1) [aL x0.k,aI x1.n,aI (w6 (x2.n + 1)),aL (r v0 0).k,aL x4.k,aL (mput keyS x5.k (T.str (x0.a x2.n).s) (T.int (r v0 1).l)),aL (x6.k ++ [T.str (x0.a x2.n).s]),aL x7.k] else none else D n i_graph_Graph_string_Order (some p_graph_Graph_string_Order_c1) [aL x0.k,aI x1.n,aI (w6 (x2.n + 1)),aL (r v0 0).k,aL x4.k,aL (mput keyS x5.k (T.str (x0.a x2.n).s) (T.int (r v0 1).l)),aL x6.k,aL x7.k] else none else some (2,[aL x3.k,aL x4.k,aL x5.k,aL x6.k,aL x7.k]) := by kernel_rfl
theorem q_graph_Graph_string_Order_c2 (n : Nat) (x0 x1 x2 x3 x4 : T) : den Tryd.prog G0 ents (Nat.succ n) i_graph_Graph_string_Order (some p_graph_Graph_string_Order_c2) [A.t x0, A.t x1, A.t x2, A.t x3, A.t x4] =
  bif gt x0.l 0 then cl n i_graph_least_string [aL x0.k] fun v0 => bif decide (Nat.succ (List.length x2.k) < 1073741824) then cl n i_graph_Graph_string_To [aS (r v0 0).s,aL x4.k] fun v1 => lp n i_graph_Graph_string_Order p_graph_Graph_string_Order_c3 [aL (r v0 1).k,aI (r v1 1).l,aI 0,aL x1.k,aL (x2.k ++ [T.str (r v0 0).s]),aL (mdel keyS x3.k (T.str (r v0 0).s)),aL (r v1 1).k,aL (r v1 0).k] fun v2 => bif Nat.beq v2.1 6 then D n i_graph_Graph_string_Order (some p_graph_Graph_string_Order_c2) [aL (r v2.2 0).k,aL (r v2.2 1).k,aL (r v2.2 2).k,aL (r v2.2 3).k,aL (r v2.2 4).k] else none else none else some (4,[aL x1.k,aL x2.k,aL x3.k]) := by kernel_rfl
theorem q_graph_Graph_string_Order_c3 (n : Nat) (x0 x1 x2 x3 x4 x5 x6 x7 : T) : den Tryd.prog G0 ents (Nat.succ n) i_graph_Graph_string_Order (some p_graph_Graph_string_Order_c3) [A.t x0, A.t x1, A.t x2, A.t x3, A.t x4, A.t x5, A.t x6, A.t x7] =
  bif lt x2.n x1.n then bif ib x2.n x6.l then bif decide (Int.toNat x2.n < List.length x6.k) then bif (mget keyS (T.int 0) (mput keyS x5.k (T.str (x6.a x2.n).s) (T.int (w6 ((mget keyS (T.int 0) x5.k (T.str (x6.a x2.n).s)).n - 1)))) (T.str (x6.a x2.n).s)).n == 0 then cl n i_slices_BinarySearch_string [aL x0.k,aS (x6.a x2.n).s] fun v0 => cl n i_slices_Clone [aL x0.k] fun v1 => cl n i_slices_Insert [aI (r v0 0).n,aL (r v1 0).k,aL [T.str (x6.a x2.n).s]] fun v2 => D n i_graph_Graph_string_Order (some p_graph_Graph_string_Order_c3) [aL (r v2 1).k,aI x1.n,aI (w6 (x2.n + 1)),aL x3.k,aL x4.k,aL (mput keyS x5.k (T.str (x6.a x2.n).s) (T.int (w6 ((mget keyS (T.int 0) x5.k (T.str (x6.a x2.n).s)).n - 1)))),aL x6.k,aL x7.k] else D n i_graph_Graph_string_Order (some p_graph_Graph_string_Order_c3) [aL x0.k,aI x1.n,aI (w6 (x2.n + 1)),aL x3.k,aL x4.k,aL (mput keyS x5.k (T.str (x6.a x2.n).s) (T.int (w6 ((mget keyS (T.int 0) x5.k (T.str (x6.a x2.n).s)).n - 1)))),aL x6.k,aL x7.k] else none else none else some (6,[aL x0.k,aL x3.k,aL x4.k,aL x5.k,aL x7.k]) := by kernel_rfl
theorem q_graph_Graph_string_Turned (n : Nat) (x0 : T) : den Tryd.prog G0 ents (Nat.succ n) i_graph_Graph_string_Turned none [A.t x0] =
  cl n i_graph_Graph_string_Points [aL x0.k] fun v0 => cl n i_graph_New_string [aL (r v0 0).k] fun v1 => cl n i_graph_Graph_string_Points [aL (r v0 1).k] fun v2 => lp n i_graph_Graph_string_Turned p_graph_Graph_string_Turned_c1 [aL (r v2 0).k,aI (r v2 0).l,aI 0,aL (r v2 1).k,aL (r v1 0).k] fun v3 => bif Nat.beq v3.1 2 then rt [aL (r v3.2 0).k,aL (r v3.2 1).k] else none := by kernel_rfl
theorem q_graph_Graph_string_Turned_c1 (n : Nat) (x0 x1 x2 x3 x4 : T) : den Tryd.prog G0 ents (Nat.succ n) i_graph_Graph_string_Turned (some p_graph_Graph_string_Turned_c1) [A.t x0, A.t x1, A.t x2, A.t x3, A.t x4] =
  bif lt x2.n x1.n then bif ib x2.n x0.l then cl n i_graph_Graph_string_To [aS (x0.a x2.n).s,aL x3.k] fun v0 => lp n i_graph_Graph_string_Turned p_graph_Graph_string_Turned_c2 [aS (x0.a x2.n).s,aL x0.k,aI x1.n,aI x2.n,aI (r v0 1).l,aI 0,aL (r v0 0).k,aL (r v0 1).k,aL x4.k] fun v1 => bif Nat.beq v1.1 4 then D n i_graph_Graph_string_Turned (some p_graph_Graph_string_Turned_c1) [aL (r v1.2 0).k,aI (r v1.2 1).n,aI (w6 ((r v1.2 2).n + 1)),aL (r v1.2 3).k,aL (r v1.2 4).k] else none else none else some (2,[aL x3.k,aL x4.k]) := by kernel_rfl
theorem q_graph_Graph_string_Turned_c2 (n : Nat) (x0 x1 x2 x3 x4 x5 x6 x7 x8 : T) : den Tryd.prog G0 ents (Nat.succ n) i_graph_Graph_string_Turned (some p_graph_Graph_string_Turned_c2) [A.t x0, A.t x1, A.t x2, A.t x3, A.t x4, A.t x5, A.t x6, A.t x7, A.t x8] =
  bif lt x5.n x4.n then bif ib x5.n x7.l then bif decide (Int.toNat x5.n < List.length x7.k) then cl n i_graph_Graph_string_Link [aS (x7.a x5.n).s,aS x0.s,aL x8.k] fun v0 => D n i_graph_Graph_string_Turned (some p_graph_Graph_string_Turned_c2) [aS x0.s,aL x1.k,aI x2.n,aI x3.n,aI x4.n,aI (w6 (x5.n + 1)),aL x6.k,aL x7.k,aL (r v0 0).k] else none else none else some (4,[aL x1.k,aI x2.n,aI x3.n,aL x6.k,aL x8.k]) := by kernel_rfl
theorem q_graph_Graph_string_Points (n : Nat) (x0 : T) : den Tryd.prog G0 ents (Nat.succ n) i_graph_Graph_string_Points none [A.t x0] =
  cl n i_maps_Keys_map_string_string_string_string [aL x0.k] fun v0 => cl n i_slices_Sorted_l [aL (r v0 0).k] fun v1 => rt [aL (r v1 0).k,aL (r v1 1).k] := by kernel_rfl
theorem q_maps_Keys_map_string_string_string_string (n : Nat) (x0 : T) : den Tryd.prog G0 ents (Nat.succ n) i_maps_Keys_map_string_string_string_string none [A.t x0] =
  rt [aL x0.k] := by kernel_rfl
theorem q_graph_Graph_string_To (n : Nat) (x0 x1 : T) : den Tryd.prog G0 ents (Nat.succ n) i_graph_Graph_string_To none [A.t x0, A.t x1] =
  cl n i_slices_Clone [aL (mget keyS (T.node []) x1.k (T.str x0.s)).k] fun v0 => rt [aL x1.k,aL (r v0 0).k] := by kernel_rfl
theorem q_graph_least_string (n : Nat) (x0 : T) : den Tryd.prog G0 ents (Nat.succ n) i_graph_least_string none [A.t x0] =
  bif lt 0 x0.l then bif Bool.and (Bool.and (Bool.and (le 0 x0.l) (le x0.l x0.l)) true) (le 1 x0.l) then rt [aS (tAtD x0.k 0).s,aL (List.drop 1 (List.take (Int.toNat x0.l) x0.k))] else none else none := by kernel_rfl
theorem q_maps_Keys_map_string_int_string_int (n : Nat) (x0 : T) : den Tryd.prog G0 ents (Nat.succ n) i_maps_Keys_map_string_int_string_int none [A.t x0] =
  rt [aL x0.k] := by kernel_rfl
theorem q_order_own (n : Nat) (x0 : T) : den Tryd.prog G0 ents (Nat.succ n) i_order_own none [A.t x0] =
  cl n i_rank_Copy [A.t ((x0.g 1).g 1)] fun v0 => cl n i_slices_Clone [aL ((x0.g 1).g 2).k] fun v1 => rt [aL [T.int (x0.g 0).n,T.node [T.str ((x0.g 1).g 0).s,r v0 0,T.node (r v1 0).k]]] := by kernel_rfl
theorem q_rank_Copy (n : Nat) (x0 : T) : den Tryd.prog G0 ents (Nat.succ n) i_rank_Copy none [A.t x0] =
  cl n i_slices_Clone_Term [aL (x0.g 0).k] fun v0 => lp n i_rank_Copy p_rank_Copy_c1 [aI (r v0 0).l,aI 0,aL [T.node []],aL (r v0 0).k] fun v1 => bif Nat.beq v1.1 2 then rt [aL [T.node (r v1.2 1).k]] else none := by kernel_rfl
theorem q_rank_Copy_c1 (n : Nat) (x0 x1 x2 x3 : T) : den Tryd.prog G0 ents (Nat.succ n) i_rank_Copy (some p_rank_Copy_c1) [A.t x0, A.t x1, A.t x2, A.t x3] =
  bif lt x1.n x0.n then bif ib x1.n x3.l then bif decide (Int.toNat x1.n < List.length x3.k) then cl n i_slices_Clone_Field [aL ((x3.a x1.n).g 7).k] fun v0 => lp n i_rank_Copy p_rank_Copy_c2 [aI x1.n,aI x0.n,aI x1.n,aI (r v0 0).l,aI 0,A.t x2,aL x3.k,aL (r v0 0).k] fun v1 => bif Nat.beq v1.1 4 then bif ib (r v1.2 0).n (r v1.2 4).l then bif decide (Int.toNat (r v1.2 0).n < List.length (r v1.2 4).k) then D n i_rank_Copy (some p_rank_Copy_c1) [aI (r v1.2 1).n,aI (w6 ((r v1.2 2).n + 1)),A.t (r v1.2 3),aL (List.set (r v1.2 4).k (Int.toNat (r v1.2 0).n) (T.node [((r v1.2 4).a (r v1.2 0).n).g 0,((r v1.2 4).a (r v1.2 0).n).g 1,((r v1.2 4).a (r v1.2 0).n).g 2,((r v1.2 4).a (r v1.2 0).n).g 3,((r v1.2 4).a (r v1.2 0).n).g 4,((r v1.2 4).a (r v1.2 0).n).g 5,((r v1.2 4).a (r v1.2 0).n).g 6,T.node (r v1.2 5).k]))] else none else none else none else none else none else some (2,[A.t x2,aL x3.k]) := by kernel_rfl
theorem q_rank_Copy_c2 (n : Nat) (x0 x1 x2 x3 x4 x5 x6 x7 : T) : den Tryd.prog G0 ents (Nat.succ n) i_rank_Copy (some p_rank_Copy_c2) [A.t x0, A.t x1, A.t x2, A.t x3, A.t x4, A.t x5, A.t x6, A.t x7] =
  bif lt x4.n x3.n then bif ib x4.n x7.l then bif decide (Int.toNat x4.n < List.length x7.k) then cl n i_rank_Copy [A.t ((x7.a x4.n).g 1)] fun v0 => bif ib x4.n x7.l then bif decide (Int.toNat x4.n < List.length x7.k) then D n i_rank_Copy (some p_rank_Copy_c2) [aI x0.n,aI x1.n,aI x2.n,aI x3.n,aI (w6 (x4.n + 1)),A.t x5,aL x6.k,aL (List.set x7.k (Int.toNat x4.n) (T.node [(x7.a x4.n).g 0,r v0 0]))] else none else none else none else none else some (4,[aI x0.n,aI x1.n,aI x2.n,A.t x5,aL x6.k,aL x7.k]) := by kernel_rfl
theorem q_order_Actions_2 (n : Nat) (x0 x1 x2 : T) : den Tryd.prog G0 ents (Nat.succ n) i_order_Actions_2 none [A.t x0, A.t x1, A.t x2] =
  cl n i_graph_Graph_string_Link [aS (x0.g 0).s,aS x1.s,aL x2.k] fun v0 => rt [aL (r v0 0).k] := by kernel_rfl
theorem q_R29_Same (n : Nat) (x0 x1 : T) : den Tryd.prog G0 ents (Nat.succ n) i_R29_Same none [A.t x0, A.t x1] =
  bif seqB (x0.g 0).s (x1.g 0).s == true then cl n i_R08_Same [A.t (x0.g 1),A.t (x1.g 1)] fun v0 => bif (r v0 0).b == true then cl n i_R02_Same [aL (x0.g 2).k,aL (x1.g 2).k] fun v1 => rt [aB (r v1 0).b] else rt [aB false] else rt [aB false] := by kernel_rfl
theorem q_R08_Same (n : Nat) (x0 x1 : T) : den Tryd.prog G0 ents (Nat.succ n) i_R08_Same none [A.t x0, A.t x1] =
  cl n i_R08_Compare [A.t x0,A.t x1] fun v0 => rt [aB ((r v0 0).n == 0)] := by kernel_rfl
theorem q_R08_Compare (n : Nat) (x0 x1 : T) : den Tryd.prog G0 ents (Nat.succ n) i_R08_Compare none [A.t x0, A.t x1] =
  lp n i_R08_Compare p_R08_Compare_c1 [aI 0,A.t x0,A.t x1] fun v0 => bif Nat.beq v0.1 2 then cl n i_R08_nums [aI ((r v0.2 0).g 0).l,aI ((r v0.2 1).g 0).l] fun v1 => rt [aI (r v1 0).n] else bif Nat.beq v0.1 1 then rt [aI (r v0.2 0).n] else none := by kernel_rfl
theorem q_R08_Compare_c1 (n : Nat) (x0 x1 x2 : T) : den Tryd.prog G0 ents (Nat.succ n) i_R08_Compare (some p_R08_Compare_c1) [A.t x0, A.t x1, A.t x2] =
  bif lt x0.n (x1.g 0).l == true then bif lt x0.n (x2.g 0).l then bif ib x0.n (x1.g 0).l then bif ib x0.n (x2.g 0).l then cl n i_R08_Terms [A.t ((x1.g 0).a x0.n),A.t ((x2.g 0).a x0.n)] fun v0 => bif (r v0 0).n != 0 then rt [aI (r v0 0).n] else D n i_R08_Compare (some p_R08_Compare_c1) [aI (w6 (x0.n + 1)),A.t x1,A.t x2] else none else none else some (2,[A.t x1,A.t x2]) else some (2,[A.t x1,A.t x2]) := by kernel_rfl
theorem q_R08_Terms (n : Nat) (x0 x1 : T) : den Tryd.prog G0 ents (Nat.succ n) i_R08_Terms none [A.t x0, A.t x1] =
  cl n i_R08_plain [A.t x0,A.t x1] fun v0 => bif (r v0 0).n != 0 then rt [aI (r v0 0).n] else lp n i_R08_Terms p_R08_Terms_c1 [aI 0,A.t x0,A.t x1] fun v1 => bif Nat.beq v1.1 2 then cl n i_R08_nums [aI ((r v1.2 0).g 7).l,aI ((r v1.2 1).g 7).l] fun v2 => rt [aI (r v2 0).n] else bif Nat.beq v1.1 1 then rt [aI (r v1.2 0).n] else none := by kernel_rfl
theorem q_R08_Terms_c1 (n : Nat) (x0 x1 x2 : T) : den Tryd.prog G0 ents (Nat.succ n) i_R08_Terms (some p_R08_Terms_c1) [A.t x0, A.t x1, A.t x2] =
  bif lt x0.n (x1.g 7).l == true then bif lt x0.n (x2.g 7).l then bif ib x0.n (x1.g 7).l then bif ib x0.n (x2.g 7).l then cl n i_R08_texts [aS (((x1.g 7).a x0.n).g 0).s,aS (((x2.g 7).a x0.n).g 0).s] fun v0 => bif (r v0 0).n == 0 then bif ib x0.n (x1.g 7).l then bif ib x0.n (x2.g 7).l then cl n i_R08_Compare [A.t (((x1.g 7).a x0.n).g 1),A.t (((x2.g 7).a x0.n).g 1)] fun v1 => bif (r v1 0).n != 0 then rt [aI (r v1 0).n] else D n i_R08_Terms (some p_R08_Terms_c1) [aI (w6 (x0.n + 1)),A.t x1,A.t x2] else none else none else bif (r v0 0).n != 0 then rt [aI (r v0 0).n] else D n i_R08_Terms (some p_R08_Terms_c1) [aI (w6 (x0.n + 1)),A.t x1,A.t x2] else none else none else some (2,[A.t x1,A.t x2]) else some (2,[A.t x1,A.t x2]) := by kernel_rfl
theorem q_R08_plain (n : Nat) (x0 x1 : T) : den Tryd.prog G0 ents (Nat.succ n) i_R08_plain none [A.t x0, A.t x1] =
  bif (x0.g 0).n != (x1.g 0).n then cl n i_R08_nums [aI (x0.g 0).n,aI (x1.g 0).n] fun v0 => rt [aI (r v0 0).n] else bif (x0.g 1).n != (x1.g 1).n then cl n i_R08_nums [aI (x0.g 1).n,aI (x1.g 1).n] fun v0 => rt [aI (r v0 0).n] else bif (x0.g 2).n != (x1.g 2).n then cl n i_R08_nums [aI (x0.g 2).n,aI (x1.g 2).n] fun v0 => rt [aI (r v0 0).n] else bif !(seqB (x0.g 3).s (x1.g 3).s) then cl n i_R08_texts [aS (x0.g 3).s,aS (x1.g 3).s] fun v0 => rt [aI (r v0 0).n] else bif !((x0.g 4).b == (x1.g 4).b) then cl n i_R08_bools [aB (x0.g 4).b,aB (x1.g 4).b] fun v0 => rt [aI (r v0 0).n] else bif !((x0.g 5).b == (x1.g 5).b) then cl n i_R08_bools [aB (x0.g 5).b,aB (x1.g 5).b] fun v0 => rt [aI (r v0 0).n] else cl n i_R08_bools [aB (x0.g 6).b,aB (x1.g 6).b] fun v0 => rt [aI (r v0 0).n] := by kernel_rfl
theorem q_R08_nums (n : Nat) (x0 x1 : T) : den Tryd.prog G0 ents (Nat.succ n) i_R08_nums none [A.t x0, A.t x1] =
  bif lt x0.n x1.n then rt [aI (-1)] else bif gt x0.n x1.n then rt [aI 1] else rt [aI 0] := by kernel_rfl
theorem q_R08_texts (n : Nat) (x0 x1 : T) : den Tryd.prog G0 ents (Nat.succ n) i_R08_texts none [A.t x0, A.t x1] =
  bif sltB x0.s x1.s then rt [aI (-1)] else bif !(Bool.or (sltB x0.s x1.s) (seqB x0.s x1.s)) then rt [aI 1] else rt [aI 0] := by kernel_rfl
theorem q_R08_bools (n : Nat) (x0 x1 : T) : den Tryd.prog G0 ents (Nat.succ n) i_R08_bools none [A.t x0, A.t x1] =
  bif x0.b == x1.b then rt [aI 0] else bif x1.b then rt [aI (-1)] else rt [aI 1] := by kernel_rfl
theorem q_R02_Same (n : Nat) (x0 x1 : T) : den Tryd.prog G0 ents (Nat.succ n) i_R02_Same none [A.t x0, A.t x1] =
  bif x0.l != x1.l then rt [aB false] else lp n i_R02_Same p_R02_Same_c1 [aL x0.k,aL x1.k,aI 0] fun v0 => bif Nat.beq v0.1 2 then rt [aB true] else bif Nat.beq v0.1 1 then rt [aB (r v0.2 0).b] else none := by kernel_rfl
theorem q_R02_Same_c1 (n : Nat) (x0 x1 x2 : T) : den Tryd.prog G0 ents (Nat.succ n) i_R02_Same (some p_R02_Same_c1) [A.t x0, A.t x1, A.t x2] =
  bif lt x2.n x0.l then bif ib x2.n x0.l then bif ib x2.n x1.l then bif !(seqB (x0.a x2.n).s (x1.a x2.n).s) then rt [aB false] else D n i_R02_Same (some p_R02_Same_c1) [aL x0.k,aL x1.k,aI (w6 (x2.n + 1))] else none else none else some (2,[]) := by kernel_rfl
theorem q_R33_Early (n : Nat) (x0 : T) : den Tryd.prog G0 ents (Nat.succ n) i_R33_Early none [A.t x0] =
  lp n i_R33_Early p_R33_Early_c1 [aL x0.k,aI 0] fun v0 => bif Nat.beq v0.1 2 then rt [aI (-1)] else bif Nat.beq v0.1 1 then rt [aI (r v0.2 0).n] else none := by kernel_rfl
end Go.Proofs.YtjnbggianlgjiaaDoorOH
set_option linter.unusedVariables false
set_option maxRecDepth 100000
namespace Go.Proofs.YtjnbggianlgjiaaDoorOH
open Go Go.Proofs.YtjnbggianlgjiaaDoorVM Go.Proofs
theorem q_R33_Early_c1 (n : Nat) (x0 x1 : T) : den Tryd.prog G0 ents (Nat.succ n) i_R33_Early (some p_R33_Early_c1) [A.t x0, A.t x1] =
  bif lt x1.n x0.l then lp n i_R33_Early p_R33_Early_c2 [aL x0.k,aI x1.n,aI 0] fun v0 => bif Nat.beq v0.1 4 then D n i_R33_Early (some p_R33_Early_c1) [aL (r v0.2 0).k,aI (w6 ((r v0.2 1).n + 1))] else bif Nat.beq v0.1 1 then rt [aI (r v0.2 0).n] else none else some (2,[]) := by kernel_rfl
theorem q_R33_Early_c2 (n : Nat) (x0 x1 x2 : T) : den Tryd.prog G0 ents (Nat.succ n) i_R33_Early (some p_R33_Early_c2) [A.t x0, A.t x1, A.t x2] =
  bif lt x2.n x0.l then bif ib x1.n x0.l then bif ib x2.n x0.l then bif (((x0.a x1.n).g 0).n == 1) == true then bif (!(((x0.a x2.n).g 0).n == 1)) == true then bif lt x2.n x1.n == false then bif (((x0.a x1.n).g 0).n == 1) == true then bif (((x0.a x2.n).g 0).n == 1) == true then bif gt x2.n x1.n == true then bif ib x2.n x0.l then bif ib x1.n x0.l then cl n i_R17_Has [aL (((x0.a x2.n).g 1).g 2).k,aS (((x0.a x1.n).g 1).g 0).s] fun v0 => bif (r v0 0).b == false then bif (!(((x0.a x1.n).g 0).n == 1)) == true then bif (!(((x0.a x2.n).g 0).n == 1)) == true then bif gt x2.n x1.n == true then bif ib x1.n x0.l then bif ib x2.n x0.l then cl n i_R17_Has [aL (((x0.a x1.n).g 1).g 2).k,aS (((x0.a x2.n).g 1).g 0).s] fun v1 => bif (r v1 0).b then rt [aI x1.n] else D n i_R33_Early (some p_R33_Early_c2) [aL x0.k,aI x1.n,aI (w6 (x2.n + 1))] else none else none else D n i_R33_Early (some p_R33_Early_c2) [aL x0.k,aI x1.n,aI (w6 (x2.n + 1))] else D n i_R33_Early (some p_R33_Early_c2) [aL x0.k,aI x1.n,aI (w6 (x2.n + 1))] else D n i_R33_Early (some p_R33_Early_c2) [aL x0.k,aI x1.n,aI (w6 (x2.n + 1))] else rt [aI x1.n] else none else none else bif (!(((x0.a x1.n).g 0).n == 1)) == true then bif (!(((x0.a x2.n).g 0).n == 1)) == true then bif gt x2.n x1.n == true then bif ib x1.n x0.l then bif ib x2.n x0.l then cl n i_R17_Has [aL (((x0.a x1.n).g 1).g 2).k,aS (((x0.a x2.n).g 1).g 0).s] fun v0 => bif (r v0 0).b then rt [aI x1.n] else D n i_R33_Early (some p_R33_Early_c2) [aL x0.k,aI x1.n,aI (w6 (x2.n + 1))] else none else none else D n i_R33_Early (some p_R33_Early_c2) [aL x0.k,aI x1.n,aI (w6 (x2.n + 1))] else D n i_R33_Early (some p_R33_Early_c2) [aL x0.k,aI x1.n,aI (w6 (x2.n + 1))] else D n i_R33_Early (some p_R33_Early_c2) [aL x0.k,aI x1.n,aI (w6 (x2.n + 1))] else bif (!(((x0.a x1.n).g 0).n == 1)) == true then bif (!(((x0.a x2.n).g 0).n == 1)) == true then bif gt x2.n x1.n == true then bif ib x1.n x0.l then bif ib x2.n x0.l then cl n i_R17_Has [aL (((x0.a x1.n).g 1).g 2).k,aS (((x0.a x2.n).g 1).g 0).s] fun v0 => bif (r v0 0).b then rt [aI x1.n] else D n i_R33_Early (some p_R33_Early_c2) [aL x0.k,aI x1.n,aI (w6 (x2.n + 1))] else none else none else D n i_R33_Early (some p_R33_Early_c2) [aL x0.k,aI x1.n,aI (w6 (x2.n + 1))] else D n i_R33_Early (some p_R33_Early_c2) [aL x0.k,aI x1.n,aI (w6 (x2.n + 1))] else D n i_R33_Early (some p_R33_Early_c2) [aL x0.k,aI x1.n,aI (w6 (x2.n + 1))] else bif (!(((x0.a x1.n).g 0).n == 1)) == true then bif (!(((x0.a x2.n).g 0).n == 1)) == true then bif gt x2.n x1.n == true then bif ib x1.n x0.l then bif ib x2.n x0.l then cl n i_R17_Has [aL (((x0.a x1.n).g 1).g 2).k,aS (((x0.a x2.n).g 1).g 0).s] fun v0 => bif (r v0 0).b then rt [aI x1.n] else D n i_R33_Early (some p_R33_Early_c2) [aL x0.k,aI x1.n,aI (w6 (x2.n + 1))] else none else none else D n i_R33_Early (some p_R33_Early_c2) [aL x0.k,aI x1.n,aI (w6 (x2.n + 1))] else D n i_R33_Early (some p_R33_Early_c2) [aL x0.k,aI x1.n,aI (w6 (x2.n + 1))] else D n i_R33_Early (some p_R33_Early_c2) [aL x0.k,aI x1.n,aI (w6 (x2.n + 1))] else rt [aI x1.n] else bif (((x0.a x1.n).g 0).n == 1) == true then bif (((x0.a x2.n).g 0).n == 1) == true then bif gt x2.n x1.n == true then bif ib x2.n x0.l then bif ib x1.n x0.l then cl n i_R17_Has [aL (((x0.a x2.n).g 1).g 2).k,aS (((x0.a x1.n).g 1).g 0).s] fun v0 => bif (r v0 0).b == false then bif (!(((x0.a x1.n).g 0).n == 1)) == true then bif (!(((x0.a x2.n).g 0).n == 1)) == true then bif gt x2.n x1.n == true then bif ib x1.n x0.l then bif ib x2.n x0.l then cl n i_R17_Has [aL (((x0.a x1.n).g 1).g 2).k,aS (((x0.a x2.n).g 1).g 0).s] fun v1 => bif (r v1 0).b then rt [aI x1.n] else D n i_R33_Early (some p_R33_Early_c2) [aL x0.k,aI x1.n,aI (w6 (x2.n + 1))] else none else none else D n i_R33_Early (some p_R33_Early_c2) [aL x0.k,aI x1.n,aI (w6 (x2.n + 1))] else D n i_R33_Early (some p_R33_Early_c2) [aL x0.k,aI x1.n,aI (w6 (x2.n + 1))] else D n i_R33_Early (some p_R33_Early_c2) [aL x0.k,aI x1.n,aI (w6 (x2.n + 1))] else rt [aI x1.n] else none else none else bif (!(((x0.a x1.n).g 0).n == 1)) == true then bif (!(((x0.a x2.n).g 0).n == 1)) == true then bif gt x2.n x1.n == true then bif ib x1.n x0.l then bif ib x2.n x0.l then cl n i_R17_Has [aL (((x0.a x1.n).g 1).g 2).k,aS (((x0.a x2.n).g 1).g 0).s] fun v0 => bif (r v0 0).b then rt [aI x1.n] else D n i_R33_Early (some p_R33_Early_c2) [aL x0.k,aI x1.n,aI (w6 (x2.n + 1))] else none else none else D n i_R33_Early (some p_R33_Early_c2) [aL x0.k,aI x1.n,aI (w6 (x2.n + 1))] else D n i_R33_Early (some p_R33_Early_c2) [aL x0.k,aI x1.n,aI (w6 (x2.n + 1))] else D n i_R33_Early (some p_R33_Early_c2) [aL x0.k,aI x1.n,aI (w6 (x2.n + 1))] else bif (!(((x0.a x1.n).g 0).n == 1)) == true then bif (!(((x0.a x2.n).g 0).n == 1)) == true then bif gt x2.n x1.n == true then bif ib x1.n x0.l then bif ib x2.n x0.l then cl n i_R17_Has [aL (((x0.a x1.n).g 1).g 2).k,aS (((x0.a x2.n).g 1).g 0).s] fun v0 => bif (r v0 0).b then rt [aI x1.n] else D n i_R33_Early (some p_R33_Early_c2) [aL x0.k,aI x1.n,aI (w6 (x2.n + 1))] else none else none else D n i_R33_Early (some p_R33_Early_c2) [aL x0.k,aI x1.n,aI (w6 (x2.n + 1))] else D n i_R33_Early (some p_R33_Early_c2) [aL x0.k,aI x1.n,aI (w6 (x2.n + 1))] else D n i_R33_Early (some p_R33_Early_c2) [aL x0.k,aI x1.n,aI (w6 (x2.n + 1))] else bif (!(((x0.a x1.n).g 0).n == 1)) == true then bif (!(((x0.a x2.n).g 0).n == 1)) == true then bif gt x2.n x1.n == true then bif ib x1.n x0.l then bif ib x2.n x0.l then cl n i_R17_Has [aL (((x0.a x1.n).g 1).g 2).k,aS (((x0.a x2.n).g 1).g 0).s] fun v0 => bif (r v0 0).b then rt [aI x1.n] else D n i_R33_Early (some p_R33_Early_c2) [aL x0.k,aI x1.n,aI (w6 (x2.n + 1))] else none else none else D n i_R33_Early (some p_R33_Early_c2) [aL x0.k,aI x1.n,aI (w6 (x2.n + 1))] else D n i_R33_Early (some p_R33_Early_c2) [aL x0.k,aI x1.n,aI (w6 (x2.n + 1))] else D n i_R33_Early (some p_R33_Early_c2) [aL x0.k,aI x1.n,aI (w6 (x2.n + 1))] else bif (((x0.a x1.n).g 0).n == 1) == true then bif (((x0.a x2.n).g 0).n == 1) == true then bif gt x2.n x1.n == true then bif ib x2.n x0.l then bif ib x1.n x0.l then cl n i_R17_Has [aL (((x0.a x2.n).g 1).g 2).k,aS (((x0.a x1.n).g 1).g 0).s] fun v0 => bif (r v0 0).b == false then bif (!(((x0.a x1.n).g 0).n == 1)) == true then bif (!(((x0.a x2.n).g 0).n == 1)) == true then bif gt x2.n x1.n == true then bif ib x1.n x0.l then bif ib x2.n x0.l then cl n i_R17_Has [aL (((x0.a x1.n).g 1).g 2).k,aS (((x0.a x2.n).g 1).g 0).s] fun v1 => bif (r v1 0).b then rt [aI x1.n] else D n i_R33_Early (some p_R33_Early_c2) [aL x0.k,aI x1.n,aI (w6 (x2.n + 1))] else none else none else D n i_R33_Early (some p_R33_Early_c2) [aL x0.k,aI x1.n,aI (w6 (x2.n + 1))] else D n i_R33_Early (some p_R33_Early_c2) [aL x0.k,aI x1.n,aI (w6 (x2.n + 1))] else D n i_R33_Early (some p_R33_Early_c2) [aL x0.k,aI x1.n,aI (w6 (x2.n + 1))] else rt [aI x1.n] else none else none else bif (!(((x0.a x1.n).g 0).n == 1)) == true then bif (!(((x0.a x2.n).g 0).n == 1)) == true then bif gt x2.n x1.n == true then bif ib x1.n x0.l then bif ib x2.n x0.l then cl n i_R17_Has [aL (((x0.a x1.n).g 1).g 2).k,aS (((x0.a x2.n).g 1).g 0).s] fun v0 => bif (r v0 0).b then rt [aI x1.n] else D n i_R33_Early (some p_R33_Early_c2) [aL x0.k,aI x1.n,aI (w6 (x2.n + 1))] else none else none else D n i_R33_Early (some p_R33_Early_c2) [aL x0.k,aI x1.n,aI (w6 (x2.n + 1))] else D n i_R33_Early (some p_R33_Early_c2) [aL x0.k,aI x1.n,aI (w6 (x2.n + 1))] else D n i_R33_Early (some p_R33_Early_c2) [aL x0.k,aI x1.n,aI (w6 (x2.n + 1))] else bif (!(((x0.a x1.n).g 0).n == 1)) == true then bif (!(((x0.a x2.n).g 0).n == 1)) == true then bif gt x2.n x1.n == true then bif ib x1.n x0.l then bif ib x2.n x0.l then cl n i_R17_Has [aL (((x0.a x1.n).g 1).g 2).k,aS (((x0.a x2.n).g 1).g 0).s] fun v0 => bif (r v0 0).b then rt [aI x1.n] else D n i_R33_Early (some p_R33_Early_c2) [aL x0.k,aI x1.n,aI (w6 (x2.n + 1))] else none else none else D n i_R33_Early (some p_R33_Early_c2) [aL x0.k,aI x1.n,aI (w6 (x2.n + 1))] else D n i_R33_Early (some p_R33_Early_c2) [aL x0.k,aI x1.n,aI (w6 (x2.n + 1))] else D n i_R33_Early (some p_R33_Early_c2) [aL x0.k,aI x1.n,aI (w6 (x2.n + 1))] else bif (!(((x0.a x1.n).g 0).n == 1)) == true then bif (!(((x0.a x2.n).g 0).n == 1)) == true then bif gt x2.n x1.n == true then bif ib x1.n x0.l then bif ib x2.n x0.l then cl n i_R17_Has [aL (((x0.a x1.n).g 1).g 2).k,aS (((x0.a x2.n).g 1).g 0).s] fun v0 => bif (r v0 0).b then rt [aI x1.n] else D n i_R33_Early (some p_R33_Early_c2) [aL x0.k,aI x1.n,aI (w6 (x2.n + 1))] else none else none else D n i_R33_Early (some p_R33_Early_c2) [aL x0.k,aI x1.n,aI (w6 (x2.n + 1))] else D n i_R33_Early (some p_R33_Early_c2) [aL x0.k,aI x1.n,aI (w6 (x2.n + 1))] else D n i_R33_Early (some p_R33_Early_c2) [aL x0.k,aI x1.n,aI (w6 (x2.n + 1))] else none else none else some (4,[aL x0.k,aI x1.n]) := by kernel_rfl
theorem q_R17_Has (n : Nat) (x0 x1 : T) : den Tryd.prog G0 ents (Nat.succ n) i_R17_Has none [A.t x0, A.t x1] =
  lp n i_R17_Has p_R17_Has_c1 [aL x0.k,aS x1.s,aI 0] fun v0 => bif Nat.beq v0.1 2 then rt [aB false] else bif Nat.beq v0.1 1 then rt [aB (r v0.2 0).b] else none := by kernel_rfl
theorem q_R17_Has_c1 (n : Nat) (x0 x1 x2 : T) : den Tryd.prog G0 ents (Nat.succ n) i_R17_Has (some p_R17_Has_c1) [A.t x0, A.t x1, A.t x2] =
  bif lt x2.n x0.l then bif ib x2.n x0.l then bif seqB (x0.a x2.n).s x1.s then rt [aB true] else D n i_R17_Has (some p_R17_Has_c1) [aL x0.k,aS x1.s,aI (w6 (x2.n + 1))] else none else some (2,[]) := by kernel_rfl
theorem q_order_Early (n : Nat) (x0 : T) : den Tryd.prog G0 ents (Nat.succ n) i_order_Early none [A.t x0] =
  cl n i_slices_IndexFunc_Action_Early1 [aL x0.k,aL x0.k] fun v0 => rt [aI (r v0 0).n] := by kernel_rfl
theorem q_slices_IndexFunc_Action_Early1 (n : Nat) (x0 x1 : T) : den Tryd.prog G0 ents (Nat.succ n) i_slices_IndexFunc_Action_Early1 none [A.t x0, A.t x1] =
  lp n i_slices_IndexFunc_Action_Early1 p_slices_IndexFunc_Action_Early1_c1 [aL x0.k,aI x0.l,aI 0,aL x1.k] fun v0 => bif Nat.beq v0.1 2 then rt [aI (-1),aL (r v0.2 0).k] else bif Nat.beq v0.1 1 then rt [aI (r v0.2 0).n,aL (r v0.2 1).k] else none := by kernel_rfl
theorem q_slices_IndexFunc_Action_Early1_c1 (n : Nat) (x0 x1 x2 x3 : T) : den Tryd.prog G0 ents (Nat.succ n) i_slices_IndexFunc_Action_Early1 (some p_slices_IndexFunc_Action_Early1_c1) [A.t x0, A.t x1, A.t x2, A.t x3] =
  bif lt x2.n x1.n then bif ib x2.n x0.l then cl n i_order_Early_1 [A.t (x0.a x2.n),aL x3.k] fun v0 => bif (r v0 0).b then rt [aI x2.n,aL (r v0 1).k] else D n i_slices_IndexFunc_Action_Early1 (some p_slices_IndexFunc_Action_Early1_c1) [aL x0.k,aI x1.n,aI (w6 (x2.n + 1)),aL (r v0 1).k] else none else some (2,[aL x3.k]) := by kernel_rfl
theorem q_order_Early_1 (n : Nat) (x0 x1 : T) : den Tryd.prog G0 ents (Nat.succ n) i_order_Early_1 none [A.t x0, A.t x1] =
  cl n i_slices_IndexFunc_Action_Early11 [aL x1.k,A.t x0] fun v0 => cl n i_order_deletes [A.t (r v0 1)] fun v1 => bif (r v1 0).b then bif Bool.and (Bool.and (Bool.and (le 0 (r v0 0).n) (le (r v0 0).n x1.l)) true) (le 0 (r v0 0).n) then cl n i_slices_ContainsFunc_Action_Early12 [aL (List.drop 0 (List.take (Int.toNat (r v0 0).n) x1.k))] fun v2 => bif (r v2 0).b == false then bif Bool.and (Bool.and (Bool.and (le 0 x1.l) (le x1.l x1.l)) (le 0 (w6 ((r v0 0).n + 1)))) (le (w6 ((r v0 0).n + 1)) x1.l) then cl n i_slices_ContainsFunc_Action_Early13 [aL (List.drop (Int.toNat (w6 ((r v0 0).n + 1))) (List.take (Int.toNat x1.l) x1.k)),A.t (r v0 1)] fun v3 => rt [aB (r v3 0).b,aL x1.k] else none else rt [aB true,aL x1.k] else none else bif Bool.and (Bool.and (Bool.and (le 0 x1.l) (le x1.l x1.l)) (le 0 (w6 ((r v0 0).n + 1)))) (le (w6 ((r v0 0).n + 1)) x1.l) then cl n i_slices_ContainsFunc_Action_Early14 [aL (List.drop (Int.toNat (w6 ((r v0 0).n + 1))) (List.take (Int.toNat x1.l) x1.k)),A.t (r v0 1)] fun v2 => rt [aB (r v2 0).b,aL x1.k] else none := by kernel_rfl
theorem q_slices_IndexFunc_Action_Early11 (n : Nat) (x0 x1 : T) : den Tryd.prog G0 ents (Nat.succ n) i_slices_IndexFunc_Action_Early11 none [A.t x0, A.t x1] =
  lp n i_slices_IndexFunc_Action_Early11 p_slices_IndexFunc_Action_Early11_c1 [aL x0.k,aI x0.l,aI 0,A.t x1] fun v0 => bif Nat.beq v0.1 2 then rt [aI (-1),A.t (r v0.2 0)] else bif Nat.beq v0.1 1 then rt [aI (r v0.2 0).n,A.t (r v0.2 1)] else none := by kernel_rfl
theorem q_slices_IndexFunc_Action_Early11_c1 (n : Nat) (x0 x1 x2 x3 : T) : den Tryd.prog G0 ents (Nat.succ n) i_slices_IndexFunc_Action_Early11 (some p_slices_IndexFunc_Action_Early11_c1) [A.t x0, A.t x1, A.t x2, A.t x3] =
  bif lt x2.n x1.n then bif ib x2.n x0.l then cl n i_order_Early_1_1 [A.t (x0.a x2.n),A.t x3] fun v0 => bif (r v0 0).b then rt [aI x2.n,A.t (r v0 1)] else D n i_slices_IndexFunc_Action_Early11 (some p_slices_IndexFunc_Action_Early11_c1) [aL x0.k,aI x1.n,aI (w6 (x2.n + 1)),A.t (r v0 1)] else none else some (2,[A.t x3]) := by kernel_rfl
theorem q_order_Early_1_1 (n : Nat) (x0 x1 : T) : den Tryd.prog G0 ents (Nat.succ n) i_order_Early_1_1 none [A.t x0, A.t x1] =
  rt [aB (seqB ((x0.g 1).g 0).s ((x1.g 1).g 0).s),A.t x1] := by kernel_rfl
theorem q_slices_ContainsFunc_Action_Early12 (n : Nat) (x0 : T) : den Tryd.prog G0 ents (Nat.succ n) i_slices_ContainsFunc_Action_Early12 none [A.t x0] =
  cl n i_slices_IndexFunc_Action_Early12 [aL x0.k] fun v0 => rt [aB (ge (r v0 0).n 0)] := by kernel_rfl
theorem q_slices_IndexFunc_Action_Early12 (n : Nat) (x0 : T) : den Tryd.prog G0 ents (Nat.succ n) i_slices_IndexFunc_Action_Early12 none [A.t x0] =
  lp n i_slices_IndexFunc_Action_Early12 p_slices_IndexFunc_Action_Early12_c1 [aL x0.k,aI x0.l,aI 0] fun v0 => bif Nat.beq v0.1 2 then rt [aI (-1)] else bif Nat.beq v0.1 1 then rt [aI (r v0.2 0).n] else none := by kernel_rfl
theorem q_slices_IndexFunc_Action_Early12_c1 (n : Nat) (x0 x1 x2 : T) : den Tryd.prog G0 ents (Nat.succ n) i_slices_IndexFunc_Action_Early12 (some p_slices_IndexFunc_Action_Early12_c1) [A.t x0, A.t x1, A.t x2] =
  bif lt x2.n x1.n then bif ib x2.n x0.l then cl n i_order_Early_1_2 [A.t (x0.a x2.n)] fun v0 => bif (r v0 0).b then rt [aI x2.n] else D n i_slices_IndexFunc_Action_Early12 (some p_slices_IndexFunc_Action_Early12_c1) [aL x0.k,aI x1.n,aI (w6 (x2.n + 1))] else none else some (2,[]) := by kernel_rfl
theorem q_order_Early_1_2 (n : Nat) (x0 : T) : den Tryd.prog G0 ents (Nat.succ n) i_order_Early_1_2 none [A.t x0] =
  cl n i_order_deletes [A.t x0] fun v0 => rt [aB (!(r v0 0).b)] := by kernel_rfl
theorem q_slices_ContainsFunc_Action_Early13 (n : Nat) (x0 x1 : T) : den Tryd.prog G0 ents (Nat.succ n) i_slices_ContainsFunc_Action_Early13 none [A.t x0, A.t x1] =
  cl n i_slices_IndexFunc_Action_Early13 [aL x0.k,A.t x1] fun v0 => rt [aB (ge (r v0 0).n 0),A.t (r v0 1)] := by kernel_rfl
theorem q_slices_IndexFunc_Action_Early13 (n : Nat) (x0 x1 : T) : den Tryd.prog G0 ents (Nat.succ n) i_slices_IndexFunc_Action_Early13 none [A.t x0, A.t x1] =
  lp n i_slices_IndexFunc_Action_Early13 p_slices_IndexFunc_Action_Early13_c1 [aL x0.k,aI x0.l,aI 0,A.t x1] fun v0 => bif Nat.beq v0.1 2 then rt [aI (-1),A.t (r v0.2 0)] else bif Nat.beq v0.1 1 then rt [aI (r v0.2 0).n,A.t (r v0.2 1)] else none := by kernel_rfl
theorem q_slices_IndexFunc_Action_Early13_c1 (n : Nat) (x0 x1 x2 x3 : T) : den Tryd.prog G0 ents (Nat.succ n) i_slices_IndexFunc_Action_Early13 (some p_slices_IndexFunc_Action_Early13_c1) [A.t x0, A.t x1, A.t x2, A.t x3] =
  bif lt x2.n x1.n then bif ib x2.n x0.l then cl n i_order_Early_1_3 [A.t (x0.a x2.n),A.t x3] fun v0 => bif (r v0 0).b then rt [aI x2.n,A.t (r v0 1)] else D n i_slices_IndexFunc_Action_Early13 (some p_slices_IndexFunc_Action_Early13_c1) [aL x0.k,aI x1.n,aI (w6 (x2.n + 1)),A.t (r v0 1)] else none else some (2,[A.t x3]) := by kernel_rfl
theorem q_order_Early_1_3 (n : Nat) (x0 x1 : T) : den Tryd.prog G0 ents (Nat.succ n) i_order_Early_1_3 none [A.t x0, A.t x1] =
  cl n i_order_deletes [A.t x0] fun v0 => bif (r v0 0).b == true then cl n i_slices_Contains_string [aL ((x0.g 1).g 2).k,aS ((x1.g 1).g 0).s] fun v1 => rt [aB (r v1 0).b,A.t x1] else rt [aB false,A.t x1] := by kernel_rfl
theorem q_slices_Contains_string (n : Nat) (x0 x1 : T) : den Tryd.prog G0 ents (Nat.succ n) i_slices_Contains_string none [A.t x0, A.t x1] =
  cl n i_slices_Index_string [aL x0.k,aS x1.s] fun v0 => rt [aB (ge (r v0 0).n 0)] := by kernel_rfl
theorem q_slices_Index_string (n : Nat) (x0 x1 : T) : den Tryd.prog G0 ents (Nat.succ n) i_slices_Index_string none [A.t x0, A.t x1] =
  lp n i_slices_Index_string p_slices_Index_string_c1 [aL x0.k,aS x1.s,aI x0.l,aI 0] fun v0 => bif Nat.beq v0.1 2 then rt [aI (-1)] else bif Nat.beq v0.1 1 then rt [aI (r v0.2 0).n] else none := by kernel_rfl
theorem q_slices_Index_string_c1 (n : Nat) (x0 x1 x2 x3 : T) : den Tryd.prog G0 ents (Nat.succ n) i_slices_Index_string (some p_slices_Index_string_c1) [A.t x0, A.t x1, A.t x2, A.t x3] =
  bif lt x3.n x2.n then bif ib x3.n x0.l then bif seqB x1.s (x0.a x3.n).s then rt [aI x3.n] else D n i_slices_Index_string (some p_slices_Index_string_c1) [aL x0.k,aS x1.s,aI x2.n,aI (w6 (x3.n + 1))] else none else some (2,[]) := by kernel_rfl
theorem q_slices_ContainsFunc_Action_Early14 (n : Nat) (x0 x1 : T) : den Tryd.prog G0 ents (Nat.succ n) i_slices_ContainsFunc_Action_Early14 none [A.t x0, A.t x1] =
  cl n i_slices_IndexFunc_Action_Early14 [aL x0.k,A.t x1] fun v0 => rt [aB (ge (r v0 0).n 0),A.t (r v0 1)] := by kernel_rfl
theorem q_slices_IndexFunc_Action_Early14 (n : Nat) (x0 x1 : T) : den Tryd.prog G0 ents (Nat.succ n) i_slices_IndexFunc_Action_Early14 none [A.t x0, A.t x1] =
  lp n i_slices_IndexFunc_Action_Early14 p_slices_IndexFunc_Action_Early14_c1 [aL x0.k,aI x0.l,aI 0,A.t x1] fun v0 => bif Nat.beq v0.1 2 then rt [aI (-1),A.t (r v0.2 0)] else bif Nat.beq v0.1 1 then rt [aI (r v0.2 0).n,A.t (r v0.2 1)] else none := by kernel_rfl
theorem q_slices_IndexFunc_Action_Early14_c1 (n : Nat) (x0 x1 x2 x3 : T) : den Tryd.prog G0 ents (Nat.succ n) i_slices_IndexFunc_Action_Early14 (some p_slices_IndexFunc_Action_Early14_c1) [A.t x0, A.t x1, A.t x2, A.t x3] =
  bif lt x2.n x1.n then bif ib x2.n x0.l then cl n i_order_Early_1_4 [A.t (x0.a x2.n),A.t x3] fun v0 => bif (r v0 0).b then rt [aI x2.n,A.t (r v0 1)] else D n i_slices_IndexFunc_Action_Early14 (some p_slices_IndexFunc_Action_Early14_c1) [aL x0.k,aI x1.n,aI (w6 (x2.n + 1)),A.t (r v0 1)] else none else some (2,[A.t x3]) := by kernel_rfl
theorem q_order_Early_1_4 (n : Nat) (x0 x1 : T) : den Tryd.prog G0 ents (Nat.succ n) i_order_Early_1_4 none [A.t x0, A.t x1] =
  cl n i_order_deletes [A.t x0] fun v0 => bif (!(r v0 0).b) == true then cl n i_slices_Contains_string [aL ((x1.g 1).g 2).k,aS ((x0.g 1).g 0).s] fun v1 => rt [aB (r v1 0).b,A.t x1] else rt [aB false,A.t x1] := by kernel_rfl
theorem q_L30_Few_o (n : Nat) (x0 : T) : den Tryd.prog G0 ents (Nat.succ n) i_L30_Few_o none [A.t x0] =
  bif gt x0.l 12 then rt [aB false,aL x0.k] else lp n i_L30_Few_o p_L30_Few_o_c1 [aI 0,aL x0.k] fun v0 => bif Nat.beq v0.1 2 then rt [aB true,aL (r v0.2 0).k] else bif Nat.beq v0.1 1 then rt [aB (r v0.2 0).b,aL (r v0.2 1).k] else none := by kernel_rfl
theorem q_L30_Few_o_c1 (n : Nat) (x0 x1 : T) : den Tryd.prog G0 ents (Nat.succ n) i_L30_Few_o (some p_L30_Few_o_c1) [A.t x0, A.t x1] =
  bif lt x0.n x1.l then bif ib x0.n x1.l then bif decide (Int.toNat x0.n < List.length x1.k) then bif gt ((x1.a x0.n).g 0).z 100 == false then bif ib x0.n x1.l then bif decide (Int.toNat x0.n < List.length x1.k) then bif gt ((x1.a x0.n).g 2).l 20 == false then bif ib x0.n x1.l then bif decide (Int.toNat x0.n < List.length x1.k) then cl n i_L09_Few [A.t ((x1.a x0.n).g 1)] fun v0 => bif !(r v0 0).b then rt [aB false,aL x1.k] else lp n i_L30_Few_o p_L30_Few_o_c2 [aI x0.n,aI 0,aL x1.k] fun v1 => bif Nat.beq v1.1 4 then D n i_L30_Few_o (some p_L30_Few_o_c1) [aI (w6 ((r v1.2 0).n + 1)),aL (r v1.2 1).k] else bif Nat.beq v1.1 1 then rt [aB (r v1.2 0).b,aL (r v1.2 1).k] else none else none else none else rt [aB false,aL x1.k] else none else none else rt [aB false,aL x1.k] else none else none else some (2,[aL x1.k]) := by kernel_rfl
theorem q_L30_Few_o_c2 (n : Nat) (x0 x1 x2 : T) : den Tryd.prog G0 ents (Nat.succ n) i_L30_Few_o (some p_L30_Few_o_c2) [A.t x0, A.t x1, A.t x2] =
  bif ib x0.n x2.l then bif decide (Int.toNat x0.n < List.length x2.k) then bif lt x1.n ((x2.a x0.n).g 2).l then bif ib x0.n x2.l then bif decide (Int.toNat x0.n < List.length x2.k) then bif ib x1.n ((x2.a x0.n).g 2).l then bif gt (((x2.a x0.n).g 2).a x1.n).z 100 then rt [aB false,aL x2.k] else D n i_L30_Few_o (some p_L30_Few_o_c2) [aI x0.n,aI (w6 (x1.n + 1)),aL x2.k] else none else none else none else some (4,[aI x0.n,aL x2.k]) else none else none := by kernel_rfl
theorem q_order_line_Actions1_o (n : Nat) (x0 : T) : den Tryd.prog G0 ents (Nat.succ n) i_order_line_Actions1_o none [A.t x0] =
  cl n i_graph_New_string [aL []] fun v0 => lp n i_order_line_Actions1_o p_order_line_Actions1_o_c1 [aI x0.l,aI 0,aL x0.k,aL [],aL (r v0 0).k] fun v1 => bif Nat.beq v1.1 2 then lp n i_order_line_Actions1_o p_order_line_Actions1_o_c2 [aI (r v1.2 0).l,aI 0,aL (r v1.2 0).k,aL (r v1.2 1).k,aL (r v1.2 2).k] fun v2 => bif Nat.beq v2.1 4 then cl n i_graph_Graph_string_Order [aL (r v2.2 2).k] fun v3 => lp n i_order_line_Actions1_o p_order_line_Actions1_o_c4 [aI (r v3 2).l,aI 0,aL (r v2.2 0).k,aL (r v2.2 1).k,aL [],aL (r v3 2).k] fun v4 => bif Nat.beq v4.1 8 then rt [aB ((r v4.2 1).l == 0),aL (r v4.2 0).k,aL (r v4.2 2).k] else none else none else none := by kernel_rfl
theorem q_order_line_Actions1_o_c1 (n : Nat) (x0 x1 x2 x3 x4 : T) : den Tryd.prog G0 ents (Nat.succ n) i_order_line_Actions1_o (some p_order_line_Actions1_o_c1) [A.t x0, A.t x1, A.t x2, A.t x3, A.t x4] =
  bif lt x1.n x0.n then bif ib x1.n x2.l then bif decide (Int.toNat x1.n < List.length x2.k) then cl n i_graph_Graph_string_Add [aS (((x2.a x1.n).g 1).g 0).s,aL x4.k] fun v0 => D n i_order_line_Actions1_o (some p_order_line_Actions1_o_c1) [aI x0.n,aI (w6 (x1.n + 1)),aL x2.k,aL (mput keyS x3.k (T.str (((x2.a x1.n).g 1).g 0).s) (x2.a x1.n)),aL (r v0 0).k] else none else none else some (2,[aL x2.k,aL x3.k,aL x4.k]) := by kernel_rfl
theorem q_order_line_Actions1_o_c2 (n : Nat) (x0 x1 x2 x3 x4 : T) : den Tryd.prog G0 ents (Nat.succ n) i_order_line_Actions1_o (some p_order_line_Actions1_o_c2) [A.t x0, A.t x1, A.t x2, A.t x3, A.t x4] =
  bif lt x1.n x0.n then bif ib x1.n x2.l then bif decide (Int.toNat x1.n < List.length x2.k) then lp n i_order_line_Actions1_o p_order_line_Actions1_o_c3 [aI x0.n,aI x1.n,aL (((x2.a x1.n).g 1).g 2).k,aI (((x2.a x1.n).g 1).g 2).l,aI 0,aL x2.k,aL x3.k,A.t (x2.a x1.n),aL x4.k] fun v0 => bif Nat.beq v0.1 6 then D n i_order_line_Actions1_o (some p_order_line_Actions1_o_c2) [aI (r v0.2 0).n,aI (w6 ((r v0.2 1).n + 1)),aL (r v0.2 2).k,aL (r v0.2 3).k,aL (r v0.2 4).k] else none else none else none else some (4,[aL x2.k,aL x3.k,aL x4.k]) := by kernel_rfl
theorem q_order_line_Actions1_o_c3 (n : Nat) (x0 x1 x2 x3 x4 x5 x6 x7 x8 : T) : den Tryd.prog G0 ents (Nat.succ n) i_order_line_Actions1_o (some p_order_line_Actions1_o_c3) [A.t x0, A.t x1, A.t x2, A.t x3, A.t x4, A.t x5, A.t x6, A.t x7, A.t x8] =
  bif lt x4.n x3.n then bif ib x4.n x2.l then cl n i_graph_Graph_string_Has [aS (x2.a x4.n).s,aL x8.k] fun v0 => bif (r v0 0).b then cl n i_order_Actions_1 [A.t (x7.g 1),aS (x2.a x4.n).s,aL (r v0 1).k] fun v1 => D n i_order_line_Actions1_o (some p_order_line_Actions1_o_c3) [aI x0.n,aI x1.n,aL x2.k,aI x3.n,aI (w6 (x4.n + 1)),aL x5.k,aL x6.k,A.t x7,aL (r v1 0).k] else D n i_order_line_Actions1_o (some p_order_line_Actions1_o_c3) [aI x0.n,aI x1.n,aL x2.k,aI x3.n,aI (w6 (x4.n + 1)),aL x5.k,aL x6.k,A.t x7,aL (r v0 1).k] else none else some (6,[aI x0.n,aI x1.n,aL x5.k,aL x6.k,aL x8.k]) := by kernel_rfl
theorem q_order_line_Actions1_o_c4 (n : Nat) (x0 x1 x2 x3 x4 x5 : T) : den Tryd.prog G0 ents (Nat.succ n) i_order_line_Actions1_o (some p_order_line_Actions1_o_c4) [A.t x0, A.t x1, A.t x2, A.t x3, A.t x4, A.t x5] =
  bif lt x1.n x0.n then bif ib x1.n x5.l then bif decide (Int.toNat x1.n < List.length x5.k) then cl n i_order_own [A.t (mget keyS (T.node [T.int 0,T.node [T.str ByteArray.empty,T.node [T.node []],T.node []]]) x3.k (T.str (x5.a x1.n).s))] fun v0 => bif decide (Nat.succ (List.length x4.k) < 1073741824) then D n i_order_line_Actions1_o (some p_order_line_Actions1_o_c4) [aI x0.n,aI (w6 (x1.n + 1)),aL x2.k,aL (mdel keyS x3.k (T.str (x5.a x1.n).s)),aL (x4.k ++ [r v0 0]),aL x5.k] else none else none else none else some (8,[aL x2.k,aL x3.k,aL x4.k]) := by kernel_rfl
theorem q_order_line_Actions2_o (n : Nat) (x0 : T) : den Tryd.prog G0 ents (Nat.succ n) i_order_line_Actions2_o none [A.t x0] =
  cl n i_graph_New_string [aL []] fun v0 => lp n i_order_line_Actions2_o p_order_line_Actions2_o_c1 [aI x0.l,aI 0,aL x0.k,aL [],aL (r v0 0).k] fun v1 => bif Nat.beq v1.1 2 then lp n i_order_line_Actions2_o p_order_line_Actions2_o_c2 [aI (r v1.2 0).l,aI 0,aL (r v1.2 0).k,aL (r v1.2 1).k,aL (r v1.2 2).k] fun v2 => bif Nat.beq v2.1 4 then cl n i_graph_Graph_string_Order [aL (r v2.2 2).k] fun v3 => lp n i_order_line_Actions2_o p_order_line_Actions2_o_c4 [aI (r v3 2).l,aI 0,aL (r v2.2 0).k,aL (r v2.2 1).k,aL [],aL (r v3 2).k] fun v4 => bif Nat.beq v4.1 8 then rt [aB ((r v4.2 1).l == 0),aL (r v4.2 0).k,aL (r v4.2 2).k] else none else none else none := by kernel_rfl
theorem q_order_line_Actions2_o_c1 (n : Nat) (x0 x1 x2 x3 x4 : T) : den Tryd.prog G0 ents (Nat.succ n) i_order_line_Actions2_o (some p_order_line_Actions2_o_c1) [A.t x0, A.t x1, A.t x2, A.t x3, A.t x4] =
  bif lt x1.n x0.n then bif ib x1.n x2.l then bif decide (Int.toNat x1.n < List.length x2.k) then cl n i_graph_Graph_string_Add [aS (((x2.a x1.n).g 1).g 0).s,aL x4.k] fun v0 => D n i_order_line_Actions2_o (some p_order_line_Actions2_o_c1) [aI x0.n,aI (w6 (x1.n + 1)),aL x2.k,aL (mput keyS x3.k (T.str (((x2.a x1.n).g 1).g 0).s) (x2.a x1.n)),aL (r v0 0).k] else none else none else some (2,[aL x2.k,aL x3.k,aL x4.k]) := by kernel_rfl
theorem q_order_line_Actions2_o_c2 (n : Nat) (x0 x1 x2 x3 x4 : T) : den Tryd.prog G0 ents (Nat.succ n) i_order_line_Actions2_o (some p_order_line_Actions2_o_c2) [A.t x0, A.t x1, A.t x2, A.t x3, A.t x4] =
  bif lt x1.n x0.n then bif ib x1.n x2.l then bif decide (Int.toNat x1.n < List.length x2.k) then lp n i_order_line_Actions2_o p_order_line_Actions2_o_c3 [aI x0.n,aI x1.n,aL (((x2.a x1.n).g 1).g 2).k,aI (((x2.a x1.n).g 1).g 2).l,aI 0,aL x2.k,aL x3.k,A.t (x2.a x1.n),aL x4.k] fun v0 => bif Nat.beq v0.1 6 then D n i_order_line_Actions2_o (some p_order_line_Actions2_o_c2) [aI (r v0.2 0).n,aI (w6 ((r v0.2 1).n + 1)),aL (r v0.2 2).k,aL (r v0.2 3).k,aL (r v0.2 4).k] else none else none else none else some (4,[aL x2.k,aL x3.k,aL x4.k]) := by kernel_rfl
theorem q_order_line_Actions2_o_c3 (n : Nat) (x0 x1 x2 x3 x4 x5 x6 x7 x8 : T) : den Tryd.prog G0 ents (Nat.succ n) i_order_line_Actions2_o (some p_order_line_Actions2_o_c3) [A.t x0, A.t x1, A.t x2, A.t x3, A.t x4, A.t x5, A.t x6, A.t x7, A.t x8] =
  bif lt x4.n x3.n then bif ib x4.n x2.l then cl n i_graph_Graph_string_Has [aS (x2.a x4.n).s,aL x8.k] fun v0 => bif (r v0 0).b then cl n i_order_Actions_2 [A.t (x7.g 1),aS (x2.a x4.n).s,aL (r v0 1).k] fun v1 => D n i_order_line_Actions2_o (some p_order_line_Actions2_o_c3) [aI x0.n,aI x1.n,aL x2.k,aI x3.n,aI (w6 (x4.n + 1)),aL x5.k,aL x6.k,A.t x7,aL (r v1 0).k] else D n i_order_line_Actions2_o (some p_order_line_Actions2_o_c3) [aI x0.n,aI x1.n,aL x2.k,aI x3.n,aI (w6 (x4.n + 1)),aL x5.k,aL x6.k,A.t x7,aL (r v0 1).k] else none else some (6,[aI x0.n,aI x1.n,aL x5.k,aL x6.k,aL x8.k]) := by kernel_rfl
theorem q_order_line_Actions2_o_c4 (n : Nat) (x0 x1 x2 x3 x4 x5 : T) : den Tryd.prog G0 ents (Nat.succ n) i_order_line_Actions2_o (some p_order_line_Actions2_o_c4) [A.t x0, A.t x1, A.t x2, A.t x3, A.t x4, A.t x5] =
  bif lt x1.n x0.n then bif ib x1.n x5.l then bif decide (Int.toNat x1.n < List.length x5.k) then cl n i_order_own [A.t (mget keyS (T.node [T.int 0,T.node [T.str ByteArray.empty,T.node [T.node []],T.node []]]) x3.k (T.str (x5.a x1.n).s))] fun v0 => bif decide (Nat.succ (List.length x4.k) < 1073741824) then D n i_order_line_Actions2_o (some p_order_line_Actions2_o_c4) [aI x0.n,aI (w6 (x1.n + 1)),aL x2.k,aL (mdel keyS x3.k (T.str (x5.a x1.n).s)),aL (x4.k ++ [r v0 0]),aL x5.k] else none else none else none else some (8,[aL x2.k,aL x3.k,aL x4.k]) := by kernel_rfl
theorem q_R31_Same_o (n : Nat) (x0 x1 : T) : den Tryd.prog G0 ents (Nat.succ n) i_R31_Same_o none [A.t x0, A.t x1] =
  bif x0.l != x1.l then rt [aB false,aL x1.k] else lp n i_R31_Same_o p_R31_Same_o_c1 [aL x0.k,aI 0,aL x1.k] fun v0 => bif Nat.beq v0.1 2 then rt [aB true,aL (r v0.2 0).k] else bif Nat.beq v0.1 1 then rt [aB (r v0.2 0).b,aL (r v0.2 1).k] else none := by kernel_rfl
theorem q_R31_Same_o_c1 (n : Nat) (x0 x1 x2 : T) : den Tryd.prog G0 ents (Nat.succ n) i_R31_Same_o (some p_R31_Same_o_c1) [A.t x0, A.t x1, A.t x2] =
  bif lt x1.n x0.l then bif ib x1.n x0.l then bif ib x1.n x2.l then bif decide (Int.toNat x1.n < List.length x2.k) then bif (((x0.a x1.n).g 0).n != ((x2.a x1.n).g 0).n) == false then bif ib x1.n x0.l then bif ib x1.n x2.l then bif decide (Int.toNat x1.n < List.length x2.k) then cl n i_R29_Same [A.t ((x0.a x1.n).g 1),A.t ((x2.a x1.n).g 1)] fun v0 => bif !(r v0 0).b then rt [aB false,aL x2.k] else D n i_R31_Same_o (some p_R31_Same_o_c1) [aL x0.k,aI (w6 (x1.n + 1)),aL x2.k] else none else none else none else rt [aB false,aL x2.k] else none else none else none else some (2,[aL x2.k]) := by kernel_rfl
end Go.Proofs.YtjnbggianlgjiaaDoorOH
namespace Go.Proofs.YtjnbggianlgjiaaDoorOH
open Go Go.Proofs.YtjnbggianlgjiaaDoorVM
set_option linter.unusedVariables false
def terms (v : T) : List T := (v.get 0).kids
def flds (t : T) : List T := (t.get 7).kids
def nm (f : T) : ByteArray := (f.get 0).txt
def val (f : T) : T := f.get 1
def sumN (l : List Nat) : Nat := l.foldr (· + ·) 0
def wt : Nat → T → Nat
  | 0, _ => 0
  | d + 1, v => sumN ((terms v).map fun t => 1 + sumN ((flds t).map fun f => wt d (val f)))
def wtT (d : Nat) (t : T) : Nat := 1 + sumN ((flds t).map fun f => wt d (val f))
theorem wt_succ (d : Nat) (v : T) : wt (d + 1) v = sumN ((terms v).map (wtT d)) := rfl
def maxN (l : List Nat) : Nat := l.foldr max 0
def dep : Nat → T → Nat
  | 0, _ => 0
  | d + 1, v => 1 + maxN ((terms v).map fun t => maxN ((flds t).map fun f => dep d (val f)))
def Vd : Nat → T → Prop
  | 0, _ => False
  | d + 1, v => ∀ t ∈ terms v, (flds t).length ≤ 100 ∧ (t.get 3).txt.size ≤ 400 ∧ ∀ f ∈ flds t, (nm f).size ≤ 100 ∧ Vd d (val f)
theorem sum_foldl {α : Type} (f : α → Nat) : ∀ (l : List α) (a : Nat), l.foldl (fun a x => a + f x) a = a + sumN (l.map f)
  | [], a => by simp [sumN]
  | x :: l, a => by
    rw [List.foldl_cons, sum_foldl f l (a + f x)]
    simp only [List.map_cons, sumN, List.foldr_cons]
    omega
theorem max_foldl {α : Type} (f : α → Nat) : ∀ (l : List α) (a : Nat), l.foldl (fun a x => max a (f x)) a = max a (maxN (l.map f))
  | [], a => by simp [maxN]
  | x :: l, a => by
    rw [List.foldl_cons, max_foldl f l (max a (f x))]
    simp only [List.map_cons, maxN, List.foldr_cons]
    omega
theorem sum_mem {α : Type} {f : α → Nat} {l : List α} {x : α} (h : x ∈ l) : f x ≤ sumN (l.map f) := by
  induction l with
  | nil => cases h
  | cons y l ih =>
    simp only [List.map_cons, sumN, List.foldr_cons]
    rcases List.mem_cons.1 h with rfl | h
    · omega
    · have := ih h
      unfold sumN at this
      omega
theorem sum_len {α : Type} {f : α → Nat} {l : List α} (h : ∀ x ∈ l, 1 ≤ f x) : l.length ≤ sumN (l.map f) := by
  induction l with
  | nil => simp
  | cons y l ih =>
    have h1 := ih fun x hx => h x (List.mem_cons_of_mem _ hx)
    have h2 := h y List.mem_cons_self
    simp only [List.map_cons, sumN, List.foldr_cons, List.length_cons]
    unfold sumN at h1
    omega
def Sm (d : Nat) (v : T) : Prop := Vd d v ∧ wt d v ≤ 512
theorem Sm.terms {d : Nat} {v : T} (h : Sm d v) : (terms v).length ≤ 512 := by
  cases d with
  | zero => exact h.1.elim
  | succ d => exact Nat.le_trans (sum_len (f := wtT d) fun t _ => by unfold wtT; omega) h.2
theorem Sm.sub {d : Nat} {v t f : T} (h : Sm (d + 1) v) (ht : t ∈ YtjnbggianlgjiaaDoorOH.terms v) (hf : f ∈ flds t) : Sm d (val f) := by
  refine ⟨((h.1 t ht).2.2 f hf).2, ?_⟩
  have h1 : wt d (val f) ≤ wtT d t := by
    unfold wtT
    have := sum_mem (f := fun f => wt d (val f)) hf
    omega
  have h2 : wtT d t ≤ wt (d + 1) v := sum_mem (f := wtT d) ht
  have := h.2
  omega
theorem Sm.flds {d : Nat} {v t : T} (h : Sm (d + 1) v) (ht : t ∈ YtjnbggianlgjiaaDoorOH.terms v) : (YtjnbggianlgjiaaDoorOH.flds t).length ≤ 100 := (h.1 t ht).1
theorem Sm.wtT {d : Nat} {v t : T} (h : Sm (d + 1) v) (ht : t ∈ YtjnbggianlgjiaaDoorOH.terms v) : YtjnbggianlgjiaaDoorOH.wtT d t ≤ 512 := Nat.le_trans (sum_mem (f := YtjnbggianlgjiaaDoorOH.wtT d) ht) h.2

def leftFs (g : T → Int → Int) : List T → Int → Int
  | [], n => n
  | f :: fs, n => if n < 0 then n else if 100 < (nm f).size then -1 else leftFs g fs (g (val f) n)
def leftTs (g : T → Int → Int) : List T → Int → Int
  | [], n => n
  | t :: ts, n => if n < 0 then n else if 400 < (t.get 3).txt.size ∨ 100 < (flds t).length then -1 else leftTs g ts (leftFs g (flds t) (n - 1))
def leftF : Nat → T → Int → Int
  | 0, _, _ => -1
  | d + 1, v, n => if (((terms v).length : Nat) : Int) > n then -1 else leftTs (leftF d) (terms v) n
theorem leftFs_neg (g : T → Int → Int) : ∀ (l : List T) (n : Int), n < 0 → leftFs g l n = n
  | [], n, h => rfl
  | f :: fs, n, h => by rw [leftFs, if_pos h]
theorem leftTs_neg (g : T → Int → Int) : ∀ (l : List T) (n : Int), n < 0 → leftTs g l n = n
  | [], n, h => rfl
  | f :: fs, n, h => by rw [leftTs, if_pos h]
theorem left_few : ∀ (d : Nat) (v : T) (n : Int), 0 ≤ leftF d v n → Vd d v ∧ leftF d v n + (wt d v : Nat) = n
  | 0, v, n, h => by simp [leftF] at h
  | d + 1, v, n, h => by
    have hfs : ∀ (l : List T) (n : Int), 0 ≤ leftFs (leftF d) l n → (∀ f ∈ l, (nm f).size ≤ 100 ∧ Vd d (val f)) ∧ leftFs (leftF d) l n + (sumN (l.map fun f => wt d (val f)) : Nat) = n := by
      intro l
      induction l with
      | nil => intro n hn; exact ⟨by simp, by simp [leftFs, sumN]⟩
      | cons f l ih =>
        intro n hn
        rw [leftFs] at hn ⊢
        split at hn
        · omega
        · split at hn
          · omega
          · rename_i h1 h2
            rw [if_neg h1, if_neg h2]
            obtain ⟨q1, q2⟩ := ih _ hn
            have h3 : 0 ≤ leftF d (val f) n := by
              rcases Int.lt_or_le (leftF d (val f) n) 0 with h4 | h4
              · rw [leftFs_neg _ _ _ h4] at hn; omega
              · exact h4
            obtain ⟨q3, q4⟩ := left_few d (val f) n h3
            refine ⟨fun x hx => ?_, ?_⟩
            · rcases List.mem_cons.1 hx with rfl | hx
              · exact ⟨by omega, q3⟩
              · exact q1 x hx
            · simp only [List.map_cons, sumN, List.foldr_cons] at q2 ⊢
              omega
    have hts : ∀ (l : List T) (n : Int), 0 ≤ leftTs (leftF d) l n → (∀ t ∈ l, (flds t).length ≤ 100 ∧ (t.get 3).txt.size ≤ 400 ∧ ∀ f ∈ flds t, (nm f).size ≤ 100 ∧ Vd d (val f)) ∧ leftTs (leftF d) l n + (sumN (l.map (wtT d)) : Nat) = n := by
      intro l
      induction l with
      | nil => intro n hn; exact ⟨by simp, by simp [leftTs, sumN]⟩
      | cons t l ih =>
        intro n hn
        rw [leftTs] at hn ⊢
        split at hn
        · omega
        · split at hn
          · omega
          · rename_i h1 h2
            rw [if_neg h1, if_neg h2]
            obtain ⟨q1, q2⟩ := ih _ hn
            have h3 : 0 ≤ leftFs (leftF d) (flds t) (n - 1) := by
              rcases Int.lt_or_le (leftFs (leftF d) (flds t) (n - 1)) 0 with h4 | h4
              · rw [leftTs_neg _ _ _ h4] at hn; omega
              · exact h4
            obtain ⟨q3, q4⟩ := hfs _ _ h3
            refine ⟨fun x hx => ?_, ?_⟩
            · rcases List.mem_cons.1 hx with rfl | hx
              · exact ⟨by omega, by omega, q3⟩
              · exact q1 x hx
            · simp only [List.map_cons, sumN, List.foldr_cons, wtT] at q2 q4 ⊢
              omega
    rw [leftF] at h ⊢
    split at h
    · omega
    · rename_i h1
      rw [if_neg h1]
      exact hts _ _ h
end Go.Proofs.YtjnbggianlgjiaaDoorOH
namespace Go.Proofs.YtjnbggianlgjiaaDoorOH
open Go Go.Proofs.YtjnbggianlgjiaaDoorVM
set_option linter.unusedVariables false
set_option linter.unusedSimpArgs false
set_option maxRecDepth 100000

def Dz (i : Nat) (p : Option (List Bool)) (xs : List A) (r : Nat × List A) : Prop := Does Tryd.prog G0 ents i p xs r
theorem terms_eq (v : T) : (T.get v 0).kids = terms v := id rfl
theorem flds_eq (v : T) : (T.get v 7).kids = flds v := id rfl
theorem S1 : (∀ n i p xs, D n i p xs = den Tryd.prog G0 ents n i p xs) ∧ (∀ n i xs k, cl n i xs k = Option.bind (Option.map (fun v => v.2) (den Tryd.prog G0 ents n i none xs)) k) ∧ (∀ n i p xs k, lp n i p xs k = Option.bind (den Tryd.prog G0 ents n i (some p) xs) k) :=
  ⟨fun _ _ _ _ => rfl, fun _ _ _ _ => rfl, fun _ _ _ _ _ => rfl⟩
theorem S2 : (∀ v, (T.get v 0).kids = terms v) ∧ (∀ v, (T.get v 7).kids = flds v) := ⟨fun _ => rfl, fun _ => rfl⟩
theorem leftFs_le {g : T → Int → Int} (hg : ∀ v n, g v n ≤ max n (-1) ∧ (-1 ≤ n → -1 ≤ g v n)) : ∀ (l : List T) (n : Int), leftFs g l n ≤ max n (-1) ∧ (-1 ≤ n → -1 ≤ leftFs g l n) := by
  intro l
  induction l with
  | nil => intro n; simp only [leftFs]; omega
  | cons f l ih =>
    intro n
    rw [leftFs]
    split
    · omega
    · split
      · omega
      · have h1 := ih (g (val f) n)
        have h2 := hg (val f) n
        omega
theorem leftF_le : ∀ (d : Nat) (v : T) (n : Int), leftF d v n ≤ max n (-1) ∧ (-1 ≤ n → -1 ≤ leftF d v n)
  | 0, v, n => by simp only [leftF]; omega
  | d + 1, v, n => by
    have hts : ∀ (l : List T) (n : Int), leftTs (leftF d) l n ≤ max n (-1) ∧ (-1 ≤ n → -1 ≤ leftTs (leftF d) l n) := by
      intro l
      induction l with
      | nil => intro n; simp only [leftTs]; omega
      | cons t l ih =>
        intro n
        rw [leftTs]
        split
        · omega
        · split
          · omega
          · have h1 := ih (leftFs (leftF d) (flds t) (n - 1))
            have h2 := leftFs_le (fun v n => leftF_le d v n) (flds t) (n - 1)
            omega
    rw [leftF]
    split
    · omega
    · exact hts _ _
theorem left_in (d : Nat) (ih : ∀ v n, n ≤ 200 → -1 ≤ n → Dz i_L08_left none [A.t v, A.t (T.int d), A.t (T.int n)] (1, [A.t (T.int (leftF d v n))])) (hd : d ≤ 20) (i2 : Int) (x4 x5 : T) (hl : (flds x5).length ≤ 100) :
    ∀ (k j : Nat) (n : Int), j + k = (flds x5).length → n ≤ 200 → -1 ≤ n →
      Dz i_L08_left (some p_L08_left_c2) [A.t (T.int (d + 1 : Nat)), A.t (T.int n), A.t (T.int i2), A.t (T.int j), A.t x4, A.t x5] (4, [A.t (T.int (d + 1 : Nat)), A.t (T.int (leftFs (leftF d) ((flds x5).drop j) n)), A.t (T.int i2), A.t x4]) ∨
      (leftFs (leftF d) ((flds x5).drop j) n = -1 ∧ Dz i_L08_left (some p_L08_left_c2) [A.t (T.int (d + 1 : Nat)), A.t (T.int n), A.t (T.int i2), A.t (T.int j), A.t x4, A.t x5] (1, [A.t (T.int (-1))])) := by
  intro k
  induction k with
  | zero =>
    intro j n hj h1 h2
    left
    refine Does.now fun m => ?_
    rw [q_L08_left_c2, List.drop_of_length_le (by omega), leftFs]
    simp only [S0, S9, S1, S2, if_true, if_false]
    repeat (first | rw [if_pos (by omega)] | rw [if_neg (by omega)])
  | succ k ihk =>
    intro j n hj h1 h2
    have hlt : j < (flds x5).length := by omega
    rw [List.drop_eq_getElem_cons hlt, leftFs]
    by_cases h0 : n < 0
    · left
      rw [if_pos h0]
      refine Does.now fun m => ?_
      rw [q_L08_left_c2]
      simp only [S0, S9, S1, S2, if_true, if_false]
      repeat (first | rw [if_pos (by omega)] | rw [if_neg (by omega)])
    rw [if_neg h0]
    by_cases hs : 100 < (nm (flds x5)[j]).size
    · right
      rw [if_pos hs]
      refine ⟨rfl, Does.now fun m => ?_⟩
      rw [q_L08_left_c2]
      have hs' : (T.get (flds x5)[j] 0).txt.size = (nm (flds x5)[j]).size := rfl
      simp only [S0, S9, S1, S2, if_true, if_false, at_get hlt, hs']
      repeat (first | rw [if_pos (by omega)] | rw [if_neg (by omega)])
      all_goals rfl
    rw [if_neg hs]
    have hrec := ih (val (flds x5)[j]) n h1 h2
    have hle := leftF_le d (val (flds x5)[j]) n
    have hs' : (T.get (flds x5)[j] 0).txt.size = (nm (flds x5)[j]).size := rfl
    have hv' : T.get (flds x5)[j] 1 = val (flds x5)[j] := rfl
    have hw : IntKind.i64.wrap ((j : Int) + 1) = ((j + 1 : Nat) : Int) := i64succ (by omega)
    have hd1 : IntKind.i64.wrap (((d + 1 : Nat) : Int) - 1) = ((d : Nat) : Int) := by rw [w64 (by omega) (by omega)]; omega
    have step : ∀ R, Dz i_L08_left (some p_L08_left_c2) [A.t (T.int (d + 1 : Nat)), A.t (T.int (leftF d (val (flds x5)[j]) n)), A.t (T.int i2), A.t (T.int (j + 1 : Nat)), A.t x4, A.t x5] R →
        Dz i_L08_left (some p_L08_left_c2) [A.t (T.int (d + 1 : Nat)), A.t (T.int n), A.t (T.int i2), A.t (T.int j), A.t x4, A.t x5] R := by
      intro R hR
      obtain ⟨n0, h0'⟩ := hrec.both hR
      refine Does.of n0 fun m hm => ?_
      obtain ⟨q1, q2⟩ := h0' m hm
      rw [q_L08_left_c2]
      simp only [S0, S9, S1, S2, if_true, if_false, at_get hlt, hs', hv', hd1, q1, hw]
      repeat (first | rw [if_pos (by omega)] | rw [if_neg (by omega)])
      exact q2
    rcases ihk (j + 1) (leftF d (val (flds x5)[j]) n) (by omega) (by omega) (by omega) with h | ⟨h, h'⟩
    · left; exact step _ h
    · right; exact ⟨h, step _ h'⟩
theorem left_out (d : Nat) (ih : ∀ v n, n ≤ 200 → -1 ≤ n → Dz i_L08_left none [A.t v, A.t (T.int d), A.t (T.int n)] (1, [A.t (T.int (leftF d v n))])) (hd : d ≤ 20) (x3 : T) (hl : (terms x3).length ≤ 200) :
    ∀ (k j : Nat) (n : Int), j + k = (terms x3).length → n ≤ 200 → -1 ≤ n →
      Dz i_L08_left (some p_L08_left_c1) [A.t (T.int (d + 1 : Nat)), A.t (T.int n), A.t (T.int j), A.t x3] (2, [A.t (T.int (leftTs (leftF d) ((terms x3).drop j) n))]) ∨
      Dz i_L08_left (some p_L08_left_c1) [A.t (T.int (d + 1 : Nat)), A.t (T.int n), A.t (T.int j), A.t x3] (1, [A.t (T.int (leftTs (leftF d) ((terms x3).drop j) n))]) := by
  intro k
  induction k with
  | zero =>
    intro j n hj h1 h2
    left
    refine Does.now fun m => ?_
    rw [q_L08_left_c1, List.drop_of_length_le (by omega), leftTs]
    simp only [S0, S9, S1, S2, if_true, if_false]
    repeat (first | rw [if_pos (by omega)] | rw [if_neg (by omega)])
  | succ k ihk =>
    intro j n hj h1 h2
    have hlt : j < (terms x3).length := by omega
    rw [List.drop_eq_getElem_cons hlt, leftTs]
    by_cases h0 : n < 0
    · left
      rw [if_pos h0]
      refine Does.now fun m => ?_
      rw [q_L08_left_c1]
      simp only [S0, S9, S1, S2, if_true, if_false]
      repeat (first | rw [if_pos (by omega)] | rw [if_neg (by omega)])
    rw [if_neg h0]
    by_cases hs : 400 < ((terms x3)[j].get 3).txt.size ∨ 100 < (flds (terms x3)[j]).length
    · right
      rw [if_pos hs]
      refine Does.now fun m => ?_
      rw [q_L08_left_c1]
      simp only [S0, S9, S1, S2, if_true, if_false, at_get hlt]
      rcases hs with hs | hs
      · repeat (first | rw [if_pos (by omega)] | rw [if_neg (by omega)])
        all_goals rfl
      · by_cases hs2 : 400 < ((terms x3)[j].get 3).txt.size
        · repeat (first | rw [if_pos (by omega)] | rw [if_neg (by omega)])
          all_goals rfl
        · repeat (first | rw [if_pos (by omega)] | rw [if_neg (by omega)])
          all_goals rfl
    rw [if_neg hs]
    have hle := leftFs_le (fun v n => leftF_le d v n) (flds (terms x3)[j]) (n - 1)
    have hw : IntKind.i64.wrap ((j : Int) + 1) = ((j + 1 : Nat) : Int) := i64succ (by omega)
    have hw1 : IntKind.i64.wrap (n - 1) = n - 1 := w64 (by omega) (by omega)
    have hin := left_in d ih hd j x3 (terms x3)[j] (by omega) (flds (terms x3)[j]).length 0 (n - 1) (by omega) (by omega) (by omega)
    rw [List.drop_zero] at hin
    rcases hin with hin | ⟨hr, hin⟩
    · have step : ∀ R, Dz i_L08_left (some p_L08_left_c1) [A.t (T.int (d + 1 : Nat)), A.t (T.int (leftFs (leftF d) (flds (terms x3)[j]) (n - 1))), A.t (T.int (j + 1 : Nat)), A.t x3] R →
          Dz i_L08_left (some p_L08_left_c1) [A.t (T.int (d + 1 : Nat)), A.t (T.int n), A.t (T.int j), A.t x3] R := by
        intro R hR
        obtain ⟨n0, h0'⟩ := hin.both hR
        refine Does.of n0 fun m hm => ?_
        obtain ⟨q1, q2⟩ := h0' m hm
        have q1' : den Tryd.prog G0 ents m i_L08_left (some p_L08_left_c2) [A.t (T.int (d + 1 : Nat)), A.t (T.int (n - 1)), A.t (T.int j), A.t (T.int 0), A.t x3, A.t (terms x3)[j]] = _ := q1
        rw [q_L08_left_c1]
        simp only [S0, S9, S1, S2, if_true, if_false, at_get hlt, hw1, q1', hw]
        repeat (first | rw [if_pos (by omega)] | rw [if_neg (by omega)])
        exact q2
      rcases ihk (j + 1) (leftFs (leftF d) (flds (terms x3)[j]) (n - 1)) (by omega) (by omega) (by omega) with h | h
      · left; exact step _ h
      · right; exact step _ h
    · right
      rw [hr, leftTs_neg _ _ _ (by omega)]
      obtain ⟨n0, h0'⟩ := hin
      refine Does.of n0 fun m hm => ?_
      have q1' : den Tryd.prog G0 ents m i_L08_left (some p_L08_left_c2) [A.t (T.int (d + 1 : Nat)), A.t (T.int (n - 1)), A.t (T.int j), A.t (T.int 0), A.t x3, A.t (terms x3)[j]] = _ := h0' m hm
      rw [q_L08_left_c1]
      simp only [S0, S9, S1, S2, if_true, if_false, at_get hlt, hw1, q1']
      repeat (first | rw [if_pos (by omega)] | rw [if_neg (by omega)])
theorem left_does : ∀ (d : Nat) (v : T) (n : Int), d ≤ 20 → n ≤ 200 → -1 ≤ n → Dz i_L08_left none [A.t v, A.t (T.int d), A.t (T.int n)] (1, [A.t (T.int (leftF d v n))])
  | 0, v, n, hd, h1, h2 => by
    refine Does.now fun m => ?_
    rw [q_L08_left, leftF]
    simp only [S0, S9, S1, S2, if_true, if_false]
    repeat (first | rw [if_pos (by omega)] | rw [if_neg (by omega)])
    all_goals rfl
  | d + 1, v, n, hd, h1, h2 => by
    rw [leftF]
    by_cases hl : (((terms v).length : Nat) : Int) > n
    · rw [if_pos hl]
      refine Does.now fun m => ?_
      rw [q_L08_left]
      simp only [S0, S9, S1, S2, if_true, if_false]
      repeat (first | rw [if_pos (by omega)] | rw [if_neg (by omega)])
      all_goals rfl
    · rw [if_neg hl]
      have hout := left_out d (fun v n h3 h4 => left_does d v n (by omega) h3 h4) (by omega) v (by omega) (terms v).length 0 n (by omega) h1 h2
      rw [List.drop_zero] at hout
      rcases hout with ⟨n0, h0⟩ | ⟨n0, h0⟩
      · refine Does.of n0 fun m hm => ?_
        have q1 : den Tryd.prog G0 ents m i_L08_left (some p_L08_left_c1) [A.t (T.int (d + 1 : Nat)), A.t (T.int n), A.t (T.int 0), A.t v] = _ := h0 m hm
        rw [q_L08_left]
        simp only [S0, S9, S1, S2, if_true, if_false, q1]
        repeat (first | rw [if_pos (by omega)] | rw [if_neg (by omega)])
      · refine Does.of n0 fun m hm => ?_
        have q1 : den Tryd.prog G0 ents m i_L08_left (some p_L08_left_c1) [A.t (T.int (d + 1 : Nat)), A.t (T.int n), A.t (T.int 0), A.t v] = _ := h0 m hm
        rw [q_L08_left]
        simp only [S0, S9, S1, S2, if_true, if_false, q1]
        repeat (first | rw [if_pos (by omega)] | rw [if_neg (by omega)])
end Go.Proofs.YtjnbggianlgjiaaDoorOH
namespace Go.Proofs.YtjnbggianlgjiaaDoorOH
open Go Go.Proofs.YtjnbggianlgjiaaDoorVM
set_option linter.unusedVariables false
set_option linter.unusedSimpArgs false
set_option maxRecDepth 100000

def up : Nat → Nat → Nat
  | 0, n => n
  | k + 1, n => Nat.succ (up k n)
theorem up_add (k n : Nat) : up k n = n + k := by
  induction k with
  | zero => rfl
  | succ k ih => rw [up, ih]; rfl
theorem run_of {i : Nat} {xs : List A} {r : Nat × List A} (k : Nat) (h : ∀ n, den Tryd.prog G0 ents (up k n) i none xs = some r) : Dz i none xs r :=
  ⟨k, fun n hn => by
    obtain ⟨j, rfl⟩ : ∃ j, n = j + k := ⟨n - k, by omega⟩
    rw [← up_add]
    exact h j⟩
def fi (p : T → Bool) : List T → Nat → Int
  | [], _ => -1
  | x :: l, k => if p x then ((k : Nat) : Int) else fi p l (k + 1)
theorem fi_any (p : T → Bool) : ∀ (l : List T) (k : Nat), decide (fi p l k ≥ 0) = l.any p
  | [], k => by simp [fi]
  | x :: l, k => by
    rw [fi, List.any_cons, ← fi_any p l (k + 1)]
    cases p x
    · simp
    · simp
theorem fi_none {p : T → Bool} {l : List T} {k : Nat} (h : l.any p = false) : fi p l k = -1 := by
  induction l generalizing k with
  | nil => rfl
  | cons x l ih =>
    rw [List.any_cons, Bool.or_eq_false_iff] at h
    rw [fi, h.1, ih h.2]
    rfl
theorem idx0_loop {i ic : Nat} {pp : List Bool} (hq : ∀ n x0 x1 x2, den Tryd.prog G0 ents (Nat.succ n) i (some pp) [A.t x0, A.t x1, A.t x2] =
  bif lt x2.n x1.n then bif ib x2.n x0.l then cl n ic [A.t (x0.a x2.n)] fun v0 => bif (r v0 0).b then rt [aI x2.n] else D n i (some pp) [aL x0.k,aI x1.n,aI (w6 (x2.n + 1))] else none else some (2,[]))
    (l : List T) (p : T → Bool) (hl : l.length ≤ 1000000000) (hp : ∀ x ∈ l, Dz ic none [A.t x] (1, [A.t (T.bool (p x))])) : ∀ (k j : Nat), j + k = l.length →
    Dz i (some pp) [A.t (T.node l), A.t (T.int (l.length : Nat)), A.t (T.int j)] (if (l.drop j).any p then (1, [A.t (T.int (fi p (l.drop j) j))]) else (2, [])) := by
  intro k
  induction k with
  | zero =>
    intro j hj
    rw [List.drop_of_length_le (by omega)]
    refine Does.now fun m => ?_
    rw [hq]
    simp only [S0, S9, S1, S2, if_true, if_false, List.any_nil]
    rw [if_neg (by omega)]
  | succ k ih =>
    intro j hj
    have hlt : j < l.length := by omega
    have hw : IntKind.i64.wrap ((j : Int) + 1) = ((j + 1 : Nat) : Int) := i64succ (by omega)
    obtain ⟨n0, h0⟩ := (hp _ (List.getElem_mem hlt)).both (ih (j + 1) (by omega))
    refine Does.of n0 fun m hm => ?_
    obtain ⟨q, q2⟩ := h0 m hm
    rw [hq, List.drop_eq_getElem_cons hlt, List.any_cons, fi]
    simp only [S0, S9, S1, S2, if_true, if_false, hw, at_get hlt, q]
    rw [if_pos (by omega), if_pos (by omega)]
    cases p l[j]
    · simp only [Bool.false_eq_true, if_false, false_or]; exact q2
    · rfl
theorem idx0_does {i ic : Nat} {pp : List Bool} (hq2 : ∀ n x0, den Tryd.prog G0 ents (Nat.succ n) i none [A.t x0] =
  lp n i pp [aL x0.k,aI x0.l,aI 0] fun v0 => bif Nat.beq v0.1 2 then rt [aI (-1)] else bif Nat.beq v0.1 1 then rt [aI (r v0.2 0).n] else none) (hq : ∀ n x0 x1 x2, den Tryd.prog G0 ents (Nat.succ n) i (some pp) [A.t x0, A.t x1, A.t x2] =
  bif lt x2.n x1.n then bif ib x2.n x0.l then cl n ic [A.t (x0.a x2.n)] fun v0 => bif (r v0 0).b then rt [aI x2.n] else D n i (some pp) [aL x0.k,aI x1.n,aI (w6 (x2.n + 1))] else none else some (2,[]))
    (l : List T) (p : T → Bool) (hl : l.length ≤ 1000000000) (hp : ∀ x ∈ l, Dz ic none [A.t x] (1, [A.t (T.bool (p x))])) : Dz i none [A.t (T.node l)] (1, [A.t (T.int (fi p l 0))]) := by
  obtain ⟨n0, h0⟩ := idx0_loop hq l p hl hp l.length 0 (by omega)
  rw [List.drop_zero] at h0
  refine Does.of n0 fun m hm => ?_
  have q : den Tryd.prog G0 ents m i (some pp) [A.t (T.node l), A.t (T.int (l.length : Nat)), A.t (T.int 0)] = _ := h0 m hm
  rw [hq2]
  simp only [S0, S9, S1, S2, if_true, if_false, q]
  cases hb : l.any p
  · rw [fi_none hb]; rfl
  · rfl
theorem has0_does {i i2 ic : Nat} {pp : List Bool} (hq3 : ∀ n x0, den Tryd.prog G0 ents (Nat.succ n) i2 none [A.t x0] =
  cl n i [aL x0.k] fun v0 => rt [aB (ge (r v0 0).n 0)]) (hq2 : ∀ n x0, den Tryd.prog G0 ents (Nat.succ n) i none [A.t x0] =
  lp n i pp [aL x0.k,aI x0.l,aI 0] fun v0 => bif Nat.beq v0.1 2 then rt [aI (-1)] else bif Nat.beq v0.1 1 then rt [aI (r v0.2 0).n] else none) (hq : ∀ n x0 x1 x2, den Tryd.prog G0 ents (Nat.succ n) i (some pp) [A.t x0, A.t x1, A.t x2] =
  bif lt x2.n x1.n then bif ib x2.n x0.l then cl n ic [A.t (x0.a x2.n)] fun v0 => bif (r v0 0).b then rt [aI x2.n] else D n i (some pp) [aL x0.k,aI x1.n,aI (w6 (x2.n + 1))] else none else some (2,[]))
    (l : List T) (p : T → Bool) (hl : l.length ≤ 1000000000) (hp : ∀ x ∈ l, Dz ic none [A.t x] (1, [A.t (T.bool (p x))])) : Dz i2 none [A.t (T.node l)] (1, [A.t (T.bool (l.any p))]) := by
  obtain ⟨n0, h0⟩ := idx0_does hq2 hq l p hl hp
  refine Does.of n0 fun m hm => ?_
  rw [hq3]
  simp only [S0, S9, S1, S2, if_true, if_false, h0 m hm, fi_any]
theorem idx1_loop {i ic : Nat} {pp : List Bool} (hq : ∀ n x0 x1 x2 x3, den Tryd.prog G0 ents (Nat.succ n) i (some pp) [A.t x0, A.t x1, A.t x2, A.t x3] =
  bif lt x2.n x1.n then bif ib x2.n x0.l then cl n ic [A.t (x0.a x2.n),A.t x3] fun v0 => bif (r v0 0).b then rt [aI x2.n,A.t (r v0 1)] else D n i (some pp) [aL x0.k,aI x1.n,aI (w6 (x2.n + 1)),A.t (r v0 1)] else none else some (2,[A.t x3]))
    (l : List T) (c0 : T) (p : T → Bool) (hl : l.length ≤ 1000000000) (hp : ∀ x ∈ l, Dz ic none [A.t x, A.t c0] (1, [A.t (T.bool (p x)), A.t c0])) : ∀ (k j : Nat), j + k = l.length →
    Dz i (some pp) [A.t (T.node l), A.t (T.int (l.length : Nat)), A.t (T.int j), A.t c0] (if (l.drop j).any p then (1, [A.t (T.int (fi p (l.drop j) j)), A.t c0]) else (2, [A.t c0])) := by
  intro k
  induction k with
  | zero =>
    intro j hj
    rw [List.drop_of_length_le (by omega)]
    refine Does.now fun m => ?_
    rw [hq]
    simp only [S0, S9, S1, S2, if_true, if_false, List.any_nil]
    rw [if_neg (by omega)]
  | succ k ih =>
    intro j hj
    have hlt : j < l.length := by omega
    have hw : IntKind.i64.wrap ((j : Int) + 1) = ((j + 1 : Nat) : Int) := i64succ (by omega)
    obtain ⟨n0, h0⟩ := (hp _ (List.getElem_mem hlt)).both (ih (j + 1) (by omega))
    refine Does.of n0 fun m hm => ?_
    obtain ⟨q, q2⟩ := h0 m hm
    rw [hq, List.drop_eq_getElem_cons hlt, List.any_cons, fi]
    simp only [S0, S9, S1, S2, if_true, if_false, hw, at_get hlt, q]
    rw [if_pos (by omega), if_pos (by omega)]
    cases p l[j]
    · simp only [Bool.false_eq_true, if_false, false_or]; exact q2
    · rfl
theorem idx1_does {i ic : Nat} {pp : List Bool} (hq2 : ∀ n x0 x1, den Tryd.prog G0 ents (Nat.succ n) i none [A.t x0, A.t x1] =
  lp n i pp [aL x0.k,aI x0.l,aI 0,A.t x1] fun v0 => bif Nat.beq v0.1 2 then rt [aI (-1),A.t (r v0.2 0)] else bif Nat.beq v0.1 1 then rt [aI (r v0.2 0).n,A.t (r v0.2 1)] else none) (hq : ∀ n x0 x1 x2 x3, den Tryd.prog G0 ents (Nat.succ n) i (some pp) [A.t x0, A.t x1, A.t x2, A.t x3] =
  bif lt x2.n x1.n then bif ib x2.n x0.l then cl n ic [A.t (x0.a x2.n),A.t x3] fun v0 => bif (r v0 0).b then rt [aI x2.n,A.t (r v0 1)] else D n i (some pp) [aL x0.k,aI x1.n,aI (w6 (x2.n + 1)),A.t (r v0 1)] else none else some (2,[A.t x3]))
    (l : List T) (c0 : T) (p : T → Bool) (hl : l.length ≤ 1000000000) (hp : ∀ x ∈ l, Dz ic none [A.t x, A.t c0] (1, [A.t (T.bool (p x)), A.t c0])) : Dz i none [A.t (T.node l), A.t c0] (1, [A.t (T.int (fi p l 0)), A.t c0]) := by
  obtain ⟨n0, h0⟩ := idx1_loop hq l c0 p hl hp l.length 0 (by omega)
  rw [List.drop_zero] at h0
  refine Does.of n0 fun m hm => ?_
  have q : den Tryd.prog G0 ents m i (some pp) [A.t (T.node l), A.t (T.int (l.length : Nat)), A.t (T.int 0), A.t c0] = _ := h0 m hm
  rw [hq2]
  simp only [S0, S9, S1, S2, if_true, if_false, q]
  cases hb : l.any p
  · rw [fi_none hb]; rfl
  · rfl
theorem has1_does {i i2 ic : Nat} {pp : List Bool} (hq3 : ∀ n x0 x1, den Tryd.prog G0 ents (Nat.succ n) i2 none [A.t x0, A.t x1] =
  cl n i [aL x0.k,A.t x1] fun v0 => rt [aB (ge (r v0 0).n 0),A.t (r v0 1)]) (hq2 : ∀ n x0 x1, den Tryd.prog G0 ents (Nat.succ n) i none [A.t x0, A.t x1] =
  lp n i pp [aL x0.k,aI x0.l,aI 0,A.t x1] fun v0 => bif Nat.beq v0.1 2 then rt [aI (-1),A.t (r v0.2 0)] else bif Nat.beq v0.1 1 then rt [aI (r v0.2 0).n,A.t (r v0.2 1)] else none) (hq : ∀ n x0 x1 x2 x3, den Tryd.prog G0 ents (Nat.succ n) i (some pp) [A.t x0, A.t x1, A.t x2, A.t x3] =
  bif lt x2.n x1.n then bif ib x2.n x0.l then cl n ic [A.t (x0.a x2.n),A.t x3] fun v0 => bif (r v0 0).b then rt [aI x2.n,A.t (r v0 1)] else D n i (some pp) [aL x0.k,aI x1.n,aI (w6 (x2.n + 1)),A.t (r v0 1)] else none else some (2,[A.t x3]))
    (l : List T) (c0 : T) (p : T → Bool) (hl : l.length ≤ 1000000000) (hp : ∀ x ∈ l, Dz ic none [A.t x, A.t c0] (1, [A.t (T.bool (p x)), A.t c0])) : Dz i2 none [A.t (T.node l), A.t c0] (1, [A.t (T.bool (l.any p)), A.t c0]) := by
  obtain ⟨n0, h0⟩ := idx1_does hq2 hq l c0 p hl hp
  refine Does.of n0 fun m hm => ?_
  rw [hq3]
  simp only [S0, S9, S1, S2, if_true, if_false, h0 m hm, fi_any]
end Go.Proofs.YtjnbggianlgjiaaDoorOH
namespace Go.Proofs.YtjnbggianlgjiaaDoorOH
open Go Go.Proofs.YtjnbggianlgjiaaDoorVM
set_option linter.unusedVariables false
set_option linter.unusedSimpArgs false
set_option maxRecDepth 100000

theorem sum_cons (a : Nat) (l : List Nat) : sumN (a :: l) = a + sumN l := rfl
theorem max_cons (a : Nat) (l : List Nat) : maxN (a :: l) = max a (maxN l) := rfl
theorem val_eq (f : T) : T.get f 1 = val f := id rfl
theorem nm_eq (f : T) : (T.get f 0).txt = nm f := id rfl
theorem rwt_in (d : Nat) (ih : ∀ v, Sm d v → Dz i_R08_Weight none [A.t v] (1, [A.t (T.int (wt d v : Nat))])) (l : List T) (hl : l.length ≤ 100) (hs : ∀ f ∈ l, Sm d (val f)) (i2 : Int) (x4 : T) :
    ∀ (k j n : Nat), j + k = l.length → n + 600 * k ≤ 100000000 → Dz i_R08_Weight (some p_R08_Weight_c2) [A.t (T.int n), A.t (T.int i2), A.t (T.node l), A.t (T.int j), A.t x4]
      (4, [A.t (T.int (n + sumN ((l.drop j).map fun f => wt d (val f)) : Nat)), A.t (T.int i2), A.t x4]) := by
  intro k
  induction k with
  | zero =>
    intro j n hj hn
    refine Does.now fun m => ?_
    rw [q_R08_Weight_c2, List.drop_of_length_le (by omega)]
    simp only [S0, S9, S1, S2, if_true, if_false]
    repeat (first | rw [if_pos (by omega)] | rw [if_neg (by omega)])
    rfl
  | succ k ihk =>
    intro j n hj hn
    have hlt : j < l.length := by omega
    have hsm := hs _ (List.getElem_mem hlt)
    have hw2 := hsm.2
    have hw : IntKind.i64.wrap ((j : Int) + 1) = ((j + 1 : Nat) : Int) := i64succ (by omega)
    have ha : IntKind.i64.wrap ((n : Int) + ((wt d (val l[j]) : Nat) : Int)) = ((n + wt d (val l[j]) : Nat) : Int) := i64add (by omega)
    obtain ⟨n0, h0⟩ := (ih _ hsm).both (ihk (j + 1) (n + wt d (val l[j])) (by omega) (by omega))
    refine Does.of n0 fun m hm => ?_
    obtain ⟨q1, q2⟩ := h0 m hm
    rw [q_R08_Weight_c2, List.drop_eq_getElem_cons hlt, List.map_cons, sum_cons, ← Nat.add_assoc]
    simp only [S0, S9, S1, S2, if_true, if_false, at_get hlt, val_eq, q1, ha, hw]
    repeat (first | rw [if_pos (by omega)] | rw [if_neg (by omega)])
    exact q2
theorem rwt_out (d : Nat) (ih : ∀ v, Sm d v → Dz i_R08_Weight none [A.t v] (1, [A.t (T.int (wt d v : Nat))])) (v : T) (hv : Sm (d + 1) v) :
    ∀ (k j n : Nat), j + k = (terms v).length → n + 90000 * k ≤ 100000000 → Dz i_R08_Weight (some p_R08_Weight_c1) [A.t (T.int n), A.t (T.int j), A.t v]
      (2, [A.t (T.int (n + sumN (((terms v).drop j).map (wtT d)) : Nat))]) := by
  have hl := hv.terms
  intro k
  induction k with
  | zero =>
    intro j n hj hn
    refine Does.now fun m => ?_
    rw [q_R08_Weight_c1, List.drop_of_length_le (by omega)]
    simp only [S0, S9, S1, S2, if_true, if_false]
    repeat (first | rw [if_pos (by omega)] | rw [if_neg (by omega)])
    rfl
  | succ k ihk =>
    intro j n hj hn
    have hlt : j < (terms v).length := by omega
    have hm := List.getElem_mem hlt
    have hf := hv.flds hm
    have ht := hv.wtT hm
    have hw : IntKind.i64.wrap ((j : Int) + 1) = ((j + 1 : Nat) : Int) := i64succ (by omega)
    have ha : IntKind.i64.wrap ((n : Int) + 1) = ((n + 1 : Nat) : Int) := i64succ (by omega)
    have hin := rwt_in d ih (flds (terms v)[j]) hf (fun f hf => hv.sub hm hf) j v (flds (terms v)[j]).length 0 (n + 1) (by omega) (by omega)
    have hsum : n + 1 + sumN ((flds (terms v)[j]).map fun f => wt d (val f)) = n + wtT d (terms v)[j] := by unfold wtT; omega
    rw [List.drop_zero, hsum] at hin
    obtain ⟨n0, h0⟩ := hin.both (ihk (j + 1) (n + wtT d (terms v)[j]) (by omega) (by omega))
    refine Does.of n0 fun m hm => ?_
    obtain ⟨q1, q2⟩ := h0 m hm
    have q1' : den Tryd.prog G0 ents m i_R08_Weight (some p_R08_Weight_c2) [A.t (T.int (n + 1 : Nat)), A.t (T.int j), A.t (T.node (flds (terms v)[j])), A.t (T.int 0), A.t v] = _ := q1
    rw [q_R08_Weight_c1, List.drop_eq_getElem_cons hlt, List.map_cons, sum_cons, ← Nat.add_assoc]
    simp only [S0, S9, S1, S2, if_true, if_false, at_get hlt, ha, q1', hw]
    repeat (first | rw [if_pos (by omega)] | rw [if_neg (by omega)])
    exact q2
theorem rweight_does : ∀ (d : Nat) (v : T), Sm d v → Dz i_R08_Weight none [A.t v] (1, [A.t (T.int (wt d v : Nat))])
  | 0, v, h => h.1.elim
  | d + 1, v, h => by
    have hl := h.terms
    have hout := rwt_out d (rweight_does d) v h (terms v).length 0 0 (by omega) (by omega)
    rw [List.drop_zero, Nat.zero_add, ← wt_succ] at hout
    obtain ⟨n0, h0⟩ := hout
    refine Does.of n0 fun m hm => ?_
    have q1 : den Tryd.prog G0 ents m i_R08_Weight (some p_R08_Weight_c1) [A.t (T.int 0), A.t (T.int 0), A.t v] = _ := h0 m hm
    rw [q_R08_Weight]
    simp only [S0, S9, S1, S2, if_true, if_false, q1]
theorem sum_less {α : Type} (f : α → Nat) (h : ∀ x, 1 ≤ f x) : ∀ l : List α, l.length + sumN (l.map fun x => f x - 1) = sumN (l.map f)
  | [] => rfl
  | x :: l => by
    have := sum_less f h l
    have h1 := h x
    simp only [List.map_cons, sum_cons, List.length_cons]
    omega
theorem dep_le : ∀ (d : Nat) (v : T), dep d v ≤ d
  | 0, v => Nat.le_refl _
  | d + 1, v => by
    have h : ∀ l : List Nat, (∀ x ∈ l, x ≤ d) → maxN l ≤ d := by
      intro l
      induction l with
      | nil => intro _; exact Nat.zero_le _
      | cons x l ih => intro hx; rw [max_cons]; have := hx x List.mem_cons_self; have := ih fun y hy => hx y (List.mem_cons_of_mem _ hy); omega
    have : maxN ((terms v).map fun t => maxN ((flds t).map fun f => dep d (val f))) ≤ d := by
      refine h _ fun x hx => ?_
      obtain ⟨t, _, rfl⟩ := List.mem_map.1 hx
      refine h _ fun y hy => ?_
      obtain ⟨f, _, rfl⟩ := List.mem_map.1 hy
      exact dep_le d (val f)
    simp only [dep]
    omega
def few (v : T) : Bool := decide (0 ≤ leftF 20 v 200) && decide (wt 20 v ≤ 40)
theorem few_sm {v : T} (h : few v = true) : Sm 20 v := by
  unfold few at h
  rw [Bool.and_eq_true, decide_eq_true_eq, decide_eq_true_eq] at h
  exact ⟨(left_few 20 v 200 h.1).1, by omega⟩
theorem few_does (v : T) : Dz i_L09_Few none [A.t v] (1, [A.t (T.bool (few v))]) := by
  have h8 : Dz i_L08_Few none [A.t v] (1, [A.t (T.bool (decide (0 ≤ leftF 20 v 200)))]) := by
    obtain ⟨n0, h0⟩ := left_does 20 v 200 (by omega) (by omega) (by omega)
    refine Does.of n0 fun m hm => ?_
    have q1 : den Tryd.prog G0 ents m i_L08_left none [A.t v, A.t (T.int 20), A.t (T.int 200)] = _ := h0 m hm
    rw [q_L08_Few]
    simp only [S0, S9, S1, S2, if_true, if_false, q1, ge_iff_le]
  unfold few
  by_cases h : 0 ≤ leftF 20 v 200
  · obtain ⟨h1, h2⟩ := left_few 20 v 200 h
    have hsm : Sm 20 v := ⟨h1, by omega⟩
    obtain ⟨n0, h0⟩ := h8.both (rweight_does 20 v hsm)
    refine Does.of n0 fun m hm => ?_
    obtain ⟨q1, q2⟩ := h0 m hm
    rw [decide_eq_true h] at q1
    rw [q_L09_Few]
    simp only [S0, S9, S1, S2, if_true, if_false, q1, q2, decide_eq_true h, Bool.true_and]
    have : decide ((((wt 20 v : Nat)) : Int) ≤ 40) = decide (wt 20 v ≤ 40) := by
      apply decide_eq_decide.2; omega
    rw [this]
  · obtain ⟨n0, h0⟩ := h8
    refine Does.of n0 fun m hm => ?_
    have q1 := h0 m hm
    rw [decide_eq_false h] at q1
    rw [q_L09_Few]
    simp only [S0, S9, S1, S2, if_true, if_false, q1, decide_eq_false h, Bool.false_and]
end Go.Proofs.YtjnbggianlgjiaaDoorOH
namespace Go.Proofs.YtjnbggianlgjiaaDoorOH
open Go Go.Proofs.YtjnbggianlgjiaaDoorVM
set_option linter.unusedVariables false
set_option linter.unusedSimpArgs false
set_option maxRecDepth 100000

def fst (x y : Int) : Int := if x = 0 then y else x
theorem fst_zero (y : Int) : fst 0 y = y := rfl
theorem fst_ne {x : Int} (h : x ≠ 0) (y : Int) : fst x y = x := if_neg h
theorem fst_z (x : Int) : fst x 0 = x := by
  unfold fst
  split <;> simp_all
theorem fst_assoc (a b c : Int) : fst (fst a b) c = fst a (fst b c) := by
  unfold fst
  by_cases h : a = 0
  · simp [h]
  · simp [h]
def cmpI (a b : Int) : Int := if a < b then -1 else if a > b then 1 else 0
def cmpF1 (a b : Bool) : Int := (if a then 1 else 0) - (if b then 1 else 0)
def cmpL (f : T → T → Int) : List T → List T → Int
  | [], [] => 0
  | [], _ :: _ => -1
  | _ :: _, [] => 1
  | a :: l, b :: m => fst (f a b) (cmpL f l m)
theorem cmpL_cons (f : T → T → Int) (a b : T) (l m : List T) : cmpL f (a :: l) (b :: m) = fst (f a b) (cmpL f l m) := rfl
theorem cmpL_end (f : T → T → Int) (l m : List T) (j : Nat) (h : j = min l.length m.length) : cmpL f (l.drop j) (m.drop j) = cmpI l.length m.length := by
  unfold cmpI
  rcases Nat.lt_trichotomy l.length m.length with h1 | h1 | h1
  · rw [List.drop_of_length_le (l := l) (by omega), if_pos (by omega), List.drop_eq_getElem_cons (l := m) (i := j) (by omega)]; rfl
  · rw [List.drop_of_length_le (l := l) (by omega), List.drop_of_length_le (l := m) (by omega), if_neg (by omega), if_neg (by omega)]; rfl
  · rw [List.drop_of_length_le (l := m) (by omega), if_neg (by omega), if_pos (by omega), List.drop_eq_getElem_cons (l := l) (i := j) (by omega)]; rfl
def plainC (a b : T) : Int := fst (cmpI (a.get 0).num (b.get 0).num) (fst (cmpI (a.get 1).num (b.get 1).num) (fst (cmpI (a.get 2).num (b.get 2).num) (fst (cmpB (a.get 3).txt (b.get 3).txt)
  (fst (cmpF1 (a.get 4).tf (b.get 4).tf) (fst (cmpF1 (a.get 5).tf (b.get 5).tf) (cmpF1 (a.get 6).tf (b.get 6).tf))))))
def cmpV : Nat → T → T → Int
  | 0, _, _ => 0
  | d + 1, a, b => cmpL (fun t u => fst (plainC t u) (cmpL (fun f g => fst (cmpB (nm f) (nm g)) (cmpV d (val f) (val g))) (flds t) (flds u))) (terms a) (terms b)
def cmpG (d : Nat) (f g : T) : Int := fst (cmpB (nm f) (nm g)) (cmpV d (val f) (val g))
def cmpT (d : Nat) (t u : T) : Int := fst (plainC t u) (cmpL (cmpG d) (flds t) (flds u))
theorem cmpV_succ (d : Nat) (a b : T) : cmpV (d + 1) a b = cmpL (cmpT d) (terms a) (terms b) := rfl

theorem neg1 : Int.negSucc 0 = -1 := id rfl
def firstL : List Int → Int
  | [] => 0
  | x :: l => fst x (firstL l)
def SmT (d : Nat) (t : T) : Prop := (flds t).length ≤ 100 ∧ ∀ f ∈ flds t, Sm d (val f)
theorem Sm.term {d : Nat} {v t : T} (h : Sm (d + 1) v) (ht : t ∈ YtjnbggianlgjiaaDoorOH.terms v) : SmT d t := ⟨h.flds ht, fun f hf => h.sub ht hf⟩
end Go.Proofs.YtjnbggianlgjiaaDoorOH
namespace Go.Proofs.YtjnbggianlgjiaaDoorOH
open Go Go.Proofs.YtjnbggianlgjiaaDoorVM
set_option linter.unusedVariables false
set_option linter.unusedSimpArgs false
set_option maxRecDepth 100000

theorem seqB_iff (a b : ByteArray) : seqB a b = true ↔ a = b := by
  simp only [seqB, beq_iff_eq]
  exact ⟨fun h => by rw [ByteArray.toList_eq, ByteArray.toList_eq] at h; exact ByteArray.ext (Array.toList_inj.1 h), fun h => by rw [h]⟩
theorem bl_irrefl : ∀ l : List UInt8, Op.bytesLess l l = false
  | [] => rfl
  | a :: l => by simp [Op.bytesLess, bl_irrefl l, UInt8.lt_irrefl]
theorem bl_tri : ∀ l m : List UInt8, Op.bytesLess l m = true ∨ Op.bytesLess m l = true ∨ l = m
  | [], [] => .inr (.inr rfl)
  | [], _ :: _ => .inl rfl
  | _ :: _, [] => .inr (.inl rfl)
  | a :: l, b :: m => by
    simp only [Op.bytesLess, Bool.or_eq_true, decide_eq_true_eq, Bool.and_eq_true, beq_iff_eq, List.cons.injEq]
    rcases UInt8.lt_or_lt_of_ne (a := a) (b := b) |> fun h => (Classical.em (a = b)).imp_right h with h | h | h
    · subst h
      rcases bl_tri l m with h | h | h
      · exact .inl (.inr ⟨rfl, h⟩)
      · exact .inr (.inl (.inr ⟨rfl, h⟩))
      · exact .inr (.inr ⟨rfl, h⟩)
    · exact .inl (.inl h)
    · exact .inr (.inl (.inl h))
theorem bl_asymm : ∀ l m : List UInt8, Op.bytesLess l m = true → Op.bytesLess m l = false
  | l, [], h => by cases l <;> simp [Op.bytesLess] at h
  | [], _ :: _, _ => rfl
  | a :: l, b :: m, h => by
    simp only [Op.bytesLess, Bool.or_eq_true, decide_eq_true_eq, Bool.and_eq_true, beq_iff_eq] at h
    simp only [Op.bytesLess, Bool.or_eq_false_iff, decide_eq_false_iff_not, Bool.and_eq_false_iff, beq_eq_false_iff_ne]
    rcases h with h | ⟨rfl, h⟩
    · exact ⟨UInt8.lt_asymm h, .inl (fun e => by subst e; exact UInt8.lt_irrefl _ h)⟩
    · exact ⟨UInt8.lt_irrefl _, .inr (bl_asymm l m h)⟩
theorem slt_asymm {a b : ByteArray} (h : sltB a b = true) : sltB b a = false := bl_asymm _ _ h
theorem slt_tri (a b : ByteArray) : sltB a b = true ∨ sltB b a = true ∨ a = b := by
  rcases bl_tri a.toList b.toList with h | h | h
  · exact .inl h
  · exact .inr (.inl h)
  · exact .inr (.inr ((seqB_iff a b).1 (by simp [seqB, h])))
theorem slt_irrefl (a : ByteArray) : sltB a a = false := bl_irrefl _
theorem texts_does (a b : ByteArray) : Dz i_R08_texts none [A.t (T.str a), A.t (T.str b)] (1, [A.t (T.int (cmpB a b))]) := by
  refine Does.now fun n => ?_
  rw [q_R08_texts]
  simp only [S9, S1, txt_str, cmpB, neg1]
  rcases slt_tri a b with h | h | h
  · simp [h]
  · have h1 := slt_asymm h
    have h2 : seqB a b = false := by
      cases hs : seqB a b with
      | false => rfl
      | true => rw [(seqB_iff a b).1 hs, slt_irrefl] at h; cases h
    simp [h, h1, h2]
  · subst h
    have : seqB a a = true := (seqB_iff a a).2 rfl
    simp [slt_irrefl, this]
theorem nums_does (a b : Int) : Dz i_R08_nums none [A.t (T.int a), A.t (T.int b)] (1, [A.t (T.int (cmpI a b))]) := by
  refine Does.now fun n => ?_
  rw [q_R08_nums]
  simp only [S0, S9, S1, S2, if_true, if_false, neg1]
  unfold cmpI
  split
  · rfl
  · split <;> rfl
theorem bools_does (a b : Bool) : Dz i_R08_bools none [A.t (T.bool a), A.t (T.bool b)] (1, [A.t (T.int (cmpF1 a b))]) := by
  refine Does.now fun n => ?_
  rw [q_R08_bools]
  cases a <;> cases b <;> rfl
theorem cmpI_zero {a b : Int} : cmpI a b = 0 ↔ a = b := by unfold cmpI; split <;> (try split) <;> omega
theorem cmpF1_zero {a b : Bool} : cmpF1 a b = 0 ↔ a = b := by cases a <;> cases b <;> simp [cmpF1]
theorem cmpB_zero {a b : ByteArray} : cmpB a b = 0 ↔ a = b := by
  unfold cmpB
  rcases slt_tri a b with h | h | h
  · simp [h]; intro e; subst e; rw [slt_irrefl] at h; cases h
  · simp [h, slt_asymm h]; intro e; subst e; rw [slt_irrefl] at h; cases h
  · subst h; simp [slt_irrefl]
theorem plain_does (t u : T) : Dz i_R08_plain none [A.t t, A.t u] (1, [A.t (T.int (plainC t u))]) := by
  obtain ⟨n1, h1⟩ := nums_does (t.get 0).num (u.get 0).num
  obtain ⟨n2, h2⟩ := nums_does (t.get 1).num (u.get 1).num
  obtain ⟨n3, h3⟩ := nums_does (t.get 2).num (u.get 2).num
  obtain ⟨n4, h4⟩ := texts_does (t.get 3).txt (u.get 3).txt
  obtain ⟨n5, h5⟩ := bools_does (t.get 4).tf (u.get 4).tf
  obtain ⟨n6, h6⟩ := bools_does (t.get 5).tf (u.get 5).tf
  obtain ⟨n7, h7⟩ := bools_does (t.get 6).tf (u.get 6).tf
  refine Does.of (n1 + n2 + n3 + n4 + n5 + n6 + n7) fun n hn => ?_
  have hs : ∀ a b : ByteArray, ((!seqB a b) = true) = ¬ (a = b) := fun a b => by
    rw [Bool.not_eq_true', ← Bool.not_eq_true, seqB_iff]
  have hbb : ∀ a b : Bool, ((!(a == b)) = true) = ¬ (a = b) := fun a b => by cases a <;> cases b <;> simp
  rw [q_R08_plain]
  simp only [S0, S9, S1, S2, if_true, if_false, h1 n (by omega), h2 n (by omega), h3 n (by omega), h4 n (by omega), h5 n (by omega), h6 n (by omega), h7 n (by omega), hs, hbb]
  unfold plainC fst
  simp only [cmpI_zero, cmpB_zero, cmpF1_zero]
  have key : ∀ (p : Prop) [Decidable p] (x y : Int) (Y : Option (Nat × List A)), Y = some (1, [A.t (T.int y)]) → (if ¬ p then some (1, [A.t (T.int x)]) else Y) = some (1, [A.t (T.int (if p then y else x))]) := by
    intro p _ x y Y hY
    by_cases hp : p
    · rw [if_neg (fun h => h hp), if_pos hp, hY]
    · rw [if_pos hp, if_neg hp]
  exact key _ _ _ _ (key _ _ _ _ (key _ _ _ _ (key _ _ _ _ (key _ _ _ _ (key _ _ _ _ rfl)))))
theorem rterms_loop (d : Nat) (t u : T) (ht : (flds t).length ≤ 1000) (hu : (flds u).length ≤ 1000) (h : ∀ f ∈ flds t, ∀ g ∈ flds u, Dz i_R08_Compare none [A.t (val f), A.t (val g)] (1, [A.t (T.int (cmpV d (val f) (val g)))])) :
    ∀ (k j : Nat), j + k = min (flds t).length (flds u).length →
      (Dz i_R08_Terms (some p_R08_Terms_c1) [A.t (T.int j), A.t t, A.t u] (2, [A.t t, A.t u]) ∧ cmpL (cmpG d) ((flds t).drop j) ((flds u).drop j) = cmpI (flds t).length (flds u).length) ∨
      Dz i_R08_Terms (some p_R08_Terms_c1) [A.t (T.int j), A.t t, A.t u] (1, [A.t (T.int (cmpL (cmpG d) ((flds t).drop j) ((flds u).drop j)))]) := by
  intro k
  induction k with
  | zero =>
    intro j hj
    left
    refine ⟨Does.now fun n => ?_, cmpL_end (cmpG d) (flds t) (flds u) j (by omega)⟩
    rw [q_R08_Terms_c1]
    simp only [S0, S9, S1, S2, if_true, if_false]
    by_cases h1 : j < (flds t).length
    · rw [if_pos (by omega), if_neg (by omega)]
    · rw [if_neg (by omega)]
  | succ k ih =>
    intro j hj
    have h1 : j < (flds t).length := by omega
    have h2 : j < (flds u).length := by omega
    have hw : IntKind.i64.wrap ((j : Int) + 1) = ((j + 1 : Nat) : Int) := i64succ (by omega)
    have hc := h _ (List.getElem_mem h1) _ (List.getElem_mem h2)
    rw [List.drop_eq_getElem_cons h1, List.drop_eq_getElem_cons h2, cmpL_cons]
    by_cases h0 : cmpB (nm (flds t)[j]) (nm (flds u)[j]) = 0
    · by_cases h3 : cmpV d (val (flds t)[j]) (val (flds u)[j]) = 0
      · have hz : cmpG d (flds t)[j] (flds u)[j] = 0 := by unfold cmpG; rw [h0, fst_zero, h3]
        have step : ∀ R, Dz i_R08_Terms (some p_R08_Terms_c1) [A.t (T.int (j + 1 : Nat)), A.t t, A.t u] R → Dz i_R08_Terms (some p_R08_Terms_c1) [A.t (T.int j), A.t t, A.t u] R := by
          intro R hR
          obtain ⟨n1, q1⟩ := texts_does (nm (flds t)[j]) (nm (flds u)[j])
          obtain ⟨n2, q2⟩ := hc
          obtain ⟨n3, q3⟩ := hR
          refine Does.of (n1 + n2 + n3) fun n hn => ?_
          rw [q_R08_Terms_c1]
          simp only [S0, S9, S1, S2, if_true, if_false, at_get h1, at_get h2, nm_eq, val_eq, q1 n (by omega), q2 n (by omega), h0, h3, hw]
          rw [if_pos (by omega), if_pos (by omega), if_pos (by omega), if_pos (by omega), if_pos (by omega), if_pos (by omega), if_neg (by simp)]
          exact q3 n (by omega)
        rw [hz, fst_zero]
        rcases ih (j + 1) (by omega) with ⟨h4, h5⟩ | h4
        · left; exact ⟨step _ h4, h5⟩
        · right; exact step _ h4
      · right
        have hz : cmpG d (flds t)[j] (flds u)[j] = cmpV d (val (flds t)[j]) (val (flds u)[j]) := by unfold cmpG; rw [h0, fst_zero]
        rw [hz, fst_ne h3]
        obtain ⟨n1, q1⟩ := texts_does (nm (flds t)[j]) (nm (flds u)[j])
        obtain ⟨n2, q2⟩ := hc
        refine Does.of (n1 + n2) fun n hn => ?_
        rw [q_R08_Terms_c1]
        simp only [S0, S9, S1, S2, if_true, if_false, at_get h1, at_get h2, nm_eq, val_eq, q1 n (by omega), q2 n (by omega), h0]
        rw [if_pos (by omega), if_pos (by omega), if_pos (by omega), if_pos (by omega), if_pos (by omega), if_pos (by omega), if_pos h3]
    · right
      have hz : cmpG d (flds t)[j] (flds u)[j] = cmpB (nm (flds t)[j]) (nm (flds u)[j]) := by unfold cmpG; rw [fst_ne h0]
      rw [hz, fst_ne h0]
      obtain ⟨n1, q1⟩ := texts_does (nm (flds t)[j]) (nm (flds u)[j])
      refine Does.of n1 fun n hn => ?_
      rw [q_R08_Terms_c1]
      simp only [S0, S9, S1, S2, if_true, if_false, at_get h1, at_get h2, nm_eq, val_eq, q1 n (by omega)]
      rw [if_pos (by omega), if_pos (by omega), if_pos (by omega), if_pos (by omega), if_neg h0, if_pos h0]
theorem rterms_does (d : Nat) (t u : T) (ht : (flds t).length ≤ 1000) (hu : (flds u).length ≤ 1000) (h : ∀ f ∈ flds t, ∀ g ∈ flds u, Dz i_R08_Compare none [A.t (val f), A.t (val g)] (1, [A.t (T.int (cmpV d (val f) (val g)))])) :
    Dz i_R08_Terms none [A.t t, A.t u] (1, [A.t (T.int (cmpT d t u))]) := by
  obtain ⟨n1, q1⟩ := plain_does t u
  by_cases h0 : plainC t u = 0
  · have hz : cmpT d t u = cmpL (cmpG d) (flds t) (flds u) := by unfold cmpT; rw [h0, fst_zero]
    rw [hz]
    rcases rterms_loop d t u ht hu h (min (flds t).length (flds u).length) 0 (by omega) with ⟨⟨n2, q2⟩, h2⟩ | ⟨n2, q2⟩
    · rw [List.drop_zero, List.drop_zero] at h2
      obtain ⟨n3, q3⟩ := nums_does (flds t).length (flds u).length
      refine Does.of (n1 + n2 + n3) fun n hn => ?_
      have q2' : den Tryd.prog G0 ents n i_R08_Terms (some p_R08_Terms_c1) [A.t (T.int 0), A.t t, A.t u] = _ := q2 n (by omega)
      rw [q_R08_Terms]; simp only [S9, S1]; rw [h2]
      simp only [S0, S9, S1, S2, if_true, if_false, q1 n (by omega), h0, q2', q3 n (by omega), not_true_eq_false]
    · refine Does.of (n1 + n2) fun n hn => ?_
      have q2' : den Tryd.prog G0 ents n i_R08_Terms (some p_R08_Terms_c1) [A.t (T.int 0), A.t t, A.t u] = _ := q2 n (by omega)
      rw [q_R08_Terms]
      simp only [S0, S9, S1, S2, if_true, if_false, q1 n (by omega), h0, q2', not_true_eq_false, List.drop_zero]
  · have hz : cmpT d t u = plainC t u := by unfold cmpT; rw [fst_ne h0]
    refine Does.of n1 fun n hn => ?_
    rw [q_R08_Terms, hz]
    simp only [S0, S9, S1, S2, if_true, if_false, q1 n (by omega)]
    rw [if_pos h0]
theorem rcomp_loop (d : Nat) (a b : T) (ha : (terms a).length ≤ 1000) (hb : (terms b).length ≤ 1000) (h : ∀ t ∈ terms a, ∀ u ∈ terms b, Dz i_R08_Terms none [A.t t, A.t u] (1, [A.t (T.int (cmpT d t u))])) :
    ∀ (k j : Nat), j + k = min (terms a).length (terms b).length →
      (Dz i_R08_Compare (some p_R08_Compare_c1) [A.t (T.int j), A.t a, A.t b] (2, [A.t a, A.t b]) ∧ cmpL (cmpT d) ((terms a).drop j) ((terms b).drop j) = cmpI (terms a).length (terms b).length) ∨
      Dz i_R08_Compare (some p_R08_Compare_c1) [A.t (T.int j), A.t a, A.t b] (1, [A.t (T.int (cmpL (cmpT d) ((terms a).drop j) ((terms b).drop j)))]) := by
  intro k
  induction k with
  | zero =>
    intro j hj
    left
    refine ⟨Does.now fun n => ?_, cmpL_end (cmpT d) (terms a) (terms b) j (by omega)⟩
    rw [q_R08_Compare_c1]
    simp only [S0, S9, S1, S2, if_true, if_false]
    by_cases h1 : j < (terms a).length
    · rw [if_pos (by omega), if_neg (by omega)]
    · rw [if_neg (by omega)]
  | succ k ih =>
    intro j hj
    have h1 : j < (terms a).length := by omega
    have h2 : j < (terms b).length := by omega
    have hw : IntKind.i64.wrap ((j : Int) + 1) = ((j + 1 : Nat) : Int) := i64succ (by omega)
    have hc := h _ (List.getElem_mem h1) _ (List.getElem_mem h2)
    rw [List.drop_eq_getElem_cons h1, List.drop_eq_getElem_cons h2, cmpL_cons]
    by_cases h0 : cmpT d (terms a)[j] (terms b)[j] = 0
    · have step : ∀ R, Dz i_R08_Compare (some p_R08_Compare_c1) [A.t (T.int (j + 1 : Nat)), A.t a, A.t b] R → Dz i_R08_Compare (some p_R08_Compare_c1) [A.t (T.int j), A.t a, A.t b] R := by
        intro R hR
        obtain ⟨n0, h⟩ := hc.both hR
        refine Does.of n0 fun n hn => ?_
        obtain ⟨q1, q2⟩ := h n hn
        rw [q_R08_Compare_c1]
        simp only [S0, S9, S1, S2, if_true, if_false, at_get h1, at_get h2, q1, h0, hw]
        rw [if_pos (by omega), if_pos (by omega), if_pos (by omega), if_pos (by omega), if_neg (by simp)]
        exact q2
      rw [h0, fst_zero]
      rcases ih (j + 1) (by omega) with ⟨h3, h4⟩ | h3
      · left; exact ⟨step _ h3, h4⟩
      · right; exact step _ h3
    · right
      rw [fst_ne h0]
      obtain ⟨n0, h⟩ := hc
      refine Does.of n0 fun n hn => ?_
      rw [q_R08_Compare_c1]
      simp only [S0, S9, S1, S2, if_true, if_false, at_get h1, at_get h2, h n hn]
      rw [if_pos (by omega), if_pos (by omega), if_pos (by omega), if_pos (by omega), if_pos h0]
theorem rcompare_does : ∀ (d : Nat) (a b : T), Sm d a → Sm d b → Dz i_R08_Compare none [A.t a, A.t b] (1, [A.t (T.int (cmpV d a b))])
  | 0, a, b, h, _ => h.1.elim
  | d + 1, a, b, ha, hb => by
    have la := ha.terms
    have lb := hb.terms
    rw [cmpV_succ]
    have hT : ∀ t ∈ terms a, ∀ u ∈ terms b, Dz i_R08_Terms none [A.t t, A.t u] (1, [A.t (T.int (cmpT d t u))]) := fun t ht u hu =>
      rterms_does d t u (by have := ha.flds ht; omega) (by have := hb.flds hu; omega) (fun f hf g hg => rcompare_does d _ _ (ha.sub ht hf) (hb.sub hu hg))
    rcases rcomp_loop d a b (by omega) (by omega) hT (min (terms a).length (terms b).length) 0 (by omega) with ⟨⟨n2, q2⟩, h2⟩ | ⟨n2, q2⟩
    · rw [List.drop_zero, List.drop_zero] at h2
      obtain ⟨n3, q3⟩ := nums_does (terms a).length (terms b).length
      refine Does.of (n2 + n3) fun n hn => ?_
      have q2' : den Tryd.prog G0 ents n i_R08_Compare (some p_R08_Compare_c1) [A.t (T.int 0), A.t a, A.t b] = _ := q2 n (by omega)
      rw [q_R08_Compare]; simp only [S9, S1]; rw [h2]
      simp only [S0, S9, S1, S2, if_true, if_false, q2', q3 n (by omega)]
    · refine Does.of n2 fun n hn => ?_
      have q2' : den Tryd.prog G0 ents n i_R08_Compare (some p_R08_Compare_c1) [A.t (T.int 0), A.t a, A.t b] = _ := q2 n (by omega)
      rw [q_R08_Compare]
      simp only [S0, S9, S1, S2, if_true, if_false, q2', List.drop_zero]
theorem rt_does {d : Nat} {t u : T} (ht : SmT d t) (hu : SmT d u) : Dz i_R08_Terms none [A.t t, A.t u] (1, [A.t (T.int (cmpT d t u))]) :=
  rterms_does d t u (by have := ht.1; omega) (by have := hu.1; omega) (fun f hf g hg => rcompare_does d _ _ (ht.2 f hf) (hu.2 g hg))
end Go.Proofs.YtjnbggianlgjiaaDoorOH
namespace Go.Proofs.YtjnbggianlgjiaaDoorOH
open Go Go.Proofs.YtjnbggianlgjiaaDoorVM
set_option linter.unusedVariables false
set_option linter.unusedSimpArgs false
set_option maxRecDepth 100000

def kd (t : T) : Int := (t.get 0).num
def lo (t : T) : Int := (t.get 1).num
def hi (t : T) : Int := (t.get 2).num
def tx (t : T) : ByteArray := (t.get 3).txt
def an (t : T) : Bool := (t.get 4).tf
def mb (t : T) : Bool := (t.get 5).tf
def op (t : T) : Bool := (t.get 6).tf
def emptyB : ByteArray := ⟨#[]⟩
def one (t : T) : Bool := if kd t = 3 then !an t else decide (lo t = hi t)
def rightK (k l h : Int) (x : ByteArray) (a : Bool) : Bool :=
  if k = 3 then decide (l = 0) && decide (h = 0) && (if a then decide (x = emptyB) else decide (x.size ≤ 256))
  else if k = 2 then decide (-9007199254740992 ≤ l) && decide (l ≤ h) && decide (h ≤ 9007199254740992) && decide (x = emptyB) && !a
  else if k = 1 then decide (0 ≤ l) && decide (l ≤ h) && decide (h ≤ 1) && decide (x = emptyB) && !a
  else false
def rightS (t : T) : Bool := !op t && decide ((flds t).length = 0) && !(mb t && one t) && rightK (kd t) (lo t) (hi t) (tx t) (an t)
theorem kd_eq (t : T) : (T.get t 0).num = kd t := id rfl
theorem lo_eq (t : T) : (T.get t 1).num = lo t := id rfl
theorem hi_eq (t : T) : (T.get t 2).num = hi t := id rfl
theorem tx_eq (t : T) : (T.get t 3).txt = tx t := id rfl
theorem an_eq (t : T) : (T.get t 4).tf = an t := id rfl
theorem mb_eq (t : T) : (T.get t 5).tf = mb t := id rfl
theorem op_eq (t : T) : (T.get t 6).tf = op t := id rfl
theorem seq_dec (a b : ByteArray) : seqB a b = decide (a = b) := by
  cases h : seqB a b with
  | true => rw [(seqB_iff a b).1 h]; simp
  | false =>
    symm
    rw [decide_eq_false_iff_not]
    intro e
    rw [(seqB_iff a b).2 e] at h
    cases h
theorem eb_eq : (ByteArray.mk (List.toArray [])) = emptyB := id rfl
theorem e0_zero (n : Nat) : (((n : Nat) : Int) = 0) = (n = 0) := by simp
theorem coll (p : Prop) [Decidable p] (b c : Bool) : (if p then some ((1 : Nat), [A.t (T.bool b)]) else some (1, [A.t (T.bool c)])) = some (1, [A.t (T.bool (if p then b else c))]) := by split <;> rfl
theorem ans {b c : Bool} (h : b = c) : some ((1 : Nat), [A.t (T.bool b)]) = some (1, [A.t (T.bool c)]) := by rw [h]
def sameS (a b : T) : Bool := rightS a && rightS b && decide (kd a = kd b) && decide (lo a = lo b) && decide (hi a = hi b) && decide (tx a = tx b) && decide (an a = an b) && decide (mb a = mb b)
end Go.Proofs.YtjnbggianlgjiaaDoorOH
namespace Go.Proofs.YtjnbggianlgjiaaDoorOH
open Go Go.Proofs.YtjnbggianlgjiaaDoorVM
set_option linter.unusedVariables false
set_option linter.unusedSimpArgs false
set_option maxRecDepth 100000

def trm (k l h : Int) (x : ByteArray) (a m o : Bool) (f : List T) : T := .node [.int k, .int l, .int h, .str x, .bool a, .bool m, .bool o, .node f]
theorem kd_trm (k l h : Int) (x : ByteArray) (a m o : Bool) (f : List T) : kd (trm k l h x a m o f) = k := id rfl
theorem lo_trm (k l h : Int) (x : ByteArray) (a m o : Bool) (f : List T) : lo (trm k l h x a m o f) = l := id rfl
theorem hi_trm (k l h : Int) (x : ByteArray) (a m o : Bool) (f : List T) : hi (trm k l h x a m o f) = h := id rfl
theorem tx_trm (k l h : Int) (x : ByteArray) (a m o : Bool) (f : List T) : tx (trm k l h x a m o f) = x := id rfl
theorem an_trm (k l h : Int) (x : ByteArray) (a m o : Bool) (f : List T) : an (trm k l h x a m o f) = a := id rfl
theorem mb_trm (k l h : Int) (x : ByteArray) (a m o : Bool) (f : List T) : mb (trm k l h x a m o f) = m := id rfl
def noTrm : T := trm 0 0 0 emptyB false false false []
def mX (a b : T) : ByteArray := if an a then tx b else tx a
def m0 (a b : T) (m : Bool) : T := trm (kd a) (maxI (lo a) (lo b)) (minI (hi a) (hi b)) (mX a b) (an a && an b) m false []
def okM (a b : T) : Bool := rightS a && rightS b && decide (kd a = kd b) && !decide (maxI (lo a) (lo b) > minI (hi a) (hi b)) && (an a || an b || decide (tx a = tx b))
def mT (a b : T) : T := m0 a b ((mb a || mb b) && !one (m0 a b false))
theorem noTrm_eq : T.node [T.int 0, T.int 0, T.int 0, T.str ByteArray.empty, T.bool false, T.bool false, T.bool false, T.node []] = noTrm := id rfl
theorem trm_eq (k l h : Int) (x : ByteArray) (a m o : Bool) (f : List T) : T.node [T.int k, T.int l, T.int h, T.str x, T.bool a, T.bool m, T.bool o, T.node f] = trm k l h x a m o f := id rfl
theorem one_m (a b : T) (m : Bool) : one (m0 a b m) = one (m0 a b false) := id rfl
theorem maxI_pos {a b : Int} (h : b > a) : maxI a b = b := if_pos h
theorem maxI_neg {a b : Int} (h : ¬ b > a) : maxI a b = a := if_neg h
theorem minI_pos {a b : Int} (h : b < a) : minI a b = b := if_pos h
theorem minI_neg {a b : Int} (h : ¬ b < a) : minI a b = a := if_neg h
theorem right_op {t : T} (h : rightS t = true) : op t = false ∧ flds t = [] ∧ (kd t ≠ 3 → an t = false ∧ tx t = emptyB) := by
  unfold rightS rightK at h
  simp only [Bool.and_eq_true, Bool.not_eq_true', decide_eq_true_eq] at h
  refine ⟨h.1.1.1, List.eq_nil_of_length_eq_zero h.1.1.2, fun hk => ?_⟩
  have h2 := h.2
  rw [if_neg hk] at h2
  split at h2
  · simp at h2; exact ⟨h2.2, h2.1.2⟩
  · split at h2
    · simp at h2; exact ⟨h2.2, h2.1.2⟩
    · cases h2
def belowS (a b : T) : Bool := okM a b && sameS (mT a b) a
end Go.Proofs.YtjnbggianlgjiaaDoorOH
namespace Go.Proofs.YtjnbggianlgjiaaDoorOH
open Go Go.Proofs.YtjnbggianlgjiaaDoorVM
set_option linter.unusedVariables false
set_option linter.unusedSimpArgs false
set_option maxRecDepth 100000

theorem nameR_eq (n : Nat) (a : ByteArray) : den Tryd.prog G0 ents (Nat.succ n) i_name_Right none [A.t (T.str a)] = some (1, [A.t (T.bool (nameB a))]) := by kernel_rfl
theorem nameR_does (a : ByteArray) : Dz i_name_Right none [A.t (T.str a)] (1, [A.t (T.bool (nameB a))]) := Does.now fun n => nameR_eq n a
theorem collI (p : Prop) [Decidable p] (b c : Int) : (if p then some ((1 : Nat), [A.t (T.int b)]) else some (1, [A.t (T.int c)])) = some (1, [A.t (T.int (if p then b else c))]) := by split <;> rfl
theorem ansI {b c : Int} (h : b = c) : some ((1 : Nat), [A.t (T.int b)]) = some (1, [A.t (T.int c)]) := by rw [h]
theorem seq_comm (a b : ByteArray) : seqB a b = seqB b a := by
  rw [seq_dec, seq_dec]
  exact decide_eq_decide.2 ⟨Eq.symm, Eq.symm⟩
def wordN (s : ByteArray) : Int := if seqB s ⟨#[97, 110, 121]⟩ = true then 1 else if seqB s ⟨#[98, 111, 111, 108]⟩ = true then 2 else if seqB s ⟨#[99, 111, 109, 112, 117, 116, 101, 100]⟩ = true then 3 else if seqB s ⟨#[102, 97, 108, 115, 101]⟩ = true then 4 else if seqB s ⟨#[105, 110, 116]⟩ = true then 5 else if seqB s ⟨#[110, 111, 110, 101]⟩ = true then 6 else if seqB s ⟨#[114, 101, 115, 111, 117, 114, 99, 101]⟩ = true then 7 else if seqB s ⟨#[115, 116, 114, 105, 110, 103]⟩ = true then 8 else if seqB s ⟨#[116, 114, 117, 101]⟩ = true then 9 else 0
theorem wordN_pos (s : ByteArray) : decide (wordN s > 0) = wordsL.any fun w => seqB w s := by
  simp only [wordsL, List.any_cons, List.any_nil, Bool.or_false]
  rw [seq_comm ⟨#[97, 110, 121]⟩ s, seq_comm ⟨#[98, 111, 111, 108]⟩ s, seq_comm ⟨#[99, 111, 109, 112, 117, 116, 101, 100]⟩ s, seq_comm ⟨#[102, 97, 108, 115, 101]⟩ s, seq_comm ⟨#[105, 110, 116]⟩ s, seq_comm ⟨#[110, 111, 110, 101]⟩ s, seq_comm ⟨#[114, 101, 115, 111, 117, 114, 99, 101]⟩ s, seq_comm ⟨#[115, 116, 114, 105, 110, 103]⟩ s, seq_comm ⟨#[116, 114, 117, 101]⟩ s]
  unfold wordN
  generalize seqB s ⟨#[97, 110, 121]⟩ = b0
  generalize seqB s ⟨#[98, 111, 111, 108]⟩ = b1
  generalize seqB s ⟨#[99, 111, 109, 112, 117, 116, 101, 100]⟩ = b2
  generalize seqB s ⟨#[102, 97, 108, 115, 101]⟩ = b3
  generalize seqB s ⟨#[105, 110, 116]⟩ = b4
  generalize seqB s ⟨#[110, 111, 110, 101]⟩ = b5
  generalize seqB s ⟨#[114, 101, 115, 111, 117, 114, 99, 101]⟩ = b6
  generalize seqB s ⟨#[115, 116, 114, 105, 110, 103]⟩ = b7
  generalize seqB s ⟨#[116, 114, 117, 101]⟩ = b8
  grind
def okAt (l : List T) (j : Nat) : Bool := nameB (nm (tAtD l j)) && (j == 0 || sltB (nm (tAtD l (j - 1))) (nm (tAtD l j)))
def riseFrom (l : List T) : Nat → Nat → Bool
  | 0, _ => true
  | k + 1, j => okAt l j && riseFrom l k (j + 1)
def names (l : List T) : Bool := riseFrom l l.length 0
theorem nle_iff (a b : ByteArray) : (sltB a b || seqB a b) = !sltB b a := by
  rcases slt_tri a b with h | h | h
  · rw [h, slt_asymm h]; rfl
  · rw [h, slt_asymm h, seq_dec]
    have : a ≠ b := fun e => by subst e; rw [slt_irrefl] at h; cases h
    rw [decide_eq_false this]; rfl
  · subst h; rw [slt_irrefl, seq_dec, decide_eq_true rfl]; rfl
end Go.Proofs.YtjnbggianlgjiaaDoorOH
namespace Go.Proofs.YtjnbggianlgjiaaDoorOH
open Go Go.Proofs.YtjnbggianlgjiaaDoorVM
set_option linter.unusedVariables false
set_option linter.unusedSimpArgs false
set_option maxRecDepth 100000

def findF : List T → ByteArray → Nat → Int
  | [], _, _ => -1
  | f :: l, s, j => if nm f = s then j else findF l s (j + 1)
def Rise (l : List T) : Prop := ∀ i j, i < j → j < l.length → sltB (nm (tAtD l i)) (nm (tAtD l j)) = true
theorem bl_trans : ∀ l m o : List UInt8, Op.bytesLess l m = true → Op.bytesLess m o = true → Op.bytesLess l o = true
  | l, [], o, h, _ => by cases l <;> simp [Op.bytesLess] at h
  | l, _ :: _, [], _, h => by simp [Op.bytesLess] at h
  | [], _ :: _, _ :: _, _, _ => rfl
  | a :: l, b :: m, c :: o, h1, h2 => by
    simp only [Op.bytesLess, Bool.or_eq_true, decide_eq_true_eq, Bool.and_eq_true, beq_iff_eq] at h1 h2 ⊢
    rcases h1 with h1 | ⟨rfl, h1⟩
    · rcases h2 with h2 | ⟨rfl, h2⟩
      · exact .inl (UInt8.lt_trans h1 h2)
      · exact .inl h1
    · rcases h2 with h2 | ⟨rfl, h2⟩
      · exact .inl h2
      · exact .inr ⟨rfl, bl_trans l m o h1 h2⟩
theorem slt_trans {a b c : ByteArray} (h1 : sltB a b = true) (h2 : sltB b c = true) : sltB a c = true := bl_trans _ _ _ h1 h2
theorem names_rise {l : List T} (h : names l = true) : Rise l := by
  have hf : ∀ (k j : Nat), riseFrom l k j = true → ∀ i, j ≤ i → i < j + k → okAt l i = true := by
    intro k
    induction k with
    | zero => intro j _ i h1 h2; omega
    | succ k ih =>
      intro j hj i h1 h2
      rw [riseFrom, Bool.and_eq_true] at hj
      rcases Nat.eq_or_lt_of_le h1 with rfl | h3
      · exact hj.1
      · exact ih (j + 1) hj.2 i h3 (by omega)
  have hstep : ∀ i, i + 1 < l.length → sltB (nm (tAtD l i)) (nm (tAtD l (i + 1))) = true := by
    intro i hi
    have := hf _ _ h (i + 1) (by omega) (by omega)
    unfold okAt at this
    simpa using (Bool.and_eq_true_iff.1 this).2
  intro i j hij
  induction j with
  | zero => omega
  | succ j ih =>
    intro hj
    rcases Nat.lt_or_ge i j with h1 | h1
    · exact slt_trans (ih h1 (by omega)) (hstep j hj)
    · have : i = j := by omega
      subst this
      exact hstep i hj
theorem findF_le (l : List T) (s : ByteArray) : ∀ j : Nat, -1 ≤ findF l s j ∧ findF l s j < j + l.length := by
  induction l with
  | nil => intro j; simp [findF]; omega
  | cons f l ih =>
    intro j
    rw [findF]
    have := ih (j + 1)
    simp only [List.length_cons]
    split <;> omega
theorem findF_at {l : List T} {s : ByteArray} : ∀ (i j : Nat), (∀ k, k < i → nm (tAtD l k) ≠ s) → i < l.length → nm (tAtD l i) = s → findF l s j = (j + i : Nat) := by
  induction l with
  | nil => intro i j _ h; simp at h
  | cons f l ih =>
    intro i j h1 h2 h3
    rw [findF]
    cases i with
    | zero => exact if_pos h3
    | succ i =>
      refine (if_neg (h1 0 (by omega))).trans ?_
      rw [ih i (j + 1) (fun k hk => h1 (k + 1) (by omega)) (by simpa using h2) h3]
      omega
theorem findF_no {l : List T} {s : ByteArray} : ∀ (j : Nat), (∀ k, k < l.length → nm (tAtD l k) ≠ s) → findF l s j = -1 := by
  induction l with
  | nil => intro j _; rfl
  | cons f l ih =>
    intro j h
    rw [findF]
    refine (if_neg (h 0 (by simp))).trans ?_
    rw [ih (j + 1) (fun k hk => h (k + 1) (by simpa using hk))]
theorem mid_eq {i j : Nat} (h : i + j < 4294967296) : IntKind.i64.wrap (Int.fdiv (IntKind.u64.wrap (IntKind.i64.wrap ((i : Int) + (j : Int)))) 2) = (((i + j) / 2 : Nat) : Int) := by
  rw [i64add (by omega), wu64, Nat.mod_eq_of_lt (by omega), show (2 : Int) = ((2 : Nat) : Int) from rfl, fdivN, i64nat (by omega)]
end Go.Proofs.YtjnbggianlgjiaaDoorOH
namespace Go.Proofs.YtjnbggianlgjiaaDoorOH
open Go Go.Proofs.YtjnbggianlgjiaaDoorVM
set_option linter.unusedVariables false
set_option linter.unusedSimpArgs false
set_option maxRecDepth 100000

def lackT (a b : T) : Bool := !op a && (flds b).any fun f => decide (findF (flds a) (nm f) 0 < 0)
def atF (a f : T) : T := val (tAtD (flds a) (findF (flds a) (nm f) 0).toNat)
def fitF (U : T → T → Bool) (a f : T) : Bool := decide (0 ≤ findF (flds a) (nm f) 0) && U (atF a f) (val f)
def belowT (U : T → T → Bool) (a b : T) : Bool :=
  if kd b = 5 then true else if kd a = 4 ∧ kd b = 4 then !(op a && !op b) && !lackT b a && (flds b).all (fitF U a) else belowS a b
def underV : Nat → T → T → Bool
  | 0, _, _ => false
  | d + 1, a, b => (terms a).all fun t => (terms b).any fun u => belowT (underV d) t u
theorem underV_succ (d : Nat) (a b : T) : underV (d + 1) a b = (terms a).all fun t => (terms b).any fun u => belowT (underV d) t u := rfl
def NR : Nat → T → Prop
  | 0, _ => False
  | d + 1, v => ∀ t ∈ terms v, kd t = 4 → Rise (flds t) ∧ ∀ f ∈ flds t, NR d (val f)
def NRt (d : Nat) (t : T) : Prop := kd t = 4 → Rise (flds t) ∧ ∀ f ∈ flds t, NR d (val f)
theorem NR.term {d : Nat} {v t : T} (h : NR (d + 1) v) (ht : t ∈ terms v) : NRt d t := h t ht
theorem drop_any {l : List T} {j : Nat} (h : j < l.length) (p : T → Bool) : (l.drop j).any p = (p l[j] || (l.drop (j + 1)).any p) := by rw [List.drop_eq_getElem_cons h, List.any_cons]
theorem drop_all {l : List T} {j : Nat} (h : j < l.length) (p : T → Bool) : (l.drop j).all p = (p l[j] && (l.drop (j + 1)).all p) := by rw [List.drop_eq_getElem_cons h, List.all_cons]
end Go.Proofs.YtjnbggianlgjiaaDoorOH
namespace Go.Proofs.YtjnbggianlgjiaaDoorOH
open Go Go.Proofs.YtjnbggianlgjiaaDoorVM
set_option linter.unusedVariables false
set_option linter.unusedSimpArgs false
set_option maxRecDepth 100000

def allN (p : Nat → Bool) : Nat → Nat → Bool
  | 0, _ => true
  | k + 1, j => p j && allN p k (j + 1)
theorem allN_iff (p : Nat → Bool) : ∀ k j, allN p k j = true ↔ ∀ i, j ≤ i → i < j + k → p i = true
  | 0, j => by simp [allN]; omega
  | k + 1, j => by
    rw [allN, Bool.and_eq_true, allN_iff p k (j + 1)]
    constructor
    · intro h i h1 h2
      rcases Nat.eq_or_lt_of_le h1 with rfl | h3
      · exact h.1
      · exact h.2 i h3 (by omega)
    · intro h
      exact ⟨h j (by omega) (by omega), fun i h1 h2 => h i (by omega) (by omega)⟩
def anyT : T := trm 5 0 0 emptyB false false false []
def bareT (t : T) : Bool := decide (lo t = 0) && decide (hi t = 0) && decide (tx t = emptyB) && !an t && !mb t
def fullF (R : T → Bool) (f : T) : Bool := decide ((terms (val f)).length ≠ 0) && R (val f)
def okT (R : T → Bool) (d : Nat) (t : T) : Bool :=
  if kd t = 5 then decide (cmpT d t anyT = 0)
  else if kd t = 4 then bareT t && decide ((flds t).length ≤ 32) && names (flds t) && (flds t).all (fullF R)
  else rightS t
def ascAt (d : Nat) (l : List T) (j : Nat) : Bool := j == 0 || decide (cmpT d (tAtD l (j - 1)) (tAtD l j) < 0)
def apart (d : Nat) (l : List T) (i k : Nat) : Bool := decide (i = k) || !belowT (underV d) (tAtD l i) (tAtD l k)
def inOrder (R : T → Bool) (d : Nat) (l : List T) : Bool := allN (fun j => okT R d (tAtD l j) && ascAt d l j) l.length 0
def allApart (d : Nat) (l : List T) : Bool := allN (fun i => allN (apart d l i) l.length 0) l.length 0
def okV : Nat → T → Bool
  | 0, _ => false
  | d + 1, v => inOrder (okV d) d (terms v) && allApart d (terms v)
def listV : Nat → Nat → T → Bool
  | 0, _, _ => false
  | _ + 1, 0, _ => false
  | d + 1, e + 1, v => inOrder (listV d e) d (terms v) && allApart d (terms v)
def refV : Nat → T → Bool
  | 0, _ => false
  | d + 1, v => decide (dep (d + 1) v ≤ 16) && (inOrder (refV d) d (terms v) && allApart d (terms v))
def depT (d : Nat) (t : T) : Nat := maxN ((flds t).map fun f => dep d (val f))
theorem dep_succ (d : Nat) (v : T) : dep (d + 1) v = 1 + maxN ((terms v).map (depT d)) := id rfl
theorem maxN_le (l : List Nat) (e : Nat) : maxN l ≤ e ↔ ∀ x ∈ l, x ≤ e := by
  induction l with
  | nil => simp [maxN]
  | cons a l ih =>
    rw [max_cons, Nat.max_le, ih]
    simp
theorem any_flds {d : Nat} {t : T} (h : cmpT d t anyT = 0) : flds t = [] := by
  unfold cmpT at h
  have hp : cmpL (cmpG d) (flds t) (flds anyT) = 0 := by
    unfold fst at h
    split at h
    · exact h
    · rename_i h1; exact absurd h h1
  cases hf : flds t with
  | nil => rfl
  | cons f l =>
    rw [hf] at hp
    have : flds anyT = [] := rfl
    rw [this] at hp
    simp [cmpL] at hp
theorem okT_flds {R : T → Bool} {d : Nat} {t : T} (h : okT R d t = true) (h4 : kd t ≠ 4) : flds t = [] := by
  unfold okT at h
  split at h
  · exact any_flds (of_decide_eq_true h)
  · exact (right_op h).2.1
theorem okT_deep {R S : T → Bool} {d e : Nat} {t : T} (hR : ∀ f ∈ flds t, R (val f) = (S (val f) && decide (dep d (val f) ≤ e))) : okT R d t = (okT S d t && decide (depT d t ≤ e)) := by
  by_cases h4 : kd t = 4
  · have hall : (flds t).all (fullF R) = ((flds t).all (fullF S) && decide (depT d t ≤ e)) := by
      rw [Bool.eq_iff_iff, Bool.and_eq_true, decide_eq_true_eq, List.all_eq_true, List.all_eq_true, depT, maxN_le]
      simp only [fullF, List.mem_map, forall_exists_index, and_imp, forall_apply_eq_imp_iff₂]
      constructor
      · intro h
        refine ⟨fun f hf => ?_, fun f hf => ?_⟩
        · have := h f hf; rw [hR f hf] at this; simp only [Bool.and_eq_true, decide_eq_true_eq] at this ⊢; exact ⟨this.1, this.2.1⟩
        · have := h f hf; rw [hR f hf] at this; simp only [Bool.and_eq_true, decide_eq_true_eq] at this; exact this.2.2
      · rintro ⟨h1, h2⟩ f hf
        have := h1 f hf; rw [hR f hf]; simp only [Bool.and_eq_true, decide_eq_true_eq] at this ⊢; exact ⟨this.1, this.2, h2 f hf⟩
    unfold okT
    rw [if_neg (by omega), if_pos h4, if_neg (by omega), if_pos h4, hall, Bool.and_assoc]
    simp only [Bool.and_assoc]
  · have he : okT R d t = okT S d t := by unfold okT; rw [if_neg h4, if_neg h4]
    rw [he]
    cases hb : okT S d t with
    | false => rfl
    | true =>
      have : depT d t = 0 := by rw [depT, okT_flds hb h4]; rfl
      rw [this]; simp
theorem order_deep {R S : T → Bool} {d e : Nat} {l : List T} (hR : ∀ t ∈ l, ∀ f ∈ flds t, R (val f) = (S (val f) && decide (dep d (val f) ≤ e))) : inOrder R d l = (inOrder S d l && decide (maxN (l.map (depT d)) ≤ e)) := by
  have hT : ∀ j, j < l.length → okT R d (tAtD l j) = (okT S d (tAtD l j) && decide (depT d (tAtD l j) ≤ e)) := fun j hj => okT_deep (by rw [at_get hj]; exact hR _ (List.getElem_mem hj))
  unfold inOrder
  rw [Bool.eq_iff_iff, Bool.and_eq_true, decide_eq_true_eq, allN_iff, allN_iff, maxN_le]
  simp only [Nat.zero_le, true_implies, Nat.zero_add, List.mem_map, forall_exists_index, and_imp, forall_apply_eq_imp_iff₂]
  constructor
  · intro h
    refine ⟨fun i hi => ?_, fun t ht => ?_⟩
    · have := h i hi; rw [hT i hi] at this; simp only [Bool.and_eq_true, decide_eq_true_eq] at this ⊢; exact ⟨this.1.1, this.2⟩
    · obtain ⟨i, hi, rfl⟩ := List.getElem_of_mem ht
      have := h i hi; rw [hT i hi, at_get hi] at this; simp only [Bool.and_eq_true, decide_eq_true_eq] at this; exact this.1.2
  · rintro ⟨h1, h2⟩ i hi
    have := h1 i hi; rw [hT i hi]; simp only [Bool.and_eq_true, decide_eq_true_eq] at this ⊢
    exact ⟨⟨this.1, by rw [at_get hi]; exact h2 _ (List.getElem_mem hi)⟩, this.2⟩
theorem listV_eq : ∀ (d e : Nat) (v : T), listV d e v = (okV d v && decide (dep d v ≤ e))
  | 0, e, v => by simp [listV, okV]
  | d + 1, 0, v => by rw [dep_succ, decide_eq_false (by omega), Bool.and_false]; rfl
  | d + 1, e + 1, v => by
    rw [listV, okV, order_deep (S := okV d) (e := e) (fun t _ f _ => listV_eq d e (val f)), dep_succ]
    have : decide (1 + maxN ((terms v).map (depT d)) ≤ e + 1) = decide (maxN ((terms v).map (depT d)) ≤ e) := decide_eq_decide.2 (by omega)
    rw [this, Bool.and_assoc, Bool.and_assoc, Bool.and_comm (decide _)]
theorem refV_eq : ∀ (d : Nat) (v : T), refV d v = (okV d v && decide (dep d v ≤ 16))
  | 0, v => by simp [refV, okV]
  | d + 1, v => by
    rw [refV, okV, order_deep (S := okV d) (e := 16) (fun t _ f _ => refV_eq d (val f)), Bool.and_comm]
    cases h : decide (dep (d + 1) v ≤ 16) with
    | false => rw [Bool.and_false, Bool.and_false]
    | true =>
      have h1 := of_decide_eq_true h
      rw [dep_succ] at h1
      rw [decide_eq_true (by omega : maxN ((terms v).map (depT d)) ≤ 16)]
      simp only [Bool.and_true]
theorem refV_list (d : Nat) (v : T) : refV d v = listV d 16 v := by rw [refV_eq, listV_eq]
theorem okV_NR : ∀ (d : Nat) (v : T), okV d v = true → NR d v
  | 0, v, h => by cases h
  | d + 1, v, h => by
    rw [okV, Bool.and_eq_true] at h
    intro t ht h4
    obtain ⟨i, hi, rfl⟩ := List.getElem_of_mem ht
    have := (allN_iff _ _ _).1 h.1 i (by omega) (by omega)
    rw [at_get hi, Bool.and_eq_true] at this
    have h1 := this.1
    unfold okT at h1
    rw [if_neg (by omega), if_pos h4, Bool.and_eq_true, Bool.and_eq_true, List.all_eq_true] at h1
    refine ⟨names_rise h1.1.2, fun f hf => okV_NR d _ ?_⟩
    have := h1.2 f hf
    rw [fullF, Bool.and_eq_true] at this
    exact this.2
theorem NRt_of {d : Nat} {R : T → Bool} {t : T} (hR : ∀ f ∈ flds t, R (val f) = true → NR d (val f)) (h : okT R d t = true) : NRt d t := by
  intro h4
  unfold okT at h
  rw [if_neg (by omega), if_pos h4, Bool.and_eq_true, Bool.and_eq_true, List.all_eq_true] at h
  refine ⟨names_rise h.1.2, fun f hf => hR f hf ?_⟩
  have := h.2 f hf
  rw [fullF, Bool.and_eq_true] at this
  exact this.2
theorem listV_NR {d e : Nat} {v : T} (h : listV d e v = true) : NR d v := by
  rw [listV_eq, Bool.and_eq_true] at h
  exact okV_NR d v h.1
end Go.Proofs.YtjnbggianlgjiaaDoorOH
namespace Go.Proofs.YtjnbggianlgjiaaDoorOH
open Go Go.Proofs.YtjnbggianlgjiaaDoorVM
set_option linter.unusedVariables false
set_option linter.unusedSimpArgs false
set_option maxRecDepth 100000

theorem anyT_eq : T.node [T.int 5, T.int 0, T.int 0, T.str ByteArray.empty, T.bool false, T.bool false, T.bool false, T.node []] = anyT := id rfl
theorem Sm_any (d : Nat) : SmT d anyT := ⟨by decide, fun f hf => absurd hf (by show ¬ f ∈ []; simp)⟩
theorem beqI (a b : Int) : (a == b) = decide (a = b) := Bool.beq_eq_decide_eq a b
end Go.Proofs.YtjnbggianlgjiaaDoorOH
namespace Go.Proofs.YtjnbggianlgjiaaDoorOH
open Go Go.Proofs.YtjnbggianlgjiaaDoorVM
set_option linter.unusedVariables false
set_option linter.unusedSimpArgs false
set_option maxRecDepth 100000

end Go.Proofs.YtjnbggianlgjiaaDoorOH
namespace Go.Proofs.YtjnbggianlgjiaaDoorOH
open Go Go.Proofs.YtjnbggianlgjiaaDoorVM
set_option linter.unusedVariables false
set_option linter.unusedSimpArgs false
set_option maxRecDepth 100000

theorem refV_NR {v : T} (h : refV 20 v = true) : NR 20 v := by
  rw [refV_eq, Bool.and_eq_true] at h
  exact okV_NR 20 v h.1
def belowV (a b : T) : Bool := refV 20 a && (refV 20 b && underV 20 a b)
end Go.Proofs.YtjnbggianlgjiaaDoorOH
namespace Go.Proofs.YtjnbggianlgjiaaDoorOH
open Go Go.Proofs.YtjnbggianlgjiaaDoorVM
set_option linter.unusedVariables false
set_option linter.unusedSimpArgs false
set_option maxRecDepth 100000

def oneT (v : T) : T := tAtD (terms v) 0
def allV (g : T → Bool) : Nat → T → Bool
  | 0, _ => false
  | d + 1, v => decide ((terms v).length = 1) && (!decide (kd (oneT v) = 5) && (if kd (oneT v) = 4 then (flds (oneT v)).all (fun f => allV g d (val f)) else g (oneT v)))
def atomS (t : T) : Bool := rightS t && one t
def readyS (t : T) : Bool := mb t || (rightS t && one t)
def refOne (w : Bool) (t : T) : Bool := one t || (w && mb t)
def waitV : Nat → T → Bool
  | 0, _ => false
  | d + 1, v => (terms v).any fun t => mb t || (flds t).any fun f => waitV d (val f)
theorem any_not {l : List T} {p : T → Bool} : (!l.any fun x => !p x) = l.all p := by
  induction l with
  | nil => rfl
  | cons x l ih => simp only [List.any_cons, List.all_cons, ← ih]; cases p x <;> simp
def fone (v : T) : Nat × List A := if (terms v).length = 1 ∧ kd (oneT v) ≠ 5 then (1, [A.t (oneT v), A.t (T.int 0)]) else (1, [A.t noTrm, A.t (T.int (if (terms v).length = 0 then 31 else 28))])
def refinesV (a b : T) : Bool := (refV 20 a && allV atomS 20 a) && belowV a b
def rrefinesV (a b : T) : Bool := (refV 20 a && allV (refOne false) 20 a) && (refV 20 b && underV 20 a b)
end Go.Proofs.YtjnbggianlgjiaaDoorOH
namespace Go.Proofs.YtjnbggianlgjiaaDoorOH
open Go Go.Proofs.YtjnbggianlgjiaaDoorVM
set_option linter.unusedVariables false
set_option linter.unusedSimpArgs false
set_option maxRecDepth 100000

theorem right_parts {t : T} (h : rightS t = true) : op t = false ∧ flds t = [] ∧ ¬ (mb t = true ∧ one t = true) ∧ rightK (kd t) (lo t) (hi t) (tx t) (an t) = true := by
  have h1 := right_op h
  unfold rightS at h
  simp only [Bool.and_eq_true, Bool.not_eq_true', decide_eq_true_eq] at h
  refine ⟨h1.1, h1.2.1, fun e => ?_, h.2⟩
  have := h.1.2
  rw [e.1, e.2] at this
  cases this
theorem right_kd {t : T} (h : rightS t = true) : kd t = 1 ∨ kd t = 2 ∨ kd t = 3 := by
  have h2 := (right_parts h).2.2.2
  unfold rightK at h2
  split at h2
  · exact .inr (.inr (by assumption))
  · split at h2
    · exact .inr (.inl (by assumption))
    · split at h2
      · exact .inl (by assumption)
      · cases h2
theorem right_lohi {t : T} (h : rightS t = true) : lo t ≤ hi t ∧ (kd t = 3 → lo t = 0 ∧ hi t = 0) := by
  have h2 := (right_parts h).2.2.2
  unfold rightK at h2
  split at h2
  · simp only [Bool.and_eq_true, decide_eq_true_eq] at h2
    exact ⟨by omega, fun _ => h2.1⟩
  · split at h2
    · simp only [Bool.and_eq_true, decide_eq_true_eq] at h2
      exact ⟨by omega, fun e => by omega⟩
    · split at h2
      · simp only [Bool.and_eq_true, decide_eq_true_eq] at h2
        exact ⟨by omega, fun e => by omega⟩
      · cases h2
def LeS (a b : T) : Prop := rightS a = true ∧ rightS b = true ∧ kd a = kd b ∧ lo b ≤ lo a ∧ hi a ≤ hi b ∧ (an a = true → an b = true ∧ tx b = tx a) ∧ (an a = true ∨ an b = true ∨ tx a = tx b) ∧ ((mb a || mb b) && !one a) = mb a
theorem one_m0 {a b : T} (hk : kd a = kd b) (h1 : lo b ≤ lo a) (h2 : hi a ≤ hi b) (h3 : an a = true → an b = true) : one (m0 a b false) = one a := by
  have e1 : maxI (lo a) (lo b) = lo a := maxI_neg (by omega)
  have e2 : minI (hi a) (hi b) = hi a := minI_neg (by omega)
  have e3 : (an a && an b) = an a := by
    cases ha : an a with
    | false => rfl
    | true => rw [h3 ha]; rfl
  unfold one m0
  rw [kd_trm, lo_trm, hi_trm, an_trm, e1, e2, e3]
theorem below_iff (a b : T) : belowS a b = true ↔ LeS a b := by
  unfold belowS okM sameS LeS
  simp only [Bool.and_eq_true, decide_eq_true_eq, Bool.not_eq_true', decide_eq_false_iff_not, Bool.or_eq_true]
  constructor
  · rintro ⟨⟨⟨⟨⟨ra, rb⟩, hk⟩, hlh⟩, htx⟩, ⟨⟨⟨⟨⟨⟨_, _⟩, _⟩, e1⟩, e2⟩, e3⟩, e4⟩, e5⟩
    unfold mT at e1 e2 e3 e4 e5
    rw [show lo (m0 a b ((mb a || mb b) && !one (m0 a b false))) = maxI (lo a) (lo b) from rfl] at e1
    rw [show hi (m0 a b ((mb a || mb b) && !one (m0 a b false))) = minI (hi a) (hi b) from rfl] at e2
    rw [show tx (m0 a b ((mb a || mb b) && !one (m0 a b false))) = mX a b from rfl] at e3
    rw [show an (m0 a b ((mb a || mb b) && !one (m0 a b false))) = (an a && an b) from rfl] at e4
    rw [show mb (m0 a b ((mb a || mb b) && !one (m0 a b false))) = ((mb a || mb b) && !one (m0 a b false)) from rfl] at e5
    have f1 : lo b ≤ lo a := by unfold maxI at e1; split at e1 <;> omega
    have f2 : hi a ≤ hi b := by unfold minI at e2; split at e2 <;> omega
    have f3 : an a = true → an b = true ∧ tx b = tx a := by
      intro h
      rw [h] at e4
      unfold mX at e3
      rw [if_pos h] at e3
      exact ⟨by simpa using e4, e3⟩
    rw [one_m0 hk f1 f2 (fun h => (f3 h).1)] at e5
    exact ⟨ra, rb, hk, f1, f2, f3, by rcases htx with (h | h) | h; exact .inl h; exact .inr (.inl h); exact .inr (.inr h), e5⟩
  · rintro ⟨ra, rb, hk, f1, f2, f3, htx, e5⟩
    obtain ⟨o1, o2, o3, o4⟩ := right_parts ra
    have hl := right_lohi ra
    have e1 : maxI (lo a) (lo b) = lo a := maxI_neg (by omega)
    have e2 : minI (hi a) (hi b) = hi a := minI_neg (by omega)
    have e3 : mX a b = tx a := by
      unfold mX
      split
      · rename_i h; exact (f3 h).2
      · rfl
    have e4 : (an a && an b) = an a := by
      cases ha : an a with
      | false => rfl
      | true => rw [(f3 ha).1]; rfl
    have e6 := one_m0 hk f1 f2 (fun h => (f3 h).1)
    have hmt : mT a b = trm (kd a) (lo a) (hi a) (tx a) (an a) (mb a) false [] := by
      unfold mT
      rw [e6, e5]
      unfold m0
      rw [e1, e2, e3, e4]
    have hr : rightS (trm (kd a) (lo a) (hi a) (tx a) (an a) (mb a) false []) = true := by
      have hone : one (trm (kd a) (lo a) (hi a) (tx a) (an a) (mb a) false []) = one a := rfl
      unfold rightS
      rw [hone]
      show (!false && decide (([] : List T).length = 0) && !(mb a && one a) && rightK (kd a) (lo a) (hi a) (tx a) (an a)) = true
      rw [o4]
      have : (mb a && one a) = false := by
        cases h1 : mb a <;> cases h2 : one a <;> simp
        exact o3 ⟨h1, h2⟩
      rw [this]
      rfl
    rw [hmt]
    refine ⟨⟨⟨⟨⟨ra, rb⟩, hk⟩, by rw [e1, e2]; omega⟩, by rcases htx with h | h | h; exact .inl (.inl h); exact .inl (.inr h); exact .inr h⟩, ⟨⟨⟨⟨⟨⟨hr, ra⟩, rfl⟩, rfl⟩, rfl⟩, rfl⟩, rfl⟩, rfl⟩
theorem leS_refl {a : T} (h : rightS a = true) : LeS a a := by
  refine ⟨h, h, rfl, by omega, by omega, fun e => ⟨e, rfl⟩, .inr (.inr rfl), ?_⟩
  have := (right_parts h).2.2.1
  cases h1 : mb a <;> cases h2 : one a <;> simp [h1, h2] at this ⊢
theorem leS_trans {a b c : T} (h : LeS a b) (k : LeS b c) : LeS a c := by
  obtain ⟨ra, rb, hk, f1, f2, f3, f4, f5⟩ := h
  obtain ⟨_, rc, gk, g1, g2, g3, g4, g5⟩ := k
  refine ⟨ra, rc, hk.trans gk, by omega, by omega, fun e => ?_, ?_, ?_⟩
  · obtain ⟨p1, p2⟩ := f3 e
    obtain ⟨p3, p4⟩ := g3 p1
    exact ⟨p3, p4.trans p2⟩
  · rcases f4 with h | h | h
    · exact .inl h
    · exact .inr (.inl (g3 h).1)
    · rcases g4 with h2 | h2 | h2
      · exact .inr (.inl (g3 h2).1)
      · exact .inr (.inl h2)
      · exact .inr (.inr (h.trans h2))
  · have hl := right_lohi ra
    have hob : one b = true → one a = true := by
      unfold one
      rw [hk]
      split
      · intro h
        cases ha : an a with
        | false => rfl
        | true => rw [(f3 ha).1] at h; cases h
      · intro h
        have := of_decide_eq_true h
        exact decide_eq_true (by omega)
    cases h1 : mb a <;> cases h2 : mb b <;> cases h3 : mb c <;> cases h4 : one a <;> cases h5 : one b <;> simp [h1, h2, h3, h4, h5] at f5 g5 hob ⊢
theorem below_refl {d : Nat} {U : T → T → Bool} {t : T} (hn : kd t = 4 → Rise (flds t)) (hs : kd t ≠ 4 → kd t ≠ 5 → rightS t = true) (hU : kd t = 4 → ∀ f ∈ flds t, U (val f) (val f) = true) : belowT U t t = true := by
  unfold belowT
  split
  · rfl
  rename_i h5
  split
  · rename_i h4
    have hr := hn h4.1
    have hfind : ∀ i (hi : i < (flds t).length), findF (flds t) (nm (flds t)[i]) 0 = (i : Nat) := by
      intro i hi
      rw [findF_at (l := flds t) (s := nm (flds t)[i]) i 0 (fun k hk e => ?_) hi (by rw [at_get hi]), Nat.zero_add]
      have := hr k i hk hi
      rw [e, at_get hi, slt_irrefl] at this
      cases this
    have hop : (!(op t && !op t)) = true := by cases op t <;> rfl
    have hlk : lackT t t = false := by
      unfold lackT
      rw [Bool.and_eq_false_iff]
      right
      rw [List.any_eq_false]
      intro f hf
      obtain ⟨i, hi, rfl⟩ := List.getElem_of_mem hf
      rw [hfind i hi]
      simp
    rw [hop, hlk]
    simp only [Bool.not_false, Bool.true_and, List.all_eq_true]
    intro f hf
    obtain ⟨i, hi, rfl⟩ := List.getElem_of_mem hf
    unfold fitF atF
    rw [hfind i hi, Int.toNat_natCast, at_get hi, hU h4.1 _ hf, decide_eq_true (by omega)]
    rfl
  · rename_i h4
    exact (below_iff t t).2 (leS_refl (hs (fun e => h4 ⟨e, e⟩) h5))
theorem okT_parts {R : T → Bool} {d : Nat} {t : T} (h : okT R d t = true) : (kd t = 4 → Rise (flds t) ∧ bareT t = true ∧ ∀ f ∈ flds t, R (val f) = true) ∧ (kd t ≠ 4 → kd t ≠ 5 → rightS t = true) := by
  unfold okT at h
  refine ⟨fun h4 => ?_, fun h4 h5 => ?_⟩
  · rw [if_neg (by omega), if_pos h4, Bool.and_eq_true, Bool.and_eq_true, Bool.and_eq_true, List.all_eq_true] at h
    refine ⟨names_rise h.1.2, h.1.1.1, fun f hf => ?_⟩
    have := h.2 f hf
    rw [fullF, Bool.and_eq_true] at this
    exact this.2
  · rw [if_neg h5, if_neg h4] at h
    exact h
theorem okV_term {d : Nat} {v t : T} (h : okV (d + 1) v = true) (ht : t ∈ terms v) : okT (okV d) d t = true := by
  rw [okV, Bool.and_eq_true] at h
  obtain ⟨i, hi, rfl⟩ := List.getElem_of_mem ht
  have := (allN_iff _ _ _).1 h.1 i (by omega) (by omega)
  rw [at_get hi, Bool.and_eq_true] at this
  exact this.1
theorem under_refl : ∀ (d : Nat) (v : T), okV d v = true → underV d v v = true
  | 0, v, h => by cases h
  | d + 1, v, h => by
    rw [underV_succ, List.all_eq_true]
    intro t ht
    rw [List.any_eq_true]
    have hp := okT_parts (okV_term h ht)
    exact ⟨t, ht, below_refl (d := d) (fun h4 => (hp.1 h4).1) hp.2 (fun h4 f hf => under_refl d (val f) ((hp.1 h4).2.2 f hf))⟩
theorem find_some {l : List T} {s : ByteArray} : ∀ (j : Nat), 0 ≤ findF l s j → ∃ i, i < l.length ∧ findF l s j = (j + i : Nat) ∧ nm (tAtD l i) = s := by
  induction l with
  | nil => intro j h; simp [findF] at h
  | cons f l ih =>
    intro j h
    rw [findF] at h ⊢
    by_cases hf : nm f = s
    · rw [if_pos hf]
      exact ⟨0, by simp, rfl, hf⟩
    · rw [if_neg hf] at h ⊢
      obtain ⟨i, h1, h2, h3⟩ := ih (j + 1) h
      exact ⟨i + 1, by simpa using h1, by rw [h2]; congr 1; omega, h3⟩
theorem below_trans {U V W : T → T → Bool} {t u w : T} (hU : ∀ f ∈ flds t, ∀ g ∈ flds u, ∀ h ∈ flds w, U (val f) (val g) = true → V (val g) (val h) = true → W (val f) (val h) = true) (h1 : belowT U t u = true) (h2 : belowT V u w = true) : belowT W t w = true := by
  unfold belowT at h1 h2 ⊢
  by_cases w5 : kd w = 5
  · rw [if_pos w5]
  rw [if_neg w5] at h2 ⊢
  by_cases hw : kd u = 4 ∧ kd w = 4
  · rw [if_pos hw] at h2
    rw [if_neg (by omega)] at h1
    by_cases ht : kd t = 4
    rotate_left
    · rw [if_neg (fun e => ht e.1), below_iff] at h1
      have := right_kd h1.2.1
      omega
    rw [if_pos ⟨ht, hw.1⟩] at h1
    rw [if_pos ⟨ht, hw.2⟩]
    simp only [Bool.and_eq_true, List.all_eq_true] at h1 h2 ⊢
    obtain ⟨⟨a1, a2⟩, a3⟩ := h1
    obtain ⟨⟨b1, b2⟩, b3⟩ := h2
    refine ⟨⟨?_, ?_⟩, fun x hx => ?_⟩
    · cases ot : op t <;> cases ou : op u <;> cases ow : op w <;> simp [ot, ou, ow] at a1 b1 ⊢
    · -- no field is lacking
      cases ow : op w with
      | true => unfold lackT; rw [ow]; rfl
      | false =>
        have ou : op u = false := by cases h : op u <;> simp [h, ow] at b1 ⊢
        unfold lackT at a2 b2 ⊢
        rw [ou] at a2
        rw [ow] at b2 ⊢
        simp only [Bool.not_false, Bool.true_and, Bool.not_eq_true', List.any_eq_false, decide_eq_true_eq] at a2 b2 ⊢
        intro f hf
        have h3 := a2 f hf
        obtain ⟨i, hi, _, hn⟩ := find_some (l := flds u) (s := nm f) 0 (by omega)
        rw [at_get hi] at hn
        have h4 := b2 _ (List.getElem_mem hi)
        rw [hn] at h4
        exact h4
    · have h3 := b3 x hx
      unfold fitF atF at h3 ⊢
      rw [Bool.and_eq_true, decide_eq_true_eq] at h3 ⊢
      obtain ⟨i, hi, he, hn⟩ := find_some (l := flds u) (s := nm x) 0 h3.1
      rw [Nat.zero_add] at he
      have h3' := h3.2
      rw [he, Int.toNat_natCast, at_get hi] at h3'
      have h4 := a3 _ (List.getElem_mem hi)
      unfold fitF atF at h4
      rw [at_get hi] at hn
      rw [Bool.and_eq_true, decide_eq_true_eq, hn] at h4
      refine ⟨h4.1, ?_⟩
      obtain ⟨k, hk, hek, _⟩ := find_some (l := flds t) (s := nm x) 0 h4.1
      rw [Nat.zero_add] at hek
      have h4' := h4.2
      rw [hek, Int.toNat_natCast, at_get hk] at h4' ⊢
      exact hU _ (List.getElem_mem hk) _ (List.getElem_mem hi) _ hx h4' h3'
  · rw [if_neg hw, below_iff] at h2
    have ku := right_kd h2.1
    have kw := right_kd h2.2.1
    rw [if_neg (by omega), if_neg (by omega), below_iff] at h1
    rw [if_neg (by omega), below_iff]
    exact leS_trans h1 h2
theorem under_trans : ∀ (d : Nat) (a b c : T), underV d a b = true → underV d b c = true → underV d a c = true
  | 0, a, b, c, h, _ => by cases h
  | d + 1, a, b, c, h1, h2 => by
    rw [underV_succ, List.all_eq_true] at h1 h2 ⊢
    intro t ht
    have h3 := h1 t ht
    rw [List.any_eq_true] at h3 ⊢
    obtain ⟨u, hu, h3⟩ := h3
    have h4 := h2 u hu
    rw [List.any_eq_true] at h4
    obtain ⟨w, hw, h4⟩ := h4
    exact ⟨w, hw, below_trans (fun f _ g _ h _ p q => under_trans d _ _ _ p q) h3 h4⟩
theorem all_atom : ∀ (d : Nat) (v : T), okV d v = true → allV atomS d v = allV (refOne false) d v
  | 0, v, h => rfl
  | d + 1, v, h => by
    rw [allV, allV]
    by_cases h1 : (terms v).length = 1
    rotate_left
    · rw [decide_eq_false h1, Bool.false_and, Bool.false_and]
    have hm : oneT v ∈ terms v := by unfold oneT; rw [at_get (by omega)]; exact List.getElem_mem _
    have hp := okT_parts (okV_term h hm)
    by_cases h5 : kd (oneT v) = 5
    · rw [decide_eq_true h5]; simp
    by_cases h4 : kd (oneT v) = 4
    · rw [if_pos h4, if_pos h4]
      have : ((flds (oneT v)).all fun f => allV atomS d (val f)) = (flds (oneT v)).all fun f => allV (refOne false) d (val f) := by
        rw [Bool.eq_iff_iff, List.all_eq_true, List.all_eq_true]
        constructor
        · intro hh f hf; rw [← all_atom d (val f) ((hp.1 h4).2.2 f hf)]; exact hh f hf
        · intro hh f hf; rw [all_atom d (val f) ((hp.1 h4).2.2 f hf)]; exact hh f hf
      rw [this]
    · rw [if_neg h4, if_neg h4]
      have : atomS (oneT v) = refOne false (oneT v) := by
        unfold atomS refOne
        rw [hp.2 h4 h5]
        simp
      rw [this]
theorem all_ready : ∀ (d : Nat) (v : T), allV atomS d v = true → allV readyS d v = true
  | 0, v, h => by cases h
  | d + 1, v, h => by
    rw [allV] at h ⊢
    simp only [Bool.and_eq_true] at h ⊢
    refine ⟨h.1, h.2.1, ?_⟩
    have h2 := h.2.2
    split
    · rename_i h4
      rw [if_pos h4, List.all_eq_true] at h2
      rw [List.all_eq_true]
      exact fun f hf => all_ready d (val f) (h2 f hf)
    · rename_i h4
      rw [if_neg h4] at h2
      unfold atomS at h2
      unfold readyS
      rw [h2]
      cases mb (oneT v) <;> rfl
theorem one_term {v t : T} (h : (terms v).length = 1) (ht : t ∈ terms v) : t = oneT v := by
  obtain ⟨i, hi, rfl⟩ := List.getElem_of_mem ht
  unfold oneT
  rw [at_get (by omega)]
  have : i = 0 := by omega
  subst this
  rfl
theorem not_waits : ∀ (d : Nat) (v : T), okV d v = true → allV atomS d v = true → waitV d v = false
  | 0, v, h, _ => by cases h
  | d + 1, v, ho, h => by
    rw [allV] at h
    simp only [Bool.and_eq_true, decide_eq_true_eq, Bool.not_eq_true', decide_eq_false_iff_not] at h
    obtain ⟨h1, h5, h2⟩ := h
    rw [waitV, List.any_eq_false]
    intro t ht
    have he := one_term h1 ht
    have hp := okT_parts (okV_term ho ht)
    rw [← he] at h2 h5
    by_cases h4 : kd t = 4
    · obtain ⟨_, hb, hR⟩ := hp.1 h4
      rw [if_pos h4, List.all_eq_true] at h2
      have hmb : mb t = false := by
        unfold bareT at hb
        simp only [Bool.and_eq_true, Bool.not_eq_true'] at hb
        exact hb.2
      rw [hmb, Bool.false_or, Bool.not_eq_true, List.any_eq_false]
      intro f hf
      rw [not_waits d (val f) (hR f hf) (h2 f hf)]
      simp
    · rw [if_neg h4] at h2
      unfold atomS at h2
      rw [Bool.and_eq_true] at h2
      obtain ⟨_, hf, hmo, _⟩ := right_parts h2.1
      rw [hf]
      have hmb : mb t = false := by
        cases h : mb t with
        | false => rfl
        | true => exact absurd ⟨h, h2.2⟩ hmo
      rw [hmb]
      simp
theorem refV_ok {v : T} (h : refV 20 v = true) : okV 20 v = true := by
  rw [refV_eq, Bool.and_eq_true] at h
  exact h.1
theorem refines_same (a b : T) : refinesV a b = rrefinesV a b := by
  unfold refinesV rrefinesV belowV
  cases h : refV 20 a with
  | false => simp only [Bool.false_and]
  | true => simp only [all_atom 20 a (refV_ok h), Bool.true_and]
theorem refines_parts {a b : T} (h : refinesV a b = true) : refV 20 a = true ∧ allV atomS 20 a = true ∧ refV 20 b = true ∧ underV 20 a b = true := by
  unfold refinesV belowV at h
  simp only [Bool.and_eq_true] at h
  exact ⟨h.1.1, h.1.2, h.2.2.1, h.2.2.2⟩
theorem refines_of {a b : T} (h1 : refV 20 a = true) (h2 : allV atomS 20 a = true) (h3 : refV 20 b = true) (h4 : underV 20 a b = true) : refinesV a b = true := by
  unfold refinesV belowV
  rw [h1, h2, h3, h4]
  rfl
end Go.Proofs.YtjnbggianlgjiaaDoorOH
namespace Go.Proofs.YtjnbggianlgjiaaDoorOH
open Go Go.Proofs.YtjnbggianlgjiaaDoorVM
set_option linter.unusedVariables false
set_option linter.unusedSimpArgs false
set_option maxRecDepth 100000

theorem Dz.steps {i : Nat} {p : Option (List Bool)} {R : Nat × List A} (n : Nat) (I : Nat → List A) (hend : Dz i p (I n) R) (hstep : ∀ j, j < n → ∀ R, Dz i p (I (j + 1)) R → Dz i p (I j) R) : Dz i p (I 0) R := by
  have : ∀ k j, j + k = n → Dz i p (I j) R := by
    intro k
    induction k with
    | zero => intro j hj; rw [show j = n by omega]; exact hend
    | succ k ih => intro j hj; exact hstep j (by omega) R (ih (j + 1) (by omega))
  exact this n 0 (by omega)
def sameL (a b : List T) : Bool := decide (a.map T.txt = b.map T.txt)
theorem same_loop {i : Nat} {p : Option (List Bool)} (a b : List T) (hab : a.length = b.length) (I : Nat → List A)
    (hq : ∀ n j, j < a.length → den Tryd.prog G0 ents (Nat.succ n) i p (I j) = if seqB (tAtD a j).txt (tAtD b j).txt = true then den Tryd.prog G0 ents n i p (I (j + 1)) else some (1, [A.t (T.bool false)]))
    (he : ∀ n, den Tryd.prog G0 ents (Nat.succ n) i p (I a.length) = some (2, [])) : Dz i p (I 0) (if sameL a b then (2, []) else (1, [A.t (T.bool false)])) := by
  have : ∀ k j, j + k = a.length → Dz i p (I j) (if (a.drop j).map T.txt = (b.drop j).map T.txt then (2, []) else (1, [A.t (T.bool false)])) := by
    intro k
    induction k with
    | zero =>
      intro j hj
      rw [List.drop_of_length_le (by omega), List.drop_of_length_le (by omega), if_pos rfl, show j = a.length by omega]
      exact Does.now he
    | succ k ih =>
      intro j hj
      have h1 : j < a.length := by omega
      have h2 : j < b.length := by omega
      rw [List.drop_eq_getElem_cons h1, List.drop_eq_getElem_cons h2, List.map_cons, List.map_cons]
      cases hs : seqB a[j].txt b[j].txt with
      | true =>
        have e : a[j].txt = b[j].txt := (seqB_iff _ _).1 hs
        have ih' := ih (j + 1) (by omega)
        rw [e]
        simp only [List.cons.injEq, true_and]
        refine Does.next ih' fun n => ?_
        rw [hq n j h1, at_get h1, at_get h2, hs, if_pos rfl]
      | false =>
        have hne : a[j].txt ≠ b[j].txt := fun e => by rw [(seqB_iff _ _).2 e] at hs; cases hs
        rw [if_neg (fun e => hne (List.cons.inj e).1)]
        refine Does.now fun n => ?_
        rw [hq n j h1, at_get h1, at_get h2, hs, if_neg (by simp)]
  have h0 := this a.length 0 (by omega)
  unfold sameL
  simp only [List.drop_zero] at h0
  simpa using h0
theorem sameL_len {a b : List T} (h : a.length ≠ b.length) : sameL a b = false := decide_eq_false fun e => h (by simpa using congrArg List.length e)
theorem rsameL_does (a b : List T) (ha : a.length ≤ 1000000) : Dz i_R02_Same none [A.t (T.node a), A.t (T.node b)] (1, [A.t (T.bool (sameL a b))]) := by
  by_cases hl : a.length = b.length
  rotate_left
  · refine Does.now fun m => ?_
    rw [q_R02_Same, sameL_len hl]
    simp only [S0, S9, S1, S2, if_true, if_false]
    rw [if_pos (by omega)]
  obtain ⟨n0, h0⟩ := same_loop (i := i_R02_Same) (p := some p_R02_Same_c1) a b hl (fun j => [A.t (T.node a), A.t (T.node b), A.t (T.int j)]) (fun n j hj => by
    have hw : IntKind.i64.wrap ((j : Int) + 1) = ((j + 1 : Nat) : Int) := i64succ (by omega)
    rw [q_R02_Same_c1]
    simp only [S0, S9, S1, S2, if_true, if_false, hw, Bool.not_eq_true']
    rw [if_pos (by omega), if_pos (by omega), if_pos (by omega)]
    cases seqB (tAtD a j).txt (tAtD b j).txt <;> simp) (fun n => by
    rw [q_R02_Same_c1]
    simp only [S0, S9, S1, S2, if_true, if_false]
    rw [if_neg (by omega)])
  refine Does.of n0 fun m hm => ?_
  have q : den Tryd.prog G0 ents m i_R02_Same (some p_R02_Same_c1) [A.t (T.node a), A.t (T.node b), A.t (T.int 0)] = _ := h0 m hm
  rw [q_R02_Same]
  simp only [S0, S9, S1, S2, if_true, if_false, q]
  rw [if_neg (by omega)]
  cases sameL a b <;> rfl
def hasS (ss : List ByteArray) (s : ByteArray) : Bool := ss.any fun x => seqB x s
theorem hasS_iff (ss : List ByteArray) (s : ByteArray) : hasS ss s = true ↔ s ∈ ss := by
  unfold hasS
  rw [List.any_eq_true]
  constructor
  · rintro ⟨x, hx, h⟩; rw [← (seqB_iff _ _).1 h]; exact hx
  · intro h; exact ⟨s, h, (seqB_iff _ _).2 rfl⟩
def insS : List ByteArray → ByteArray → List ByteArray
  | [], s => [s]
  | x :: l, s => if sltB s x then s :: x :: l else x :: insS l s
def putS (ss : List ByteArray) (s : ByteArray) : List ByteArray := if hasS ss s then ss else insS ss s
theorem str_at {ss : List ByteArray} {j : Nat} (h : j < ss.length) : (tAtD (ss.map T.str) j).txt = ss[j] := by
  rw [at_get (by simpa using h), List.getElem_map]; rfl
theorem rhas_does (ss : List ByteArray) (s : ByteArray) (hl : ss.length ≤ 1000000) : Dz i_R17_Has none [A.t (T.node (ss.map T.str)), A.t (T.str s)] (1, [A.t (T.bool (hasS ss s))]) := by
  have hloop : ∀ k j, j + k = ss.length → Dz i_R17_Has (some p_R17_Has_c1) [A.t (T.node (ss.map T.str)), A.t (T.str s), A.t (T.int j)] (if hasS (ss.drop j) s then (1, [A.t (T.bool true)]) else (2, [])) := by
    intro k
    induction k with
    | zero =>
      intro j hj
      rw [List.drop_of_length_le (by omega)]
      refine Does.now fun m => ?_
      rw [q_R17_Has_c1]
      simp only [S0, S9, S1, S2, if_true, if_false, List.length_map]
      rw [if_neg (by omega)]; rfl
    | succ k ih =>
      intro j hj
      have hlt : j < ss.length := by omega
      have hw : IntKind.i64.wrap ((j : Int) + 1) = ((j + 1 : Nat) : Int) := i64succ (by omega)
      obtain ⟨n0, h0⟩ := ih (j + 1) (by omega)
      refine Does.of n0 fun m hm => ?_
      rw [q_R17_Has_c1, List.drop_eq_getElem_cons hlt]
      simp only [S0, S9, S1, S2, if_true, if_false, List.length_map, hw, str_at hlt, h0 m hm, hasS, List.any_cons]
      rw [if_pos (by omega), if_pos (by omega)]
      cases seqB ss[j] s <;> simp
  obtain ⟨n0, h0⟩ := hloop ss.length 0 (by omega)
  refine Does.of n0 fun m hm => ?_
  have q : den Tryd.prog G0 ents m i_R17_Has (some p_R17_Has_c1) [A.t (T.node (ss.map T.str)), A.t (T.str s), A.t (T.int 0)] = _ := h0 m hm
  rw [List.drop_zero] at q
  rw [q_R17_Has]
  simp only [S0, S9, S1, S2, if_true, if_false, q]
  cases hasS ss s <;> rfl
def putStep (s : ByteArray) (st : Bool × List T) (x : ByteArray) : Bool × List T := if (!st.1 && sltB s x) = true then (true, (st.2 ++ [T.str s]) ++ [T.str x]) else (st.1, st.2 ++ [T.str x])
theorem put_true (s : ByteArray) : ∀ (ss : List ByteArray) (out : List T), ss.foldl (putStep s) (true, out) = (true, out ++ ss.map T.str)
  | [], out => by simp
  | x :: ss, out => by
    rw [List.foldl_cons, show putStep s (true, out) x = (true, out ++ [T.str x]) from rfl, put_true s ss]
    simp
theorem put_false (s : ByteArray) : ∀ (ss : List ByteArray) (out : List T), (let st := ss.foldl (putStep s) (false, out); if st.1 then st.2 else st.2 ++ [T.str s]) = out ++ (insS ss s).map T.str
  | [], out => by simp [insS]
  | x :: ss, out => by
    rw [List.foldl_cons, insS]
    by_cases h : sltB s x = true
    · rw [show putStep s (false, out) x = (true, (out ++ [T.str s]) ++ [T.str x]) by simp [putStep, h], put_true, if_pos h]
      simp
    · rw [show putStep s (false, out) x = (false, out ++ [T.str x]) by simp [putStep, h], if_neg h]
      have := put_false s ss (out ++ [T.str x])
      rw [this]
      simp
theorem putStep_len (s : ByteArray) (st : Bool × List T) (x : ByteArray) : (putStep s st x).2.length ≤ st.2.length + 2 := by
  unfold putStep
  split <;> simp
def RiseS : List ByteArray → Prop
  | [] => True
  | x :: l => (∀ y ∈ l, sltB x y = true) ∧ RiseS l
theorem riseS_ext : ∀ {a b : List ByteArray}, RiseS a → RiseS b → (∀ x, x ∈ a ↔ x ∈ b) → a = b
  | [], [], _, _, _ => rfl
  | [], y :: b, _, _, h => by have := (h y).2 List.mem_cons_self; cases this
  | x :: a, [], _, _, h => by have := (h x).1 List.mem_cons_self; cases this
  | x :: a, y :: b, ha, hb, h => by
    have hxy : x = y := by
      rcases List.mem_cons.1 ((h x).1 List.mem_cons_self) with e | e
      · exact e
      rcases List.mem_cons.1 ((h y).2 List.mem_cons_self) with e2 | e2
      · exact e2.symm
      have h1 := hb.1 x e
      have h2 := ha.1 y e2
      rw [slt_asymm h1] at h2
      cases h2
    subst hxy
    have : a = b := riseS_ext ha.2 hb.2 fun z => by
      constructor
      · intro hz
        rcases List.mem_cons.1 ((h z).1 (List.mem_cons_of_mem _ hz)) with e | e
        · subst e; have := ha.1 z hz; rw [slt_irrefl] at this; cases this
        · exact e
      · intro hz
        rcases List.mem_cons.1 ((h z).2 (List.mem_cons_of_mem _ hz)) with e | e
        · subst e; have := hb.1 z hz; rw [slt_irrefl] at this; cases this
        · exact e
    rw [this]
theorem insS_mem (ss : List ByteArray) (s x : ByteArray) : x ∈ insS ss s ↔ x = s ∨ x ∈ ss := by
  induction ss with
  | nil => simp [insS]
  | cons y l ih =>
    rw [insS]
    split
    · simp
    · rw [List.mem_cons, ih, List.mem_cons]
      constructor
      · rintro (h | h | h)
        · exact .inr (.inl h)
        · exact .inl h
        · exact .inr (.inr h)
      · rintro (h | h | h)
        · exact .inr (.inl h)
        · exact .inl h
        · exact .inr (.inr h)
theorem insS_rise {ss : List ByteArray} {s : ByteArray} (h : RiseS ss) (hn : s ∉ ss) : RiseS (insS ss s) := by
  induction ss with
  | nil => exact ⟨fun y hy => (by cases hy), trivial⟩
  | cons y l ih =>
    rw [insS]
    split
    · rename_i hs
      refine ⟨fun z hz => ?_, h⟩
      rcases List.mem_cons.1 hz with e | e
      · subst e; exact hs
      · exact slt_trans hs (h.1 z e)
    · rename_i hs
      refine ⟨fun z hz => ?_, ih h.2 (fun e => hn (List.mem_cons_of_mem _ e))⟩
      rcases (insS_mem l s z).1 hz with e | e
      · subst e
        rcases slt_tri z y with h1 | h1 | h1
        · exact absurd h1 hs
        · exact h1
        · subst h1; exact absurd List.mem_cons_self hn
      · exact h.1 z e
theorem putS_mem (ss : List ByteArray) (s x : ByteArray) : x ∈ putS ss s ↔ x = s ∨ x ∈ ss := by
  unfold putS
  split
  · rename_i h
    rw [hasS_iff] at h
    constructor
    · exact .inr
    · rintro (e | e)
      · subst e; exact h
      · exact e
  · exact insS_mem ss s x
theorem putS_rise {ss : List ByteArray} {s : ByteArray} (h : RiseS ss) : RiseS (putS ss s) := by
  unfold putS
  split
  · exact h
  · rename_i hh
    exact insS_rise h fun e => hh ((hasS_iff _ _).2 e)
theorem putS_len (ss : List ByteArray) (s : ByteArray) : (putS ss s).length ≤ ss.length + 1 := by
  have hi : ∀ l : List ByteArray, (insS l s).length = l.length + 1 := by
    intro l
    induction l with
    | nil => rfl
    | cons y l ih => rw [insS]; split <;> simp [*]
  unfold putS
  split
  · omega
  · rw [hi]; omega
theorem foldPut_mem (l : List ByteArray) : ∀ (acc : List ByteArray) (x : ByteArray), x ∈ l.foldl putS acc ↔ x ∈ acc ∨ x ∈ l := by
  induction l with
  | nil => simp
  | cons y l ih =>
    intro acc x
    rw [List.foldl_cons, ih, putS_mem, List.mem_cons]
    constructor
    · rintro ((h | h) | h)
      · exact .inr (.inl h)
      · exact .inl h
      · exact .inr (.inr h)
    · rintro (h | h | h)
      · exact .inl (.inr h)
      · exact .inl (.inl h)
      · exact .inr h
theorem foldPut_rise (l : List ByteArray) : ∀ (acc : List ByteArray), RiseS acc → RiseS (l.foldl putS acc) := by
  induction l with
  | nil => exact fun _ h => h
  | cons y l ih => intro acc h; exact ih _ (putS_rise h)
theorem foldPut_len (l : List ByteArray) : ∀ (acc : List ByteArray), (l.foldl putS acc).length ≤ acc.length + l.length := by
  induction l with
  | nil => simp
  | cons y l ih => intro acc; have := ih (putS acc y); have := putS_len acc y; simp only [List.foldl_cons, List.length_cons]; omega
end Go.Proofs.YtjnbggianlgjiaaDoorOH
namespace Go.Proofs.YtjnbggianlgjiaaDoorOH
open Go Go.Proofs.YtjnbggianlgjiaaDoorVM
set_option linter.unusedVariables false
set_option linter.unusedSimpArgs false
set_option maxRecDepth 100000

theorem cloneT_eq (n : Nat) (l : List T) : den Tryd.prog G0 ents (Nat.succ n) i_slices_Clone_Term none [A.t (T.node l)] = Option.map (fun o => (1, o)) (cloneF [A.t (T.node l)]) := by kernel_rfl
theorem cloneFd_eq (n : Nat) (l : List T) : den Tryd.prog G0 ents (Nat.succ n) i_slices_Clone_Field none [A.t (T.node l)] = Option.map (fun o => (1, o)) (cloneF [A.t (T.node l)]) := by kernel_rfl
theorem cloneF_of {l : List T} (h : l.length ≤ 1000000000) : cloneF [A.t (T.node l)] = some [A.t (T.node l)] := by
  show (bif decide (l.length ≤ 1000000000) then _ else _) = _
  rw [decide_eq_true h]; rfl
theorem cloneT_does (l : List T) (h : l.length ≤ 1000000000) : Dz i_slices_Clone_Term none [A.t (T.node l)] (1, [A.t (T.node l)]) := Does.now fun n => by rw [cloneT_eq, cloneF_of h]; rfl
theorem cloneFd_does (l : List T) (h : l.length ≤ 1000000000) : Dz i_slices_Clone_Field none [A.t (T.node l)] (1, [A.t (T.node l)]) := Does.now fun n => by rw [cloneFd_eq, cloneF_of h]; rfl
def copyF (c : T → T) (f : T) : T := .node [f.get 0, c (val f)]
def copyT (c : T → T) (t : T) : T := .node [t.get 0, t.get 1, t.get 2, t.get 3, t.get 4, t.get 5, t.get 6, .node ((flds t).map (copyF c))]
def copyV : Nat → T → T
  | 0, _ => .node [.node []]
  | d + 1, v => .node [.node ((terms v).map (copyT (copyV d)))]
def half (g : T → T) (l : List T) (j : Nat) : List T := (l.take j).map g ++ l.drop j
theorem half_zero (g : T → T) (l : List T) : half g l 0 = l := by simp [half]
theorem half_end (g : T → T) (l : List T) : half g l l.length = l.map g := by simp [half]
theorem half_len (g : T → T) (l : List T) (j : Nat) : (half g l j).length = l.length := by simp [half]; omega
theorem half_at {g : T → T} {l : List T} {j : Nat} (h : j < l.length) : tAtD (half g l j) j = l[j] := by
  rw [at_get (by rw [half_len]; exact h)]
  unfold half
  rw [List.getElem_append_right (by simp; omega)]
  simp [Nat.min_eq_left (Nat.le_of_lt h)]
theorem half_set {g : T → T} {l : List T} {j : Nat} (h : j < l.length) : (half g l j).set j (g l[j]) = half g l (j + 1) := by
  unfold half
  rw [List.set_append_right _ _ (by simp; omega), List.take_add_one, List.getElem?_eq_getElem h]
  simp only [List.length_map, List.length_take, Nat.min_eq_left (Nat.le_of_lt h), Nat.sub_self, List.map_append, Option.toList_some, List.map_cons, List.map_nil, List.append_assoc]
  rw [List.drop_eq_getElem_cons h]
  rfl
theorem copy_c2 (c : T → T) (i0 n i : Int) (x5 x6 : T) (l : List T) (hl : l.length ≤ 1000) (hc : ∀ f ∈ l, Dz i_rank_Copy none [A.t (val f)] (1, [A.t (c (val f))])) :
    Dz i_rank_Copy (some p_rank_Copy_c2) [A.t (T.int i0), A.t (T.int n), A.t (T.int i), A.t (T.int (l.length : Nat)), A.t (T.int 0), A.t x5, A.t x6, A.t (T.node l)] (4, [A.t (T.int i0), A.t (T.int n), A.t (T.int i), A.t x5, A.t (T.node x6.kids), A.t (T.node (l.map (copyF c)))]) := by
  have := Dz.steps (i := i_rank_Copy) (p := some p_rank_Copy_c2) (R := (4, [A.t (T.int i0), A.t (T.int n), A.t (T.int i), A.t x5, A.t (T.node x6.kids), A.t (T.node (l.map (copyF c)))])) l.length
    (fun j => [A.t (T.int i0), A.t (T.int n), A.t (T.int i), A.t (T.int (l.length : Nat)), A.t (T.int j), A.t x5, A.t (T.node x6.kids), A.t (T.node (half (copyF c) l j))]) (by
      refine Does.now fun m => ?_
      rw [q_rank_Copy_c2]
      simp only [S0, S9, S1, S2, if_true, if_false, half_end]
      rw [if_neg (by omega)]) (fun j hj R hR => by
      have hw : IntKind.i64.wrap ((j : Int) + 1) = ((j + 1 : Nat) : Int) := i64succ (by omega)
      obtain ⟨n0, h0⟩ := (hc _ (List.getElem_mem hj)).both hR
      refine Does.of n0 fun m hm => ?_
      obtain ⟨q1, q2⟩ := h0 m hm
      have hs := half_set (g := copyF c) hj
      unfold copyF at hs q2
      rw [← hs] at q2
      rw [q_rank_Copy_c2]
      unfold copyF
      simp only [S0, S9, S1, S2, if_true, if_false, half_len, half_at hj, val_eq, hw, q1]
      rw [if_pos (by omega), if_pos (by omega), if_pos (by omega), if_pos (by omega), if_pos (by omega)]
      exact q2)
  rw [half_zero] at this
  have h6 : ∀ R, Dz i_rank_Copy (some p_rank_Copy_c2) [A.t (T.int i0), A.t (T.int n), A.t (T.int i), A.t (T.int (l.length : Nat)), A.t (T.int 0), A.t x5, A.t (T.node x6.kids), A.t (T.node l)] R → Dz i_rank_Copy (some p_rank_Copy_c2) [A.t (T.int i0), A.t (T.int n), A.t (T.int i), A.t (T.int (l.length : Nat)), A.t (T.int 0), A.t x5, A.t x6, A.t (T.node l)] R := by
    intro R ⟨n0, h0⟩
    refine Does.of n0 fun m hm => ?_
    have := h0 (m + 1) (by omega)
    rw [q_rank_Copy_c2] at this ⊢
    exact this
  exact h6 _ this
theorem copy_does : ∀ (d : Nat) (v : T), Sm d v → Dz i_rank_Copy none [A.t v] (1, [A.t (copyV d v)])
  | 0, v, h => h.1.elim
  | d + 1, v, h => by
    have hl := h.terms
    have hloop := Dz.steps (i := i_rank_Copy) (p := some p_rank_Copy_c1) (R := (2, [A.t (T.node [T.node []]), A.t (T.node ((terms v).map (copyT (copyV d))))])) (terms v).length
      (fun j => [A.t (T.int ((terms v).length : Nat)), A.t (T.int j), A.t (T.node [T.node []]), A.t (T.node (half (copyT (copyV d)) (terms v) j))]) (by
        refine Does.now fun m => ?_
        rw [q_rank_Copy_c1]
        simp only [S0, S9, S1, S2, if_true, if_false, half_end]
        rw [if_neg (by omega)]) (fun j hj R hR => by
        have hw : IntKind.i64.wrap ((j : Int) + 1) = ((j + 1 : Nat) : Int) := i64succ (by omega)
        have hm := List.getElem_mem hj
        have hf := h.flds hm
        obtain ⟨n1, h1⟩ := (cloneFd_does (flds (terms v)[j]) (by omega)).both (copy_c2 (copyV d) j ((terms v).length : Nat) j (T.node [T.node []]) (T.node (half (copyT (copyV d)) (terms v) j)) (flds (terms v)[j]) (by omega) (fun f hf' => copy_does d _ (h.sub hm hf')))
        obtain ⟨n0, h0⟩ := hR
        refine Does.of (n0 + n1) fun m hm => ?_
        obtain ⟨q1, q2⟩ := h1 m (by omega)
        have q3 := h0 m (by omega)
        have hs := half_set (g := copyT (copyV d)) hj
        unfold copyT at hs q3
        rw [← hs] at q3
        rw [q_rank_Copy_c1]
        unfold copyT at q2 ⊢
        simp only [S0, S9, S1, S2, if_true, if_false, half_len, half_at hj, hw, q1, q2]
        rw [if_pos (by omega), if_pos (by omega), if_pos (by omega), if_pos (by omega), if_pos (by omega)]
        exact q3)
    rw [half_zero] at hloop
    obtain ⟨n0, h0⟩ := (cloneT_does (terms v) (by omega)).both hloop
    refine Does.of n0 fun m hm => ?_
    obtain ⟨q1, q2⟩ := h0 m hm
    have q2' : den Tryd.prog G0 ents m i_rank_Copy (some p_rank_Copy_c1) [A.t (T.int ((terms v).length : Nat)), A.t (T.int 0), A.t (T.node [T.node []]), A.t (T.node (terms v))] = _ := q2
    rw [q_rank_Copy]
    simp only [S0, S9, S1, S2, if_true, if_false, q1, q2']
    rfl
theorem cmpL_map {f : T → T → Int} {g : T → T} : ∀ {l : List T}, (∀ x ∈ l, f (g x) x = 0) → cmpL f (l.map g) l = 0
  | [], _ => rfl
  | x :: l, h => by rw [List.map_cons, cmpL_cons, h x List.mem_cons_self, fst_zero]; exact cmpL_map fun y hy => h y (List.mem_cons_of_mem _ hy)
theorem cmpI_self (a : Int) : cmpI a a = 0 := cmpI_zero.2 rfl
theorem cmpB_self (a : ByteArray) : cmpB a a = 0 := cmpB_zero.2 rfl
theorem cmpF1_self (a : Bool) : cmpF1 a a = 0 := cmpF1_zero.2 rfl
theorem plainC_self (t : T) : plainC t t = 0 := by
  unfold plainC
  simp only [cmpI_self, cmpB_self, cmpF1_self, fst_zero]
theorem cmpV_copy : ∀ (d : Nat) (v : T), cmpV d (copyV d v) v = 0
  | 0, v => rfl
  | d + 1, v => by
    rw [cmpV_succ]
    show cmpL (cmpT d) ((terms v).map (copyT (copyV d))) (terms v) = 0
    refine cmpL_map fun t _ => ?_
    unfold cmpT
    rw [show plainC (copyT (copyV d) t) t = plainC t t from rfl, plainC_self, fst_zero]
    show cmpL (cmpG d) ((flds t).map (copyF (copyV d))) (flds t) = 0
    refine cmpL_map fun f _ => ?_
    unfold cmpG
    rw [show nm (copyF (copyV d) f) = nm f from rfl, cmpB_self, fst_zero]
    exact cmpV_copy d (val f)
theorem copy_Vd : ∀ (d : Nat) (v : T), Vd d v → Vd d (copyV d v)
  | 0, v, h => h.elim
  | d + 1, v, h => by
    intro t ht
    have ht' : t ∈ (terms v).map (copyT (copyV d)) := ht
    obtain ⟨u, hu, rfl⟩ := List.mem_map.1 ht'
    obtain ⟨h1, h2, h3⟩ := h u hu
    have hf : flds (copyT (copyV d) u) = (flds u).map (copyF (copyV d)) := rfl
    rw [hf]
    refine ⟨by simpa using h1, h2, fun f hf' => ?_⟩
    obtain ⟨g, hg, rfl⟩ := List.mem_map.1 hf'
    exact ⟨(h3 g hg).1, copy_Vd d _ (h3 g hg).2⟩
theorem copy_wt : ∀ (d : Nat) (v : T), wt d (copyV d v) = wt d v
  | 0, v => rfl
  | d + 1, v => by
    rw [wt_succ, wt_succ]
    show sumN (((terms v).map (copyT (copyV d))).map (wtT d)) = _
    rw [List.map_map]
    congr 1
    refine List.map_congr_left fun t _ => ?_
    show 1 + sumN (((flds t).map (copyF (copyV d))).map fun f => wt d (val f)) = 1 + sumN ((flds t).map fun f => wt d (val f))
    rw [List.map_map]
    congr 2
    exact List.map_congr_left fun f _ => copy_wt d (val f)
theorem copy_Sm {d : Nat} {v : T} (h : Sm d v) : Sm d (copyV d v) := ⟨copy_Vd d v h.1, by rw [copy_wt]; exact h.2⟩
theorem r08same_does {a b : T} (ha : Sm 20 a) (hb : Sm 20 b) : Dz i_R08_Same none [A.t a, A.t b] (1, [A.t (T.bool (decide (cmpV 20 a b = 0)))]) := by
  obtain ⟨n0, h0⟩ := rcompare_does 20 a b ha hb
  refine Does.of n0 fun m hm => ?_
  rw [q_R08_Same]
  simp only [S0, S9, S1, S2, if_true, if_false, h0 m hm, beqI]
end Go.Proofs.YtjnbggianlgjiaaDoorOH
namespace Go.Proofs.YtjnbggianlgjiaaDoorOH
open Go Go.Proofs.YtjnbggianlgjiaaDoorVM
set_option linter.unusedVariables false
set_option linter.unusedSimpArgs false
set_option maxRecDepth 100000

def thV (t : T) : T := t.get 1
def deps (t : T) : List T := (t.get 2).kids
theorem S3 : (∀ t : T, (T.get t 0).txt = nm t) ∧ (∀ t, T.get t 1 = thV t) ∧ (∀ t, (T.get t 2).kids = deps t) := ⟨fun _ => rfl, fun _ => rfl, fun _ => rfl⟩
def fewTh (t : T) : Bool := decide ((nm t).size ≤ 100) && (decide ((deps t).length ≤ 20) && (few (thV t) && (deps t).all fun s => decide (s.txt.size ≤ 100)))
def fewL (l : List T) : Bool := decide (l.length ≤ 12) && l.all fewTh
structure SmTh (t : T) : Prop where
  v : Sm 20 (thV t)
  d : (deps t).length ≤ 20
theorem fewL_sm {l : List T} (h : fewL l = true) : l.length ≤ 12 ∧ ∀ t ∈ l, SmTh t := by
  unfold fewL at h
  simp only [Bool.and_eq_true, decide_eq_true_eq, List.all_eq_true] at h
  refine ⟨h.1, fun t ht => ?_⟩
  have := h.2 t ht
  unfold fewTh at this
  simp only [Bool.and_eq_true, decide_eq_true_eq] at this
  exact ⟨few_sm this.2.2.1, this.2.1⟩
def differs (w h : T) : Bool := !refinesV (thV h) (thV w) || !sameL (deps w) (deps h)
def actT (t : T) : T := .node [.str (nm t), copyV 20 (thV t), .node (deps t)]
def side : List T → List T → Int
  | _, [] => -1
  | [], _ :: _ => 1
  | w :: _, h :: _ => if sltB (nm w) (nm h) = true then -1 else if sltB (nm h) (nm w) = true then 1 else 0
def mergeA : Nat → List T → List T → List (Int × T)
  | 0, _, _ => []
  | _ + 1, [], [] => []
  | n + 1, w :: ws, [] => (2, w) :: mergeA n ws []
  | n + 1, [], h :: hs => (1, h) :: mergeA n [] hs
  | n + 1, w :: ws, h :: hs => if sltB (nm w) (nm h) = true then (2, w) :: mergeA n ws (h :: hs) else if sltB (nm h) (nm w) = true then (1, h) :: mergeA n (w :: ws) hs else if differs w h = true then (3, w) :: mergeA n ws hs else mergeA n ws hs
def mkA (x : Int × T) : T := .node [.int x.1, actT x.2]
def mkR (x : Int × T) : T := .node [.int x.1, x.2]
end Go.Proofs.YtjnbggianlgjiaaDoorOH
namespace Go.Proofs.YtjnbggianlgjiaaDoorOH
open Go Go.Proofs.YtjnbggianlgjiaaDoorVM
set_option linter.unusedVariables false
set_option linter.unusedSimpArgs false
set_option maxRecDepth 100000

theorem findF_has {l : List T} {s : ByteArray} (h : s ∈ l.map nm) : ∀ j : Nat, 0 ≤ findF l s j := by
  induction l with
  | nil => cases h
  | cons x l ih =>
    intro j
    rw [findF]
    split
    · omega
    · rename_i hx
      rw [List.map_cons] at h
      rcases List.mem_cons.1 h with e | e
      · exact absurd e.symm hx
      · exact ih e (j + 1)
theorem findF_not {l : List T} {s : ByteArray} (h : s ∉ l.map nm) : ∀ j : Nat, findF l s j = -1 := by
  induction l with
  | nil => intro j; rfl
  | cons x l ih =>
    intro j
    rw [List.map_cons, List.mem_cons, not_or] at h
    rw [findF, if_neg (fun e => h.1 e.symm)]
    exact ih h.2 (j + 1)
def gA (want have_ : List T) (s : ByteArray) : List (Int × T) :=
  let w := findF want s 0
  let h := findF have_ s 0
  if w < 0 then [(1, tAtD have_ h.toNat)] else if h < 0 then [(2, tAtD want w.toNat)] else if differs (tAtD want w.toNat) (tAtD have_ h.toNat) = true then [(3, tAtD want w.toNat)] else []
theorem gA_len (a b : List T) (s : ByteArray) : (gA a b s).length ≤ 1 := by
  unfold gA
  dsimp only
  split
  · simp
  · split
    · simp
    · split <;> simp
def names2 (a b : List T) : List ByteArray := (b.map nm).foldl putS ((a.map nm).foldl putS [])
theorem names2_len (a b : List T) : (names2 a b).length ≤ a.length + b.length := by
  have h1 := foldPut_len (a.map nm) []
  have h2 := foldPut_len (b.map nm) ((a.map nm).foldl putS [])
  simp only [List.length_map, List.length_nil] at h1 h2
  unfold names2
  omega
theorem put_step (l : List T) (acc : List ByteArray) {j : Nat} (hj : j < l.length) : ((l.map nm).take (j + 1)).foldl putS acc = putS (((l.map nm).take j).foldl putS acc) (nm l[j]) := by
  rw [List.take_add_one, List.getElem?_map, List.getElem?_eq_getElem hj, List.foldl_append]; rfl
theorem riseS_names {l : List T} (h : Rise l) : RiseS (l.map nm) := by
  induction l with
  | nil => trivial
  | cons x l ih =>
    refine ⟨fun y hy => ?_, ih fun i j hij hj => h (i + 1) (j + 1) (by omega) (by simpa using hj)⟩
    obtain ⟨t, ht, rfl⟩ := List.mem_map.1 hy
    obtain ⟨i, hi, rfl⟩ := List.getElem_of_mem ht
    have := h 0 (i + 1) (by omega) (by simpa using hi)
    rw [at_get (by simp), at_get (by simpa using hi)] at this
    simpa using this
def mergeN : Nat → List ByteArray → List ByteArray → List ByteArray
  | 0, _, _ => []
  | _ + 1, [], b => b
  | _ + 1, a, [] => a
  | n + 1, x :: a, y :: b => if sltB x y = true then x :: mergeN n a (y :: b) else if sltB y x = true then y :: mergeN n (x :: a) b else x :: mergeN n a b
theorem mergeN_mem : ∀ (n : Nat) (a b : List ByteArray), a.length + b.length ≤ n → ∀ z, z ∈ mergeN n a b ↔ z ∈ a ∨ z ∈ b
  | 0, [], [], _, z => by simp [mergeN]
  | 0, _ :: _, _, h, _ => by simp at h
  | 0, [], _ :: _, h, _ => by simp at h
  | n + 1, [], b, _, z => by simp [mergeN]
  | n + 1, x :: a, [], _, z => by simp [mergeN]
  | n + 1, x :: a, y :: b, h, z => by
    simp only [List.length_cons] at h
    rw [mergeN]
    split
    · rw [List.mem_cons, mergeN_mem n a (y :: b) (by simp only [List.length_cons]; omega)]
      simp only [List.mem_cons]
      constructor
      · rintro (h | h | h | h)
        · exact .inl (.inl h)
        · exact .inl (.inr h)
        · exact .inr (.inl h)
        · exact .inr (.inr h)
      · rintro ((h | h) | h | h)
        · exact .inl h
        · exact .inr (.inl h)
        · exact .inr (.inr (.inl h))
        · exact .inr (.inr (.inr h))
    · split
      · rw [List.mem_cons, mergeN_mem n (x :: a) b (by simp only [List.length_cons]; omega)]
        simp only [List.mem_cons]
        constructor
        · rintro (h | (h | h) | h)
          · exact .inr (.inl h)
          · exact .inl (.inl h)
          · exact .inl (.inr h)
          · exact .inr (.inr h)
        · rintro ((h | h) | h | h)
          · exact .inr (.inl (.inl h))
          · exact .inr (.inl (.inr h))
          · exact .inl h
          · exact .inr (.inr h)
      · rename_i h1 h2
        have hxy : x = y := by rcases slt_tri x y with h | h | h; exact absurd h h1; exact absurd h h2; exact h
        rw [List.mem_cons, mergeN_mem n a b (by omega), ← hxy]
        simp only [List.mem_cons]
        constructor
        · rintro (h | h | h)
          · exact .inl (.inl h)
          · exact .inl (.inr h)
          · exact .inr (.inr h)
        · rintro ((h | h) | h | h)
          · exact .inl h
          · exact .inr (.inl h)
          · exact .inl h
          · exact .inr (.inr h)
theorem mergeN_rise : ∀ (n : Nat) (a b : List ByteArray), a.length + b.length ≤ n → RiseS a → RiseS b → RiseS (mergeN n a b)
  | 0, _, _, _, _, _ => trivial
  | n + 1, [], b, _, _, hb => by simpa [mergeN] using hb
  | n + 1, x :: a, [], _, ha, _ => by simpa [mergeN] using ha
  | n + 1, x :: a, y :: b, h, ha, hb => by
    simp only [List.length_cons] at h
    rw [mergeN]
    split
    · rename_i h1
      refine ⟨fun z hz => ?_, mergeN_rise n a (y :: b) (by simp only [List.length_cons]; omega) ha.2 hb⟩
      rcases (mergeN_mem n a (y :: b) (by simp only [List.length_cons]; omega) z).1 hz with e | e
      · exact ha.1 z e
      · rcases List.mem_cons.1 e with e | e
        · subst e; exact h1
        · exact slt_trans h1 (hb.1 z e)
    · split
      · rename_i h1 h2
        refine ⟨fun z hz => ?_, mergeN_rise n (x :: a) b (by simp only [List.length_cons]; omega) ha hb.2⟩
        rcases (mergeN_mem n (x :: a) b (by simp only [List.length_cons]; omega) z).1 hz with e | e
        · rcases List.mem_cons.1 e with e | e
          · subst e; exact h2
          · exact slt_trans h2 (ha.1 z e)
        · exact hb.1 z e
      · rename_i h1 h2
        have hxy : x = y := by rcases slt_tri x y with h | h | h; exact absurd h h1; exact absurd h h2; exact h
        refine ⟨fun z hz => ?_, mergeN_rise n a b (by omega) ha.2 hb.2⟩
        rcases (mergeN_mem n a b (by omega) z).1 hz with e | e
        · exact ha.1 z e
        · rw [hxy]; exact hb.1 z e
theorem names2_merge {a b : List T} (ha : Rise a) (hb : Rise b) : names2 a b = mergeN (a.length + b.length) (a.map nm) (b.map nm) := by
  refine riseS_ext (foldPut_rise _ _ (foldPut_rise _ _ trivial)) (mergeN_rise _ _ _ (by simp) (riseS_names ha) (riseS_names hb)) fun x => ?_
  rw [mergeN_mem _ _ _ (by simp)]
  unfold names2
  rw [foldPut_mem, foldPut_mem]
  constructor
  · rintro ((h | h) | h)
    · cases h
    · exact .inl h
    · exact .inr h
  · rintro (h | h)
    · exact .inl (.inr h)
    · exact .inr h
theorem findF_cons {x : T} {l : List T} {s : ByteArray} (h : nm x ≠ s) (j : Nat) : findF (x :: l) s j = findF l s (j + 1) := by rw [findF, if_neg h]
theorem findF_shift (l : List T) (s : ByteArray) : ∀ j : Nat, findF l s (j + 1) = if findF l s j < 0 then -1 else findF l s j + 1 := by
  induction l with
  | nil => intro j; rfl
  | cons x l ih =>
    intro j
    rw [findF, findF]
    by_cases h : nm x = s
    · rw [if_pos h, if_pos h, if_neg (by omega)]; rfl
    · rw [if_neg h, if_neg h]; exact ih (j + 1)
theorem findF_tail {x : T} {l : List T} {s : ByteArray} (h : nm x ≠ s) : (findF (x :: l) s 0 < 0 ↔ findF l s 0 < 0) ∧ (0 ≤ findF l s 0 → tAtD (x :: l) (findF (x :: l) s 0).toNat = tAtD l (findF l s 0).toNat) := by
  rw [findF_cons h, findF_shift]
  refine ⟨by split <;> omega, fun h0 => ?_⟩
  rw [if_neg (by omega), show (findF l s 0 + 1).toNat = (findF l s 0).toNat + 1 by omega]
  rfl
theorem findF_head {x : T} {l : List T} : findF (x :: l) (nm x) 0 = 0 := by rw [findF, if_pos rfl]; rfl
theorem gA_left {x : T} {a b : List T} {s : ByteArray} (h : nm x ≠ s) : gA (x :: a) b s = gA a b s := by
  obtain ⟨h1, h2⟩ := findF_tail (l := a) h
  have hl := findF_le a s 0
  unfold gA
  by_cases c : findF a s 0 < 0
  · simp only [h1.2 c, c, if_true]
  · simp only [mt h1.1 c, c, if_false, h2 (by omega)]
theorem gA_right {x : T} {a b : List T} {s : ByteArray} (h : nm x ≠ s) (hs : s ∈ a.map nm ∨ s ∈ b.map nm) : gA a (x :: b) s = gA a b s := by
  obtain ⟨h1, h2⟩ := findF_tail (l := b) h
  unfold gA
  by_cases c : findF b s 0 < 0
  · have ha : ¬ findF a s 0 < 0 := by
      rcases hs with e | e
      · have := findF_has e 0; omega
      · have := findF_has e 0; omega
    simp only [h1.2 c, c, ha, if_true, if_false]
  · simp only [mt h1.1 c, c, if_false, h2 (by omega)]
theorem flat_congr {f g : ByteArray → List (Int × T)} {l : List ByteArray} (h : ∀ x ∈ l, f x = g x) : l.flatMap f = l.flatMap g := by
  induction l with
  | nil => rfl
  | cons x l ih => rw [List.flatMap_cons, List.flatMap_cons, h x List.mem_cons_self, ih fun y hy => h y (List.mem_cons_of_mem _ hy)]
theorem flat_all : ∀ (l : List T), RiseS (l.map nm) → (l.map nm).flatMap (gA l []) = l.map fun t => ((2 : Int), t)
  | [], _ => rfl
  | x :: l, h => by
    rw [List.map_cons, List.flatMap_cons, List.map_cons]
    have h1 : gA (x :: l) [] (nm x) = [(2, x)] := by unfold gA; simp only [findF_head]; rfl
    rw [h1, flat_congr fun y hy => gA_left (x := x) (a := l) (b := []) (s := y) fun e => by have := h.1 y hy; rw [e, slt_irrefl] at this; cases this]
    rw [flat_all l h.2]; rfl
theorem flat_all2 : ∀ (l : List T), RiseS (l.map nm) → (l.map nm).flatMap (gA [] l) = l.map fun t => ((1 : Int), t)
  | [], _ => rfl
  | x :: l, h => by
    rw [List.map_cons, List.flatMap_cons, List.map_cons]
    have h1 : gA [] (x :: l) (nm x) = [(1, x)] := by unfold gA; simp only [findF_head]; rfl
    rw [h1, flat_congr fun y hy => gA_right (x := x) (a := []) (b := l) (s := y) (fun e => by have := h.1 y hy; rw [e, slt_irrefl] at this; cases this) (.inr hy)]
    rw [flat_all2 l h.2]; rfl
theorem mergeA_left : ∀ (n : Nat) (a : List T), a.length ≤ n → mergeA n a [] = a.map fun t => ((2 : Int), t)
  | 0, [], _ => rfl
  | 0, _ :: _, h => by simp at h
  | n + 1, [], _ => rfl
  | n + 1, x :: a, h => by rw [mergeA, List.map_cons, mergeA_left n a (by simpa using h)]
theorem mergeA_right : ∀ (n : Nat) (a : List T), a.length ≤ n → mergeA n [] a = a.map fun t => ((1 : Int), t)
  | 0, [], _ => rfl
  | 0, _ :: _, h => by simp at h
  | n + 1, [], _ => rfl
  | n + 1, x :: a, h => by rw [mergeA, List.map_cons, mergeA_right n a (by simpa using h)]
theorem flat_merge : ∀ (n : Nat) (a b : List T), a.length + b.length ≤ n → RiseS (a.map nm) → RiseS (b.map nm) → (mergeN n (a.map nm) (b.map nm)).flatMap (gA a b) = mergeA n a b
  | 0, [], [], _, _, _ => rfl
  | 0, _ :: _, _, h, _, _ => by simp at h
  | 0, [], _ :: _, h, _, _ => by simp at h
  | n + 1, [], b, h, ha, hb => by
    rw [mergeA_right (n + 1) b (by simpa using h)]
    exact flat_all2 b hb
  | n + 1, x :: a, [], h, ha, hb => by
    rw [mergeA_left (n + 1) (x :: a) (by simpa using h)]
    exact flat_all (x :: a) ha
  | n + 1, x :: a, y :: b, h, ha, hb => by
    simp only [List.length_cons] at h
    have hm : ∀ z, z ∈ mergeN n (a.map nm) ((y :: b).map nm) ↔ _ := mergeN_mem n (a.map nm) ((y :: b).map nm) (by simp; omega)
    have hm2 : ∀ z, z ∈ mergeN n ((x :: a).map nm) (b.map nm) ↔ _ := mergeN_mem n ((x :: a).map nm) (b.map nm) (by simp; omega)
    have hm3 : ∀ z, z ∈ mergeN n (a.map nm) (b.map nm) ↔ _ := mergeN_mem n (a.map nm) (b.map nm) (by simp; omega)
    show (mergeN (n + 1) (nm x :: a.map nm) (nm y :: b.map nm)).flatMap (gA (x :: a) (y :: b)) = _
    rw [mergeN, mergeA]
    by_cases c1 : sltB (nm x) (nm y) = true
    · rw [if_pos c1, if_pos c1, List.flatMap_cons]
      have hx : nm x ∉ (y :: b).map nm := by
        intro e
        rw [List.map_cons] at e
        rcases List.mem_cons.1 e with e | e
        · rw [e, slt_irrefl] at c1; cases c1
        · have := slt_trans c1 (hb.1 _ e); rw [slt_irrefl] at this; cases this
      have h1 : gA (x :: a) (y :: b) (nm x) = [(2, x)] := by unfold gA; simp only [findF_head, findF_not hx 0]; rfl
      rw [h1]
      have h2 := flat_congr (f := gA (x :: a) (y :: b)) (g := gA a (y :: b)) (l := mergeN n (a.map nm) (nm y :: b.map nm)) fun z hz => gA_left fun e => by
        subst e
        rcases (hm _).1 hz with e | e
        · have := ha.1 _ e; rw [slt_irrefl] at this; cases this
        · exact hx e
      rw [h2]
      have := flat_merge n a (y :: b) (by simp only [List.length_cons]; omega) ha.2 hb
      rw [List.map_cons] at this
      rw [this]; rfl
    rw [if_neg c1, if_neg c1]
    by_cases c2 : sltB (nm y) (nm x) = true
    · rw [if_pos c2, if_pos c2, List.flatMap_cons]
      have hy : nm y ∉ (x :: a).map nm := by
        intro e
        rw [List.map_cons] at e
        rcases List.mem_cons.1 e with e | e
        · rw [e, slt_irrefl] at c2; cases c2
        · have := slt_trans c2 (ha.1 _ e); rw [slt_irrefl] at this; cases this
      have h1 : gA (x :: a) (y :: b) (nm y) = [(1, y)] := by unfold gA; simp only [findF_head, findF_not hy 0]; rfl
      rw [h1]
      have h2 := flat_congr (f := gA (x :: a) (y :: b)) (g := gA (x :: a) b) (l := mergeN n (nm x :: a.map nm) (b.map nm)) fun z hz => gA_right (fun e => by
        subst e
        rcases (hm2 _).1 hz with e | e
        · exact hy e
        · have := hb.1 _ e; rw [slt_irrefl] at this; cases this) ((hm2 z).1 hz)
      rw [h2]
      have := flat_merge n (x :: a) b (by simp only [List.length_cons]; omega) ha hb.2
      rw [List.map_cons] at this
      rw [this]; rfl
    rw [if_neg c2, if_neg c2, List.flatMap_cons]
    have hxy : nm x = nm y := by rcases slt_tri (nm x) (nm y) with h | h | h; exact absurd h c1; exact absurd h c2; exact h
    have h2 := flat_congr (f := gA (x :: a) (y :: b)) (g := gA a b) (l := mergeN n (a.map nm) (b.map nm)) fun z hz => by
      have hzx : nm x ≠ z := fun e => by
        subst e
        rcases (hm3 _).1 hz with e | e
        · have := ha.1 _ e; rw [slt_irrefl] at this; cases this
        · have := hb.1 _ e; rw [hxy, slt_irrefl] at this; cases this
      rw [gA_left hzx, gA_right (fun e => hzx (hxy.trans e)) ((hm3 z).1 hz)]
    rw [h2, flat_merge n a b (by omega) ha.2 hb.2]
    have h1 : gA (x :: a) (y :: b) (nm x) = if differs x y = true then [(3, x)] else [] := by
      unfold gA
      simp only [findF_head]
      rw [hxy]
      simp only [findF_head]
      rfl
    rw [h1]
    split <;> rfl
end Go.Proofs.YtjnbggianlgjiaaDoorOH
namespace Go.Proofs.YtjnbggianlgjiaaDoorOH
open Go Go.Proofs.YtjnbggianlgjiaaDoorVM
set_option linter.unusedVariables false
set_option linter.unusedSimpArgs false
set_option maxRecDepth 100000

theorem same29_does {t : T} (h : SmTh t) : Dz i_R29_Same none [A.t (actT t), A.t t] (1, [A.t (T.bool true)]) := by
  obtain ⟨n0, h0⟩ := (r08same_does (copy_Sm h.v) h.v).both (rsameL_does (deps t) (deps t) (by have := h.d; omega))
  refine Does.of n0 fun m hm => ?_
  obtain ⟨q1, q2⟩ := h0 m hm
  rw [decide_eq_true (cmpV_copy 20 (thV t))] at q1
  rw [show sameL (deps t) (deps t) = true from decide_eq_true rfl] at q2
  have e1 : (actT t).get 0 = .str (nm t) := rfl
  have e2 : (actT t).get 1 = copyV 20 (thV t) := rfl
  have e3 : (actT t).get 2 = .node (deps t) := rfl
  have e4 : seqB (nm t) (nm t) = true := (seqB_iff _ _).2 rfl
  rw [q_R29_Same]
  simp only [S0, S9, S1, S2, if_true, if_false, e1, e2, e3, S3, e4, q1, q2]
theorem mkA_at {l : List (Int × T)} {g : Int × T → T} {j : Nat} (h : j < l.length) : tAtD (l.map g) j = g l[j] := by rw [at_get (by simpa using h), List.getElem_map]
theorem mergeA_mem : ∀ (n : Nat) (a b : List T), ∀ x ∈ mergeA n a b, x.2 ∈ a ∨ x.2 ∈ b
  | 0, _, _, x, h => by cases h
  | n + 1, [], [], x, h => by cases h
  | n + 1, w :: ws, [], x, h => by
    rw [mergeA] at h
    rcases List.mem_cons.1 h with rfl | h
    · exact .inl List.mem_cons_self
    · rcases mergeA_mem n ws [] x h with e | e
      · exact .inl (List.mem_cons_of_mem _ e)
      · cases e
  | n + 1, [], w :: ws, x, h => by
    rw [mergeA] at h
    rcases List.mem_cons.1 h with rfl | h
    · exact .inr List.mem_cons_self
    · rcases mergeA_mem n [] ws x h with e | e
      · cases e
      · exact .inr (List.mem_cons_of_mem _ e)
  | n + 1, w :: ws, y :: hs, x, h => by
    rw [mergeA] at h
    split at h
    · rcases List.mem_cons.1 h with rfl | h
      · exact .inl List.mem_cons_self
      · rcases mergeA_mem n ws (y :: hs) x h with e | e
        · exact .inl (List.mem_cons_of_mem _ e)
        · exact .inr e
    · split at h
      · rcases List.mem_cons.1 h with rfl | h
        · exact .inr List.mem_cons_self
        · rcases mergeA_mem n (w :: ws) hs x h with e | e
          · exact .inl e
          · exact .inr (List.mem_cons_of_mem _ e)
      · split at h
        · rcases List.mem_cons.1 h with rfl | h
          · exact .inl List.mem_cons_self
          · rcases mergeA_mem n ws hs x h with e | e
            · exact .inl (List.mem_cons_of_mem _ e)
            · exact .inr (List.mem_cons_of_mem _ e)
        · rcases mergeA_mem n ws hs x h with e | e
          · exact .inl (List.mem_cons_of_mem _ e)
          · exact .inr (List.mem_cons_of_mem _ e)
theorem mergeA_len : ∀ (n : Nat) (a b : List T), (mergeA n a b).length ≤ n
  | 0, _, _ => by simp [mergeA]
  | n + 1, [], [] => by simp [mergeA]
  | n + 1, w :: ws, [] => by rw [mergeA]; have := mergeA_len n ws []; simp only [List.length_cons]; omega
  | n + 1, [], w :: ws => by rw [mergeA]; have := mergeA_len n [] ws; simp only [List.length_cons]; omega
  | n + 1, w :: ws, y :: hs => by
    rw [mergeA]
    split
    · have := mergeA_len n ws (y :: hs); simp only [List.length_cons]; omega
    · split
      · have := mergeA_len n (w :: ws) hs; simp only [List.length_cons]; omega
      · split
        · have := mergeA_len n ws hs; simp only [List.length_cons]; omega
        · have := mergeA_len n ws hs; omega
end Go.Proofs.YtjnbggianlgjiaaDoorOH
namespace Go.Proofs.YtjnbggianlgjiaaDoorOH
open Go Go.Proofs.YtjnbggianlgjiaaDoorVM
set_option linter.unusedVariables false
set_option linter.unusedSimpArgs false
set_option maxRecDepth 100000

structure Dk where
  dn : Bool
  lf : Int
  kp : Int
  op : Int
  fs : List T
def f0 : T := .node [.str ByteArray.empty, .int 0]
def gF (fs : List T) (s : ByteArray) : T := mget keyS f0 fs (.str s)
def hF (fs : List T) (s : ByteArray) : Bool := mhas keyS fs (.str s)
def fT (f : T) : ByteArray := (f.get 0).txt
def fN (f : T) : Int := (f.get 1).num
def fil (s : ByteArray) (n : Int) : T := .node [.str s, .int n]
def putF (fs : List T) (s : ByteArray) (v : T) : List T := mput keyS fs (.str s) v
def delF (fs : List T) (s : ByteArray) : List T := mdel keyS fs (.str s)
theorem fT_fil (s : ByteArray) (n : Int) : fT (fil s n) = s := id rfl
theorem fN_fil (s : ByteArray) (n : Int) : fN (fil s n) = n := id rfl
def Fw (f : T) : Prop := 0 ≤ fN f ∧ fN f ≤ ((fT f).size : Int) ∧ (fT f).size ≤ 4194304
def Wf (fs : List T) : Prop := ∀ s, Fw (gF fs s)
theorem key_self (s : ByteArray) : keyS (.str s) (.str s) = true := by
  show seqB s s = true
  unfold seqB
  exact beq_self_eq_true _
theorem key_iff (a b : T) : keyS a b = true ↔ a.txt = b.txt := by
  unfold keyS seqB
  rw [beq_iff_eq]
  exact ⟨fun h => by rw [ByteArray.toList_eq, ByteArray.toList_eq] at h; exact ByteArray.ext (Array.toList_inj.1 h), fun h => by rw [h]⟩
theorem gF_put (fs : List T) (k s : ByteArray) (v : T) : gF (putF fs k v) s = if s = k then v else gF fs s := by
  unfold gF putF
  induction fs with
  | nil =>
    show mget keyS f0 [.node [.str k, v]] (.str s) = _
    simp only [mget]
    by_cases h : s = k
    · subst h
      rw [show keyS (.str s) ((T.node [.str s, v]).get 0) = true from key_self s, if_pos rfl]
      rfl
    · have : keyS (.str s) ((T.node [.str k, v]).get 0) = false := by
        cases hq : keyS (.str s) ((T.node [.str k, v]).get 0) with
        | false => rfl
        | true => exact absurd ((key_iff _ _).1 hq) h
      rw [this, if_neg h]
      rfl
  | cons e es ih =>
    simp only [mput]
    cases hk : keyS (.str k) (e.get 0) with
    | true =>
      have hke : k = (e.get 0).txt := (key_iff _ _).1 hk
      simp only [cond_true, mget]
      by_cases h : s = k
      · subst h
        rw [show keyS (.str s) ((T.node [.str s, v]).get 0) = true from key_self s, if_pos rfl]
        rfl
      · have h1 : keyS (.str s) ((T.node [.str k, v]).get 0) = false := by
          cases hq : keyS (.str s) ((T.node [.str k, v]).get 0) with
          | false => rfl
          | true => exact absurd ((key_iff _ _).1 hq) h
        have h2 : keyS (.str s) (e.get 0) = false := by
          cases hq : keyS (.str s) (e.get 0) with
          | false => rfl
          | true => exact absurd (((key_iff _ _).1 hq).trans hke.symm) h
        rw [h1, h2, if_neg h]
        rfl
    | false =>
      simp only [cond_false, mget]
      cases hs : keyS (.str s) (e.get 0) with
      | true =>
        have hne : ¬ s = k := fun h => by subst h; rw [hs] at hk; cases hk
        rw [if_neg hne]
        rfl
      | false => simp only [cond_false]; exact ih
theorem gF_del (fs : List T) (k s : ByteArray) (h : s ≠ k) : gF (delF fs k) s = gF fs s := by
  unfold gF delF
  induction fs with
  | nil => rfl
  | cons e es ih =>
    simp only [mdel]
    cases hk : keyS (.str k) (e.get 0) with
    | true =>
      have hke : k = (e.get 0).txt := (key_iff _ _).1 hk
      have h2 : keyS (.str s) (e.get 0) = false := by
        cases hq : keyS (.str s) (e.get 0) with
        | false => rfl
        | true => exact absurd (((key_iff _ _).1 hq).trans hke.symm) h
      simp only [cond_true, mget, h2, cond_false]
    | false =>
      simp only [cond_false, mget]
      cases hs : keyS (.str s) (e.get 0)
      · simp only [cond_false]; exact ih
      · rfl
theorem gF_no {fs : List T} {s : ByteArray} (h : hF fs s = false) : gF fs s = f0 := by
  unfold hF mhas at h
  unfold gF
  induction fs with
  | nil => rfl
  | cons e es ih =>
    rw [List.any_cons, Bool.or_eq_false_iff] at h
    simp only [mget, h.1, cond_false]
    exact ih h.2
theorem hF_put (fs : List T) (k s : ByteArray) (v : T) : hF (putF fs k v) s = (decide (s = k) || hF fs s) := by
  unfold hF putF
  induction fs with
  | nil =>
    show mhas keyS [.node [.str k, v]] (.str s) = _
    simp only [mhas, List.any_cons, List.any_nil, Bool.or_false]
    by_cases h : s = k
    · subst h; rw [decide_eq_true rfl]; exact key_self s
    · rw [decide_eq_false h]
      cases hq : keyS (.str s) ((T.node [.str k, v]).get 0) with
      | false => rfl
      | true => exact absurd ((key_iff _ _).1 hq) h
  | cons e es ih =>
    simp only [mput]
    cases hk : keyS (.str k) (e.get 0) with
    | true =>
      have hke : k = (e.get 0).txt := (key_iff _ _).1 hk
      simp only [cond_true, mhas, List.any_cons]
      have h3 : keyS (.str s) ((T.node [.str k, v]).get 0) = keyS (.str s) (e.get 0) := by
        show seqB s k = seqB s (e.get 0).txt
        rw [hke]
      rw [h3]
      by_cases h : s = k
      · subst h; rw [hk]; simp
      · rw [decide_eq_false h, Bool.false_or]
    | false =>
      simp only [cond_false, mhas, List.any_cons] at ih ⊢
      rw [ih]
      cases keyS (.str s) (e.get 0) <;> cases decide (s = k) <;> rfl
theorem Wf.put {fs : List T} (h : Wf fs) {k : ByteArray} {v : T} (hv : Fw v) : Wf (putF fs k v) := fun s => by
  rw [gF_put]
  split
  · exact hv
  · exact h s
theorem f0_ok : Fw f0 := ⟨by decide, by decide, by decide⟩
theorem put_eq (fs : List T) (s : ByteArray) (v : T) : mput keyS fs (T.str s) v = putF fs s v := id rfl
theorem del_eq (fs : List T) (s : ByteArray) : mdel keyS fs (T.str s) = delF fs s := id rfl
theorem gF_eq (fs : List T) (s : ByteArray) : mget keyS (fil ByteArray.empty 0) fs (T.str s) = gF fs s := id rfl
theorem hF_eq (fs : List T) (s : ByteArray) : mhas keyS fs (T.str s) = hF fs s := id rfl
theorem fT_eq (f : T) : (T.get f 0).txt = fT f := id rfl
theorem fN_eq (f : T) : (T.get f 1).num = fN f := id rfl
theorem fil_eq (s : ByteArray) (n : Int) : T.node [T.str s, T.int n] = fil s n := id rfl

theorem kname_eq (n : Nat) (a : ByteArray) : den Tryd.prog G0 ents (Nat.succ n) i_name_Right none [A.t (T.str a)] = some (1, [A.t (T.bool (nameB a))]) := by kernel_rfl
theorem kname_does (a : ByteArray) : Dz i_name_Right none [A.t (T.str a)] (1, [A.t (T.bool (nameB a))]) := Does.now fun n => kname_eq n a
theorem ksort_eq (n : Nat) (l : List T) : den Tryd.prog G0 ents (Nat.succ n) i_slices_Sorted none [A.t (T.node l)] = Option.map (fun o => (1, o)) (bif keysOk l then some [A.t (T.node (keysS l)), A.t (T.node l)] else none) := by kernel_rfl
theorem ksort_does {l : List T} (h : keysOk l = true) : Dz i_slices_Sorted none [A.t (T.node l)] (1, [A.t (T.node (keysS l)), A.t (T.node l)]) := Does.now fun n => by rw [ksort_eq, h]; rfl
def cutB (d : Dk) : Bool := !(d.lf == 0) && (IntKind.i64.wrap (d.lf - 1) == 0)
def dCut (d : Dk) : Dk := if d.lf = 0 then ⟨d.dn, d.lf, d.kp, IntKind.i64.wrap (d.op + 1), d.fs⟩ else ⟨IntKind.i64.wrap (d.lf - 1) == 0, IntKind.i64.wrap (d.lf - 1), d.kp, IntKind.i64.wrap (d.op + 1), d.fs⟩
theorem dCut_fs (d : Dk) : (dCut d).fs = d.fs := by unfold dCut; split <;> rfl
theorem dCut_kp (d : Dk) : (dCut d).kp = d.kp := by unfold dCut; split <;> rfl
theorem dCut_dn (d : Dk) (h : d.dn = false) : (dCut d).dn = cutB d := by
  unfold dCut cutB
  by_cases h0 : d.lf = 0
  · rw [if_pos h0, h0]; exact h
  · rw [if_neg h0]
    have : (d.lf == 0) = false := by simpa using h0
    rw [this]; rfl
def rdS (d : Dk) (s : ByteArray) : ByteArray := if d.dn then ⟨List.toArray []⟩ else if hF d.fs s then fT (gF d.fs s) else ⟨List.toArray []⟩
def rdE (d : Dk) (s : ByteArray) : Int := if d.dn then 8 else if hF d.fs s then 0 else 5
def apT (d : Dk) (s : ByteArray) : ByteArray := ByteArray.extract s 0 (Int.toNat (maxI 0 (minI d.kp ((s.size : Nat) : Int))))
def apE (d : Dk) (to s : ByteArray) : Int :=
  if d.dn then 8 else if nameB to then (if 4194304 < (fT (gF d.fs to)).size + s.size then 4 else if cutB d then 8 else 0) else 1
def apD (d : Dk) (to s : ByteArray) : Dk :=
  if d.dn then d else if nameB to then (if 4194304 < (fT (gF d.fs to)).size + s.size then d else { dCut d with fs := putF d.fs to (fil (fT (gF d.fs to) ++ (if cutB d then apT d s else s)) (fN (gF d.fs to))) }) else d
theorem maxmin {k z : Int} (hz : 0 ≤ z) : 0 ≤ maxI 0 (minI k z) ∧ maxI 0 (minI k z) ≤ z := by
  unfold maxI minI
  split <;> split at * <;> omega
def syE (d : Dk) (s : ByteArray) : Int := if rdE d s = 0 then (if cutB d then 8 else 0) else rdE d s
def syD (d : Dk) (s : ByteArray) : Dk := if rdE d s = 0 then (if cutB d then dCut d else { dCut d with fs := putF d.fs s (fil (fT (gF d.fs s)) ((fT (gF d.fs s)).size : Int)) }) else d
def kpN (keeps : List T) (i : Nat) : Int := if i < keeps.length then (tAtD keeps i).num else 0
def stayF (f : T) (k : Int) : Int := maxI 0 (minI k (((fT f).size : Int) - fN f))
def cutT (f : T) (k : Int) : ByteArray := ByteArray.extract (fT f) 0 (Int.toNat (fN f + stayF f k))
def cutF (f : T) (k : Int) : T := fil (cutT f k) ((cutT f k).size : Int)
theorem stay_ok {f : T} (h : Fw f) (k : Int) : 0 ≤ stayF f k ∧ stayF f k ≤ ((fT f).size : Int) - fN f := maxmin (by have := h.2.1; omega)
theorem cutF_ok {f : T} (h : Fw f) (k : Int) : Fw (cutF f k) := by
  obtain ⟨h1, h2⟩ := stay_ok h k
  obtain ⟨h3, h4, h5⟩ := h
  have : (cutT f k).size ≤ (fT f).size := by unfold cutT; rw [ByteArray.size_extract]; omega
  exact ⟨by rw [cutF, fN_fil]; omega, by rw [cutF, fN_fil, fT_fil]; omega, by rw [cutF, fT_fil]; omega⟩
def wakeL (keeps : List T) : Nat → List T → List T → List T
  | _, [], fs => fs
  | i, s :: ss, fs => wakeL keeps (i + 1) ss (putF fs s.txt (cutF (gF fs s.txt) (kpN keeps i)))
def wkD (d : Dk) (keeps : List T) : Dk := ⟨false, 0, d.kp, d.op, wakeL keeps 0 (keysS d.fs) d.fs⟩
theorem keysS_len (es : List T) : (keysS es).length = es.length := by
  unfold keysS
  rw [List.length_map, (keysB_perm es).length_eq, List.length_map]
end Go.Proofs.YtjnbggianlgjiaaDoorOH
namespace Go.Proofs.YtjnbggianlgjiaaDoorOH
open Go Go.Proofs.YtjnbggianlgjiaaDoorVM
set_option linter.unusedVariables false
set_option linter.unusedSimpArgs false
set_option maxRecDepth 100000

def ky (e : T) : ByteArray := (e.get 0).txt
def nF (x : T) : ByteArray := (x.get 0).txt
def sF (x : T) : ByteArray := (x.get 1).txt
def uF (x : T) : Int := (x.get 2).num
def Up (F : List T) : Prop := F.Pairwise fun a b => sltB (nF a) (nF b) = true
theorem lt_irr (a : ByteArray) : sltB a a = false := by
  rw [slt_data, decide_eq_false_iff_not]
  exact List.lt_irrefl _
theorem lt_tr {a b c : ByteArray} (h1 : sltB a b = true) (h2 : sltB b c = true) : sltB a c = true := by
  rw [slt_data, decide_eq_true_eq] at *
  exact List.lt_trans h1 h2
theorem lt_ne {a b : ByteArray} (h : sltB a b = true) : a ≠ b := fun e => by subst e; rw [lt_irr] at h; cases h
theorem lt_no {a b : ByteArray} (h : sltB a b = true) : sltB b a = false := by
  cases hb : sltB b a with
  | false => rfl
  | true => have := lt_tr h hb; rw [lt_irr] at this; cases this
theorem lt_or {a b : ByteArray} (h : sltB a b = false) (hn : a ≠ b) : sltB b a = true := by
  rw [slt_data] at *
  rw [decide_eq_false_iff_not] at h
  rw [decide_eq_true_eq]
  have h1 : b.data.toList ≤ a.data.toList := h
  rcases List.le_iff_lt_or_eq.1 h1 with h2 | h2
  · exact h2
  · exact absurd (ByteArray.ext (Array.toList_inj.1 h2)).symm hn
def insF (f : T) : List T → List T
  | [] => [f]
  | x :: l => if sltB (nF x) (nF f) then x :: insF f l else if nF x = nF f then f :: l else f :: x :: l
theorem ins_mem {f x : T} : ∀ {F : List T}, Up F → x ∈ insF f F → x = f ∨ (x ∈ F ∧ nF x ≠ nF f)
  | [], _, h => .inl (by simpa [insF] using h)
  | y :: l, hu, h => by
    obtain ⟨h1, h2⟩ := List.pairwise_cons.1 hu
    unfold insF at h
    cases hy : sltB (nF y) (nF f) with
    | true =>
      rw [hy, if_pos rfl] at h
      rcases List.mem_cons.1 h with rfl | h
      · exact .inr ⟨List.mem_cons_self, lt_ne hy⟩
      · exact (ins_mem h2 h).imp id fun ⟨a, b⟩ => ⟨List.mem_cons_of_mem _ a, b⟩
    | false =>
      rw [hy, if_neg (by simp)] at h
      by_cases he : nF y = nF f
      · rw [if_pos he] at h
        rcases List.mem_cons.1 h with rfl | h
        · exact .inl rfl
        · exact .inr ⟨List.mem_cons_of_mem _ h, fun e => lt_ne (h1 x h) (by rw [he, e])⟩
      · rw [if_neg he] at h
        have hg : sltB (nF f) (nF y) = true := lt_or hy he
        rcases List.mem_cons.1 h with rfl | h
        · exact .inl rfl
        · rcases List.mem_cons.1 h with rfl | h
          · exact .inr ⟨List.mem_cons_self, he⟩
          · exact .inr ⟨List.mem_cons_of_mem _ h, fun e => lt_ne (lt_tr hg (h1 x h)) e.symm⟩
theorem ins_self (f : T) : ∀ F : List T, f ∈ insF f F
  | [] => List.mem_cons_self
  | y :: l => by
    unfold insF
    split
    · exact List.mem_cons_of_mem _ (ins_self f l)
    · split <;> exact List.mem_cons_self
theorem ins_up {f : T} : ∀ {F : List T}, Up F → Up (insF f F)
  | [], _ => List.pairwise_singleton _ _
  | y :: l, hu => by
    obtain ⟨h1, h2⟩ := List.pairwise_cons.1 hu
    unfold insF
    cases hy : sltB (nF y) (nF f) with
    | true =>
      rw [if_pos rfl]
      refine List.pairwise_cons.2 ⟨fun x hx => ?_, ins_up h2⟩
      rcases ins_mem h2 hx with rfl | ⟨h3, _⟩
      · exact hy
      · exact h1 x h3
    | false =>
      rw [if_neg (by simp)]
      by_cases he : nF y = nF f
      · rw [if_pos he]
        exact List.pairwise_cons.2 ⟨fun x hx => by rw [← he]; exact h1 x hx, h2⟩
      · rw [if_neg he]
        have hg : sltB (nF f) (nF y) = true := lt_or hy he
        refine List.pairwise_cons.2 ⟨fun x hx => ?_, hu⟩
        rcases List.mem_cons.1 hx with rfl | hx
        · exact hg
        · exact lt_tr hg (h1 x hx)
theorem ins_in {f : T} : ∀ {F : List T}, Up F → nF f ∈ F.map nF → (insF f F).map nF = F.map nF
  | [], _, h => by simp at h
  | y :: l, hu, h => by
    obtain ⟨h1, h2⟩ := List.pairwise_cons.1 hu
    unfold insF
    cases hy : sltB (nF y) (nF f) with
    | true =>
      rw [if_pos rfl]
      rw [List.map_cons] at h
      rcases List.mem_cons.1 h with h | h
      · exact absurd h.symm (lt_ne hy)
      · rw [List.map_cons, List.map_cons, ins_in h2 h]
    | false =>
      rw [if_neg (by simp)]
      by_cases he : nF y = nF f
      · rw [if_pos he, List.map_cons, List.map_cons, he]
      · rw [List.map_cons] at h
        rcases List.mem_cons.1 h with h | h
        · exact absurd h.symm he
        · obtain ⟨x, hx, e⟩ := List.mem_map.1 h
          have := h1 x hx
          rw [e, hy] at this; cases this
theorem ins_out {f : T} : ∀ {F : List T}, nF f ∉ F.map nF → ((insF f F).map nF).Perm (nF f :: F.map nF)
  | [], _ => List.Perm.refl _
  | y :: l, h => by
    rw [List.map_cons, List.mem_cons, not_or] at h
    unfold insF
    split
    · rw [List.map_cons, List.map_cons]
      exact ((ins_out h.2).cons _).trans (List.Perm.swap _ _ _)
    · rw [if_neg (fun e => h.1 e.symm)]
      exact List.Perm.refl _
def stepP (f : T) (s : Bool × List T) (x : T) : Bool × List T :=
  (s.1 || (sltB (nF f) (nF x) || seqB (nF f) (nF x)), s.2 ++ (if !s.1 && (sltB (nF f) (nF x) || seqB (nF f) (nF x)) then [f] else []) ++ (if seqB (nF x) (nF f) then [] else [x]))
theorem seq_is {a b : ByteArray} : seqB a b = true ↔ a = b := key_iff (.str a) (.str b)
theorem seq_no {a b : ByteArray} (h : a ≠ b) : seqB a b = false := by
  cases hs : seqB a b with
  | false => rfl
  | true => exact absurd (seq_is.1 hs) h
theorem step_in {f : T} : ∀ (F out : List T), (∀ x ∈ F, nF x ≠ nF f) → F.foldl (stepP f) (true, out) = (true, out ++ F)
  | [], out, _ => by simp
  | x :: l, out, h => by
    rw [List.foldl_cons]
    have e : stepP f (true, out) x = (true, out ++ [x]) := by
      unfold stepP
      rw [seq_no (h x List.mem_cons_self)]
      simp
    rw [e, step_in l _ fun y hy => h y (List.mem_cons_of_mem _ hy)]
    simp
theorem step_ins {f : T} : ∀ (F out : List T), Up F → (F.foldl (stepP f) (false, out)).2 ++ (if (F.foldl (stepP f) (false, out)).1 then [] else [f]) = out ++ insF f F
  | [], out, _ => by simp [insF]
  | x :: l, out, hu => by
    obtain ⟨h1, h2⟩ := List.pairwise_cons.1 hu
    rw [List.foldl_cons]
    unfold insF
    cases hy : sltB (nF x) (nF f) with
    | true =>
      have e : stepP f (false, out) x = (false, out ++ [x]) := by
        unfold stepP
        rw [seq_no (lt_ne hy), seq_no (lt_ne hy).symm, lt_no hy]
        simp
      rw [e, if_pos rfl, step_ins l _ h2]
      simp
    | false =>
      simp only [Bool.false_eq_true, if_false]
      by_cases he : nF x = nF f
      · have e : stepP f (false, out) x = (true, out ++ [f]) := by
          unfold stepP
          rw [seq_is.2 he, seq_is.2 he.symm]
          simp
        rw [e, if_pos he, step_in l _ fun y hy => by rw [← he]; exact (lt_ne (h1 y hy)).symm]
        simp
      · have hg : sltB (nF f) (nF x) = true := lt_or hy he
        have e : stepP f (false, out) x = (true, out ++ [f, x]) := by
          unfold stepP
          rw [seq_no he, hg]
          simp
        rw [e, if_neg he, step_in l _ fun y hy => (lt_ne (lt_tr hg (h1 y hy))).symm]
        simp

theorem hF_mem (fs : List T) (k : ByteArray) : hF fs k = true ↔ k ∈ fs.map ky := by
  unfold hF mhas
  rw [List.any_eq_true, List.mem_map]
  exact ⟨fun ⟨e, he, hk⟩ => ⟨e, he, ((key_iff _ _).1 hk).symm⟩, fun ⟨e, he, hk⟩ => ⟨e, he, (key_iff _ _).2 hk.symm⟩⟩
theorem put_in {k : ByteArray} {v : T} : ∀ {fs : List T}, k ∈ fs.map ky → (putF fs k v).map ky = fs.map ky
  | [], h => by simp at h
  | e :: es, h => by
    unfold putF
    simp only [mput]
    cases hk : keyS (.str k) (e.get 0) with
    | true =>
      have hke : k = ky e := (key_iff _ _).1 hk
      simp only [cond_true, List.map_cons]
      rw [← hke]; rfl
    | false =>
      simp only [cond_false, List.map_cons]
      rw [List.map_cons] at h
      rcases List.mem_cons.1 h with h | h
      · rw [show keyS (.str k) (e.get 0) = true from (key_iff _ _).2 h] at hk; cases hk
      · rw [show (mput keyS es (.str k) v).map ky = es.map ky from put_in h]
theorem put_out {k : ByteArray} {v : T} : ∀ {fs : List T}, k ∉ fs.map ky → (putF fs k v).map ky = fs.map ky ++ [k]
  | [], _ => rfl
  | e :: es, h => by
    rw [List.map_cons, List.mem_cons, not_or] at h
    unfold putF
    simp only [mput]
    have hk : keyS (.str k) (e.get 0) = false := by
      cases hq : keyS (.str k) (e.get 0) with
      | false => rfl
      | true => exact absurd ((key_iff _ _).1 hq) h.1
    rw [hk]
    simp only [cond_false, List.map_cons, List.cons_append]
    rw [show (mput keyS es (.str k) v).map ky = es.map ky ++ [k] from put_out h.2]
theorem del_keys (k : ByteArray) : ∀ {fs : List T}, (fs.map ky).Nodup → (delF fs k).map ky = (fs.map ky).filter fun s => !seqB s k
  | [], _ => rfl
  | e :: es, h => by
    rw [List.map_cons, List.nodup_cons] at h
    unfold delF
    simp only [mdel]
    cases hk : keyS (.str k) (e.get 0) with
    | true =>
      have hke : k = ky e := (key_iff _ _).1 hk
      simp only [cond_true, List.map_cons]
      rw [List.filter_cons_of_neg (by rw [seq_is.2 hke.symm]; simp)]
      refine (List.filter_eq_self.2 fun s hs => ?_).symm
      rw [seq_no fun e' => h.1 (by rw [← hke, ← e']; exact hs)]; rfl
    | false =>
      have hne : ky e ≠ k := fun e' => by rw [show keyS (.str k) (e.get 0) = true from (key_iff _ _).2 e'.symm] at hk; cases hk
      simp only [cond_false, List.map_cons]
      rw [List.filter_cons_of_pos (by rw [seq_no hne]; rfl), show (mdel keyS es (.str k)).map ky = _ from del_keys k h.2]
structure In (N : Nat) (fs F : List T) : Prop where
  up : Up F
  perm : (fs.map ky).Perm (F.map nF)
  val : ∀ x ∈ F, fT (gF fs (nF x)) = sF x ∧ fN (gF fs (nF x)) = uF x
  wf : Wf fs
  len : F.length ≤ N
  nam : ∀ x ∈ F, (nF x).size ≤ 100
theorem Up.nodup {F : List T} (h : Up F) : (F.map nF).Nodup := by
  unfold List.Nodup
  rw [List.pairwise_map]
  exact h.imp fun h => lt_ne h
theorem In.put {N : Nat} {fs F : List T} (h : In N fs F) {f v : T} (hs : (nF f).size ≤ 100) (h1 : fT v = sF f) (h2 : fN v = uF f) (hv : Fw v) : In (N + 1) (putF fs (nF f) v) (insF f F) := by
  have hlen : (insF f F).length ≤ F.length + 1 := by
    clear h
    induction F with
    | nil => exact Nat.le_refl _
    | cons y l ih =>
      unfold insF
      split
      · rw [List.length_cons, List.length_cons]; omega
      · split <;> simp
  refine ⟨ins_up h.up, ?_, fun x hx => ?_, h.wf.put hv, by have := h.len; omega, fun x hx => ?_⟩
  · by_cases hk : nF f ∈ F.map nF
    · rw [ins_in h.up hk, put_in (h.perm.mem_iff.2 hk)]
      exact h.perm
    · rw [put_out (fun h' => hk (h.perm.mem_iff.1 h'))]
      exact ((List.perm_append_singleton _ _).trans (h.perm.cons _)).trans (ins_out hk).symm
  · rcases ins_mem h.up hx with rfl | ⟨h3, h4⟩
    · rw [gF_put, if_pos rfl]; exact ⟨h1, h2⟩
    · rw [gF_put, if_neg h4]; exact h.val x h3
  · rcases ins_mem h.up hx with rfl | ⟨h3, _⟩
    · exact hs
    · exact h.nam x h3
def rmF (F : List T) (k : ByteArray) : List T := F.filter fun x => !seqB (nF x) k
theorem In.del {N : Nat} {fs F : List T} (h : In N fs F) (k : ByteArray) : In N (delF fs k) (rmF F k) := by
  have hnd : (fs.map ky).Nodup := (h.perm.nodup_iff).2 h.up.nodup
  have hkeys := del_keys k hnd
  refine ⟨h.up.sublist List.filter_sublist, ?_, fun x hx => ?_, fun s => ?_, Nat.le_trans (List.length_filter_le _ _) h.len, fun x hx => h.nam x (List.mem_filter.1 hx).1⟩
  · rw [hkeys]
    have e : (rmF F k).map nF = (F.map nF).filter fun s => !seqB s k := by
      unfold rmF
      rw [List.filter_map]
      rfl
    rw [e]
    exact h.perm.filter _
  · obtain ⟨h1, h2⟩ := List.mem_filter.1 hx
    rw [gF_del _ _ _ (fun e => by rw [seq_is.2 e] at h2; cases h2)]
    exact h.val x h1
  · by_cases e : s = k
    · subst e
      have hno : hF (delF fs s) s = false := by
        cases hq : hF (delF fs s) s with
        | false => rfl
        | true =>
          have := (hF_mem _ _).1 hq
          rw [hkeys, List.mem_filter] at this
          rw [seq_is.2 rfl] at this
          cases this.2
      rw [gF_no hno]
      exact f0_ok
    · rw [gF_del _ _ _ e]; exact h.wf s
theorem In.has {N : Nat} {fs F : List T} (h : In N fs F) (s : ByteArray) : hF fs s = F.any fun x => seqB (nF x) s := by
  cases hq : hF fs s with
  | true =>
    have := h.perm.mem_iff.1 ((hF_mem _ _).1 hq)
    obtain ⟨x, hx, e⟩ := List.mem_map.1 this
    exact (List.any_eq_true.2 ⟨x, hx, seq_is.2 e⟩).symm
  | false =>
    symm
    cases ha : F.any fun x => seqB (nF x) s with
    | false => rfl
    | true =>
      obtain ⟨x, hx, e⟩ := List.any_eq_true.1 ha
      have : hF fs s = true := (hF_mem _ _).2 (h.perm.mem_iff.2 (List.mem_map.2 ⟨x, hx, seq_is.1 e⟩))
      rw [hq] at this; cases this
theorem In.ok {N : Nat} {fs F : List T} (h : In N fs F) (hN : N ≤ 1000000) : keysOk fs = true := by
  have hl : fs.length = F.length := by have := h.perm.length_eq; simpa using this
  have := h.len
  unfold keysOk
  rw [Bool.and_eq_true, List.all_eq_true]
  refine ⟨Nat.ble_eq_true_of_le (by omega), fun e he => Nat.ble_eq_true_of_le ?_⟩
  have hm : ky e ∈ F.map nF := h.perm.mem_iff.1 (List.mem_map.2 ⟨e, he, rfl⟩)
  obtain ⟨x, hx, ex⟩ := List.mem_map.1 hm
  have := h.nam x hx
  rw [ex] at this
  show (ky e).size ≤ 1048576
  omega
theorem In.keys {N : Nat} {fs F : List T} (h : In N fs F) : keysS fs = F.map fun x => T.str (nF x) := by
  have e : keysB fs = F.map nF := by
    refine List.Perm.eq_of_pairwise (le := fun a b : ByteArray => a.data.toList ≤ b.data.toList) (fun a b _ _ h1 h2 => ByteArray.ext (Array.toList_inj.1 (List.le_antisymm h1 h2))) (keysB_rise fs) ?_ ((keysB_perm fs).trans h.perm)
    rw [List.pairwise_map]
    refine h.up.imp fun hab => ?_
    rw [slt_data, decide_eq_true_eq] at hab
    exact List.le_of_lt hab
  unfold keysS
  rw [e, List.map_map]
  rfl
theorem In.nil : In 0 [] [] := ⟨List.Pairwise.nil, List.Perm.refl _, fun x hx => (by cases hx), fun s => f0_ok, Nat.le_refl _, fun x hx => (by cases hx)⟩
theorem In.mono {N M : Nat} {fs F : List T} (h : In N fs F) (hm : N ≤ M) : In M fs F := ⟨h.up, h.perm, h.val, h.wf, Nat.le_trans h.len hm, h.nam⟩

def wkF (x : T) (k : Int) : T := .node [.str (nF x), .str (cutT (fil (sF x) (uF x)) k), .int ((cutT (fil (sF x) (uF x)) k).size : Nat)]
def wakeD (keeps : List T) : Nat → List T → List T
  | _, [] => []
  | i, x :: l => wkF x (kpN keeps i) :: wakeD keeps (i + 1) l
theorem wakeD_names (keeps : List T) : ∀ (F : List T) (i : Nat), (wakeD keeps i F).map nF = F.map nF
  | [], _ => rfl
  | x :: l, i => by rw [wakeD, List.map_cons, List.map_cons, wakeD_names keeps l]; rfl
theorem wakeD_len (keeps : List T) : ∀ (F : List T) (i : Nat), (wakeD keeps i F).length = F.length
  | [], _ => rfl
  | x :: l, i => by rw [wakeD, List.length_cons, List.length_cons, wakeD_len keeps l]
theorem wake_all (keeps : List T) : ∀ (G : List T) (i : Nat) (fs : List T), Up G → Wf fs → (∀ x ∈ G, nF x ∈ fs.map ky) → (∀ x ∈ G, fT (gF fs (nF x)) = sF x ∧ fN (gF fs (nF x)) = uF x) →
    (wakeL keeps i (G.map fun x => T.str (nF x)) fs).map ky = fs.map ky ∧ Wf (wakeL keeps i (G.map fun x => T.str (nF x)) fs) ∧
    (∀ y ∈ wakeD keeps i G, fT (gF (wakeL keeps i (G.map fun x => T.str (nF x)) fs) (nF y)) = sF y ∧ fN (gF (wakeL keeps i (G.map fun x => T.str (nF x)) fs) (nF y)) = uF y) ∧
    (∀ s, (∀ x ∈ G, nF x ≠ s) → gF (wakeL keeps i (G.map fun x => T.str (nF x)) fs) s = gF fs s)
  | [], i, fs, _, hw, _, _ => ⟨rfl, hw, fun y hy => (by cases hy), fun _ _ => rfl⟩
  | x :: l, i, fs, hu, hw, hk, hv => by
    obtain ⟨h1, h2⟩ := List.pairwise_cons.1 hu
    obtain ⟨v1, v2⟩ := hv x List.mem_cons_self
    have hfil : cutF (gF fs (nF x)) (kpN keeps i) = cutF (fil (sF x) (uF x)) (kpN keeps i) := by
      unfold cutF cutT stayF
      rw [v1, v2, fT_fil, fN_fil]
    have hkx := put_in (v := cutF (gF fs (nF x)) (kpN keeps i)) (hk x List.mem_cons_self)
    obtain ⟨a1, a2, a3, a4⟩ := wake_all keeps l (i + 1) (putF fs (nF x) (cutF (gF fs (nF x)) (kpN keeps i))) h2 (hw.put (cutF_ok (hw _) _)) (fun y hy => by rw [hkx]; exact hk y (List.mem_cons_of_mem _ hy))
      (fun y hy => by rw [gF_put, if_neg (lt_ne (h1 y hy)).symm]; exact hv y (List.mem_cons_of_mem _ hy))
    have e : wakeL keeps i ((x :: l).map fun x => T.str (nF x)) fs = wakeL keeps (i + 1) (l.map fun x => T.str (nF x)) (putF fs (nF x) (cutF (gF fs (nF x)) (kpN keeps i))) := rfl
    rw [e]
    refine ⟨a1.trans hkx, a2, fun y hy => ?_, fun s hs => ?_⟩
    · rw [wakeD] at hy
      rcases List.mem_cons.1 hy with rfl | hy
      · have hn : nF (wkF x (kpN keeps i)) = nF x := rfl
        rw [hn, a4 _ (fun z hz => (lt_ne (h1 z hz)).symm), gF_put, if_pos rfl, hfil]
        exact ⟨rfl, rfl⟩
      · exact a3 y hy
    · rw [a4 s (fun z hz => hs z (List.mem_cons_of_mem _ hz)), gF_put, if_neg fun e => hs x List.mem_cons_self e.symm]
theorem In.wake {N : Nat} {fs F : List T} (h : In N fs F) (keeps : List T) : In N (wakeL keeps 0 (keysS fs) fs) (wakeD keeps 0 F) := by
  obtain ⟨a1, a2, a3, _⟩ := wake_all keeps F 0 fs h.up h.wf (fun x hx => h.perm.mem_iff.2 (List.mem_map.2 ⟨x, hx, rfl⟩)) h.val
  rw [h.keys]
  have hn := wakeD_names keeps F 0
  refine ⟨?_, by rw [a1, hn]; exact h.perm, a3, a2, by rw [wakeD_len]; exact h.len, fun y hy => ?_⟩
  · have : ((wakeD keeps 0 F).map nF).Pairwise (fun a b => sltB a b = true) := by rw [hn, List.pairwise_map]; exact h.up
    rw [List.pairwise_map] at this
    exact this
  · have : nF y ∈ F.map nF := by rw [← hn]; exact List.mem_map.2 ⟨y, hy, rfl⟩
    obtain ⟨x, hx, e⟩ := List.mem_map.1 this
    rw [← e]; exact h.nam x hx

def rnE (d : Dk) (a b : ByteArray) : Int := if d.dn then 8 else if nameB b then (if hF d.fs a then (if cutB d then 8 else 0) else 5) else 1
def rnD (d : Dk) (a b : ByteArray) : Dk := if d.dn then d else if nameB b then (if hF d.fs a then (if cutB d then dCut d else { dCut d with fs := putF (delF d.fs a) b (gF d.fs a) }) else d) else d
def rmD (d : Dk) (s : ByteArray) : Dk := if rdE d s = 0 then (if cutB d then dCut d else { dCut d with fs := delF d.fs s }) else d
def ldE (to s : ByteArray) : Int := if nameB to then (if 4194304 < s.size then 4 else 0) else 1
def ldD (d : Dk) (to s : ByteArray) : Dk := if nameB to then (if 4194304 < s.size then d else { d with fs := putF d.fs to (fil s (s.size : Nat)) }) else d
end Go.Proofs.YtjnbggianlgjiaaDoorOH
namespace Go.Proofs.YtjnbggianlgjiaaDoorOH
open Go Go.Proofs.YtjnbggianlgjiaaDoorVM
set_option linter.unusedVariables false
set_option linter.unusedSimpArgs false
set_option maxRecDepth 100000

def tl (l : List ByteArray) : List T := l.map T.str
def Ri (l : List ByteArray) : Prop := l.Pairwise fun a b => sltB a b = true
def insT (s : ByteArray) : List ByteArray → List ByteArray
  | [] => [s]
  | y :: l => if sltB y s then y :: insT s l else if y = s then y :: l else s :: y :: l
theorem mem_insT {s x : ByteArray} : ∀ {l : List ByteArray}, x ∈ insT s l ↔ x = s ∨ x ∈ l
  | [] => by simp [insT]
  | y :: l => by
    unfold insT
    split
    · rw [List.mem_cons, List.mem_cons, mem_insT]
      exact ⟨fun h => h.elim (fun h => .inr (.inl h)) (fun h => h.elim .inl (fun h => .inr (.inr h))), fun h => h.elim (fun h => .inr (.inl h)) (fun h => h.elim .inl (fun h => .inr (.inr h)))⟩
    · split
      · rename_i e
        subst e
        rw [List.mem_cons]
        exact ⟨fun h => .inr h, fun h => h.elim (fun h => .inl h) (fun h => h)⟩
      · rw [List.mem_cons]
theorem insT_rise {s : ByteArray} : ∀ {l : List ByteArray}, Ri l → Ri (insT s l)
  | [], _ => List.pairwise_singleton _ _
  | y :: l, h => by
    obtain ⟨h1, h2⟩ := List.pairwise_cons.1 h
    unfold insT
    cases hy : sltB y s with
    | true =>
      rw [if_pos rfl]
      refine List.pairwise_cons.2 ⟨fun x hx => ?_, insT_rise h2⟩
      rcases mem_insT.1 hx with rfl | hx
      · exact hy
      · exact h1 x hx
    | false =>
      simp only [Bool.false_eq_true, if_false]
      by_cases e : y = s
      · rw [if_pos e]; exact h
      · rw [if_neg e]
        have hg := lt_or hy e
        refine List.pairwise_cons.2 ⟨fun x hx => ?_, h⟩
        rcases List.mem_cons.1 hx with rfl | hx
        · exact hg
        · exact lt_tr hg (h1 x hx)
theorem insT_len (s : ByteArray) : ∀ l : List ByteArray, (insT s l).length ≤ l.length + 1
  | [] => Nat.le_refl _
  | y :: l => by
    unfold insT
    split
    · have := insT_len s l; simp only [List.length_cons]; omega
    · split <;> simp
theorem Ri.nodup {l : List ByteArray} (h : Ri l) : l.Nodup := by
  unfold List.Nodup
  exact h.imp fun h => lt_ne h
theorem Ri.ext {a b : List ByteArray} (ha : Ri a) (hb : Ri b) (h : ∀ x, x ∈ a ↔ x ∈ b) : a = b := by
  have hp : a.Perm b := (List.perm_ext_iff_of_nodup ha.nodup hb.nodup).2 h
  have hp2 : (a.map fun s => s.data.toList) = (b.map fun s => s.data.toList) := by
    refine List.Perm.eq_of_pairwise (le := fun x y : List UInt8 => x ≤ y) (fun x y _ _ h1 h2 => List.le_antisymm h1 h2) ?_ ?_ (hp.map _)
    · rw [List.pairwise_map]
      refine ha.imp fun hab => ?_
      rw [slt_data, decide_eq_true_eq] at hab
      exact List.le_of_lt hab
    · rw [List.pairwise_map]
      refine hb.imp fun hab => ?_
      rw [slt_data, decide_eq_true_eq] at hab
      exact List.le_of_lt hab
  exact List.map_inj_right (fun x y e => ByteArray.ext (Array.toList_inj.1 e)) |>.1 hp2
theorem insT_has {s : ByteArray} {l : List ByteArray} (h : Ri l) (hs : s ∈ l) : insT s l = l :=
  Ri.ext (insT_rise h) h fun x => by rw [mem_insT]; exact ⟨fun h => h.elim (fun e => e ▸ hs) id, .inr⟩
def pos (s : ByteArray) : List ByteArray → Nat
  | [] => 0
  | y :: l => if sltB y s then pos s l + 1 else 0
theorem pos_le (s : ByteArray) : ∀ l : List ByteArray, pos s l ≤ l.length
  | [] => Nat.le_refl _
  | y :: l => by unfold pos; split; · have := pos_le s l; simp only [List.length_cons]; omega
                 · exact Nat.zero_le _
theorem pos_lt {s : ByteArray} : ∀ {l : List ByteArray}, Ri l → ∀ (j : Nat) (hj : j < l.length), (sltB l[j] s = true ↔ j < pos s l)
  | [], _, j, hj => by simp at hj
  | y :: l, h, j, hj => by
    obtain ⟨h1, h2⟩ := List.pairwise_cons.1 h
    unfold pos
    cases hy : sltB y s with
    | true =>
      rw [if_pos rfl]
      cases j with
      | zero => simp [hy]
      | succ j =>
        have := pos_lt (s := s) h2 j (by simpa using hj)
        rw [List.getElem_cons_succ, this]
        omega
    | false =>
      simp only [Bool.false_eq_true, if_false]
      refine ⟨fun hl => ?_, fun hl => by omega⟩
      cases j with
      | zero => rw [List.getElem_cons_zero, hy] at hl; cases hl
      | succ j =>
        rw [List.getElem_cons_succ] at hl
        have := lt_tr (h1 _ (List.getElem_mem (by simpa using hj))) hl
        rw [hy] at this; cases this
theorem pos_mem {s : ByteArray} : ∀ {l : List ByteArray}, Ri l → (s ∈ l ↔ l[pos s l]? = some s)
  | [], _ => by simp
  | y :: l, h => by
    obtain ⟨h1, h2⟩ := List.pairwise_cons.1 h
    unfold pos
    cases hy : sltB y s with
    | true =>
      rw [if_pos rfl, List.getElem?_cons_succ, ← pos_mem h2, List.mem_cons]
      exact ⟨fun h => h.resolve_left fun e => lt_ne hy e.symm, .inr⟩
    | false =>
      simp only [Bool.false_eq_true, if_false, List.getElem?_cons_zero, Option.some.injEq, List.mem_cons]
      refine ⟨fun h => h.elim Eq.symm fun hs => ?_, fun e => .inl e.symm⟩
      have := h1 s hs
      rw [hy] at this; cases this
theorem pos_ins {s : ByteArray} : ∀ {l : List ByteArray}, s ∉ l → insT s l = l.take (pos s l) ++ [s] ++ l.drop (pos s l)
  | [], _ => rfl
  | y :: l, h => by
    rw [List.mem_cons, not_or] at h
    unfold insT pos
    split
    · rw [pos_ins h.2]; simp
    · rw [if_neg fun e => h.1 e.symm]; simp
theorem insL_tl {s : ByteArray} {l : List ByteArray} (h : s ∉ l) : insL ((pos s l : Nat) : Int) (tl l) [T.str s] = tl (insT s l) := by
  unfold insL tl
  rw [pos_ins h, Int.toNat_natCast]
  simp [List.map_take, List.map_drop]

def ptsOf (l : List ByteArray) (L : List (ByteArray × ByteArray)) : List ByteArray := L.foldl (fun a x => insT x.2 (insT x.1 a)) (l.foldl (fun a s => insT s a) [])
def toOf (L : List (ByteArray × ByteArray)) (k : ByteArray) : List ByteArray := L.foldl (fun a x => if x.1 = k then insT x.2 a else a) []
theorem fold_rise : ∀ (l a : List ByteArray), Ri a → Ri (l.foldl (fun a s => insT s a) a)
  | [], _, h => h
  | s :: l, a, h => fold_rise l _ (insT_rise h)
theorem mem_fold {x : ByteArray} : ∀ (l a : List ByteArray), x ∈ l.foldl (fun a s => insT s a) a ↔ x ∈ a ∨ x ∈ l
  | [], a => by simp
  | s :: l, a => by
    rw [List.foldl_cons, mem_fold l, mem_insT, List.mem_cons]
    exact ⟨fun h => h.elim (fun h => h.elim (fun h => .inr (.inl h)) .inl) (fun h => .inr (.inr h)), fun h => h.elim (fun h => .inl (.inr h)) (fun h => h.elim (fun h => .inl (.inl h)) .inr)⟩
theorem foldL_rise : ∀ (L : List (ByteArray × ByteArray)) (a : List ByteArray), Ri a → Ri (L.foldl (fun a x => insT x.2 (insT x.1 a)) a)
  | [], _, h => h
  | s :: l, a, h => foldL_rise l _ (insT_rise (insT_rise h))
theorem mem_foldL {x : ByteArray} : ∀ (L : List (ByteArray × ByteArray)) (a : List ByteArray), x ∈ L.foldl (fun a x => insT x.2 (insT x.1 a)) a ↔ x ∈ a ∨ ∃ y ∈ L, x = y.1 ∨ x = y.2
  | [], a => by simp
  | s :: l, a => by
    rw [List.foldl_cons, mem_foldL l, mem_insT, mem_insT]
    constructor
    · rintro ((h | h | h) | ⟨y, hy, h⟩)
      · exact .inr ⟨s, List.mem_cons_self, .inr h⟩
      · exact .inr ⟨s, List.mem_cons_self, .inl h⟩
      · exact .inl h
      · exact .inr ⟨y, List.mem_cons_of_mem _ hy, h⟩
    · rintro (h | ⟨y, hy, h⟩)
      · exact .inl (.inr (.inr h))
      · rcases List.mem_cons.1 hy with rfl | hy
        · exact h.elim (fun h => .inl (.inr (.inl h))) (fun h => .inl (.inl h))
        · exact .inr ⟨y, hy, h⟩
theorem pts_rise (l : List ByteArray) (L : List (ByteArray × ByteArray)) : Ri (ptsOf l L) := foldL_rise L _ (fold_rise l [] List.Pairwise.nil)
theorem mem_pts {x : ByteArray} {l : List ByteArray} {L : List (ByteArray × ByteArray)} : x ∈ ptsOf l L ↔ x ∈ l ∨ ∃ y ∈ L, x = y.1 ∨ x = y.2 := by
  unfold ptsOf
  rw [mem_foldL, mem_fold]
  simp
theorem foldT_rise (k : ByteArray) : ∀ (L : List (ByteArray × ByteArray)) (a : List ByteArray), Ri a → Ri (L.foldl (fun a x => if x.1 = k then insT x.2 a else a) a)
  | [], _, h => h
  | s :: l, a, h => by
    rw [List.foldl_cons]
    refine foldT_rise k l _ ?_
    split
    · exact insT_rise h
    · exact h
theorem mem_foldT {x k : ByteArray} : ∀ (L : List (ByteArray × ByteArray)) (a : List ByteArray), x ∈ L.foldl (fun a x => if x.1 = k then insT x.2 a else a) a ↔ x ∈ a ∨ (k, x) ∈ L
  | [], a => by simp
  | (u, v) :: l, a => by
    rw [List.foldl_cons, mem_foldT l, List.mem_cons, Prod.mk.injEq]
    by_cases e : u = k
    · rw [if_pos e, mem_insT]
      exact ⟨fun h => h.elim (fun h => h.elim (fun h => .inr (.inl ⟨e.symm, h⟩)) .inl) (fun h => .inr (.inr h)), fun h => h.elim (fun h => .inl (.inr h)) (fun h => h.elim (fun h => .inl (.inl h.2)) .inr)⟩
    · rw [if_neg e]
      exact ⟨fun h => h.imp id .inr, fun h => h.imp id fun h => h.resolve_left fun h => e h.1.symm⟩
theorem to_rise (L : List (ByteArray × ByteArray)) (k : ByteArray) : Ri (toOf L k) := foldT_rise k L [] List.Pairwise.nil
theorem mem_to {x k : ByteArray} {L : List (ByteArray × ByteArray)} : x ∈ toOf L k ↔ (k, x) ∈ L := by
  unfold toOf
  rw [mem_foldT]
  simp
theorem foldT_len (k : ByteArray) : ∀ (L : List (ByteArray × ByteArray)) (a : List ByteArray), (L.foldl (fun a x => if x.1 = k then insT x.2 a else a) a).length ≤ a.length + L.length
  | [], a => Nat.le_refl _
  | s :: l, a => by
    rw [List.foldl_cons]
    have h1 := foldT_len k l (if s.1 = k then insT s.2 a else a)
    have h2 : (if s.1 = k then insT s.2 a else a).length ≤ a.length + 1 := by
      split
      · exact insT_len _ _
      · omega
    simp only [List.length_cons]
    omega
theorem to_len (L : List (ByteArray × ByteArray)) (k : ByteArray) : (toOf L k).length ≤ L.length := by have := foldT_len k L []; rw [List.length_nil, Nat.zero_add] at this; exact this
theorem fold_len : ∀ (l a : List ByteArray), (l.foldl (fun a s => insT s a) a).length ≤ a.length + l.length
  | [], a => Nat.le_refl _
  | s :: l, a => by
    rw [List.foldl_cons]
    have h1 := fold_len l (insT s a)
    have h2 := insT_len s a
    simp only [List.length_cons]
    omega
theorem foldL_len : ∀ (L : List (ByteArray × ByteArray)) (a : List ByteArray), (L.foldl (fun a x => insT x.2 (insT x.1 a)) a).length ≤ a.length + 2 * L.length
  | [], a => Nat.le_refl _
  | s :: l, a => by
    rw [List.foldl_cons]
    have h1 := foldL_len l (insT s.2 (insT s.1 a))
    have h2 := insT_len s.2 (insT s.1 a)
    have h3 := insT_len s.1 a
    simp only [List.length_cons]
    omega
theorem pts_len (l : List ByteArray) (L : List (ByteArray × ByteArray)) : (ptsOf l L).length ≤ l.length + 2 * L.length := by
  have h1 := foldL_len L (l.foldl (fun a s => insT s a) [])
  have h2 := fold_len l []
  unfold ptsOf
  simp only [List.length_nil] at h2
  omega
def swp (L : List (ByteArray × ByteArray)) : List (ByteArray × ByteArray) := L.map fun x => (x.2, x.1)
theorem mem_swp {a b : ByteArray} {L : List (ByteArray × ByteArray)} : (a, b) ∈ swp L ↔ (b, a) ∈ L := by
  unfold swp
  rw [List.mem_map]
  exact ⟨fun ⟨x, hx, e⟩ => by cases e; exact hx, fun h => ⟨_, h, rfl⟩⟩
theorem tl_len (l : List ByteArray) : (tl l).length = l.length := by unfold tl; rw [List.length_map]
theorem tl_get {l : List ByteArray} {j : Nat} (h : j < l.length) : tAtD (tl l) j = T.str l[j] := by
  rw [at_get (by rw [tl_len]; exact h)]
  unfold tl
  simp
theorem tl_app (a b : List ByteArray) : tl (a ++ b) = tl a ++ tl b := by unfold tl; simp

def gZ (z : T) (fs : List T) (s : ByteArray) : T := mget keyS z fs (.str s)
theorem gZ_put (z : T) (fs : List T) (k s : ByteArray) (v : T) : gZ z (putF fs k v) s = if s = k then v else gZ z fs s := by
  unfold gZ putF
  induction fs with
  | nil =>
    show mget keyS z [.node [.str k, v]] (.str s) = _
    simp only [mget]
    by_cases h : s = k
    · subst h
      rw [show keyS (.str s) ((T.node [.str s, v]).get 0) = true from key_self s, if_pos rfl]
      rfl
    · have : keyS (.str s) ((T.node [.str k, v]).get 0) = false := by
        cases hq : keyS (.str s) ((T.node [.str k, v]).get 0) with
        | false => rfl
        | true => exact absurd ((key_iff _ _).1 hq) h
      rw [this, if_neg h]
      rfl
  | cons e es ih =>
    simp only [mput]
    cases hk : keyS (.str k) (e.get 0) with
    | true =>
      have hke : k = (e.get 0).txt := (key_iff _ _).1 hk
      simp only [cond_true, mget]
      by_cases h : s = k
      · subst h
        rw [show keyS (.str s) ((T.node [.str s, v]).get 0) = true from key_self s, if_pos rfl]
        rfl
      · have h1 : keyS (.str s) ((T.node [.str k, v]).get 0) = false := by
          cases hq : keyS (.str s) ((T.node [.str k, v]).get 0) with
          | false => rfl
          | true => exact absurd ((key_iff _ _).1 hq) h
        have h2 : keyS (.str s) (e.get 0) = false := by
          cases hq : keyS (.str s) (e.get 0) with
          | false => rfl
          | true => exact absurd (((key_iff _ _).1 hq).trans hke.symm) h
        rw [h1, h2, if_neg h]
        rfl
    | false =>
      simp only [cond_false, mget]
      cases hs : keyS (.str s) (e.get 0) with
      | true =>
        have hne : ¬ s = k := fun h => by subst h; rw [hs] at hk; cases hk
        rw [if_neg hne]
        rfl
      | false => simp only [cond_false]; exact ih
theorem gZ_del (z : T) (fs : List T) (k s : ByteArray) (h : s ≠ k) : gZ z (delF fs k) s = gZ z fs s := by
  unfold gZ delF
  induction fs with
  | nil => rfl
  | cons e es ih =>
    simp only [mdel]
    cases hk : keyS (.str k) (e.get 0) with
    | true =>
      have hke : k = (e.get 0).txt := (key_iff _ _).1 hk
      have h2 : keyS (.str s) (e.get 0) = false := by
        cases hq : keyS (.str s) (e.get 0) with
        | false => rfl
        | true => exact absurd (((key_iff _ _).1 hq).trans hke.symm) h
      simp only [cond_true, mget, h2, cond_false]
    | false =>
      simp only [cond_false, mget]
      cases hs : keyS (.str s) (e.get 0)
      · simp only [cond_false]; exact ih
      · rfl
theorem gZ_no {z : T} {fs : List T} {s : ByteArray} (h : hF fs s = false) : gZ z fs s = z := by
  unfold hF mhas at h
  unfold gZ
  induction fs with
  | nil => rfl
  | cons e es ih =>
    rw [List.any_cons, Bool.or_eq_false_iff] at h
    simp only [mget, h.1, cond_false]
    exact ih h.2
theorem keys_of {fs : List T} {p : List ByteArray} (hp : (fs.map ky).Perm p) (hr : Ri p) : keysS fs = tl p := by
  have e : keysB fs = p := by
    refine List.Perm.eq_of_pairwise (le := fun a b : ByteArray => a.data.toList ≤ b.data.toList) (fun a b _ _ h1 h2 => ByteArray.ext (Array.toList_inj.1 (List.le_antisymm h1 h2))) (keysB_rise fs) ?_ ((keysB_perm fs).trans hp)
    refine hr.imp fun hab => ?_
    rw [slt_data, decide_eq_true_eq] at hab
    exact List.le_of_lt hab
  unfold keysS
  rw [e]
  rfl
theorem keysOk_of {fs : List T} {p : List ByteArray} (hp : (fs.map ky).Perm p) (hl : p.length ≤ 1000000) (hs : ∀ x ∈ p, x.size ≤ 1000000) : keysOk fs = true := by
  have h1 : fs.length = p.length := by have := hp.length_eq; simpa using this
  unfold keysOk
  rw [Bool.and_eq_true, List.all_eq_true]
  refine ⟨Nat.ble_eq_true_of_le (by omega), fun e he => Nat.ble_eq_true_of_le ?_⟩
  have hm : ky e ∈ p := hp.mem_iff.1 (List.mem_map.2 ⟨e, he, rfl⟩)
  have := hs _ hm
  show (ky e).size ≤ 1048576
  omega
end Go.Proofs.YtjnbggianlgjiaaDoorOH
namespace Go.Proofs.YtjnbggianlgjiaaDoorOH
open Go Go.Proofs.YtjnbggianlgjiaaDoorVM
set_option linter.unusedVariables false
set_option linter.unusedSimpArgs false
set_option maxRecDepth 100000

theorem txt_s (s : ByteArray) : (T.str s).txt = s := id rfl
def hasB (s : ByteArray) (l : List ByteArray) : Bool := l.any fun x => seqB x s
theorem hasB_iff {s : ByteArray} {l : List ByteArray} : hasB s l = true ↔ s ∈ l := by
  unfold hasB
  rw [List.any_eq_true]
  exact ⟨fun ⟨x, hx, e⟩ => seq_is.1 e ▸ hx, fun h => ⟨s, h, seq_is.2 rfl⟩⟩
theorem hasB_no {s : ByteArray} {l : List ByteArray} (h : s ∉ l) : hasB s l = false := by
  cases hb : hasB s l with
  | false => rfl
  | true => exact absurd (hasB_iff.1 hb) h
theorem hasB_cons (s x : ByteArray) (l : List ByteArray) : hasB s (x :: l) = (seqB x s || hasB s l) := rfl
theorem rhas_loop (l : List ByteArray) (s : ByteArray) (hl : l.length ≤ 1000000) : ∀ (k j : Nat), j + k = l.length →
    Dz i_R17_Has (some p_R17_Has_c1) [A.t (T.node (tl l)), A.t (T.str s), A.t (T.int j)] (if hasB s (l.drop j) then (1, [A.t (T.bool true)]) else (2, [])) := by
  intro k
  induction k with
  | zero =>
    intro j hj
    refine Does.now fun m => ?_
    rw [q_R17_Has_c1, List.drop_of_length_le (by omega)]
    simp only [S0, S9, S1, S2, if_true, if_false, tl_len]
    rw [if_neg (by omega)]
    rfl
  | succ k ih =>
    intro j hj
    have hlt : j < l.length := by omega
    have hw : IntKind.i64.wrap ((j : Int) + 1) = ((j + 1 : Nat) : Int) := i64succ (by omega)
    obtain ⟨n0, h0⟩ := ih (j + 1) (by omega)
    refine Does.of n0 fun m hm => ?_
    have q := h0 m hm
    rw [q_R17_Has_c1, List.drop_eq_getElem_cons hlt, hasB_cons]
    simp only [S0, S9, S1, S2, if_true, if_false, tl_len, tl_get hlt, txt_s, hw]
    rw [if_pos (by omega), if_pos (by omega)]
    cases seqB l[j] s
    · simp only [Bool.false_eq_true, if_false, false_or]; exact q
    · simp only [if_true, true_or]
theorem rhas17_does (l : List ByteArray) (s : ByteArray) (hl : l.length ≤ 1000000) : Dz i_R17_Has none [A.t (T.node (tl l)), A.t (T.str s)] (1, [A.t (T.bool (hasB s l))]) := by
  obtain ⟨n0, h0⟩ := rhas_loop l s hl l.length 0 (by omega)
  rw [List.drop_zero] at h0
  refine Does.of n0 fun m hm => ?_
  have q : den Tryd.prog G0 ents m i_R17_Has (some p_R17_Has_c1) [A.t (T.node (tl l)), A.t (T.str s), A.t (T.int 0)] = _ := h0 m hm
  rw [q_R17_Has]
  simp only [S0, S9, S1, S2, if_true, if_false, q]
  cases hasB s l <;> rfl
def putR (s : ByteArray) (a : Bool × List ByteArray) (x : ByteArray) : Bool × List ByteArray := (a.1 || sltB s x, a.2 ++ (if !a.1 && sltB s x then [s] else []) ++ [x])
theorem putR_in {s : ByteArray} : ∀ (l out : List ByteArray), l.foldl (putR s) (true, out) = (true, out ++ l)
  | [], out => by simp
  | x :: l, out => by
    rw [List.foldl_cons]
    have e : putR s (true, out) x = (true, out ++ [x]) := by unfold putR; simp
    rw [e, putR_in l]
    simp
theorem putR_ins {s : ByteArray} : ∀ (l out : List ByteArray), Ri l → s ∉ l → (l.foldl (putR s) (false, out)).2 ++ (if (l.foldl (putR s) (false, out)).1 then [] else [s]) = out ++ insT s l
  | [], out, _, _ => by simp [insT]
  | x :: l, out, h, hn => by
    obtain ⟨h1, h2⟩ := List.pairwise_cons.1 h
    rw [List.mem_cons, not_or] at hn
    rw [List.foldl_cons]
    unfold insT
    cases hx : sltB x s with
    | true =>
      have e : putR s (false, out) x = (false, out ++ [x]) := by unfold putR; rw [lt_no hx]; simp
      rw [e, if_pos rfl, putR_ins l _ h2 hn.2]
      simp
    | false =>
      have hg := lt_or hx fun e => hn.1 e.symm
      have e : putR s (false, out) x = (true, out ++ [s, x]) := by unfold putR; rw [hg]; simp
      rw [e, putR_in]
      simp only [Bool.false_eq_true, if_false, if_true, List.append_nil]
      rw [if_neg fun e => hn.1 e.symm]
      simp
theorem putR_len {s : ByteArray} : ∀ (l : List ByteArray) (a : Bool × List ByteArray), (l.foldl (putR s) a).2.length ≤ a.2.length + 2 * l.length
  | [], a => Nat.le_refl _
  | x :: l, a => by
    rw [List.foldl_cons]
    have h1 := putR_len (s := s) l (putR s a x)
    have h2 : (putR s a x).2.length ≤ a.2.length + 2 := by
      unfold putR
      simp only [List.length_append, List.length_singleton]
      have : (if (!a.1 && sltB s x) = true then [s] else []).length ≤ 1 := by split <;> simp
      omega
    simp only [List.length_cons]
    omega
def lns (L : List (ByteArray × ByteArray)) : List T := L.map fun x => T.node [T.str x.1, T.str x.2]
theorem lns_len (L : List (ByteArray × ByteArray)) : (lns L).length = L.length := by unfold lns; rw [List.length_map]
def ln (x : T) : ByteArray × ByteArray := ((x.get 0).txt, (x.get 1).txt)
theorem ln0 (x : T) : (T.get x 0).txt = (ln x).1 := id rfl
theorem ln1 (x : T) : (T.get x 1).txt = (ln x).2 := id rfl
theorem take_succ' {α : Type} {l : List α} {j : Nat} (h : j < l.length) : l.take (j + 1) = l.take j ++ [l[j]] := by rw [List.take_add_one, List.getElem?_eq_getElem h]; rfl
end Go.Proofs.YtjnbggianlgjiaaDoorOH
