/- A law's proof, a part: what the code answers. -/
import Derived.Test.YtoekafpmpopigaaGreatDoorVmZu
import Derived.Test.YtoekafpmpopigaaGreatDoorVmC
import Derived.Test.YtoekafpmpopigaaGreatDoorProg
namespace Go.Proofs.YtoekafpmpopigaaGreatDoorFP
open Go Go.Proofs.YtoekafpmpopigaaGreatDoorVM
def G0 : List (Nat × TypeId × T) := [(1, 108, .node (wordsL.map T.str))]
def e0 : Entry := cmpE 63 9 3
def e1 : Entry := nameE 71 9 4
def e2 : Entry := cloneE 49 22 38
def e3 : Entry := cloneE 74 36 46
def e4 : Entry := { fid := 3, ins := ⟨[(0, .v 24), (1, .v 25)], []⟩, outs := ⟨[(0, .v 4)], []⟩, cuts := [], lit := true }
def e5 : Entry := { fid := 4, ins := ⟨[(0, .v 24)], []⟩, outs := ⟨[(0, .v 4)], []⟩, cuts := [], lit := true }
def e6 : Entry := { fid := 12, ins := ⟨[(0, .v 24)], []⟩, outs := ⟨[(0, .v 4)], []⟩, cuts := [], lit := true }
def e7 : Entry := { fid := 26, ins := ⟨[(0, .v 24), (1, .v 3), (2, .v 3)], []⟩, outs := ⟨[(0, .v 3)], []⟩, cuts := [([false, true, false, true, true], ⟨⟨[(1, .v 3), (2, .v 3), (3, .p 0 24), (7, .v 3)], [.var 24 (.v 24) false]⟩, [(2, ⟨[(2, .v 3)], []⟩), (1, ⟨[(6, .v 3)], []⟩)]⟩), ([false, true, true, true, true, false, false, true, false, false, true, false, true, true], ⟨⟨[(1, .v 3), (2, .v 3), (3, .p 0 24), (7, .v 3), (8, .p 1 38), (9, .v 3)], [.var 24 (.v 24) false, .var 38 (.v 38) false]⟩, [(4, ⟨[(1, .v 3), (2, .v 3), (3, .p 0 24), (7, .v 3)], [.var 24 (.v 24) false]⟩), (1, ⟨[(6, .v 3)], []⟩)]⟩)], lit := true }
def e8 : Entry := { fid := 13, ins := ⟨[(0, .v 24)], []⟩, outs := ⟨[(0, .v 3)], []⟩, cuts := [([false, true, false, true, true], ⟨⟨[(1, .p 0 24), (3, .v 3), (4, .v 3)], [.var 24 (.v 24) false]⟩, [(2, ⟨[(3, .v 3)], []⟩)]⟩), ([false, true, true, true, false, false, true, false, false, true, false, true, true], ⟨⟨[(1, .p 0 24), (3, .v 3), (4, .v 3), (5, .v 36), (6, .v 3)], [.var 24 (.v 24) false]⟩, [(4, ⟨[(1, .p 0 24), (3, .v 3), (4, .v 3)], [.var 24 (.v 24) false]⟩)]⟩)], lit := true }
def e9 : Entry := { fid := 5, ins := ⟨[], []⟩, outs := ⟨[(0, .v 4)], []⟩, cuts := [], lit := true }
def e10 : Entry := { fid := 6, ins := ⟨[(0, .v 24), (1, .v 25)], []⟩, outs := ⟨[(0, .v 24), (1, .v 28)], []⟩, cuts := [([false, true, false, true, true], ⟨⟨[(2, .p 0 24), (4, .p 1 24), (15, .v 25), (16, .v 3), (17, .v 3)], [.var 24 (.v 24) false, .var 24 (.v 24) false]⟩, [(2, ⟨[(2, .p 0 24), (4, .p 1 24)], [.var 24 (.v 24) false, .var 24 (.v 24) false]⟩), (1, ⟨[(4, .p 0 24), (5, .v 28)], [.var 24 (.v 24) false]⟩)]⟩)] }
def e11 : Entry := { fid := 15, ins := ⟨[(0, .v 24)], []⟩, outs := ⟨[(0, .v 4)], []⟩, cuts := [] }
def e12 : Entry := { fid := 29, ins := ⟨[(0, .v 24), (1, .v 3)], []⟩, outs := ⟨[(0, .v 4)], []⟩, cuts := [([false, true, false, true, true], ⟨⟨[(1, .v 3), (2, .p 0 24), (20, .v 22), (21, .v 3), (22, .v 3)], [.var 24 (.v 24) false]⟩, [(2, ⟨[(2, .p 0 24)], [.var 24 (.v 24) false]⟩), (1, ⟨[(4, .v 4)], []⟩)]⟩), ([false, true, false, true, true, true], ⟨⟨[(2, .p 0 24), (48, .v 22), (49, .v 3), (50, .v 3)], [.var 24 (.v 24) false]⟩, [(4, ⟨[], []⟩), (1, ⟨[(4, .v 4)], []⟩)]⟩), ([false, true, true, false, false, true, true, false, false, true, false, true, true, true], ⟨⟨[(2, .p 0 24), (7, .v 3), (8, .p 1 38), (48, .v 22), (49, .v 3), (50, .v 3), (56, .v 22), (57, .v 3), (58, .v 3)], [.var 24 (.v 24) false, .var 38 (.v 38) false]⟩, [(6, ⟨[(2, .p 0 24), (48, .v 22), (49, .v 3), (50, .v 3)], [.var 24 (.v 24) false]⟩), (1, ⟨[(4, .v 4)], []⟩)]⟩)] }
def e13 : Entry := { fid := 32, ins := ⟨[(0, .v 38), (1, .v 3)], []⟩, outs := ⟨[(0, .v 4)], []⟩, cuts := [([false, true, false, true, false, true, true, true, false, true, false, true], ⟨⟨[(1, .v 3), (31, .v 36), (32, .v 3), (33, .v 3)], []⟩, [(3, ⟨[], []⟩), (1, ⟨[(4, .v 4)], []⟩)]⟩)] }
def e14 : Entry := { fid := 46, ins := ⟨[(0, .v 38)], []⟩, outs := ⟨[(0, .v 4)], []⟩, cuts := [] }
def e15 : Entry := { fid := 44, ins := ⟨[(0, .v 38), (1, .v 38)], []⟩, outs := ⟨[(0, .v 3)], []⟩, cuts := [] }
def e16 : Entry := { fid := 62, ins := ⟨[(0, .v 3), (1, .v 3)], []⟩, outs := ⟨[(0, .v 3)], []⟩, cuts := [] }
def e17 : Entry := { fid := 79, ins := ⟨[(0, .v 3)], []⟩, outs := ⟨[(0, .v 4)], []⟩, cuts := [] }
def e18 : Entry := { fid := 64, ins := ⟨[(0, .v 4)], []⟩, outs := ⟨[(0, .v 3)], []⟩, cuts := [] }
def e19 : Entry := { fid := 65, ins := ⟨[(0, .v 36), (1, .v 36), (2, .clo 66 [])], []⟩, outs := ⟨[(0, .v 3)], []⟩, cuts := [([false, true, false, true], ⟨⟨[(0, .v 36), (1, .v 36), (2, .clo 66 []), (13, .v 3), (14, .v 3)], []⟩, [(2, ⟨[(0, .v 36), (1, .v 36)], []⟩), (1, ⟨[(6, .v 3)], []⟩)]⟩)] }
def e20 : Entry := { fid := 66, ins := ⟨[(0, .v 46), (1, .v 46)], []⟩, outs := ⟨[(0, .v 3)], []⟩, cuts := [] }
def e21 : Entry := { fid := 81, ins := ⟨[(0, .v 24), (1, .v 24)], []⟩, outs := ⟨[(0, .v 3)], []⟩, cuts := [] }
def e22 : Entry := { fid := 103, ins := ⟨[(0, .v 22), (1, .v 22), (2, .clo 44 [])], []⟩, outs := ⟨[(0, .v 3)], []⟩, cuts := [([false, true, false, true], ⟨⟨[(0, .v 22), (1, .v 22), (2, .clo 44 []), (13, .v 3), (14, .v 3)], []⟩, [(2, ⟨[(0, .v 22), (1, .v 22)], []⟩), (1, ⟨[(6, .v 3)], []⟩)]⟩)] }
def e23 : Entry := { fid := 47, ins := ⟨[(0, .v 38)], []⟩, outs := ⟨[(0, .v 4)], []⟩, cuts := [] }
def e24 : Entry := { fid := 48, ins := ⟨[(0, .v 36)], []⟩, outs := ⟨[(0, .v 4)], []⟩, cuts := [([false, true, false, true], ⟨⟨[(0, .v 36), (5, .v 36), (6, .v 3), (7, .v 3)], []⟩, [(2, ⟨[], []⟩), (1, ⟨[(2, .v 4)], []⟩)]⟩)] }
def e25 : Entry := { fid := 42, ins := ⟨[(0, .v 38)], []⟩, outs := ⟨[(0, .v 4)], []⟩, cuts := [] }
def e26 : Entry := { fid := 60, ins := ⟨[(0, .v 38)], []⟩, outs := ⟨[(0, .v 4)], []⟩, cuts := [] }
def e27 : Entry := { fid := 43, ins := ⟨[(0, .v 38)], []⟩, outs := ⟨[(0, .v 4)], []⟩, cuts := [] }
def e28 : Entry := { fid := 45, ins := ⟨[(0, .v 38), (1, .v 38)], []⟩, outs := ⟨[(0, .v 4)], []⟩, cuts := [([false, true, false, true, true], ⟨⟨[(2, .p 0 38), (40, .v 36), (41, .v 3), (42, .v 3)], [.var 38 (.v 38) false]⟩, [(3, ⟨[], []⟩), (1, ⟨[(4, .v 4)], []⟩)]⟩)] }
def e29 : Entry := { fid := 67, ins := ⟨[(0, .v 38), (1, .v 38)], []⟩, outs := ⟨[(0, .v 4)], []⟩, cuts := [] }
def e30 : Entry := { fid := 82, ins := ⟨[(0, .v 38), (1, .v 38)], []⟩, outs := ⟨[(0, .v 38), (1, .v 4)], []⟩, cuts := [] }
def e31 : Entry := { fid := 83, ins := ⟨[(0, .v 38), (1, .v 38)], []⟩, outs := ⟨[(0, .v 4)], []⟩, cuts := [] }
def e32 : Entry := { fid := 68, ins := ⟨[(0, .v 38), (1, .v 38)], []⟩, outs := ⟨[(0, .v 4)], []⟩, cuts := [] }
def e33 : Entry := { fid := 40, ins := ⟨[(0, .v 36), (1, .clo 84 [.p 0 38])], [.var 38 (.v 38) false]⟩, outs := ⟨[(0, .v 4)], [.var 38 (.v 38) false]⟩, cuts := [] }
def e34 : Entry := { fid := 17, ins := ⟨[(0, .v 36), (1, .clo 84 [.p 0 38])], [.var 38 (.v 38) false]⟩, outs := ⟨[(0, .v 3)], [.var 38 (.v 38) false]⟩, cuts := [([false, true, false, true], ⟨⟨[(0, .v 36), (1, .clo 84 [.p 0 38]), (7, .v 3), (8, .v 3)], [.var 38 (.v 38) false]⟩, [(2, ⟨[], [.var 38 (.v 38) false]⟩), (1, ⟨[(4, .v 3)], [.var 38 (.v 38) false]⟩)]⟩)] }
def e35 : Entry := { fid := 84, ins := ⟨[(0, .v 46), (1, .p 0 38)], [.var 38 (.v 38) false]⟩, outs := ⟨[(0, .v 4)], [.var 38 (.v 38) false]⟩, cuts := [] }
def e36 : Entry := { fid := 69, ins := ⟨[(0, .v 36), (1, .v 9)], []⟩, outs := ⟨[(0, .v 3)], []⟩, cuts := [] }
def e37 : Entry := { fid := 85, ins := ⟨[(0, .v 36), (1, .v 9), (2, .clo 86 [])], []⟩, outs := ⟨[(0, .v 3), (1, .v 4)], []⟩, cuts := [([false, false, true, true, true], ⟨⟨[(0, .v 36), (1, .v 9), (2, .clo 86 []), (8, .v 3), (9, .v 3), (10, .v 3)], []⟩, [(2, ⟨[(0, .v 36), (1, .v 9), (2, .clo 86 []), (8, .v 3), (9, .v 3)], []⟩)]⟩)] }
def e38 : Entry := { fid := 86, ins := ⟨[(0, .v 46), (1, .v 9)], []⟩, outs := ⟨[(0, .v 3)], []⟩, cuts := [] }
def e39 : Entry := { fid := 70, ins := ⟨[(0, .v 24), (1, .v 24)], []⟩, outs := ⟨[(0, .v 4)], []⟩, cuts := [([false, true, false, true], ⟨⟨[(3, .p 0 24), (8, .v 22), (9, .v 3), (10, .v 3)], [.var 24 (.v 24) false]⟩, [(2, ⟨[], []⟩), (1, ⟨[(4, .v 4)], []⟩)]⟩)] }
def e40 : Entry := { fid := 87, ins := ⟨[(0, .v 22), (1, .clo 88 [.p 0 38])], [.var 38 (.v 38) false]⟩, outs := ⟨[(0, .v 4)], [.var 38 (.v 38) false]⟩, cuts := [] }
def e41 : Entry := { fid := 104, ins := ⟨[(0, .v 22), (1, .clo 88 [.p 0 38])], [.var 38 (.v 38) false]⟩, outs := ⟨[(0, .v 3)], [.var 38 (.v 38) false]⟩, cuts := [([false, true, false, true], ⟨⟨[(0, .v 22), (1, .clo 88 [.p 0 38]), (7, .v 3), (8, .v 3)], [.var 38 (.v 38) false]⟩, [(2, ⟨[], [.var 38 (.v 38) false]⟩), (1, ⟨[(4, .v 3)], [.var 38 (.v 38) false]⟩)]⟩)] }
def e42 : Entry := { fid := 88, ins := ⟨[(0, .v 38), (1, .p 0 38)], [.var 38 (.v 38) false]⟩, outs := ⟨[(0, .v 4)], [.var 38 (.v 38) false]⟩, cuts := [] }
def e43 : Entry := { fid := 30, ins := ⟨[(0, .v 24)], []⟩, outs := ⟨[(0, .v 3)], []⟩, cuts := [([false, true, false, true, true], ⟨⟨[(3, .v 3), (12, .v 22), (13, .v 3), (14, .v 3)], []⟩, [(2, ⟨[(3, .v 3)], []⟩)]⟩), ([false, true, true, false, false, true, true, false, false, true, false, true, true], ⟨⟨[(3, .v 3), (12, .v 22), (13, .v 3), (14, .v 3), (19, .v 36), (20, .v 3), (21, .v 3)], []⟩, [(4, ⟨[(3, .v 3), (12, .v 22), (13, .v 3), (14, .v 3)], []⟩)]⟩)] }
def e44 : Entry := { fid := 16, ins := ⟨[(0, .v 24)], []⟩, outs := ⟨[(0, .v 38), (1, .v 28)], []⟩, cuts := [] }
def e45 : Entry := { fid := 31, ins := ⟨[(0, .v 24)], []⟩, outs := ⟨[(0, .v 38), (1, .v 28)], []⟩, cuts := [] }
def e46 : Entry := { fid := 33, ins := ⟨[(0, .v 24)], []⟩, outs := ⟨[(0, .v 3)], []⟩, cuts := [([false, true, false, true, true], ⟨⟨[(3, .v 3), (9, .v 22), (10, .v 3), (11, .v 3)], []⟩, [(2, ⟨[(3, .v 3)], []⟩)]⟩), ([false, true, true, false, false, true, true, false, false, true, false, true, true], ⟨⟨[(3, .v 3), (9, .v 22), (10, .v 3), (11, .v 3), (16, .v 36), (17, .v 3), (18, .v 3)], []⟩, [(4, ⟨[(3, .v 3), (9, .v 22), (10, .v 3), (11, .v 3)], []⟩)]⟩)] }
def e47 : Entry := { fid := 73, ins := ⟨[(0, .v 81)], []⟩, outs := ⟨[(0, .v 3)], []⟩, cuts := [] }
def e48 : Entry := { fid := 99, ins := ⟨[(0, .v 103)], []⟩, outs := ⟨[(0, .v 3)], []⟩, cuts := [] }
def e49 : Entry := { fid := 100, ins := ⟨[(0, .v 105)], []⟩, outs := ⟨[(0, .v 3)], []⟩, cuts := [] }
def e50 : Entry := { fid := 106, ins := ⟨[(0, .v 3)], []⟩, outs := ⟨[(0, .v 81)], []⟩, cuts := [] }
def e51 : Entry := { fid := 107, ins := ⟨[(0, .p 0 109)], [.var 109 (.v 109) false]⟩, outs := ⟨[(0, .v 105)], [.var 109 (.v 109) false]⟩, cuts := [] }
def e52 : Entry := { fid := 52, ins := ⟨[(0, .v 38), (1, .v 38)], []⟩, outs := ⟨[(0, .v 4)], []⟩, cuts := [] }
def e53 : Entry := { fid := 53, ins := ⟨[(0, .v 24)], []⟩, outs := ⟨[(0, .v 24)], []⟩, cuts := [([false, true, false, true, true], ⟨⟨[(2, .p 0 24), (3, .o 1), (12, .o 1), (13, .v 3), (14, .v 3)], [.var 24 (.v 24) false, .row 38]⟩, [(2, ⟨[(2, .p 0 24), (3, .o 1)], [.var 24 (.v 24) false, .row 38]⟩)]⟩), ([false, true, false, true, true, false, false, true, true, false, false, true, false, true, true], ⟨⟨[(2, .p 0 24), (3, .o 1), (4, .v 3), (6, .o 2), (12, .o 1), (13, .v 3), (14, .v 3), (22, .o 2), (23, .v 3), (24, .v 3)], [.var 24 (.v 24) false, .row 38, .row 46]⟩, [(4, ⟨[(2, .p 0 24), (3, .o 1), (4, .v 3), (6, .o 2), (12, .o 1), (13, .v 3), (14, .v 3)], [.var 24 (.v 24) false, .row 38, .row 46]⟩)]⟩)] }
def e54 : Entry := { fid := 17, ins := ⟨[(0, .v 36), (1, .clo 18 [.p 0 9])], [.var 9 (.v 9) false]⟩, outs := ⟨[(0, .v 3)], [.var 9 (.v 9) false]⟩, cuts := [([false, true, false, true], ⟨⟨[(0, .v 36), (1, .clo 18 [.p 0 9]), (7, .v 3), (8, .v 3)], [.var 9 (.v 9) false]⟩, [(2, ⟨[], [.var 9 (.v 9) false]⟩), (1, ⟨[(4, .v 3)], [.var 9 (.v 9) false]⟩)]⟩)] }
def e55 : Entry := { fid := 18, ins := ⟨[(0, .v 46), (1, .p 0 9)], [.var 9 (.v 9) false]⟩, outs := ⟨[(0, .v 4)], [.var 9 (.v 9) false]⟩, cuts := [] }
def e56 : Entry := { fid := 19, ins := ⟨[(0, .v 22)], []⟩, outs := ⟨[(0, .v 24), (1, .v 28)], []⟩, cuts := [([false, true, false, true, true, true], ⟨⟨[(0, .v 22), (2, .p 0 24), (4, .v 3), (13, .v 22), (14, .v 3), (15, .v 3)], [.var 24 (.v 24) false]⟩, [(2, ⟨[(0, .v 22), (2, .p 0 24), (4, .v 3)], [.var 24 (.v 24) false]⟩), (1, ⟨[(2, .p 0 24), (3, .v 28)], [.var 24 (.v 24) false]⟩)]⟩), ([false, true, true, true, true, false, false, true, true, false, false, true, false, true, true, true], ⟨⟨[(0, .v 22), (2, .p 0 24), (4, .v 3), (13, .v 22), (14, .v 3), (15, .v 3), (30, .v 36), (31, .v 3), (32, .v 3)], [.var 24 (.v 24) false]⟩, [(4, ⟨[(0, .v 22), (2, .p 0 24), (4, .v 3), (13, .v 22), (14, .v 3), (15, .v 3)], [.var 24 (.v 24) false]⟩), (1, ⟨[(2, .p 0 24), (3, .v 28)], [.var 24 (.v 24) false]⟩)]⟩)] }
def e57 : Entry := { fid := 34, ins := ⟨[(0, .v 22)], []⟩, outs := ⟨[(0, .v 24), (1, .v 28)], []⟩, cuts := [([false, true, false, true, true, true, true, true, false, true], ⟨⟨[(0, .o 0), (2, .p 1 24), (4, .o 2), (16, .o 0), (17, .v 3), (18, .v 3)], [.row 38, .var 24 (.v 24) false, .row 38]⟩, [(2, ⟨[(2, .p 0 24), (4, .o 1)], [.var 24 (.v 24) false, .row 38]⟩)]⟩), ([false, true, false, true, false, false, true, true, false, false, true, false, true, true, true, true, true, false, true], ⟨⟨[(0, .o 0), (2, .p 1 24), (4, .o 2), (5, .v 3), (6, .p 3 38), (16, .o 0), (17, .v 3), (18, .v 3), (23, .o 0), (24, .v 3), (25, .v 3)], [.row 38, .var 24 (.v 24) false, .row 38, .var 38 (.v 38) false]⟩, [(4, ⟨[(0, .o 0), (2, .p 1 24), (4, .o 2), (6, .p 3 38), (16, .o 0), (17, .v 3), (18, .v 3)], [.row 38, .var 24 (.v 24) false, .row 38, .var 38 (.v 38) false]⟩), (3, ⟨[(0, .o 0), (2, .p 1 24), (4, .o 2), (16, .o 0), (17, .v 3), (18, .v 3)], [.row 38, .var 24 (.v 24) false, .row 38]⟩)]⟩)] }
def e58 : Entry := { fid := 9, ins := ⟨[(0, .v 24)], []⟩, outs := ⟨[(0, .v 3), (1, .v 4), (2, .v 28)], []⟩, cuts := [] }
def e59 : Entry := { fid := 24, ins := ⟨[(0, .v 24), (1, .v 3)], []⟩, outs := ⟨[(0, .v 38), (1, .v 4), (2, .v 28)], []⟩, cuts := [] }
def e60 : Entry := { fid := 28, ins := ⟨[(0, .v 38)], []⟩, outs := ⟨[(0, .v 4)], []⟩, cuts := [] }
def e61 : Entry := { fid := 14, ins := ⟨[(0, .v 24)], []⟩, outs := ⟨[(0, .v 4)], []⟩, cuts := [] }
def e62 : Entry := { fid := 27, ins := ⟨[(0, .v 24), (1, .clo 28 [])], []⟩, outs := ⟨[(0, .v 4)], []⟩, cuts := [] }
def e63 : Entry := { fid := 40, ins := ⟨[(0, .v 36), (1, .clo 41 [.p 0 58])], [.var 58 (.clo 28 []) false]⟩, outs := ⟨[(0, .v 4)], [.var 58 (.clo 28 []) false]⟩, cuts := [] }
def e64 : Entry := { fid := 17, ins := ⟨[(0, .v 36), (1, .clo 41 [.p 0 58])], [.var 58 (.clo 28 []) false]⟩, outs := ⟨[(0, .v 3)], [.var 58 (.clo 28 []) false]⟩, cuts := [([false, true, false, true], ⟨⟨[(0, .v 36), (1, .clo 41 [.p 0 58]), (7, .v 3), (8, .v 3)], [.var 58 (.clo 28 []) false]⟩, [(2, ⟨[], [.var 58 (.clo 28 []) false]⟩), (1, ⟨[(4, .v 3)], [.var 58 (.clo 28 []) false]⟩)]⟩)] }
def e65 : Entry := { fid := 41, ins := ⟨[(0, .v 46), (1, .p 0 58)], [.var 58 (.clo 28 []) false]⟩, outs := ⟨[(0, .v 4)], [.var 58 (.clo 28 []) false]⟩, cuts := [] }
def e66 : Entry := { fid := 7, ins := ⟨[(0, .v 24), (1, .v 25)], []⟩, outs := ⟨[(0, .v 24), (1, .v 3)], []⟩, cuts := [([false, true, false, true], ⟨⟨[(1, .v 25), (2, .p 0 24), (4, .p 1 24), (6, .v 3)], [.var 24 (.v 24) false, .var 24 (.v 24) false]⟩, [(2, ⟨[(2, .p 0 24), (4, .p 1 24)], [.var 24 (.v 24) false, .var 24 (.v 24) false]⟩), (1, ⟨[(4, .p 0 24), (5, .v 3)], [.var 24 (.v 24) false]⟩)]⟩)], lit := true }
def e67 : Entry := { fid := 20, ins := ⟨[(0, .v 24)], []⟩, outs := ⟨[(0, .v 38), (1, .v 3)], []⟩, cuts := [], lit := true }
def e68 : Entry := { fid := 22, ins := ⟨[(0, .v 24)], []⟩, outs := ⟨[(0, .v 4)], []⟩, cuts := [([false, true, false, true, true], ⟨⟨[(1, .p 0 24), (3, .v 3)], [.var 24 (.v 24) false]⟩, [(2, ⟨[(1, .p 0 24)], [.var 24 (.v 24) false]⟩), (1, ⟨[(2, .v 4)], []⟩)]⟩), ([false, true, false, true, true, true], ⟨⟨[(1, .p 0 24), (4, .v 3)], [.var 24 (.v 24) false]⟩, [(4, ⟨[], []⟩), (1, ⟨[(2, .v 4)], []⟩)]⟩), ([false, true, false, false, true, false, false, true, false, true, true, true], ⟨⟨[(1, .p 0 24), (4, .v 3), (5, .v 3)], [.var 24 (.v 24) false]⟩, [(6, ⟨[(1, .p 0 24), (4, .v 3)], [.var 24 (.v 24) false]⟩), (1, ⟨[(2, .v 4)], []⟩)]⟩)], lit := true }
def e69 : Entry := { fid := 35, ins := ⟨[(0, .v 24)], []⟩, outs := ⟨[(0, .v 3)], []⟩, cuts := [([false, true, false, true, true], ⟨⟨[(1, .p 0 24), (3, .v 3), (4, .v 3)], [.var 24 (.v 24) false]⟩, [(2, ⟨[(3, .v 3)], []⟩)]⟩), ([false, true, true, false, false, true, false, false, true, false, true, true], ⟨⟨[(1, .p 0 24), (3, .v 3), (4, .v 3), (5, .v 36), (6, .v 3)], [.var 24 (.v 24) false]⟩, [(4, ⟨[(1, .p 0 24), (3, .v 3), (4, .v 3)], [.var 24 (.v 24) false]⟩)]⟩)], lit := true }
def e70 : Entry := { fid := 36, ins := ⟨[(0, .v 38)], []⟩, outs := ⟨[(0, .v 4)], []⟩, cuts := [([false, true, false, true, true, true, true], ⟨⟨[(1, .p 0 38), (3, .v 3)], [.var 38 (.v 38) false]⟩, [(2, ⟨[], []⟩), (1, ⟨[(2, .v 4)], []⟩)]⟩)], lit := true }
def e71 : Entry := { fid := 37, ins := ⟨[(0, .v 38), (1, .v 38)], []⟩, outs := ⟨[(0, .v 3)], []⟩, cuts := [([false, true, false, true, true, true], ⟨⟨[(2, .p 0 38), (3, .p 1 38), (6, .v 3)], [.var 38 (.v 38) false, .var 38 (.v 38) false]⟩, [(2, ⟨[(2, .p 0 38), (3, .p 1 38)], [.var 38 (.v 38) false, .var 38 (.v 38) false]⟩), (1, ⟨[(4, .v 3)], []⟩)]⟩)], lit := true }
def e72 : Entry := { fid := 56, ins := ⟨[(0, .v 38), (1, .v 38)], []⟩, outs := ⟨[(0, .v 3)], []⟩, cuts := [], lit := true }
def e73 : Entry := { fid := 39, ins := ⟨[(0, .v 3), (1, .v 3)], []⟩, outs := ⟨[(0, .v 3)], []⟩, cuts := [], lit := true }
def e74 : Entry := { fid := 57, ins := ⟨[(0, .v 9), (1, .v 9)], []⟩, outs := ⟨[(0, .v 3)], []⟩, cuts := [], lit := true }
def e75 : Entry := { fid := 76, ins := ⟨[(0, .v 4), (1, .v 4)], []⟩, outs := ⟨[(0, .v 3)], []⟩, cuts := [], lit := true }
def e76 : Entry := { fid := 23, ins := ⟨[(0, .v 24), (1, .v 24)], []⟩, outs := ⟨[(0, .v 3)], []⟩, cuts := [([false, true, false, true], ⟨⟨[(2, .p 0 24), (3, .p 1 24), (5, .v 3)], [.var 24 (.v 24) false, .var 24 (.v 24) false]⟩, [(2, ⟨[(2, .p 0 24), (3, .p 1 24)], [.var 24 (.v 24) false, .var 24 (.v 24) false]⟩), (1, ⟨[(4, .v 3)], []⟩)]⟩)], lit := true }
def e77 : Entry := { fid := 54, ins := ⟨[(0, .v 38)], []⟩, outs := ⟨[(0, .v 4)], []⟩, cuts := [], lit := true }
def e78 : Entry := { fid := 25, ins := ⟨[(0, .v 38)], []⟩, outs := ⟨[(0, .v 4)], []⟩, cuts := [], lit := true }
def e79 : Entry := { fid := 55, ins := ⟨[(0, .v 36)], []⟩, outs := ⟨[(0, .v 4)], []⟩, cuts := [([false, true, false, true, true], ⟨⟨[(0, .v 36), (3, .o 0), (4, .v 3)], [.row 9]⟩, [(2, ⟨[(3, .o 0)], [.row 9]⟩)]⟩)], lit := true }
def e80 : Entry := { fid := 101, ins := ⟨[(0, .v 9)], []⟩, outs := ⟨[(0, .v 4)], []⟩, cuts := [([false, true, false, true, true], ⟨⟨[(0, .v 9), (3, .v 3)], []⟩, [(2, ⟨[], []⟩), (1, ⟨[(2, .v 4)], []⟩)]⟩)], lit := true }
def e81 : Entry := { fid := 110, ins := ⟨[(0, .v 9)], []⟩, outs := ⟨[(0, .v 3)], []⟩, cuts := [], lit := true }
def e82 : Entry := { fid := 38, ins := ⟨[(0, .v 38), (1, .v 38)], []⟩, outs := ⟨[(0, .v 4)], []⟩, cuts := [([false, true, false, true, true, true, true], ⟨⟨[(2, .p 0 38), (3, .p 1 38), (5, .v 3)], [.var 38 (.v 38) false, .var 38 (.v 38) false]⟩, [(2, ⟨[(2, .p 0 38), (3, .p 1 38)], [.var 38 (.v 38) false, .var 38 (.v 38) false]⟩), (1, ⟨[(4, .v 4)], []⟩)]⟩), ([false, true, false, true, true, true, true, true], ⟨⟨[(2, .p 0 38), (3, .p 1 38), (6, .v 3)], [.var 38 (.v 38) false, .var 38 (.v 38) false]⟩, [(4, ⟨[], []⟩), (1, ⟨[(4, .v 4)], []⟩)]⟩)], lit := true }
def e83 : Entry := { fid := 58, ins := ⟨[(0, .v 38), (1, .v 38)], []⟩, outs := ⟨[(0, .v 4)], []⟩, cuts := [], lit := true }
def e84 : Entry := { fid := 77, ins := ⟨[(0, .v 38), (1, .v 38)], []⟩, outs := ⟨[(0, .v 38), (1, .v 4)], []⟩, cuts := [], lit := true }
def e85 : Entry := { fid := 78, ins := ⟨[(0, .v 38), (1, .v 38)], []⟩, outs := ⟨[(0, .v 4)], []⟩, cuts := [], lit := true }
def e86 : Entry := { fid := 21, ins := ⟨[(0, .v 36), (1, .v 9)], []⟩, outs := ⟨[(0, .v 3)], []⟩, cuts := [([false, true, false, true], ⟨⟨[(0, .v 36), (1, .v 9), (5, .v 3)], []⟩, [(2, ⟨[], []⟩), (1, ⟨[(4, .v 3)], []⟩)]⟩)], lit := true }
def e87 : Entry := { fid := 59, ins := ⟨[(0, .v 24), (1, .v 24)], []⟩, outs := ⟨[(0, .v 4)], []⟩, cuts := [([false, true, false, true], ⟨⟨[(2, .p 0 24), (3, .p 1 24), (5, .v 3)], [.var 24 (.v 24) false, .var 24 (.v 24) false]⟩, [(2, ⟨[], []⟩), (1, ⟨[(4, .v 4)], []⟩)]⟩), ([false, true, false, true, false, false, true, false, false, true, false, true], ⟨⟨[(2, .p 0 24), (3, .p 1 24), (5, .v 3), (6, .v 4), (7, .v 3)], [.var 24 (.v 24) false, .var 24 (.v 24) false]⟩, [(4, ⟨[(2, .p 0 24), (3, .p 1 24), (5, .v 3), (6, .v 4)], [.var 24 (.v 24) false, .var 24 (.v 24) false]⟩)]⟩)], lit := true }
def e88 : Entry := { fid := 8, ins := ⟨[(0, .v 24), (1, .v 24)], []⟩, outs := ⟨[(0, .v 4)], []⟩, cuts := [], lit := true }
def e89 : Entry := { fid := 10, ins := ⟨[(0, .v 24), (1, .v 3)], []⟩, outs := ⟨[(0, .v 38), (1, .v 4), (2, .v 3)], []⟩, cuts := [], lit := true }
def e90 : Entry := { fid := 11, ins := ⟨[(0, .v 24)], []⟩, outs := ⟨[(0, .v 9), (1, .v 4), (2, .v 28)], []⟩, cuts := [] }
def e91 : Entry := cloneOE 49 38
def e92 : Entry := { fid := 61, ins := ⟨[(0, .o 0)], [.row 3]⟩, outs := ⟨[(0, .v 3)], [.row 3]⟩, cuts := [([false, true, false, true], ⟨⟨[(5, .o 0), (6, .v 3), (7, .v 3)], [.row 3]⟩, [(2, ⟨[], [.row 3]⟩), (1, ⟨[(2, .v 3)], [.row 3]⟩)]⟩)] }
def e93 : Entry := { fid := 19, ins := ⟨[(0, .o 0)], [.row 38]⟩, outs := ⟨[(0, .v 24), (1, .v 28)], [.row 38]⟩, cuts := [([false, true, false, true, true, true], ⟨⟨[(0, .o 0), (2, .p 1 24), (4, .v 3), (13, .o 0), (14, .v 3), (15, .v 3)], [.row 38, .var 24 (.v 24) false]⟩, [(2, ⟨[(0, .o 0), (2, .p 1 24), (4, .v 3)], [.row 38, .var 24 (.v 24) false]⟩), (1, ⟨[(2, .p 1 24), (3, .v 28)], [.row 38, .var 24 (.v 24) false]⟩)]⟩), ([false, true, true, true, true, false, false, true, true, false, false, true, false, true, true, true], ⟨⟨[(0, .o 0), (2, .p 1 24), (4, .v 3), (13, .o 0), (14, .v 3), (15, .v 3), (30, .v 36), (31, .v 3), (32, .v 3)], [.row 38, .var 24 (.v 24) false]⟩, [(4, ⟨[(0, .o 0), (2, .p 1 24), (4, .v 3), (13, .o 0), (14, .v 3), (15, .v 3)], [.row 38, .var 24 (.v 24) false]⟩), (1, ⟨[(2, .p 1 24), (3, .v 28)], [.row 38, .var 24 (.v 24) false]⟩)]⟩)] }
def e94 : Entry := { fid := 33, ins := ⟨[(0, .agg 24 [.o 0])], [.row 38]⟩, outs := ⟨[(0, .v 3)], [.row 38]⟩, cuts := [([false, true, false, true, true], ⟨⟨[(3, .v 3), (9, .o 0), (10, .v 3), (11, .v 3)], [.row 38]⟩, [(2, ⟨[(3, .v 3)], [.row 38]⟩)]⟩), ([false, true, true, false, false, true, true, false, false, true, false, true, true], ⟨⟨[(3, .v 3), (9, .o 0), (10, .v 3), (11, .v 3), (16, .v 36), (17, .v 3), (18, .v 3)], [.row 38]⟩, [(4, ⟨[(3, .v 3), (9, .o 0), (10, .v 3), (11, .v 3)], [.row 38]⟩)]⟩)] }
def e95 : Entry := { fid := 34, ins := ⟨[(0, .o 0)], [.row 38]⟩, outs := ⟨[(0, .v 24), (1, .v 28)], [.row 38]⟩, cuts := [([false, true, false, true, true, true, true, true, false, true], ⟨⟨[(0, .o 1), (2, .p 2 24), (4, .o 3), (16, .o 1), (17, .v 3), (18, .v 3)], [.row 38, .row 38, .var 24 (.v 24) false, .row 38]⟩, [(2, ⟨[(2, .p 1 24), (4, .o 2)], [.row 38, .var 24 (.v 24) false, .row 38]⟩)]⟩), ([false, true, false, true, false, false, true, true, false, false, true, false, true, true, true, true, true, false, true], ⟨⟨[(0, .o 1), (2, .p 2 24), (4, .o 3), (5, .v 3), (6, .p 4 38), (16, .o 1), (17, .v 3), (18, .v 3), (23, .o 1), (24, .v 3), (25, .v 3)], [.row 38, .row 38, .var 24 (.v 24) false, .row 38, .var 38 (.v 38) false]⟩, [(4, ⟨[(0, .o 1), (2, .p 2 24), (4, .o 3), (6, .p 4 38), (16, .o 1), (17, .v 3), (18, .v 3)], [.row 38, .row 38, .var 24 (.v 24) false, .row 38, .var 38 (.v 38) false]⟩), (3, ⟨[(0, .o 1), (2, .p 2 24), (4, .o 3), (16, .o 1), (17, .v 3), (18, .v 3)], [.row 38, .row 38, .var 24 (.v 24) false, .row 38]⟩)]⟩)] }
def e96 : Entry := { fid := 50, ins := ⟨[(0, .o 0), (1, .clo 44 [])], [.row 38]⟩, outs := ⟨[], [.row 38]⟩, cuts := [] }
def e97 : Entry := { fid := 72, ins := ⟨[(0, .o 0), (1, .v 3), (2, .v 3), (3, .v 3), (4, .clo 44 [])], [.row 38]⟩, outs := ⟨[], [.row 38]⟩, cuts := [([false, true, true], ⟨⟨[(0, .o 0), (1, .v 3), (2, .v 3), (3, .v 3), (4, .clo 44 []), (10, .v 4), (11, .v 4)], [.row 38]⟩, [(1, ⟨[], [.row 38]⟩)]⟩)] }
def e98 : Entry := { fid := 91, ins := ⟨[(0, .o 0), (1, .v 3), (2, .v 3), (3, .clo 44 [])], [.row 38]⟩, outs := ⟨[], [.row 38]⟩, cuts := [([false, true], ⟨⟨[(0, .o 0), (1, .v 3), (2, .v 3), (3, .clo 44 []), (8, .v 3)], [.row 38]⟩, [(2, ⟨[], [.row 38]⟩)]⟩), ([false, true, false, false, true, false, false, true], ⟨⟨[(0, .o 0), (1, .v 3), (2, .v 3), (3, .clo 44 []), (8, .v 3), (9, .v 3)], [.row 38]⟩, [(4, ⟨[(0, .o 0), (1, .v 3), (2, .v 3), (3, .clo 44 []), (8, .v 3)], [.row 38]⟩)]⟩)] }
def e99 : Entry := { fid := 92, ins := ⟨[(0, .o 0), (1, .v 3), (2, .v 3), (3, .clo 44 [])], [.row 38]⟩, outs := ⟨[], [.row 38]⟩, cuts := [([false, true, false, true, true, true], ⟨⟨[(0, .o 0), (3, .clo 44 []), (8, .v 3), (9, .v 3), (10, .v 3), (11, .v 3)], [.row 38]⟩, [(2, ⟨[(0, .o 0), (3, .clo 44 []), (8, .v 3), (9, .v 3), (10, .v 3)], [.row 38]⟩)]⟩), ([false, true, true, true, true, true], ⟨⟨[(0, .o 0), (3, .clo 44 []), (8, .v 3), (9, .v 3), (12, .v 3)], [.row 38]⟩, [(4, ⟨[], [.row 38]⟩)]⟩)] }
def e100 : Entry := { fid := 105, ins := ⟨[(0, .o 0), (1, .v 3), (2, .v 3), (3, .v 3), (4, .clo 44 [])], [.row 38]⟩, outs := ⟨[], [.row 38]⟩, cuts := [([false, true], ⟨⟨[(0, .o 0), (2, .v 3), (3, .v 3), (4, .clo 44 []), (10, .v 3)], [.row 38]⟩, [(2, ⟨[], [.row 38]⟩), (1, ⟨[], [.row 38]⟩)]⟩)] }
def e101 : Entry := { fid := 93, ins := ⟨[(0, .o 0), (1, .v 3), (2, .v 3), (3, .clo 44 [])], [.row 38]⟩, outs := ⟨[], [.row 38]⟩, cuts := [([false, true, true, true, false, true, true], ⟨⟨[(0, .o 0), (1, .v 3), (8, .v 3), (9, .p 1 109), (10, .v 81), (11, .v 3)], [.row 38, .var 109 (.v 109) false]⟩, [(2, ⟨[], [.row 38]⟩)]⟩)] }
def e102 : Entry := { fid := 94, ins := ⟨[(0, .o 0), (1, .v 3), (2, .v 3), (3, .clo 44 [])], [.row 38]⟩, outs := ⟨[(0, .v 3), (1, .v 96)], [.row 38]⟩, cuts := [] }
def e103 : Entry := { fid := 108, ins := ⟨[(0, .o 0), (1, .v 3), (2, .p 1 3), (3, .clo 44 [])], [.row 38, .var 3 (.v 3) false]⟩, outs := ⟨[(0, .v 3)], [.row 38, .var 3 (.v 3) false]⟩, cuts := [] }
def e104 : Entry := { fid := 109, ins := ⟨[(0, .o 0), (1, .v 3), (2, .v 3), (3, .v 3), (4, .p 1 3), (5, .clo 44 [])], [.row 38, .var 3 (.v 3) false]⟩, outs := ⟨[(0, .v 3)], [.row 38, .var 3 (.v 3) false]⟩, cuts := [] }
def e105 : Entry := { fid := 111, ins := ⟨[(0, .o 0), (1, .v 3), (2, .v 3), (3, .p 1 3), (4, .clo 44 [])], [.row 38, .var 3 (.v 3) false]⟩, outs := ⟨[(0, .v 3), (1, .v 3)], [.row 38, .var 3 (.v 3) false]⟩, cuts := [] }
def e106 : Entry := { fid := 95, ins := ⟨[(0, .o 0), (1, .v 3), (2, .v 3), (3, .clo 44 [])], [.row 38]⟩, outs := ⟨[], [.row 38]⟩, cuts := [([false, true, true], ⟨⟨[(0, .o 0), (8, .v 3), (9, .v 3)], [.row 38]⟩, [(2, ⟨[], [.row 38]⟩)]⟩)] }
def e107 : Entry := { fid := 96, ins := ⟨[(0, .o 0), (1, .v 3), (2, .v 3), (3, .clo 44 [])], [.row 38]⟩, outs := ⟨[(0, .v 4)], [.row 38]⟩, cuts := [([false, true, false, true, true], ⟨⟨[(0, .o 0), (1, .v 3), (2, .v 3), (3, .clo 44 []), (9, .v 3), (10, .v 3)], [.row 38]⟩, [(2, ⟨[], [.row 38]⟩), (1, ⟨[(8, .v 4)], [.row 38]⟩)]⟩), ([false, false, false, false, true, false, false, true, false, true, true], ⟨⟨[(0, .o 0), (1, .v 3), (2, .v 3), (3, .clo 44 []), (9, .v 3), (10, .v 3)], [.row 38]⟩, [(4, ⟨[(0, .o 0), (1, .v 3), (2, .v 3), (3, .clo 44 []), (9, .v 3), (10, .v 3)], [.row 38]⟩)]⟩), ([false, true, false, true, false, true, true, true, true, false, false, true, false, false, true, false, true, true], ⟨⟨[(0, .o 0), (1, .v 3), (2, .v 3), (3, .clo 44 []), (9, .v 3), (10, .v 3), (11, .v 3)], [.row 38]⟩, [(6, ⟨[(0, .o 0), (1, .v 3), (2, .v 3), (3, .clo 44 []), (9, .v 3), (10, .v 3)], [.row 38]⟩)]⟩), ([false, true, false, true, true, true, true, true, true, false, false, true, false, false, true, false, true, true], ⟨⟨[(0, .o 0), (1, .v 3), (2, .v 3), (3, .clo 44 []), (9, .v 3), (10, .v 3), (12, .v 3)], [.row 38]⟩, [(8, ⟨[(0, .o 0), (1, .v 3), (2, .v 3), (3, .clo 44 []), (9, .v 3), (10, .v 3)], [.row 38]⟩)]⟩)] }
def e108 : Entry := { fid := 97, ins := ⟨[(0, .o 0), (1, .v 3), (2, .v 3), (3, .v 3), (4, .clo 44 [])], [.row 38]⟩, outs := ⟨[(0, .v 3)], [.row 38]⟩, cuts := [([false, false, true, true, true], ⟨⟨[(0, .o 0), (1, .v 3), (4, .clo 44 []), (11, .v 3), (12, .v 3)], [.row 38]⟩, [(2, ⟨[(11, .v 3)], [.row 38]⟩)]⟩), ([false, false, false, false, false, false, true, true, true], ⟨⟨[(0, .o 0), (1, .v 3), (4, .clo 44 []), (11, .v 3), (12, .v 3)], [.row 38]⟩, [(4, ⟨[(0, .o 0), (1, .v 3), (4, .clo 44 []), (11, .v 3), (12, .v 3)], [.row 38]⟩)]⟩), ([false, false, true, false, false, false, false, true, true, true], ⟨⟨[(0, .o 0), (1, .v 3), (4, .clo 44 []), (11, .v 3), (12, .v 3)], [.row 38]⟩, [(6, ⟨[(0, .o 0), (1, .v 3), (4, .clo 44 []), (11, .v 3), (12, .v 3)], [.row 38]⟩)]⟩)] }
def e109 : Entry := { fid := 98, ins := ⟨[(0, .o 0), (1, .v 3), (2, .v 3), (3, .v 3), (4, .clo 44 [])], [.row 38]⟩, outs := ⟨[(0, .v 3), (1, .v 4)], [.row 38]⟩, cuts := [([false, false, true, true, true], ⟨⟨[(0, .o 0), (1, .v 3), (4, .clo 44 []), (12, .v 3), (13, .v 3)], [.row 38]⟩, [(2, ⟨[(0, .o 0), (1, .v 3), (4, .clo 44 []), (12, .v 3), (13, .v 3)], [.row 38]⟩)]⟩), ([false, false, true, true, true, true], ⟨⟨[(0, .o 0), (1, .v 3), (4, .clo 44 []), (12, .v 3), (13, .v 3)], [.row 38]⟩, [(4, ⟨[(0, .o 0), (1, .v 3), (4, .clo 44 []), (12, .v 3), (13, .v 3)], [.row 38]⟩)]⟩), ([false, false, true, true, true, true, true, true, true, true, true], ⟨⟨[(0, .o 0), (1, .v 3), (4, .clo 44 []), (12, .v 3), (13, .v 3)], [.row 38]⟩, [(6, ⟨[(0, .o 0), (1, .v 3), (13, .v 3)], [.row 38]⟩)]⟩), ([false, false, false, false, false, false, true, true, true, true, true, true, true, true, true], ⟨⟨[(0, .o 0), (1, .v 3), (4, .clo 44 []), (12, .v 3), (13, .v 3)], [.row 38]⟩, [(8, ⟨[(0, .o 0), (1, .v 3), (4, .clo 44 []), (12, .v 3), (13, .v 3)], [.row 38]⟩)]⟩), ([false, false, true, false, false, false, false, true, true, true, true, true, true, true, true, true], ⟨⟨[(0, .o 0), (1, .v 3), (4, .clo 44 []), (12, .v 3), (13, .v 3)], [.row 38]⟩, [(10, ⟨[(0, .o 0), (1, .v 3), (4, .clo 44 []), (12, .v 3), (13, .v 3)], [.row 38]⟩)]⟩)] }
def e110 : Entry := { fid := 51, ins := ⟨[(0, .o 0), (1, .clo 52 [])], [.row 38]⟩, outs := ⟨[(0, .o 0)], [.row 38]⟩, cuts := [([false, true, false, true, true], ⟨⟨[(0, .o 0), (1, .clo 52 []), (5, .v 3)], [.row 38]⟩, [(2, ⟨[(0, .o 0)], [.row 38]⟩)]⟩), ([false, true, false, true, false, true, false, false, true, false, false, true, false, true, true], ⟨⟨[(0, .o 0), (1, .clo 52 []), (5, .v 3), (6, .v 22), (7, .v 3)], [.row 38]⟩, [(4, ⟨[(0, .o 0), (5, .v 3)], [.row 38]⟩)]⟩)] }
def e111 : Entry := { fid := 30, ins := ⟨[(0, .agg 24 [.o 0])], [.row 38]⟩, outs := ⟨[(0, .v 3)], [.row 38]⟩, cuts := [([false, true, false, true, true], ⟨⟨[(3, .v 3), (12, .o 0), (13, .v 3), (14, .v 3)], [.row 38]⟩, [(2, ⟨[(3, .v 3)], [.row 38]⟩)]⟩), ([false, true, true, false, false, true, true, false, false, true, false, true, true], ⟨⟨[(3, .v 3), (12, .o 0), (13, .v 3), (14, .v 3), (19, .v 36), (20, .v 3), (21, .v 3)], [.row 38]⟩, [(4, ⟨[(3, .v 3), (12, .o 0), (13, .v 3), (14, .v 3)], [.row 38]⟩)]⟩)] }
def e112 : Entry := { fid := 53, ins := ⟨[(0, .agg 24 [.o 0])], [.row 38]⟩, outs := ⟨[(0, .v 24)], [.row 38]⟩, cuts := [([false, true, false, true, true], ⟨⟨[(2, .p 1 24), (3, .o 2), (12, .o 2), (13, .v 3), (14, .v 3)], [.row 38, .var 24 (.v 24) false, .row 38]⟩, [(2, ⟨[(2, .p 1 24), (3, .o 2)], [.row 38, .var 24 (.v 24) false, .row 38]⟩)]⟩), ([false, true, false, true, true, false, false, true, true, false, false, true, false, true, true], ⟨⟨[(2, .p 1 24), (3, .o 2), (4, .v 3), (6, .o 3), (12, .o 2), (13, .v 3), (14, .v 3), (22, .o 3), (23, .v 3), (24, .v 3)], [.row 38, .var 24 (.v 24) false, .row 38, .row 46]⟩, [(4, ⟨[(2, .p 1 24), (3, .o 2), (4, .v 3), (6, .o 3), (12, .o 2), (13, .v 3), (14, .v 3)], [.row 38, .var 24 (.v 24) false, .row 38, .row 46]⟩)]⟩)] }
def e113 : Entry := { fid := 75, ins := ⟨[(0, .o 0)], [.row 9]⟩, outs := ⟨[(0, .v 4)], [.row 9]⟩, cuts := [([false, true, false, true], ⟨⟨[(0, .o 0), (3, .v 3)], [.row 9]⟩, [(2, ⟨[], [.row 9]⟩), (1, ⟨[(2, .v 4)], [.row 9]⟩)]⟩)], lit := true }
def ents : List Entry := [e0, e1, e2, e3, e4, e5, e6, e7, e8, e9, e10, e11, e12, e13, e14, e15, e16, e17, e18, e19, e20, e21, e22, e23, e24, e25, e26, e27, e28, e29, e30, e31, e32, e33, e34, e35, e36, e37, e38, e39, e40, e41, e42, e43, e44, e45, e46, e47, e48, e49, e50, e51, e52, e53, e54, e55, e56, e57, e58, e59, e60, e61, e62, e63, e64, e65, e66, e67, e68, e69, e70, e71, e72, e73, e74, e75, e76, e77, e78, e79, e80, e81, e82, e83, e84, e85, e86, e87, e88, e89, e90, e91, e92, e93, e94, e95, e96, e97, e98, e99, e100, e101, e102, e103, e104, e105, e106, e107, e108, e109, e110, e111, e112, e113]
def i_strings_Compare : Nat := 0
def i_name_Right : Nat := 1
def i_slices_Clone_Term : Nat := 2
def i_slices_Clone_Field : Nat := 3
def i_L11_FactPicks : Nat := 4
def i_L09_Few : Nat := 5
def i_L08_Few : Nat := 6
def i_L08_left : Nat := 7
def i_R08_Weight : Nat := 8
def i_L11_awake : Nat := 9
def i_fact_Pick : Nat := 10
def i_lat_Right : Nat := 11
def i_lat_listed : Nat := 12
def i_lat_shaped : Nat := 13
def i_lat_anything : Nat := 14
def i_rank_Terms : Nat := 15
def i_cmp_Compare_int : Nat := 16
def i_cmp_isNaN_int : Nat := 17
def i_rank_flag : Nat := 18
def i_rank_lists_Field_fields : Nat := 19
def i_rank_fields : Nat := 20
def i_rank_Compare : Nat := 21
def i_rank_lists_Term_Terms : Nat := 22
def i_lat_bare : Nat := 23
def i_lat_rising : Nat := 24
def i_scalar_Right : Nat := 25
def i_scalar_bare : Nat := 26
def i_scalar_one : Nat := 27
def i_lat_below : Nat := 28
def i_scalar_Below : Nat := 29
def i_scalar_Meet : Nat := 30
def i_scalar_Same : Nat := 31
def i_lat_lacks : Nat := 32
def i_slices_ContainsFunc_Field_lacks1 : Nat := 33
def i_slices_IndexFunc_Field_lacks1 : Nat := 34
def i_lat_lacks_1 : Nat := 35
def i_lat_find : Nat := 36
def i_slices_BinarySearchFunc_Field_find1 : Nat := 37
def i_lat_find_1 : Nat := 38
def i_lat_under : Nat := 39
def i_slices_ContainsFunc_Term_under1 : Nat := 40
def i_slices_IndexFunc_Term_under1 : Nat := 41
def i_lat_under_1 : Nat := 42
def i_rank_Weight : Nat := 43
def i_fact_One : Nat := 44
def i_fact_one : Nat := 45
def i_rank_Depth : Nat := 46
def i_math_bits_Len : Nat := 47
def i_math_bits_Len32 : Nat := 48
def i_math_bits_Len64 : Nat := 49
def i_slices_nextPowerOfTwo : Nat := 50
def i_slices_xorshift_Next : Nat := 51
def i_lat_settle_1 : Nat := 52
def i_rank_Copy : Nat := 53
def i_slices_IndexFunc_Field_Pick1 : Nat := 54
def i_fact_Pick_1 : Nat := 55
def i_lat_Of : Nat := 56
def i_lat_settle : Nat := 57
def i_fact_Number : Nat := 58
def i_fact_plain : Nat := 59
def i_scalar_Atom : Nat := 60
def i_fact_Settled : Nat := 61
def i_fact_all_Atom : Nat := 62
def i_slices_ContainsFunc_Field_all1_Atom : Nat := 63
def i_slices_IndexFunc_Field_all1_Atom : Nat := 64
def i_fact_all_1_Atom : Nat := 65
def i_R11_Pick : Nat := 66
def i_R11_One : Nat := 67
def i_R09_Right : Nat := 68
def i_R08_Depth : Nat := 69
def i_R09_Term : Nat := 70
def i_R08_Terms : Nat := 71
def i_R08_plain : Nat := 72
def i_R08_nums : Nat := 73
def i_R08_texts : Nat := 74
def i_R08_bools : Nat := 75
def i_R08_Compare : Nat := 76
def i_R07_Right : Nat := 77
def i_R07_Single : Nat := 78
def i_R09_names : Nat := 79
def i_R02_Right : Nat := 80
def i_R02_Word : Nat := 81
def i_R09_under : Nat := 82
def i_R07_Below : Nat := 83
def i_R07_Meet : Nat := 84
def i_R07_Same : Nat := 85
def i_R09_Find : Nat := 86
def i_R09_Under : Nat := 87
def i_R08_Same : Nat := 88
def i_R11_Plain : Nat := 89
def i_fact_Text : Nat := 90
def i_slices_Clone_Term_o : Nat := 91
def i_rank_first_o : Nat := 92
def i_lat_Of_o : Nat := 93
def i_rank_Depth_o : Nat := 94
def i_lat_settle_o : Nat := 95
def i_slices_SortFunc_Term_Terms_o : Nat := 96
def i_slices_pdqsortCmpFunc_Term_Terms_o : Nat := 97
def i_slices_insertionSortCmpFunc_Term_Terms_o : Nat := 98
def i_slices_heapSortCmpFunc_Term_Terms_o : Nat := 99
def i_slices_siftDownCmpFunc_Term_Terms_o : Nat := 100
def i_slices_breakPatternsCmpFunc_Term_Terms_o : Nat := 101
def i_slices_choosePivotCmpFunc_Term_Terms_o : Nat := 102
def i_slices_medianAdjacentCmpFunc_Term_Terms_o : Nat := 103
def i_slices_medianCmpFunc_Term_Terms_o : Nat := 104
def i_slices_order2CmpFunc_Term_Terms_o : Nat := 105
def i_slices_reverseRangeCmpFunc_Term_Terms_o : Nat := 106
def i_slices_partialInsertionSortCmpFunc_Term_Terms_o : Nat := 107
def i_slices_partitionEqualCmpFunc_Term_Terms_o : Nat := 108
def i_slices_partitionCmpFunc_Term_Terms_o : Nat := 109
def i_slices_CompactFunc_Term_settle1_o : Nat := 110
def i_rank_Weight_o : Nat := 111
def i_rank_Copy_o : Nat := 112
def i_R02_Rising_o : Nat := 113
def p_L08_left_c1 : List Bool := [false, true, false, true, true]
def p_L08_left_c2 : List Bool := [false, true, true, true, true, false, false, true, false, false, true, false, true, true]
def p_R08_Weight_c1 : List Bool := [false, true, false, true, true]
def p_R08_Weight_c2 : List Bool := [false, true, true, true, false, false, true, false, false, true, false, true, true]
def p_fact_Pick_c1 : List Bool := [false, true, false, true, true]
def p_lat_listed_c1 : List Bool := [false, true, false, true, true]
def p_lat_listed_c2 : List Bool := [false, true, false, true, true, true]
def p_lat_listed_c3 : List Bool := [false, true, true, false, false, true, true, false, false, true, false, true, true, true]
def p_lat_shaped_c1 : List Bool := [false, true, false, true, false, true, true, true, false, true, false, true]
def p_rank_lists_Field_fields_c1 : List Bool := [false, true, false, true]
def p_rank_lists_Term_Terms_c1 : List Bool := [false, true, false, true]
def p_lat_rising_c1 : List Bool := [false, true, false, true]
def p_lat_below_c1 : List Bool := [false, true, false, true, true]
def p_slices_IndexFunc_Field_lacks1_c1 : List Bool := [false, true, false, true]
def p_slices_BinarySearchFunc_Field_find1_c1 : List Bool := [false, false, true, true, true]
def p_lat_under_c1 : List Bool := [false, true, false, true]
def p_slices_IndexFunc_Term_under1_c1 : List Bool := [false, true, false, true]
def p_rank_Weight_c1 : List Bool := [false, true, false, true, true]
def p_rank_Weight_c2 : List Bool := [false, true, true, false, false, true, true, false, false, true, false, true, true]
def p_rank_Depth_c1 : List Bool := [false, true, false, true, true]
def p_rank_Depth_c2 : List Bool := [false, true, true, false, false, true, true, false, false, true, false, true, true]
def p_rank_Copy_c1 : List Bool := [false, true, false, true, true]
def p_rank_Copy_c2 : List Bool := [false, true, false, true, true, false, false, true, true, false, false, true, false, true, true]
def p_slices_IndexFunc_Field_Pick1_c1 : List Bool := [false, true, false, true]
def p_lat_Of_c1 : List Bool := [false, true, false, true, true, true]
def p_lat_Of_c2 : List Bool := [false, true, true, true, true, false, false, true, true, false, false, true, false, true, true, true]
def p_lat_settle_c1 : List Bool := [false, true, false, true, true, true, true, true, false, true]
def p_lat_settle_c2 : List Bool := [false, true, false, true, false, false, true, true, false, false, true, false, true, true, true, true, true, false, true]
def p_slices_IndexFunc_Field_all1_Atom_c1 : List Bool := [false, true, false, true]
def p_R11_Pick_c1 : List Bool := [false, true, false, true]
def p_R09_Right_c1 : List Bool := [false, true, false, true, true]
def p_R09_Right_c2 : List Bool := [false, true, false, true, true, true]
def p_R09_Right_c3 : List Bool := [false, true, false, false, true, false, false, true, false, true, true, true]
def p_R08_Depth_c1 : List Bool := [false, true, false, true, true]
def p_R08_Depth_c2 : List Bool := [false, true, true, false, false, true, false, false, true, false, true, true]
def p_R09_Term_c1 : List Bool := [false, true, false, true, true, true, true]
def p_R08_Terms_c1 : List Bool := [false, true, false, true, true, true]
def p_R08_Compare_c1 : List Bool := [false, true, false, true]
def p_R09_names_c1 : List Bool := [false, true, false, true, true]
def p_R02_Right_c1 : List Bool := [false, true, false, true, true]
def p_R09_under_c1 : List Bool := [false, true, false, true, true, true, true]
def p_R09_under_c2 : List Bool := [false, true, false, true, true, true, true, true]
def p_R09_Find_c1 : List Bool := [false, true, false, true]
def p_R09_Under_c1 : List Bool := [false, true, false, true]
def p_R09_Under_c2 : List Bool := [false, true, false, true, false, false, true, false, false, true, false, true]
def p_rank_first_o_c1 : List Bool := [false, true, false, true]
def p_lat_Of_o_c1 : List Bool := [false, true, false, true, true, true]
def p_lat_Of_o_c2 : List Bool := [false, true, true, true, true, false, false, true, true, false, false, true, false, true, true, true]
def p_rank_Depth_o_c1 : List Bool := [false, true, false, true, true]
def p_rank_Depth_o_c2 : List Bool := [false, true, true, false, false, true, true, false, false, true, false, true, true]
def p_lat_settle_o_c1 : List Bool := [false, true, false, true, true, true, true, true, false, true]
def p_lat_settle_o_c2 : List Bool := [false, true, false, true, false, false, true, true, false, false, true, false, true, true, true, true, true, false, true]
def p_slices_pdqsortCmpFunc_Term_Terms_o_c1 : List Bool := [false, true, true]
def p_slices_insertionSortCmpFunc_Term_Terms_o_c1 : List Bool := [false, true]
def p_slices_insertionSortCmpFunc_Term_Terms_o_c2 : List Bool := [false, true, false, false, true, false, false, true]
def p_slices_heapSortCmpFunc_Term_Terms_o_c1 : List Bool := [false, true, false, true, true, true]
def p_slices_heapSortCmpFunc_Term_Terms_o_c2 : List Bool := [false, true, true, true, true, true]
def p_slices_siftDownCmpFunc_Term_Terms_o_c1 : List Bool := [false, true]
def p_slices_breakPatternsCmpFunc_Term_Terms_o_c1 : List Bool := [false, true, true, true, false, true, true]
def p_slices_reverseRangeCmpFunc_Term_Terms_o_c1 : List Bool := [false, true, true]
def p_slices_partialInsertionSortCmpFunc_Term_Terms_o_c1 : List Bool := [false, true, false, true, true]
def p_slices_partialInsertionSortCmpFunc_Term_Terms_o_c2 : List Bool := [false, false, false, false, true, false, false, true, false, true, true]
def p_slices_partialInsertionSortCmpFunc_Term_Terms_o_c3 : List Bool := [false, true, false, true, false, true, true, true, true, false, false, true, false, false, true, false, true, true]
def p_slices_partialInsertionSortCmpFunc_Term_Terms_o_c4 : List Bool := [false, true, false, true, true, true, true, true, true, false, false, true, false, false, true, false, true, true]
def p_slices_partitionEqualCmpFunc_Term_Terms_o_c1 : List Bool := [false, false, true, true, true]
def p_slices_partitionEqualCmpFunc_Term_Terms_o_c2 : List Bool := [false, false, false, false, false, false, true, true, true]
def p_slices_partitionEqualCmpFunc_Term_Terms_o_c3 : List Bool := [false, false, true, false, false, false, false, true, true, true]
def p_slices_partitionCmpFunc_Term_Terms_o_c1 : List Bool := [false, false, true, true, true]
def p_slices_partitionCmpFunc_Term_Terms_o_c2 : List Bool := [false, false, true, true, true, true]
def p_slices_partitionCmpFunc_Term_Terms_o_c3 : List Bool := [false, false, true, true, true, true, true, true, true, true, true]
def p_slices_partitionCmpFunc_Term_Terms_o_c4 : List Bool := [false, false, false, false, false, false, true, true, true, true, true, true, true, true, true]
def p_slices_partitionCmpFunc_Term_Terms_o_c5 : List Bool := [false, false, true, false, false, false, false, true, true, true, true, true, true, true, true, true]
def p_slices_CompactFunc_Term_settle1_o_c1 : List Bool := [false, true, false, true, true]
def p_slices_CompactFunc_Term_settle1_o_c2 : List Bool := [false, true, false, true, false, true, false, false, true, false, false, true, false, true, true]
def p_rank_Weight_o_c1 : List Bool := [false, true, false, true, true]
def p_rank_Weight_o_c2 : List Bool := [false, true, true, false, false, true, true, false, false, true, false, true, true]
def p_rank_Copy_o_c1 : List Bool := [false, true, false, true, true]
def p_rank_Copy_o_c2 : List Bool := [false, true, false, true, true, false, false, true, true, false, false, true, false, true, true]
def p_R02_Rising_o_c1 : List Bool := [false, true, false, true]
noncomputable def D (n i : Nat) (p : Option (List Bool)) (xs : List A) : Option (Nat × List A) := den Tryz.prog G0 ents n i p xs
noncomputable def cl (n i : Nat) (xs : List A) (k : List A → Option (Nat × List A)) : Option (Nat × List A) := Option.bind (Option.map (fun v => v.2) (den Tryz.prog G0 ents n i none xs)) k
noncomputable def lp (n i : Nat) (p : List Bool) (xs : List A) (k : Nat × List A → Option (Nat × List A)) : Option (Nat × List A) := Option.bind (den Tryz.prog G0 ents n i (some p) xs) k
end Go.Proofs.YtoekafpmpopigaaGreatDoorFP
set_option linter.unusedVariables false
set_option maxRecDepth 100000
namespace Go.Proofs.YtoekafpmpopigaaGreatDoorFP
open Go Go.Proofs.YtoekafpmpopigaaGreatDoorVM Go.Proofs
theorem q_L11_FactPicks (n : Nat) (x0 x1 : T) : den Tryz.prog G0 ents (Nat.succ n) i_L11_FactPicks none [A.t x0, A.t x1] =
  cl n i_L09_Few [A.t x0] fun v0 => bif (!(r v0 0).b) == false then bif gt x1.l 20 then cl n i_L11_awake [] fun v1 => rt [aB (r v1 0).b] else cl n i_fact_Pick [A.t x0,aL x1.k] fun v1 => cl n i_R11_Pick [A.t x0,aL x1.k] fun v2 => cl n i_R08_Same [A.t (r v1 0),A.t (r v2 0)] fun v3 => bif (!(r v3 0).b) == false then bif (r v1 1).n != (r v2 1).n then rt [aB false] else cl n i_fact_Number [A.t (r v2 0)] fun v4 => cl n i_R11_Plain [A.t (r v2 0),aI 2] fun v5 => cl n i_fact_Text [A.t (r v2 0)] fun v6 => cl n i_R11_Plain [A.t (r v2 0),aI 3] fun v7 => cl n i_L11_awake [] fun v8 => bif (r v8 0).b == true then bif ((r v4 0).n == ((r v5 0).g 1).n) == true then bif ((r v4 1).b == (r v5 1).b) == true then bif ((r v4 2).n == (r v5 2).n) == true then bif seqB (r v6 0).s ((r v7 0).g 3).s == true then bif ((r v6 1).b == (r v7 1).b) == true then rt [aB ((r v6 2).n == (r v7 2).n)] else rt [aB false] else rt [aB false] else rt [aB false] else rt [aB false] else rt [aB false] else rt [aB false] else rt [aB false] else cl n i_L11_awake [] fun v1 => rt [aB (r v1 0).b] := by kernel_rfl
theorem q_L09_Few (n : Nat) (x0 : T) : den Tryz.prog G0 ents (Nat.succ n) i_L09_Few none [A.t x0] =
  cl n i_L08_Few [A.t x0] fun v0 => bif (r v0 0).b == true then cl n i_R08_Weight [A.t x0] fun v1 => rt [aB (le (r v1 0).n 40)] else rt [aB false] := by kernel_rfl
theorem q_L08_Few (n : Nat) (x0 : T) : den Tryz.prog G0 ents (Nat.succ n) i_L08_Few none [A.t x0] =
  cl n i_L08_left [A.t x0,aI 20,aI 200] fun v0 => rt [aB (ge (r v0 0).n 0)] := by kernel_rfl
theorem q_L08_left (n : Nat) (x0 x1 x2 : T) : den Tryz.prog G0 ents (Nat.succ n) i_L08_left none [A.t x0, A.t x1, A.t x2] =
  bif (x1.n == 0) == false then bif gt (x0.g 0).l x2.n then rt [aI (-1)] else lp n i_L08_left p_L08_left_c1 [aI x1.n,aI x2.n,aI 0,A.t x0] fun v0 => bif Nat.beq v0.1 2 then rt [aI (r v0.2 0).n] else bif Nat.beq v0.1 1 then rt [aI (r v0.2 0).n] else none else rt [aI (-1)] := by kernel_rfl
theorem q_L08_left_c1 (n : Nat) (x0 x1 x2 x3 : T) : den Tryz.prog G0 ents (Nat.succ n) i_L08_left (some p_L08_left_c1) [A.t x0, A.t x1, A.t x2, A.t x3] =
  bif lt x2.n (x3.g 0).l == true then bif ge x1.n 0 then bif ib x2.n (x3.g 0).l then bif gt (((x3.g 0).a x2.n).g 3).z 400 == false then bif gt (((x3.g 0).a x2.n).g 7).l 100 then rt [aI (-1)] else lp n i_L08_left p_L08_left_c2 [aI x0.n,aI (w6 (x1.n - 1)),aI x2.n,aI 0,A.t x3,A.t ((x3.g 0).a x2.n)] fun v0 => bif Nat.beq v0.1 4 then D n i_L08_left (some p_L08_left_c1) [aI (r v0.2 0).n,aI (r v0.2 1).n,aI (w6 ((r v0.2 2).n + 1)),A.t (r v0.2 3)] else bif Nat.beq v0.1 1 then rt [aI (r v0.2 0).n] else none else rt [aI (-1)] else none else some (2,[aI x1.n]) else some (2,[aI x1.n]) := by kernel_rfl
theorem q_L08_left_c2 (n : Nat) (x0 x1 x2 x3 x4 x5 : T) : den Tryz.prog G0 ents (Nat.succ n) i_L08_left (some p_L08_left_c2) [A.t x0, A.t x1, A.t x2, A.t x3, A.t x4, A.t x5] =
  bif lt x3.n (x5.g 7).l == true then bif ge x1.n 0 then bif ib x3.n (x5.g 7).l then bif gt (((x5.g 7).a x3.n).g 0).z 100 then rt [aI (-1)] else bif ib x3.n (x5.g 7).l then cl n i_L08_left [A.t (((x5.g 7).a x3.n).g 1),aI (w6 (x0.n - 1)),aI x1.n] fun v0 => D n i_L08_left (some p_L08_left_c2) [aI x0.n,aI (r v0 0).n,aI x2.n,aI (w6 (x3.n + 1)),A.t x4,A.t x5] else none else none else some (4,[aI x0.n,aI x1.n,aI x2.n,A.t x4]) else some (4,[aI x0.n,aI x1.n,aI x2.n,A.t x4]) := by kernel_rfl
theorem q_R08_Weight (n : Nat) (x0 : T) : den Tryz.prog G0 ents (Nat.succ n) i_R08_Weight none [A.t x0] =
  lp n i_R08_Weight p_R08_Weight_c1 [aI 0,aI 0,A.t x0] fun v0 => bif Nat.beq v0.1 2 then rt [aI (r v0.2 0).n] else none := by kernel_rfl
theorem q_R08_Weight_c1 (n : Nat) (x0 x1 x2 : T) : den Tryz.prog G0 ents (Nat.succ n) i_R08_Weight (some p_R08_Weight_c1) [A.t x0, A.t x1, A.t x2] =
  bif lt x1.n (x2.g 0).l then bif ib x1.n (x2.g 0).l then lp n i_R08_Weight p_R08_Weight_c2 [aI (w6 (x0.n + 1)),aI x1.n,aL (((x2.g 0).a x1.n).g 7).k,aI 0,A.t x2] fun v0 => bif Nat.beq v0.1 4 then D n i_R08_Weight (some p_R08_Weight_c1) [aI (r v0.2 0).n,aI (w6 ((r v0.2 1).n + 1)),A.t (r v0.2 2)] else none else none else some (2,[aI x0.n]) := by kernel_rfl
theorem q_R08_Weight_c2 (n : Nat) (x0 x1 x2 x3 x4 : T) : den Tryz.prog G0 ents (Nat.succ n) i_R08_Weight (some p_R08_Weight_c2) [A.t x0, A.t x1, A.t x2, A.t x3, A.t x4] =
  bif lt x3.n x2.l then bif ib x3.n x2.l then cl n i_R08_Weight [A.t ((x2.a x3.n).g 1)] fun v0 => D n i_R08_Weight (some p_R08_Weight_c2) [aI (w6 (x0.n + (r v0 0).n)),aI x1.n,aL x2.k,aI (w6 (x3.n + 1)),A.t x4] else none else some (4,[aI x0.n,aI x1.n,A.t x4]) := by kernel_rfl
theorem q_fact_Pick (n : Nat) (x0 x1 : T) : den Tryz.prog G0 ents (Nat.succ n) i_fact_Pick none [A.t x0, A.t x1] =
  cl n i_lat_Right [A.t x0] fun v0 => bif !(r v0 0).b then rt [aL [T.node []],aI 1] else lp n i_fact_Pick p_fact_Pick_c1 [aL x1.k,aI x1.l,aI 0,A.t x0,aL [T.node []]] fun v1 => bif Nat.beq v1.1 2 then cl n i_lat_Of [aL ((r v1.2 0).g 0).k] fun v2 => rt [A.t (r v2 0),aI (r v2 1).n] else bif Nat.beq v1.1 1 then rt [A.t (r v1.2 1),aI (r v1.2 0).n] else none := by kernel_rfl
theorem q_fact_Pick_c1 (n : Nat) (x0 x1 x2 x3 x4 : T) : den Tryz.prog G0 ents (Nat.succ n) i_fact_Pick (some p_fact_Pick_c1) [A.t x0, A.t x1, A.t x2, A.t x3, A.t x4] =
  bif lt x2.n x1.n then bif ib x2.n x0.l then cl n i_fact_One [A.t x3] fun v0 => bif (r v0 1).n != 0 then rt [aI (r v0 1).n,aL [T.node []]] else bif ((r v0 0).g 0).n != 4 then rt [aI 27,aL [T.node []]] else cl n i_slices_IndexFunc_Field_Pick1 [aL ((r v0 0).g 7).k,aS (x0.a x2.n).s] fun v1 => bif lt (r v1 0).n 0 then rt [aI 29,aL [T.node []]] else bif ib (r v1 0).n ((r v0 0).g 7).l then D n i_fact_Pick (some p_fact_Pick_c1) [aL x0.k,aI x1.n,aI (w6 (x2.n + 1)),A.t ((((r v0 0).g 7).a (r v1 0).n).g 1),A.t x4] else none else none else some (2,[A.t x3,A.t x4]) := by kernel_rfl
theorem q_lat_Right (n : Nat) (x0 : T) : den Tryz.prog G0 ents (Nat.succ n) i_lat_Right none [A.t x0] =
  cl n i_lat_listed [A.t x0,aI 16] fun v0 => bif (r v0 0).b == true then cl n i_rank_Weight [A.t x0] fun v1 => rt [aB (le (r v1 0).n 512)] else rt [aB false] := by kernel_rfl
theorem q_lat_listed (n : Nat) (x0 x1 : T) : den Tryz.prog G0 ents (Nat.succ n) i_lat_listed none [A.t x0, A.t x1] =
  bif lt x1.n 1 == false then bif gt (x0.g 0).l 512 then rt [aB false] else lp n i_lat_listed p_lat_listed_c1 [aI x1.n,aL (x0.g 0).k,aI (x0.g 0).l,aI 0,A.t x0] fun v0 => bif Nat.beq v0.1 2 then lp n i_lat_listed p_lat_listed_c2 [aL ((r v0.2 0).g 0).k,aI ((r v0.2 0).g 0).l,aI 0,A.t (r v0.2 0)] fun v1 => bif Nat.beq v1.1 4 then rt [aB true] else bif Nat.beq v1.1 1 then rt [aB (r v1.2 0).b] else none else bif Nat.beq v0.1 1 then rt [aB (r v0.2 0).b] else none else rt [aB false] := by kernel_rfl
theorem q_lat_listed_c1 (n : Nat) (x0 x1 x2 x3 x4 : T) : den Tryz.prog G0 ents (Nat.succ n) i_lat_listed (some p_lat_listed_c1) [A.t x0, A.t x1, A.t x2, A.t x3, A.t x4] =
  bif lt x3.n x2.n then bif ib x3.n x1.l then cl n i_lat_shaped [A.t (x1.a x3.n),aI x0.n] fun v0 => bif (!(r v0 0).b) == false then bif gt x3.n 0 == true then bif ib (w6 (x3.n - 1)) (x4.g 0).l then cl n i_rank_Terms [A.t ((x4.g 0).a (w6 (x3.n - 1))),A.t (x1.a x3.n)] fun v1 => bif ge (r v1 0).n 0 then rt [aB false] else D n i_lat_listed (some p_lat_listed_c1) [aI x0.n,aL x1.k,aI x2.n,aI (w6 (x3.n + 1)),A.t x4] else none else D n i_lat_listed (some p_lat_listed_c1) [aI x0.n,aL x1.k,aI x2.n,aI (w6 (x3.n + 1)),A.t x4] else rt [aB false] else none else some (2,[A.t x4]) := by kernel_rfl
theorem q_lat_listed_c2 (n : Nat) (x0 x1 x2 x3 : T) : den Tryz.prog G0 ents (Nat.succ n) i_lat_listed (some p_lat_listed_c2) [A.t x0, A.t x1, A.t x2, A.t x3] =
  bif lt x2.n x1.n then bif ib x2.n x0.l then lp n i_lat_listed p_lat_listed_c3 [aI x2.n,aL x0.k,aI x1.n,aI x2.n,aL (x3.g 0).k,aI (x3.g 0).l,aI 0,A.t x3,A.t (x0.a x2.n)] fun v0 => bif Nat.beq v0.1 6 then D n i_lat_listed (some p_lat_listed_c2) [aL (r v0.2 0).k,aI (r v0.2 1).n,aI (w6 ((r v0.2 2).n + 1)),A.t (r v0.2 3)] else bif Nat.beq v0.1 1 then rt [aB (r v0.2 0).b] else none else none else some (4,[]) := by kernel_rfl
theorem q_lat_listed_c3 (n : Nat) (x0 x1 x2 x3 x4 x5 x6 x7 x8 : T) : den Tryz.prog G0 ents (Nat.succ n) i_lat_listed (some p_lat_listed_c3) [A.t x0, A.t x1, A.t x2, A.t x3, A.t x4, A.t x5, A.t x6, A.t x7, A.t x8] =
  bif lt x6.n x5.n then bif ib x6.n x4.l then bif (x0.n != x6.n) == true then cl n i_lat_below [A.t x8,A.t (x4.a x6.n)] fun v0 => bif (r v0 0).b then rt [aB false] else D n i_lat_listed (some p_lat_listed_c3) [aI x0.n,aL x1.k,aI x2.n,aI x3.n,aL x4.k,aI x5.n,aI (w6 (x6.n + 1)),A.t x7,A.t x8] else D n i_lat_listed (some p_lat_listed_c3) [aI x0.n,aL x1.k,aI x2.n,aI x3.n,aL x4.k,aI x5.n,aI (w6 (x6.n + 1)),A.t x7,A.t x8] else none else some (6,[aL x1.k,aI x2.n,aI x3.n,A.t x7]) := by kernel_rfl
theorem q_lat_shaped (n : Nat) (x0 x1 : T) : den Tryz.prog G0 ents (Nat.succ n) i_lat_shaped none [A.t x0, A.t x1] =
  bif (x0.g 0).n == 5 then cl n i_lat_anything [A.t x0] fun v0 => rt [aB (r v0 0).b] else bif (x0.g 0).n == 4 then cl n i_lat_bare [A.t x0] fun v0 => bif (!(r v0 0).b) == false then bif gt (x0.g 7).l 32 == false then cl n i_lat_rising [aL (x0.g 7).k] fun v1 => bif !(r v1 0).b then rt [aB false] else lp n i_lat_shaped p_lat_shaped_c1 [aI x1.n,aL (x0.g 7).k,aI (x0.g 7).l,aI 0] fun v2 => bif Nat.beq v2.1 3 then rt [aB true] else bif Nat.beq v2.1 1 then rt [aB (r v2.2 0).b] else none else rt [aB false] else rt [aB false] else cl n i_scalar_Right [A.t x0] fun v0 => rt [aB (r v0 0).b] := by kernel_rfl
theorem q_lat_shaped_c1 (n : Nat) (x0 x1 x2 x3 : T) : den Tryz.prog G0 ents (Nat.succ n) i_lat_shaped (some p_lat_shaped_c1) [A.t x0, A.t x1, A.t x2, A.t x3] =
  bif lt x3.n x2.n then bif ib x3.n x1.l then bif ((((x1.a x3.n).g 1).g 0).l == 0) == false then cl n i_lat_listed [A.t ((x1.a x3.n).g 1),aI (w6 (x0.n - 1))] fun v0 => bif !(r v0 0).b then rt [aB false] else D n i_lat_shaped (some p_lat_shaped_c1) [aI x0.n,aL x1.k,aI x2.n,aI (w6 (x3.n + 1))] else rt [aB false] else none else some (3,[]) := by kernel_rfl
theorem q_lat_anything (n : Nat) (x0 : T) : den Tryz.prog G0 ents (Nat.succ n) i_lat_anything none [A.t x0] =
  cl n i_rank_Terms [A.t x0,aL [T.int 5,T.int 0,T.int 0,T.str ByteArray.empty,T.bool false,T.bool false,T.bool false,T.node []]] fun v0 => rt [aB ((r v0 0).n == 0)] := by kernel_rfl
theorem q_rank_Terms (n : Nat) (x0 x1 : T) : den Tryz.prog G0 ents (Nat.succ n) i_rank_Terms none [A.t x0, A.t x1] =
  cl n i_cmp_Compare_int [aI (x0.g 0).n,aI (x1.g 0).n] fun v0 => cl n i_cmp_Compare_int [aI (x0.g 1).n,aI (x1.g 1).n] fun v1 => cl n i_cmp_Compare_int [aI (x0.g 2).n,aI (x1.g 2).n] fun v2 => cl n i_strings_Compare [aS (x0.g 3).s,aS (x1.g 3).s] fun v3 => cl n i_rank_flag [aB (x0.g 4).b] fun v4 => cl n i_rank_flag [aB (x1.g 4).b] fun v5 => cl n i_rank_flag [aB (x0.g 5).b] fun v6 => cl n i_rank_flag [aB (x1.g 5).b] fun v7 => cl n i_rank_flag [aB (x0.g 6).b] fun v8 => cl n i_rank_flag [aB (x1.g 6).b] fun v9 => cl n i_rank_lists_Field_fields [aL (x0.g 7).k,aL (x1.g 7).k] fun v10 => cl n i_rank_first_o [aL [T.int (r v0 0).n,T.int (r v1 0).n,T.int (r v2 0).n,T.int (r v3 0).n,T.int (w6 ((r v4 0).n - (r v5 0).n)),T.int (w6 ((r v6 0).n - (r v7 0).n)),T.int (w6 ((r v8 0).n - (r v9 0).n)),T.int (r v10 0).n]] fun v11 => rt [aI (r v11 0).n] := by kernel_rfl
theorem q_cmp_Compare_int (n : Nat) (x0 x1 : T) : den Tryz.prog G0 ents (Nat.succ n) i_cmp_Compare_int none [A.t x0, A.t x1] =
  cl n i_cmp_isNaN_int [aI x0.n] fun v0 => cl n i_cmp_isNaN_int [aI x1.n] fun v1 => bif (r v0 0).b then bif (r v1 0).b then rt [aI 0] else rt [aI (-1)] else bif (r v1 0).b then rt [aI 1] else bif lt x0.n x1.n then rt [aI (-1)] else bif gt x0.n x1.n then rt [aI 1] else rt [aI 0] := by kernel_rfl
theorem q_cmp_isNaN_int (n : Nat) (x0 : T) : den Tryz.prog G0 ents (Nat.succ n) i_cmp_isNaN_int none [A.t x0] =
  rt [aB (x0.n != x0.n)] := by kernel_rfl
theorem q_rank_flag (n : Nat) (x0 : T) : den Tryz.prog G0 ents (Nat.succ n) i_rank_flag none [A.t x0] =
  bif x0.b then rt [aI 1] else rt [aI 0] := by kernel_rfl
theorem q_rank_lists_Field_fields (n : Nat) (x0 x1 : T) : den Tryz.prog G0 ents (Nat.succ n) i_rank_lists_Field_fields none [A.t x0, A.t x1] =
  lp n i_rank_lists_Field_fields p_rank_lists_Field_fields_c1 [aL x0.k,aL x1.k,aI (minI x0.l x1.l),aI 0] fun v0 => bif Nat.beq v0.1 2 then cl n i_cmp_Compare_int [aI (r v0.2 0).l,aI (r v0.2 1).l] fun v1 => rt [aI (r v1 0).n] else bif Nat.beq v0.1 1 then rt [aI (r v0.2 0).n] else none := by kernel_rfl
theorem q_rank_lists_Field_fields_c1 (n : Nat) (x0 x1 x2 x3 : T) : den Tryz.prog G0 ents (Nat.succ n) i_rank_lists_Field_fields (some p_rank_lists_Field_fields_c1) [A.t x0, A.t x1, A.t x2, A.t x3] =
  bif lt x3.n x2.n then bif ib x3.n x0.l then bif ib x3.n x1.l then cl n i_rank_fields [A.t (x0.a x3.n),A.t (x1.a x3.n)] fun v0 => bif (r v0 0).n != 0 then rt [aI (r v0 0).n] else D n i_rank_lists_Field_fields (some p_rank_lists_Field_fields_c1) [aL x0.k,aL x1.k,aI x2.n,aI (w6 (x3.n + 1))] else none else none else some (2,[aL x0.k,aL x1.k]) := by kernel_rfl
theorem q_rank_fields (n : Nat) (x0 x1 : T) : den Tryz.prog G0 ents (Nat.succ n) i_rank_fields none [A.t x0, A.t x1] =
  cl n i_strings_Compare [aS (x0.g 0).s,aS (x1.g 0).s] fun v0 => cl n i_rank_Compare [A.t (x0.g 1),A.t (x1.g 1)] fun v1 => cl n i_rank_first_o [aL [T.int (r v0 0).n,T.int (r v1 0).n]] fun v2 => rt [aI (r v2 0).n] := by kernel_rfl
theorem q_rank_Compare (n : Nat) (x0 x1 : T) : den Tryz.prog G0 ents (Nat.succ n) i_rank_Compare none [A.t x0, A.t x1] =
  cl n i_rank_lists_Term_Terms [aL (x0.g 0).k,aL (x1.g 0).k] fun v0 => rt [aI (r v0 0).n] := by kernel_rfl
theorem q_rank_lists_Term_Terms (n : Nat) (x0 x1 : T) : den Tryz.prog G0 ents (Nat.succ n) i_rank_lists_Term_Terms none [A.t x0, A.t x1] =
  lp n i_rank_lists_Term_Terms p_rank_lists_Term_Terms_c1 [aL x0.k,aL x1.k,aI (minI x0.l x1.l),aI 0] fun v0 => bif Nat.beq v0.1 2 then cl n i_cmp_Compare_int [aI (r v0.2 0).l,aI (r v0.2 1).l] fun v1 => rt [aI (r v1 0).n] else bif Nat.beq v0.1 1 then rt [aI (r v0.2 0).n] else none := by kernel_rfl
theorem q_rank_lists_Term_Terms_c1 (n : Nat) (x0 x1 x2 x3 : T) : den Tryz.prog G0 ents (Nat.succ n) i_rank_lists_Term_Terms (some p_rank_lists_Term_Terms_c1) [A.t x0, A.t x1, A.t x2, A.t x3] =
  bif lt x3.n x2.n then bif ib x3.n x0.l then bif ib x3.n x1.l then cl n i_rank_Terms [A.t (x0.a x3.n),A.t (x1.a x3.n)] fun v0 => bif (r v0 0).n != 0 then rt [aI (r v0 0).n] else D n i_rank_lists_Term_Terms (some p_rank_lists_Term_Terms_c1) [aL x0.k,aL x1.k,aI x2.n,aI (w6 (x3.n + 1))] else none else none else some (2,[aL x0.k,aL x1.k]) := by kernel_rfl
theorem q_lat_bare (n : Nat) (x0 : T) : den Tryz.prog G0 ents (Nat.succ n) i_lat_bare none [A.t x0] =
  bif ((x0.g 1).n == 0) == true then bif ((x0.g 2).n == 0) == true then bif seqB (x0.g 3).s (bs []) == true then bif (!(x0.g 4).b) == true then rt [aB (!(x0.g 5).b)] else rt [aB false] else rt [aB false] else rt [aB false] else rt [aB false] := by kernel_rfl
theorem q_lat_rising (n : Nat) (x0 : T) : den Tryz.prog G0 ents (Nat.succ n) i_lat_rising none [A.t x0] =
  lp n i_lat_rising p_lat_rising_c1 [aL x0.k,aL x0.k,aI x0.l,aI 0] fun v0 => bif Nat.beq v0.1 2 then rt [aB true] else bif Nat.beq v0.1 1 then rt [aB (r v0.2 0).b] else none := by kernel_rfl
theorem q_lat_rising_c1 (n : Nat) (x0 x1 x2 x3 : T) : den Tryz.prog G0 ents (Nat.succ n) i_lat_rising (some p_lat_rising_c1) [A.t x0, A.t x1, A.t x2, A.t x3] =
  bif lt x3.n x2.n then bif ib x3.n x1.l then cl n i_name_Right [aS ((x1.a x3.n).g 0).s] fun v0 => bif (!(r v0 0).b) == false then bif gt x3.n 0 == true then bif ib (w6 (x3.n - 1)) x0.l then bif Bool.or (sltB ((x1.a x3.n).g 0).s ((x0.a (w6 (x3.n - 1))).g 0).s) (seqB ((x1.a x3.n).g 0).s ((x0.a (w6 (x3.n - 1))).g 0).s) then rt [aB false] else D n i_lat_rising (some p_lat_rising_c1) [aL x0.k,aL x1.k,aI x2.n,aI (w6 (x3.n + 1))] else none else D n i_lat_rising (some p_lat_rising_c1) [aL x0.k,aL x1.k,aI x2.n,aI (w6 (x3.n + 1))] else rt [aB false] else none else some (2,[]) := by kernel_rfl
theorem q_scalar_Right (n : Nat) (x0 : T) : den Tryz.prog G0 ents (Nat.succ n) i_scalar_Right none [A.t x0] =
  cl n i_scalar_bare [A.t x0] fun v0 => bif (!(r v0 0).b) == false then bif (x0.g 5).b == true then cl n i_scalar_one [A.t x0] fun v1 => bif (r v1 0).b then rt [aB false] else bif (x0.g 0).n == 3 then bif ((x0.g 1).n == 0) == true then bif ((x0.g 2).n == 0) == true then bif (x0.g 4).b == true then bif seqB (x0.g 3).s (bs []) == false then bif (!(x0.g 4).b) == true then rt [aB (le (x0.g 3).z 256)] else rt [aB false] else rt [aB true] else bif (!(x0.g 4).b) == true then rt [aB (le (x0.g 3).z 256)] else rt [aB false] else rt [aB false] else rt [aB false] else bif (x0.g 0).n == 2 then bif le (-9007199254740992) (x0.g 1).n == true then bif le (x0.g 1).n (x0.g 2).n == true then bif le (x0.g 2).n 9007199254740992 == true then bif seqB (x0.g 3).s (bs []) == true then rt [aB (!(x0.g 4).b)] else rt [aB false] else rt [aB false] else rt [aB false] else rt [aB false] else bif (x0.g 0).n == 1 then bif le 0 (x0.g 1).n == true then bif le (x0.g 1).n (x0.g 2).n == true then bif le (x0.g 2).n 1 == true then bif seqB (x0.g 3).s (bs []) == true then rt [aB (!(x0.g 4).b)] else rt [aB false] else rt [aB false] else rt [aB false] else rt [aB false] else rt [aB false] else bif (x0.g 0).n == 3 then bif ((x0.g 1).n == 0) == true then bif ((x0.g 2).n == 0) == true then bif (x0.g 4).b == true then bif seqB (x0.g 3).s (bs []) == false then bif (!(x0.g 4).b) == true then rt [aB (le (x0.g 3).z 256)] else rt [aB false] else rt [aB true] else bif (!(x0.g 4).b) == true then rt [aB (le (x0.g 3).z 256)] else rt [aB false] else rt [aB false] else rt [aB false] else bif (x0.g 0).n == 2 then bif le (-9007199254740992) (x0.g 1).n == true then bif le (x0.g 1).n (x0.g 2).n == true then bif le (x0.g 2).n 9007199254740992 == true then bif seqB (x0.g 3).s (bs []) == true then rt [aB (!(x0.g 4).b)] else rt [aB false] else rt [aB false] else rt [aB false] else rt [aB false] else bif (x0.g 0).n == 1 then bif le 0 (x0.g 1).n == true then bif le (x0.g 1).n (x0.g 2).n == true then bif le (x0.g 2).n 1 == true then bif seqB (x0.g 3).s (bs []) == true then rt [aB (!(x0.g 4).b)] else rt [aB false] else rt [aB false] else rt [aB false] else rt [aB false] else rt [aB false] else rt [aB false] := by kernel_rfl
theorem q_scalar_bare (n : Nat) (x0 : T) : den Tryz.prog G0 ents (Nat.succ n) i_scalar_bare none [A.t x0] =
  bif (!(x0.g 6).b) == true then rt [aB ((x0.g 7).l == 0)] else rt [aB false] := by kernel_rfl
theorem q_scalar_one (n : Nat) (x0 : T) : den Tryz.prog G0 ents (Nat.succ n) i_scalar_one none [A.t x0] =
  bif (x0.g 0).n == 3 then rt [aB (!(x0.g 4).b)] else rt [aB ((x0.g 1).n == (x0.g 2).n)] := by kernel_rfl
theorem q_lat_below (n : Nat) (x0 x1 : T) : den Tryz.prog G0 ents (Nat.succ n) i_lat_below none [A.t x0, A.t x1] =
  bif (x1.g 0).n == 5 then rt [aB true] else bif ((x0.g 0).n != (x1.g 0).n) == false then bif (x0.g 0).n != 4 then cl n i_scalar_Below [A.t x0,A.t x1] fun v0 => rt [aB (r v0 0).b] else bif (x0.g 6).b == true then bif (!(x1.g 6).b) == false then cl n i_lat_lacks [A.t x1,A.t x0] fun v0 => bif (r v0 0).b then rt [aB false] else lp n i_lat_below p_lat_below_c1 [aL (x1.g 7).k,aI (x1.g 7).l,aI 0,A.t x0] fun v1 => bif Nat.beq v1.1 3 then rt [aB true] else bif Nat.beq v1.1 1 then rt [aB (r v1.2 0).b] else none else rt [aB false] else cl n i_lat_lacks [A.t x1,A.t x0] fun v0 => bif (r v0 0).b then rt [aB false] else lp n i_lat_below p_lat_below_c1 [aL (x1.g 7).k,aI (x1.g 7).l,aI 0,A.t x0] fun v1 => bif Nat.beq v1.1 3 then rt [aB true] else bif Nat.beq v1.1 1 then rt [aB (r v1.2 0).b] else none else cl n i_scalar_Below [A.t x0,A.t x1] fun v0 => rt [aB (r v0 0).b] := by kernel_rfl
theorem q_lat_below_c1 (n : Nat) (x0 x1 x2 x3 : T) : den Tryz.prog G0 ents (Nat.succ n) i_lat_below (some p_lat_below_c1) [A.t x0, A.t x1, A.t x2, A.t x3] =
  bif lt x2.n x1.n then bif ib x2.n x0.l then cl n i_lat_find [aL (x3.g 7).k,aS ((x0.a x2.n).g 0).s] fun v0 => bif lt (r v0 0).n 0 == false then bif ib (r v0 0).n (x3.g 7).l then cl n i_lat_under [A.t (((x3.g 7).a (r v0 0).n).g 1),A.t ((x0.a x2.n).g 1)] fun v1 => bif !(r v1 0).b then rt [aB false] else D n i_lat_below (some p_lat_below_c1) [aL x0.k,aI x1.n,aI (w6 (x2.n + 1)),A.t x3] else none else rt [aB false] else none else some (3,[]) := by kernel_rfl
theorem q_scalar_Below (n : Nat) (x0 x1 : T) : den Tryz.prog G0 ents (Nat.succ n) i_scalar_Below none [A.t x0, A.t x1] =
  cl n i_scalar_Meet [A.t x0,A.t x1] fun v0 => bif (r v0 1).b == true then cl n i_scalar_Same [A.t (r v0 0),A.t x0] fun v1 => rt [aB (r v1 0).b] else rt [aB false] := by kernel_rfl
theorem q_scalar_Meet (n : Nat) (x0 x1 : T) : den Tryz.prog G0 ents (Nat.succ n) i_scalar_Meet none [A.t x0, A.t x1] =
  cl n i_scalar_Right [A.t x0] fun v0 => bif (!(r v0 0).b) == false then cl n i_scalar_Right [A.t x1] fun v1 => bif (!(r v1 0).b) == false then bif (x0.g 0).n != (x1.g 0).n then rt [aL [T.int 0,T.int 0,T.int 0,T.str ByteArray.empty,T.bool false,T.bool false,T.bool false,T.node []],aB false] else bif (x0.g 4).b == true then bif gt (maxI (x0.g 1).n (x1.g 1).n) (minI (x0.g 2).n (x1.g 2).n) then rt [aL [T.int 0,T.int 0,T.int 0,T.str ByteArray.empty,T.bool false,T.bool false,T.bool false,T.node []],aB false] else bif (x0.g 4).b then bif (x0.g 5).b == false then bif (x1.g 5).b == true then cl n i_scalar_one [aL [T.int (x0.g 0).n,T.int (maxI (x0.g 1).n (x1.g 1).n),T.int (minI (x0.g 2).n (x1.g 2).n),T.str (x1.g 3).s,T.bool (x1.g 4).b,T.bool false,T.bool false,T.node []]] fun v2 => rt [aL [T.int (x0.g 0).n,T.int (maxI (x0.g 1).n (x1.g 1).n),T.int (minI (x0.g 2).n (x1.g 2).n),T.str (x1.g 3).s,T.bool (x1.g 4).b,T.bool (!(r v2 0).b),T.bool false,T.node []],aB true] else rt [aL [T.int (x0.g 0).n,T.int (maxI (x0.g 1).n (x1.g 1).n),T.int (minI (x0.g 2).n (x1.g 2).n),T.str (x1.g 3).s,T.bool (x1.g 4).b,T.bool false,T.bool false,T.node []],aB true] else cl n i_scalar_one [aL [T.int (x0.g 0).n,T.int (maxI (x0.g 1).n (x1.g 1).n),T.int (minI (x0.g 2).n (x1.g 2).n),T.str (x1.g 3).s,T.bool (x1.g 4).b,T.bool false,T.bool false,T.node []]] fun v2 => rt [aL [T.int (x0.g 0).n,T.int (maxI (x0.g 1).n (x1.g 1).n),T.int (minI (x0.g 2).n (x1.g 2).n),T.str (x1.g 3).s,T.bool (x1.g 4).b,T.bool (!(r v2 0).b),T.bool false,T.node []],aB true] else bif (x1.g 4).b == false then bif seqB (x0.g 3).s (x1.g 3).s then bif (x0.g 5).b == false then bif (x1.g 5).b == true then cl n i_scalar_one [aL [T.int (x0.g 0).n,T.int (maxI (x0.g 1).n (x1.g 1).n),T.int (minI (x0.g 2).n (x1.g 2).n),T.str (x0.g 3).s,T.bool (x1.g 4).b,T.bool false,T.bool false,T.node []]] fun v2 => rt [aL [T.int (x0.g 0).n,T.int (maxI (x0.g 1).n (x1.g 1).n),T.int (minI (x0.g 2).n (x1.g 2).n),T.str (x0.g 3).s,T.bool (x1.g 4).b,T.bool (!(r v2 0).b),T.bool false,T.node []],aB true] else rt [aL [T.int (x0.g 0).n,T.int (maxI (x0.g 1).n (x1.g 1).n),T.int (minI (x0.g 2).n (x1.g 2).n),T.str (x0.g 3).s,T.bool (x1.g 4).b,T.bool false,T.bool false,T.node []],aB true] else cl n i_scalar_one [aL [T.int (x0.g 0).n,T.int (maxI (x0.g 1).n (x1.g 1).n),T.int (minI (x0.g 2).n (x1.g 2).n),T.str (x0.g 3).s,T.bool (x1.g 4).b,T.bool false,T.bool false,T.node []]] fun v2 => rt [aL [T.int (x0.g 0).n,T.int (maxI (x0.g 1).n (x1.g 1).n),T.int (minI (x0.g 2).n (x1.g 2).n),T.str (x0.g 3).s,T.bool (x1.g 4).b,T.bool (!(r v2 0).b),T.bool false,T.node []],aB true] else rt [aL [T.int 0,T.int 0,T.int 0,T.str ByteArray.empty,T.bool false,T.bool false,T.bool false,T.node []],aB false] else bif (x0.g 5).b == false then bif (x1.g 5).b == true then cl n i_scalar_one [aL [T.int (x0.g 0).n,T.int (maxI (x0.g 1).n (x1.g 1).n),T.int (minI (x0.g 2).n (x1.g 2).n),T.str (x0.g 3).s,T.bool (x1.g 4).b,T.bool false,T.bool false,T.node []]] fun v2 => rt [aL [T.int (x0.g 0).n,T.int (maxI (x0.g 1).n (x1.g 1).n),T.int (minI (x0.g 2).n (x1.g 2).n),T.str (x0.g 3).s,T.bool (x1.g 4).b,T.bool (!(r v2 0).b),T.bool false,T.node []],aB true] else rt [aL [T.int (x0.g 0).n,T.int (maxI (x0.g 1).n (x1.g 1).n),T.int (minI (x0.g 2).n (x1.g 2).n),T.str (x0.g 3).s,T.bool (x1.g 4).b,T.bool false,T.bool false,T.node []],aB true] else cl n i_scalar_one [aL [T.int (x0.g 0).n,T.int (maxI (x0.g 1).n (x1.g 1).n),T.int (minI (x0.g 2).n (x1.g 2).n),T.str (x0.g 3).s,T.bool (x1.g 4).b,T.bool false,T.bool false,T.node []]] fun v2 => rt [aL [T.int (x0.g 0).n,T.int (maxI (x0.g 1).n (x1.g 1).n),T.int (minI (x0.g 2).n (x1.g 2).n),T.str (x0.g 3).s,T.bool (x1.g 4).b,T.bool (!(r v2 0).b),T.bool false,T.node []],aB true] else bif gt (maxI (x0.g 1).n (x1.g 1).n) (minI (x0.g 2).n (x1.g 2).n) then rt [aL [T.int 0,T.int 0,T.int 0,T.str ByteArray.empty,T.bool false,T.bool false,T.bool false,T.node []],aB false] else bif (x0.g 4).b then bif (x0.g 5).b == false then bif (x1.g 5).b == true then cl n i_scalar_one [aL [T.int (x0.g 0).n,T.int (maxI (x0.g 1).n (x1.g 1).n),T.int (minI (x0.g 2).n (x1.g 2).n),T.str (x1.g 3).s,T.bool false,T.bool false,T.bool false,T.node []]] fun v2 => rt [aL [T.int (x0.g 0).n,T.int (maxI (x0.g 1).n (x1.g 1).n),T.int (minI (x0.g 2).n (x1.g 2).n),T.str (x1.g 3).s,T.bool false,T.bool (!(r v2 0).b),T.bool false,T.node []],aB true] else rt [aL [T.int (x0.g 0).n,T.int (maxI (x0.g 1).n (x1.g 1).n),T.int (minI (x0.g 2).n (x1.g 2).n),T.str (x1.g 3).s,T.bool false,T.bool false,T.bool false,T.node []],aB true] else cl n i_scalar_one [aL [T.int (x0.g 0).n,T.int (maxI (x0.g 1).n (x1.g 1).n),T.int (minI (x0.g 2).n (x1.g 2).n),T.str (x1.g 3).s,T.bool false,T.bool false,T.bool false,T.node []]] fun v2 => rt [aL [T.int (x0.g 0).n,T.int (maxI (x0.g 1).n (x1.g 1).n),T.int (minI (x0.g 2).n (x1.g 2).n),T.str (x1.g 3).s,T.bool false,T.bool (!(r v2 0).b),T.bool false,T.node []],aB true] else bif (x1.g 4).b == false then bif seqB (x0.g 3).s (x1.g 3).s then bif (x0.g 5).b == false then bif (x1.g 5).b == true then cl n i_scalar_one [aL [T.int (x0.g 0).n,T.int (maxI (x0.g 1).n (x1.g 1).n),T.int (minI (x0.g 2).n (x1.g 2).n),T.str (x0.g 3).s,T.bool false,T.bool false,T.bool false,T.node []]] fun v2 => rt [aL [T.int (x0.g 0).n,T.int (maxI (x0.g 1).n (x1.g 1).n),T.int (minI (x0.g 2).n (x1.g 2).n),T.str (x0.g 3).s,T.bool false,T.bool (!(r v2 0).b),T.bool false,T.node []],aB true] else rt [aL [T.int (x0.g 0).n,T.int (maxI (x0.g 1).n (x1.g 1).n),T.int (minI (x0.g 2).n (x1.g 2).n),T.str (x0.g 3).s,T.bool false,T.bool false,T.bool false,T.node []],aB true] else cl n i_scalar_one [aL [T.int (x0.g 0).n,T.int (maxI (x0.g 1).n (x1.g 1).n),T.int (minI (x0.g 2).n (x1.g 2).n),T.str (x0.g 3).s,T.bool false,T.bool false,T.bool false,T.node []]] fun v2 => rt [aL [T.int (x0.g 0).n,T.int (maxI (x0.g 1).n (x1.g 1).n),T.int (minI (x0.g 2).n (x1.g 2).n),T.str (x0.g 3).s,T.bool false,T.bool (!(r v2 0).b),T.bool false,T.node []],aB true] else rt [aL [T.int 0,T.int 0,T.int 0,T.str ByteArray.empty,T.bool false,T.bool false,T.bool false,T.node []],aB false] else bif (x0.g 5).b == false then bif (x1.g 5).b == true then cl n i_scalar_one [aL [T.int (x0.g 0).n,T.int (maxI (x0.g 1).n (x1.g 1).n),T.int (minI (x0.g 2).n (x1.g 2).n),T.str (x0.g 3).s,T.bool false,T.bool false,T.bool false,T.node []]] fun v2 => rt [aL [T.int (x0.g 0).n,T.int (maxI (x0.g 1).n (x1.g 1).n),T.int (minI (x0.g 2).n (x1.g 2).n),T.str (x0.g 3).s,T.bool false,T.bool (!(r v2 0).b),T.bool false,T.node []],aB true] else rt [aL [T.int (x0.g 0).n,T.int (maxI (x0.g 1).n (x1.g 1).n),T.int (minI (x0.g 2).n (x1.g 2).n),T.str (x0.g 3).s,T.bool false,T.bool false,T.bool false,T.node []],aB true] else cl n i_scalar_one [aL [T.int (x0.g 0).n,T.int (maxI (x0.g 1).n (x1.g 1).n),T.int (minI (x0.g 2).n (x1.g 2).n),T.str (x0.g 3).s,T.bool false,T.bool false,T.bool false,T.node []]] fun v2 => rt [aL [T.int (x0.g 0).n,T.int (maxI (x0.g 1).n (x1.g 1).n),T.int (minI (x0.g 2).n (x1.g 2).n),T.str (x0.g 3).s,T.bool false,T.bool (!(r v2 0).b),T.bool false,T.node []],aB true] else rt [aL [T.int 0,T.int 0,T.int 0,T.str ByteArray.empty,T.bool false,T.bool false,T.bool false,T.node []],aB false] else rt [aL [T.int 0,T.int 0,T.int 0,T.str ByteArray.empty,T.bool false,T.bool false,T.bool false,T.node []],aB false] := by kernel_rfl
theorem q_scalar_Same (n : Nat) (x0 x1 : T) : den Tryz.prog G0 ents (Nat.succ n) i_scalar_Same none [A.t x0, A.t x1] =
  cl n i_scalar_Right [A.t x0] fun v0 => bif (r v0 0).b == true then cl n i_scalar_Right [A.t x1] fun v1 => bif (r v1 0).b == true then bif ((x0.g 0).n == (x1.g 0).n) == true then bif ((x0.g 1).n == (x1.g 1).n) == true then bif ((x0.g 2).n == (x1.g 2).n) == true then bif seqB (x0.g 3).s (x1.g 3).s == true then bif ((x0.g 4).b == (x1.g 4).b) == true then rt [aB ((x0.g 5).b == (x1.g 5).b)] else rt [aB false] else rt [aB false] else rt [aB false] else rt [aB false] else rt [aB false] else rt [aB false] else rt [aB false] := by kernel_rfl
theorem q_lat_lacks (n : Nat) (x0 x1 : T) : den Tryz.prog G0 ents (Nat.succ n) i_lat_lacks none [A.t x0, A.t x1] =
  bif (!(x0.g 6).b) == true then cl n i_slices_ContainsFunc_Field_lacks1 [aL (x1.g 7).k,A.t x0] fun v0 => rt [aB (r v0 0).b] else rt [aB false] := by kernel_rfl
theorem q_slices_ContainsFunc_Field_lacks1 (n : Nat) (x0 x1 : T) : den Tryz.prog G0 ents (Nat.succ n) i_slices_ContainsFunc_Field_lacks1 none [A.t x0, A.t x1] =
  cl n i_slices_IndexFunc_Field_lacks1 [aL x0.k,A.t x1] fun v0 => rt [aB (ge (r v0 0).n 0),A.t (r v0 1)] := by kernel_rfl
theorem q_slices_IndexFunc_Field_lacks1 (n : Nat) (x0 x1 : T) : den Tryz.prog G0 ents (Nat.succ n) i_slices_IndexFunc_Field_lacks1 none [A.t x0, A.t x1] =
  lp n i_slices_IndexFunc_Field_lacks1 p_slices_IndexFunc_Field_lacks1_c1 [aL x0.k,aI x0.l,aI 0,A.t x1] fun v0 => bif Nat.beq v0.1 2 then rt [aI (-1),A.t (r v0.2 0)] else bif Nat.beq v0.1 1 then rt [aI (r v0.2 0).n,A.t (r v0.2 1)] else none := by kernel_rfl
theorem q_slices_IndexFunc_Field_lacks1_c1 (n : Nat) (x0 x1 x2 x3 : T) : den Tryz.prog G0 ents (Nat.succ n) i_slices_IndexFunc_Field_lacks1 (some p_slices_IndexFunc_Field_lacks1_c1) [A.t x0, A.t x1, A.t x2, A.t x3] =
  bif lt x2.n x1.n then bif ib x2.n x0.l then cl n i_lat_lacks_1 [A.t (x0.a x2.n),A.t x3] fun v0 => bif (r v0 0).b then rt [aI x2.n,A.t (r v0 1)] else D n i_slices_IndexFunc_Field_lacks1 (some p_slices_IndexFunc_Field_lacks1_c1) [aL x0.k,aI x1.n,aI (w6 (x2.n + 1)),A.t (r v0 1)] else none else some (2,[A.t x3]) := by kernel_rfl
theorem q_lat_lacks_1 (n : Nat) (x0 x1 : T) : den Tryz.prog G0 ents (Nat.succ n) i_lat_lacks_1 none [A.t x0, A.t x1] =
  cl n i_lat_find [aL (x1.g 7).k,aS (x0.g 0).s] fun v0 => rt [aB (lt (r v0 0).n 0),A.t x1] := by kernel_rfl
theorem q_lat_find (n : Nat) (x0 x1 : T) : den Tryz.prog G0 ents (Nat.succ n) i_lat_find none [A.t x0, A.t x1] =
  cl n i_slices_BinarySearchFunc_Field_find1 [aL x0.k,aS x1.s] fun v0 => bif !(r v0 1).b then rt [aI (-1)] else rt [aI (r v0 0).n] := by kernel_rfl
theorem q_slices_BinarySearchFunc_Field_find1 (n : Nat) (x0 x1 : T) : den Tryz.prog G0 ents (Nat.succ n) i_slices_BinarySearchFunc_Field_find1 none [A.t x0, A.t x1] =
  lp n i_slices_BinarySearchFunc_Field_find1 p_slices_BinarySearchFunc_Field_find1_c1 [aL x0.k,aS x1.s,aI x0.l,aI 0,aI x0.l] fun v0 => bif Nat.beq v0.1 2 then bif lt (r v0.2 3).n (r v0.2 2).n == true then bif ib (r v0.2 3).n (r v0.2 0).l then cl n i_lat_find_1 [A.t ((r v0.2 0).a (r v0.2 3).n),aS (r v0.2 1).s] fun v1 => rt [aI (r v0.2 3).n,aB ((r v1 0).n == 0)] else none else rt [aI (r v0.2 3).n,aB false] else none := by kernel_rfl
theorem q_slices_BinarySearchFunc_Field_find1_c1 (n : Nat) (x0 x1 x2 x3 x4 : T) : den Tryz.prog G0 ents (Nat.succ n) i_slices_BinarySearchFunc_Field_find1 (some p_slices_BinarySearchFunc_Field_find1_c1) [A.t x0, A.t x1, A.t x2, A.t x3, A.t x4] =
  bif lt x3.n x4.n then bif ib (w6 (Int.fdiv (wu (w6 (x3.n + x4.n))) 2)) x0.l then cl n i_lat_find_1 [A.t (x0.a (w6 (Int.fdiv (wu (w6 (x3.n + x4.n))) 2))),aS x1.s] fun v0 => bif lt (r v0 0).n 0 then D n i_slices_BinarySearchFunc_Field_find1 (some p_slices_BinarySearchFunc_Field_find1_c1) [aL x0.k,aS x1.s,aI x2.n,aI (w6 (w6 (Int.fdiv (wu (w6 (x3.n + x4.n))) 2) + 1)),aI x4.n] else D n i_slices_BinarySearchFunc_Field_find1 (some p_slices_BinarySearchFunc_Field_find1_c1) [aL x0.k,aS x1.s,aI x2.n,aI x3.n,aI (w6 (Int.fdiv (wu (w6 (x3.n + x4.n))) 2))] else none else some (2,[aL x0.k,aS x1.s,aI x2.n,aI x3.n]) := by kernel_rfl
theorem q_lat_find_1 (n : Nat) (x0 x1 : T) : den Tryz.prog G0 ents (Nat.succ n) i_lat_find_1 none [A.t x0, A.t x1] =
  bif sltB (x0.g 0).s x1.s then rt [aI (-1)] else bif !(Bool.or (sltB (x0.g 0).s x1.s) (seqB (x0.g 0).s x1.s)) then rt [aI 1] else rt [aI 0] := by kernel_rfl
theorem q_lat_under (n : Nat) (x0 x1 : T) : den Tryz.prog G0 ents (Nat.succ n) i_lat_under none [A.t x0, A.t x1] =
  lp n i_lat_under p_lat_under_c1 [aL (x0.g 0).k,aI (x0.g 0).l,aI 0,A.t x1] fun v0 => bif Nat.beq v0.1 2 then rt [aB true] else bif Nat.beq v0.1 1 then rt [aB (r v0.2 0).b] else none := by kernel_rfl
theorem q_lat_under_c1 (n : Nat) (x0 x1 x2 x3 : T) : den Tryz.prog G0 ents (Nat.succ n) i_lat_under (some p_lat_under_c1) [A.t x0, A.t x1, A.t x2, A.t x3] =
  bif lt x2.n x1.n then bif ib x2.n x0.l then cl n i_slices_ContainsFunc_Term_under1 [aL (x3.g 0).k,A.t (x0.a x2.n)] fun v0 => bif !(r v0 0).b then rt [aB false] else D n i_lat_under (some p_lat_under_c1) [aL x0.k,aI x1.n,aI (w6 (x2.n + 1)),A.t x3] else none else some (2,[]) := by kernel_rfl
theorem q_slices_ContainsFunc_Term_under1 (n : Nat) (x0 x1 : T) : den Tryz.prog G0 ents (Nat.succ n) i_slices_ContainsFunc_Term_under1 none [A.t x0, A.t x1] =
  cl n i_slices_IndexFunc_Term_under1 [aL x0.k,A.t x1] fun v0 => rt [aB (ge (r v0 0).n 0),A.t (r v0 1)] := by kernel_rfl
theorem q_slices_IndexFunc_Term_under1 (n : Nat) (x0 x1 : T) : den Tryz.prog G0 ents (Nat.succ n) i_slices_IndexFunc_Term_under1 none [A.t x0, A.t x1] =
  lp n i_slices_IndexFunc_Term_under1 p_slices_IndexFunc_Term_under1_c1 [aL x0.k,aI x0.l,aI 0,A.t x1] fun v0 => bif Nat.beq v0.1 2 then rt [aI (-1),A.t (r v0.2 0)] else bif Nat.beq v0.1 1 then rt [aI (r v0.2 0).n,A.t (r v0.2 1)] else none := by kernel_rfl
theorem q_slices_IndexFunc_Term_under1_c1 (n : Nat) (x0 x1 x2 x3 : T) : den Tryz.prog G0 ents (Nat.succ n) i_slices_IndexFunc_Term_under1 (some p_slices_IndexFunc_Term_under1_c1) [A.t x0, A.t x1, A.t x2, A.t x3] =
  bif lt x2.n x1.n then bif ib x2.n x0.l then cl n i_lat_under_1 [A.t (x0.a x2.n),A.t x3] fun v0 => bif (r v0 0).b then rt [aI x2.n,A.t (r v0 1)] else D n i_slices_IndexFunc_Term_under1 (some p_slices_IndexFunc_Term_under1_c1) [aL x0.k,aI x1.n,aI (w6 (x2.n + 1)),A.t (r v0 1)] else none else some (2,[A.t x3]) := by kernel_rfl
theorem q_lat_under_1 (n : Nat) (x0 x1 : T) : den Tryz.prog G0 ents (Nat.succ n) i_lat_under_1 none [A.t x0, A.t x1] =
  cl n i_lat_below [A.t x1,A.t x0] fun v0 => rt [aB (r v0 0).b,A.t x1] := by kernel_rfl
theorem q_rank_Weight (n : Nat) (x0 : T) : den Tryz.prog G0 ents (Nat.succ n) i_rank_Weight none [A.t x0] =
  lp n i_rank_Weight p_rank_Weight_c1 [aI (x0.g 0).l,aL (x0.g 0).k,aI (x0.g 0).l,aI 0] fun v0 => bif Nat.beq v0.1 2 then rt [aI (r v0.2 0).n] else none := by kernel_rfl
theorem q_rank_Weight_c1 (n : Nat) (x0 x1 x2 x3 : T) : den Tryz.prog G0 ents (Nat.succ n) i_rank_Weight (some p_rank_Weight_c1) [A.t x0, A.t x1, A.t x2, A.t x3] =
  bif lt x3.n x2.n then bif ib x3.n x1.l then lp n i_rank_Weight p_rank_Weight_c2 [aI x0.n,aL x1.k,aI x2.n,aI x3.n,aL ((x1.a x3.n).g 7).k,aI ((x1.a x3.n).g 7).l,aI 0] fun v0 => bif Nat.beq v0.1 4 then D n i_rank_Weight (some p_rank_Weight_c1) [aI (r v0.2 0).n,aL (r v0.2 1).k,aI (r v0.2 2).n,aI (w6 ((r v0.2 3).n + 1))] else none else none else some (2,[aI x0.n]) := by kernel_rfl
theorem q_rank_Weight_c2 (n : Nat) (x0 x1 x2 x3 x4 x5 x6 : T) : den Tryz.prog G0 ents (Nat.succ n) i_rank_Weight (some p_rank_Weight_c2) [A.t x0, A.t x1, A.t x2, A.t x3, A.t x4, A.t x5, A.t x6] =
  bif lt x6.n x5.n then bif ib x6.n x4.l then cl n i_rank_Weight [A.t ((x4.a x6.n).g 1)] fun v0 => D n i_rank_Weight (some p_rank_Weight_c2) [aI (w6 (x0.n + (r v0 0).n)),aL x1.k,aI x2.n,aI x3.n,aL x4.k,aI x5.n,aI (w6 (x6.n + 1))] else none else some (4,[aI x0.n,aL x1.k,aI x2.n,aI x3.n]) := by kernel_rfl
theorem q_fact_One (n : Nat) (x0 : T) : den Tryz.prog G0 ents (Nat.succ n) i_fact_One none [A.t x0] =
  cl n i_lat_Right [A.t x0] fun v0 => bif !(r v0 0).b then rt [aL [T.int 0,T.int 0,T.int 0,T.str ByteArray.empty,T.bool false,T.bool false,T.bool false,T.node []],aI 1] else cl n i_fact_one [A.t x0] fun v1 => bif ((r v1 1).n == 0) == true then bif ((r v1 0).g 0).n == 4 then cl n i_lat_Of_o [aL [r v1 0]] fun v2 => bif lt 0 ((r v2 0).g 0).l then rt [A.t (tAtD ((r v2 0).g 0).k 0),aI (r v1 1).n] else none else rt [A.t (r v1 0),aI (r v1 1).n] else rt [A.t (r v1 0),aI (r v1 1).n] := by kernel_rfl
theorem q_fact_one (n : Nat) (x0 : T) : den Tryz.prog G0 ents (Nat.succ n) i_fact_one none [A.t x0] =
  bif (x0.g 0).l == 0 then rt [aL [T.int 0,T.int 0,T.int 0,T.str ByteArray.empty,T.bool false,T.bool false,T.bool false,T.node []],aI 31] else bif gt (x0.g 0).l 1 == false then bif lt 0 (x0.g 0).l then bif ((tAtD (x0.g 0).k 0).g 0).n == 5 then rt [aL [T.int 0,T.int 0,T.int 0,T.str ByteArray.empty,T.bool false,T.bool false,T.bool false,T.node []],aI 28] else bif lt 0 (x0.g 0).l then rt [A.t (tAtD (x0.g 0).k 0),aI 0] else none else none else rt [aL [T.int 0,T.int 0,T.int 0,T.str ByteArray.empty,T.bool false,T.bool false,T.bool false,T.node []],aI 28] := by kernel_rfl
theorem q_rank_Depth (n : Nat) (x0 : T) : den Tryz.prog G0 ents (Nat.succ n) i_rank_Depth none [A.t x0] =
  lp n i_rank_Depth p_rank_Depth_c1 [aI 0,aL (x0.g 0).k,aI (x0.g 0).l,aI 0] fun v0 => bif Nat.beq v0.1 2 then rt [aI (w6 ((r v0.2 0).n + 1))] else none := by kernel_rfl
theorem q_rank_Depth_c1 (n : Nat) (x0 x1 x2 x3 : T) : den Tryz.prog G0 ents (Nat.succ n) i_rank_Depth (some p_rank_Depth_c1) [A.t x0, A.t x1, A.t x2, A.t x3] =
  bif lt x3.n x2.n then bif ib x3.n x1.l then lp n i_rank_Depth p_rank_Depth_c2 [aI x0.n,aL x1.k,aI x2.n,aI x3.n,aL ((x1.a x3.n).g 7).k,aI ((x1.a x3.n).g 7).l,aI 0] fun v0 => bif Nat.beq v0.1 4 then D n i_rank_Depth (some p_rank_Depth_c1) [aI (r v0.2 0).n,aL (r v0.2 1).k,aI (r v0.2 2).n,aI (w6 ((r v0.2 3).n + 1))] else none else none else some (2,[aI x0.n]) := by kernel_rfl
theorem q_rank_Depth_c2 (n : Nat) (x0 x1 x2 x3 x4 x5 x6 : T) : den Tryz.prog G0 ents (Nat.succ n) i_rank_Depth (some p_rank_Depth_c2) [A.t x0, A.t x1, A.t x2, A.t x3, A.t x4, A.t x5, A.t x6] =
  bif lt x6.n x5.n then bif ib x6.n x4.l then cl n i_rank_Depth [A.t ((x4.a x6.n).g 1)] fun v0 => D n i_rank_Depth (some p_rank_Depth_c2) [aI (maxI x0.n (r v0 0).n),aL x1.k,aI x2.n,aI x3.n,aL x4.k,aI x5.n,aI (w6 (x6.n + 1))] else none else some (4,[aI x0.n,aL x1.k,aI x2.n,aI x3.n]) := by kernel_rfl
theorem q_math_bits_Len (n : Nat) (x0 : T) : den Tryz.prog G0 ents (Nat.succ n) i_math_bits_Len none [A.t x0] =
  cl n i_math_bits_Len64 [aI x0.n] fun v0 => rt [aI (r v0 0).n] := by kernel_rfl
theorem q_math_bits_Len64 (n : Nat) (x0 : T) : den Tryz.prog G0 ents (Nat.succ n) i_math_bits_Len64 none [A.t x0] =
  bif ge x0.n 4294967296 then bif ge (Int.fdiv x0.n 4294967296) 65536 then bif ge (Int.fdiv (Int.fdiv x0.n 4294967296) 65536) 256 then bif ib (wb (Int.fdiv (Int.fdiv (Int.fdiv x0.n 4294967296) 65536) 256)) 256 then rt [aI (w6 (56 + w6 ((UInt8.toNat (Array.getD (ByteArray.data (bs (List.append (List.append [0,1,2,2,3,3,3,3,4,4,4,4,4,4,4,4,5,5,5,5,5,5,5,5,5,5,5,5,5,5,5,5,6,6,6,6,6,6,6,6,6,6,6,6,6,6,6,6,6,6,6,6,6,6,6,6,6,6,6,6,6,6,6,6] [7,7,7,7,7,7,7,7,7,7,7,7,7,7,7,7,7,7,7,7,7,7,7,7,7,7,7,7,7,7,7,7,7,7,7,7,7,7,7,7,7,7,7,7,7,7,7,7,7,7,7,7,7,7,7,7,7,7,7,7,7,7,7,7]) (List.append [8,8,8,8,8,8,8,8,8,8,8,8,8,8,8,8,8,8,8,8,8,8,8,8,8,8,8,8,8,8,8,8,8,8,8,8,8,8,8,8,8,8,8,8,8,8,8,8,8,8,8,8,8,8,8,8,8,8,8,8,8,8,8,8] [8,8,8,8,8,8,8,8,8,8,8,8,8,8,8,8,8,8,8,8,8,8,8,8,8,8,8,8,8,8,8,8,8,8,8,8,8,8,8,8,8,8,8,8,8,8,8,8,8,8,8,8,8,8,8,8,8,8,8,8,8,8,8,8])))) (Int.toNat (wb (Int.fdiv (Int.fdiv (Int.fdiv x0.n 4294967296) 65536) 256))) 0) : Nat) : Int)))] else none else bif ib (wb (Int.fdiv (Int.fdiv x0.n 4294967296) 65536)) 256 then rt [aI (w6 (48 + w6 ((UInt8.toNat (Array.getD (ByteArray.data (bs (List.append (List.append [0,1,2,2,3,3,3,3,4,4,4,4,4,4,4,4,5,5,5,5,5,5,5,5,5,5,5,5,5,5,5,5,6,6,6,6,6,6,6,6,6,6,6,6,6,6,6,6,6,6,6,6,6,6,6,6,6,6,6,6,6,6,6,6] [7,7,7,7,7,7,7,7,7,7,7,7,7,7,7,7,7,7,7,7,7,7,7,7,7,7,7,7,7,7,7,7,7,7,7,7,7,7,7,7,7,7,7,7,7,7,7,7,7,7,7,7,7,7,7,7,7,7,7,7,7,7,7,7]) (List.append [8,8,8,8,8,8,8,8,8,8,8,8,8,8,8,8,8,8,8,8,8,8,8,8,8,8,8,8,8,8,8,8,8,8,8,8,8,8,8,8,8,8,8,8,8,8,8,8,8,8,8,8,8,8,8,8,8,8,8,8,8,8,8,8] [8,8,8,8,8,8,8,8,8,8,8,8,8,8,8,8,8,8,8,8,8,8,8,8,8,8,8,8,8,8,8,8,8,8,8,8,8,8,8,8,8,8,8,8,8,8,8,8,8,8,8,8,8,8,8,8,8,8,8,8,8,8,8,8])))) (Int.toNat (wb (Int.fdiv (Int.fdiv x0.n 4294967296) 65536))) 0) : Nat) : Int)))] else none else bif ge (Int.fdiv x0.n 4294967296) 256 then bif ib (wb (Int.fdiv (Int.fdiv x0.n 4294967296) 256)) 256 then rt [aI (w6 (40 + w6 ((UInt8.toNat (Array.getD (ByteArray.data (bs (List.append (List.append [0,1,2,2,3,3,3,3,4,4,4,4,4,4,4,4,5,5,5,5,5,5,5,5,5,5,5,5,5,5,5,5,6,6,6,6,6,6,6,6,6,6,6,6,6,6,6,6,6,6,6,6,6,6,6,6,6,6,6,6,6,6,6,6] [7,7,7,7,7,7,7,7,7,7,7,7,7,7,7,7,7,7,7,7,7,7,7,7,7,7,7,7,7,7,7,7,7,7,7,7,7,7,7,7,7,7,7,7,7,7,7,7,7,7,7,7,7,7,7,7,7,7,7,7,7,7,7,7]) (List.append [8,8,8,8,8,8,8,8,8,8,8,8,8,8,8,8,8,8,8,8,8,8,8,8,8,8,8,8,8,8,8,8,8,8,8,8,8,8,8,8,8,8,8,8,8,8,8,8,8,8,8,8,8,8,8,8,8,8,8,8,8,8,8,8] [8,8,8,8,8,8,8,8,8,8,8,8,8,8,8,8,8,8,8,8,8,8,8,8,8,8,8,8,8,8,8,8,8,8,8,8,8,8,8,8,8,8,8,8,8,8,8,8,8,8,8,8,8,8,8,8,8,8,8,8,8,8,8,8])))) (Int.toNat (wb (Int.fdiv (Int.fdiv x0.n 4294967296) 256))) 0) : Nat) : Int)))] else none else bif ib (wb (Int.fdiv x0.n 4294967296)) 256 then rt [aI (w6 (32 + w6 ((UInt8.toNat (Array.getD (ByteArray.data (bs (List.append (List.append [0,1,2,2,3,3,3,3,4,4,4,4,4,4,4,4,5,5,5,5,5,5,5,5,5,5,5,5,5,5,5,5,6,6,6,6,6,6,6,6,6,6,6,6,6,6,6,6,6,6,6,6,6,6,6,6,6,6,6,6,6,6,6,6] [7,7,7,7,7,7,7,7,7,7,7,7,7,7,7,7,7,7,7,7,7,7,7,7,7,7,7,7,7,7,7,7,7,7,7,7,7,7,7,7,7,7,7,7,7,7,7,7,7,7,7,7,7,7,7,7,7,7,7,7,7,7,7,7]) (List.append [8,8,8,8,8,8,8,8,8,8,8,8,8,8,8,8,8,8,8,8,8,8,8,8,8,8,8,8,8,8,8,8,8,8,8,8,8,8,8,8,8,8,8,8,8,8,8,8,8,8,8,8,8,8,8,8,8,8,8,8,8,8,8,8] [8,8,8,8,8,8,8,8,8,8,8,8,8,8,8,8,8,8,8,8,8,8,8,8,8,8,8,8,8,8,8,8,8,8,8,8,8,8,8,8,8,8,8,8,8,8,8,8,8,8,8,8,8,8,8,8,8,8,8,8,8,8,8,8])))) (Int.toNat (wb (Int.fdiv x0.n 4294967296))) 0) : Nat) : Int)))] else none else bif ge x0.n 65536 then bif ge (Int.fdiv x0.n 65536) 256 then bif ib (wb (Int.fdiv (Int.fdiv x0.n 65536) 256)) 256 then rt [aI (w6 (24 + w6 ((UInt8.toNat (Array.getD (ByteArray.data (bs (List.append (List.append [0,1,2,2,3,3,3,3,4,4,4,4,4,4,4,4,5,5,5,5,5,5,5,5,5,5,5,5,5,5,5,5,6,6,6,6,6,6,6,6,6,6,6,6,6,6,6,6,6,6,6,6,6,6,6,6,6,6,6,6,6,6,6,6] [7,7,7,7,7,7,7,7,7,7,7,7,7,7,7,7,7,7,7,7,7,7,7,7,7,7,7,7,7,7,7,7,7,7,7,7,7,7,7,7,7,7,7,7,7,7,7,7,7,7,7,7,7,7,7,7,7,7,7,7,7,7,7,7]) (List.append [8,8,8,8,8,8,8,8,8,8,8,8,8,8,8,8,8,8,8,8,8,8,8,8,8,8,8,8,8,8,8,8,8,8,8,8,8,8,8,8,8,8,8,8,8,8,8,8,8,8,8,8,8,8,8,8,8,8,8,8,8,8,8,8] [8,8,8,8,8,8,8,8,8,8,8,8,8,8,8,8,8,8,8,8,8,8,8,8,8,8,8,8,8,8,8,8,8,8,8,8,8,8,8,8,8,8,8,8,8,8,8,8,8,8,8,8,8,8,8,8,8,8,8,8,8,8,8,8])))) (Int.toNat (wb (Int.fdiv (Int.fdiv x0.n 65536) 256))) 0) : Nat) : Int)))] else none else bif ib (wb (Int.fdiv x0.n 65536)) 256 then rt [aI (w6 (16 + w6 ((UInt8.toNat (Array.getD (ByteArray.data (bs (List.append (List.append [0,1,2,2,3,3,3,3,4,4,4,4,4,4,4,4,5,5,5,5,5,5,5,5,5,5,5,5,5,5,5,5,6,6,6,6,6,6,6,6,6,6,6,6,6,6,6,6,6,6,6,6,6,6,6,6,6,6,6,6,6,6,6,6] [7,7,7,7,7,7,7,7,7,7,7,7,7,7,7,7,7,7,7,7,7,7,7,7,7,7,7,7,7,7,7,7,7,7,7,7,7,7,7,7,7,7,7,7,7,7,7,7,7,7,7,7,7,7,7,7,7,7,7,7,7,7,7,7]) (List.append [8,8,8,8,8,8,8,8,8,8,8,8,8,8,8,8,8,8,8,8,8,8,8,8,8,8,8,8,8,8,8,8,8,8,8,8,8,8,8,8,8,8,8,8,8,8,8,8,8,8,8,8,8,8,8,8,8,8,8,8,8,8,8,8] [8,8,8,8,8,8,8,8,8,8,8,8,8,8,8,8,8,8,8,8,8,8,8,8,8,8,8,8,8,8,8,8,8,8,8,8,8,8,8,8,8,8,8,8,8,8,8,8,8,8,8,8,8,8,8,8,8,8,8,8,8,8,8,8])))) (Int.toNat (wb (Int.fdiv x0.n 65536))) 0) : Nat) : Int)))] else none else bif ge x0.n 256 then bif ib (wb (Int.fdiv x0.n 256)) 256 then rt [aI (w6 (8 + w6 ((UInt8.toNat (Array.getD (ByteArray.data (bs (List.append (List.append [0,1,2,2,3,3,3,3,4,4,4,4,4,4,4,4,5,5,5,5,5,5,5,5,5,5,5,5,5,5,5,5,6,6,6,6,6,6,6,6,6,6,6,6,6,6,6,6,6,6,6,6,6,6,6,6,6,6,6,6,6,6,6,6] [7,7,7,7,7,7,7,7,7,7,7,7,7,7,7,7,7,7,7,7,7,7,7,7,7,7,7,7,7,7,7,7,7,7,7,7,7,7,7,7,7,7,7,7,7,7,7,7,7,7,7,7,7,7,7,7,7,7,7,7,7,7,7,7]) (List.append [8,8,8,8,8,8,8,8,8,8,8,8,8,8,8,8,8,8,8,8,8,8,8,8,8,8,8,8,8,8,8,8,8,8,8,8,8,8,8,8,8,8,8,8,8,8,8,8,8,8,8,8,8,8,8,8,8,8,8,8,8,8,8,8] [8,8,8,8,8,8,8,8,8,8,8,8,8,8,8,8,8,8,8,8,8,8,8,8,8,8,8,8,8,8,8,8,8,8,8,8,8,8,8,8,8,8,8,8,8,8,8,8,8,8,8,8,8,8,8,8,8,8,8,8,8,8,8,8])))) (Int.toNat (wb (Int.fdiv x0.n 256))) 0) : Nat) : Int)))] else none else bif ib (wb x0.n) 256 then rt [aI (w6 (0 + w6 ((UInt8.toNat (Array.getD (ByteArray.data (bs (List.append (List.append [0,1,2,2,3,3,3,3,4,4,4,4,4,4,4,4,5,5,5,5,5,5,5,5,5,5,5,5,5,5,5,5,6,6,6,6,6,6,6,6,6,6,6,6,6,6,6,6,6,6,6,6,6,6,6,6,6,6,6,6,6,6,6,6] [7,7,7,7,7,7,7,7,7,7,7,7,7,7,7,7,7,7,7,7,7,7,7,7,7,7,7,7,7,7,7,7,7,7,7,7,7,7,7,7,7,7,7,7,7,7,7,7,7,7,7,7,7,7,7,7,7,7,7,7,7,7,7,7]) (List.append [8,8,8,8,8,8,8,8,8,8,8,8,8,8,8,8,8,8,8,8,8,8,8,8,8,8,8,8,8,8,8,8,8,8,8,8,8,8,8,8,8,8,8,8,8,8,8,8,8,8,8,8,8,8,8,8,8,8,8,8,8,8,8,8] [8,8,8,8,8,8,8,8,8,8,8,8,8,8,8,8,8,8,8,8,8,8,8,8,8,8,8,8,8,8,8,8,8,8,8,8,8,8,8,8,8,8,8,8,8,8,8,8,8,8,8,8,8,8,8,8,8,8,8,8,8,8,8,8])))) (Int.toNat (wb x0.n)) 0) : Nat) : Int)))] else none := by kernel_rfl
theorem q_lat_settle_1 (n : Nat) (x0 x1 : T) : den Tryz.prog G0 ents (Nat.succ n) i_lat_settle_1 none [A.t x0, A.t x1] =
  cl n i_rank_Terms [A.t x0,A.t x1] fun v0 => rt [aB ((r v0 0).n == 0)] := by kernel_rfl
theorem q_rank_Copy (n : Nat) (x0 : T) : den Tryz.prog G0 ents (Nat.succ n) i_rank_Copy none [A.t x0] =
  cl n i_slices_Clone_Term [aL (x0.g 0).k] fun v0 => lp n i_rank_Copy p_rank_Copy_c1 [aI (r v0 0).l,aI 0,aL [T.node []],aL (r v0 0).k] fun v1 => bif Nat.beq v1.1 2 then rt [aL [T.node (r v1.2 1).k]] else none := by kernel_rfl
theorem q_rank_Copy_c1 (n : Nat) (x0 x1 x2 x3 : T) : den Tryz.prog G0 ents (Nat.succ n) i_rank_Copy (some p_rank_Copy_c1) [A.t x0, A.t x1, A.t x2, A.t x3] =
  bif lt x1.n x0.n then bif ib x1.n x3.l then bif decide (Int.toNat x1.n < List.length x3.k) then cl n i_slices_Clone_Field [aL ((x3.a x1.n).g 7).k] fun v0 => lp n i_rank_Copy p_rank_Copy_c2 [aI x1.n,aI x0.n,aI x1.n,aI (r v0 0).l,aI 0,A.t x2,aL x3.k,aL (r v0 0).k] fun v1 => bif Nat.beq v1.1 4 then bif ib (r v1.2 0).n (r v1.2 4).l then bif decide (Int.toNat (r v1.2 0).n < List.length (r v1.2 4).k) then D n i_rank_Copy (some p_rank_Copy_c1) [aI (r v1.2 1).n,aI (w6 ((r v1.2 2).n + 1)),A.t (r v1.2 3),aL (List.set (r v1.2 4).k (Int.toNat (r v1.2 0).n) (T.node [((r v1.2 4).a (r v1.2 0).n).g 0,((r v1.2 4).a (r v1.2 0).n).g 1,((r v1.2 4).a (r v1.2 0).n).g 2,((r v1.2 4).a (r v1.2 0).n).g 3,((r v1.2 4).a (r v1.2 0).n).g 4,((r v1.2 4).a (r v1.2 0).n).g 5,((r v1.2 4).a (r v1.2 0).n).g 6,T.node (r v1.2 5).k]))] else none else none else none else none else none else some (2,[A.t x2,aL x3.k]) := by kernel_rfl
theorem q_rank_Copy_c2 (n : Nat) (x0 x1 x2 x3 x4 x5 x6 x7 : T) : den Tryz.prog G0 ents (Nat.succ n) i_rank_Copy (some p_rank_Copy_c2) [A.t x0, A.t x1, A.t x2, A.t x3, A.t x4, A.t x5, A.t x6, A.t x7] =
  bif lt x4.n x3.n then bif ib x4.n x7.l then bif decide (Int.toNat x4.n < List.length x7.k) then cl n i_rank_Copy [A.t ((x7.a x4.n).g 1)] fun v0 => bif ib x4.n x7.l then bif decide (Int.toNat x4.n < List.length x7.k) then D n i_rank_Copy (some p_rank_Copy_c2) [aI x0.n,aI x1.n,aI x2.n,aI x3.n,aI (w6 (x4.n + 1)),A.t x5,aL x6.k,aL (List.set x7.k (Int.toNat x4.n) (T.node [(x7.a x4.n).g 0,r v0 0]))] else none else none else none else none else some (4,[aI x0.n,aI x1.n,aI x2.n,A.t x5,aL x6.k,aL x7.k]) := by kernel_rfl
theorem q_slices_IndexFunc_Field_Pick1 (n : Nat) (x0 x1 : T) : den Tryz.prog G0 ents (Nat.succ n) i_slices_IndexFunc_Field_Pick1 none [A.t x0, A.t x1] =
  lp n i_slices_IndexFunc_Field_Pick1 p_slices_IndexFunc_Field_Pick1_c1 [aL x0.k,aI x0.l,aI 0,aS x1.s] fun v0 => bif Nat.beq v0.1 2 then rt [aI (-1),aS (r v0.2 0).s] else bif Nat.beq v0.1 1 then rt [aI (r v0.2 0).n,aS (r v0.2 1).s] else none := by kernel_rfl
theorem q_slices_IndexFunc_Field_Pick1_c1 (n : Nat) (x0 x1 x2 x3 : T) : den Tryz.prog G0 ents (Nat.succ n) i_slices_IndexFunc_Field_Pick1 (some p_slices_IndexFunc_Field_Pick1_c1) [A.t x0, A.t x1, A.t x2, A.t x3] =
  bif lt x2.n x1.n then bif ib x2.n x0.l then cl n i_fact_Pick_1 [A.t (x0.a x2.n),aS x3.s] fun v0 => bif (r v0 0).b then rt [aI x2.n,aS (r v0 1).s] else D n i_slices_IndexFunc_Field_Pick1 (some p_slices_IndexFunc_Field_Pick1_c1) [aL x0.k,aI x1.n,aI (w6 (x2.n + 1)),aS (r v0 1).s] else none else some (2,[aS x3.s]) := by kernel_rfl
theorem q_fact_Pick_1 (n : Nat) (x0 x1 : T) : den Tryz.prog G0 ents (Nat.succ n) i_fact_Pick_1 none [A.t x0, A.t x1] =
  rt [aB (seqB (x0.g 0).s x1.s),aS x1.s] := by kernel_rfl
theorem q_lat_Of (n : Nat) (x0 : T) : den Tryz.prog G0 ents (Nat.succ n) i_lat_Of none [A.t x0] =
  bif gt x0.l 512 then rt [aL [T.node []],aI 1] else lp n i_lat_Of p_lat_Of_c1 [aL x0.k,aI 1,aL x0.k,aI x0.l,aI 0,aL [T.node []]] fun v0 => bif Nat.beq v0.1 2 then bif gt (r v0.2 1).n 16 then rt [aL [T.node []],aI 22] else cl n i_lat_settle [aL (r v0.2 0).k] fun v1 => rt [A.t (r v1 0),aI (r v1 1).n] else bif Nat.beq v0.1 1 then rt [A.t (r v0.2 1),aI (r v0.2 0).n] else none := by kernel_rfl
theorem q_lat_Of_c1 (n : Nat) (x0 x1 x2 x3 x4 x5 : T) : den Tryz.prog G0 ents (Nat.succ n) i_lat_Of (some p_lat_Of_c1) [A.t x0, A.t x1, A.t x2, A.t x3, A.t x4, A.t x5] =
  bif lt x4.n x3.n then bif ib x4.n x2.l then cl n i_lat_shaped [A.t (x2.a x4.n),aI 17] fun v0 => bif !(r v0 0).b then rt [aI 1,aL [T.node []]] else cl n i_rank_Depth_o [aL [x2.a x4.n]] fun v1 => lp n i_lat_Of p_lat_Of_c2 [aL x0.k,aI (maxI x1.n (r v1 0).n),aL x2.k,aI x3.n,aI x4.n,aL ((x2.a x4.n).g 7).k,aI ((x2.a x4.n).g 7).l,aI 0,A.t x5] fun v2 => bif Nat.beq v2.1 4 then D n i_lat_Of (some p_lat_Of_c1) [aL (r v2.2 0).k,aI (r v2.2 1).n,aL (r v2.2 2).k,aI (r v2.2 3).n,aI (w6 ((r v2.2 4).n + 1)),A.t (r v2.2 5)] else bif Nat.beq v2.1 1 then rt [aI (r v2.2 0).n,A.t (r v2.2 1)] else none else none else some (2,[aL x0.k,aI x1.n,A.t x5]) := by kernel_rfl
theorem q_lat_Of_c2 (n : Nat) (x0 x1 x2 x3 x4 x5 x6 x7 x8 : T) : den Tryz.prog G0 ents (Nat.succ n) i_lat_Of (some p_lat_Of_c2) [A.t x0, A.t x1, A.t x2, A.t x3, A.t x4, A.t x5, A.t x6, A.t x7, A.t x8] =
  bif lt x7.n x6.n then bif ib x7.n x5.l then cl n i_lat_Right [A.t ((x5.a x7.n).g 1)] fun v0 => bif !(r v0 0).b then rt [aI 1,aL [T.node []]] else D n i_lat_Of (some p_lat_Of_c2) [aL x0.k,aI x1.n,aL x2.k,aI x3.n,aI x4.n,aL x5.k,aI x6.n,aI (w6 (x7.n + 1)),A.t x8] else none else some (4,[aL x0.k,aI x1.n,aL x2.k,aI x3.n,aI x4.n,A.t x8]) := by kernel_rfl
theorem q_lat_settle (n : Nat) (x0 : T) : den Tryz.prog G0 ents (Nat.succ n) i_lat_settle none [A.t x0] =
  cl n i_slices_Clone_Term [aL x0.k] fun v0 => cl n i_slices_SortFunc_Term_Terms_o [aL (r v0 0).k] fun v1 => cl n i_slices_CompactFunc_Term_settle1_o [aL (r v1 0).k] fun v2 => lp n i_lat_settle p_lat_settle_c1 [aI (r v2 0).l,aI 0,aL (r v2 0).k,aL [T.node []],aL []] fun v3 => bif Nat.beq v3.1 2 then cl n i_rank_Weight_o [aL (r v3.2 1).k] fun v4 => bif gt (r v4 0).n 512 then rt [aL [T.node []],aI 30] else cl n i_rank_Copy_o [aL (r v4 1).k] fun v5 => rt [A.t (r v5 0),aI 0] else none := by kernel_rfl
theorem q_lat_settle_c1 (n : Nat) (x0 x1 x2 x3 x4 : T) : den Tryz.prog G0 ents (Nat.succ n) i_lat_settle (some p_lat_settle_c1) [A.t x0, A.t x1, A.t x2, A.t x3, A.t x4] =
  bif lt x1.n x0.n then bif ib x1.n x2.l then bif decide (Int.toNat x1.n < List.length x2.k) then lp n i_lat_settle p_lat_settle_c2 [aI x1.n,aI x0.n,aI x1.n,aI x2.l,aI 0,aL x2.k,A.t x3,aL x4.k,A.t (x2.a x1.n)] fun v0 => bif Nat.beq v0.1 4 then bif decide (Nat.succ (List.length (r v0.2 4).k) < 1073741824) then D n i_lat_settle (some p_lat_settle_c1) [aI (r v0.2 0).n,aI (w6 ((r v0.2 1).n + 1)),aL (r v0.2 2).k,A.t (r v0.2 3),aL ((r v0.2 4).k ++ [r v0.2 5])] else none else bif Nat.beq v0.1 3 then D n i_lat_settle (some p_lat_settle_c1) [aI (r v0.2 0).n,aI (w6 ((r v0.2 1).n + 1)),aL (r v0.2 2).k,A.t (r v0.2 3),aL (r v0.2 4).k] else none else none else none else some (2,[A.t x3,aL x4.k]) := by kernel_rfl
theorem q_lat_settle_c2 (n : Nat) (x0 x1 x2 x3 x4 x5 x6 x7 x8 : T) : den Tryz.prog G0 ents (Nat.succ n) i_lat_settle (some p_lat_settle_c2) [A.t x0, A.t x1, A.t x2, A.t x3, A.t x4, A.t x5, A.t x6, A.t x7, A.t x8] =
  bif lt x4.n x3.n then bif ib x4.n x5.l then bif decide (Int.toNat x4.n < List.length x5.k) then bif (x0.n != x4.n) == true then cl n i_lat_below [A.t x8,A.t (x5.a x4.n)] fun v0 => bif (r v0 0).b then some (3,[aI x1.n,aI x2.n,aL x5.k,A.t x6,aL x7.k]) else D n i_lat_settle (some p_lat_settle_c2) [aI x0.n,aI x1.n,aI x2.n,aI x3.n,aI (w6 (x4.n + 1)),aL x5.k,A.t x6,aL x7.k,A.t x8] else D n i_lat_settle (some p_lat_settle_c2) [aI x0.n,aI x1.n,aI x2.n,aI x3.n,aI (w6 (x4.n + 1)),aL x5.k,A.t x6,aL x7.k,A.t x8] else none else none else some (4,[aI x1.n,aI x2.n,aL x5.k,A.t x6,aL x7.k,A.t x8]) := by kernel_rfl
theorem q_fact_Number (n : Nat) (x0 : T) : den Tryz.prog G0 ents (Nat.succ n) i_fact_Number none [A.t x0] =
  cl n i_fact_plain [A.t x0,aI 2] fun v0 => rt [aI ((r v0 0).g 1).n,aB (r v0 1).b,aI (r v0 2).n] := by kernel_rfl
theorem q_fact_plain (n : Nat) (x0 x1 : T) : den Tryz.prog G0 ents (Nat.succ n) i_fact_plain none [A.t x0, A.t x1] =
  cl n i_fact_One [A.t x0] fun v0 => bif (r v0 1).n != 0 then rt [aL [T.int 0,T.int 0,T.int 0,T.str ByteArray.empty,T.bool false,T.bool false,T.bool false,T.node []],aB false,aI (r v0 1).n] else bif ((r v0 0).g 0).n != x1.n then rt [aL [T.int 0,T.int 0,T.int 0,T.str ByteArray.empty,T.bool false,T.bool false,T.bool false,T.node []],aB false,aI 27] else bif ((r v0 0).g 5).b then rt [aL [T.int 0,T.int 0,T.int 0,T.str ByteArray.empty,T.bool false,T.bool false,T.bool false,T.node []],aB true,aI 0] else cl n i_scalar_Atom [A.t (r v0 0)] fun v1 => bif !(r v1 0).b then rt [aL [T.int 0,T.int 0,T.int 0,T.str ByteArray.empty,T.bool false,T.bool false,T.bool false,T.node []],aB false,aI 28] else rt [A.t (r v0 0),aB false,aI 0] := by kernel_rfl
theorem q_scalar_Atom (n : Nat) (x0 : T) : den Tryz.prog G0 ents (Nat.succ n) i_scalar_Atom none [A.t x0] =
  cl n i_scalar_Right [A.t x0] fun v0 => bif (r v0 0).b == true then cl n i_scalar_one [A.t x0] fun v1 => rt [aB (r v1 0).b] else rt [aB false] := by kernel_rfl
theorem q_R11_Pick (n : Nat) (x0 x1 : T) : den Tryz.prog G0 ents (Nat.succ n) i_R11_Pick none [A.t x0, A.t x1] =
  lp n i_R11_Pick p_R11_Pick_c1 [aL x1.k,aI 0,A.t x0,aL [T.node []]] fun v0 => bif Nat.beq v0.1 2 then cl n i_R09_Right [A.t (r v0.2 0)] fun v1 => bif !(r v1 0).b then rt [aL [T.node []],aI 1] else rt [A.t (r v0.2 0),aI 0] else bif Nat.beq v0.1 1 then rt [A.t (r v0.2 1),aI (r v0.2 0).n] else none := by kernel_rfl
theorem q_R11_Pick_c1 (n : Nat) (x0 x1 x2 x3 : T) : den Tryz.prog G0 ents (Nat.succ n) i_R11_Pick (some p_R11_Pick_c1) [A.t x0, A.t x1, A.t x2, A.t x3] =
  bif lt x1.n x0.l then cl n i_R11_One [A.t x2] fun v0 => bif (r v0 1).n != 0 then rt [aI (r v0 1).n,aL [T.node []]] else bif ((r v0 0).g 0).n != 4 then rt [aI 27,aL [T.node []]] else bif ib x1.n x0.l then cl n i_R09_Find [aL ((r v0 0).g 7).k,aS (x0.a x1.n).s] fun v1 => bif lt (r v1 0).n 0 then rt [aI 29,aL [T.node []]] else bif ib (r v1 0).n ((r v0 0).g 7).l then D n i_R11_Pick (some p_R11_Pick_c1) [aL x0.k,aI (w6 (x1.n + 1)),A.t ((((r v0 0).g 7).a (r v1 0).n).g 1),A.t x3] else none else none else some (2,[A.t x2,A.t x3]) := by kernel_rfl
theorem q_R11_One (n : Nat) (x0 : T) : den Tryz.prog G0 ents (Nat.succ n) i_R11_One none [A.t x0] =
  cl n i_R09_Right [A.t x0] fun v0 => bif !(r v0 0).b then rt [aL [T.int 0,T.int 0,T.int 0,T.str ByteArray.empty,T.bool false,T.bool false,T.bool false,T.node []],aI 1] else bif (x0.g 0).l == 0 then rt [aL [T.int 0,T.int 0,T.int 0,T.str ByteArray.empty,T.bool false,T.bool false,T.bool false,T.node []],aI 31] else bif gt (x0.g 0).l 1 == false then bif lt 0 (x0.g 0).l then bif ((tAtD (x0.g 0).k 0).g 0).n == 5 then rt [aL [T.int 0,T.int 0,T.int 0,T.str ByteArray.empty,T.bool false,T.bool false,T.bool false,T.node []],aI 28] else bif lt 0 (x0.g 0).l then rt [A.t (tAtD (x0.g 0).k 0),aI 0] else none else none else rt [aL [T.int 0,T.int 0,T.int 0,T.str ByteArray.empty,T.bool false,T.bool false,T.bool false,T.node []],aI 28] := by kernel_rfl
theorem q_R09_Right (n : Nat) (x0 : T) : den Tryz.prog G0 ents (Nat.succ n) i_R09_Right none [A.t x0] =
  cl n i_R08_Weight [A.t x0] fun v0 => bif gt (r v0 0).n 512 == false then cl n i_R08_Depth [A.t x0] fun v1 => bif gt (r v1 0).n 16 then rt [aB false] else lp n i_R09_Right p_R09_Right_c1 [aI 0,A.t x0] fun v2 => bif Nat.beq v2.1 2 then lp n i_R09_Right p_R09_Right_c2 [aI 0,A.t (r v2.2 0)] fun v3 => bif Nat.beq v3.1 4 then rt [aB true] else bif Nat.beq v3.1 1 then rt [aB (r v3.2 0).b] else none else bif Nat.beq v2.1 1 then rt [aB (r v2.2 0).b] else none else rt [aB false] := by kernel_rfl
theorem q_R09_Right_c1 (n : Nat) (x0 x1 : T) : den Tryz.prog G0 ents (Nat.succ n) i_R09_Right (some p_R09_Right_c1) [A.t x0, A.t x1] =
  bif lt x0.n (x1.g 0).l then bif ib x0.n (x1.g 0).l then cl n i_R09_Term [A.t ((x1.g 0).a x0.n)] fun v0 => bif (!(r v0 0).b) == false then bif gt x0.n 0 == true then bif ib (w6 (x0.n - 1)) (x1.g 0).l then bif ib x0.n (x1.g 0).l then cl n i_R08_Terms [A.t ((x1.g 0).a (w6 (x0.n - 1))),A.t ((x1.g 0).a x0.n)] fun v1 => bif ge (r v1 0).n 0 then rt [aB false] else D n i_R09_Right (some p_R09_Right_c1) [aI (w6 (x0.n + 1)),A.t x1] else none else none else D n i_R09_Right (some p_R09_Right_c1) [aI (w6 (x0.n + 1)),A.t x1] else rt [aB false] else none else some (2,[A.t x1]) := by kernel_rfl
end Go.Proofs.YtoekafpmpopigaaGreatDoorFP
set_option linter.unusedVariables false
set_option maxRecDepth 100000
namespace Go.Proofs.YtoekafpmpopigaaGreatDoorFP
open Go Go.Proofs.YtoekafpmpopigaaGreatDoorVM Go.Proofs
theorem q_R09_Right_c2 (n : Nat) (x0 x1 : T) : den Tryz.prog G0 ents (Nat.succ n) i_R09_Right (some p_R09_Right_c2) [A.t x0, A.t x1] =
  bif lt x0.n (x1.g 0).l then lp n i_R09_Right p_R09_Right_c3 [aI x0.n,aI 0,A.t x1] fun v0 => bif Nat.beq v0.1 6 then D n i_R09_Right (some p_R09_Right_c2) [aI (w6 ((r v0.2 0).n + 1)),A.t (r v0.2 1)] else bif Nat.beq v0.1 1 then rt [aB (r v0.2 0).b] else none else some (4,[]) := by kernel_rfl
theorem q_R09_Right_c3 (n : Nat) (x0 x1 x2 : T) : den Tryz.prog G0 ents (Nat.succ n) i_R09_Right (some p_R09_Right_c3) [A.t x0, A.t x1, A.t x2] =
  bif lt x1.n (x2.g 0).l then bif (x0.n != x1.n) == true then bif ib x0.n (x2.g 0).l then bif ib x1.n (x2.g 0).l then cl n i_R09_under [A.t ((x2.g 0).a x0.n),A.t ((x2.g 0).a x1.n)] fun v0 => bif (r v0 0).b then rt [aB false] else D n i_R09_Right (some p_R09_Right_c3) [aI x0.n,aI (w6 (x1.n + 1)),A.t x2] else none else none else D n i_R09_Right (some p_R09_Right_c3) [aI x0.n,aI (w6 (x1.n + 1)),A.t x2] else some (6,[aI x0.n,A.t x2]) := by kernel_rfl
theorem q_R08_Depth (n : Nat) (x0 : T) : den Tryz.prog G0 ents (Nat.succ n) i_R08_Depth none [A.t x0] =
  lp n i_R08_Depth p_R08_Depth_c1 [aI 0,aI 0,A.t x0] fun v0 => bif Nat.beq v0.1 2 then rt [aI (w6 (1 + (r v0.2 0).n))] else none := by kernel_rfl
theorem q_R08_Depth_c1 (n : Nat) (x0 x1 x2 : T) : den Tryz.prog G0 ents (Nat.succ n) i_R08_Depth (some p_R08_Depth_c1) [A.t x0, A.t x1, A.t x2] =
  bif lt x1.n (x2.g 0).l then bif ib x1.n (x2.g 0).l then lp n i_R08_Depth p_R08_Depth_c2 [aI x0.n,aI x1.n,aL (((x2.g 0).a x1.n).g 7).k,aI 0,A.t x2] fun v0 => bif Nat.beq v0.1 4 then D n i_R08_Depth (some p_R08_Depth_c1) [aI (r v0.2 0).n,aI (w6 ((r v0.2 1).n + 1)),A.t (r v0.2 2)] else none else none else some (2,[aI x0.n]) := by kernel_rfl
theorem q_R08_Depth_c2 (n : Nat) (x0 x1 x2 x3 x4 : T) : den Tryz.prog G0 ents (Nat.succ n) i_R08_Depth (some p_R08_Depth_c2) [A.t x0, A.t x1, A.t x2, A.t x3, A.t x4] =
  bif lt x3.n x2.l then bif ib x3.n x2.l then cl n i_R08_Depth [A.t ((x2.a x3.n).g 1)] fun v0 => bif gt (r v0 0).n x0.n then D n i_R08_Depth (some p_R08_Depth_c2) [aI (r v0 0).n,aI x1.n,aL x2.k,aI (w6 (x3.n + 1)),A.t x4] else D n i_R08_Depth (some p_R08_Depth_c2) [aI x0.n,aI x1.n,aL x2.k,aI (w6 (x3.n + 1)),A.t x4] else none else some (4,[aI x0.n,aI x1.n,A.t x4]) := by kernel_rfl
theorem q_R09_Term (n : Nat) (x0 : T) : den Tryz.prog G0 ents (Nat.succ n) i_R09_Term none [A.t x0] =
  bif (x0.g 0).n == 5 then cl n i_R08_Terms [A.t x0,aL [T.int 5,T.int 0,T.int 0,T.str ByteArray.empty,T.bool false,T.bool false,T.bool false,T.node []]] fun v0 => rt [aB ((r v0 0).n == 0)] else bif (x0.g 0).n != 4 then cl n i_R07_Right [A.t x0] fun v0 => rt [aB (r v0 0).b] else bif ((x0.g 1).n != 0) == false then bif ((x0.g 2).n != 0) == false then bif (!(seqB (x0.g 3).s (bs []))) == false then bif (x0.g 4).b == false then bif (x0.g 5).b == false then bif gt (x0.g 7).l 32 == false then cl n i_R09_names [aL (x0.g 7).k] fun v0 => bif !(r v0 0).b then rt [aB false] else lp n i_R09_Term p_R09_Term_c1 [aI 0,A.t x0] fun v1 => bif Nat.beq v1.1 2 then rt [aB true] else bif Nat.beq v1.1 1 then rt [aB (r v1.2 0).b] else none else rt [aB false] else rt [aB false] else rt [aB false] else rt [aB false] else rt [aB false] else rt [aB false] := by kernel_rfl
theorem q_R09_Term_c1 (n : Nat) (x0 x1 : T) : den Tryz.prog G0 ents (Nat.succ n) i_R09_Term (some p_R09_Term_c1) [A.t x0, A.t x1] =
  bif lt x0.n (x1.g 7).l then bif ib x0.n (x1.g 7).l then bif (((((x1.g 7).a x0.n).g 1).g 0).l == 0) == false then bif ib x0.n (x1.g 7).l then cl n i_R09_Right [A.t (((x1.g 7).a x0.n).g 1)] fun v0 => bif !(r v0 0).b then rt [aB false] else D n i_R09_Term (some p_R09_Term_c1) [aI (w6 (x0.n + 1)),A.t x1] else none else rt [aB false] else none else some (2,[]) := by kernel_rfl
theorem q_R08_Terms (n : Nat) (x0 x1 : T) : den Tryz.prog G0 ents (Nat.succ n) i_R08_Terms none [A.t x0, A.t x1] =
  cl n i_R08_plain [A.t x0,A.t x1] fun v0 => bif (r v0 0).n != 0 then rt [aI (r v0 0).n] else lp n i_R08_Terms p_R08_Terms_c1 [aI 0,A.t x0,A.t x1] fun v1 => bif Nat.beq v1.1 2 then cl n i_R08_nums [aI ((r v1.2 0).g 7).l,aI ((r v1.2 1).g 7).l] fun v2 => rt [aI (r v2 0).n] else bif Nat.beq v1.1 1 then rt [aI (r v1.2 0).n] else none := by kernel_rfl
theorem q_R08_Terms_c1 (n : Nat) (x0 x1 x2 : T) : den Tryz.prog G0 ents (Nat.succ n) i_R08_Terms (some p_R08_Terms_c1) [A.t x0, A.t x1, A.t x2] =
  bif lt x0.n (x1.g 7).l == true then bif lt x0.n (x2.g 7).l then bif ib x0.n (x1.g 7).l then bif ib x0.n (x2.g 7).l then cl n i_R08_texts [aS (((x1.g 7).a x0.n).g 0).s,aS (((x2.g 7).a x0.n).g 0).s] fun v0 => bif (r v0 0).n == 0 then bif ib x0.n (x1.g 7).l then bif ib x0.n (x2.g 7).l then cl n i_R08_Compare [A.t (((x1.g 7).a x0.n).g 1),A.t (((x2.g 7).a x0.n).g 1)] fun v1 => bif (r v1 0).n != 0 then rt [aI (r v1 0).n] else D n i_R08_Terms (some p_R08_Terms_c1) [aI (w6 (x0.n + 1)),A.t x1,A.t x2] else none else none else bif (r v0 0).n != 0 then rt [aI (r v0 0).n] else D n i_R08_Terms (some p_R08_Terms_c1) [aI (w6 (x0.n + 1)),A.t x1,A.t x2] else none else none else some (2,[A.t x1,A.t x2]) else some (2,[A.t x1,A.t x2]) := by kernel_rfl
theorem q_R08_plain (n : Nat) (x0 x1 : T) : den Tryz.prog G0 ents (Nat.succ n) i_R08_plain none [A.t x0, A.t x1] =
  bif (x0.g 0).n != (x1.g 0).n then cl n i_R08_nums [aI (x0.g 0).n,aI (x1.g 0).n] fun v0 => rt [aI (r v0 0).n] else bif (x0.g 1).n != (x1.g 1).n then cl n i_R08_nums [aI (x0.g 1).n,aI (x1.g 1).n] fun v0 => rt [aI (r v0 0).n] else bif (x0.g 2).n != (x1.g 2).n then cl n i_R08_nums [aI (x0.g 2).n,aI (x1.g 2).n] fun v0 => rt [aI (r v0 0).n] else bif !(seqB (x0.g 3).s (x1.g 3).s) then cl n i_R08_texts [aS (x0.g 3).s,aS (x1.g 3).s] fun v0 => rt [aI (r v0 0).n] else bif !((x0.g 4).b == (x1.g 4).b) then cl n i_R08_bools [aB (x0.g 4).b,aB (x1.g 4).b] fun v0 => rt [aI (r v0 0).n] else bif !((x0.g 5).b == (x1.g 5).b) then cl n i_R08_bools [aB (x0.g 5).b,aB (x1.g 5).b] fun v0 => rt [aI (r v0 0).n] else cl n i_R08_bools [aB (x0.g 6).b,aB (x1.g 6).b] fun v0 => rt [aI (r v0 0).n] := by kernel_rfl
theorem q_R08_nums (n : Nat) (x0 x1 : T) : den Tryz.prog G0 ents (Nat.succ n) i_R08_nums none [A.t x0, A.t x1] =
  bif lt x0.n x1.n then rt [aI (-1)] else bif gt x0.n x1.n then rt [aI 1] else rt [aI 0] := by kernel_rfl
theorem q_R08_texts (n : Nat) (x0 x1 : T) : den Tryz.prog G0 ents (Nat.succ n) i_R08_texts none [A.t x0, A.t x1] =
  bif sltB x0.s x1.s then rt [aI (-1)] else bif !(Bool.or (sltB x0.s x1.s) (seqB x0.s x1.s)) then rt [aI 1] else rt [aI 0] := by kernel_rfl
theorem q_R08_bools (n : Nat) (x0 x1 : T) : den Tryz.prog G0 ents (Nat.succ n) i_R08_bools none [A.t x0, A.t x1] =
  bif x0.b == x1.b then rt [aI 0] else bif x1.b then rt [aI (-1)] else rt [aI 1] := by kernel_rfl
theorem q_R08_Compare (n : Nat) (x0 x1 : T) : den Tryz.prog G0 ents (Nat.succ n) i_R08_Compare none [A.t x0, A.t x1] =
  lp n i_R08_Compare p_R08_Compare_c1 [aI 0,A.t x0,A.t x1] fun v0 => bif Nat.beq v0.1 2 then cl n i_R08_nums [aI ((r v0.2 0).g 0).l,aI ((r v0.2 1).g 0).l] fun v1 => rt [aI (r v1 0).n] else bif Nat.beq v0.1 1 then rt [aI (r v0.2 0).n] else none := by kernel_rfl
theorem q_R08_Compare_c1 (n : Nat) (x0 x1 x2 : T) : den Tryz.prog G0 ents (Nat.succ n) i_R08_Compare (some p_R08_Compare_c1) [A.t x0, A.t x1, A.t x2] =
  bif lt x0.n (x1.g 0).l == true then bif lt x0.n (x2.g 0).l then bif ib x0.n (x1.g 0).l then bif ib x0.n (x2.g 0).l then cl n i_R08_Terms [A.t ((x1.g 0).a x0.n),A.t ((x2.g 0).a x0.n)] fun v0 => bif (r v0 0).n != 0 then rt [aI (r v0 0).n] else D n i_R08_Compare (some p_R08_Compare_c1) [aI (w6 (x0.n + 1)),A.t x1,A.t x2] else none else none else some (2,[A.t x1,A.t x2]) else some (2,[A.t x1,A.t x2]) := by kernel_rfl
theorem q_R07_Right (n : Nat) (x0 : T) : den Tryz.prog G0 ents (Nat.succ n) i_R07_Right none [A.t x0] =
  bif (x0.g 6).b == false then bif gt (x0.g 7).l 0 == false then bif (x0.g 5).b == true then cl n i_R07_Single [A.t x0] fun v0 => bif (r v0 0).b then rt [aB false] else bif (x0.g 0).n == 3 then bif ((x0.g 1).n != 0) == false then bif ((x0.g 2).n != 0) == false then bif gt (x0.g 3).z 256 then rt [aB false] else bif (!(x0.g 4).b) == false then rt [aB (seqB (x0.g 3).s (bs []))] else rt [aB true] else rt [aB false] else rt [aB false] else bif (!(seqB (x0.g 3).s (bs []))) == false then bif (x0.g 4).b == false then bif gt (x0.g 1).n (x0.g 2).n then rt [aB false] else bif (x0.g 0).n == 1 then bif ge (x0.g 1).n 0 == true then rt [aB (le (x0.g 2).n 1)] else rt [aB false] else bif ((x0.g 0).n == 2) == true then bif ge (x0.g 1).n (-9007199254740992) == true then rt [aB (le (x0.g 2).n 9007199254740992)] else rt [aB false] else rt [aB false] else rt [aB false] else rt [aB false] else bif (x0.g 0).n == 3 then bif ((x0.g 1).n != 0) == false then bif ((x0.g 2).n != 0) == false then bif gt (x0.g 3).z 256 then rt [aB false] else bif (!(x0.g 4).b) == false then rt [aB (seqB (x0.g 3).s (bs []))] else rt [aB true] else rt [aB false] else rt [aB false] else bif (!(seqB (x0.g 3).s (bs []))) == false then bif (x0.g 4).b == false then bif gt (x0.g 1).n (x0.g 2).n then rt [aB false] else bif (x0.g 0).n == 1 then bif ge (x0.g 1).n 0 == true then rt [aB (le (x0.g 2).n 1)] else rt [aB false] else bif ((x0.g 0).n == 2) == true then bif ge (x0.g 1).n (-9007199254740992) == true then rt [aB (le (x0.g 2).n 9007199254740992)] else rt [aB false] else rt [aB false] else rt [aB false] else rt [aB false] else rt [aB false] else rt [aB false] := by kernel_rfl
theorem q_R07_Single (n : Nat) (x0 : T) : den Tryz.prog G0 ents (Nat.succ n) i_R07_Single none [A.t x0] =
  bif (x0.g 0).n == 3 then rt [aB (!(x0.g 4).b)] else rt [aB ((x0.g 1).n == (x0.g 2).n)] := by kernel_rfl
theorem q_R09_names (n : Nat) (x0 : T) : den Tryz.prog G0 ents (Nat.succ n) i_R09_names none [A.t x0] =
  lp n i_R09_names p_R09_names_c1 [aL x0.k,aI 0,aL []] fun v0 => bif Nat.beq v0.1 2 then cl n i_R02_Rising_o [aL (r v0.2 0).k] fun v1 => rt [aB (r v1 0).b] else none := by kernel_rfl
theorem q_R09_names_c1 (n : Nat) (x0 x1 x2 : T) : den Tryz.prog G0 ents (Nat.succ n) i_R09_names (some p_R09_names_c1) [A.t x0, A.t x1, A.t x2] =
  bif lt x1.n x0.l then bif ib x1.n x0.l then bif decide (Nat.succ (List.length x2.k) < 1073741824) then D n i_R09_names (some p_R09_names_c1) [aL x0.k,aI (w6 (x1.n + 1)),aL (x2.k ++ [T.str ((x0.a x1.n).g 0).s])] else none else none else some (2,[aL x2.k]) := by kernel_rfl
theorem q_R02_Right (n : Nat) (x0 : T) : den Tryz.prog G0 ents (Nat.succ n) i_R02_Right none [A.t x0] =
  bif lt x0.z 1 == false then bif gt x0.z 16 == false then cl n i_R02_Word [aS x0.s] fun v0 => bif gt (r v0 0).n 0 == false then bif lt 0 x0.z then bif lt ((UInt8.toNat (Array.getD (ByteArray.data x0.s) 0 0) : Nat) : Int) 97 == false then bif lt 0 x0.z then bif gt ((UInt8.toNat (Array.getD (ByteArray.data x0.s) 0 0) : Nat) : Int) 122 then rt [aB false] else lp n i_R02_Right p_R02_Right_c1 [aS x0.s,aI 1] fun v1 => bif Nat.beq v1.1 2 then rt [aB true] else bif Nat.beq v1.1 1 then rt [aB (r v1.2 0).b] else none else none else rt [aB false] else none else rt [aB false] else rt [aB false] else rt [aB false] := by kernel_rfl
theorem q_R02_Right_c1 (n : Nat) (x0 x1 : T) : den Tryz.prog G0 ents (Nat.succ n) i_R02_Right (some p_R02_Right_c1) [A.t x0, A.t x1] =
  bif lt x1.n x0.z then bif ib x1.n x0.z then bif ge ((UInt8.toNat (Array.getD (ByteArray.data x0.s) (Int.toNat x1.n) 0) : Nat) : Int) 97 == true then bif ib x1.n x0.z then bif ib x1.n x0.z then bif ge ((UInt8.toNat (Array.getD (ByteArray.data x0.s) (Int.toNat x1.n) 0) : Nat) : Int) 48 == true then bif ib x1.n x0.z then bif (!(le ((UInt8.toNat (Array.getD (ByteArray.data x0.s) (Int.toNat x1.n) 0) : Nat) : Int) 122)) == true then bif (!(le ((UInt8.toNat (Array.getD (ByteArray.data x0.s) (Int.toNat x1.n) 0) : Nat) : Int) 57)) == true then bif ib x1.n x0.z then bif ((UInt8.toNat (Array.getD (ByteArray.data x0.s) (Int.toNat x1.n) 0) : Nat) : Int) != 95 then rt [aB false] else D n i_R02_Right (some p_R02_Right_c1) [aS x0.s,aI (w6 (x1.n + 1))] else none else D n i_R02_Right (some p_R02_Right_c1) [aS x0.s,aI (w6 (x1.n + 1))] else D n i_R02_Right (some p_R02_Right_c1) [aS x0.s,aI (w6 (x1.n + 1))] else none else bif (!(le ((UInt8.toNat (Array.getD (ByteArray.data x0.s) (Int.toNat x1.n) 0) : Nat) : Int) 122)) == true then bif ib x1.n x0.z then bif ((UInt8.toNat (Array.getD (ByteArray.data x0.s) (Int.toNat x1.n) 0) : Nat) : Int) != 95 then rt [aB false] else D n i_R02_Right (some p_R02_Right_c1) [aS x0.s,aI (w6 (x1.n + 1))] else none else D n i_R02_Right (some p_R02_Right_c1) [aS x0.s,aI (w6 (x1.n + 1))] else none else none else bif ib x1.n x0.z then bif ge ((UInt8.toNat (Array.getD (ByteArray.data x0.s) (Int.toNat x1.n) 0) : Nat) : Int) 48 == true then bif ib x1.n x0.z then bif (!(le ((UInt8.toNat (Array.getD (ByteArray.data x0.s) (Int.toNat x1.n) 0) : Nat) : Int) 57)) == true then bif ib x1.n x0.z then bif ((UInt8.toNat (Array.getD (ByteArray.data x0.s) (Int.toNat x1.n) 0) : Nat) : Int) != 95 then rt [aB false] else D n i_R02_Right (some p_R02_Right_c1) [aS x0.s,aI (w6 (x1.n + 1))] else none else D n i_R02_Right (some p_R02_Right_c1) [aS x0.s,aI (w6 (x1.n + 1))] else none else bif ib x1.n x0.z then bif ((UInt8.toNat (Array.getD (ByteArray.data x0.s) (Int.toNat x1.n) 0) : Nat) : Int) != 95 then rt [aB false] else D n i_R02_Right (some p_R02_Right_c1) [aS x0.s,aI (w6 (x1.n + 1))] else none else none else none else some (2,[]) := by kernel_rfl
theorem q_R02_Word (n : Nat) (x0 : T) : den Tryz.prog G0 ents (Nat.succ n) i_R02_Word none [A.t x0] =
  bif seqB x0.s (bs [97,110,121]) then rt [aI 1] else bif seqB x0.s (bs [98,111,111,108]) then rt [aI 2] else bif seqB x0.s (bs [99,111,109,112,117,116,101,100]) then rt [aI 3] else bif seqB x0.s (bs [102,97,108,115,101]) then rt [aI 4] else bif seqB x0.s (bs [105,110,116]) then rt [aI 5] else bif seqB x0.s (bs [110,111,110,101]) then rt [aI 6] else bif seqB x0.s (bs [114,101,115,111,117,114,99,101]) then rt [aI 7] else bif seqB x0.s (bs [115,116,114,105,110,103]) then rt [aI 8] else bif seqB x0.s (bs [116,114,117,101]) then rt [aI 9] else rt [aI 0] := by kernel_rfl
theorem q_R09_under (n : Nat) (x0 x1 : T) : den Tryz.prog G0 ents (Nat.succ n) i_R09_under none [A.t x0, A.t x1] =
  bif (x1.g 0).n == 5 then rt [aB true] else bif ((x0.g 0).n != 4) == false then bif (x1.g 0).n != 4 then cl n i_R07_Below [A.t x0,A.t x1] fun v0 => rt [aB (r v0 0).b] else bif (x0.g 6).b == true then bif !(x1.g 6).b then rt [aB false] else lp n i_R09_under p_R09_under_c1 [aI 0,A.t x0,A.t x1] fun v0 => bif Nat.beq v0.1 2 then lp n i_R09_under p_R09_under_c2 [aI 0,A.t (r v0.2 0),A.t (r v0.2 1)] fun v1 => bif Nat.beq v1.1 4 then rt [aB true] else bif Nat.beq v1.1 1 then rt [aB (r v1.2 0).b] else none else bif Nat.beq v0.1 1 then rt [aB (r v0.2 0).b] else none else lp n i_R09_under p_R09_under_c1 [aI 0,A.t x0,A.t x1] fun v0 => bif Nat.beq v0.1 2 then lp n i_R09_under p_R09_under_c2 [aI 0,A.t (r v0.2 0),A.t (r v0.2 1)] fun v1 => bif Nat.beq v1.1 4 then rt [aB true] else bif Nat.beq v1.1 1 then rt [aB (r v1.2 0).b] else none else bif Nat.beq v0.1 1 then rt [aB (r v0.2 0).b] else none else cl n i_R07_Below [A.t x0,A.t x1] fun v0 => rt [aB (r v0 0).b] := by kernel_rfl
theorem q_R09_under_c1 (n : Nat) (x0 x1 x2 : T) : den Tryz.prog G0 ents (Nat.succ n) i_R09_under (some p_R09_under_c1) [A.t x0, A.t x1, A.t x2] =
  bif lt x0.n (x1.g 7).l == true then bif !(x2.g 6).b then bif ib x0.n (x1.g 7).l then cl n i_R09_Find [aL (x2.g 7).k,aS (((x1.g 7).a x0.n).g 0).s] fun v0 => bif lt (r v0 0).n 0 then rt [aB false] else D n i_R09_under (some p_R09_under_c1) [aI (w6 (x0.n + 1)),A.t x1,A.t x2] else none else some (2,[A.t x1,A.t x2]) else some (2,[A.t x1,A.t x2]) := by kernel_rfl
theorem q_R09_under_c2 (n : Nat) (x0 x1 x2 : T) : den Tryz.prog G0 ents (Nat.succ n) i_R09_under (some p_R09_under_c2) [A.t x0, A.t x1, A.t x2] =
  bif lt x0.n (x2.g 7).l then bif ib x0.n (x2.g 7).l then cl n i_R09_Find [aL (x1.g 7).k,aS (((x2.g 7).a x0.n).g 0).s] fun v0 => bif lt (r v0 0).n 0 == false then bif ib (r v0 0).n (x1.g 7).l then bif ib x0.n (x2.g 7).l then cl n i_R09_Under [A.t (((x1.g 7).a (r v0 0).n).g 1),A.t (((x2.g 7).a x0.n).g 1)] fun v1 => bif !(r v1 0).b then rt [aB false] else D n i_R09_under (some p_R09_under_c2) [aI (w6 (x0.n + 1)),A.t x1,A.t x2] else none else none else rt [aB false] else none else some (4,[]) := by kernel_rfl
theorem q_R07_Below (n : Nat) (x0 x1 : T) : den Tryz.prog G0 ents (Nat.succ n) i_R07_Below none [A.t x0, A.t x1] =
  cl n i_R07_Meet [A.t x0,A.t x1] fun v0 => bif (r v0 1).b == true then cl n i_R07_Same [A.t (r v0 0),A.t x0] fun v1 => rt [aB (r v1 0).b] else rt [aB false] := by kernel_rfl
theorem q_R07_Meet (n : Nat) (x0 x1 : T) : den Tryz.prog G0 ents (Nat.succ n) i_R07_Meet none [A.t x0, A.t x1] =
  cl n i_R07_Right [A.t x0] fun v0 => bif (!(r v0 0).b) == false then cl n i_R07_Right [A.t x1] fun v1 => bif (!(r v1 0).b) == false then bif (x0.g 0).n != (x1.g 0).n then rt [aL [T.int 0,T.int 0,T.int 0,T.str ByteArray.empty,T.bool false,T.bool false,T.bool false,T.node []],aB false] else bif (x0.g 0).n == 3 then bif (!(x0.g 4).b) == true then bif (!(x1.g 4).b) == true then bif !(seqB (x0.g 3).s (x1.g 3).s) then rt [aL [T.int 0,T.int 0,T.int 0,T.str ByteArray.empty,T.bool false,T.bool false,T.bool false,T.node []],aB false] else bif (x0.g 4).b then bif gt (x1.g 1).n (x0.g 1).n then bif lt (x1.g 2).n (x0.g 2).n then bif gt (x1.g 1).n (x1.g 2).n then rt [aL [T.int 0,T.int 0,T.int 0,T.str ByteArray.empty,T.bool false,T.bool false,T.bool false,T.node []],aB false] else cl n i_R07_Single [aL [T.int (x0.g 0).n,T.int (x1.g 1).n,T.int (x1.g 2).n,T.str (x1.g 3).s,T.bool (x1.g 4).b,T.bool false,T.bool (x0.g 6).b,T.node (x0.g 7).k]] fun v2 => bif (!(r v2 0).b) == true then bif (x0.g 5).b == false then bif (x1.g 5).b then rt [aL [T.int (x0.g 0).n,T.int (x1.g 1).n,T.int (x1.g 2).n,T.str (x1.g 3).s,T.bool (x1.g 4).b,T.bool true,T.bool (x0.g 6).b,T.node (x0.g 7).k],aB true] else rt [aL [T.int (x0.g 0).n,T.int (x1.g 1).n,T.int (x1.g 2).n,T.str (x1.g 3).s,T.bool (x1.g 4).b,T.bool false,T.bool (x0.g 6).b,T.node (x0.g 7).k],aB true] else rt [aL [T.int (x0.g 0).n,T.int (x1.g 1).n,T.int (x1.g 2).n,T.str (x1.g 3).s,T.bool (x1.g 4).b,T.bool true,T.bool (x0.g 6).b,T.node (x0.g 7).k],aB true] else rt [aL [T.int (x0.g 0).n,T.int (x1.g 1).n,T.int (x1.g 2).n,T.str (x1.g 3).s,T.bool (x1.g 4).b,T.bool false,T.bool (x0.g 6).b,T.node (x0.g 7).k],aB true] else bif gt (x1.g 1).n (x0.g 2).n then rt [aL [T.int 0,T.int 0,T.int 0,T.str ByteArray.empty,T.bool false,T.bool false,T.bool false,T.node []],aB false] else cl n i_R07_Single [aL [T.int (x0.g 0).n,T.int (x1.g 1).n,T.int (x0.g 2).n,T.str (x1.g 3).s,T.bool (x1.g 4).b,T.bool false,T.bool (x0.g 6).b,T.node (x0.g 7).k]] fun v2 => bif (!(r v2 0).b) == true then bif (x0.g 5).b == false then bif (x1.g 5).b then rt [aL [T.int (x0.g 0).n,T.int (x1.g 1).n,T.int (x0.g 2).n,T.str (x1.g 3).s,T.bool (x1.g 4).b,T.bool true,T.bool (x0.g 6).b,T.node (x0.g 7).k],aB true] else rt [aL [T.int (x0.g 0).n,T.int (x1.g 1).n,T.int (x0.g 2).n,T.str (x1.g 3).s,T.bool (x1.g 4).b,T.bool false,T.bool (x0.g 6).b,T.node (x0.g 7).k],aB true] else rt [aL [T.int (x0.g 0).n,T.int (x1.g 1).n,T.int (x0.g 2).n,T.str (x1.g 3).s,T.bool (x1.g 4).b,T.bool true,T.bool (x0.g 6).b,T.node (x0.g 7).k],aB true] else rt [aL [T.int (x0.g 0).n,T.int (x1.g 1).n,T.int (x0.g 2).n,T.str (x1.g 3).s,T.bool (x1.g 4).b,T.bool false,T.bool (x0.g 6).b,T.node (x0.g 7).k],aB true] else bif lt (x1.g 2).n (x0.g 2).n then bif gt (x0.g 1).n (x1.g 2).n then rt [aL [T.int 0,T.int 0,T.int 0,T.str ByteArray.empty,T.bool false,T.bool false,T.bool false,T.node []],aB false] else cl n i_R07_Single [aL [T.int (x0.g 0).n,T.int (x0.g 1).n,T.int (x1.g 2).n,T.str (x1.g 3).s,T.bool (x1.g 4).b,T.bool false,T.bool (x0.g 6).b,T.node (x0.g 7).k]] fun v2 => bif (!(r v2 0).b) == true then bif (x0.g 5).b == false then bif (x1.g 5).b then rt [aL [T.int (x0.g 0).n,T.int (x0.g 1).n,T.int (x1.g 2).n,T.str (x1.g 3).s,T.bool (x1.g 4).b,T.bool true,T.bool (x0.g 6).b,T.node (x0.g 7).k],aB true] else rt [aL [T.int (x0.g 0).n,T.int (x0.g 1).n,T.int (x1.g 2).n,T.str (x1.g 3).s,T.bool (x1.g 4).b,T.bool false,T.bool (x0.g 6).b,T.node (x0.g 7).k],aB true] else rt [aL [T.int (x0.g 0).n,T.int (x0.g 1).n,T.int (x1.g 2).n,T.str (x1.g 3).s,T.bool (x1.g 4).b,T.bool true,T.bool (x0.g 6).b,T.node (x0.g 7).k],aB true] else rt [aL [T.int (x0.g 0).n,T.int (x0.g 1).n,T.int (x1.g 2).n,T.str (x1.g 3).s,T.bool (x1.g 4).b,T.bool false,T.bool (x0.g 6).b,T.node (x0.g 7).k],aB true] else bif gt (x0.g 1).n (x0.g 2).n then rt [aL [T.int 0,T.int 0,T.int 0,T.str ByteArray.empty,T.bool false,T.bool false,T.bool false,T.node []],aB false] else cl n i_R07_Single [aL [T.int (x0.g 0).n,T.int (x0.g 1).n,T.int (x0.g 2).n,T.str (x1.g 3).s,T.bool (x1.g 4).b,T.bool false,T.bool (x0.g 6).b,T.node (x0.g 7).k]] fun v2 => bif (!(r v2 0).b) == true then bif (x0.g 5).b == false then bif (x1.g 5).b then rt [aL [T.int (x0.g 0).n,T.int (x0.g 1).n,T.int (x0.g 2).n,T.str (x1.g 3).s,T.bool (x1.g 4).b,T.bool true,T.bool (x0.g 6).b,T.node (x0.g 7).k],aB true] else rt [aL [T.int (x0.g 0).n,T.int (x0.g 1).n,T.int (x0.g 2).n,T.str (x1.g 3).s,T.bool (x1.g 4).b,T.bool false,T.bool (x0.g 6).b,T.node (x0.g 7).k],aB true] else rt [aL [T.int (x0.g 0).n,T.int (x0.g 1).n,T.int (x0.g 2).n,T.str (x1.g 3).s,T.bool (x1.g 4).b,T.bool true,T.bool (x0.g 6).b,T.node (x0.g 7).k],aB true] else rt [aL [T.int (x0.g 0).n,T.int (x0.g 1).n,T.int (x0.g 2).n,T.str (x1.g 3).s,T.bool (x1.g 4).b,T.bool false,T.bool (x0.g 6).b,T.node (x0.g 7).k],aB true] else bif gt (x1.g 1).n (x0.g 1).n then bif lt (x1.g 2).n (x0.g 2).n then bif gt (x1.g 1).n (x1.g 2).n then rt [aL [T.int 0,T.int 0,T.int 0,T.str ByteArray.empty,T.bool false,T.bool false,T.bool false,T.node []],aB false] else cl n i_R07_Single [aL [T.int (x0.g 0).n,T.int (x1.g 1).n,T.int (x1.g 2).n,T.str (x0.g 3).s,T.bool (x0.g 4).b,T.bool false,T.bool (x0.g 6).b,T.node (x0.g 7).k]] fun v2 => bif (!(r v2 0).b) == true then bif (x0.g 5).b == false then bif (x1.g 5).b then rt [aL [T.int (x0.g 0).n,T.int (x1.g 1).n,T.int (x1.g 2).n,T.str (x0.g 3).s,T.bool (x0.g 4).b,T.bool true,T.bool (x0.g 6).b,T.node (x0.g 7).k],aB true] else rt [aL [T.int (x0.g 0).n,T.int (x1.g 1).n,T.int (x1.g 2).n,T.str (x0.g 3).s,T.bool (x0.g 4).b,T.bool false,T.bool (x0.g 6).b,T.node (x0.g 7).k],aB true] else rt [aL [T.int (x0.g 0).n,T.int (x1.g 1).n,T.int (x1.g 2).n,T.str (x0.g 3).s,T.bool (x0.g 4).b,T.bool true,T.bool (x0.g 6).b,T.node (x0.g 7).k],aB true] else rt [aL [T.int (x0.g 0).n,T.int (x1.g 1).n,T.int (x1.g 2).n,T.str (x0.g 3).s,T.bool (x0.g 4).b,T.bool false,T.bool (x0.g 6).b,T.node (x0.g 7).k],aB true] else bif gt (x1.g 1).n (x0.g 2).n then rt [aL [T.int 0,T.int 0,T.int 0,T.str ByteArray.empty,T.bool false,T.bool false,T.bool false,T.node []],aB false] else cl n i_R07_Single [aL [T.int (x0.g 0).n,T.int (x1.g 1).n,T.int (x0.g 2).n,T.str (x0.g 3).s,T.bool (x0.g 4).b,T.bool false,T.bool (x0.g 6).b,T.node (x0.g 7).k]] fun v2 => bif (!(r v2 0).b) == true then bif (x0.g 5).b == false then bif (x1.g 5).b then rt [aL [T.int (x0.g 0).n,T.int (x1.g 1).n,T.int (x0.g 2).n,T.str (x0.g 3).s,T.bool (x0.g 4).b,T.bool true,T.bool (x0.g 6).b,T.node (x0.g 7).k],aB true] else rt [aL [T.int (x0.g 0).n,T.int (x1.g 1).n,T.int (x0.g 2).n,T.str (x0.g 3).s,T.bool (x0.g 4).b,T.bool false,T.bool (x0.g 6).b,T.node (x0.g 7).k],aB true] else rt [aL [T.int (x0.g 0).n,T.int (x1.g 1).n,T.int (x0.g 2).n,T.str (x0.g 3).s,T.bool (x0.g 4).b,T.bool true,T.bool (x0.g 6).b,T.node (x0.g 7).k],aB true] else rt [aL [T.int (x0.g 0).n,T.int (x1.g 1).n,T.int (x0.g 2).n,T.str (x0.g 3).s,T.bool (x0.g 4).b,T.bool false,T.bool (x0.g 6).b,T.node (x0.g 7).k],aB true] else bif lt (x1.g 2).n (x0.g 2).n then bif gt (x0.g 1).n (x1.g 2).n then rt [aL [T.int 0,T.int 0,T.int 0,T.str ByteArray.empty,T.bool false,T.bool false,T.bool false,T.node []],aB false] else cl n i_R07_Single [aL [T.int (x0.g 0).n,T.int (x0.g 1).n,T.int (x1.g 2).n,T.str (x0.g 3).s,T.bool (x0.g 4).b,T.bool false,T.bool (x0.g 6).b,T.node (x0.g 7).k]] fun v2 => bif (!(r v2 0).b) == true then bif (x0.g 5).b == false then bif (x1.g 5).b then rt [aL [T.int (x0.g 0).n,T.int (x0.g 1).n,T.int (x1.g 2).n,T.str (x0.g 3).s,T.bool (x0.g 4).b,T.bool true,T.bool (x0.g 6).b,T.node (x0.g 7).k],aB true] else rt [aL [T.int (x0.g 0).n,T.int (x0.g 1).n,T.int (x1.g 2).n,T.str (x0.g 3).s,T.bool (x0.g 4).b,T.bool false,T.bool (x0.g 6).b,T.node (x0.g 7).k],aB true] else rt [aL [T.int (x0.g 0).n,T.int (x0.g 1).n,T.int (x1.g 2).n,T.str (x0.g 3).s,T.bool (x0.g 4).b,T.bool true,T.bool (x0.g 6).b,T.node (x0.g 7).k],aB true] else rt [aL [T.int (x0.g 0).n,T.int (x0.g 1).n,T.int (x1.g 2).n,T.str (x0.g 3).s,T.bool (x0.g 4).b,T.bool false,T.bool (x0.g 6).b,T.node (x0.g 7).k],aB true] else bif gt (x0.g 1).n (x0.g 2).n then rt [aL [T.int 0,T.int 0,T.int 0,T.str ByteArray.empty,T.bool false,T.bool false,T.bool false,T.node []],aB false] else cl n i_R07_Single [aL [T.int (x0.g 0).n,T.int (x0.g 1).n,T.int (x0.g 2).n,T.str (x0.g 3).s,T.bool (x0.g 4).b,T.bool false,T.bool (x0.g 6).b,T.node (x0.g 7).k]] fun v2 => bif (!(r v2 0).b) == true then bif (x0.g 5).b == false then bif (x1.g 5).b then rt [aL [T.int (x0.g 0).n,T.int (x0.g 1).n,T.int (x0.g 2).n,T.str (x0.g 3).s,T.bool (x0.g 4).b,T.bool true,T.bool (x0.g 6).b,T.node (x0.g 7).k],aB true] else rt [aL [T.int (x0.g 0).n,T.int (x0.g 1).n,T.int (x0.g 2).n,T.str (x0.g 3).s,T.bool (x0.g 4).b,T.bool false,T.bool (x0.g 6).b,T.node (x0.g 7).k],aB true] else rt [aL [T.int (x0.g 0).n,T.int (x0.g 1).n,T.int (x0.g 2).n,T.str (x0.g 3).s,T.bool (x0.g 4).b,T.bool true,T.bool (x0.g 6).b,T.node (x0.g 7).k],aB true] else rt [aL [T.int (x0.g 0).n,T.int (x0.g 1).n,T.int (x0.g 2).n,T.str (x0.g 3).s,T.bool (x0.g 4).b,T.bool false,T.bool (x0.g 6).b,T.node (x0.g 7).k],aB true] else bif (x0.g 4).b then bif gt (x1.g 1).n (x0.g 1).n then bif lt (x1.g 2).n (x0.g 2).n then bif gt (x1.g 1).n (x1.g 2).n then rt [aL [T.int 0,T.int 0,T.int 0,T.str ByteArray.empty,T.bool false,T.bool false,T.bool false,T.node []],aB false] else cl n i_R07_Single [aL [T.int (x0.g 0).n,T.int (x1.g 1).n,T.int (x1.g 2).n,T.str (x1.g 3).s,T.bool (x1.g 4).b,T.bool false,T.bool (x0.g 6).b,T.node (x0.g 7).k]] fun v2 => bif (!(r v2 0).b) == true then bif (x0.g 5).b == false then bif (x1.g 5).b then rt [aL [T.int (x0.g 0).n,T.int (x1.g 1).n,T.int (x1.g 2).n,T.str (x1.g 3).s,T.bool (x1.g 4).b,T.bool true,T.bool (x0.g 6).b,T.node (x0.g 7).k],aB true] else rt [aL [T.int (x0.g 0).n,T.int (x1.g 1).n,T.int (x1.g 2).n,T.str (x1.g 3).s,T.bool (x1.g 4).b,T.bool false,T.bool (x0.g 6).b,T.node (x0.g 7).k],aB true] else rt [aL [T.int (x0.g 0).n,T.int (x1.g 1).n,T.int (x1.g 2).n,T.str (x1.g 3).s,T.bool (x1.g 4).b,T.bool true,T.bool (x0.g 6).b,T.node (x0.g 7).k],aB true] else rt [aL [T.int (x0.g 0).n,T.int (x1.g 1).n,T.int (x1.g 2).n,T.str (x1.g 3).s,T.bool (x1.g 4).b,T.bool false,T.bool (x0.g 6).b,T.node (x0.g 7).k],aB true] else bif gt (x1.g 1).n (x0.g 2).n then rt [aL [T.int 0,T.int 0,T.int 0,T.str ByteArray.empty,T.bool false,T.bool false,T.bool false,T.node []],aB false] else cl n i_R07_Single [aL [T.int (x0.g 0).n,T.int (x1.g 1).n,T.int (x0.g 2).n,T.str (x1.g 3).s,T.bool (x1.g 4).b,T.bool false,T.bool (x0.g 6).b,T.node (x0.g 7).k]] fun v2 => bif (!(r v2 0).b) == true then bif (x0.g 5).b == false then bif (x1.g 5).b then rt [aL [T.int (x0.g 0).n,T.int (x1.g 1).n,T.int (x0.g 2).n,T.str (x1.g 3).s,T.bool (x1.g 4).b,T.bool true,T.bool (x0.g 6).b,T.node (x0.g 7).k],aB true] else rt [aL [T.int (x0.g 0).n,T.int (x1.g 1).n,T.int (x0.g 2).n,T.str (x1.g 3).s,T.bool (x1.g 4).b,T.bool false,T.bool (x0.g 6).b,T.node (x0.g 7).k],aB true] else rt [aL [T.int (x0.g 0).n,T.int (x1.g 1).n,T.int (x0.g 2).n,T.str (x1.g 3).s,T.bool (x1.g 4).b,T.bool true,T.bool (x0.g 6).b,T.node (x0.g 7).k],aB true] else rt [aL [T.int (x0.g 0).n,T.int (x1.g 1).n,T.int (x0.g 2).n,T.str (x1.g 3).s,T.bool (x1.g 4).b,T.bool false,T.bool (x0.g 6).b,T.node (x0.g 7).k],aB true] else bif lt (x1.g 2).n (x0.g 2).n then bif gt (x0.g 1).n (x1.g 2).n then rt [aL [T.int 0,T.int 0,T.int 0,T.str ByteArray.empty,T.bool false,T.bool false,T.bool false,T.node []],aB false] else cl n i_R07_Single [aL [T.int (x0.g 0).n,T.int (x0.g 1).n,T.int (x1.g 2).n,T.str (x1.g 3).s,T.bool (x1.g 4).b,T.bool false,T.bool (x0.g 6).b,T.node (x0.g 7).k]] fun v2 => bif (!(r v2 0).b) == true then bif (x0.g 5).b == false then bif (x1.g 5).b then rt [aL [T.int (x0.g 0).n,T.int (x0.g 1).n,T.int (x1.g 2).n,T.str (x1.g 3).s,T.bool (x1.g 4).b,T.bool true,T.bool (x0.g 6).b,T.node (x0.g 7).k],aB true] else rt [aL [T.int (x0.g 0).n,T.int (x0.g 1).n,T.int (x1.g 2).n,T.str (x1.g 3).s,T.bool (x1.g 4).b,T.bool false,T.bool (x0.g 6).b,T.node (x0.g 7).k],aB true] else rt [aL [T.int (x0.g 0).n,T.int (x0.g 1).n,T.int (x1.g 2).n,T.str (x1.g 3).s,T.bool (x1.g 4).b,T.bool true,T.bool (x0.g 6).b,T.node (x0.g 7).k],aB true] else rt [aL [T.int (x0.g 0).n,T.int (x0.g 1).n,T.int (x1.g 2).n,T.str (x1.g 3).s,T.bool (x1.g 4).b,T.bool false,T.bool (x0.g 6).b,T.node (x0.g 7).k],aB true] else bif gt (x0.g 1).n (x0.g 2).n then rt [aL [T.int 0,T.int 0,T.int 0,T.str ByteArray.empty,T.bool false,T.bool false,T.bool false,T.node []],aB false] else cl n i_R07_Single [aL [T.int (x0.g 0).n,T.int (x0.g 1).n,T.int (x0.g 2).n,T.str (x1.g 3).s,T.bool (x1.g 4).b,T.bool false,T.bool (x0.g 6).b,T.node (x0.g 7).k]] fun v2 => bif (!(r v2 0).b) == true then bif (x0.g 5).b == false then bif (x1.g 5).b then rt [aL [T.int (x0.g 0).n,T.int (x0.g 1).n,T.int (x0.g 2).n,T.str (x1.g 3).s,T.bool (x1.g 4).b,T.bool true,T.bool (x0.g 6).b,T.node (x0.g 7).k],aB true] else rt [aL [T.int (x0.g 0).n,T.int (x0.g 1).n,T.int (x0.g 2).n,T.str (x1.g 3).s,T.bool (x1.g 4).b,T.bool false,T.bool (x0.g 6).b,T.node (x0.g 7).k],aB true] else rt [aL [T.int (x0.g 0).n,T.int (x0.g 1).n,T.int (x0.g 2).n,T.str (x1.g 3).s,T.bool (x1.g 4).b,T.bool true,T.bool (x0.g 6).b,T.node (x0.g 7).k],aB true] else rt [aL [T.int (x0.g 0).n,T.int (x0.g 1).n,T.int (x0.g 2).n,T.str (x1.g 3).s,T.bool (x1.g 4).b,T.bool false,T.bool (x0.g 6).b,T.node (x0.g 7).k],aB true] else bif gt (x1.g 1).n (x0.g 1).n then bif lt (x1.g 2).n (x0.g 2).n then bif gt (x1.g 1).n (x1.g 2).n then rt [aL [T.int 0,T.int 0,T.int 0,T.str ByteArray.empty,T.bool false,T.bool false,T.bool false,T.node []],aB false] else cl n i_R07_Single [aL [T.int (x0.g 0).n,T.int (x1.g 1).n,T.int (x1.g 2).n,T.str (x0.g 3).s,T.bool (x0.g 4).b,T.bool false,T.bool (x0.g 6).b,T.node (x0.g 7).k]] fun v2 => bif (!(r v2 0).b) == true then bif (x0.g 5).b == false then bif (x1.g 5).b then rt [aL [T.int (x0.g 0).n,T.int (x1.g 1).n,T.int (x1.g 2).n,T.str (x0.g 3).s,T.bool (x0.g 4).b,T.bool true,T.bool (x0.g 6).b,T.node (x0.g 7).k],aB true] else rt [aL [T.int (x0.g 0).n,T.int (x1.g 1).n,T.int (x1.g 2).n,T.str (x0.g 3).s,T.bool (x0.g 4).b,T.bool false,T.bool (x0.g 6).b,T.node (x0.g 7).k],aB true] else rt [aL [T.int (x0.g 0).n,T.int (x1.g 1).n,T.int (x1.g 2).n,T.str (x0.g 3).s,T.bool (x0.g 4).b,T.bool true,T.bool (x0.g 6).b,T.node (x0.g 7).k],aB true] else rt [aL [T.int (x0.g 0).n,T.int (x1.g 1).n,T.int (x1.g 2).n,T.str (x0.g 3).s,T.bool (x0.g 4).b,T.bool false,T.bool (x0.g 6).b,T.node (x0.g 7).k],aB true] else bif gt (x1.g 1).n (x0.g 2).n then rt [aL [T.int 0,T.int 0,T.int 0,T.str ByteArray.empty,T.bool false,T.bool false,T.bool false,T.node []],aB false] else cl n i_R07_Single [aL [T.int (x0.g 0).n,T.int (x1.g 1).n,T.int (x0.g 2).n,T.str (x0.g 3).s,T.bool (x0.g 4).b,T.bool false,T.bool (x0.g 6).b,T.node (x0.g 7).k]] fun v2 => bif (!(r v2 0).b) == true then bif (x0.g 5).b == false then bif (x1.g 5).b then rt [aL [T.int (x0.g 0).n,T.int (x1.g 1).n,T.int (x0.g 2).n,T.str (x0.g 3).s,T.bool (x0.g 4).b,T.bool true,T.bool (x0.g 6).b,T.node (x0.g 7).k],aB true] else rt [aL [T.int (x0.g 0).n,T.int (x1.g 1).n,T.int (x0.g 2).n,T.str (x0.g 3).s,T.bool (x0.g 4).b,T.bool false,T.bool (x0.g 6).b,T.node (x0.g 7).k],aB true] else rt [aL [T.int (x0.g 0).n,T.int (x1.g 1).n,T.int (x0.g 2).n,T.str (x0.g 3).s,T.bool (x0.g 4).b,T.bool true,T.bool (x0.g 6).b,T.node (x0.g 7).k],aB true] else rt [aL [T.int (x0.g 0).n,T.int (x1.g 1).n,T.int (x0.g 2).n,T.str (x0.g 3).s,T.bool (x0.g 4).b,T.bool false,T.bool (x0.g 6).b,T.node (x0.g 7).k],aB true] else bif lt (x1.g 2).n (x0.g 2).n then bif gt (x0.g 1).n (x1.g 2).n then rt [aL [T.int 0,T.int 0,T.int 0,T.str ByteArray.empty,T.bool false,T.bool false,T.bool false,T.node []],aB false] else cl n i_R07_Single [aL [T.int (x0.g 0).n,T.int (x0.g 1).n,T.int (x1.g 2).n,T.str (x0.g 3).s,T.bool (x0.g 4).b,T.bool false,T.bool (x0.g 6).b,T.node (x0.g 7).k]] fun v2 => bif (!(r v2 0).b) == true then bif (x0.g 5).b == false then bif (x1.g 5).b then rt [aL [T.int (x0.g 0).n,T.int (x0.g 1).n,T.int (x1.g 2).n,T.str (x0.g 3).s,T.bool (x0.g 4).b,T.bool true,T.bool (x0.g 6).b,T.node (x0.g 7).k],aB true] else rt [aL [T.int (x0.g 0).n,T.int (x0.g 1).n,T.int (x1.g 2).n,T.str (x0.g 3).s,T.bool (x0.g 4).b,T.bool false,T.bool (x0.g 6).b,T.node (x0.g 7).k],aB true] else rt [aL [T.int (x0.g 0).n,T.int (x0.g 1).n,T.int (x1.g 2).n,T.str (x0.g 3).s,T.bool (x0.g 4).b,T.bool true,T.bool (x0.g 6).b,T.node (x0.g 7).k],aB true] else rt [aL [T.int (x0.g 0).n,T.int (x0.g 1).n,T.int (x1.g 2).n,T.str (x0.g 3).s,T.bool (x0.g 4).b,T.bool false,T.bool (x0.g 6).b,T.node (x0.g 7).k],aB true] else bif gt (x0.g 1).n (x0.g 2).n then rt [aL [T.int 0,T.int 0,T.int 0,T.str ByteArray.empty,T.bool false,T.bool false,T.bool false,T.node []],aB false] else cl n i_R07_Single [aL [T.int (x0.g 0).n,T.int (x0.g 1).n,T.int (x0.g 2).n,T.str (x0.g 3).s,T.bool (x0.g 4).b,T.bool false,T.bool (x0.g 6).b,T.node (x0.g 7).k]] fun v2 => bif (!(r v2 0).b) == true then bif (x0.g 5).b == false then bif (x1.g 5).b then rt [aL [T.int (x0.g 0).n,T.int (x0.g 1).n,T.int (x0.g 2).n,T.str (x0.g 3).s,T.bool (x0.g 4).b,T.bool true,T.bool (x0.g 6).b,T.node (x0.g 7).k],aB true] else rt [aL [T.int (x0.g 0).n,T.int (x0.g 1).n,T.int (x0.g 2).n,T.str (x0.g 3).s,T.bool (x0.g 4).b,T.bool false,T.bool (x0.g 6).b,T.node (x0.g 7).k],aB true] else rt [aL [T.int (x0.g 0).n,T.int (x0.g 1).n,T.int (x0.g 2).n,T.str (x0.g 3).s,T.bool (x0.g 4).b,T.bool true,T.bool (x0.g 6).b,T.node (x0.g 7).k],aB true] else rt [aL [T.int (x0.g 0).n,T.int (x0.g 1).n,T.int (x0.g 2).n,T.str (x0.g 3).s,T.bool (x0.g 4).b,T.bool false,T.bool (x0.g 6).b,T.node (x0.g 7).k],aB true] else bif (x0.g 4).b then bif gt (x1.g 1).n (x0.g 1).n then bif lt (x1.g 2).n (x0.g 2).n then bif gt (x1.g 1).n (x1.g 2).n then rt [aL [T.int 0,T.int 0,T.int 0,T.str ByteArray.empty,T.bool false,T.bool false,T.bool false,T.node []],aB false] else cl n i_R07_Single [aL [T.int (x0.g 0).n,T.int (x1.g 1).n,T.int (x1.g 2).n,T.str (x1.g 3).s,T.bool (x1.g 4).b,T.bool false,T.bool (x0.g 6).b,T.node (x0.g 7).k]] fun v2 => bif (!(r v2 0).b) == true then bif (x0.g 5).b == false then bif (x1.g 5).b then rt [aL [T.int (x0.g 0).n,T.int (x1.g 1).n,T.int (x1.g 2).n,T.str (x1.g 3).s,T.bool (x1.g 4).b,T.bool true,T.bool (x0.g 6).b,T.node (x0.g 7).k],aB true] else rt [aL [T.int (x0.g 0).n,T.int (x1.g 1).n,T.int (x1.g 2).n,T.str (x1.g 3).s,T.bool (x1.g 4).b,T.bool false,T.bool (x0.g 6).b,T.node (x0.g 7).k],aB true] else rt [aL [T.int (x0.g 0).n,T.int (x1.g 1).n,T.int (x1.g 2).n,T.str (x1.g 3).s,T.bool (x1.g 4).b,T.bool true,T.bool (x0.g 6).b,T.node (x0.g 7).k],aB true] else rt [aL [T.int (x0.g 0).n,T.int (x1.g 1).n,T.int (x1.g 2).n,T.str (x1.g 3).s,T.bool (x1.g 4).b,T.bool false,T.bool (x0.g 6).b,T.node (x0.g 7).k],aB true] else bif gt (x1.g 1).n (x0.g 2).n then rt [aL [T.int 0,T.int 0,T.int 0,T.str ByteArray.empty,T.bool false,T.bool false,T.bool false,T.node []],aB false] else cl n i_R07_Single [aL [T.int (x0.g 0).n,T.int (x1.g 1).n,T.int (x0.g 2).n,T.str (x1.g 3).s,T.bool (x1.g 4).b,T.bool false,T.bool (x0.g 6).b,T.node (x0.g 7).k]] fun v2 => bif (!(r v2 0).b) == true then bif (x0.g 5).b == false then bif (x1.g 5).b then rt [aL [T.int (x0.g 0).n,T.int (x1.g 1).n,T.int (x0.g 2).n,T.str (x1.g 3).s,T.bool (x1.g 4).b,T.bool true,T.bool (x0.g 6).b,T.node (x0.g 7).k],aB true] else rt [aL [T.int (x0.g 0).n,T.int (x1.g 1).n,T.int (x0.g 2).n,T.str (x1.g 3).s,T.bool (x1.g 4).b,T.bool false,T.bool (x0.g 6).b,T.node (x0.g 7).k],aB true] else rt [aL [T.int (x0.g 0).n,T.int (x1.g 1).n,T.int (x0.g 2).n,T.str (x1.g 3).s,T.bool (x1.g 4).b,T.bool true,T.bool (x0.g 6).b,T.node (x0.g 7).k],aB true] else rt [aL [T.int (x0.g 0).n,T.int (x1.g 1).n,T.int (x0.g 2).n,T.str (x1.g 3).s,T.bool (x1.g 4).b,T.bool false,T.bool (x0.g 6).b,T.node (x0.g 7).k],aB true] else bif lt (x1.g 2).n (x0.g 2).n then bif gt (x0.g 1).n (x1.g 2).n then rt [aL [T.int 0,T.int 0,T.int 0,T.str ByteArray.empty,T.bool false,T.bool false,T.bool false,T.node []],aB false] else cl n i_R07_Single [aL [T.int (x0.g 0).n,T.int (x0.g 1).n,T.int (x1.g 2).n,T.str (x1.g 3).s,T.bool (x1.g 4).b,T.bool false,T.bool (x0.g 6).b,T.node (x0.g 7).k]] fun v2 => bif (!(r v2 0).b) == true then bif (x0.g 5).b == false then bif (x1.g 5).b then rt [aL [T.int (x0.g 0).n,T.int (x0.g 1).n,T.int (x1.g 2).n,T.str (x1.g 3).s,T.bool (x1.g 4).b,T.bool true,T.bool (x0.g 6).b,T.node (x0.g 7).k],aB true] else rt [aL [T.int (x0.g 0).n,T.int (x0.g 1).n,T.int (x1.g 2).n,T.str (x1.g 3).s,T.bool (x1.g 4).b,T.bool false,T.bool (x0.g 6).b,T.node (x0.g 7).k],aB true] else rt [aL [T.int (x0.g 0).n,T.int (x0.g 1).n,T.int (x1.g 2).n,T.str (x1.g 3).s,T.bool (x1.g 4).b,T.bool true,T.bool (x0.g 6).b,T.node (x0.g 7).k],aB true] else rt [aL [T.int (x0.g 0).n,T.int (x0.g 1).n,T.int (x1.g 2).n,T.str (x1.g 3).s,T.bool (x1.g 4).b,T.bool false,T.bool (x0.g 6).b,T.node (x0.g 7).k],aB true] else bif gt (x0.g 1).n (x0.g 2).n then rt [aL [T.int 0,T.int 0,T.int 0,T.str ByteArray.empty,T.bool false,T.bool false,T.bool false,T.node []],aB false] else cl n i_R07_Single [aL [T.int (x0.g 0).n,T.int (x0.g 1).n,T.int (x0.g 2).n,T.str (x1.g 3).s,T.bool (x1.g 4).b,T.bool false,T.bool (x0.g 6).b,T.node (x0.g 7).k]] fun v2 => bif (!(r v2 0).b) == true then bif (x0.g 5).b == false then bif (x1.g 5).b then rt [aL [T.int (x0.g 0).n,T.int (x0.g 1).n,T.int (x0.g 2).n,T.str (x1.g 3).s,T.bool (x1.g 4).b,T.bool true,T.bool (x0.g 6).b,T.node (x0.g 7).k],aB true] else rt [aL [T.int (x0.g 0).n,T.int (x0.g 1).n,T.int (x0.g 2).n,T.str (x1.g 3).s,T.bool (x1.g 4).b,T.bool false,T.bool (x0.g 6).b,T.node (x0.g 7).k],aB true] else rt [aL [T.int (x0.g 0).n,T.int (x0.g 1).n,T.int (x0.g 2).n,T.str (x1.g 3).s,T.bool (x1.g 4).b,T.bool true,T.bool (x0.g 6).b,T.node (x0.g 7).k],aB true] else rt [aL [T.int (x0.g 0).n,T.int (x0.g 1).n,T.int (x0.g 2).n,T.str (x1.g 3).s,T.bool (x1.g 4).b,T.bool false,T.bool (x0.g 6).b,T.node (x0.g 7).k],aB true] else bif gt (x1.g 1).n (x0.g 1).n then bif lt (x1.g 2).n (x0.g 2).n then bif gt (x1.g 1).n (x1.g 2).n then rt [aL [T.int 0,T.int 0,T.int 0,T.str ByteArray.empty,T.bool false,T.bool false,T.bool false,T.node []],aB false] else cl n i_R07_Single [aL [T.int (x0.g 0).n,T.int (x1.g 1).n,T.int (x1.g 2).n,T.str (x0.g 3).s,T.bool (x0.g 4).b,T.bool false,T.bool (x0.g 6).b,T.node (x0.g 7).k]] fun v2 => bif (!(r v2 0).b) == true then bif (x0.g 5).b == false then bif (x1.g 5).b then rt [aL [T.int (x0.g 0).n,T.int (x1.g 1).n,T.int (x1.g 2).n,T.str (x0.g 3).s,T.bool (x0.g 4).b,T.bool true,T.bool (x0.g 6).b,T.node (x0.g 7).k],aB true] else rt [aL [T.int (x0.g 0).n,T.int (x1.g 1).n,T.int (x1.g 2).n,T.str (x0.g 3).s,T.bool (x0.g 4).b,T.bool false,T.bool (x0.g 6).b,T.node (x0.g 7).k],aB true] else rt [aL [T.int (x0.g 0).n,T.int (x1.g 1).n,T.int (x1.g 2).n,T.str (x0.g 3).s,T.bool (x0.g 4).b,T.bool true,T.bool (x0.g 6).b,T.node (x0.g 7).k],aB true] else rt [aL [T.int (x0.g 0).n,T.int (x1.g 1).n,T.int (x1.g 2).n,T.str (x0.g 3).s,T.bool (x0.g 4).b,T.bool false,T.bool (x0.g 6).b,T.node (x0.g 7).k],aB true] else bif gt (x1.g 1).n (x0.g 2).n then rt [aL [T.int 0,T.int 0,T.int 0,T.str ByteArray.empty,T.bool false,T.bool false,T.bool false,T.node []],aB false] else cl n i_R07_Single [aL [T.int (x0.g 0).n,T.int (x1.g 1).n,T.int (x0.g 2).n,T.str (x0.g 3).s,T.bool (x0.g 4).b,T.bool false,T.bool (x0.g 6).b,T.node (x0.g 7).k]] fun v2 => bif (!(r v2 0).b) == true then bif (x0.g 5).b == false then bif (x1.g 5).b then rt [aL [T.int (x0.g 0).n,T.int (x1.g 1).n,T.int (x0.g 2).n,T.str (x0.g 3).s,T.bool (x0.g 4).b,T.bool true,T.bool (x0.g 6).b,T.node (x0.g 7).k],aB true] else rt [aL [T.int (x0.g 0).n,T.int (x1.g 1).n,T.int (x0.g 2).n,T.str (x0.g 3).s,T.bool (x0.g 4).b,T.bool false,T.bool (x0.g 6).b,T.node (x0.g 7).k],aB true] else rt [aL [T.int (x0.g 0).n,T.int (x1.g 1).n,T.int (x0.g 2).n,T.str (x0.g 3).s,T.bool (x0.g 4).b,T.bool true,T.bool (x0.g 6).b,T.node (x0.g 7).k],aB true] else rt [aL [T.int (x0.g 0).n,T.int (x1.g 1).n,T.int (x0.g 2).n,T.str (x0.g 3).s,T.bool (x0.g 4).b,T.bool false,T.bool (x0.g 6).b,T.node (x0.g 7).k],aB true] else bif lt (x1.g 2).n (x0.g 2).n then bif gt (x0.g 1).n (x1.g 2).n then rt [aL [T.int 0,T.int 0,T.int 0,T.str ByteArray.empty,T.bool false,T.bool false,T.bool false,T.node []],aB false] else cl n i_R07_Single [aL [T.int (x0.g 0).n,T.int (x0.g 1).n,T.int (x1.g 2).n,T.str (x0.g 3).s,T.bool (x0.g 4).b,T.bool false,T.bool (x0.g 6).b,T.node (x0.g 7).k]] fun v2 => bif (!(r v2 0).b) == true then bif (x0.g 5).b == false then bif (x1.g 5).b then rt [aL [T.int (x0.g 0).n,T.int (x0.g 1).n,T.int (x1.g 2).n,T.str (x0.g 3).s,T.bool (x0.g 4).b,T.bool true,T.bool (x0.g 6).b,T.node (x0.g 7).k],aB true] else rt [aL [T.int (x0.g 0).n,T.int (x0.g 1).n,T.int (x1.g 2).n,T.str (x0.g 3).s,T.bool (x0.g 4).b,T.bool false,T.bool (x0.g 6).b,T.node (x0.g 7).k],aB true] else rt [aL [T.int (x0.g 0).n,T.int (x0.g 1).n,T.int (x1.g 2).n,T.str (x0.g 3).s,T.bool (x0.g 4).b,T.bool true,T.bool (x0.g 6).b,T.node (x0.g 7).k],aB true] else rt [aL [T.int (x0.g 0).n,T.int (x0.g 1).n,T.int (x1.g 2).n,T.str (x0.g 3).s,T.bool (x0.g 4).b,T.bool false,T.bool (x0.g 6).b,T.node (x0.g 7).k],aB true] else bif gt (x0.g 1).n (x0.g 2).n then rt [aL [T.int 0,T.int 0,T.int 0,T.str ByteArray.empty,T.bool false,T.bool false,T.bool false,T.node []],aB false] else cl n i_R07_Single [aL [T.int (x0.g 0).n,T.int (x0.g 1).n,T.int (x0.g 2).n,T.str (x0.g 3).s,T.bool (x0.g 4).b,T.bool false,T.bool (x0.g 6).b,T.node (x0.g 7).k]] fun v2 => bif (!(r v2 0).b) == true then bif (x0.g 5).b == false then bif (x1.g 5).b then rt [aL [T.int (x0.g 0).n,T.int (x0.g 1).n,T.int (x0.g 2).n,T.str (x0.g 3).s,T.bool (x0.g 4).b,T.bool true,T.bool (x0.g 6).b,T.node (x0.g 7).k],aB true] else rt [aL [T.int (x0.g 0).n,T.int (x0.g 1).n,T.int (x0.g 2).n,T.str (x0.g 3).s,T.bool (x0.g 4).b,T.bool false,T.bool (x0.g 6).b,T.node (x0.g 7).k],aB true] else rt [aL [T.int (x0.g 0).n,T.int (x0.g 1).n,T.int (x0.g 2).n,T.str (x0.g 3).s,T.bool (x0.g 4).b,T.bool true,T.bool (x0.g 6).b,T.node (x0.g 7).k],aB true] else rt [aL [T.int (x0.g 0).n,T.int (x0.g 1).n,T.int (x0.g 2).n,T.str (x0.g 3).s,T.bool (x0.g 4).b,T.bool false,T.bool (x0.g 6).b,T.node (x0.g 7).k],aB true] else bif gt (x1.g 1).n (x0.g 1).n then bif lt (x1.g 2).n (x0.g 2).n then bif gt (x1.g 1).n (x1.g 2).n then rt [aL [T.int 0,T.int 0,T.int 0,T.str ByteArray.empty,T.bool false,T.bool false,T.bool false,T.node []],aB false] else cl n i_R07_Single [aL [T.int (x0.g 0).n,T.int (x1.g 1).n,T.int (x1.g 2).n,T.str (x0.g 3).s,T.bool (x0.g 4).b,T.bool false,T.bool (x0.g 6).b,T.node (x0.g 7).k]] fun v2 => bif (!(r v2 0).b) == true then bif (x0.g 5).b == false then bif (x1.g 5).b then rt [aL [T.int (x0.g 0).n,T.int (x1.g 1).n,T.int (x1.g 2).n,T.str (x0.g 3).s,T.bool (x0.g 4).b,T.bool true,T.bool (x0.g 6).b,T.node (x0.g 7).k],aB true] else rt [aL [T.int (x0.g 0).n,T.int (x1.g 1).n,T.int (x1.g 2).n,T.str (x0.g 3).s,T.bool (x0.g 4).b,T.bool false,T.bool (x0.g 6).b,T.node (x0.g 7).k],aB true] else rt [aL [T.int (x0.g 0).n,T.int (x1.g 1).n,T.int (x1.g 2).n,T.str (x0.g 3).s,T.bool (x0.g 4).b,T.bool true,T.bool (x0.g 6).b,T.node (x0.g 7).k],aB true] else rt [aL [T.int (x0.g 0).n,T.int (x1.g 1).n,T.int (x1.g 2).n,T.str (x0.g 3).s,T.bool (x0.g 4).b,T.bool false,T.bool (x0.g 6).b,T.node (x0.g 7).k],aB true] else bif gt (x1.g 1).n (x0.g 2).n then rt [aL [T.int 0,T.int 0,T.int 0,T.str ByteArray.empty,T.bool false,T.bool false,T.bool false,T.node []],aB false] else cl n i_R07_Single [aL [T.int (x0.g 0).n,T.int (x1.g 1).n,T.int (x0.g 2).n,T.str (x0.g 3).s,T.bool (x0.g 4).b,T.bool false,T.bool (x0.g 6).b,T.node (x0.g 7).k]] fun v2 => bif (!(r v2 0).b) == true then bif (x0.g 5).b == false then bif (x1.g 5).b then rt [aL [T.int (x0.g 0).n,T.int (x1.g 1).n,T.int (x0.g 2).n,T.str (x0.g 3).s,T.bool (x0.g 4).b,T.bool true,T.bool (x0.g 6).b,T.node (x0.g 7).k],aB true] else rt [aL [T.int (x0.g 0).n,T.int (x1.g 1).n,T.int (x0.g 2).n,T.str (x0.g 3).s,T.bool (x0.g 4).b,T.bool false,T.bool (x0.g 6).b,T.node (x0.g 7).k],aB true] else rt [aL [T.int (x0.g 0).n,T.int (x1.g 1).n,T.int (x0.g 2).n,T.str (x0.g 3).s,T.bool (x0.g 4).b,T.bool true,T.bool (x0.g 6).b,T.node (x0.g 7).k],aB true] else rt [aL [T.int (x0.g 0).n,T.int (x1.g 1).n,T.int (x0.g 2).n,T.str (x0.g 3).s,T.bool (x0.g 4).b,T.bool false,T.bool (x0.g 6).b,T.node (x0.g 7).k],aB true] else bif lt (x1.g 2).n (x0.g 2).n then bif gt (x0.g 1).n (x1.g 2).n then rt [aL [T.int 0,T.int 0,T.int 0,T.str ByteArray.empty,T.bool false,T.bool false,T.bool false,T.node []],aB false] else cl n i_R07_Single [aL [T.int (x0.g 0).n,T.int (x0.g 1).n,T.int (x1.g 2).n,T.str (x0.g 3).s,T.bool (x0.g 4).b,T.bool false,T.bool (x0.g 6).b,T.node (x0.g 7).k]] fun v2 => bif (!(r v2 0).b) == true then bif (x0.g 5).b == false then bif (x1.g 5).b then rt [aL [T.int (x0.g 0).n,T.int (x0.g 1).n,T.int (x1.g 2).n,T.str (x0.g 3).s,T.bool (x0.g 4).b,T.bool true,T.bool (x0.g 6).b,T.node (x0.g 7).k],aB true] else rt [aL [T.int (x0.g 0).n,T.int (x0.g 1).n,T.int (x1.g 2).n,T.str (x0.g 3).s,T.bool (x0.g 4).b,T.bool false,T.bool (x0.g 6).b,T.node (x0.g 7).k],aB true] else rt [aL [T.int (x0.g 0).n,T.int (x0.g 1).n,T.int (x1.g 2).n,T.str (x0.g 3).s,T.bool (x0.g 4).b,T.bool true,T.bool (x0.g 6).b,T.node (x0.g 7).k],aB true] else rt [aL [T.int (x0.g 0).n,T.int (x0.g 1).n,T.int (x1.g 2).n,T.str (x0.g 3).s,T.bool (x0.g 4).b,T.bool false,T.bool (x0.g 6).b,T.node (x0.g 7).k],aB true] else bif gt (x0.g 1).n (x0.g 2).n then rt [aL [T.int 0,T.int 0,T.int 0,T.str ByteArray.empty,T.bool false,T.bool false,T.bool false,T.node []],aB false] else cl n i_R07_Single [aL [T.int (x0.g 0).n,T.int (x0.g 1).n,T.int (x0.g 2).n,T.str (x0.g 3).s,T.bool (x0.g 4).b,T.bool false,T.bool (x0.g 6).b,T.node (x0.g 7).k]] fun v2 => bif (!(r v2 0).b) == true then bif (x0.g 5).b == false then bif (x1.g 5).b then rt [aL [T.int (x0.g 0).n,T.int (x0.g 1).n,T.int (x0.g 2).n,T.str (x0.g 3).s,T.bool (x0.g 4).b,T.bool true,T.bool (x0.g 6).b,T.node (x0.g 7).k],aB true] else rt [aL [T.int (x0.g 0).n,T.int (x0.g 1).n,T.int (x0.g 2).n,T.str (x0.g 3).s,T.bool (x0.g 4).b,T.bool false,T.bool (x0.g 6).b,T.node (x0.g 7).k],aB true] else rt [aL [T.int (x0.g 0).n,T.int (x0.g 1).n,T.int (x0.g 2).n,T.str (x0.g 3).s,T.bool (x0.g 4).b,T.bool true,T.bool (x0.g 6).b,T.node (x0.g 7).k],aB true] else rt [aL [T.int (x0.g 0).n,T.int (x0.g 1).n,T.int (x0.g 2).n,T.str (x0.g 3).s,T.bool (x0.g 4).b,T.bool false,T.bool (x0.g 6).b,T.node (x0.g 7).k],aB true] else rt [aL [T.int 0,T.int 0,T.int 0,T.str ByteArray.empty,T.bool false,T.bool false,T.bool false,T.node []],aB false] else rt [aL [T.int 0,T.int 0,T.int 0,T.str ByteArray.empty,T.bool false,T.bool false,T.bool false,T.node []],aB false] := by kernel_rfl
theorem q_R07_Same (n : Nat) (x0 x1 : T) : den Tryz.prog G0 ents (Nat.succ n) i_R07_Same none [A.t x0, A.t x1] =
  cl n i_R07_Right [A.t x0] fun v0 => bif (!(r v0 0).b) == false then cl n i_R07_Right [A.t x1] fun v1 => bif !(r v1 0).b then rt [aB false] else bif ((x0.g 0).n == (x1.g 0).n) == true then bif ((x0.g 1).n == (x1.g 1).n) == true then bif ((x0.g 2).n == (x1.g 2).n) == true then bif seqB (x0.g 3).s (x1.g 3).s == true then bif ((x0.g 4).b == (x1.g 4).b) == true then rt [aB ((x0.g 5).b == (x1.g 5).b)] else rt [aB false] else rt [aB false] else rt [aB false] else rt [aB false] else rt [aB false] else rt [aB false] := by kernel_rfl
theorem q_R09_Find (n : Nat) (x0 x1 : T) : den Tryz.prog G0 ents (Nat.succ n) i_R09_Find none [A.t x0, A.t x1] =
  lp n i_R09_Find p_R09_Find_c1 [aL x0.k,aS x1.s,aI 0] fun v0 => bif Nat.beq v0.1 2 then rt [aI (-1)] else bif Nat.beq v0.1 1 then rt [aI (r v0.2 0).n] else none := by kernel_rfl
theorem q_R09_Find_c1 (n : Nat) (x0 x1 x2 : T) : den Tryz.prog G0 ents (Nat.succ n) i_R09_Find (some p_R09_Find_c1) [A.t x0, A.t x1, A.t x2] =
  bif lt x2.n x0.l then bif ib x2.n x0.l then bif seqB ((x0.a x2.n).g 0).s x1.s then rt [aI x2.n] else D n i_R09_Find (some p_R09_Find_c1) [aL x0.k,aS x1.s,aI (w6 (x2.n + 1))] else none else some (2,[]) := by kernel_rfl
theorem q_R09_Under (n : Nat) (x0 x1 : T) : den Tryz.prog G0 ents (Nat.succ n) i_R09_Under none [A.t x0, A.t x1] =
  lp n i_R09_Under p_R09_Under_c1 [aI 0,A.t x0,A.t x1] fun v0 => bif Nat.beq v0.1 2 then rt [aB true] else bif Nat.beq v0.1 1 then rt [aB (r v0.2 0).b] else none := by kernel_rfl
theorem q_R09_Under_c1 (n : Nat) (x0 x1 x2 : T) : den Tryz.prog G0 ents (Nat.succ n) i_R09_Under (some p_R09_Under_c1) [A.t x0, A.t x1, A.t x2] =
  bif lt x0.n (x1.g 0).l then lp n i_R09_Under p_R09_Under_c2 [aI x0.n,aB false,aI 0,A.t x1,A.t x2] fun v0 => bif Nat.beq v0.1 4 then bif !(r v0.2 1).b then rt [aB false] else D n i_R09_Under (some p_R09_Under_c1) [aI (w6 ((r v0.2 0).n + 1)),A.t (r v0.2 2),A.t (r v0.2 3)] else none else some (2,[]) := by kernel_rfl
theorem q_R09_Under_c2 (n : Nat) (x0 x1 x2 x3 x4 : T) : den Tryz.prog G0 ents (Nat.succ n) i_R09_Under (some p_R09_Under_c2) [A.t x0, A.t x1, A.t x2, A.t x3, A.t x4] =
  bif lt x2.n (x4.g 0).l == true then bif !x1.b then bif ib x0.n (x3.g 0).l then bif ib x2.n (x4.g 0).l then cl n i_R09_under [A.t ((x3.g 0).a x0.n),A.t ((x4.g 0).a x2.n)] fun v0 => D n i_R09_Under (some p_R09_Under_c2) [aI x0.n,aB (r v0 0).b,aI (w6 (x2.n + 1)),A.t x3,A.t x4] else none else none else some (4,[aI x0.n,aB x1.b,A.t x3,A.t x4]) else some (4,[aI x0.n,aB x1.b,A.t x3,A.t x4]) := by kernel_rfl
theorem q_R08_Same (n : Nat) (x0 x1 : T) : den Tryz.prog G0 ents (Nat.succ n) i_R08_Same none [A.t x0, A.t x1] =
  cl n i_R08_Compare [A.t x0,A.t x1] fun v0 => rt [aB ((r v0 0).n == 0)] := by kernel_rfl
theorem q_R11_Plain (n : Nat) (x0 x1 : T) : den Tryz.prog G0 ents (Nat.succ n) i_R11_Plain none [A.t x0, A.t x1] =
  cl n i_R11_One [A.t x0] fun v0 => bif (r v0 1).n != 0 then rt [aL [T.int 0,T.int 0,T.int 0,T.str ByteArray.empty,T.bool false,T.bool false,T.bool false,T.node []],aB false,aI (r v0 1).n] else bif ((r v0 0).g 0).n != x1.n then rt [aL [T.int 0,T.int 0,T.int 0,T.str ByteArray.empty,T.bool false,T.bool false,T.bool false,T.node []],aB false,aI 27] else bif ((r v0 0).g 5).b then rt [aL [T.int 0,T.int 0,T.int 0,T.str ByteArray.empty,T.bool false,T.bool false,T.bool false,T.node []],aB true,aI 0] else cl n i_R07_Single [A.t (r v0 0)] fun v1 => bif !(r v1 0).b then rt [aL [T.int 0,T.int 0,T.int 0,T.str ByteArray.empty,T.bool false,T.bool false,T.bool false,T.node []],aB false,aI 28] else rt [A.t (r v0 0),aB false,aI 0] := by kernel_rfl
theorem q_fact_Text (n : Nat) (x0 : T) : den Tryz.prog G0 ents (Nat.succ n) i_fact_Text none [A.t x0] =
  cl n i_fact_plain [A.t x0,aI 3] fun v0 => rt [aS ((r v0 0).g 3).s,aB (r v0 1).b,aI (r v0 2).n] := by kernel_rfl
theorem q_rank_first_o (n : Nat) (x0 : T) : den Tryz.prog G0 ents (Nat.succ n) i_rank_first_o none [A.t x0] =
  lp n i_rank_first_o p_rank_first_o_c1 [aI x0.l,aI 0,aL x0.k] fun v0 => bif Nat.beq v0.1 2 then rt [aI 0,aL (r v0.2 0).k] else bif Nat.beq v0.1 1 then rt [aI (r v0.2 0).n,aL (r v0.2 1).k] else none := by kernel_rfl
theorem q_rank_first_o_c1 (n : Nat) (x0 x1 x2 : T) : den Tryz.prog G0 ents (Nat.succ n) i_rank_first_o (some p_rank_first_o_c1) [A.t x0, A.t x1, A.t x2] =
  bif lt x1.n x0.n then bif ib x1.n x2.l then bif decide (Int.toNat x1.n < List.length x2.k) then bif (x2.a x1.n).n != 0 then rt [aI (x2.a x1.n).n,aL x2.k] else D n i_rank_first_o (some p_rank_first_o_c1) [aI x0.n,aI (w6 (x1.n + 1)),aL x2.k] else none else none else some (2,[aL x2.k]) := by kernel_rfl
theorem q_lat_Of_o (n : Nat) (x0 : T) : den Tryz.prog G0 ents (Nat.succ n) i_lat_Of_o none [A.t x0] =
  bif gt x0.l 512 then rt [aL [T.node []],aI 1,aL x0.k] else lp n i_lat_Of_o p_lat_Of_o_c1 [aI 1,aI x0.l,aI 0,aL x0.k,aL [T.node []]] fun v0 => bif Nat.beq v0.1 2 then bif gt (r v0.2 0).n 16 then rt [aL [T.node []],aI 22,aL (r v0.2 1).k] else cl n i_lat_settle_o [aL (r v0.2 1).k] fun v1 => rt [A.t (r v1 0),aI (r v1 1).n,aL (r v1 2).k] else bif Nat.beq v0.1 1 then rt [A.t (r v0.2 2),aI (r v0.2 0).n,aL (r v0.2 1).k] else none := by kernel_rfl
theorem q_lat_Of_o_c1 (n : Nat) (x0 x1 x2 x3 x4 : T) : den Tryz.prog G0 ents (Nat.succ n) i_lat_Of_o (some p_lat_Of_o_c1) [A.t x0, A.t x1, A.t x2, A.t x3, A.t x4] =
  bif lt x2.n x1.n then bif ib x2.n x3.l then bif decide (Int.toNat x2.n < List.length x3.k) then cl n i_lat_shaped [A.t (x3.a x2.n),aI 17] fun v0 => bif !(r v0 0).b then rt [aI 1,aL x3.k,aL [T.node []]] else cl n i_rank_Depth_o [aL [x3.a x2.n]] fun v1 => lp n i_lat_Of_o p_lat_Of_o_c2 [aI (maxI x0.n (r v1 0).n),aI x1.n,aI x2.n,aL ((x3.a x2.n).g 7).k,aI ((x3.a x2.n).g 7).l,aI 0,aL x3.k,A.t x4] fun v2 => bif Nat.beq v2.1 4 then D n i_lat_Of_o (some p_lat_Of_o_c1) [aI (r v2.2 0).n,aI (r v2.2 1).n,aI (w6 ((r v2.2 2).n + 1)),aL (r v2.2 3).k,A.t (r v2.2 4)] else bif Nat.beq v2.1 1 then rt [aI (r v2.2 0).n,aL (r v2.2 1).k,A.t (r v2.2 2)] else none else none else none else some (2,[aI x0.n,aL x3.k,A.t x4]) := by kernel_rfl
theorem q_lat_Of_o_c2 (n : Nat) (x0 x1 x2 x3 x4 x5 x6 x7 : T) : den Tryz.prog G0 ents (Nat.succ n) i_lat_Of_o (some p_lat_Of_o_c2) [A.t x0, A.t x1, A.t x2, A.t x3, A.t x4, A.t x5, A.t x6, A.t x7] =
  bif lt x5.n x4.n then bif ib x5.n x3.l then cl n i_lat_Right [A.t ((x3.a x5.n).g 1)] fun v0 => bif !(r v0 0).b then rt [aI 1,aL x6.k,aL [T.node []]] else D n i_lat_Of_o (some p_lat_Of_o_c2) [aI x0.n,aI x1.n,aI x2.n,aL x3.k,aI x4.n,aI (w6 (x5.n + 1)),aL x6.k,A.t x7] else none else some (4,[aI x0.n,aI x1.n,aI x2.n,aL x6.k,A.t x7]) := by kernel_rfl
theorem q_rank_Depth_o (n : Nat) (x0 : T) : den Tryz.prog G0 ents (Nat.succ n) i_rank_Depth_o none [A.t x0] =
  lp n i_rank_Depth_o p_rank_Depth_o_c1 [aI 0,aI x0.l,aI 0,aL x0.k] fun v0 => bif Nat.beq v0.1 2 then rt [aI (w6 ((r v0.2 0).n + 1)),aL (r v0.2 1).k] else none := by kernel_rfl
theorem q_rank_Depth_o_c1 (n : Nat) (x0 x1 x2 x3 : T) : den Tryz.prog G0 ents (Nat.succ n) i_rank_Depth_o (some p_rank_Depth_o_c1) [A.t x0, A.t x1, A.t x2, A.t x3] =
  bif lt x2.n x1.n then bif ib x2.n x3.l then bif decide (Int.toNat x2.n < List.length x3.k) then lp n i_rank_Depth_o p_rank_Depth_o_c2 [aI x0.n,aI x1.n,aI x2.n,aL ((x3.a x2.n).g 7).k,aI ((x3.a x2.n).g 7).l,aI 0,aL x3.k] fun v0 => bif Nat.beq v0.1 4 then D n i_rank_Depth_o (some p_rank_Depth_o_c1) [aI (r v0.2 0).n,aI (r v0.2 1).n,aI (w6 ((r v0.2 2).n + 1)),aL (r v0.2 3).k] else none else none else none else some (2,[aI x0.n,aL x3.k]) := by kernel_rfl
theorem q_rank_Depth_o_c2 (n : Nat) (x0 x1 x2 x3 x4 x5 x6 : T) : den Tryz.prog G0 ents (Nat.succ n) i_rank_Depth_o (some p_rank_Depth_o_c2) [A.t x0, A.t x1, A.t x2, A.t x3, A.t x4, A.t x5, A.t x6] =
  bif lt x5.n x4.n then bif ib x5.n x3.l then cl n i_rank_Depth [A.t ((x3.a x5.n).g 1)] fun v0 => D n i_rank_Depth_o (some p_rank_Depth_o_c2) [aI (maxI x0.n (r v0 0).n),aI x1.n,aI x2.n,aL x3.k,aI x4.n,aI (w6 (x5.n + 1)),aL x6.k] else none else some (4,[aI x0.n,aI x1.n,aI x2.n,aL x6.k]) := by kernel_rfl
theorem q_lat_settle_o (n : Nat) (x0 : T) : den Tryz.prog G0 ents (Nat.succ n) i_lat_settle_o none [A.t x0] =
  cl n i_slices_Clone_Term_o [aL x0.k] fun v0 => cl n i_slices_SortFunc_Term_Terms_o [aL (r v0 1).k] fun v1 => cl n i_slices_CompactFunc_Term_settle1_o [aL (r v1 0).k] fun v2 => lp n i_lat_settle_o p_lat_settle_o_c1 [aI (r v2 0).l,aI 0,aL (r v0 0).k,aL (r v2 0).k,aL [T.node []],aL []] fun v3 => bif Nat.beq v3.1 2 then cl n i_rank_Weight_o [aL (r v3.2 2).k] fun v4 => bif gt (r v4 0).n 512 then rt [aL [T.node []],aI 30,aL (r v3.2 0).k] else cl n i_rank_Copy_o [aL (r v4 1).k] fun v5 => rt [A.t (r v5 0),aI 0,aL (r v3.2 0).k] else none := by kernel_rfl
theorem q_lat_settle_o_c1 (n : Nat) (x0 x1 x2 x3 x4 x5 : T) : den Tryz.prog G0 ents (Nat.succ n) i_lat_settle_o (some p_lat_settle_o_c1) [A.t x0, A.t x1, A.t x2, A.t x3, A.t x4, A.t x5] =
  bif lt x1.n x0.n then bif ib x1.n x3.l then bif decide (Int.toNat x1.n < List.length x3.k) then lp n i_lat_settle_o p_lat_settle_o_c2 [aI x1.n,aI x0.n,aI x1.n,aI x3.l,aI 0,aL x2.k,aL x3.k,A.t x4,aL x5.k,A.t (x3.a x1.n)] fun v0 => bif Nat.beq v0.1 4 then bif decide (Nat.succ (List.length (r v0.2 5).k) < 1073741824) then D n i_lat_settle_o (some p_lat_settle_o_c1) [aI (r v0.2 0).n,aI (w6 ((r v0.2 1).n + 1)),aL (r v0.2 2).k,aL (r v0.2 3).k,A.t (r v0.2 4),aL ((r v0.2 5).k ++ [r v0.2 6])] else none else bif Nat.beq v0.1 3 then D n i_lat_settle_o (some p_lat_settle_o_c1) [aI (r v0.2 0).n,aI (w6 ((r v0.2 1).n + 1)),aL (r v0.2 2).k,aL (r v0.2 3).k,A.t (r v0.2 4),aL (r v0.2 5).k] else none else none else none else some (2,[aL x2.k,A.t x4,aL x5.k]) := by kernel_rfl
theorem q_lat_settle_o_c2 (n : Nat) (x0 x1 x2 x3 x4 x5 x6 x7 x8 x9 : T) : den Tryz.prog G0 ents (Nat.succ n) i_lat_settle_o (some p_lat_settle_o_c2) [A.t x0, A.t x1, A.t x2, A.t x3, A.t x4, A.t x5, A.t x6, A.t x7, A.t x8, A.t x9] =
  bif lt x4.n x3.n then bif ib x4.n x6.l then bif decide (Int.toNat x4.n < List.length x6.k) then bif (x0.n != x4.n) == true then cl n i_lat_below [A.t x9,A.t (x6.a x4.n)] fun v0 => bif (r v0 0).b then some (3,[aI x1.n,aI x2.n,aL x5.k,aL x6.k,A.t x7,aL x8.k]) else D n i_lat_settle_o (some p_lat_settle_o_c2) [aI x0.n,aI x1.n,aI x2.n,aI x3.n,aI (w6 (x4.n + 1)),aL x5.k,aL x6.k,A.t x7,aL x8.k,A.t x9] else D n i_lat_settle_o (some p_lat_settle_o_c2) [aI x0.n,aI x1.n,aI x2.n,aI x3.n,aI (w6 (x4.n + 1)),aL x5.k,aL x6.k,A.t x7,aL x8.k,A.t x9] else none else none else some (4,[aI x1.n,aI x2.n,aL x5.k,aL x6.k,A.t x7,aL x8.k,A.t x9]) := by kernel_rfl
end Go.Proofs.YtoekafpmpopigaaGreatDoorFP
set_option linter.unusedVariables false
set_option maxRecDepth 100000
namespace Go.Proofs.YtoekafpmpopigaaGreatDoorFP
open Go Go.Proofs.YtoekafpmpopigaaGreatDoorVM Go.Proofs
theorem q_slices_SortFunc_Term_Terms_o (n : Nat) (x0 : T) : den Tryz.prog G0 ents (Nat.succ n) i_slices_SortFunc_Term_Terms_o none [A.t x0] =
  cl n i_math_bits_Len [aI (wu x0.l)] fun v0 => cl n i_slices_pdqsortCmpFunc_Term_Terms_o [aI 0,aI x0.l,aI (r v0 0).n,aL x0.k] fun v1 => rt [aL (r v1 0).k] := by kernel_rfl
theorem q_slices_pdqsortCmpFunc_Term_Terms_o (n : Nat) (x0 x1 x2 x3 : T) : den Tryz.prog G0 ents (Nat.succ n) i_slices_pdqsortCmpFunc_Term_Terms_o none [A.t x0, A.t x1, A.t x2, A.t x3] =
  lp n i_slices_pdqsortCmpFunc_Term_Terms_o p_slices_pdqsortCmpFunc_Term_Terms_o_c1 [aI x0.n,aI x1.n,aI x2.n,aB true,aB true,aL x3.k] fun v0 => bif Nat.beq v0.1 1 then rt [aL (r v0.2 0).k] else none := by kernel_rfl
theorem q_slices_pdqsortCmpFunc_Term_Terms_o_c1 (n : Nat) (x1 x2 x5 : T) : den Tryz.prog G0 ents (Nat.succ n) i_slices_pdqsortCmpFunc_Term_Terms_o (some p_slices_pdqsortCmpFunc_Term_Terms_o_c1) [aI 0, A.t x1, A.t x2, aB true, aB true, A.t x5] =
  bif le (w6 (x1.n - 0)) 12 then cl n i_slices_insertionSortCmpFunc_Term_Terms_o [aI 0,aI x1.n,aL x5.k] fun v0 => rt [aL (r v0 0).k] else bif x2.n == 0 then cl n i_slices_heapSortCmpFunc_Term_Terms_o [aI 0,aI x1.n,aL x5.k] fun v0 => rt [aL (r v0 0).k] else cl n i_slices_choosePivotCmpFunc_Term_Terms_o [aI 0,aI x1.n,aL x5.k] fun v0 => bif (r v0 1).n == 2 then cl n i_slices_reverseRangeCmpFunc_Term_Terms_o [aI 0,aI x1.n,aL (r v0 2).k] fun v1 => cl n i_slices_partialInsertionSortCmpFunc_Term_Terms_o [aI 0,aI x1.n,aL (r v1 0).k] fun v2 => bif (r v2 0).b then rt [aL (r v2 1).k] else cl n i_slices_partitionCmpFunc_Term_Terms_o [aI 0,aI x1.n,aI (w6 (w6 (x1.n - 1) - w6 ((r v0 0).n - 0))),aL (r v2 1).k] fun v3 => bif lt (w6 ((r v3 0).n - 0)) (w6 (x1.n - (r v3 0).n)) then cl n i_slices_pdqsortCmpFunc_Term_Terms_o [aI 0,aI (r v3 0).n,aI x2.n,aL (r v3 2).k] fun v4 => D n i_slices_pdqsortCmpFunc_Term_Terms_o (some p_slices_pdqsortCmpFunc_Term_Terms_o_c1) [aI (w6 ((r v3 0).n + 1)),aI x1.n,aI x2.n,aB (ge (w6 ((r v3 0).n - 0)) (w6 (Int.tdiv (w6 (x1.n - 0)) 8))),aB (r v3 1).b,aL (r v4 0).k] else cl n i_slices_pdqsortCmpFunc_Term_Terms_o [aI (w6 ((r v3 0).n + 1)),aI x1.n,aI x2.n,aL (r v3 2).k] fun v4 => D n i_slices_pdqsortCmpFunc_Term_Terms_o (some p_slices_pdqsortCmpFunc_Term_Terms_o_c1) [aI 0,aI (r v3 0).n,aI x2.n,aB (ge (w6 (x1.n - (r v3 0).n)) (w6 (Int.tdiv (w6 (x1.n - 0)) 8))),aB (r v3 1).b,aL (r v4 0).k] else bif (r v0 1).n == 1 then cl n i_slices_partialInsertionSortCmpFunc_Term_Terms_o [aI 0,aI x1.n,aL (r v0 2).k] fun v1 => bif (r v1 0).b then rt [aL (r v1 1).k] else cl n i_slices_partitionCmpFunc_Term_Terms_o [aI 0,aI x1.n,aI (r v0 0).n,aL (r v1 1).k] fun v2 => bif lt (w6 ((r v2 0).n - 0)) (w6 (x1.n - (r v2 0).n)) then cl n i_slices_pdqsortCmpFunc_Term_Terms_o [aI 0,aI (r v2 0).n,aI x2.n,aL (r v2 2).k] fun v3 => D n i_slices_pdqsortCmpFunc_Term_Terms_o (some p_slices_pdqsortCmpFunc_Term_Terms_o_c1) [aI (w6 ((r v2 0).n + 1)),aI x1.n,aI x2.n,aB (ge (w6 ((r v2 0).n - 0)) (w6 (Int.tdiv (w6 (x1.n - 0)) 8))),aB (r v2 1).b,aL (r v3 0).k] else cl n i_slices_pdqsortCmpFunc_Term_Terms_o [aI (w6 ((r v2 0).n + 1)),aI x1.n,aI x2.n,aL (r v2 2).k] fun v3 => D n i_slices_pdqsortCmpFunc_Term_Terms_o (some p_slices_pdqsortCmpFunc_Term_Terms_o_c1) [aI 0,aI (r v2 0).n,aI x2.n,aB (ge (w6 (x1.n - (r v2 0).n)) (w6 (Int.tdiv (w6 (x1.n - 0)) 8))),aB (r v2 1).b,aL (r v3 0).k] else cl n i_slices_partitionCmpFunc_Term_Terms_o [aI 0,aI x1.n,aI (r v0 0).n,aL (r v0 2).k] fun v1 => bif lt (w6 ((r v1 0).n - 0)) (w6 (x1.n - (r v1 0).n)) then cl n i_slices_pdqsortCmpFunc_Term_Terms_o [aI 0,aI (r v1 0).n,aI x2.n,aL (r v1 2).k] fun v2 => D n i_slices_pdqsortCmpFunc_Term_Terms_o (some p_slices_pdqsortCmpFunc_Term_Terms_o_c1) [aI (w6 ((r v1 0).n + 1)),aI x1.n,aI x2.n,aB (ge (w6 ((r v1 0).n - 0)) (w6 (Int.tdiv (w6 (x1.n - 0)) 8))),aB (r v1 1).b,aL (r v2 0).k] else cl n i_slices_pdqsortCmpFunc_Term_Terms_o [aI (w6 ((r v1 0).n + 1)),aI x1.n,aI x2.n,aL (r v1 2).k] fun v2 => D n i_slices_pdqsortCmpFunc_Term_Terms_o (some p_slices_pdqsortCmpFunc_Term_Terms_o_c1) [aI 0,aI (r v1 0).n,aI x2.n,aB (ge (w6 (x1.n - (r v1 0).n)) (w6 (Int.tdiv (w6 (x1.n - 0)) 8))),aB (r v1 1).b,aL (r v2 0).k] := by kernel_rfl
theorem q_slices_insertionSortCmpFunc_Term_Terms_o (n : Nat) (x0 x1 x2 : T) : den Tryz.prog G0 ents (Nat.succ n) i_slices_insertionSortCmpFunc_Term_Terms_o none [A.t x0, A.t x1, A.t x2] =
  lp n i_slices_insertionSortCmpFunc_Term_Terms_o p_slices_insertionSortCmpFunc_Term_Terms_o_c1 [aI x0.n,aI x1.n,aI (w6 (x0.n + 1)),aL x2.k] fun v0 => bif Nat.beq v0.1 2 then rt [aL (r v0.2 0).k] else none := by kernel_rfl
theorem q_slices_insertionSortCmpFunc_Term_Terms_o_c1 (n : Nat) (x0 x1 x2 x3 : T) : den Tryz.prog G0 ents (Nat.succ n) i_slices_insertionSortCmpFunc_Term_Terms_o (some p_slices_insertionSortCmpFunc_Term_Terms_o_c1) [A.t x0, A.t x1, A.t x2, A.t x3] =
  bif lt x2.n x1.n then lp n i_slices_insertionSortCmpFunc_Term_Terms_o p_slices_insertionSortCmpFunc_Term_Terms_o_c2 [aI x0.n,aI x1.n,aI x2.n,aI x2.n,aL x3.k] fun v0 => bif Nat.beq v0.1 4 then D n i_slices_insertionSortCmpFunc_Term_Terms_o (some p_slices_insertionSortCmpFunc_Term_Terms_o_c1) [aI (r v0.2 0).n,aI (r v0.2 1).n,aI (w6 ((r v0.2 2).n + 1)),aL (r v0.2 3).k] else none else some (2,[aL x3.k]) := by kernel_rfl
theorem q_slices_insertionSortCmpFunc_Term_Terms_o_c2 (n : Nat) (x0 x1 x2 x3 x4 : T) : den Tryz.prog G0 ents (Nat.succ n) i_slices_insertionSortCmpFunc_Term_Terms_o (some p_slices_insertionSortCmpFunc_Term_Terms_o_c2) [A.t x0, A.t x1, A.t x2, A.t x3, A.t x4] =
  bif gt x3.n x0.n == true then bif ib x3.n x4.l then bif decide (Int.toNat x3.n < List.length x4.k) then bif ib (w6 (x3.n - 1)) x4.l then bif decide (Int.toNat (w6 (x3.n - 1)) < List.length x4.k) then cl n i_rank_Terms [A.t (x4.a x3.n),A.t (x4.a (w6 (x3.n - 1)))] fun v0 => bif lt (r v0 0).n 0 then bif ib (w6 (x3.n - 1)) x4.l then bif decide (Int.toNat (w6 (x3.n - 1)) < List.length x4.k) then bif ib x3.n x4.l then bif decide (Int.toNat x3.n < List.length x4.k) then bif ib x3.n x4.l then bif decide (Int.toNat x3.n < List.length x4.k) then bif ib (w6 (x3.n - 1)) ((List.length (List.set x4.k (Int.toNat x3.n) (x4.a (w6 (x3.n - 1)))) : Nat) : Int) then bif decide (Int.toNat (w6 (x3.n - 1)) < List.length (List.set x4.k (Int.toNat x3.n) (x4.a (w6 (x3.n - 1))))) then D n i_slices_insertionSortCmpFunc_Term_Terms_o (some p_slices_insertionSortCmpFunc_Term_Terms_o_c2) [aI x0.n,aI x1.n,aI x2.n,aI (w6 (x3.n - 1)),aL (List.set (List.set x4.k (Int.toNat x3.n) (x4.a (w6 (x3.n - 1)))) (Int.toNat (w6 (x3.n - 1))) (x4.a x3.n))] else none else none else none else none else none else none else none else none else some (4,[aI x0.n,aI x1.n,aI x2.n,aL x4.k]) else none else none else none else none else some (4,[aI x0.n,aI x1.n,aI x2.n,aL x4.k]) := by kernel_rfl
theorem q_slices_choosePivotCmpFunc_Term_Terms_o (n : Nat) (x0 x1 x2 : T) : den Tryz.prog G0 ents (Nat.succ n) i_slices_choosePivotCmpFunc_Term_Terms_o none [A.t x0, A.t x1, A.t x2] =
  bif ge (w6 (x1.n - x0.n)) 8 then bif ge (w6 (x1.n - x0.n)) 50 then cl n i_slices_medianAdjacentCmpFunc_Term_Terms_o [aI (w6 (x0.n + w6 (w6 (Int.tdiv (w6 (x1.n - x0.n)) 4) * 1))),aL x2.k,aI 0] fun v0 => cl n i_slices_medianAdjacentCmpFunc_Term_Terms_o [aI (w6 (x0.n + w6 (w6 (Int.tdiv (w6 (x1.n - x0.n)) 4) * 2))),aL (r v0 1).k,aI (r v0 2).n] fun v1 => cl n i_slices_medianAdjacentCmpFunc_Term_Terms_o [aI (w6 (x0.n + w6 (w6 (Int.tdiv (w6 (x1.n - x0.n)) 4) * 3))),aL (r v1 1).k,aI (r v1 2).n] fun v2 => cl n i_slices_medianCmpFunc_Term_Terms_o [aI (r v0 0).n,aI (r v1 0).n,aI (r v2 0).n,aL (r v2 1).k,aI (r v2 2).n] fun v3 => bif (r v3 2).n == 0 then rt [aI (r v3 0).n,aI 1,aL (r v3 1).k] else bif (r v3 2).n == 12 then rt [aI (r v3 0).n,aI 2,aL (r v3 1).k] else rt [aI (r v3 0).n,aI 0,aL (r v3 1).k] else cl n i_slices_medianCmpFunc_Term_Terms_o [aI (w6 (x0.n + w6 (w6 (Int.tdiv (w6 (x1.n - x0.n)) 4) * 1))),aI (w6 (x0.n + w6 (w6 (Int.tdiv (w6 (x1.n - x0.n)) 4) * 2))),aI (w6 (x0.n + w6 (w6 (Int.tdiv (w6 (x1.n - x0.n)) 4) * 3))),aL x2.k,aI 0] fun v0 => bif (r v0 2).n == 0 then rt [aI (r v0 0).n,aI 1,aL (r v0 1).k] else bif (r v0 2).n == 12 then rt [aI (r v0 0).n,aI 2,aL (r v0 1).k] else rt [aI (r v0 0).n,aI 0,aL (r v0 1).k] else rt [aI (w6 (x0.n + w6 (w6 (Int.tdiv (w6 (x1.n - x0.n)) 4) * 2))),aI 1,aL x2.k] := by kernel_rfl
theorem q_slices_medianCmpFunc_Term_Terms_o (n : Nat) (x0 x1 x2 x3 x4 : T) : den Tryz.prog G0 ents (Nat.succ n) i_slices_medianCmpFunc_Term_Terms_o none [A.t x0, A.t x1, A.t x2, A.t x3, A.t x4] =
  cl n i_slices_order2CmpFunc_Term_Terms_o [aI x0.n,aI x1.n,aL x3.k,aI x4.n] fun v0 => cl n i_slices_order2CmpFunc_Term_Terms_o [aI (r v0 1).n,aI x2.n,aL (r v0 2).k,aI (r v0 3).n] fun v1 => cl n i_slices_order2CmpFunc_Term_Terms_o [aI (r v0 0).n,aI (r v1 0).n,aL (r v1 2).k,aI (r v1 3).n] fun v2 => rt [aI (r v2 1).n,aL (r v2 2).k,aI (r v2 3).n] := by kernel_rfl
theorem q_slices_order2CmpFunc_Term_Terms_o (n : Nat) (x0 x1 x2 x3 : T) : den Tryz.prog G0 ents (Nat.succ n) i_slices_order2CmpFunc_Term_Terms_o none [A.t x0, A.t x1, A.t x2, A.t x3] =
  bif ib x1.n x2.l then bif decide (Int.toNat x1.n < List.length x2.k) then bif ib x0.n x2.l then bif decide (Int.toNat x0.n < List.length x2.k) then cl n i_rank_Terms [A.t (x2.a x1.n),A.t (x2.a x0.n)] fun v0 => bif lt (r v0 0).n 0 then rt [aI x1.n,aI x0.n,aL x2.k,aI (w6 (x3.n + 1))] else rt [aI x0.n,aI x1.n,aL x2.k,aI x3.n] else none else none else none else none := by kernel_rfl
theorem q_slices_partialInsertionSortCmpFunc_Term_Terms_o (n : Nat) (x0 x1 x2 : T) : den Tryz.prog G0 ents (Nat.succ n) i_slices_partialInsertionSortCmpFunc_Term_Terms_o none [A.t x0, A.t x1, A.t x2] =
  lp n i_slices_partialInsertionSortCmpFunc_Term_Terms_o p_slices_partialInsertionSortCmpFunc_Term_Terms_o_c1 [aI x0.n,aI x1.n,aI (w6 (x0.n + 1)),aI 0,aL x2.k] fun v0 => bif Nat.beq v0.1 2 then rt [aB false,aL (r v0.2 0).k] else bif Nat.beq v0.1 1 then rt [aB (r v0.2 0).b,aL (r v0.2 1).k] else none := by kernel_rfl
theorem q_slices_partialInsertionSortCmpFunc_Term_Terms_o_c1 (n : Nat) (x0 x1 x2 x3 x4 : T) : den Tryz.prog G0 ents (Nat.succ n) i_slices_partialInsertionSortCmpFunc_Term_Terms_o (some p_slices_partialInsertionSortCmpFunc_Term_Terms_o_c1) [A.t x0, A.t x1, A.t x2, A.t x3, A.t x4] =
  bif lt x3.n 5 then lp n i_slices_partialInsertionSortCmpFunc_Term_Terms_o p_slices_partialInsertionSortCmpFunc_Term_Terms_o_c2 [aI x0.n,aI x1.n,aI x2.n,aI x3.n,aL x4.k] fun v0 => bif Nat.beq v0.1 4 then bif (r v0.2 2).n == (r v0.2 1).n then rt [aB true,aL (r v0.2 4).k] else bif lt (w6 ((r v0.2 1).n - (r v0.2 0).n)) 50 then rt [aB false,aL (r v0.2 4).k] else bif ib (w6 ((r v0.2 2).n - 1)) (r v0.2 4).l then bif decide (Int.toNat (w6 ((r v0.2 2).n - 1)) < List.length (r v0.2 4).k) then bif ib (r v0.2 2).n (r v0.2 4).l then bif decide (Int.toNat (r v0.2 2).n < List.length (r v0.2 4).k) then bif ib (r v0.2 2).n (r v0.2 4).l then bif decide (Int.toNat (r v0.2 2).n < List.length (r v0.2 4).k) then bif ib (w6 ((r v0.2 2).n - 1)) ((List.length (List.set (r v0.2 4).k (Int.toNat (r v0.2 2).n) ((r v0.2 4).a (w6 ((r v0.2 2).n - 1)))) : Nat) : Int) then bif decide (Int.toNat (w6 ((r v0.2 2).n - 1)) < List.length (List.set (r v0.2 4).k (Int.toNat (r v0.2 2).n) ((r v0.2 4).a (w6 ((r v0.2 2).n - 1))))) then bif ge (w6 ((r v0.2 2).n - (r v0.2 0).n)) 2 then lp n i_slices_partialInsertionSortCmpFunc_Term_Terms_o p_slices_partialInsertionSortCmpFunc_Term_Terms_o_c3 [aI (r v0.2 0).n,aI (r v0.2 1).n,aI (r v0.2 2).n,aI (r v0.2 3).n,aI (w6 ((r v0.2 2).n - 1)),aL (List.set (List.set (r v0.2 4).k (Int.toNat (r v0.2 2).n) ((r v0.2 4).a (w6 ((r v0.2 2).n - 1)))) (Int.toNat (w6 ((r v0.2 2).n - 1))) ((r v0.2 4).a (r v0.2 2).n))] fun v1 => bif Nat.beq v1.1 6 then bif ge (w6 ((r v1.2 1).n - (r v1.2 2).n)) 2 then lp n i_slices_partialInsertionSortCmpFunc_Term_Terms_o p_slices_partialInsertionSortCmpFunc_Term_Terms_o_c4 [aI (r v1.2 0).n,aI (r v1.2 1).n,aI (r v1.2 2).n,aI (r v1.2 3).n,aI (w6 ((r v1.2 2).n + 1)),aL (r v1.2 4).k] fun v2 => bif Nat.beq v2.1 8 then D n i_slices_partialInsertionSortCmpFunc_Term_Terms_o (some p_slices_partialInsertionSortCmpFunc_Term_Terms_o_c1) [aI (r v2.2 0).n,aI (r v2.2 1).n,aI (r v2.2 2).n,aI (w6 ((r v2.2 3).n + 1)),aL (r v2.2 4).k] else none else D n i_slices_partialInsertionSortCmpFunc_Term_Terms_o (some p_slices_partialInsertionSortCmpFunc_Term_Terms_o_c1) [aI (r v1.2 0).n,aI (r v1.2 1).n,aI (r v1.2 2).n,aI (w6 ((r v1.2 3).n + 1)),aL (r v1.2 4).k] else none else bif ge (w6 ((r v0.2 1).n - (r v0.2 2).n)) 2 then lp n i_slices_partialInsertionSortCmpFunc_Term_Terms_o p_slices_partialInsertionSortCmpFunc_Term_Terms_o_c4 [aI (r v0.2 0).n,aI (r v0.2 1).n,aI (r v0.2 2).n,aI (r v0.2 3).n,aI (w6 ((r v0.2 2).n + 1)),aL (List.set (List.set (r v0.2 4).k (Int.toNat (r v0.2 2).n) ((r v0.2 4).a (w6 ((r v0.2 2).n - 1)))) (Int.toNat (w6 ((r v0.2 2).n - 1))) ((r v0.2 4).a (r v0.2 2).n))] fun v1 => bif Nat.beq v1.1 8 then D n i_slices_partialInsertionSortCmpFunc_Term_Terms_o (some p_slices_partialInsertionSortCmpFunc_Term_Terms_o_c1) [aI (r v1.2 0).n,aI (r v1.2 1).n,aI (r v1.2 2).n,aI (w6 ((r v1.2 3).n + 1)),aL (r v1.2 4).k] else none else D n i_slices_partialInsertionSortCmpFunc_Term_Terms_o (some p_slices_partialInsertionSortCmpFunc_Term_Terms_o_c1) [aI (r v0.2 0).n,aI (r v0.2 1).n,aI (r v0.2 2).n,aI (w6 ((r v0.2 3).n + 1)),aL (List.set (List.set (r v0.2 4).k (Int.toNat (r v0.2 2).n) ((r v0.2 4).a (w6 ((r v0.2 2).n - 1)))) (Int.toNat (w6 ((r v0.2 2).n - 1))) ((r v0.2 4).a (r v0.2 2).n))] else none else none else none else none else none else none else none else none else none else some (2,[aL x4.k]) := by kernel_rfl
theorem q_slices_partialInsertionSortCmpFunc_Term_Terms_o_c2 (n : Nat) (x0 x1 x2 x3 x4 : T) : den Tryz.prog G0 ents (Nat.succ n) i_slices_partialInsertionSortCmpFunc_Term_Terms_o (some p_slices_partialInsertionSortCmpFunc_Term_Terms_o_c2) [A.t x0, A.t x1, A.t x2, A.t x3, A.t x4] =
  bif lt x2.n x1.n == true then bif ib x2.n x4.l then bif decide (Int.toNat x2.n < List.length x4.k) then bif ib (w6 (x2.n - 1)) x4.l then bif decide (Int.toNat (w6 (x2.n - 1)) < List.length x4.k) then cl n i_rank_Terms [A.t (x4.a x2.n),A.t (x4.a (w6 (x2.n - 1)))] fun v0 => bif !(lt (r v0 0).n 0) then D n i_slices_partialInsertionSortCmpFunc_Term_Terms_o (some p_slices_partialInsertionSortCmpFunc_Term_Terms_o_c2) [aI x0.n,aI x1.n,aI (w6 (x2.n + 1)),aI x3.n,aL x4.k] else some (4,[aI x0.n,aI x1.n,aI x2.n,aI x3.n,aL x4.k]) else none else none else none else none else some (4,[aI x0.n,aI x1.n,aI x2.n,aI x3.n,aL x4.k]) := by kernel_rfl
theorem q_slices_partialInsertionSortCmpFunc_Term_Terms_o_c3 (n : Nat) (x0 x1 x2 x3 x4 x5 : T) : den Tryz.prog G0 ents (Nat.succ n) i_slices_partialInsertionSortCmpFunc_Term_Terms_o (some p_slices_partialInsertionSortCmpFunc_Term_Terms_o_c3) [A.t x0, A.t x1, A.t x2, A.t x3, A.t x4, A.t x5] =
  bif ge x4.n 1 then bif ib x4.n x5.l then bif decide (Int.toNat x4.n < List.length x5.k) then bif ib (w6 (x4.n - 1)) x5.l then bif decide (Int.toNat (w6 (x4.n - 1)) < List.length x5.k) then cl n i_rank_Terms [A.t (x5.a x4.n),A.t (x5.a (w6 (x4.n - 1)))] fun v0 => bif !(lt (r v0 0).n 0) then some (6,[aI x0.n,aI x1.n,aI x2.n,aI x3.n,aL x5.k]) else bif ib (w6 (x4.n - 1)) x5.l then bif decide (Int.toNat (w6 (x4.n - 1)) < List.length x5.k) then bif ib x4.n x5.l then bif decide (Int.toNat x4.n < List.length x5.k) then bif ib x4.n x5.l then bif decide (Int.toNat x4.n < List.length x5.k) then bif ib (w6 (x4.n - 1)) ((List.length (List.set x5.k (Int.toNat x4.n) (x5.a (w6 (x4.n - 1)))) : Nat) : Int) then bif decide (Int.toNat (w6 (x4.n - 1)) < List.length (List.set x5.k (Int.toNat x4.n) (x5.a (w6 (x4.n - 1))))) then D n i_slices_partialInsertionSortCmpFunc_Term_Terms_o (some p_slices_partialInsertionSortCmpFunc_Term_Terms_o_c3) [aI x0.n,aI x1.n,aI x2.n,aI x3.n,aI (w6 (x4.n - 1)),aL (List.set (List.set x5.k (Int.toNat x4.n) (x5.a (w6 (x4.n - 1)))) (Int.toNat (w6 (x4.n - 1))) (x5.a x4.n))] else none else none else none else none else none else none else none else none else none else none else none else none else some (6,[aI x0.n,aI x1.n,aI x2.n,aI x3.n,aL x5.k]) := by kernel_rfl
theorem q_slices_partialInsertionSortCmpFunc_Term_Terms_o_c4 (n : Nat) (x0 x1 x2 x3 x4 x5 : T) : den Tryz.prog G0 ents (Nat.succ n) i_slices_partialInsertionSortCmpFunc_Term_Terms_o (some p_slices_partialInsertionSortCmpFunc_Term_Terms_o_c4) [A.t x0, A.t x1, A.t x2, A.t x3, A.t x4, A.t x5] =
  bif lt x4.n x1.n then bif ib x4.n x5.l then bif decide (Int.toNat x4.n < List.length x5.k) then bif ib (w6 (x4.n - 1)) x5.l then bif decide (Int.toNat (w6 (x4.n - 1)) < List.length x5.k) then cl n i_rank_Terms [A.t (x5.a x4.n),A.t (x5.a (w6 (x4.n - 1)))] fun v0 => bif !(lt (r v0 0).n 0) then some (8,[aI x0.n,aI x1.n,aI x2.n,aI x3.n,aL x5.k]) else bif ib (w6 (x4.n - 1)) x5.l then bif decide (Int.toNat (w6 (x4.n - 1)) < List.length x5.k) then bif ib x4.n x5.l then bif decide (Int.toNat x4.n < List.length x5.k) then bif ib x4.n x5.l then bif decide (Int.toNat x4.n < List.length x5.k) then bif ib (w6 (x4.n - 1)) ((List.length (List.set x5.k (Int.toNat x4.n) (x5.a (w6 (x4.n - 1)))) : Nat) : Int) then bif decide (Int.toNat (w6 (x4.n - 1)) < List.length (List.set x5.k (Int.toNat x4.n) (x5.a (w6 (x4.n - 1))))) then D n i_slices_partialInsertionSortCmpFunc_Term_Terms_o (some p_slices_partialInsertionSortCmpFunc_Term_Terms_o_c4) [aI x0.n,aI x1.n,aI x2.n,aI x3.n,aI (w6 (x4.n + 1)),aL (List.set (List.set x5.k (Int.toNat x4.n) (x5.a (w6 (x4.n - 1)))) (Int.toNat (w6 (x4.n - 1))) (x5.a x4.n))] else none else none else none else none else none else none else none else none else none else none else none else none else some (8,[aI x0.n,aI x1.n,aI x2.n,aI x3.n,aL x5.k]) := by kernel_rfl
theorem q_slices_CompactFunc_Term_settle1_o (n : Nat) (x0 : T) : den Tryz.prog G0 ents (Nat.succ n) i_slices_CompactFunc_Term_settle1_o none [A.t x0] =
  bif lt x0.l 2 then rt [aL x0.k] else lp n i_slices_CompactFunc_Term_settle1_o p_slices_CompactFunc_Term_settle1_o_c1 [aI 1,aL x0.k] fun v0 => bif Nat.beq v0.1 2 then rt [aL (r v0.2 0).k] else none := by kernel_rfl
theorem q_slices_CompactFunc_Term_settle1_o_c1 (n : Nat) (x0 x1 : T) : den Tryz.prog G0 ents (Nat.succ n) i_slices_CompactFunc_Term_settle1_o (some p_slices_CompactFunc_Term_settle1_o_c1) [A.t x0, A.t x1] =
  bif lt x0.n x1.l then bif ib x0.n x1.l then bif decide (Int.toNat x0.n < List.length x1.k) then bif ib (w6 (x0.n - 1)) x1.l then bif decide (Int.toNat (w6 (x0.n - 1)) < List.length x1.k) then cl n i_lat_settle_1 [A.t (x1.a x0.n),A.t (x1.a (w6 (x0.n - 1)))] fun v0 => bif (r v0 0).b then bif Bool.and (Bool.and (Bool.and (le 0 x1.l) (le x1.l x1.l)) (le 0 x0.n)) (le x0.n x1.l) then none else none else D n i_slices_CompactFunc_Term_settle1_o (some p_slices_CompactFunc_Term_settle1_o_c1) [aI (w6 (x0.n + 1)),aL x1.k] else none else none else none else none else some (2,[aL x1.k]) := by kernel_rfl
theorem q_rank_Weight_o (n : Nat) (x0 : T) : den Tryz.prog G0 ents (Nat.succ n) i_rank_Weight_o none [A.t x0] =
  lp n i_rank_Weight_o p_rank_Weight_o_c1 [aI x0.l,aI x0.l,aI 0,aL x0.k] fun v0 => bif Nat.beq v0.1 2 then rt [aI (r v0.2 0).n,aL (r v0.2 1).k] else none := by kernel_rfl
theorem q_rank_Weight_o_c1 (n : Nat) (x0 x1 x2 x3 : T) : den Tryz.prog G0 ents (Nat.succ n) i_rank_Weight_o (some p_rank_Weight_o_c1) [A.t x0, A.t x1, A.t x2, A.t x3] =
  bif lt x2.n x1.n then bif ib x2.n x3.l then bif decide (Int.toNat x2.n < List.length x3.k) then lp n i_rank_Weight_o p_rank_Weight_o_c2 [aI x0.n,aI x1.n,aI x2.n,aL ((x3.a x2.n).g 7).k,aI ((x3.a x2.n).g 7).l,aI 0,aL x3.k] fun v0 => bif Nat.beq v0.1 4 then D n i_rank_Weight_o (some p_rank_Weight_o_c1) [aI (r v0.2 0).n,aI (r v0.2 1).n,aI (w6 ((r v0.2 2).n + 1)),aL (r v0.2 3).k] else none else none else none else some (2,[aI x0.n,aL x3.k]) := by kernel_rfl
theorem q_rank_Weight_o_c2 (n : Nat) (x0 x1 x2 x3 x4 x5 x6 : T) : den Tryz.prog G0 ents (Nat.succ n) i_rank_Weight_o (some p_rank_Weight_o_c2) [A.t x0, A.t x1, A.t x2, A.t x3, A.t x4, A.t x5, A.t x6] =
  bif lt x5.n x4.n then bif ib x5.n x3.l then cl n i_rank_Weight [A.t ((x3.a x5.n).g 1)] fun v0 => D n i_rank_Weight_o (some p_rank_Weight_o_c2) [aI (w6 (x0.n + (r v0 0).n)),aI x1.n,aI x2.n,aL x3.k,aI x4.n,aI (w6 (x5.n + 1)),aL x6.k] else none else some (4,[aI x0.n,aI x1.n,aI x2.n,aL x6.k]) := by kernel_rfl
theorem q_rank_Copy_o (n : Nat) (x0 : T) : den Tryz.prog G0 ents (Nat.succ n) i_rank_Copy_o none [A.t x0] =
  cl n i_slices_Clone_Term_o [aL x0.k] fun v0 => lp n i_rank_Copy_o p_rank_Copy_o_c1 [aI (r v0 1).l,aI 0,aL (r v0 0).k,aL [T.node []],aL (r v0 1).k] fun v1 => bif Nat.beq v1.1 2 then rt [aL [T.node (r v1.2 2).k],aL (r v1.2 0).k] else none := by kernel_rfl
theorem q_rank_Copy_o_c1 (n : Nat) (x0 x1 x2 x3 x4 : T) : den Tryz.prog G0 ents (Nat.succ n) i_rank_Copy_o (some p_rank_Copy_o_c1) [A.t x0, A.t x1, A.t x2, A.t x3, A.t x4] =
  bif lt x1.n x0.n then bif ib x1.n x4.l then bif decide (Int.toNat x1.n < List.length x4.k) then cl n i_slices_Clone_Field [aL ((x4.a x1.n).g 7).k] fun v0 => lp n i_rank_Copy_o p_rank_Copy_o_c2 [aI x1.n,aI x0.n,aI x1.n,aI (r v0 0).l,aI 0,aL x2.k,A.t x3,aL x4.k,aL (r v0 0).k] fun v1 => bif Nat.beq v1.1 4 then bif ib (r v1.2 0).n (r v1.2 5).l then bif decide (Int.toNat (r v1.2 0).n < List.length (r v1.2 5).k) then D n i_rank_Copy_o (some p_rank_Copy_o_c1) [aI (r v1.2 1).n,aI (w6 ((r v1.2 2).n + 1)),aL (r v1.2 3).k,A.t (r v1.2 4),aL (List.set (r v1.2 5).k (Int.toNat (r v1.2 0).n) (T.node [((r v1.2 5).a (r v1.2 0).n).g 0,((r v1.2 5).a (r v1.2 0).n).g 1,((r v1.2 5).a (r v1.2 0).n).g 2,((r v1.2 5).a (r v1.2 0).n).g 3,((r v1.2 5).a (r v1.2 0).n).g 4,((r v1.2 5).a (r v1.2 0).n).g 5,((r v1.2 5).a (r v1.2 0).n).g 6,T.node (r v1.2 6).k]))] else none else none else none else none else none else some (2,[aL x2.k,A.t x3,aL x4.k]) := by kernel_rfl
theorem q_rank_Copy_o_c2 (n : Nat) (x0 x1 x2 x3 x4 x5 x6 x7 x8 : T) : den Tryz.prog G0 ents (Nat.succ n) i_rank_Copy_o (some p_rank_Copy_o_c2) [A.t x0, A.t x1, A.t x2, A.t x3, A.t x4, A.t x5, A.t x6, A.t x7, A.t x8] =
  bif lt x4.n x3.n then bif ib x4.n x8.l then bif decide (Int.toNat x4.n < List.length x8.k) then cl n i_rank_Copy [A.t ((x8.a x4.n).g 1)] fun v0 => bif ib x4.n x8.l then bif decide (Int.toNat x4.n < List.length x8.k) then D n i_rank_Copy_o (some p_rank_Copy_o_c2) [aI x0.n,aI x1.n,aI x2.n,aI x3.n,aI (w6 (x4.n + 1)),aL x5.k,A.t x6,aL x7.k,aL (List.set x8.k (Int.toNat x4.n) (T.node [(x8.a x4.n).g 0,r v0 0]))] else none else none else none else none else some (4,[aI x0.n,aI x1.n,aI x2.n,aL x5.k,A.t x6,aL x7.k,aL x8.k]) := by kernel_rfl
theorem q_R02_Rising_o (n : Nat) (x0 : T) : den Tryz.prog G0 ents (Nat.succ n) i_R02_Rising_o none [A.t x0] =
  lp n i_R02_Rising_o p_R02_Rising_o_c1 [aI 0,aL x0.k] fun v0 => bif Nat.beq v0.1 2 then rt [aB true,aL (r v0.2 0).k] else bif Nat.beq v0.1 1 then rt [aB (r v0.2 0).b,aL (r v0.2 1).k] else none := by kernel_rfl
theorem q_R02_Rising_o_c1 (n : Nat) (x0 x1 : T) : den Tryz.prog G0 ents (Nat.succ n) i_R02_Rising_o (some p_R02_Rising_o_c1) [A.t x0, A.t x1] =
  bif lt x0.n x1.l then bif ib x0.n x1.l then bif decide (Int.toNat x0.n < List.length x1.k) then cl n i_R02_Right [aS (x1.a x0.n).s] fun v0 => bif (!(r v0 0).b) == false then bif gt x0.n 0 == true then bif ib (w6 (x0.n - 1)) x1.l then bif decide (Int.toNat (w6 (x0.n - 1)) < List.length x1.k) then bif ib x0.n x1.l then bif decide (Int.toNat x0.n < List.length x1.k) then bif !(sltB (x1.a (w6 (x0.n - 1))).s (x1.a x0.n).s) then rt [aB false,aL x1.k] else D n i_R02_Rising_o (some p_R02_Rising_o_c1) [aI (w6 (x0.n + 1)),aL x1.k] else none else none else none else none else D n i_R02_Rising_o (some p_R02_Rising_o_c1) [aI (w6 (x0.n + 1)),aL x1.k] else rt [aB false,aL x1.k] else none else none else some (2,[aL x1.k]) := by kernel_rfl
end Go.Proofs.YtoekafpmpopigaaGreatDoorFP
namespace Go.Proofs.YtoekafpmpopigaaGreatDoorFP
open Go Go.Proofs.YtoekafpmpopigaaGreatDoorVM
set_option linter.unusedVariables false
def terms (v : T) : List T := (v.get 0).kids
def flds (t : T) : List T := (t.get 7).kids
def nm (f : T) : ByteArray := (f.get 0).txt
def val (f : T) : T := f.get 1
def sumN (l : List Nat) : Nat := l.foldr (· + ·) 0
def wt : Nat → T → Nat
  | 0, _ => 0
  | d + 1, v => sumN ((terms v).map fun t => 1 + sumN ((flds t).map fun f => wt d (val f)))
def wtT (d : Nat) (t : T) : Nat := 1 + sumN ((flds t).map fun f => wt d (val f))
theorem wt_succ (d : Nat) (v : T) : wt (d + 1) v = sumN ((terms v).map (wtT d)) := rfl
def maxN (l : List Nat) : Nat := l.foldr max 0
def dep : Nat → T → Nat
  | 0, _ => 0
  | d + 1, v => 1 + maxN ((terms v).map fun t => maxN ((flds t).map fun f => dep d (val f)))
def Vd : Nat → T → Prop
  | 0, _ => False
  | d + 1, v => ∀ t ∈ terms v, (flds t).length ≤ 100 ∧ (t.get 3).txt.size ≤ 400 ∧ ∀ f ∈ flds t, (nm f).size ≤ 100 ∧ Vd d (val f)
theorem sum_foldl {α : Type} (f : α → Nat) : ∀ (l : List α) (a : Nat), l.foldl (fun a x => a + f x) a = a + sumN (l.map f)
  | [], a => by simp [sumN]
  | x :: l, a => by
    rw [List.foldl_cons, sum_foldl f l (a + f x)]
    simp only [List.map_cons, sumN, List.foldr_cons]
    omega
theorem max_foldl {α : Type} (f : α → Nat) : ∀ (l : List α) (a : Nat), l.foldl (fun a x => max a (f x)) a = max a (maxN (l.map f))
  | [], a => by simp [maxN]
  | x :: l, a => by
    rw [List.foldl_cons, max_foldl f l (max a (f x))]
    simp only [List.map_cons, maxN, List.foldr_cons]
    omega
theorem sum_mem {α : Type} {f : α → Nat} {l : List α} {x : α} (h : x ∈ l) : f x ≤ sumN (l.map f) := by
  induction l with
  | nil => cases h
  | cons y l ih =>
    simp only [List.map_cons, sumN, List.foldr_cons]
    rcases List.mem_cons.1 h with rfl | h
    · omega
    · have := ih h
      unfold sumN at this
      omega
theorem sum_len {α : Type} {f : α → Nat} {l : List α} (h : ∀ x ∈ l, 1 ≤ f x) : l.length ≤ sumN (l.map f) := by
  induction l with
  | nil => simp
  | cons y l ih =>
    have h1 := ih fun x hx => h x (List.mem_cons_of_mem _ hx)
    have h2 := h y List.mem_cons_self
    simp only [List.map_cons, sumN, List.foldr_cons, List.length_cons]
    unfold sumN at h1
    omega
def Sm (d : Nat) (v : T) : Prop := Vd d v ∧ wt d v ≤ 512
theorem Sm.terms {d : Nat} {v : T} (h : Sm d v) : (terms v).length ≤ 512 := by
  cases d with
  | zero => exact h.1.elim
  | succ d => exact Nat.le_trans (sum_len (f := wtT d) fun t _ => by unfold wtT; omega) h.2
theorem Sm.sub {d : Nat} {v t f : T} (h : Sm (d + 1) v) (ht : t ∈ YtoekafpmpopigaaGreatDoorFP.terms v) (hf : f ∈ flds t) : Sm d (val f) := by
  refine ⟨((h.1 t ht).2.2 f hf).2, ?_⟩
  have h1 : wt d (val f) ≤ wtT d t := by
    unfold wtT
    have := sum_mem (f := fun f => wt d (val f)) hf
    omega
  have h2 : wtT d t ≤ wt (d + 1) v := sum_mem (f := wtT d) ht
  have := h.2
  omega
theorem Sm.flds {d : Nat} {v t : T} (h : Sm (d + 1) v) (ht : t ∈ YtoekafpmpopigaaGreatDoorFP.terms v) : (YtoekafpmpopigaaGreatDoorFP.flds t).length ≤ 100 := (h.1 t ht).1
theorem Sm.wtT {d : Nat} {v t : T} (h : Sm (d + 1) v) (ht : t ∈ YtoekafpmpopigaaGreatDoorFP.terms v) : YtoekafpmpopigaaGreatDoorFP.wtT d t ≤ 512 := Nat.le_trans (sum_mem (f := YtoekafpmpopigaaGreatDoorFP.wtT d) ht) h.2

def leftFs (g : T → Int → Int) : List T → Int → Int
  | [], n => n
  | f :: fs, n => if n < 0 then n else if 100 < (nm f).size then -1 else leftFs g fs (g (val f) n)
def leftTs (g : T → Int → Int) : List T → Int → Int
  | [], n => n
  | t :: ts, n => if n < 0 then n else if 400 < (t.get 3).txt.size ∨ 100 < (flds t).length then -1 else leftTs g ts (leftFs g (flds t) (n - 1))
def leftF : Nat → T → Int → Int
  | 0, _, _ => -1
  | d + 1, v, n => if (((terms v).length : Nat) : Int) > n then -1 else leftTs (leftF d) (terms v) n
theorem leftFs_neg (g : T → Int → Int) : ∀ (l : List T) (n : Int), n < 0 → leftFs g l n = n
  | [], n, h => rfl
  | f :: fs, n, h => by rw [leftFs, if_pos h]
theorem leftTs_neg (g : T → Int → Int) : ∀ (l : List T) (n : Int), n < 0 → leftTs g l n = n
  | [], n, h => rfl
  | f :: fs, n, h => by rw [leftTs, if_pos h]
theorem left_few : ∀ (d : Nat) (v : T) (n : Int), 0 ≤ leftF d v n → Vd d v ∧ leftF d v n + (wt d v : Nat) = n
  | 0, v, n, h => by simp [leftF] at h
  | d + 1, v, n, h => by
    have hfs : ∀ (l : List T) (n : Int), 0 ≤ leftFs (leftF d) l n → (∀ f ∈ l, (nm f).size ≤ 100 ∧ Vd d (val f)) ∧ leftFs (leftF d) l n + (sumN (l.map fun f => wt d (val f)) : Nat) = n := by
      intro l
      induction l with
      | nil => intro n hn; exact ⟨by simp, by simp [leftFs, sumN]⟩
      | cons f l ih =>
        intro n hn
        rw [leftFs] at hn ⊢
        split at hn
        · omega
        · split at hn
          · omega
          · rename_i h1 h2
            rw [if_neg h1, if_neg h2]
            obtain ⟨q1, q2⟩ := ih _ hn
            have h3 : 0 ≤ leftF d (val f) n := by
              rcases Int.lt_or_le (leftF d (val f) n) 0 with h4 | h4
              · rw [leftFs_neg _ _ _ h4] at hn; omega
              · exact h4
            obtain ⟨q3, q4⟩ := left_few d (val f) n h3
            refine ⟨fun x hx => ?_, ?_⟩
            · rcases List.mem_cons.1 hx with rfl | hx
              · exact ⟨by omega, q3⟩
              · exact q1 x hx
            · simp only [List.map_cons, sumN, List.foldr_cons] at q2 ⊢
              omega
    have hts : ∀ (l : List T) (n : Int), 0 ≤ leftTs (leftF d) l n → (∀ t ∈ l, (flds t).length ≤ 100 ∧ (t.get 3).txt.size ≤ 400 ∧ ∀ f ∈ flds t, (nm f).size ≤ 100 ∧ Vd d (val f)) ∧ leftTs (leftF d) l n + (sumN (l.map (wtT d)) : Nat) = n := by
      intro l
      induction l with
      | nil => intro n hn; exact ⟨by simp, by simp [leftTs, sumN]⟩
      | cons t l ih =>
        intro n hn
        rw [leftTs] at hn ⊢
        split at hn
        · omega
        · split at hn
          · omega
          · rename_i h1 h2
            rw [if_neg h1, if_neg h2]
            obtain ⟨q1, q2⟩ := ih _ hn
            have h3 : 0 ≤ leftFs (leftF d) (flds t) (n - 1) := by
              rcases Int.lt_or_le (leftFs (leftF d) (flds t) (n - 1)) 0 with h4 | h4
              · rw [leftTs_neg _ _ _ h4] at hn; omega
              · exact h4
            obtain ⟨q3, q4⟩ := hfs _ _ h3
            refine ⟨fun x hx => ?_, ?_⟩
            · rcases List.mem_cons.1 hx with rfl | hx
              · exact ⟨by omega, by omega, q3⟩
              · exact q1 x hx
            · simp only [List.map_cons, sumN, List.foldr_cons, wtT] at q2 q4 ⊢
              omega
    rw [leftF] at h ⊢
    split at h
    · omega
    · rename_i h1
      rw [if_neg h1]
      exact hts _ _ h
end Go.Proofs.YtoekafpmpopigaaGreatDoorFP
namespace Go.Proofs.YtoekafpmpopigaaGreatDoorFP
open Go Go.Proofs.YtoekafpmpopigaaGreatDoorVM
set_option linter.unusedVariables false
set_option linter.unusedSimpArgs false
set_option maxRecDepth 100000

def Dz (i : Nat) (p : Option (List Bool)) (xs : List A) (r : Nat × List A) : Prop := Does Tryz.prog G0 ents i p xs r
theorem terms_eq (v : T) : (T.get v 0).kids = terms v := id rfl
theorem flds_eq (v : T) : (T.get v 7).kids = flds v := id rfl
theorem S1 : (∀ n i p xs, D n i p xs = den Tryz.prog G0 ents n i p xs) ∧ (∀ n i xs k, cl n i xs k = Option.bind (Option.map (fun v => v.2) (den Tryz.prog G0 ents n i none xs)) k) ∧ (∀ n i p xs k, lp n i p xs k = Option.bind (den Tryz.prog G0 ents n i (some p) xs) k) :=
  ⟨fun _ _ _ _ => rfl, fun _ _ _ _ => rfl, fun _ _ _ _ _ => rfl⟩
theorem S2 : (∀ v, (T.get v 0).kids = terms v) ∧ (∀ v, (T.get v 7).kids = flds v) := ⟨fun _ => rfl, fun _ => rfl⟩
theorem leftFs_le {g : T → Int → Int} (hg : ∀ v n, g v n ≤ max n (-1) ∧ (-1 ≤ n → -1 ≤ g v n)) : ∀ (l : List T) (n : Int), leftFs g l n ≤ max n (-1) ∧ (-1 ≤ n → -1 ≤ leftFs g l n) := by
  intro l
  induction l with
  | nil => intro n; simp only [leftFs]; omega
  | cons f l ih =>
    intro n
    rw [leftFs]
    split
    · omega
    · split
      · omega
      · have h1 := ih (g (val f) n)
        have h2 := hg (val f) n
        omega
theorem leftF_le : ∀ (d : Nat) (v : T) (n : Int), leftF d v n ≤ max n (-1) ∧ (-1 ≤ n → -1 ≤ leftF d v n)
  | 0, v, n => by simp only [leftF]; omega
  | d + 1, v, n => by
    have hts : ∀ (l : List T) (n : Int), leftTs (leftF d) l n ≤ max n (-1) ∧ (-1 ≤ n → -1 ≤ leftTs (leftF d) l n) := by
      intro l
      induction l with
      | nil => intro n; simp only [leftTs]; omega
      | cons t l ih =>
        intro n
        rw [leftTs]
        split
        · omega
        · split
          · omega
          · have h1 := ih (leftFs (leftF d) (flds t) (n - 1))
            have h2 := leftFs_le (fun v n => leftF_le d v n) (flds t) (n - 1)
            omega
    rw [leftF]
    split
    · omega
    · exact hts _ _
theorem left_in (d : Nat) (ih : ∀ v n, n ≤ 200 → -1 ≤ n → Dz i_L08_left none [A.t v, A.t (T.int d), A.t (T.int n)] (1, [A.t (T.int (leftF d v n))])) (hd : d ≤ 20) (i2 : Int) (x4 x5 : T) (hl : (flds x5).length ≤ 100) :
    ∀ (k j : Nat) (n : Int), j + k = (flds x5).length → n ≤ 200 → -1 ≤ n →
      Dz i_L08_left (some p_L08_left_c2) [A.t (T.int (d + 1 : Nat)), A.t (T.int n), A.t (T.int i2), A.t (T.int j), A.t x4, A.t x5] (4, [A.t (T.int (d + 1 : Nat)), A.t (T.int (leftFs (leftF d) ((flds x5).drop j) n)), A.t (T.int i2), A.t x4]) ∨
      (leftFs (leftF d) ((flds x5).drop j) n = -1 ∧ Dz i_L08_left (some p_L08_left_c2) [A.t (T.int (d + 1 : Nat)), A.t (T.int n), A.t (T.int i2), A.t (T.int j), A.t x4, A.t x5] (1, [A.t (T.int (-1))])) := by
  intro k
  induction k with
  | zero =>
    intro j n hj h1 h2
    left
    refine Does.now fun m => ?_
    rw [q_L08_left_c2, List.drop_of_length_le (by omega), leftFs]
    simp only [S0, S9, S1, S2, if_true, if_false]
    repeat (first | rw [if_pos (by omega)] | rw [if_neg (by omega)])
  | succ k ihk =>
    intro j n hj h1 h2
    have hlt : j < (flds x5).length := by omega
    rw [List.drop_eq_getElem_cons hlt, leftFs]
    by_cases h0 : n < 0
    · left
      rw [if_pos h0]
      refine Does.now fun m => ?_
      rw [q_L08_left_c2]
      simp only [S0, S9, S1, S2, if_true, if_false]
      repeat (first | rw [if_pos (by omega)] | rw [if_neg (by omega)])
    rw [if_neg h0]
    by_cases hs : 100 < (nm (flds x5)[j]).size
    · right
      rw [if_pos hs]
      refine ⟨rfl, Does.now fun m => ?_⟩
      rw [q_L08_left_c2]
      have hs' : (T.get (flds x5)[j] 0).txt.size = (nm (flds x5)[j]).size := rfl
      simp only [S0, S9, S1, S2, if_true, if_false, at_get hlt, hs']
      repeat (first | rw [if_pos (by omega)] | rw [if_neg (by omega)])
      all_goals rfl
    rw [if_neg hs]
    have hrec := ih (val (flds x5)[j]) n h1 h2
    have hle := leftF_le d (val (flds x5)[j]) n
    have hs' : (T.get (flds x5)[j] 0).txt.size = (nm (flds x5)[j]).size := rfl
    have hv' : T.get (flds x5)[j] 1 = val (flds x5)[j] := rfl
    have hw : IntKind.i64.wrap ((j : Int) + 1) = ((j + 1 : Nat) : Int) := i64succ (by omega)
    have hd1 : IntKind.i64.wrap (((d + 1 : Nat) : Int) - 1) = ((d : Nat) : Int) := by rw [w64 (by omega) (by omega)]; omega
    have step : ∀ R, Dz i_L08_left (some p_L08_left_c2) [A.t (T.int (d + 1 : Nat)), A.t (T.int (leftF d (val (flds x5)[j]) n)), A.t (T.int i2), A.t (T.int (j + 1 : Nat)), A.t x4, A.t x5] R →
        Dz i_L08_left (some p_L08_left_c2) [A.t (T.int (d + 1 : Nat)), A.t (T.int n), A.t (T.int i2), A.t (T.int j), A.t x4, A.t x5] R := by
      intro R hR
      obtain ⟨n0, h0'⟩ := hrec.both hR
      refine Does.of n0 fun m hm => ?_
      obtain ⟨q1, q2⟩ := h0' m hm
      rw [q_L08_left_c2]
      simp only [S0, S9, S1, S2, if_true, if_false, at_get hlt, hs', hv', hd1, q1, hw]
      repeat (first | rw [if_pos (by omega)] | rw [if_neg (by omega)])
      exact q2
    rcases ihk (j + 1) (leftF d (val (flds x5)[j]) n) (by omega) (by omega) (by omega) with h | ⟨h, h'⟩
    · left; exact step _ h
    · right; exact ⟨h, step _ h'⟩
theorem left_out (d : Nat) (ih : ∀ v n, n ≤ 200 → -1 ≤ n → Dz i_L08_left none [A.t v, A.t (T.int d), A.t (T.int n)] (1, [A.t (T.int (leftF d v n))])) (hd : d ≤ 20) (x3 : T) (hl : (terms x3).length ≤ 200) :
    ∀ (k j : Nat) (n : Int), j + k = (terms x3).length → n ≤ 200 → -1 ≤ n →
      Dz i_L08_left (some p_L08_left_c1) [A.t (T.int (d + 1 : Nat)), A.t (T.int n), A.t (T.int j), A.t x3] (2, [A.t (T.int (leftTs (leftF d) ((terms x3).drop j) n))]) ∨
      Dz i_L08_left (some p_L08_left_c1) [A.t (T.int (d + 1 : Nat)), A.t (T.int n), A.t (T.int j), A.t x3] (1, [A.t (T.int (leftTs (leftF d) ((terms x3).drop j) n))]) := by
  intro k
  induction k with
  | zero =>
    intro j n hj h1 h2
    left
    refine Does.now fun m => ?_
    rw [q_L08_left_c1, List.drop_of_length_le (by omega), leftTs]
    simp only [S0, S9, S1, S2, if_true, if_false]
    repeat (first | rw [if_pos (by omega)] | rw [if_neg (by omega)])
  | succ k ihk =>
    intro j n hj h1 h2
    have hlt : j < (terms x3).length := by omega
    rw [List.drop_eq_getElem_cons hlt, leftTs]
    by_cases h0 : n < 0
    · left
      rw [if_pos h0]
      refine Does.now fun m => ?_
      rw [q_L08_left_c1]
      simp only [S0, S9, S1, S2, if_true, if_false]
      repeat (first | rw [if_pos (by omega)] | rw [if_neg (by omega)])
    rw [if_neg h0]
    by_cases hs : 400 < ((terms x3)[j].get 3).txt.size ∨ 100 < (flds (terms x3)[j]).length
    · right
      rw [if_pos hs]
      refine Does.now fun m => ?_
      rw [q_L08_left_c1]
      simp only [S0, S9, S1, S2, if_true, if_false, at_get hlt]
      rcases hs with hs | hs
      · repeat (first | rw [if_pos (by omega)] | rw [if_neg (by omega)])
        all_goals rfl
      · by_cases hs2 : 400 < ((terms x3)[j].get 3).txt.size
        · repeat (first | rw [if_pos (by omega)] | rw [if_neg (by omega)])
          all_goals rfl
        · repeat (first | rw [if_pos (by omega)] | rw [if_neg (by omega)])
          all_goals rfl
    rw [if_neg hs]
    have hle := leftFs_le (fun v n => leftF_le d v n) (flds (terms x3)[j]) (n - 1)
    have hw : IntKind.i64.wrap ((j : Int) + 1) = ((j + 1 : Nat) : Int) := i64succ (by omega)
    have hw1 : IntKind.i64.wrap (n - 1) = n - 1 := w64 (by omega) (by omega)
    have hin := left_in d ih hd j x3 (terms x3)[j] (by omega) (flds (terms x3)[j]).length 0 (n - 1) (by omega) (by omega) (by omega)
    rw [List.drop_zero] at hin
    rcases hin with hin | ⟨hr, hin⟩
    · have step : ∀ R, Dz i_L08_left (some p_L08_left_c1) [A.t (T.int (d + 1 : Nat)), A.t (T.int (leftFs (leftF d) (flds (terms x3)[j]) (n - 1))), A.t (T.int (j + 1 : Nat)), A.t x3] R →
          Dz i_L08_left (some p_L08_left_c1) [A.t (T.int (d + 1 : Nat)), A.t (T.int n), A.t (T.int j), A.t x3] R := by
        intro R hR
        obtain ⟨n0, h0'⟩ := hin.both hR
        refine Does.of n0 fun m hm => ?_
        obtain ⟨q1, q2⟩ := h0' m hm
        have q1' : den Tryz.prog G0 ents m i_L08_left (some p_L08_left_c2) [A.t (T.int (d + 1 : Nat)), A.t (T.int (n - 1)), A.t (T.int j), A.t (T.int 0), A.t x3, A.t (terms x3)[j]] = _ := q1
        rw [q_L08_left_c1]
        simp only [S0, S9, S1, S2, if_true, if_false, at_get hlt, hw1, q1', hw]
        repeat (first | rw [if_pos (by omega)] | rw [if_neg (by omega)])
        exact q2
      rcases ihk (j + 1) (leftFs (leftF d) (flds (terms x3)[j]) (n - 1)) (by omega) (by omega) (by omega) with h | h
      · left; exact step _ h
      · right; exact step _ h
    · right
      rw [hr, leftTs_neg _ _ _ (by omega)]
      obtain ⟨n0, h0'⟩ := hin
      refine Does.of n0 fun m hm => ?_
      have q1' : den Tryz.prog G0 ents m i_L08_left (some p_L08_left_c2) [A.t (T.int (d + 1 : Nat)), A.t (T.int (n - 1)), A.t (T.int j), A.t (T.int 0), A.t x3, A.t (terms x3)[j]] = _ := h0' m hm
      rw [q_L08_left_c1]
      simp only [S0, S9, S1, S2, if_true, if_false, at_get hlt, hw1, q1']
      repeat (first | rw [if_pos (by omega)] | rw [if_neg (by omega)])
theorem left_does : ∀ (d : Nat) (v : T) (n : Int), d ≤ 20 → n ≤ 200 → -1 ≤ n → Dz i_L08_left none [A.t v, A.t (T.int d), A.t (T.int n)] (1, [A.t (T.int (leftF d v n))])
  | 0, v, n, hd, h1, h2 => by
    refine Does.now fun m => ?_
    rw [q_L08_left, leftF]
    simp only [S0, S9, S1, S2, if_true, if_false]
    repeat (first | rw [if_pos (by omega)] | rw [if_neg (by omega)])
    all_goals rfl
  | d + 1, v, n, hd, h1, h2 => by
    rw [leftF]
    by_cases hl : (((terms v).length : Nat) : Int) > n
    · rw [if_pos hl]
      refine Does.now fun m => ?_
      rw [q_L08_left]
      simp only [S0, S9, S1, S2, if_true, if_false]
      repeat (first | rw [if_pos (by omega)] | rw [if_neg (by omega)])
      all_goals rfl
    · rw [if_neg hl]
      have hout := left_out d (fun v n h3 h4 => left_does d v n (by omega) h3 h4) (by omega) v (by omega) (terms v).length 0 n (by omega) h1 h2
      rw [List.drop_zero] at hout
      rcases hout with ⟨n0, h0⟩ | ⟨n0, h0⟩
      · refine Does.of n0 fun m hm => ?_
        have q1 : den Tryz.prog G0 ents m i_L08_left (some p_L08_left_c1) [A.t (T.int (d + 1 : Nat)), A.t (T.int n), A.t (T.int 0), A.t v] = _ := h0 m hm
        rw [q_L08_left]
        simp only [S0, S9, S1, S2, if_true, if_false, q1]
        repeat (first | rw [if_pos (by omega)] | rw [if_neg (by omega)])
      · refine Does.of n0 fun m hm => ?_
        have q1 : den Tryz.prog G0 ents m i_L08_left (some p_L08_left_c1) [A.t (T.int (d + 1 : Nat)), A.t (T.int n), A.t (T.int 0), A.t v] = _ := h0 m hm
        rw [q_L08_left]
        simp only [S0, S9, S1, S2, if_true, if_false, q1]
        repeat (first | rw [if_pos (by omega)] | rw [if_neg (by omega)])
end Go.Proofs.YtoekafpmpopigaaGreatDoorFP
namespace Go.Proofs.YtoekafpmpopigaaGreatDoorFP
open Go Go.Proofs.YtoekafpmpopigaaGreatDoorVM
set_option linter.unusedVariables false
set_option linter.unusedSimpArgs false
set_option maxRecDepth 100000

def up : Nat → Nat → Nat
  | 0, n => n
  | k + 1, n => Nat.succ (up k n)
theorem up_add (k n : Nat) : up k n = n + k := by
  induction k with
  | zero => rfl
  | succ k ih => rw [up, ih]; rfl
theorem run_of {i : Nat} {xs : List A} {r : Nat × List A} (k : Nat) (h : ∀ n, den Tryz.prog G0 ents (up k n) i none xs = some r) : Dz i none xs r :=
  ⟨k, fun n hn => by
    obtain ⟨j, rfl⟩ : ∃ j, n = j + k := ⟨n - k, by omega⟩
    rw [← up_add]
    exact h j⟩
def fi (p : T → Bool) : List T → Nat → Int
  | [], _ => -1
  | x :: l, k => if p x then ((k : Nat) : Int) else fi p l (k + 1)
theorem fi_any (p : T → Bool) : ∀ (l : List T) (k : Nat), decide (fi p l k ≥ 0) = l.any p
  | [], k => by simp [fi]
  | x :: l, k => by
    rw [fi, List.any_cons, ← fi_any p l (k + 1)]
    cases p x
    · simp
    · simp
theorem fi_none {p : T → Bool} {l : List T} {k : Nat} (h : l.any p = false) : fi p l k = -1 := by
  induction l generalizing k with
  | nil => rfl
  | cons x l ih =>
    rw [List.any_cons, Bool.or_eq_false_iff] at h
    rw [fi, h.1, ih h.2]
    rfl
theorem idx0_loop {i ic : Nat} {pp : List Bool} (hq : ∀ n x0 x1 x2, den Tryz.prog G0 ents (Nat.succ n) i (some pp) [A.t x0, A.t x1, A.t x2] =
  bif lt x2.n x1.n then bif ib x2.n x0.l then cl n ic [A.t (x0.a x2.n)] fun v0 => bif (r v0 0).b then rt [aI x2.n] else D n i (some pp) [aL x0.k,aI x1.n,aI (w6 (x2.n + 1))] else none else some (2,[]))
    (l : List T) (p : T → Bool) (hl : l.length ≤ 1000000000) (hp : ∀ x ∈ l, Dz ic none [A.t x] (1, [A.t (T.bool (p x))])) : ∀ (k j : Nat), j + k = l.length →
    Dz i (some pp) [A.t (T.node l), A.t (T.int (l.length : Nat)), A.t (T.int j)] (if (l.drop j).any p then (1, [A.t (T.int (fi p (l.drop j) j))]) else (2, [])) := by
  intro k
  induction k with
  | zero =>
    intro j hj
    rw [List.drop_of_length_le (by omega)]
    refine Does.now fun m => ?_
    rw [hq]
    simp only [S0, S9, S1, S2, if_true, if_false, List.any_nil]
    rw [if_neg (by omega)]
  | succ k ih =>
    intro j hj
    have hlt : j < l.length := by omega
    have hw : IntKind.i64.wrap ((j : Int) + 1) = ((j + 1 : Nat) : Int) := i64succ (by omega)
    obtain ⟨n0, h0⟩ := (hp _ (List.getElem_mem hlt)).both (ih (j + 1) (by omega))
    refine Does.of n0 fun m hm => ?_
    obtain ⟨q, q2⟩ := h0 m hm
    rw [hq, List.drop_eq_getElem_cons hlt, List.any_cons, fi]
    simp only [S0, S9, S1, S2, if_true, if_false, hw, at_get hlt, q]
    rw [if_pos (by omega), if_pos (by omega)]
    cases p l[j]
    · simp only [Bool.false_eq_true, if_false, false_or]; exact q2
    · rfl
theorem idx0_does {i ic : Nat} {pp : List Bool} (hq2 : ∀ n x0, den Tryz.prog G0 ents (Nat.succ n) i none [A.t x0] =
  lp n i pp [aL x0.k,aI x0.l,aI 0] fun v0 => bif Nat.beq v0.1 2 then rt [aI (-1)] else bif Nat.beq v0.1 1 then rt [aI (r v0.2 0).n] else none) (hq : ∀ n x0 x1 x2, den Tryz.prog G0 ents (Nat.succ n) i (some pp) [A.t x0, A.t x1, A.t x2] =
  bif lt x2.n x1.n then bif ib x2.n x0.l then cl n ic [A.t (x0.a x2.n)] fun v0 => bif (r v0 0).b then rt [aI x2.n] else D n i (some pp) [aL x0.k,aI x1.n,aI (w6 (x2.n + 1))] else none else some (2,[]))
    (l : List T) (p : T → Bool) (hl : l.length ≤ 1000000000) (hp : ∀ x ∈ l, Dz ic none [A.t x] (1, [A.t (T.bool (p x))])) : Dz i none [A.t (T.node l)] (1, [A.t (T.int (fi p l 0))]) := by
  obtain ⟨n0, h0⟩ := idx0_loop hq l p hl hp l.length 0 (by omega)
  rw [List.drop_zero] at h0
  refine Does.of n0 fun m hm => ?_
  have q : den Tryz.prog G0 ents m i (some pp) [A.t (T.node l), A.t (T.int (l.length : Nat)), A.t (T.int 0)] = _ := h0 m hm
  rw [hq2]
  simp only [S0, S9, S1, S2, if_true, if_false, q]
  cases hb : l.any p
  · rw [fi_none hb]; rfl
  · rfl
theorem has0_does {i i2 ic : Nat} {pp : List Bool} (hq3 : ∀ n x0, den Tryz.prog G0 ents (Nat.succ n) i2 none [A.t x0] =
  cl n i [aL x0.k] fun v0 => rt [aB (ge (r v0 0).n 0)]) (hq2 : ∀ n x0, den Tryz.prog G0 ents (Nat.succ n) i none [A.t x0] =
  lp n i pp [aL x0.k,aI x0.l,aI 0] fun v0 => bif Nat.beq v0.1 2 then rt [aI (-1)] else bif Nat.beq v0.1 1 then rt [aI (r v0.2 0).n] else none) (hq : ∀ n x0 x1 x2, den Tryz.prog G0 ents (Nat.succ n) i (some pp) [A.t x0, A.t x1, A.t x2] =
  bif lt x2.n x1.n then bif ib x2.n x0.l then cl n ic [A.t (x0.a x2.n)] fun v0 => bif (r v0 0).b then rt [aI x2.n] else D n i (some pp) [aL x0.k,aI x1.n,aI (w6 (x2.n + 1))] else none else some (2,[]))
    (l : List T) (p : T → Bool) (hl : l.length ≤ 1000000000) (hp : ∀ x ∈ l, Dz ic none [A.t x] (1, [A.t (T.bool (p x))])) : Dz i2 none [A.t (T.node l)] (1, [A.t (T.bool (l.any p))]) := by
  obtain ⟨n0, h0⟩ := idx0_does hq2 hq l p hl hp
  refine Does.of n0 fun m hm => ?_
  rw [hq3]
  simp only [S0, S9, S1, S2, if_true, if_false, h0 m hm, fi_any]
theorem idx1_loop {i ic : Nat} {pp : List Bool} (hq : ∀ n x0 x1 x2 x3, den Tryz.prog G0 ents (Nat.succ n) i (some pp) [A.t x0, A.t x1, A.t x2, A.t x3] =
  bif lt x2.n x1.n then bif ib x2.n x0.l then cl n ic [A.t (x0.a x2.n),A.t x3] fun v0 => bif (r v0 0).b then rt [aI x2.n,A.t (r v0 1)] else D n i (some pp) [aL x0.k,aI x1.n,aI (w6 (x2.n + 1)),A.t (r v0 1)] else none else some (2,[A.t x3]))
    (l : List T) (c0 : T) (p : T → Bool) (hl : l.length ≤ 1000000000) (hp : ∀ x ∈ l, Dz ic none [A.t x, A.t c0] (1, [A.t (T.bool (p x)), A.t c0])) : ∀ (k j : Nat), j + k = l.length →
    Dz i (some pp) [A.t (T.node l), A.t (T.int (l.length : Nat)), A.t (T.int j), A.t c0] (if (l.drop j).any p then (1, [A.t (T.int (fi p (l.drop j) j)), A.t c0]) else (2, [A.t c0])) := by
  intro k
  induction k with
  | zero =>
    intro j hj
    rw [List.drop_of_length_le (by omega)]
    refine Does.now fun m => ?_
    rw [hq]
    simp only [S0, S9, S1, S2, if_true, if_false, List.any_nil]
    rw [if_neg (by omega)]
  | succ k ih =>
    intro j hj
    have hlt : j < l.length := by omega
    have hw : IntKind.i64.wrap ((j : Int) + 1) = ((j + 1 : Nat) : Int) := i64succ (by omega)
    obtain ⟨n0, h0⟩ := (hp _ (List.getElem_mem hlt)).both (ih (j + 1) (by omega))
    refine Does.of n0 fun m hm => ?_
    obtain ⟨q, q2⟩ := h0 m hm
    rw [hq, List.drop_eq_getElem_cons hlt, List.any_cons, fi]
    simp only [S0, S9, S1, S2, if_true, if_false, hw, at_get hlt, q]
    rw [if_pos (by omega), if_pos (by omega)]
    cases p l[j]
    · simp only [Bool.false_eq_true, if_false, false_or]; exact q2
    · rfl
theorem idx1_does {i ic : Nat} {pp : List Bool} (hq2 : ∀ n x0 x1, den Tryz.prog G0 ents (Nat.succ n) i none [A.t x0, A.t x1] =
  lp n i pp [aL x0.k,aI x0.l,aI 0,A.t x1] fun v0 => bif Nat.beq v0.1 2 then rt [aI (-1),A.t (r v0.2 0)] else bif Nat.beq v0.1 1 then rt [aI (r v0.2 0).n,A.t (r v0.2 1)] else none) (hq : ∀ n x0 x1 x2 x3, den Tryz.prog G0 ents (Nat.succ n) i (some pp) [A.t x0, A.t x1, A.t x2, A.t x3] =
  bif lt x2.n x1.n then bif ib x2.n x0.l then cl n ic [A.t (x0.a x2.n),A.t x3] fun v0 => bif (r v0 0).b then rt [aI x2.n,A.t (r v0 1)] else D n i (some pp) [aL x0.k,aI x1.n,aI (w6 (x2.n + 1)),A.t (r v0 1)] else none else some (2,[A.t x3]))
    (l : List T) (c0 : T) (p : T → Bool) (hl : l.length ≤ 1000000000) (hp : ∀ x ∈ l, Dz ic none [A.t x, A.t c0] (1, [A.t (T.bool (p x)), A.t c0])) : Dz i none [A.t (T.node l), A.t c0] (1, [A.t (T.int (fi p l 0)), A.t c0]) := by
  obtain ⟨n0, h0⟩ := idx1_loop hq l c0 p hl hp l.length 0 (by omega)
  rw [List.drop_zero] at h0
  refine Does.of n0 fun m hm => ?_
  have q : den Tryz.prog G0 ents m i (some pp) [A.t (T.node l), A.t (T.int (l.length : Nat)), A.t (T.int 0), A.t c0] = _ := h0 m hm
  rw [hq2]
  simp only [S0, S9, S1, S2, if_true, if_false, q]
  cases hb : l.any p
  · rw [fi_none hb]; rfl
  · rfl
theorem has1_does {i i2 ic : Nat} {pp : List Bool} (hq3 : ∀ n x0 x1, den Tryz.prog G0 ents (Nat.succ n) i2 none [A.t x0, A.t x1] =
  cl n i [aL x0.k,A.t x1] fun v0 => rt [aB (ge (r v0 0).n 0),A.t (r v0 1)]) (hq2 : ∀ n x0 x1, den Tryz.prog G0 ents (Nat.succ n) i none [A.t x0, A.t x1] =
  lp n i pp [aL x0.k,aI x0.l,aI 0,A.t x1] fun v0 => bif Nat.beq v0.1 2 then rt [aI (-1),A.t (r v0.2 0)] else bif Nat.beq v0.1 1 then rt [aI (r v0.2 0).n,A.t (r v0.2 1)] else none) (hq : ∀ n x0 x1 x2 x3, den Tryz.prog G0 ents (Nat.succ n) i (some pp) [A.t x0, A.t x1, A.t x2, A.t x3] =
  bif lt x2.n x1.n then bif ib x2.n x0.l then cl n ic [A.t (x0.a x2.n),A.t x3] fun v0 => bif (r v0 0).b then rt [aI x2.n,A.t (r v0 1)] else D n i (some pp) [aL x0.k,aI x1.n,aI (w6 (x2.n + 1)),A.t (r v0 1)] else none else some (2,[A.t x3]))
    (l : List T) (c0 : T) (p : T → Bool) (hl : l.length ≤ 1000000000) (hp : ∀ x ∈ l, Dz ic none [A.t x, A.t c0] (1, [A.t (T.bool (p x)), A.t c0])) : Dz i2 none [A.t (T.node l), A.t c0] (1, [A.t (T.bool (l.any p)), A.t c0]) := by
  obtain ⟨n0, h0⟩ := idx1_does hq2 hq l c0 p hl hp
  refine Does.of n0 fun m hm => ?_
  rw [hq3]
  simp only [S0, S9, S1, S2, if_true, if_false, h0 m hm, fi_any]
end Go.Proofs.YtoekafpmpopigaaGreatDoorFP
namespace Go.Proofs.YtoekafpmpopigaaGreatDoorFP
open Go Go.Proofs.YtoekafpmpopigaaGreatDoorVM
set_option linter.unusedVariables false
set_option linter.unusedSimpArgs false
set_option maxRecDepth 100000

theorem sum_cons (a : Nat) (l : List Nat) : sumN (a :: l) = a + sumN l := rfl
theorem max_cons (a : Nat) (l : List Nat) : maxN (a :: l) = max a (maxN l) := rfl
theorem val_eq (f : T) : T.get f 1 = val f := id rfl
theorem nm_eq (f : T) : (T.get f 0).txt = nm f := id rfl
theorem rwt_in (d : Nat) (ih : ∀ v, Sm d v → Dz i_R08_Weight none [A.t v] (1, [A.t (T.int (wt d v : Nat))])) (l : List T) (hl : l.length ≤ 100) (hs : ∀ f ∈ l, Sm d (val f)) (i2 : Int) (x4 : T) :
    ∀ (k j n : Nat), j + k = l.length → n + 600 * k ≤ 100000000 → Dz i_R08_Weight (some p_R08_Weight_c2) [A.t (T.int n), A.t (T.int i2), A.t (T.node l), A.t (T.int j), A.t x4]
      (4, [A.t (T.int (n + sumN ((l.drop j).map fun f => wt d (val f)) : Nat)), A.t (T.int i2), A.t x4]) := by
  intro k
  induction k with
  | zero =>
    intro j n hj hn
    refine Does.now fun m => ?_
    rw [q_R08_Weight_c2, List.drop_of_length_le (by omega)]
    simp only [S0, S9, S1, S2, if_true, if_false]
    repeat (first | rw [if_pos (by omega)] | rw [if_neg (by omega)])
    rfl
  | succ k ihk =>
    intro j n hj hn
    have hlt : j < l.length := by omega
    have hsm := hs _ (List.getElem_mem hlt)
    have hw2 := hsm.2
    have hw : IntKind.i64.wrap ((j : Int) + 1) = ((j + 1 : Nat) : Int) := i64succ (by omega)
    have ha : IntKind.i64.wrap ((n : Int) + ((wt d (val l[j]) : Nat) : Int)) = ((n + wt d (val l[j]) : Nat) : Int) := i64add (by omega)
    obtain ⟨n0, h0⟩ := (ih _ hsm).both (ihk (j + 1) (n + wt d (val l[j])) (by omega) (by omega))
    refine Does.of n0 fun m hm => ?_
    obtain ⟨q1, q2⟩ := h0 m hm
    rw [q_R08_Weight_c2, List.drop_eq_getElem_cons hlt, List.map_cons, sum_cons, ← Nat.add_assoc]
    simp only [S0, S9, S1, S2, if_true, if_false, at_get hlt, val_eq, q1, ha, hw]
    repeat (first | rw [if_pos (by omega)] | rw [if_neg (by omega)])
    exact q2
theorem rwt_out (d : Nat) (ih : ∀ v, Sm d v → Dz i_R08_Weight none [A.t v] (1, [A.t (T.int (wt d v : Nat))])) (v : T) (hv : Sm (d + 1) v) :
    ∀ (k j n : Nat), j + k = (terms v).length → n + 90000 * k ≤ 100000000 → Dz i_R08_Weight (some p_R08_Weight_c1) [A.t (T.int n), A.t (T.int j), A.t v]
      (2, [A.t (T.int (n + sumN (((terms v).drop j).map (wtT d)) : Nat))]) := by
  have hl := hv.terms
  intro k
  induction k with
  | zero =>
    intro j n hj hn
    refine Does.now fun m => ?_
    rw [q_R08_Weight_c1, List.drop_of_length_le (by omega)]
    simp only [S0, S9, S1, S2, if_true, if_false]
    repeat (first | rw [if_pos (by omega)] | rw [if_neg (by omega)])
    rfl
  | succ k ihk =>
    intro j n hj hn
    have hlt : j < (terms v).length := by omega
    have hm := List.getElem_mem hlt
    have hf := hv.flds hm
    have ht := hv.wtT hm
    have hw : IntKind.i64.wrap ((j : Int) + 1) = ((j + 1 : Nat) : Int) := i64succ (by omega)
    have ha : IntKind.i64.wrap ((n : Int) + 1) = ((n + 1 : Nat) : Int) := i64succ (by omega)
    have hin := rwt_in d ih (flds (terms v)[j]) hf (fun f hf => hv.sub hm hf) j v (flds (terms v)[j]).length 0 (n + 1) (by omega) (by omega)
    have hsum : n + 1 + sumN ((flds (terms v)[j]).map fun f => wt d (val f)) = n + wtT d (terms v)[j] := by unfold wtT; omega
    rw [List.drop_zero, hsum] at hin
    obtain ⟨n0, h0⟩ := hin.both (ihk (j + 1) (n + wtT d (terms v)[j]) (by omega) (by omega))
    refine Does.of n0 fun m hm => ?_
    obtain ⟨q1, q2⟩ := h0 m hm
    have q1' : den Tryz.prog G0 ents m i_R08_Weight (some p_R08_Weight_c2) [A.t (T.int (n + 1 : Nat)), A.t (T.int j), A.t (T.node (flds (terms v)[j])), A.t (T.int 0), A.t v] = _ := q1
    rw [q_R08_Weight_c1, List.drop_eq_getElem_cons hlt, List.map_cons, sum_cons, ← Nat.add_assoc]
    simp only [S0, S9, S1, S2, if_true, if_false, at_get hlt, ha, q1', hw]
    repeat (first | rw [if_pos (by omega)] | rw [if_neg (by omega)])
    exact q2
theorem rweight_does : ∀ (d : Nat) (v : T), Sm d v → Dz i_R08_Weight none [A.t v] (1, [A.t (T.int (wt d v : Nat))])
  | 0, v, h => h.1.elim
  | d + 1, v, h => by
    have hl := h.terms
    have hout := rwt_out d (rweight_does d) v h (terms v).length 0 0 (by omega) (by omega)
    rw [List.drop_zero, Nat.zero_add, ← wt_succ] at hout
    obtain ⟨n0, h0⟩ := hout
    refine Does.of n0 fun m hm => ?_
    have q1 : den Tryz.prog G0 ents m i_R08_Weight (some p_R08_Weight_c1) [A.t (T.int 0), A.t (T.int 0), A.t v] = _ := h0 m hm
    rw [q_R08_Weight]
    simp only [S0, S9, S1, S2, if_true, if_false, q1]
theorem pwt_in (d : Nat) (ih : ∀ v, Sm d v → Dz i_rank_Weight none [A.t v] (1, [A.t (T.int (wt d v : Nat))])) (l : List T) (hl : l.length ≤ 100) (hs : ∀ f ∈ l, Sm d (val f)) (l1 : List T) (i2 i3 : Int) :
    ∀ (k j n : Nat), j + k = l.length → n + 600 * k ≤ 100000000 → Dz i_rank_Weight (some p_rank_Weight_c2) [A.t (T.int n), A.t (T.node l1), A.t (T.int i2), A.t (T.int i3), A.t (T.node l), A.t (T.int (l.length : Nat)), A.t (T.int j)]
      (4, [A.t (T.int (n + sumN ((l.drop j).map fun f => wt d (val f)) : Nat)), A.t (T.node l1), A.t (T.int i2), A.t (T.int i3)]) := by
  intro k
  induction k with
  | zero =>
    intro j n hj hn
    refine Does.now fun m => ?_
    rw [q_rank_Weight_c2, List.drop_of_length_le (by omega)]
    simp only [S0, S9, S1, S2, if_true, if_false]
    repeat (first | rw [if_pos (by omega)] | rw [if_neg (by omega)])
    rfl
  | succ k ihk =>
    intro j n hj hn
    have hlt : j < l.length := by omega
    have hsm := hs _ (List.getElem_mem hlt)
    have hw2 := hsm.2
    have hw : IntKind.i64.wrap ((j : Int) + 1) = ((j + 1 : Nat) : Int) := i64succ (by omega)
    have ha : IntKind.i64.wrap ((n : Int) + ((wt d (val l[j]) : Nat) : Int)) = ((n + wt d (val l[j]) : Nat) : Int) := i64add (by omega)
    obtain ⟨n0, h0⟩ := (ih _ hsm).both (ihk (j + 1) (n + wt d (val l[j])) (by omega) (by omega))
    refine Does.of n0 fun m hm => ?_
    obtain ⟨q1, q2⟩ := h0 m hm
    rw [q_rank_Weight_c2, List.drop_eq_getElem_cons hlt, List.map_cons, sum_cons, ← Nat.add_assoc]
    simp only [S0, S9, S1, S2, if_true, if_false, at_get hlt, val_eq, q1, ha, hw]
    repeat (first | rw [if_pos (by omega)] | rw [if_neg (by omega)])
    exact q2
theorem pwt_out (d : Nat) (ih : ∀ v, Sm d v → Dz i_rank_Weight none [A.t v] (1, [A.t (T.int (wt d v : Nat))])) (v : T) (hv : Sm (d + 1) v) :
    ∀ (k j n : Nat), j + k = (terms v).length → n + 90000 * k ≤ 100000000 → Dz i_rank_Weight (some p_rank_Weight_c1) [A.t (T.int n), A.t (T.node (terms v)), A.t (T.int ((terms v).length : Nat)), A.t (T.int j)]
      (2, [A.t (T.int (n + sumN (((terms v).drop j).map fun t => wtT d t - 1) : Nat))]) := by
  have hl := hv.terms
  intro k
  induction k with
  | zero =>
    intro j n hj hn
    refine Does.now fun m => ?_
    rw [q_rank_Weight_c1, List.drop_of_length_le (by omega)]
    simp only [S0, S9, S1, S2, if_true, if_false]
    repeat (first | rw [if_pos (by omega)] | rw [if_neg (by omega)])
    rfl
  | succ k ihk =>
    intro j n hj hn
    have hlt : j < (terms v).length := by omega
    have hm := List.getElem_mem hlt
    have hf := hv.flds hm
    have ht := hv.wtT hm
    have hw : IntKind.i64.wrap ((j : Int) + 1) = ((j + 1 : Nat) : Int) := i64succ (by omega)
    have hin := pwt_in d ih (flds (terms v)[j]) hf (fun f hf => hv.sub hm hf) (terms v) ((terms v).length : Nat) j (flds (terms v)[j]).length 0 n (by omega) (by omega)
    have hsum : n + sumN ((flds (terms v)[j]).map fun f => wt d (val f)) = n + (wtT d (terms v)[j] - 1) := by unfold wtT; omega
    rw [List.drop_zero, hsum] at hin
    obtain ⟨n0, h0⟩ := hin.both (ihk (j + 1) (n + (wtT d (terms v)[j] - 1)) (by omega) (by omega))
    refine Does.of n0 fun m hm => ?_
    obtain ⟨q1, q2⟩ := h0 m hm
    have q1' : den Tryz.prog G0 ents m i_rank_Weight (some p_rank_Weight_c2) [A.t (T.int n), A.t (T.node (terms v)), A.t (T.int ((terms v).length : Nat)), A.t (T.int j), A.t (T.node (flds (terms v)[j])), A.t (T.int ((flds (terms v)[j]).length : Nat)), A.t (T.int 0)] = _ := q1
    rw [q_rank_Weight_c1, List.drop_eq_getElem_cons hlt, List.map_cons, sum_cons, ← Nat.add_assoc]
    simp only [S0, S9, S1, S2, if_true, if_false, at_get hlt, q1', hw]
    repeat (first | rw [if_pos (by omega)] | rw [if_neg (by omega)])
    exact q2
theorem sum_less {α : Type} (f : α → Nat) (h : ∀ x, 1 ≤ f x) : ∀ l : List α, l.length + sumN (l.map fun x => f x - 1) = sumN (l.map f)
  | [] => rfl
  | x :: l => by
    have := sum_less f h l
    have h1 := h x
    simp only [List.map_cons, sum_cons, List.length_cons]
    omega
theorem pweight_does : ∀ (d : Nat) (v : T), Sm d v → Dz i_rank_Weight none [A.t v] (1, [A.t (T.int (wt d v : Nat))])
  | 0, v, h => h.1.elim
  | d + 1, v, h => by
    have hl := h.terms
    have hout := pwt_out d (pweight_does d) v h (terms v).length 0 (terms v).length (by omega) (by omega)
    rw [List.drop_zero, sum_less (wtT d) (fun t => by unfold wtT; omega), ← wt_succ] at hout
    obtain ⟨n0, h0⟩ := hout
    refine Does.of n0 fun m hm => ?_
    have q1 : den Tryz.prog G0 ents m i_rank_Weight (some p_rank_Weight_c1) [A.t (T.int ((terms v).length : Nat)), A.t (T.node (terms v)), A.t (T.int ((terms v).length : Nat)), A.t (T.int 0)] = _ := h0 m hm
    rw [q_rank_Weight]
    simp only [S0, S9, S1, S2, if_true, if_false, q1]
theorem dep_in (d : Nat) (ih : ∀ v, Sm d v → Dz i_R08_Depth none [A.t v] (1, [A.t (T.int (dep d v : Nat))])) (l : List T) (hl : l.length ≤ 100) (hs : ∀ f ∈ l, Sm d (val f)) (i2 : Int) (x4 : T) :
    ∀ (k j n : Nat), j + k = l.length → Dz i_R08_Depth (some p_R08_Depth_c2) [A.t (T.int n), A.t (T.int i2), A.t (T.node l), A.t (T.int j), A.t x4]
      (4, [A.t (T.int (max n (maxN ((l.drop j).map fun f => dep d (val f))) : Nat)), A.t (T.int i2), A.t x4]) := by
  intro k
  induction k with
  | zero =>
    intro j n hj
    refine Does.now fun m => ?_
    rw [q_R08_Depth_c2, List.drop_of_length_le (by omega), List.map_nil, show max n (maxN []) = n by simp [maxN]]
    simp only [S0, S9, S1, S2, if_true, if_false]
    repeat (first | rw [if_pos (by omega)] | rw [if_neg (by omega)])
  | succ k ihk =>
    intro j n hj
    have hlt : j < l.length := by omega
    have hsm := hs _ (List.getElem_mem hlt)
    have hw : IntKind.i64.wrap ((j : Int) + 1) = ((j + 1 : Nat) : Int) := i64succ (by omega)
    obtain ⟨n0, h0⟩ := (ih _ hsm).both (ihk (j + 1) (max n (dep d (val l[j]))) (by omega))
    refine Does.of n0 fun m hm => ?_
    obtain ⟨q1, q2⟩ := h0 m hm
    rw [q_R08_Depth_c2, List.drop_eq_getElem_cons hlt, List.map_cons, max_cons, ← Nat.max_assoc]
    simp only [S0, S9, S1, S2, if_true, if_false, at_get hlt, val_eq, q1, hw]
    rw [if_pos (by omega), if_pos (by omega)]
    by_cases hc : dep d (val l[j]) > n
    · rw [if_pos (by omega)]
      rw [Nat.max_eq_right (by omega)] at q2
      rw [Nat.max_eq_right (a := n) (b := dep d (val l[j])) (by omega)]
      exact q2
    · rw [if_neg (by omega)]
      rw [Nat.max_eq_left (by omega)] at q2
      rw [Nat.max_eq_left (a := n) (b := dep d (val l[j])) (by omega)]
      exact q2
theorem dep_out (d : Nat) (ih : ∀ v, Sm d v → Dz i_R08_Depth none [A.t v] (1, [A.t (T.int (dep d v : Nat))])) (v : T) (hv : Sm (d + 1) v) :
    ∀ (k j n : Nat), j + k = (terms v).length → Dz i_R08_Depth (some p_R08_Depth_c1) [A.t (T.int n), A.t (T.int j), A.t v]
      (2, [A.t (T.int (max n (maxN (((terms v).drop j).map fun t => maxN ((flds t).map fun f => dep d (val f)))) : Nat))]) := by
  have hl := hv.terms
  intro k
  induction k with
  | zero =>
    intro j n hj
    refine Does.now fun m => ?_
    rw [q_R08_Depth_c1, List.drop_of_length_le (by omega), List.map_nil, show max n (maxN []) = n by simp [maxN]]
    simp only [S0, S9, S1, S2, if_true, if_false]
    repeat (first | rw [if_pos (by omega)] | rw [if_neg (by omega)])
  | succ k ihk =>
    intro j n hj
    have hlt : j < (terms v).length := by omega
    have hm := List.getElem_mem hlt
    have hf := hv.flds hm
    have hw : IntKind.i64.wrap ((j : Int) + 1) = ((j + 1 : Nat) : Int) := i64succ (by omega)
    have hin := dep_in d ih (flds (terms v)[j]) hf (fun f hf => hv.sub hm hf) j v (flds (terms v)[j]).length 0 n (by omega)
    rw [List.drop_zero] at hin
    obtain ⟨n0, h0⟩ := hin.both (ihk (j + 1) (max n (maxN ((flds (terms v)[j]).map fun f => dep d (val f)))) (by omega))
    refine Does.of n0 fun m hm => ?_
    obtain ⟨q1, q2⟩ := h0 m hm
    have q1' : den Tryz.prog G0 ents m i_R08_Depth (some p_R08_Depth_c2) [A.t (T.int n), A.t (T.int j), A.t (T.node (flds (terms v)[j])), A.t (T.int 0), A.t v] = _ := q1
    rw [q_R08_Depth_c1, List.drop_eq_getElem_cons hlt, List.map_cons, max_cons, ← Nat.max_assoc]
    simp only [S0, S9, S1, S2, if_true, if_false, at_get hlt, q1', hw]
    repeat (first | rw [if_pos (by omega)] | rw [if_neg (by omega)])
    exact q2
theorem dep_le : ∀ (d : Nat) (v : T), dep d v ≤ d
  | 0, v => Nat.le_refl _
  | d + 1, v => by
    have h : ∀ l : List Nat, (∀ x ∈ l, x ≤ d) → maxN l ≤ d := by
      intro l
      induction l with
      | nil => intro _; exact Nat.zero_le _
      | cons x l ih => intro hx; rw [max_cons]; have := hx x List.mem_cons_self; have := ih fun y hy => hx y (List.mem_cons_of_mem _ hy); omega
    have : maxN ((terms v).map fun t => maxN ((flds t).map fun f => dep d (val f))) ≤ d := by
      refine h _ fun x hx => ?_
      obtain ⟨t, _, rfl⟩ := List.mem_map.1 hx
      refine h _ fun y hy => ?_
      obtain ⟨f, _, rfl⟩ := List.mem_map.1 hy
      exact dep_le d (val f)
    simp only [dep]
    omega
theorem depth_does : ∀ (d : Nat) (v : T), d ≤ 1000 → Sm d v → Dz i_R08_Depth none [A.t v] (1, [A.t (T.int (dep d v : Nat))])
  | 0, v, _, h => h.1.elim
  | d + 1, v, hd, h => by
    have hout := dep_out d (fun v hv => depth_does d v (by omega) hv) v h (terms v).length 0 0 (by omega)
    rw [List.drop_zero, Nat.zero_max] at hout
    have hle := dep_le (d + 1) v
    simp only [dep] at hle
    obtain ⟨n0, h0⟩ := hout
    refine Does.of n0 fun m hm => ?_
    have q1 : den Tryz.prog G0 ents m i_R08_Depth (some p_R08_Depth_c1) [A.t (T.int 0), A.t (T.int 0), A.t v] = _ := h0 m hm
    have hw : IntKind.i64.wrap ((1 : Int) + ((maxN ((terms v).map fun t => maxN ((flds t).map fun f => dep d (val f))) : Nat) : Int)) = ((dep (d + 1) v : Nat) : Int) := by
      simp only [dep]
      rw [w64 (by omega) (by omega)]; omega
    rw [q_R08_Depth]
    simp only [S0, S9, S1, S2, if_true, if_false, q1, hw]
def few (v : T) : Bool := decide (0 ≤ leftF 20 v 200) && decide (wt 20 v ≤ 40)
theorem few_sm {v : T} (h : few v = true) : Sm 20 v := by
  unfold few at h
  rw [Bool.and_eq_true, decide_eq_true_eq, decide_eq_true_eq] at h
  exact ⟨(left_few 20 v 200 h.1).1, by omega⟩
theorem few_does (v : T) : Dz i_L09_Few none [A.t v] (1, [A.t (T.bool (few v))]) := by
  have h8 : Dz i_L08_Few none [A.t v] (1, [A.t (T.bool (decide (0 ≤ leftF 20 v 200)))]) := by
    obtain ⟨n0, h0⟩ := left_does 20 v 200 (by omega) (by omega) (by omega)
    refine Does.of n0 fun m hm => ?_
    have q1 : den Tryz.prog G0 ents m i_L08_left none [A.t v, A.t (T.int 20), A.t (T.int 200)] = _ := h0 m hm
    rw [q_L08_Few]
    simp only [S0, S9, S1, S2, if_true, if_false, q1, ge_iff_le]
  unfold few
  by_cases h : 0 ≤ leftF 20 v 200
  · obtain ⟨h1, h2⟩ := left_few 20 v 200 h
    have hsm : Sm 20 v := ⟨h1, by omega⟩
    obtain ⟨n0, h0⟩ := h8.both (rweight_does 20 v hsm)
    refine Does.of n0 fun m hm => ?_
    obtain ⟨q1, q2⟩ := h0 m hm
    rw [decide_eq_true h] at q1
    rw [q_L09_Few]
    simp only [S0, S9, S1, S2, if_true, if_false, q1, q2, decide_eq_true h, Bool.true_and]
    have : decide ((((wt 20 v : Nat)) : Int) ≤ 40) = decide (wt 20 v ≤ 40) := by
      apply decide_eq_decide.2; omega
    rw [this]
  · obtain ⟨n0, h0⟩ := h8
    refine Does.of n0 fun m hm => ?_
    have q1 := h0 m hm
    rw [decide_eq_false h] at q1
    rw [q_L09_Few]
    simp only [S0, S9, S1, S2, if_true, if_false, q1, decide_eq_false h, Bool.false_and]
end Go.Proofs.YtoekafpmpopigaaGreatDoorFP
namespace Go.Proofs.YtoekafpmpopigaaGreatDoorFP
open Go Go.Proofs.YtoekafpmpopigaaGreatDoorVM
set_option linter.unusedVariables false
set_option linter.unusedSimpArgs false
set_option maxRecDepth 100000

def fst (x y : Int) : Int := if x = 0 then y else x
theorem fst_zero (y : Int) : fst 0 y = y := rfl
theorem fst_ne {x : Int} (h : x ≠ 0) (y : Int) : fst x y = x := if_neg h
theorem fst_z (x : Int) : fst x 0 = x := by
  unfold fst
  split <;> simp_all
theorem fst_assoc (a b c : Int) : fst (fst a b) c = fst a (fst b c) := by
  unfold fst
  by_cases h : a = 0
  · simp [h]
  · simp [h]
def cmpI (a b : Int) : Int := if a < b then -1 else if a > b then 1 else 0
def cmpF1 (a b : Bool) : Int := (if a then 1 else 0) - (if b then 1 else 0)
def cmpL (f : T → T → Int) : List T → List T → Int
  | [], [] => 0
  | [], _ :: _ => -1
  | _ :: _, [] => 1
  | a :: l, b :: m => fst (f a b) (cmpL f l m)
theorem cmpL_cons (f : T → T → Int) (a b : T) (l m : List T) : cmpL f (a :: l) (b :: m) = fst (f a b) (cmpL f l m) := rfl
theorem cmpL_end (f : T → T → Int) (l m : List T) (j : Nat) (h : j = min l.length m.length) : cmpL f (l.drop j) (m.drop j) = cmpI l.length m.length := by
  unfold cmpI
  rcases Nat.lt_trichotomy l.length m.length with h1 | h1 | h1
  · rw [List.drop_of_length_le (l := l) (by omega), if_pos (by omega), List.drop_eq_getElem_cons (l := m) (i := j) (by omega)]; rfl
  · rw [List.drop_of_length_le (l := l) (by omega), List.drop_of_length_le (l := m) (by omega), if_neg (by omega), if_neg (by omega)]; rfl
  · rw [List.drop_of_length_le (l := m) (by omega), if_neg (by omega), if_pos (by omega), List.drop_eq_getElem_cons (l := l) (i := j) (by omega)]; rfl
def plainC (a b : T) : Int := fst (cmpI (a.get 0).num (b.get 0).num) (fst (cmpI (a.get 1).num (b.get 1).num) (fst (cmpI (a.get 2).num (b.get 2).num) (fst (cmpB (a.get 3).txt (b.get 3).txt)
  (fst (cmpF1 (a.get 4).tf (b.get 4).tf) (fst (cmpF1 (a.get 5).tf (b.get 5).tf) (cmpF1 (a.get 6).tf (b.get 6).tf))))))
def cmpV : Nat → T → T → Int
  | 0, _, _ => 0
  | d + 1, a, b => cmpL (fun t u => fst (plainC t u) (cmpL (fun f g => fst (cmpB (nm f) (nm g)) (cmpV d (val f) (val g))) (flds t) (flds u))) (terms a) (terms b)
def cmpG (d : Nat) (f g : T) : Int := fst (cmpB (nm f) (nm g)) (cmpV d (val f) (val g))
def cmpT (d : Nat) (t u : T) : Int := fst (plainC t u) (cmpL (cmpG d) (flds t) (flds u))
theorem cmpV_succ (d : Nat) (a b : T) : cmpV (d + 1) a b = cmpL (cmpT d) (terms a) (terms b) := rfl

theorem neg1 : Int.negSucc 0 = -1 := id rfl
theorem nan_does (a : Int) : Dz i_cmp_isNaN_int none [A.t (T.int a)] (1, [A.t (T.bool false)]) := by
  refine Does.now fun n => ?_
  rw [q_cmp_isNaN_int]
  simp only [S0, S9, S1, S2, if_true, if_false, bne_self_eq_false]
theorem cmp_does (a b : Int) : Dz i_cmp_Compare_int none [A.t (T.int a), A.t (T.int b)] (1, [A.t (T.int (cmpI a b))]) := by
  obtain ⟨n0, h0⟩ := (nan_does a).both (nan_does b)
  refine Does.of n0 fun n hn => ?_
  obtain ⟨q1, q2⟩ := h0 n hn
  rw [q_cmp_Compare_int]
  simp only [S0, S9, S1, S2, if_true, if_false, q1, q2, neg1]
  unfold cmpI
  split
  · rfl
  · split <;> rfl
theorem strcmp_eq (n : Nat) (a b : ByteArray) : den Tryz.prog G0 ents (Nat.succ n) i_strings_Compare none [A.t (T.str a), A.t (T.str b)] = some (1, [A.t (T.int (cmpB a b))]) := by kernel_rfl
theorem strcmp_does (a b : ByteArray) : Dz i_strings_Compare none [A.t (T.str a), A.t (T.str b)] (1, [A.t (T.int (cmpB a b))]) := Does.now fun n => strcmp_eq n a b
theorem flag_does (b : Bool) : Dz i_rank_flag none [A.t (T.bool b)] (1, [A.t (T.int (if b then 1 else 0))]) := by
  refine Does.now fun n => ?_
  rw [q_rank_flag]
  cases b <;> rfl
def firstL : List Int → Int
  | [] => 0
  | x :: l => fst x (firstL l)
theorem first_loop (l : List Int) (hl : l.length ≤ 1000) : ∀ (k j : Nat), j + k = l.length →
    (Dz i_rank_first_o (some p_rank_first_o_c1) [A.t (T.int (l.length : Nat)), A.t (T.int j), A.t (T.node (l.map T.int))] (2, [A.t (T.node (l.map T.int))]) ∧ firstL (l.drop j) = 0) ∨
    Dz i_rank_first_o (some p_rank_first_o_c1) [A.t (T.int (l.length : Nat)), A.t (T.int j), A.t (T.node (l.map T.int))] (1, [A.t (T.int (firstL (l.drop j))), A.t (T.node (l.map T.int))]) := by
  intro k
  induction k with
  | zero =>
    intro j hj
    left
    refine ⟨Does.now fun n => ?_, by rw [List.drop_of_length_le (by omega)]; rfl⟩
    rw [q_rank_first_o_c1]
    simp only [S0, S9, S1, S2, if_true, if_false]
    rw [if_neg (by omega)]
  | succ k ih =>
    intro j hj
    have h1 : j < l.length := by omega
    have hw : IntKind.i64.wrap ((j : Int) + 1) = ((j + 1 : Nat) : Int) := i64succ (by omega)
    have hg : tAtD (l.map T.int) j = T.int l[j] := by simp [tAtD, List.getD, h1]
    rw [List.drop_eq_getElem_cons h1, firstL]
    by_cases h0 : l[j] = 0
    · have step : ∀ R, Dz i_rank_first_o (some p_rank_first_o_c1) [A.t (T.int (l.length : Nat)), A.t (T.int (j + 1 : Nat)), A.t (T.node (l.map T.int))] R → Dz i_rank_first_o (some p_rank_first_o_c1) [A.t (T.int (l.length : Nat)), A.t (T.int j), A.t (T.node (l.map T.int))] R := by
        intro R hR
        refine Does.next hR fun n => ?_
        rw [q_rank_first_o_c1]
        simp only [S0, S9, S1, S2, if_true, if_false, hg, h0, hw, List.length_map]
        rw [if_pos (by omega), if_pos (by omega), if_pos (by omega), if_neg (by simp)]
      rw [h0, fst_zero]
      rcases ih (j + 1) (by omega) with ⟨h3, h4⟩ | h3
      · left; exact ⟨step _ h3, h4⟩
      · right; exact step _ h3
    · right
      rw [fst_ne h0]
      refine Does.now fun n => ?_
      rw [q_rank_first_o_c1]
      simp only [S0, S9, S1, S2, if_true, if_false, hg, List.length_map]
      rw [if_pos (by omega), if_pos (by omega), if_pos (by omega), if_pos h0]
theorem first_does (l : List Int) (hl : l.length ≤ 1000) : Dz i_rank_first_o none [A.t (T.node (l.map T.int))] (1, [A.t (T.int (firstL l)), A.t (T.node (l.map T.int))]) := by
  rcases first_loop l hl l.length 0 (by omega) with ⟨⟨n0, h⟩, h2⟩ | ⟨n0, h⟩
  · refine Does.of n0 fun n hn => ?_
    have q1' : den Tryz.prog G0 ents n i_rank_first_o (some p_rank_first_o_c1) [A.t (T.int (l.length : Nat)), A.t (T.int 0), A.t (T.node (l.map T.int))] = _ := h n hn
    rw [List.drop_zero] at h2
    rw [q_rank_first_o]; simp only [S9, S1]; rw [h2]
    simp only [S0, S9, S1, S2, if_true, if_false, List.length_map, q1']
  · refine Does.of n0 fun n hn => ?_
    have q1' : den Tryz.prog G0 ents n i_rank_first_o (some p_rank_first_o_c1) [A.t (T.int (l.length : Nat)), A.t (T.int 0), A.t (T.node (l.map T.int))] = _ := h n hn
    rw [q_rank_first_o]
    simp only [S0, S9, S1, S2, if_true, if_false, List.length_map, q1', List.drop_zero]

theorem rank_lists_Field_loop (f : T → T → Int) (l m : List T) (hl : l.length ≤ 1000) (hm : m.length ≤ 1000) (hf : ∀ x ∈ l, ∀ y ∈ m, Dz i_rank_fields none [A.t x, A.t y] (1, [A.t (T.int (f x y))])) :
    ∀ (k j : Nat), j + k = min l.length m.length →
      (Dz i_rank_lists_Field_fields (some p_rank_lists_Field_fields_c1) [A.t (T.node l), A.t (T.node m), A.t (T.int (min l.length m.length : Nat)), A.t (T.int j)] (2, [A.t (T.node l), A.t (T.node m)]) ∧ cmpL f (l.drop j) (m.drop j) = cmpI l.length m.length) ∨
      Dz i_rank_lists_Field_fields (some p_rank_lists_Field_fields_c1) [A.t (T.node l), A.t (T.node m), A.t (T.int (min l.length m.length : Nat)), A.t (T.int j)] (1, [A.t (T.int (cmpL f (l.drop j) (m.drop j)))]) := by
  intro k
  induction k with
  | zero =>
    intro j hj
    left
    refine ⟨Does.now fun n => ?_, cmpL_end f l m j (by omega)⟩
    rw [q_rank_lists_Field_fields_c1]
    simp only [S0, S9, S1, S2, if_true, if_false]
    rw [if_neg (by omega)]
  | succ k ih =>
    intro j hj
    have h1 : j < l.length := by omega
    have h2 : j < m.length := by omega
    have hw : IntKind.i64.wrap ((j : Int) + 1) = ((j + 1 : Nat) : Int) := i64succ (by omega)
    have hc := hf _ (List.getElem_mem h1) _ (List.getElem_mem h2)
    rw [List.drop_eq_getElem_cons h1, List.drop_eq_getElem_cons h2, cmpL_cons]
    by_cases h0 : f l[j] m[j] = 0
    · have step : ∀ R, Dz i_rank_lists_Field_fields (some p_rank_lists_Field_fields_c1) [A.t (T.node l), A.t (T.node m), A.t (T.int (min l.length m.length : Nat)), A.t (T.int (j + 1 : Nat))] R → Dz i_rank_lists_Field_fields (some p_rank_lists_Field_fields_c1) [A.t (T.node l), A.t (T.node m), A.t (T.int (min l.length m.length : Nat)), A.t (T.int j)] R := by
        intro R hR
        obtain ⟨n0, h⟩ := hc.both hR
        refine Does.of n0 fun n hn => ?_
        obtain ⟨q1, q2⟩ := h n hn
        rw [q_rank_lists_Field_fields_c1]
        simp only [S0, S9, S1, S2, if_true, if_false, at_get h1, at_get h2, q1, h0, hw]
        rw [if_pos (by omega), if_pos (by omega), if_pos (by omega), if_neg (by simp)]
        exact q2
      rw [h0, fst_zero]
      rcases ih (j + 1) (by omega) with ⟨h3, h4⟩ | h3
      · left; exact ⟨step _ h3, h4⟩
      · right; exact step _ h3
    · right
      rw [fst_ne h0]
      obtain ⟨n0, h⟩ := hc
      refine Does.of n0 fun n hn => ?_
      rw [q_rank_lists_Field_fields_c1]
      simp only [S0, S9, S1, S2, if_true, if_false, at_get h1, at_get h2, h n hn]
      rw [if_pos (by omega), if_pos (by omega), if_pos (by omega), if_pos h0]
theorem rank_lists_Field_does (f : T → T → Int) (l m : List T) (hl : l.length ≤ 1000) (hm : m.length ≤ 1000) (hf : ∀ x ∈ l, ∀ y ∈ m, Dz i_rank_fields none [A.t x, A.t y] (1, [A.t (T.int (f x y))])) :
    Dz i_rank_lists_Field_fields none [A.t (T.node l), A.t (T.node m)] (1, [A.t (T.int (cmpL f l m))]) := by
  have hmin : minI ((l.length : Nat) : Int) ((m.length : Nat) : Int) = ((min l.length m.length : Nat) : Int) := by unfold minI; split <;> omega
  rcases rank_lists_Field_loop f l m hl hm hf (min l.length m.length) 0 (by omega) with ⟨h1, h2⟩ | h1
  · obtain ⟨n0, h⟩ := h1.both (cmp_does l.length m.length)
    refine Does.of n0 fun n hn => ?_
    obtain ⟨q1, q2⟩ := h n hn
    rw [List.drop_zero, List.drop_zero] at h2
    have q1' : den Tryz.prog G0 ents n i_rank_lists_Field_fields (some p_rank_lists_Field_fields_c1) [A.t (T.node l), A.t (T.node m), A.t (T.int (min l.length m.length : Nat)), A.t (T.int 0)] = _ := q1
    rw [q_rank_lists_Field_fields]; simp only [S9, S1]; rw [h2]
    simp only [S0, S9, S1, S2, if_true, if_false, hmin, q1', q2]
  · obtain ⟨n0, h⟩ := h1
    refine Does.of n0 fun n hn => ?_
    have q1' : den Tryz.prog G0 ents n i_rank_lists_Field_fields (some p_rank_lists_Field_fields_c1) [A.t (T.node l), A.t (T.node m), A.t (T.int (min l.length m.length : Nat)), A.t (T.int 0)] = _ := h n hn
    rw [q_rank_lists_Field_fields]
    simp only [S0, S9, S1, S2, if_true, if_false, hmin, q1']
    rfl

theorem rank_lists_Term_loop (f : T → T → Int) (l m : List T) (hl : l.length ≤ 1000) (hm : m.length ≤ 1000) (hf : ∀ x ∈ l, ∀ y ∈ m, Dz i_rank_Terms none [A.t x, A.t y] (1, [A.t (T.int (f x y))])) :
    ∀ (k j : Nat), j + k = min l.length m.length →
      (Dz i_rank_lists_Term_Terms (some p_rank_lists_Term_Terms_c1) [A.t (T.node l), A.t (T.node m), A.t (T.int (min l.length m.length : Nat)), A.t (T.int j)] (2, [A.t (T.node l), A.t (T.node m)]) ∧ cmpL f (l.drop j) (m.drop j) = cmpI l.length m.length) ∨
      Dz i_rank_lists_Term_Terms (some p_rank_lists_Term_Terms_c1) [A.t (T.node l), A.t (T.node m), A.t (T.int (min l.length m.length : Nat)), A.t (T.int j)] (1, [A.t (T.int (cmpL f (l.drop j) (m.drop j)))]) := by
  intro k
  induction k with
  | zero =>
    intro j hj
    left
    refine ⟨Does.now fun n => ?_, cmpL_end f l m j (by omega)⟩
    rw [q_rank_lists_Term_Terms_c1]
    simp only [S0, S9, S1, S2, if_true, if_false]
    rw [if_neg (by omega)]
  | succ k ih =>
    intro j hj
    have h1 : j < l.length := by omega
    have h2 : j < m.length := by omega
    have hw : IntKind.i64.wrap ((j : Int) + 1) = ((j + 1 : Nat) : Int) := i64succ (by omega)
    have hc := hf _ (List.getElem_mem h1) _ (List.getElem_mem h2)
    rw [List.drop_eq_getElem_cons h1, List.drop_eq_getElem_cons h2, cmpL_cons]
    by_cases h0 : f l[j] m[j] = 0
    · have step : ∀ R, Dz i_rank_lists_Term_Terms (some p_rank_lists_Term_Terms_c1) [A.t (T.node l), A.t (T.node m), A.t (T.int (min l.length m.length : Nat)), A.t (T.int (j + 1 : Nat))] R → Dz i_rank_lists_Term_Terms (some p_rank_lists_Term_Terms_c1) [A.t (T.node l), A.t (T.node m), A.t (T.int (min l.length m.length : Nat)), A.t (T.int j)] R := by
        intro R hR
        obtain ⟨n0, h⟩ := hc.both hR
        refine Does.of n0 fun n hn => ?_
        obtain ⟨q1, q2⟩ := h n hn
        rw [q_rank_lists_Term_Terms_c1]
        simp only [S0, S9, S1, S2, if_true, if_false, at_get h1, at_get h2, q1, h0, hw]
        rw [if_pos (by omega), if_pos (by omega), if_pos (by omega), if_neg (by simp)]
        exact q2
      rw [h0, fst_zero]
      rcases ih (j + 1) (by omega) with ⟨h3, h4⟩ | h3
      · left; exact ⟨step _ h3, h4⟩
      · right; exact step _ h3
    · right
      rw [fst_ne h0]
      obtain ⟨n0, h⟩ := hc
      refine Does.of n0 fun n hn => ?_
      rw [q_rank_lists_Term_Terms_c1]
      simp only [S0, S9, S1, S2, if_true, if_false, at_get h1, at_get h2, h n hn]
      rw [if_pos (by omega), if_pos (by omega), if_pos (by omega), if_pos h0]
theorem rank_lists_Term_does (f : T → T → Int) (l m : List T) (hl : l.length ≤ 1000) (hm : m.length ≤ 1000) (hf : ∀ x ∈ l, ∀ y ∈ m, Dz i_rank_Terms none [A.t x, A.t y] (1, [A.t (T.int (f x y))])) :
    Dz i_rank_lists_Term_Terms none [A.t (T.node l), A.t (T.node m)] (1, [A.t (T.int (cmpL f l m))]) := by
  have hmin : minI ((l.length : Nat) : Int) ((m.length : Nat) : Int) = ((min l.length m.length : Nat) : Int) := by unfold minI; split <;> omega
  rcases rank_lists_Term_loop f l m hl hm hf (min l.length m.length) 0 (by omega) with ⟨h1, h2⟩ | h1
  · obtain ⟨n0, h⟩ := h1.both (cmp_does l.length m.length)
    refine Does.of n0 fun n hn => ?_
    obtain ⟨q1, q2⟩ := h n hn
    rw [List.drop_zero, List.drop_zero] at h2
    have q1' : den Tryz.prog G0 ents n i_rank_lists_Term_Terms (some p_rank_lists_Term_Terms_c1) [A.t (T.node l), A.t (T.node m), A.t (T.int (min l.length m.length : Nat)), A.t (T.int 0)] = _ := q1
    rw [q_rank_lists_Term_Terms]; simp only [S9, S1]; rw [h2]
    simp only [S0, S9, S1, S2, if_true, if_false, hmin, q1', q2]
  · obtain ⟨n0, h⟩ := h1
    refine Does.of n0 fun n hn => ?_
    have q1' : den Tryz.prog G0 ents n i_rank_lists_Term_Terms (some p_rank_lists_Term_Terms_c1) [A.t (T.node l), A.t (T.node m), A.t (T.int (min l.length m.length : Nat)), A.t (T.int 0)] = _ := h n hn
    rw [q_rank_lists_Term_Terms]
    simp only [S0, S9, S1, S2, if_true, if_false, hmin, q1']
    rfl

theorem fields_does (d : Nat) (f g : T) (h : Dz i_rank_Compare none [A.t (val f), A.t (val g)] (1, [A.t (T.int (cmpV d (val f) (val g)))])) : Dz i_rank_fields none [A.t f, A.t g] (1, [A.t (T.int (cmpG d f g))]) := by
  obtain ⟨n1, h1⟩ := strcmp_does (nm f) (nm g)
  obtain ⟨n2, h2⟩ := h
  obtain ⟨n3, h3⟩ := first_does [cmpB (nm f) (nm g), cmpV d (val f) (val g)] (by simp)
  refine Does.of (n1 + n2 + n3) fun n hn => ?_
  have h3' : den Tryz.prog G0 ents n i_rank_first_o none [A.t (T.node [T.int (cmpB (nm f) (nm g)), T.int (cmpV d (val f) (val g))])] = _ := h3 n (by omega)
  rw [q_rank_fields]
  simp only [S0, S9, S1, S2, if_true, if_false, nm_eq, val_eq, h1 n (by omega), h2 n (by omega), h3']
  have : firstL [cmpB (nm f) (nm g), cmpV d (val f) (val g)] = cmpG d f g := by
    simp only [firstL, cmpG, fst_z]
  rw [this]
theorem pterms_does (d : Nat) (t u : T) (ht : (flds t).length ≤ 1000) (hu : (flds u).length ≤ 1000) (h : ∀ f ∈ flds t, ∀ g ∈ flds u, Dz i_rank_Compare none [A.t (val f), A.t (val g)] (1, [A.t (T.int (cmpV d (val f) (val g)))])) :
    Dz i_rank_Terms none [A.t t, A.t u] (1, [A.t (T.int (cmpT d t u))]) := by
  obtain ⟨n1, h1⟩ := cmp_does (t.get 0).num (u.get 0).num
  obtain ⟨n2, h2⟩ := cmp_does (t.get 1).num (u.get 1).num
  obtain ⟨n3, h3⟩ := cmp_does (t.get 2).num (u.get 2).num
  obtain ⟨n4, h4⟩ := strcmp_does (t.get 3).txt (u.get 3).txt
  obtain ⟨n5, h5⟩ := flag_does (t.get 4).tf
  obtain ⟨n6, h6⟩ := flag_does (u.get 4).tf
  obtain ⟨n7, h7⟩ := flag_does (t.get 5).tf
  obtain ⟨n8, h8⟩ := flag_does (u.get 5).tf
  obtain ⟨n9, h9⟩ := flag_does (t.get 6).tf
  obtain ⟨n10, h10⟩ := flag_does (u.get 6).tf
  obtain ⟨n11, h11⟩ := rank_lists_Field_does (cmpG d) (flds t) (flds u) ht hu (fun f hf g hg => fields_does d f g (h f hf g hg))
  obtain ⟨n12, h12⟩ := first_does [cmpI (t.get 0).num (u.get 0).num, cmpI (t.get 1).num (u.get 1).num, cmpI (t.get 2).num (u.get 2).num, cmpB (t.get 3).txt (u.get 3).txt, cmpF1 (t.get 4).tf (u.get 4).tf, cmpF1 (t.get 5).tf (u.get 5).tf, cmpF1 (t.get 6).tf (u.get 6).tf, cmpL (cmpG d) (flds t) (flds u)] (by simp)
  have hb : ∀ a b : Bool, IntKind.i64.wrap ((if a = true then (1 : Int) else 0) - (if b = true then (1 : Int) else 0)) = cmpF1 a b := by
    intro a b; cases a <;> cases b <;> rfl
  refine Does.of (n1 + n2 + n3 + n4 + n5 + n6 + n7 + n8 + n9 + n10 + n11 + n12) fun n hn => ?_
  have h12' := h12 n (by omega)
  simp only [List.map_cons, List.map_nil] at h12'
  rw [q_rank_Terms]
  simp only [S0, S9, S1, S2, if_true, if_false, h1 n (by omega), h2 n (by omega), h3 n (by omega), h4 n (by omega), h5 n (by omega), h6 n (by omega), h7 n (by omega), h8 n (by omega), h9 n (by omega), h10 n (by omega), h11 n (by omega), hb, h12']
  have : firstL [cmpI (t.get 0).num (u.get 0).num, cmpI (t.get 1).num (u.get 1).num, cmpI (t.get 2).num (u.get 2).num, cmpB (t.get 3).txt (u.get 3).txt, cmpF1 (t.get 4).tf (u.get 4).tf, cmpF1 (t.get 5).tf (u.get 5).tf, cmpF1 (t.get 6).tf (u.get 6).tf, cmpL (cmpG d) (flds t) (flds u)] = cmpT d t u := by
    simp only [firstL, fst_z, cmpT, plainC, fst_assoc]
  rw [this]
theorem pcompare_does : ∀ (d : Nat) (a b : T), Sm d a → Sm d b → Dz i_rank_Compare none [A.t a, A.t b] (1, [A.t (T.int (cmpV d a b))])
  | 0, a, b, h, _ => h.1.elim
  | d + 1, a, b, ha, hb => by
    have la := ha.terms
    have lb := hb.terms
    obtain ⟨n0, h0⟩ := rank_lists_Term_does (cmpT d) (terms a) (terms b) (by omega) (by omega) (fun t ht u hu =>
      pterms_does d t u (by have := ha.flds ht; omega) (by have := hb.flds hu; omega) (fun f hf g hg => pcompare_does d _ _ (ha.sub ht hf) (hb.sub hu hg)))
    refine Does.of n0 fun n hn => ?_
    rw [q_rank_Compare]
    simp only [S0, S9, S1, S2, if_true, if_false, h0 n hn]
    rfl
def SmT (d : Nat) (t : T) : Prop := (flds t).length ≤ 100 ∧ ∀ f ∈ flds t, Sm d (val f)
theorem Sm.term {d : Nat} {v t : T} (h : Sm (d + 1) v) (ht : t ∈ YtoekafpmpopigaaGreatDoorFP.terms v) : SmT d t := ⟨h.flds ht, fun f hf => h.sub ht hf⟩
theorem pt_does {d : Nat} {t u : T} (ht : SmT d t) (hu : SmT d u) : Dz i_rank_Terms none [A.t t, A.t u] (1, [A.t (T.int (cmpT d t u))]) :=
  pterms_does d t u (by have := ht.1; omega) (by have := hu.1; omega) (fun f hf g hg => pcompare_does d _ _ (ht.2 f hf) (hu.2 g hg))
end Go.Proofs.YtoekafpmpopigaaGreatDoorFP
namespace Go.Proofs.YtoekafpmpopigaaGreatDoorFP
open Go Go.Proofs.YtoekafpmpopigaaGreatDoorVM
set_option linter.unusedVariables false
set_option linter.unusedSimpArgs false
set_option maxRecDepth 100000

theorem seqB_iff (a b : ByteArray) : seqB a b = true ↔ a = b := by
  simp only [seqB, beq_iff_eq]
  exact ⟨fun h => by rw [ByteArray.toList_eq, ByteArray.toList_eq] at h; exact ByteArray.ext (Array.toList_inj.1 h), fun h => by rw [h]⟩
theorem bl_irrefl : ∀ l : List UInt8, Op.bytesLess l l = false
  | [] => rfl
  | a :: l => by simp [Op.bytesLess, bl_irrefl l, UInt8.lt_irrefl]
theorem bl_tri : ∀ l m : List UInt8, Op.bytesLess l m = true ∨ Op.bytesLess m l = true ∨ l = m
  | [], [] => .inr (.inr rfl)
  | [], _ :: _ => .inl rfl
  | _ :: _, [] => .inr (.inl rfl)
  | a :: l, b :: m => by
    simp only [Op.bytesLess, Bool.or_eq_true, decide_eq_true_eq, Bool.and_eq_true, beq_iff_eq, List.cons.injEq]
    rcases UInt8.lt_or_lt_of_ne (a := a) (b := b) |> fun h => (Classical.em (a = b)).imp_right h with h | h | h
    · subst h
      rcases bl_tri l m with h | h | h
      · exact .inl (.inr ⟨rfl, h⟩)
      · exact .inr (.inl (.inr ⟨rfl, h⟩))
      · exact .inr (.inr ⟨rfl, h⟩)
    · exact .inl (.inl h)
    · exact .inr (.inl (.inl h))
theorem bl_asymm : ∀ l m : List UInt8, Op.bytesLess l m = true → Op.bytesLess m l = false
  | l, [], h => by cases l <;> simp [Op.bytesLess] at h
  | [], _ :: _, _ => rfl
  | a :: l, b :: m, h => by
    simp only [Op.bytesLess, Bool.or_eq_true, decide_eq_true_eq, Bool.and_eq_true, beq_iff_eq] at h
    simp only [Op.bytesLess, Bool.or_eq_false_iff, decide_eq_false_iff_not, Bool.and_eq_false_iff, beq_eq_false_iff_ne]
    rcases h with h | ⟨rfl, h⟩
    · exact ⟨UInt8.lt_asymm h, .inl (fun e => by subst e; exact UInt8.lt_irrefl _ h)⟩
    · exact ⟨UInt8.lt_irrefl _, .inr (bl_asymm l m h)⟩
theorem slt_asymm {a b : ByteArray} (h : sltB a b = true) : sltB b a = false := bl_asymm _ _ h
theorem slt_tri (a b : ByteArray) : sltB a b = true ∨ sltB b a = true ∨ a = b := by
  rcases bl_tri a.toList b.toList with h | h | h
  · exact .inl h
  · exact .inr (.inl h)
  · exact .inr (.inr ((seqB_iff a b).1 (by simp [seqB, h])))
theorem slt_irrefl (a : ByteArray) : sltB a a = false := bl_irrefl _
theorem texts_does (a b : ByteArray) : Dz i_R08_texts none [A.t (T.str a), A.t (T.str b)] (1, [A.t (T.int (cmpB a b))]) := by
  refine Does.now fun n => ?_
  rw [q_R08_texts]
  simp only [S9, S1, txt_str, cmpB, neg1]
  rcases slt_tri a b with h | h | h
  · simp [h]
  · have h1 := slt_asymm h
    have h2 : seqB a b = false := by
      cases hs : seqB a b with
      | false => rfl
      | true => rw [(seqB_iff a b).1 hs, slt_irrefl] at h; cases h
    simp [h, h1, h2]
  · subst h
    have : seqB a a = true := (seqB_iff a a).2 rfl
    simp [slt_irrefl, this]
theorem nums_does (a b : Int) : Dz i_R08_nums none [A.t (T.int a), A.t (T.int b)] (1, [A.t (T.int (cmpI a b))]) := by
  refine Does.now fun n => ?_
  rw [q_R08_nums]
  simp only [S0, S9, S1, S2, if_true, if_false, neg1]
  unfold cmpI
  split
  · rfl
  · split <;> rfl
theorem bools_does (a b : Bool) : Dz i_R08_bools none [A.t (T.bool a), A.t (T.bool b)] (1, [A.t (T.int (cmpF1 a b))]) := by
  refine Does.now fun n => ?_
  rw [q_R08_bools]
  cases a <;> cases b <;> rfl
theorem cmpI_zero {a b : Int} : cmpI a b = 0 ↔ a = b := by unfold cmpI; split <;> (try split) <;> omega
theorem cmpF1_zero {a b : Bool} : cmpF1 a b = 0 ↔ a = b := by cases a <;> cases b <;> simp [cmpF1]
theorem cmpB_zero {a b : ByteArray} : cmpB a b = 0 ↔ a = b := by
  unfold cmpB
  rcases slt_tri a b with h | h | h
  · simp [h]; intro e; subst e; rw [slt_irrefl] at h; cases h
  · simp [h, slt_asymm h]; intro e; subst e; rw [slt_irrefl] at h; cases h
  · subst h; simp [slt_irrefl]
theorem plain_does (t u : T) : Dz i_R08_plain none [A.t t, A.t u] (1, [A.t (T.int (plainC t u))]) := by
  obtain ⟨n1, h1⟩ := nums_does (t.get 0).num (u.get 0).num
  obtain ⟨n2, h2⟩ := nums_does (t.get 1).num (u.get 1).num
  obtain ⟨n3, h3⟩ := nums_does (t.get 2).num (u.get 2).num
  obtain ⟨n4, h4⟩ := texts_does (t.get 3).txt (u.get 3).txt
  obtain ⟨n5, h5⟩ := bools_does (t.get 4).tf (u.get 4).tf
  obtain ⟨n6, h6⟩ := bools_does (t.get 5).tf (u.get 5).tf
  obtain ⟨n7, h7⟩ := bools_does (t.get 6).tf (u.get 6).tf
  refine Does.of (n1 + n2 + n3 + n4 + n5 + n6 + n7) fun n hn => ?_
  have hs : ∀ a b : ByteArray, ((!seqB a b) = true) = ¬ (a = b) := fun a b => by
    rw [Bool.not_eq_true', ← Bool.not_eq_true, seqB_iff]
  have hbb : ∀ a b : Bool, ((!(a == b)) = true) = ¬ (a = b) := fun a b => by cases a <;> cases b <;> simp
  rw [q_R08_plain]
  simp only [S0, S9, S1, S2, if_true, if_false, h1 n (by omega), h2 n (by omega), h3 n (by omega), h4 n (by omega), h5 n (by omega), h6 n (by omega), h7 n (by omega), hs, hbb]
  unfold plainC fst
  simp only [cmpI_zero, cmpB_zero, cmpF1_zero]
  have key : ∀ (p : Prop) [Decidable p] (x y : Int) (Y : Option (Nat × List A)), Y = some (1, [A.t (T.int y)]) → (if ¬ p then some (1, [A.t (T.int x)]) else Y) = some (1, [A.t (T.int (if p then y else x))]) := by
    intro p _ x y Y hY
    by_cases hp : p
    · rw [if_neg (fun h => h hp), if_pos hp, hY]
    · rw [if_pos hp, if_neg hp]
  exact key _ _ _ _ (key _ _ _ _ (key _ _ _ _ (key _ _ _ _ (key _ _ _ _ (key _ _ _ _ rfl)))))
theorem rterms_loop (d : Nat) (t u : T) (ht : (flds t).length ≤ 1000) (hu : (flds u).length ≤ 1000) (h : ∀ f ∈ flds t, ∀ g ∈ flds u, Dz i_R08_Compare none [A.t (val f), A.t (val g)] (1, [A.t (T.int (cmpV d (val f) (val g)))])) :
    ∀ (k j : Nat), j + k = min (flds t).length (flds u).length →
      (Dz i_R08_Terms (some p_R08_Terms_c1) [A.t (T.int j), A.t t, A.t u] (2, [A.t t, A.t u]) ∧ cmpL (cmpG d) ((flds t).drop j) ((flds u).drop j) = cmpI (flds t).length (flds u).length) ∨
      Dz i_R08_Terms (some p_R08_Terms_c1) [A.t (T.int j), A.t t, A.t u] (1, [A.t (T.int (cmpL (cmpG d) ((flds t).drop j) ((flds u).drop j)))]) := by
  intro k
  induction k with
  | zero =>
    intro j hj
    left
    refine ⟨Does.now fun n => ?_, cmpL_end (cmpG d) (flds t) (flds u) j (by omega)⟩
    rw [q_R08_Terms_c1]
    simp only [S0, S9, S1, S2, if_true, if_false]
    by_cases h1 : j < (flds t).length
    · rw [if_pos (by omega), if_neg (by omega)]
    · rw [if_neg (by omega)]
  | succ k ih =>
    intro j hj
    have h1 : j < (flds t).length := by omega
    have h2 : j < (flds u).length := by omega
    have hw : IntKind.i64.wrap ((j : Int) + 1) = ((j + 1 : Nat) : Int) := i64succ (by omega)
    have hc := h _ (List.getElem_mem h1) _ (List.getElem_mem h2)
    rw [List.drop_eq_getElem_cons h1, List.drop_eq_getElem_cons h2, cmpL_cons]
    by_cases h0 : cmpB (nm (flds t)[j]) (nm (flds u)[j]) = 0
    · by_cases h3 : cmpV d (val (flds t)[j]) (val (flds u)[j]) = 0
      · have hz : cmpG d (flds t)[j] (flds u)[j] = 0 := by unfold cmpG; rw [h0, fst_zero, h3]
        have step : ∀ R, Dz i_R08_Terms (some p_R08_Terms_c1) [A.t (T.int (j + 1 : Nat)), A.t t, A.t u] R → Dz i_R08_Terms (some p_R08_Terms_c1) [A.t (T.int j), A.t t, A.t u] R := by
          intro R hR
          obtain ⟨n1, q1⟩ := texts_does (nm (flds t)[j]) (nm (flds u)[j])
          obtain ⟨n2, q2⟩ := hc
          obtain ⟨n3, q3⟩ := hR
          refine Does.of (n1 + n2 + n3) fun n hn => ?_
          rw [q_R08_Terms_c1]
          simp only [S0, S9, S1, S2, if_true, if_false, at_get h1, at_get h2, nm_eq, val_eq, q1 n (by omega), q2 n (by omega), h0, h3, hw]
          rw [if_pos (by omega), if_pos (by omega), if_pos (by omega), if_pos (by omega), if_pos (by omega), if_pos (by omega), if_neg (by simp)]
          exact q3 n (by omega)
        rw [hz, fst_zero]
        rcases ih (j + 1) (by omega) with ⟨h4, h5⟩ | h4
        · left; exact ⟨step _ h4, h5⟩
        · right; exact step _ h4
      · right
        have hz : cmpG d (flds t)[j] (flds u)[j] = cmpV d (val (flds t)[j]) (val (flds u)[j]) := by unfold cmpG; rw [h0, fst_zero]
        rw [hz, fst_ne h3]
        obtain ⟨n1, q1⟩ := texts_does (nm (flds t)[j]) (nm (flds u)[j])
        obtain ⟨n2, q2⟩ := hc
        refine Does.of (n1 + n2) fun n hn => ?_
        rw [q_R08_Terms_c1]
        simp only [S0, S9, S1, S2, if_true, if_false, at_get h1, at_get h2, nm_eq, val_eq, q1 n (by omega), q2 n (by omega), h0]
        rw [if_pos (by omega), if_pos (by omega), if_pos (by omega), if_pos (by omega), if_pos (by omega), if_pos (by omega), if_pos h3]
    · right
      have hz : cmpG d (flds t)[j] (flds u)[j] = cmpB (nm (flds t)[j]) (nm (flds u)[j]) := by unfold cmpG; rw [fst_ne h0]
      rw [hz, fst_ne h0]
      obtain ⟨n1, q1⟩ := texts_does (nm (flds t)[j]) (nm (flds u)[j])
      refine Does.of n1 fun n hn => ?_
      rw [q_R08_Terms_c1]
      simp only [S0, S9, S1, S2, if_true, if_false, at_get h1, at_get h2, nm_eq, val_eq, q1 n (by omega)]
      rw [if_pos (by omega), if_pos (by omega), if_pos (by omega), if_pos (by omega), if_neg h0, if_pos h0]
theorem rterms_does (d : Nat) (t u : T) (ht : (flds t).length ≤ 1000) (hu : (flds u).length ≤ 1000) (h : ∀ f ∈ flds t, ∀ g ∈ flds u, Dz i_R08_Compare none [A.t (val f), A.t (val g)] (1, [A.t (T.int (cmpV d (val f) (val g)))])) :
    Dz i_R08_Terms none [A.t t, A.t u] (1, [A.t (T.int (cmpT d t u))]) := by
  obtain ⟨n1, q1⟩ := plain_does t u
  by_cases h0 : plainC t u = 0
  · have hz : cmpT d t u = cmpL (cmpG d) (flds t) (flds u) := by unfold cmpT; rw [h0, fst_zero]
    rw [hz]
    rcases rterms_loop d t u ht hu h (min (flds t).length (flds u).length) 0 (by omega) with ⟨⟨n2, q2⟩, h2⟩ | ⟨n2, q2⟩
    · rw [List.drop_zero, List.drop_zero] at h2
      obtain ⟨n3, q3⟩ := nums_does (flds t).length (flds u).length
      refine Does.of (n1 + n2 + n3) fun n hn => ?_
      have q2' : den Tryz.prog G0 ents n i_R08_Terms (some p_R08_Terms_c1) [A.t (T.int 0), A.t t, A.t u] = _ := q2 n (by omega)
      rw [q_R08_Terms]; simp only [S9, S1]; rw [h2]
      simp only [S0, S9, S1, S2, if_true, if_false, q1 n (by omega), h0, q2', q3 n (by omega), not_true_eq_false]
    · refine Does.of (n1 + n2) fun n hn => ?_
      have q2' : den Tryz.prog G0 ents n i_R08_Terms (some p_R08_Terms_c1) [A.t (T.int 0), A.t t, A.t u] = _ := q2 n (by omega)
      rw [q_R08_Terms]
      simp only [S0, S9, S1, S2, if_true, if_false, q1 n (by omega), h0, q2', not_true_eq_false, List.drop_zero]
  · have hz : cmpT d t u = plainC t u := by unfold cmpT; rw [fst_ne h0]
    refine Does.of n1 fun n hn => ?_
    rw [q_R08_Terms, hz]
    simp only [S0, S9, S1, S2, if_true, if_false, q1 n (by omega)]
    rw [if_pos h0]
theorem rcomp_loop (d : Nat) (a b : T) (ha : (terms a).length ≤ 1000) (hb : (terms b).length ≤ 1000) (h : ∀ t ∈ terms a, ∀ u ∈ terms b, Dz i_R08_Terms none [A.t t, A.t u] (1, [A.t (T.int (cmpT d t u))])) :
    ∀ (k j : Nat), j + k = min (terms a).length (terms b).length →
      (Dz i_R08_Compare (some p_R08_Compare_c1) [A.t (T.int j), A.t a, A.t b] (2, [A.t a, A.t b]) ∧ cmpL (cmpT d) ((terms a).drop j) ((terms b).drop j) = cmpI (terms a).length (terms b).length) ∨
      Dz i_R08_Compare (some p_R08_Compare_c1) [A.t (T.int j), A.t a, A.t b] (1, [A.t (T.int (cmpL (cmpT d) ((terms a).drop j) ((terms b).drop j)))]) := by
  intro k
  induction k with
  | zero =>
    intro j hj
    left
    refine ⟨Does.now fun n => ?_, cmpL_end (cmpT d) (terms a) (terms b) j (by omega)⟩
    rw [q_R08_Compare_c1]
    simp only [S0, S9, S1, S2, if_true, if_false]
    by_cases h1 : j < (terms a).length
    · rw [if_pos (by omega), if_neg (by omega)]
    · rw [if_neg (by omega)]
  | succ k ih =>
    intro j hj
    have h1 : j < (terms a).length := by omega
    have h2 : j < (terms b).length := by omega
    have hw : IntKind.i64.wrap ((j : Int) + 1) = ((j + 1 : Nat) : Int) := i64succ (by omega)
    have hc := h _ (List.getElem_mem h1) _ (List.getElem_mem h2)
    rw [List.drop_eq_getElem_cons h1, List.drop_eq_getElem_cons h2, cmpL_cons]
    by_cases h0 : cmpT d (terms a)[j] (terms b)[j] = 0
    · have step : ∀ R, Dz i_R08_Compare (some p_R08_Compare_c1) [A.t (T.int (j + 1 : Nat)), A.t a, A.t b] R → Dz i_R08_Compare (some p_R08_Compare_c1) [A.t (T.int j), A.t a, A.t b] R := by
        intro R hR
        obtain ⟨n0, h⟩ := hc.both hR
        refine Does.of n0 fun n hn => ?_
        obtain ⟨q1, q2⟩ := h n hn
        rw [q_R08_Compare_c1]
        simp only [S0, S9, S1, S2, if_true, if_false, at_get h1, at_get h2, q1, h0, hw]
        rw [if_pos (by omega), if_pos (by omega), if_pos (by omega), if_pos (by omega), if_neg (by simp)]
        exact q2
      rw [h0, fst_zero]
      rcases ih (j + 1) (by omega) with ⟨h3, h4⟩ | h3
      · left; exact ⟨step _ h3, h4⟩
      · right; exact step _ h3
    · right
      rw [fst_ne h0]
      obtain ⟨n0, h⟩ := hc
      refine Does.of n0 fun n hn => ?_
      rw [q_R08_Compare_c1]
      simp only [S0, S9, S1, S2, if_true, if_false, at_get h1, at_get h2, h n hn]
      rw [if_pos (by omega), if_pos (by omega), if_pos (by omega), if_pos (by omega), if_pos h0]
theorem rcompare_does : ∀ (d : Nat) (a b : T), Sm d a → Sm d b → Dz i_R08_Compare none [A.t a, A.t b] (1, [A.t (T.int (cmpV d a b))])
  | 0, a, b, h, _ => h.1.elim
  | d + 1, a, b, ha, hb => by
    have la := ha.terms
    have lb := hb.terms
    rw [cmpV_succ]
    have hT : ∀ t ∈ terms a, ∀ u ∈ terms b, Dz i_R08_Terms none [A.t t, A.t u] (1, [A.t (T.int (cmpT d t u))]) := fun t ht u hu =>
      rterms_does d t u (by have := ha.flds ht; omega) (by have := hb.flds hu; omega) (fun f hf g hg => rcompare_does d _ _ (ha.sub ht hf) (hb.sub hu hg))
    rcases rcomp_loop d a b (by omega) (by omega) hT (min (terms a).length (terms b).length) 0 (by omega) with ⟨⟨n2, q2⟩, h2⟩ | ⟨n2, q2⟩
    · rw [List.drop_zero, List.drop_zero] at h2
      obtain ⟨n3, q3⟩ := nums_does (terms a).length (terms b).length
      refine Does.of (n2 + n3) fun n hn => ?_
      have q2' : den Tryz.prog G0 ents n i_R08_Compare (some p_R08_Compare_c1) [A.t (T.int 0), A.t a, A.t b] = _ := q2 n (by omega)
      rw [q_R08_Compare]; simp only [S9, S1]; rw [h2]
      simp only [S0, S9, S1, S2, if_true, if_false, q2', q3 n (by omega)]
    · refine Does.of n2 fun n hn => ?_
      have q2' : den Tryz.prog G0 ents n i_R08_Compare (some p_R08_Compare_c1) [A.t (T.int 0), A.t a, A.t b] = _ := q2 n (by omega)
      rw [q_R08_Compare]
      simp only [S0, S9, S1, S2, if_true, if_false, q2', List.drop_zero]
theorem rt_does {d : Nat} {t u : T} (ht : SmT d t) (hu : SmT d u) : Dz i_R08_Terms none [A.t t, A.t u] (1, [A.t (T.int (cmpT d t u))]) :=
  rterms_does d t u (by have := ht.1; omega) (by have := hu.1; omega) (fun f hf g hg => rcompare_does d _ _ (ht.2 f hf) (hu.2 g hg))
end Go.Proofs.YtoekafpmpopigaaGreatDoorFP
namespace Go.Proofs.YtoekafpmpopigaaGreatDoorFP
open Go Go.Proofs.YtoekafpmpopigaaGreatDoorVM
set_option linter.unusedVariables false
set_option linter.unusedSimpArgs false
set_option maxRecDepth 100000

def kd (t : T) : Int := (t.get 0).num
def lo (t : T) : Int := (t.get 1).num
def hi (t : T) : Int := (t.get 2).num
def tx (t : T) : ByteArray := (t.get 3).txt
def an (t : T) : Bool := (t.get 4).tf
def mb (t : T) : Bool := (t.get 5).tf
def op (t : T) : Bool := (t.get 6).tf
def emptyB : ByteArray := ⟨#[]⟩
def one (t : T) : Bool := if kd t = 3 then !an t else decide (lo t = hi t)
def rightK (k l h : Int) (x : ByteArray) (a : Bool) : Bool :=
  if k = 3 then decide (l = 0) && decide (h = 0) && (if a then decide (x = emptyB) else decide (x.size ≤ 256))
  else if k = 2 then decide (-9007199254740992 ≤ l) && decide (l ≤ h) && decide (h ≤ 9007199254740992) && decide (x = emptyB) && !a
  else if k = 1 then decide (0 ≤ l) && decide (l ≤ h) && decide (h ≤ 1) && decide (x = emptyB) && !a
  else false
def rightS (t : T) : Bool := !op t && decide ((flds t).length = 0) && !(mb t && one t) && rightK (kd t) (lo t) (hi t) (tx t) (an t)
theorem kd_eq (t : T) : (T.get t 0).num = kd t := id rfl
theorem lo_eq (t : T) : (T.get t 1).num = lo t := id rfl
theorem hi_eq (t : T) : (T.get t 2).num = hi t := id rfl
theorem tx_eq (t : T) : (T.get t 3).txt = tx t := id rfl
theorem an_eq (t : T) : (T.get t 4).tf = an t := id rfl
theorem mb_eq (t : T) : (T.get t 5).tf = mb t := id rfl
theorem op_eq (t : T) : (T.get t 6).tf = op t := id rfl
theorem seq_dec (a b : ByteArray) : seqB a b = decide (a = b) := by
  cases h : seqB a b with
  | true => rw [(seqB_iff a b).1 h]; simp
  | false =>
    symm
    rw [decide_eq_false_iff_not]
    intro e
    rw [(seqB_iff a b).2 e] at h
    cases h
theorem eb_eq : (ByteArray.mk (List.toArray [])) = emptyB := id rfl
theorem e0_zero (n : Nat) : (((n : Nat) : Int) = 0) = (n = 0) := by simp
theorem coll (p : Prop) [Decidable p] (b c : Bool) : (if p then some ((1 : Nat), [A.t (T.bool b)]) else some (1, [A.t (T.bool c)])) = some (1, [A.t (T.bool (if p then b else c))]) := by split <;> rfl
theorem ans {b c : Bool} (h : b = c) : some ((1 : Nat), [A.t (T.bool b)]) = some (1, [A.t (T.bool c)]) := by rw [h]
theorem bare_does (t : T) : Dz i_scalar_bare none [A.t t] (1, [A.t (T.bool (!op t && decide ((flds t).length = 0)))]) := by
  refine Does.now fun n => ?_
  rw [q_scalar_bare]
  simp only [S9, S1, flds_eq, op_eq]
  have hb : (((flds t).length : Int) == 0) = decide ((flds t).length = 0) := by
    rw [Bool.eq_iff_iff]; simp
  rw [hb]
  cases op t <;> simp
theorem one_does (t : T) : Dz i_scalar_one none [A.t t] (1, [A.t (T.bool (one t))]) := by
  refine Does.now fun n => ?_
  rw [q_scalar_one]
  simp only [S9, S1, kd_eq, lo_eq, hi_eq, an_eq, one]
  by_cases h : kd t = 3
  · simp [h]
  · simp [h, Bool.beq_eq_decide_eq]
theorem single_does (t : T) : Dz i_R07_Single none [A.t t] (1, [A.t (T.bool (one t))]) := by
  refine Does.now fun n => ?_
  rw [q_R07_Single]
  simp only [S9, S1, kd_eq, lo_eq, hi_eq, an_eq, one]
  by_cases h : kd t = 3
  · simp [h]
  · simp [h, Bool.beq_eq_decide_eq]
theorem sright_does (t : T) : Dz i_scalar_Right none [A.t t] (1, [A.t (T.bool (rightS t))]) := by
  obtain ⟨n0, h0⟩ := (bare_does t).both (one_does t)
  refine Does.of n0 fun n hn => ?_
  obtain ⟨q1, q2⟩ := h0 n hn
  rw [q_scalar_Right]; simp only [S9, S1]; rw [q1, q2]
  simp only [S9, S1, Option.map_some, Option.bind_some, aAt_zero, tree_t, tf_bool, kd_eq, lo_eq, hi_eq, tx_eq, an_eq, mb_eq, seq_dec, eb_eq, rightS, rightK, show (Int.negSucc 9007199254740991) = -9007199254740992 from rfl, Bool.cond_eq_ite, Bool.beq_eq_decide_eq, coll]
  apply ans
  generalize one t = o
  generalize op t = w
  generalize mb t = m
  generalize an t = a
  generalize tx t = x
  generalize lo t = l
  generalize hi t = h
  generalize kd t = k
  generalize (flds t).length = fl
  grind
theorem rright_does (t : T) : Dz i_R07_Right none [A.t t] (1, [A.t (T.bool (rightS t))]) := by
  obtain ⟨n0, q2⟩ := single_does t
  refine Does.of n0 fun n hn => ?_
  rw [q_R07_Right]; simp only [S9, S1]; rw [q2 n hn]
  simp only [S9, S1, Option.map_some, Option.bind_some, aAt_zero, tree_t, tf_bool, kd_eq, lo_eq, hi_eq, tx_eq, an_eq, mb_eq, op_eq, flds_eq, seq_dec, eb_eq, rightS, rightK, show (Int.negSucc 9007199254740991) = -9007199254740992 from rfl, Bool.cond_eq_ite, Bool.beq_eq_decide_eq, coll]
  apply ans
  generalize one t = o
  generalize op t = w
  generalize mb t = m
  generalize an t = a
  generalize tx t = x
  generalize lo t = l
  generalize hi t = h
  generalize kd t = k
  generalize (flds t).length = fl
  have h5 : decide (((fl : Nat) : Int) > 0) = !decide (fl = 0) := by rw [Bool.eq_iff_iff]; simp; omega
  rw [h5]
  have h6 : decide (((x.size : Nat) : Int) > 256) = !decide (x.size ≤ 256) := by rw [Bool.eq_iff_iff]; simp; omega
  have h7 : (((x.size : Nat) : Int) > 256) = ¬ (x.size ≤ 256) := by simp; omega
  simp only [h6, h7]
  have hx : x = emptyB → x.size ≤ 256 := fun e => by subst e; decide
  cases o <;> cases w <;> cases m <;> cases a <;> simp only [Bool.not_true, Bool.not_false, Bool.true_and, Bool.and_true, Bool.false_and, Bool.and_false, if_true, if_false, Bool.false_eq_true] <;> grind
def sameS (a b : T) : Bool := rightS a && rightS b && decide (kd a = kd b) && decide (lo a = lo b) && decide (hi a = hi b) && decide (tx a = tx b) && decide (an a = an b) && decide (mb a = mb b)
theorem ssame_does (a b : T) : Dz i_scalar_Same none [A.t a, A.t b] (1, [A.t (T.bool (sameS a b))]) := by
  obtain ⟨n0, h0⟩ := (sright_does a).both (sright_does b)
  refine Does.of n0 fun n hn => ?_
  obtain ⟨q1, q2⟩ := h0 n hn
  rw [q_scalar_Same]; simp only [S9, S1]; rw [q1]
  simp only [q2, Option.map_some, Option.bind_some, aAt_zero, tree_t, tf_bool, kd_eq, lo_eq, hi_eq, tx_eq, an_eq, mb_eq, seq_dec, Bool.cond_eq_ite, Bool.beq_eq_decide_eq, coll]
  apply ans
  unfold sameS
  generalize rightS a = r
  generalize rightS b = r'
  grind
theorem rsame_does (a b : T) : Dz i_R07_Same none [A.t a, A.t b] (1, [A.t (T.bool (sameS a b))]) := by
  obtain ⟨n0, h0⟩ := (rright_does a).both (rright_does b)
  refine Does.of n0 fun n hn => ?_
  obtain ⟨q1, q2⟩ := h0 n hn
  rw [q_R07_Same]; simp only [S9, S1]; rw [q1]
  simp only [q2, Option.map_some, Option.bind_some, aAt_zero, tree_t, tf_bool, kd_eq, lo_eq, hi_eq, tx_eq, an_eq, mb_eq, seq_dec, Bool.cond_eq_ite, Bool.beq_eq_decide_eq, coll]
  apply ans
  unfold sameS
  generalize rightS a = r
  generalize rightS b = r'
  grind
end Go.Proofs.YtoekafpmpopigaaGreatDoorFP
namespace Go.Proofs.YtoekafpmpopigaaGreatDoorFP
open Go Go.Proofs.YtoekafpmpopigaaGreatDoorVM
set_option linter.unusedVariables false
set_option linter.unusedSimpArgs false
set_option maxRecDepth 100000

def trm (k l h : Int) (x : ByteArray) (a m o : Bool) (f : List T) : T := .node [.int k, .int l, .int h, .str x, .bool a, .bool m, .bool o, .node f]
theorem kd_trm (k l h : Int) (x : ByteArray) (a m o : Bool) (f : List T) : kd (trm k l h x a m o f) = k := id rfl
theorem lo_trm (k l h : Int) (x : ByteArray) (a m o : Bool) (f : List T) : lo (trm k l h x a m o f) = l := id rfl
theorem hi_trm (k l h : Int) (x : ByteArray) (a m o : Bool) (f : List T) : hi (trm k l h x a m o f) = h := id rfl
theorem tx_trm (k l h : Int) (x : ByteArray) (a m o : Bool) (f : List T) : tx (trm k l h x a m o f) = x := id rfl
theorem an_trm (k l h : Int) (x : ByteArray) (a m o : Bool) (f : List T) : an (trm k l h x a m o f) = a := id rfl
theorem mb_trm (k l h : Int) (x : ByteArray) (a m o : Bool) (f : List T) : mb (trm k l h x a m o f) = m := id rfl
def noTrm : T := trm 0 0 0 emptyB false false false []
def mX (a b : T) : ByteArray := if an a then tx b else tx a
def m0 (a b : T) (m : Bool) : T := trm (kd a) (maxI (lo a) (lo b)) (minI (hi a) (hi b)) (mX a b) (an a && an b) m false []
def okM (a b : T) : Bool := rightS a && rightS b && decide (kd a = kd b) && !decide (maxI (lo a) (lo b) > minI (hi a) (hi b)) && (an a || an b || decide (tx a = tx b))
def mT (a b : T) : T := m0 a b ((mb a || mb b) && !one (m0 a b false))
theorem noTrm_eq : T.node [T.int 0, T.int 0, T.int 0, T.str ByteArray.empty, T.bool false, T.bool false, T.bool false, T.node []] = noTrm := id rfl
theorem trm_eq (k l h : Int) (x : ByteArray) (a m o : Bool) (f : List T) : T.node [T.int k, T.int l, T.int h, T.str x, T.bool a, T.bool m, T.bool o, T.node f] = trm k l h x a m o f := id rfl
theorem one_m (a b : T) (m : Bool) : one (m0 a b m) = one (m0 a b false) := id rfl
theorem smeet_does (a b : T) : Dz i_scalar_Meet none [A.t a, A.t b] (1, if okM a b then [A.t (mT a b), A.t (T.bool true)] else [A.t noTrm, A.t (T.bool false)]) := by
  obtain ⟨n1, h1⟩ := (sright_does a).both (sright_does b)
  obtain ⟨n2, h2⟩ := one_does (m0 a b false)
  refine Does.of (n1 + n2) fun n hn => ?_
  obtain ⟨q1, q2⟩ := h1 n (by omega)
  have q3 := h2 n (by omega)
  rw [q_scalar_Meet]; simp only [S9, S1]; rw [q1]
  simp only [q2, Option.map_some, Option.bind_some, aAt_zero, aAt_succ, tree_t, tf_bool, kd_eq, lo_eq, hi_eq, tx_eq, an_eq, mb_eq, seq_dec, Bool.cond_eq_ite, Bool.beq_eq_decide_eq, noTrm_eq, trm_eq, okM, mT]
  have bb : ∀ x : Bool, x = true ∨ x = false := fun x => by cases x <;> simp
  have hno : trm 0 0 0 ByteArray.empty false false false [] = noTrm := rfl
  have hsw : ∀ (p q : ByteArray), (p = q) = (p = q) := fun _ _ => rfl
  rcases bb (rightS a) with ra | ra
  · rcases bb (rightS b) with rb | rb
    · by_cases hk : kd a = kd b
      · by_cases hl : maxI (lo a) (lo b) > minI (hi a) (hi b)
        · rcases bb (an a) with ha | ha <;> simp [ra, rb, hk, hl, ha, hno]
        · unfold m0 mX at q3 ⊢
          rcases bb (an a) with ha | ha <;> rcases bb (an b) with hb | hb <;> rcases bb (mb a) with hma | hma <;> rcases bb (mb b) with hmb | hmb <;> by_cases hx : tx a = tx b <;> simp [ra, rb, hk, hl, ha, hb, hma, hmb, hx, hno] at q3 ⊢ <;> simp_all <;> rfl
      · simp [ra, rb, hk, hno]
    · simp [ra, rb, hno]
  · simp [ra, hno]
theorem maxI_pos {a b : Int} (h : b > a) : maxI a b = b := if_pos h
theorem maxI_neg {a b : Int} (h : ¬ b > a) : maxI a b = a := if_neg h
theorem minI_pos {a b : Int} (h : b < a) : minI a b = b := if_pos h
theorem minI_neg {a b : Int} (h : ¬ b < a) : minI a b = a := if_neg h
theorem right_op {t : T} (h : rightS t = true) : op t = false ∧ flds t = [] ∧ (kd t ≠ 3 → an t = false ∧ tx t = emptyB) := by
  unfold rightS rightK at h
  simp only [Bool.and_eq_true, Bool.not_eq_true', decide_eq_true_eq] at h
  refine ⟨h.1.1.1, List.eq_nil_of_length_eq_zero h.1.1.2, fun hk => ?_⟩
  have h2 := h.2
  rw [if_neg hk] at h2
  split at h2
  · simp at h2; exact ⟨h2.2, h2.1.2⟩
  · split at h2
    · simp at h2; exact ⟨h2.2, h2.1.2⟩
    · cases h2
set_option maxHeartbeats 4000000 in
theorem rmeet_does (a b : T) : Dz i_R07_Meet none [A.t a, A.t b] (1, if okM a b then [A.t (mT a b), A.t (T.bool true)] else [A.t noTrm, A.t (T.bool false)]) := by
  obtain ⟨n1, h1⟩ := (rright_does a).both (rright_does b)
  obtain ⟨n2, h2⟩ := single_does (m0 a b false)
  refine Does.of (n1 + n2) fun n hn => ?_
  obtain ⟨q1, q2⟩ := h1 n (by omega)
  have q3 := h2 n (by omega)
  rw [q_R07_Meet]; simp only [S9, S1]; rw [q1]
  simp only [q2, Option.map_some, Option.bind_some, aAt_zero, aAt_succ, tree_t, tf_bool, kd_eq, lo_eq, hi_eq, tx_eq, an_eq, mb_eq, op_eq, flds_eq, seq_dec, Bool.cond_eq_ite, Bool.beq_eq_decide_eq, noTrm_eq, trm_eq, okM, mT]
  have bb : ∀ x : Bool, x = true ∨ x = false := fun x => by cases x <;> simp
  have hno : trm 0 0 0 ByteArray.empty false false false [] = noTrm := rfl
  rcases bb (rightS a) with ra | ra
  · rcases bb (rightS b) with rb | rb
    · obtain ⟨oa, fa, ka⟩ := right_op ra
      obtain ⟨ob, fb, kb⟩ := right_op rb
      by_cases hk : kd a = kd b
      · unfold m0 mX at q3 ⊢
        by_cases h3 : kd b = 3
        · by_cases g1 : lo b > lo a <;> by_cases g2 : hi b < hi a <;> simp only [maxI_pos, maxI_neg, minI_pos, minI_neg, g1, g2, not_false_eq_true] at q3 ⊢ <;>
            rcases bb (an a) with ha | ha <;> rcases bb (an b) with hb | hb <;> rcases bb (mb a) with hma | hma <;> rcases bb (mb b) with hmb | hmb <;> by_cases hx : tx a = tx b <;>
            simp [ra, rb, hk, h3, ha, hb, hma, hmb, hx, hno, oa, fa, g1, g2] at q3 ⊢ <;> (try (split <;> simp_all <;> (try rfl)))
        · obtain ⟨ha, xa⟩ := ka (by rw [hk]; exact h3)
          obtain ⟨hb, xb⟩ := kb h3
          by_cases g1 : lo b > lo a <;> by_cases g2 : hi b < hi a <;> simp only [maxI_pos, maxI_neg, minI_pos, minI_neg, g1, g2, not_false_eq_true] at q3 ⊢ <;>
            rcases bb (mb a) with hma | hma <;> rcases bb (mb b) with hmb | hmb <;>
            simp [ra, rb, hk, h3, ha, hb, xa, xb, hma, hmb, hno, oa, fa, g1, g2] at q3 ⊢ <;> (try (split <;> simp_all <;> (try rfl)))
          all_goals (simp only [S9, S1, aAt_zero, tree_t, tf_bool]; split <;> simp_all)
      · simp [ra, rb, hk, hno]
    · simp [ra, rb, hno]
  · simp [ra, hno]
def belowS (a b : T) : Bool := okM a b && sameS (mT a b) a
theorem sbelow_does (a b : T) : Dz i_scalar_Below none [A.t a, A.t b] (1, [A.t (T.bool (belowS a b))]) := by
  obtain ⟨n1, h1⟩ := (smeet_does a b).both (ssame_does (mT a b) a)
  refine Does.of n1 fun n hn => ?_
  obtain ⟨q1, q2⟩ := h1 n hn
  rw [q_scalar_Below]; simp only [S9, S1]; rw [q1]
  unfold belowS
  cases h : okM a b with
  | true => simp [aAt_zero, aAt_succ, tree_t, tf_bool, q2]
  | false => simp [aAt_zero, aAt_succ, tree_t, tf_bool]
theorem rbelow_does (a b : T) : Dz i_R07_Below none [A.t a, A.t b] (1, [A.t (T.bool (belowS a b))]) := by
  obtain ⟨n1, h1⟩ := (rmeet_does a b).both (rsame_does (mT a b) a)
  refine Does.of n1 fun n hn => ?_
  obtain ⟨q1, q2⟩ := h1 n hn
  rw [q_R07_Below]; simp only [S9, S1]; rw [q1]
  unfold belowS
  cases h : okM a b with
  | true => simp [aAt_zero, aAt_succ, tree_t, tf_bool, q2]
  | false => simp [aAt_zero, aAt_succ, tree_t, tf_bool]
end Go.Proofs.YtoekafpmpopigaaGreatDoorFP
