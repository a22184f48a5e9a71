/- A law's proof, a part: what the code answers. -/
import Derived.Test.YtbejhhoakeapgaaVmZu
import Derived.Test.YtbejhhoakeapgaaVmC
import Derived.Test.YtbejhhoakeapgaaVmZx
import Derived.Test.YtbejhhoakeapgaaVmZy
import Derived.Test.YtbejhhoakeapgaaVmZz
import Derived.Test.YtbejhhoakeapgaaProg
namespace Go.Proofs.YtbejhhoakeapgaaGI
open Go Go.Proofs.YtbejhhoakeapgaaVM
def G0 : List (Nat × TypeId × T) := []
def e0 : Entry := sortedIE 45 63 79 3 3 42
def e1 : Entry := sortedIE 45 72 71 3 42 42
def e2 : Entry := sortedE 35 54 60 9 3 22
def e3 : Entry := sortedE 35 64 88 9 22 22
def e4 : Entry := cloneE 40 42 3
def e5 : Entry := cloneE 34 22 9
def e6 : Entry := { fid := 4, ins := ⟨[(0, .v 35)], []⟩, outs := ⟨[(0, .v 4)], []⟩, cuts := [([false, true, false, true, true, true, true], ⟨⟨[(0, .v 35), (3, .p 0 73), (4, .o 1), (5, .v 3)], [.var 73 (.agg 73 [.m 2]) false, .row 41, .map 3 42]⟩, [(2, ⟨[(3, .p 0 73), (4, .v 23)], [.var 73 (.agg 73 [.m 1]) false, .map 3 42]⟩)]⟩), ([false, true, false, true, true, true, true, true, true, true, true], ⟨⟨[(8, .o 0), (9, .v 42), (10, .o 1), (11, .o 2), (12, .v 3)], [.row 3, .row 9, .row 9]⟩, [(4, ⟨[(9, .v 42), (11, .v 22)], []⟩), (1, ⟨[(2, .v 4)], []⟩)]⟩), ([false, true, false, true, true, true, true, true, true, true, true, true], ⟨⟨[(9, .v 42), (11, .v 22), (13, .v 3)], []⟩, [(6, ⟨[], []⟩), (1, ⟨[(2, .v 4)], []⟩)]⟩)], lit := true }
def e7 : Entry := { fid := 8, ins := ⟨[], []⟩, outs := ⟨[(0, .v 4)], []⟩, cuts := [], lit := true }
def e8 : Entry := { fid := 29, ins := ⟨[(0, .v 22)], []⟩, outs := ⟨[(0, .p 0 90)], [.var 90 (.agg 90 [.m 1]) false, .map 9 22]⟩, cuts := [([false, true, false, true, true], ⟨⟨[(3, .p 0 90), (9, .v 22), (10, .v 3), (11, .v 3)], [.var 90 (.agg 90 [.m 1]) false, .map 9 22]⟩, [(2, ⟨[(3, .p 0 90)], [.var 90 (.agg 90 [.m 1]) false, .map 9 22]⟩)]⟩)] }
def e9 : Entry := { fid := 27, ins := ⟨[(0, .p 0 90), (1, .v 9)], [.var 90 (.agg 90 [.m 1]) false, .map 9 22]⟩, outs := ⟨[], [.var 90 (.agg 90 [.m 1]) false, .map 9 22]⟩, cuts := [] }
def e10 : Entry := { fid := 25, ins := ⟨[(0, .p 0 90), (1, .v 9)], [.var 90 (.agg 90 [.m 1]) false, .map 9 22]⟩, outs := ⟨[(0, .v 4)], [.var 90 (.agg 90 [.m 1]) false, .map 9 22]⟩, cuts := [] }
def e11 : Entry := { fid := 28, ins := ⟨[(0, .p 0 90), (1, .v 9), (2, .v 9)], [.var 90 (.agg 90 [.m 1]) false, .map 9 22]⟩, outs := ⟨[], [.var 90 (.agg 90 [.m 1]) false, .map 9 22]⟩, cuts := [] }
def e12 : Entry := { fid := 32, ins := ⟨[(0, .v 22), (1, .v 9)], []⟩, outs := ⟨[(0, .v 3), (1, .v 4)], []⟩, cuts := [([false, false, true, true, true], ⟨⟨[(0, .v 22), (1, .v 9), (6, .v 3), (7, .v 3), (8, .v 3)], []⟩, [(2, ⟨[(0, .v 22), (1, .v 9), (6, .v 3), (7, .v 3)], []⟩)]⟩)] }
def e13 : Entry := { fid := 48, ins := ⟨[(0, .v 9), (1, .v 9)], []⟩, outs := ⟨[(0, .v 4)], []⟩, cuts := [] }
def e14 : Entry := { fid := 65, ins := ⟨[(0, .v 9)], []⟩, outs := ⟨[(0, .v 4)], []⟩, cuts := [] }
def e15 : Entry := { fid := 49, ins := ⟨[(0, .v 9)], []⟩, outs := ⟨[(0, .v 4)], []⟩, cuts := [] }
def e16 : Entry := { fid := 11, ins := ⟨[(0, .p 0 90)], [.var 90 (.agg 90 [.m 1]) false, .map 9 22]⟩, outs := ⟨[(0, .o 2), (1, .v 22)], [.var 90 (.agg 90 [.m 1]) false, .map 9 22, .row 9]⟩, cuts := [([false, true, false, true, true, true, true], ⟨⟨[(0, .p 0 90), (2, .o 2), (4, .p 3 90), (5, .m 4), (6, .o 5), (18, .v 22), (19, .v 3), (20, .v 3)], [.var 90 (.agg 90 [.m 1]) false, .map 9 22, .row 9, .var 90 (.agg 90 [.m 6]) false, .map 9 3, .row 9, .map 9 22]⟩, [(2, ⟨[(2, .o 2), (4, .p 3 90), (5, .m 4), (6, .o 5)], [.var 90 (.agg 90 [.m 1]) false, .map 9 22, .row 9, .var 90 (.agg 90 [.m 6]) false, .map 9 3, .row 9, .map 9 22]⟩)]⟩), ([false, false, true, true, true, true, true], ⟨⟨[(2, .o 2), (4, .p 3 90), (5, .m 4), (6, .v 22)], [.var 90 (.agg 90 [.m 1]) false, .map 9 22, .row 9, .var 90 (.agg 90 [.m 5]) false, .map 9 3, .map 9 22]⟩, [(4, ⟨[(2, .o 2), (5, .m 3)], [.var 90 (.agg 90 [.m 1]) false, .map 9 22, .row 9, .map 9 3]⟩)]⟩), ([false, true, true, true, true, true, false, true, false, false, false, true, true, true, true, true], ⟨⟨[(2, .o 2), (4, .p 3 90), (5, .m 4), (6, .v 22), (55, .o 5), (56, .v 3), (57, .v 3)], [.var 90 (.agg 90 [.m 1]) false, .map 9 22, .row 9, .var 90 (.agg 90 [.m 6]) false, .map 9 3, .row 9, .map 9 22]⟩, [(6, ⟨[(2, .o 2), (4, .p 3 90), (5, .m 4), (6, .v 22)], [.var 90 (.agg 90 [.m 1]) false, .map 9 22, .row 9, .var 90 (.agg 90 [.m 5]) false, .map 9 3, .map 9 22]⟩)]⟩)] }
def e17 : Entry := { fid := 21, ins := ⟨[(0, .p 0 90)], [.var 90 (.agg 90 [.m 1]) false, .map 9 22]⟩, outs := ⟨[(0, .p 2 90)], [.var 90 (.agg 90 [.m 1]) false, .map 9 22, .var 90 (.agg 90 [.m 3]) false, .map 9 22]⟩, cuts := [([false, true, false, true, true], ⟨⟨[(0, .p 0 90), (3, .p 2 90), (12, .v 22), (13, .v 3), (14, .v 3)], [.var 90 (.agg 90 [.m 1]) false, .map 9 22, .var 90 (.agg 90 [.m 3]) false, .map 9 22]⟩, [(2, ⟨[(3, .p 2 90)], [.var 90 (.agg 90 [.m 1]) false, .map 9 22, .var 90 (.agg 90 [.m 3]) false, .map 9 22]⟩)]⟩), ([false, true, true, false, false, true, true, false, false, true, false, true, true], ⟨⟨[(0, .p 0 90), (3, .p 2 90), (5, .v 9), (12, .v 22), (13, .v 3), (14, .v 3), (20, .o 3), (21, .v 3), (22, .v 3)], [.var 90 (.agg 90 [.m 1]) false, .map 9 22, .var 90 (.agg 90 [.m 4]) false, .row 9, .map 9 22]⟩, [(4, ⟨[(0, .p 0 90), (3, .p 2 90), (12, .v 22), (13, .v 3), (14, .v 3)], [.var 90 (.agg 90 [.m 1]) false, .map 9 22, .var 90 (.agg 90 [.m 3]) false, .map 9 22]⟩)]⟩)] }
def e18 : Entry := { fid := 24, ins := ⟨[(0, .p 0 90)], [.var 90 (.agg 90 [.m 1]) false, .map 9 22]⟩, outs := ⟨[(0, .v 22)], [.var 90 (.agg 90 [.m 1]) false, .map 9 22]⟩, cuts := [] }
def e19 : Entry := { fid := 47, ins := ⟨[(0, .m 0)], [.map 9 22]⟩, outs := ⟨[(0, .clo 64 [.p 1 88])], [.map 9 22, .var 88 (.m 0) false]⟩, cuts := [] }
def e20 : Entry := { fid := 26, ins := ⟨[(0, .p 0 90), (1, .v 9)], [.var 90 (.agg 90 [.m 1]) false, .map 9 22]⟩, outs := ⟨[(0, .o 2)], [.var 90 (.agg 90 [.m 1]) false, .map 9 22, .row 9]⟩, cuts := [] }
def e21 : Entry := { fid := 31, ins := ⟨[(0, .v 22)], []⟩, outs := ⟨[(0, .v 9), (1, .v 22)], []⟩, cuts := [] }
def e22 : Entry := { fid := 36, ins := ⟨[(0, .m 0)], [.map 9 3]⟩, outs := ⟨[(0, .clo 54 [.p 1 60])], [.map 9 3, .var 60 (.m 0) false]⟩, cuts := [] }
def e23 : Entry := { fid := 13, ins := ⟨[(0, .v 22), (1, .v 22)], []⟩, outs := ⟨[(0, .v 4)], []⟩, cuts := [([false, true, false, true, true], ⟨⟨[(0, .v 22), (1, .v 22), (5, .v 3)], []⟩, [(2, ⟨[], []⟩), (1, ⟨[(4, .v 4)], []⟩)]⟩)], lit := true }
def e24 : Entry := { fid := 16, ins := ⟨[(0, .v 42)], []⟩, outs := ⟨[(0, .p 0 73)], [.var 73 (.agg 73 [.m 1]) false, .map 3 42]⟩, cuts := [([false, true, false, true, true], ⟨⟨[(3, .p 0 73), (9, .v 42), (10, .v 3), (11, .v 3)], [.var 73 (.agg 73 [.m 1]) false, .map 3 42]⟩, [(2, ⟨[(3, .p 0 73)], [.var 73 (.agg 73 [.m 1]) false, .map 3 42]⟩)]⟩)] }
def e25 : Entry := { fid := 37, ins := ⟨[(0, .p 0 73), (1, .v 3)], [.var 73 (.agg 73 [.m 1]) false, .map 3 42]⟩, outs := ⟨[], [.var 73 (.agg 73 [.m 1]) false, .map 3 42]⟩, cuts := [] }
def e26 : Entry := { fid := 55, ins := ⟨[(0, .p 0 73), (1, .v 3)], [.var 73 (.agg 73 [.m 1]) false, .map 3 42]⟩, outs := ⟨[(0, .v 4)], [.var 73 (.agg 73 [.m 1]) false, .map 3 42]⟩, cuts := [] }
def e27 : Entry := { fid := 17, ins := ⟨[(0, .p 0 73), (1, .v 3), (2, .v 3)], [.var 73 (.agg 73 [.m 1]) false, .map 3 42]⟩, outs := ⟨[], [.var 73 (.agg 73 [.m 1]) false, .map 3 42]⟩, cuts := [] }
def e28 : Entry := { fid := 38, ins := ⟨[(0, .v 42), (1, .v 3)], []⟩, outs := ⟨[(0, .v 3), (1, .v 4)], []⟩, cuts := [([false, false, true, true, true], ⟨⟨[(0, .v 42), (1, .v 3), (6, .v 3), (7, .v 3), (8, .v 3)], []⟩, [(2, ⟨[(0, .v 42), (1, .v 3), (6, .v 3), (7, .v 3)], []⟩)]⟩)] }
def e29 : Entry := { fid := 56, ins := ⟨[(0, .v 3), (1, .v 3)], []⟩, outs := ⟨[(0, .v 4)], []⟩, cuts := [] }
def e30 : Entry := { fid := 70, ins := ⟨[(0, .v 3)], []⟩, outs := ⟨[(0, .v 4)], []⟩, cuts := [] }
def e31 : Entry := { fid := 57, ins := ⟨[(0, .v 3)], []⟩, outs := ⟨[(0, .v 4)], []⟩, cuts := [] }
def e32 : Entry := { fid := 18, ins := ⟨[(0, .p 0 73)], [.var 73 (.agg 73 [.m 1]) false, .map 3 42]⟩, outs := ⟨[(0, .o 2), (1, .v 42)], [.var 73 (.agg 73 [.m 1]) false, .map 3 42, .row 3]⟩, cuts := [([false, true, false, true, true, true, true], ⟨⟨[(0, .p 0 73), (2, .o 2), (4, .p 3 73), (5, .m 4), (6, .o 5), (18, .v 42), (19, .v 3), (20, .v 3)], [.var 73 (.agg 73 [.m 1]) false, .map 3 42, .row 3, .var 73 (.agg 73 [.m 6]) false, .map 3 3, .row 3, .map 3 42]⟩, [(2, ⟨[(2, .o 2), (4, .p 3 73), (5, .m 4), (6, .o 5)], [.var 73 (.agg 73 [.m 1]) false, .map 3 42, .row 3, .var 73 (.agg 73 [.m 6]) false, .map 3 3, .row 3, .map 3 42]⟩)]⟩), ([false, false, true, true, true, true, true], ⟨⟨[(2, .o 2), (4, .p 3 73), (5, .m 4), (6, .v 42)], [.var 73 (.agg 73 [.m 1]) false, .map 3 42, .row 3, .var 73 (.agg 73 [.m 5]) false, .map 3 3, .map 3 42]⟩, [(4, ⟨[(2, .o 2), (5, .m 3)], [.var 73 (.agg 73 [.m 1]) false, .map 3 42, .row 3, .map 3 3]⟩)]⟩), ([false, true, true, true, true, true, false, true, false, false, false, true, true, true, true, true], ⟨⟨[(2, .o 2), (4, .p 3 73), (5, .m 4), (6, .v 42), (55, .o 5), (56, .v 3), (57, .v 3)], [.var 73 (.agg 73 [.m 1]) false, .map 3 42, .row 3, .var 73 (.agg 73 [.m 6]) false, .map 3 3, .row 3, .map 3 42]⟩, [(6, ⟨[(2, .o 2), (4, .p 3 73), (5, .m 4), (6, .v 42)], [.var 73 (.agg 73 [.m 1]) false, .map 3 42, .row 3, .var 73 (.agg 73 [.m 5]) false, .map 3 3, .map 3 42]⟩)]⟩)] }
def e33 : Entry := { fid := 41, ins := ⟨[(0, .p 0 73)], [.var 73 (.agg 73 [.m 1]) false, .map 3 42]⟩, outs := ⟨[(0, .p 2 73)], [.var 73 (.agg 73 [.m 1]) false, .map 3 42, .var 73 (.agg 73 [.m 3]) false, .map 3 42]⟩, cuts := [([false, true, false, true, true], ⟨⟨[(0, .p 0 73), (3, .p 2 73), (12, .v 42), (13, .v 3), (14, .v 3)], [.var 73 (.agg 73 [.m 1]) false, .map 3 42, .var 73 (.agg 73 [.m 3]) false, .map 3 42]⟩, [(2, ⟨[(3, .p 2 73)], [.var 73 (.agg 73 [.m 1]) false, .map 3 42, .var 73 (.agg 73 [.m 3]) false, .map 3 42]⟩)]⟩), ([false, true, true, false, false, true, true, false, false, true, false, true, true], ⟨⟨[(0, .p 0 73), (3, .p 2 73), (5, .v 3), (12, .v 42), (13, .v 3), (14, .v 3), (20, .o 3), (21, .v 3), (22, .v 3)], [.var 73 (.agg 73 [.m 1]) false, .map 3 42, .var 73 (.agg 73 [.m 4]) false, .row 3, .map 3 42]⟩, [(4, ⟨[(0, .p 0 73), (3, .p 2 73), (12, .v 42), (13, .v 3), (14, .v 3)], [.var 73 (.agg 73 [.m 1]) false, .map 3 42, .var 73 (.agg 73 [.m 3]) false, .map 3 42]⟩)]⟩)] }
def e34 : Entry := { fid := 42, ins := ⟨[(0, .p 0 73)], [.var 73 (.agg 73 [.m 1]) false, .map 3 42]⟩, outs := ⟨[(0, .v 42)], [.var 73 (.agg 73 [.m 1]) false, .map 3 42]⟩, cuts := [] }
def e35 : Entry := { fid := 60, ins := ⟨[(0, .m 0)], [.map 3 42]⟩, outs := ⟨[(0, .clo 72 [.p 1 71])], [.map 3 42, .var 71 (.m 0) false]⟩, cuts := [] }
def e36 : Entry := { fid := 43, ins := ⟨[(0, .p 0 73), (1, .v 3)], [.var 73 (.agg 73 [.m 1]) false, .map 3 42]⟩, outs := ⟨[(0, .o 2)], [.var 73 (.agg 73 [.m 1]) false, .map 3 42, .row 3]⟩, cuts := [] }
def e37 : Entry := { fid := 44, ins := ⟨[(0, .v 42)], []⟩, outs := ⟨[(0, .v 3), (1, .v 42)], []⟩, cuts := [] }
def e38 : Entry := { fid := 46, ins := ⟨[(0, .m 0)], [.map 3 3]⟩, outs := ⟨[(0, .clo 63 [.p 1 79])], [.map 3 3, .var 79 (.m 0) false]⟩, cuts := [] }
def e39 : Entry := { fid := 9, ins := ⟨[(0, .v 22), (1, .v 23)], []⟩, outs := ⟨[(0, .v 22)], []⟩, cuts := [([false, true, false, true, true], ⟨⟨[(0, .v 22), (1, .v 23), (5, .v 22), (6, .v 3)], []⟩, [(2, ⟨[(1, .v 23), (5, .v 22)], []⟩)]⟩), ([false, true, false, true, true, true], ⟨⟨[(1, .v 23), (5, .v 22), (7, .v 3)], []⟩, [(4, ⟨[(5, .v 22)], []⟩)]⟩)], lit := true }
def e40 : Entry := { fid := 30, ins := ⟨[(0, .v 22), (1, .v 9)], []⟩, outs := ⟨[(0, .v 22)], []⟩, cuts := [([false, true, false, true, true, true, true], ⟨⟨[(0, .v 22), (1, .v 9), (5, .o 0), (6, .v 4), (7, .v 3)], [.row 9]⟩, [(2, ⟨[(1, .v 9), (5, .o 0), (6, .v 4)], [.row 9]⟩)]⟩)], lit := true }
def e41 : Entry := { fid := 15, ins := ⟨[(0, .v 22), (1, .v 9)], []⟩, outs := ⟨[(0, .v 4)], []⟩, cuts := [([false, true, false, true], ⟨⟨[(0, .v 22), (1, .v 9), (5, .v 3)], []⟩, [(2, ⟨[], []⟩), (1, ⟨[(4, .v 4)], []⟩)]⟩)], lit := true }
def e42 : Entry := { fid := 12, ins := ⟨[(0, .v 22), (1, .v 23)], []⟩, outs := ⟨[(0, .o 0), (1, .o 1)], [.row 9, .row 9]⟩, cuts := [([false, true, false, true, true], ⟨⟨[(0, .v 22), (1, .v 23), (6, .o 0), (7, .v 3)], [.row 9]⟩, [(2, ⟨[(0, .v 22), (6, .o 0)], [.row 9]⟩)]⟩), ([false, true, false, true, true, false, false, true, false, false, true, false, true, true], ⟨⟨[(0, .v 22), (1, .v 23), (6, .o 0), (7, .v 3), (8, .v 9), (9, .v 4), (10, .v 3)], [.row 9]⟩, [(4, ⟨[(0, .v 22), (1, .v 23), (6, .o 0), (7, .v 3), (8, .v 9), (9, .v 4)], [.row 9]⟩)]⟩), ([false, true, false, true, true, true, false, false, true, false, false, true, false, true, true, false, false, true, false, false, true, false, true, true], ⟨⟨[(0, .v 22), (1, .v 23), (6, .o 0), (7, .v 3), (8, .v 9), (9, .v 4), (10, .v 3), (11, .v 4), (12, .v 22), (13, .v 3)], [.row 9]⟩, [(6, ⟨[(0, .v 22), (1, .v 23), (6, .o 0), (7, .v 3), (8, .v 9), (9, .v 4), (10, .v 3), (11, .v 4)], [.row 9]⟩)]⟩), ([false, true, false, true, true, true, true], ⟨⟨[(0, .v 22), (6, .o 0), (14, .o 1), (15, .v 3)], [.row 9, .row 9]⟩, [(8, ⟨[(6, .o 0), (14, .o 1)], [.row 9, .row 9]⟩)]⟩)], lit := true }
def e43 : Entry := { fid := 14, ins := ⟨[(0, .v 23), (1, .v 9)], []⟩, outs := ⟨[(0, .v 22)], []⟩, cuts := [([false, true, false, true, true], ⟨⟨[(0, .v 23), (1, .v 9), (5, .v 22), (6, .v 3)], []⟩, [(2, ⟨[(5, .v 22)], []⟩)]⟩)], lit := true }
def e44 : Entry := { fid := 31, ins := ⟨[(0, .o 0)], [.row 9]⟩, outs := ⟨[(0, .v 9), (1, .v 22)], [.row 9]⟩, cuts := [] }
def e45 : Entry := { fid := 13, ins := ⟨[(0, .o 0), (1, .v 22)], [.row 9]⟩, outs := ⟨[(0, .v 4)], [.row 9]⟩, cuts := [([false, true, false, true, true], ⟨⟨[(0, .o 0), (1, .v 22), (5, .v 3)], [.row 9]⟩, [(2, ⟨[], [.row 9]⟩), (1, ⟨[(4, .v 4)], [.row 9]⟩)]⟩)], lit := true }
def e46 : Entry := { fid := 44, ins := ⟨[(0, .o 0)], [.row 3]⟩, outs := ⟨[(0, .v 3), (1, .v 42)], [.row 3]⟩, cuts := [] }
def e47 : Entry := { fid := 15, ins := ⟨[(0, .o 0), (1, .v 9)], [.row 9]⟩, outs := ⟨[(0, .v 4)], [.row 9]⟩, cuts := [([false, true, false, true], ⟨⟨[(0, .o 0), (1, .v 9), (5, .v 3)], [.row 9]⟩, [(2, ⟨[], [.row 9]⟩), (1, ⟨[(4, .v 4)], [.row 9]⟩)]⟩)], lit := true }
def e48 : Entry := insE 39 3 3
def e49 : Entry := insE 33 3 9
def ents : List Entry := [e0, e1, e2, e3, e4, e5, e6, e7, e8, e9, e10, e11, e12, e13, e14, e15, e16, e17, e18, e19, e20, e21, e22, e23, e24, e25, e26, e27, e28, e29, e30, e31, e32, e33, e34, e35, e36, e37, e38, e39, e40, e41, e42, e43, e44, e45, e46, e47, e48, e49]
def i_slices_SortedI : Nat := 0
def i_slices_SortedI_l : Nat := 1
def i_slices_Sorted : Nat := 2
def i_slices_Sorted_l : Nat := 3
def i_slices_CloneI : Nat := 4
def i_slices_Clone : Nat := 5
def i_L17_GraphInts : Nat := 6
def i_L17_awake : Nat := 7
def i_graph_New_string : Nat := 8
def i_graph_Graph_string_Add : Nat := 9
def i_graph_Graph_string_Has : Nat := 10
def i_graph_Graph_string_Link : Nat := 11
def i_slices_BinarySearch_string : Nat := 12
def i_cmp_Less_string : Nat := 13
def i_cmp_isNaN_string : Nat := 14
def i_slices_isNaN_string : Nat := 15
def i_graph_Graph_string_Order : Nat := 16
def i_graph_Graph_string_Turned : Nat := 17
def i_graph_Graph_string_Points : Nat := 18
def i_maps_Keys_map_string_string_string_string : Nat := 19
def i_graph_Graph_string_To : Nat := 20
def i_graph_least_string : Nat := 21
def i_maps_Keys_map_string_int_string_int : Nat := 22
def i_R02_Same : Nat := 23
def i_graph_New_int : Nat := 24
def i_graph_Graph_int_Add : Nat := 25
def i_graph_Graph_int_Has : Nat := 26
def i_graph_Graph_int_Link : Nat := 27
def i_slices_BinarySearch_int : Nat := 28
def i_cmp_Less_int : Nat := 29
def i_cmp_isNaN_int : Nat := 30
def i_slices_isNaN_int : Nat := 31
def i_graph_Graph_int_Order : Nat := 32
def i_graph_Graph_int_Turned : Nat := 33
def i_graph_Graph_int_Points : Nat := 34
def i_maps_Keys_map_int_int_int_int : Nat := 35
def i_graph_Graph_int_To : Nat := 36
def i_graph_least_int : Nat := 37
def i_maps_Keys_map_intint_int_int : Nat := 38
def i_R17_Points : Nat := 39
def i_R17_Put : Nat := 40
def i_R17_Has : Nat := 41
def i_R17_Order : Nat := 42
def i_R17_To : Nat := 43
def i_graph_least_string_o : Nat := 44
def i_R02_Same_o : Nat := 45
def i_graph_least_int_o : Nat := 46
def i_R17_Has_o : Nat := 47
def i_slices_InsertI : Nat := 48
def i_slices_Insert : Nat := 49
def p_L17_GraphInts_c1 : List Bool := [false, true, false, true, true, true, true]
def p_L17_GraphInts_c2 : List Bool := [false, true, false, true, true, true, true, true, true, true, true]
def p_L17_GraphInts_c3 : List Bool := [false, true, false, true, true, true, true, true, true, true, true, true]
def p_graph_New_string_c1 : List Bool := [false, true, false, true, true]
def p_slices_BinarySearch_string_c1 : List Bool := [false, false, true, true, true]
def p_graph_Graph_string_Order_c1 : List Bool := [false, true, false, true, true, true, true]
def p_graph_Graph_string_Order_c2 : List Bool := [false, false, true, true, true, true, true]
def p_graph_Graph_string_Order_c3 : List Bool := [false, true, true, true, true, true, false, true, false, false, false, true, true, true, true, true]
def p_graph_Graph_string_Turned_c1 : List Bool := [false, true, false, true, true]
def p_graph_Graph_string_Turned_c2 : List Bool := [false, true, true, false, false, true, true, false, false, true, false, true, true]
def p_R02_Same_c1 : List Bool := [false, true, false, true, true]
def p_graph_New_int_c1 : List Bool := [false, true, false, true, true]
def p_slices_BinarySearch_int_c1 : List Bool := [false, false, true, true, true]
def p_graph_Graph_int_Order_c1 : List Bool := [false, true, false, true, true, true, true]
def p_graph_Graph_int_Order_c2 : List Bool := [false, false, true, true, true, true, true]
def p_graph_Graph_int_Order_c3 : List Bool := [false, true, true, true, true, true, false, true, false, false, false, true, true, true, true, true]
def p_graph_Graph_int_Turned_c1 : List Bool := [false, true, false, true, true]
def p_graph_Graph_int_Turned_c2 : List Bool := [false, true, true, false, false, true, true, false, false, true, false, true, true]
def p_R17_Points_c1 : List Bool := [false, true, false, true, true]
def p_R17_Points_c2 : List Bool := [false, true, false, true, true, true]
def p_R17_Put_c1 : List Bool := [false, true, false, true, true, true, true]
def p_R17_Has_c1 : List Bool := [false, true, false, true]
def p_R17_Order_c1 : List Bool := [false, true, false, true, true]
def p_R17_Order_c2 : List Bool := [false, true, false, true, true, false, false, true, false, false, true, false, true, true]
def p_R17_Order_c3 : List Bool := [false, true, false, true, true, true, false, false, true, false, false, true, false, true, true, false, false, true, false, false, true, false, true, true]
def p_R17_Order_c4 : List Bool := [false, true, false, true, true, true, true]
def p_R17_To_c1 : List Bool := [false, true, false, true, true]
def p_R02_Same_o_c1 : List Bool := [false, true, false, true, true]
def p_R17_Has_o_c1 : List Bool := [false, true, false, true]
noncomputable def D (n i : Nat) (p : Option (List Bool)) (xs : List A) : Option (Nat × List A) := den Try.prog G0 ents n i p xs
noncomputable def cl (n i : Nat) (xs : List A) (k : List A → Option (Nat × List A)) : Option (Nat × List A) := Option.bind (Option.map (fun v => v.2) (den Try.prog G0 ents n i none xs)) k
noncomputable def lp (n i : Nat) (p : List Bool) (xs : List A) (k : Nat × List A → Option (Nat × List A)) : Option (Nat × List A) := Option.bind (den Try.prog G0 ents n i (some p) xs) k
end Go.Proofs.YtbejhhoakeapgaaGI
set_option linter.unusedVariables false
set_option maxRecDepth 100000
namespace Go.Proofs.YtbejhhoakeapgaaGI
open Go Go.Proofs.YtbejhhoakeapgaaVM Go.Proofs
theorem q_L17_GraphInts (n : Nat) (x0 : T) : den Try.prog G0 ents (Nat.succ n) i_L17_GraphInts none [A.t x0] =
  bif gt x0.l 60 then cl n i_L17_awake [] fun v0 => rt [aB (r v0 0).b] else cl n i_graph_New_int [aL []] fun v0 => lp n i_L17_GraphInts p_L17_GraphInts_c1 [aL x0.k,aI 0,aL [],aL (r v0 0).k] fun v1 => bif Nat.beq v1.1 2 then cl n i_graph_Graph_int_Order [aL (r v1.2 1).k] fun v2 => cl n i_R17_Points [aL [],aL (r v1.2 0).k] fun v3 => cl n i_R17_Order [aL (r v3 0).k,aL (r v1.2 0).k] fun v4 => bif ((r v2 2).l != (r v4 0).l) == false then bif (r v2 0).l != (r v4 1).l then rt [aB false] else lp n i_L17_GraphInts p_L17_GraphInts_c2 [aL (r v2 0).k,aI 0,aL (r v2 2).k,aL (r v4 0).k,aL (r v4 1).k] fun v5 => bif Nat.beq v5.1 4 then lp n i_L17_GraphInts p_L17_GraphInts_c3 [aL (r v5.2 0).k,aL (r v5.2 1).k,aI 0] fun v6 => bif Nat.beq v6.1 6 then cl n i_L17_awake [] fun v7 => rt [aB (r v7 0).b] else bif Nat.beq v6.1 1 then rt [aB (r v6.2 0).b] else none else bif Nat.beq v5.1 1 then rt [aB (r v5.2 0).b] else none else rt [aB false] else none := by kernel_rfl
theorem q_L17_GraphInts_c1 (n : Nat) (x0 x1 x2 x3 : T) : den Try.prog G0 ents (Nat.succ n) i_L17_GraphInts (some p_L17_GraphInts_c1) [A.t x0, A.t x1, A.t x2, A.t x3] =
  bif lt x1.n x0.l then bif ib x1.n x0.l then bif ib x1.n x0.l then cl n i_graph_Graph_int_Link [aI (w6 (Int.tmod ((x0.a x1.n).g 0).n 10)),aI (w6 (Int.tmod ((x0.a x1.n).g 1).n 10)),aL x3.k] fun v0 => bif Bool.and (Bool.and (Bool.and (le 0 (w6 (w6 (Int.tmod ((x0.a x1.n).g 0).n 10) + 1))) (le (w6 (w6 (Int.tmod ((x0.a x1.n).g 0).n 10) + 1)) 10)) (le 0 (w6 (Int.tmod ((x0.a x1.n).g 0).n 10)))) (le (w6 (Int.tmod ((x0.a x1.n).g 0).n 10)) (w6 (w6 (Int.tmod ((x0.a x1.n).g 0).n 10) + 1))) then bif Bool.and (Bool.and (Bool.and (le 0 (w6 (w6 (Int.tmod ((x0.a x1.n).g 1).n 10) + 1))) (le (w6 (w6 (Int.tmod ((x0.a x1.n).g 1).n 10) + 1)) 10)) (le 0 (w6 (Int.tmod ((x0.a x1.n).g 1).n 10)))) (le (w6 (Int.tmod ((x0.a x1.n).g 1).n 10)) (w6 (w6 (Int.tmod ((x0.a x1.n).g 1).n 10) + 1))) then bif decide (Nat.succ (List.length x2.k) < 1073741824) then D n i_L17_GraphInts (some p_L17_GraphInts_c1) [aL x0.k,aI (w6 (x1.n + 1)),aL (x2.k ++ [T.node [T.str (ByteArray.extract (bs [48,49,50,51,52,53,54,55,56,57]) (Int.toNat (w6 (Int.tmod ((x0.a x1.n).g 0).n 10))) (Int.toNat (w6 (w6 (Int.tmod ((x0.a x1.n).g 0).n 10) + 1)))),T.str (ByteArray.extract (bs [48,49,50,51,52,53,54,55,56,57]) (Int.toNat (w6 (Int.tmod ((x0.a x1.n).g 1).n 10))) (Int.toNat (w6 (w6 (Int.tmod ((x0.a x1.n).g 1).n 10) + 1))))]]),aL (r v0 0).k] else none else none else none else none else none else some (2,[aL x2.k,aL x3.k]) := by kernel_rfl
theorem q_L17_GraphInts_c2 (n : Nat) (x0 x1 x2 x3 x4 : T) : den Try.prog G0 ents (Nat.succ n) i_L17_GraphInts (some p_L17_GraphInts_c2) [A.t x0, A.t x1, A.t x2, A.t x3, A.t x4] =
  bif lt x1.n x2.l then bif ib x1.n x2.l then bif decide (Int.toNat x1.n < List.length x2.k) then bif ib x1.n x3.l then bif decide (Int.toNat x1.n < List.length x3.k) then bif lt 0 (x3.a x1.n).z then bif (x2.a x1.n).n != w6 (w6 ((UInt8.toNat (Array.getD (ByteArray.data (x3.a x1.n).s) 0 0) : Nat) : Int) - 48) then rt [aB false] else D n i_L17_GraphInts (some p_L17_GraphInts_c2) [aL x0.k,aI (w6 (x1.n + 1)),aL x2.k,aL x3.k,aL x4.k] else none else none else none else none else none else some (4,[aL x0.k,aL x4.k]) := by kernel_rfl
theorem q_L17_GraphInts_c3 (n : Nat) (x0 x1 x2 : T) : den Try.prog G0 ents (Nat.succ n) i_L17_GraphInts (some p_L17_GraphInts_c3) [A.t x0, A.t x1, A.t x2] =
  bif lt x2.n x0.l then bif ib x2.n x0.l then bif ib x2.n x1.l then bif lt 0 (x1.a x2.n).z then bif (x0.a x2.n).n != w6 (w6 ((UInt8.toNat (Array.getD (ByteArray.data (x1.a x2.n).s) 0 0) : Nat) : Int) - 48) then rt [aB false] else D n i_L17_GraphInts (some p_L17_GraphInts_c3) [aL x0.k,aL x1.k,aI (w6 (x2.n + 1))] else none else none else none else some (6,[]) := by kernel_rfl
theorem q_graph_New_int (n : Nat) (x0 : T) : den Try.prog G0 ents (Nat.succ n) i_graph_New_int none [A.t x0] =
  lp n i_graph_New_int p_graph_New_int_c1 [aL x0.k,aI x0.l,aI 0,aL []] fun v0 => bif Nat.beq v0.1 2 then rt [aL (r v0.2 0).k] else none := by kernel_rfl
theorem q_graph_New_int_c1 (n : Nat) (x0 x1 x2 x3 : T) : den Try.prog G0 ents (Nat.succ n) i_graph_New_int (some p_graph_New_int_c1) [A.t x0, A.t x1, A.t x2, A.t x3] =
  bif lt x2.n x1.n then bif ib x2.n x0.l then cl n i_graph_Graph_int_Add [aI (x0.a x2.n).n,aL x3.k] fun v0 => D n i_graph_New_int (some p_graph_New_int_c1) [aL x0.k,aI x1.n,aI (w6 (x2.n + 1)),aL (r v0 0).k] else none else some (2,[aL x3.k]) := by kernel_rfl
theorem q_graph_Graph_int_Add (n : Nat) (x0 x1 : T) : den Try.prog G0 ents (Nat.succ n) i_graph_Graph_int_Add none [A.t x0, A.t x1] =
  cl n i_graph_Graph_int_Has [aI x0.n,aL x1.k] fun v0 => bif !(r v0 0).b then rt [aL (mput keyI (r v0 1).k (T.int x0.n) (T.node []))] else rt [aL (r v0 1).k] := by kernel_rfl
theorem q_graph_Graph_int_Has (n : Nat) (x0 x1 : T) : den Try.prog G0 ents (Nat.succ n) i_graph_Graph_int_Has none [A.t x0, A.t x1] =
  rt [aB (mhas keyI x1.k (T.int x0.n)),aL x1.k] := by kernel_rfl
theorem q_graph_Graph_int_Link (n : Nat) (x0 x1 x2 : T) : den Try.prog G0 ents (Nat.succ n) i_graph_Graph_int_Link none [A.t x0, A.t x1, A.t x2] =
  cl n i_graph_Graph_int_Add [aI x0.n,aL x2.k] fun v0 => cl n i_graph_Graph_int_Add [aI x1.n,aL (r v0 0).k] fun v1 => cl n i_slices_BinarySearch_int [aL (mget keyI (T.node []) (r v1 0).k (T.int x0.n)).k,aI x1.n] fun v2 => bif !(r v2 1).b then cl n i_slices_CloneI [aL (mget keyI (T.node []) (r v1 0).k (T.int x0.n)).k] fun v3 => cl n i_slices_InsertI [aI (r v2 0).n,aL (r v3 0).k,aL [T.int x1.n]] fun v4 => rt [aL (mput keyI (r v1 0).k (T.int x0.n) (T.node (r v4 1).k))] else rt [aL (r v1 0).k] := by kernel_rfl
theorem q_slices_BinarySearch_int (n : Nat) (x0 x1 : T) : den Try.prog G0 ents (Nat.succ n) i_slices_BinarySearch_int none [A.t x0, A.t x1] =
  lp n i_slices_BinarySearch_int p_slices_BinarySearch_int_c1 [aL x0.k,aI x1.n,aI x0.l,aI 0,aI x0.l] fun v0 => bif Nat.beq v0.1 2 then bif lt (r v0.2 3).n (r v0.2 2).n == true then bif ib (r v0.2 3).n (r v0.2 0).l then bif (((r v0.2 0).a (r v0.2 3).n).n == (r v0.2 1).n) == false then bif ib (r v0.2 3).n (r v0.2 0).l then cl n i_slices_isNaN_int [aI ((r v0.2 0).a (r v0.2 3).n).n] fun v1 => bif (r v1 0).b == true then cl n i_slices_isNaN_int [aI (r v0.2 1).n] fun v2 => rt [aI (r v0.2 3).n,aB (r v2 0).b] else rt [aI (r v0.2 3).n,aB false] else none else rt [aI (r v0.2 3).n,aB true] else none else rt [aI (r v0.2 3).n,aB false] else none := by kernel_rfl
theorem q_slices_BinarySearch_int_c1 (n : Nat) (x0 x1 x2 x3 x4 : T) : den Try.prog G0 ents (Nat.succ n) i_slices_BinarySearch_int (some p_slices_BinarySearch_int_c1) [A.t x0, A.t x1, A.t x2, A.t x3, A.t x4] =
  bif lt x3.n x4.n then bif ib (w6 (Int.fdiv (wu (w6 (x3.n + x4.n))) 2)) x0.l then cl n i_cmp_Less_int [aI (x0.a (w6 (Int.fdiv (wu (w6 (x3.n + x4.n))) 2))).n,aI x1.n] fun v0 => bif (r v0 0).b then D n i_slices_BinarySearch_int (some p_slices_BinarySearch_int_c1) [aL x0.k,aI x1.n,aI x2.n,aI (w6 (w6 (Int.fdiv (wu (w6 (x3.n + x4.n))) 2) + 1)),aI x4.n] else D n i_slices_BinarySearch_int (some p_slices_BinarySearch_int_c1) [aL x0.k,aI x1.n,aI x2.n,aI x3.n,aI (w6 (Int.fdiv (wu (w6 (x3.n + x4.n))) 2))] else none else some (2,[aL x0.k,aI x1.n,aI x2.n,aI x3.n]) := by kernel_rfl
theorem q_cmp_Less_int (n : Nat) (x0 x1 : T) : den Try.prog G0 ents (Nat.succ n) i_cmp_Less_int none [A.t x0, A.t x1] =
  cl n i_cmp_isNaN_int [aI x0.n] fun v0 => bif (r v0 0).b == true then cl n i_cmp_isNaN_int [aI x1.n] fun v1 => bif (!(r v1 0).b) == false then rt [aB (lt x0.n x1.n)] else rt [aB true] else rt [aB (lt x0.n x1.n)] := by kernel_rfl
theorem q_cmp_isNaN_int (n : Nat) (x0 : T) : den Try.prog G0 ents (Nat.succ n) i_cmp_isNaN_int none [A.t x0] =
  rt [aB (x0.n != x0.n)] := by kernel_rfl
theorem q_slices_isNaN_int (n : Nat) (x0 : T) : den Try.prog G0 ents (Nat.succ n) i_slices_isNaN_int none [A.t x0] =
  rt [aB (x0.n != x0.n)] := by kernel_rfl
theorem q_graph_Graph_int_Order (n : Nat) (x0 : T) : den Try.prog G0 ents (Nat.succ n) i_graph_Graph_int_Order none [A.t x0] =
  cl n i_graph_Graph_int_Turned [aL x0.k] fun v0 => cl n i_graph_Graph_int_Points [aL (r v0 0).k] fun v1 => lp n i_graph_Graph_int_Order p_graph_Graph_int_Order_c1 [aL (r v1 0).k,aI (r v1 0).l,aI 0,aL (r v1 1).k,aL [],aL [],aL [],aL (r v0 1).k] fun v2 => bif Nat.beq v2.1 2 then lp n i_graph_Graph_int_Order p_graph_Graph_int_Order_c2 [aL (r v2.2 3).k,aL (r v2.2 0).k,aL (r v2.2 1).k,aL (r v2.2 2).k,aL (r v2.2 4).k] fun v3 => bif Nat.beq v3.1 4 then cl n i_maps_Keys_map_intint_int_int [aL (r v3.2 2).k] fun v4 => cl n i_slices_SortedI [aL (r v4 0).k] fun v5 => rt [aL (r v5 0).k,aL (r v3.2 0).k,aL (r v3.2 1).k] else none else none := by kernel_rfl
theorem q_graph_Graph_int_Order_c1 (n : Nat) (x0 x1 x2 x3 x4 x5 x6 x7 : T) : den Try.prog G0 ents (Nat.succ n) i_graph_Graph_int_Order (some p_graph_Graph_int_Order_c1) [A.t x0, A.t x1, A.t x2, A.t x3, A.t x4, A.t x5, A.t x6, A.t x7] =
  bif lt x2.n x1.n then bif ib x2.n x0.l then cl n i_graph_Graph_int_To [aI (x0.a x2.n).n,aL x3.k] fun v0 => bif (mget keyI (T.int 0) (mput keyI x5.k (T.int (x0.a x2.n).n) (T.int (r v0 1).l)) (T.int (x0.a x2.n).n)).n == 0 then bif decide (Nat.succ (List.length x6.k) < 1073741824) then D n i_graph_Graph_int_Order (some p_graph_Graph_int_Order_c1) [aL x0.k,aI x1.n,aI (w6 (x2.n + 1)),aL (r v0 0).k,aL x4.k,aL (mput keyI x5.k (T.int (x0.a x2.n).n) (T.int (r v0 1).l)),aL (x6.k ++ [T.int (x0.a x2.n).n]),aL x7.k] else none else D n i_graph_Graph_int_Order (some p_graph_Graph_int_Order_c1) [aL x0.k,aI x1.n,aI (w6 (x2.n + 1)),aL (r v0 0).k,aL x4.k,aL (mput keyI x5.k (T.int (x0.a x2.n).n) (T.int (r v0 1).l)),aL x6.k,aL x7.k] else none else some (2,[aL x3.k,aL x4.k,aL x5.k,aL x6.k,aL x7.k]) := by kernel_rfl
theorem q_graph_Graph_int_Order_c2 (n : Nat) (x0 x1 x2 x3 x4 : T) : den Try.prog G0 ents (Nat.succ n) i_graph_Graph_int_Order (some p_graph_Graph_int_Order_c2) [A.t x0, A.t x1, A.t x2, A.t x3, A.t x4] =
  bif gt x0.l 0 then cl n i_graph_least_int [aL x0.k] fun v0 => bif decide (Nat.succ (List.length x2.k) < 1073741824) then cl n i_graph_Graph_int_To [aI (r v0 0).n,aL x4.k] fun v1 => lp n i_graph_Graph_int_Order p_graph_Graph_int_Order_c3 [aL (r v0 1).k,aI (r v1 1).l,aI 0,aL x1.k,aL (x2.k ++ [T.int (r v0 0).n]),aL (mdel keyI x3.k (T.int (r v0 0).n)),aL (r v1 1).k,aL (r v1 0).k] fun v2 => bif Nat.beq v2.1 6 then D n i_graph_Graph_int_Order (some p_graph_Graph_int_Order_c2) [aL (r v2.2 0).k,aL (r v2.2 1).k,aL (r v2.2 2).k,aL (r v2.2 3).k,aL (r v2.2 4).k] else none else none else some (4,[aL x1.k,aL x2.k,aL x3.k]) := by kernel_rfl
theorem q_graph_Graph_int_Order_c3 (n : Nat) (x0 x1 x2 x3 x4 x5 x6 x7 : T) : den Try.prog G0 ents (Nat.succ n) i_graph_Graph_int_Order (some p_graph_Graph_int_Order_c3) [A.t x0, A.t x1, A.t x2, A.t x3, A.t x4, A.t x5, A.t x6, A.t x7] =
  bif lt x2.n x1.n then bif ib x2.n x6.l then bif decide (Int.toNat x2.n < List.length x6.k) then bif (mget keyI (T.int 0) (mput keyI x5.k (T.int (x6.a x2.n).n) (T.int (w6 ((mget keyI (T.int 0) x5.k (T.int (x6.a x2.n).n)).n - 1)))) (T.int (x6.a x2.n).n)).n == 0 then cl n i_slices_BinarySearch_int [aL x0.k,aI (x6.a x2.n).n] fun v0 => cl n i_slices_CloneI [aL x0.k] fun v1 => cl n i_slices_InsertI [aI (r v0 0).n,aL (r v1 0).k,aL [T.int (x6.a x2.n).n]] fun v2 => D n i_graph_Graph_int_Order (some p_graph_Graph_int_Order_c3) [aL (r v2 1).k,aI x1.n,aI (w6 (x2.n + 1)),aL x3.k,aL x4.k,aL (mput keyI x5.k (T.int (x6.a x2.n).n) (T.int (w6 ((mget keyI (T.int 0) x5.k (T.int (x6.a x2.n).n)).n - 1)))),aL x6.k,aL x7.k] else D n i_graph_Graph_int_Order (some p_graph_Graph_int_Order_c3) [aL x0.k,aI x1.n,aI (w6 (x2.n + 1)),aL x3.k,aL x4.k,aL (mput keyI x5.k (T.int (x6.a x2.n).n) (T.int (w6 ((mget keyI (T.int 0) x5.k (T.int (x6.a x2.n).n)).n - 1)))),aL x6.k,aL x7.k] else none else none else some (6,[aL x0.k,aL x3.k,aL x4.k,aL x5.k,aL x7.k]) := by kernel_rfl
theorem q_graph_Graph_int_Turned (n : Nat) (x0 : T) : den Try.prog G0 ents (Nat.succ n) i_graph_Graph_int_Turned none [A.t x0] =
  cl n i_graph_Graph_int_Points [aL x0.k] fun v0 => cl n i_graph_New_int [aL (r v0 0).k] fun v1 => cl n i_graph_Graph_int_Points [aL (r v0 1).k] fun v2 => lp n i_graph_Graph_int_Turned p_graph_Graph_int_Turned_c1 [aL (r v2 0).k,aI (r v2 0).l,aI 0,aL (r v2 1).k,aL (r v1 0).k] fun v3 => bif Nat.beq v3.1 2 then rt [aL (r v3.2 0).k,aL (r v3.2 1).k] else none := by kernel_rfl
end Go.Proofs.YtbejhhoakeapgaaGI
set_option linter.unusedVariables false
set_option maxRecDepth 100000
namespace Go.Proofs.YtbejhhoakeapgaaGI
open Go Go.Proofs.YtbejhhoakeapgaaVM Go.Proofs
theorem q_graph_Graph_int_Turned_c1 (n : Nat) (x0 x1 x2 x3 x4 : T) : den Try.prog G0 ents (Nat.succ n) i_graph_Graph_int_Turned (some p_graph_Graph_int_Turned_c1) [A.t x0, A.t x1, A.t x2, A.t x3, A.t x4] =
  bif lt x2.n x1.n then bif ib x2.n x0.l then cl n i_graph_Graph_int_To [aI (x0.a x2.n).n,aL x3.k] fun v0 => lp n i_graph_Graph_int_Turned p_graph_Graph_int_Turned_c2 [aI (x0.a x2.n).n,aL x0.k,aI x1.n,aI x2.n,aI (r v0 1).l,aI 0,aL (r v0 0).k,aL (r v0 1).k,aL x4.k] fun v1 => bif Nat.beq v1.1 4 then D n i_graph_Graph_int_Turned (some p_graph_Graph_int_Turned_c1) [aL (r v1.2 0).k,aI (r v1.2 1).n,aI (w6 ((r v1.2 2).n + 1)),aL (r v1.2 3).k,aL (r v1.2 4).k] else none else none else some (2,[aL x3.k,aL x4.k]) := by kernel_rfl
theorem q_graph_Graph_int_Turned_c2 (n : Nat) (x0 x1 x2 x3 x4 x5 x6 x7 x8 : T) : den Try.prog G0 ents (Nat.succ n) i_graph_Graph_int_Turned (some p_graph_Graph_int_Turned_c2) [A.t x0, A.t x1, A.t x2, A.t x3, A.t x4, A.t x5, A.t x6, A.t x7, A.t x8] =
  bif lt x5.n x4.n then bif ib x5.n x7.l then bif decide (Int.toNat x5.n < List.length x7.k) then cl n i_graph_Graph_int_Link [aI (x7.a x5.n).n,aI x0.n,aL x8.k] fun v0 => D n i_graph_Graph_int_Turned (some p_graph_Graph_int_Turned_c2) [aI x0.n,aL x1.k,aI x2.n,aI x3.n,aI x4.n,aI (w6 (x5.n + 1)),aL x6.k,aL x7.k,aL (r v0 0).k] else none else none else some (4,[aL x1.k,aI x2.n,aI x3.n,aL x6.k,aL x8.k]) := by kernel_rfl
theorem q_graph_Graph_int_Points (n : Nat) (x0 : T) : den Try.prog G0 ents (Nat.succ n) i_graph_Graph_int_Points none [A.t x0] =
  cl n i_maps_Keys_map_int_int_int_int [aL x0.k] fun v0 => cl n i_slices_SortedI_l [aL (r v0 0).k] fun v1 => rt [aL (r v1 0).k,aL (r v1 1).k] := by kernel_rfl
theorem q_maps_Keys_map_int_int_int_int (n : Nat) (x0 : T) : den Try.prog G0 ents (Nat.succ n) i_maps_Keys_map_int_int_int_int none [A.t x0] =
  rt [aL x0.k] := by kernel_rfl
theorem q_graph_Graph_int_To (n : Nat) (x0 x1 : T) : den Try.prog G0 ents (Nat.succ n) i_graph_Graph_int_To none [A.t x0, A.t x1] =
  cl n i_slices_CloneI [aL (mget keyI (T.node []) x1.k (T.int x0.n)).k] fun v0 => rt [aL x1.k,aL (r v0 0).k] := by kernel_rfl
theorem q_graph_least_int (n : Nat) (x0 : T) : den Try.prog G0 ents (Nat.succ n) i_graph_least_int none [A.t x0] =
  bif lt 0 x0.l then bif Bool.and (Bool.and (Bool.and (le 0 x0.l) (le x0.l x0.l)) true) (le 1 x0.l) then rt [aI (tAtD x0.k 0).n,aL (List.drop 1 (List.take (Int.toNat x0.l) x0.k))] else none else none := by kernel_rfl
theorem q_maps_Keys_map_intint_int_int (n : Nat) (x0 : T) : den Try.prog G0 ents (Nat.succ n) i_maps_Keys_map_intint_int_int none [A.t x0] =
  rt [aL x0.k] := by kernel_rfl
theorem q_R17_Points (n : Nat) (x0 x1 : T) : den Try.prog G0 ents (Nat.succ n) i_R17_Points none [A.t x0, A.t x1] =
  lp n i_R17_Points p_R17_Points_c1 [aL x0.k,aL x1.k,aL [],aI 0] fun v0 => bif Nat.beq v0.1 2 then lp n i_R17_Points p_R17_Points_c2 [aL (r v0.2 0).k,aL (r v0.2 1).k,aI 0] fun v1 => bif Nat.beq v1.1 4 then rt [aL (r v1.2 0).k] else none else none := by kernel_rfl
theorem q_R17_Points_c1 (n : Nat) (x0 x1 x2 x3 : T) : den Try.prog G0 ents (Nat.succ n) i_R17_Points (some p_R17_Points_c1) [A.t x0, A.t x1, A.t x2, A.t x3] =
  bif lt x3.n x0.l then bif ib x3.n x0.l then cl n i_R17_Put [aL x2.k,aS (x0.a x3.n).s] fun v0 => D n i_R17_Points (some p_R17_Points_c1) [aL x0.k,aL x1.k,aL (r v0 0).k,aI (w6 (x3.n + 1))] else none else some (2,[aL x1.k,aL x2.k]) := by kernel_rfl
theorem q_R17_Points_c2 (n : Nat) (x0 x1 x2 : T) : den Try.prog G0 ents (Nat.succ n) i_R17_Points (some p_R17_Points_c2) [A.t x0, A.t x1, A.t x2] =
  bif lt x2.n x0.l then bif ib x2.n x0.l then cl n i_R17_Put [aL x1.k,aS ((x0.a x2.n).g 0).s] fun v0 => bif ib x2.n x0.l then cl n i_R17_Put [aL (r v0 0).k,aS ((x0.a x2.n).g 1).s] fun v1 => D n i_R17_Points (some p_R17_Points_c2) [aL x0.k,aL (r v1 0).k,aI (w6 (x2.n + 1))] else none else none else some (4,[aL x1.k]) := by kernel_rfl
theorem q_R17_Put (n : Nat) (x0 x1 : T) : den Try.prog G0 ents (Nat.succ n) i_R17_Put none [A.t x0, A.t x1] =
  cl n i_R17_Has [aL x0.k,aS x1.s] fun v0 => bif (r v0 0).b then rt [aL x0.k] else lp n i_R17_Put p_R17_Put_c1 [aL x0.k,aS x1.s,aB false,aI 0,aL []] fun v1 => bif Nat.beq v1.1 2 then bif !(r v1.2 1).b then bif decide (Nat.succ (List.length (r v1.2 2).k) < 1073741824) then rt [aL ((r v1.2 2).k ++ [T.str (r v1.2 0).s])] else none else rt [aL (r v1.2 2).k] else none := by kernel_rfl
theorem q_R17_Put_c1 (n : Nat) (x0 x1 x2 x3 x4 : T) : den Try.prog G0 ents (Nat.succ n) i_R17_Put (some p_R17_Put_c1) [A.t x0, A.t x1, A.t x2, A.t x3, A.t x4] =
  bif lt x3.n x0.l then bif (!x2.b) == true then bif ib x3.n x0.l then bif sltB x1.s (x0.a x3.n).s then bif decide (Nat.succ (List.length x4.k) < 1073741824) then bif ib x3.n x0.l then bif decide (Nat.succ (List.length (x4.k ++ [T.str x1.s])) < 1073741824) then D n i_R17_Put (some p_R17_Put_c1) [aL x0.k,aS x1.s,aB true,aI (w6 (x3.n + 1)),aL ((x4.k ++ [T.str x1.s]) ++ [T.str (x0.a x3.n).s])] else none else none else none else bif ib x3.n x0.l then bif decide (Nat.succ (List.length x4.k) < 1073741824) then D n i_R17_Put (some p_R17_Put_c1) [aL x0.k,aS x1.s,aB x2.b,aI (w6 (x3.n + 1)),aL (x4.k ++ [T.str (x0.a x3.n).s])] else none else none else none else bif ib x3.n x0.l then bif decide (Nat.succ (List.length x4.k) < 1073741824) then D n i_R17_Put (some p_R17_Put_c1) [aL x0.k,aS x1.s,aB x2.b,aI (w6 (x3.n + 1)),aL (x4.k ++ [T.str (x0.a x3.n).s])] else none else none else some (2,[aS x1.s,aB x2.b,aL x4.k]) := by kernel_rfl
theorem q_R17_Has (n : Nat) (x0 x1 : T) : den Try.prog G0 ents (Nat.succ n) i_R17_Has none [A.t x0, A.t x1] =
  lp n i_R17_Has p_R17_Has_c1 [aL x0.k,aS x1.s,aI 0] fun v0 => bif Nat.beq v0.1 2 then rt [aB false] else bif Nat.beq v0.1 1 then rt [aB (r v0.2 0).b] else none := by kernel_rfl
theorem q_R17_Has_c1 (n : Nat) (x0 x1 x2 : T) : den Try.prog G0 ents (Nat.succ n) i_R17_Has (some p_R17_Has_c1) [A.t x0, A.t x1, A.t x2] =
  bif lt x2.n x0.l then bif ib x2.n x0.l then bif seqB (x0.a x2.n).s x1.s then rt [aB true] else D n i_R17_Has (some p_R17_Has_c1) [aL x0.k,aS x1.s,aI (w6 (x2.n + 1))] else none else some (2,[]) := by kernel_rfl
theorem q_R17_Order (n : Nat) (x0 x1 : T) : den Try.prog G0 ents (Nat.succ n) i_R17_Order none [A.t x0, A.t x1] =
  lp n i_R17_Order p_R17_Order_c1 [aL x0.k,aL x1.k,aI 0,aL []] fun v0 => bif Nat.beq v0.1 2 then lp n i_R17_Order p_R17_Order_c4 [aL (r v0.2 0).k,aI 0,aL (r v0.2 1).k,aL []] fun v1 => bif Nat.beq v1.1 8 then rt [aL (r v1.2 0).k,aL (r v1.2 1).k] else none else none := by kernel_rfl
theorem q_R17_Order_c1 (n : Nat) (x0 x1 x2 x3 : T) : den Try.prog G0 ents (Nat.succ n) i_R17_Order (some p_R17_Order_c1) [A.t x0, A.t x1, A.t x2, A.t x3] =
  bif lt x2.n x0.l then lp n i_R17_Order p_R17_Order_c2 [aL x0.k,aL x1.k,aI x2.n,aS (bs []),aB false,aI 0,aL x3.k] fun v0 => bif Nat.beq v0.1 4 then bif (r v0.2 4).b then bif decide (Nat.succ (List.length (r v0.2 5).k) < 1073741824) then D n i_R17_Order (some p_R17_Order_c1) [aL (r v0.2 0).k,aL (r v0.2 1).k,aI (w6 ((r v0.2 2).n + 1)),aL ((r v0.2 5).k ++ [T.str (r v0.2 3).s])] else none else D n i_R17_Order (some p_R17_Order_c1) [aL (r v0.2 0).k,aL (r v0.2 1).k,aI (w6 ((r v0.2 2).n + 1)),aL (r v0.2 5).k] else none else some (2,[aL x0.k,aL x3.k]) := by kernel_rfl
theorem q_R17_Order_c2 (n : Nat) (x0 x1 x2 x3 x4 x5 x6 : T) : den Try.prog G0 ents (Nat.succ n) i_R17_Order (some p_R17_Order_c2) [A.t x0, A.t x1, A.t x2, A.t x3, A.t x4, A.t x5, A.t x6] =
  bif lt x5.n x0.l == true then bif !x4.b then bif ib x5.n x0.l then cl n i_R17_Has_o [aS (x0.a x5.n).s,aL x6.k] fun v0 => bif (r v0 0).b then D n i_R17_Order (some p_R17_Order_c2) [aL x0.k,aL x1.k,aI x2.n,aS x3.s,aB x4.b,aI (w6 (x5.n + 1)),aL (r v0 1).k] else bif ib x5.n x0.l then cl n i_R17_To [aL x1.k,aS (x0.a x5.n).s] fun v1 => lp n i_R17_Order p_R17_Order_c3 [aL x0.k,aL x1.k,aI x2.n,aS x3.s,aB x4.b,aI x5.n,aB true,aL (r v1 0).k,aI 0,aL (r v0 1).k] fun v2 => bif Nat.beq v2.1 6 then bif (r v2.2 6).b then bif ib (r v2.2 5).n (r v2.2 0).l then D n i_R17_Order (some p_R17_Order_c2) [aL (r v2.2 0).k,aL (r v2.2 1).k,aI (r v2.2 2).n,aS ((r v2.2 0).a (r v2.2 5).n).s,aB true,aI (w6 ((r v2.2 5).n + 1)),aL (r v2.2 7).k] else none else D n i_R17_Order (some p_R17_Order_c2) [aL (r v2.2 0).k,aL (r v2.2 1).k,aI (r v2.2 2).n,aS (r v2.2 3).s,aB (r v2.2 4).b,aI (w6 ((r v2.2 5).n + 1)),aL (r v2.2 7).k] else none else none else none else some (4,[aL x0.k,aL x1.k,aI x2.n,aS x3.s,aB x4.b,aL x6.k]) else some (4,[aL x0.k,aL x1.k,aI x2.n,aS x3.s,aB x4.b,aL x6.k]) := by kernel_rfl
theorem q_R17_Order_c3 (n : Nat) (x0 x1 x2 x3 x4 x5 x6 x7 x8 x9 : T) : den Try.prog G0 ents (Nat.succ n) i_R17_Order (some p_R17_Order_c3) [A.t x0, A.t x1, A.t x2, A.t x3, A.t x4, A.t x5, A.t x6, A.t x7, A.t x8, A.t x9] =
  bif lt x8.n x7.l then bif x6.b == true then bif ib x8.n x7.l then cl n i_R17_Has_o [aS (x7.a x8.n).s,aL x9.k] fun v0 => D n i_R17_Order (some p_R17_Order_c3) [aL x0.k,aL x1.k,aI x2.n,aS x3.s,aB x4.b,aI x5.n,aB (r v0 0).b,aL x7.k,aI (w6 (x8.n + 1)),aL (r v0 1).k] else none else D n i_R17_Order (some p_R17_Order_c3) [aL x0.k,aL x1.k,aI x2.n,aS x3.s,aB x4.b,aI x5.n,aB false,aL x7.k,aI (w6 (x8.n + 1)),aL x9.k] else some (6,[aL x0.k,aL x1.k,aI x2.n,aS x3.s,aB x4.b,aI x5.n,aB x6.b,aL x9.k]) := by kernel_rfl
theorem q_R17_Order_c4 (n : Nat) (x0 x1 x2 x3 : T) : den Try.prog G0 ents (Nat.succ n) i_R17_Order (some p_R17_Order_c4) [A.t x0, A.t x1, A.t x2, A.t x3] =
  bif lt x1.n x0.l then bif ib x1.n x0.l then cl n i_R17_Has_o [aS (x0.a x1.n).s,aL x2.k] fun v0 => bif !(r v0 0).b then bif ib x1.n x0.l then bif decide (Nat.succ (List.length x3.k) < 1073741824) then D n i_R17_Order (some p_R17_Order_c4) [aL x0.k,aI (w6 (x1.n + 1)),aL (r v0 1).k,aL (x3.k ++ [T.str (x0.a x1.n).s])] else none else none else D n i_R17_Order (some p_R17_Order_c4) [aL x0.k,aI (w6 (x1.n + 1)),aL (r v0 1).k,aL x3.k] else none else some (8,[aL x2.k,aL x3.k]) := by kernel_rfl
theorem q_R17_To (n : Nat) (x0 x1 : T) : den Try.prog G0 ents (Nat.succ n) i_R17_To none [A.t x0, A.t x1] =
  lp n i_R17_To p_R17_To_c1 [aL x0.k,aS x1.s,aL [],aI 0] fun v0 => bif Nat.beq v0.1 2 then rt [aL (r v0.2 0).k] else none := by kernel_rfl
theorem q_R17_To_c1 (n : Nat) (x0 x1 x2 x3 : T) : den Try.prog G0 ents (Nat.succ n) i_R17_To (some p_R17_To_c1) [A.t x0, A.t x1, A.t x2, A.t x3] =
  bif lt x3.n x0.l then bif ib x3.n x0.l then bif seqB ((x0.a x3.n).g 0).s x1.s then bif ib x3.n x0.l then cl n i_R17_Put [aL x2.k,aS ((x0.a x3.n).g 1).s] fun v0 => D n i_R17_To (some p_R17_To_c1) [aL x0.k,aS x1.s,aL (r v0 0).k,aI (w6 (x3.n + 1))] else none else D n i_R17_To (some p_R17_To_c1) [aL x0.k,aS x1.s,aL x2.k,aI (w6 (x3.n + 1))] else none else some (2,[aL x2.k]) := by kernel_rfl
theorem q_R17_Has_o (n : Nat) (x0 x1 : T) : den Try.prog G0 ents (Nat.succ n) i_R17_Has_o none [A.t x0, A.t x1] =
  lp n i_R17_Has_o p_R17_Has_o_c1 [aS x0.s,aI 0,aL x1.k] fun v0 => bif Nat.beq v0.1 2 then rt [aB false,aL (r v0.2 0).k] else bif Nat.beq v0.1 1 then rt [aB (r v0.2 0).b,aL (r v0.2 1).k] else none := by kernel_rfl
theorem q_R17_Has_o_c1 (n : Nat) (x0 x1 x2 : T) : den Try.prog G0 ents (Nat.succ n) i_R17_Has_o (some p_R17_Has_o_c1) [A.t x0, A.t x1, A.t x2] =
  bif lt x1.n x2.l then bif ib x1.n x2.l then bif decide (Int.toNat x1.n < List.length x2.k) then bif seqB (x2.a x1.n).s x0.s then rt [aB true,aL x2.k] else D n i_R17_Has_o (some p_R17_Has_o_c1) [aS x0.s,aI (w6 (x1.n + 1)),aL x2.k] else none else none else some (2,[aL x2.k]) := by kernel_rfl
end Go.Proofs.YtbejhhoakeapgaaGI
namespace Go.Proofs.YtbejhhoakeapgaaGI
open Go Go.Proofs.YtbejhhoakeapgaaVM
set_option linter.unusedVariables false
def terms (v : T) : List T := (v.get 0).kids
def flds (t : T) : List T := (t.get 7).kids
def nm (f : T) : ByteArray := (f.get 0).txt
def val (f : T) : T := f.get 1
def sumN (l : List Nat) : Nat := l.foldr (· + ·) 0
def wt : Nat → T → Nat
  | 0, _ => 0
  | d + 1, v => sumN ((terms v).map fun t => 1 + sumN ((flds t).map fun f => wt d (val f)))
def wtT (d : Nat) (t : T) : Nat := 1 + sumN ((flds t).map fun f => wt d (val f))
theorem wt_succ (d : Nat) (v : T) : wt (d + 1) v = sumN ((terms v).map (wtT d)) := rfl
def maxN (l : List Nat) : Nat := l.foldr max 0
def dep : Nat → T → Nat
  | 0, _ => 0
  | d + 1, v => 1 + maxN ((terms v).map fun t => maxN ((flds t).map fun f => dep d (val f)))
def Vd : Nat → T → Prop
  | 0, _ => False
  | d + 1, v => ∀ t ∈ terms v, (flds t).length ≤ 100 ∧ (t.get 3).txt.size ≤ 400 ∧ ∀ f ∈ flds t, (nm f).size ≤ 100 ∧ Vd d (val f)
theorem sum_foldl {α : Type} (f : α → Nat) : ∀ (l : List α) (a : Nat), l.foldl (fun a x => a + f x) a = a + sumN (l.map f)
  | [], a => by simp [sumN]
  | x :: l, a => by
    rw [List.foldl_cons, sum_foldl f l (a + f x)]
    simp only [List.map_cons, sumN, List.foldr_cons]
    omega
theorem max_foldl {α : Type} (f : α → Nat) : ∀ (l : List α) (a : Nat), l.foldl (fun a x => max a (f x)) a = max a (maxN (l.map f))
  | [], a => by simp [maxN]
  | x :: l, a => by
    rw [List.foldl_cons, max_foldl f l (max a (f x))]
    simp only [List.map_cons, maxN, List.foldr_cons]
    omega
theorem sum_mem {α : Type} {f : α → Nat} {l : List α} {x : α} (h : x ∈ l) : f x ≤ sumN (l.map f) := by
  induction l with
  | nil => cases h
  | cons y l ih =>
    simp only [List.map_cons, sumN, List.foldr_cons]
    rcases List.mem_cons.1 h with rfl | h
    · omega
    · have := ih h
      unfold sumN at this
      omega
theorem sum_len {α : Type} {f : α → Nat} {l : List α} (h : ∀ x ∈ l, 1 ≤ f x) : l.length ≤ sumN (l.map f) := by
  induction l with
  | nil => simp
  | cons y l ih =>
    have h1 := ih fun x hx => h x (List.mem_cons_of_mem _ hx)
    have h2 := h y List.mem_cons_self
    simp only [List.map_cons, sumN, List.foldr_cons, List.length_cons]
    unfold sumN at h1
    omega
def Sm (d : Nat) (v : T) : Prop := Vd d v ∧ wt d v ≤ 512
theorem Sm.terms {d : Nat} {v : T} (h : Sm d v) : (terms v).length ≤ 512 := by
  cases d with
  | zero => exact h.1.elim
  | succ d => exact Nat.le_trans (sum_len (f := wtT d) fun t _ => by unfold wtT; omega) h.2
theorem Sm.sub {d : Nat} {v t f : T} (h : Sm (d + 1) v) (ht : t ∈ YtbejhhoakeapgaaGI.terms v) (hf : f ∈ flds t) : Sm d (val f) := by
  refine ⟨((h.1 t ht).2.2 f hf).2, ?_⟩
  have h1 : wt d (val f) ≤ wtT d t := by
    unfold wtT
    have := sum_mem (f := fun f => wt d (val f)) hf
    omega
  have h2 : wtT d t ≤ wt (d + 1) v := sum_mem (f := wtT d) ht
  have := h.2
  omega
theorem Sm.flds {d : Nat} {v t : T} (h : Sm (d + 1) v) (ht : t ∈ YtbejhhoakeapgaaGI.terms v) : (YtbejhhoakeapgaaGI.flds t).length ≤ 100 := (h.1 t ht).1
theorem Sm.wtT {d : Nat} {v t : T} (h : Sm (d + 1) v) (ht : t ∈ YtbejhhoakeapgaaGI.terms v) : YtbejhhoakeapgaaGI.wtT d t ≤ 512 := Nat.le_trans (sum_mem (f := YtbejhhoakeapgaaGI.wtT d) ht) h.2

def leftFs (g : T → Int → Int) : List T → Int → Int
  | [], n => n
  | f :: fs, n => if n < 0 then n else if 100 < (nm f).size then -1 else leftFs g fs (g (val f) n)
def leftTs (g : T → Int → Int) : List T → Int → Int
  | [], n => n
  | t :: ts, n => if n < 0 then n else if 400 < (t.get 3).txt.size ∨ 100 < (flds t).length then -1 else leftTs g ts (leftFs g (flds t) (n - 1))
def leftF : Nat → T → Int → Int
  | 0, _, _ => -1
  | d + 1, v, n => if (((terms v).length : Nat) : Int) > n then -1 else leftTs (leftF d) (terms v) n
theorem leftFs_neg (g : T → Int → Int) : ∀ (l : List T) (n : Int), n < 0 → leftFs g l n = n
  | [], n, h => rfl
  | f :: fs, n, h => by rw [leftFs, if_pos h]
theorem leftTs_neg (g : T → Int → Int) : ∀ (l : List T) (n : Int), n < 0 → leftTs g l n = n
  | [], n, h => rfl
  | f :: fs, n, h => by rw [leftTs, if_pos h]
theorem left_few : ∀ (d : Nat) (v : T) (n : Int), 0 ≤ leftF d v n → Vd d v ∧ leftF d v n + (wt d v : Nat) = n
  | 0, v, n, h => by simp [leftF] at h
  | d + 1, v, n, h => by
    have hfs : ∀ (l : List T) (n : Int), 0 ≤ leftFs (leftF d) l n → (∀ f ∈ l, (nm f).size ≤ 100 ∧ Vd d (val f)) ∧ leftFs (leftF d) l n + (sumN (l.map fun f => wt d (val f)) : Nat) = n := by
      intro l
      induction l with
      | nil => intro n hn; exact ⟨by simp, by simp [leftFs, sumN]⟩
      | cons f l ih =>
        intro n hn
        rw [leftFs] at hn ⊢
        split at hn
        · omega
        · split at hn
          · omega
          · rename_i h1 h2
            rw [if_neg h1, if_neg h2]
            obtain ⟨q1, q2⟩ := ih _ hn
            have h3 : 0 ≤ leftF d (val f) n := by
              rcases Int.lt_or_le (leftF d (val f) n) 0 with h4 | h4
              · rw [leftFs_neg _ _ _ h4] at hn; omega
              · exact h4
            obtain ⟨q3, q4⟩ := left_few d (val f) n h3
            refine ⟨fun x hx => ?_, ?_⟩
            · rcases List.mem_cons.1 hx with rfl | hx
              · exact ⟨by omega, q3⟩
              · exact q1 x hx
            · simp only [List.map_cons, sumN, List.foldr_cons] at q2 ⊢
              omega
    have hts : ∀ (l : List T) (n : Int), 0 ≤ leftTs (leftF d) l n → (∀ t ∈ l, (flds t).length ≤ 100 ∧ (t.get 3).txt.size ≤ 400 ∧ ∀ f ∈ flds t, (nm f).size ≤ 100 ∧ Vd d (val f)) ∧ leftTs (leftF d) l n + (sumN (l.map (wtT d)) : Nat) = n := by
      intro l
      induction l with
      | nil => intro n hn; exact ⟨by simp, by simp [leftTs, sumN]⟩
      | cons t l ih =>
        intro n hn
        rw [leftTs] at hn ⊢
        split at hn
        · omega
        · split at hn
          · omega
          · rename_i h1 h2
            rw [if_neg h1, if_neg h2]
            obtain ⟨q1, q2⟩ := ih _ hn
            have h3 : 0 ≤ leftFs (leftF d) (flds t) (n - 1) := by
              rcases Int.lt_or_le (leftFs (leftF d) (flds t) (n - 1)) 0 with h4 | h4
              · rw [leftTs_neg _ _ _ h4] at hn; omega
              · exact h4
            obtain ⟨q3, q4⟩ := hfs _ _ h3
            refine ⟨fun x hx => ?_, ?_⟩
            · rcases List.mem_cons.1 hx with rfl | hx
              · exact ⟨by omega, by omega, q3⟩
              · exact q1 x hx
            · simp only [List.map_cons, sumN, List.foldr_cons, wtT] at q2 q4 ⊢
              omega
    rw [leftF] at h ⊢
    split at h
    · omega
    · rename_i h1
      rw [if_neg h1]
      exact hts _ _ h
end Go.Proofs.YtbejhhoakeapgaaGI
namespace Go.Proofs.YtbejhhoakeapgaaGI
open Go Go.Proofs.YtbejhhoakeapgaaVM
set_option linter.unusedVariables false
set_option linter.unusedSimpArgs false
set_option maxRecDepth 100000

def Dz (i : Nat) (p : Option (List Bool)) (xs : List A) (r : Nat × List A) : Prop := Does Try.prog G0 ents i p xs r
theorem terms_eq (v : T) : (T.get v 0).kids = terms v := id rfl
theorem flds_eq (v : T) : (T.get v 7).kids = flds v := id rfl
theorem S1 : (∀ n i p xs, D n i p xs = den Try.prog G0 ents n i p xs) ∧ (∀ n i xs k, cl n i xs k = Option.bind (Option.map (fun v => v.2) (den Try.prog G0 ents n i none xs)) k) ∧ (∀ n i p xs k, lp n i p xs k = Option.bind (den Try.prog G0 ents n i (some p) xs) k) :=
  ⟨fun _ _ _ _ => rfl, fun _ _ _ _ => rfl, fun _ _ _ _ _ => rfl⟩
theorem S2 : (∀ v, (T.get v 0).kids = terms v) ∧ (∀ v, (T.get v 7).kids = flds v) := ⟨fun _ => rfl, fun _ => rfl⟩
theorem leftFs_le {g : T → Int → Int} (hg : ∀ v n, g v n ≤ max n (-1) ∧ (-1 ≤ n → -1 ≤ g v n)) : ∀ (l : List T) (n : Int), leftFs g l n ≤ max n (-1) ∧ (-1 ≤ n → -1 ≤ leftFs g l n) := by
  intro l
  induction l with
  | nil => intro n; simp only [leftFs]; omega
  | cons f l ih =>
    intro n
    rw [leftFs]
    split
    · omega
    · split
      · omega
      · have h1 := ih (g (val f) n)
        have h2 := hg (val f) n
        omega
theorem leftF_le : ∀ (d : Nat) (v : T) (n : Int), leftF d v n ≤ max n (-1) ∧ (-1 ≤ n → -1 ≤ leftF d v n)
  | 0, v, n => by simp only [leftF]; omega
  | d + 1, v, n => by
    have hts : ∀ (l : List T) (n : Int), leftTs (leftF d) l n ≤ max n (-1) ∧ (-1 ≤ n → -1 ≤ leftTs (leftF d) l n) := by
      intro l
      induction l with
      | nil => intro n; simp only [leftTs]; omega
      | cons t l ih =>
        intro n
        rw [leftTs]
        split
        · omega
        · split
          · omega
          · have h1 := ih (leftFs (leftF d) (flds t) (n - 1))
            have h2 := leftFs_le (fun v n => leftF_le d v n) (flds t) (n - 1)
            omega
    rw [leftF]
    split
    · omega
    · exact hts _ _
end Go.Proofs.YtbejhhoakeapgaaGI
namespace Go.Proofs.YtbejhhoakeapgaaGI
open Go Go.Proofs.YtbejhhoakeapgaaVM
set_option linter.unusedVariables false
set_option linter.unusedSimpArgs false
set_option maxRecDepth 100000

def up : Nat → Nat → Nat
  | 0, n => n
  | k + 1, n => Nat.succ (up k n)
theorem up_add (k n : Nat) : up k n = n + k := by
  induction k with
  | zero => rfl
  | succ k ih => rw [up, ih]; rfl
theorem run_of {i : Nat} {xs : List A} {r : Nat × List A} (k : Nat) (h : ∀ n, den Try.prog G0 ents (up k n) i none xs = some r) : Dz i none xs r :=
  ⟨k, fun n hn => by
    obtain ⟨j, rfl⟩ : ∃ j, n = j + k := ⟨n - k, by omega⟩
    rw [← up_add]
    exact h j⟩
def fi (p : T → Bool) : List T → Nat → Int
  | [], _ => -1
  | x :: l, k => if p x then ((k : Nat) : Int) else fi p l (k + 1)
theorem fi_any (p : T → Bool) : ∀ (l : List T) (k : Nat), decide (fi p l k ≥ 0) = l.any p
  | [], k => by simp [fi]
  | x :: l, k => by
    rw [fi, List.any_cons, ← fi_any p l (k + 1)]
    cases p x
    · simp
    · simp
theorem fi_none {p : T → Bool} {l : List T} {k : Nat} (h : l.any p = false) : fi p l k = -1 := by
  induction l generalizing k with
  | nil => rfl
  | cons x l ih =>
    rw [List.any_cons, Bool.or_eq_false_iff] at h
    rw [fi, h.1, ih h.2]
    rfl
theorem idx0_loop {i ic : Nat} {pp : List Bool} (hq : ∀ n x0 x1 x2, den Try.prog G0 ents (Nat.succ n) i (some pp) [A.t x0, A.t x1, A.t x2] =
  bif lt x2.n x1.n then bif ib x2.n x0.l then cl n ic [A.t (x0.a x2.n)] fun v0 => bif (r v0 0).b then rt [aI x2.n] else D n i (some pp) [aL x0.k,aI x1.n,aI (w6 (x2.n + 1))] else none else some (2,[]))
    (l : List T) (p : T → Bool) (hl : l.length ≤ 1000000000) (hp : ∀ x ∈ l, Dz ic none [A.t x] (1, [A.t (T.bool (p x))])) : ∀ (k j : Nat), j + k = l.length →
    Dz i (some pp) [A.t (T.node l), A.t (T.int (l.length : Nat)), A.t (T.int j)] (if (l.drop j).any p then (1, [A.t (T.int (fi p (l.drop j) j))]) else (2, [])) := by
  intro k
  induction k with
  | zero =>
    intro j hj
    rw [List.drop_of_length_le (by omega)]
    refine Does.now fun m => ?_
    rw [hq]
    simp only [S0, S9, S1, S2, if_true, if_false, List.any_nil]
    rw [if_neg (by omega)]
  | succ k ih =>
    intro j hj
    have hlt : j < l.length := by omega
    have hw : IntKind.i64.wrap ((j : Int) + 1) = ((j + 1 : Nat) : Int) := i64succ (by omega)
    obtain ⟨n0, h0⟩ := (hp _ (List.getElem_mem hlt)).both (ih (j + 1) (by omega))
    refine Does.of n0 fun m hm => ?_
    obtain ⟨q, q2⟩ := h0 m hm
    rw [hq, List.drop_eq_getElem_cons hlt, List.any_cons, fi]
    simp only [S0, S9, S1, S2, if_true, if_false, hw, at_get hlt, q]
    rw [if_pos (by omega), if_pos (by omega)]
    cases p l[j]
    · simp only [Bool.false_eq_true, if_false, false_or]; exact q2
    · rfl
theorem idx0_does {i ic : Nat} {pp : List Bool} (hq2 : ∀ n x0, den Try.prog G0 ents (Nat.succ n) i none [A.t x0] =
  lp n i pp [aL x0.k,aI x0.l,aI 0] fun v0 => bif Nat.beq v0.1 2 then rt [aI (-1)] else bif Nat.beq v0.1 1 then rt [aI (r v0.2 0).n] else none) (hq : ∀ n x0 x1 x2, den Try.prog G0 ents (Nat.succ n) i (some pp) [A.t x0, A.t x1, A.t x2] =
  bif lt x2.n x1.n then bif ib x2.n x0.l then cl n ic [A.t (x0.a x2.n)] fun v0 => bif (r v0 0).b then rt [aI x2.n] else D n i (some pp) [aL x0.k,aI x1.n,aI (w6 (x2.n + 1))] else none else some (2,[]))
    (l : List T) (p : T → Bool) (hl : l.length ≤ 1000000000) (hp : ∀ x ∈ l, Dz ic none [A.t x] (1, [A.t (T.bool (p x))])) : Dz i none [A.t (T.node l)] (1, [A.t (T.int (fi p l 0))]) := by
  obtain ⟨n0, h0⟩ := idx0_loop hq l p hl hp l.length 0 (by omega)
  rw [List.drop_zero] at h0
  refine Does.of n0 fun m hm => ?_
  have q : den Try.prog G0 ents m i (some pp) [A.t (T.node l), A.t (T.int (l.length : Nat)), A.t (T.int 0)] = _ := h0 m hm
  rw [hq2]
  simp only [S0, S9, S1, S2, if_true, if_false, q]
  cases hb : l.any p
  · rw [fi_none hb]; rfl
  · rfl
theorem has0_does {i i2 ic : Nat} {pp : List Bool} (hq3 : ∀ n x0, den Try.prog G0 ents (Nat.succ n) i2 none [A.t x0] =
  cl n i [aL x0.k] fun v0 => rt [aB (ge (r v0 0).n 0)]) (hq2 : ∀ n x0, den Try.prog G0 ents (Nat.succ n) i none [A.t x0] =
  lp n i pp [aL x0.k,aI x0.l,aI 0] fun v0 => bif Nat.beq v0.1 2 then rt [aI (-1)] else bif Nat.beq v0.1 1 then rt [aI (r v0.2 0).n] else none) (hq : ∀ n x0 x1 x2, den Try.prog G0 ents (Nat.succ n) i (some pp) [A.t x0, A.t x1, A.t x2] =
  bif lt x2.n x1.n then bif ib x2.n x0.l then cl n ic [A.t (x0.a x2.n)] fun v0 => bif (r v0 0).b then rt [aI x2.n] else D n i (some pp) [aL x0.k,aI x1.n,aI (w6 (x2.n + 1))] else none else some (2,[]))
    (l : List T) (p : T → Bool) (hl : l.length ≤ 1000000000) (hp : ∀ x ∈ l, Dz ic none [A.t x] (1, [A.t (T.bool (p x))])) : Dz i2 none [A.t (T.node l)] (1, [A.t (T.bool (l.any p))]) := by
  obtain ⟨n0, h0⟩ := idx0_does hq2 hq l p hl hp
  refine Does.of n0 fun m hm => ?_
  rw [hq3]
  simp only [S0, S9, S1, S2, if_true, if_false, h0 m hm, fi_any]
theorem idx1_loop {i ic : Nat} {pp : List Bool} (hq : ∀ n x0 x1 x2 x3, den Try.prog G0 ents (Nat.succ n) i (some pp) [A.t x0, A.t x1, A.t x2, A.t x3] =
  bif lt x2.n x1.n then bif ib x2.n x0.l then cl n ic [A.t (x0.a x2.n),A.t x3] fun v0 => bif (r v0 0).b then rt [aI x2.n,A.t (r v0 1)] else D n i (some pp) [aL x0.k,aI x1.n,aI (w6 (x2.n + 1)),A.t (r v0 1)] else none else some (2,[A.t x3]))
    (l : List T) (c0 : T) (p : T → Bool) (hl : l.length ≤ 1000000000) (hp : ∀ x ∈ l, Dz ic none [A.t x, A.t c0] (1, [A.t (T.bool (p x)), A.t c0])) : ∀ (k j : Nat), j + k = l.length →
    Dz i (some pp) [A.t (T.node l), A.t (T.int (l.length : Nat)), A.t (T.int j), A.t c0] (if (l.drop j).any p then (1, [A.t (T.int (fi p (l.drop j) j)), A.t c0]) else (2, [A.t c0])) := by
  intro k
  induction k with
  | zero =>
    intro j hj
    rw [List.drop_of_length_le (by omega)]
    refine Does.now fun m => ?_
    rw [hq]
    simp only [S0, S9, S1, S2, if_true, if_false, List.any_nil]
    rw [if_neg (by omega)]
  | succ k ih =>
    intro j hj
    have hlt : j < l.length := by omega
    have hw : IntKind.i64.wrap ((j : Int) + 1) = ((j + 1 : Nat) : Int) := i64succ (by omega)
    obtain ⟨n0, h0⟩ := (hp _ (List.getElem_mem hlt)).both (ih (j + 1) (by omega))
    refine Does.of n0 fun m hm => ?_
    obtain ⟨q, q2⟩ := h0 m hm
    rw [hq, List.drop_eq_getElem_cons hlt, List.any_cons, fi]
    simp only [S0, S9, S1, S2, if_true, if_false, hw, at_get hlt, q]
    rw [if_pos (by omega), if_pos (by omega)]
    cases p l[j]
    · simp only [Bool.false_eq_true, if_false, false_or]; exact q2
    · rfl
theorem idx1_does {i ic : Nat} {pp : List Bool} (hq2 : ∀ n x0 x1, den Try.prog G0 ents (Nat.succ n) i none [A.t x0, A.t x1] =
  lp n i pp [aL x0.k,aI x0.l,aI 0,A.t x1] fun v0 => bif Nat.beq v0.1 2 then rt [aI (-1),A.t (r v0.2 0)] else bif Nat.beq v0.1 1 then rt [aI (r v0.2 0).n,A.t (r v0.2 1)] else none) (hq : ∀ n x0 x1 x2 x3, den Try.prog G0 ents (Nat.succ n) i (some pp) [A.t x0, A.t x1, A.t x2, A.t x3] =
  bif lt x2.n x1.n then bif ib x2.n x0.l then cl n ic [A.t (x0.a x2.n),A.t x3] fun v0 => bif (r v0 0).b then rt [aI x2.n,A.t (r v0 1)] else D n i (some pp) [aL x0.k,aI x1.n,aI (w6 (x2.n + 1)),A.t (r v0 1)] else none else some (2,[A.t x3]))
    (l : List T) (c0 : T) (p : T → Bool) (hl : l.length ≤ 1000000000) (hp : ∀ x ∈ l, Dz ic none [A.t x, A.t c0] (1, [A.t (T.bool (p x)), A.t c0])) : Dz i none [A.t (T.node l), A.t c0] (1, [A.t (T.int (fi p l 0)), A.t c0]) := by
  obtain ⟨n0, h0⟩ := idx1_loop hq l c0 p hl hp l.length 0 (by omega)
  rw [List.drop_zero] at h0
  refine Does.of n0 fun m hm => ?_
  have q : den Try.prog G0 ents m i (some pp) [A.t (T.node l), A.t (T.int (l.length : Nat)), A.t (T.int 0), A.t c0] = _ := h0 m hm
  rw [hq2]
  simp only [S0, S9, S1, S2, if_true, if_false, q]
  cases hb : l.any p
  · rw [fi_none hb]; rfl
  · rfl
theorem has1_does {i i2 ic : Nat} {pp : List Bool} (hq3 : ∀ n x0 x1, den Try.prog G0 ents (Nat.succ n) i2 none [A.t x0, A.t x1] =
  cl n i [aL x0.k,A.t x1] fun v0 => rt [aB (ge (r v0 0).n 0),A.t (r v0 1)]) (hq2 : ∀ n x0 x1, den Try.prog G0 ents (Nat.succ n) i none [A.t x0, A.t x1] =
  lp n i pp [aL x0.k,aI x0.l,aI 0,A.t x1] fun v0 => bif Nat.beq v0.1 2 then rt [aI (-1),A.t (r v0.2 0)] else bif Nat.beq v0.1 1 then rt [aI (r v0.2 0).n,A.t (r v0.2 1)] else none) (hq : ∀ n x0 x1 x2 x3, den Try.prog G0 ents (Nat.succ n) i (some pp) [A.t x0, A.t x1, A.t x2, A.t x3] =
  bif lt x2.n x1.n then bif ib x2.n x0.l then cl n ic [A.t (x0.a x2.n),A.t x3] fun v0 => bif (r v0 0).b then rt [aI x2.n,A.t (r v0 1)] else D n i (some pp) [aL x0.k,aI x1.n,aI (w6 (x2.n + 1)),A.t (r v0 1)] else none else some (2,[A.t x3]))
    (l : List T) (c0 : T) (p : T → Bool) (hl : l.length ≤ 1000000000) (hp : ∀ x ∈ l, Dz ic none [A.t x, A.t c0] (1, [A.t (T.bool (p x)), A.t c0])) : Dz i2 none [A.t (T.node l), A.t c0] (1, [A.t (T.bool (l.any p)), A.t c0]) := by
  obtain ⟨n0, h0⟩ := idx1_does hq2 hq l c0 p hl hp
  refine Does.of n0 fun m hm => ?_
  rw [hq3]
  simp only [S0, S9, S1, S2, if_true, if_false, h0 m hm, fi_any]
end Go.Proofs.YtbejhhoakeapgaaGI
namespace Go.Proofs.YtbejhhoakeapgaaGI
open Go Go.Proofs.YtbejhhoakeapgaaVM
set_option linter.unusedVariables false
set_option linter.unusedSimpArgs false
set_option maxRecDepth 100000

structure Dk where
  dn : Bool
  lf : Int
  kp : Int
  op : Int
  fs : List T
def f0 : T := .node [.str ByteArray.empty, .int 0]
def gF (fs : List T) (s : ByteArray) : T := mget keyS f0 fs (.str s)
def hF (fs : List T) (s : ByteArray) : Bool := mhas keyS fs (.str s)
def fT (f : T) : ByteArray := (f.get 0).txt
def fN (f : T) : Int := (f.get 1).num
def fil (s : ByteArray) (n : Int) : T := .node [.str s, .int n]
def putF (fs : List T) (s : ByteArray) (v : T) : List T := mput keyS fs (.str s) v
def delF (fs : List T) (s : ByteArray) : List T := mdel keyS fs (.str s)
theorem fT_fil (s : ByteArray) (n : Int) : fT (fil s n) = s := id rfl
theorem fN_fil (s : ByteArray) (n : Int) : fN (fil s n) = n := id rfl
def Fw (f : T) : Prop := 0 ≤ fN f ∧ fN f ≤ ((fT f).size : Int) ∧ (fT f).size ≤ 4194304
def Wf (fs : List T) : Prop := ∀ s, Fw (gF fs s)
theorem key_self (s : ByteArray) : keyS (.str s) (.str s) = true := by
  show seqB s s = true
  unfold seqB
  exact beq_self_eq_true _
theorem key_iff (a b : T) : keyS a b = true ↔ a.txt = b.txt := by
  unfold keyS seqB
  rw [beq_iff_eq]
  exact ⟨fun h => by rw [ByteArray.toList_eq, ByteArray.toList_eq] at h; exact ByteArray.ext (Array.toList_inj.1 h), fun h => by rw [h]⟩
theorem gF_put (fs : List T) (k s : ByteArray) (v : T) : gF (putF fs k v) s = if s = k then v else gF fs s := by
  unfold gF putF
  induction fs with
  | nil =>
    show mget keyS f0 [.node [.str k, v]] (.str s) = _
    simp only [mget]
    by_cases h : s = k
    · subst h
      rw [show keyS (.str s) ((T.node [.str s, v]).get 0) = true from key_self s, if_pos rfl]
      rfl
    · have : keyS (.str s) ((T.node [.str k, v]).get 0) = false := by
        cases hq : keyS (.str s) ((T.node [.str k, v]).get 0) with
        | false => rfl
        | true => exact absurd ((key_iff _ _).1 hq) h
      rw [this, if_neg h]
      rfl
  | cons e es ih =>
    simp only [mput]
    cases hk : keyS (.str k) (e.get 0) with
    | true =>
      have hke : k = (e.get 0).txt := (key_iff _ _).1 hk
      simp only [cond_true, mget]
      by_cases h : s = k
      · subst h
        rw [show keyS (.str s) ((T.node [.str s, v]).get 0) = true from key_self s, if_pos rfl]
        rfl
      · have h1 : keyS (.str s) ((T.node [.str k, v]).get 0) = false := by
          cases hq : keyS (.str s) ((T.node [.str k, v]).get 0) with
          | false => rfl
          | true => exact absurd ((key_iff _ _).1 hq) h
        have h2 : keyS (.str s) (e.get 0) = false := by
          cases hq : keyS (.str s) (e.get 0) with
          | false => rfl
          | true => exact absurd (((key_iff _ _).1 hq).trans hke.symm) h
        rw [h1, h2, if_neg h]
        rfl
    | false =>
      simp only [cond_false, mget]
      cases hs : keyS (.str s) (e.get 0) with
      | true =>
        have hne : ¬ s = k := fun h => by subst h; rw [hs] at hk; cases hk
        rw [if_neg hne]
        rfl
      | false => simp only [cond_false]; exact ih
theorem gF_del (fs : List T) (k s : ByteArray) (h : s ≠ k) : gF (delF fs k) s = gF fs s := by
  unfold gF delF
  induction fs with
  | nil => rfl
  | cons e es ih =>
    simp only [mdel]
    cases hk : keyS (.str k) (e.get 0) with
    | true =>
      have hke : k = (e.get 0).txt := (key_iff _ _).1 hk
      have h2 : keyS (.str s) (e.get 0) = false := by
        cases hq : keyS (.str s) (e.get 0) with
        | false => rfl
        | true => exact absurd (((key_iff _ _).1 hq).trans hke.symm) h
      simp only [cond_true, mget, h2, cond_false]
    | false =>
      simp only [cond_false, mget]
      cases hs : keyS (.str s) (e.get 0)
      · simp only [cond_false]; exact ih
      · rfl
theorem gF_no {fs : List T} {s : ByteArray} (h : hF fs s = false) : gF fs s = f0 := by
  unfold hF mhas at h
  unfold gF
  induction fs with
  | nil => rfl
  | cons e es ih =>
    rw [List.any_cons, Bool.or_eq_false_iff] at h
    simp only [mget, h.1, cond_false]
    exact ih h.2
theorem hF_put (fs : List T) (k s : ByteArray) (v : T) : hF (putF fs k v) s = (decide (s = k) || hF fs s) := by
  unfold hF putF
  induction fs with
  | nil =>
    show mhas keyS [.node [.str k, v]] (.str s) = _
    simp only [mhas, List.any_cons, List.any_nil, Bool.or_false]
    by_cases h : s = k
    · subst h; rw [decide_eq_true rfl]; exact key_self s
    · rw [decide_eq_false h]
      cases hq : keyS (.str s) ((T.node [.str k, v]).get 0) with
      | false => rfl
      | true => exact absurd ((key_iff _ _).1 hq) h
  | cons e es ih =>
    simp only [mput]
    cases hk : keyS (.str k) (e.get 0) with
    | true =>
      have hke : k = (e.get 0).txt := (key_iff _ _).1 hk
      simp only [cond_true, mhas, List.any_cons]
      have h3 : keyS (.str s) ((T.node [.str k, v]).get 0) = keyS (.str s) (e.get 0) := by
        show seqB s k = seqB s (e.get 0).txt
        rw [hke]
      rw [h3]
      by_cases h : s = k
      · subst h; rw [hk]; simp
      · rw [decide_eq_false h, Bool.false_or]
    | false =>
      simp only [cond_false, mhas, List.any_cons] at ih ⊢
      rw [ih]
      cases keyS (.str s) (e.get 0) <;> cases decide (s = k) <;> rfl
theorem Wf.put {fs : List T} (h : Wf fs) {k : ByteArray} {v : T} (hv : Fw v) : Wf (putF fs k v) := fun s => by
  rw [gF_put]
  split
  · exact hv
  · exact h s
theorem f0_ok : Fw f0 := ⟨by decide, by decide, by decide⟩
theorem put_eq (fs : List T) (s : ByteArray) (v : T) : mput keyS fs (T.str s) v = putF fs s v := id rfl
theorem del_eq (fs : List T) (s : ByteArray) : mdel keyS fs (T.str s) = delF fs s := id rfl
theorem gF_eq (fs : List T) (s : ByteArray) : mget keyS (fil ByteArray.empty 0) fs (T.str s) = gF fs s := id rfl
theorem hF_eq (fs : List T) (s : ByteArray) : mhas keyS fs (T.str s) = hF fs s := id rfl
theorem fT_eq (f : T) : (T.get f 0).txt = fT f := id rfl
theorem fN_eq (f : T) : (T.get f 1).num = fN f := id rfl
theorem fil_eq (s : ByteArray) (n : Int) : T.node [T.str s, T.int n] = fil s n := id rfl

theorem ksort_eq (n : Nat) (l : List T) : den Try.prog G0 ents (Nat.succ n) i_slices_Sorted none [A.t (T.node l)] = Option.map (fun o => (1, o)) (bif keysOk l then some [A.t (T.node (keysS l)), A.t (T.node l)] else none) := by kernel_rfl
theorem ksort_does {l : List T} (h : keysOk l = true) : Dz i_slices_Sorted none [A.t (T.node l)] (1, [A.t (T.node (keysS l)), A.t (T.node l)]) := Does.now fun n => by rw [ksort_eq, h]; rfl
def cutB (d : Dk) : Bool := !(d.lf == 0) && (IntKind.i64.wrap (d.lf - 1) == 0)
def dCut (d : Dk) : Dk := if d.lf = 0 then ⟨d.dn, d.lf, d.kp, IntKind.i64.wrap (d.op + 1), d.fs⟩ else ⟨IntKind.i64.wrap (d.lf - 1) == 0, IntKind.i64.wrap (d.lf - 1), d.kp, IntKind.i64.wrap (d.op + 1), d.fs⟩
theorem dCut_fs (d : Dk) : (dCut d).fs = d.fs := by unfold dCut; split <;> rfl
theorem dCut_kp (d : Dk) : (dCut d).kp = d.kp := by unfold dCut; split <;> rfl
theorem dCut_dn (d : Dk) (h : d.dn = false) : (dCut d).dn = cutB d := by
  unfold dCut cutB
  by_cases h0 : d.lf = 0
  · rw [if_pos h0, h0]; exact h
  · rw [if_neg h0]
    have : (d.lf == 0) = false := by simpa using h0
    rw [this]; rfl
def rdS (d : Dk) (s : ByteArray) : ByteArray := if d.dn then ⟨List.toArray []⟩ else if hF d.fs s then fT (gF d.fs s) else ⟨List.toArray []⟩
def rdE (d : Dk) (s : ByteArray) : Int := if d.dn then 8 else if hF d.fs s then 0 else 5
def apT (d : Dk) (s : ByteArray) : ByteArray := ByteArray.extract s 0 (Int.toNat (maxI 0 (minI d.kp ((s.size : Nat) : Int))))
def apE (d : Dk) (to s : ByteArray) : Int :=
  if d.dn then 8 else if nameB to then (if 4194304 < (fT (gF d.fs to)).size + s.size then 4 else if cutB d then 8 else 0) else 1
def apD (d : Dk) (to s : ByteArray) : Dk :=
  if d.dn then d else if nameB to then (if 4194304 < (fT (gF d.fs to)).size + s.size then d else { dCut d with fs := putF d.fs to (fil (fT (gF d.fs to) ++ (if cutB d then apT d s else s)) (fN (gF d.fs to))) }) else d
theorem maxmin {k z : Int} (hz : 0 ≤ z) : 0 ≤ maxI 0 (minI k z) ∧ maxI 0 (minI k z) ≤ z := by
  unfold maxI minI
  split <;> split at * <;> omega
def syE (d : Dk) (s : ByteArray) : Int := if rdE d s = 0 then (if cutB d then 8 else 0) else rdE d s
def syD (d : Dk) (s : ByteArray) : Dk := if rdE d s = 0 then (if cutB d then dCut d else { dCut d with fs := putF d.fs s (fil (fT (gF d.fs s)) ((fT (gF d.fs s)).size : Int)) }) else d
def kpN (keeps : List T) (i : Nat) : Int := if i < keeps.length then (tAtD keeps i).num else 0
def stayF (f : T) (k : Int) : Int := maxI 0 (minI k (((fT f).size : Int) - fN f))
def cutT (f : T) (k : Int) : ByteArray := ByteArray.extract (fT f) 0 (Int.toNat (fN f + stayF f k))
def cutF (f : T) (k : Int) : T := fil (cutT f k) ((cutT f k).size : Int)
theorem stay_ok {f : T} (h : Fw f) (k : Int) : 0 ≤ stayF f k ∧ stayF f k ≤ ((fT f).size : Int) - fN f := maxmin (by have := h.2.1; omega)
theorem cutF_ok {f : T} (h : Fw f) (k : Int) : Fw (cutF f k) := by
  obtain ⟨h1, h2⟩ := stay_ok h k
  obtain ⟨h3, h4, h5⟩ := h
  have : (cutT f k).size ≤ (fT f).size := by unfold cutT; rw [ByteArray.size_extract]; omega
  exact ⟨by rw [cutF, fN_fil]; omega, by rw [cutF, fN_fil, fT_fil]; omega, by rw [cutF, fT_fil]; omega⟩
def wakeL (keeps : List T) : Nat → List T → List T → List T
  | _, [], fs => fs
  | i, s :: ss, fs => wakeL keeps (i + 1) ss (putF fs s.txt (cutF (gF fs s.txt) (kpN keeps i)))
def wkD (d : Dk) (keeps : List T) : Dk := ⟨false, 0, d.kp, d.op, wakeL keeps 0 (keysS d.fs) d.fs⟩
theorem keysS_len (es : List T) : (keysS es).length = es.length := by
  unfold keysS
  rw [List.length_map, (keysB_perm es).length_eq, List.length_map]
end Go.Proofs.YtbejhhoakeapgaaGI
namespace Go.Proofs.YtbejhhoakeapgaaGI
open Go Go.Proofs.YtbejhhoakeapgaaVM
set_option linter.unusedVariables false
set_option linter.unusedSimpArgs false
set_option maxRecDepth 100000

def ky (e : T) : ByteArray := (e.get 0).txt
def nF (x : T) : ByteArray := (x.get 0).txt
def sF (x : T) : ByteArray := (x.get 1).txt
def uF (x : T) : Int := (x.get 2).num
def Up (F : List T) : Prop := F.Pairwise fun a b => sltB (nF a) (nF b) = true
theorem lt_irr (a : ByteArray) : sltB a a = false := by
  rw [slt_data, decide_eq_false_iff_not]
  exact List.lt_irrefl _
theorem lt_tr {a b c : ByteArray} (h1 : sltB a b = true) (h2 : sltB b c = true) : sltB a c = true := by
  rw [slt_data, decide_eq_true_eq] at *
  exact List.lt_trans h1 h2
theorem lt_ne {a b : ByteArray} (h : sltB a b = true) : a ≠ b := fun e => by subst e; rw [lt_irr] at h; cases h
theorem lt_no {a b : ByteArray} (h : sltB a b = true) : sltB b a = false := by
  cases hb : sltB b a with
  | false => rfl
  | true => have := lt_tr h hb; rw [lt_irr] at this; cases this
theorem lt_or {a b : ByteArray} (h : sltB a b = false) (hn : a ≠ b) : sltB b a = true := by
  rw [slt_data] at *
  rw [decide_eq_false_iff_not] at h
  rw [decide_eq_true_eq]
  have h1 : b.data.toList ≤ a.data.toList := h
  rcases List.le_iff_lt_or_eq.1 h1 with h2 | h2
  · exact h2
  · exact absurd (ByteArray.ext (Array.toList_inj.1 h2)).symm hn
def insF (f : T) : List T → List T
  | [] => [f]
  | x :: l => if sltB (nF x) (nF f) then x :: insF f l else if nF x = nF f then f :: l else f :: x :: l
theorem ins_mem {f x : T} : ∀ {F : List T}, Up F → x ∈ insF f F → x = f ∨ (x ∈ F ∧ nF x ≠ nF f)
  | [], _, h => .inl (by simpa [insF] using h)
  | y :: l, hu, h => by
    obtain ⟨h1, h2⟩ := List.pairwise_cons.1 hu
    unfold insF at h
    cases hy : sltB (nF y) (nF f) with
    | true =>
      rw [hy, if_pos rfl] at h
      rcases List.mem_cons.1 h with rfl | h
      · exact .inr ⟨List.mem_cons_self, lt_ne hy⟩
      · exact (ins_mem h2 h).imp id fun ⟨a, b⟩ => ⟨List.mem_cons_of_mem _ a, b⟩
    | false =>
      rw [hy, if_neg (by simp)] at h
      by_cases he : nF y = nF f
      · rw [if_pos he] at h
        rcases List.mem_cons.1 h with rfl | h
        · exact .inl rfl
        · exact .inr ⟨List.mem_cons_of_mem _ h, fun e => lt_ne (h1 x h) (by rw [he, e])⟩
      · rw [if_neg he] at h
        have hg : sltB (nF f) (nF y) = true := lt_or hy he
        rcases List.mem_cons.1 h with rfl | h
        · exact .inl rfl
        · rcases List.mem_cons.1 h with rfl | h
          · exact .inr ⟨List.mem_cons_self, he⟩
          · exact .inr ⟨List.mem_cons_of_mem _ h, fun e => lt_ne (lt_tr hg (h1 x h)) e.symm⟩
theorem ins_self (f : T) : ∀ F : List T, f ∈ insF f F
  | [] => List.mem_cons_self
  | y :: l => by
    unfold insF
    split
    · exact List.mem_cons_of_mem _ (ins_self f l)
    · split <;> exact List.mem_cons_self
theorem ins_up {f : T} : ∀ {F : List T}, Up F → Up (insF f F)
  | [], _ => List.pairwise_singleton _ _
  | y :: l, hu => by
    obtain ⟨h1, h2⟩ := List.pairwise_cons.1 hu
    unfold insF
    cases hy : sltB (nF y) (nF f) with
    | true =>
      rw [if_pos rfl]
      refine List.pairwise_cons.2 ⟨fun x hx => ?_, ins_up h2⟩
      rcases ins_mem h2 hx with rfl | ⟨h3, _⟩
      · exact hy
      · exact h1 x h3
    | false =>
      rw [if_neg (by simp)]
      by_cases he : nF y = nF f
      · rw [if_pos he]
        exact List.pairwise_cons.2 ⟨fun x hx => by rw [← he]; exact h1 x hx, h2⟩
      · rw [if_neg he]
        have hg : sltB (nF f) (nF y) = true := lt_or hy he
        refine List.pairwise_cons.2 ⟨fun x hx => ?_, hu⟩
        rcases List.mem_cons.1 hx with rfl | hx
        · exact hg
        · exact lt_tr hg (h1 x hx)
theorem ins_in {f : T} : ∀ {F : List T}, Up F → nF f ∈ F.map nF → (insF f F).map nF = F.map nF
  | [], _, h => by simp at h
  | y :: l, hu, h => by
    obtain ⟨h1, h2⟩ := List.pairwise_cons.1 hu
    unfold insF
    cases hy : sltB (nF y) (nF f) with
    | true =>
      rw [if_pos rfl]
      rw [List.map_cons] at h
      rcases List.mem_cons.1 h with h | h
      · exact absurd h.symm (lt_ne hy)
      · rw [List.map_cons, List.map_cons, ins_in h2 h]
    | false =>
      rw [if_neg (by simp)]
      by_cases he : nF y = nF f
      · rw [if_pos he, List.map_cons, List.map_cons, he]
      · rw [List.map_cons] at h
        rcases List.mem_cons.1 h with h | h
        · exact absurd h.symm he
        · obtain ⟨x, hx, e⟩ := List.mem_map.1 h
          have := h1 x hx
          rw [e, hy] at this; cases this
theorem ins_out {f : T} : ∀ {F : List T}, nF f ∉ F.map nF → ((insF f F).map nF).Perm (nF f :: F.map nF)
  | [], _ => List.Perm.refl _
  | y :: l, h => by
    rw [List.map_cons, List.mem_cons, not_or] at h
    unfold insF
    split
    · rw [List.map_cons, List.map_cons]
      exact ((ins_out h.2).cons _).trans (List.Perm.swap _ _ _)
    · rw [if_neg (fun e => h.1 e.symm)]
      exact List.Perm.refl _
def stepP (f : T) (s : Bool × List T) (x : T) : Bool × List T :=
  (s.1 || (sltB (nF f) (nF x) || seqB (nF f) (nF x)), s.2 ++ (if !s.1 && (sltB (nF f) (nF x) || seqB (nF f) (nF x)) then [f] else []) ++ (if seqB (nF x) (nF f) then [] else [x]))
theorem seq_is {a b : ByteArray} : seqB a b = true ↔ a = b := key_iff (.str a) (.str b)
theorem seq_no {a b : ByteArray} (h : a ≠ b) : seqB a b = false := by
  cases hs : seqB a b with
  | false => rfl
  | true => exact absurd (seq_is.1 hs) h
theorem step_in {f : T} : ∀ (F out : List T), (∀ x ∈ F, nF x ≠ nF f) → F.foldl (stepP f) (true, out) = (true, out ++ F)
  | [], out, _ => by simp
  | x :: l, out, h => by
    rw [List.foldl_cons]
    have e : stepP f (true, out) x = (true, out ++ [x]) := by
      unfold stepP
      rw [seq_no (h x List.mem_cons_self)]
      simp
    rw [e, step_in l _ fun y hy => h y (List.mem_cons_of_mem _ hy)]
    simp
theorem step_ins {f : T} : ∀ (F out : List T), Up F → (F.foldl (stepP f) (false, out)).2 ++ (if (F.foldl (stepP f) (false, out)).1 then [] else [f]) = out ++ insF f F
  | [], out, _ => by simp [insF]
  | x :: l, out, hu => by
    obtain ⟨h1, h2⟩ := List.pairwise_cons.1 hu
    rw [List.foldl_cons]
    unfold insF
    cases hy : sltB (nF x) (nF f) with
    | true =>
      have e : stepP f (false, out) x = (false, out ++ [x]) := by
        unfold stepP
        rw [seq_no (lt_ne hy), seq_no (lt_ne hy).symm, lt_no hy]
        simp
      rw [e, if_pos rfl, step_ins l _ h2]
      simp
    | false =>
      simp only [Bool.false_eq_true, if_false]
      by_cases he : nF x = nF f
      · have e : stepP f (false, out) x = (true, out ++ [f]) := by
          unfold stepP
          rw [seq_is.2 he, seq_is.2 he.symm]
          simp
        rw [e, if_pos he, step_in l _ fun y hy => by rw [← he]; exact (lt_ne (h1 y hy)).symm]
        simp
      · have hg : sltB (nF f) (nF x) = true := lt_or hy he
        have e : stepP f (false, out) x = (true, out ++ [f, x]) := by
          unfold stepP
          rw [seq_no he, hg]
          simp
        rw [e, if_neg he, step_in l _ fun y hy => (lt_ne (lt_tr hg (h1 y hy))).symm]
        simp

theorem hF_mem (fs : List T) (k : ByteArray) : hF fs k = true ↔ k ∈ fs.map ky := by
  unfold hF mhas
  rw [List.any_eq_true, List.mem_map]
  exact ⟨fun ⟨e, he, hk⟩ => ⟨e, he, ((key_iff _ _).1 hk).symm⟩, fun ⟨e, he, hk⟩ => ⟨e, he, (key_iff _ _).2 hk.symm⟩⟩
theorem put_in {k : ByteArray} {v : T} : ∀ {fs : List T}, k ∈ fs.map ky → (putF fs k v).map ky = fs.map ky
  | [], h => by simp at h
  | e :: es, h => by
    unfold putF
    simp only [mput]
    cases hk : keyS (.str k) (e.get 0) with
    | true =>
      have hke : k = ky e := (key_iff _ _).1 hk
      simp only [cond_true, List.map_cons]
      rw [← hke]; rfl
    | false =>
      simp only [cond_false, List.map_cons]
      rw [List.map_cons] at h
      rcases List.mem_cons.1 h with h | h
      · rw [show keyS (.str k) (e.get 0) = true from (key_iff _ _).2 h] at hk; cases hk
      · rw [show (mput keyS es (.str k) v).map ky = es.map ky from put_in h]
theorem put_out {k : ByteArray} {v : T} : ∀ {fs : List T}, k ∉ fs.map ky → (putF fs k v).map ky = fs.map ky ++ [k]
  | [], _ => rfl
  | e :: es, h => by
    rw [List.map_cons, List.mem_cons, not_or] at h
    unfold putF
    simp only [mput]
    have hk : keyS (.str k) (e.get 0) = false := by
      cases hq : keyS (.str k) (e.get 0) with
      | false => rfl
      | true => exact absurd ((key_iff _ _).1 hq) h.1
    rw [hk]
    simp only [cond_false, List.map_cons, List.cons_append]
    rw [show (mput keyS es (.str k) v).map ky = es.map ky ++ [k] from put_out h.2]
theorem del_keys (k : ByteArray) : ∀ {fs : List T}, (fs.map ky).Nodup → (delF fs k).map ky = (fs.map ky).filter fun s => !seqB s k
  | [], _ => rfl
  | e :: es, h => by
    rw [List.map_cons, List.nodup_cons] at h
    unfold delF
    simp only [mdel]
    cases hk : keyS (.str k) (e.get 0) with
    | true =>
      have hke : k = ky e := (key_iff _ _).1 hk
      simp only [cond_true, List.map_cons]
      rw [List.filter_cons_of_neg (by rw [seq_is.2 hke.symm]; simp)]
      refine (List.filter_eq_self.2 fun s hs => ?_).symm
      rw [seq_no fun e' => h.1 (by rw [← hke, ← e']; exact hs)]; rfl
    | false =>
      have hne : ky e ≠ k := fun e' => by rw [show keyS (.str k) (e.get 0) = true from (key_iff _ _).2 e'.symm] at hk; cases hk
      simp only [cond_false, List.map_cons]
      rw [List.filter_cons_of_pos (by rw [seq_no hne]; rfl), show (mdel keyS es (.str k)).map ky = _ from del_keys k h.2]
structure In (N : Nat) (fs F : List T) : Prop where
  up : Up F
  perm : (fs.map ky).Perm (F.map nF)
  val : ∀ x ∈ F, fT (gF fs (nF x)) = sF x ∧ fN (gF fs (nF x)) = uF x
  wf : Wf fs
  len : F.length ≤ N
  nam : ∀ x ∈ F, (nF x).size ≤ 100
theorem Up.nodup {F : List T} (h : Up F) : (F.map nF).Nodup := by
  unfold List.Nodup
  rw [List.pairwise_map]
  exact h.imp fun h => lt_ne h
theorem In.put {N : Nat} {fs F : List T} (h : In N fs F) {f v : T} (hs : (nF f).size ≤ 100) (h1 : fT v = sF f) (h2 : fN v = uF f) (hv : Fw v) : In (N + 1) (putF fs (nF f) v) (insF f F) := by
  have hlen : (insF f F).length ≤ F.length + 1 := by
    clear h
    induction F with
    | nil => exact Nat.le_refl _
    | cons y l ih =>
      unfold insF
      split
      · rw [List.length_cons, List.length_cons]; omega
      · split <;> simp
  refine ⟨ins_up h.up, ?_, fun x hx => ?_, h.wf.put hv, by have := h.len; omega, fun x hx => ?_⟩
  · by_cases hk : nF f ∈ F.map nF
    · rw [ins_in h.up hk, put_in (h.perm.mem_iff.2 hk)]
      exact h.perm
    · rw [put_out (fun h' => hk (h.perm.mem_iff.1 h'))]
      exact ((List.perm_append_singleton _ _).trans (h.perm.cons _)).trans (ins_out hk).symm
  · rcases ins_mem h.up hx with rfl | ⟨h3, h4⟩
    · rw [gF_put, if_pos rfl]; exact ⟨h1, h2⟩
    · rw [gF_put, if_neg h4]; exact h.val x h3
  · rcases ins_mem h.up hx with rfl | ⟨h3, _⟩
    · exact hs
    · exact h.nam x h3
def rmF (F : List T) (k : ByteArray) : List T := F.filter fun x => !seqB (nF x) k
theorem In.del {N : Nat} {fs F : List T} (h : In N fs F) (k : ByteArray) : In N (delF fs k) (rmF F k) := by
  have hnd : (fs.map ky).Nodup := (h.perm.nodup_iff).2 h.up.nodup
  have hkeys := del_keys k hnd
  refine ⟨h.up.sublist List.filter_sublist, ?_, fun x hx => ?_, fun s => ?_, Nat.le_trans (List.length_filter_le _ _) h.len, fun x hx => h.nam x (List.mem_filter.1 hx).1⟩
  · rw [hkeys]
    have e : (rmF F k).map nF = (F.map nF).filter fun s => !seqB s k := by
      unfold rmF
      rw [List.filter_map]
      rfl
    rw [e]
    exact h.perm.filter _
  · obtain ⟨h1, h2⟩ := List.mem_filter.1 hx
    rw [gF_del _ _ _ (fun e => by rw [seq_is.2 e] at h2; cases h2)]
    exact h.val x h1
  · by_cases e : s = k
    · subst e
      have hno : hF (delF fs s) s = false := by
        cases hq : hF (delF fs s) s with
        | false => rfl
        | true =>
          have := (hF_mem _ _).1 hq
          rw [hkeys, List.mem_filter] at this
          rw [seq_is.2 rfl] at this
          cases this.2
      rw [gF_no hno]
      exact f0_ok
    · rw [gF_del _ _ _ e]; exact h.wf s
theorem In.has {N : Nat} {fs F : List T} (h : In N fs F) (s : ByteArray) : hF fs s = F.any fun x => seqB (nF x) s := by
  cases hq : hF fs s with
  | true =>
    have := h.perm.mem_iff.1 ((hF_mem _ _).1 hq)
    obtain ⟨x, hx, e⟩ := List.mem_map.1 this
    exact (List.any_eq_true.2 ⟨x, hx, seq_is.2 e⟩).symm
  | false =>
    symm
    cases ha : F.any fun x => seqB (nF x) s with
    | false => rfl
    | true =>
      obtain ⟨x, hx, e⟩ := List.any_eq_true.1 ha
      have : hF fs s = true := (hF_mem _ _).2 (h.perm.mem_iff.2 (List.mem_map.2 ⟨x, hx, seq_is.1 e⟩))
      rw [hq] at this; cases this
theorem In.ok {N : Nat} {fs F : List T} (h : In N fs F) (hN : N ≤ 1000000) : keysOk fs = true := by
  have hl : fs.length = F.length := by have := h.perm.length_eq; simpa using this
  have := h.len
  unfold keysOk
  rw [Bool.and_eq_true, List.all_eq_true]
  refine ⟨Nat.ble_eq_true_of_le (by omega), fun e he => Nat.ble_eq_true_of_le ?_⟩
  have hm : ky e ∈ F.map nF := h.perm.mem_iff.1 (List.mem_map.2 ⟨e, he, rfl⟩)
  obtain ⟨x, hx, ex⟩ := List.mem_map.1 hm
  have := h.nam x hx
  rw [ex] at this
  show (ky e).size ≤ 1048576
  omega
theorem In.keys {N : Nat} {fs F : List T} (h : In N fs F) : keysS fs = F.map fun x => T.str (nF x) := by
  have e : keysB fs = F.map nF := by
    refine List.Perm.eq_of_pairwise (le := fun a b : ByteArray => a.data.toList ≤ b.data.toList) (fun a b _ _ h1 h2 => ByteArray.ext (Array.toList_inj.1 (List.le_antisymm h1 h2))) (keysB_rise fs) ?_ ((keysB_perm fs).trans h.perm)
    rw [List.pairwise_map]
    refine h.up.imp fun hab => ?_
    rw [slt_data, decide_eq_true_eq] at hab
    exact List.le_of_lt hab
  unfold keysS
  rw [e, List.map_map]
  rfl
theorem In.nil : In 0 [] [] := ⟨List.Pairwise.nil, List.Perm.refl _, fun x hx => (by cases hx), fun s => f0_ok, Nat.le_refl _, fun x hx => (by cases hx)⟩
theorem In.mono {N M : Nat} {fs F : List T} (h : In N fs F) (hm : N ≤ M) : In M fs F := ⟨h.up, h.perm, h.val, h.wf, Nat.le_trans h.len hm, h.nam⟩

def wkF (x : T) (k : Int) : T := .node [.str (nF x), .str (cutT (fil (sF x) (uF x)) k), .int ((cutT (fil (sF x) (uF x)) k).size : Nat)]
def wakeD (keeps : List T) : Nat → List T → List T
  | _, [] => []
  | i, x :: l => wkF x (kpN keeps i) :: wakeD keeps (i + 1) l
theorem wakeD_names (keeps : List T) : ∀ (F : List T) (i : Nat), (wakeD keeps i F).map nF = F.map nF
  | [], _ => rfl
  | x :: l, i => by rw [wakeD, List.map_cons, List.map_cons, wakeD_names keeps l]; rfl
theorem wakeD_len (keeps : List T) : ∀ (F : List T) (i : Nat), (wakeD keeps i F).length = F.length
  | [], _ => rfl
  | x :: l, i => by rw [wakeD, List.length_cons, List.length_cons, wakeD_len keeps l]
theorem wake_all (keeps : List T) : ∀ (G : List T) (i : Nat) (fs : List T), Up G → Wf fs → (∀ x ∈ G, nF x ∈ fs.map ky) → (∀ x ∈ G, fT (gF fs (nF x)) = sF x ∧ fN (gF fs (nF x)) = uF x) →
    (wakeL keeps i (G.map fun x => T.str (nF x)) fs).map ky = fs.map ky ∧ Wf (wakeL keeps i (G.map fun x => T.str (nF x)) fs) ∧
    (∀ y ∈ wakeD keeps i G, fT (gF (wakeL keeps i (G.map fun x => T.str (nF x)) fs) (nF y)) = sF y ∧ fN (gF (wakeL keeps i (G.map fun x => T.str (nF x)) fs) (nF y)) = uF y) ∧
    (∀ s, (∀ x ∈ G, nF x ≠ s) → gF (wakeL keeps i (G.map fun x => T.str (nF x)) fs) s = gF fs s)
  | [], i, fs, _, hw, _, _ => ⟨rfl, hw, fun y hy => (by cases hy), fun _ _ => rfl⟩
  | x :: l, i, fs, hu, hw, hk, hv => by
    obtain ⟨h1, h2⟩ := List.pairwise_cons.1 hu
    obtain ⟨v1, v2⟩ := hv x List.mem_cons_self
    have hfil : cutF (gF fs (nF x)) (kpN keeps i) = cutF (fil (sF x) (uF x)) (kpN keeps i) := by
      unfold cutF cutT stayF
      rw [v1, v2, fT_fil, fN_fil]
    have hkx := put_in (v := cutF (gF fs (nF x)) (kpN keeps i)) (hk x List.mem_cons_self)
    obtain ⟨a1, a2, a3, a4⟩ := wake_all keeps l (i + 1) (putF fs (nF x) (cutF (gF fs (nF x)) (kpN keeps i))) h2 (hw.put (cutF_ok (hw _) _)) (fun y hy => by rw [hkx]; exact hk y (List.mem_cons_of_mem _ hy))
      (fun y hy => by rw [gF_put, if_neg (lt_ne (h1 y hy)).symm]; exact hv y (List.mem_cons_of_mem _ hy))
    have e : wakeL keeps i ((x :: l).map fun x => T.str (nF x)) fs = wakeL keeps (i + 1) (l.map fun x => T.str (nF x)) (putF fs (nF x) (cutF (gF fs (nF x)) (kpN keeps i))) := rfl
    rw [e]
    refine ⟨a1.trans hkx, a2, fun y hy => ?_, fun s hs => ?_⟩
    · rw [wakeD] at hy
      rcases List.mem_cons.1 hy with rfl | hy
      · have hn : nF (wkF x (kpN keeps i)) = nF x := rfl
        rw [hn, a4 _ (fun z hz => (lt_ne (h1 z hz)).symm), gF_put, if_pos rfl, hfil]
        exact ⟨rfl, rfl⟩
      · exact a3 y hy
    · rw [a4 s (fun z hz => hs z (List.mem_cons_of_mem _ hz)), gF_put, if_neg fun e => hs x List.mem_cons_self e.symm]
theorem In.wake {N : Nat} {fs F : List T} (h : In N fs F) (keeps : List T) : In N (wakeL keeps 0 (keysS fs) fs) (wakeD keeps 0 F) := by
  obtain ⟨a1, a2, a3, _⟩ := wake_all keeps F 0 fs h.up h.wf (fun x hx => h.perm.mem_iff.2 (List.mem_map.2 ⟨x, hx, rfl⟩)) h.val
  rw [h.keys]
  have hn := wakeD_names keeps F 0
  refine ⟨?_, by rw [a1, hn]; exact h.perm, a3, a2, by rw [wakeD_len]; exact h.len, fun y hy => ?_⟩
  · have : ((wakeD keeps 0 F).map nF).Pairwise (fun a b => sltB a b = true) := by rw [hn, List.pairwise_map]; exact h.up
    rw [List.pairwise_map] at this
    exact this
  · have : nF y ∈ F.map nF := by rw [← hn]; exact List.mem_map.2 ⟨y, hy, rfl⟩
    obtain ⟨x, hx, e⟩ := List.mem_map.1 this
    rw [← e]; exact h.nam x hx

def rnE (d : Dk) (a b : ByteArray) : Int := if d.dn then 8 else if nameB b then (if hF d.fs a then (if cutB d then 8 else 0) else 5) else 1
def rnD (d : Dk) (a b : ByteArray) : Dk := if d.dn then d else if nameB b then (if hF d.fs a then (if cutB d then dCut d else { dCut d with fs := putF (delF d.fs a) b (gF d.fs a) }) else d) else d
def rmD (d : Dk) (s : ByteArray) : Dk := if rdE d s = 0 then (if cutB d then dCut d else { dCut d with fs := delF d.fs s }) else d
def ldE (to s : ByteArray) : Int := if nameB to then (if 4194304 < s.size then 4 else 0) else 1
def ldD (d : Dk) (to s : ByteArray) : Dk := if nameB to then (if 4194304 < s.size then d else { d with fs := putF d.fs to (fil s (s.size : Nat)) }) else d
end Go.Proofs.YtbejhhoakeapgaaGI
namespace Go.Proofs.YtbejhhoakeapgaaGI
open Go Go.Proofs.YtbejhhoakeapgaaVM
set_option linter.unusedVariables false
set_option linter.unusedSimpArgs false
set_option maxRecDepth 100000

def tl (l : List ByteArray) : List T := l.map T.str
def Ri (l : List ByteArray) : Prop := l.Pairwise fun a b => sltB a b = true
def insT (s : ByteArray) : List ByteArray → List ByteArray
  | [] => [s]
  | y :: l => if sltB y s then y :: insT s l else if y = s then y :: l else s :: y :: l
theorem mem_insT {s x : ByteArray} : ∀ {l : List ByteArray}, x ∈ insT s l ↔ x = s ∨ x ∈ l
  | [] => by simp [insT]
  | y :: l => by
    unfold insT
    split
    · rw [List.mem_cons, List.mem_cons, mem_insT]
      exact ⟨fun h => h.elim (fun h => .inr (.inl h)) (fun h => h.elim .inl (fun h => .inr (.inr h))), fun h => h.elim (fun h => .inr (.inl h)) (fun h => h.elim .inl (fun h => .inr (.inr h)))⟩
    · split
      · rename_i e
        subst e
        rw [List.mem_cons]
        exact ⟨fun h => .inr h, fun h => h.elim (fun h => .inl h) (fun h => h)⟩
      · rw [List.mem_cons]
theorem insT_rise {s : ByteArray} : ∀ {l : List ByteArray}, Ri l → Ri (insT s l)
  | [], _ => List.pairwise_singleton _ _
  | y :: l, h => by
    obtain ⟨h1, h2⟩ := List.pairwise_cons.1 h
    unfold insT
    cases hy : sltB y s with
    | true =>
      rw [if_pos rfl]
      refine List.pairwise_cons.2 ⟨fun x hx => ?_, insT_rise h2⟩
      rcases mem_insT.1 hx with rfl | hx
      · exact hy
      · exact h1 x hx
    | false =>
      simp only [Bool.false_eq_true, if_false]
      by_cases e : y = s
      · rw [if_pos e]; exact h
      · rw [if_neg e]
        have hg := lt_or hy e
        refine List.pairwise_cons.2 ⟨fun x hx => ?_, h⟩
        rcases List.mem_cons.1 hx with rfl | hx
        · exact hg
        · exact lt_tr hg (h1 x hx)
theorem insT_len (s : ByteArray) : ∀ l : List ByteArray, (insT s l).length ≤ l.length + 1
  | [] => Nat.le_refl _
  | y :: l => by
    unfold insT
    split
    · have := insT_len s l; simp only [List.length_cons]; omega
    · split <;> simp
theorem Ri.nodup {l : List ByteArray} (h : Ri l) : l.Nodup := by
  unfold List.Nodup
  exact h.imp fun h => lt_ne h
theorem Ri.ext {a b : List ByteArray} (ha : Ri a) (hb : Ri b) (h : ∀ x, x ∈ a ↔ x ∈ b) : a = b := by
  have hp : a.Perm b := (List.perm_ext_iff_of_nodup ha.nodup hb.nodup).2 h
  have hp2 : (a.map fun s => s.data.toList) = (b.map fun s => s.data.toList) := by
    refine List.Perm.eq_of_pairwise (le := fun x y : List UInt8 => x ≤ y) (fun x y _ _ h1 h2 => List.le_antisymm h1 h2) ?_ ?_ (hp.map _)
    · rw [List.pairwise_map]
      refine ha.imp fun hab => ?_
      rw [slt_data, decide_eq_true_eq] at hab
      exact List.le_of_lt hab
    · rw [List.pairwise_map]
      refine hb.imp fun hab => ?_
      rw [slt_data, decide_eq_true_eq] at hab
      exact List.le_of_lt hab
  exact List.map_inj_right (fun x y e => ByteArray.ext (Array.toList_inj.1 e)) |>.1 hp2
theorem insT_has {s : ByteArray} {l : List ByteArray} (h : Ri l) (hs : s ∈ l) : insT s l = l :=
  Ri.ext (insT_rise h) h fun x => by rw [mem_insT]; exact ⟨fun h => h.elim (fun e => e ▸ hs) id, .inr⟩
def pos (s : ByteArray) : List ByteArray → Nat
  | [] => 0
  | y :: l => if sltB y s then pos s l + 1 else 0
theorem pos_le (s : ByteArray) : ∀ l : List ByteArray, pos s l ≤ l.length
  | [] => Nat.le_refl _
  | y :: l => by unfold pos; split; · have := pos_le s l; simp only [List.length_cons]; omega
                 · exact Nat.zero_le _
theorem pos_lt {s : ByteArray} : ∀ {l : List ByteArray}, Ri l → ∀ (j : Nat) (hj : j < l.length), (sltB l[j] s = true ↔ j < pos s l)
  | [], _, j, hj => by simp at hj
  | y :: l, h, j, hj => by
    obtain ⟨h1, h2⟩ := List.pairwise_cons.1 h
    unfold pos
    cases hy : sltB y s with
    | true =>
      rw [if_pos rfl]
      cases j with
      | zero => simp [hy]
      | succ j =>
        have := pos_lt (s := s) h2 j (by simpa using hj)
        rw [List.getElem_cons_succ, this]
        omega
    | false =>
      simp only [Bool.false_eq_true, if_false]
      refine ⟨fun hl => ?_, fun hl => by omega⟩
      cases j with
      | zero => rw [List.getElem_cons_zero, hy] at hl; cases hl
      | succ j =>
        rw [List.getElem_cons_succ] at hl
        have := lt_tr (h1 _ (List.getElem_mem (by simpa using hj))) hl
        rw [hy] at this; cases this
theorem pos_mem {s : ByteArray} : ∀ {l : List ByteArray}, Ri l → (s ∈ l ↔ l[pos s l]? = some s)
  | [], _ => by simp
  | y :: l, h => by
    obtain ⟨h1, h2⟩ := List.pairwise_cons.1 h
    unfold pos
    cases hy : sltB y s with
    | true =>
      rw [if_pos rfl, List.getElem?_cons_succ, ← pos_mem h2, List.mem_cons]
      exact ⟨fun h => h.resolve_left fun e => lt_ne hy e.symm, .inr⟩
    | false =>
      simp only [Bool.false_eq_true, if_false, List.getElem?_cons_zero, Option.some.injEq, List.mem_cons]
      refine ⟨fun h => h.elim Eq.symm fun hs => ?_, fun e => .inl e.symm⟩
      have := h1 s hs
      rw [hy] at this; cases this
theorem pos_ins {s : ByteArray} : ∀ {l : List ByteArray}, s ∉ l → insT s l = l.take (pos s l) ++ [s] ++ l.drop (pos s l)
  | [], _ => rfl
  | y :: l, h => by
    rw [List.mem_cons, not_or] at h
    unfold insT pos
    split
    · rw [pos_ins h.2]; simp
    · rw [if_neg fun e => h.1 e.symm]; simp
theorem insL_tl {s : ByteArray} {l : List ByteArray} (h : s ∉ l) : insL ((pos s l : Nat) : Int) (tl l) [T.str s] = tl (insT s l) := by
  unfold insL tl
  rw [pos_ins h, Int.toNat_natCast]
  simp [List.map_take, List.map_drop]

def ptsOf (l : List ByteArray) (L : List (ByteArray × ByteArray)) : List ByteArray := L.foldl (fun a x => insT x.2 (insT x.1 a)) (l.foldl (fun a s => insT s a) [])
def toOf (L : List (ByteArray × ByteArray)) (k : ByteArray) : List ByteArray := L.foldl (fun a x => if x.1 = k then insT x.2 a else a) []
theorem fold_rise : ∀ (l a : List ByteArray), Ri a → Ri (l.foldl (fun a s => insT s a) a)
  | [], _, h => h
  | s :: l, a, h => fold_rise l _ (insT_rise h)
theorem mem_fold {x : ByteArray} : ∀ (l a : List ByteArray), x ∈ l.foldl (fun a s => insT s a) a ↔ x ∈ a ∨ x ∈ l
  | [], a => by simp
  | s :: l, a => by
    rw [List.foldl_cons, mem_fold l, mem_insT, List.mem_cons]
    exact ⟨fun h => h.elim (fun h => h.elim (fun h => .inr (.inl h)) .inl) (fun h => .inr (.inr h)), fun h => h.elim (fun h => .inl (.inr h)) (fun h => h.elim (fun h => .inl (.inl h)) .inr)⟩
theorem foldL_rise : ∀ (L : List (ByteArray × ByteArray)) (a : List ByteArray), Ri a → Ri (L.foldl (fun a x => insT x.2 (insT x.1 a)) a)
  | [], _, h => h
  | s :: l, a, h => foldL_rise l _ (insT_rise (insT_rise h))
theorem mem_foldL {x : ByteArray} : ∀ (L : List (ByteArray × ByteArray)) (a : List ByteArray), x ∈ L.foldl (fun a x => insT x.2 (insT x.1 a)) a ↔ x ∈ a ∨ ∃ y ∈ L, x = y.1 ∨ x = y.2
  | [], a => by simp
  | s :: l, a => by
    rw [List.foldl_cons, mem_foldL l, mem_insT, mem_insT]
    constructor
    · rintro ((h | h | h) | ⟨y, hy, h⟩)
      · exact .inr ⟨s, List.mem_cons_self, .inr h⟩
      · exact .inr ⟨s, List.mem_cons_self, .inl h⟩
      · exact .inl h
      · exact .inr ⟨y, List.mem_cons_of_mem _ hy, h⟩
    · rintro (h | ⟨y, hy, h⟩)
      · exact .inl (.inr (.inr h))
      · rcases List.mem_cons.1 hy with rfl | hy
        · exact h.elim (fun h => .inl (.inr (.inl h))) (fun h => .inl (.inl h))
        · exact .inr ⟨y, hy, h⟩
theorem pts_rise (l : List ByteArray) (L : List (ByteArray × ByteArray)) : Ri (ptsOf l L) := foldL_rise L _ (fold_rise l [] List.Pairwise.nil)
theorem mem_pts {x : ByteArray} {l : List ByteArray} {L : List (ByteArray × ByteArray)} : x ∈ ptsOf l L ↔ x ∈ l ∨ ∃ y ∈ L, x = y.1 ∨ x = y.2 := by
  unfold ptsOf
  rw [mem_foldL, mem_fold]
  simp
theorem foldT_rise (k : ByteArray) : ∀ (L : List (ByteArray × ByteArray)) (a : List ByteArray), Ri a → Ri (L.foldl (fun a x => if x.1 = k then insT x.2 a else a) a)
  | [], _, h => h
  | s :: l, a, h => by
    rw [List.foldl_cons]
    refine foldT_rise k l _ ?_
    split
    · exact insT_rise h
    · exact h
theorem mem_foldT {x k : ByteArray} : ∀ (L : List (ByteArray × ByteArray)) (a : List ByteArray), x ∈ L.foldl (fun a x => if x.1 = k then insT x.2 a else a) a ↔ x ∈ a ∨ (k, x) ∈ L
  | [], a => by simp
  | (u, v) :: l, a => by
    rw [List.foldl_cons, mem_foldT l, List.mem_cons, Prod.mk.injEq]
    by_cases e : u = k
    · rw [if_pos e, mem_insT]
      exact ⟨fun h => h.elim (fun h => h.elim (fun h => .inr (.inl ⟨e.symm, h⟩)) .inl) (fun h => .inr (.inr h)), fun h => h.elim (fun h => .inl (.inr h)) (fun h => h.elim (fun h => .inl (.inl h.2)) .inr)⟩
    · rw [if_neg e]
      exact ⟨fun h => h.imp id .inr, fun h => h.imp id fun h => h.resolve_left fun h => e h.1.symm⟩
theorem to_rise (L : List (ByteArray × ByteArray)) (k : ByteArray) : Ri (toOf L k) := foldT_rise k L [] List.Pairwise.nil
theorem mem_to {x k : ByteArray} {L : List (ByteArray × ByteArray)} : x ∈ toOf L k ↔ (k, x) ∈ L := by
  unfold toOf
  rw [mem_foldT]
  simp
theorem foldT_len (k : ByteArray) : ∀ (L : List (ByteArray × ByteArray)) (a : List ByteArray), (L.foldl (fun a x => if x.1 = k then insT x.2 a else a) a).length ≤ a.length + L.length
  | [], a => Nat.le_refl _
  | s :: l, a => by
    rw [List.foldl_cons]
    have h1 := foldT_len k l (if s.1 = k then insT s.2 a else a)
    have h2 : (if s.1 = k then insT s.2 a else a).length ≤ a.length + 1 := by
      split
      · exact insT_len _ _
      · omega
    simp only [List.length_cons]
    omega
theorem to_len (L : List (ByteArray × ByteArray)) (k : ByteArray) : (toOf L k).length ≤ L.length := by have := foldT_len k L []; rw [List.length_nil, Nat.zero_add] at this; exact this
theorem fold_len : ∀ (l a : List ByteArray), (l.foldl (fun a s => insT s a) a).length ≤ a.length + l.length
  | [], a => Nat.le_refl _
  | s :: l, a => by
    rw [List.foldl_cons]
    have h1 := fold_len l (insT s a)
    have h2 := insT_len s a
    simp only [List.length_cons]
    omega
theorem foldL_len : ∀ (L : List (ByteArray × ByteArray)) (a : List ByteArray), (L.foldl (fun a x => insT x.2 (insT x.1 a)) a).length ≤ a.length + 2 * L.length
  | [], a => Nat.le_refl _
  | s :: l, a => by
    rw [List.foldl_cons]
    have h1 := foldL_len l (insT s.2 (insT s.1 a))
    have h2 := insT_len s.2 (insT s.1 a)
    have h3 := insT_len s.1 a
    simp only [List.length_cons]
    omega
theorem pts_len (l : List ByteArray) (L : List (ByteArray × ByteArray)) : (ptsOf l L).length ≤ l.length + 2 * L.length := by
  have h1 := foldL_len L (l.foldl (fun a s => insT s a) [])
  have h2 := fold_len l []
  unfold ptsOf
  simp only [List.length_nil] at h2
  omega
def swp (L : List (ByteArray × ByteArray)) : List (ByteArray × ByteArray) := L.map fun x => (x.2, x.1)
theorem mem_swp {a b : ByteArray} {L : List (ByteArray × ByteArray)} : (a, b) ∈ swp L ↔ (b, a) ∈ L := by
  unfold swp
  rw [List.mem_map]
  exact ⟨fun ⟨x, hx, e⟩ => by cases e; exact hx, fun h => ⟨_, h, rfl⟩⟩
theorem tl_len (l : List ByteArray) : (tl l).length = l.length := by unfold tl; rw [List.length_map]
theorem tl_get {l : List ByteArray} {j : Nat} (h : j < l.length) : tAtD (tl l) j = T.str l[j] := by
  rw [at_get (by rw [tl_len]; exact h)]
  unfold tl
  simp
theorem tl_app (a b : List ByteArray) : tl (a ++ b) = tl a ++ tl b := by unfold tl; simp

def gZ (z : T) (fs : List T) (s : ByteArray) : T := mget keyS z fs (.str s)
theorem gZ_put (z : T) (fs : List T) (k s : ByteArray) (v : T) : gZ z (putF fs k v) s = if s = k then v else gZ z fs s := by
  unfold gZ putF
  induction fs with
  | nil =>
    show mget keyS z [.node [.str k, v]] (.str s) = _
    simp only [mget]
    by_cases h : s = k
    · subst h
      rw [show keyS (.str s) ((T.node [.str s, v]).get 0) = true from key_self s, if_pos rfl]
      rfl
    · have : keyS (.str s) ((T.node [.str k, v]).get 0) = false := by
        cases hq : keyS (.str s) ((T.node [.str k, v]).get 0) with
        | false => rfl
        | true => exact absurd ((key_iff _ _).1 hq) h
      rw [this, if_neg h]
      rfl
  | cons e es ih =>
    simp only [mput]
    cases hk : keyS (.str k) (e.get 0) with
    | true =>
      have hke : k = (e.get 0).txt := (key_iff _ _).1 hk
      simp only [cond_true, mget]
      by_cases h : s = k
      · subst h
        rw [show keyS (.str s) ((T.node [.str s, v]).get 0) = true from key_self s, if_pos rfl]
        rfl
      · have h1 : keyS (.str s) ((T.node [.str k, v]).get 0) = false := by
          cases hq : keyS (.str s) ((T.node [.str k, v]).get 0) with
          | false => rfl
          | true => exact absurd ((key_iff _ _).1 hq) h
        have h2 : keyS (.str s) (e.get 0) = false := by
          cases hq : keyS (.str s) (e.get 0) with
          | false => rfl
          | true => exact absurd (((key_iff _ _).1 hq).trans hke.symm) h
        rw [h1, h2, if_neg h]
        rfl
    | false =>
      simp only [cond_false, mget]
      cases hs : keyS (.str s) (e.get 0) with
      | true =>
        have hne : ¬ s = k := fun h => by subst h; rw [hs] at hk; cases hk
        rw [if_neg hne]
        rfl
      | false => simp only [cond_false]; exact ih
theorem gZ_del (z : T) (fs : List T) (k s : ByteArray) (h : s ≠ k) : gZ z (delF fs k) s = gZ z fs s := by
  unfold gZ delF
  induction fs with
  | nil => rfl
  | cons e es ih =>
    simp only [mdel]
    cases hk : keyS (.str k) (e.get 0) with
    | true =>
      have hke : k = (e.get 0).txt := (key_iff _ _).1 hk
      have h2 : keyS (.str s) (e.get 0) = false := by
        cases hq : keyS (.str s) (e.get 0) with
        | false => rfl
        | true => exact absurd (((key_iff _ _).1 hq).trans hke.symm) h
      simp only [cond_true, mget, h2, cond_false]
    | false =>
      simp only [cond_false, mget]
      cases hs : keyS (.str s) (e.get 0)
      · simp only [cond_false]; exact ih
      · rfl
theorem gZ_no {z : T} {fs : List T} {s : ByteArray} (h : hF fs s = false) : gZ z fs s = z := by
  unfold hF mhas at h
  unfold gZ
  induction fs with
  | nil => rfl
  | cons e es ih =>
    rw [List.any_cons, Bool.or_eq_false_iff] at h
    simp only [mget, h.1, cond_false]
    exact ih h.2
theorem keys_of {fs : List T} {p : List ByteArray} (hp : (fs.map ky).Perm p) (hr : Ri p) : keysS fs = tl p := by
  have e : keysB fs = p := by
    refine List.Perm.eq_of_pairwise (le := fun a b : ByteArray => a.data.toList ≤ b.data.toList) (fun a b _ _ h1 h2 => ByteArray.ext (Array.toList_inj.1 (List.le_antisymm h1 h2))) (keysB_rise fs) ?_ ((keysB_perm fs).trans hp)
    refine hr.imp fun hab => ?_
    rw [slt_data, decide_eq_true_eq] at hab
    exact List.le_of_lt hab
  unfold keysS
  rw [e]
  rfl
theorem keysOk_of {fs : List T} {p : List ByteArray} (hp : (fs.map ky).Perm p) (hl : p.length ≤ 1000000) (hs : ∀ x ∈ p, x.size ≤ 1000000) : keysOk fs = true := by
  have h1 : fs.length = p.length := by have := hp.length_eq; simpa using this
  unfold keysOk
  rw [Bool.and_eq_true, List.all_eq_true]
  refine ⟨Nat.ble_eq_true_of_le (by omega), fun e he => Nat.ble_eq_true_of_le ?_⟩
  have hm : ky e ∈ p := hp.mem_iff.1 (List.mem_map.2 ⟨e, he, rfl⟩)
  have := hs _ hm
  show (ky e).size ≤ 1048576
  omega
end Go.Proofs.YtbejhhoakeapgaaGI
namespace Go.Proofs.YtbejhhoakeapgaaGI
open Go Go.Proofs.YtbejhhoakeapgaaVM
set_option linter.unusedVariables false
set_option linter.unusedSimpArgs false
set_option maxRecDepth 100000

theorem txt_s (s : ByteArray) : (T.str s).txt = s := id rfl
def hasB (s : ByteArray) (l : List ByteArray) : Bool := l.any fun x => seqB x s
theorem hasB_iff {s : ByteArray} {l : List ByteArray} : hasB s l = true ↔ s ∈ l := by
  unfold hasB
  rw [List.any_eq_true]
  exact ⟨fun ⟨x, hx, e⟩ => seq_is.1 e ▸ hx, fun h => ⟨s, h, seq_is.2 rfl⟩⟩
theorem hasB_no {s : ByteArray} {l : List ByteArray} (h : s ∉ l) : hasB s l = false := by
  cases hb : hasB s l with
  | false => rfl
  | true => exact absurd (hasB_iff.1 hb) h
theorem hasB_cons (s x : ByteArray) (l : List ByteArray) : hasB s (x :: l) = (seqB x s || hasB s l) := rfl
theorem rhas_loop (l : List ByteArray) (s : ByteArray) (hl : l.length ≤ 1000000) : ∀ (k j : Nat), j + k = l.length →
    Dz i_R17_Has (some p_R17_Has_c1) [A.t (T.node (tl l)), A.t (T.str s), A.t (T.int j)] (if hasB s (l.drop j) then (1, [A.t (T.bool true)]) else (2, [])) := by
  intro k
  induction k with
  | zero =>
    intro j hj
    refine Does.now fun m => ?_
    rw [q_R17_Has_c1, List.drop_of_length_le (by omega)]
    simp only [S0, S9, S1, S2, if_true, if_false, tl_len]
    rw [if_neg (by omega)]
    rfl
  | succ k ih =>
    intro j hj
    have hlt : j < l.length := by omega
    have hw : IntKind.i64.wrap ((j : Int) + 1) = ((j + 1 : Nat) : Int) := i64succ (by omega)
    obtain ⟨n0, h0⟩ := ih (j + 1) (by omega)
    refine Does.of n0 fun m hm => ?_
    have q := h0 m hm
    rw [q_R17_Has_c1, List.drop_eq_getElem_cons hlt, hasB_cons]
    simp only [S0, S9, S1, S2, if_true, if_false, tl_len, tl_get hlt, txt_s, hw]
    rw [if_pos (by omega), if_pos (by omega)]
    cases seqB l[j] s
    · simp only [Bool.false_eq_true, if_false, false_or]; exact q
    · simp only [if_true, true_or]
theorem rhas17_does (l : List ByteArray) (s : ByteArray) (hl : l.length ≤ 1000000) : Dz i_R17_Has none [A.t (T.node (tl l)), A.t (T.str s)] (1, [A.t (T.bool (hasB s l))]) := by
  obtain ⟨n0, h0⟩ := rhas_loop l s hl l.length 0 (by omega)
  rw [List.drop_zero] at h0
  refine Does.of n0 fun m hm => ?_
  have q : den Try.prog G0 ents m i_R17_Has (some p_R17_Has_c1) [A.t (T.node (tl l)), A.t (T.str s), A.t (T.int 0)] = _ := h0 m hm
  rw [q_R17_Has]
  simp only [S0, S9, S1, S2, if_true, if_false, q]
  cases hasB s l <;> rfl
def putR (s : ByteArray) (a : Bool × List ByteArray) (x : ByteArray) : Bool × List ByteArray := (a.1 || sltB s x, a.2 ++ (if !a.1 && sltB s x then [s] else []) ++ [x])
theorem putR_in {s : ByteArray} : ∀ (l out : List ByteArray), l.foldl (putR s) (true, out) = (true, out ++ l)
  | [], out => by simp
  | x :: l, out => by
    rw [List.foldl_cons]
    have e : putR s (true, out) x = (true, out ++ [x]) := by unfold putR; simp
    rw [e, putR_in l]
    simp
theorem putR_ins {s : ByteArray} : ∀ (l out : List ByteArray), Ri l → s ∉ l → (l.foldl (putR s) (false, out)).2 ++ (if (l.foldl (putR s) (false, out)).1 then [] else [s]) = out ++ insT s l
  | [], out, _, _ => by simp [insT]
  | x :: l, out, h, hn => by
    obtain ⟨h1, h2⟩ := List.pairwise_cons.1 h
    rw [List.mem_cons, not_or] at hn
    rw [List.foldl_cons]
    unfold insT
    cases hx : sltB x s with
    | true =>
      have e : putR s (false, out) x = (false, out ++ [x]) := by unfold putR; rw [lt_no hx]; simp
      rw [e, if_pos rfl, putR_ins l _ h2 hn.2]
      simp
    | false =>
      have hg := lt_or hx fun e => hn.1 e.symm
      have e : putR s (false, out) x = (true, out ++ [s, x]) := by unfold putR; rw [hg]; simp
      rw [e, putR_in]
      simp only [Bool.false_eq_true, if_false, if_true, List.append_nil]
      rw [if_neg fun e => hn.1 e.symm]
      simp
theorem putR_len {s : ByteArray} : ∀ (l : List ByteArray) (a : Bool × List ByteArray), (l.foldl (putR s) a).2.length ≤ a.2.length + 2 * l.length
  | [], a => Nat.le_refl _
  | x :: l, a => by
    rw [List.foldl_cons]
    have h1 := putR_len (s := s) l (putR s a x)
    have h2 : (putR s a x).2.length ≤ a.2.length + 2 := by
      unfold putR
      simp only [List.length_append, List.length_singleton]
      have : (if (!a.1 && sltB s x) = true then [s] else []).length ≤ 1 := by split <;> simp
      omega
    simp only [List.length_cons]
    omega
theorem rput17_loop (l : List ByteArray) (s : ByteArray) (hl : l.length ≤ 1000000) : ∀ (k j : Nat) (b : Bool) (out : List ByteArray), j + k = l.length → out.length ≤ 2 * j →
    Dz i_R17_Put (some p_R17_Put_c1) [A.t (T.node (tl l)), A.t (T.str s), A.t (T.bool b), A.t (T.int j), A.t (T.node (tl out))] (2, [A.t (T.str s), A.t (T.bool ((l.drop j).foldl (putR s) (b, out)).1), A.t (T.node (tl ((l.drop j).foldl (putR s) (b, out)).2))]) := by
  intro k
  induction k with
  | zero =>
    intro j b out hj ho
    refine Does.now fun m => ?_
    rw [q_R17_Put_c1, List.drop_of_length_le (by omega)]
    simp only [S0, S9, S1, S2, if_true, if_false, tl_len, List.foldl_nil]
    rw [if_neg (by omega)]
  | succ k ih =>
    intro j b out hj ho
    have hlt : j < l.length := by omega
    have hw : IntKind.i64.wrap ((j : Int) + 1) = ((j + 1 : Nat) : Int) := i64succ (by omega)
    have hlen := putR_len (s := s) [l[j]] (b, out)
    obtain ⟨n0, h0⟩ := ih (j + 1) (putR s (b, out) l[j]).1 (putR s (b, out) l[j]).2 (by omega) (by simp only [List.foldl_cons, List.foldl_nil, List.length_singleton] at hlen; omega)
    refine Does.of n0 fun m hm => ?_
    have q := h0 m hm
    have hs1 : Nat.succ out.length < 1073741824 := by show _ + 1 < _; omega
    have hs2 : Nat.succ (tl out ++ [T.str s]).length < 1073741824 := by rw [List.length_append, tl_len]; show _ + 1 + 1 < _; omega
    rw [q_R17_Put_c1, List.drop_eq_getElem_cons hlt, List.foldl_cons]
    simp only [S0, S9, S1, S2, if_true, if_false, tl_len, tl_get hlt, txt_s, hw, hs1, hs2]
    have e : putR s (b, out) l[j] = ((putR s (b, out) l[j]).1, (putR s (b, out) l[j]).2) := rfl
    rw [e]
    refine Eq.trans ?_ q
    unfold putR
    rw [if_pos (by omega)]
    have hib : (0 : Int) ≤ (j : Int) ∧ (j : Int) < ((l.length : Nat) : Int) := ⟨by omega, by omega⟩
    have t1 : ∀ x : ByteArray, tl [x] = [T.str x] := fun _ => rfl
    have t0 : tl [] = [] := rfl
    cases b <;> cases sltB s l[j] <;>
      simp only [Bool.not_false, Bool.not_true, Bool.false_or, Bool.true_or, Bool.or_true, Bool.or_false, Bool.true_and, Bool.false_and, Bool.and_true, Bool.and_false, Bool.false_eq_true, if_true, if_false, hib, and_self, List.append_nil, tl_app, t1, t0]
theorem rput17_does (l : List ByteArray) (s : ByteArray) (hl : l.length ≤ 1000000) (hr : Ri l) : Dz i_R17_Put none [A.t (T.node (tl l)), A.t (T.str s)] (1, [A.t (T.node (tl (insT s l)))]) := by
  by_cases h : s ∈ l
  · obtain ⟨n0, h0⟩ := rhas17_does l s hl
    refine Does.of n0 fun m hm => ?_
    rw [q_R17_Put]
    simp only [S0, S9, S1, S2, if_true, if_false, h0 m hm, hasB_iff.2 h]
    rw [insT_has hr h]
  · obtain ⟨n0, h0⟩ := (rhas17_does l s hl).both (rput17_loop l s hl l.length 0 false [] (by omega) (by simp))
    refine Does.of n0 fun m hm => ?_
    obtain ⟨q1, q2⟩ := h0 m hm
    have q : den Try.prog G0 ents m i_R17_Put (some p_R17_Put_c1) [A.t (T.node (tl l)), A.t (T.str s), A.t (T.bool false), A.t (T.int 0), A.t (T.node [])] = _ := q2
    rw [List.drop_zero] at q
    have hi := putR_ins l [] hr h
    have hlen := putR_len (s := s) l (false, [])
    have hs1 : Nat.succ (tl (l.foldl (putR s) (false, [])).2).length < 1073741824 := by
      rw [tl_len]; show _ + 1 < _
      simp only [List.length_nil] at hlen
      omega
    rw [q_R17_Put, ← List.nil_append (insT s l), ← hi]
    simp only [S0, S9, S1, S2, if_true, if_false, q1, hasB_no h, q, hs1, Bool.false_eq_true]
    cases (l.foldl (putR s) (false, [])).1
    · simp only [Bool.not_false, if_true, Bool.false_eq_true, if_false, tl_app]
      rfl
    · simp only [Bool.not_true, if_true, Bool.false_eq_true, if_false, List.append_nil]
def lns (L : List (ByteArray × ByteArray)) : List T := L.map fun x => T.node [T.str x.1, T.str x.2]
theorem lns_len (L : List (ByteArray × ByteArray)) : (lns L).length = L.length := by unfold lns; rw [List.length_map]
def ln (x : T) : ByteArray × ByteArray := ((x.get 0).txt, (x.get 1).txt)
theorem ln0 (x : T) : (T.get x 0).txt = (ln x).1 := id rfl
theorem ln1 (x : T) : (T.get x 1).txt = (ln x).2 := id rfl
theorem take_succ' {α : Type} {l : List α} {j : Nat} (h : j < l.length) : l.take (j + 1) = l.take j ++ [l[j]] := by rw [List.take_add_one, List.getElem?_eq_getElem h]; rfl
theorem rpts1_loop (l : List ByteArray) (lt : List T) (hl : l.length ≤ 1000) : ∀ (k j : Nat), j + k = l.length →
    Dz i_R17_Points (some p_R17_Points_c1) [A.t (T.node (tl l)), A.t (T.node lt), A.t (T.node (tl ((l.take j).foldl (fun a s => insT s a) []))), A.t (T.int j)] (2, [A.t (T.node lt), A.t (T.node (tl (l.foldl (fun a s => insT s a) [])))]) := by
  intro k
  induction k with
  | zero =>
    intro j hj
    refine Does.now fun m => ?_
    rw [q_R17_Points_c1, List.take_of_length_le (by omega)]
    simp only [S0, S9, S1, S2, if_true, if_false, tl_len]
    rw [if_neg (by omega)]
  | succ k ih =>
    intro j hj
    have hlt : j < l.length := by omega
    have hw : IntKind.i64.wrap ((j : Int) + 1) = ((j + 1 : Nat) : Int) := i64succ (by omega)
    have hlen := fold_len (l.take j) []
    have hi := ih (j + 1) (by omega)
    rw [take_succ' hlt, List.foldl_append] at hi
    obtain ⟨n0, h0⟩ := (rput17_does ((l.take j).foldl (fun a s => insT s a) []) l[j] (by rw [List.length_take] at hlen; simp only [List.length_nil] at hlen; omega) (fold_rise _ _ List.Pairwise.nil)).both hi
    refine Does.of n0 fun m hm => ?_
    obtain ⟨q1, q2⟩ := h0 m hm
    rw [q_R17_Points_c1]
    simp only [S0, S9, S1, S2, if_true, if_false, tl_len, tl_get hlt, txt_s, hw, q1]
    rw [if_pos (by omega), if_pos (by omega)]
    exact q2
theorem rpts2_loop (lt : List T) (hl : lt.length ≤ 1000) (a : List ByteArray) (ha : a.length ≤ 1000) (hr : Ri a) : ∀ (k j : Nat), j + k = lt.length →
    Dz i_R17_Points (some p_R17_Points_c2) [A.t (T.node lt), A.t (T.node (tl (((lt.take j).map ln).foldl (fun a x => insT x.2 (insT x.1 a)) a))), A.t (T.int j)] (4, [A.t (T.node (tl ((lt.map ln).foldl (fun a x => insT x.2 (insT x.1 a)) a)))]) := by
  intro k
  induction k with
  | zero =>
    intro j hj
    refine Does.now fun m => ?_
    rw [q_R17_Points_c2, List.take_of_length_le (by omega)]
    simp only [S0, S9, S1, S2, if_true, if_false]
    rw [if_neg (by omega)]
  | succ k ih =>
    intro j hj
    have hlt : j < lt.length := by omega
    have hw : IntKind.i64.wrap ((j : Int) + 1) = ((j + 1 : Nat) : Int) := i64succ (by omega)
    have hlen := foldL_len ((lt.take j).map ln) a
    rw [List.length_map, List.length_take] at hlen
    have hrise := foldL_rise ((lt.take j).map ln) a hr
    have hi := ih (j + 1) (by omega)
    rw [take_succ' hlt, List.map_append, List.foldl_append] at hi
    have hl2 := insT_len (ln lt[j]).1 (((lt.take j).map ln).foldl (fun a x => insT x.2 (insT x.1 a)) a)
    obtain ⟨n0, h0⟩ := (rput17_does (((lt.take j).map ln).foldl (fun a x => insT x.2 (insT x.1 a)) a) (ln lt[j]).1 (by omega) hrise).both (rput17_does (insT (ln lt[j]).1 (((lt.take j).map ln).foldl (fun a x => insT x.2 (insT x.1 a)) a)) (ln lt[j]).2 (by omega) (insT_rise hrise))
    obtain ⟨n1, h1⟩ := hi
    refine Does.of (n0 + n1) fun m hm => ?_
    obtain ⟨q1, q2⟩ := h0 m (by omega)
    have q3 := h1 m (by omega)
    rw [q_R17_Points_c2]
    simp only [S0, S9, S1, S2, if_true, if_false, at_get hlt, ln0, ln1, hw, q1, q2]
    rw [if_pos (by omega), if_pos (by omega), if_pos (by omega)]
    exact q3
theorem rpoints_does (l : List ByteArray) (lt : List T) (hl : l.length ≤ 300) (hlt : lt.length ≤ 300) : Dz i_R17_Points none [A.t (T.node (tl l)), A.t (T.node lt)] (1, [A.t (T.node (tl (ptsOf l (lt.map ln))))]) := by
  have hfl := fold_len l []
  simp only [List.length_nil] at hfl
  obtain ⟨n0, h0⟩ := (rpts1_loop l lt (by omega) l.length 0 (by omega)).both (rpts2_loop lt (by omega) (l.foldl (fun a s => insT s a) []) (by omega) (fold_rise _ _ List.Pairwise.nil) lt.length 0 (by omega))
  refine Does.of n0 fun m hm => ?_
  obtain ⟨q1, q2⟩ := h0 m hm
  have q1' : den Try.prog G0 ents m i_R17_Points (some p_R17_Points_c1) [A.t (T.node (tl l)), A.t (T.node lt), A.t (T.node []), A.t (T.int 0)] = _ := q1
  have q2' : den Try.prog G0 ents m i_R17_Points (some p_R17_Points_c2) [A.t (T.node lt), A.t (T.node (tl (l.foldl (fun a s => insT s a) []))), A.t (T.int 0)] = _ := q2
  rw [q_R17_Points]
  simp only [S0, S9, S1, S2, if_true, if_false, q1', q2', show Nat.beq 4 4 = true from rfl]
  rfl
theorem rto_loop (lt : List T) (s : ByteArray) (hl : lt.length ≤ 1000) : ∀ (k j : Nat), j + k = lt.length →
    Dz i_R17_To (some p_R17_To_c1) [A.t (T.node lt), A.t (T.str s), A.t (T.node (tl (toOf ((lt.take j).map ln) s))), A.t (T.int j)] (2, [A.t (T.node (tl (toOf (lt.map ln) s)))]) := by
  intro k
  induction k with
  | zero =>
    intro j hj
    refine Does.now fun m => ?_
    rw [q_R17_To_c1, List.take_of_length_le (by omega)]
    simp only [S0, S9, S1, S2, if_true, if_false]
    rw [if_neg (by omega)]
  | succ k ih =>
    intro j hj
    have hlt : j < lt.length := by omega
    have hw : IntKind.i64.wrap ((j : Int) + 1) = ((j + 1 : Nat) : Int) := i64succ (by omega)
    have hlen := to_len ((lt.take j).map ln) s
    rw [List.length_map, List.length_take] at hlen
    have hi := ih (j + 1) (by omega)
    have e : toOf ((lt.take (j + 1)).map ln) s = if (ln lt[j]).1 = s then insT (ln lt[j]).2 (toOf ((lt.take j).map ln) s) else toOf ((lt.take j).map ln) s := by
      rw [take_succ' hlt, List.map_append]
      unfold toOf
      rw [List.foldl_append]
      rfl
    rw [e] at hi
    obtain ⟨n0, h0⟩ := (rput17_does (toOf ((lt.take j).map ln) s) (ln lt[j]).2 (by omega) (to_rise _ _)).both hi
    refine Does.of n0 fun m hm => ?_
    obtain ⟨q1, q2⟩ := h0 m hm
    rw [q_R17_To_c1]
    simp only [S0, S9, S1, S2, if_true, if_false, at_get hlt, ln0, ln1, hw, q1]
    rw [if_pos (by omega), if_pos (by omega)]
    by_cases e2 : (ln lt[j]).1 = s
    · rw [if_pos e2] at q2
      rw [if_pos (seq_is.2 e2), if_pos (by omega)]
      exact q2
    · rw [if_neg e2] at q2
      rw [if_neg (by rw [seq_no e2]; simp)]
      exact q2
theorem rto_does (lt : List T) (s : ByteArray) (hl : lt.length ≤ 1000) : Dz i_R17_To none [A.t (T.node lt), A.t (T.str s)] (1, [A.t (T.node (tl (toOf (lt.map ln) s)))]) := by
  obtain ⟨n0, h0⟩ := rto_loop lt s hl lt.length 0 (by omega)
  refine Does.of n0 fun m hm => ?_
  have q : den Try.prog G0 ents m i_R17_To (some p_R17_To_c1) [A.t (T.node lt), A.t (T.str s), A.t (T.node []), A.t (T.int 0)] = _ := h0 m hm
  rw [q_R17_To]
  simp only [S0, S9, S1, S2, if_true, if_false, q]
end Go.Proofs.YtbejhhoakeapgaaGI
namespace Go.Proofs.YtbejhhoakeapgaaGI
open Go Go.Proofs.YtbejhhoakeapgaaVM
set_option linter.unusedVariables false
set_option linter.unusedSimpArgs false
set_option maxRecDepth 100000

structure Gr (fs : List T) (p : List ByteArray) (t : ByteArray → List ByteArray) : Prop where
  rise : Ri p
  perm : (fs.map ky).Perm p
  to : ∀ s, (gZ (.node []) fs s).kids = tl (t s)
  tri : ∀ s, Ri (t s)
  len : p.length ≤ 200000
  tlen : ∀ s, (t s).length ≤ 200000
  siz : ∀ x ∈ p, x.size ≤ 100
  tsiz : ∀ s, ∀ x ∈ t s, x.size ≤ 100
theorem Gr.has {fs : List T} {p : List ByteArray} {t : ByteArray → List ByteArray} (h : Gr fs p t) (s : ByteArray) : hF fs s = hasB s p := by
  cases hb : hasB s p with
  | true => exact (hF_mem _ _).2 (h.perm.mem_iff.2 (hasB_iff.1 hb))
  | false =>
    cases hh : hF fs s with
    | false => rfl
    | true =>
      have := hasB_iff.2 (h.perm.mem_iff.1 ((hF_mem _ _).1 hh))
      rw [hb] at this; cases this
theorem Gr.out {fs : List T} {p : List ByteArray} {t : ByteArray → List ByteArray} (h : Gr fs p t) {s : ByteArray} (hs : s ∉ p) : t s = [] := by
  have h1 : hF fs s = false := by rw [h.has]; exact hasB_no hs
  have h2 := h.to s
  rw [gZ_no h1] at h2
  have : (tl (t s)).length = 0 := by rw [← h2]; rfl
  rw [tl_len] at this
  exact List.eq_nil_of_length_eq_zero this
def updT (t : ByteArray → List ByteArray) (a : ByteArray) (v : List ByteArray) : ByteArray → List ByteArray := fun s => if s = a then v else t s
theorem Gr.add {fs : List T} {p : List ByteArray} {t : ByteArray → List ByteArray} (h : Gr fs p t) {s : ByteArray} (hs : s.size ≤ 100) (hl : p.length < 200000) (hn : s ∉ p) : Gr (putF fs s (.node [])) (insT s p) t := by
  have hk : s ∉ fs.map ky := fun h' => hn (h.perm.mem_iff.1 h')
  refine ⟨insT_rise h.rise, ?_, fun x => ?_, h.tri, by have := insT_len s p; omega, h.tlen, fun x hx => ?_, h.tsiz⟩
  · rw [put_out hk]
    refine (List.perm_append_singleton _ _).trans ((h.perm.cons s).trans ?_)
    rw [List.perm_ext_iff_of_nodup (List.nodup_cons.2 ⟨hn, h.rise.nodup⟩) (insT_rise h.rise).nodup]
    intro x
    rw [mem_insT, List.mem_cons]
  · rw [gZ_put]
    split
    · rename_i e
      subst e
      rw [h.out hn]
      rfl
    · exact h.to x
  · rcases mem_insT.1 hx with rfl | hx
    · exact hs
    · exact h.siz x hx
theorem Gr.set {fs : List T} {p : List ByteArray} {t : ByteArray → List ByteArray} (h : Gr fs p t) {a : ByteArray} (ha : a ∈ p) {l : List ByteArray} (hl : Ri l) (hn : l.length ≤ 200000) (hs : ∀ x ∈ l, x.size ≤ 100) : Gr (putF fs a (.node (tl l))) p (updT t a l) := by
  refine ⟨h.rise, by rw [put_in (h.perm.mem_iff.2 ha)]; exact h.perm, fun x => ?_, fun x => ?_, h.len, fun x => ?_, h.siz, fun x y hy => ?_⟩
  · rw [gZ_put]
    unfold updT
    split
    · rfl
    · exact h.to x
  · unfold updT; split
    · exact hl
    · exact h.tri x
  · unfold updT; split
    · exact hn
    · exact h.tlen x
  · unfold updT at hy; split at hy
    · exact hs y hy
    · exact h.tsiz x y hy
theorem gZ_eq (fs : List T) (s : ByteArray) : mget keyS (T.node []) fs (T.str s) = gZ (.node []) fs s := id rfl
theorem clone_eq (n : Nat) (l : List T) : den Try.prog G0 ents (Nat.succ n) i_slices_Clone none [A.t (T.node l)] = Option.map (fun o => (1, o)) (bif decide (l.length ≤ 1000000000) then some [A.t (T.node l)] else none) := by kernel_rfl
theorem clone_does {l : List T} (h : l.length ≤ 1000000000) : Dz i_slices_Clone none [A.t (T.node l)] (1, [A.t (T.node l)]) := Does.now fun n => by rw [clone_eq, decide_eq_true h]; rfl
theorem insert_eq (n : Nat) (i : Int) (s v : List T) : den Try.prog G0 ents (Nat.succ n) i_slices_Insert none [A.t (T.int i), A.t (T.node s), A.t (T.node v)] = Option.map (fun o => (1, o)) (bif insrtOk i s v then some [A.t (T.node v), A.t (T.node (insL i s v))] else none) := by kernel_rfl
theorem insert_does {i : Int} {s v : List T} (h : insrtOk i s v = true) : Dz i_slices_Insert none [A.t (T.int i), A.t (T.node s), A.t (T.node v)] (1, [A.t (T.node v), A.t (T.node (insL i s v))]) := Does.now fun n => by rw [insert_eq, h]; rfl
theorem ins_does {l : List ByteArray} {s : ByteArray} (hl : l.length ≤ 500000) (h : s ∉ l) : Dz i_slices_Insert none [A.t (T.int (pos s l : Nat)), A.t (T.node (tl l)), A.t (T.node [T.str s])] (1, [A.t (T.node [T.str s]), A.t (T.node (tl (insT s l)))]) := by
  have hp := pos_le s l
  have := insert_does (i := ((pos s l : Nat) : Int)) (s := tl l) (v := [T.str s]) (by
    unfold insrtOk
    simp only [Bool.and_eq_true, decide_eq_true_eq, tl_len, List.length_singleton]
    omega)
  rw [insL_tl h] at this
  exact this
theorem to_snoc (L : List (ByteArray × ByteArray)) (a b : ByteArray) : toOf (L ++ [(a, b)]) = updT (toOf L) a (insT b (toOf L a)) := by
  funext s
  unfold toOf updT
  rw [List.foldl_append]
  show (if a = s then insT b _ else _) = _
  by_cases e : a = s
  · subst e; simp
  · rw [if_neg e, if_neg fun h => e h.symm]
theorem pts_snoc (l : List ByteArray) (L : List (ByteArray × ByteArray)) (a b : ByteArray) : ptsOf l (L ++ [(a, b)]) = insT b (insT a (ptsOf l L)) := by
  unfold ptsOf
  rw [List.foldl_append]
  rfl
theorem Gr.nil : Gr [] [] (fun _ => []) := ⟨List.Pairwise.nil, List.Perm.refl _, fun s => rfl, fun s => List.Pairwise.nil, by simp, fun s => by simp, fun x hx => (by cases hx), fun s x hx => (by cases hx)⟩
theorem psort_eq (n : Nat) (l : List T) : den Try.prog G0 ents (Nat.succ n) i_slices_Sorted_l none [A.t (T.node l)] = Option.map (fun o => (1, o)) (bif keysOk l then some [A.t (T.node (keysS l)), A.t (T.node l)] else none) := by kernel_rfl
end Go.Proofs.YtbejhhoakeapgaaGI
namespace Go.Proofs.YtbejhhoakeapgaaGI
open Go Go.Proofs.YtbejhhoakeapgaaVM
set_option linter.unusedVariables false
set_option linter.unusedSimpArgs false
set_option maxRecDepth 100000

def prs (k : ByteArray) (l : List ByteArray) : List (ByteArray × ByteArray) := l.map fun x => (x, k)
def turnL (p : List ByteArray) (t : ByteArray → List ByteArray) : List (ByteArray × ByteArray) := p.flatMap fun k => prs k (t k)
theorem mem_turn {p : List ByteArray} {t : ByteArray → List ByteArray} {a b : ByteArray} : (a, b) ∈ turnL p t ↔ b ∈ p ∧ a ∈ t b := by
  unfold turnL prs
  rw [List.mem_flatMap]
  constructor
  · rintro ⟨k, hk, h⟩
    obtain ⟨x, hx, e⟩ := List.mem_map.1 h
    cases e
    exact ⟨hk, hx⟩
  · rintro ⟨h1, h2⟩
    exact ⟨b, h1, List.mem_map.2 ⟨a, h2, rfl⟩⟩
theorem turn_len {t : ByteArray → List ByteArray} (N : Nat) (ht : ∀ s, (t s).length ≤ N) : ∀ p : List ByteArray, (turnL p t).length ≤ p.length * N
  | [] => by simp [turnL]
  | x :: p => by
    have h1 := turn_len N ht p
    have h2 := ht x
    unfold turnL at h1 ⊢
    rw [List.flatMap_cons, List.length_append, List.length_cons, Nat.add_mul, Nat.one_mul]
    unfold prs at h1 ⊢
    rw [List.length_map]
    omega
theorem turn_pts {l : List ByteArray} {L : List (ByteArray × ByteArray)} : ptsOf (ptsOf l L) (turnL (ptsOf l L) (toOf L)) = ptsOf l L := by
  refine Ri.ext (pts_rise _ _) (pts_rise _ _) fun x => ?_
  rw [mem_pts (l := ptsOf l L)]
  constructor
  · rintro (h | ⟨⟨a, b⟩, hy, h⟩)
    · exact h
    · obtain ⟨h1, h2⟩ := mem_turn.1 hy
      have h3 := mem_to.1 h2
      rcases h with rfl | rfl
      · exact mem_pts.2 (.inr ⟨_, h3, .inr rfl⟩)
      · exact h1
  · exact .inl
theorem turn_to {l : List ByteArray} {L : List (ByteArray × ByteArray)} (s : ByteArray) : toOf (turnL (ptsOf l L) (toOf L)) s = toOf (swp L) s := by
  refine Ri.ext (to_rise _ _) (to_rise _ _) fun x => ?_
  rw [mem_to, mem_to, mem_turn, mem_to, mem_swp]
  exact ⟨fun h => h.2, fun h => ⟨mem_pts.2 (.inr ⟨_, h, .inl rfl⟩), h⟩⟩
def turnT (x : T) : T := .node [.str (ln x).2, .str (ln x).1]
theorem turnT_ln (lt : List T) : (lt.map turnT).map ln = swp (lt.map ln) := by
  unfold swp
  rw [List.map_map, List.map_map]
  rfl
end Go.Proofs.YtbejhhoakeapgaaGI
namespace Go.Proofs.YtbejhhoakeapgaaGI
open Go Go.Proofs.YtbejhhoakeapgaaVM
set_option linter.unusedVariables false
set_option linter.unusedSimpArgs false
set_option maxRecDepth 100000

def okB (lt : List T) : Bool := lt.all fun x => decide ((ln x).1.size ≤ 100) && decide ((ln x).2.size ≤ 100)
def okN (l : List T) : Bool := l.all fun x => decide (x.txt.size ≤ 100)
def fewG (l lt : List T) : Bool := decide (l.length ≤ 30) && decide (lt.length ≤ 60) && okN l && okB lt
theorem few_ok {l lt : List T} (h : fewG l lt = true) : l.length ≤ 30 ∧ lt.length ≤ 60 ∧ (∀ x ∈ l.map T.txt, x.size ≤ 100) ∧ (∀ x ∈ lt, (ln x).1.size ≤ 100 ∧ (ln x).2.size ≤ 100) := by
  unfold fewG at h
  simp only [Bool.and_eq_true, decide_eq_true_eq] at h
  obtain ⟨⟨⟨h1, h2⟩, h3⟩, h4⟩ := h
  refine ⟨h1, h2, fun x hx => ?_, fun x hx => ?_⟩
  · obtain ⟨y, hy, e⟩ := List.mem_map.1 hx
    have := List.all_eq_true.1 h3 y hy
    rw [decide_eq_true_eq] at this
    rw [← e]; exact this
  · have := List.all_eq_true.1 h4 x hx
    simpa using this
theorem awakeG_does : Dz i_L17_awake none [] (1, [A.t (T.bool true)]) := run_of 200 fun n => by kernel_rfl
end Go.Proofs.YtbejhhoakeapgaaGI
namespace Go.Proofs.YtbejhhoakeapgaaGI
open Go Go.Proofs.YtbejhhoakeapgaaVM
set_option linter.unusedVariables false
set_option linter.unusedSimpArgs false
set_option maxRecDepth 100000

theorem texts_of {t : T} (h : TOk Try.prog 22 t) : t.kids = tl (t.kids.map T.txt) := by
  obtain ⟨xs, rfl, _, hx⟩ := TOk.row_of Try.underlying22 h
  show xs = (xs.map T.txt).map T.str
  rw [List.map_map]
  have : ∀ x ∈ xs, (T.str ∘ T.txt) x = x := fun x hx' => by
    obtain ⟨s, rfl, _⟩ := TOk.str_of Try.underlying9 (hx x hx')
    rfl
  rw [List.map_congr_left this, List.map_id']
end Go.Proofs.YtbejhhoakeapgaaGI
namespace Go.Proofs.YtbejhhoakeapgaaGI
open Go Go.Proofs.YtbejhhoakeapgaaVM
set_option linter.unusedVariables false
set_option linter.unusedSimpArgs false
set_option maxRecDepth 100000

def cnt (t : ByteArray → List ByteArray) (out : List ByteArray) (x : ByteArray) : Nat := ((t x).filter fun y => !hasB y out).length
def fz (p out : List ByteArray) (c : ByteArray → Nat) : List ByteArray := p.filter fun x => !hasB x out && Nat.beq (c x) 0
def lft (p out : List ByteArray) : List ByteArray := p.filter fun x => !hasB x out
def stepO (p : List ByteArray) (t : ByteArray → List ByteArray) (out : List ByteArray) : List ByteArray :=
  match fz p out (cnt t out) with
  | [] => out
  | s :: _ => out ++ [s]
def iterO (p : List ByteArray) (t : ByteArray → List ByteArray) : Nat → List ByteArray → List ByteArray
  | 0, o => o
  | k + 1, o => iterO p t k (stepO p t o)
theorem iterO_still {p : List ByteArray} {t : ByteArray → List ByteArray} {o : List ByteArray} (h : fz p o (cnt t o) = []) : ∀ k, iterO p t k o = o
  | 0 => rfl
  | k + 1 => by
    have e : stepO p t o = o := by unfold stepO; rw [h]
    show iterO p t k (stepO p t o) = o
    rw [e]; exact iterO_still h k
theorem mem_fz {p out : List ByteArray} {c : ByteArray → Nat} {x : ByteArray} : x ∈ fz p out c ↔ x ∈ p ∧ x ∉ out ∧ c x = 0 := by
  unfold fz
  rw [List.mem_filter, Bool.and_eq_true, Bool.not_eq_true', Nat.beq_eq]
  constructor
  · rintro ⟨h1, h2, h3⟩
    exact ⟨h1, fun h => (by rw [hasB_iff.2 h] at h2; cases h2), h3⟩
  · rintro ⟨h1, h2, h3⟩
    exact ⟨h1, hasB_no h2, h3⟩
theorem mem_lft {p out : List ByteArray} {x : ByteArray} : x ∈ lft p out ↔ x ∈ p ∧ x ∉ out := by
  unfold lft
  rw [List.mem_filter, Bool.not_eq_true']
  constructor
  · rintro ⟨h1, h2⟩
    exact ⟨h1, fun h => by rw [hasB_iff.2 h] at h2; cases h2⟩
  · rintro ⟨h1, h2⟩
    exact ⟨h1, hasB_no h2⟩
theorem fz_rise {p out : List ByteArray} {c : ByteArray → Nat} (h : Ri p) : Ri (fz p out c) := h.sublist List.filter_sublist
theorem lft_rise {p out : List ByteArray} (h : Ri p) : Ri (lft p out) := h.sublist List.filter_sublist
theorem cnt_all {t : ByteArray → List ByteArray} {out : List ByteArray} {x : ByteArray} : cnt t out x = 0 ↔ ∀ y ∈ t x, y ∈ out := by
  unfold cnt
  rw [List.length_eq_zero_iff, List.filter_eq_nil_iff]
  constructor
  · intro h y hy
    have := h y hy
    rw [Bool.not_eq_true', Bool.not_eq_false] at this
    exact hasB_iff.1 this
  · intro h y hy
    rw [Bool.not_eq_true', Bool.not_eq_false]
    exact hasB_iff.2 (h y hy)
theorem all_cnt (t : ByteArray → List ByteArray) (out : List ByteArray) (x : ByteArray) : ((t x).all fun y => hasB y out) = Nat.beq (cnt t out x) 0 := by
  rw [Bool.eq_iff_iff, List.all_eq_true, Nat.beq_eq, cnt_all]
  exact ⟨fun h y hy => hasB_iff.1 (h y hy), fun h y hy => hasB_iff.2 (h y hy)⟩
theorem hasB_snoc (x s : ByteArray) (out : List ByteArray) : hasB x (out ++ [s]) = (hasB x out || decide (x = s)) := by
  rw [Bool.eq_iff_iff, Bool.or_eq_true, hasB_iff, hasB_iff, decide_eq_true_eq, List.mem_append, List.mem_singleton]
theorem cnt_snoc {t : ByteArray → List ByteArray} {out : List ByteArray} {x s : ByteArray} (ht : (t x).Nodup) (hs : s ∉ out) : cnt t (out ++ [s]) x = if hasB s (t x) then cnt t out x - 1 else cnt t out x := by
  unfold cnt
  generalize t x = l at ht ⊢
  induction l with
  | nil => rfl
  | cons y l ih =>
    obtain ⟨h1, h2⟩ := List.nodup_cons.1 ht
    have ih := ih h2
    have hcons : hasB s (y :: l) = (seqB y s || hasB s l) := rfl
    rw [List.filter_cons, List.filter_cons, hcons, hasB_snoc]
    by_cases e : y = s
    · subst e
      have hn : hasB y l = false := hasB_no h1
      rw [hn] at ih
      simp only [Bool.false_eq_true, if_false] at ih
      rw [seq_is.2 rfl, hasB_no hs]
      simp only [Bool.false_or, decide_true, Bool.not_true, Bool.false_eq_true, if_false, Bool.true_or, if_true, Bool.not_false, List.length_cons]
      omega
    · rw [seq_no e, decide_eq_false e, Bool.or_false, Bool.false_or]
      cases hb : hasB y out with
      | true =>
        simp only [Bool.not_true, Bool.false_eq_true, if_false]
        exact ih
      | false =>
        simp only [Bool.not_false, if_true, List.length_cons]
        rw [ih]
        split
        · rename_i hh
          have : 1 ≤ (l.filter fun y => !hasB y out).length := by
            have hm : s ∈ l.filter fun y => !hasB y out := List.mem_filter.2 ⟨hasB_iff.1 hh, by rw [hasB_no hs]; rfl⟩
            exact List.length_pos_of_mem hm
          omega
        · rfl
theorem fz_tail {p out : List ByteArray} {c : ByteArray → Nat} (hp : Ri p) {s : ByteArray} {rest : List ByteArray} (h : fz p out c = s :: rest) : fz p (out ++ [s]) c = rest := by
  have hr : Ri (s :: rest) := h ▸ fz_rise hp
  obtain ⟨h1, h2⟩ := List.pairwise_cons.1 hr
  refine Ri.ext (fz_rise hp) h2 fun x => ?_
  have hm : x ∈ fz p out c ↔ x ∈ s :: rest := by rw [h]
  rw [mem_fz] at hm ⊢
  rw [List.mem_append, List.mem_singleton, not_or]
  rw [List.mem_cons] at hm
  constructor
  · rintro ⟨a, ⟨b, b2⟩, d⟩
    exact (hm.1 ⟨a, b, d⟩).resolve_left b2
  · intro hx
    obtain ⟨a, b, d⟩ := hm.2 (.inr hx)
    exact ⟨a, ⟨b, fun e => lt_ne (h1 x hx) e.symm⟩, d⟩
theorem fz_congr {p out : List ByteArray} {c d : ByteArray → Nat} (h : ∀ x, c x = d x) : fz p out c = fz p out d := by
  rw [show c = d from funext h]
theorem cnt_nil (t : ByteArray → List ByteArray) (x : ByteArray) : cnt t [] x = (t x).length := by
  unfold cnt
  have : ((t x).filter fun y => !hasB y []) = t x := List.filter_eq_self.2 fun y _ => rfl
  rw [this]
structure Ks (ms : List T) (free p out : List ByteArray) (c : ByteArray → Nat) : Prop where
  keys : (ms.map ky).Perm (lft p out)
  num : ∀ x ∈ p, x ∉ out → (gZ (.int 0) ms x).num = (c x : Nat)
  free : free = fz p out c
def decN (c : ByteArray → Nat) (b : ByteArray) : ByteArray → Nat := fun x => if x = b then c b - 1 else c x
theorem Ks.dec {ms : List T} {free p out : List ByteArray} {c : ByteArray → Nat} (h : Ks ms free p out c) (hp : Ri p) {b : ByteArray} (hb : b ∈ p) (ho : b ∉ out) (h1 : 1 ≤ c b) : Ks (putF ms b (.int ((c b - 1 : Nat) : Int))) (if c b = 1 then insT b free else free) p out (decN c b) := by
  have hk : b ∈ ms.map ky := h.keys.mem_iff.2 (mem_lft.2 ⟨hb, ho⟩)
  refine ⟨by rw [put_in hk]; exact h.keys, fun x hx hxo => ?_, ?_⟩
  · rw [gZ_put]
    unfold decN
    split
    · rfl
    · exact h.num x hx hxo
  · have hf := h.free
    subst hf
    split
    · rename_i e
      refine Ri.ext (insT_rise (fz_rise hp)) (fz_rise hp) fun x => ?_
      rw [mem_insT, mem_fz, mem_fz]
      unfold decN
      by_cases e2 : x = b
      · subst e2
        rw [if_pos rfl]
        exact ⟨fun _ => ⟨hb, ho, by omega⟩, fun _ => .inl rfl⟩
      · rw [if_neg e2]
        exact ⟨fun h => h.resolve_left e2, .inr⟩
    · rename_i e
      refine Ri.ext (fz_rise hp) (fz_rise hp) fun x => ?_
      rw [mem_fz, mem_fz]
      unfold decN
      by_cases e2 : x = b
      · subst e2
        rw [if_pos rfl]
        exact ⟨fun h => ⟨h.1, h.2.1, by omega⟩, fun h => ⟨h.1, h.2.1, by omega⟩⟩
      · rw [if_neg e2]
theorem Ks.nodup {ms : List T} {free p out : List ByteArray} {c : ByteArray → Nat} (h : Ks ms free p out c) (hp : Ri p) : (ms.map ky).Nodup := h.keys.nodup_iff.2 (lft_rise hp).nodup
theorem ky_del : ∀ (fs : List T) (k : ByteArray), (fs.map ky).Nodup → (delF fs k).map ky = (fs.map ky).filter fun x => decide (x ≠ k)
  | [], k, _ => rfl
  | e :: fs, k, hn => by
    obtain ⟨h1, h2⟩ := List.nodup_cons.1 hn
    have ih := ky_del fs k h2
    unfold delF at ih ⊢
    simp only [mdel]
    cases hk : keyS (.str k) (e.get 0) with
    | true =>
      have hke : k = ky e := (key_iff _ _).1 hk
      subst hke
      simp only [cond_true]
      rw [List.map_cons, List.filter_cons, if_neg (by simp), List.filter_eq_self.2]
      intro y hy
      exact decide_eq_true fun e2 => h1 (e2 ▸ hy)
    | false =>
      have hke : ky e ≠ k := fun e2 => by
        have := (key_iff (.str k) (e.get 0)).2 e2.symm
        rw [hk] at this; cases this
      simp only [cond_false]
      rw [List.map_cons, ih, List.map_cons, List.filter_cons, if_pos (decide_eq_true hke)]
theorem lft_snoc (p out : List ByteArray) (s : ByteArray) : lft p (out ++ [s]) = (lft p out).filter fun x => decide (x ≠ s) := by
  unfold lft
  rw [List.filter_filter]
  congr 1
  funext x
  rw [hasB_snoc]
  by_cases e : x = s <;> cases hasB x out <;> simp [e]
theorem Ks.take {ms : List T} {free p out : List ByteArray} {c : ByteArray → Nat} {s : ByteArray} {rest : List ByteArray} (h : Ks ms free p out c) (hp : Ri p) (hf : free = s :: rest) : Ks (delF ms s) rest p (out ++ [s]) c := by
  refine ⟨?_, fun x hx hxo => ?_, ?_⟩
  · rw [ky_del ms s (h.nodup hp), lft_snoc]
    exact h.keys.filter _
  · rw [List.mem_append, List.mem_singleton, not_or] at hxo
    rw [gZ_del _ _ _ _ hxo.2]
    exact h.num x hx hxo.1
  · rw [fz_tail hp (h.free.symm.trans hf)]
end Go.Proofs.YtbejhhoakeapgaaGI
namespace Go.Proofs.YtbejhhoakeapgaaGI
open Go Go.Proofs.YtbejhhoakeapgaaVM
set_option linter.unusedVariables false
set_option linter.unusedSimpArgs false
set_option maxRecDepth 100000

theorem gI_eq (fs : List T) (s : ByteArray) : mget keyS (T.int 0) fs (T.str s) = gZ (.int 0) fs s := id rfl
theorem putI_eq (fs : List T) (s : ByteArray) (v : T) : mput keyS fs (T.str s) v = putF fs s v := id rfl
theorem delI_eq (fs : List T) (s : ByteArray) : mdel keyS fs (T.str s) = delF fs s := id rfl
theorem gZ_self (z : T) (fs : List T) (k : ByteArray) (v : T) : gZ z (putF fs k v) k = v := by rw [gZ_put, if_pos rfl]
def Cl (t : ByteArray → List ByteArray) (out : List ByteArray) : Prop := ∀ x ∈ out, ∀ y ∈ t x, y ∈ out
theorem isort_eq (n : Nat) (l : List T) : den Try.prog G0 ents (Nat.succ n) i_slices_Sorted none [A.t (T.node l)] = Option.map (fun o => (1, o)) (bif keysOk l then some [A.t (T.node (keysS l)), A.t (T.node l)] else none) := by kernel_rfl
end Go.Proofs.YtbejhhoakeapgaaGI
namespace Go.Proofs.YtbejhhoakeapgaaGI
open Go Go.Proofs.YtbejhhoakeapgaaVM
set_option linter.unusedVariables false
set_option linter.unusedSimpArgs false
set_option maxRecDepth 100000

theorem rhaso_loop (l : List ByteArray) (s : ByteArray) (hl : l.length ≤ 1000000) : ∀ (k j : Nat), j + k = l.length →
    Dz i_R17_Has_o (some p_R17_Has_o_c1) [A.t (T.str s), A.t (T.int j), A.t (T.node (tl l))] (if hasB s (l.drop j) then (1, [A.t (T.bool true), A.t (T.node (tl l))]) else (2, [A.t (T.node (tl l))])) := by
  intro k
  induction k with
  | zero =>
    intro j hj
    refine Does.now fun m => ?_
    rw [q_R17_Has_o_c1, List.drop_of_length_le (by omega)]
    simp only [S0, S9, S1, S2, if_true, if_false, tl_len]
    rw [if_neg (by omega)]
    rfl
  | succ k ih =>
    intro j hj
    have hlt : j < l.length := by omega
    have hw : IntKind.i64.wrap ((j : Int) + 1) = ((j + 1 : Nat) : Int) := i64succ (by omega)
    obtain ⟨n0, h0⟩ := ih (j + 1) (by omega)
    refine Does.of n0 fun m hm => ?_
    have q := h0 m hm
    rw [q_R17_Has_o_c1, List.drop_eq_getElem_cons hlt, hasB_cons]
    simp only [S0, S9, S1, S2, if_true, if_false, tl_len, tl_get hlt, txt_s, hw]
    rw [if_pos (by omega), if_pos (by omega), if_pos (by omega)]
    cases seqB l[j] s
    · simp only [Bool.false_eq_true, if_false, false_or]; exact q
    · simp only [if_true, true_or]
theorem rhaso_does (l : List ByteArray) (s : ByteArray) (hl : l.length ≤ 1000000) : Dz i_R17_Has_o none [A.t (T.str s), A.t (T.node (tl l))] (1, [A.t (T.bool (hasB s l)), A.t (T.node (tl l))]) := by
  obtain ⟨n0, h0⟩ := rhaso_loop l s hl l.length 0 (by omega)
  rw [List.drop_zero] at h0
  refine Does.of n0 fun m hm => ?_
  have q : den Try.prog G0 ents m i_R17_Has_o (some p_R17_Has_o_c1) [A.t (T.str s), A.t (T.int 0), A.t (T.node (tl l))] = _ := h0 m hm
  rw [q_R17_Has_o]
  simp only [S0, S9, S1, S2, if_true, if_false, q]
  cases hasB s l <;> rfl
theorem rord3_loop (x0 x1 : List T) (i : Int) (fnd : ByteArray) (sm : Bool) (jj : Int) (w out : List ByteArray) (hw : w.length ≤ 1000000) (ho : out.length ≤ 1000000) : ∀ (k j : Nat) (b : Bool), j + k = w.length →
    Dz i_R17_Order (some p_R17_Order_c3) [A.t (T.node x0), A.t (T.node x1), A.t (T.int i), A.t (T.str fnd), A.t (T.bool sm), A.t (T.int jj), A.t (T.bool b), A.t (T.node (tl w)), A.t (T.int j), A.t (T.node (tl out))]
      (6, [A.t (T.node x0), A.t (T.node x1), A.t (T.int i), A.t (T.str fnd), A.t (T.bool sm), A.t (T.int jj), A.t (T.bool (b && (w.drop j).all fun y => hasB y out)), A.t (T.node (tl out))]) := by
  intro k
  induction k with
  | zero =>
    intro j b hj
    refine Does.now fun m => ?_
    rw [q_R17_Order_c3, List.drop_of_length_le (by omega)]
    simp only [S0, S9, S1, S2, if_true, if_false, tl_len, List.all_nil, Bool.and_true]
    rw [if_neg (by omega)]
  | succ k ih =>
    intro j b hj
    have hlt : j < w.length := by omega
    have hw : IntKind.i64.wrap ((j : Int) + 1) = ((j + 1 : Nat) : Int) := i64succ (by omega)
    have hib : (0 : Int) ≤ (j : Int) ∧ (j : Int) < ((w.length : Nat) : Int) := ⟨by omega, by omega⟩
    rw [List.drop_eq_getElem_cons hlt, List.all_cons]
    cases b with
    | true =>
      obtain ⟨n0, h0⟩ := (rhaso_does out w[j] ho).both (ih (j + 1) (hasB w[j] out) (by omega))
      refine Does.of n0 fun m hm => ?_
      obtain ⟨q1, q2⟩ := h0 m hm
      rw [q_R17_Order_c3]
      simp only [S0, S9, S1, S2, if_true, if_false, tl_len, tl_get hlt, txt_s, hw, q1]
      rw [if_pos (by omega), if_pos (by omega), Bool.true_and]
      exact q2
    | false =>
      obtain ⟨n0, h0⟩ := ih (j + 1) false (by omega)
      refine Does.of n0 fun m hm => ?_
      have q := h0 m hm
      rw [q_R17_Order_c3]
      simp only [S0, S9, S1, S2, if_true, if_false, tl_len, tl_get hlt, txt_s, hw]
      rw [if_pos (by omega), Bool.false_and]
      rw [Bool.false_and] at q
      exact q
def frB (t : ByteArray → List ByteArray) (out : List ByteArray) (x : ByteArray) : Bool := !hasB x out && Nat.beq (cnt t out x) 0
theorem rord2_loop (p : List ByteArray) (hp : p.length ≤ 100000) (lt : List T) (hlt : lt.length ≤ 1000) (i : Int) (out : List ByteArray) (ho : out.length ≤ 1000000) : ∀ (k j : Nat), j + k = p.length →
    Dz i_R17_Order (some p_R17_Order_c2) [A.t (T.node (tl p)), A.t (T.node lt), A.t (T.int i), A.t (T.str ⟨List.toArray []⟩), A.t (T.bool false), A.t (T.int j), A.t (T.node (tl out))]
      (4, [A.t (T.node (tl p)), A.t (T.node lt), A.t (T.int i), A.t (T.str (((p.drop j).find? (frB (toOf (lt.map ln)) out)).getD ⟨List.toArray []⟩)), A.t (T.bool ((p.drop j).find? (frB (toOf (lt.map ln)) out)).isSome), A.t (T.node (tl out))]) := by
  intro k
  induction k with
  | zero =>
    intro j hj
    refine Does.now fun m => ?_
    rw [q_R17_Order_c2, List.drop_of_length_le (by omega)]
    simp only [S0, S9, S1, S2, if_true, if_false, tl_len, List.find?_nil, Option.getD_none, Option.isSome_none]
    rw [if_neg (by omega)]
  | succ k ih =>
    intro j hj
    have hj2 : j < p.length := by omega
    have hw : IntKind.i64.wrap ((j : Int) + 1) = ((j + 1 : Nat) : Int) := i64succ (by omega)
    have hib : (0 : Int) ≤ (j : Int) ∧ (j : Int) < ((p.length : Nat) : Int) := ⟨by omega, by omega⟩
    have htl := to_len (lt.map ln) p[j]
    rw [List.length_map] at htl
    obtain ⟨n0, h0⟩ := (rhaso_does out p[j] ho).both (ih (j + 1) (by omega))
    obtain ⟨n1, h1⟩ := (rto_does lt p[j] (by omega)).both (rord3_loop (tl p) lt i ⟨List.toArray []⟩ false (j : Nat) (toOf (lt.map ln) p[j]) out (by omega) ho (toOf (lt.map ln) p[j]).length 0 true (by omega))
    have hend : Dz i_R17_Order (some p_R17_Order_c2) [A.t (T.node (tl p)), A.t (T.node lt), A.t (T.int i), A.t (T.str p[j]), A.t (T.bool true), A.t (T.int ((j + 1 : Nat) : Int)), A.t (T.node (tl out))] (4, [A.t (T.node (tl p)), A.t (T.node lt), A.t (T.int i), A.t (T.str p[j]), A.t (T.bool true), A.t (T.node (tl out))]) := Does.now fun m => by
      rw [q_R17_Order_c2]
      simp only [S0, S9, S1, S2, if_true, if_false, tl_len, Bool.not_true]
      by_cases e : ((j + 1 : Nat) : Int) < (p.length : Nat)
      · rw [if_pos e]
      · rw [if_neg e]
    obtain ⟨n2, h2⟩ := hend
    refine Does.of (n0 + n1 + n2) fun m hm => ?_
    obtain ⟨q1, q2⟩ := h0 m (by omega)
    obtain ⟨q3, q4⟩ := h1 m (by omega)
    have q5 := h2 m (by omega)
    rw [List.drop_zero, Bool.true_and, all_cnt] at q4
    have q4' : den Try.prog G0 ents m i_R17_Order (some p_R17_Order_c3) [A.t (T.node (tl p)), A.t (T.node lt), A.t (T.int i), A.t (T.str ⟨List.toArray []⟩), A.t (T.bool false), A.t (T.int (j : Nat)), A.t (T.bool true), A.t (T.node (tl (toOf (lt.map ln) p[j]))), A.t (T.int 0), A.t (T.node (tl out))] = _ := q4
    rw [q_R17_Order_c2, List.drop_eq_getElem_cons hj2, List.find?_cons]
    have hfr : frB (toOf (lt.map ln)) out p[j] = (!hasB p[j] out && Nat.beq (cnt (toOf (lt.map ln)) out p[j]) 0) := rfl
    rw [hfr]
    simp only [S0, S9, S1, S2, if_true, if_false, tl_len, tl_get hj2, txt_s, hw, q1, q3, q4', Bool.not_false, show Nat.beq 6 6 = true from rfl, hib, and_self]
    cases hasB p[j] out with
    | true =>
      simp only [if_true, Bool.not_true, Bool.false_and]
      exact q2
    | false =>
      simp only [Bool.false_eq_true, if_false, Bool.not_false, Bool.true_and]
      cases hc : Nat.beq (cnt (toOf (lt.map ln)) out p[j]) 0 with
      | true =>
        simp only [if_true, Option.getD_some, Option.isSome_some]
        exact q5
      | false =>
        simp only [Bool.false_eq_true, if_false]
        exact q2
theorem find_fz (p : List ByteArray) (t : ByteArray → List ByteArray) (out : List ByteArray) : p.find? (frB t out) = (fz p out (cnt t out)).head? := by
  unfold fz
  rw [List.head?_filter]
  rfl
theorem rord1_loop (p : List ByteArray) (hp : p.length ≤ 100000) (lt : List T) (hlt : lt.length ≤ 1000) : ∀ (k j : Nat) (out : List ByteArray), j + k = p.length → out.length ≤ j →
    Dz i_R17_Order (some p_R17_Order_c1) [A.t (T.node (tl p)), A.t (T.node lt), A.t (T.int j), A.t (T.node (tl out))] (2, [A.t (T.node (tl p)), A.t (T.node (tl (iterO p (toOf (lt.map ln)) k out)))]) := by
  intro k
  induction k with
  | zero =>
    intro j out hj ho
    refine Does.now fun m => ?_
    rw [q_R17_Order_c1]
    simp only [S0, S9, S1, S2, if_true, if_false, tl_len]
    rw [if_neg (by omega)]
    rfl
  | succ k ih =>
    intro j out hj ho
    have hw : IntKind.i64.wrap ((j : Int) + 1) = ((j + 1 : Nat) : Int) := i64succ (by omega)
    have h2 := rord2_loop p hp lt hlt (j : Nat) out (by omega) p.length 0 (by omega)
    rw [List.drop_zero, find_fz] at h2
    have hsz : Nat.succ out.length < 1073741824 := by show _ + 1 < _; omega
    show Dz _ _ _ (2, [A.t (T.node (tl p)), A.t (T.node (tl (iterO p (toOf (lt.map ln)) k (stepO p (toOf (lt.map ln)) out))))])
    unfold stepO
    cases hf : fz p out (cnt (toOf (lt.map ln)) out) with
    | nil =>
      rw [hf] at h2
      obtain ⟨n0, h0⟩ := h2.both (ih (j + 1) out (by omega) (by omega))
      refine Does.of n0 fun m hm => ?_
      obtain ⟨q1, q2⟩ := h0 m hm
      have q1' : den Try.prog G0 ents m i_R17_Order (some p_R17_Order_c2) [A.t (T.node (tl p)), A.t (T.node lt), A.t (T.int (j : Nat)), A.t (T.str ⟨List.toArray []⟩), A.t (T.bool false), A.t (T.int 0), A.t (T.node (tl out))] = some (4, [A.t (T.node (tl p)), A.t (T.node lt), A.t (T.int (j : Nat)), A.t (T.str ⟨List.toArray []⟩), A.t (T.bool false), A.t (T.node (tl out))]) := q1
      rw [q_R17_Order_c1]
      simp only [S0, S9, S1, S2, if_true, if_false, tl_len, hw, q1', show Nat.beq 4 4 = true from rfl]
      rw [if_pos (by omega)]
      exact q2
    | cons s rest =>
      rw [hf] at h2
      obtain ⟨n0, h0⟩ := h2.both (ih (j + 1) (out ++ [s]) (by omega) (by rw [List.length_append, List.length_singleton]; omega))
      refine Does.of n0 fun m hm => ?_
      obtain ⟨q1, q2⟩ := h0 m hm
      have q1' : den Try.prog G0 ents m i_R17_Order (some p_R17_Order_c2) [A.t (T.node (tl p)), A.t (T.node lt), A.t (T.int (j : Nat)), A.t (T.str ⟨List.toArray []⟩), A.t (T.bool false), A.t (T.int 0), A.t (T.node (tl out))] = some (4, [A.t (T.node (tl p)), A.t (T.node lt), A.t (T.int (j : Nat)), A.t (T.str s), A.t (T.bool true), A.t (T.node (tl out))]) := q1
      rw [q_R17_Order_c1]
      simp only [S0, S9, S1, S2, if_true, if_false, tl_len, txt_s, hw, q1', hsz, show Nat.beq 4 4 = true from rfl]
      rw [if_pos (by omega)]
      rw [tl_app] at q2
      exact q2
theorem rord4_loop (p out : List ByteArray) (hp : p.length ≤ 100000) (ho : out.length ≤ 1000000) : ∀ (k j : Nat), j + k = p.length →
    Dz i_R17_Order (some p_R17_Order_c4) [A.t (T.node (tl p)), A.t (T.int j), A.t (T.node (tl out)), A.t (T.node (tl (lft (p.take j) out)))] (8, [A.t (T.node (tl out)), A.t (T.node (tl (lft p out)))]) := by
  intro k
  induction k with
  | zero =>
    intro j hj
    refine Does.now fun m => ?_
    rw [q_R17_Order_c4, List.take_of_length_le (by omega)]
    simp only [S0, S9, S1, S2, if_true, if_false, tl_len]
    rw [if_neg (by omega)]
  | succ k ih =>
    intro j hj
    have hlt : j < p.length := by omega
    have hw : IntKind.i64.wrap ((j : Int) + 1) = ((j + 1 : Nat) : Int) := i64succ (by omega)
    have hll : (lft (p.take j) out).length ≤ p.length := Nat.le_trans (List.length_filter_le _ _) (by rw [List.length_take]; omega)
    have hsz : Nat.succ (lft (p.take j) out).length < 1073741824 := by show _ + 1 < _; omega
    have hi := ih (j + 1) (by omega)
    have e : lft (p.take (j + 1)) out = lft (p.take j) out ++ (if hasB p[j] out then [] else [p[j]]) := by
      unfold lft
      rw [take_succ' hlt, List.filter_append, List.filter_cons]
      cases hasB p[j] out <;> rfl
    rw [e, tl_app] at hi
    obtain ⟨n0, h0⟩ := (rhaso_does out p[j] ho).both hi
    refine Does.of n0 fun m hm => ?_
    obtain ⟨q1, q2⟩ := h0 m hm
    rw [q_R17_Order_c4]
    simp only [S0, S9, S1, S2, if_true, if_false, tl_len, tl_get hlt, txt_s, hw, q1, hsz]
    rw [if_pos (by omega), if_pos (by omega)]
    cases hb : hasB p[j] out with
    | true =>
      rw [hb] at q2
      simp only [if_true, Bool.not_true, Bool.false_eq_true, if_false]
      rw [if_pos rfl, show tl [] = [] from rfl, List.append_nil] at q2
      exact q2
    | false =>
      rw [hb] at q2
      simp only [Bool.false_eq_true, if_false, Bool.not_false, if_true]
      rw [if_pos (by omega)]
      simp only [Bool.false_eq_true, if_false] at q2
      exact q2
theorem rorder17_does (p : List ByteArray) (hp : p.length ≤ 100000) (lt : List T) (hlt : lt.length ≤ 1000) {out : List ByteArray} (h : out = iterO p (toOf (lt.map ln)) p.length []) (ho : out.length ≤ 100000) :
    Dz i_R17_Order none [A.t (T.node (tl p)), A.t (T.node lt)] (1, [A.t (T.node (tl out)), A.t (T.node (tl (lft p out)))]) := by
  have h1 := rord1_loop p hp lt hlt p.length 0 [] (by omega) (Nat.le_refl _)
  rw [← h] at h1
  obtain ⟨n0, h0⟩ := h1.both (rord4_loop p out hp (by omega) p.length 0 (by omega))
  refine Does.of n0 fun m hm => ?_
  have q1 : den Try.prog G0 ents m i_R17_Order (some p_R17_Order_c1) [A.t (T.node (tl p)), A.t (T.node lt), A.t (T.int 0), A.t (T.node [])] = _ := (h0 m hm).1
  have q2 : den Try.prog G0 ents m i_R17_Order (some p_R17_Order_c4) [A.t (T.node (tl p)), A.t (T.int 0), A.t (T.node (tl out)), A.t (T.node [])] = _ := (h0 m hm).2
  rw [q_R17_Order]
  simp only [S0, S9, S1, S2, if_true, if_false, q1, q2, show Nat.beq 8 8 = true from rfl]
end Go.Proofs.YtbejhhoakeapgaaGI
namespace Go.Proofs.YtbejhhoakeapgaaGI
open Go Go.Proofs.YtbejhhoakeapgaaVM
set_option linter.unusedVariables false
set_option linter.unusedSimpArgs false
set_option maxRecDepth 100000
def szZ (x : Int) : Nat := x.natAbs
def sltBZ (a b : Int) : Bool := decide (a < b)
def seqBZ (a b : Int) : Bool := decide (a = b)
theorem sltBZ_iff (a b : Int) : sltBZ a b = true ↔ a < b := decide_eq_true_iff
theorem num_s (n : Int) : (T.int n).num = n := rfl
theorem lt_irrZ (a : Int) : sltBZ a a = false := decide_eq_false (Int.lt_irrefl a)
theorem lt_trZ {a b c : Int} (h1 : sltBZ a b = true) (h2 : sltBZ b c = true) : sltBZ a c = true := (sltBZ_iff _ _).2 (Int.lt_trans ((sltBZ_iff _ _).1 h1) ((sltBZ_iff _ _).1 h2))
theorem lt_neZ {a b : Int} (h : sltBZ a b = true) : a ≠ b := fun e => by subst e; rw [lt_irrZ] at h; cases h
theorem lt_orZ {a b : Int} (h : sltBZ a b = false) (hn : a ≠ b) : sltBZ b a = true := by
  rw [sltBZ_iff]
  have : ¬ a < b := of_decide_eq_false h
  omega
theorem seq_isZ {a b : Int} : seqBZ a b = true ↔ a = b := decide_eq_true_iff
theorem seq_noZ {a b : Int} (h : a ≠ b) : seqBZ a b = false := decide_eq_false h
theorem key_selfZ (s : Int) : keyI (.int s) (.int s) = true := decide_eq_true rfl
theorem key_iffZ (a b : T) : keyI a b = true ↔ a.num = b.num := by
  unfold keyI
  first | exact beq_iff_eq | exact decide_eq_true_iff
def hFZ (fs : List T) (s : Int) : Bool := mhas keyI fs (.int s)
def putFZ (fs : List T) (s : Int) (v : T) : List T := mput keyI fs (.int s) v
def delFZ (fs : List T) (s : Int) : List T := mdel keyI fs (.int s)
theorem put_eqZ (fs : List T) (s : Int) (v : T) : mput keyI fs (T.int s) v = putFZ fs s v := id rfl
theorem hF_eqZ (fs : List T) (s : Int) : mhas keyI fs (T.int s) = hFZ fs s := id rfl
def kyZ (e : T) : Int := (e.get 0).num
theorem hF_memZ (fs : List T) (k : Int) : hFZ fs k = true ↔ k ∈ fs.map kyZ := by
  unfold hFZ mhas
  rw [List.any_eq_true, List.mem_map]
  exact ⟨fun ⟨e, he, hk⟩ => ⟨e, he, ((key_iffZ _ _).1 hk).symm⟩, fun ⟨e, he, hk⟩ => ⟨e, he, (key_iffZ _ _).2 hk.symm⟩⟩
theorem put_inZ {k : Int} {v : T} : ∀ {fs : List T}, k ∈ fs.map kyZ → (putFZ fs k v).map kyZ = fs.map kyZ
  | [], h => by simp at h
  | e :: es, h => by
    unfold putFZ
    simp only [mput]
    cases hk : keyI (.int k) (e.get 0) with
    | true =>
      have hke : k = kyZ e := (key_iffZ _ _).1 hk
      simp only [cond_true, List.map_cons]
      rw [← hke]; rfl
    | false =>
      simp only [cond_false, List.map_cons]
      rw [List.map_cons] at h
      rcases List.mem_cons.1 h with h | h
      · rw [show keyI (.int k) (e.get 0) = true from (key_iffZ _ _).2 h] at hk; cases hk
      · rw [show (mput keyI es (.int k) v).map kyZ = es.map kyZ from put_inZ h]
theorem put_outZ {k : Int} {v : T} : ∀ {fs : List T}, k ∉ fs.map kyZ → (putFZ fs k v).map kyZ = fs.map kyZ ++ [k]
  | [], _ => rfl
  | e :: es, h => by
    rw [List.map_cons, List.mem_cons, not_or] at h
    unfold putFZ
    simp only [mput]
    have hk : keyI (.int k) (e.get 0) = false := by
      cases hq : keyI (.int k) (e.get 0) with
      | false => rfl
      | true => exact absurd ((key_iffZ _ _).1 hq) h.1
    rw [hk]
    simp only [cond_false, List.map_cons, List.cons_append]
    rw [show (mput keyI es (.int k) v).map kyZ = es.map kyZ ++ [k] from put_outZ h.2]
def hasBZ (s : Int) (l : List Int) : Bool := l.any fun x => seqBZ x s
theorem hasB_iffZ {s : Int} {l : List Int} : hasBZ s l = true ↔ s ∈ l := by
  unfold hasBZ
  rw [List.any_eq_true]
  exact ⟨fun ⟨x, hx, e⟩ => seq_isZ.1 e ▸ hx, fun h => ⟨s, h, seq_isZ.2 rfl⟩⟩
theorem hasB_noZ {s : Int} {l : List Int} (h : s ∉ l) : hasBZ s l = false := by
  cases hb : hasBZ s l with
  | false => rfl
  | true => exact absurd (hasB_iffZ.1 hb) h
theorem hasB_consZ (s x : Int) (l : List Int) : hasBZ s (x :: l) = (seqBZ x s || hasBZ s l) := rfl
def tlZ (l : List Int) : List T := l.map T.int
def RiZ (l : List Int) : Prop := l.Pairwise fun a b => sltBZ a b = true
def insTZ (s : Int) : List Int → List Int
  | [] => [s]
  | y :: l => if sltBZ y s then y :: insTZ s l else if y = s then y :: l else s :: y :: l
theorem mem_insTZ {s x : Int} : ∀ {l : List Int}, x ∈ insTZ s l ↔ x = s ∨ x ∈ l
  | [] => by simp [insTZ]
  | y :: l => by
    unfold insTZ
    split
    · rw [List.mem_cons, List.mem_cons, mem_insTZ]
      exact ⟨fun h => h.elim (fun h => .inr (.inl h)) (fun h => h.elim .inl (fun h => .inr (.inr h))), fun h => h.elim (fun h => .inr (.inl h)) (fun h => h.elim .inl (fun h => .inr (.inr h)))⟩
    · split
      · rename_i e
        subst e
        rw [List.mem_cons]
        exact ⟨fun h => .inr h, fun h => h.elim (fun h => .inl h) (fun h => h)⟩
      · rw [List.mem_cons]
theorem insT_riseZ {s : Int} : ∀ {l : List Int}, RiZ l → RiZ (insTZ s l)
  | [], _ => List.pairwise_singleton _ _
  | y :: l, h => by
    obtain ⟨h1, h2⟩ := List.pairwise_cons.1 h
    unfold insTZ
    cases hy : sltBZ y s with
    | true =>
      rw [if_pos rfl]
      refine List.pairwise_cons.2 ⟨fun x hx => ?_, insT_riseZ h2⟩
      rcases mem_insTZ.1 hx with rfl | hx
      · exact hy
      · exact h1 x hx
    | false =>
      simp only [Bool.false_eq_true, if_false]
      by_cases e : y = s
      · rw [if_pos e]; exact h
      · rw [if_neg e]
        have hg := lt_orZ hy e
        refine List.pairwise_cons.2 ⟨fun x hx => ?_, h⟩
        rcases List.mem_cons.1 hx with rfl | hx
        · exact hg
        · exact lt_trZ hg (h1 x hx)
theorem insT_lenZ (s : Int) : ∀ l : List Int, (insTZ s l).length ≤ l.length + 1
  | [] => Nat.le_refl _
  | y :: l => by
    unfold insTZ
    split
    · have := insT_lenZ s l; simp only [List.length_cons]; omega
    · split <;> simp
theorem RiZ.nodup {l : List Int} (h : RiZ l) : l.Nodup := by
  unfold List.Nodup
  exact h.imp fun h => lt_neZ h
theorem RiZ.ext {a b : List Int} (ha : RiZ a) (hb : RiZ b) (h : ∀ x, x ∈ a ↔ x ∈ b) : a = b := by
  have hp : a.Perm b := (List.perm_ext_iff_of_nodup ha.nodup hb.nodup).2 h
  exact List.Perm.eq_of_pairwise (le := fun x y : Int => x ≤ y) (fun x y _ _ h1 h2 => Int.le_antisymm h1 h2) (ha.imp fun h => Int.le_of_lt ((sltBZ_iff _ _).1 h)) (hb.imp fun h => Int.le_of_lt ((sltBZ_iff _ _).1 h)) hp
theorem insT_hasZ {s : Int} {l : List Int} (h : RiZ l) (hs : s ∈ l) : insTZ s l = l :=
  RiZ.ext (insT_riseZ h) h fun x => by rw [mem_insTZ]; exact ⟨fun h => h.elim (fun e => e ▸ hs) id, .inr⟩
def posZ (s : Int) : List Int → Nat
  | [] => 0
  | y :: l => if sltBZ y s then posZ s l + 1 else 0
theorem pos_leZ (s : Int) : ∀ l : List Int, posZ s l ≤ l.length
  | [] => Nat.le_refl _
  | y :: l => by unfold posZ; split; · have := pos_leZ s l; simp only [List.length_cons]; omega
                 · exact Nat.zero_le _
theorem pos_ltZ {s : Int} : ∀ {l : List Int}, RiZ l → ∀ (j : Nat) (hj : j < l.length), (sltBZ l[j] s = true ↔ j < posZ s l)
  | [], _, j, hj => by simp at hj
  | y :: l, h, j, hj => by
    obtain ⟨h1, h2⟩ := List.pairwise_cons.1 h
    unfold posZ
    cases hy : sltBZ y s with
    | true =>
      rw [if_pos rfl]
      cases j with
      | zero => simp [hy]
      | succ j =>
        have := pos_ltZ (s := s) h2 j (by simpa using hj)
        rw [List.getElem_cons_succ, this]
        omega
    | false =>
      simp only [Bool.false_eq_true, if_false]
      refine ⟨fun hl => ?_, fun hl => by omega⟩
      cases j with
      | zero => rw [List.getElem_cons_zero, hy] at hl; cases hl
      | succ j =>
        rw [List.getElem_cons_succ] at hl
        have := lt_trZ (h1 _ (List.getElem_mem (by simpa using hj))) hl
        rw [hy] at this; cases this
theorem pos_memZ {s : Int} : ∀ {l : List Int}, RiZ l → (s ∈ l ↔ l[posZ s l]? = some s)
  | [], _ => by simp
  | y :: l, h => by
    obtain ⟨h1, h2⟩ := List.pairwise_cons.1 h
    unfold posZ
    cases hy : sltBZ y s with
    | true =>
      rw [if_pos rfl, List.getElem?_cons_succ, ← pos_memZ h2, List.mem_cons]
      exact ⟨fun h => h.resolve_left fun e => lt_neZ hy e.symm, .inr⟩
    | false =>
      simp only [Bool.false_eq_true, if_false, List.getElem?_cons_zero, Option.some.injEq, List.mem_cons]
      refine ⟨fun h => h.elim Eq.symm fun hs => ?_, fun e => .inl e.symm⟩
      have := h1 s hs
      rw [hy] at this; cases this
theorem pos_insZ {s : Int} : ∀ {l : List Int}, s ∉ l → insTZ s l = l.take (posZ s l) ++ [s] ++ l.drop (posZ s l)
  | [], _ => rfl
  | y :: l, h => by
    rw [List.mem_cons, not_or] at h
    unfold insTZ posZ
    split
    · rw [pos_insZ h.2]; simp
    · rw [if_neg fun e => h.1 e.symm]; simp
theorem insL_tlZ {s : Int} {l : List Int} (h : s ∉ l) : insL ((posZ s l : Nat) : Int) (tlZ l) [T.int s] = tlZ (insTZ s l) := by
  unfold insL tlZ
  rw [pos_insZ h, Int.toNat_natCast]
  simp [List.map_take, List.map_drop]

def ptsOfZ (l : List Int) (L : List (Int × Int)) : List Int := L.foldl (fun a x => insTZ x.2 (insTZ x.1 a)) (l.foldl (fun a s => insTZ s a) [])
def toOfZ (L : List (Int × Int)) (k : Int) : List Int := L.foldl (fun a x => if x.1 = k then insTZ x.2 a else a) []
theorem fold_riseZ : ∀ (l a : List Int), RiZ a → RiZ (l.foldl (fun a s => insTZ s a) a)
  | [], _, h => h
  | s :: l, a, h => fold_riseZ l _ (insT_riseZ h)
theorem mem_foldZ {x : Int} : ∀ (l a : List Int), x ∈ l.foldl (fun a s => insTZ s a) a ↔ x ∈ a ∨ x ∈ l
  | [], a => by simp
  | s :: l, a => by
    rw [List.foldl_cons, mem_foldZ l, mem_insTZ, List.mem_cons]
    exact ⟨fun h => h.elim (fun h => h.elim (fun h => .inr (.inl h)) .inl) (fun h => .inr (.inr h)), fun h => h.elim (fun h => .inl (.inr h)) (fun h => h.elim (fun h => .inl (.inl h)) .inr)⟩
theorem foldL_riseZ : ∀ (L : List (Int × Int)) (a : List Int), RiZ a → RiZ (L.foldl (fun a x => insTZ x.2 (insTZ x.1 a)) a)
  | [], _, h => h
  | s :: l, a, h => foldL_riseZ l _ (insT_riseZ (insT_riseZ h))
theorem mem_foldLZ {x : Int} : ∀ (L : List (Int × Int)) (a : List Int), x ∈ L.foldl (fun a x => insTZ x.2 (insTZ x.1 a)) a ↔ x ∈ a ∨ ∃ y ∈ L, x = y.1 ∨ x = y.2
  | [], a => by simp
  | s :: l, a => by
    rw [List.foldl_cons, mem_foldLZ l, mem_insTZ, mem_insTZ]
    constructor
    · rintro ((h | h | h) | ⟨y, hy, h⟩)
      · exact .inr ⟨s, List.mem_cons_self, .inr h⟩
      · exact .inr ⟨s, List.mem_cons_self, .inl h⟩
      · exact .inl h
      · exact .inr ⟨y, List.mem_cons_of_mem _ hy, h⟩
    · rintro (h | ⟨y, hy, h⟩)
      · exact .inl (.inr (.inr h))
      · rcases List.mem_cons.1 hy with rfl | hy
        · exact h.elim (fun h => .inl (.inr (.inl h))) (fun h => .inl (.inl h))
        · exact .inr ⟨y, hy, h⟩
theorem pts_riseZ (l : List Int) (L : List (Int × Int)) : RiZ (ptsOfZ l L) := foldL_riseZ L _ (fold_riseZ l [] List.Pairwise.nil)
theorem mem_ptsZ {x : Int} {l : List Int} {L : List (Int × Int)} : x ∈ ptsOfZ l L ↔ x ∈ l ∨ ∃ y ∈ L, x = y.1 ∨ x = y.2 := by
  unfold ptsOfZ
  rw [mem_foldLZ, mem_foldZ]
  simp
theorem foldT_riseZ (k : Int) : ∀ (L : List (Int × Int)) (a : List Int), RiZ a → RiZ (L.foldl (fun a x => if x.1 = k then insTZ x.2 a else a) a)
  | [], _, h => h
  | s :: l, a, h => by
    rw [List.foldl_cons]
    refine foldT_riseZ k l _ ?_
    split
    · exact insT_riseZ h
    · exact h
theorem mem_foldTZ {x k : Int} : ∀ (L : List (Int × Int)) (a : List Int), x ∈ L.foldl (fun a x => if x.1 = k then insTZ x.2 a else a) a ↔ x ∈ a ∨ (k, x) ∈ L
  | [], a => by simp
  | (u, v) :: l, a => by
    rw [List.foldl_cons, mem_foldTZ l, List.mem_cons, Prod.mk.injEq]
    by_cases e : u = k
    · rw [if_pos e, mem_insTZ]
      exact ⟨fun h => h.elim (fun h => h.elim (fun h => .inr (.inl ⟨e.symm, h⟩)) .inl) (fun h => .inr (.inr h)), fun h => h.elim (fun h => .inl (.inr h)) (fun h => h.elim (fun h => .inl (.inl h.2)) .inr)⟩
    · rw [if_neg e]
      exact ⟨fun h => h.imp id .inr, fun h => h.imp id fun h => h.resolve_left fun h => e h.1.symm⟩
theorem to_riseZ (L : List (Int × Int)) (k : Int) : RiZ (toOfZ L k) := foldT_riseZ k L [] List.Pairwise.nil
theorem mem_toZ {x k : Int} {L : List (Int × Int)} : x ∈ toOfZ L k ↔ (k, x) ∈ L := by
  unfold toOfZ
  rw [mem_foldTZ]
  simp
theorem foldT_lenZ (k : Int) : ∀ (L : List (Int × Int)) (a : List Int), (L.foldl (fun a x => if x.1 = k then insTZ x.2 a else a) a).length ≤ a.length + L.length
  | [], a => Nat.le_refl _
  | s :: l, a => by
    rw [List.foldl_cons]
    have h1 := foldT_lenZ k l (if s.1 = k then insTZ s.2 a else a)
    have h2 : (if s.1 = k then insTZ s.2 a else a).length ≤ a.length + 1 := by
      split
      · exact insT_lenZ _ _
      · omega
    simp only [List.length_cons]
    omega
theorem to_lenZ (L : List (Int × Int)) (k : Int) : (toOfZ L k).length ≤ L.length := by have := foldT_lenZ k L []; rw [List.length_nil, Nat.zero_add] at this; exact this
theorem fold_lenZ : ∀ (l a : List Int), (l.foldl (fun a s => insTZ s a) a).length ≤ a.length + l.length
  | [], a => Nat.le_refl _
  | s :: l, a => by
    rw [List.foldl_cons]
    have h1 := fold_lenZ l (insTZ s a)
    have h2 := insT_lenZ s a
    simp only [List.length_cons]
    omega
theorem foldL_lenZ : ∀ (L : List (Int × Int)) (a : List Int), (L.foldl (fun a x => insTZ x.2 (insTZ x.1 a)) a).length ≤ a.length + 2 * L.length
  | [], a => Nat.le_refl _
  | s :: l, a => by
    rw [List.foldl_cons]
    have h1 := foldL_lenZ l (insTZ s.2 (insTZ s.1 a))
    have h2 := insT_lenZ s.2 (insTZ s.1 a)
    have h3 := insT_lenZ s.1 a
    simp only [List.length_cons]
    omega
theorem pts_lenZ (l : List Int) (L : List (Int × Int)) : (ptsOfZ l L).length ≤ l.length + 2 * L.length := by
  have h1 := foldL_lenZ L (l.foldl (fun a s => insTZ s a) [])
  have h2 := fold_lenZ l []
  unfold ptsOfZ
  simp only [List.length_nil] at h2
  omega
def swpZ (L : List (Int × Int)) : List (Int × Int) := L.map fun x => (x.2, x.1)
theorem mem_swpZ {a b : Int} {L : List (Int × Int)} : (a, b) ∈ swpZ L ↔ (b, a) ∈ L := by
  unfold swpZ
  rw [List.mem_map]
  exact ⟨fun ⟨x, hx, e⟩ => by cases e; exact hx, fun h => ⟨_, h, rfl⟩⟩
theorem tl_lenZ (l : List Int) : (tlZ l).length = l.length := by unfold tlZ; rw [List.length_map]
theorem tl_getZ {l : List Int} {j : Nat} (h : j < l.length) : tAtD (tlZ l) j = T.int l[j] := by
  rw [at_get (by rw [tl_lenZ]; exact h)]
  unfold tlZ
  simp
theorem tl_appZ (a b : List Int) : tlZ (a ++ b) = tlZ a ++ tlZ b := by unfold tlZ; simp

def gZZ (z : T) (fs : List T) (s : Int) : T := mget keyI z fs (.int s)
theorem gZ_putZ (z : T) (fs : List T) (k s : Int) (v : T) : gZZ z (putFZ fs k v) s = if s = k then v else gZZ z fs s := by
  unfold gZZ putFZ
  induction fs with
  | nil =>
    show mget keyI z [.node [.int k, v]] (.int s) = _
    simp only [mget]
    by_cases h : s = k
    · subst h
      rw [show keyI (.int s) ((T.node [.int s, v]).get 0) = true from key_selfZ s, if_pos rfl]
      rfl
    · have : keyI (.int s) ((T.node [.int k, v]).get 0) = false := by
        cases hq : keyI (.int s) ((T.node [.int k, v]).get 0) with
        | false => rfl
        | true => exact absurd ((key_iffZ _ _).1 hq) h
      rw [this, if_neg h]
      rfl
  | cons e es ih =>
    simp only [mput]
    cases hk : keyI (.int k) (e.get 0) with
    | true =>
      have hke : k = (e.get 0).num := (key_iffZ _ _).1 hk
      simp only [cond_true, mget]
      by_cases h : s = k
      · subst h
        rw [show keyI (.int s) ((T.node [.int s, v]).get 0) = true from key_selfZ s, if_pos rfl]
        rfl
      · have h1 : keyI (.int s) ((T.node [.int k, v]).get 0) = false := by
          cases hq : keyI (.int s) ((T.node [.int k, v]).get 0) with
          | false => rfl
          | true => exact absurd ((key_iffZ _ _).1 hq) h
        have h2 : keyI (.int s) (e.get 0) = false := by
          cases hq : keyI (.int s) (e.get 0) with
          | false => rfl
          | true => exact absurd (((key_iffZ _ _).1 hq).trans hke.symm) h
        rw [h1, h2, if_neg h]
        rfl
    | false =>
      simp only [cond_false, mget]
      cases hs : keyI (.int s) (e.get 0) with
      | true =>
        have hne : ¬ s = k := fun h => by subst h; rw [hs] at hk; cases hk
        rw [if_neg hne]
        rfl
      | false => simp only [cond_false]; exact ih
theorem gZ_delZ (z : T) (fs : List T) (k s : Int) (h : s ≠ k) : gZZ z (delFZ fs k) s = gZZ z fs s := by
  unfold gZZ delFZ
  induction fs with
  | nil => rfl
  | cons e es ih =>
    simp only [mdel]
    cases hk : keyI (.int k) (e.get 0) with
    | true =>
      have hke : k = (e.get 0).num := (key_iffZ _ _).1 hk
      have h2 : keyI (.int s) (e.get 0) = false := by
        cases hq : keyI (.int s) (e.get 0) with
        | false => rfl
        | true => exact absurd (((key_iffZ _ _).1 hq).trans hke.symm) h
      simp only [cond_true, mget, h2, cond_false]
    | false =>
      simp only [cond_false, mget]
      cases hs : keyI (.int s) (e.get 0)
      · simp only [cond_false]; exact ih
      · rfl
theorem gZ_noZ {z : T} {fs : List T} {s : Int} (h : hFZ fs s = false) : gZZ z fs s = z := by
  unfold hFZ mhas at h
  unfold gZZ
  induction fs with
  | nil => rfl
  | cons e es ih =>
    rw [List.any_cons, Bool.or_eq_false_iff] at h
    simp only [mget, h.1, cond_false]
    exact ih h.2
theorem keys_ofZ {fs : List T} {p : List Int} (hp : (fs.map kyZ).Perm p) (hr : RiZ p) : keysI fs = tlZ p := by
  have e : keysZ fs = p := List.Perm.eq_of_pairwise (le := fun a b : Int => a ≤ b) (fun a b _ _ h1 h2 => Int.le_antisymm h1 h2) (keysZ_rise fs) (hr.imp fun h => Int.le_of_lt ((sltBZ_iff _ _).1 h)) ((keysZ_perm fs).trans hp)
  unfold keysI
  rw [e]
  rfl
theorem keysOk_ofZ {fs : List T} {p : List Int} (hp : (fs.map kyZ).Perm p) (hl : p.length ≤ 1000000) (hs : ∀ x ∈ p, szZ x ≤ 1000000) : keysIOk fs = true := by
  have h1 : fs.length = p.length := by have := hp.length_eq; simpa using this
  unfold keysIOk
  rw [Bool.and_eq_true, List.all_eq_true]
  refine ⟨Nat.ble_eq_true_of_le (by omega), fun e he => ?_⟩
  have hm : kyZ e ∈ p := hp.mem_iff.1 (List.mem_map.2 ⟨e, he, rfl⟩)
  have := hs _ hm
  unfold szZ at this
  show (Lit.int .i64 (kyZ e)).wf = true
  simp only [Lit.wf, IntKind.min, IntKind.max, IntKind.signed, IntKind.bits, if_true, Bool.and_eq_true, decide_eq_true_eq]
  omega
end Go.Proofs.YtbejhhoakeapgaaGI
namespace Go.Proofs.YtbejhhoakeapgaaGI
open Go Go.Proofs.YtbejhhoakeapgaaVM
set_option linter.unusedVariables false
set_option linter.unusedSimpArgs false
set_option maxRecDepth 100000
structure GrZ (fs : List T) (p : List Int) (t : Int → List Int) : Prop where
  rise : RiZ p
  perm : (fs.map kyZ).Perm p
  to : ∀ s, (gZZ (.node []) fs s).kids = tlZ (t s)
  tri : ∀ s, RiZ (t s)
  len : p.length ≤ 200000
  tlen : ∀ s, (t s).length ≤ 200000
  siz : ∀ x ∈ p, (szZ x) ≤ 100
  tsiz : ∀ s, ∀ x ∈ t s, (szZ x) ≤ 100
theorem GrZ.has {fs : List T} {p : List Int} {t : Int → List Int} (h : GrZ fs p t) (s : Int) : hFZ fs s = hasBZ s p := by
  cases hb : hasBZ s p with
  | true => exact (hF_memZ _ _).2 (h.perm.mem_iff.2 (hasB_iffZ.1 hb))
  | false =>
    cases hh : hFZ fs s with
    | false => rfl
    | true =>
      have := hasB_iffZ.2 (h.perm.mem_iff.1 ((hF_memZ _ _).1 hh))
      rw [hb] at this; cases this
theorem GrZ.out {fs : List T} {p : List Int} {t : Int → List Int} (h : GrZ fs p t) {s : Int} (hs : s ∉ p) : t s = [] := by
  have h1 : hFZ fs s = false := by rw [h.has]; exact hasB_noZ hs
  have h2 := h.to s
  rw [gZ_noZ h1] at h2
  have : (tlZ (t s)).length = 0 := by rw [← h2]; rfl
  rw [tl_lenZ] at this
  exact List.eq_nil_of_length_eq_zero this
def updTZ (t : Int → List Int) (a : Int) (v : List Int) : Int → List Int := fun s => if s = a then v else t s
theorem GrZ.add {fs : List T} {p : List Int} {t : Int → List Int} (h : GrZ fs p t) {s : Int} (hs : (szZ s) ≤ 100) (hl : p.length < 200000) (hn : s ∉ p) : GrZ (putFZ fs s (.node [])) (insTZ s p) t := by
  have hk : s ∉ fs.map kyZ := fun h' => hn (h.perm.mem_iff.1 h')
  refine ⟨insT_riseZ h.rise, ?_, fun x => ?_, h.tri, by have := insT_lenZ s p; omega, h.tlen, fun x hx => ?_, h.tsiz⟩
  · rw [put_outZ hk]
    refine (List.perm_append_singleton _ _).trans ((h.perm.cons s).trans ?_)
    rw [List.perm_ext_iff_of_nodup (List.nodup_cons.2 ⟨hn, h.rise.nodup⟩) (insT_riseZ h.rise).nodup]
    intro x
    rw [mem_insTZ, List.mem_cons]
  · rw [gZ_putZ]
    split
    · rename_i e
      subst e
      rw [h.out hn]
      rfl
    · exact h.to x
  · rcases mem_insTZ.1 hx with rfl | hx
    · exact hs
    · exact h.siz x hx
theorem GrZ.set {fs : List T} {p : List Int} {t : Int → List Int} (h : GrZ fs p t) {a : Int} (ha : a ∈ p) {l : List Int} (hl : RiZ l) (hn : l.length ≤ 200000) (hs : ∀ x ∈ l, (szZ x) ≤ 100) : GrZ (putFZ fs a (.node (tlZ l))) p (updTZ t a l) := by
  refine ⟨h.rise, by rw [put_inZ (h.perm.mem_iff.2 ha)]; exact h.perm, fun x => ?_, fun x => ?_, h.len, fun x => ?_, h.siz, fun x y hy => ?_⟩
  · rw [gZ_putZ]
    unfold updTZ
    split
    · rfl
    · exact h.to x
  · unfold updTZ; split
    · exact hl
    · exact h.tri x
  · unfold updTZ; split
    · exact hn
    · exact h.tlen x
  · unfold updTZ at hy; split at hy
    · exact hs y hy
    · exact h.tsiz x y hy
theorem ph_doesZ (fs : List T) (s : Int) : Dz i_graph_Graph_int_Has none [A.t (T.int s), A.t (T.node fs)] (1, [A.t (T.bool (hFZ fs s)), A.t (T.node fs)]) := Does.now fun m => by
  rw [q_graph_Graph_int_Has]
  simp only [S0, S9, S1, S2, if_true, if_false, hF_eqZ]
theorem gZ_eqZ (fs : List T) (s : Int) : mget keyI (T.node []) fs (T.int s) = gZZ (.node []) fs s := id rfl
theorem padd_doesZ {fs : List T} {p : List Int} {t : Int → List Int} (h : GrZ fs p t) {s : Int} (hs : (szZ s) ≤ 100) (hl : p.length < 200000) : ∃ fs', GrZ fs' (insTZ s p) t ∧ Dz i_graph_Graph_int_Add none [A.t (T.int s), A.t (T.node fs)] (1, [A.t (T.node fs')]) := by
  obtain ⟨n0, h0⟩ := ph_doesZ fs s
  by_cases hn : s ∈ p
  · refine ⟨fs, by rw [insT_hasZ h.rise hn]; exact h, Does.of n0 fun m hm => ?_⟩
    rw [q_graph_Graph_int_Add]
    simp only [S0, S9, S1, S2, if_true, if_false, h0 m hm, h.has, hasB_iffZ.2 hn, Bool.not_true, Bool.false_eq_true]
  · refine ⟨_, h.add hs hl hn, Does.of n0 fun m hm => ?_⟩
    rw [q_graph_Graph_int_Add]
    simp only [S0, S9, S1, S2, if_true, if_false, h0 m hm, h.has, hasB_noZ hn, Bool.not_false, put_eqZ]
theorem less_doesZ (a b : Int) : Dz i_cmp_Less_int none [A.t (T.int a), A.t (T.int b)] (1, [A.t (T.bool (sltBZ a b))]) := by
  have h1 : Dz i_cmp_isNaN_int none [A.t (T.int a)] (1, [A.t (T.bool false)]) := Does.now fun m => by
    rw [q_cmp_isNaN_int]
    simp only [S0, S9, S1, S2, if_true, if_false, bne_self_eq_false]
  obtain ⟨n0, h0⟩ := h1
  refine Does.of n0 fun m hm => ?_
  rw [q_cmp_Less_int]
  unfold sltBZ
  simp only [S0, S9, S1, S2, if_true, if_false, h0 m hm, Bool.false_eq_true]
theorem bs_loopZ (l : List Int) (s : Int) (hl : l.length ≤ 1000000) (hr : RiZ l) : ∀ (d i j : Nat), j - i ≤ d → i ≤ posZ s l → posZ s l ≤ j → j ≤ l.length →
    Dz i_slices_BinarySearch_int (some p_slices_BinarySearch_int_c1) [A.t (T.node (tlZ l)), A.t (T.int s), A.t (T.int (l.length : Nat)), A.t (T.int i), A.t (T.int j)] (2, [A.t (T.node (tlZ l)), A.t (T.int s), A.t (T.int (l.length : Nat)), A.t (T.int (posZ s l : Nat))]) := by
  intro d
  induction d with
  | zero =>
    intro i j hd h1 h2 h3
    refine Does.now fun m => ?_
    rw [q_slices_BinarySearch_int_c1]
    simp only [S0, S9, S1, S2, if_true, if_false]
    rw [if_neg (by omega), show i = posZ s l by omega]
  | succ d ih =>
    intro i j hd h1 h2 h3
    by_cases hij : i < j
    · have hh : i ≤ (i + j) / 2 ∧ (i + j) / 2 < j := by omega
      have hlt : (i + j) / 2 < l.length := by omega
      have w1 : IntKind.i64.wrap ((i : Int) + (j : Int)) = ((i + j : Nat) : Int) := i64add (by omega)
      have w2 : IntKind.u64.wrap ((i + j : Nat) : Int) = ((i + j : Nat) : Int) := by rw [wu64, Nat.mod_eq_of_lt (by omega)]
      have w3 : Int.fdiv ((i + j : Nat) : Int) 2 = (((i + j) / 2 : Nat) : Int) := fdivN (i + j) 2
      have w4 : IntKind.i64.wrap (((i + j) / 2 : Nat) : Int) = (((i + j) / 2 : Nat) : Int) := i64nat (by omega)
      have w5 : IntKind.i64.wrap ((((i + j) / 2 : Nat) : Int) + 1) = (((i + j) / 2 + 1 : Nat) : Int) := i64succ (by omega)
      have hp := pos_ltZ (s := s) hr _ hlt
      cases hb : sltBZ l[(i + j) / 2] s with
      | true =>
        have hp2 := hp.1 hb
        obtain ⟨n0, h0⟩ := (less_doesZ l[(i + j) / 2] s).both (ih ((i + j) / 2 + 1) j (by omega) (by omega) h2 h3)
        refine Does.of n0 fun m hm => ?_
        obtain ⟨q1, q2⟩ := h0 m hm
        rw [hb] at q1
        rw [q_slices_BinarySearch_int_c1]
        simp only [S0, S9, S1, S2, if_true, if_false, w1, w2, w3, w4, w5, tl_lenZ, tl_getZ hlt, num_s, q1]
        rw [if_pos (by omega), if_pos (by omega)]
        exact q2
      | false =>
        have hp2 : posZ s l ≤ (i + j) / 2 := by
          rcases Nat.lt_or_ge ((i + j) / 2) (posZ s l) with h | h
          · rw [hp.2 h] at hb; cases hb
          · exact h
        obtain ⟨n0, h0⟩ := (less_doesZ l[(i + j) / 2] s).both (ih i ((i + j) / 2) (by omega) h1 hp2 (by omega))
        refine Does.of n0 fun m hm => ?_
        obtain ⟨q1, q2⟩ := h0 m hm
        rw [hb] at q1
        rw [q_slices_BinarySearch_int_c1]
        simp only [S0, S9, S1, S2, if_true, if_false, w1, w2, w3, w4, w5, tl_lenZ, tl_getZ hlt, num_s, q1, Bool.false_eq_true]
        rw [if_pos (by omega), if_pos (by omega)]
        exact q2
    · refine Does.now fun m => ?_
      rw [q_slices_BinarySearch_int_c1]
      simp only [S0, S9, S1, S2, if_true, if_false]
      rw [if_neg (by omega), show i = posZ s l by omega]
theorem bs_doesZ (l : List Int) (s : Int) (hl : l.length ≤ 1000000) (hr : RiZ l) : Dz i_slices_BinarySearch_int none [A.t (T.node (tlZ l)), A.t (T.int s)] (1, [A.t (T.int (posZ s l : Nat)), A.t (T.bool (hasBZ s l))]) := by
  have hp := pos_leZ s l
  have h2 : ∀ x : Int, Dz i_slices_isNaN_int none [A.t (T.int x)] (1, [A.t (T.bool false)]) := fun x => Does.now fun m => by
    rw [q_slices_isNaN_int]
    simp only [S0, S9, S1, S2, if_true, if_false, bne_self_eq_false]
  have h1 := bs_loopZ l s hl hr l.length 0 l.length (by omega) (Nat.zero_le _) hp (Nat.le_refl _)
  by_cases hlt : posZ s l < l.length
  · obtain ⟨n0, h0⟩ := h1.both (h2 l[posZ s l])
    refine Does.of n0 fun m hm => ?_
    obtain ⟨q1, q2⟩ := h0 m hm
    have q : den Try.prog G0 ents m i_slices_BinarySearch_int (some p_slices_BinarySearch_int_c1) [A.t (T.node (tlZ l)), A.t (T.int s), A.t (T.int (l.length : Nat)), A.t (T.int 0), A.t (T.int (l.length : Nat))] = _ := q1
    rw [q_slices_BinarySearch_int]
    simp only [S0, S9, S1, S2, if_true, if_false, tl_lenZ, q, tl_getZ hlt, num_s, q2]
    rw [if_pos (by omega), if_pos (by omega)]
    by_cases e : l[posZ s l] = s
    · have hm : s ∈ l := (pos_memZ hr).2 (by rw [List.getElem?_eq_getElem hlt, e])
      rw [hasB_iffZ.2 hm, if_neg (fun h => h e)]
    · have hm : s ∉ l := fun hm => by
        have := (pos_memZ hr).1 hm
        rw [List.getElem?_eq_getElem hlt] at this
        exact e (Option.some.inj this)
      rw [hasB_noZ hm, if_pos e, if_pos (by omega)]
  · obtain ⟨n0, h0⟩ := h1
    refine Does.of n0 fun m hm => ?_
    have q : den Try.prog G0 ents m i_slices_BinarySearch_int (some p_slices_BinarySearch_int_c1) [A.t (T.node (tlZ l)), A.t (T.int s), A.t (T.int (l.length : Nat)), A.t (T.int 0), A.t (T.int (l.length : Nat))] = _ := h0 m hm
    have hm : s ∉ l := fun hm => by
      have := (pos_memZ hr).1 hm
      rw [List.getElem?_eq_none (by omega)] at this
      cases this
    rw [q_slices_BinarySearch_int]
    simp only [S0, S9, S1, S2, if_true, if_false, tl_lenZ, q, hasB_noZ hm]
    rw [if_neg (by omega)]
theorem clone_eqZ (n : Nat) (l : List T) : den Try.prog G0 ents (Nat.succ n) i_slices_CloneI none [A.t (T.node l)] = Option.map (fun o => (1, o)) (bif decide (l.length ≤ 1000000000) then some [A.t (T.node l)] else none) := by kernel_rfl
theorem clone_doesZ {l : List T} (h : l.length ≤ 1000000000) : Dz i_slices_CloneI none [A.t (T.node l)] (1, [A.t (T.node l)]) := Does.now fun n => by rw [clone_eqZ, decide_eq_true h]; rfl
theorem insert_eqZ (n : Nat) (i : Int) (s v : List T) : den Try.prog G0 ents (Nat.succ n) i_slices_InsertI none [A.t (T.int i), A.t (T.node s), A.t (T.node v)] = Option.map (fun o => (1, o)) (bif insrtOk i s v then some [A.t (T.node v), A.t (T.node (insL i s v))] else none) := by kernel_rfl
theorem insert_doesZ {i : Int} {s v : List T} (h : insrtOk i s v = true) : Dz i_slices_InsertI none [A.t (T.int i), A.t (T.node s), A.t (T.node v)] (1, [A.t (T.node v), A.t (T.node (insL i s v))]) := Does.now fun n => by rw [insert_eqZ, h]; rfl
theorem ins_doesZ {l : List Int} {s : Int} (hl : l.length ≤ 500000) (h : s ∉ l) : Dz i_slices_InsertI none [A.t (T.int (posZ s l : Nat)), A.t (T.node (tlZ l)), A.t (T.node [T.int s])] (1, [A.t (T.node [T.int s]), A.t (T.node (tlZ (insTZ s l)))]) := by
  have hp := pos_leZ s l
  have := insert_doesZ (i := ((posZ s l : Nat) : Int)) (s := tlZ l) (v := [T.int s]) (by
    unfold insrtOk
    simp only [Bool.and_eq_true, decide_eq_true_eq, tl_lenZ, List.length_singleton]
    omega)
  rw [insL_tlZ h] at this
  exact this
theorem plink_doesZ {fs : List T} {p : List Int} {t : Int → List Int} (h : GrZ fs p t) {a b : Int} (ha : (szZ a) ≤ 100) (hb : (szZ b) ≤ 100) (hl : p.length + 2 ≤ 200000) (hn : (t a).length + 1 ≤ 200000) :
    ∃ fs', GrZ fs' (insTZ b (insTZ a p)) (updTZ t a (insTZ b (t a))) ∧ Dz i_graph_Graph_int_Link none [A.t (T.int a), A.t (T.int b), A.t (T.node fs)] (1, [A.t (T.node fs')]) := by
  obtain ⟨f1, g1, d1⟩ := padd_doesZ h ha (by omega)
  have hla := insT_lenZ a p
  obtain ⟨f2, g2, d2⟩ := padd_doesZ g1 hb (by omega)
  have hmem : a ∈ insTZ b (insTZ a p) := mem_insTZ.2 (.inr (mem_insTZ.2 (.inl rfl)))
  have hta := g2.to a
  obtain ⟨n0, h0⟩ := d1.both d2
  have hbs := bs_doesZ (t a) b (by omega) (h.tri a)
  by_cases hin : b ∈ t a
  · have e : updTZ t a (insTZ b (t a)) = t := by
      funext s
      unfold updTZ
      split
      · rename_i e; subst e; exact insT_hasZ (h.tri _) hin
      · rfl
    obtain ⟨n1, h1⟩ := hbs
    refine ⟨f2, by rw [e]; exact g2, Does.of (n0 + n1) fun m hm => ?_⟩
    have q3 := h1 m (by omega)
    rw [q_graph_Graph_int_Link]
    simp only [S0, S9, S1, S2, if_true, if_false, (h0 m (by omega)).1, (h0 m (by omega)).2, gZ_eqZ, hta, q3, hasB_iffZ.2 hin, Bool.not_true, Bool.false_eq_true]
  · have hlen := insT_lenZ b (t a)
    obtain ⟨n1, h1⟩ := hbs.both (clone_doesZ (l := tlZ (t a)) (by rw [tl_lenZ]; omega))
    obtain ⟨n2, h2⟩ := ins_doesZ (l := t a) (s := b) (by omega) hin
    refine ⟨_, g2.set hmem (insT_riseZ (h.tri a)) (by omega) (fun x hx => ?_), Does.of (n0 + n1 + n2) fun m hm => ?_⟩
    · rcases mem_insTZ.1 hx with rfl | hx
      · exact hb
      · exact h.tsiz a x hx
    · have q3 := h1 m (by omega)
      have q4 := h2 m (by omega)
      rw [q_graph_Graph_int_Link]
      simp only [S0, S9, S1, S2, if_true, if_false, (h0 m (by omega)).1, (h0 m (by omega)).2, gZ_eqZ, hta, q3.1, q3.2, hasB_noZ hin, Bool.not_false, q4, put_eqZ]
theorem to_snocZ (L : List (Int × Int)) (a b : Int) : toOfZ (L ++ [(a, b)]) = updTZ (toOfZ L) a (insTZ b (toOfZ L a)) := by
  funext s
  unfold toOfZ updTZ
  rw [List.foldl_append]
  show (if a = s then insTZ b _ else _) = _
  by_cases e : a = s
  · subst e; simp
  · rw [if_neg e, if_neg fun h => e h.symm]
theorem pts_snocZ (l : List Int) (L : List (Int × Int)) (a b : Int) : ptsOfZ l (L ++ [(a, b)]) = insTZ b (insTZ a (ptsOfZ l L)) := by
  unfold ptsOfZ
  rw [List.foldl_append]
  rfl
theorem link_onZ {fs : List T} {l : List Int} {L : List (Int × Int)} (h : GrZ fs (ptsOfZ l L) (toOfZ L)) {a b : Int} (ha : (szZ a) ≤ 100) (hb : (szZ b) ≤ 100) (hl : l.length + 2 * L.length ≤ 190000) :
    ∃ fs', GrZ fs' (ptsOfZ l (L ++ [(a, b)])) (toOfZ (L ++ [(a, b)])) ∧ Dz i_graph_Graph_int_Link none [A.t (T.int a), A.t (T.int b), A.t (T.node fs)] (1, [A.t (T.node fs')]) := by
  have h1 := pts_lenZ l L
  have h2 := to_lenZ L a
  rw [to_snocZ, pts_snocZ]
  exact plink_doesZ h ha hb (by omega) (by omega)
theorem new_loopZ (l : List Int) (hl : l.length ≤ 1000) (hs : ∀ x ∈ l, (szZ x) ≤ 100) : ∀ (k j : Nat) (fs : List T), j + k = l.length → GrZ fs ((l.take j).foldl (fun a s => insTZ s a) []) (fun _ => []) →
    ∃ fs', GrZ fs' (l.foldl (fun a s => insTZ s a) []) (fun _ => []) ∧ Dz i_graph_New_int (some p_graph_New_int_c1) [A.t (T.node (tlZ l)), A.t (T.int (l.length : Nat)), A.t (T.int j), A.t (T.node fs)] (2, [A.t (T.node fs')]) := by
  intro k
  induction k with
  | zero =>
    intro j fs hj h
    rw [List.take_of_length_le (by omega)] at h
    refine ⟨fs, h, Does.now fun m => ?_⟩
    rw [q_graph_New_int_c1]
    simp only [S0, S9, S1, S2, if_true, if_false]
    rw [if_neg (by omega)]
  | succ k ih =>
    intro j fs hj h
    have hlt : j < l.length := by omega
    have hw : IntKind.i64.wrap ((j : Int) + 1) = ((j + 1 : Nat) : Int) := i64succ (by omega)
    have hlen := fold_lenZ (l.take j) []
    rw [List.length_take] at hlen
    simp only [List.length_nil] at hlen
    obtain ⟨f1, g1, d1⟩ := padd_doesZ h (hs _ (List.getElem_mem hlt)) (by omega)
    have e : insTZ l[j] ((l.take j).foldl (fun a s => insTZ s a) []) = (l.take (j + 1)).foldl (fun a s => insTZ s a) [] := by
      rw [take_succ' hlt, List.foldl_append]; rfl
    rw [e] at g1
    obtain ⟨f2, g2, d2⟩ := ih (j + 1) f1 (by omega) g1
    obtain ⟨n0, h0⟩ := d1.both d2
    refine ⟨f2, g2, Does.of n0 fun m hm => ?_⟩
    obtain ⟨q1, q2⟩ := h0 m hm
    rw [q_graph_New_int_c1]
    simp only [S0, S9, S1, S2, if_true, if_false, tl_lenZ, tl_getZ hlt, num_s, hw, q1]
    rw [if_pos (by omega), if_pos (by omega)]
    exact q2
theorem GrZ.nil : GrZ [] [] (fun _ => []) := ⟨List.Pairwise.nil, List.Perm.refl _, fun s => rfl, fun s => List.Pairwise.nil, by simp, fun s => by simp, fun x hx => (by cases hx), fun s x hx => (by cases hx)⟩
theorem new_doesZ (l : List Int) (hl : l.length ≤ 1000) (hs : ∀ x ∈ l, (szZ x) ≤ 100) : ∃ fs', GrZ fs' (ptsOfZ l []) (toOfZ []) ∧ Dz i_graph_New_int none [A.t (T.node (tlZ l))] (1, [A.t (T.node fs')]) := by
  obtain ⟨f1, g1, d1⟩ := new_loopZ l hl hs l.length 0 [] (by omega) GrZ.nil
  obtain ⟨n0, h0⟩ := d1
  refine ⟨f1, g1, Does.of n0 fun m hm => ?_⟩
  have q : den Try.prog G0 ents m i_graph_New_int (some p_graph_New_int_c1) [A.t (T.node (tlZ l)), A.t (T.int (l.length : Nat)), A.t (T.int 0), A.t (T.node [])] = _ := h0 m hm
  rw [q_graph_New_int]
  simp only [S0, S9, S1, S2, if_true, if_false, tl_lenZ, q]
theorem psort_eqZ (n : Nat) (l : List T) : den Try.prog G0 ents (Nat.succ n) i_slices_SortedI_l none [A.t (T.node l)] = Option.map (fun o => (1, o)) (bif keysIOk l then some [A.t (T.node (keysI l)), A.t (T.node l)] else none) := by kernel_rfl
theorem points_doesZ {fs : List T} {p : List Int} {t : Int → List Int} (h : GrZ fs p t) : Dz i_graph_Graph_int_Points none [A.t (T.node fs)] (1, [A.t (T.node (tlZ p)), A.t (T.node fs)]) := by
  have h1 : Dz i_maps_Keys_map_int_int_int_int none [A.t (T.node fs)] (1, [A.t (T.node fs)]) := Does.now fun m => by
    rw [q_maps_Keys_map_int_int_int_int]
    simp only [S0, S9, S1, S2, if_true, if_false]
  have h2 : Dz i_slices_SortedI_l none [A.t (T.node fs)] (1, [A.t (T.node (keysI fs)), A.t (T.node fs)]) := Does.now fun n => by
    rw [psort_eqZ, keysOk_ofZ h.perm (by have := h.len; omega) (fun x hx => by have := h.siz x hx; omega)]; rfl
  rw [keys_ofZ h.perm h.rise] at h2
  obtain ⟨n0, h0⟩ := h1.both h2
  refine Does.of n0 fun m hm => ?_
  rw [q_graph_Graph_int_Points]
  simp only [S0, S9, S1, S2, if_true, if_false, (h0 m hm).1, (h0 m hm).2]
theorem pto_doesZ {fs : List T} {p : List Int} {t : Int → List Int} (h : GrZ fs p t) (s : Int) : Dz i_graph_Graph_int_To none [A.t (T.int s), A.t (T.node fs)] (1, [A.t (T.node fs), A.t (T.node (tlZ (t s)))]) := by
  obtain ⟨n0, h0⟩ := clone_doesZ (l := tlZ (t s)) (by rw [tl_lenZ]; have := h.tlen s; omega)
  refine Does.of n0 fun m hm => ?_
  rw [q_graph_Graph_int_To]
  simp only [S0, S9, S1, S2, if_true, if_false, gZ_eqZ, h.to s, h0 m hm]
end Go.Proofs.YtbejhhoakeapgaaGI
namespace Go.Proofs.YtbejhhoakeapgaaGI
open Go Go.Proofs.YtbejhhoakeapgaaVM
set_option linter.unusedVariables false
set_option linter.unusedSimpArgs false
set_option maxRecDepth 100000
def prsZ (k : Int) (l : List Int) : List (Int × Int) := l.map fun x => (x, k)
def turnLZ (p : List Int) (t : Int → List Int) : List (Int × Int) := p.flatMap fun k => prsZ k (t k)
theorem mem_turnZ {p : List Int} {t : Int → List Int} {a b : Int} : (a, b) ∈ turnLZ p t ↔ b ∈ p ∧ a ∈ t b := by
  unfold turnLZ prsZ
  rw [List.mem_flatMap]
  constructor
  · rintro ⟨k, hk, h⟩
    obtain ⟨x, hx, e⟩ := List.mem_map.1 h
    cases e
    exact ⟨hk, hx⟩
  · rintro ⟨h1, h2⟩
    exact ⟨b, h1, List.mem_map.2 ⟨a, h2, rfl⟩⟩
theorem turn_lenZ {t : Int → List Int} (N : Nat) (ht : ∀ s, (t s).length ≤ N) : ∀ p : List Int, (turnLZ p t).length ≤ p.length * N
  | [] => by simp [turnLZ]
  | x :: p => by
    have h1 := turn_lenZ N ht p
    have h2 := ht x
    unfold turnLZ at h1 ⊢
    rw [List.flatMap_cons, List.length_append, List.length_cons, Nat.add_mul, Nat.one_mul]
    unfold prsZ at h1 ⊢
    rw [List.length_map]
    omega
theorem turn2_loopZ {fs : List T} {p : List Int} {t : Int → List Int} (h : GrZ fs p t) {l0 : List Int} (k : Int) (hk : (szZ k) ≤ 100) (x1 : List T) (i1 i2 : Int) (B : Nat) (hB : l0.length + 2 * B ≤ 190000) : ∀ (d j : Nat) (M : List (Int × Int)) (out : List T), j + d = (t k).length → M.length + d ≤ B → GrZ out (ptsOfZ l0 M) (toOfZ M) →
    ∃ out', GrZ out' (ptsOfZ l0 (M ++ prsZ k ((t k).drop j))) (toOfZ (M ++ prsZ k ((t k).drop j))) ∧
      Dz i_graph_Graph_int_Turned (some p_graph_Graph_int_Turned_c2) [A.t (T.int k), A.t (T.node x1), A.t (T.int i1), A.t (T.int i2), A.t (T.int ((t k).length : Nat)), A.t (T.int j), A.t (T.node fs), A.t (T.node (tlZ (t k))), A.t (T.node out)] (4, [A.t (T.node x1), A.t (T.int i1), A.t (T.int i2), A.t (T.node fs), A.t (T.node out')]) := by
  intro d
  induction d with
  | zero =>
    intro j M out hj hM hg
    rw [List.drop_of_length_le (by omega)]
    refine ⟨out, by simpa [prsZ] using hg, Does.now fun m => ?_⟩
    rw [q_graph_Graph_int_Turned_c2]
    simp only [S0, S9, S1, S2, if_true, if_false]
    rw [if_neg (by omega)]
  | succ d ih =>
    intro j M out hj hM hg
    have hlt : j < (t k).length := by omega
    have hw : IntKind.i64.wrap ((j : Int) + 1) = ((j + 1 : Nat) : Int) := i64succ (by have := h.tlen k; omega)
    obtain ⟨f1, g1, d1⟩ := link_onZ hg (h.tsiz k _ (List.getElem_mem hlt)) hk (by omega)
    obtain ⟨f2, g2, d2⟩ := ih (j + 1) (M ++ [((t k)[j], k)]) f1 (by omega) (by rw [List.length_append, List.length_singleton]; omega) g1
    have e : M ++ [((t k)[j], k)] ++ prsZ k ((t k).drop (j + 1)) = M ++ prsZ k ((t k).drop j) := by
      rw [List.drop_eq_getElem_cons hlt, List.append_assoc]; rfl
    rw [e] at g2
    obtain ⟨n0, h0⟩ := d1.both d2
    refine ⟨f2, g2, Does.of n0 fun m hm => ?_⟩
    obtain ⟨q1, q2⟩ := h0 m hm
    rw [q_graph_Graph_int_Turned_c2]
    simp only [S0, S9, S1, S2, if_true, if_false, tl_lenZ, tl_getZ hlt, num_s, hw, q1]
    rw [if_pos (by omega), if_pos (by omega), if_pos (by omega)]
    exact q2
theorem turn1_loopZ {fs : List T} {p : List Int} {t : Int → List Int} (h : GrZ fs p t) {l0 : List Int} (N : Nat) (ht : ∀ s, (t s).length ≤ N) (B : Nat) (hB : l0.length + 2 * B ≤ 190000) : ∀ (d j : Nat) (M : List (Int × Int)) (out : List T), j + d = p.length → M.length + d * N ≤ B → GrZ out (ptsOfZ l0 M) (toOfZ M) →
    ∃ out', GrZ out' (ptsOfZ l0 (M ++ turnLZ (p.drop j) t)) (toOfZ (M ++ turnLZ (p.drop j) t)) ∧
      Dz i_graph_Graph_int_Turned (some p_graph_Graph_int_Turned_c1) [A.t (T.node (tlZ p)), A.t (T.int (p.length : Nat)), A.t (T.int j), A.t (T.node fs), A.t (T.node out)] (2, [A.t (T.node fs), A.t (T.node out')]) := by
  intro d
  induction d with
  | zero =>
    intro j M out hj hM hg
    rw [List.drop_of_length_le (by omega)]
    refine ⟨out, by simpa [turnLZ] using hg, Does.now fun m => ?_⟩
    rw [q_graph_Graph_int_Turned_c1]
    simp only [S0, S9, S1, S2, if_true, if_false]
    rw [if_neg (by omega)]
  | succ d ih =>
    intro j M out hj hM hg
    have hlt : j < p.length := by omega
    have hw : IntKind.i64.wrap ((j : Int) + 1) = ((j + 1 : Nat) : Int) := i64succ (by have := h.len; omega)
    have htj := ht p[j]
    have hdn : (d + 1) * N = d * N + N := Nat.succ_mul d N
    obtain ⟨f1, g1, d1⟩ := turn2_loopZ h p[j] (h.siz _ (List.getElem_mem hlt)) (tlZ p) (p.length : Nat) (j : Nat) B hB (t p[j]).length 0 M out (by omega) (by omega) hg
    rw [List.drop_zero] at g1
    have hpl : (prsZ p[j] (t p[j])).length = (t p[j]).length := by unfold prsZ; rw [List.length_map]
    obtain ⟨f2, g2, d2⟩ := ih (j + 1) (M ++ prsZ p[j] (t p[j])) f1 (by omega) (by rw [List.length_append, hpl]; omega) g1
    have e : M ++ prsZ p[j] (t p[j]) ++ turnLZ (p.drop (j + 1)) t = M ++ turnLZ (p.drop j) t := by
      rw [List.drop_eq_getElem_cons hlt, List.append_assoc]; rfl
    rw [e] at g2
    obtain ⟨n0, h0⟩ := d1.both d2
    obtain ⟨n1, h1⟩ := pto_doesZ h p[j]
    refine ⟨f2, g2, Does.of (n0 + n1) fun m hm => ?_⟩
    obtain ⟨q1, q2⟩ := h0 m (by omega)
    have q3 := h1 m (by omega)
    have q1' : den Try.prog G0 ents m i_graph_Graph_int_Turned (some p_graph_Graph_int_Turned_c2) [A.t (T.int p[j]), A.t (T.node (tlZ p)), A.t (T.int (p.length : Nat)), A.t (T.int (j : Nat)), A.t (T.int ((t p[j]).length : Nat)), A.t (T.int 0), A.t (T.node fs), A.t (T.node (tlZ (t p[j]))), A.t (T.node out)] = _ := q1
    rw [q_graph_Graph_int_Turned_c1]
    simp only [S0, S9, S1, S2, if_true, if_false, tl_lenZ, tl_getZ hlt, num_s, hw, q3, q1', show Nat.beq 4 4 = true from rfl]
    rw [if_pos (by omega), if_pos (by omega)]
    exact q2
theorem turned_doesZ {fs : List T} {p : List Int} {t : Int → List Int} (h : GrZ fs p t) (hp : p.length ≤ 300) (ht : ∀ s, (t s).length ≤ 100) :
    ∃ fs', GrZ fs' (ptsOfZ p (turnLZ p t)) (toOfZ (turnLZ p t)) ∧ Dz i_graph_Graph_int_Turned none [A.t (T.node fs)] (1, [A.t (T.node fs), A.t (T.node fs')]) := by
  obtain ⟨f1, g1, d1⟩ := new_doesZ p (by omega) h.siz
  obtain ⟨f2, g2, d2⟩ := turn1_loopZ h (l0 := p) 100 ht 30000 (by omega) p.length 0 [] f1 (by omega) (by simp only [List.length_nil]; omega) g1
  rw [List.drop_zero, List.nil_append] at g2
  obtain ⟨n0, h0⟩ := d1.both d2
  obtain ⟨n1, h1⟩ := points_doesZ h
  refine ⟨f2, g2, Does.of (n0 + n1) fun m hm => ?_⟩
  obtain ⟨q1, q2⟩ := h0 m (by omega)
  have q3 := h1 m (by omega)
  have q2' : den Try.prog G0 ents m i_graph_Graph_int_Turned (some p_graph_Graph_int_Turned_c1) [A.t (T.node (tlZ p)), A.t (T.int (p.length : Nat)), A.t (T.int 0), A.t (T.node fs), A.t (T.node f1)] = _ := q2
  rw [q_graph_Graph_int_Turned]
  simp only [S0, S9, S1, S2, if_true, if_false, q1, q3, tl_lenZ, q2']
theorem turn_ptsZ {l : List Int} {L : List (Int × Int)} : ptsOfZ (ptsOfZ l L) (turnLZ (ptsOfZ l L) (toOfZ L)) = ptsOfZ l L := by
  refine RiZ.ext (pts_riseZ _ _) (pts_riseZ _ _) fun x => ?_
  rw [mem_ptsZ (l := ptsOfZ l L)]
  constructor
  · rintro (h | ⟨⟨a, b⟩, hy, h⟩)
    · exact h
    · obtain ⟨h1, h2⟩ := mem_turnZ.1 hy
      have h3 := mem_toZ.1 h2
      rcases h with rfl | rfl
      · exact mem_ptsZ.2 (.inr ⟨_, h3, .inr rfl⟩)
      · exact h1
  · exact .inl
theorem turn_toZ {l : List Int} {L : List (Int × Int)} (s : Int) : toOfZ (turnLZ (ptsOfZ l L) (toOfZ L)) s = toOfZ (swpZ L) s := by
  refine RiZ.ext (to_riseZ _ _) (to_riseZ _ _) fun x => ?_
  rw [mem_toZ, mem_toZ, mem_turnZ, mem_toZ, mem_swpZ]
  exact ⟨fun h => h.2, fun h => ⟨mem_ptsZ.2 (.inr ⟨_, h, .inl rfl⟩), h⟩⟩
end Go.Proofs.YtbejhhoakeapgaaGI
namespace Go.Proofs.YtbejhhoakeapgaaGI
open Go Go.Proofs.YtbejhhoakeapgaaVM
set_option linter.unusedVariables false
set_option linter.unusedSimpArgs false
set_option maxRecDepth 100000
def cntZ (t : Int → List Int) (out : List Int) (x : Int) : Nat := ((t x).filter fun y => !hasBZ y out).length
def fzZ (p out : List Int) (c : Int → Nat) : List Int := p.filter fun x => !hasBZ x out && Nat.beq (c x) 0
def lftZ (p out : List Int) : List Int := p.filter fun x => !hasBZ x out
def stepOZ (p : List Int) (t : Int → List Int) (out : List Int) : List Int :=
  match fzZ p out (cntZ t out) with
  | [] => out
  | s :: _ => out ++ [s]
def iterOZ (p : List Int) (t : Int → List Int) : Nat → List Int → List Int
  | 0, o => o
  | k + 1, o => iterOZ p t k (stepOZ p t o)
theorem iterO_stillZ {p : List Int} {t : Int → List Int} {o : List Int} (h : fzZ p o (cntZ t o) = []) : ∀ k, iterOZ p t k o = o
  | 0 => rfl
  | k + 1 => by
    have e : stepOZ p t o = o := by unfold stepOZ; rw [h]
    show iterOZ p t k (stepOZ p t o) = o
    rw [e]; exact iterO_stillZ h k
theorem mem_fzZ {p out : List Int} {c : Int → Nat} {x : Int} : x ∈ fzZ p out c ↔ x ∈ p ∧ x ∉ out ∧ c x = 0 := by
  unfold fzZ
  rw [List.mem_filter, Bool.and_eq_true, Bool.not_eq_true', Nat.beq_eq]
  constructor
  · rintro ⟨h1, h2, h3⟩
    exact ⟨h1, fun h => (by rw [hasB_iffZ.2 h] at h2; cases h2), h3⟩
  · rintro ⟨h1, h2, h3⟩
    exact ⟨h1, hasB_noZ h2, h3⟩
theorem mem_lftZ {p out : List Int} {x : Int} : x ∈ lftZ p out ↔ x ∈ p ∧ x ∉ out := by
  unfold lftZ
  rw [List.mem_filter, Bool.not_eq_true']
  constructor
  · rintro ⟨h1, h2⟩
    exact ⟨h1, fun h => by rw [hasB_iffZ.2 h] at h2; cases h2⟩
  · rintro ⟨h1, h2⟩
    exact ⟨h1, hasB_noZ h2⟩
theorem fz_riseZ {p out : List Int} {c : Int → Nat} (h : RiZ p) : RiZ (fzZ p out c) := h.sublist List.filter_sublist
theorem lft_riseZ {p out : List Int} (h : RiZ p) : RiZ (lftZ p out) := h.sublist List.filter_sublist
theorem cnt_allZ {t : Int → List Int} {out : List Int} {x : Int} : cntZ t out x = 0 ↔ ∀ y ∈ t x, y ∈ out := by
  unfold cntZ
  rw [List.length_eq_zero_iff, List.filter_eq_nil_iff]
  constructor
  · intro h y hy
    have := h y hy
    rw [Bool.not_eq_true', Bool.not_eq_false] at this
    exact hasB_iffZ.1 this
  · intro h y hy
    rw [Bool.not_eq_true', Bool.not_eq_false]
    exact hasB_iffZ.2 (h y hy)
theorem all_cntZ (t : Int → List Int) (out : List Int) (x : Int) : ((t x).all fun y => hasBZ y out) = Nat.beq (cntZ t out x) 0 := by
  rw [Bool.eq_iff_iff, List.all_eq_true, Nat.beq_eq, cnt_allZ]
  exact ⟨fun h y hy => hasB_iffZ.1 (h y hy), fun h y hy => hasB_iffZ.2 (h y hy)⟩
theorem hasB_snocZ (x s : Int) (out : List Int) : hasBZ x (out ++ [s]) = (hasBZ x out || decide (x = s)) := by
  rw [Bool.eq_iff_iff, Bool.or_eq_true, hasB_iffZ, hasB_iffZ, decide_eq_true_eq, List.mem_append, List.mem_singleton]
theorem cnt_snocZ {t : Int → List Int} {out : List Int} {x s : Int} (ht : (t x).Nodup) (hs : s ∉ out) : cntZ t (out ++ [s]) x = if hasBZ s (t x) then cntZ t out x - 1 else cntZ t out x := by
  unfold cntZ
  generalize t x = l at ht ⊢
  induction l with
  | nil => rfl
  | cons y l ih =>
    obtain ⟨h1, h2⟩ := List.nodup_cons.1 ht
    have ih := ih h2
    have hcons : hasBZ s (y :: l) = (seqBZ y s || hasBZ s l) := rfl
    rw [List.filter_cons, List.filter_cons, hcons, hasB_snocZ]
    by_cases e : y = s
    · subst e
      have hn : hasBZ y l = false := hasB_noZ h1
      rw [hn] at ih
      simp only [Bool.false_eq_true, if_false] at ih
      rw [seq_isZ.2 rfl, hasB_noZ hs]
      simp only [Bool.false_or, decide_true, Bool.not_true, Bool.false_eq_true, if_false, Bool.true_or, if_true, Bool.not_false, List.length_cons]
      omega
    · rw [seq_noZ e, decide_eq_false e, Bool.or_false, Bool.false_or]
      cases hb : hasBZ y out with
      | true =>
        simp only [Bool.not_true, Bool.false_eq_true, if_false]
        exact ih
      | false =>
        simp only [Bool.not_false, if_true, List.length_cons]
        rw [ih]
        split
        · rename_i hh
          have : 1 ≤ (l.filter fun y => !hasBZ y out).length := by
            have hm : s ∈ l.filter fun y => !hasBZ y out := List.mem_filter.2 ⟨hasB_iffZ.1 hh, by rw [hasB_noZ hs]; rfl⟩
            exact List.length_pos_of_mem hm
          omega
        · rfl
theorem fz_tailZ {p out : List Int} {c : Int → Nat} (hp : RiZ p) {s : Int} {rest : List Int} (h : fzZ p out c = s :: rest) : fzZ p (out ++ [s]) c = rest := by
  have hr : RiZ (s :: rest) := h ▸ fz_riseZ hp
  obtain ⟨h1, h2⟩ := List.pairwise_cons.1 hr
  refine RiZ.ext (fz_riseZ hp) h2 fun x => ?_
  have hm : x ∈ fzZ p out c ↔ x ∈ s :: rest := by rw [h]
  rw [mem_fzZ] at hm ⊢
  rw [List.mem_append, List.mem_singleton, not_or]
  rw [List.mem_cons] at hm
  constructor
  · rintro ⟨a, ⟨b, b2⟩, d⟩
    exact (hm.1 ⟨a, b, d⟩).resolve_left b2
  · intro hx
    obtain ⟨a, b, d⟩ := hm.2 (.inr hx)
    exact ⟨a, ⟨b, fun e => lt_neZ (h1 x hx) e.symm⟩, d⟩
theorem fz_congrZ {p out : List Int} {c d : Int → Nat} (h : ∀ x, c x = d x) : fzZ p out c = fzZ p out d := by
  rw [show c = d from funext h]
theorem cnt_nilZ (t : Int → List Int) (x : Int) : cntZ t [] x = (t x).length := by
  unfold cntZ
  have : ((t x).filter fun y => !hasBZ y []) = t x := List.filter_eq_self.2 fun y _ => rfl
  rw [this]
structure KsZ (ms : List T) (free p out : List Int) (c : Int → Nat) : Prop where
  keys : (ms.map kyZ).Perm (lftZ p out)
  num : ∀ x ∈ p, x ∉ out → (gZZ (.int 0) ms x).num = (c x : Nat)
  free : free = fzZ p out c
def decNZ (c : Int → Nat) (b : Int) : Int → Nat := fun x => if x = b then c b - 1 else c x
theorem KsZ.dec {ms : List T} {free p out : List Int} {c : Int → Nat} (h : KsZ ms free p out c) (hp : RiZ p) {b : Int} (hb : b ∈ p) (ho : b ∉ out) (h1 : 1 ≤ c b) : KsZ (putFZ ms b (.int ((c b - 1 : Nat) : Int))) (if c b = 1 then insTZ b free else free) p out (decNZ c b) := by
  have hk : b ∈ ms.map kyZ := h.keys.mem_iff.2 (mem_lftZ.2 ⟨hb, ho⟩)
  refine ⟨by rw [put_inZ hk]; exact h.keys, fun x hx hxo => ?_, ?_⟩
  · rw [gZ_putZ]
    unfold decNZ
    split
    · rfl
    · exact h.num x hx hxo
  · have hf := h.free
    subst hf
    split
    · rename_i e
      refine RiZ.ext (insT_riseZ (fz_riseZ hp)) (fz_riseZ hp) fun x => ?_
      rw [mem_insTZ, mem_fzZ, mem_fzZ]
      unfold decNZ
      by_cases e2 : x = b
      · subst e2
        rw [if_pos rfl]
        exact ⟨fun _ => ⟨hb, ho, by omega⟩, fun _ => .inl rfl⟩
      · rw [if_neg e2]
        exact ⟨fun h => h.resolve_left e2, .inr⟩
    · rename_i e
      refine RiZ.ext (fz_riseZ hp) (fz_riseZ hp) fun x => ?_
      rw [mem_fzZ, mem_fzZ]
      unfold decNZ
      by_cases e2 : x = b
      · subst e2
        rw [if_pos rfl]
        exact ⟨fun h => ⟨h.1, h.2.1, by omega⟩, fun h => ⟨h.1, h.2.1, by omega⟩⟩
      · rw [if_neg e2]
theorem KsZ.nodup {ms : List T} {free p out : List Int} {c : Int → Nat} (h : KsZ ms free p out c) (hp : RiZ p) : (ms.map kyZ).Nodup := h.keys.nodup_iff.2 (lft_riseZ hp).nodup
theorem ky_delZ : ∀ (fs : List T) (k : Int), (fs.map kyZ).Nodup → (delFZ fs k).map kyZ = (fs.map kyZ).filter fun x => decide (x ≠ k)
  | [], k, _ => rfl
  | e :: fs, k, hn => by
    obtain ⟨h1, h2⟩ := List.nodup_cons.1 hn
    have ih := ky_delZ fs k h2
    unfold delFZ at ih ⊢
    simp only [mdel]
    cases hk : keyI (.int k) (e.get 0) with
    | true =>
      have hke : k = kyZ e := (key_iffZ _ _).1 hk
      subst hke
      simp only [cond_true]
      rw [List.map_cons, List.filter_cons, if_neg (by simp), List.filter_eq_self.2]
      intro y hy
      exact decide_eq_true fun e2 => h1 (e2 ▸ hy)
    | false =>
      have hke : kyZ e ≠ k := fun e2 => by
        have := (key_iffZ (.int k) (e.get 0)).2 e2.symm
        rw [hk] at this; cases this
      simp only [cond_false]
      rw [List.map_cons, ih, List.map_cons, List.filter_cons, if_pos (decide_eq_true hke)]
theorem lft_snocZ (p out : List Int) (s : Int) : lftZ p (out ++ [s]) = (lftZ p out).filter fun x => decide (x ≠ s) := by
  unfold lftZ
  rw [List.filter_filter]
  congr 1
  funext x
  rw [hasB_snocZ]
  by_cases e : x = s <;> cases hasBZ x out <;> simp [e]
theorem KsZ.take {ms : List T} {free p out : List Int} {c : Int → Nat} {s : Int} {rest : List Int} (h : KsZ ms free p out c) (hp : RiZ p) (hf : free = s :: rest) : KsZ (delFZ ms s) rest p (out ++ [s]) c := by
  refine ⟨?_, fun x hx hxo => ?_, ?_⟩
  · rw [ky_delZ ms s (h.nodup hp), lft_snocZ]
    exact h.keys.filter _
  · rw [List.mem_append, List.mem_singleton, not_or] at hxo
    rw [gZ_delZ _ _ _ _ hxo.2]
    exact h.num x hx hxo.1
  · rw [fz_tailZ hp (h.free.symm.trans hf)]
end Go.Proofs.YtbejhhoakeapgaaGI
namespace Go.Proofs.YtbejhhoakeapgaaGI
open Go Go.Proofs.YtbejhhoakeapgaaVM
set_option linter.unusedVariables false
set_option linter.unusedSimpArgs false
set_option maxRecDepth 100000
theorem gI_eqZ (fs : List T) (s : Int) : mget keyI (T.int 0) fs (T.int s) = gZZ (.int 0) fs s := id rfl
theorem putI_eqZ (fs : List T) (s : Int) (v : T) : mput keyI fs (T.int s) v = putFZ fs s v := id rfl
theorem delI_eqZ (fs : List T) (s : Int) : mdel keyI fs (T.int s) = delFZ fs s := id rfl
theorem gZ_selfZ (z : T) (fs : List T) (k : Int) (v : T) : gZZ z (putFZ fs k v) k = v := by rw [gZ_putZ, if_pos rfl]
theorem ord3_loopZ (p out : List Int) (hp : RiZ p) (hpl : p.length ≤ 100000) (w : List Int) (hw : w.length ≤ 100000) (fsX outX gX : List T) : ∀ (k j : Nat) (ms : List T) (free : List Int) (c : Int → Nat), j + k = w.length → KsZ ms free p out c → (∀ x ∈ w.drop j, x ∈ p ∧ x ∉ out ∧ 1 ≤ c x) → (w.drop j).Nodup → (∀ x, c x ≤ 1000000) →
    ∃ ms' free', KsZ ms' free' p out (fun x => if hasBZ x (w.drop j) then c x - 1 else c x) ∧
      Dz i_graph_Graph_int_Order (some p_graph_Graph_int_Order_c3) [A.t (T.node (tlZ free)), A.t (T.int (w.length : Nat)), A.t (T.int j), A.t (T.node fsX), A.t (T.node outX), A.t (T.node ms), A.t (T.node (tlZ w)), A.t (T.node gX)] (6, [A.t (T.node (tlZ free')), A.t (T.node fsX), A.t (T.node outX), A.t (T.node ms'), A.t (T.node gX)]) := by
  intro k
  induction k with
  | zero =>
    intro j ms free c hj h _ _ _
    rw [List.drop_of_length_le (by omega)]
    refine ⟨ms, free, h, Does.now fun m => ?_⟩
    rw [q_graph_Graph_int_Order_c3]
    simp only [S0, S9, S1, S2, if_true, if_false]
    rw [if_neg (by omega)]
  | succ k ih =>
    intro j ms free c hj h hx hn hc
    have hlt : j < w.length := by omega
    have hw1 : IntKind.i64.wrap ((j : Int) + 1) = ((j + 1 : Nat) : Int) := i64succ (by omega)
    rw [List.drop_eq_getElem_cons hlt] at hx hn
    obtain ⟨hn1, hn2⟩ := List.nodup_cons.1 hn
    obtain ⟨x1, x2, x3⟩ := hx _ List.mem_cons_self
    have hcb := hc w[j]
    have hd := h.dec hp x1 x2 x3
    obtain ⟨ms', free', g, d⟩ := ih (j + 1) _ _ (decNZ c w[j]) (by omega) hd (fun x hxm => by
      obtain ⟨y1, y2, y3⟩ := hx x (List.mem_cons_of_mem _ hxm)
      refine ⟨y1, y2, ?_⟩
      unfold decNZ
      rw [if_neg fun e => hn1 (by rw [← e]; exact hxm)]
      exact y3) hn2 (fun x => by unfold decNZ; split <;> first | omega | exact hc x)
    have he : (fun x => if hasBZ x (w.drop (j + 1)) then decNZ c w[j] x - 1 else decNZ c w[j] x) = fun x => if hasBZ x (w.drop j) then c x - 1 else c x := by
      funext x
      rw [List.drop_eq_getElem_cons hlt]
      have hcons : hasBZ x (w[j] :: w.drop (j + 1)) = (seqBZ w[j] x || hasBZ x (w.drop (j + 1))) := rfl
      rw [hcons]
      unfold decNZ
      by_cases e : x = w[j]
      · rw [if_pos e, e, hasB_noZ hn1, seq_isZ.2 rfl]
        simp
      · rw [if_neg e, seq_noZ fun h => e h.symm, Bool.false_or]
    rw [he] at g
    have hnum := h.num _ x1 x2
    have hwn : IntKind.i64.wrap (((c w[j] : Nat) : Int) - 1) = ((c w[j] - 1 : Nat) : Int) := by
      rw [show ((c w[j] : Nat) : Int) - 1 = ((c w[j] - 1 : Nat) : Int) by omega]
      exact i64nat (by omega)
    have hfr : RiZ free := h.free ▸ fz_riseZ hp
    have hfl : free.length ≤ p.length := by rw [h.free]; exact List.length_filter_le _ _
    by_cases e1 : c w[j] = 1
    · rw [if_pos e1] at d
      have hnf : w[j] ∉ free := by rw [h.free, mem_fzZ]; intro hh; omega
      obtain ⟨n0, h0⟩ := (bs_doesZ free w[j] (by omega) hfr).both (clone_doesZ (l := tlZ free) (by rw [tl_lenZ]; omega))
      obtain ⟨n1, h1⟩ := (ins_doesZ (l := free) (s := w[j]) (by omega) hnf).both d
      refine ⟨ms', free', g, Does.of (n0 + n1) fun m hm => ?_⟩
      obtain ⟨q1, q2⟩ := h0 m (by omega)
      obtain ⟨q3, q4⟩ := h1 m (by omega)
      have hzero : c w[j] - 1 = 0 := by omega
      rw [q_graph_Graph_int_Order_c3]
      simp only [S0, S9, S1, S2, if_true, if_false, tl_lenZ, tl_getZ hlt, num_s, hw1, gI_eqZ, putI_eqZ, hnum, hwn, gZ_selfZ, hzero, q1, q2, q3]
      rw [if_pos (by omega), if_pos (by omega), if_pos (by omega), if_pos (by omega)]
      rw [hzero] at q4
      exact q4
    · rw [if_neg e1] at d
      obtain ⟨n0, h0⟩ := d
      refine ⟨ms', free', g, Does.of n0 fun m hm => ?_⟩
      have q := h0 m hm
      rw [q_graph_Graph_int_Order_c3]
      simp only [S0, S9, S1, S2, if_true, if_false, tl_lenZ, tl_getZ hlt, num_s, hw1, gI_eqZ, putI_eqZ, hnum, hwn, gZ_selfZ]
      rw [if_pos (by omega), if_pos (by omega), if_pos (by omega), if_neg (by omega)]
      exact q
def ClZ (t : Int → List Int) (out : List Int) : Prop := ∀ x ∈ out, ∀ y ∈ t x, y ∈ out
theorem least_doesZ (s : Int) (l : List Int) (hl : l.length ≤ 1000000) : Dz i_graph_least_int none [A.t (T.node (tlZ (s :: l)))] (1, [A.t (T.int s), A.t (T.node (tlZ l))]) := Does.now fun m => by
  have e : tlZ (s :: l) = T.int s :: tlZ l := rfl
  have hl2 := tl_lenZ l
  rw [q_graph_least_int, e]
  simp only [S0, S9, S1, S2, if_true, if_false, List.length_cons, hl2]
  rw [if_pos (by omega), if_pos ⟨⟨⟨by omega, by omega⟩, trivial⟩, by omega⟩]
  rw [show l.length + 1 = (tlZ l).length + 1 by rw [tl_lenZ], ← List.length_cons (a := T.int s), List.take_length]
  rfl
theorem ord2_loopZ (p : List Int) (hp : RiZ p) (hpl : p.length ≤ 100000) (t tt : Int → List Int) (ht : ∀ x, (t x).Nodup) (htl : ∀ x, (t x).length ≤ 1000) (htt : ∀ x s, x ∈ tt s ↔ s ∈ t x) (htp : ∀ x s, x ∈ tt s → x ∈ p) {gt : List T} {pg : List Int} (hg : GrZ gt pg tt) (httl : ∀ s, (tt s).length ≤ 1000) (fsX : List T) :
    ∀ (k : Nat) (out : List Int) (ms : List T) (free : List Int), p.length ≤ out.length + k → KsZ ms free p out (cntZ t out) → ClZ t out → out.Nodup → (∀ x ∈ out, x ∈ p) →
    ∃ ms', KsZ ms' [] p (iterOZ p t k out) (cntZ t (iterOZ p t k out)) ∧ (iterOZ p t k out).Nodup ∧ (∀ x ∈ iterOZ p t k out, x ∈ p) ∧
      Dz i_graph_Graph_int_Order (some p_graph_Graph_int_Order_c2) [A.t (T.node (tlZ free)), A.t (T.node fsX), A.t (T.node (tlZ out)), A.t (T.node ms), A.t (T.node gt)] (4, [A.t (T.node fsX), A.t (T.node (tlZ (iterOZ p t k out))), A.t (T.node ms')]) := by
  intro k
  induction k with
  | zero =>
    intro out ms free hk h hcl hn ho
    cases hf : free with
    | nil =>
      subst hf
      refine ⟨ms, h, hn, ho, Does.now fun m => ?_⟩
      rw [q_graph_Graph_int_Order_c2]
      simp only [S0, S9, S1, S2, if_true, if_false]
      rfl
    | cons s rest =>
      exfalso
      have hs : s ∈ fzZ p out (cntZ t out) := by rw [← h.free, hf]; exact List.mem_cons_self
      obtain ⟨s1, s2, _⟩ := mem_fzZ.1 hs
      have : (s :: out).length ≤ p.length := List.Nodup.length_le_of_subset (List.nodup_cons.2 ⟨s2, hn⟩) fun x hx => (List.mem_cons.1 hx).elim (fun e => e ▸ s1) (ho x)
      rw [List.length_cons] at this
      omega
  | succ k ih =>
    intro out ms free hk h hcl hn ho
    cases hf : free with
    | nil =>
      subst hf
      rw [iterO_stillZ h.free.symm]
      refine ⟨ms, h, hn, ho, Does.now fun m => ?_⟩
      rw [q_graph_Graph_int_Order_c2]
      simp only [S0, S9, S1, S2, if_true, if_false]
      rfl
    | cons s rest =>
      have hfz : fzZ p out (cntZ t out) = s :: rest := h.free.symm.trans hf
      have hs : s ∈ fzZ p out (cntZ t out) := by rw [hfz]; exact List.mem_cons_self
      obtain ⟨s1, s2, s3⟩ := mem_fzZ.1 hs
      rw [cnt_allZ] at s3
      have hit : iterOZ p t (k + 1) out = iterOZ p t k (out ++ [s]) := by
        show iterOZ p t k (stepOZ p t out) = _
        unfold stepOZ
        rw [hfz]
      rw [hit]
      have hn' : (out ++ [s]).Nodup := by
        rw [List.nodup_append]
        exact ⟨hn, List.pairwise_singleton _ _, fun a ha b hb e => s2 (by rw [List.mem_singleton.1 hb] at e; exact e ▸ ha)⟩
      have ho' : ∀ x ∈ out ++ [s], x ∈ p := fun x hx => (List.mem_append.1 hx).elim (ho x) fun h => by rw [List.mem_singleton.1 h]; exact s1
      have hol : (out ++ [s]).length ≤ p.length := List.Nodup.length_le_of_subset hn' ho'
      rw [List.length_append, List.length_singleton] at hol
      have hcl' : ClZ t (out ++ [s]) := fun x hx y hy => List.mem_append_left _ (by
        rcases List.mem_append.1 hx with hx | hx
        · exact hcl x hx y hy
        · rw [List.mem_singleton.1 hx] at hy; exact s3 y hy)
      have hcle : ∀ x, cntZ t out x ≤ 1000000 := fun x => by have := List.length_filter_le (fun y => !hasBZ y out) (t x); have := htl x; unfold cntZ; omega
      obtain ⟨ms1, free1, g1, d1⟩ := ord3_loopZ p (out ++ [s]) hp hpl (tt s) (by have := httl s; omega) fsX (tlZ (out ++ [s])) gt (tt s).length 0 (delFZ ms s) rest (cntZ t out) (by omega) (h.take hp hf) (fun x hx => by
        rw [List.drop_zero] at hx
        have hsx := (htt x s).1 hx
        refine ⟨htp x s hx, fun hxo => ?_, ?_⟩
        · rcases List.mem_append.1 hxo with hxo | hxo
          · exact s2 (hcl x hxo s hsx)
          · rw [List.mem_singleton.1 hxo] at hsx; exact s2 (s3 s hsx)
        · exact List.length_pos_of_mem (List.mem_filter.2 ⟨hsx, by rw [hasB_noZ s2]; rfl⟩)) (by rw [List.drop_zero]; exact (hg.tri s).nodup) hcle
      rw [List.drop_zero] at g1
      have he : (fun x => if hasBZ x (tt s) then cntZ t out x - 1 else cntZ t out x) = cntZ t (out ++ [s]) := by
        funext x
        rw [cnt_snocZ (ht x) s2]
        have : hasBZ x (tt s) = hasBZ s (t x) := by rw [Bool.eq_iff_iff, hasB_iffZ, hasB_iffZ]; exact htt x s
        rw [this]
      rw [he] at g1
      obtain ⟨ms', g2, g3, g4, d2⟩ := ih (out ++ [s]) ms1 free1 (by rw [List.length_append, List.length_singleton]; omega) g1 hcl' hn' ho'
      have hfl : (s :: rest).length ≤ p.length := by rw [← hfz]; exact List.length_filter_le _ _
      rw [List.length_cons] at hfl
      obtain ⟨n0, h0⟩ := (least_doesZ s rest (by omega)).both (pto_doesZ hg s)
      obtain ⟨n1, h1⟩ := d1.both d2
      have hsz : Nat.succ out.length < 1073741824 := by show out.length + 1 < _; omega
      refine ⟨ms', g2, g3, g4, Does.of (n0 + n1) fun m hm => ?_⟩
      obtain ⟨q1, q2⟩ := h0 m (by omega)
      obtain ⟨q3, q4⟩ := h1 m (by omega)
      rw [tl_appZ] at q3 q4
      have q3' : den Try.prog G0 ents m i_graph_Graph_int_Order (some p_graph_Graph_int_Order_c3) [A.t (T.node (tlZ rest)), A.t (T.int ((tt s).length : Nat)), A.t (T.int 0), A.t (T.node fsX), A.t (T.node (tlZ out ++ [T.int s])), A.t (T.node (delFZ ms s)), A.t (T.node (tlZ (tt s))), A.t (T.node gt)] = some (6, [A.t (T.node (tlZ free1)), A.t (T.node fsX), A.t (T.node (tlZ out ++ [T.int s])), A.t (T.node ms1), A.t (T.node gt)]) := q3
      rw [q_graph_Graph_int_Order_c2]
      simp only [S0, S9, S1, S2, if_true, if_false, tl_lenZ, List.length_cons, num_s, delI_eqZ, q1, q2, hsz, q3', show Nat.beq 6 6 = true from rfl]
      rw [if_pos (by omega)]
      exact q4
theorem ord1_loopZ {fs : List T} {p : List Int} {t : Int → List Int} (h : GrZ fs p t) (hpl : p.length ≤ 100000) (x4 gX : List T) : ∀ (k j : Nat) (ms : List T), j + k = p.length → ms.map kyZ = p.take j → (∀ x ∈ p.take j, (gZZ (.int 0) ms x).num = ((t x).length : Nat)) →
    ∃ ms', ms'.map kyZ = p ∧ (∀ x ∈ p, (gZZ (.int 0) ms' x).num = ((t x).length : Nat)) ∧
      Dz i_graph_Graph_int_Order (some p_graph_Graph_int_Order_c1) [A.t (T.node (tlZ p)), A.t (T.int (p.length : Nat)), A.t (T.int j), A.t (T.node fs), A.t (T.node x4), A.t (T.node ms), A.t (T.node (tlZ ((p.take j).filter fun x => Nat.beq (t x).length 0))), A.t (T.node gX)]
        (2, [A.t (T.node fs), A.t (T.node x4), A.t (T.node ms'), A.t (T.node (tlZ (p.filter fun x => Nat.beq (t x).length 0))), A.t (T.node gX)]) := by
  intro k
  induction k with
  | zero =>
    intro j ms hj hk hv
    rw [List.take_of_length_le (by omega)] at hk hv ⊢
    refine ⟨ms, hk, hv, Does.now fun m => ?_⟩
    rw [q_graph_Graph_int_Order_c1]
    simp only [S0, S9, S1, S2, if_true, if_false]
    rw [if_neg (by omega)]
  | succ k ih =>
    intro j ms hj hk hv
    have hlt : j < p.length := by omega
    have hw : IntKind.i64.wrap ((j : Int) + 1) = ((j + 1 : Nat) : Int) := i64succ (by omega)
    have hnm : p[j] ∉ p.take j := by
      intro hm
      obtain ⟨i, hi, e⟩ := List.getElem_of_mem hm
      rw [List.length_take] at hi
      rw [List.getElem_take] at e
      have := List.pairwise_iff_getElem.1 h.rise i j (by omega) hlt (by omega)
      exact lt_neZ this e
    have hks : p[j] ∉ ms.map kyZ := by rw [hk]; exact hnm
    have htk := take_succ' hlt
    obtain ⟨ms', g1, g2, d⟩ := ih (j + 1) (putFZ ms p[j] (.int ((t p[j]).length : Nat))) (by omega) (by rw [put_outZ hks, hk, htk]) (fun x hx => by
      rw [gZ_putZ]
      rw [htk] at hx
      split
      · rename_i e; rw [e]; rfl
      · rename_i e
        exact hv x ((List.mem_append.1 hx).elim id fun h => absurd (List.mem_singleton.1 h) e))
    obtain ⟨n0, h0⟩ := (pto_doesZ h p[j]).both d
    have hfl : ((p.take j).filter fun x => Nat.beq (t x).length 0).length ≤ p.length := Nat.le_trans (List.length_filter_le _ _) (by rw [List.length_take]; omega)
    have hsz : Nat.succ ((p.take j).filter fun x => Nat.beq (t x).length 0).length < 1073741824 := by show _ + 1 < _; omega
    refine ⟨ms', g1, g2, Does.of n0 fun m hm => ?_⟩
    obtain ⟨q1, q2⟩ := h0 m hm
    rw [htk, List.filter_append, tl_appZ] at q2
    rw [q_graph_Graph_int_Order_c1]
    simp only [S0, S9, S1, S2, if_true, if_false, tl_lenZ, tl_getZ hlt, num_s, hw, q1, gI_eqZ, putI_eqZ, gZ_selfZ, hsz]
    rw [if_pos (by omega), if_pos (by omega)]
    by_cases e : (t p[j]).length = 0
    · have hf : ([p[j]].filter fun x => Nat.beq (t x).length 0) = [p[j]] := by rw [List.filter_cons, if_pos (by rw [e]; rfl)]; rfl
      rw [hf] at q2
      rw [if_pos (by omega)]
      exact q2
    · have hf : ([p[j]].filter fun x => Nat.beq (t x).length 0) = [] := by rw [List.filter_cons, if_neg (by rw [Nat.beq_eq]; exact e)]; rfl
      rw [hf] at q2
      rw [if_neg (by omega)]
      rw [show tlZ [] = [] from rfl, List.append_nil] at q2
      exact q2
theorem isort_eqZ (n : Nat) (l : List T) : den Try.prog G0 ents (Nat.succ n) i_slices_SortedI none [A.t (T.node l)] = Option.map (fun o => (1, o)) (bif keysIOk l then some [A.t (T.node (keysI l)), A.t (T.node l)] else none) := by kernel_rfl
theorem order_genZ {fs : List T} {l : List Int} {L : List (Int × Int)} (g : GrZ fs (ptsOfZ l L) (toOfZ L)) (hpl : (ptsOfZ l L).length ≤ 180) (htl : ∀ s, (toOfZ L s).length ≤ 60) (hsl : ∀ s, (toOfZ (swpZ L) s).length ≤ 60) :
    ∃ out, out = iterOZ (ptsOfZ l L) (toOfZ L) (ptsOfZ l L).length [] ∧ fzZ (ptsOfZ l L) out (cntZ (toOfZ L) out) = [] ∧ (∀ x ∈ out, x ∈ ptsOfZ l L) ∧ out.Nodup ∧
      Dz i_graph_Graph_int_Order none [A.t (T.node fs)] (1, [A.t (T.node (tlZ (lftZ (ptsOfZ l L) out))), A.t (T.node fs), A.t (T.node (tlZ out))]) := by
  obtain ⟨fb, gb, d1⟩ := turned_doesZ g (by omega) (fun s => by have := htl s; omega)
  rw [turn_ptsZ] at gb
  have htb : ∀ s, toOfZ (turnLZ (ptsOfZ l L) (toOfZ L)) s = toOfZ (swpZ L) s := fun s => turn_toZ s
  obtain ⟨ms1, k1, k2, d2⟩ := ord1_loopZ g (by omega) [] fb (ptsOfZ l L).length 0 [] (by omega) rfl (fun x hx => by cases hx)
  have hks : KsZ ms1 ((ptsOfZ l L).filter fun x => Nat.beq (toOfZ L x).length 0) (ptsOfZ l L) [] (cntZ (toOfZ L) []) := by
    refine ⟨?_, fun x hx _ => by rw [cnt_nilZ]; exact k2 x hx, ?_⟩
    · rw [k1]
      have : lftZ (ptsOfZ l L) [] = ptsOfZ l L := List.filter_eq_self.2 fun y _ => rfl
      rw [this]
    · unfold fzZ
      congr 1
      funext x
      rw [cnt_nilZ]
      rfl
  obtain ⟨ms2, k3, k4, k5, d3⟩ := ord2_loopZ (ptsOfZ l L) (pts_riseZ l L) (by omega) (toOfZ L) (toOfZ (turnLZ (ptsOfZ l L) (toOfZ L))) (fun x => (to_riseZ L x).nodup) (fun x => by have := htl x; omega)
    (fun x s => by rw [htb, mem_toZ, mem_swpZ, mem_toZ]) (fun x s hx => by rw [htb, mem_toZ, mem_swpZ] at hx; exact mem_ptsZ.2 (.inr ⟨_, hx, .inl rfl⟩)) gb (fun s => by rw [htb]; have := hsl s; omega) fs (ptsOfZ l L).length [] ms1 _ (by simp) hks (fun x hx => by cases hx) List.nodup_nil (fun x hx => by cases hx)
  refine ⟨_, rfl, k3.free.symm, k5, k4, ?_⟩
  generalize iterOZ (ptsOfZ l L) (toOfZ L) (ptsOfZ l L).length [] = out at *
  have hr := lft_riseZ (p := ptsOfZ l L) (out := out) (pts_riseZ l L)
  have hll : (lftZ (ptsOfZ l L) out).length ≤ (ptsOfZ l L).length := List.length_filter_le _ _
  have h1 : Dz i_maps_Keys_map_intint_int_int none [A.t (T.node ms2)] (1, [A.t (T.node ms2)]) := Does.now fun m => by
    rw [q_maps_Keys_map_intint_int_int]
    simp only [S0, S9, S1, S2, if_true, if_false]
  have h2 : Dz i_slices_SortedI none [A.t (T.node ms2)] (1, [A.t (T.node (keysI ms2)), A.t (T.node ms2)]) := Does.now fun n => by
    rw [isort_eqZ, keysOk_ofZ k3.keys (by omega) (fun x hx => by have := g.siz x (mem_lftZ.1 hx).1; omega)]; rfl
  rw [keys_ofZ k3.keys hr] at h2
  obtain ⟨n0, h0⟩ := h1.both h2
  obtain ⟨n1, h3⟩ := d1.both (points_doesZ g)
  obtain ⟨n2, h4⟩ := d2.both d3
  refine Does.of (n0 + n1 + n2) fun m hm => ?_
  obtain ⟨q1, q2⟩ := h0 m (by omega)
  obtain ⟨q3, q4⟩ := h3 m (by omega)
  obtain ⟨q5, q6⟩ := h4 m (by omega)
  have q5' : den Try.prog G0 ents m i_graph_Graph_int_Order (some p_graph_Graph_int_Order_c1) [A.t (T.node (tlZ (ptsOfZ l L))), A.t (T.int ((ptsOfZ l L).length : Nat)), A.t (T.int 0), A.t (T.node fs), A.t (T.node []), A.t (T.node []), A.t (T.node []), A.t (T.node fb)] = _ := q5
  have q6' : den Try.prog G0 ents m i_graph_Graph_int_Order (some p_graph_Graph_int_Order_c2) [A.t (T.node (tlZ ((ptsOfZ l L).filter fun x => Nat.beq (toOfZ L x).length 0))), A.t (T.node fs), A.t (T.node []), A.t (T.node ms1), A.t (T.node fb)] = _ := q6
  rw [q_graph_Graph_int_Order]
  simp only [S0, S9, S1, S2, if_true, if_false, q1, q2, q3, q4, tl_lenZ, q5', q6', show Nat.beq 4 4 = true from rfl]
theorem order_doesZ {fs : List T} {l : List Int} {L : List (Int × Int)} (g : GrZ fs (ptsOfZ l L) (toOfZ L)) (hl : l.length ≤ 60) (hL : L.length ≤ 60) :
    ∃ out, out = iterOZ (ptsOfZ l L) (toOfZ L) (ptsOfZ l L).length [] ∧ fzZ (ptsOfZ l L) out (cntZ (toOfZ L) out) = [] ∧ (∀ x ∈ out, x ∈ ptsOfZ l L) ∧ out.Nodup ∧
      Dz i_graph_Graph_int_Order none [A.t (T.node fs)] (1, [A.t (T.node (tlZ (lftZ (ptsOfZ l L) out))), A.t (T.node fs), A.t (T.node (tlZ out))]) :=
  order_genZ g (by have := pts_lenZ l L; omega) (fun s => by have := to_lenZ L s; omega) (fun s => by have := to_lenZ (swpZ L) s; unfold swpZ at this; rw [List.length_map] at this; unfold swpZ; omega)
end Go.Proofs.YtbejhhoakeapgaaGI
namespace Go.Proofs.YtbejhhoakeapgaaGI
open Go Go.Proofs.YtbejhhoakeapgaaVM
set_option linter.unusedVariables false
set_option linter.unusedSimpArgs false
set_option maxRecDepth 100000

def dg (k : Int) : ByteArray := ⟨#[UInt8.ofNat (48 + k.toNat)]⟩
def D9 (k : Int) : Prop := 0 ≤ k ∧ k ≤ 9
def dgp (x : Int × Int) : ByteArray × ByteArray := (dg x.1, dg x.2)
theorem dg_fin : ∀ m n : Fin 10, sltB (dg (m.val : Int)) (dg (n.val : Int)) = decide (m.val < n.val) := by decide +kernel
theorem D9.fin {k : Int} (h : D9 k) : ∃ m : Fin 10, k = (m.val : Int) := by
  obtain ⟨h1, h2⟩ := h
  obtain ⟨n, rfl⟩ := Int.eq_ofNat_of_zero_le h1
  exact ⟨⟨n, by omega⟩, rfl⟩
theorem dg_lt {a b : Int} (ha : D9 a) (hb : D9 b) : sltB (dg a) (dg b) = sltBZ a b := by
  obtain ⟨m, rfl⟩ := ha.fin
  obtain ⟨n, rfl⟩ := hb.fin
  rw [dg_fin]
  unfold sltBZ
  rw [decide_eq_decide]
  omega
theorem dg_inj {a b : Int} (ha : D9 a) (hb : D9 b) (h : dg a = dg b) : a = b := by
  have h1 := dg_lt ha hb
  have h2 := dg_lt hb ha
  rw [h, lt_irr] at h1
  rw [h, lt_irr] at h2
  have n1 : ¬ a < b := of_decide_eq_false h1.symm
  have n2 : ¬ b < a := of_decide_eq_false h2.symm
  omega
theorem map_rise {l : List Int} (h : RiZ l) (h9 : ∀ x ∈ l, D9 x) : Ri (l.map dg) := by
  unfold Ri
  rw [List.pairwise_map]
  exact List.Pairwise.imp_of_mem (fun {a b} ha hb hab => by rw [dg_lt (h9 a ha) (h9 b hb)]; exact hab) h
theorem pts_9 {L : List (Int × Int)} (h : ∀ x ∈ L, D9 x.1 ∧ D9 x.2) : ∀ x ∈ ptsOfZ [] L, D9 x := fun x hx => by
  rcases mem_ptsZ.1 hx with h1 | ⟨y, hy, h1⟩
  · cases h1
  · rcases h1 with rfl | rfl
    · exact (h y hy).1
    · exact (h y hy).2
theorem to_9 {L : List (Int × Int)} (h : ∀ x ∈ L, D9 x.1 ∧ D9 x.2) (k : Int) : ∀ x ∈ toOfZ L k, D9 x := fun x hx => (h _ (mem_toZ.1 hx)).2
theorem pts_dg {L : List (Int × Int)} (h : ∀ x ∈ L, D9 x.1 ∧ D9 x.2) : ptsOf [] (L.map dgp) = (ptsOfZ [] L).map dg := by
  refine Ri.ext (pts_rise _ _) (map_rise (pts_riseZ _ _) (pts_9 h)) fun x => ?_
  rw [mem_pts, List.mem_map]
  constructor
  · rintro (h1 | ⟨y, hy, h1⟩)
    · cases h1
    · obtain ⟨z, hz, rfl⟩ := List.mem_map.1 hy
      rcases h1 with rfl | rfl
      · exact ⟨z.1, mem_ptsZ.2 (.inr ⟨z, hz, .inl rfl⟩), rfl⟩
      · exact ⟨z.2, mem_ptsZ.2 (.inr ⟨z, hz, .inr rfl⟩), rfl⟩
  · rintro ⟨k, hk, rfl⟩
    rcases mem_ptsZ.1 hk with h1 | ⟨y, hy, h1⟩
    · cases h1
    · refine .inr ⟨dgp y, List.mem_map.2 ⟨y, hy, rfl⟩, ?_⟩
      rcases h1 with rfl | rfl
      · exact .inl rfl
      · exact .inr rfl
theorem to_dg {L : List (Int × Int)} (h : ∀ x ∈ L, D9 x.1 ∧ D9 x.2) {k : Int} (hk : D9 k) : toOf (L.map dgp) (dg k) = (toOfZ L k).map dg := by
  refine Ri.ext (to_rise _ _) (map_rise (to_riseZ _ _) (to_9 h k)) fun x => ?_
  rw [mem_to, List.mem_map, List.mem_map]
  constructor
  · rintro ⟨y, hy, e⟩
    have e1 : dg y.1 = dg k := congrArg Prod.fst e
    have e2 : dg y.2 = x := congrArg Prod.snd e
    have e3 := dg_inj (h y hy).1 hk e1
    refine ⟨y.2, mem_toZ.2 ?_, e2⟩
    rw [← e3]
    exact hy
  · rintro ⟨z, hz, rfl⟩
    exact ⟨(k, z), mem_toZ.1 hz, rfl⟩
theorem hasB_dg {x : Int} {o : List Int} (hx : D9 x) (ho : ∀ y ∈ o, D9 y) : hasB (dg x) (o.map dg) = hasBZ x o := by
  rw [Bool.eq_iff_iff, hasB_iff, hasB_iffZ, List.mem_map]
  constructor
  · rintro ⟨y, hy, e⟩
    rw [← dg_inj (ho y hy) hx e]; exact hy
  · intro h; exact ⟨x, h, rfl⟩
theorem cnt_dg {t' : ByteArray → List ByteArray} {t : Int → List Int} {o : List Int} {x : Int} (ht : t' (dg x) = (t x).map dg) (h9 : ∀ y ∈ t x, D9 y) (ho : ∀ y ∈ o, D9 y) : cnt t' (o.map dg) (dg x) = cntZ t o x := by
  unfold cnt cntZ
  rw [ht, List.filter_map, List.length_map]
  congr 1
  refine List.filter_congr fun y hy => ?_
  show (!hasB (dg y) (o.map dg)) = _
  rw [hasB_dg (h9 y hy) ho]
theorem fz_dg {p o : List Int} {c' : ByteArray → Nat} {c : Int → Nat} (hp : ∀ x ∈ p, D9 x) (ho : ∀ y ∈ o, D9 y) (hc : ∀ x ∈ p, c' (dg x) = c x) : fz (p.map dg) (o.map dg) c' = (fzZ p o c).map dg := by
  unfold fz fzZ
  rw [List.filter_map]
  congr 1
  refine List.filter_congr fun y hy => ?_
  show (!hasB (dg y) (o.map dg) && Nat.beq (c' (dg y)) 0) = _
  rw [hasB_dg (hp y hy) ho, hc y hy]
theorem lft_dg {p o : List Int} (hp : ∀ x ∈ p, D9 x) (ho : ∀ y ∈ o, D9 y) : lft (p.map dg) (o.map dg) = (lftZ p o).map dg := by
  unfold lft lftZ
  rw [List.filter_map]
  congr 1
  refine List.filter_congr fun y hy => ?_
  show (!hasB (dg y) (o.map dg)) = _
  rw [hasB_dg (hp y hy) ho]
theorem iter_dg {p : List Int} {t' : ByteArray → List ByteArray} {t : Int → List Int} (hp : ∀ x ∈ p, D9 x) (ht : ∀ x ∈ p, t' (dg x) = (t x).map dg) (h9 : ∀ x, ∀ y ∈ t x, D9 y) : ∀ (n : Nat) (o : List Int), (∀ y ∈ o, D9 y) → iterO (p.map dg) t' n (o.map dg) = (iterOZ p t n o).map dg
  | 0, o, _ => rfl
  | n + 1, o, ho => by
    show iterO (p.map dg) t' n (stepO (p.map dg) t' (o.map dg)) = (iterOZ p t n (stepOZ p t o)).map dg
    have e := fz_dg (p := p) (o := o) (c' := cnt t' (o.map dg)) (c := cntZ t o) hp ho fun x hx => cnt_dg (ht x hx) (h9 x) ho
    unfold stepO stepOZ
    rw [e]
    cases hf : fzZ p o (cntZ t o) with
    | nil => exact iter_dg hp ht h9 n o ho
    | cons s rest =>
      have hs : s ∈ fzZ p o (cntZ t o) := by rw [hf]; exact List.mem_cons_self
      have hs9 := hp s (mem_fzZ.1 hs).1
      have := iter_dg hp ht h9 n (o ++ [s]) (fun y hy => by
        rcases List.mem_append.1 hy with hy | hy
        · exact ho y hy
        · rw [List.mem_singleton.1 hy]; exact hs9)
      rw [List.map_append] at this
      exact this
end Go.Proofs.YtbejhhoakeapgaaGI
namespace Go.Proofs.YtbejhhoakeapgaaGI
open Go Go.Proofs.YtbejhhoakeapgaaVM
set_option linter.unusedVariables false
set_option linter.unusedSimpArgs false
set_option maxRecDepth 100000

def frN (y : T) : Nat := (y.get 0).num.toNat % 10
def toN (y : T) : Nat := (y.get 1).num.toNat % 10
def lnI (y : T) : Int × Int := ((frN y : Int), (toN y : Int))
def lnT (y : T) : T := .node [.str (dg (frN y)), .str (dg (toN y))]
structure By (y : T) : Prop where
  a : 0 ≤ (y.get 0).num
  b : 0 ≤ (y.get 1).num
theorem byte_of {t : T} (h : TOk Try.prog 5 t) : 0 ≤ t.num := by
  obtain ⟨n, rfl, hw⟩ := TOk.int_of Try.underlying5 h
  show 0 ≤ n
  simp only [Lit.wf, IntKind.min, IntKind.signed, Bool.and_eq_true, decide_eq_true_eq, Bool.false_eq_true, if_false] at hw
  exact hw.1
theorem by_of {t : T} (h : TOk Try.prog 38 t) : By t := by
  have ha : arrOf Try.prog 38 = some (2, 5, 1) := by kernel_rfl
  cases h with
  | @arr _ e N s xs h2 hl hx =>
    rw [ha] at h2
    cases h2
    match xs, hl with
    | [x, y], _ => exact ⟨byte_of (hx 0 x rfl), byte_of (hx 1 y rfl)⟩
  | bool h => rw [Try.underlying38] at h; cases h
  | int h hw => rw [Try.underlying38] at h; cases h
  | str h _ => rw [Try.underlying38] at h; cases h
  | slice h _ _ => have := rowOf_slice h; obtain ⟨hq, _⟩ := this; rw [Try.underlying38] at hq; cases hq
  | struct h _ _ => have := fieldsOf_agg h; obtain ⟨_, _, _, hq, _⟩ := this; rw [Try.underlying38] at hq; cases hq
theorem bys_of {t : T} (h : TOk Try.prog 35 t) : ∀ y ∈ t.kids, By y := by
  obtain ⟨l, rfl, _, hl⟩ := TOk.row_of Try.underlying35 h
  exact fun y hy => by_of (hl y hy)
theorem lnI_9 (y : T) : D9 (lnI y).1 ∧ D9 (lnI y).2 := by
  unfold lnI D9 frN toN
  simp only
  omega
theorem ext_fin : ∀ m : Fin 10, ByteArray.extract ⟨List.toArray [48,49,50,51,52,53,54,55,56,57]⟩ m.val (m.val + 1) = dg (m.val : Int) := by decide +kernel
theorem ext_dg {n : Nat} (h : n < 10) : ByteArray.extract ⟨List.toArray [48,49,50,51,52,53,54,55,56,57]⟩ n (n + 1) = dg (n : Int) := ext_fin ⟨n, h⟩
theorem byte_fin : ∀ m : Fin 10, UInt8.toNat (Array.getD (ByteArray.data (dg (m.val : Int))) 0 0) = 48 + m.val := by decide +kernel
theorem dg_size (k : Int) : (dg k).size = 1 := rfl
theorem byte_dg {k : Int} (h : D9 k) : IntKind.i64.wrap (IntKind.i64.wrap ((UInt8.toNat (Array.getD (ByteArray.data (dg k)) 0 0) : Nat) : Int) - 48) = k := by
  obtain ⟨m, rfl⟩ := h.fin
  have hm := m.isLt
  rw [byte_fin, i64nat (by omega), w64 (by omega) (by omega)]
  omega
theorem lnT_ln (y : T) : ln (lnT y) = dgp (lnI y) := rfl
theorem gi1_loop (lt : List T) (hl : lt.length ≤ 60) (hb : ∀ y ∈ lt, By y) : ∀ (k j : Nat) (fs : List T), j + k = lt.length → GrZ fs (ptsOfZ [] ((lt.take j).map lnI)) (toOfZ ((lt.take j).map lnI)) →
    ∃ fs', GrZ fs' (ptsOfZ [] (lt.map lnI)) (toOfZ (lt.map lnI)) ∧ Dz i_L17_GraphInts (some p_L17_GraphInts_c1) [A.t (T.node lt), A.t (T.int j), A.t (T.node ((lt.take j).map lnT)), A.t (T.node fs)] (2, [A.t (T.node (lt.map lnT)), A.t (T.node fs')]) := by
  intro k
  induction k with
  | zero =>
    intro j fs hj h
    rw [List.take_of_length_le (by omega)] at h ⊢
    refine ⟨fs, h, Does.now fun m => ?_⟩
    rw [q_L17_GraphInts_c1]
    simp only [S0, S9, S1, S2, if_true, if_false]
    rw [if_neg (by omega)]
  | succ k ih =>
    intro j fs hj h
    have hlt : j < lt.length := by omega
    have hw : IntKind.i64.wrap ((j : Int) + 1) = ((j + 1 : Nat) : Int) := i64succ (by omega)
    have hby := hb _ (List.getElem_mem hlt)
    have h9 := lnI_9 lt[j]
    have e1 : IntKind.i64.wrap (Int.tmod (lt[j].get 0).num 10) = ((frN lt[j] : Nat) : Int) := by
      obtain ⟨n, hn⟩ := Int.eq_ofNat_of_zero_le hby.a
      unfold frN
      rw [hn, Int.toNat_natCast, show (10 : Int) = ((10 : Nat) : Int) from rfl, tmodN, i64nat (by omega)]
    have e2 : IntKind.i64.wrap (Int.tmod (lt[j].get 1).num 10) = ((toN lt[j] : Nat) : Int) := by
      obtain ⟨n, hn⟩ := Int.eq_ofNat_of_zero_le hby.b
      unfold toN
      rw [hn, Int.toNat_natCast, show (10 : Int) = ((10 : Nat) : Int) from rfl, tmodN, i64nat (by omega)]
    have f1 : frN lt[j] < 10 := Nat.mod_lt _ (by omega)
    have f2 : toN lt[j] < 10 := Nat.mod_lt _ (by omega)
    have e3 : IntKind.i64.wrap (((frN lt[j] : Nat) : Int) + 1) = ((frN lt[j] + 1 : Nat) : Int) := i64succ (by omega)
    have e4 : IntKind.i64.wrap (((toN lt[j] : Nat) : Int) + 1) = ((toN lt[j] + 1 : Nat) : Int) := i64succ (by omega)
    obtain ⟨fs1, g1, d1⟩ := link_onZ h (a := (frN lt[j] : Int)) (b := (toN lt[j] : Int)) (by unfold szZ; omega) (by unfold szZ; omega) (by rw [List.length_map, List.length_take]; simp only [List.length_nil]; omega)
    have hsn : (lt.take j).map lnI ++ [((frN lt[j] : Int), (toN lt[j] : Int))] = (lt.take (j + 1)).map lnI := by
      rw [take_succ' hlt, List.map_append]; rfl
    rw [hsn] at g1
    obtain ⟨fs2, g2, d2⟩ := ih (j + 1) fs1 (by omega) g1
    have htn : (lt.take (j + 1)).map lnT = (lt.take j).map lnT ++ [lnT lt[j]] := by rw [take_succ' hlt, List.map_append]; rfl
    rw [htn] at d2
    have hsz : Nat.succ ((lt.take j).map lnT).length < 1073741824 := by rw [List.length_map, List.length_take]; show _ + 1 < _; omega
    obtain ⟨n0, h0⟩ := d1.both d2
    refine ⟨fs2, g2, Does.of n0 fun m hm => ?_⟩
    obtain ⟨q1, q2⟩ := h0 m hm
    have g3 : (0 : Int) ≤ ((frN lt[j] : Nat) : Int) := by omega
    have g4 : (0 : Int) ≤ ((toN lt[j] : Nat) : Int) := by omega
    have g5 : (0 : Int) ≤ ((frN lt[j] + 1 : Nat) : Int) := by omega
    have g6 : (0 : Int) ≤ ((toN lt[j] + 1 : Nat) : Int) := by omega
    have g7 : ((frN lt[j] + 1 : Nat) : Int) ≤ 10 := by omega
    have g8 : ((toN lt[j] + 1 : Nat) : Int) ≤ 10 := by omega
    have g9 : ((frN lt[j] : Nat) : Int) ≤ ((frN lt[j] + 1 : Nat) : Int) := by omega
    have g10 : ((toN lt[j] : Nat) : Int) ≤ ((toN lt[j] + 1 : Nat) : Int) := by omega
    rw [q_L17_GraphInts_c1]
    simp only [S0, S9, S1, S2, if_true, if_false, at_get hlt, hw, e1, e2, e3, e4, q1, g3, g4, g5, g6, g7, g8, g9, g10, and_self, Bool.and_self, decide_true, hsz, Int.toNat_natCast, ext_dg f1, ext_dg f2]
    rw [if_pos (by omega), if_pos (by omega), if_pos (by omega)]
    exact q2
theorem gi2_loop (l : List Int) (hl : l.length ≤ 1000) (h9 : ∀ x ∈ l, D9 x) (x0 x4 : List T) : ∀ (k j : Nat), j + k = l.length →
    Dz i_L17_GraphInts (some p_L17_GraphInts_c2) [A.t (T.node x0), A.t (T.int j), A.t (T.node (tlZ l)), A.t (T.node (tl (l.map dg))), A.t (T.node x4)] (4, [A.t (T.node x0), A.t (T.node x4)]) := by
  intro k
  induction k with
  | zero =>
    intro j hj
    refine Does.now fun m => ?_
    rw [q_L17_GraphInts_c2]
    simp only [S0, S9, S1, S2, if_true, if_false, tl_lenZ]
    rw [if_neg (by omega)]
  | succ k ih =>
    intro j hj
    have hlt : j < l.length := by omega
    have hlt2 : j < (l.map dg).length := by rw [List.length_map]; exact hlt
    have hw : IntKind.i64.wrap ((j : Int) + 1) = ((j + 1 : Nat) : Int) := i64succ (by omega)
    obtain ⟨n0, h0⟩ := ih (j + 1) (by omega)
    refine Does.of n0 fun m hm => ?_
    have q := h0 m hm
    have g1 : (0 : Int) ≤ (j : Int) := by omega
    have g2 : (j : Int) < ((l.length : Nat) : Int) := by omega
    rw [q_L17_GraphInts_c2]
    simp only [S0, S9, S1, S2, if_true, if_false, tl_lenZ, tl_len, List.length_map, tl_getZ hlt, tl_get hlt2, List.getElem_map, num_s, txt_s, hw, g1, g2, and_self, hlt, Int.toNat_natCast, decide_true, dg_size, byte_dg (h9 _ (List.getElem_mem hlt)), bne_self_eq_false, Bool.false_eq_true]
    rw [if_pos (by decide)]
    exact q
theorem gi3_loop (l : List Int) (hl : l.length ≤ 1000) (h9 : ∀ x ∈ l, D9 x) : ∀ (k j : Nat), j + k = l.length →
    Dz i_L17_GraphInts (some p_L17_GraphInts_c3) [A.t (T.node (tlZ l)), A.t (T.node (tl (l.map dg))), A.t (T.int j)] (6, []) := by
  intro k
  induction k with
  | zero =>
    intro j hj
    refine Does.now fun m => ?_
    rw [q_L17_GraphInts_c3]
    simp only [S0, S9, S1, S2, if_true, if_false, tl_lenZ]
    rw [if_neg (by omega)]
  | succ k ih =>
    intro j hj
    have hlt : j < l.length := by omega
    have hlt2 : j < (l.map dg).length := by rw [List.length_map]; exact hlt
    have hw : IntKind.i64.wrap ((j : Int) + 1) = ((j + 1 : Nat) : Int) := i64succ (by omega)
    obtain ⟨n0, h0⟩ := ih (j + 1) (by omega)
    refine Does.of n0 fun m hm => ?_
    have q := h0 m hm
    have g1 : (0 : Int) ≤ (j : Int) := by omega
    have g2 : (j : Int) < ((l.length : Nat) : Int) := by omega
    rw [q_L17_GraphInts_c3]
    simp only [S0, S9, S1, S2, if_true, if_false, tl_lenZ, tl_len, List.length_map, tl_getZ hlt, tl_get hlt2, List.getElem_map, num_s, txt_s, hw, g1, g2, and_self, hlt, Int.toNat_natCast, decide_true, dg_size, byte_dg (h9 _ (List.getElem_mem hlt)), bne_self_eq_false, Bool.false_eq_true]
    rw [if_pos (by decide)]
    exact q
theorem awakeI_does : Dz i_L17_awake none [] (1, [A.t (T.bool true)]) := run_of 100 fun n => by kernel_rfl
theorem law_does (x : T) (hb : ∀ y ∈ x.kids, By y) : Dz i_L17_GraphInts none [A.t x] (1, [A.t (T.bool true)]) := by
  obtain ⟨na, ha⟩ := awakeI_does
  by_cases hl : x.kids.length ≤ 60
  rotate_left
  · refine Does.of na fun m hm => ?_
    have q := ha m hm
    rw [q_L17_GraphInts]
    simp only [S0, S9, S1, S2, if_true, if_false, q]
    rw [if_pos (by omega)]
  generalize hx : x.kids = lt at *
  obtain ⟨f0, g0, d0⟩ := new_doesZ [] (by simp) (fun x hx => by cases hx)
  obtain ⟨f1, g1, d1⟩ := gi1_loop lt hl hb lt.length 0 f0 (by omega) g0
  have hL9 : ∀ x ∈ lt.map lnI, D9 x.1 ∧ D9 x.2 := fun z hz => by
    obtain ⟨y, _, rfl⟩ := List.mem_map.1 hz
    exact lnI_9 y
  have hpl := pts_lenZ [] (lt.map lnI)
  rw [List.length_map] at hpl
  simp only [List.length_nil] at hpl
  obtain ⟨out, o1, o2, o3, o4, d2⟩ := order_genZ g1 (by omega) (fun s => by have := to_lenZ (lt.map lnI) s; rw [List.length_map] at this; omega) (fun s => by
    have := to_lenZ (swpZ (lt.map lnI)) s
    unfold swpZ at this ⊢
    rw [List.length_map, List.length_map] at this
    omega)
  have hp9 := pts_9 hL9
  have ho9 : ∀ y ∈ out, D9 y := fun y hy => hp9 y (o3 y hy)
  have hlf9 : ∀ y ∈ lftZ (ptsOfZ [] (lt.map lnI)) out, D9 y := fun y hy => hp9 y (mem_lftZ.1 hy).1
  have hol : out.length ≤ (ptsOfZ [] (lt.map lnI)).length := List.Nodup.length_le_of_subset o4 o3
  have hll : (lftZ (ptsOfZ [] (lt.map lnI)) out).length ≤ (ptsOfZ [] (lt.map lnI)).length := List.length_filter_le _ _
  have hml : (lt.map lnT).map ln = (lt.map lnI).map dgp := by
    rw [List.map_map, List.map_map]
    rfl
  have hpe : ptsOf [] ((lt.map lnT).map ln) = (ptsOfZ [] (lt.map lnI)).map dg := by rw [hml]; exact pts_dg hL9
  have hoe : out.map dg = iterO ((ptsOfZ [] (lt.map lnI)).map dg) (toOf ((lt.map lnT).map ln)) ((ptsOfZ [] (lt.map lnI)).map dg).length [] := by
    rw [hml, List.length_map]
    have := iter_dg (p := ptsOfZ [] (lt.map lnI)) (t' := toOf ((lt.map lnI).map dgp)) (t := toOfZ (lt.map lnI)) hp9 (fun x hx => to_dg hL9 (hp9 x hx)) (to_9 hL9) (ptsOfZ [] (lt.map lnI)).length [] (fun y hy => by cases hy)
    rw [← o1] at this
    exact this.symm
  have d3 := rpoints_does [] (lt.map lnT) (by simp) (by rw [List.length_map]; omega)
  rw [hpe] at d3
  have d4 := rorder17_does ((ptsOfZ [] (lt.map lnI)).map dg) (by rw [List.length_map]; omega) (lt.map lnT) (by rw [List.length_map]; omega) hoe (by rw [List.length_map]; omega)
  rw [lft_dg hp9 ho9] at d4
  obtain ⟨n1, h1⟩ := d0.both d1
  obtain ⟨n2, h2⟩ := d2.both d3
  obtain ⟨n3, h3⟩ := d4.both (gi2_loop out (by omega) ho9 (tlZ (lftZ (ptsOfZ [] (lt.map lnI)) out)) (tl ((lftZ (ptsOfZ [] (lt.map lnI)) out).map dg)) out.length 0 (by omega))
  obtain ⟨n4, h4⟩ := gi3_loop (lftZ (ptsOfZ [] (lt.map lnI)) out) (by omega) hlf9 (lftZ (ptsOfZ [] (lt.map lnI)) out).length 0 (by omega)
  refine Does.of (na + n1 + n2 + n3 + n4) fun m hm => ?_
  have q0 := ha m (by omega)
  obtain ⟨q1, q2⟩ := h1 m (by omega)
  obtain ⟨q3, q4⟩ := h2 m (by omega)
  obtain ⟨q5, q6⟩ := h3 m (by omega)
  have q7 := h4 m (by omega)
  have q1' : den Try.prog G0 ents m i_graph_New_int none [A.t (T.node [])] = _ := q1
  have q2' : den Try.prog G0 ents m i_L17_GraphInts (some p_L17_GraphInts_c1) [A.t (T.node lt), A.t (T.int 0), A.t (T.node []), A.t (T.node f0)] = _ := q2
  have q4' : den Try.prog G0 ents m i_R17_Points none [A.t (T.node []), A.t (T.node (lt.map lnT))] = _ := q4
  have q6' : den Try.prog G0 ents m i_L17_GraphInts (some p_L17_GraphInts_c2) [A.t (T.node (tlZ (lftZ (ptsOfZ [] (lt.map lnI)) out))), A.t (T.int 0), A.t (T.node (tlZ out)), A.t (T.node (tl (out.map dg))), A.t (T.node (tl ((lftZ (ptsOfZ [] (lt.map lnI)) out).map dg)))] = _ := q6
  have q7' : den Try.prog G0 ents m i_L17_GraphInts (some p_L17_GraphInts_c3) [A.t (T.node (tlZ (lftZ (ptsOfZ [] (lt.map lnI)) out))), A.t (T.node (tl ((lftZ (ptsOfZ [] (lt.map lnI)) out).map dg))), A.t (T.int 0)] = _ := q7
  rw [q_L17_GraphInts]
  simp only [S0, S9, S1, S2, if_true, if_false, hx, q0, q1', q2', q3, q4', q5, q6', q7', tl_lenZ, tl_len, List.length_map, bne_self_eq_false, Bool.false_eq_true, show Nat.beq 2 2 = true from rfl, show Nat.beq 4 4 = true from rfl, show Nat.beq 6 6 = true from rfl, not_true_eq_false]
  rw [if_neg (by omega)]
end Go.Proofs.YtbejhhoakeapgaaGI
