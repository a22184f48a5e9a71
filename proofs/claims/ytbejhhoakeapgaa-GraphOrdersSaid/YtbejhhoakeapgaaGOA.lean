/- A law's proof, a part: what the code answers. -/
import Derived.Test.YtbejhhoakeapgaaVmZu
import Derived.Test.YtbejhhoakeapgaaVmC
import Derived.Test.YtbejhhoakeapgaaVmZx
import Derived.Test.YtbejhhoakeapgaaVmZy
import Derived.Test.YtbejhhoakeapgaaProg
namespace Go.Proofs.YtbejhhoakeapgaaGO
open Go Go.Proofs.YtbejhhoakeapgaaVM
def G0 : List (Nat × TypeId × T) := []
def e0 : Entry := sortedE 35 54 60 9 3 22
def e1 : Entry := sortedE 35 64 88 9 22 22
def e2 : Entry := cloneE 34 22 9
def e3 : Entry := { fid := 3, ins := ⟨[(0, .v 22), (1, .v 23)], []⟩, outs := ⟨[(0, .v 4)], []⟩, cuts := [([false, true, false, true, true, true, true, true, true], ⟨⟨[(1, .v 23), (7, .v 22), (10, .v 3)], []⟩, [(2, ⟨[], []⟩), (1, ⟨[(4, .v 4)], []⟩)]⟩), ([false, true, false, true, true, false, false, true, false, false, true, false, true, true, true, true, true, true], ⟨⟨[(1, .v 23), (7, .v 22), (10, .v 3), (11, .v 22), (12, .v 4), (13, .v 3)], []⟩, [(4, ⟨[(1, .v 23), (7, .v 22), (10, .v 3), (12, .v 4)], []⟩)]⟩)], lit := true }
def e4 : Entry := { fid := 7, ins := ⟨[(0, .v 22), (1, .v 23)], []⟩, outs := ⟨[(0, .v 4)], []⟩, cuts := [([false, true, false, true, true], ⟨⟨[(0, .v 22), (1, .v 23), (5, .v 3)], []⟩, [(2, ⟨[(1, .v 23)], []⟩), (1, ⟨[(4, .v 4)], []⟩)]⟩), ([false, true, false, true, true, true], ⟨⟨[(1, .v 23), (6, .v 3)], []⟩, [(4, ⟨[], []⟩), (1, ⟨[(4, .v 4)], []⟩)]⟩)], lit := true }
def e5 : Entry := { fid := 8, ins := ⟨[], []⟩, outs := ⟨[(0, .v 4)], []⟩, cuts := [], lit := true }
def e6 : Entry := { fid := 29, ins := ⟨[(0, .v 22)], []⟩, outs := ⟨[(0, .p 0 90)], [.var 90 (.agg 90 [.m 1]) false, .map 9 22]⟩, cuts := [([false, true, false, true, true], ⟨⟨[(3, .p 0 90), (9, .v 22), (10, .v 3), (11, .v 3)], [.var 90 (.agg 90 [.m 1]) false, .map 9 22]⟩, [(2, ⟨[(3, .p 0 90)], [.var 90 (.agg 90 [.m 1]) false, .map 9 22]⟩)]⟩)] }
def e7 : Entry := { fid := 27, ins := ⟨[(0, .p 0 90), (1, .v 9)], [.var 90 (.agg 90 [.m 1]) false, .map 9 22]⟩, outs := ⟨[], [.var 90 (.agg 90 [.m 1]) false, .map 9 22]⟩, cuts := [] }
def e8 : Entry := { fid := 25, ins := ⟨[(0, .p 0 90), (1, .v 9)], [.var 90 (.agg 90 [.m 1]) false, .map 9 22]⟩, outs := ⟨[(0, .v 4)], [.var 90 (.agg 90 [.m 1]) false, .map 9 22]⟩, cuts := [] }
def e9 : Entry := { fid := 28, ins := ⟨[(0, .p 0 90), (1, .v 9), (2, .v 9)], [.var 90 (.agg 90 [.m 1]) false, .map 9 22]⟩, outs := ⟨[], [.var 90 (.agg 90 [.m 1]) false, .map 9 22]⟩, cuts := [] }
def e10 : Entry := { fid := 32, ins := ⟨[(0, .v 22), (1, .v 9)], []⟩, outs := ⟨[(0, .v 3), (1, .v 4)], []⟩, cuts := [([false, false, true, true, true], ⟨⟨[(0, .v 22), (1, .v 9), (6, .v 3), (7, .v 3), (8, .v 3)], []⟩, [(2, ⟨[(0, .v 22), (1, .v 9), (6, .v 3), (7, .v 3)], []⟩)]⟩)] }
def e11 : Entry := { fid := 48, ins := ⟨[(0, .v 9), (1, .v 9)], []⟩, outs := ⟨[(0, .v 4)], []⟩, cuts := [] }
def e12 : Entry := { fid := 65, ins := ⟨[(0, .v 9)], []⟩, outs := ⟨[(0, .v 4)], []⟩, cuts := [] }
def e13 : Entry := { fid := 49, ins := ⟨[(0, .v 9)], []⟩, outs := ⟨[(0, .v 4)], []⟩, cuts := [] }
def e14 : Entry := { fid := 11, ins := ⟨[(0, .p 0 90)], [.var 90 (.agg 90 [.m 1]) false, .map 9 22]⟩, outs := ⟨[(0, .o 2), (1, .v 22)], [.var 90 (.agg 90 [.m 1]) false, .map 9 22, .row 9]⟩, cuts := [([false, true, false, true, true, true, true], ⟨⟨[(0, .p 0 90), (2, .o 2), (4, .p 3 90), (5, .m 4), (6, .o 5), (18, .v 22), (19, .v 3), (20, .v 3)], [.var 90 (.agg 90 [.m 1]) false, .map 9 22, .row 9, .var 90 (.agg 90 [.m 6]) false, .map 9 3, .row 9, .map 9 22]⟩, [(2, ⟨[(2, .o 2), (4, .p 3 90), (5, .m 4), (6, .o 5)], [.var 90 (.agg 90 [.m 1]) false, .map 9 22, .row 9, .var 90 (.agg 90 [.m 6]) false, .map 9 3, .row 9, .map 9 22]⟩)]⟩), ([false, false, true, true, true, true, true], ⟨⟨[(2, .o 2), (4, .p 3 90), (5, .m 4), (6, .v 22)], [.var 90 (.agg 90 [.m 1]) false, .map 9 22, .row 9, .var 90 (.agg 90 [.m 5]) false, .map 9 3, .map 9 22]⟩, [(4, ⟨[(2, .o 2), (5, .m 3)], [.var 90 (.agg 90 [.m 1]) false, .map 9 22, .row 9, .map 9 3]⟩)]⟩), ([false, true, true, true, true, true, false, true, false, false, false, true, true, true, true, true], ⟨⟨[(2, .o 2), (4, .p 3 90), (5, .m 4), (6, .v 22), (55, .o 5), (56, .v 3), (57, .v 3)], [.var 90 (.agg 90 [.m 1]) false, .map 9 22, .row 9, .var 90 (.agg 90 [.m 6]) false, .map 9 3, .row 9, .map 9 22]⟩, [(6, ⟨[(2, .o 2), (4, .p 3 90), (5, .m 4), (6, .v 22)], [.var 90 (.agg 90 [.m 1]) false, .map 9 22, .row 9, .var 90 (.agg 90 [.m 5]) false, .map 9 3, .map 9 22]⟩)]⟩)] }
def e15 : Entry := { fid := 21, ins := ⟨[(0, .p 0 90)], [.var 90 (.agg 90 [.m 1]) false, .map 9 22]⟩, outs := ⟨[(0, .p 2 90)], [.var 90 (.agg 90 [.m 1]) false, .map 9 22, .var 90 (.agg 90 [.m 3]) false, .map 9 22]⟩, cuts := [([false, true, false, true, true], ⟨⟨[(0, .p 0 90), (3, .p 2 90), (12, .v 22), (13, .v 3), (14, .v 3)], [.var 90 (.agg 90 [.m 1]) false, .map 9 22, .var 90 (.agg 90 [.m 3]) false, .map 9 22]⟩, [(2, ⟨[(3, .p 2 90)], [.var 90 (.agg 90 [.m 1]) false, .map 9 22, .var 90 (.agg 90 [.m 3]) false, .map 9 22]⟩)]⟩), ([false, true, true, false, false, true, true, false, false, true, false, true, true], ⟨⟨[(0, .p 0 90), (3, .p 2 90), (5, .v 9), (12, .v 22), (13, .v 3), (14, .v 3), (20, .o 3), (21, .v 3), (22, .v 3)], [.var 90 (.agg 90 [.m 1]) false, .map 9 22, .var 90 (.agg 90 [.m 4]) false, .row 9, .map 9 22]⟩, [(4, ⟨[(0, .p 0 90), (3, .p 2 90), (12, .v 22), (13, .v 3), (14, .v 3)], [.var 90 (.agg 90 [.m 1]) false, .map 9 22, .var 90 (.agg 90 [.m 3]) false, .map 9 22]⟩)]⟩)] }
def e16 : Entry := { fid := 24, ins := ⟨[(0, .p 0 90)], [.var 90 (.agg 90 [.m 1]) false, .map 9 22]⟩, outs := ⟨[(0, .v 22)], [.var 90 (.agg 90 [.m 1]) false, .map 9 22]⟩, cuts := [] }
def e17 : Entry := { fid := 47, ins := ⟨[(0, .m 0)], [.map 9 22]⟩, outs := ⟨[(0, .clo 64 [.p 1 88])], [.map 9 22, .var 88 (.m 0) false]⟩, cuts := [] }
def e18 : Entry := { fid := 26, ins := ⟨[(0, .p 0 90), (1, .v 9)], [.var 90 (.agg 90 [.m 1]) false, .map 9 22]⟩, outs := ⟨[(0, .o 2)], [.var 90 (.agg 90 [.m 1]) false, .map 9 22, .row 9]⟩, cuts := [] }
def e19 : Entry := { fid := 31, ins := ⟨[(0, .v 22)], []⟩, outs := ⟨[(0, .v 9), (1, .v 22)], []⟩, cuts := [] }
def e20 : Entry := { fid := 36, ins := ⟨[(0, .m 0)], [.map 9 3]⟩, outs := ⟨[(0, .clo 54 [.p 1 60])], [.map 9 3, .var 60 (.m 0) false]⟩, cuts := [] }
def e21 : Entry := { fid := 13, ins := ⟨[(0, .v 22), (1, .v 22)], []⟩, outs := ⟨[(0, .v 4)], []⟩, cuts := [([false, true, false, true, true], ⟨⟨[(0, .v 22), (1, .v 22), (5, .v 3)], []⟩, [(2, ⟨[], []⟩), (1, ⟨[(4, .v 4)], []⟩)]⟩)], lit := true }
def e22 : Entry := { fid := 9, ins := ⟨[(0, .v 22), (1, .v 23)], []⟩, outs := ⟨[(0, .v 22)], []⟩, cuts := [([false, true, false, true, true], ⟨⟨[(0, .v 22), (1, .v 23), (5, .v 22), (6, .v 3)], []⟩, [(2, ⟨[(1, .v 23), (5, .v 22)], []⟩)]⟩), ([false, true, false, true, true, true], ⟨⟨[(1, .v 23), (5, .v 22), (7, .v 3)], []⟩, [(4, ⟨[(5, .v 22)], []⟩)]⟩)], lit := true }
def e23 : Entry := { fid := 30, ins := ⟨[(0, .v 22), (1, .v 9)], []⟩, outs := ⟨[(0, .v 22)], []⟩, cuts := [([false, true, false, true, true, true, true], ⟨⟨[(0, .v 22), (1, .v 9), (5, .o 0), (6, .v 4), (7, .v 3)], [.row 9]⟩, [(2, ⟨[(1, .v 9), (5, .o 0), (6, .v 4)], [.row 9]⟩)]⟩)], lit := true }
def e24 : Entry := { fid := 15, ins := ⟨[(0, .v 22), (1, .v 9)], []⟩, outs := ⟨[(0, .v 4)], []⟩, cuts := [([false, true, false, true], ⟨⟨[(0, .v 22), (1, .v 9), (5, .v 3)], []⟩, [(2, ⟨[], []⟩), (1, ⟨[(4, .v 4)], []⟩)]⟩)], lit := true }
def e25 : Entry := { fid := 10, ins := ⟨[(0, .v 22), (1, .v 23)], []⟩, outs := ⟨[(0, .p 0 90)], [.var 90 (.agg 90 [.m 1]) false, .map 9 22]⟩, cuts := [([false, true, false, true, true], ⟨⟨[(1, .v 23), (5, .p 0 90), (6, .v 3)], [.var 90 (.agg 90 [.m 1]) false, .map 9 22]⟩, [(2, ⟨[(5, .p 0 90)], [.var 90 (.agg 90 [.m 1]) false, .map 9 22]⟩)]⟩)], lit := true }
def e26 : Entry := { fid := 12, ins := ⟨[(0, .v 22), (1, .v 23)], []⟩, outs := ⟨[(0, .o 0), (1, .o 1)], [.row 9, .row 9]⟩, cuts := [([false, true, false, true, true], ⟨⟨[(0, .v 22), (1, .v 23), (6, .o 0), (7, .v 3)], [.row 9]⟩, [(2, ⟨[(0, .v 22), (6, .o 0)], [.row 9]⟩)]⟩), ([false, true, false, true, true, false, false, true, false, false, true, false, true, true], ⟨⟨[(0, .v 22), (1, .v 23), (6, .o 0), (7, .v 3), (8, .v 9), (9, .v 4), (10, .v 3)], [.row 9]⟩, [(4, ⟨[(0, .v 22), (1, .v 23), (6, .o 0), (7, .v 3), (8, .v 9), (9, .v 4)], [.row 9]⟩)]⟩), ([false, true, false, true, true, true, false, false, true, false, false, true, false, true, true, false, false, true, false, false, true, false, true, true], ⟨⟨[(0, .v 22), (1, .v 23), (6, .o 0), (7, .v 3), (8, .v 9), (9, .v 4), (10, .v 3), (11, .v 4), (12, .v 22), (13, .v 3)], [.row 9]⟩, [(6, ⟨[(0, .v 22), (1, .v 23), (6, .o 0), (7, .v 3), (8, .v 9), (9, .v 4), (10, .v 3), (11, .v 4)], [.row 9]⟩)]⟩), ([false, true, false, true, true, true, true], ⟨⟨[(0, .v 22), (6, .o 0), (14, .o 1), (15, .v 3)], [.row 9, .row 9]⟩, [(8, ⟨[(6, .o 0), (14, .o 1)], [.row 9, .row 9]⟩)]⟩)], lit := true }
def e27 : Entry := { fid := 14, ins := ⟨[(0, .v 23), (1, .v 9)], []⟩, outs := ⟨[(0, .v 22)], []⟩, cuts := [([false, true, false, true, true], ⟨⟨[(0, .v 23), (1, .v 9), (5, .v 22), (6, .v 3)], []⟩, [(2, ⟨[(5, .v 22)], []⟩)]⟩)], lit := true }
def e28 : Entry := { fid := 31, ins := ⟨[(0, .o 0)], [.row 9]⟩, outs := ⟨[(0, .v 9), (1, .v 22)], [.row 9]⟩, cuts := [] }
def e29 : Entry := { fid := 13, ins := ⟨[(0, .o 0), (1, .v 22)], [.row 9]⟩, outs := ⟨[(0, .v 4)], [.row 9]⟩, cuts := [([false, true, false, true, true], ⟨⟨[(0, .o 0), (1, .v 22), (5, .v 3)], [.row 9]⟩, [(2, ⟨[], [.row 9]⟩), (1, ⟨[(4, .v 4)], [.row 9]⟩)]⟩)], lit := true }
def e30 : Entry := { fid := 15, ins := ⟨[(0, .o 0), (1, .v 9)], [.row 9]⟩, outs := ⟨[(0, .v 4)], [.row 9]⟩, cuts := [([false, true, false, true], ⟨⟨[(0, .o 0), (1, .v 9), (5, .v 3)], [.row 9]⟩, [(2, ⟨[], [.row 9]⟩), (1, ⟨[(4, .v 4)], [.row 9]⟩)]⟩)], lit := true }
def e31 : Entry := { fid := 13, ins := ⟨[(0, .v 22), (1, .o 0)], [.row 9]⟩, outs := ⟨[(0, .v 4)], [.row 9]⟩, cuts := [([false, true, false, true, true], ⟨⟨[(0, .v 22), (1, .o 0), (5, .v 3)], [.row 9]⟩, [(2, ⟨[], [.row 9]⟩), (1, ⟨[(4, .v 4)], [.row 9]⟩)]⟩)], lit := true }
def e32 : Entry := insE 33 3 9
def e33 : Entry := { fid := 13, ins := ⟨[(0, .o 0), (1, .o 1)], [.row 9, .row 9]⟩, outs := ⟨[(0, .v 4)], [.row 9, .row 9]⟩, cuts := [([false, true, false, true, true], ⟨⟨[(0, .o 0), (1, .o 1), (5, .v 3)], [.row 9, .row 9]⟩, [(2, ⟨[], [.row 9, .row 9]⟩), (1, ⟨[(4, .v 4)], [.row 9, .row 9]⟩)]⟩)], lit := true }
def ents : List Entry := [e0, e1, e2, e3, e4, e5, e6, e7, e8, e9, e10, e11, e12, e13, e14, e15, e16, e17, e18, e19, e20, e21, e22, e23, e24, e25, e26, e27, e28, e29, e30, e31, e32, e33]
def i_slices_Sorted : Nat := 0
def i_slices_Sorted_l : Nat := 1
def i_slices_Clone : Nat := 2
def i_L17_GraphOrders : Nat := 3
def i_L17_few : Nat := 4
def i_L17_awake : Nat := 5
def i_graph_New_string : Nat := 6
def i_graph_Graph_string_Add : Nat := 7
def i_graph_Graph_string_Has : Nat := 8
def i_graph_Graph_string_Link : Nat := 9
def i_slices_BinarySearch_string : Nat := 10
def i_cmp_Less_string : Nat := 11
def i_cmp_isNaN_string : Nat := 12
def i_slices_isNaN_string : Nat := 13
def i_graph_Graph_string_Order : Nat := 14
def i_graph_Graph_string_Turned : Nat := 15
def i_graph_Graph_string_Points : Nat := 16
def i_maps_Keys_map_string_string_string_string : Nat := 17
def i_graph_Graph_string_To : Nat := 18
def i_graph_least_string : Nat := 19
def i_maps_Keys_map_string_int_string_int : Nat := 20
def i_R02_Same : Nat := 21
def i_R17_Points : Nat := 22
def i_R17_Put : Nat := 23
def i_R17_Has : Nat := 24
def i_L17_of : Nat := 25
def i_R17_Order : Nat := 26
def i_R17_To : Nat := 27
def i_graph_least_string_o : Nat := 28
def i_R02_Same_o : Nat := 29
def i_R17_Has_o : Nat := 30
def i_R02_Same_o_v2 : Nat := 31
def i_slices_Insert : Nat := 32
def i_R02_Same_o_v3 : Nat := 33
def p_L17_GraphOrders_c1 : List Bool := [false, true, false, true, true, true, true, true, true]
def p_L17_GraphOrders_c2 : List Bool := [false, true, false, true, true, false, false, true, false, false, true, false, true, true, true, true, true, true]
def p_L17_few_c1 : List Bool := [false, true, false, true, true]
def p_L17_few_c2 : List Bool := [false, true, false, true, true, true]
def p_graph_New_string_c1 : List Bool := [false, true, false, true, true]
def p_slices_BinarySearch_string_c1 : List Bool := [false, false, true, true, true]
def p_graph_Graph_string_Order_c1 : List Bool := [false, true, false, true, true, true, true]
def p_graph_Graph_string_Order_c2 : List Bool := [false, false, true, true, true, true, true]
def p_graph_Graph_string_Order_c3 : List Bool := [false, true, true, true, true, true, false, true, false, false, false, true, true, true, true, true]
def p_graph_Graph_string_Turned_c1 : List Bool := [false, true, false, true, true]
def p_graph_Graph_string_Turned_c2 : List Bool := [false, true, true, false, false, true, true, false, false, true, false, true, true]
def p_R02_Same_c1 : List Bool := [false, true, false, true, true]
def p_R17_Points_c1 : List Bool := [false, true, false, true, true]
def p_R17_Points_c2 : List Bool := [false, true, false, true, true, true]
def p_R17_Put_c1 : List Bool := [false, true, false, true, true, true, true]
def p_R17_Has_c1 : List Bool := [false, true, false, true]
def p_L17_of_c1 : List Bool := [false, true, false, true, true]
def p_R17_Order_c1 : List Bool := [false, true, false, true, true]
def p_R17_Order_c2 : List Bool := [false, true, false, true, true, false, false, true, false, false, true, false, true, true]
def p_R17_Order_c3 : List Bool := [false, true, false, true, true, true, false, false, true, false, false, true, false, true, true, false, false, true, false, false, true, false, true, true]
def p_R17_Order_c4 : List Bool := [false, true, false, true, true, true, true]
def p_R17_To_c1 : List Bool := [false, true, false, true, true]
def p_R02_Same_o_c1 : List Bool := [false, true, false, true, true]
def p_R17_Has_o_c1 : List Bool := [false, true, false, true]
def p_R02_Same_o_v2_c1 : List Bool := [false, true, false, true, true]
def p_R02_Same_o_v3_c1 : List Bool := [false, true, false, true, true]
noncomputable def D (n i : Nat) (p : Option (List Bool)) (xs : List A) : Option (Nat × List A) := den Try.prog G0 ents n i p xs
noncomputable def cl (n i : Nat) (xs : List A) (k : List A → Option (Nat × List A)) : Option (Nat × List A) := Option.bind (Option.map (fun v => v.2) (den Try.prog G0 ents n i none xs)) k
noncomputable def lp (n i : Nat) (p : List Bool) (xs : List A) (k : Nat × List A → Option (Nat × List A)) : Option (Nat × List A) := Option.bind (den Try.prog G0 ents n i (some p) xs) k
end Go.Proofs.YtbejhhoakeapgaaGO
set_option linter.unusedVariables false
set_option maxRecDepth 100000
namespace Go.Proofs.YtbejhhoakeapgaaGO
open Go Go.Proofs.YtbejhhoakeapgaaVM Go.Proofs
theorem q_L17_GraphOrders (n : Nat) (x0 x1 : T) : den Try.prog G0 ents (Nat.succ n) i_L17_GraphOrders none [A.t x0, A.t x1] =
  cl n i_L17_few [aL x0.k,aL x1.k] fun v0 => bif !(r v0 0).b then cl n i_L17_awake [] fun v1 => rt [aB (r v1 0).b] else cl n i_R17_Points [aL x0.k,aL x1.k] fun v1 => cl n i_L17_of [aL x0.k,aL x1.k] fun v2 => cl n i_graph_Graph_string_Order [aL (r v2 0).k] fun v3 => cl n i_R17_Order [aL (r v1 0).k,aL x1.k] fun v4 => cl n i_R02_Same_o_v3 [aL (r v3 2).k,aL (r v4 0).k] fun v5 => bif (!(r v5 0).b) == false then cl n i_R02_Same_o_v2 [aL (r v3 0).k,aL (r v4 1).k] fun v6 => bif !(r v6 0).b then rt [aB false] else lp n i_L17_GraphOrders p_L17_GraphOrders_c1 [aL x1.k,aL (r v3 0).k,aI 0] fun v7 => bif Nat.beq v7.1 2 then cl n i_L17_awake [] fun v8 => rt [aB (r v8 0).b] else bif Nat.beq v7.1 1 then rt [aB (r v7.2 0).b] else none else rt [aB false] := by kernel_rfl
theorem q_L17_GraphOrders_c1 (n : Nat) (x0 x1 x2 : T) : den Try.prog G0 ents (Nat.succ n) i_L17_GraphOrders (some p_L17_GraphOrders_c1) [A.t x0, A.t x1, A.t x2] =
  bif lt x2.n x1.l then bif ib x2.n x1.l then cl n i_R17_To [aL x0.k,aS (x1.a x2.n).s] fun v0 => lp n i_L17_GraphOrders p_L17_GraphOrders_c2 [aL x0.k,aL x1.k,aI x2.n,aL (r v0 0).k,aB false,aI 0] fun v1 => bif Nat.beq v1.1 4 then bif !(r v1.2 3).b then rt [aB false] else D n i_L17_GraphOrders (some p_L17_GraphOrders_c1) [aL (r v1.2 0).k,aL (r v1.2 1).k,aI (w6 ((r v1.2 2).n + 1))] else none else none else some (2,[]) := by kernel_rfl
theorem q_L17_GraphOrders_c2 (n : Nat) (x0 x1 x2 x3 x4 x5 : T) : den Try.prog G0 ents (Nat.succ n) i_L17_GraphOrders (some p_L17_GraphOrders_c2) [A.t x0, A.t x1, A.t x2, A.t x3, A.t x4, A.t x5] =
  bif lt x5.n x3.l then bif x4.b == false then bif ib x5.n x3.l then cl n i_R17_Has [aL x1.k,aS (x3.a x5.n).s] fun v0 => D n i_L17_GraphOrders (some p_L17_GraphOrders_c2) [aL x0.k,aL x1.k,aI x2.n,aL x3.k,aB (r v0 0).b,aI (w6 (x5.n + 1))] else none else D n i_L17_GraphOrders (some p_L17_GraphOrders_c2) [aL x0.k,aL x1.k,aI x2.n,aL x3.k,aB true,aI (w6 (x5.n + 1))] else some (4,[aL x0.k,aL x1.k,aI x2.n,aB x4.b]) := by kernel_rfl
theorem q_L17_few (n : Nat) (x0 x1 : T) : den Try.prog G0 ents (Nat.succ n) i_L17_few none [A.t x0, A.t x1] =
  bif gt x0.l 30 == false then bif gt x1.l 60 then rt [aB false] else lp n i_L17_few p_L17_few_c1 [aL x0.k,aL x1.k,aI 0] fun v0 => bif Nat.beq v0.1 2 then lp n i_L17_few p_L17_few_c2 [aL (r v0.2 0).k,aI 0] fun v1 => bif Nat.beq v1.1 4 then rt [aB true] else bif Nat.beq v1.1 1 then rt [aB (r v1.2 0).b] else none else bif Nat.beq v0.1 1 then rt [aB (r v0.2 0).b] else none else rt [aB false] := by kernel_rfl
theorem q_L17_few_c1 (n : Nat) (x0 x1 x2 : T) : den Try.prog G0 ents (Nat.succ n) i_L17_few (some p_L17_few_c1) [A.t x0, A.t x1, A.t x2] =
  bif lt x2.n x0.l then bif ib x2.n x0.l then bif gt (x0.a x2.n).z 100 then rt [aB false] else D n i_L17_few (some p_L17_few_c1) [aL x0.k,aL x1.k,aI (w6 (x2.n + 1))] else none else some (2,[aL x1.k]) := by kernel_rfl
theorem q_L17_few_c2 (n : Nat) (x0 x1 : T) : den Try.prog G0 ents (Nat.succ n) i_L17_few (some p_L17_few_c2) [A.t x0, A.t x1] =
  bif lt x1.n x0.l then bif ib x1.n x0.l then bif gt ((x0.a x1.n).g 0).z 100 == false then bif ib x1.n x0.l then bif gt ((x0.a x1.n).g 1).z 100 then rt [aB false] else D n i_L17_few (some p_L17_few_c2) [aL x0.k,aI (w6 (x1.n + 1))] else none else rt [aB false] else none else some (4,[]) := by kernel_rfl
theorem q_graph_New_string (n : Nat) (x0 : T) : den Try.prog G0 ents (Nat.succ n) i_graph_New_string none [A.t x0] =
  lp n i_graph_New_string p_graph_New_string_c1 [aL x0.k,aI x0.l,aI 0,aL []] fun v0 => bif Nat.beq v0.1 2 then rt [aL (r v0.2 0).k] else none := by kernel_rfl
theorem q_graph_New_string_c1 (n : Nat) (x0 x1 x2 x3 : T) : den Try.prog G0 ents (Nat.succ n) i_graph_New_string (some p_graph_New_string_c1) [A.t x0, A.t x1, A.t x2, A.t x3] =
  bif lt x2.n x1.n then bif ib x2.n x0.l then cl n i_graph_Graph_string_Add [aS (x0.a x2.n).s,aL x3.k] fun v0 => D n i_graph_New_string (some p_graph_New_string_c1) [aL x0.k,aI x1.n,aI (w6 (x2.n + 1)),aL (r v0 0).k] else none else some (2,[aL x3.k]) := by kernel_rfl
theorem q_graph_Graph_string_Add (n : Nat) (x0 x1 : T) : den Try.prog G0 ents (Nat.succ n) i_graph_Graph_string_Add none [A.t x0, A.t x1] =
  cl n i_graph_Graph_string_Has [aS x0.s,aL x1.k] fun v0 => bif !(r v0 0).b then rt [aL (mput keyS (r v0 1).k (T.str x0.s) (T.node []))] else rt [aL (r v0 1).k] := by kernel_rfl
theorem q_graph_Graph_string_Has (n : Nat) (x0 x1 : T) : den Try.prog G0 ents (Nat.succ n) i_graph_Graph_string_Has none [A.t x0, A.t x1] =
  rt [aB (mhas keyS x1.k (T.str x0.s)),aL x1.k] := by kernel_rfl
theorem q_graph_Graph_string_Link (n : Nat) (x0 x1 x2 : T) : den Try.prog G0 ents (Nat.succ n) i_graph_Graph_string_Link none [A.t x0, A.t x1, A.t x2] =
  cl n i_graph_Graph_string_Add [aS x0.s,aL x2.k] fun v0 => cl n i_graph_Graph_string_Add [aS x1.s,aL (r v0 0).k] fun v1 => cl n i_slices_BinarySearch_string [aL (mget keyS (T.node []) (r v1 0).k (T.str x0.s)).k,aS x1.s] fun v2 => bif !(r v2 1).b then cl n i_slices_Clone [aL (mget keyS (T.node []) (r v1 0).k (T.str x0.s)).k] fun v3 => cl n i_slices_Insert [aI (r v2 0).n,aL (r v3 0).k,aL [T.str x1.s]] fun v4 => rt [aL (mput keyS (r v1 0).k (T.str x0.s) (T.node (r v4 1).k))] else rt [aL (r v1 0).k] := by kernel_rfl
theorem q_slices_BinarySearch_string (n : Nat) (x0 x1 : T) : den Try.prog G0 ents (Nat.succ n) i_slices_BinarySearch_string none [A.t x0, A.t x1] =
  lp n i_slices_BinarySearch_string p_slices_BinarySearch_string_c1 [aL x0.k,aS x1.s,aI x0.l,aI 0,aI x0.l] fun v0 => bif Nat.beq v0.1 2 then bif lt (r v0.2 3).n (r v0.2 2).n == true then bif ib (r v0.2 3).n (r v0.2 0).l then bif seqB ((r v0.2 0).a (r v0.2 3).n).s (r v0.2 1).s == false then bif ib (r v0.2 3).n (r v0.2 0).l then cl n i_slices_isNaN_string [aS ((r v0.2 0).a (r v0.2 3).n).s] fun v1 => bif (r v1 0).b == true then cl n i_slices_isNaN_string [aS (r v0.2 1).s] fun v2 => rt [aI (r v0.2 3).n,aB (r v2 0).b] else rt [aI (r v0.2 3).n,aB false] else none else rt [aI (r v0.2 3).n,aB true] else none else rt [aI (r v0.2 3).n,aB false] else none := by kernel_rfl
theorem q_slices_BinarySearch_string_c1 (n : Nat) (x0 x1 x2 x3 x4 : T) : den Try.prog G0 ents (Nat.succ n) i_slices_BinarySearch_string (some p_slices_BinarySearch_string_c1) [A.t x0, A.t x1, A.t x2, A.t x3, A.t x4] =
  bif lt x3.n x4.n then bif ib (w6 (Int.fdiv (wu (w6 (x3.n + x4.n))) 2)) x0.l then cl n i_cmp_Less_string [aS (x0.a (w6 (Int.fdiv (wu (w6 (x3.n + x4.n))) 2))).s,aS x1.s] fun v0 => bif (r v0 0).b then D n i_slices_BinarySearch_string (some p_slices_BinarySearch_string_c1) [aL x0.k,aS x1.s,aI x2.n,aI (w6 (w6 (Int.fdiv (wu (w6 (x3.n + x4.n))) 2) + 1)),aI x4.n] else D n i_slices_BinarySearch_string (some p_slices_BinarySearch_string_c1) [aL x0.k,aS x1.s,aI x2.n,aI x3.n,aI (w6 (Int.fdiv (wu (w6 (x3.n + x4.n))) 2))] else none else some (2,[aL x0.k,aS x1.s,aI x2.n,aI x3.n]) := by kernel_rfl
theorem q_cmp_Less_string (n : Nat) (x0 x1 : T) : den Try.prog G0 ents (Nat.succ n) i_cmp_Less_string none [A.t x0, A.t x1] =
  cl n i_cmp_isNaN_string [aS x0.s] fun v0 => bif (r v0 0).b == true then cl n i_cmp_isNaN_string [aS x1.s] fun v1 => bif (!(r v1 0).b) == false then rt [aB (sltB x0.s x1.s)] else rt [aB true] else rt [aB (sltB x0.s x1.s)] := by kernel_rfl
theorem q_cmp_isNaN_string (n : Nat) (x0 : T) : den Try.prog G0 ents (Nat.succ n) i_cmp_isNaN_string none [A.t x0] =
  rt [aB (!(seqB x0.s x0.s))] := by kernel_rfl
theorem q_slices_isNaN_string (n : Nat) (x0 : T) : den Try.prog G0 ents (Nat.succ n) i_slices_isNaN_string none [A.t x0] =
  rt [aB (!(seqB x0.s x0.s))] := by kernel_rfl
theorem q_graph_Graph_string_Order (n : Nat) (x0 : T) : den Try.prog G0 ents (Nat.succ n) i_graph_Graph_string_Order none [A.t x0] =
  cl n i_graph_Graph_string_Turned [aL x0.k] fun v0 => cl n i_graph_Graph_string_Points [aL (r v0 0).k] fun v1 => lp n i_graph_Graph_string_Order p_graph_Graph_string_Order_c1 [aL (r v1 0).k,aI (r v1 0).l,aI 0,aL (r v1 1).k,aL [],aL [],aL [],aL (r v0 1).k] fun v2 => bif Nat.beq v2.1 2 then lp n i_graph_Graph_string_Order p_graph_Graph_string_Order_c2 [aL (r v2.2 3).k,aL (r v2.2 0).k,aL (r v2.2 1).k,aL (r v2.2 2).k,aL (r v2.2 4).k] fun v3 => bif Nat.beq v3.1 4 then cl n i_maps_Keys_map_string_int_string_int [aL (r v3.2 2).k] fun v4 => cl n i_slices_Sorted [aL (r v4 0).k] fun v5 => rt [aL (r v5 0).k,aL (r v3.2 0).k,aL (r v3.2 1).k] else none else none := by kernel_rfl
theorem q_graph_Graph_string_Order_c1 (n : Nat) (x0 x1 x2 x3 x4 x5 x6 x7 : T) : den Try.prog G0 ents (Nat.succ n) i_graph_Graph_string_Order (some p_graph_Graph_string_Order_c1) [A.t x0, A.t x1, A.t x2, A.t x3, A.t x4, A.t x5, A.t x6, A.t x7] =
  bif lt x2.n x1.n then bif ib x2.n x0.l then cl n i_graph_Graph_string_To [aS (x0.a x2.n).s,aL x3.k] fun v0 => bif (mget keyS (T.int 0) (mput keyS x5.k (T.str (x0.a x2.n).s) (T.int (r v0 1).l)) (T.str (x0.a x2.n).s)).n == 0 then bif decide (Nat.succ (List.length x6.k) < 1073741824) then D n i_graph_Graph_string_Order (some p_graph_Graph_string_Order_c1) [aL x0.k,aI x1.n,aI (w6 (x2.n + 1)),aL (r v0 0).k,aL x4.k,aL (mput keyS x5.k (T.str (x0.a x2.n).s) (T.int (r v0 1).l)),aL (x6.k ++ [T.str (x0.a x2.n).s]),aL x7.k] else none else D n i_graph_Graph_string_Order (some p_graph_Graph_string_Order_c1) [aL x0.k,aI x1.n,aI (w6 (x2.n + 1)),aL (r v0 0).k,aL x4.k,aL (mput keyS x5.k (T.str (x0.a x2.n).s) (T.int (r v0 1).l)),aL x6.k,aL x7.k] else none else some (2,[aL x3.k,aL x4.k,aL x5.k,aL x6.k,aL x7.k]) := by kernel_rfl
theorem q_graph_Graph_string_Order_c2 (n : Nat) (x0 x1 x2 x3 x4 : T) : den Try.prog G0 ents (Nat.succ n) i_graph_Graph_string_Order (some p_graph_Graph_string_Order_c2) [A.t x0, A.t x1, A.t x2, A.t x3, A.t x4] =
  bif gt x0.l 0 then cl n i_graph_least_string [aL x0.k] fun v0 => bif decide (Nat.succ (List.length x2.k) < 1073741824) then cl n i_graph_Graph_string_To [aS (r v0 0).s,aL x4.k] fun v1 => lp n i_graph_Graph_string_Order p_graph_Graph_string_Order_c3 [aL (r v0 1).k,aI (r v1 1).l,aI 0,aL x1.k,aL (x2.k ++ [T.str (r v0 0).s]),aL (mdel keyS x3.k (T.str (r v0 0).s)),aL (r v1 1).k,aL (r v1 0).k] fun v2 => bif Nat.beq v2.1 6 then D n i_graph_Graph_string_Order (some p_graph_Graph_string_Order_c2) [aL (r v2.2 0).k,aL (r v2.2 1).k,aL (r v2.2 2).k,aL (r v2.2 3).k,aL (r v2.2 4).k] else none else none else some (4,[aL x1.k,aL x2.k,aL x3.k]) := by kernel_rfl
theorem q_graph_Graph_string_Order_c3 (n : Nat) (x0 x1 x2 x3 x4 x5 x6 x7 : T) : den Try.prog G0 ents (Nat.succ n) i_graph_Graph_string_Order (some p_graph_Graph_string_Order_c3) [A.t x0, A.t x1, A.t x2, A.t x3, A.t x4, A.t x5, A.t x6, A.t x7] =
  bif lt x2.n x1.n then bif ib x2.n x6.l then bif decide (Int.toNat x2.n < List.length x6.k) then bif (mget keyS (T.int 0) (mput keyS x5.k (T.str (x6.a x2.n).s) (T.int (w6 ((mget keyS (T.int 0) x5.k (T.str (x6.a x2.n).s)).n - 1)))) (T.str (x6.a x2.n).s)).n == 0 then cl n i_slices_BinarySearch_string [aL x0.k,aS (x6.a x2.n).s] fun v0 => cl n i_slices_Clone [aL x0.k] fun v1 => cl n i_slices_Insert [aI (r v0 0).n,aL (r v1 0).k,aL [T.str (x6.a x2.n).s]] fun v2 => D n i_graph_Graph_string_Order (some p_graph_Graph_string_Order_c3) [aL (r v2 1).k,aI x1.n,aI (w6 (x2.n + 1)),aL x3.k,aL x4.k,aL (mput keyS x5.k (T.str (x6.a x2.n).s) (T.int (w6 ((mget keyS (T.int 0) x5.k (T.str (x6.a x2.n).s)).n - 1)))),aL x6.k,aL x7.k] else D n i_graph_Graph_string_Order (some p_graph_Graph_string_Order_c3) [aL x0.k,aI x1.n,aI (w6 (x2.n + 1)),aL x3.k,aL x4.k,aL (mput keyS x5.k (T.str (x6.a x2.n).s) (T.int (w6 ((mget keyS (T.int 0) x5.k (T.str (x6.a x2.n).s)).n - 1)))),aL x6.k,aL x7.k] else none else none else some (6,[aL x0.k,aL x3.k,aL x4.k,aL x5.k,aL x7.k]) := by kernel_rfl
theorem q_graph_Graph_string_Turned (n : Nat) (x0 : T) : den Try.prog G0 ents (Nat.succ n) i_graph_Graph_string_Turned none [A.t x0] =
  cl n i_graph_Graph_string_Points [aL x0.k] fun v0 => cl n i_graph_New_string [aL (r v0 0).k] fun v1 => cl n i_graph_Graph_string_Points [aL (r v0 1).k] fun v2 => lp n i_graph_Graph_string_Turned p_graph_Graph_string_Turned_c1 [aL (r v2 0).k,aI (r v2 0).l,aI 0,aL (r v2 1).k,aL (r v1 0).k] fun v3 => bif Nat.beq v3.1 2 then rt [aL (r v3.2 0).k,aL (r v3.2 1).k] else none := by kernel_rfl
theorem q_graph_Graph_string_Turned_c1 (n : Nat) (x0 x1 x2 x3 x4 : T) : den Try.prog G0 ents (Nat.succ n) i_graph_Graph_string_Turned (some p_graph_Graph_string_Turned_c1) [A.t x0, A.t x1, A.t x2, A.t x3, A.t x4] =
  bif lt x2.n x1.n then bif ib x2.n x0.l then cl n i_graph_Graph_string_To [aS (x0.a x2.n).s,aL x3.k] fun v0 => lp n i_graph_Graph_string_Turned p_graph_Graph_string_Turned_c2 [aS (x0.a x2.n).s,aL x0.k,aI x1.n,aI x2.n,aI (r v0 1).l,aI 0,aL (r v0 0).k,aL (r v0 1).k,aL x4.k] fun v1 => bif Nat.beq v1.1 4 then D n i_graph_Graph_string_Turned (some p_graph_Graph_string_Turned_c1) [aL (r v1.2 0).k,aI (r v1.2 1).n,aI (w6 ((r v1.2 2).n + 1)),aL (r v1.2 3).k,aL (r v1.2 4).k] else none else none else some (2,[aL x3.k,aL x4.k]) := by kernel_rfl
theorem q_graph_Graph_string_Turned_c2 (n : Nat) (x0 x1 x2 x3 x4 x5 x6 x7 x8 : T) : den Try.prog G0 ents (Nat.succ n) i_graph_Graph_string_Turned (some p_graph_Graph_string_Turned_c2) [A.t x0, A.t x1, A.t x2, A.t x3, A.t x4, A.t x5, A.t x6, A.t x7, A.t x8] =
  bif lt x5.n x4.n then bif ib x5.n x7.l then bif decide (Int.toNat x5.n < List.length x7.k) then cl n i_graph_Graph_string_Link [aS (x7.a x5.n).s,aS x0.s,aL x8.k] fun v0 => D n i_graph_Graph_string_Turned (some p_graph_Graph_string_Turned_c2) [aS x0.s,aL x1.k,aI x2.n,aI x3.n,aI x4.n,aI (w6 (x5.n + 1)),aL x6.k,aL x7.k,aL (r v0 0).k] else none else none else some (4,[aL x1.k,aI x2.n,aI x3.n,aL x6.k,aL x8.k]) := by kernel_rfl
theorem q_graph_Graph_string_Points (n : Nat) (x0 : T) : den Try.prog G0 ents (Nat.succ n) i_graph_Graph_string_Points none [A.t x0] =
  cl n i_maps_Keys_map_string_string_string_string [aL x0.k] fun v0 => cl n i_slices_Sorted_l [aL (r v0 0).k] fun v1 => rt [aL (r v1 0).k,aL (r v1 1).k] := by kernel_rfl
theorem q_maps_Keys_map_string_string_string_string (n : Nat) (x0 : T) : den Try.prog G0 ents (Nat.succ n) i_maps_Keys_map_string_string_string_string none [A.t x0] =
  rt [aL x0.k] := by kernel_rfl
theorem q_graph_Graph_string_To (n : Nat) (x0 x1 : T) : den Try.prog G0 ents (Nat.succ n) i_graph_Graph_string_To none [A.t x0, A.t x1] =
  cl n i_slices_Clone [aL (mget keyS (T.node []) x1.k (T.str x0.s)).k] fun v0 => rt [aL x1.k,aL (r v0 0).k] := by kernel_rfl
theorem q_graph_least_string (n : Nat) (x0 : T) : den Try.prog G0 ents (Nat.succ n) i_graph_least_string none [A.t x0] =
  bif lt 0 x0.l then bif Bool.and (Bool.and (Bool.and (le 0 x0.l) (le x0.l x0.l)) true) (le 1 x0.l) then rt [aS (tAtD x0.k 0).s,aL (List.drop 1 (List.take (Int.toNat x0.l) x0.k))] else none else none := by kernel_rfl
theorem q_maps_Keys_map_string_int_string_int (n : Nat) (x0 : T) : den Try.prog G0 ents (Nat.succ n) i_maps_Keys_map_string_int_string_int none [A.t x0] =
  rt [aL x0.k] := by kernel_rfl
theorem q_R17_Points (n : Nat) (x0 x1 : T) : den Try.prog G0 ents (Nat.succ n) i_R17_Points none [A.t x0, A.t x1] =
  lp n i_R17_Points p_R17_Points_c1 [aL x0.k,aL x1.k,aL [],aI 0] fun v0 => bif Nat.beq v0.1 2 then lp n i_R17_Points p_R17_Points_c2 [aL (r v0.2 0).k,aL (r v0.2 1).k,aI 0] fun v1 => bif Nat.beq v1.1 4 then rt [aL (r v1.2 0).k] else none else none := by kernel_rfl
theorem q_R17_Points_c1 (n : Nat) (x0 x1 x2 x3 : T) : den Try.prog G0 ents (Nat.succ n) i_R17_Points (some p_R17_Points_c1) [A.t x0, A.t x1, A.t x2, A.t x3] =
  bif lt x3.n x0.l then bif ib x3.n x0.l then cl n i_R17_Put [aL x2.k,aS (x0.a x3.n).s] fun v0 => D n i_R17_Points (some p_R17_Points_c1) [aL x0.k,aL x1.k,aL (r v0 0).k,aI (w6 (x3.n + 1))] else none else some (2,[aL x1.k,aL x2.k]) := by kernel_rfl
theorem q_R17_Points_c2 (n : Nat) (x0 x1 x2 : T) : den Try.prog G0 ents (Nat.succ n) i_R17_Points (some p_R17_Points_c2) [A.t x0, A.t x1, A.t x2] =
  bif lt x2.n x0.l then bif ib x2.n x0.l then cl n i_R17_Put [aL x1.k,aS ((x0.a x2.n).g 0).s] fun v0 => bif ib x2.n x0.l then cl n i_R17_Put [aL (r v0 0).k,aS ((x0.a x2.n).g 1).s] fun v1 => D n i_R17_Points (some p_R17_Points_c2) [aL x0.k,aL (r v1 0).k,aI (w6 (x2.n + 1))] else none else none else some (4,[aL x1.k]) := by kernel_rfl
theorem q_R17_Put (n : Nat) (x0 x1 : T) : den Try.prog G0 ents (Nat.succ n) i_R17_Put none [A.t x0, A.t x1] =
  cl n i_R17_Has [aL x0.k,aS x1.s] fun v0 => bif (r v0 0).b then rt [aL x0.k] else lp n i_R17_Put p_R17_Put_c1 [aL x0.k,aS x1.s,aB false,aI 0,aL []] fun v1 => bif Nat.beq v1.1 2 then bif !(r v1.2 1).b then bif decide (Nat.succ (List.length (r v1.2 2).k) < 1073741824) then rt [aL ((r v1.2 2).k ++ [T.str (r v1.2 0).s])] else none else rt [aL (r v1.2 2).k] else none := by kernel_rfl
theorem q_R17_Put_c1 (n : Nat) (x0 x1 x2 x3 x4 : T) : den Try.prog G0 ents (Nat.succ n) i_R17_Put (some p_R17_Put_c1) [A.t x0, A.t x1, A.t x2, A.t x3, A.t x4] =
  bif lt x3.n x0.l then bif (!x2.b) == true then bif ib x3.n x0.l then bif sltB x1.s (x0.a x3.n).s then bif decide (Nat.succ (List.length x4.k) < 1073741824) then bif ib x3.n x0.l then bif decide (Nat.succ (List.length (x4.k ++ [T.str x1.s])) < 1073741824) then D n i_R17_Put (some p_R17_Put_c1) [aL x0.k,aS x1.s,aB true,aI (w6 (x3.n + 1)),aL ((x4.k ++ [T.str x1.s]) ++ [T.str (x0.a x3.n).s])] else none else none else none else bif ib x3.n x0.l then bif decide (Nat.succ (List.length x4.k) < 1073741824) then D n i_R17_Put (some p_R17_Put_c1) [aL x0.k,aS x1.s,aB x2.b,aI (w6 (x3.n + 1)),aL (x4.k ++ [T.str (x0.a x3.n).s])] else none else none else none else bif ib x3.n x0.l then bif decide (Nat.succ (List.length x4.k) < 1073741824) then D n i_R17_Put (some p_R17_Put_c1) [aL x0.k,aS x1.s,aB x2.b,aI (w6 (x3.n + 1)),aL (x4.k ++ [T.str (x0.a x3.n).s])] else none else none else some (2,[aS x1.s,aB x2.b,aL x4.k]) := by kernel_rfl
theorem q_R17_Has (n : Nat) (x0 x1 : T) : den Try.prog G0 ents (Nat.succ n) i_R17_Has none [A.t x0, A.t x1] =
  lp n i_R17_Has p_R17_Has_c1 [aL x0.k,aS x1.s,aI 0] fun v0 => bif Nat.beq v0.1 2 then rt [aB false] else bif Nat.beq v0.1 1 then rt [aB (r v0.2 0).b] else none := by kernel_rfl
theorem q_R17_Has_c1 (n : Nat) (x0 x1 x2 : T) : den Try.prog G0 ents (Nat.succ n) i_R17_Has (some p_R17_Has_c1) [A.t x0, A.t x1, A.t x2] =
  bif lt x2.n x0.l then bif ib x2.n x0.l then bif seqB (x0.a x2.n).s x1.s then rt [aB true] else D n i_R17_Has (some p_R17_Has_c1) [aL x0.k,aS x1.s,aI (w6 (x2.n + 1))] else none else some (2,[]) := by kernel_rfl
theorem q_L17_of (n : Nat) (x0 x1 : T) : den Try.prog G0 ents (Nat.succ n) i_L17_of none [A.t x0, A.t x1] =
  cl n i_graph_New_string [aL x0.k] fun v0 => lp n i_L17_of p_L17_of_c1 [aL x1.k,aI 0,aL (r v0 0).k] fun v1 => bif Nat.beq v1.1 2 then rt [aL (r v1.2 0).k] else none := by kernel_rfl
theorem q_L17_of_c1 (n : Nat) (x0 x1 x2 : T) : den Try.prog G0 ents (Nat.succ n) i_L17_of (some p_L17_of_c1) [A.t x0, A.t x1, A.t x2] =
  bif lt x1.n x0.l then bif ib x1.n x0.l then bif ib x1.n x0.l then cl n i_graph_Graph_string_Link [aS ((x0.a x1.n).g 0).s,aS ((x0.a x1.n).g 1).s,aL x2.k] fun v0 => D n i_L17_of (some p_L17_of_c1) [aL x0.k,aI (w6 (x1.n + 1)),aL (r v0 0).k] else none else none else some (2,[aL x2.k]) := by kernel_rfl
theorem q_R17_Order (n : Nat) (x0 x1 : T) : den Try.prog G0 ents (Nat.succ n) i_R17_Order none [A.t x0, A.t x1] =
  lp n i_R17_Order p_R17_Order_c1 [aL x0.k,aL x1.k,aI 0,aL []] fun v0 => bif Nat.beq v0.1 2 then lp n i_R17_Order p_R17_Order_c4 [aL (r v0.2 0).k,aI 0,aL (r v0.2 1).k,aL []] fun v1 => bif Nat.beq v1.1 8 then rt [aL (r v1.2 0).k,aL (r v1.2 1).k] else none else none := by kernel_rfl
theorem q_R17_Order_c1 (n : Nat) (x0 x1 x2 x3 : T) : den Try.prog G0 ents (Nat.succ n) i_R17_Order (some p_R17_Order_c1) [A.t x0, A.t x1, A.t x2, A.t x3] =
  bif lt x2.n x0.l then lp n i_R17_Order p_R17_Order_c2 [aL x0.k,aL x1.k,aI x2.n,aS (bs []),aB false,aI 0,aL x3.k] fun v0 => bif Nat.beq v0.1 4 then bif (r v0.2 4).b then bif decide (Nat.succ (List.length (r v0.2 5).k) < 1073741824) then D n i_R17_Order (some p_R17_Order_c1) [aL (r v0.2 0).k,aL (r v0.2 1).k,aI (w6 ((r v0.2 2).n + 1)),aL ((r v0.2 5).k ++ [T.str (r v0.2 3).s])] else none else D n i_R17_Order (some p_R17_Order_c1) [aL (r v0.2 0).k,aL (r v0.2 1).k,aI (w6 ((r v0.2 2).n + 1)),aL (r v0.2 5).k] else none else some (2,[aL x0.k,aL x3.k]) := by kernel_rfl
theorem q_R17_Order_c2 (n : Nat) (x0 x1 x2 x3 x4 x5 x6 : T) : den Try.prog G0 ents (Nat.succ n) i_R17_Order (some p_R17_Order_c2) [A.t x0, A.t x1, A.t x2, A.t x3, A.t x4, A.t x5, A.t x6] =
  bif lt x5.n x0.l == true then bif !x4.b then bif ib x5.n x0.l then cl n i_R17_Has_o [aS (x0.a x5.n).s,aL x6.k] fun v0 => bif (r v0 0).b then D n i_R17_Order (some p_R17_Order_c2) [aL x0.k,aL x1.k,aI x2.n,aS x3.s,aB x4.b,aI (w6 (x5.n + 1)),aL (r v0 1).k] else bif ib x5.n x0.l then cl n i_R17_To [aL x1.k,aS (x0.a x5.n).s] fun v1 => lp n i_R17_Order p_R17_Order_c3 [aL x0.k,aL x1.k,aI x2.n,aS x3.s,aB x4.b,aI x5.n,aB true,aL (r v1 0).k,aI 0,aL (r v0 1).k] fun v2 => bif Nat.beq v2.1 6 then bif (r v2.2 6).b then bif ib (r v2.2 5).n (r v2.2 0).l then D n i_R17_Order (some p_R17_Order_c2) [aL (r v2.2 0).k,aL (r v2.2 1).k,aI (r v2.2 2).n,aS ((r v2.2 0).a (r v2.2 5).n).s,aB true,aI (w6 ((r v2.2 5).n + 1)),aL (r v2.2 7).k] else none else D n i_R17_Order (some p_R17_Order_c2) [aL (r v2.2 0).k,aL (r v2.2 1).k,aI (r v2.2 2).n,aS (r v2.2 3).s,aB (r v2.2 4).b,aI (w6 ((r v2.2 5).n + 1)),aL (r v2.2 7).k] else none else none else none else some (4,[aL x0.k,aL x1.k,aI x2.n,aS x3.s,aB x4.b,aL x6.k]) else some (4,[aL x0.k,aL x1.k,aI x2.n,aS x3.s,aB x4.b,aL x6.k]) := by kernel_rfl
theorem q_R17_Order_c3 (n : Nat) (x0 x1 x2 x3 x4 x5 x6 x7 x8 x9 : T) : den Try.prog G0 ents (Nat.succ n) i_R17_Order (some p_R17_Order_c3) [A.t x0, A.t x1, A.t x2, A.t x3, A.t x4, A.t x5, A.t x6, A.t x7, A.t x8, A.t x9] =
  bif lt x8.n x7.l then bif x6.b == true then bif ib x8.n x7.l then cl n i_R17_Has_o [aS (x7.a x8.n).s,aL x9.k] fun v0 => D n i_R17_Order (some p_R17_Order_c3) [aL x0.k,aL x1.k,aI x2.n,aS x3.s,aB x4.b,aI x5.n,aB (r v0 0).b,aL x7.k,aI (w6 (x8.n + 1)),aL (r v0 1).k] else none else D n i_R17_Order (some p_R17_Order_c3) [aL x0.k,aL x1.k,aI x2.n,aS x3.s,aB x4.b,aI x5.n,aB false,aL x7.k,aI (w6 (x8.n + 1)),aL x9.k] else some (6,[aL x0.k,aL x1.k,aI x2.n,aS x3.s,aB x4.b,aI x5.n,aB x6.b,aL x9.k]) := by kernel_rfl
theorem q_R17_Order_c4 (n : Nat) (x0 x1 x2 x3 : T) : den Try.prog G0 ents (Nat.succ n) i_R17_Order (some p_R17_Order_c4) [A.t x0, A.t x1, A.t x2, A.t x3] =
  bif lt x1.n x0.l then bif ib x1.n x0.l then cl n i_R17_Has_o [aS (x0.a x1.n).s,aL x2.k] fun v0 => bif !(r v0 0).b then bif ib x1.n x0.l then bif decide (Nat.succ (List.length x3.k) < 1073741824) then D n i_R17_Order (some p_R17_Order_c4) [aL x0.k,aI (w6 (x1.n + 1)),aL (r v0 1).k,aL (x3.k ++ [T.str (x0.a x1.n).s])] else none else none else D n i_R17_Order (some p_R17_Order_c4) [aL x0.k,aI (w6 (x1.n + 1)),aL (r v0 1).k,aL x3.k] else none else some (8,[aL x2.k,aL x3.k]) := by kernel_rfl
theorem q_R17_To (n : Nat) (x0 x1 : T) : den Try.prog G0 ents (Nat.succ n) i_R17_To none [A.t x0, A.t x1] =
  lp n i_R17_To p_R17_To_c1 [aL x0.k,aS x1.s,aL [],aI 0] fun v0 => bif Nat.beq v0.1 2 then rt [aL (r v0.2 0).k] else none := by kernel_rfl
theorem q_R17_To_c1 (n : Nat) (x0 x1 x2 x3 : T) : den Try.prog G0 ents (Nat.succ n) i_R17_To (some p_R17_To_c1) [A.t x0, A.t x1, A.t x2, A.t x3] =
  bif lt x3.n x0.l then bif ib x3.n x0.l then bif seqB ((x0.a x3.n).g 0).s x1.s then bif ib x3.n x0.l then cl n i_R17_Put [aL x2.k,aS ((x0.a x3.n).g 1).s] fun v0 => D n i_R17_To (some p_R17_To_c1) [aL x0.k,aS x1.s,aL (r v0 0).k,aI (w6 (x3.n + 1))] else none else D n i_R17_To (some p_R17_To_c1) [aL x0.k,aS x1.s,aL x2.k,aI (w6 (x3.n + 1))] else none else some (2,[aL x2.k]) := by kernel_rfl
theorem q_R17_Has_o (n : Nat) (x0 x1 : T) : den Try.prog G0 ents (Nat.succ n) i_R17_Has_o none [A.t x0, A.t x1] =
  lp n i_R17_Has_o p_R17_Has_o_c1 [aS x0.s,aI 0,aL x1.k] fun v0 => bif Nat.beq v0.1 2 then rt [aB false,aL (r v0.2 0).k] else bif Nat.beq v0.1 1 then rt [aB (r v0.2 0).b,aL (r v0.2 1).k] else none := by kernel_rfl
theorem q_R17_Has_o_c1 (n : Nat) (x0 x1 x2 : T) : den Try.prog G0 ents (Nat.succ n) i_R17_Has_o (some p_R17_Has_o_c1) [A.t x0, A.t x1, A.t x2] =
  bif lt x1.n x2.l then bif ib x1.n x2.l then bif decide (Int.toNat x1.n < List.length x2.k) then bif seqB (x2.a x1.n).s x0.s then rt [aB true,aL x2.k] else D n i_R17_Has_o (some p_R17_Has_o_c1) [aS x0.s,aI (w6 (x1.n + 1)),aL x2.k] else none else none else some (2,[aL x2.k]) := by kernel_rfl
theorem q_R02_Same_o_v2 (n : Nat) (x0 x1 : T) : den Try.prog G0 ents (Nat.succ n) i_R02_Same_o_v2 none [A.t x0, A.t x1] =
  bif x0.l != x1.l then rt [aB false,aL x1.k] else lp n i_R02_Same_o_v2 p_R02_Same_o_v2_c1 [aL x0.k,aI 0,aL x1.k] fun v0 => bif Nat.beq v0.1 2 then rt [aB true,aL (r v0.2 0).k] else bif Nat.beq v0.1 1 then rt [aB (r v0.2 0).b,aL (r v0.2 1).k] else none := by kernel_rfl
theorem q_R02_Same_o_v2_c1 (n : Nat) (x0 x1 x2 : T) : den Try.prog G0 ents (Nat.succ n) i_R02_Same_o_v2 (some p_R02_Same_o_v2_c1) [A.t x0, A.t x1, A.t x2] =
  bif lt x1.n x0.l then bif ib x1.n x0.l then bif ib x1.n x2.l then bif decide (Int.toNat x1.n < List.length x2.k) then bif !(seqB (x0.a x1.n).s (x2.a x1.n).s) then rt [aB false,aL x2.k] else D n i_R02_Same_o_v2 (some p_R02_Same_o_v2_c1) [aL x0.k,aI (w6 (x1.n + 1)),aL x2.k] else none else none else none else some (2,[aL x2.k]) := by kernel_rfl
theorem q_R02_Same_o_v3 (n : Nat) (x0 x1 : T) : den Try.prog G0 ents (Nat.succ n) i_R02_Same_o_v3 none [A.t x0, A.t x1] =
  bif x0.l != x1.l then rt [aB false,aL x0.k,aL x1.k] else lp n i_R02_Same_o_v3 p_R02_Same_o_v3_c1 [aI 0,aL x0.k,aL x1.k] fun v0 => bif Nat.beq v0.1 2 then rt [aB true,aL (r v0.2 0).k,aL (r v0.2 1).k] else bif Nat.beq v0.1 1 then rt [aB (r v0.2 0).b,aL (r v0.2 1).k,aL (r v0.2 2).k] else none := by kernel_rfl
theorem q_R02_Same_o_v3_c1 (n : Nat) (x0 x1 x2 : T) : den Try.prog G0 ents (Nat.succ n) i_R02_Same_o_v3 (some p_R02_Same_o_v3_c1) [A.t x0, A.t x1, A.t x2] =
  bif lt x0.n x1.l then bif ib x0.n x1.l then bif decide (Int.toNat x0.n < List.length x1.k) then bif ib x0.n x2.l then bif decide (Int.toNat x0.n < List.length x2.k) then bif !(seqB (x1.a x0.n).s (x2.a x0.n).s) then rt [aB false,aL x1.k,aL x2.k] else D n i_R02_Same_o_v3 (some p_R02_Same_o_v3_c1) [aI (w6 (x0.n + 1)),aL x1.k,aL x2.k] else none else none else none else none else some (2,[aL x1.k,aL x2.k]) := by kernel_rfl
end Go.Proofs.YtbejhhoakeapgaaGO
namespace Go.Proofs.YtbejhhoakeapgaaGO
open Go Go.Proofs.YtbejhhoakeapgaaVM
set_option linter.unusedVariables false
def terms (v : T) : List T := (v.get 0).kids
def flds (t : T) : List T := (t.get 7).kids
def nm (f : T) : ByteArray := (f.get 0).txt
def val (f : T) : T := f.get 1
def sumN (l : List Nat) : Nat := l.foldr (· + ·) 0
def wt : Nat → T → Nat
  | 0, _ => 0
  | d + 1, v => sumN ((terms v).map fun t => 1 + sumN ((flds t).map fun f => wt d (val f)))
def wtT (d : Nat) (t : T) : Nat := 1 + sumN ((flds t).map fun f => wt d (val f))
theorem wt_succ (d : Nat) (v : T) : wt (d + 1) v = sumN ((terms v).map (wtT d)) := rfl
def maxN (l : List Nat) : Nat := l.foldr max 0
def dep : Nat → T → Nat
  | 0, _ => 0
  | d + 1, v => 1 + maxN ((terms v).map fun t => maxN ((flds t).map fun f => dep d (val f)))
def Vd : Nat → T → Prop
  | 0, _ => False
  | d + 1, v => ∀ t ∈ terms v, (flds t).length ≤ 100 ∧ (t.get 3).txt.size ≤ 400 ∧ ∀ f ∈ flds t, (nm f).size ≤ 100 ∧ Vd d (val f)
theorem sum_foldl {α : Type} (f : α → Nat) : ∀ (l : List α) (a : Nat), l.foldl (fun a x => a + f x) a = a + sumN (l.map f)
  | [], a => by simp [sumN]
  | x :: l, a => by
    rw [List.foldl_cons, sum_foldl f l (a + f x)]
    simp only [List.map_cons, sumN, List.foldr_cons]
    omega
theorem max_foldl {α : Type} (f : α → Nat) : ∀ (l : List α) (a : Nat), l.foldl (fun a x => max a (f x)) a = max a (maxN (l.map f))
  | [], a => by simp [maxN]
  | x :: l, a => by
    rw [List.foldl_cons, max_foldl f l (max a (f x))]
    simp only [List.map_cons, maxN, List.foldr_cons]
    omega
theorem sum_mem {α : Type} {f : α → Nat} {l : List α} {x : α} (h : x ∈ l) : f x ≤ sumN (l.map f) := by
  induction l with
  | nil => cases h
  | cons y l ih =>
    simp only [List.map_cons, sumN, List.foldr_cons]
    rcases List.mem_cons.1 h with rfl | h
    · omega
    · have := ih h
      unfold sumN at this
      omega
theorem sum_len {α : Type} {f : α → Nat} {l : List α} (h : ∀ x ∈ l, 1 ≤ f x) : l.length ≤ sumN (l.map f) := by
  induction l with
  | nil => simp
  | cons y l ih =>
    have h1 := ih fun x hx => h x (List.mem_cons_of_mem _ hx)
    have h2 := h y List.mem_cons_self
    simp only [List.map_cons, sumN, List.foldr_cons, List.length_cons]
    unfold sumN at h1
    omega
def Sm (d : Nat) (v : T) : Prop := Vd d v ∧ wt d v ≤ 512
theorem Sm.terms {d : Nat} {v : T} (h : Sm d v) : (terms v).length ≤ 512 := by
  cases d with
  | zero => exact h.1.elim
  | succ d => exact Nat.le_trans (sum_len (f := wtT d) fun t _ => by unfold wtT; omega) h.2
theorem Sm.sub {d : Nat} {v t f : T} (h : Sm (d + 1) v) (ht : t ∈ YtbejhhoakeapgaaGO.terms v) (hf : f ∈ flds t) : Sm d (val f) := by
  refine ⟨((h.1 t ht).2.2 f hf).2, ?_⟩
  have h1 : wt d (val f) ≤ wtT d t := by
    unfold wtT
    have := sum_mem (f := fun f => wt d (val f)) hf
    omega
  have h2 : wtT d t ≤ wt (d + 1) v := sum_mem (f := wtT d) ht
  have := h.2
  omega
theorem Sm.flds {d : Nat} {v t : T} (h : Sm (d + 1) v) (ht : t ∈ YtbejhhoakeapgaaGO.terms v) : (YtbejhhoakeapgaaGO.flds t).length ≤ 100 := (h.1 t ht).1
theorem Sm.wtT {d : Nat} {v t : T} (h : Sm (d + 1) v) (ht : t ∈ YtbejhhoakeapgaaGO.terms v) : YtbejhhoakeapgaaGO.wtT d t ≤ 512 := Nat.le_trans (sum_mem (f := YtbejhhoakeapgaaGO.wtT d) ht) h.2

def leftFs (g : T → Int → Int) : List T → Int → Int
  | [], n => n
  | f :: fs, n => if n < 0 then n else if 100 < (nm f).size then -1 else leftFs g fs (g (val f) n)
def leftTs (g : T → Int → Int) : List T → Int → Int
  | [], n => n
  | t :: ts, n => if n < 0 then n else if 400 < (t.get 3).txt.size ∨ 100 < (flds t).length then -1 else leftTs g ts (leftFs g (flds t) (n - 1))
def leftF : Nat → T → Int → Int
  | 0, _, _ => -1
  | d + 1, v, n => if (((terms v).length : Nat) : Int) > n then -1 else leftTs (leftF d) (terms v) n
theorem leftFs_neg (g : T → Int → Int) : ∀ (l : List T) (n : Int), n < 0 → leftFs g l n = n
  | [], n, h => rfl
  | f :: fs, n, h => by rw [leftFs, if_pos h]
theorem leftTs_neg (g : T → Int → Int) : ∀ (l : List T) (n : Int), n < 0 → leftTs g l n = n
  | [], n, h => rfl
  | f :: fs, n, h => by rw [leftTs, if_pos h]
theorem left_few : ∀ (d : Nat) (v : T) (n : Int), 0 ≤ leftF d v n → Vd d v ∧ leftF d v n + (wt d v : Nat) = n
  | 0, v, n, h => by simp [leftF] at h
  | d + 1, v, n, h => by
    have hfs : ∀ (l : List T) (n : Int), 0 ≤ leftFs (leftF d) l n → (∀ f ∈ l, (nm f).size ≤ 100 ∧ Vd d (val f)) ∧ leftFs (leftF d) l n + (sumN (l.map fun f => wt d (val f)) : Nat) = n := by
      intro l
      induction l with
      | nil => intro n hn; exact ⟨by simp, by simp [leftFs, sumN]⟩
      | cons f l ih =>
        intro n hn
        rw [leftFs] at hn ⊢
        split at hn
        · omega
        · split at hn
          · omega
          · rename_i h1 h2
            rw [if_neg h1, if_neg h2]
            obtain ⟨q1, q2⟩ := ih _ hn
            have h3 : 0 ≤ leftF d (val f) n := by
              rcases Int.lt_or_le (leftF d (val f) n) 0 with h4 | h4
              · rw [leftFs_neg _ _ _ h4] at hn; omega
              · exact h4
            obtain ⟨q3, q4⟩ := left_few d (val f) n h3
            refine ⟨fun x hx => ?_, ?_⟩
            · rcases List.mem_cons.1 hx with rfl | hx
              · exact ⟨by omega, q3⟩
              · exact q1 x hx
            · simp only [List.map_cons, sumN, List.foldr_cons] at q2 ⊢
              omega
    have hts : ∀ (l : List T) (n : Int), 0 ≤ leftTs (leftF d) l n → (∀ t ∈ l, (flds t).length ≤ 100 ∧ (t.get 3).txt.size ≤ 400 ∧ ∀ f ∈ flds t, (nm f).size ≤ 100 ∧ Vd d (val f)) ∧ leftTs (leftF d) l n + (sumN (l.map (wtT d)) : Nat) = n := by
      intro l
      induction l with
      | nil => intro n hn; exact ⟨by simp, by simp [leftTs, sumN]⟩
      | cons t l ih =>
        intro n hn
        rw [leftTs] at hn ⊢
        split at hn
        · omega
        · split at hn
          · omega
          · rename_i h1 h2
            rw [if_neg h1, if_neg h2]
            obtain ⟨q1, q2⟩ := ih _ hn
            have h3 : 0 ≤ leftFs (leftF d) (flds t) (n - 1) := by
              rcases Int.lt_or_le (leftFs (leftF d) (flds t) (n - 1)) 0 with h4 | h4
              · rw [leftTs_neg _ _ _ h4] at hn; omega
              · exact h4
            obtain ⟨q3, q4⟩ := hfs _ _ h3
            refine ⟨fun x hx => ?_, ?_⟩
            · rcases List.mem_cons.1 hx with rfl | hx
              · exact ⟨by omega, by omega, q3⟩
              · exact q1 x hx
            · simp only [List.map_cons, sumN, List.foldr_cons, wtT] at q2 q4 ⊢
              omega
    rw [leftF] at h ⊢
    split at h
    · omega
    · rename_i h1
      rw [if_neg h1]
      exact hts _ _ h
end Go.Proofs.YtbejhhoakeapgaaGO
namespace Go.Proofs.YtbejhhoakeapgaaGO
open Go Go.Proofs.YtbejhhoakeapgaaVM
set_option linter.unusedVariables false
set_option linter.unusedSimpArgs false
set_option maxRecDepth 100000

def Dz (i : Nat) (p : Option (List Bool)) (xs : List A) (r : Nat × List A) : Prop := Does Try.prog G0 ents i p xs r
theorem terms_eq (v : T) : (T.get v 0).kids = terms v := id rfl
theorem flds_eq (v : T) : (T.get v 7).kids = flds v := id rfl
theorem S1 : (∀ n i p xs, D n i p xs = den Try.prog G0 ents n i p xs) ∧ (∀ n i xs k, cl n i xs k = Option.bind (Option.map (fun v => v.2) (den Try.prog G0 ents n i none xs)) k) ∧ (∀ n i p xs k, lp n i p xs k = Option.bind (den Try.prog G0 ents n i (some p) xs) k) :=
  ⟨fun _ _ _ _ => rfl, fun _ _ _ _ => rfl, fun _ _ _ _ _ => rfl⟩
theorem S2 : (∀ v, (T.get v 0).kids = terms v) ∧ (∀ v, (T.get v 7).kids = flds v) := ⟨fun _ => rfl, fun _ => rfl⟩
theorem leftFs_le {g : T → Int → Int} (hg : ∀ v n, g v n ≤ max n (-1) ∧ (-1 ≤ n → -1 ≤ g v n)) : ∀ (l : List T) (n : Int), leftFs g l n ≤ max n (-1) ∧ (-1 ≤ n → -1 ≤ leftFs g l n) := by
  intro l
  induction l with
  | nil => intro n; simp only [leftFs]; omega
  | cons f l ih =>
    intro n
    rw [leftFs]
    split
    · omega
    · split
      · omega
      · have h1 := ih (g (val f) n)
        have h2 := hg (val f) n
        omega
theorem leftF_le : ∀ (d : Nat) (v : T) (n : Int), leftF d v n ≤ max n (-1) ∧ (-1 ≤ n → -1 ≤ leftF d v n)
  | 0, v, n => by simp only [leftF]; omega
  | d + 1, v, n => by
    have hts : ∀ (l : List T) (n : Int), leftTs (leftF d) l n ≤ max n (-1) ∧ (-1 ≤ n → -1 ≤ leftTs (leftF d) l n) := by
      intro l
      induction l with
      | nil => intro n; simp only [leftTs]; omega
      | cons t l ih =>
        intro n
        rw [leftTs]
        split
        · omega
        · split
          · omega
          · have h1 := ih (leftFs (leftF d) (flds t) (n - 1))
            have h2 := leftFs_le (fun v n => leftF_le d v n) (flds t) (n - 1)
            omega
    rw [leftF]
    split
    · omega
    · exact hts _ _
end Go.Proofs.YtbejhhoakeapgaaGO
namespace Go.Proofs.YtbejhhoakeapgaaGO
open Go Go.Proofs.YtbejhhoakeapgaaVM
set_option linter.unusedVariables false
set_option linter.unusedSimpArgs false
set_option maxRecDepth 100000

def up : Nat → Nat → Nat
  | 0, n => n
  | k + 1, n => Nat.succ (up k n)
theorem up_add (k n : Nat) : up k n = n + k := by
  induction k with
  | zero => rfl
  | succ k ih => rw [up, ih]; rfl
theorem run_of {i : Nat} {xs : List A} {r : Nat × List A} (k : Nat) (h : ∀ n, den Try.prog G0 ents (up k n) i none xs = some r) : Dz i none xs r :=
  ⟨k, fun n hn => by
    obtain ⟨j, rfl⟩ : ∃ j, n = j + k := ⟨n - k, by omega⟩
    rw [← up_add]
    exact h j⟩
def fi (p : T → Bool) : List T → Nat → Int
  | [], _ => -1
  | x :: l, k => if p x then ((k : Nat) : Int) else fi p l (k + 1)
theorem fi_any (p : T → Bool) : ∀ (l : List T) (k : Nat), decide (fi p l k ≥ 0) = l.any p
  | [], k => by simp [fi]
  | x :: l, k => by
    rw [fi, List.any_cons, ← fi_any p l (k + 1)]
    cases p x
    · simp
    · simp
theorem fi_none {p : T → Bool} {l : List T} {k : Nat} (h : l.any p = false) : fi p l k = -1 := by
  induction l generalizing k with
  | nil => rfl
  | cons x l ih =>
    rw [List.any_cons, Bool.or_eq_false_iff] at h
    rw [fi, h.1, ih h.2]
    rfl
theorem idx0_loop {i ic : Nat} {pp : List Bool} (hq : ∀ n x0 x1 x2, den Try.prog G0 ents (Nat.succ n) i (some pp) [A.t x0, A.t x1, A.t x2] =
  bif lt x2.n x1.n then bif ib x2.n x0.l then cl n ic [A.t (x0.a x2.n)] fun v0 => bif (r v0 0).b then rt [aI x2.n] else D n i (some pp) [aL x0.k,aI x1.n,aI (w6 (x2.n + 1))] else none else some (2,[]))
    (l : List T) (p : T → Bool) (hl : l.length ≤ 1000000000) (hp : ∀ x ∈ l, Dz ic none [A.t x] (1, [A.t (T.bool (p x))])) : ∀ (k j : Nat), j + k = l.length →
    Dz i (some pp) [A.t (T.node l), A.t (T.int (l.length : Nat)), A.t (T.int j)] (if (l.drop j).any p then (1, [A.t (T.int (fi p (l.drop j) j))]) else (2, [])) := by
  intro k
  induction k with
  | zero =>
    intro j hj
    rw [List.drop_of_length_le (by omega)]
    refine Does.now fun m => ?_
    rw [hq]
    simp only [S0, S9, S1, S2, if_true, if_false, List.any_nil]
    rw [if_neg (by omega)]
  | succ k ih =>
    intro j hj
    have hlt : j < l.length := by omega
    have hw : IntKind.i64.wrap ((j : Int) + 1) = ((j + 1 : Nat) : Int) := i64succ (by omega)
    obtain ⟨n0, h0⟩ := (hp _ (List.getElem_mem hlt)).both (ih (j + 1) (by omega))
    refine Does.of n0 fun m hm => ?_
    obtain ⟨q, q2⟩ := h0 m hm
    rw [hq, List.drop_eq_getElem_cons hlt, List.any_cons, fi]
    simp only [S0, S9, S1, S2, if_true, if_false, hw, at_get hlt, q]
    rw [if_pos (by omega), if_pos (by omega)]
    cases p l[j]
    · simp only [Bool.false_eq_true, if_false, false_or]; exact q2
    · rfl
theorem idx0_does {i ic : Nat} {pp : List Bool} (hq2 : ∀ n x0, den Try.prog G0 ents (Nat.succ n) i none [A.t x0] =
  lp n i pp [aL x0.k,aI x0.l,aI 0] fun v0 => bif Nat.beq v0.1 2 then rt [aI (-1)] else bif Nat.beq v0.1 1 then rt [aI (r v0.2 0).n] else none) (hq : ∀ n x0 x1 x2, den Try.prog G0 ents (Nat.succ n) i (some pp) [A.t x0, A.t x1, A.t x2] =
  bif lt x2.n x1.n then bif ib x2.n x0.l then cl n ic [A.t (x0.a x2.n)] fun v0 => bif (r v0 0).b then rt [aI x2.n] else D n i (some pp) [aL x0.k,aI x1.n,aI (w6 (x2.n + 1))] else none else some (2,[]))
    (l : List T) (p : T → Bool) (hl : l.length ≤ 1000000000) (hp : ∀ x ∈ l, Dz ic none [A.t x] (1, [A.t (T.bool (p x))])) : Dz i none [A.t (T.node l)] (1, [A.t (T.int (fi p l 0))]) := by
  obtain ⟨n0, h0⟩ := idx0_loop hq l p hl hp l.length 0 (by omega)
  rw [List.drop_zero] at h0
  refine Does.of n0 fun m hm => ?_
  have q : den Try.prog G0 ents m i (some pp) [A.t (T.node l), A.t (T.int (l.length : Nat)), A.t (T.int 0)] = _ := h0 m hm
  rw [hq2]
  simp only [S0, S9, S1, S2, if_true, if_false, q]
  cases hb : l.any p
  · rw [fi_none hb]; rfl
  · rfl
theorem has0_does {i i2 ic : Nat} {pp : List Bool} (hq3 : ∀ n x0, den Try.prog G0 ents (Nat.succ n) i2 none [A.t x0] =
  cl n i [aL x0.k] fun v0 => rt [aB (ge (r v0 0).n 0)]) (hq2 : ∀ n x0, den Try.prog G0 ents (Nat.succ n) i none [A.t x0] =
  lp n i pp [aL x0.k,aI x0.l,aI 0] fun v0 => bif Nat.beq v0.1 2 then rt [aI (-1)] else bif Nat.beq v0.1 1 then rt [aI (r v0.2 0).n] else none) (hq : ∀ n x0 x1 x2, den Try.prog G0 ents (Nat.succ n) i (some pp) [A.t x0, A.t x1, A.t x2] =
  bif lt x2.n x1.n then bif ib x2.n x0.l then cl n ic [A.t (x0.a x2.n)] fun v0 => bif (r v0 0).b then rt [aI x2.n] else D n i (some pp) [aL x0.k,aI x1.n,aI (w6 (x2.n + 1))] else none else some (2,[]))
    (l : List T) (p : T → Bool) (hl : l.length ≤ 1000000000) (hp : ∀ x ∈ l, Dz ic none [A.t x] (1, [A.t (T.bool (p x))])) : Dz i2 none [A.t (T.node l)] (1, [A.t (T.bool (l.any p))]) := by
  obtain ⟨n0, h0⟩ := idx0_does hq2 hq l p hl hp
  refine Does.of n0 fun m hm => ?_
  rw [hq3]
  simp only [S0, S9, S1, S2, if_true, if_false, h0 m hm, fi_any]
theorem idx1_loop {i ic : Nat} {pp : List Bool} (hq : ∀ n x0 x1 x2 x3, den Try.prog G0 ents (Nat.succ n) i (some pp) [A.t x0, A.t x1, A.t x2, A.t x3] =
  bif lt x2.n x1.n then bif ib x2.n x0.l then cl n ic [A.t (x0.a x2.n),A.t x3] fun v0 => bif (r v0 0).b then rt [aI x2.n,A.t (r v0 1)] else D n i (some pp) [aL x0.k,aI x1.n,aI (w6 (x2.n + 1)),A.t (r v0 1)] else none else some (2,[A.t x3]))
    (l : List T) (c0 : T) (p : T → Bool) (hl : l.length ≤ 1000000000) (hp : ∀ x ∈ l, Dz ic none [A.t x, A.t c0] (1, [A.t (T.bool (p x)), A.t c0])) : ∀ (k j : Nat), j + k = l.length →
    Dz i (some pp) [A.t (T.node l), A.t (T.int (l.length : Nat)), A.t (T.int j), A.t c0] (if (l.drop j).any p then (1, [A.t (T.int (fi p (l.drop j) j)), A.t c0]) else (2, [A.t c0])) := by
  intro k
  induction k with
  | zero =>
    intro j hj
    rw [List.drop_of_length_le (by omega)]
    refine Does.now fun m => ?_
    rw [hq]
    simp only [S0, S9, S1, S2, if_true, if_false, List.any_nil]
    rw [if_neg (by omega)]
  | succ k ih =>
    intro j hj
    have hlt : j < l.length := by omega
    have hw : IntKind.i64.wrap ((j : Int) + 1) = ((j + 1 : Nat) : Int) := i64succ (by omega)
    obtain ⟨n0, h0⟩ := (hp _ (List.getElem_mem hlt)).both (ih (j + 1) (by omega))
    refine Does.of n0 fun m hm => ?_
    obtain ⟨q, q2⟩ := h0 m hm
    rw [hq, List.drop_eq_getElem_cons hlt, List.any_cons, fi]
    simp only [S0, S9, S1, S2, if_true, if_false, hw, at_get hlt, q]
    rw [if_pos (by omega), if_pos (by omega)]
    cases p l[j]
    · simp only [Bool.false_eq_true, if_false, false_or]; exact q2
    · rfl
theorem idx1_does {i ic : Nat} {pp : List Bool} (hq2 : ∀ n x0 x1, den Try.prog G0 ents (Nat.succ n) i none [A.t x0, A.t x1] =
  lp n i pp [aL x0.k,aI x0.l,aI 0,A.t x1] fun v0 => bif Nat.beq v0.1 2 then rt [aI (-1),A.t (r v0.2 0)] else bif Nat.beq v0.1 1 then rt [aI (r v0.2 0).n,A.t (r v0.2 1)] else none) (hq : ∀ n x0 x1 x2 x3, den Try.prog G0 ents (Nat.succ n) i (some pp) [A.t x0, A.t x1, A.t x2, A.t x3] =
  bif lt x2.n x1.n then bif ib x2.n x0.l then cl n ic [A.t (x0.a x2.n),A.t x3] fun v0 => bif (r v0 0).b then rt [aI x2.n,A.t (r v0 1)] else D n i (some pp) [aL x0.k,aI x1.n,aI (w6 (x2.n + 1)),A.t (r v0 1)] else none else some (2,[A.t x3]))
    (l : List T) (c0 : T) (p : T → Bool) (hl : l.length ≤ 1000000000) (hp : ∀ x ∈ l, Dz ic none [A.t x, A.t c0] (1, [A.t (T.bool (p x)), A.t c0])) : Dz i none [A.t (T.node l), A.t c0] (1, [A.t (T.int (fi p l 0)), A.t c0]) := by
  obtain ⟨n0, h0⟩ := idx1_loop hq l c0 p hl hp l.length 0 (by omega)
  rw [List.drop_zero] at h0
  refine Does.of n0 fun m hm => ?_
  have q : den Try.prog G0 ents m i (some pp) [A.t (T.node l), A.t (T.int (l.length : Nat)), A.t (T.int 0), A.t c0] = _ := h0 m hm
  rw [hq2]
  simp only [S0, S9, S1, S2, if_true, if_false, q]
  cases hb : l.any p
  · rw [fi_none hb]; rfl
  · rfl
theorem has1_does {i i2 ic : Nat} {pp : List Bool} (hq3 : ∀ n x0 x1, den Try.prog G0 ents (Nat.succ n) i2 none [A.t x0, A.t x1] =
  cl n i [aL x0.k,A.t x1] fun v0 => rt [aB (ge (r v0 0).n 0),A.t (r v0 1)]) (hq2 : ∀ n x0 x1, den Try.prog G0 ents (Nat.succ n) i none [A.t x0, A.t x1] =
  lp n i pp [aL x0.k,aI x0.l,aI 0,A.t x1] fun v0 => bif Nat.beq v0.1 2 then rt [aI (-1),A.t (r v0.2 0)] else bif Nat.beq v0.1 1 then rt [aI (r v0.2 0).n,A.t (r v0.2 1)] else none) (hq : ∀ n x0 x1 x2 x3, den Try.prog G0 ents (Nat.succ n) i (some pp) [A.t x0, A.t x1, A.t x2, A.t x3] =
  bif lt x2.n x1.n then bif ib x2.n x0.l then cl n ic [A.t (x0.a x2.n),A.t x3] fun v0 => bif (r v0 0).b then rt [aI x2.n,A.t (r v0 1)] else D n i (some pp) [aL x0.k,aI x1.n,aI (w6 (x2.n + 1)),A.t (r v0 1)] else none else some (2,[A.t x3]))
    (l : List T) (c0 : T) (p : T → Bool) (hl : l.length ≤ 1000000000) (hp : ∀ x ∈ l, Dz ic none [A.t x, A.t c0] (1, [A.t (T.bool (p x)), A.t c0])) : Dz i2 none [A.t (T.node l), A.t c0] (1, [A.t (T.bool (l.any p)), A.t c0]) := by
  obtain ⟨n0, h0⟩ := idx1_does hq2 hq l c0 p hl hp
  refine Does.of n0 fun m hm => ?_
  rw [hq3]
  simp only [S0, S9, S1, S2, if_true, if_false, h0 m hm, fi_any]
end Go.Proofs.YtbejhhoakeapgaaGO
namespace Go.Proofs.YtbejhhoakeapgaaGO
open Go Go.Proofs.YtbejhhoakeapgaaVM
set_option linter.unusedVariables false
set_option linter.unusedSimpArgs false
set_option maxRecDepth 100000

structure Dk where
  dn : Bool
  lf : Int
  kp : Int
  op : Int
  fs : List T
def f0 : T := .node [.str ByteArray.empty, .int 0]
def gF (fs : List T) (s : ByteArray) : T := mget keyS f0 fs (.str s)
def hF (fs : List T) (s : ByteArray) : Bool := mhas keyS fs (.str s)
def fT (f : T) : ByteArray := (f.get 0).txt
def fN (f : T) : Int := (f.get 1).num
def fil (s : ByteArray) (n : Int) : T := .node [.str s, .int n]
def putF (fs : List T) (s : ByteArray) (v : T) : List T := mput keyS fs (.str s) v
def delF (fs : List T) (s : ByteArray) : List T := mdel keyS fs (.str s)
theorem fT_fil (s : ByteArray) (n : Int) : fT (fil s n) = s := id rfl
theorem fN_fil (s : ByteArray) (n : Int) : fN (fil s n) = n := id rfl
def Fw (f : T) : Prop := 0 ≤ fN f ∧ fN f ≤ ((fT f).size : Int) ∧ (fT f).size ≤ 4194304
def Wf (fs : List T) : Prop := ∀ s, Fw (gF fs s)
theorem key_self (s : ByteArray) : keyS (.str s) (.str s) = true := by
  show seqB s s = true
  unfold seqB
  exact beq_self_eq_true _
theorem key_iff (a b : T) : keyS a b = true ↔ a.txt = b.txt := by
  unfold keyS seqB
  rw [beq_iff_eq]
  exact ⟨fun h => by rw [ByteArray.toList_eq, ByteArray.toList_eq] at h; exact ByteArray.ext (Array.toList_inj.1 h), fun h => by rw [h]⟩
theorem gF_put (fs : List T) (k s : ByteArray) (v : T) : gF (putF fs k v) s = if s = k then v else gF fs s := by
  unfold gF putF
  induction fs with
  | nil =>
    show mget keyS f0 [.node [.str k, v]] (.str s) = _
    simp only [mget]
    by_cases h : s = k
    · subst h
      rw [show keyS (.str s) ((T.node [.str s, v]).get 0) = true from key_self s, if_pos rfl]
      rfl
    · have : keyS (.str s) ((T.node [.str k, v]).get 0) = false := by
        cases hq : keyS (.str s) ((T.node [.str k, v]).get 0) with
        | false => rfl
        | true => exact absurd ((key_iff _ _).1 hq) h
      rw [this, if_neg h]
      rfl
  | cons e es ih =>
    simp only [mput]
    cases hk : keyS (.str k) (e.get 0) with
    | true =>
      have hke : k = (e.get 0).txt := (key_iff _ _).1 hk
      simp only [cond_true, mget]
      by_cases h : s = k
      · subst h
        rw [show keyS (.str s) ((T.node [.str s, v]).get 0) = true from key_self s, if_pos rfl]
        rfl
      · have h1 : keyS (.str s) ((T.node [.str k, v]).get 0) = false := by
          cases hq : keyS (.str s) ((T.node [.str k, v]).get 0) with
          | false => rfl
          | true => exact absurd ((key_iff _ _).1 hq) h
        have h2 : keyS (.str s) (e.get 0) = false := by
          cases hq : keyS (.str s) (e.get 0) with
          | false => rfl
          | true => exact absurd (((key_iff _ _).1 hq).trans hke.symm) h
        rw [h1, h2, if_neg h]
        rfl
    | false =>
      simp only [cond_false, mget]
      cases hs : keyS (.str s) (e.get 0) with
      | true =>
        have hne : ¬ s = k := fun h => by subst h; rw [hs] at hk; cases hk
        rw [if_neg hne]
        rfl
      | false => simp only [cond_false]; exact ih
theorem gF_del (fs : List T) (k s : ByteArray) (h : s ≠ k) : gF (delF fs k) s = gF fs s := by
  unfold gF delF
  induction fs with
  | nil => rfl
  | cons e es ih =>
    simp only [mdel]
    cases hk : keyS (.str k) (e.get 0) with
    | true =>
      have hke : k = (e.get 0).txt := (key_iff _ _).1 hk
      have h2 : keyS (.str s) (e.get 0) = false := by
        cases hq : keyS (.str s) (e.get 0) with
        | false => rfl
        | true => exact absurd (((key_iff _ _).1 hq).trans hke.symm) h
      simp only [cond_true, mget, h2, cond_false]
    | false =>
      simp only [cond_false, mget]
      cases hs : keyS (.str s) (e.get 0)
      · simp only [cond_false]; exact ih
      · rfl
theorem gF_no {fs : List T} {s : ByteArray} (h : hF fs s = false) : gF fs s = f0 := by
  unfold hF mhas at h
  unfold gF
  induction fs with
  | nil => rfl
  | cons e es ih =>
    rw [List.any_cons, Bool.or_eq_false_iff] at h
    simp only [mget, h.1, cond_false]
    exact ih h.2
theorem hF_put (fs : List T) (k s : ByteArray) (v : T) : hF (putF fs k v) s = (decide (s = k) || hF fs s) := by
  unfold hF putF
  induction fs with
  | nil =>
    show mhas keyS [.node [.str k, v]] (.str s) = _
    simp only [mhas, List.any_cons, List.any_nil, Bool.or_false]
    by_cases h : s = k
    · subst h; rw [decide_eq_true rfl]; exact key_self s
    · rw [decide_eq_false h]
      cases hq : keyS (.str s) ((T.node [.str k, v]).get 0) with
      | false => rfl
      | true => exact absurd ((key_iff _ _).1 hq) h
  | cons e es ih =>
    simp only [mput]
    cases hk : keyS (.str k) (e.get 0) with
    | true =>
      have hke : k = (e.get 0).txt := (key_iff _ _).1 hk
      simp only [cond_true, mhas, List.any_cons]
      have h3 : keyS (.str s) ((T.node [.str k, v]).get 0) = keyS (.str s) (e.get 0) := by
        show seqB s k = seqB s (e.get 0).txt
        rw [hke]
      rw [h3]
      by_cases h : s = k
      · subst h; rw [hk]; simp
      · rw [decide_eq_false h, Bool.false_or]
    | false =>
      simp only [cond_false, mhas, List.any_cons] at ih ⊢
      rw [ih]
      cases keyS (.str s) (e.get 0) <;> cases decide (s = k) <;> rfl
theorem Wf.put {fs : List T} (h : Wf fs) {k : ByteArray} {v : T} (hv : Fw v) : Wf (putF fs k v) := fun s => by
  rw [gF_put]
  split
  · exact hv
  · exact h s
theorem f0_ok : Fw f0 := ⟨by decide, by decide, by decide⟩
theorem put_eq (fs : List T) (s : ByteArray) (v : T) : mput keyS fs (T.str s) v = putF fs s v := id rfl
theorem del_eq (fs : List T) (s : ByteArray) : mdel keyS fs (T.str s) = delF fs s := id rfl
theorem gF_eq (fs : List T) (s : ByteArray) : mget keyS (fil ByteArray.empty 0) fs (T.str s) = gF fs s := id rfl
theorem hF_eq (fs : List T) (s : ByteArray) : mhas keyS fs (T.str s) = hF fs s := id rfl
theorem fT_eq (f : T) : (T.get f 0).txt = fT f := id rfl
theorem fN_eq (f : T) : (T.get f 1).num = fN f := id rfl
theorem fil_eq (s : ByteArray) (n : Int) : T.node [T.str s, T.int n] = fil s n := id rfl

theorem ksort_eq (n : Nat) (l : List T) : den Try.prog G0 ents (Nat.succ n) i_slices_Sorted none [A.t (T.node l)] = Option.map (fun o => (1, o)) (bif keysOk l then some [A.t (T.node (keysS l)), A.t (T.node l)] else none) := by kernel_rfl
theorem ksort_does {l : List T} (h : keysOk l = true) : Dz i_slices_Sorted none [A.t (T.node l)] (1, [A.t (T.node (keysS l)), A.t (T.node l)]) := Does.now fun n => by rw [ksort_eq, h]; rfl
def cutB (d : Dk) : Bool := !(d.lf == 0) && (IntKind.i64.wrap (d.lf - 1) == 0)
def dCut (d : Dk) : Dk := if d.lf = 0 then ⟨d.dn, d.lf, d.kp, IntKind.i64.wrap (d.op + 1), d.fs⟩ else ⟨IntKind.i64.wrap (d.lf - 1) == 0, IntKind.i64.wrap (d.lf - 1), d.kp, IntKind.i64.wrap (d.op + 1), d.fs⟩
theorem dCut_fs (d : Dk) : (dCut d).fs = d.fs := by unfold dCut; split <;> rfl
theorem dCut_kp (d : Dk) : (dCut d).kp = d.kp := by unfold dCut; split <;> rfl
theorem dCut_dn (d : Dk) (h : d.dn = false) : (dCut d).dn = cutB d := by
  unfold dCut cutB
  by_cases h0 : d.lf = 0
  · rw [if_pos h0, h0]; exact h
  · rw [if_neg h0]
    have : (d.lf == 0) = false := by simpa using h0
    rw [this]; rfl
def rdS (d : Dk) (s : ByteArray) : ByteArray := if d.dn then ⟨List.toArray []⟩ else if hF d.fs s then fT (gF d.fs s) else ⟨List.toArray []⟩
def rdE (d : Dk) (s : ByteArray) : Int := if d.dn then 8 else if hF d.fs s then 0 else 5
def apT (d : Dk) (s : ByteArray) : ByteArray := ByteArray.extract s 0 (Int.toNat (maxI 0 (minI d.kp ((s.size : Nat) : Int))))
def apE (d : Dk) (to s : ByteArray) : Int :=
  if d.dn then 8 else if nameB to then (if 4194304 < (fT (gF d.fs to)).size + s.size then 4 else if cutB d then 8 else 0) else 1
def apD (d : Dk) (to s : ByteArray) : Dk :=
  if d.dn then d else if nameB to then (if 4194304 < (fT (gF d.fs to)).size + s.size then d else { dCut d with fs := putF d.fs to (fil (fT (gF d.fs to) ++ (if cutB d then apT d s else s)) (fN (gF d.fs to))) }) else d
theorem maxmin {k z : Int} (hz : 0 ≤ z) : 0 ≤ maxI 0 (minI k z) ∧ maxI 0 (minI k z) ≤ z := by
  unfold maxI minI
  split <;> split at * <;> omega
def syE (d : Dk) (s : ByteArray) : Int := if rdE d s = 0 then (if cutB d then 8 else 0) else rdE d s
def syD (d : Dk) (s : ByteArray) : Dk := if rdE d s = 0 then (if cutB d then dCut d else { dCut d with fs := putF d.fs s (fil (fT (gF d.fs s)) ((fT (gF d.fs s)).size : Int)) }) else d
def kpN (keeps : List T) (i : Nat) : Int := if i < keeps.length then (tAtD keeps i).num else 0
def stayF (f : T) (k : Int) : Int := maxI 0 (minI k (((fT f).size : Int) - fN f))
def cutT (f : T) (k : Int) : ByteArray := ByteArray.extract (fT f) 0 (Int.toNat (fN f + stayF f k))
def cutF (f : T) (k : Int) : T := fil (cutT f k) ((cutT f k).size : Int)
theorem stay_ok {f : T} (h : Fw f) (k : Int) : 0 ≤ stayF f k ∧ stayF f k ≤ ((fT f).size : Int) - fN f := maxmin (by have := h.2.1; omega)
theorem cutF_ok {f : T} (h : Fw f) (k : Int) : Fw (cutF f k) := by
  obtain ⟨h1, h2⟩ := stay_ok h k
  obtain ⟨h3, h4, h5⟩ := h
  have : (cutT f k).size ≤ (fT f).size := by unfold cutT; rw [ByteArray.size_extract]; omega
  exact ⟨by rw [cutF, fN_fil]; omega, by rw [cutF, fN_fil, fT_fil]; omega, by rw [cutF, fT_fil]; omega⟩
def wakeL (keeps : List T) : Nat → List T → List T → List T
  | _, [], fs => fs
  | i, s :: ss, fs => wakeL keeps (i + 1) ss (putF fs s.txt (cutF (gF fs s.txt) (kpN keeps i)))
def wkD (d : Dk) (keeps : List T) : Dk := ⟨false, 0, d.kp, d.op, wakeL keeps 0 (keysS d.fs) d.fs⟩
theorem keysS_len (es : List T) : (keysS es).length = es.length := by
  unfold keysS
  rw [List.length_map, (keysB_perm es).length_eq, List.length_map]
end Go.Proofs.YtbejhhoakeapgaaGO
namespace Go.Proofs.YtbejhhoakeapgaaGO
open Go Go.Proofs.YtbejhhoakeapgaaVM
set_option linter.unusedVariables false
set_option linter.unusedSimpArgs false
set_option maxRecDepth 100000

def ky (e : T) : ByteArray := (e.get 0).txt
def nF (x : T) : ByteArray := (x.get 0).txt
def sF (x : T) : ByteArray := (x.get 1).txt
def uF (x : T) : Int := (x.get 2).num
def Up (F : List T) : Prop := F.Pairwise fun a b => sltB (nF a) (nF b) = true
theorem lt_irr (a : ByteArray) : sltB a a = false := by
  rw [slt_data, decide_eq_false_iff_not]
  exact List.lt_irrefl _
theorem lt_tr {a b c : ByteArray} (h1 : sltB a b = true) (h2 : sltB b c = true) : sltB a c = true := by
  rw [slt_data, decide_eq_true_eq] at *
  exact List.lt_trans h1 h2
theorem lt_ne {a b : ByteArray} (h : sltB a b = true) : a ≠ b := fun e => by subst e; rw [lt_irr] at h; cases h
theorem lt_no {a b : ByteArray} (h : sltB a b = true) : sltB b a = false := by
  cases hb : sltB b a with
  | false => rfl
  | true => have := lt_tr h hb; rw [lt_irr] at this; cases this
theorem lt_or {a b : ByteArray} (h : sltB a b = false) (hn : a ≠ b) : sltB b a = true := by
  rw [slt_data] at *
  rw [decide_eq_false_iff_not] at h
  rw [decide_eq_true_eq]
  have h1 : b.data.toList ≤ a.data.toList := h
  rcases List.le_iff_lt_or_eq.1 h1 with h2 | h2
  · exact h2
  · exact absurd (ByteArray.ext (Array.toList_inj.1 h2)).symm hn
def insF (f : T) : List T → List T
  | [] => [f]
  | x :: l => if sltB (nF x) (nF f) then x :: insF f l else if nF x = nF f then f :: l else f :: x :: l
theorem ins_mem {f x : T} : ∀ {F : List T}, Up F → x ∈ insF f F → x = f ∨ (x ∈ F ∧ nF x ≠ nF f)
  | [], _, h => .inl (by simpa [insF] using h)
  | y :: l, hu, h => by
    obtain ⟨h1, h2⟩ := List.pairwise_cons.1 hu
    unfold insF at h
    cases hy : sltB (nF y) (nF f) with
    | true =>
      rw [hy, if_pos rfl] at h
      rcases List.mem_cons.1 h with rfl | h
      · exact .inr ⟨List.mem_cons_self, lt_ne hy⟩
      · exact (ins_mem h2 h).imp id fun ⟨a, b⟩ => ⟨List.mem_cons_of_mem _ a, b⟩
    | false =>
      rw [hy, if_neg (by simp)] at h
      by_cases he : nF y = nF f
      · rw [if_pos he] at h
        rcases List.mem_cons.1 h with rfl | h
        · exact .inl rfl
        · exact .inr ⟨List.mem_cons_of_mem _ h, fun e => lt_ne (h1 x h) (by rw [he, e])⟩
      · rw [if_neg he] at h
        have hg : sltB (nF f) (nF y) = true := lt_or hy he
        rcases List.mem_cons.1 h with rfl | h
        · exact .inl rfl
        · rcases List.mem_cons.1 h with rfl | h
          · exact .inr ⟨List.mem_cons_self, he⟩
          · exact .inr ⟨List.mem_cons_of_mem _ h, fun e => lt_ne (lt_tr hg (h1 x h)) e.symm⟩
theorem ins_self (f : T) : ∀ F : List T, f ∈ insF f F
  | [] => List.mem_cons_self
  | y :: l => by
    unfold insF
    split
    · exact List.mem_cons_of_mem _ (ins_self f l)
    · split <;> exact List.mem_cons_self
theorem ins_up {f : T} : ∀ {F : List T}, Up F → Up (insF f F)
  | [], _ => List.pairwise_singleton _ _
  | y :: l, hu => by
    obtain ⟨h1, h2⟩ := List.pairwise_cons.1 hu
    unfold insF
    cases hy : sltB (nF y) (nF f) with
    | true =>
      rw [if_pos rfl]
      refine List.pairwise_cons.2 ⟨fun x hx => ?_, ins_up h2⟩
      rcases ins_mem h2 hx with rfl | ⟨h3, _⟩
      · exact hy
      · exact h1 x h3
    | false =>
      rw [if_neg (by simp)]
      by_cases he : nF y = nF f
      · rw [if_pos he]
        exact List.pairwise_cons.2 ⟨fun x hx => by rw [← he]; exact h1 x hx, h2⟩
      · rw [if_neg he]
        have hg : sltB (nF f) (nF y) = true := lt_or hy he
        refine List.pairwise_cons.2 ⟨fun x hx => ?_, hu⟩
        rcases List.mem_cons.1 hx with rfl | hx
        · exact hg
        · exact lt_tr hg (h1 x hx)
theorem ins_in {f : T} : ∀ {F : List T}, Up F → nF f ∈ F.map nF → (insF f F).map nF = F.map nF
  | [], _, h => by simp at h
  | y :: l, hu, h => by
    obtain ⟨h1, h2⟩ := List.pairwise_cons.1 hu
    unfold insF
    cases hy : sltB (nF y) (nF f) with
    | true =>
      rw [if_pos rfl]
      rw [List.map_cons] at h
      rcases List.mem_cons.1 h with h | h
      · exact absurd h.symm (lt_ne hy)
      · rw [List.map_cons, List.map_cons, ins_in h2 h]
    | false =>
      rw [if_neg (by simp)]
      by_cases he : nF y = nF f
      · rw [if_pos he, List.map_cons, List.map_cons, he]
      · rw [List.map_cons] at h
        rcases List.mem_cons.1 h with h | h
        · exact absurd h.symm he
        · obtain ⟨x, hx, e⟩ := List.mem_map.1 h
          have := h1 x hx
          rw [e, hy] at this; cases this
theorem ins_out {f : T} : ∀ {F : List T}, nF f ∉ F.map nF → ((insF f F).map nF).Perm (nF f :: F.map nF)
  | [], _ => List.Perm.refl _
  | y :: l, h => by
    rw [List.map_cons, List.mem_cons, not_or] at h
    unfold insF
    split
    · rw [List.map_cons, List.map_cons]
      exact ((ins_out h.2).cons _).trans (List.Perm.swap _ _ _)
    · rw [if_neg (fun e => h.1 e.symm)]
      exact List.Perm.refl _
def stepP (f : T) (s : Bool × List T) (x : T) : Bool × List T :=
  (s.1 || (sltB (nF f) (nF x) || seqB (nF f) (nF x)), s.2 ++ (if !s.1 && (sltB (nF f) (nF x) || seqB (nF f) (nF x)) then [f] else []) ++ (if seqB (nF x) (nF f) then [] else [x]))
theorem seq_is {a b : ByteArray} : seqB a b = true ↔ a = b := key_iff (.str a) (.str b)
theorem seq_no {a b : ByteArray} (h : a ≠ b) : seqB a b = false := by
  cases hs : seqB a b with
  | false => rfl
  | true => exact absurd (seq_is.1 hs) h
theorem step_in {f : T} : ∀ (F out : List T), (∀ x ∈ F, nF x ≠ nF f) → F.foldl (stepP f) (true, out) = (true, out ++ F)
  | [], out, _ => by simp
  | x :: l, out, h => by
    rw [List.foldl_cons]
    have e : stepP f (true, out) x = (true, out ++ [x]) := by
      unfold stepP
      rw [seq_no (h x List.mem_cons_self)]
      simp
    rw [e, step_in l _ fun y hy => h y (List.mem_cons_of_mem _ hy)]
    simp
theorem step_ins {f : T} : ∀ (F out : List T), Up F → (F.foldl (stepP f) (false, out)).2 ++ (if (F.foldl (stepP f) (false, out)).1 then [] else [f]) = out ++ insF f F
  | [], out, _ => by simp [insF]
  | x :: l, out, hu => by
    obtain ⟨h1, h2⟩ := List.pairwise_cons.1 hu
    rw [List.foldl_cons]
    unfold insF
    cases hy : sltB (nF x) (nF f) with
    | true =>
      have e : stepP f (false, out) x = (false, out ++ [x]) := by
        unfold stepP
        rw [seq_no (lt_ne hy), seq_no (lt_ne hy).symm, lt_no hy]
        simp
      rw [e, if_pos rfl, step_ins l _ h2]
      simp
    | false =>
      simp only [Bool.false_eq_true, if_false]
      by_cases he : nF x = nF f
      · have e : stepP f (false, out) x = (true, out ++ [f]) := by
          unfold stepP
          rw [seq_is.2 he, seq_is.2 he.symm]
          simp
        rw [e, if_pos he, step_in l _ fun y hy => by rw [← he]; exact (lt_ne (h1 y hy)).symm]
        simp
      · have hg : sltB (nF f) (nF x) = true := lt_or hy he
        have e : stepP f (false, out) x = (true, out ++ [f, x]) := by
          unfold stepP
          rw [seq_no he, hg]
          simp
        rw [e, if_neg he, step_in l _ fun y hy => (lt_ne (lt_tr hg (h1 y hy))).symm]
        simp

theorem hF_mem (fs : List T) (k : ByteArray) : hF fs k = true ↔ k ∈ fs.map ky := by
  unfold hF mhas
  rw [List.any_eq_true, List.mem_map]
  exact ⟨fun ⟨e, he, hk⟩ => ⟨e, he, ((key_iff _ _).1 hk).symm⟩, fun ⟨e, he, hk⟩ => ⟨e, he, (key_iff _ _).2 hk.symm⟩⟩
theorem put_in {k : ByteArray} {v : T} : ∀ {fs : List T}, k ∈ fs.map ky → (putF fs k v).map ky = fs.map ky
  | [], h => by simp at h
  | e :: es, h => by
    unfold putF
    simp only [mput]
    cases hk : keyS (.str k) (e.get 0) with
    | true =>
      have hke : k = ky e := (key_iff _ _).1 hk
      simp only [cond_true, List.map_cons]
      rw [← hke]; rfl
    | false =>
      simp only [cond_false, List.map_cons]
      rw [List.map_cons] at h
      rcases List.mem_cons.1 h with h | h
      · rw [show keyS (.str k) (e.get 0) = true from (key_iff _ _).2 h] at hk; cases hk
      · rw [show (mput keyS es (.str k) v).map ky = es.map ky from put_in h]
theorem put_out {k : ByteArray} {v : T} : ∀ {fs : List T}, k ∉ fs.map ky → (putF fs k v).map ky = fs.map ky ++ [k]
  | [], _ => rfl
  | e :: es, h => by
    rw [List.map_cons, List.mem_cons, not_or] at h
    unfold putF
    simp only [mput]
    have hk : keyS (.str k) (e.get 0) = false := by
      cases hq : keyS (.str k) (e.get 0) with
      | false => rfl
      | true => exact absurd ((key_iff _ _).1 hq) h.1
    rw [hk]
    simp only [cond_false, List.map_cons, List.cons_append]
    rw [show (mput keyS es (.str k) v).map ky = es.map ky ++ [k] from put_out h.2]
theorem del_keys (k : ByteArray) : ∀ {fs : List T}, (fs.map ky).Nodup → (delF fs k).map ky = (fs.map ky).filter fun s => !seqB s k
  | [], _ => rfl
  | e :: es, h => by
    rw [List.map_cons, List.nodup_cons] at h
    unfold delF
    simp only [mdel]
    cases hk : keyS (.str k) (e.get 0) with
    | true =>
      have hke : k = ky e := (key_iff _ _).1 hk
      simp only [cond_true, List.map_cons]
      rw [List.filter_cons_of_neg (by rw [seq_is.2 hke.symm]; simp)]
      refine (List.filter_eq_self.2 fun s hs => ?_).symm
      rw [seq_no fun e' => h.1 (by rw [← hke, ← e']; exact hs)]; rfl
    | false =>
      have hne : ky e ≠ k := fun e' => by rw [show keyS (.str k) (e.get 0) = true from (key_iff _ _).2 e'.symm] at hk; cases hk
      simp only [cond_false, List.map_cons]
      rw [List.filter_cons_of_pos (by rw [seq_no hne]; rfl), show (mdel keyS es (.str k)).map ky = _ from del_keys k h.2]
structure In (N : Nat) (fs F : List T) : Prop where
  up : Up F
  perm : (fs.map ky).Perm (F.map nF)
  val : ∀ x ∈ F, fT (gF fs (nF x)) = sF x ∧ fN (gF fs (nF x)) = uF x
  wf : Wf fs
  len : F.length ≤ N
  nam : ∀ x ∈ F, (nF x).size ≤ 100
theorem Up.nodup {F : List T} (h : Up F) : (F.map nF).Nodup := by
  unfold List.Nodup
  rw [List.pairwise_map]
  exact h.imp fun h => lt_ne h
theorem In.put {N : Nat} {fs F : List T} (h : In N fs F) {f v : T} (hs : (nF f).size ≤ 100) (h1 : fT v = sF f) (h2 : fN v = uF f) (hv : Fw v) : In (N + 1) (putF fs (nF f) v) (insF f F) := by
  have hlen : (insF f F).length ≤ F.length + 1 := by
    clear h
    induction F with
    | nil => exact Nat.le_refl _
    | cons y l ih =>
      unfold insF
      split
      · rw [List.length_cons, List.length_cons]; omega
      · split <;> simp
  refine ⟨ins_up h.up, ?_, fun x hx => ?_, h.wf.put hv, by have := h.len; omega, fun x hx => ?_⟩
  · by_cases hk : nF f ∈ F.map nF
    · rw [ins_in h.up hk, put_in (h.perm.mem_iff.2 hk)]
      exact h.perm
    · rw [put_out (fun h' => hk (h.perm.mem_iff.1 h'))]
      exact ((List.perm_append_singleton _ _).trans (h.perm.cons _)).trans (ins_out hk).symm
  · rcases ins_mem h.up hx with rfl | ⟨h3, h4⟩
    · rw [gF_put, if_pos rfl]; exact ⟨h1, h2⟩
    · rw [gF_put, if_neg h4]; exact h.val x h3
  · rcases ins_mem h.up hx with rfl | ⟨h3, _⟩
    · exact hs
    · exact h.nam x h3
def rmF (F : List T) (k : ByteArray) : List T := F.filter fun x => !seqB (nF x) k
theorem In.del {N : Nat} {fs F : List T} (h : In N fs F) (k : ByteArray) : In N (delF fs k) (rmF F k) := by
  have hnd : (fs.map ky).Nodup := (h.perm.nodup_iff).2 h.up.nodup
  have hkeys := del_keys k hnd
  refine ⟨h.up.sublist List.filter_sublist, ?_, fun x hx => ?_, fun s => ?_, Nat.le_trans (List.length_filter_le _ _) h.len, fun x hx => h.nam x (List.mem_filter.1 hx).1⟩
  · rw [hkeys]
    have e : (rmF F k).map nF = (F.map nF).filter fun s => !seqB s k := by
      unfold rmF
      rw [List.filter_map]
      rfl
    rw [e]
    exact h.perm.filter _
  · obtain ⟨h1, h2⟩ := List.mem_filter.1 hx
    rw [gF_del _ _ _ (fun e => by rw [seq_is.2 e] at h2; cases h2)]
    exact h.val x h1
  · by_cases e : s = k
    · subst e
      have hno : hF (delF fs s) s = false := by
        cases hq : hF (delF fs s) s with
        | false => rfl
        | true =>
          have := (hF_mem _ _).1 hq
          rw [hkeys, List.mem_filter] at this
          rw [seq_is.2 rfl] at this
          cases this.2
      rw [gF_no hno]
      exact f0_ok
    · rw [gF_del _ _ _ e]; exact h.wf s
theorem In.has {N : Nat} {fs F : List T} (h : In N fs F) (s : ByteArray) : hF fs s = F.any fun x => seqB (nF x) s := by
  cases hq : hF fs s with
  | true =>
    have := h.perm.mem_iff.1 ((hF_mem _ _).1 hq)
    obtain ⟨x, hx, e⟩ := List.mem_map.1 this
    exact (List.any_eq_true.2 ⟨x, hx, seq_is.2 e⟩).symm
  | false =>
    symm
    cases ha : F.any fun x => seqB (nF x) s with
    | false => rfl
    | true =>
      obtain ⟨x, hx, e⟩ := List.any_eq_true.1 ha
      have : hF fs s = true := (hF_mem _ _).2 (h.perm.mem_iff.2 (List.mem_map.2 ⟨x, hx, seq_is.1 e⟩))
      rw [hq] at this; cases this
theorem In.ok {N : Nat} {fs F : List T} (h : In N fs F) (hN : N ≤ 1000000) : keysOk fs = true := by
  have hl : fs.length = F.length := by have := h.perm.length_eq; simpa using this
  have := h.len
  unfold keysOk
  rw [Bool.and_eq_true, List.all_eq_true]
  refine ⟨Nat.ble_eq_true_of_le (by omega), fun e he => Nat.ble_eq_true_of_le ?_⟩
  have hm : ky e ∈ F.map nF := h.perm.mem_iff.1 (List.mem_map.2 ⟨e, he, rfl⟩)
  obtain ⟨x, hx, ex⟩ := List.mem_map.1 hm
  have := h.nam x hx
  rw [ex] at this
  show (ky e).size ≤ 1048576
  omega
theorem In.keys {N : Nat} {fs F : List T} (h : In N fs F) : keysS fs = F.map fun x => T.str (nF x) := by
  have e : keysB fs = F.map nF := by
    refine List.Perm.eq_of_pairwise (le := fun a b : ByteArray => a.data.toList ≤ b.data.toList) (fun a b _ _ h1 h2 => ByteArray.ext (Array.toList_inj.1 (List.le_antisymm h1 h2))) (keysB_rise fs) ?_ ((keysB_perm fs).trans h.perm)
    rw [List.pairwise_map]
    refine h.up.imp fun hab => ?_
    rw [slt_data, decide_eq_true_eq] at hab
    exact List.le_of_lt hab
  unfold keysS
  rw [e, List.map_map]
  rfl
theorem In.nil : In 0 [] [] := ⟨List.Pairwise.nil, List.Perm.refl _, fun x hx => (by cases hx), fun s => f0_ok, Nat.le_refl _, fun x hx => (by cases hx)⟩
theorem In.mono {N M : Nat} {fs F : List T} (h : In N fs F) (hm : N ≤ M) : In M fs F := ⟨h.up, h.perm, h.val, h.wf, Nat.le_trans h.len hm, h.nam⟩

def wkF (x : T) (k : Int) : T := .node [.str (nF x), .str (cutT (fil (sF x) (uF x)) k), .int ((cutT (fil (sF x) (uF x)) k).size : Nat)]
def wakeD (keeps : List T) : Nat → List T → List T
  | _, [] => []
  | i, x :: l => wkF x (kpN keeps i) :: wakeD keeps (i + 1) l
theorem wakeD_names (keeps : List T) : ∀ (F : List T) (i : Nat), (wakeD keeps i F).map nF = F.map nF
  | [], _ => rfl
  | x :: l, i => by rw [wakeD, List.map_cons, List.map_cons, wakeD_names keeps l]; rfl
theorem wakeD_len (keeps : List T) : ∀ (F : List T) (i : Nat), (wakeD keeps i F).length = F.length
  | [], _ => rfl
  | x :: l, i => by rw [wakeD, List.length_cons, List.length_cons, wakeD_len keeps l]
theorem wake_all (keeps : List T) : ∀ (G : List T) (i : Nat) (fs : List T), Up G → Wf fs → (∀ x ∈ G, nF x ∈ fs.map ky) → (∀ x ∈ G, fT (gF fs (nF x)) = sF x ∧ fN (gF fs (nF x)) = uF x) →
    (wakeL keeps i (G.map fun x => T.str (nF x)) fs).map ky = fs.map ky ∧ Wf (wakeL keeps i (G.map fun x => T.str (nF x)) fs) ∧
    (∀ y ∈ wakeD keeps i G, fT (gF (wakeL keeps i (G.map fun x => T.str (nF x)) fs) (nF y)) = sF y ∧ fN (gF (wakeL keeps i (G.map fun x => T.str (nF x)) fs) (nF y)) = uF y) ∧
    (∀ s, (∀ x ∈ G, nF x ≠ s) → gF (wakeL keeps i (G.map fun x => T.str (nF x)) fs) s = gF fs s)
  | [], i, fs, _, hw, _, _ => ⟨rfl, hw, fun y hy => (by cases hy), fun _ _ => rfl⟩
  | x :: l, i, fs, hu, hw, hk, hv => by
    obtain ⟨h1, h2⟩ := List.pairwise_cons.1 hu
    obtain ⟨v1, v2⟩ := hv x List.mem_cons_self
    have hfil : cutF (gF fs (nF x)) (kpN keeps i) = cutF (fil (sF x) (uF x)) (kpN keeps i) := by
      unfold cutF cutT stayF
      rw [v1, v2, fT_fil, fN_fil]
    have hkx := put_in (v := cutF (gF fs (nF x)) (kpN keeps i)) (hk x List.mem_cons_self)
    obtain ⟨a1, a2, a3, a4⟩ := wake_all keeps l (i + 1) (putF fs (nF x) (cutF (gF fs (nF x)) (kpN keeps i))) h2 (hw.put (cutF_ok (hw _) _)) (fun y hy => by rw [hkx]; exact hk y (List.mem_cons_of_mem _ hy))
      (fun y hy => by rw [gF_put, if_neg (lt_ne (h1 y hy)).symm]; exact hv y (List.mem_cons_of_mem _ hy))
    have e : wakeL keeps i ((x :: l).map fun x => T.str (nF x)) fs = wakeL keeps (i + 1) (l.map fun x => T.str (nF x)) (putF fs (nF x) (cutF (gF fs (nF x)) (kpN keeps i))) := rfl
    rw [e]
    refine ⟨a1.trans hkx, a2, fun y hy => ?_, fun s hs => ?_⟩
    · rw [wakeD] at hy
      rcases List.mem_cons.1 hy with rfl | hy
      · have hn : nF (wkF x (kpN keeps i)) = nF x := rfl
        rw [hn, a4 _ (fun z hz => (lt_ne (h1 z hz)).symm), gF_put, if_pos rfl, hfil]
        exact ⟨rfl, rfl⟩
      · exact a3 y hy
    · rw [a4 s (fun z hz => hs z (List.mem_cons_of_mem _ hz)), gF_put, if_neg fun e => hs x List.mem_cons_self e.symm]
theorem In.wake {N : Nat} {fs F : List T} (h : In N fs F) (keeps : List T) : In N (wakeL keeps 0 (keysS fs) fs) (wakeD keeps 0 F) := by
  obtain ⟨a1, a2, a3, _⟩ := wake_all keeps F 0 fs h.up h.wf (fun x hx => h.perm.mem_iff.2 (List.mem_map.2 ⟨x, hx, rfl⟩)) h.val
  rw [h.keys]
  have hn := wakeD_names keeps F 0
  refine ⟨?_, by rw [a1, hn]; exact h.perm, a3, a2, by rw [wakeD_len]; exact h.len, fun y hy => ?_⟩
  · have : ((wakeD keeps 0 F).map nF).Pairwise (fun a b => sltB a b = true) := by rw [hn, List.pairwise_map]; exact h.up
    rw [List.pairwise_map] at this
    exact this
  · have : nF y ∈ F.map nF := by rw [← hn]; exact List.mem_map.2 ⟨y, hy, rfl⟩
    obtain ⟨x, hx, e⟩ := List.mem_map.1 this
    rw [← e]; exact h.nam x hx

def rnE (d : Dk) (a b : ByteArray) : Int := if d.dn then 8 else if nameB b then (if hF d.fs a then (if cutB d then 8 else 0) else 5) else 1
def rnD (d : Dk) (a b : ByteArray) : Dk := if d.dn then d else if nameB b then (if hF d.fs a then (if cutB d then dCut d else { dCut d with fs := putF (delF d.fs a) b (gF d.fs a) }) else d) else d
def rmD (d : Dk) (s : ByteArray) : Dk := if rdE d s = 0 then (if cutB d then dCut d else { dCut d with fs := delF d.fs s }) else d
def ldE (to s : ByteArray) : Int := if nameB to then (if 4194304 < s.size then 4 else 0) else 1
def ldD (d : Dk) (to s : ByteArray) : Dk := if nameB to then (if 4194304 < s.size then d else { d with fs := putF d.fs to (fil s (s.size : Nat)) }) else d
end Go.Proofs.YtbejhhoakeapgaaGO
namespace Go.Proofs.YtbejhhoakeapgaaGO
open Go Go.Proofs.YtbejhhoakeapgaaVM
set_option linter.unusedVariables false
set_option linter.unusedSimpArgs false
set_option maxRecDepth 100000

def tl (l : List ByteArray) : List T := l.map T.str
def Ri (l : List ByteArray) : Prop := l.Pairwise fun a b => sltB a b = true
def insT (s : ByteArray) : List ByteArray → List ByteArray
  | [] => [s]
  | y :: l => if sltB y s then y :: insT s l else if y = s then y :: l else s :: y :: l
theorem mem_insT {s x : ByteArray} : ∀ {l : List ByteArray}, x ∈ insT s l ↔ x = s ∨ x ∈ l
  | [] => by simp [insT]
  | y :: l => by
    unfold insT
    split
    · rw [List.mem_cons, List.mem_cons, mem_insT]
      exact ⟨fun h => h.elim (fun h => .inr (.inl h)) (fun h => h.elim .inl (fun h => .inr (.inr h))), fun h => h.elim (fun h => .inr (.inl h)) (fun h => h.elim .inl (fun h => .inr (.inr h)))⟩
    · split
      · rename_i e
        subst e
        rw [List.mem_cons]
        exact ⟨fun h => .inr h, fun h => h.elim (fun h => .inl h) (fun h => h)⟩
      · rw [List.mem_cons]
theorem insT_rise {s : ByteArray} : ∀ {l : List ByteArray}, Ri l → Ri (insT s l)
  | [], _ => List.pairwise_singleton _ _
  | y :: l, h => by
    obtain ⟨h1, h2⟩ := List.pairwise_cons.1 h
    unfold insT
    cases hy : sltB y s with
    | true =>
      rw [if_pos rfl]
      refine List.pairwise_cons.2 ⟨fun x hx => ?_, insT_rise h2⟩
      rcases mem_insT.1 hx with rfl | hx
      · exact hy
      · exact h1 x hx
    | false =>
      simp only [Bool.false_eq_true, if_false]
      by_cases e : y = s
      · rw [if_pos e]; exact h
      · rw [if_neg e]
        have hg := lt_or hy e
        refine List.pairwise_cons.2 ⟨fun x hx => ?_, h⟩
        rcases List.mem_cons.1 hx with rfl | hx
        · exact hg
        · exact lt_tr hg (h1 x hx)
theorem insT_len (s : ByteArray) : ∀ l : List ByteArray, (insT s l).length ≤ l.length + 1
  | [] => Nat.le_refl _
  | y :: l => by
    unfold insT
    split
    · have := insT_len s l; simp only [List.length_cons]; omega
    · split <;> simp
theorem Ri.nodup {l : List ByteArray} (h : Ri l) : l.Nodup := by
  unfold List.Nodup
  exact h.imp fun h => lt_ne h
theorem Ri.ext {a b : List ByteArray} (ha : Ri a) (hb : Ri b) (h : ∀ x, x ∈ a ↔ x ∈ b) : a = b := by
  have hp : a.Perm b := (List.perm_ext_iff_of_nodup ha.nodup hb.nodup).2 h
  have hp2 : (a.map fun s => s.data.toList) = (b.map fun s => s.data.toList) := by
    refine List.Perm.eq_of_pairwise (le := fun x y : List UInt8 => x ≤ y) (fun x y _ _ h1 h2 => List.le_antisymm h1 h2) ?_ ?_ (hp.map _)
    · rw [List.pairwise_map]
      refine ha.imp fun hab => ?_
      rw [slt_data, decide_eq_true_eq] at hab
      exact List.le_of_lt hab
    · rw [List.pairwise_map]
      refine hb.imp fun hab => ?_
      rw [slt_data, decide_eq_true_eq] at hab
      exact List.le_of_lt hab
  exact List.map_inj_right (fun x y e => ByteArray.ext (Array.toList_inj.1 e)) |>.1 hp2
theorem insT_has {s : ByteArray} {l : List ByteArray} (h : Ri l) (hs : s ∈ l) : insT s l = l :=
  Ri.ext (insT_rise h) h fun x => by rw [mem_insT]; exact ⟨fun h => h.elim (fun e => e ▸ hs) id, .inr⟩
def pos (s : ByteArray) : List ByteArray → Nat
  | [] => 0
  | y :: l => if sltB y s then pos s l + 1 else 0
theorem pos_le (s : ByteArray) : ∀ l : List ByteArray, pos s l ≤ l.length
  | [] => Nat.le_refl _
  | y :: l => by unfold pos; split; · have := pos_le s l; simp only [List.length_cons]; omega
                 · exact Nat.zero_le _
theorem pos_lt {s : ByteArray} : ∀ {l : List ByteArray}, Ri l → ∀ (j : Nat) (hj : j < l.length), (sltB l[j] s = true ↔ j < pos s l)
  | [], _, j, hj => by simp at hj
  | y :: l, h, j, hj => by
    obtain ⟨h1, h2⟩ := List.pairwise_cons.1 h
    unfold pos
    cases hy : sltB y s with
    | true =>
      rw [if_pos rfl]
      cases j with
      | zero => simp [hy]
      | succ j =>
        have := pos_lt (s := s) h2 j (by simpa using hj)
        rw [List.getElem_cons_succ, this]
        omega
    | false =>
      simp only [Bool.false_eq_true, if_false]
      refine ⟨fun hl => ?_, fun hl => by omega⟩
      cases j with
      | zero => rw [List.getElem_cons_zero, hy] at hl; cases hl
      | succ j =>
        rw [List.getElem_cons_succ] at hl
        have := lt_tr (h1 _ (List.getElem_mem (by simpa using hj))) hl
        rw [hy] at this; cases this
theorem pos_mem {s : ByteArray} : ∀ {l : List ByteArray}, Ri l → (s ∈ l ↔ l[pos s l]? = some s)
  | [], _ => by simp
  | y :: l, h => by
    obtain ⟨h1, h2⟩ := List.pairwise_cons.1 h
    unfold pos
    cases hy : sltB y s with
    | true =>
      rw [if_pos rfl, List.getElem?_cons_succ, ← pos_mem h2, List.mem_cons]
      exact ⟨fun h => h.resolve_left fun e => lt_ne hy e.symm, .inr⟩
    | false =>
      simp only [Bool.false_eq_true, if_false, List.getElem?_cons_zero, Option.some.injEq, List.mem_cons]
      refine ⟨fun h => h.elim Eq.symm fun hs => ?_, fun e => .inl e.symm⟩
      have := h1 s hs
      rw [hy] at this; cases this
theorem pos_ins {s : ByteArray} : ∀ {l : List ByteArray}, s ∉ l → insT s l = l.take (pos s l) ++ [s] ++ l.drop (pos s l)
  | [], _ => rfl
  | y :: l, h => by
    rw [List.mem_cons, not_or] at h
    unfold insT pos
    split
    · rw [pos_ins h.2]; simp
    · rw [if_neg fun e => h.1 e.symm]; simp
theorem insL_tl {s : ByteArray} {l : List ByteArray} (h : s ∉ l) : insL ((pos s l : Nat) : Int) (tl l) [T.str s] = tl (insT s l) := by
  unfold insL tl
  rw [pos_ins h, Int.toNat_natCast]
  simp [List.map_take, List.map_drop]

def ptsOf (l : List ByteArray) (L : List (ByteArray × ByteArray)) : List ByteArray := L.foldl (fun a x => insT x.2 (insT x.1 a)) (l.foldl (fun a s => insT s a) [])
def toOf (L : List (ByteArray × ByteArray)) (k : ByteArray) : List ByteArray := L.foldl (fun a x => if x.1 = k then insT x.2 a else a) []
theorem fold_rise : ∀ (l a : List ByteArray), Ri a → Ri (l.foldl (fun a s => insT s a) a)
  | [], _, h => h
  | s :: l, a, h => fold_rise l _ (insT_rise h)
theorem mem_fold {x : ByteArray} : ∀ (l a : List ByteArray), x ∈ l.foldl (fun a s => insT s a) a ↔ x ∈ a ∨ x ∈ l
  | [], a => by simp
  | s :: l, a => by
    rw [List.foldl_cons, mem_fold l, mem_insT, List.mem_cons]
    exact ⟨fun h => h.elim (fun h => h.elim (fun h => .inr (.inl h)) .inl) (fun h => .inr (.inr h)), fun h => h.elim (fun h => .inl (.inr h)) (fun h => h.elim (fun h => .inl (.inl h)) .inr)⟩
theorem foldL_rise : ∀ (L : List (ByteArray × ByteArray)) (a : List ByteArray), Ri a → Ri (L.foldl (fun a x => insT x.2 (insT x.1 a)) a)
  | [], _, h => h
  | s :: l, a, h => foldL_rise l _ (insT_rise (insT_rise h))
theorem mem_foldL {x : ByteArray} : ∀ (L : List (ByteArray × ByteArray)) (a : List ByteArray), x ∈ L.foldl (fun a x => insT x.2 (insT x.1 a)) a ↔ x ∈ a ∨ ∃ y ∈ L, x = y.1 ∨ x = y.2
  | [], a => by simp
  | s :: l, a => by
    rw [List.foldl_cons, mem_foldL l, mem_insT, mem_insT]
    constructor
    · rintro ((h | h | h) | ⟨y, hy, h⟩)
      · exact .inr ⟨s, List.mem_cons_self, .inr h⟩
      · exact .inr ⟨s, List.mem_cons_self, .inl h⟩
      · exact .inl h
      · exact .inr ⟨y, List.mem_cons_of_mem _ hy, h⟩
    · rintro (h | ⟨y, hy, h⟩)
      · exact .inl (.inr (.inr h))
      · rcases List.mem_cons.1 hy with rfl | hy
        · exact h.elim (fun h => .inl (.inr (.inl h))) (fun h => .inl (.inl h))
        · exact .inr ⟨y, hy, h⟩
theorem pts_rise (l : List ByteArray) (L : List (ByteArray × ByteArray)) : Ri (ptsOf l L) := foldL_rise L _ (fold_rise l [] List.Pairwise.nil)
theorem mem_pts {x : ByteArray} {l : List ByteArray} {L : List (ByteArray × ByteArray)} : x ∈ ptsOf l L ↔ x ∈ l ∨ ∃ y ∈ L, x = y.1 ∨ x = y.2 := by
  unfold ptsOf
  rw [mem_foldL, mem_fold]
  simp
theorem foldT_rise (k : ByteArray) : ∀ (L : List (ByteArray × ByteArray)) (a : List ByteArray), Ri a → Ri (L.foldl (fun a x => if x.1 = k then insT x.2 a else a) a)
  | [], _, h => h
  | s :: l, a, h => by
    rw [List.foldl_cons]
    refine foldT_rise k l _ ?_
    split
    · exact insT_rise h
    · exact h
theorem mem_foldT {x k : ByteArray} : ∀ (L : List (ByteArray × ByteArray)) (a : List ByteArray), x ∈ L.foldl (fun a x => if x.1 = k then insT x.2 a else a) a ↔ x ∈ a ∨ (k, x) ∈ L
  | [], a => by simp
  | (u, v) :: l, a => by
    rw [List.foldl_cons, mem_foldT l, List.mem_cons, Prod.mk.injEq]
    by_cases e : u = k
    · rw [if_pos e, mem_insT]
      exact ⟨fun h => h.elim (fun h => h.elim (fun h => .inr (.inl ⟨e.symm, h⟩)) .inl) (fun h => .inr (.inr h)), fun h => h.elim (fun h => .inl (.inr h)) (fun h => h.elim (fun h => .inl (.inl h.2)) .inr)⟩
    · rw [if_neg e]
      exact ⟨fun h => h.imp id .inr, fun h => h.imp id fun h => h.resolve_left fun h => e h.1.symm⟩
theorem to_rise (L : List (ByteArray × ByteArray)) (k : ByteArray) : Ri (toOf L k) := foldT_rise k L [] List.Pairwise.nil
theorem mem_to {x k : ByteArray} {L : List (ByteArray × ByteArray)} : x ∈ toOf L k ↔ (k, x) ∈ L := by
  unfold toOf
  rw [mem_foldT]
  simp
theorem foldT_len (k : ByteArray) : ∀ (L : List (ByteArray × ByteArray)) (a : List ByteArray), (L.foldl (fun a x => if x.1 = k then insT x.2 a else a) a).length ≤ a.length + L.length
  | [], a => Nat.le_refl _
  | s :: l, a => by
    rw [List.foldl_cons]
    have h1 := foldT_len k l (if s.1 = k then insT s.2 a else a)
    have h2 : (if s.1 = k then insT s.2 a else a).length ≤ a.length + 1 := by
      split
      · exact insT_len _ _
      · omega
    simp only [List.length_cons]
    omega
theorem to_len (L : List (ByteArray × ByteArray)) (k : ByteArray) : (toOf L k).length ≤ L.length := by have := foldT_len k L []; rw [List.length_nil, Nat.zero_add] at this; exact this
theorem fold_len : ∀ (l a : List ByteArray), (l.foldl (fun a s => insT s a) a).length ≤ a.length + l.length
  | [], a => Nat.le_refl _
  | s :: l, a => by
    rw [List.foldl_cons]
    have h1 := fold_len l (insT s a)
    have h2 := insT_len s a
    simp only [List.length_cons]
    omega
theorem foldL_len : ∀ (L : List (ByteArray × ByteArray)) (a : List ByteArray), (L.foldl (fun a x => insT x.2 (insT x.1 a)) a).length ≤ a.length + 2 * L.length
  | [], a => Nat.le_refl _
  | s :: l, a => by
    rw [List.foldl_cons]
    have h1 := foldL_len l (insT s.2 (insT s.1 a))
    have h2 := insT_len s.2 (insT s.1 a)
    have h3 := insT_len s.1 a
    simp only [List.length_cons]
    omega
theorem pts_len (l : List ByteArray) (L : List (ByteArray × ByteArray)) : (ptsOf l L).length ≤ l.length + 2 * L.length := by
  have h1 := foldL_len L (l.foldl (fun a s => insT s a) [])
  have h2 := fold_len l []
  unfold ptsOf
  simp only [List.length_nil] at h2
  omega
def swp (L : List (ByteArray × ByteArray)) : List (ByteArray × ByteArray) := L.map fun x => (x.2, x.1)
theorem mem_swp {a b : ByteArray} {L : List (ByteArray × ByteArray)} : (a, b) ∈ swp L ↔ (b, a) ∈ L := by
  unfold swp
  rw [List.mem_map]
  exact ⟨fun ⟨x, hx, e⟩ => by cases e; exact hx, fun h => ⟨_, h, rfl⟩⟩
theorem tl_len (l : List ByteArray) : (tl l).length = l.length := by unfold tl; rw [List.length_map]
theorem tl_get {l : List ByteArray} {j : Nat} (h : j < l.length) : tAtD (tl l) j = T.str l[j] := by
  rw [at_get (by rw [tl_len]; exact h)]
  unfold tl
  simp
theorem tl_app (a b : List ByteArray) : tl (a ++ b) = tl a ++ tl b := by unfold tl; simp

def gZ (z : T) (fs : List T) (s : ByteArray) : T := mget keyS z fs (.str s)
theorem gZ_put (z : T) (fs : List T) (k s : ByteArray) (v : T) : gZ z (putF fs k v) s = if s = k then v else gZ z fs s := by
  unfold gZ putF
  induction fs with
  | nil =>
    show mget keyS z [.node [.str k, v]] (.str s) = _
    simp only [mget]
    by_cases h : s = k
    · subst h
      rw [show keyS (.str s) ((T.node [.str s, v]).get 0) = true from key_self s, if_pos rfl]
      rfl
    · have : keyS (.str s) ((T.node [.str k, v]).get 0) = false := by
        cases hq : keyS (.str s) ((T.node [.str k, v]).get 0) with
        | false => rfl
        | true => exact absurd ((key_iff _ _).1 hq) h
      rw [this, if_neg h]
      rfl
  | cons e es ih =>
    simp only [mput]
    cases hk : keyS (.str k) (e.get 0) with
    | true =>
      have hke : k = (e.get 0).txt := (key_iff _ _).1 hk
      simp only [cond_true, mget]
      by_cases h : s = k
      · subst h
        rw [show keyS (.str s) ((T.node [.str s, v]).get 0) = true from key_self s, if_pos rfl]
        rfl
      · have h1 : keyS (.str s) ((T.node [.str k, v]).get 0) = false := by
          cases hq : keyS (.str s) ((T.node [.str k, v]).get 0) with
          | false => rfl
          | true => exact absurd ((key_iff _ _).1 hq) h
        have h2 : keyS (.str s) (e.get 0) = false := by
          cases hq : keyS (.str s) (e.get 0) with
          | false => rfl
          | true => exact absurd (((key_iff _ _).1 hq).trans hke.symm) h
        rw [h1, h2, if_neg h]
        rfl
    | false =>
      simp only [cond_false, mget]
      cases hs : keyS (.str s) (e.get 0) with
      | true =>
        have hne : ¬ s = k := fun h => by subst h; rw [hs] at hk; cases hk
        rw [if_neg hne]
        rfl
      | false => simp only [cond_false]; exact ih
theorem gZ_del (z : T) (fs : List T) (k s : ByteArray) (h : s ≠ k) : gZ z (delF fs k) s = gZ z fs s := by
  unfold gZ delF
  induction fs with
  | nil => rfl
  | cons e es ih =>
    simp only [mdel]
    cases hk : keyS (.str k) (e.get 0) with
    | true =>
      have hke : k = (e.get 0).txt := (key_iff _ _).1 hk
      have h2 : keyS (.str s) (e.get 0) = false := by
        cases hq : keyS (.str s) (e.get 0) with
        | false => rfl
        | true => exact absurd (((key_iff _ _).1 hq).trans hke.symm) h
      simp only [cond_true, mget, h2, cond_false]
    | false =>
      simp only [cond_false, mget]
      cases hs : keyS (.str s) (e.get 0)
      · simp only [cond_false]; exact ih
      · rfl
theorem gZ_no {z : T} {fs : List T} {s : ByteArray} (h : hF fs s = false) : gZ z fs s = z := by
  unfold hF mhas at h
  unfold gZ
  induction fs with
  | nil => rfl
  | cons e es ih =>
    rw [List.any_cons, Bool.or_eq_false_iff] at h
    simp only [mget, h.1, cond_false]
    exact ih h.2
theorem keys_of {fs : List T} {p : List ByteArray} (hp : (fs.map ky).Perm p) (hr : Ri p) : keysS fs = tl p := by
  have e : keysB fs = p := by
    refine List.Perm.eq_of_pairwise (le := fun a b : ByteArray => a.data.toList ≤ b.data.toList) (fun a b _ _ h1 h2 => ByteArray.ext (Array.toList_inj.1 (List.le_antisymm h1 h2))) (keysB_rise fs) ?_ ((keysB_perm fs).trans hp)
    refine hr.imp fun hab => ?_
    rw [slt_data, decide_eq_true_eq] at hab
    exact List.le_of_lt hab
  unfold keysS
  rw [e]
  rfl
theorem keysOk_of {fs : List T} {p : List ByteArray} (hp : (fs.map ky).Perm p) (hl : p.length ≤ 1000000) (hs : ∀ x ∈ p, x.size ≤ 1000000) : keysOk fs = true := by
  have h1 : fs.length = p.length := by have := hp.length_eq; simpa using this
  unfold keysOk
  rw [Bool.and_eq_true, List.all_eq_true]
  refine ⟨Nat.ble_eq_true_of_le (by omega), fun e he => Nat.ble_eq_true_of_le ?_⟩
  have hm : ky e ∈ p := hp.mem_iff.1 (List.mem_map.2 ⟨e, he, rfl⟩)
  have := hs _ hm
  show (ky e).size ≤ 1048576
  omega
end Go.Proofs.YtbejhhoakeapgaaGO
namespace Go.Proofs.YtbejhhoakeapgaaGO
open Go Go.Proofs.YtbejhhoakeapgaaVM
set_option linter.unusedVariables false
set_option linter.unusedSimpArgs false
set_option maxRecDepth 100000

theorem txt_s (s : ByteArray) : (T.str s).txt = s := id rfl
def hasB (s : ByteArray) (l : List ByteArray) : Bool := l.any fun x => seqB x s
theorem hasB_iff {s : ByteArray} {l : List ByteArray} : hasB s l = true ↔ s ∈ l := by
  unfold hasB
  rw [List.any_eq_true]
  exact ⟨fun ⟨x, hx, e⟩ => seq_is.1 e ▸ hx, fun h => ⟨s, h, seq_is.2 rfl⟩⟩
theorem hasB_no {s : ByteArray} {l : List ByteArray} (h : s ∉ l) : hasB s l = false := by
  cases hb : hasB s l with
  | false => rfl
  | true => exact absurd (hasB_iff.1 hb) h
theorem hasB_cons (s x : ByteArray) (l : List ByteArray) : hasB s (x :: l) = (seqB x s || hasB s l) := rfl
theorem rhas_loop (l : List ByteArray) (s : ByteArray) (hl : l.length ≤ 1000000) : ∀ (k j : Nat), j + k = l.length →
    Dz i_R17_Has (some p_R17_Has_c1) [A.t (T.node (tl l)), A.t (T.str s), A.t (T.int j)] (if hasB s (l.drop j) then (1, [A.t (T.bool true)]) else (2, [])) := by
  intro k
  induction k with
  | zero =>
    intro j hj
    refine Does.now fun m => ?_
    rw [q_R17_Has_c1, List.drop_of_length_le (by omega)]
    simp only [S0, S9, S1, S2, if_true, if_false, tl_len]
    rw [if_neg (by omega)]
    rfl
  | succ k ih =>
    intro j hj
    have hlt : j < l.length := by omega
    have hw : IntKind.i64.wrap ((j : Int) + 1) = ((j + 1 : Nat) : Int) := i64succ (by omega)
    obtain ⟨n0, h0⟩ := ih (j + 1) (by omega)
    refine Does.of n0 fun m hm => ?_
    have q := h0 m hm
    rw [q_R17_Has_c1, List.drop_eq_getElem_cons hlt, hasB_cons]
    simp only [S0, S9, S1, S2, if_true, if_false, tl_len, tl_get hlt, txt_s, hw]
    rw [if_pos (by omega), if_pos (by omega)]
    cases seqB l[j] s
    · simp only [Bool.false_eq_true, if_false, false_or]; exact q
    · simp only [if_true, true_or]
theorem rhas_does (l : List ByteArray) (s : ByteArray) (hl : l.length ≤ 1000000) : Dz i_R17_Has none [A.t (T.node (tl l)), A.t (T.str s)] (1, [A.t (T.bool (hasB s l))]) := by
  obtain ⟨n0, h0⟩ := rhas_loop l s hl l.length 0 (by omega)
  rw [List.drop_zero] at h0
  refine Does.of n0 fun m hm => ?_
  have q : den Try.prog G0 ents m i_R17_Has (some p_R17_Has_c1) [A.t (T.node (tl l)), A.t (T.str s), A.t (T.int 0)] = _ := h0 m hm
  rw [q_R17_Has]
  simp only [S0, S9, S1, S2, if_true, if_false, q]
  cases hasB s l <;> rfl
def putR (s : ByteArray) (a : Bool × List ByteArray) (x : ByteArray) : Bool × List ByteArray := (a.1 || sltB s x, a.2 ++ (if !a.1 && sltB s x then [s] else []) ++ [x])
theorem putR_in {s : ByteArray} : ∀ (l out : List ByteArray), l.foldl (putR s) (true, out) = (true, out ++ l)
  | [], out => by simp
  | x :: l, out => by
    rw [List.foldl_cons]
    have e : putR s (true, out) x = (true, out ++ [x]) := by unfold putR; simp
    rw [e, putR_in l]
    simp
theorem putR_ins {s : ByteArray} : ∀ (l out : List ByteArray), Ri l → s ∉ l → (l.foldl (putR s) (false, out)).2 ++ (if (l.foldl (putR s) (false, out)).1 then [] else [s]) = out ++ insT s l
  | [], out, _, _ => by simp [insT]
  | x :: l, out, h, hn => by
    obtain ⟨h1, h2⟩ := List.pairwise_cons.1 h
    rw [List.mem_cons, not_or] at hn
    rw [List.foldl_cons]
    unfold insT
    cases hx : sltB x s with
    | true =>
      have e : putR s (false, out) x = (false, out ++ [x]) := by unfold putR; rw [lt_no hx]; simp
      rw [e, if_pos rfl, putR_ins l _ h2 hn.2]
      simp
    | false =>
      have hg := lt_or hx fun e => hn.1 e.symm
      have e : putR s (false, out) x = (true, out ++ [s, x]) := by unfold putR; rw [hg]; simp
      rw [e, putR_in]
      simp only [Bool.false_eq_true, if_false, if_true, List.append_nil]
      rw [if_neg fun e => hn.1 e.symm]
      simp
theorem putR_len {s : ByteArray} : ∀ (l : List ByteArray) (a : Bool × List ByteArray), (l.foldl (putR s) a).2.length ≤ a.2.length + 2 * l.length
  | [], a => Nat.le_refl _
  | x :: l, a => by
    rw [List.foldl_cons]
    have h1 := putR_len (s := s) l (putR s a x)
    have h2 : (putR s a x).2.length ≤ a.2.length + 2 := by
      unfold putR
      simp only [List.length_append, List.length_singleton]
      have : (if (!a.1 && sltB s x) = true then [s] else []).length ≤ 1 := by split <;> simp
      omega
    simp only [List.length_cons]
    omega
theorem rput17_loop (l : List ByteArray) (s : ByteArray) (hl : l.length ≤ 1000000) : ∀ (k j : Nat) (b : Bool) (out : List ByteArray), j + k = l.length → out.length ≤ 2 * j →
    Dz i_R17_Put (some p_R17_Put_c1) [A.t (T.node (tl l)), A.t (T.str s), A.t (T.bool b), A.t (T.int j), A.t (T.node (tl out))] (2, [A.t (T.str s), A.t (T.bool ((l.drop j).foldl (putR s) (b, out)).1), A.t (T.node (tl ((l.drop j).foldl (putR s) (b, out)).2))]) := by
  intro k
  induction k with
  | zero =>
    intro j b out hj ho
    refine Does.now fun m => ?_
    rw [q_R17_Put_c1, List.drop_of_length_le (by omega)]
    simp only [S0, S9, S1, S2, if_true, if_false, tl_len, List.foldl_nil]
    rw [if_neg (by omega)]
  | succ k ih =>
    intro j b out hj ho
    have hlt : j < l.length := by omega
    have hw : IntKind.i64.wrap ((j : Int) + 1) = ((j + 1 : Nat) : Int) := i64succ (by omega)
    have hlen := putR_len (s := s) [l[j]] (b, out)
    obtain ⟨n0, h0⟩ := ih (j + 1) (putR s (b, out) l[j]).1 (putR s (b, out) l[j]).2 (by omega) (by simp only [List.foldl_cons, List.foldl_nil, List.length_singleton] at hlen; omega)
    refine Does.of n0 fun m hm => ?_
    have q := h0 m hm
    have hs1 : Nat.succ out.length < 1073741824 := by show _ + 1 < _; omega
    have hs2 : Nat.succ (tl out ++ [T.str s]).length < 1073741824 := by rw [List.length_append, tl_len]; show _ + 1 + 1 < _; omega
    rw [q_R17_Put_c1, List.drop_eq_getElem_cons hlt, List.foldl_cons]
    simp only [S0, S9, S1, S2, if_true, if_false, tl_len, tl_get hlt, txt_s, hw, hs1, hs2]
    have e : putR s (b, out) l[j] = ((putR s (b, out) l[j]).1, (putR s (b, out) l[j]).2) := rfl
    rw [e]
    refine Eq.trans ?_ q
    unfold putR
    rw [if_pos (by omega)]
    have hib : (0 : Int) ≤ (j : Int) ∧ (j : Int) < ((l.length : Nat) : Int) := ⟨by omega, by omega⟩
    have t1 : ∀ x : ByteArray, tl [x] = [T.str x] := fun _ => rfl
    have t0 : tl [] = [] := rfl
    cases b <;> cases sltB s l[j] <;>
      simp only [Bool.not_false, Bool.not_true, Bool.false_or, Bool.true_or, Bool.or_true, Bool.or_false, Bool.true_and, Bool.false_and, Bool.and_true, Bool.and_false, Bool.false_eq_true, if_true, if_false, hib, and_self, List.append_nil, tl_app, t1, t0]
theorem rput17_does (l : List ByteArray) (s : ByteArray) (hl : l.length ≤ 1000000) (hr : Ri l) : Dz i_R17_Put none [A.t (T.node (tl l)), A.t (T.str s)] (1, [A.t (T.node (tl (insT s l)))]) := by
  by_cases h : s ∈ l
  · obtain ⟨n0, h0⟩ := rhas_does l s hl
    refine Does.of n0 fun m hm => ?_
    rw [q_R17_Put]
    simp only [S0, S9, S1, S2, if_true, if_false, h0 m hm, hasB_iff.2 h]
    rw [insT_has hr h]
  · obtain ⟨n0, h0⟩ := (rhas_does l s hl).both (rput17_loop l s hl l.length 0 false [] (by omega) (by simp))
    refine Does.of n0 fun m hm => ?_
    obtain ⟨q1, q2⟩ := h0 m hm
    have q : den Try.prog G0 ents m i_R17_Put (some p_R17_Put_c1) [A.t (T.node (tl l)), A.t (T.str s), A.t (T.bool false), A.t (T.int 0), A.t (T.node [])] = _ := q2
    rw [List.drop_zero] at q
    have hi := putR_ins l [] hr h
    have hlen := putR_len (s := s) l (false, [])
    have hs1 : Nat.succ (tl (l.foldl (putR s) (false, [])).2).length < 1073741824 := by
      rw [tl_len]; show _ + 1 < _
      simp only [List.length_nil] at hlen
      omega
    rw [q_R17_Put, ← List.nil_append (insT s l), ← hi]
    simp only [S0, S9, S1, S2, if_true, if_false, q1, hasB_no h, q, hs1, Bool.false_eq_true]
    cases (l.foldl (putR s) (false, [])).1
    · simp only [Bool.not_false, if_true, Bool.false_eq_true, if_false, tl_app]
      rfl
    · simp only [Bool.not_true, if_true, Bool.false_eq_true, if_false, List.append_nil]
def lns (L : List (ByteArray × ByteArray)) : List T := L.map fun x => T.node [T.str x.1, T.str x.2]
theorem lns_len (L : List (ByteArray × ByteArray)) : (lns L).length = L.length := by unfold lns; rw [List.length_map]
def ln (x : T) : ByteArray × ByteArray := ((x.get 0).txt, (x.get 1).txt)
theorem ln0 (x : T) : (T.get x 0).txt = (ln x).1 := id rfl
theorem ln1 (x : T) : (T.get x 1).txt = (ln x).2 := id rfl
theorem take_succ' {α : Type} {l : List α} {j : Nat} (h : j < l.length) : l.take (j + 1) = l.take j ++ [l[j]] := by rw [List.take_add_one, List.getElem?_eq_getElem h]; rfl
theorem rpts1_loop (l : List ByteArray) (lt : List T) (hl : l.length ≤ 1000) : ∀ (k j : Nat), j + k = l.length →
    Dz i_R17_Points (some p_R17_Points_c1) [A.t (T.node (tl l)), A.t (T.node lt), A.t (T.node (tl ((l.take j).foldl (fun a s => insT s a) []))), A.t (T.int j)] (2, [A.t (T.node lt), A.t (T.node (tl (l.foldl (fun a s => insT s a) [])))]) := by
  intro k
  induction k with
  | zero =>
    intro j hj
    refine Does.now fun m => ?_
    rw [q_R17_Points_c1, List.take_of_length_le (by omega)]
    simp only [S0, S9, S1, S2, if_true, if_false, tl_len]
    rw [if_neg (by omega)]
  | succ k ih =>
    intro j hj
    have hlt : j < l.length := by omega
    have hw : IntKind.i64.wrap ((j : Int) + 1) = ((j + 1 : Nat) : Int) := i64succ (by omega)
    have hlen := fold_len (l.take j) []
    have hi := ih (j + 1) (by omega)
    rw [take_succ' hlt, List.foldl_append] at hi
    obtain ⟨n0, h0⟩ := (rput17_does ((l.take j).foldl (fun a s => insT s a) []) l[j] (by rw [List.length_take] at hlen; simp only [List.length_nil] at hlen; omega) (fold_rise _ _ List.Pairwise.nil)).both hi
    refine Does.of n0 fun m hm => ?_
    obtain ⟨q1, q2⟩ := h0 m hm
    rw [q_R17_Points_c1]
    simp only [S0, S9, S1, S2, if_true, if_false, tl_len, tl_get hlt, txt_s, hw, q1]
    rw [if_pos (by omega), if_pos (by omega)]
    exact q2
theorem rpts2_loop (lt : List T) (hl : lt.length ≤ 1000) (a : List ByteArray) (ha : a.length ≤ 1000) (hr : Ri a) : ∀ (k j : Nat), j + k = lt.length →
    Dz i_R17_Points (some p_R17_Points_c2) [A.t (T.node lt), A.t (T.node (tl (((lt.take j).map ln).foldl (fun a x => insT x.2 (insT x.1 a)) a))), A.t (T.int j)] (4, [A.t (T.node (tl ((lt.map ln).foldl (fun a x => insT x.2 (insT x.1 a)) a)))]) := by
  intro k
  induction k with
  | zero =>
    intro j hj
    refine Does.now fun m => ?_
    rw [q_R17_Points_c2, List.take_of_length_le (by omega)]
    simp only [S0, S9, S1, S2, if_true, if_false]
    rw [if_neg (by omega)]
  | succ k ih =>
    intro j hj
    have hlt : j < lt.length := by omega
    have hw : IntKind.i64.wrap ((j : Int) + 1) = ((j + 1 : Nat) : Int) := i64succ (by omega)
    have hlen := foldL_len ((lt.take j).map ln) a
    rw [List.length_map, List.length_take] at hlen
    have hrise := foldL_rise ((lt.take j).map ln) a hr
    have hi := ih (j + 1) (by omega)
    rw [take_succ' hlt, List.map_append, List.foldl_append] at hi
    have hl2 := insT_len (ln lt[j]).1 (((lt.take j).map ln).foldl (fun a x => insT x.2 (insT x.1 a)) a)
    obtain ⟨n0, h0⟩ := (rput17_does (((lt.take j).map ln).foldl (fun a x => insT x.2 (insT x.1 a)) a) (ln lt[j]).1 (by omega) hrise).both (rput17_does (insT (ln lt[j]).1 (((lt.take j).map ln).foldl (fun a x => insT x.2 (insT x.1 a)) a)) (ln lt[j]).2 (by omega) (insT_rise hrise))
    obtain ⟨n1, h1⟩ := hi
    refine Does.of (n0 + n1) fun m hm => ?_
    obtain ⟨q1, q2⟩ := h0 m (by omega)
    have q3 := h1 m (by omega)
    rw [q_R17_Points_c2]
    simp only [S0, S9, S1, S2, if_true, if_false, at_get hlt, ln0, ln1, hw, q1, q2]
    rw [if_pos (by omega), if_pos (by omega), if_pos (by omega)]
    exact q3
theorem rpoints_does (l : List ByteArray) (lt : List T) (hl : l.length ≤ 300) (hlt : lt.length ≤ 300) : Dz i_R17_Points none [A.t (T.node (tl l)), A.t (T.node lt)] (1, [A.t (T.node (tl (ptsOf l (lt.map ln))))]) := by
  have hfl := fold_len l []
  simp only [List.length_nil] at hfl
  obtain ⟨n0, h0⟩ := (rpts1_loop l lt (by omega) l.length 0 (by omega)).both (rpts2_loop lt (by omega) (l.foldl (fun a s => insT s a) []) (by omega) (fold_rise _ _ List.Pairwise.nil) lt.length 0 (by omega))
  refine Does.of n0 fun m hm => ?_
  obtain ⟨q1, q2⟩ := h0 m hm
  have q1' : den Try.prog G0 ents m i_R17_Points (some p_R17_Points_c1) [A.t (T.node (tl l)), A.t (T.node lt), A.t (T.node []), A.t (T.int 0)] = _ := q1
  have q2' : den Try.prog G0 ents m i_R17_Points (some p_R17_Points_c2) [A.t (T.node lt), A.t (T.node (tl (l.foldl (fun a s => insT s a) []))), A.t (T.int 0)] = _ := q2
  rw [q_R17_Points]
  simp only [S0, S9, S1, S2, if_true, if_false, q1', q2', show Nat.beq 4 4 = true from rfl]
  rfl
theorem rto_loop (lt : List T) (s : ByteArray) (hl : lt.length ≤ 1000) : ∀ (k j : Nat), j + k = lt.length →
    Dz i_R17_To (some p_R17_To_c1) [A.t (T.node lt), A.t (T.str s), A.t (T.node (tl (toOf ((lt.take j).map ln) s))), A.t (T.int j)] (2, [A.t (T.node (tl (toOf (lt.map ln) s)))]) := by
  intro k
  induction k with
  | zero =>
    intro j hj
    refine Does.now fun m => ?_
    rw [q_R17_To_c1, List.take_of_length_le (by omega)]
    simp only [S0, S9, S1, S2, if_true, if_false]
    rw [if_neg (by omega)]
  | succ k ih =>
    intro j hj
    have hlt : j < lt.length := by omega
    have hw : IntKind.i64.wrap ((j : Int) + 1) = ((j + 1 : Nat) : Int) := i64succ (by omega)
    have hlen := to_len ((lt.take j).map ln) s
    rw [List.length_map, List.length_take] at hlen
    have hi := ih (j + 1) (by omega)
    have e : toOf ((lt.take (j + 1)).map ln) s = if (ln lt[j]).1 = s then insT (ln lt[j]).2 (toOf ((lt.take j).map ln) s) else toOf ((lt.take j).map ln) s := by
      rw [take_succ' hlt, List.map_append]
      unfold toOf
      rw [List.foldl_append]
      rfl
    rw [e] at hi
    obtain ⟨n0, h0⟩ := (rput17_does (toOf ((lt.take j).map ln) s) (ln lt[j]).2 (by omega) (to_rise _ _)).both hi
    refine Does.of n0 fun m hm => ?_
    obtain ⟨q1, q2⟩ := h0 m hm
    rw [q_R17_To_c1]
    simp only [S0, S9, S1, S2, if_true, if_false, at_get hlt, ln0, ln1, hw, q1]
    rw [if_pos (by omega), if_pos (by omega)]
    by_cases e2 : (ln lt[j]).1 = s
    · rw [if_pos e2] at q2
      rw [if_pos (seq_is.2 e2), if_pos (by omega)]
      exact q2
    · rw [if_neg e2] at q2
      rw [if_neg (by rw [seq_no e2]; simp)]
      exact q2
theorem rto_does (lt : List T) (s : ByteArray) (hl : lt.length ≤ 1000) : Dz i_R17_To none [A.t (T.node lt), A.t (T.str s)] (1, [A.t (T.node (tl (toOf (lt.map ln) s)))]) := by
  obtain ⟨n0, h0⟩ := rto_loop lt s hl lt.length 0 (by omega)
  refine Does.of n0 fun m hm => ?_
  have q : den Try.prog G0 ents m i_R17_To (some p_R17_To_c1) [A.t (T.node lt), A.t (T.str s), A.t (T.node []), A.t (T.int 0)] = _ := h0 m hm
  rw [q_R17_To]
  simp only [S0, S9, S1, S2, if_true, if_false, q]
end Go.Proofs.YtbejhhoakeapgaaGO
namespace Go.Proofs.YtbejhhoakeapgaaGO
open Go Go.Proofs.YtbejhhoakeapgaaVM
set_option linter.unusedVariables false
set_option linter.unusedSimpArgs false
set_option maxRecDepth 100000

structure Gr (fs : List T) (p : List ByteArray) (t : ByteArray → List ByteArray) : Prop where
  rise : Ri p
  perm : (fs.map ky).Perm p
  to : ∀ s, (gZ (.node []) fs s).kids = tl (t s)
  tri : ∀ s, Ri (t s)
  len : p.length ≤ 200000
  tlen : ∀ s, (t s).length ≤ 200000
  siz : ∀ x ∈ p, x.size ≤ 100
  tsiz : ∀ s, ∀ x ∈ t s, x.size ≤ 100
theorem Gr.has {fs : List T} {p : List ByteArray} {t : ByteArray → List ByteArray} (h : Gr fs p t) (s : ByteArray) : hF fs s = hasB s p := by
  cases hb : hasB s p with
  | true => exact (hF_mem _ _).2 (h.perm.mem_iff.2 (hasB_iff.1 hb))
  | false =>
    cases hh : hF fs s with
    | false => rfl
    | true =>
      have := hasB_iff.2 (h.perm.mem_iff.1 ((hF_mem _ _).1 hh))
      rw [hb] at this; cases this
theorem Gr.out {fs : List T} {p : List ByteArray} {t : ByteArray → List ByteArray} (h : Gr fs p t) {s : ByteArray} (hs : s ∉ p) : t s = [] := by
  have h1 : hF fs s = false := by rw [h.has]; exact hasB_no hs
  have h2 := h.to s
  rw [gZ_no h1] at h2
  have : (tl (t s)).length = 0 := by rw [← h2]; rfl
  rw [tl_len] at this
  exact List.eq_nil_of_length_eq_zero this
def updT (t : ByteArray → List ByteArray) (a : ByteArray) (v : List ByteArray) : ByteArray → List ByteArray := fun s => if s = a then v else t s
theorem Gr.add {fs : List T} {p : List ByteArray} {t : ByteArray → List ByteArray} (h : Gr fs p t) {s : ByteArray} (hs : s.size ≤ 100) (hl : p.length < 200000) (hn : s ∉ p) : Gr (putF fs s (.node [])) (insT s p) t := by
  have hk : s ∉ fs.map ky := fun h' => hn (h.perm.mem_iff.1 h')
  refine ⟨insT_rise h.rise, ?_, fun x => ?_, h.tri, by have := insT_len s p; omega, h.tlen, fun x hx => ?_, h.tsiz⟩
  · rw [put_out hk]
    refine (List.perm_append_singleton _ _).trans ((h.perm.cons s).trans ?_)
    rw [List.perm_ext_iff_of_nodup (List.nodup_cons.2 ⟨hn, h.rise.nodup⟩) (insT_rise h.rise).nodup]
    intro x
    rw [mem_insT, List.mem_cons]
  · rw [gZ_put]
    split
    · rename_i e
      subst e
      rw [h.out hn]
      rfl
    · exact h.to x
  · rcases mem_insT.1 hx with rfl | hx
    · exact hs
    · exact h.siz x hx
theorem Gr.set {fs : List T} {p : List ByteArray} {t : ByteArray → List ByteArray} (h : Gr fs p t) {a : ByteArray} (ha : a ∈ p) {l : List ByteArray} (hl : Ri l) (hn : l.length ≤ 200000) (hs : ∀ x ∈ l, x.size ≤ 100) : Gr (putF fs a (.node (tl l))) p (updT t a l) := by
  refine ⟨h.rise, by rw [put_in (h.perm.mem_iff.2 ha)]; exact h.perm, fun x => ?_, fun x => ?_, h.len, fun x => ?_, h.siz, fun x y hy => ?_⟩
  · rw [gZ_put]
    unfold updT
    split
    · rfl
    · exact h.to x
  · unfold updT; split
    · exact hl
    · exact h.tri x
  · unfold updT; split
    · exact hn
    · exact h.tlen x
  · unfold updT at hy; split at hy
    · exact hs y hy
    · exact h.tsiz x y hy
theorem ph_does (fs : List T) (s : ByteArray) : Dz i_graph_Graph_string_Has none [A.t (T.str s), A.t (T.node fs)] (1, [A.t (T.bool (hF fs s)), A.t (T.node fs)]) := Does.now fun m => by
  rw [q_graph_Graph_string_Has]
  simp only [S0, S9, S1, S2, if_true, if_false, hF_eq]
theorem gZ_eq (fs : List T) (s : ByteArray) : mget keyS (T.node []) fs (T.str s) = gZ (.node []) fs s := id rfl
theorem padd_does {fs : List T} {p : List ByteArray} {t : ByteArray → List ByteArray} (h : Gr fs p t) {s : ByteArray} (hs : s.size ≤ 100) (hl : p.length < 200000) : ∃ fs', Gr fs' (insT s p) t ∧ Dz i_graph_Graph_string_Add none [A.t (T.str s), A.t (T.node fs)] (1, [A.t (T.node fs')]) := by
  obtain ⟨n0, h0⟩ := ph_does fs s
  by_cases hn : s ∈ p
  · refine ⟨fs, by rw [insT_has h.rise hn]; exact h, Does.of n0 fun m hm => ?_⟩
    rw [q_graph_Graph_string_Add]
    simp only [S0, S9, S1, S2, if_true, if_false, h0 m hm, h.has, hasB_iff.2 hn, Bool.not_true, Bool.false_eq_true]
  · refine ⟨_, h.add hs hl hn, Does.of n0 fun m hm => ?_⟩
    rw [q_graph_Graph_string_Add]
    simp only [S0, S9, S1, S2, if_true, if_false, h0 m hm, h.has, hasB_no hn, Bool.not_false, put_eq]
theorem less_does (a b : ByteArray) : Dz i_cmp_Less_string none [A.t (T.str a), A.t (T.str b)] (1, [A.t (T.bool (sltB a b))]) := by
  have h1 : Dz i_cmp_isNaN_string none [A.t (T.str a)] (1, [A.t (T.bool false)]) := Does.now fun m => by
    rw [q_cmp_isNaN_string]
    simp only [S0, S9, S1, S2, if_true, if_false, seq_is.2 rfl, Bool.not_true]
  obtain ⟨n0, h0⟩ := h1
  refine Does.of n0 fun m hm => ?_
  rw [q_cmp_Less_string]
  simp only [S0, S9, S1, S2, if_true, if_false, h0 m hm, Bool.false_eq_true]
theorem bs_loop (l : List ByteArray) (s : ByteArray) (hl : l.length ≤ 1000000) (hr : Ri l) : ∀ (d i j : Nat), j - i ≤ d → i ≤ pos s l → pos s l ≤ j → j ≤ l.length →
    Dz i_slices_BinarySearch_string (some p_slices_BinarySearch_string_c1) [A.t (T.node (tl l)), A.t (T.str s), A.t (T.int (l.length : Nat)), A.t (T.int i), A.t (T.int j)] (2, [A.t (T.node (tl l)), A.t (T.str s), A.t (T.int (l.length : Nat)), A.t (T.int (pos s l : Nat))]) := by
  intro d
  induction d with
  | zero =>
    intro i j hd h1 h2 h3
    refine Does.now fun m => ?_
    rw [q_slices_BinarySearch_string_c1]
    simp only [S0, S9, S1, S2, if_true, if_false]
    rw [if_neg (by omega), show i = pos s l by omega]
  | succ d ih =>
    intro i j hd h1 h2 h3
    by_cases hij : i < j
    · have hh : i ≤ (i + j) / 2 ∧ (i + j) / 2 < j := by omega
      have hlt : (i + j) / 2 < l.length := by omega
      have w1 : IntKind.i64.wrap ((i : Int) + (j : Int)) = ((i + j : Nat) : Int) := i64add (by omega)
      have w2 : IntKind.u64.wrap ((i + j : Nat) : Int) = ((i + j : Nat) : Int) := by rw [wu64, Nat.mod_eq_of_lt (by omega)]
      have w3 : Int.fdiv ((i + j : Nat) : Int) 2 = (((i + j) / 2 : Nat) : Int) := fdivN (i + j) 2
      have w4 : IntKind.i64.wrap (((i + j) / 2 : Nat) : Int) = (((i + j) / 2 : Nat) : Int) := i64nat (by omega)
      have w5 : IntKind.i64.wrap ((((i + j) / 2 : Nat) : Int) + 1) = (((i + j) / 2 + 1 : Nat) : Int) := i64succ (by omega)
      have hp := pos_lt (s := s) hr _ hlt
      cases hb : sltB l[(i + j) / 2] s with
      | true =>
        have hp2 := hp.1 hb
        obtain ⟨n0, h0⟩ := (less_does l[(i + j) / 2] s).both (ih ((i + j) / 2 + 1) j (by omega) (by omega) h2 h3)
        refine Does.of n0 fun m hm => ?_
        obtain ⟨q1, q2⟩ := h0 m hm
        rw [hb] at q1
        rw [q_slices_BinarySearch_string_c1]
        simp only [S0, S9, S1, S2, if_true, if_false, w1, w2, w3, w4, w5, tl_len, tl_get hlt, txt_s, q1]
        rw [if_pos (by omega), if_pos (by omega)]
        exact q2
      | false =>
        have hp2 : pos s l ≤ (i + j) / 2 := by
          rcases Nat.lt_or_ge ((i + j) / 2) (pos s l) with h | h
          · rw [hp.2 h] at hb; cases hb
          · exact h
        obtain ⟨n0, h0⟩ := (less_does l[(i + j) / 2] s).both (ih i ((i + j) / 2) (by omega) h1 hp2 (by omega))
        refine Does.of n0 fun m hm => ?_
        obtain ⟨q1, q2⟩ := h0 m hm
        rw [hb] at q1
        rw [q_slices_BinarySearch_string_c1]
        simp only [S0, S9, S1, S2, if_true, if_false, w1, w2, w3, w4, w5, tl_len, tl_get hlt, txt_s, q1, Bool.false_eq_true]
        rw [if_pos (by omega), if_pos (by omega)]
        exact q2
    · refine Does.now fun m => ?_
      rw [q_slices_BinarySearch_string_c1]
      simp only [S0, S9, S1, S2, if_true, if_false]
      rw [if_neg (by omega), show i = pos s l by omega]
theorem bs_does (l : List ByteArray) (s : ByteArray) (hl : l.length ≤ 1000000) (hr : Ri l) : Dz i_slices_BinarySearch_string none [A.t (T.node (tl l)), A.t (T.str s)] (1, [A.t (T.int (pos s l : Nat)), A.t (T.bool (hasB s l))]) := by
  have hp := pos_le s l
  have h2 : ∀ x : ByteArray, Dz i_slices_isNaN_string none [A.t (T.str x)] (1, [A.t (T.bool false)]) := fun x => Does.now fun m => by
    rw [q_slices_isNaN_string]
    simp only [S0, S9, S1, S2, if_true, if_false, seq_is.2 rfl, Bool.not_true]
  have h1 := bs_loop l s hl hr l.length 0 l.length (by omega) (Nat.zero_le _) hp (Nat.le_refl _)
  by_cases hlt : pos s l < l.length
  · obtain ⟨n0, h0⟩ := h1.both (h2 l[pos s l])
    refine Does.of n0 fun m hm => ?_
    obtain ⟨q1, q2⟩ := h0 m hm
    have q : den Try.prog G0 ents m i_slices_BinarySearch_string (some p_slices_BinarySearch_string_c1) [A.t (T.node (tl l)), A.t (T.str s), A.t (T.int (l.length : Nat)), A.t (T.int 0), A.t (T.int (l.length : Nat))] = _ := q1
    rw [q_slices_BinarySearch_string]
    simp only [S0, S9, S1, S2, if_true, if_false, tl_len, q, tl_get hlt, txt_s, q2]
    rw [if_pos (by omega), if_pos (by omega)]
    by_cases e : l[pos s l] = s
    · have hm : s ∈ l := (pos_mem hr).2 (by rw [List.getElem?_eq_getElem hlt, e])
      rw [seq_is.2 e, hasB_iff.2 hm]
      simp
    · have hm : s ∉ l := fun hm => by
        have := (pos_mem hr).1 hm
        rw [List.getElem?_eq_getElem hlt] at this
        exact e (Option.some.inj this)
      rw [seq_no e, hasB_no hm]
      simp only [Bool.false_eq_true, if_false, not_false_eq_true, if_true]
      rw [if_pos (by omega)]
  · obtain ⟨n0, h0⟩ := h1
    refine Does.of n0 fun m hm => ?_
    have q : den Try.prog G0 ents m i_slices_BinarySearch_string (some p_slices_BinarySearch_string_c1) [A.t (T.node (tl l)), A.t (T.str s), A.t (T.int (l.length : Nat)), A.t (T.int 0), A.t (T.int (l.length : Nat))] = _ := h0 m hm
    have hm : s ∉ l := fun hm => by
      have := (pos_mem hr).1 hm
      rw [List.getElem?_eq_none (by omega)] at this
      cases this
    rw [q_slices_BinarySearch_string]
    simp only [S0, S9, S1, S2, if_true, if_false, tl_len, q, hasB_no hm]
    rw [if_neg (by omega)]
theorem clone_eq (n : Nat) (l : List T) : den Try.prog G0 ents (Nat.succ n) i_slices_Clone none [A.t (T.node l)] = Option.map (fun o => (1, o)) (bif decide (l.length ≤ 1000000000) then some [A.t (T.node l)] else none) := by kernel_rfl
theorem clone_does {l : List T} (h : l.length ≤ 1000000000) : Dz i_slices_Clone none [A.t (T.node l)] (1, [A.t (T.node l)]) := Does.now fun n => by rw [clone_eq, decide_eq_true h]; rfl
theorem insert_eq (n : Nat) (i : Int) (s v : List T) : den Try.prog G0 ents (Nat.succ n) i_slices_Insert none [A.t (T.int i), A.t (T.node s), A.t (T.node v)] = Option.map (fun o => (1, o)) (bif insrtOk i s v then some [A.t (T.node v), A.t (T.node (insL i s v))] else none) := by kernel_rfl
theorem insert_does {i : Int} {s v : List T} (h : insrtOk i s v = true) : Dz i_slices_Insert none [A.t (T.int i), A.t (T.node s), A.t (T.node v)] (1, [A.t (T.node v), A.t (T.node (insL i s v))]) := Does.now fun n => by rw [insert_eq, h]; rfl
theorem ins_does {l : List ByteArray} {s : ByteArray} (hl : l.length ≤ 500000) (h : s ∉ l) : Dz i_slices_Insert none [A.t (T.int (pos s l : Nat)), A.t (T.node (tl l)), A.t (T.node [T.str s])] (1, [A.t (T.node [T.str s]), A.t (T.node (tl (insT s l)))]) := by
  have hp := pos_le s l
  have := insert_does (i := ((pos s l : Nat) : Int)) (s := tl l) (v := [T.str s]) (by
    unfold insrtOk
    simp only [Bool.and_eq_true, decide_eq_true_eq, tl_len, List.length_singleton]
    omega)
  rw [insL_tl h] at this
  exact this
theorem plink_does {fs : List T} {p : List ByteArray} {t : ByteArray → List ByteArray} (h : Gr fs p t) {a b : ByteArray} (ha : a.size ≤ 100) (hb : b.size ≤ 100) (hl : p.length + 2 ≤ 200000) (hn : (t a).length + 1 ≤ 200000) :
    ∃ fs', Gr fs' (insT b (insT a p)) (updT t a (insT b (t a))) ∧ Dz i_graph_Graph_string_Link none [A.t (T.str a), A.t (T.str b), A.t (T.node fs)] (1, [A.t (T.node fs')]) := by
  obtain ⟨f1, g1, d1⟩ := padd_does h ha (by omega)
  have hla := insT_len a p
  obtain ⟨f2, g2, d2⟩ := padd_does g1 hb (by omega)
  have hmem : a ∈ insT b (insT a p) := mem_insT.2 (.inr (mem_insT.2 (.inl rfl)))
  have hta := g2.to a
  obtain ⟨n0, h0⟩ := d1.both d2
  have hbs := bs_does (t a) b (by omega) (h.tri a)
  by_cases hin : b ∈ t a
  · have e : updT t a (insT b (t a)) = t := by
      funext s
      unfold updT
      split
      · rename_i e; subst e; exact insT_has (h.tri _) hin
      · rfl
    obtain ⟨n1, h1⟩ := hbs
    refine ⟨f2, by rw [e]; exact g2, Does.of (n0 + n1) fun m hm => ?_⟩
    have q3 := h1 m (by omega)
    rw [q_graph_Graph_string_Link]
    simp only [S0, S9, S1, S2, if_true, if_false, (h0 m (by omega)).1, (h0 m (by omega)).2, gZ_eq, hta, q3, hasB_iff.2 hin, Bool.not_true, Bool.false_eq_true]
  · have hlen := insT_len b (t a)
    obtain ⟨n1, h1⟩ := hbs.both (clone_does (l := tl (t a)) (by rw [tl_len]; omega))
    obtain ⟨n2, h2⟩ := ins_does (l := t a) (s := b) (by omega) hin
    refine ⟨_, g2.set hmem (insT_rise (h.tri a)) (by omega) (fun x hx => ?_), Does.of (n0 + n1 + n2) fun m hm => ?_⟩
    · rcases mem_insT.1 hx with rfl | hx
      · exact hb
      · exact h.tsiz a x hx
    · have q3 := h1 m (by omega)
      have q4 := h2 m (by omega)
      rw [q_graph_Graph_string_Link]
      simp only [S0, S9, S1, S2, if_true, if_false, (h0 m (by omega)).1, (h0 m (by omega)).2, gZ_eq, hta, q3.1, q3.2, hasB_no hin, Bool.not_false, q4, put_eq]
theorem to_snoc (L : List (ByteArray × ByteArray)) (a b : ByteArray) : toOf (L ++ [(a, b)]) = updT (toOf L) a (insT b (toOf L a)) := by
  funext s
  unfold toOf updT
  rw [List.foldl_append]
  show (if a = s then insT b _ else _) = _
  by_cases e : a = s
  · subst e; simp
  · rw [if_neg e, if_neg fun h => e h.symm]
theorem pts_snoc (l : List ByteArray) (L : List (ByteArray × ByteArray)) (a b : ByteArray) : ptsOf l (L ++ [(a, b)]) = insT b (insT a (ptsOf l L)) := by
  unfold ptsOf
  rw [List.foldl_append]
  rfl
theorem link_on {fs : List T} {l : List ByteArray} {L : List (ByteArray × ByteArray)} (h : Gr fs (ptsOf l L) (toOf L)) {a b : ByteArray} (ha : a.size ≤ 100) (hb : b.size ≤ 100) (hl : l.length + 2 * L.length ≤ 190000) :
    ∃ fs', Gr fs' (ptsOf l (L ++ [(a, b)])) (toOf (L ++ [(a, b)])) ∧ Dz i_graph_Graph_string_Link none [A.t (T.str a), A.t (T.str b), A.t (T.node fs)] (1, [A.t (T.node fs')]) := by
  have h1 := pts_len l L
  have h2 := to_len L a
  rw [to_snoc, pts_snoc]
  exact plink_does h ha hb (by omega) (by omega)
theorem new_loop (l : List ByteArray) (hl : l.length ≤ 1000) (hs : ∀ x ∈ l, x.size ≤ 100) : ∀ (k j : Nat) (fs : List T), j + k = l.length → Gr fs ((l.take j).foldl (fun a s => insT s a) []) (fun _ => []) →
    ∃ fs', Gr fs' (l.foldl (fun a s => insT s a) []) (fun _ => []) ∧ Dz i_graph_New_string (some p_graph_New_string_c1) [A.t (T.node (tl l)), A.t (T.int (l.length : Nat)), A.t (T.int j), A.t (T.node fs)] (2, [A.t (T.node fs')]) := by
  intro k
  induction k with
  | zero =>
    intro j fs hj h
    rw [List.take_of_length_le (by omega)] at h
    refine ⟨fs, h, Does.now fun m => ?_⟩
    rw [q_graph_New_string_c1]
    simp only [S0, S9, S1, S2, if_true, if_false]
    rw [if_neg (by omega)]
  | succ k ih =>
    intro j fs hj h
    have hlt : j < l.length := by omega
    have hw : IntKind.i64.wrap ((j : Int) + 1) = ((j + 1 : Nat) : Int) := i64succ (by omega)
    have hlen := fold_len (l.take j) []
    rw [List.length_take] at hlen
    simp only [List.length_nil] at hlen
    obtain ⟨f1, g1, d1⟩ := padd_does h (hs _ (List.getElem_mem hlt)) (by omega)
    have e : insT l[j] ((l.take j).foldl (fun a s => insT s a) []) = (l.take (j + 1)).foldl (fun a s => insT s a) [] := by
      rw [take_succ' hlt, List.foldl_append]; rfl
    rw [e] at g1
    obtain ⟨f2, g2, d2⟩ := ih (j + 1) f1 (by omega) g1
    obtain ⟨n0, h0⟩ := d1.both d2
    refine ⟨f2, g2, Does.of n0 fun m hm => ?_⟩
    obtain ⟨q1, q2⟩ := h0 m hm
    rw [q_graph_New_string_c1]
    simp only [S0, S9, S1, S2, if_true, if_false, tl_len, tl_get hlt, txt_s, hw, q1]
    rw [if_pos (by omega), if_pos (by omega)]
    exact q2
theorem Gr.nil : Gr [] [] (fun _ => []) := ⟨List.Pairwise.nil, List.Perm.refl _, fun s => rfl, fun s => List.Pairwise.nil, by simp, fun s => by simp, fun x hx => (by cases hx), fun s x hx => (by cases hx)⟩
theorem new_does (l : List ByteArray) (hl : l.length ≤ 1000) (hs : ∀ x ∈ l, x.size ≤ 100) : ∃ fs', Gr fs' (ptsOf l []) (toOf []) ∧ Dz i_graph_New_string none [A.t (T.node (tl l))] (1, [A.t (T.node fs')]) := by
  obtain ⟨f1, g1, d1⟩ := new_loop l hl hs l.length 0 [] (by omega) Gr.nil
  obtain ⟨n0, h0⟩ := d1
  refine ⟨f1, g1, Does.of n0 fun m hm => ?_⟩
  have q : den Try.prog G0 ents m i_graph_New_string (some p_graph_New_string_c1) [A.t (T.node (tl l)), A.t (T.int (l.length : Nat)), A.t (T.int 0), A.t (T.node [])] = _ := h0 m hm
  rw [q_graph_New_string]
  simp only [S0, S9, S1, S2, if_true, if_false, tl_len, q]
theorem of_loop (l : List ByteArray) (lt : List T) (hl : l.length ≤ 1000) (hlt : lt.length ≤ 1000) (hs : ∀ x ∈ lt, (ln x).1.size ≤ 100 ∧ (ln x).2.size ≤ 100) : ∀ (k j : Nat) (fs : List T), j + k = lt.length → Gr fs (ptsOf l ((lt.take j).map ln)) (toOf ((lt.take j).map ln)) →
    ∃ fs', Gr fs' (ptsOf l (lt.map ln)) (toOf (lt.map ln)) ∧ Dz i_L17_of (some p_L17_of_c1) [A.t (T.node lt), A.t (T.int j), A.t (T.node fs)] (2, [A.t (T.node fs')]) := by
  intro k
  induction k with
  | zero =>
    intro j fs hj h
    rw [List.take_of_length_le (by omega)] at h
    refine ⟨fs, h, Does.now fun m => ?_⟩
    rw [q_L17_of_c1]
    simp only [S0, S9, S1, S2, if_true, if_false]
    rw [if_neg (by omega)]
  | succ k ih =>
    intro j fs hj h
    have hlt : j < lt.length := by omega
    have hw : IntKind.i64.wrap ((j : Int) + 1) = ((j + 1 : Nat) : Int) := i64succ (by omega)
    obtain ⟨s1, s2⟩ := hs _ (List.getElem_mem hlt)
    obtain ⟨f1, g1, d1⟩ := link_on h s1 s2 (by rw [List.length_map, List.length_take]; omega)
    have e : (lt.take j).map ln ++ [((ln lt[j]).1, (ln lt[j]).2)] = (lt.take (j + 1)).map ln := by
      rw [take_succ' hlt, List.map_append]; rfl
    rw [e] at g1
    obtain ⟨f2, g2, d2⟩ := ih (j + 1) f1 (by omega) g1
    obtain ⟨n0, h0⟩ := d1.both d2
    refine ⟨f2, g2, Does.of n0 fun m hm => ?_⟩
    obtain ⟨q1, q2⟩ := h0 m hm
    rw [q_L17_of_c1]
    simp only [S0, S9, S1, S2, if_true, if_false, at_get hlt, ln0, ln1, hw, q1]
    rw [if_pos (by omega), if_pos (by omega), if_pos (by omega)]
    exact q2
theorem of_does (l : List ByteArray) (lt : List T) (hl : l.length ≤ 1000) (hlt : lt.length ≤ 1000) (h1 : ∀ x ∈ l, x.size ≤ 100) (hs : ∀ x ∈ lt, (ln x).1.size ≤ 100 ∧ (ln x).2.size ≤ 100) :
    ∃ fs', Gr fs' (ptsOf l (lt.map ln)) (toOf (lt.map ln)) ∧ Dz i_L17_of none [A.t (T.node (tl l)), A.t (T.node lt)] (1, [A.t (T.node fs')]) := by
  obtain ⟨f1, g1, d1⟩ := new_does l hl h1
  obtain ⟨f2, g2, d2⟩ := of_loop l lt hl hlt hs lt.length 0 f1 (by omega) g1
  obtain ⟨n0, h0⟩ := d1.both d2
  refine ⟨f2, g2, Does.of n0 fun m hm => ?_⟩
  obtain ⟨q1, q2⟩ := h0 m hm
  have q : den Try.prog G0 ents m i_L17_of (some p_L17_of_c1) [A.t (T.node lt), A.t (T.int 0), A.t (T.node f1)] = _ := q2
  rw [q_L17_of]
  simp only [S0, S9, S1, S2, if_true, if_false, q1, q]
theorem psort_eq (n : Nat) (l : List T) : den Try.prog G0 ents (Nat.succ n) i_slices_Sorted_l none [A.t (T.node l)] = Option.map (fun o => (1, o)) (bif keysOk l then some [A.t (T.node (keysS l)), A.t (T.node l)] else none) := by kernel_rfl
theorem points_does {fs : List T} {p : List ByteArray} {t : ByteArray → List ByteArray} (h : Gr fs p t) : Dz i_graph_Graph_string_Points none [A.t (T.node fs)] (1, [A.t (T.node (tl p)), A.t (T.node fs)]) := by
  have h1 : Dz i_maps_Keys_map_string_string_string_string none [A.t (T.node fs)] (1, [A.t (T.node fs)]) := Does.now fun m => by
    rw [q_maps_Keys_map_string_string_string_string]
    simp only [S0, S9, S1, S2, if_true, if_false]
  have h2 : Dz i_slices_Sorted_l none [A.t (T.node fs)] (1, [A.t (T.node (keysS fs)), A.t (T.node fs)]) := Does.now fun n => by
    rw [psort_eq, keysOk_of h.perm (by have := h.len; omega) (fun x hx => by have := h.siz x hx; omega)]; rfl
  rw [keys_of h.perm h.rise] at h2
  obtain ⟨n0, h0⟩ := h1.both h2
  refine Does.of n0 fun m hm => ?_
  rw [q_graph_Graph_string_Points]
  simp only [S0, S9, S1, S2, if_true, if_false, (h0 m hm).1, (h0 m hm).2]
theorem pto_does {fs : List T} {p : List ByteArray} {t : ByteArray → List ByteArray} (h : Gr fs p t) (s : ByteArray) : Dz i_graph_Graph_string_To none [A.t (T.str s), A.t (T.node fs)] (1, [A.t (T.node fs), A.t (T.node (tl (t s)))]) := by
  obtain ⟨n0, h0⟩ := clone_does (l := tl (t s)) (by rw [tl_len]; have := h.tlen s; omega)
  refine Does.of n0 fun m hm => ?_
  rw [q_graph_Graph_string_To]
  simp only [S0, S9, S1, S2, if_true, if_false, gZ_eq, h.to s, h0 m hm]
end Go.Proofs.YtbejhhoakeapgaaGO
namespace Go.Proofs.YtbejhhoakeapgaaGO
open Go Go.Proofs.YtbejhhoakeapgaaVM
set_option linter.unusedVariables false
set_option linter.unusedSimpArgs false
set_option maxRecDepth 100000

def prs (k : ByteArray) (l : List ByteArray) : List (ByteArray × ByteArray) := l.map fun x => (x, k)
def turnL (p : List ByteArray) (t : ByteArray → List ByteArray) : List (ByteArray × ByteArray) := p.flatMap fun k => prs k (t k)
theorem mem_turn {p : List ByteArray} {t : ByteArray → List ByteArray} {a b : ByteArray} : (a, b) ∈ turnL p t ↔ b ∈ p ∧ a ∈ t b := by
  unfold turnL prs
  rw [List.mem_flatMap]
  constructor
  · rintro ⟨k, hk, h⟩
    obtain ⟨x, hx, e⟩ := List.mem_map.1 h
    cases e
    exact ⟨hk, hx⟩
  · rintro ⟨h1, h2⟩
    exact ⟨b, h1, List.mem_map.2 ⟨a, h2, rfl⟩⟩
theorem turn_len {t : ByteArray → List ByteArray} (N : Nat) (ht : ∀ s, (t s).length ≤ N) : ∀ p : List ByteArray, (turnL p t).length ≤ p.length * N
  | [] => by simp [turnL]
  | x :: p => by
    have h1 := turn_len N ht p
    have h2 := ht x
    unfold turnL at h1 ⊢
    rw [List.flatMap_cons, List.length_append, List.length_cons, Nat.add_mul, Nat.one_mul]
    unfold prs at h1 ⊢
    rw [List.length_map]
    omega
theorem turn2_loop {fs : List T} {p : List ByteArray} {t : ByteArray → List ByteArray} (h : Gr fs p t) {l0 : List ByteArray} (k : ByteArray) (hk : k.size ≤ 100) (x1 : List T) (i1 i2 : Int) (B : Nat) (hB : l0.length + 2 * B ≤ 190000) : ∀ (d j : Nat) (M : List (ByteArray × ByteArray)) (out : List T), j + d = (t k).length → M.length + d ≤ B → Gr out (ptsOf l0 M) (toOf M) →
    ∃ out', Gr out' (ptsOf l0 (M ++ prs k ((t k).drop j))) (toOf (M ++ prs k ((t k).drop j))) ∧
      Dz i_graph_Graph_string_Turned (some p_graph_Graph_string_Turned_c2) [A.t (T.str k), A.t (T.node x1), A.t (T.int i1), A.t (T.int i2), A.t (T.int ((t k).length : Nat)), A.t (T.int j), A.t (T.node fs), A.t (T.node (tl (t k))), A.t (T.node out)] (4, [A.t (T.node x1), A.t (T.int i1), A.t (T.int i2), A.t (T.node fs), A.t (T.node out')]) := by
  intro d
  induction d with
  | zero =>
    intro j M out hj hM hg
    rw [List.drop_of_length_le (by omega)]
    refine ⟨out, by simpa [prs] using hg, Does.now fun m => ?_⟩
    rw [q_graph_Graph_string_Turned_c2]
    simp only [S0, S9, S1, S2, if_true, if_false]
    rw [if_neg (by omega)]
  | succ d ih =>
    intro j M out hj hM hg
    have hlt : j < (t k).length := by omega
    have hw : IntKind.i64.wrap ((j : Int) + 1) = ((j + 1 : Nat) : Int) := i64succ (by have := h.tlen k; omega)
    obtain ⟨f1, g1, d1⟩ := link_on hg (h.tsiz k _ (List.getElem_mem hlt)) hk (by omega)
    obtain ⟨f2, g2, d2⟩ := ih (j + 1) (M ++ [((t k)[j], k)]) f1 (by omega) (by rw [List.length_append, List.length_singleton]; omega) g1
    have e : M ++ [((t k)[j], k)] ++ prs k ((t k).drop (j + 1)) = M ++ prs k ((t k).drop j) := by
      rw [List.drop_eq_getElem_cons hlt, List.append_assoc]; rfl
    rw [e] at g2
    obtain ⟨n0, h0⟩ := d1.both d2
    refine ⟨f2, g2, Does.of n0 fun m hm => ?_⟩
    obtain ⟨q1, q2⟩ := h0 m hm
    rw [q_graph_Graph_string_Turned_c2]
    simp only [S0, S9, S1, S2, if_true, if_false, tl_len, tl_get hlt, txt_s, hw, q1]
    rw [if_pos (by omega), if_pos (by omega), if_pos (by omega)]
    exact q2
theorem turn1_loop {fs : List T} {p : List ByteArray} {t : ByteArray → List ByteArray} (h : Gr fs p t) {l0 : List ByteArray} (N : Nat) (ht : ∀ s, (t s).length ≤ N) (B : Nat) (hB : l0.length + 2 * B ≤ 190000) : ∀ (d j : Nat) (M : List (ByteArray × ByteArray)) (out : List T), j + d = p.length → M.length + d * N ≤ B → Gr out (ptsOf l0 M) (toOf M) →
    ∃ out', Gr out' (ptsOf l0 (M ++ turnL (p.drop j) t)) (toOf (M ++ turnL (p.drop j) t)) ∧
      Dz i_graph_Graph_string_Turned (some p_graph_Graph_string_Turned_c1) [A.t (T.node (tl p)), A.t (T.int (p.length : Nat)), A.t (T.int j), A.t (T.node fs), A.t (T.node out)] (2, [A.t (T.node fs), A.t (T.node out')]) := by
  intro d
  induction d with
  | zero =>
    intro j M out hj hM hg
    rw [List.drop_of_length_le (by omega)]
    refine ⟨out, by simpa [turnL] using hg, Does.now fun m => ?_⟩
    rw [q_graph_Graph_string_Turned_c1]
    simp only [S0, S9, S1, S2, if_true, if_false]
    rw [if_neg (by omega)]
  | succ d ih =>
    intro j M out hj hM hg
    have hlt : j < p.length := by omega
    have hw : IntKind.i64.wrap ((j : Int) + 1) = ((j + 1 : Nat) : Int) := i64succ (by have := h.len; omega)
    have htj := ht p[j]
    have hdn : (d + 1) * N = d * N + N := Nat.succ_mul d N
    obtain ⟨f1, g1, d1⟩ := turn2_loop h p[j] (h.siz _ (List.getElem_mem hlt)) (tl p) (p.length : Nat) (j : Nat) B hB (t p[j]).length 0 M out (by omega) (by omega) hg
    rw [List.drop_zero] at g1
    have hpl : (prs p[j] (t p[j])).length = (t p[j]).length := by unfold prs; rw [List.length_map]
    obtain ⟨f2, g2, d2⟩ := ih (j + 1) (M ++ prs p[j] (t p[j])) f1 (by omega) (by rw [List.length_append, hpl]; omega) g1
    have e : M ++ prs p[j] (t p[j]) ++ turnL (p.drop (j + 1)) t = M ++ turnL (p.drop j) t := by
      rw [List.drop_eq_getElem_cons hlt, List.append_assoc]; rfl
    rw [e] at g2
    obtain ⟨n0, h0⟩ := d1.both d2
    obtain ⟨n1, h1⟩ := pto_does h p[j]
    refine ⟨f2, g2, Does.of (n0 + n1) fun m hm => ?_⟩
    obtain ⟨q1, q2⟩ := h0 m (by omega)
    have q3 := h1 m (by omega)
    have q1' : den Try.prog G0 ents m i_graph_Graph_string_Turned (some p_graph_Graph_string_Turned_c2) [A.t (T.str p[j]), A.t (T.node (tl p)), A.t (T.int (p.length : Nat)), A.t (T.int (j : Nat)), A.t (T.int ((t p[j]).length : Nat)), A.t (T.int 0), A.t (T.node fs), A.t (T.node (tl (t p[j]))), A.t (T.node out)] = _ := q1
    rw [q_graph_Graph_string_Turned_c1]
    simp only [S0, S9, S1, S2, if_true, if_false, tl_len, tl_get hlt, txt_s, hw, q3, q1', show Nat.beq 4 4 = true from rfl]
    rw [if_pos (by omega), if_pos (by omega)]
    exact q2
theorem turned_does {fs : List T} {p : List ByteArray} {t : ByteArray → List ByteArray} (h : Gr fs p t) (hp : p.length ≤ 300) (ht : ∀ s, (t s).length ≤ 100) :
    ∃ fs', Gr fs' (ptsOf p (turnL p t)) (toOf (turnL p t)) ∧ Dz i_graph_Graph_string_Turned none [A.t (T.node fs)] (1, [A.t (T.node fs), A.t (T.node fs')]) := by
  obtain ⟨f1, g1, d1⟩ := new_does p (by omega) h.siz
  obtain ⟨f2, g2, d2⟩ := turn1_loop h (l0 := p) 100 ht 30000 (by omega) p.length 0 [] f1 (by omega) (by simp only [List.length_nil]; omega) g1
  rw [List.drop_zero, List.nil_append] at g2
  obtain ⟨n0, h0⟩ := d1.both d2
  obtain ⟨n1, h1⟩ := points_does h
  refine ⟨f2, g2, Does.of (n0 + n1) fun m hm => ?_⟩
  obtain ⟨q1, q2⟩ := h0 m (by omega)
  have q3 := h1 m (by omega)
  have q2' : den Try.prog G0 ents m i_graph_Graph_string_Turned (some p_graph_Graph_string_Turned_c1) [A.t (T.node (tl p)), A.t (T.int (p.length : Nat)), A.t (T.int 0), A.t (T.node fs), A.t (T.node f1)] = _ := q2
  rw [q_graph_Graph_string_Turned]
  simp only [S0, S9, S1, S2, if_true, if_false, q1, q3, tl_len, q2']
theorem turn_pts {l : List ByteArray} {L : List (ByteArray × ByteArray)} : ptsOf (ptsOf l L) (turnL (ptsOf l L) (toOf L)) = ptsOf l L := by
  refine Ri.ext (pts_rise _ _) (pts_rise _ _) fun x => ?_
  rw [mem_pts (l := ptsOf l L)]
  constructor
  · rintro (h | ⟨⟨a, b⟩, hy, h⟩)
    · exact h
    · obtain ⟨h1, h2⟩ := mem_turn.1 hy
      have h3 := mem_to.1 h2
      rcases h with rfl | rfl
      · exact mem_pts.2 (.inr ⟨_, h3, .inr rfl⟩)
      · exact h1
  · exact .inl
theorem turn_to {l : List ByteArray} {L : List (ByteArray × ByteArray)} (s : ByteArray) : toOf (turnL (ptsOf l L) (toOf L)) s = toOf (swp L) s := by
  refine Ri.ext (to_rise _ _) (to_rise _ _) fun x => ?_
  rw [mem_to, mem_to, mem_turn, mem_to, mem_swp]
  exact ⟨fun h => h.2, fun h => ⟨mem_pts.2 (.inr ⟨_, h, .inl rfl⟩), h⟩⟩
def turnT (x : T) : T := .node [.str (ln x).2, .str (ln x).1]
theorem turnT_ln (lt : List T) : (lt.map turnT).map ln = swp (lt.map ln) := by
  unfold swp
  rw [List.map_map, List.map_map]
  rfl
end Go.Proofs.YtbejhhoakeapgaaGO
namespace Go.Proofs.YtbejhhoakeapgaaGO
open Go Go.Proofs.YtbejhhoakeapgaaVM
set_option linter.unusedVariables false
set_option linter.unusedSimpArgs false
set_option maxRecDepth 100000

def okB (lt : List T) : Bool := lt.all fun x => decide ((ln x).1.size ≤ 100) && decide ((ln x).2.size ≤ 100)
def okN (l : List T) : Bool := l.all fun x => decide (x.txt.size ≤ 100)
theorem few1_loop (l : List T) (lt : List T) (hl : l.length ≤ 1000) : ∀ (k j : Nat), j + k = l.length →
    Dz i_L17_few (some p_L17_few_c1) [A.t (T.node l), A.t (T.node lt), A.t (T.int j)] (if okN (l.drop j) then (2, [A.t (T.node lt)]) else (1, [A.t (T.bool false)])) := by
  intro k
  induction k with
  | zero =>
    intro j hj
    refine Does.now fun m => ?_
    rw [q_L17_few_c1, List.drop_of_length_le (by omega)]
    simp only [S0, S9, S1, S2, if_true, if_false]
    rw [if_neg (by omega)]
    rfl
  | succ k ih =>
    intro j hj
    have hlt : j < l.length := by omega
    have hw : IntKind.i64.wrap ((j : Int) + 1) = ((j + 1 : Nat) : Int) := i64succ (by omega)
    obtain ⟨n0, h0⟩ := ih (j + 1) (by omega)
    refine Does.of n0 fun m hm => ?_
    have q := h0 m hm
    have e : okN (l[j] :: l.drop (j + 1)) = (decide (l[j].txt.size ≤ 100) && okN (l.drop (j + 1))) := rfl
    rw [q_L17_few_c1, List.drop_eq_getElem_cons hlt, e]
    simp only [S0, S9, S1, S2, if_true, if_false, at_get hlt, hw]
    rw [if_pos (by omega), if_pos (by omega)]
    by_cases h : l[j].txt.size ≤ 100
    · rw [if_neg (by omega), q]
      simp only [h, true_and]
    · rw [if_pos (by omega)]
      simp only [h, false_and, if_false]
theorem few2_loop (lt : List T) (hl : lt.length ≤ 1000) : ∀ (k j : Nat), j + k = lt.length →
    Dz i_L17_few (some p_L17_few_c2) [A.t (T.node lt), A.t (T.int j)] (if okB (lt.drop j) then (4, []) else (1, [A.t (T.bool false)])) := by
  intro k
  induction k with
  | zero =>
    intro j hj
    refine Does.now fun m => ?_
    rw [q_L17_few_c2, List.drop_of_length_le (by omega)]
    simp only [S0, S9, S1, S2, if_true, if_false]
    rw [if_neg (by omega)]
    rfl
  | succ k ih =>
    intro j hj
    have hlt : j < lt.length := by omega
    have hw : IntKind.i64.wrap ((j : Int) + 1) = ((j + 1 : Nat) : Int) := i64succ (by omega)
    obtain ⟨n0, h0⟩ := ih (j + 1) (by omega)
    refine Does.of n0 fun m hm => ?_
    have q := h0 m hm
    have e : okB (lt[j] :: lt.drop (j + 1)) = ((decide ((ln lt[j]).1.size ≤ 100) && decide ((ln lt[j]).2.size ≤ 100)) && okB (lt.drop (j + 1))) := rfl
    rw [q_L17_few_c2, List.drop_eq_getElem_cons hlt, e]
    simp only [S0, S9, S1, S2, if_true, if_false, at_get hlt, ln0, ln1, hw]
    rw [if_pos (by omega), if_pos (by omega)]
    by_cases h : (ln lt[j]).1.size ≤ 100
    · by_cases h2 : (ln lt[j]).2.size ≤ 100
      · rw [if_pos (by omega), if_pos (by omega), if_neg (by omega), q]
        simp only [h, h2, true_and]
      · rw [if_pos (by omega), if_pos (by omega), if_pos (by omega)]
        simp only [h, h2, false_and, and_false, if_false]
    · rw [if_neg (by omega)]
      simp only [h, false_and, if_false]
def fewG (l lt : List T) : Bool := decide (l.length ≤ 30) && decide (lt.length ≤ 60) && okN l && okB lt
theorem few_does (l lt : List T) : Dz i_L17_few none [A.t (T.node l), A.t (T.node lt)] (1, [A.t (T.bool (fewG l lt))]) := by
  unfold fewG
  by_cases h1 : l.length ≤ 30
  · by_cases h2 : lt.length ≤ 60
    · obtain ⟨n0, h0⟩ := (few1_loop l lt (by omega) l.length 0 (by omega)).both (few2_loop lt (by omega) lt.length 0 (by omega))
      rw [List.drop_zero, List.drop_zero] at h0
      refine Does.of n0 fun m hm => ?_
      have q1 : den Try.prog G0 ents m i_L17_few (some p_L17_few_c1) [A.t (T.node l), A.t (T.node lt), A.t (T.int 0)] = _ := (h0 m hm).1
      have q2 : den Try.prog G0 ents m i_L17_few (some p_L17_few_c2) [A.t (T.node lt), A.t (T.int 0)] = _ := (h0 m hm).2
      rw [q_L17_few]
      cases hn : okN l with
      | false =>
        rw [hn] at q1
        simp only [S0, S9, S1, S2, if_true, if_false, q1, Bool.false_eq_true]
        rw [if_pos (by omega), if_neg (by omega)]
        simp [h1, h2]
      | true =>
        rw [hn] at q1
        cases hb : okB lt with
        | false =>
          rw [hb] at q2
          simp only [S0, S9, S1, S2, if_true, if_false, q1, q2, Bool.false_eq_true]
          rw [if_pos (by omega), if_neg (by omega)]
          simp [h1, h2]
        | true =>
          rw [hb] at q2
          simp only [S0, S9, S1, S2, if_true, if_false, q1, q2, show Nat.beq 4 4 = true from rfl]
          rw [if_pos (by omega), if_neg (by omega)]
          simp [h1, h2]
    · refine Does.now fun m => ?_
      rw [q_L17_few]
      simp only [S0, S9, S1, S2, if_true, if_false]
      rw [if_pos (by omega), if_pos (by omega)]
      simp [h1, h2]
  · refine Does.now fun m => ?_
    rw [q_L17_few]
    simp only [S0, S9, S1, S2, if_true, if_false]
    rw [if_neg (by omega)]
    simp [h1]
theorem few_ok {l lt : List T} (h : fewG l lt = true) : l.length ≤ 30 ∧ lt.length ≤ 60 ∧ (∀ x ∈ l.map T.txt, x.size ≤ 100) ∧ (∀ x ∈ lt, (ln x).1.size ≤ 100 ∧ (ln x).2.size ≤ 100) := by
  unfold fewG at h
  simp only [Bool.and_eq_true, decide_eq_true_eq] at h
  obtain ⟨⟨⟨h1, h2⟩, h3⟩, h4⟩ := h
  refine ⟨h1, h2, fun x hx => ?_, fun x hx => ?_⟩
  · obtain ⟨y, hy, e⟩ := List.mem_map.1 hx
    have := List.all_eq_true.1 h3 y hy
    rw [decide_eq_true_eq] at this
    rw [← e]; exact this
  · have := List.all_eq_true.1 h4 x hx
    simpa using this
theorem awakeG_does : Dz i_L17_awake none [] (1, [A.t (T.bool true)]) := run_of 200 fun n => by kernel_rfl
end Go.Proofs.YtbejhhoakeapgaaGO
namespace Go.Proofs.YtbejhhoakeapgaaGO
open Go Go.Proofs.YtbejhhoakeapgaaVM
set_option linter.unusedVariables false
set_option linter.unusedSimpArgs false
set_option maxRecDepth 100000

theorem texts_of {t : T} (h : TOk Try.prog 22 t) : t.kids = tl (t.kids.map T.txt) := by
  obtain ⟨xs, rfl, _, hx⟩ := TOk.row_of Try.underlying22 h
  show xs = (xs.map T.txt).map T.str
  rw [List.map_map]
  have : ∀ x ∈ xs, (T.str ∘ T.txt) x = x := fun x hx' => by
    obtain ⟨s, rfl, _⟩ := TOk.str_of Try.underlying9 (hx x hx')
    rfl
  rw [List.map_congr_left this, List.map_id']
end Go.Proofs.YtbejhhoakeapgaaGO
namespace Go.Proofs.YtbejhhoakeapgaaGO
open Go Go.Proofs.YtbejhhoakeapgaaVM
set_option linter.unusedVariables false
set_option linter.unusedSimpArgs false
set_option maxRecDepth 100000

def cnt (t : ByteArray → List ByteArray) (out : List ByteArray) (x : ByteArray) : Nat := ((t x).filter fun y => !hasB y out).length
def fz (p out : List ByteArray) (c : ByteArray → Nat) : List ByteArray := p.filter fun x => !hasB x out && Nat.beq (c x) 0
def lft (p out : List ByteArray) : List ByteArray := p.filter fun x => !hasB x out
def stepO (p : List ByteArray) (t : ByteArray → List ByteArray) (out : List ByteArray) : List ByteArray :=
  match fz p out (cnt t out) with
  | [] => out
  | s :: _ => out ++ [s]
def iterO (p : List ByteArray) (t : ByteArray → List ByteArray) : Nat → List ByteArray → List ByteArray
  | 0, o => o
  | k + 1, o => iterO p t k (stepO p t o)
theorem iterO_still {p : List ByteArray} {t : ByteArray → List ByteArray} {o : List ByteArray} (h : fz p o (cnt t o) = []) : ∀ k, iterO p t k o = o
  | 0 => rfl
  | k + 1 => by
    have e : stepO p t o = o := by unfold stepO; rw [h]
    show iterO p t k (stepO p t o) = o
    rw [e]; exact iterO_still h k
theorem mem_fz {p out : List ByteArray} {c : ByteArray → Nat} {x : ByteArray} : x ∈ fz p out c ↔ x ∈ p ∧ x ∉ out ∧ c x = 0 := by
  unfold fz
  rw [List.mem_filter, Bool.and_eq_true, Bool.not_eq_true', Nat.beq_eq]
  constructor
  · rintro ⟨h1, h2, h3⟩
    exact ⟨h1, fun h => (by rw [hasB_iff.2 h] at h2; cases h2), h3⟩
  · rintro ⟨h1, h2, h3⟩
    exact ⟨h1, hasB_no h2, h3⟩
theorem mem_lft {p out : List ByteArray} {x : ByteArray} : x ∈ lft p out ↔ x ∈ p ∧ x ∉ out := by
  unfold lft
  rw [List.mem_filter, Bool.not_eq_true']
  constructor
  · rintro ⟨h1, h2⟩
    exact ⟨h1, fun h => by rw [hasB_iff.2 h] at h2; cases h2⟩
  · rintro ⟨h1, h2⟩
    exact ⟨h1, hasB_no h2⟩
theorem fz_rise {p out : List ByteArray} {c : ByteArray → Nat} (h : Ri p) : Ri (fz p out c) := h.sublist List.filter_sublist
theorem lft_rise {p out : List ByteArray} (h : Ri p) : Ri (lft p out) := h.sublist List.filter_sublist
theorem cnt_all {t : ByteArray → List ByteArray} {out : List ByteArray} {x : ByteArray} : cnt t out x = 0 ↔ ∀ y ∈ t x, y ∈ out := by
  unfold cnt
  rw [List.length_eq_zero_iff, List.filter_eq_nil_iff]
  constructor
  · intro h y hy
    have := h y hy
    rw [Bool.not_eq_true', Bool.not_eq_false] at this
    exact hasB_iff.1 this
  · intro h y hy
    rw [Bool.not_eq_true', Bool.not_eq_false]
    exact hasB_iff.2 (h y hy)
theorem all_cnt (t : ByteArray → List ByteArray) (out : List ByteArray) (x : ByteArray) : ((t x).all fun y => hasB y out) = Nat.beq (cnt t out x) 0 := by
  rw [Bool.eq_iff_iff, List.all_eq_true, Nat.beq_eq, cnt_all]
  exact ⟨fun h y hy => hasB_iff.1 (h y hy), fun h y hy => hasB_iff.2 (h y hy)⟩
theorem hasB_snoc (x s : ByteArray) (out : List ByteArray) : hasB x (out ++ [s]) = (hasB x out || decide (x = s)) := by
  rw [Bool.eq_iff_iff, Bool.or_eq_true, hasB_iff, hasB_iff, decide_eq_true_eq, List.mem_append, List.mem_singleton]
theorem cnt_snoc {t : ByteArray → List ByteArray} {out : List ByteArray} {x s : ByteArray} (ht : (t x).Nodup) (hs : s ∉ out) : cnt t (out ++ [s]) x = if hasB s (t x) then cnt t out x - 1 else cnt t out x := by
  unfold cnt
  generalize t x = l at ht ⊢
  induction l with
  | nil => rfl
  | cons y l ih =>
    obtain ⟨h1, h2⟩ := List.nodup_cons.1 ht
    have ih := ih h2
    have hcons : hasB s (y :: l) = (seqB y s || hasB s l) := rfl
    rw [List.filter_cons, List.filter_cons, hcons, hasB_snoc]
    by_cases e : y = s
    · subst e
      have hn : hasB y l = false := hasB_no h1
      rw [hn] at ih
      simp only [Bool.false_eq_true, if_false] at ih
      rw [seq_is.2 rfl, hasB_no hs]
      simp only [Bool.false_or, decide_true, Bool.not_true, Bool.false_eq_true, if_false, Bool.true_or, if_true, Bool.not_false, List.length_cons]
      omega
    · rw [seq_no e, decide_eq_false e, Bool.or_false, Bool.false_or]
      cases hb : hasB y out with
      | true =>
        simp only [Bool.not_true, Bool.false_eq_true, if_false]
        exact ih
      | false =>
        simp only [Bool.not_false, if_true, List.length_cons]
        rw [ih]
        split
        · rename_i hh
          have : 1 ≤ (l.filter fun y => !hasB y out).length := by
            have hm : s ∈ l.filter fun y => !hasB y out := List.mem_filter.2 ⟨hasB_iff.1 hh, by rw [hasB_no hs]; rfl⟩
            exact List.length_pos_of_mem hm
          omega
        · rfl
theorem fz_tail {p out : List ByteArray} {c : ByteArray → Nat} (hp : Ri p) {s : ByteArray} {rest : List ByteArray} (h : fz p out c = s :: rest) : fz p (out ++ [s]) c = rest := by
  have hr : Ri (s :: rest) := h ▸ fz_rise hp
  obtain ⟨h1, h2⟩ := List.pairwise_cons.1 hr
  refine Ri.ext (fz_rise hp) h2 fun x => ?_
  have hm : x ∈ fz p out c ↔ x ∈ s :: rest := by rw [h]
  rw [mem_fz] at hm ⊢
  rw [List.mem_append, List.mem_singleton, not_or]
  rw [List.mem_cons] at hm
  constructor
  · rintro ⟨a, ⟨b, b2⟩, d⟩
    exact (hm.1 ⟨a, b, d⟩).resolve_left b2
  · intro hx
    obtain ⟨a, b, d⟩ := hm.2 (.inr hx)
    exact ⟨a, ⟨b, fun e => lt_ne (h1 x hx) e.symm⟩, d⟩
theorem fz_congr {p out : List ByteArray} {c d : ByteArray → Nat} (h : ∀ x, c x = d x) : fz p out c = fz p out d := by
  rw [show c = d from funext h]
theorem cnt_nil (t : ByteArray → List ByteArray) (x : ByteArray) : cnt t [] x = (t x).length := by
  unfold cnt
  have : ((t x).filter fun y => !hasB y []) = t x := List.filter_eq_self.2 fun y _ => rfl
  rw [this]
structure Ks (ms : List T) (free p out : List ByteArray) (c : ByteArray → Nat) : Prop where
  keys : (ms.map ky).Perm (lft p out)
  num : ∀ x ∈ p, x ∉ out → (gZ (.int 0) ms x).num = (c x : Nat)
  free : free = fz p out c
def decN (c : ByteArray → Nat) (b : ByteArray) : ByteArray → Nat := fun x => if x = b then c b - 1 else c x
theorem Ks.dec {ms : List T} {free p out : List ByteArray} {c : ByteArray → Nat} (h : Ks ms free p out c) (hp : Ri p) {b : ByteArray} (hb : b ∈ p) (ho : b ∉ out) (h1 : 1 ≤ c b) : Ks (putF ms b (.int ((c b - 1 : Nat) : Int))) (if c b = 1 then insT b free else free) p out (decN c b) := by
  have hk : b ∈ ms.map ky := h.keys.mem_iff.2 (mem_lft.2 ⟨hb, ho⟩)
  refine ⟨by rw [put_in hk]; exact h.keys, fun x hx hxo => ?_, ?_⟩
  · rw [gZ_put]
    unfold decN
    split
    · rfl
    · exact h.num x hx hxo
  · have hf := h.free
    subst hf
    split
    · rename_i e
      refine Ri.ext (insT_rise (fz_rise hp)) (fz_rise hp) fun x => ?_
      rw [mem_insT, mem_fz, mem_fz]
      unfold decN
      by_cases e2 : x = b
      · subst e2
        rw [if_pos rfl]
        exact ⟨fun _ => ⟨hb, ho, by omega⟩, fun _ => .inl rfl⟩
      · rw [if_neg e2]
        exact ⟨fun h => h.resolve_left e2, .inr⟩
    · rename_i e
      refine Ri.ext (fz_rise hp) (fz_rise hp) fun x => ?_
      rw [mem_fz, mem_fz]
      unfold decN
      by_cases e2 : x = b
      · subst e2
        rw [if_pos rfl]
        exact ⟨fun h => ⟨h.1, h.2.1, by omega⟩, fun h => ⟨h.1, h.2.1, by omega⟩⟩
      · rw [if_neg e2]
theorem Ks.nodup {ms : List T} {free p out : List ByteArray} {c : ByteArray → Nat} (h : Ks ms free p out c) (hp : Ri p) : (ms.map ky).Nodup := h.keys.nodup_iff.2 (lft_rise hp).nodup
theorem ky_del : ∀ (fs : List T) (k : ByteArray), (fs.map ky).Nodup → (delF fs k).map ky = (fs.map ky).filter fun x => decide (x ≠ k)
  | [], k, _ => rfl
  | e :: fs, k, hn => by
    obtain ⟨h1, h2⟩ := List.nodup_cons.1 hn
    have ih := ky_del fs k h2
    unfold delF at ih ⊢
    simp only [mdel]
    cases hk : keyS (.str k) (e.get 0) with
    | true =>
      have hke : k = ky e := (key_iff _ _).1 hk
      subst hke
      simp only [cond_true]
      rw [List.map_cons, List.filter_cons, if_neg (by simp), List.filter_eq_self.2]
      intro y hy
      exact decide_eq_true fun e2 => h1 (e2 ▸ hy)
    | false =>
      have hke : ky e ≠ k := fun e2 => by
        have := (key_iff (.str k) (e.get 0)).2 e2.symm
        rw [hk] at this; cases this
      simp only [cond_false]
      rw [List.map_cons, ih, List.map_cons, List.filter_cons, if_pos (decide_eq_true hke)]
theorem lft_snoc (p out : List ByteArray) (s : ByteArray) : lft p (out ++ [s]) = (lft p out).filter fun x => decide (x ≠ s) := by
  unfold lft
  rw [List.filter_filter]
  congr 1
  funext x
  rw [hasB_snoc]
  by_cases e : x = s <;> cases hasB x out <;> simp [e]
theorem Ks.take {ms : List T} {free p out : List ByteArray} {c : ByteArray → Nat} {s : ByteArray} {rest : List ByteArray} (h : Ks ms free p out c) (hp : Ri p) (hf : free = s :: rest) : Ks (delF ms s) rest p (out ++ [s]) c := by
  refine ⟨?_, fun x hx hxo => ?_, ?_⟩
  · rw [ky_del ms s (h.nodup hp), lft_snoc]
    exact h.keys.filter _
  · rw [List.mem_append, List.mem_singleton, not_or] at hxo
    rw [gZ_del _ _ _ _ hxo.2]
    exact h.num x hx hxo.1
  · rw [fz_tail hp (h.free.symm.trans hf)]
end Go.Proofs.YtbejhhoakeapgaaGO
namespace Go.Proofs.YtbejhhoakeapgaaGO
open Go Go.Proofs.YtbejhhoakeapgaaVM
set_option linter.unusedVariables false
set_option linter.unusedSimpArgs false
set_option maxRecDepth 100000

theorem gI_eq (fs : List T) (s : ByteArray) : mget keyS (T.int 0) fs (T.str s) = gZ (.int 0) fs s := id rfl
theorem putI_eq (fs : List T) (s : ByteArray) (v : T) : mput keyS fs (T.str s) v = putF fs s v := id rfl
theorem delI_eq (fs : List T) (s : ByteArray) : mdel keyS fs (T.str s) = delF fs s := id rfl
theorem gZ_self (z : T) (fs : List T) (k : ByteArray) (v : T) : gZ z (putF fs k v) k = v := by rw [gZ_put, if_pos rfl]
theorem ord3_loop (p out : List ByteArray) (hp : Ri p) (hpl : p.length ≤ 100000) (w : List ByteArray) (hw : w.length ≤ 100000) (fsX outX gX : List T) : ∀ (k j : Nat) (ms : List T) (free : List ByteArray) (c : ByteArray → Nat), j + k = w.length → Ks ms free p out c → (∀ x ∈ w.drop j, x ∈ p ∧ x ∉ out ∧ 1 ≤ c x) → (w.drop j).Nodup → (∀ x, c x ≤ 1000000) →
    ∃ ms' free', Ks ms' free' p out (fun x => if hasB x (w.drop j) then c x - 1 else c x) ∧
      Dz i_graph_Graph_string_Order (some p_graph_Graph_string_Order_c3) [A.t (T.node (tl free)), A.t (T.int (w.length : Nat)), A.t (T.int j), A.t (T.node fsX), A.t (T.node outX), A.t (T.node ms), A.t (T.node (tl w)), A.t (T.node gX)] (6, [A.t (T.node (tl free')), A.t (T.node fsX), A.t (T.node outX), A.t (T.node ms'), A.t (T.node gX)]) := by
  intro k
  induction k with
  | zero =>
    intro j ms free c hj h _ _ _
    rw [List.drop_of_length_le (by omega)]
    refine ⟨ms, free, h, Does.now fun m => ?_⟩
    rw [q_graph_Graph_string_Order_c3]
    simp only [S0, S9, S1, S2, if_true, if_false]
    rw [if_neg (by omega)]
  | succ k ih =>
    intro j ms free c hj h hx hn hc
    have hlt : j < w.length := by omega
    have hw1 : IntKind.i64.wrap ((j : Int) + 1) = ((j + 1 : Nat) : Int) := i64succ (by omega)
    rw [List.drop_eq_getElem_cons hlt] at hx hn
    obtain ⟨hn1, hn2⟩ := List.nodup_cons.1 hn
    obtain ⟨x1, x2, x3⟩ := hx _ List.mem_cons_self
    have hcb := hc w[j]
    have hd := h.dec hp x1 x2 x3
    obtain ⟨ms', free', g, d⟩ := ih (j + 1) _ _ (decN c w[j]) (by omega) hd (fun x hxm => by
      obtain ⟨y1, y2, y3⟩ := hx x (List.mem_cons_of_mem _ hxm)
      refine ⟨y1, y2, ?_⟩
      unfold decN
      rw [if_neg fun e => hn1 (by rw [← e]; exact hxm)]
      exact y3) hn2 (fun x => by unfold decN; split <;> first | omega | exact hc x)
    have he : (fun x => if hasB x (w.drop (j + 1)) then decN c w[j] x - 1 else decN c w[j] x) = fun x => if hasB x (w.drop j) then c x - 1 else c x := by
      funext x
      rw [List.drop_eq_getElem_cons hlt]
      have hcons : hasB x (w[j] :: w.drop (j + 1)) = (seqB w[j] x || hasB x (w.drop (j + 1))) := rfl
      rw [hcons]
      unfold decN
      by_cases e : x = w[j]
      · rw [if_pos e, e, hasB_no hn1, seq_is.2 rfl]
        simp
      · rw [if_neg e, seq_no fun h => e h.symm, Bool.false_or]
    rw [he] at g
    have hnum := h.num _ x1 x2
    have hwn : IntKind.i64.wrap (((c w[j] : Nat) : Int) - 1) = ((c w[j] - 1 : Nat) : Int) := by
      rw [show ((c w[j] : Nat) : Int) - 1 = ((c w[j] - 1 : Nat) : Int) by omega]
      exact i64nat (by omega)
    have hfr : Ri free := h.free ▸ fz_rise hp
    have hfl : free.length ≤ p.length := by rw [h.free]; exact List.length_filter_le _ _
    by_cases e1 : c w[j] = 1
    · rw [if_pos e1] at d
      have hnf : w[j] ∉ free := by rw [h.free, mem_fz]; intro hh; omega
      obtain ⟨n0, h0⟩ := (bs_does free w[j] (by omega) hfr).both (clone_does (l := tl free) (by rw [tl_len]; omega))
      obtain ⟨n1, h1⟩ := (ins_does (l := free) (s := w[j]) (by omega) hnf).both d
      refine ⟨ms', free', g, Does.of (n0 + n1) fun m hm => ?_⟩
      obtain ⟨q1, q2⟩ := h0 m (by omega)
      obtain ⟨q3, q4⟩ := h1 m (by omega)
      have hzero : c w[j] - 1 = 0 := by omega
      rw [q_graph_Graph_string_Order_c3]
      simp only [S0, S9, S1, S2, if_true, if_false, tl_len, tl_get hlt, txt_s, hw1, gI_eq, putI_eq, hnum, hwn, gZ_self, hzero, q1, q2, q3]
      rw [if_pos (by omega), if_pos (by omega), if_pos (by omega), if_pos (by omega)]
      rw [hzero] at q4
      exact q4
    · rw [if_neg e1] at d
      obtain ⟨n0, h0⟩ := d
      refine ⟨ms', free', g, Does.of n0 fun m hm => ?_⟩
      have q := h0 m hm
      rw [q_graph_Graph_string_Order_c3]
      simp only [S0, S9, S1, S2, if_true, if_false, tl_len, tl_get hlt, txt_s, hw1, gI_eq, putI_eq, hnum, hwn, gZ_self]
      rw [if_pos (by omega), if_pos (by omega), if_pos (by omega), if_neg (by omega)]
      exact q
def Cl (t : ByteArray → List ByteArray) (out : List ByteArray) : Prop := ∀ x ∈ out, ∀ y ∈ t x, y ∈ out
theorem least_does (s : ByteArray) (l : List ByteArray) (hl : l.length ≤ 1000000) : Dz i_graph_least_string none [A.t (T.node (tl (s :: l)))] (1, [A.t (T.str s), A.t (T.node (tl l))]) := Does.now fun m => by
  have e : tl (s :: l) = T.str s :: tl l := rfl
  have hl2 := tl_len l
  rw [q_graph_least_string, e]
  simp only [S0, S9, S1, S2, if_true, if_false, List.length_cons, hl2]
  rw [if_pos (by omega), if_pos ⟨⟨⟨by omega, by omega⟩, trivial⟩, by omega⟩]
  rw [show l.length + 1 = (tl l).length + 1 by rw [tl_len], ← List.length_cons (a := T.str s), List.take_length]
  rfl
theorem ord2_loop (p : List ByteArray) (hp : Ri p) (hpl : p.length ≤ 100000) (t tt : ByteArray → List ByteArray) (ht : ∀ x, (t x).Nodup) (htl : ∀ x, (t x).length ≤ 1000) (htt : ∀ x s, x ∈ tt s ↔ s ∈ t x) (htp : ∀ x s, x ∈ tt s → x ∈ p) {gt : List T} {pg : List ByteArray} (hg : Gr gt pg tt) (httl : ∀ s, (tt s).length ≤ 1000) (fsX : List T) :
    ∀ (k : Nat) (out : List ByteArray) (ms : List T) (free : List ByteArray), p.length ≤ out.length + k → Ks ms free p out (cnt t out) → Cl t out → out.Nodup → (∀ x ∈ out, x ∈ p) →
    ∃ ms', Ks ms' [] p (iterO p t k out) (cnt t (iterO p t k out)) ∧ (iterO p t k out).Nodup ∧ (∀ x ∈ iterO p t k out, x ∈ p) ∧
      Dz i_graph_Graph_string_Order (some p_graph_Graph_string_Order_c2) [A.t (T.node (tl free)), A.t (T.node fsX), A.t (T.node (tl out)), A.t (T.node ms), A.t (T.node gt)] (4, [A.t (T.node fsX), A.t (T.node (tl (iterO p t k out))), A.t (T.node ms')]) := by
  intro k
  induction k with
  | zero =>
    intro out ms free hk h hcl hn ho
    cases hf : free with
    | nil =>
      subst hf
      refine ⟨ms, h, hn, ho, Does.now fun m => ?_⟩
      rw [q_graph_Graph_string_Order_c2]
      simp only [S0, S9, S1, S2, if_true, if_false]
      rfl
    | cons s rest =>
      exfalso
      have hs : s ∈ fz p out (cnt t out) := by rw [← h.free, hf]; exact List.mem_cons_self
      obtain ⟨s1, s2, _⟩ := mem_fz.1 hs
      have : (s :: out).length ≤ p.length := List.Nodup.length_le_of_subset (List.nodup_cons.2 ⟨s2, hn⟩) fun x hx => (List.mem_cons.1 hx).elim (fun e => e ▸ s1) (ho x)
      rw [List.length_cons] at this
      omega
  | succ k ih =>
    intro out ms free hk h hcl hn ho
    cases hf : free with
    | nil =>
      subst hf
      rw [iterO_still h.free.symm]
      refine ⟨ms, h, hn, ho, Does.now fun m => ?_⟩
      rw [q_graph_Graph_string_Order_c2]
      simp only [S0, S9, S1, S2, if_true, if_false]
      rfl
    | cons s rest =>
      have hfz : fz p out (cnt t out) = s :: rest := h.free.symm.trans hf
      have hs : s ∈ fz p out (cnt t out) := by rw [hfz]; exact List.mem_cons_self
      obtain ⟨s1, s2, s3⟩ := mem_fz.1 hs
      rw [cnt_all] at s3
      have hit : iterO p t (k + 1) out = iterO p t k (out ++ [s]) := by
        show iterO p t k (stepO p t out) = _
        unfold stepO
        rw [hfz]
      rw [hit]
      have hn' : (out ++ [s]).Nodup := by
        rw [List.nodup_append]
        exact ⟨hn, List.pairwise_singleton _ _, fun a ha b hb e => s2 (by rw [List.mem_singleton.1 hb] at e; exact e ▸ ha)⟩
      have ho' : ∀ x ∈ out ++ [s], x ∈ p := fun x hx => (List.mem_append.1 hx).elim (ho x) fun h => by rw [List.mem_singleton.1 h]; exact s1
      have hol : (out ++ [s]).length ≤ p.length := List.Nodup.length_le_of_subset hn' ho'
      rw [List.length_append, List.length_singleton] at hol
      have hcl' : Cl t (out ++ [s]) := fun x hx y hy => List.mem_append_left _ (by
        rcases List.mem_append.1 hx with hx | hx
        · exact hcl x hx y hy
        · rw [List.mem_singleton.1 hx] at hy; exact s3 y hy)
      have hcle : ∀ x, cnt t out x ≤ 1000000 := fun x => by have := List.length_filter_le (fun y => !hasB y out) (t x); have := htl x; unfold cnt; omega
      obtain ⟨ms1, free1, g1, d1⟩ := ord3_loop p (out ++ [s]) hp hpl (tt s) (by have := httl s; omega) fsX (tl (out ++ [s])) gt (tt s).length 0 (delF ms s) rest (cnt t out) (by omega) (h.take hp hf) (fun x hx => by
        rw [List.drop_zero] at hx
        have hsx := (htt x s).1 hx
        refine ⟨htp x s hx, fun hxo => ?_, ?_⟩
        · rcases List.mem_append.1 hxo with hxo | hxo
          · exact s2 (hcl x hxo s hsx)
          · rw [List.mem_singleton.1 hxo] at hsx; exact s2 (s3 s hsx)
        · exact List.length_pos_of_mem (List.mem_filter.2 ⟨hsx, by rw [hasB_no s2]; rfl⟩)) (by rw [List.drop_zero]; exact (hg.tri s).nodup) hcle
      rw [List.drop_zero] at g1
      have he : (fun x => if hasB x (tt s) then cnt t out x - 1 else cnt t out x) = cnt t (out ++ [s]) := by
        funext x
        rw [cnt_snoc (ht x) s2]
        have : hasB x (tt s) = hasB s (t x) := by rw [Bool.eq_iff_iff, hasB_iff, hasB_iff]; exact htt x s
        rw [this]
      rw [he] at g1
      obtain ⟨ms', g2, g3, g4, d2⟩ := ih (out ++ [s]) ms1 free1 (by rw [List.length_append, List.length_singleton]; omega) g1 hcl' hn' ho'
      have hfl : (s :: rest).length ≤ p.length := by rw [← hfz]; exact List.length_filter_le _ _
      rw [List.length_cons] at hfl
      obtain ⟨n0, h0⟩ := (least_does s rest (by omega)).both (pto_does hg s)
      obtain ⟨n1, h1⟩ := d1.both d2
      have hsz : Nat.succ out.length < 1073741824 := by show out.length + 1 < _; omega
      refine ⟨ms', g2, g3, g4, Does.of (n0 + n1) fun m hm => ?_⟩
      obtain ⟨q1, q2⟩ := h0 m (by omega)
      obtain ⟨q3, q4⟩ := h1 m (by omega)
      rw [tl_app] at q3 q4
      have q3' : den Try.prog G0 ents m i_graph_Graph_string_Order (some p_graph_Graph_string_Order_c3) [A.t (T.node (tl rest)), A.t (T.int ((tt s).length : Nat)), A.t (T.int 0), A.t (T.node fsX), A.t (T.node (tl out ++ [T.str s])), A.t (T.node (delF ms s)), A.t (T.node (tl (tt s))), A.t (T.node gt)] = some (6, [A.t (T.node (tl free1)), A.t (T.node fsX), A.t (T.node (tl out ++ [T.str s])), A.t (T.node ms1), A.t (T.node gt)]) := q3
      rw [q_graph_Graph_string_Order_c2]
      simp only [S0, S9, S1, S2, if_true, if_false, tl_len, List.length_cons, txt_s, delI_eq, q1, q2, hsz, q3', show Nat.beq 6 6 = true from rfl]
      rw [if_pos (by omega)]
      exact q4
theorem ord1_loop {fs : List T} {p : List ByteArray} {t : ByteArray → List ByteArray} (h : Gr fs p t) (hpl : p.length ≤ 100000) (x4 gX : List T) : ∀ (k j : Nat) (ms : List T), j + k = p.length → ms.map ky = p.take j → (∀ x ∈ p.take j, (gZ (.int 0) ms x).num = ((t x).length : Nat)) →
    ∃ ms', ms'.map ky = p ∧ (∀ x ∈ p, (gZ (.int 0) ms' x).num = ((t x).length : Nat)) ∧
      Dz i_graph_Graph_string_Order (some p_graph_Graph_string_Order_c1) [A.t (T.node (tl p)), A.t (T.int (p.length : Nat)), A.t (T.int j), A.t (T.node fs), A.t (T.node x4), A.t (T.node ms), A.t (T.node (tl ((p.take j).filter fun x => Nat.beq (t x).length 0))), A.t (T.node gX)]
        (2, [A.t (T.node fs), A.t (T.node x4), A.t (T.node ms'), A.t (T.node (tl (p.filter fun x => Nat.beq (t x).length 0))), A.t (T.node gX)]) := by
  intro k
  induction k with
  | zero =>
    intro j ms hj hk hv
    rw [List.take_of_length_le (by omega)] at hk hv ⊢
    refine ⟨ms, hk, hv, Does.now fun m => ?_⟩
    rw [q_graph_Graph_string_Order_c1]
    simp only [S0, S9, S1, S2, if_true, if_false]
    rw [if_neg (by omega)]
  | succ k ih =>
    intro j ms hj hk hv
    have hlt : j < p.length := by omega
    have hw : IntKind.i64.wrap ((j : Int) + 1) = ((j + 1 : Nat) : Int) := i64succ (by omega)
    have hnm : p[j] ∉ p.take j := by
      intro hm
      obtain ⟨i, hi, e⟩ := List.getElem_of_mem hm
      rw [List.length_take] at hi
      rw [List.getElem_take] at e
      have := List.pairwise_iff_getElem.1 h.rise i j (by omega) hlt (by omega)
      exact lt_ne this e
    have hks : p[j] ∉ ms.map ky := by rw [hk]; exact hnm
    have htk := take_succ' hlt
    obtain ⟨ms', g1, g2, d⟩ := ih (j + 1) (putF ms p[j] (.int ((t p[j]).length : Nat))) (by omega) (by rw [put_out hks, hk, htk]) (fun x hx => by
      rw [gZ_put]
      rw [htk] at hx
      split
      · rename_i e; rw [e]; rfl
      · rename_i e
        exact hv x ((List.mem_append.1 hx).elim id fun h => absurd (List.mem_singleton.1 h) e))
    obtain ⟨n0, h0⟩ := (pto_does h p[j]).both d
    have hfl : ((p.take j).filter fun x => Nat.beq (t x).length 0).length ≤ p.length := Nat.le_trans (List.length_filter_le _ _) (by rw [List.length_take]; omega)
    have hsz : Nat.succ ((p.take j).filter fun x => Nat.beq (t x).length 0).length < 1073741824 := by show _ + 1 < _; omega
    refine ⟨ms', g1, g2, Does.of n0 fun m hm => ?_⟩
    obtain ⟨q1, q2⟩ := h0 m hm
    rw [htk, List.filter_append, tl_app] at q2
    rw [q_graph_Graph_string_Order_c1]
    simp only [S0, S9, S1, S2, if_true, if_false, tl_len, tl_get hlt, txt_s, hw, q1, gI_eq, putI_eq, gZ_self, hsz]
    rw [if_pos (by omega), if_pos (by omega)]
    by_cases e : (t p[j]).length = 0
    · have hf : ([p[j]].filter fun x => Nat.beq (t x).length 0) = [p[j]] := by rw [List.filter_cons, if_pos (by rw [e]; rfl)]; rfl
      rw [hf] at q2
      rw [if_pos (by omega)]
      exact q2
    · have hf : ([p[j]].filter fun x => Nat.beq (t x).length 0) = [] := by rw [List.filter_cons, if_neg (by rw [Nat.beq_eq]; exact e)]; rfl
      rw [hf] at q2
      rw [if_neg (by omega)]
      rw [show tl [] = [] from rfl, List.append_nil] at q2
      exact q2
theorem isort_eq (n : Nat) (l : List T) : den Try.prog G0 ents (Nat.succ n) i_slices_Sorted none [A.t (T.node l)] = Option.map (fun o => (1, o)) (bif keysOk l then some [A.t (T.node (keysS l)), A.t (T.node l)] else none) := by kernel_rfl
theorem order_does {fs : List T} {l : List ByteArray} {L : List (ByteArray × ByteArray)} (g : Gr fs (ptsOf l L) (toOf L)) (hl : l.length ≤ 60) (hL : L.length ≤ 60) :
    ∃ out, out = iterO (ptsOf l L) (toOf L) (ptsOf l L).length [] ∧ fz (ptsOf l L) out (cnt (toOf L) out) = [] ∧ (∀ x ∈ out, x ∈ ptsOf l L) ∧ out.Nodup ∧
      Dz i_graph_Graph_string_Order none [A.t (T.node fs)] (1, [A.t (T.node (tl (lft (ptsOf l L) out))), A.t (T.node fs), A.t (T.node (tl out))]) := by
  have hpl := pts_len l L
  have htl : ∀ s, (toOf L s).length ≤ 60 := fun s => by have := to_len L s; omega
  obtain ⟨fb, gb, d1⟩ := turned_does g (by omega) (fun s => by have := htl s; omega)
  rw [turn_pts] at gb
  have htb : ∀ s, toOf (turnL (ptsOf l L) (toOf L)) s = toOf (swp L) s := fun s => turn_to s
  have hsl : ∀ s, (toOf (swp L) s).length ≤ 60 := fun s => by have := to_len (swp L) s; unfold swp at this; rw [List.length_map] at this; unfold swp; omega
  obtain ⟨ms1, k1, k2, d2⟩ := ord1_loop g (by omega) [] fb (ptsOf l L).length 0 [] (by omega) rfl (fun x hx => by cases hx)
  have hks : Ks ms1 ((ptsOf l L).filter fun x => Nat.beq (toOf L x).length 0) (ptsOf l L) [] (cnt (toOf L) []) := by
    refine ⟨?_, fun x hx _ => by rw [cnt_nil]; exact k2 x hx, ?_⟩
    · rw [k1]
      have : lft (ptsOf l L) [] = ptsOf l L := List.filter_eq_self.2 fun y _ => rfl
      rw [this]
    · unfold fz
      congr 1
      funext x
      rw [cnt_nil]
      rfl
  obtain ⟨ms2, k3, k4, k5, d3⟩ := ord2_loop (ptsOf l L) (pts_rise l L) (by omega) (toOf L) (toOf (turnL (ptsOf l L) (toOf L))) (fun x => (to_rise L x).nodup) (fun x => by have := htl x; omega)
    (fun x s => by rw [htb, mem_to, mem_swp, mem_to]) (fun x s hx => by rw [htb, mem_to, mem_swp] at hx; exact mem_pts.2 (.inr ⟨_, hx, .inl rfl⟩)) gb (fun s => by rw [htb]; have := hsl s; omega) fs (ptsOf l L).length [] ms1 _ (by simp) hks (fun x hx => by cases hx) List.nodup_nil (fun x hx => by cases hx)
  refine ⟨_, rfl, k3.free.symm, k5, k4, ?_⟩
  generalize iterO (ptsOf l L) (toOf L) (ptsOf l L).length [] = out at *
  have hr := lft_rise (p := ptsOf l L) (out := out) (pts_rise l L)
  have hll : (lft (ptsOf l L) out).length ≤ (ptsOf l L).length := List.length_filter_le _ _
  have h1 : Dz i_maps_Keys_map_string_int_string_int none [A.t (T.node ms2)] (1, [A.t (T.node ms2)]) := Does.now fun m => by
    rw [q_maps_Keys_map_string_int_string_int]
    simp only [S0, S9, S1, S2, if_true, if_false]
  have h2 : Dz i_slices_Sorted none [A.t (T.node ms2)] (1, [A.t (T.node (keysS ms2)), A.t (T.node ms2)]) := Does.now fun n => by
    rw [isort_eq, keysOk_of k3.keys (by omega) (fun x hx => by have := g.siz x (mem_lft.1 hx).1; omega)]; rfl
  rw [keys_of k3.keys hr] at h2
  obtain ⟨n0, h0⟩ := h1.both h2
  obtain ⟨n1, h3⟩ := d1.both (points_does g)
  obtain ⟨n2, h4⟩ := d2.both d3
  refine Does.of (n0 + n1 + n2) fun m hm => ?_
  obtain ⟨q1, q2⟩ := h0 m (by omega)
  obtain ⟨q3, q4⟩ := h3 m (by omega)
  obtain ⟨q5, q6⟩ := h4 m (by omega)
  have q5' : den Try.prog G0 ents m i_graph_Graph_string_Order (some p_graph_Graph_string_Order_c1) [A.t (T.node (tl (ptsOf l L))), A.t (T.int ((ptsOf l L).length : Nat)), A.t (T.int 0), A.t (T.node fs), A.t (T.node []), A.t (T.node []), A.t (T.node []), A.t (T.node fb)] = _ := q5
  have q6' : den Try.prog G0 ents m i_graph_Graph_string_Order (some p_graph_Graph_string_Order_c2) [A.t (T.node (tl ((ptsOf l L).filter fun x => Nat.beq (toOf L x).length 0))), A.t (T.node fs), A.t (T.node []), A.t (T.node ms1), A.t (T.node fb)] = _ := q6
  rw [q_graph_Graph_string_Order]
  simp only [S0, S9, S1, S2, if_true, if_false, q1, q2, q3, q4, tl_len, q5', q6', show Nat.beq 4 4 = true from rfl]
end Go.Proofs.YtbejhhoakeapgaaGO
namespace Go.Proofs.YtbejhhoakeapgaaGO
open Go Go.Proofs.YtbejhhoakeapgaaVM
set_option linter.unusedVariables false
set_option linter.unusedSimpArgs false
set_option maxRecDepth 100000

theorem rhaso_loop (l : List ByteArray) (s : ByteArray) (hl : l.length ≤ 1000000) : ∀ (k j : Nat), j + k = l.length →
    Dz i_R17_Has_o (some p_R17_Has_o_c1) [A.t (T.str s), A.t (T.int j), A.t (T.node (tl l))] (if hasB s (l.drop j) then (1, [A.t (T.bool true), A.t (T.node (tl l))]) else (2, [A.t (T.node (tl l))])) := by
  intro k
  induction k with
  | zero =>
    intro j hj
    refine Does.now fun m => ?_
    rw [q_R17_Has_o_c1, List.drop_of_length_le (by omega)]
    simp only [S0, S9, S1, S2, if_true, if_false, tl_len]
    rw [if_neg (by omega)]
    rfl
  | succ k ih =>
    intro j hj
    have hlt : j < l.length := by omega
    have hw : IntKind.i64.wrap ((j : Int) + 1) = ((j + 1 : Nat) : Int) := i64succ (by omega)
    obtain ⟨n0, h0⟩ := ih (j + 1) (by omega)
    refine Does.of n0 fun m hm => ?_
    have q := h0 m hm
    rw [q_R17_Has_o_c1, List.drop_eq_getElem_cons hlt, hasB_cons]
    simp only [S0, S9, S1, S2, if_true, if_false, tl_len, tl_get hlt, txt_s, hw]
    rw [if_pos (by omega), if_pos (by omega), if_pos (by omega)]
    cases seqB l[j] s
    · simp only [Bool.false_eq_true, if_false, false_or]; exact q
    · simp only [if_true, true_or]
theorem rhaso_does (l : List ByteArray) (s : ByteArray) (hl : l.length ≤ 1000000) : Dz i_R17_Has_o none [A.t (T.str s), A.t (T.node (tl l))] (1, [A.t (T.bool (hasB s l)), A.t (T.node (tl l))]) := by
  obtain ⟨n0, h0⟩ := rhaso_loop l s hl l.length 0 (by omega)
  rw [List.drop_zero] at h0
  refine Does.of n0 fun m hm => ?_
  have q : den Try.prog G0 ents m i_R17_Has_o (some p_R17_Has_o_c1) [A.t (T.str s), A.t (T.int 0), A.t (T.node (tl l))] = _ := h0 m hm
  rw [q_R17_Has_o]
  simp only [S0, S9, S1, S2, if_true, if_false, q]
  cases hasB s l <;> rfl
theorem rord3_loop (x0 x1 : List T) (i : Int) (fnd : ByteArray) (sm : Bool) (jj : Int) (w out : List ByteArray) (hw : w.length ≤ 1000000) (ho : out.length ≤ 1000000) : ∀ (k j : Nat) (b : Bool), j + k = w.length →
    Dz i_R17_Order (some p_R17_Order_c3) [A.t (T.node x0), A.t (T.node x1), A.t (T.int i), A.t (T.str fnd), A.t (T.bool sm), A.t (T.int jj), A.t (T.bool b), A.t (T.node (tl w)), A.t (T.int j), A.t (T.node (tl out))]
      (6, [A.t (T.node x0), A.t (T.node x1), A.t (T.int i), A.t (T.str fnd), A.t (T.bool sm), A.t (T.int jj), A.t (T.bool (b && (w.drop j).all fun y => hasB y out)), A.t (T.node (tl out))]) := by
  intro k
  induction k with
  | zero =>
    intro j b hj
    refine Does.now fun m => ?_
    rw [q_R17_Order_c3, List.drop_of_length_le (by omega)]
    simp only [S0, S9, S1, S2, if_true, if_false, tl_len, List.all_nil, Bool.and_true]
    rw [if_neg (by omega)]
  | succ k ih =>
    intro j b hj
    have hlt : j < w.length := by omega
    have hw : IntKind.i64.wrap ((j : Int) + 1) = ((j + 1 : Nat) : Int) := i64succ (by omega)
    have hib : (0 : Int) ≤ (j : Int) ∧ (j : Int) < ((w.length : Nat) : Int) := ⟨by omega, by omega⟩
    rw [List.drop_eq_getElem_cons hlt, List.all_cons]
    cases b with
    | true =>
      obtain ⟨n0, h0⟩ := (rhaso_does out w[j] ho).both (ih (j + 1) (hasB w[j] out) (by omega))
      refine Does.of n0 fun m hm => ?_
      obtain ⟨q1, q2⟩ := h0 m hm
      rw [q_R17_Order_c3]
      simp only [S0, S9, S1, S2, if_true, if_false, tl_len, tl_get hlt, txt_s, hw, q1]
      rw [if_pos (by omega), if_pos (by omega), Bool.true_and]
      exact q2
    | false =>
      obtain ⟨n0, h0⟩ := ih (j + 1) false (by omega)
      refine Does.of n0 fun m hm => ?_
      have q := h0 m hm
      rw [q_R17_Order_c3]
      simp only [S0, S9, S1, S2, if_true, if_false, tl_len, tl_get hlt, txt_s, hw]
      rw [if_pos (by omega), Bool.false_and]
      rw [Bool.false_and] at q
      exact q
def frB (t : ByteArray → List ByteArray) (out : List ByteArray) (x : ByteArray) : Bool := !hasB x out && Nat.beq (cnt t out x) 0
theorem rord2_loop (p : List ByteArray) (hp : p.length ≤ 100000) (lt : List T) (hlt : lt.length ≤ 1000) (i : Int) (out : List ByteArray) (ho : out.length ≤ 1000000) : ∀ (k j : Nat), j + k = p.length →
    Dz i_R17_Order (some p_R17_Order_c2) [A.t (T.node (tl p)), A.t (T.node lt), A.t (T.int i), A.t (T.str ⟨List.toArray []⟩), A.t (T.bool false), A.t (T.int j), A.t (T.node (tl out))]
      (4, [A.t (T.node (tl p)), A.t (T.node lt), A.t (T.int i), A.t (T.str (((p.drop j).find? (frB (toOf (lt.map ln)) out)).getD ⟨List.toArray []⟩)), A.t (T.bool ((p.drop j).find? (frB (toOf (lt.map ln)) out)).isSome), A.t (T.node (tl out))]) := by
  intro k
  induction k with
  | zero =>
    intro j hj
    refine Does.now fun m => ?_
    rw [q_R17_Order_c2, List.drop_of_length_le (by omega)]
    simp only [S0, S9, S1, S2, if_true, if_false, tl_len, List.find?_nil, Option.getD_none, Option.isSome_none]
    rw [if_neg (by omega)]
  | succ k ih =>
    intro j hj
    have hj2 : j < p.length := by omega
    have hw : IntKind.i64.wrap ((j : Int) + 1) = ((j + 1 : Nat) : Int) := i64succ (by omega)
    have hib : (0 : Int) ≤ (j : Int) ∧ (j : Int) < ((p.length : Nat) : Int) := ⟨by omega, by omega⟩
    have htl := to_len (lt.map ln) p[j]
    rw [List.length_map] at htl
    obtain ⟨n0, h0⟩ := (rhaso_does out p[j] ho).both (ih (j + 1) (by omega))
    obtain ⟨n1, h1⟩ := (rto_does lt p[j] (by omega)).both (rord3_loop (tl p) lt i ⟨List.toArray []⟩ false (j : Nat) (toOf (lt.map ln) p[j]) out (by omega) ho (toOf (lt.map ln) p[j]).length 0 true (by omega))
    have hend : Dz i_R17_Order (some p_R17_Order_c2) [A.t (T.node (tl p)), A.t (T.node lt), A.t (T.int i), A.t (T.str p[j]), A.t (T.bool true), A.t (T.int ((j + 1 : Nat) : Int)), A.t (T.node (tl out))] (4, [A.t (T.node (tl p)), A.t (T.node lt), A.t (T.int i), A.t (T.str p[j]), A.t (T.bool true), A.t (T.node (tl out))]) := Does.now fun m => by
      rw [q_R17_Order_c2]
      simp only [S0, S9, S1, S2, if_true, if_false, tl_len, Bool.not_true]
      by_cases e : ((j + 1 : Nat) : Int) < (p.length : Nat)
      · rw [if_pos e]
      · rw [if_neg e]
    obtain ⟨n2, h2⟩ := hend
    refine Does.of (n0 + n1 + n2) fun m hm => ?_
    obtain ⟨q1, q2⟩ := h0 m (by omega)
    obtain ⟨q3, q4⟩ := h1 m (by omega)
    have q5 := h2 m (by omega)
    rw [List.drop_zero, Bool.true_and, all_cnt] at q4
    have q4' : den Try.prog G0 ents m i_R17_Order (some p_R17_Order_c3) [A.t (T.node (tl p)), A.t (T.node lt), A.t (T.int i), A.t (T.str ⟨List.toArray []⟩), A.t (T.bool false), A.t (T.int (j : Nat)), A.t (T.bool true), A.t (T.node (tl (toOf (lt.map ln) p[j]))), A.t (T.int 0), A.t (T.node (tl out))] = _ := q4
    rw [q_R17_Order_c2, List.drop_eq_getElem_cons hj2, List.find?_cons]
    have hfr : frB (toOf (lt.map ln)) out p[j] = (!hasB p[j] out && Nat.beq (cnt (toOf (lt.map ln)) out p[j]) 0) := rfl
    rw [hfr]
    simp only [S0, S9, S1, S2, if_true, if_false, tl_len, tl_get hj2, txt_s, hw, q1, q3, q4', Bool.not_false, show Nat.beq 6 6 = true from rfl, hib, and_self]
    cases hasB p[j] out with
    | true =>
      simp only [if_true, Bool.not_true, Bool.false_and]
      exact q2
    | false =>
      simp only [Bool.false_eq_true, if_false, Bool.not_false, Bool.true_and]
      cases hc : Nat.beq (cnt (toOf (lt.map ln)) out p[j]) 0 with
      | true =>
        simp only [if_true, Option.getD_some, Option.isSome_some]
        exact q5
      | false =>
        simp only [Bool.false_eq_true, if_false]
        exact q2
theorem find_fz (p : List ByteArray) (t : ByteArray → List ByteArray) (out : List ByteArray) : p.find? (frB t out) = (fz p out (cnt t out)).head? := by
  unfold fz
  rw [List.head?_filter]
  rfl
theorem rord1_loop (p : List ByteArray) (hp : p.length ≤ 100000) (lt : List T) (hlt : lt.length ≤ 1000) : ∀ (k j : Nat) (out : List ByteArray), j + k = p.length → out.length ≤ j →
    Dz i_R17_Order (some p_R17_Order_c1) [A.t (T.node (tl p)), A.t (T.node lt), A.t (T.int j), A.t (T.node (tl out))] (2, [A.t (T.node (tl p)), A.t (T.node (tl (iterO p (toOf (lt.map ln)) k out)))]) := by
  intro k
  induction k with
  | zero =>
    intro j out hj ho
    refine Does.now fun m => ?_
    rw [q_R17_Order_c1]
    simp only [S0, S9, S1, S2, if_true, if_false, tl_len]
    rw [if_neg (by omega)]
    rfl
  | succ k ih =>
    intro j out hj ho
    have hw : IntKind.i64.wrap ((j : Int) + 1) = ((j + 1 : Nat) : Int) := i64succ (by omega)
    have h2 := rord2_loop p hp lt hlt (j : Nat) out (by omega) p.length 0 (by omega)
    rw [List.drop_zero, find_fz] at h2
    have hsz : Nat.succ out.length < 1073741824 := by show _ + 1 < _; omega
    show Dz _ _ _ (2, [A.t (T.node (tl p)), A.t (T.node (tl (iterO p (toOf (lt.map ln)) k (stepO p (toOf (lt.map ln)) out))))])
    unfold stepO
    cases hf : fz p out (cnt (toOf (lt.map ln)) out) with
    | nil =>
      rw [hf] at h2
      obtain ⟨n0, h0⟩ := h2.both (ih (j + 1) out (by omega) (by omega))
      refine Does.of n0 fun m hm => ?_
      obtain ⟨q1, q2⟩ := h0 m hm
      have q1' : den Try.prog G0 ents m i_R17_Order (some p_R17_Order_c2) [A.t (T.node (tl p)), A.t (T.node lt), A.t (T.int (j : Nat)), A.t (T.str ⟨List.toArray []⟩), A.t (T.bool false), A.t (T.int 0), A.t (T.node (tl out))] = some (4, [A.t (T.node (tl p)), A.t (T.node lt), A.t (T.int (j : Nat)), A.t (T.str ⟨List.toArray []⟩), A.t (T.bool false), A.t (T.node (tl out))]) := q1
      rw [q_R17_Order_c1]
      simp only [S0, S9, S1, S2, if_true, if_false, tl_len, hw, q1', show Nat.beq 4 4 = true from rfl]
      rw [if_pos (by omega)]
      exact q2
    | cons s rest =>
      rw [hf] at h2
      obtain ⟨n0, h0⟩ := h2.both (ih (j + 1) (out ++ [s]) (by omega) (by rw [List.length_append, List.length_singleton]; omega))
      refine Does.of n0 fun m hm => ?_
      obtain ⟨q1, q2⟩ := h0 m hm
      have q1' : den Try.prog G0 ents m i_R17_Order (some p_R17_Order_c2) [A.t (T.node (tl p)), A.t (T.node lt), A.t (T.int (j : Nat)), A.t (T.str ⟨List.toArray []⟩), A.t (T.bool false), A.t (T.int 0), A.t (T.node (tl out))] = some (4, [A.t (T.node (tl p)), A.t (T.node lt), A.t (T.int (j : Nat)), A.t (T.str s), A.t (T.bool true), A.t (T.node (tl out))]) := q1
      rw [q_R17_Order_c1]
      simp only [S0, S9, S1, S2, if_true, if_false, tl_len, txt_s, hw, q1', hsz, show Nat.beq 4 4 = true from rfl]
      rw [if_pos (by omega)]
      rw [tl_app] at q2
      exact q2
theorem rord4_loop (p out : List ByteArray) (hp : p.length ≤ 100000) (ho : out.length ≤ 1000000) : ∀ (k j : Nat), j + k = p.length →
    Dz i_R17_Order (some p_R17_Order_c4) [A.t (T.node (tl p)), A.t (T.int j), A.t (T.node (tl out)), A.t (T.node (tl (lft (p.take j) out)))] (8, [A.t (T.node (tl out)), A.t (T.node (tl (lft p out)))]) := by
  intro k
  induction k with
  | zero =>
    intro j hj
    refine Does.now fun m => ?_
    rw [q_R17_Order_c4, List.take_of_length_le (by omega)]
    simp only [S0, S9, S1, S2, if_true, if_false, tl_len]
    rw [if_neg (by omega)]
  | succ k ih =>
    intro j hj
    have hlt : j < p.length := by omega
    have hw : IntKind.i64.wrap ((j : Int) + 1) = ((j + 1 : Nat) : Int) := i64succ (by omega)
    have hll : (lft (p.take j) out).length ≤ p.length := Nat.le_trans (List.length_filter_le _ _) (by rw [List.length_take]; omega)
    have hsz : Nat.succ (lft (p.take j) out).length < 1073741824 := by show _ + 1 < _; omega
    have hi := ih (j + 1) (by omega)
    have e : lft (p.take (j + 1)) out = lft (p.take j) out ++ (if hasB p[j] out then [] else [p[j]]) := by
      unfold lft
      rw [take_succ' hlt, List.filter_append, List.filter_cons]
      cases hasB p[j] out <;> rfl
    rw [e, tl_app] at hi
    obtain ⟨n0, h0⟩ := (rhaso_does out p[j] ho).both hi
    refine Does.of n0 fun m hm => ?_
    obtain ⟨q1, q2⟩ := h0 m hm
    rw [q_R17_Order_c4]
    simp only [S0, S9, S1, S2, if_true, if_false, tl_len, tl_get hlt, txt_s, hw, q1, hsz]
    rw [if_pos (by omega), if_pos (by omega)]
    cases hb : hasB p[j] out with
    | true =>
      rw [hb] at q2
      simp only [if_true, Bool.not_true, Bool.false_eq_true, if_false]
      rw [if_pos rfl, show tl [] = [] from rfl, List.append_nil] at q2
      exact q2
    | false =>
      rw [hb] at q2
      simp only [Bool.false_eq_true, if_false, Bool.not_false, if_true]
      rw [if_pos (by omega)]
      simp only [Bool.false_eq_true, if_false] at q2
      exact q2
theorem rorder17_does (p : List ByteArray) (hp : p.length ≤ 100000) (lt : List T) (hlt : lt.length ≤ 1000) {out : List ByteArray} (h : out = iterO p (toOf (lt.map ln)) p.length []) (ho : out.length ≤ 100000) :
    Dz i_R17_Order none [A.t (T.node (tl p)), A.t (T.node lt)] (1, [A.t (T.node (tl out)), A.t (T.node (tl (lft p out)))]) := by
  have h1 := rord1_loop p hp lt hlt p.length 0 [] (by omega) (Nat.le_refl _)
  rw [← h] at h1
  obtain ⟨n0, h0⟩ := h1.both (rord4_loop p out hp (by omega) p.length 0 (by omega))
  refine Does.of n0 fun m hm => ?_
  have q1 : den Try.prog G0 ents m i_R17_Order (some p_R17_Order_c1) [A.t (T.node (tl p)), A.t (T.node lt), A.t (T.int 0), A.t (T.node [])] = _ := (h0 m hm).1
  have q2 : den Try.prog G0 ents m i_R17_Order (some p_R17_Order_c4) [A.t (T.node (tl p)), A.t (T.int 0), A.t (T.node (tl out)), A.t (T.node [])] = _ := (h0 m hm).2
  rw [q_R17_Order]
  simp only [S0, S9, S1, S2, if_true, if_false, q1, q2, show Nat.beq 8 8 = true from rfl]
theorem same2_loop (a : List ByteArray) (ha : a.length ≤ 1000000) : ∀ (k j : Nat), j + k = a.length → Dz i_R02_Same_o_v2 (some p_R02_Same_o_v2_c1) [A.t (T.node (tl a)), A.t (T.int j), A.t (T.node (tl a))] (2, [A.t (T.node (tl a))]) := by
  intro k
  induction k with
  | zero =>
    intro j hj
    refine Does.now fun m => ?_
    rw [q_R02_Same_o_v2_c1]
    simp only [S0, S9, S1, S2, if_true, if_false, tl_len]
    rw [if_neg (by omega)]
  | succ k ih =>
    intro j hj
    have hlt : j < a.length := by omega
    have hw : IntKind.i64.wrap ((j : Int) + 1) = ((j + 1 : Nat) : Int) := i64succ (by omega)
    obtain ⟨n0, h0⟩ := ih (j + 1) (by omega)
    refine Does.of n0 fun m hm => ?_
    rw [q_R02_Same_o_v2_c1]
    simp only [S0, S9, S1, S2, if_true, if_false, tl_len, tl_get hlt, txt_s, hw, seq_is.2 rfl, Bool.not_true, Bool.false_eq_true]
    rw [if_pos (by omega), if_pos (by omega), if_pos (by omega), if_pos (by omega)]
    exact h0 m hm
theorem same2_does (a : List ByteArray) (ha : a.length ≤ 1000000) : Dz i_R02_Same_o_v2 none [A.t (T.node (tl a)), A.t (T.node (tl a))] (1, [A.t (T.bool true), A.t (T.node (tl a))]) := by
  obtain ⟨n0, h0⟩ := same2_loop a ha a.length 0 (by omega)
  refine Does.of n0 fun m hm => ?_
  have q : den Try.prog G0 ents m i_R02_Same_o_v2 (some p_R02_Same_o_v2_c1) [A.t (T.node (tl a)), A.t (T.int 0), A.t (T.node (tl a))] = _ := h0 m hm
  rw [q_R02_Same_o_v2]
  simp only [S0, S9, S1, S2, if_true, if_false, q, bne_self_eq_false, Bool.false_eq_true, not_true_eq_false]
theorem same3_loop (a : List ByteArray) (ha : a.length ≤ 1000000) : ∀ (k j : Nat), j + k = a.length → Dz i_R02_Same_o_v3 (some p_R02_Same_o_v3_c1) [A.t (T.int j), A.t (T.node (tl a)), A.t (T.node (tl a))] (2, [A.t (T.node (tl a)), A.t (T.node (tl a))]) := by
  intro k
  induction k with
  | zero =>
    intro j hj
    refine Does.now fun m => ?_
    rw [q_R02_Same_o_v3_c1]
    simp only [S0, S9, S1, S2, if_true, if_false, tl_len]
    rw [if_neg (by omega)]
  | succ k ih =>
    intro j hj
    have hlt : j < a.length := by omega
    have hw : IntKind.i64.wrap ((j : Int) + 1) = ((j + 1 : Nat) : Int) := i64succ (by omega)
    obtain ⟨n0, h0⟩ := ih (j + 1) (by omega)
    refine Does.of n0 fun m hm => ?_
    rw [q_R02_Same_o_v3_c1]
    simp only [S0, S9, S1, S2, if_true, if_false, tl_len, tl_get hlt, txt_s, hw, seq_is.2 rfl, Bool.not_true, Bool.false_eq_true]
    rw [if_pos (by omega), if_pos (by omega), if_pos (by omega), if_pos (by omega), if_pos (by omega)]
    exact h0 m hm
theorem same3_does (a : List ByteArray) (ha : a.length ≤ 1000000) : Dz i_R02_Same_o_v3 none [A.t (T.node (tl a)), A.t (T.node (tl a))] (1, [A.t (T.bool true), A.t (T.node (tl a)), A.t (T.node (tl a))]) := by
  obtain ⟨n0, h0⟩ := same3_loop a ha a.length 0 (by omega)
  refine Does.of n0 fun m hm => ?_
  have q : den Try.prog G0 ents m i_R02_Same_o_v3 (some p_R02_Same_o_v3_c1) [A.t (T.int 0), A.t (T.node (tl a)), A.t (T.node (tl a))] = _ := h0 m hm
  rw [q_R02_Same_o_v3]
  simp only [S0, S9, S1, S2, if_true, if_false, q, bne_self_eq_false, Bool.false_eq_true, not_true_eq_false]
end Go.Proofs.YtbejhhoakeapgaaGO
namespace Go.Proofs.YtbejhhoakeapgaaGO
open Go Go.Proofs.YtbejhhoakeapgaaVM
set_option linter.unusedVariables false
set_option linter.unusedSimpArgs false
set_option maxRecDepth 100000

theorem ordl2_loop (lt bd : List T) (i : Int) (b w : List ByteArray) (hb : b.length ≤ 1000000) (hw : w.length ≤ 1000000) (hbd : bd = tl b) : ∀ (k j : Nat) (f : Bool), j + k = w.length →
    Dz i_L17_GraphOrders (some p_L17_GraphOrders_c2) [A.t (T.node lt), A.t (T.node bd), A.t (T.int i), A.t (T.node (tl w)), A.t (T.bool f), A.t (T.int j)]
      (4, [A.t (T.node lt), A.t (T.node bd), A.t (T.int i), A.t (T.bool (f || (w.drop j).any fun y => hasB y b))]) := by
  intro k
  induction k with
  | zero =>
    intro j f hj
    refine Does.now fun m => ?_
    rw [q_L17_GraphOrders_c2, List.drop_of_length_le (by omega)]
    simp only [S0, S9, S1, S2, if_true, if_false, tl_len, List.any_nil, Bool.or_false]
    rw [if_neg (by omega)]
  | succ k ih =>
    intro j f hj
    have hlt : j < w.length := by omega
    have hw : IntKind.i64.wrap ((j : Int) + 1) = ((j + 1 : Nat) : Int) := i64succ (by omega)
    rw [List.drop_eq_getElem_cons hlt, List.any_cons]
    cases f with
    | false =>
      have hh := rhas_does b w[j] hb
      rw [← hbd] at hh
      obtain ⟨n0, h0⟩ := hh.both (ih (j + 1) (hasB w[j] b) (by omega))
      refine Does.of n0 fun m hm => ?_
      obtain ⟨q1, q2⟩ := h0 m hm
      rw [q_L17_GraphOrders_c2]
      simp only [S0, S9, S1, S2, if_true, if_false, tl_len, tl_get hlt, txt_s, hw, q1]
      rw [if_pos (by omega), if_pos (by omega), Bool.false_or]
      exact q2
    | true =>
      obtain ⟨n0, h0⟩ := ih (j + 1) true (by omega)
      refine Does.of n0 fun m hm => ?_
      have q := h0 m hm
      rw [q_L17_GraphOrders_c2]
      simp only [S0, S9, S1, S2, if_true, if_false, tl_len, tl_get hlt, txt_s, hw, Bool.true_eq_false]
      rw [if_pos (by omega), Bool.true_or]
      rw [Bool.true_or] at q
      exact q
theorem ordl1_loop (lt : List T) (b : List ByteArray) (hb : b.length ≤ 1000000) (hl : lt.length ≤ 1000) (h : ∀ x ∈ b, ∃ y ∈ toOf (lt.map ln) x, y ∈ b) : ∀ (k j : Nat), j + k = b.length →
    Dz i_L17_GraphOrders (some p_L17_GraphOrders_c1) [A.t (T.node lt), A.t (T.node (tl b)), A.t (T.int j)] (2, []) := by
  intro k
  induction k with
  | zero =>
    intro j hj
    refine Does.now fun m => ?_
    rw [q_L17_GraphOrders_c1]
    simp only [S0, S9, S1, S2, if_true, if_false, tl_len]
    rw [if_neg (by omega)]
  | succ k ih =>
    intro j hj
    have hlt : j < b.length := by omega
    have hw : IntKind.i64.wrap ((j : Int) + 1) = ((j + 1 : Nat) : Int) := i64succ (by omega)
    have htl := to_len (lt.map ln) b[j]
    rw [List.length_map] at htl
    obtain ⟨y, hy1, hy2⟩ := h b[j] (List.getElem_mem hlt)
    have hany : ((toOf (lt.map ln) b[j]).any fun y => hasB y b) = true := List.any_eq_true.2 ⟨y, hy1, hasB_iff.2 hy2⟩
    have h2 := ordl2_loop lt (tl b) (j : Nat) b (toOf (lt.map ln) b[j]) hb (by omega) rfl (toOf (lt.map ln) b[j]).length 0 false (by omega)
    rw [List.drop_zero, hany, Bool.false_or] at h2
    obtain ⟨n0, h0⟩ := h2.both (ih (j + 1) (by omega))
    obtain ⟨n1, h1⟩ := rto_does lt b[j] (by omega)
    refine Does.of (n0 + n1) fun m hm => ?_
    obtain ⟨q1, q2⟩ := h0 m (by omega)
    have q3 := h1 m (by omega)
    have q1' : den Try.prog G0 ents m i_L17_GraphOrders (some p_L17_GraphOrders_c2) [A.t (T.node lt), A.t (T.node (tl b)), A.t (T.int (j : Nat)), A.t (T.node (tl (toOf (lt.map ln) b[j]))), A.t (T.bool false), A.t (T.int 0)] = _ := q1
    rw [q_L17_GraphOrders_c1]
    simp only [S0, S9, S1, S2, if_true, if_false, tl_len, tl_get hlt, txt_s, hw, q1', q3, Bool.not_true, show Nat.beq 4 4 = true from rfl]
    rw [if_pos (by omega), if_pos (by omega)]
    exact q2
theorem law_does (x y : T) (hx : x.kids = tl (x.kids.map T.txt)) : Dz i_L17_GraphOrders none [A.t x, A.t y] (1, [A.t (T.bool true)]) := by
  obtain ⟨n0, h0⟩ := (few_does x.kids y.kids).both awakeG_does
  cases hf : fewG x.kids y.kids with
  | false =>
    rw [hf] at h0
    refine Does.of n0 fun m hm => ?_
    obtain ⟨q1, q2⟩ := h0 m hm
    rw [q_L17_GraphOrders]
    simp only [S0, S9, S1, S2, if_true, if_false, q1, q2, Bool.not_false, Bool.false_eq_true, show (true = false) = False by simp]
  | true =>
    rw [hf] at h0
    obtain ⟨b1, b2, b3, b4⟩ := few_ok hf
    generalize hl : x.kids.map T.txt = l at *
    have hll : l.length ≤ 30 := by rw [← hl, List.length_map]; exact b1
    generalize hy : y.kids = lt at *
    have hpl := pts_len l (lt.map ln)
    rw [List.length_map] at hpl
    obtain ⟨fs, g, d1⟩ := of_does l lt (by omega) (by omega) b3 b4
    obtain ⟨out, o1, o2, o3, o4, d2⟩ := order_does g (by omega) (by rw [List.length_map]; omega)
    have hol : out.length ≤ (ptsOf l (lt.map ln)).length := List.Nodup.length_le_of_subset o4 o3
    have d3 := rorder17_does (ptsOf l (lt.map ln)) (by omega) lt (by omega) o1 (by omega)
    have hbl : (lft (ptsOf l (lt.map ln)) out).length ≤ (ptsOf l (lt.map ln)).length := List.length_filter_le _ _
    have hbd : ∀ x ∈ lft (ptsOf l (lt.map ln)) out, ∃ y ∈ toOf (lt.map ln) x, y ∈ lft (ptsOf l (lt.map ln)) out := by
      intro x hx
      obtain ⟨x1, x2⟩ := mem_lft.1 hx
      have hne : cnt (toOf (lt.map ln)) out x ≠ 0 := fun e => by
        have hm : x ∈ fz (ptsOf l (lt.map ln)) out (cnt (toOf (lt.map ln)) out) := mem_fz.2 ⟨x1, x2, e⟩
        rw [o2] at hm
        cases hm
      rw [Ne, cnt_all] at hne
      obtain ⟨y, hy⟩ := Classical.not_forall.1 hne
      obtain ⟨hy1, hy2⟩ := Classical.not_imp.1 hy
      exact ⟨y, hy1, mem_lft.2 ⟨mem_pts.2 (.inr ⟨_, mem_to.1 hy1, .inr rfl⟩), hy2⟩⟩
    obtain ⟨n1, h1⟩ := d1.both d2
    obtain ⟨n2, h2⟩ := d3.both (rpoints_does l lt (by omega) (by omega))
    obtain ⟨n3, h3⟩ := (same3_does out (by omega)).both (same2_does (lft (ptsOf l (lt.map ln)) out) (by omega))
    obtain ⟨n4, h4⟩ := ordl1_loop lt (lft (ptsOf l (lt.map ln)) out) (by omega) (by omega) hbd (lft (ptsOf l (lt.map ln)) out).length 0 (by omega)
    refine Does.of (n0 + n1 + n2 + n3 + n4) fun m hm => ?_
    obtain ⟨q1, q2⟩ := h0 m (by omega)
    obtain ⟨q3, q4⟩ := h1 m (by omega)
    obtain ⟨q5, q6⟩ := h2 m (by omega)
    obtain ⟨q7, q8⟩ := h3 m (by omega)
    have q9 : den Try.prog G0 ents m i_L17_GraphOrders (some p_L17_GraphOrders_c1) [A.t (T.node lt), A.t (T.node (tl (lft (ptsOf l (lt.map ln)) out))), A.t (T.int 0)] = _ := h4 m (by omega)
    rw [q_L17_GraphOrders]
    rw [hx] at q1
    simp only [S0, S9, S1, S2, if_true, if_false, hx, hy, q1, q2, q3, q4, q5, q6, q7, q8, q9, Bool.not_true, Bool.not_false, Bool.false_eq_true]
end Go.Proofs.YtbejhhoakeapgaaGO
