/- A law's proof, a part: what the code answers. -/
import Derived.Test.YtbejhhoakeapgaaVmZu
import Derived.Test.YtbejhhoakeapgaaVmC
import Derived.Test.YtbejhhoakeapgaaVmZx
import Derived.Test.YtbejhhoakeapgaaVmZy
import Derived.Test.YtbejhhoakeapgaaProg
namespace Go.Proofs.YtbejhhoakeapgaaGR
open Go Go.Proofs.YtbejhhoakeapgaaVM
def G0 : List (Nat × TypeId × T) := []
def e0 : Entry := sortedE 35 54 60 9 3 22
def e1 : Entry := sortedE 35 64 88 9 22 22
def e2 : Entry := cloneE 34 22 9
def e3 : Entry := { fid := 5, ins := ⟨[(0, .v 22), (1, .v 23), (2, .v 22)], []⟩, outs := ⟨[(0, .v 4)], []⟩, cuts := [], lit := true }
def e4 : Entry := { fid := 7, ins := ⟨[(0, .v 22), (1, .v 23)], []⟩, outs := ⟨[(0, .v 4)], []⟩, cuts := [([false, true, false, true, true], ⟨⟨[(0, .v 22), (1, .v 23), (5, .v 3)], []⟩, [(2, ⟨[(1, .v 23)], []⟩), (1, ⟨[(4, .v 4)], []⟩)]⟩), ([false, true, false, true, true, true], ⟨⟨[(1, .v 23), (6, .v 3)], []⟩, [(4, ⟨[], []⟩), (1, ⟨[(4, .v 4)], []⟩)]⟩)], lit := true }
def e5 : Entry := { fid := 8, ins := ⟨[], []⟩, outs := ⟨[(0, .v 4)], []⟩, cuts := [], lit := true }
def e6 : Entry := { fid := 29, ins := ⟨[(0, .v 22)], []⟩, outs := ⟨[(0, .p 0 90)], [.var 90 (.agg 90 [.m 1]) false, .map 9 22]⟩, cuts := [([false, true, false, true, true], ⟨⟨[(3, .p 0 90), (9, .v 22), (10, .v 3), (11, .v 3)], [.var 90 (.agg 90 [.m 1]) false, .map 9 22]⟩, [(2, ⟨[(3, .p 0 90)], [.var 90 (.agg 90 [.m 1]) false, .map 9 22]⟩)]⟩)] }
def e7 : Entry := { fid := 27, ins := ⟨[(0, .p 0 90), (1, .v 9)], [.var 90 (.agg 90 [.m 1]) false, .map 9 22]⟩, outs := ⟨[], [.var 90 (.agg 90 [.m 1]) false, .map 9 22]⟩, cuts := [] }
def e8 : Entry := { fid := 25, ins := ⟨[(0, .p 0 90), (1, .v 9)], [.var 90 (.agg 90 [.m 1]) false, .map 9 22]⟩, outs := ⟨[(0, .v 4)], [.var 90 (.agg 90 [.m 1]) false, .map 9 22]⟩, cuts := [] }
def e9 : Entry := { fid := 28, ins := ⟨[(0, .p 0 90), (1, .v 9), (2, .v 9)], [.var 90 (.agg 90 [.m 1]) false, .map 9 22]⟩, outs := ⟨[], [.var 90 (.agg 90 [.m 1]) false, .map 9 22]⟩, cuts := [] }
def e10 : Entry := { fid := 32, ins := ⟨[(0, .v 22), (1, .v 9)], []⟩, outs := ⟨[(0, .v 3), (1, .v 4)], []⟩, cuts := [([false, false, true, true, true], ⟨⟨[(0, .v 22), (1, .v 9), (6, .v 3), (7, .v 3), (8, .v 3)], []⟩, [(2, ⟨[(0, .v 22), (1, .v 9), (6, .v 3), (7, .v 3)], []⟩)]⟩)] }
def e11 : Entry := { fid := 48, ins := ⟨[(0, .v 9), (1, .v 9)], []⟩, outs := ⟨[(0, .v 4)], []⟩, cuts := [] }
def e12 : Entry := { fid := 65, ins := ⟨[(0, .v 9)], []⟩, outs := ⟨[(0, .v 4)], []⟩, cuts := [] }
def e13 : Entry := { fid := 49, ins := ⟨[(0, .v 9)], []⟩, outs := ⟨[(0, .v 4)], []⟩, cuts := [] }
def e14 : Entry := { fid := 11, ins := ⟨[(0, .p 0 90)], [.var 90 (.agg 90 [.m 1]) false, .map 9 22]⟩, outs := ⟨[(0, .o 2), (1, .v 22)], [.var 90 (.agg 90 [.m 1]) false, .map 9 22, .row 9]⟩, cuts := [([false, true, false, true, true, true, true], ⟨⟨[(0, .p 0 90), (2, .o 2), (4, .p 3 90), (5, .m 4), (6, .o 5), (18, .v 22), (19, .v 3), (20, .v 3)], [.var 90 (.agg 90 [.m 1]) false, .map 9 22, .row 9, .var 90 (.agg 90 [.m 6]) false, .map 9 3, .row 9, .map 9 22]⟩, [(2, ⟨[(2, .o 2), (4, .p 3 90), (5, .m 4), (6, .o 5)], [.var 90 (.agg 90 [.m 1]) false, .map 9 22, .row 9, .var 90 (.agg 90 [.m 6]) false, .map 9 3, .row 9, .map 9 22]⟩)]⟩), ([false, false, true, true, true, true, true], ⟨⟨[(2, .o 2), (4, .p 3 90), (5, .m 4), (6, .v 22)], [.var 90 (.agg 90 [.m 1]) false, .map 9 22, .row 9, .var 90 (.agg 90 [.m 5]) false, .map 9 3, .map 9 22]⟩, [(4, ⟨[(2, .o 2), (5, .m 3)], [.var 90 (.agg 90 [.m 1]) false, .map 9 22, .row 9, .map 9 3]⟩)]⟩), ([false, true, true, true, true, true, false, true, false, false, false, true, true, true, true, true], ⟨⟨[(2, .o 2), (4, .p 3 90), (5, .m 4), (6, .v 22), (55, .o 5), (56, .v 3), (57, .v 3)], [.var 90 (.agg 90 [.m 1]) false, .map 9 22, .row 9, .var 90 (.agg 90 [.m 6]) false, .map 9 3, .row 9, .map 9 22]⟩, [(6, ⟨[(2, .o 2), (4, .p 3 90), (5, .m 4), (6, .v 22)], [.var 90 (.agg 90 [.m 1]) false, .map 9 22, .row 9, .var 90 (.agg 90 [.m 5]) false, .map 9 3, .map 9 22]⟩)]⟩)] }
def e15 : Entry := { fid := 21, ins := ⟨[(0, .p 0 90)], [.var 90 (.agg 90 [.m 1]) false, .map 9 22]⟩, outs := ⟨[(0, .p 2 90)], [.var 90 (.agg 90 [.m 1]) false, .map 9 22, .var 90 (.agg 90 [.m 3]) false, .map 9 22]⟩, cuts := [([false, true, false, true, true], ⟨⟨[(0, .p 0 90), (3, .p 2 90), (12, .v 22), (13, .v 3), (14, .v 3)], [.var 90 (.agg 90 [.m 1]) false, .map 9 22, .var 90 (.agg 90 [.m 3]) false, .map 9 22]⟩, [(2, ⟨[(3, .p 2 90)], [.var 90 (.agg 90 [.m 1]) false, .map 9 22, .var 90 (.agg 90 [.m 3]) false, .map 9 22]⟩)]⟩), ([false, true, true, false, false, true, true, false, false, true, false, true, true], ⟨⟨[(0, .p 0 90), (3, .p 2 90), (5, .v 9), (12, .v 22), (13, .v 3), (14, .v 3), (20, .o 3), (21, .v 3), (22, .v 3)], [.var 90 (.agg 90 [.m 1]) false, .map 9 22, .var 90 (.agg 90 [.m 4]) false, .row 9, .map 9 22]⟩, [(4, ⟨[(0, .p 0 90), (3, .p 2 90), (12, .v 22), (13, .v 3), (14, .v 3)], [.var 90 (.agg 90 [.m 1]) false, .map 9 22, .var 90 (.agg 90 [.m 3]) false, .map 9 22]⟩)]⟩)] }
def e16 : Entry := { fid := 24, ins := ⟨[(0, .p 0 90)], [.var 90 (.agg 90 [.m 1]) false, .map 9 22]⟩, outs := ⟨[(0, .v 22)], [.var 90 (.agg 90 [.m 1]) false, .map 9 22]⟩, cuts := [] }
def e17 : Entry := { fid := 47, ins := ⟨[(0, .m 0)], [.map 9 22]⟩, outs := ⟨[(0, .clo 64 [.p 1 88])], [.map 9 22, .var 88 (.m 0) false]⟩, cuts := [] }
def e18 : Entry := { fid := 26, ins := ⟨[(0, .p 0 90), (1, .v 9)], [.var 90 (.agg 90 [.m 1]) false, .map 9 22]⟩, outs := ⟨[(0, .o 2)], [.var 90 (.agg 90 [.m 1]) false, .map 9 22, .row 9]⟩, cuts := [] }
def e19 : Entry := { fid := 31, ins := ⟨[(0, .v 22)], []⟩, outs := ⟨[(0, .v 9), (1, .v 22)], []⟩, cuts := [] }
def e20 : Entry := { fid := 36, ins := ⟨[(0, .m 0)], [.map 9 3]⟩, outs := ⟨[(0, .clo 54 [.p 1 60])], [.map 9 3, .var 60 (.m 0) false]⟩, cuts := [] }
def e21 : Entry := { fid := 13, ins := ⟨[(0, .v 22), (1, .v 22)], []⟩, outs := ⟨[(0, .v 4)], []⟩, cuts := [([false, true, false, true, true], ⟨⟨[(0, .v 22), (1, .v 22), (5, .v 3)], []⟩, [(2, ⟨[], []⟩), (1, ⟨[(4, .v 4)], []⟩)]⟩)], lit := true }
def e22 : Entry := { fid := 9, ins := ⟨[(0, .v 22), (1, .v 23)], []⟩, outs := ⟨[(0, .v 22)], []⟩, cuts := [([false, true, false, true, true], ⟨⟨[(0, .v 22), (1, .v 23), (5, .v 22), (6, .v 3)], []⟩, [(2, ⟨[(1, .v 23), (5, .v 22)], []⟩)]⟩), ([false, true, false, true, true, true], ⟨⟨[(1, .v 23), (5, .v 22), (7, .v 3)], []⟩, [(4, ⟨[(5, .v 22)], []⟩)]⟩)], lit := true }
def e23 : Entry := { fid := 30, ins := ⟨[(0, .v 22), (1, .v 9)], []⟩, outs := ⟨[(0, .v 22)], []⟩, cuts := [([false, true, false, true, true, true, true], ⟨⟨[(0, .v 22), (1, .v 9), (5, .o 0), (6, .v 4), (7, .v 3)], [.row 9]⟩, [(2, ⟨[(1, .v 9), (5, .o 0), (6, .v 4)], [.row 9]⟩)]⟩)], lit := true }
def e24 : Entry := { fid := 15, ins := ⟨[(0, .v 22), (1, .v 9)], []⟩, outs := ⟨[(0, .v 4)], []⟩, cuts := [([false, true, false, true], ⟨⟨[(0, .v 22), (1, .v 9), (5, .v 3)], []⟩, [(2, ⟨[], []⟩), (1, ⟨[(4, .v 4)], []⟩)]⟩)], lit := true }
def e25 : Entry := { fid := 10, ins := ⟨[(0, .v 22), (1, .v 23)], []⟩, outs := ⟨[(0, .p 0 90)], [.var 90 (.agg 90 [.m 1]) false, .map 9 22]⟩, cuts := [([false, true, false, true, true], ⟨⟨[(1, .v 23), (5, .p 0 90), (6, .v 3)], [.var 90 (.agg 90 [.m 1]) false, .map 9 22]⟩, [(2, ⟨[(5, .p 0 90)], [.var 90 (.agg 90 [.m 1]) false, .map 9 22]⟩)]⟩)], lit := true }
def e26 : Entry := { fid := 19, ins := ⟨[(0, .p 0 90), (1, .v 22)], [.var 90 (.agg 90 [.m 1]) false, .map 9 22]⟩, outs := ⟨[(0, .v 22)], [.var 90 (.agg 90 [.m 1]) false, .map 9 22]⟩, cuts := [([false, false, true, true, true, true, false, true], ⟨⟨[(0, .p 0 90), (5, .m 2), (6, .o 3)], [.var 90 (.agg 90 [.m 1]) false, .map 9 22, .map 9 3, .row 9]⟩, [(2, ⟨[(5, .m 2)], [.var 90 (.agg 90 [.m 1]) false, .map 9 22, .map 9 3]⟩)]⟩)], mv := true }
def e27 : Entry := { fid := 20, ins := ⟨[(0, .v 22), (1, .v 23), (2, .v 22)], []⟩, outs := ⟨[(0, .v 22)], []⟩, cuts := [([false, true, false, true, true], ⟨⟨[(0, .v 22), (1, .v 23), (2, .v 22), (7, .v 22), (8, .v 3)], []⟩, [(2, ⟨[(0, .v 22), (1, .v 23), (7, .v 22)], []⟩)]⟩), ([false, true, false, true, true, true], ⟨⟨[(0, .v 22), (1, .v 23), (7, .v 22), (9, .v 3)], []⟩, [(4, ⟨[(7, .v 22)], []⟩)]⟩), ([false, true, false, false, true, false, false, true, false, true, true, true], ⟨⟨[(0, .v 22), (1, .v 23), (7, .v 22), (9, .v 3), (10, .v 3)], []⟩, [(6, ⟨[(0, .v 22), (1, .v 23), (7, .v 22), (9, .v 3)], []⟩)]⟩)], lit := true }
def e28 : Entry := { fid := 31, ins := ⟨[(0, .o 0)], [.row 9]⟩, outs := ⟨[(0, .v 9), (1, .v 22)], [.row 9]⟩, cuts := [] }
def e29 : Entry := { fid := 13, ins := ⟨[(0, .o 0), (1, .v 22)], [.row 9]⟩, outs := ⟨[(0, .v 4)], [.row 9]⟩, cuts := [([false, true, false, true, true], ⟨⟨[(0, .o 0), (1, .v 22), (5, .v 3)], [.row 9]⟩, [(2, ⟨[], [.row 9]⟩), (1, ⟨[(4, .v 4)], [.row 9]⟩)]⟩)], lit := true }
def e30 : Entry := insE 33 3 9
def ents : List Entry := [e0, e1, e2, e3, e4, e5, e6, e7, e8, e9, e10, e11, e12, e13, e14, e15, e16, e17, e18, e19, e20, e21, e22, e23, e24, e25, e26, e27, e28, e29, e30]
def i_slices_Sorted : Nat := 0
def i_slices_Sorted_l : Nat := 1
def i_slices_Clone : Nat := 2
def i_L17_GraphReaches : Nat := 3
def i_L17_few : Nat := 4
def i_L17_awake : Nat := 5
def i_graph_New_string : Nat := 6
def i_graph_Graph_string_Add : Nat := 7
def i_graph_Graph_string_Has : Nat := 8
def i_graph_Graph_string_Link : Nat := 9
def i_slices_BinarySearch_string : Nat := 10
def i_cmp_Less_string : Nat := 11
def i_cmp_isNaN_string : Nat := 12
def i_slices_isNaN_string : Nat := 13
def i_graph_Graph_string_Order : Nat := 14
def i_graph_Graph_string_Turned : Nat := 15
def i_graph_Graph_string_Points : Nat := 16
def i_maps_Keys_map_string_string_string_string : Nat := 17
def i_graph_Graph_string_To : Nat := 18
def i_graph_least_string : Nat := 19
def i_maps_Keys_map_string_int_string_int : Nat := 20
def i_R02_Same : Nat := 21
def i_R17_Points : Nat := 22
def i_R17_Put : Nat := 23
def i_R17_Has : Nat := 24
def i_L17_of : Nat := 25
def i_graph_Graph_string_Reach : Nat := 26
def i_R17_Reach : Nat := 27
def i_graph_least_string_o : Nat := 28
def i_R02_Same_o : Nat := 29
def i_slices_Insert : Nat := 30
def p_L17_few_c1 : List Bool := [false, true, false, true, true]
def p_L17_few_c2 : List Bool := [false, true, false, true, true, true]
def p_graph_New_string_c1 : List Bool := [false, true, false, true, true]
def p_slices_BinarySearch_string_c1 : List Bool := [false, false, true, true, true]
def p_graph_Graph_string_Order_c1 : List Bool := [false, true, false, true, true, true, true]
def p_graph_Graph_string_Order_c2 : List Bool := [false, false, true, true, true, true, true]
def p_graph_Graph_string_Order_c3 : List Bool := [false, true, true, true, true, true, false, true, false, false, false, true, true, true, true, true]
def p_graph_Graph_string_Turned_c1 : List Bool := [false, true, false, true, true]
def p_graph_Graph_string_Turned_c2 : List Bool := [false, true, true, false, false, true, true, false, false, true, false, true, true]
def p_R02_Same_c1 : List Bool := [false, true, false, true, true]
def p_R17_Points_c1 : List Bool := [false, true, false, true, true]
def p_R17_Points_c2 : List Bool := [false, true, false, true, true, true]
def p_R17_Put_c1 : List Bool := [false, true, false, true, true, true, true]
def p_R17_Has_c1 : List Bool := [false, true, false, true]
def p_L17_of_c1 : List Bool := [false, true, false, true, true]
def p_graph_Graph_string_Reach_c1 : List Bool := [false, false, true, true, true, true, false, true]
def p_R17_Reach_c1 : List Bool := [false, true, false, true, true]
def p_R17_Reach_c2 : List Bool := [false, true, false, true, true, true]
def p_R17_Reach_c3 : List Bool := [false, true, false, false, true, false, false, true, false, true, true, true]
def p_R02_Same_o_c1 : List Bool := [false, true, false, true, true]
noncomputable def D (n i : Nat) (p : Option (List Bool)) (xs : List A) : Option (Nat × List A) := den Try.prog G0 ents n i p xs
noncomputable def cl (n i : Nat) (xs : List A) (k : List A → Option (Nat × List A)) : Option (Nat × List A) := Option.bind (Option.map (fun v => v.2) (den Try.prog G0 ents n i none xs)) k
noncomputable def lp (n i : Nat) (p : List Bool) (xs : List A) (k : Nat × List A → Option (Nat × List A)) : Option (Nat × List A) := Option.bind (den Try.prog G0 ents n i (some p) xs) k
end Go.Proofs.YtbejhhoakeapgaaGR
set_option linter.unusedVariables false
set_option maxRecDepth 100000
namespace Go.Proofs.YtbejhhoakeapgaaGR
open Go Go.Proofs.YtbejhhoakeapgaaVM Go.Proofs
theorem q_L17_GraphReaches (n : Nat) (x0 x1 x2 : T) : den Try.prog G0 ents (Nat.succ n) i_L17_GraphReaches none [A.t x0, A.t x1, A.t x2] =
  cl n i_L17_few [aL x0.k,aL x1.k] fun v0 => bif (!(r v0 0).b) == false then cl n i_L17_few [aL x2.k,aL []] fun v1 => bif !(r v1 0).b then cl n i_L17_awake [] fun v2 => rt [aB (r v2 0).b] else cl n i_R17_Points [aL x0.k,aL x1.k] fun v2 => cl n i_L17_awake [] fun v3 => bif (r v3 0).b == true then cl n i_L17_of [aL x0.k,aL x1.k] fun v4 => cl n i_graph_Graph_string_Reach [aL x2.k,aL (r v4 0).k] fun v5 => cl n i_R17_Reach [aL (r v2 0).k,aL x1.k,aL x2.k] fun v6 => cl n i_R02_Same [aL (r v5 0).k,aL (r v6 0).k] fun v7 => rt [aB (r v7 0).b] else rt [aB false] else cl n i_L17_awake [] fun v1 => rt [aB (r v1 0).b] := by kernel_rfl
theorem q_L17_few (n : Nat) (x0 x1 : T) : den Try.prog G0 ents (Nat.succ n) i_L17_few none [A.t x0, A.t x1] =
  bif gt x0.l 30 == false then bif gt x1.l 60 then rt [aB false] else lp n i_L17_few p_L17_few_c1 [aL x0.k,aL x1.k,aI 0] fun v0 => bif Nat.beq v0.1 2 then lp n i_L17_few p_L17_few_c2 [aL (r v0.2 0).k,aI 0] fun v1 => bif Nat.beq v1.1 4 then rt [aB true] else bif Nat.beq v1.1 1 then rt [aB (r v1.2 0).b] else none else bif Nat.beq v0.1 1 then rt [aB (r v0.2 0).b] else none else rt [aB false] := by kernel_rfl
theorem q_L17_few_c1 (n : Nat) (x0 x1 x2 : T) : den Try.prog G0 ents (Nat.succ n) i_L17_few (some p_L17_few_c1) [A.t x0, A.t x1, A.t x2] =
  bif lt x2.n x0.l then bif ib x2.n x0.l then bif gt (x0.a x2.n).z 100 then rt [aB false] else D n i_L17_few (some p_L17_few_c1) [aL x0.k,aL x1.k,aI (w6 (x2.n + 1))] else none else some (2,[aL x1.k]) := by kernel_rfl
theorem q_L17_few_c2 (n : Nat) (x0 x1 : T) : den Try.prog G0 ents (Nat.succ n) i_L17_few (some p_L17_few_c2) [A.t x0, A.t x1] =
  bif lt x1.n x0.l then bif ib x1.n x0.l then bif gt ((x0.a x1.n).g 0).z 100 == false then bif ib x1.n x0.l then bif gt ((x0.a x1.n).g 1).z 100 then rt [aB false] else D n i_L17_few (some p_L17_few_c2) [aL x0.k,aI (w6 (x1.n + 1))] else none else rt [aB false] else none else some (4,[]) := by kernel_rfl
theorem q_graph_New_string (n : Nat) (x0 : T) : den Try.prog G0 ents (Nat.succ n) i_graph_New_string none [A.t x0] =
  lp n i_graph_New_string p_graph_New_string_c1 [aL x0.k,aI x0.l,aI 0,aL []] fun v0 => bif Nat.beq v0.1 2 then rt [aL (r v0.2 0).k] else none := by kernel_rfl
theorem q_graph_New_string_c1 (n : Nat) (x0 x1 x2 x3 : T) : den Try.prog G0 ents (Nat.succ n) i_graph_New_string (some p_graph_New_string_c1) [A.t x0, A.t x1, A.t x2, A.t x3] =
  bif lt x2.n x1.n then bif ib x2.n x0.l then cl n i_graph_Graph_string_Add [aS (x0.a x2.n).s,aL x3.k] fun v0 => D n i_graph_New_string (some p_graph_New_string_c1) [aL x0.k,aI x1.n,aI (w6 (x2.n + 1)),aL (r v0 0).k] else none else some (2,[aL x3.k]) := by kernel_rfl
theorem q_graph_Graph_string_Add (n : Nat) (x0 x1 : T) : den Try.prog G0 ents (Nat.succ n) i_graph_Graph_string_Add none [A.t x0, A.t x1] =
  cl n i_graph_Graph_string_Has [aS x0.s,aL x1.k] fun v0 => bif !(r v0 0).b then rt [aL (mput keyS (r v0 1).k (T.str x0.s) (T.node []))] else rt [aL (r v0 1).k] := by kernel_rfl
theorem q_graph_Graph_string_Has (n : Nat) (x0 x1 : T) : den Try.prog G0 ents (Nat.succ n) i_graph_Graph_string_Has none [A.t x0, A.t x1] =
  rt [aB (mhas keyS x1.k (T.str x0.s)),aL x1.k] := by kernel_rfl
theorem q_graph_Graph_string_Link (n : Nat) (x0 x1 x2 : T) : den Try.prog G0 ents (Nat.succ n) i_graph_Graph_string_Link none [A.t x0, A.t x1, A.t x2] =
  cl n i_graph_Graph_string_Add [aS x0.s,aL x2.k] fun v0 => cl n i_graph_Graph_string_Add [aS x1.s,aL (r v0 0).k] fun v1 => cl n i_slices_BinarySearch_string [aL (mget keyS (T.node []) (r v1 0).k (T.str x0.s)).k,aS x1.s] fun v2 => bif !(r v2 1).b then cl n i_slices_Clone [aL (mget keyS (T.node []) (r v1 0).k (T.str x0.s)).k] fun v3 => cl n i_slices_Insert [aI (r v2 0).n,aL (r v3 0).k,aL [T.str x1.s]] fun v4 => rt [aL (mput keyS (r v1 0).k (T.str x0.s) (T.node (r v4 1).k))] else rt [aL (r v1 0).k] := by kernel_rfl
theorem q_slices_BinarySearch_string (n : Nat) (x0 x1 : T) : den Try.prog G0 ents (Nat.succ n) i_slices_BinarySearch_string none [A.t x0, A.t x1] =
  lp n i_slices_BinarySearch_string p_slices_BinarySearch_string_c1 [aL x0.k,aS x1.s,aI x0.l,aI 0,aI x0.l] fun v0 => bif Nat.beq v0.1 2 then bif lt (r v0.2 3).n (r v0.2 2).n == true then bif ib (r v0.2 3).n (r v0.2 0).l then bif seqB ((r v0.2 0).a (r v0.2 3).n).s (r v0.2 1).s == false then bif ib (r v0.2 3).n (r v0.2 0).l then cl n i_slices_isNaN_string [aS ((r v0.2 0).a (r v0.2 3).n).s] fun v1 => bif (r v1 0).b == true then cl n i_slices_isNaN_string [aS (r v0.2 1).s] fun v2 => rt [aI (r v0.2 3).n,aB (r v2 0).b] else rt [aI (r v0.2 3).n,aB false] else none else rt [aI (r v0.2 3).n,aB true] else none else rt [aI (r v0.2 3).n,aB false] else none := by kernel_rfl
theorem q_slices_BinarySearch_string_c1 (n : Nat) (x0 x1 x2 x3 x4 : T) : den Try.prog G0 ents (Nat.succ n) i_slices_BinarySearch_string (some p_slices_BinarySearch_string_c1) [A.t x0, A.t x1, A.t x2, A.t x3, A.t x4] =
  bif lt x3.n x4.n then bif ib (w6 (Int.fdiv (wu (w6 (x3.n + x4.n))) 2)) x0.l then cl n i_cmp_Less_string [aS (x0.a (w6 (Int.fdiv (wu (w6 (x3.n + x4.n))) 2))).s,aS x1.s] fun v0 => bif (r v0 0).b then D n i_slices_BinarySearch_string (some p_slices_BinarySearch_string_c1) [aL x0.k,aS x1.s,aI x2.n,aI (w6 (w6 (Int.fdiv (wu (w6 (x3.n + x4.n))) 2) + 1)),aI x4.n] else D n i_slices_BinarySearch_string (some p_slices_BinarySearch_string_c1) [aL x0.k,aS x1.s,aI x2.n,aI x3.n,aI (w6 (Int.fdiv (wu (w6 (x3.n + x4.n))) 2))] else none else some (2,[aL x0.k,aS x1.s,aI x2.n,aI x3.n]) := by kernel_rfl
theorem q_cmp_Less_string (n : Nat) (x0 x1 : T) : den Try.prog G0 ents (Nat.succ n) i_cmp_Less_string none [A.t x0, A.t x1] =
  cl n i_cmp_isNaN_string [aS x0.s] fun v0 => bif (r v0 0).b == true then cl n i_cmp_isNaN_string [aS x1.s] fun v1 => bif (!(r v1 0).b) == false then rt [aB (sltB x0.s x1.s)] else rt [aB true] else rt [aB (sltB x0.s x1.s)] := by kernel_rfl
theorem q_cmp_isNaN_string (n : Nat) (x0 : T) : den Try.prog G0 ents (Nat.succ n) i_cmp_isNaN_string none [A.t x0] =
  rt [aB (!(seqB x0.s x0.s))] := by kernel_rfl
theorem q_slices_isNaN_string (n : Nat) (x0 : T) : den Try.prog G0 ents (Nat.succ n) i_slices_isNaN_string none [A.t x0] =
  rt [aB (!(seqB x0.s x0.s))] := by kernel_rfl
theorem q_maps_Keys_map_string_int_string_int (n : Nat) (x0 : T) : den Try.prog G0 ents (Nat.succ n) i_maps_Keys_map_string_int_string_int none [A.t x0] =
  rt [aL x0.k] := by kernel_rfl
theorem q_R02_Same (n : Nat) (x0 x1 : T) : den Try.prog G0 ents (Nat.succ n) i_R02_Same none [A.t x0, A.t x1] =
  bif x0.l != x1.l then rt [aB false] else lp n i_R02_Same p_R02_Same_c1 [aL x0.k,aL x1.k,aI 0] fun v0 => bif Nat.beq v0.1 2 then rt [aB true] else bif Nat.beq v0.1 1 then rt [aB (r v0.2 0).b] else none := by kernel_rfl
theorem q_R02_Same_c1 (n : Nat) (x0 x1 x2 : T) : den Try.prog G0 ents (Nat.succ n) i_R02_Same (some p_R02_Same_c1) [A.t x0, A.t x1, A.t x2] =
  bif lt x2.n x0.l then bif ib x2.n x0.l then bif ib x2.n x1.l then bif !(seqB (x0.a x2.n).s (x1.a x2.n).s) then rt [aB false] else D n i_R02_Same (some p_R02_Same_c1) [aL x0.k,aL x1.k,aI (w6 (x2.n + 1))] else none else none else some (2,[]) := by kernel_rfl
theorem q_R17_Points (n : Nat) (x0 x1 : T) : den Try.prog G0 ents (Nat.succ n) i_R17_Points none [A.t x0, A.t x1] =
  lp n i_R17_Points p_R17_Points_c1 [aL x0.k,aL x1.k,aL [],aI 0] fun v0 => bif Nat.beq v0.1 2 then lp n i_R17_Points p_R17_Points_c2 [aL (r v0.2 0).k,aL (r v0.2 1).k,aI 0] fun v1 => bif Nat.beq v1.1 4 then rt [aL (r v1.2 0).k] else none else none := by kernel_rfl
theorem q_R17_Points_c1 (n : Nat) (x0 x1 x2 x3 : T) : den Try.prog G0 ents (Nat.succ n) i_R17_Points (some p_R17_Points_c1) [A.t x0, A.t x1, A.t x2, A.t x3] =
  bif lt x3.n x0.l then bif ib x3.n x0.l then cl n i_R17_Put [aL x2.k,aS (x0.a x3.n).s] fun v0 => D n i_R17_Points (some p_R17_Points_c1) [aL x0.k,aL x1.k,aL (r v0 0).k,aI (w6 (x3.n + 1))] else none else some (2,[aL x1.k,aL x2.k]) := by kernel_rfl
theorem q_R17_Points_c2 (n : Nat) (x0 x1 x2 : T) : den Try.prog G0 ents (Nat.succ n) i_R17_Points (some p_R17_Points_c2) [A.t x0, A.t x1, A.t x2] =
  bif lt x2.n x0.l then bif ib x2.n x0.l then cl n i_R17_Put [aL x1.k,aS ((x0.a x2.n).g 0).s] fun v0 => bif ib x2.n x0.l then cl n i_R17_Put [aL (r v0 0).k,aS ((x0.a x2.n).g 1).s] fun v1 => D n i_R17_Points (some p_R17_Points_c2) [aL x0.k,aL (r v1 0).k,aI (w6 (x2.n + 1))] else none else none else some (4,[aL x1.k]) := by kernel_rfl
theorem q_R17_Put (n : Nat) (x0 x1 : T) : den Try.prog G0 ents (Nat.succ n) i_R17_Put none [A.t x0, A.t x1] =
  cl n i_R17_Has [aL x0.k,aS x1.s] fun v0 => bif (r v0 0).b then rt [aL x0.k] else lp n i_R17_Put p_R17_Put_c1 [aL x0.k,aS x1.s,aB false,aI 0,aL []] fun v1 => bif Nat.beq v1.1 2 then bif !(r v1.2 1).b then bif decide (Nat.succ (List.length (r v1.2 2).k) < 1073741824) then rt [aL ((r v1.2 2).k ++ [T.str (r v1.2 0).s])] else none else rt [aL (r v1.2 2).k] else none := by kernel_rfl
theorem q_R17_Put_c1 (n : Nat) (x0 x1 x2 x3 x4 : T) : den Try.prog G0 ents (Nat.succ n) i_R17_Put (some p_R17_Put_c1) [A.t x0, A.t x1, A.t x2, A.t x3, A.t x4] =
  bif lt x3.n x0.l then bif (!x2.b) == true then bif ib x3.n x0.l then bif sltB x1.s (x0.a x3.n).s then bif decide (Nat.succ (List.length x4.k) < 1073741824) then bif ib x3.n x0.l then bif decide (Nat.succ (List.length (x4.k ++ [T.str x1.s])) < 1073741824) then D n i_R17_Put (some p_R17_Put_c1) [aL x0.k,aS x1.s,aB true,aI (w6 (x3.n + 1)),aL ((x4.k ++ [T.str x1.s]) ++ [T.str (x0.a x3.n).s])] else none else none else none else bif ib x3.n x0.l then bif decide (Nat.succ (List.length x4.k) < 1073741824) then D n i_R17_Put (some p_R17_Put_c1) [aL x0.k,aS x1.s,aB x2.b,aI (w6 (x3.n + 1)),aL (x4.k ++ [T.str (x0.a x3.n).s])] else none else none else none else bif ib x3.n x0.l then bif decide (Nat.succ (List.length x4.k) < 1073741824) then D n i_R17_Put (some p_R17_Put_c1) [aL x0.k,aS x1.s,aB x2.b,aI (w6 (x3.n + 1)),aL (x4.k ++ [T.str (x0.a x3.n).s])] else none else none else some (2,[aS x1.s,aB x2.b,aL x4.k]) := by kernel_rfl
theorem q_R17_Has (n : Nat) (x0 x1 : T) : den Try.prog G0 ents (Nat.succ n) i_R17_Has none [A.t x0, A.t x1] =
  lp n i_R17_Has p_R17_Has_c1 [aL x0.k,aS x1.s,aI 0] fun v0 => bif Nat.beq v0.1 2 then rt [aB false] else bif Nat.beq v0.1 1 then rt [aB (r v0.2 0).b] else none := by kernel_rfl
theorem q_R17_Has_c1 (n : Nat) (x0 x1 x2 : T) : den Try.prog G0 ents (Nat.succ n) i_R17_Has (some p_R17_Has_c1) [A.t x0, A.t x1, A.t x2] =
  bif lt x2.n x0.l then bif ib x2.n x0.l then bif seqB (x0.a x2.n).s x1.s then rt [aB true] else D n i_R17_Has (some p_R17_Has_c1) [aL x0.k,aS x1.s,aI (w6 (x2.n + 1))] else none else some (2,[]) := by kernel_rfl
theorem q_L17_of (n : Nat) (x0 x1 : T) : den Try.prog G0 ents (Nat.succ n) i_L17_of none [A.t x0, A.t x1] =
  cl n i_graph_New_string [aL x0.k] fun v0 => lp n i_L17_of p_L17_of_c1 [aL x1.k,aI 0,aL (r v0 0).k] fun v1 => bif Nat.beq v1.1 2 then rt [aL (r v1.2 0).k] else none := by kernel_rfl
theorem q_L17_of_c1 (n : Nat) (x0 x1 x2 : T) : den Try.prog G0 ents (Nat.succ n) i_L17_of (some p_L17_of_c1) [A.t x0, A.t x1, A.t x2] =
  bif lt x1.n x0.l then bif ib x1.n x0.l then bif ib x1.n x0.l then cl n i_graph_Graph_string_Link [aS ((x0.a x1.n).g 0).s,aS ((x0.a x1.n).g 1).s,aL x2.k] fun v0 => D n i_L17_of (some p_L17_of_c1) [aL x0.k,aI (w6 (x1.n + 1)),aL (r v0 0).k] else none else none else some (2,[aL x2.k]) := by kernel_rfl
theorem q_graph_Graph_string_Reach (n : Nat) (x0 x1 : T) : den Try.prog G0 ents (Nat.succ n) i_graph_Graph_string_Reach none [A.t x0, A.t x1] =
  cl n i_slices_Clone [aL x0.k] fun v0 => lp n i_graph_Graph_string_Reach p_graph_Graph_string_Reach_c1 [aL x1.k,aL [],aL (r v0 0).k] fun v1 => bif Nat.beq v1.1 2 then cl n i_maps_Keys_map_string_int_string_int [aL (r v1.2 1).k] fun v2 => cl n i_slices_Sorted [aL (r v2 0).k] fun v3 => rt [aL (r v3 0).k,aL (r v1.2 0).k] else none := by kernel_rfl
theorem q_graph_Graph_string_Reach_c1 (n : Nat) (x0 x1 x2 : T) : den Try.prog G0 ents (Nat.succ n) i_graph_Graph_string_Reach (some p_graph_Graph_string_Reach_c1) [A.t x0, A.t x1, A.t x2] =
  bif gt x2.l 0 then bif ib (w6 (x2.l - 1)) x2.l then bif decide (Int.toNat (w6 (x2.l - 1)) < List.length x2.k) then bif Bool.and (le 0 (w6 (x2.l - 1))) (le (w6 (x2.l - 1)) x2.l) then cl n i_graph_Graph_string_Has [aS (x2.a (w6 (x2.l - 1))).s,aL x0.k] fun v0 => bif (!(r v0 0).b) == false then bif gt (mget keyS (T.int 0) x1.k (T.str (x2.a (w6 (x2.l - 1))).s)).n 0 then D n i_graph_Graph_string_Reach (some p_graph_Graph_string_Reach_c1) [aL (r v0 1).k,aL x1.k,aL (List.take (Int.toNat (w6 (x2.l - 1))) x2.k)] else bif decide ((List.length (List.take (Int.toNat (w6 (x2.l - 1))) x2.k) + List.length (mget keyS (T.node []) (r v0 1).k (T.str (x2.a (w6 (x2.l - 1))).s)).k) < 1073741824) then D n i_graph_Graph_string_Reach (some p_graph_Graph_string_Reach_c1) [aL (r v0 1).k,aL (mput keyS x1.k (T.str (x2.a (w6 (x2.l - 1))).s) (T.int 1)),aL (List.take (Int.toNat (w6 (x2.l - 1))) x2.k ++ (mget keyS (T.node []) (r v0 1).k (T.str (x2.a (w6 (x2.l - 1))).s)).k)] else none else D n i_graph_Graph_string_Reach (some p_graph_Graph_string_Reach_c1) [aL (r v0 1).k,aL x1.k,aL (List.take (Int.toNat (w6 (x2.l - 1))) x2.k)] else none else none else none else some (2,[aL x0.k,aL x1.k]) := by kernel_rfl
theorem q_R17_Reach (n : Nat) (x0 x1 x2 : T) : den Try.prog G0 ents (Nat.succ n) i_R17_Reach none [A.t x0, A.t x1, A.t x2] =
  lp n i_R17_Reach p_R17_Reach_c1 [aL x0.k,aL x1.k,aL x2.k,aL [],aI 0] fun v0 => bif Nat.beq v0.1 2 then lp n i_R17_Reach p_R17_Reach_c2 [aL (r v0.2 0).k,aL (r v0.2 1).k,aL (r v0.2 2).k,aI 0] fun v1 => bif Nat.beq v1.1 4 then rt [aL (r v1.2 0).k] else none else none := by kernel_rfl
theorem q_R17_Reach_c1 (n : Nat) (x0 x1 x2 x3 x4 : T) : den Try.prog G0 ents (Nat.succ n) i_R17_Reach (some p_R17_Reach_c1) [A.t x0, A.t x1, A.t x2, A.t x3, A.t x4] =
  bif lt x4.n x2.l then bif ib x4.n x2.l then cl n i_R17_Has [aL x0.k,aS (x2.a x4.n).s] fun v0 => bif (r v0 0).b then bif ib x4.n x2.l then cl n i_R17_Put [aL x3.k,aS (x2.a x4.n).s] fun v1 => D n i_R17_Reach (some p_R17_Reach_c1) [aL x0.k,aL x1.k,aL x2.k,aL (r v1 0).k,aI (w6 (x4.n + 1))] else none else D n i_R17_Reach (some p_R17_Reach_c1) [aL x0.k,aL x1.k,aL x2.k,aL x3.k,aI (w6 (x4.n + 1))] else none else some (2,[aL x0.k,aL x1.k,aL x3.k]) := by kernel_rfl
theorem q_R17_Reach_c2 (n : Nat) (x0 x1 x2 x3 : T) : den Try.prog G0 ents (Nat.succ n) i_R17_Reach (some p_R17_Reach_c2) [A.t x0, A.t x1, A.t x2, A.t x3] =
  bif lt x3.n x0.l then lp n i_R17_Reach p_R17_Reach_c3 [aL x0.k,aL x1.k,aL x2.k,aI x3.n,aI 0] fun v0 => bif Nat.beq v0.1 6 then D n i_R17_Reach (some p_R17_Reach_c2) [aL (r v0.2 0).k,aL (r v0.2 1).k,aL (r v0.2 2).k,aI (w6 ((r v0.2 3).n + 1))] else none else some (4,[aL x2.k]) := by kernel_rfl
theorem q_R17_Reach_c3 (n : Nat) (x0 x1 x2 x3 x4 : T) : den Try.prog G0 ents (Nat.succ n) i_R17_Reach (some p_R17_Reach_c3) [A.t x0, A.t x1, A.t x2, A.t x3, A.t x4] =
  bif lt x4.n x1.l then bif ib x4.n x1.l then cl n i_R17_Has [aL x2.k,aS ((x1.a x4.n).g 0).s] fun v0 => bif (r v0 0).b then bif ib x4.n x1.l then cl n i_R17_Put [aL x2.k,aS ((x1.a x4.n).g 1).s] fun v1 => D n i_R17_Reach (some p_R17_Reach_c3) [aL x0.k,aL x1.k,aL (r v1 0).k,aI x3.n,aI (w6 (x4.n + 1))] else none else D n i_R17_Reach (some p_R17_Reach_c3) [aL x0.k,aL x1.k,aL x2.k,aI x3.n,aI (w6 (x4.n + 1))] else none else some (6,[aL x0.k,aL x1.k,aL x2.k,aI x3.n]) := by kernel_rfl
end Go.Proofs.YtbejhhoakeapgaaGR
namespace Go.Proofs.YtbejhhoakeapgaaGR
open Go Go.Proofs.YtbejhhoakeapgaaVM
set_option linter.unusedVariables false
def terms (v : T) : List T := (v.get 0).kids
def flds (t : T) : List T := (t.get 7).kids
def nm (f : T) : ByteArray := (f.get 0).txt
def val (f : T) : T := f.get 1
def sumN (l : List Nat) : Nat := l.foldr (· + ·) 0
def wt : Nat → T → Nat
  | 0, _ => 0
  | d + 1, v => sumN ((terms v).map fun t => 1 + sumN ((flds t).map fun f => wt d (val f)))
def wtT (d : Nat) (t : T) : Nat := 1 + sumN ((flds t).map fun f => wt d (val f))
theorem wt_succ (d : Nat) (v : T) : wt (d + 1) v = sumN ((terms v).map (wtT d)) := rfl
def maxN (l : List Nat) : Nat := l.foldr max 0
def dep : Nat → T → Nat
  | 0, _ => 0
  | d + 1, v => 1 + maxN ((terms v).map fun t => maxN ((flds t).map fun f => dep d (val f)))
def Vd : Nat → T → Prop
  | 0, _ => False
  | d + 1, v => ∀ t ∈ terms v, (flds t).length ≤ 100 ∧ (t.get 3).txt.size ≤ 400 ∧ ∀ f ∈ flds t, (nm f).size ≤ 100 ∧ Vd d (val f)
theorem sum_foldl {α : Type} (f : α → Nat) : ∀ (l : List α) (a : Nat), l.foldl (fun a x => a + f x) a = a + sumN (l.map f)
  | [], a => by simp [sumN]
  | x :: l, a => by
    rw [List.foldl_cons, sum_foldl f l (a + f x)]
    simp only [List.map_cons, sumN, List.foldr_cons]
    omega
theorem max_foldl {α : Type} (f : α → Nat) : ∀ (l : List α) (a : Nat), l.foldl (fun a x => max a (f x)) a = max a (maxN (l.map f))
  | [], a => by simp [maxN]
  | x :: l, a => by
    rw [List.foldl_cons, max_foldl f l (max a (f x))]
    simp only [List.map_cons, maxN, List.foldr_cons]
    omega
theorem sum_mem {α : Type} {f : α → Nat} {l : List α} {x : α} (h : x ∈ l) : f x ≤ sumN (l.map f) := by
  induction l with
  | nil => cases h
  | cons y l ih =>
    simp only [List.map_cons, sumN, List.foldr_cons]
    rcases List.mem_cons.1 h with rfl | h
    · omega
    · have := ih h
      unfold sumN at this
      omega
theorem sum_len {α : Type} {f : α → Nat} {l : List α} (h : ∀ x ∈ l, 1 ≤ f x) : l.length ≤ sumN (l.map f) := by
  induction l with
  | nil => simp
  | cons y l ih =>
    have h1 := ih fun x hx => h x (List.mem_cons_of_mem _ hx)
    have h2 := h y List.mem_cons_self
    simp only [List.map_cons, sumN, List.foldr_cons, List.length_cons]
    unfold sumN at h1
    omega
def Sm (d : Nat) (v : T) : Prop := Vd d v ∧ wt d v ≤ 512
theorem Sm.terms {d : Nat} {v : T} (h : Sm d v) : (terms v).length ≤ 512 := by
  cases d with
  | zero => exact h.1.elim
  | succ d => exact Nat.le_trans (sum_len (f := wtT d) fun t _ => by unfold wtT; omega) h.2
theorem Sm.sub {d : Nat} {v t f : T} (h : Sm (d + 1) v) (ht : t ∈ YtbejhhoakeapgaaGR.terms v) (hf : f ∈ flds t) : Sm d (val f) := by
  refine ⟨((h.1 t ht).2.2 f hf).2, ?_⟩
  have h1 : wt d (val f) ≤ wtT d t := by
    unfold wtT
    have := sum_mem (f := fun f => wt d (val f)) hf
    omega
  have h2 : wtT d t ≤ wt (d + 1) v := sum_mem (f := wtT d) ht
  have := h.2
  omega
theorem Sm.flds {d : Nat} {v t : T} (h : Sm (d + 1) v) (ht : t ∈ YtbejhhoakeapgaaGR.terms v) : (YtbejhhoakeapgaaGR.flds t).length ≤ 100 := (h.1 t ht).1
theorem Sm.wtT {d : Nat} {v t : T} (h : Sm (d + 1) v) (ht : t ∈ YtbejhhoakeapgaaGR.terms v) : YtbejhhoakeapgaaGR.wtT d t ≤ 512 := Nat.le_trans (sum_mem (f := YtbejhhoakeapgaaGR.wtT d) ht) h.2

def leftFs (g : T → Int → Int) : List T → Int → Int
  | [], n => n
  | f :: fs, n => if n < 0 then n else if 100 < (nm f).size then -1 else leftFs g fs (g (val f) n)
def leftTs (g : T → Int → Int) : List T → Int → Int
  | [], n => n
  | t :: ts, n => if n < 0 then n else if 400 < (t.get 3).txt.size ∨ 100 < (flds t).length then -1 else leftTs g ts (leftFs g (flds t) (n - 1))
def leftF : Nat → T → Int → Int
  | 0, _, _ => -1
  | d + 1, v, n => if (((terms v).length : Nat) : Int) > n then -1 else leftTs (leftF d) (terms v) n
theorem leftFs_neg (g : T → Int → Int) : ∀ (l : List T) (n : Int), n < 0 → leftFs g l n = n
  | [], n, h => rfl
  | f :: fs, n, h => by rw [leftFs, if_pos h]
theorem leftTs_neg (g : T → Int → Int) : ∀ (l : List T) (n : Int), n < 0 → leftTs g l n = n
  | [], n, h => rfl
  | f :: fs, n, h => by rw [leftTs, if_pos h]
theorem left_few : ∀ (d : Nat) (v : T) (n : Int), 0 ≤ leftF d v n → Vd d v ∧ leftF d v n + (wt d v : Nat) = n
  | 0, v, n, h => by simp [leftF] at h
  | d + 1, v, n, h => by
    have hfs : ∀ (l : List T) (n : Int), 0 ≤ leftFs (leftF d) l n → (∀ f ∈ l, (nm f).size ≤ 100 ∧ Vd d (val f)) ∧ leftFs (leftF d) l n + (sumN (l.map fun f => wt d (val f)) : Nat) = n := by
      intro l
      induction l with
      | nil => intro n hn; exact ⟨by simp, by simp [leftFs, sumN]⟩
      | cons f l ih =>
        intro n hn
        rw [leftFs] at hn ⊢
        split at hn
        · omega
        · split at hn
          · omega
          · rename_i h1 h2
            rw [if_neg h1, if_neg h2]
            obtain ⟨q1, q2⟩ := ih _ hn
            have h3 : 0 ≤ leftF d (val f) n := by
              rcases Int.lt_or_le (leftF d (val f) n) 0 with h4 | h4
              · rw [leftFs_neg _ _ _ h4] at hn; omega
              · exact h4
            obtain ⟨q3, q4⟩ := left_few d (val f) n h3
            refine ⟨fun x hx => ?_, ?_⟩
            · rcases List.mem_cons.1 hx with rfl | hx
              · exact ⟨by omega, q3⟩
              · exact q1 x hx
            · simp only [List.map_cons, sumN, List.foldr_cons] at q2 ⊢
              omega
    have hts : ∀ (l : List T) (n : Int), 0 ≤ leftTs (leftF d) l n → (∀ t ∈ l, (flds t).length ≤ 100 ∧ (t.get 3).txt.size ≤ 400 ∧ ∀ f ∈ flds t, (nm f).size ≤ 100 ∧ Vd d (val f)) ∧ leftTs (leftF d) l n + (sumN (l.map (wtT d)) : Nat) = n := by
      intro l
      induction l with
      | nil => intro n hn; exact ⟨by simp, by simp [leftTs, sumN]⟩
      | cons t l ih =>
        intro n hn
        rw [leftTs] at hn ⊢
        split at hn
        · omega
        · split at hn
          · omega
          · rename_i h1 h2
            rw [if_neg h1, if_neg h2]
            obtain ⟨q1, q2⟩ := ih _ hn
            have h3 : 0 ≤ leftFs (leftF d) (flds t) (n - 1) := by
              rcases Int.lt_or_le (leftFs (leftF d) (flds t) (n - 1)) 0 with h4 | h4
              · rw [leftTs_neg _ _ _ h4] at hn; omega
              · exact h4
            obtain ⟨q3, q4⟩ := hfs _ _ h3
            refine ⟨fun x hx => ?_, ?_⟩
            · rcases List.mem_cons.1 hx with rfl | hx
              · exact ⟨by omega, by omega, q3⟩
              · exact q1 x hx
            · simp only [List.map_cons, sumN, List.foldr_cons, wtT] at q2 q4 ⊢
              omega
    rw [leftF] at h ⊢
    split at h
    · omega
    · rename_i h1
      rw [if_neg h1]
      exact hts _ _ h
end Go.Proofs.YtbejhhoakeapgaaGR
namespace Go.Proofs.YtbejhhoakeapgaaGR
open Go Go.Proofs.YtbejhhoakeapgaaVM
set_option linter.unusedVariables false
set_option linter.unusedSimpArgs false
set_option maxRecDepth 100000

def Dz (i : Nat) (p : Option (List Bool)) (xs : List A) (r : Nat × List A) : Prop := Does Try.prog G0 ents i p xs r
theorem terms_eq (v : T) : (T.get v 0).kids = terms v := id rfl
theorem flds_eq (v : T) : (T.get v 7).kids = flds v := id rfl
theorem S1 : (∀ n i p xs, D n i p xs = den Try.prog G0 ents n i p xs) ∧ (∀ n i xs k, cl n i xs k = Option.bind (Option.map (fun v => v.2) (den Try.prog G0 ents n i none xs)) k) ∧ (∀ n i p xs k, lp n i p xs k = Option.bind (den Try.prog G0 ents n i (some p) xs) k) :=
  ⟨fun _ _ _ _ => rfl, fun _ _ _ _ => rfl, fun _ _ _ _ _ => rfl⟩
theorem S2 : (∀ v, (T.get v 0).kids = terms v) ∧ (∀ v, (T.get v 7).kids = flds v) := ⟨fun _ => rfl, fun _ => rfl⟩
theorem leftFs_le {g : T → Int → Int} (hg : ∀ v n, g v n ≤ max n (-1) ∧ (-1 ≤ n → -1 ≤ g v n)) : ∀ (l : List T) (n : Int), leftFs g l n ≤ max n (-1) ∧ (-1 ≤ n → -1 ≤ leftFs g l n) := by
  intro l
  induction l with
  | nil => intro n; simp only [leftFs]; omega
  | cons f l ih =>
    intro n
    rw [leftFs]
    split
    · omega
    · split
      · omega
      · have h1 := ih (g (val f) n)
        have h2 := hg (val f) n
        omega
theorem leftF_le : ∀ (d : Nat) (v : T) (n : Int), leftF d v n ≤ max n (-1) ∧ (-1 ≤ n → -1 ≤ leftF d v n)
  | 0, v, n => by simp only [leftF]; omega
  | d + 1, v, n => by
    have hts : ∀ (l : List T) (n : Int), leftTs (leftF d) l n ≤ max n (-1) ∧ (-1 ≤ n → -1 ≤ leftTs (leftF d) l n) := by
      intro l
      induction l with
      | nil => intro n; simp only [leftTs]; omega
      | cons t l ih =>
        intro n
        rw [leftTs]
        split
        · omega
        · split
          · omega
          · have h1 := ih (leftFs (leftF d) (flds t) (n - 1))
            have h2 := leftFs_le (fun v n => leftF_le d v n) (flds t) (n - 1)
            omega
    rw [leftF]
    split
    · omega
    · exact hts _ _
end Go.Proofs.YtbejhhoakeapgaaGR
namespace Go.Proofs.YtbejhhoakeapgaaGR
open Go Go.Proofs.YtbejhhoakeapgaaVM
set_option linter.unusedVariables false
set_option linter.unusedSimpArgs false
set_option maxRecDepth 100000

def up : Nat → Nat → Nat
  | 0, n => n
  | k + 1, n => Nat.succ (up k n)
theorem up_add (k n : Nat) : up k n = n + k := by
  induction k with
  | zero => rfl
  | succ k ih => rw [up, ih]; rfl
theorem run_of {i : Nat} {xs : List A} {r : Nat × List A} (k : Nat) (h : ∀ n, den Try.prog G0 ents (up k n) i none xs = some r) : Dz i none xs r :=
  ⟨k, fun n hn => by
    obtain ⟨j, rfl⟩ : ∃ j, n = j + k := ⟨n - k, by omega⟩
    rw [← up_add]
    exact h j⟩
def fi (p : T → Bool) : List T → Nat → Int
  | [], _ => -1
  | x :: l, k => if p x then ((k : Nat) : Int) else fi p l (k + 1)
theorem fi_any (p : T → Bool) : ∀ (l : List T) (k : Nat), decide (fi p l k ≥ 0) = l.any p
  | [], k => by simp [fi]
  | x :: l, k => by
    rw [fi, List.any_cons, ← fi_any p l (k + 1)]
    cases p x
    · simp
    · simp
theorem fi_none {p : T → Bool} {l : List T} {k : Nat} (h : l.any p = false) : fi p l k = -1 := by
  induction l generalizing k with
  | nil => rfl
  | cons x l ih =>
    rw [List.any_cons, Bool.or_eq_false_iff] at h
    rw [fi, h.1, ih h.2]
    rfl
theorem idx0_loop {i ic : Nat} {pp : List Bool} (hq : ∀ n x0 x1 x2, den Try.prog G0 ents (Nat.succ n) i (some pp) [A.t x0, A.t x1, A.t x2] =
  bif lt x2.n x1.n then bif ib x2.n x0.l then cl n ic [A.t (x0.a x2.n)] fun v0 => bif (r v0 0).b then rt [aI x2.n] else D n i (some pp) [aL x0.k,aI x1.n,aI (w6 (x2.n + 1))] else none else some (2,[]))
    (l : List T) (p : T → Bool) (hl : l.length ≤ 1000000000) (hp : ∀ x ∈ l, Dz ic none [A.t x] (1, [A.t (T.bool (p x))])) : ∀ (k j : Nat), j + k = l.length →
    Dz i (some pp) [A.t (T.node l), A.t (T.int (l.length : Nat)), A.t (T.int j)] (if (l.drop j).any p then (1, [A.t (T.int (fi p (l.drop j) j))]) else (2, [])) := by
  intro k
  induction k with
  | zero =>
    intro j hj
    rw [List.drop_of_length_le (by omega)]
    refine Does.now fun m => ?_
    rw [hq]
    simp only [S0, S9, S1, S2, if_true, if_false, List.any_nil]
    rw [if_neg (by omega)]
  | succ k ih =>
    intro j hj
    have hlt : j < l.length := by omega
    have hw : IntKind.i64.wrap ((j : Int) + 1) = ((j + 1 : Nat) : Int) := i64succ (by omega)
    obtain ⟨n0, h0⟩ := (hp _ (List.getElem_mem hlt)).both (ih (j + 1) (by omega))
    refine Does.of n0 fun m hm => ?_
    obtain ⟨q, q2⟩ := h0 m hm
    rw [hq, List.drop_eq_getElem_cons hlt, List.any_cons, fi]
    simp only [S0, S9, S1, S2, if_true, if_false, hw, at_get hlt, q]
    rw [if_pos (by omega), if_pos (by omega)]
    cases p l[j]
    · simp only [Bool.false_eq_true, if_false, false_or]; exact q2
    · rfl
theorem idx0_does {i ic : Nat} {pp : List Bool} (hq2 : ∀ n x0, den Try.prog G0 ents (Nat.succ n) i none [A.t x0] =
  lp n i pp [aL x0.k,aI x0.l,aI 0] fun v0 => bif Nat.beq v0.1 2 then rt [aI (-1)] else bif Nat.beq v0.1 1 then rt [aI (r v0.2 0).n] else none) (hq : ∀ n x0 x1 x2, den Try.prog G0 ents (Nat.succ n) i (some pp) [A.t x0, A.t x1, A.t x2] =
  bif lt x2.n x1.n then bif ib x2.n x0.l then cl n ic [A.t (x0.a x2.n)] fun v0 => bif (r v0 0).b then rt [aI x2.n] else D n i (some pp) [aL x0.k,aI x1.n,aI (w6 (x2.n + 1))] else none else some (2,[]))
    (l : List T) (p : T → Bool) (hl : l.length ≤ 1000000000) (hp : ∀ x ∈ l, Dz ic none [A.t x] (1, [A.t (T.bool (p x))])) : Dz i none [A.t (T.node l)] (1, [A.t (T.int (fi p l 0))]) := by
  obtain ⟨n0, h0⟩ := idx0_loop hq l p hl hp l.length 0 (by omega)
  rw [List.drop_zero] at h0
  refine Does.of n0 fun m hm => ?_
  have q : den Try.prog G0 ents m i (some pp) [A.t (T.node l), A.t (T.int (l.length : Nat)), A.t (T.int 0)] = _ := h0 m hm
  rw [hq2]
  simp only [S0, S9, S1, S2, if_true, if_false, q]
  cases hb : l.any p
  · rw [fi_none hb]; rfl
  · rfl
theorem has0_does {i i2 ic : Nat} {pp : List Bool} (hq3 : ∀ n x0, den Try.prog G0 ents (Nat.succ n) i2 none [A.t x0] =
  cl n i [aL x0.k] fun v0 => rt [aB (ge (r v0 0).n 0)]) (hq2 : ∀ n x0, den Try.prog G0 ents (Nat.succ n) i none [A.t x0] =
  lp n i pp [aL x0.k,aI x0.l,aI 0] fun v0 => bif Nat.beq v0.1 2 then rt [aI (-1)] else bif Nat.beq v0.1 1 then rt [aI (r v0.2 0).n] else none) (hq : ∀ n x0 x1 x2, den Try.prog G0 ents (Nat.succ n) i (some pp) [A.t x0, A.t x1, A.t x2] =
  bif lt x2.n x1.n then bif ib x2.n x0.l then cl n ic [A.t (x0.a x2.n)] fun v0 => bif (r v0 0).b then rt [aI x2.n] else D n i (some pp) [aL x0.k,aI x1.n,aI (w6 (x2.n + 1))] else none else some (2,[]))
    (l : List T) (p : T → Bool) (hl : l.length ≤ 1000000000) (hp : ∀ x ∈ l, Dz ic none [A.t x] (1, [A.t (T.bool (p x))])) : Dz i2 none [A.t (T.node l)] (1, [A.t (T.bool (l.any p))]) := by
  obtain ⟨n0, h0⟩ := idx0_does hq2 hq l p hl hp
  refine Does.of n0 fun m hm => ?_
  rw [hq3]
  simp only [S0, S9, S1, S2, if_true, if_false, h0 m hm, fi_any]
theorem idx1_loop {i ic : Nat} {pp : List Bool} (hq : ∀ n x0 x1 x2 x3, den Try.prog G0 ents (Nat.succ n) i (some pp) [A.t x0, A.t x1, A.t x2, A.t x3] =
  bif lt x2.n x1.n then bif ib x2.n x0.l then cl n ic [A.t (x0.a x2.n),A.t x3] fun v0 => bif (r v0 0).b then rt [aI x2.n,A.t (r v0 1)] else D n i (some pp) [aL x0.k,aI x1.n,aI (w6 (x2.n + 1)),A.t (r v0 1)] else none else some (2,[A.t x3]))
    (l : List T) (c0 : T) (p : T → Bool) (hl : l.length ≤ 1000000000) (hp : ∀ x ∈ l, Dz ic none [A.t x, A.t c0] (1, [A.t (T.bool (p x)), A.t c0])) : ∀ (k j : Nat), j + k = l.length →
    Dz i (some pp) [A.t (T.node l), A.t (T.int (l.length : Nat)), A.t (T.int j), A.t c0] (if (l.drop j).any p then (1, [A.t (T.int (fi p (l.drop j) j)), A.t c0]) else (2, [A.t c0])) := by
  intro k
  induction k with
  | zero =>
    intro j hj
    rw [List.drop_of_length_le (by omega)]
    refine Does.now fun m => ?_
    rw [hq]
    simp only [S0, S9, S1, S2, if_true, if_false, List.any_nil]
    rw [if_neg (by omega)]
  | succ k ih =>
    intro j hj
    have hlt : j < l.length := by omega
    have hw : IntKind.i64.wrap ((j : Int) + 1) = ((j + 1 : Nat) : Int) := i64succ (by omega)
    obtain ⟨n0, h0⟩ := (hp _ (List.getElem_mem hlt)).both (ih (j + 1) (by omega))
    refine Does.of n0 fun m hm => ?_
    obtain ⟨q, q2⟩ := h0 m hm
    rw [hq, List.drop_eq_getElem_cons hlt, List.any_cons, fi]
    simp only [S0, S9, S1, S2, if_true, if_false, hw, at_get hlt, q]
    rw [if_pos (by omega), if_pos (by omega)]
    cases p l[j]
    · simp only [Bool.false_eq_true, if_false, false_or]; exact q2
    · rfl
theorem idx1_does {i ic : Nat} {pp : List Bool} (hq2 : ∀ n x0 x1, den Try.prog G0 ents (Nat.succ n) i none [A.t x0, A.t x1] =
  lp n i pp [aL x0.k,aI x0.l,aI 0,A.t x1] fun v0 => bif Nat.beq v0.1 2 then rt [aI (-1),A.t (r v0.2 0)] else bif Nat.beq v0.1 1 then rt [aI (r v0.2 0).n,A.t (r v0.2 1)] else none) (hq : ∀ n x0 x1 x2 x3, den Try.prog G0 ents (Nat.succ n) i (some pp) [A.t x0, A.t x1, A.t x2, A.t x3] =
  bif lt x2.n x1.n then bif ib x2.n x0.l then cl n ic [A.t (x0.a x2.n),A.t x3] fun v0 => bif (r v0 0).b then rt [aI x2.n,A.t (r v0 1)] else D n i (some pp) [aL x0.k,aI x1.n,aI (w6 (x2.n + 1)),A.t (r v0 1)] else none else some (2,[A.t x3]))
    (l : List T) (c0 : T) (p : T → Bool) (hl : l.length ≤ 1000000000) (hp : ∀ x ∈ l, Dz ic none [A.t x, A.t c0] (1, [A.t (T.bool (p x)), A.t c0])) : Dz i none [A.t (T.node l), A.t c0] (1, [A.t (T.int (fi p l 0)), A.t c0]) := by
  obtain ⟨n0, h0⟩ := idx1_loop hq l c0 p hl hp l.length 0 (by omega)
  rw [List.drop_zero] at h0
  refine Does.of n0 fun m hm => ?_
  have q : den Try.prog G0 ents m i (some pp) [A.t (T.node l), A.t (T.int (l.length : Nat)), A.t (T.int 0), A.t c0] = _ := h0 m hm
  rw [hq2]
  simp only [S0, S9, S1, S2, if_true, if_false, q]
  cases hb : l.any p
  · rw [fi_none hb]; rfl
  · rfl
theorem has1_does {i i2 ic : Nat} {pp : List Bool} (hq3 : ∀ n x0 x1, den Try.prog G0 ents (Nat.succ n) i2 none [A.t x0, A.t x1] =
  cl n i [aL x0.k,A.t x1] fun v0 => rt [aB (ge (r v0 0).n 0),A.t (r v0 1)]) (hq2 : ∀ n x0 x1, den Try.prog G0 ents (Nat.succ n) i none [A.t x0, A.t x1] =
  lp n i pp [aL x0.k,aI x0.l,aI 0,A.t x1] fun v0 => bif Nat.beq v0.1 2 then rt [aI (-1),A.t (r v0.2 0)] else bif Nat.beq v0.1 1 then rt [aI (r v0.2 0).n,A.t (r v0.2 1)] else none) (hq : ∀ n x0 x1 x2 x3, den Try.prog G0 ents (Nat.succ n) i (some pp) [A.t x0, A.t x1, A.t x2, A.t x3] =
  bif lt x2.n x1.n then bif ib x2.n x0.l then cl n ic [A.t (x0.a x2.n),A.t x3] fun v0 => bif (r v0 0).b then rt [aI x2.n,A.t (r v0 1)] else D n i (some pp) [aL x0.k,aI x1.n,aI (w6 (x2.n + 1)),A.t (r v0 1)] else none else some (2,[A.t x3]))
    (l : List T) (c0 : T) (p : T → Bool) (hl : l.length ≤ 1000000000) (hp : ∀ x ∈ l, Dz ic none [A.t x, A.t c0] (1, [A.t (T.bool (p x)), A.t c0])) : Dz i2 none [A.t (T.node l), A.t c0] (1, [A.t (T.bool (l.any p)), A.t c0]) := by
  obtain ⟨n0, h0⟩ := idx1_does hq2 hq l c0 p hl hp
  refine Does.of n0 fun m hm => ?_
  rw [hq3]
  simp only [S0, S9, S1, S2, if_true, if_false, h0 m hm, fi_any]
end Go.Proofs.YtbejhhoakeapgaaGR
namespace Go.Proofs.YtbejhhoakeapgaaGR
open Go Go.Proofs.YtbejhhoakeapgaaVM
set_option linter.unusedVariables false
set_option linter.unusedSimpArgs false
set_option maxRecDepth 100000

structure Dk where
  dn : Bool
  lf : Int
  kp : Int
  op : Int
  fs : List T
def f0 : T := .node [.str ByteArray.empty, .int 0]
def gF (fs : List T) (s : ByteArray) : T := mget keyS f0 fs (.str s)
def hF (fs : List T) (s : ByteArray) : Bool := mhas keyS fs (.str s)
def fT (f : T) : ByteArray := (f.get 0).txt
def fN (f : T) : Int := (f.get 1).num
def fil (s : ByteArray) (n : Int) : T := .node [.str s, .int n]
def putF (fs : List T) (s : ByteArray) (v : T) : List T := mput keyS fs (.str s) v
def delF (fs : List T) (s : ByteArray) : List T := mdel keyS fs (.str s)
theorem fT_fil (s : ByteArray) (n : Int) : fT (fil s n) = s := id rfl
theorem fN_fil (s : ByteArray) (n : Int) : fN (fil s n) = n := id rfl
def Fw (f : T) : Prop := 0 ≤ fN f ∧ fN f ≤ ((fT f).size : Int) ∧ (fT f).size ≤ 4194304
def Wf (fs : List T) : Prop := ∀ s, Fw (gF fs s)
theorem key_self (s : ByteArray) : keyS (.str s) (.str s) = true := by
  show seqB s s = true
  unfold seqB
  exact beq_self_eq_true _
theorem key_iff (a b : T) : keyS a b = true ↔ a.txt = b.txt := by
  unfold keyS seqB
  rw [beq_iff_eq]
  exact ⟨fun h => by rw [ByteArray.toList_eq, ByteArray.toList_eq] at h; exact ByteArray.ext (Array.toList_inj.1 h), fun h => by rw [h]⟩
theorem gF_put (fs : List T) (k s : ByteArray) (v : T) : gF (putF fs k v) s = if s = k then v else gF fs s := by
  unfold gF putF
  induction fs with
  | nil =>
    show mget keyS f0 [.node [.str k, v]] (.str s) = _
    simp only [mget]
    by_cases h : s = k
    · subst h
      rw [show keyS (.str s) ((T.node [.str s, v]).get 0) = true from key_self s, if_pos rfl]
      rfl
    · have : keyS (.str s) ((T.node [.str k, v]).get 0) = false := by
        cases hq : keyS (.str s) ((T.node [.str k, v]).get 0) with
        | false => rfl
        | true => exact absurd ((key_iff _ _).1 hq) h
      rw [this, if_neg h]
      rfl
  | cons e es ih =>
    simp only [mput]
    cases hk : keyS (.str k) (e.get 0) with
    | true =>
      have hke : k = (e.get 0).txt := (key_iff _ _).1 hk
      simp only [cond_true, mget]
      by_cases h : s = k
      · subst h
        rw [show keyS (.str s) ((T.node [.str s, v]).get 0) = true from key_self s, if_pos rfl]
        rfl
      · have h1 : keyS (.str s) ((T.node [.str k, v]).get 0) = false := by
          cases hq : keyS (.str s) ((T.node [.str k, v]).get 0) with
          | false => rfl
          | true => exact absurd ((key_iff _ _).1 hq) h
        have h2 : keyS (.str s) (e.get 0) = false := by
          cases hq : keyS (.str s) (e.get 0) with
          | false => rfl
          | true => exact absurd (((key_iff _ _).1 hq).trans hke.symm) h
        rw [h1, h2, if_neg h]
        rfl
    | false =>
      simp only [cond_false, mget]
      cases hs : keyS (.str s) (e.get 0) with
      | true =>
        have hne : ¬ s = k := fun h => by subst h; rw [hs] at hk; cases hk
        rw [if_neg hne]
        rfl
      | false => simp only [cond_false]; exact ih
theorem gF_del (fs : List T) (k s : ByteArray) (h : s ≠ k) : gF (delF fs k) s = gF fs s := by
  unfold gF delF
  induction fs with
  | nil => rfl
  | cons e es ih =>
    simp only [mdel]
    cases hk : keyS (.str k) (e.get 0) with
    | true =>
      have hke : k = (e.get 0).txt := (key_iff _ _).1 hk
      have h2 : keyS (.str s) (e.get 0) = false := by
        cases hq : keyS (.str s) (e.get 0) with
        | false => rfl
        | true => exact absurd (((key_iff _ _).1 hq).trans hke.symm) h
      simp only [cond_true, mget, h2, cond_false]
    | false =>
      simp only [cond_false, mget]
      cases hs : keyS (.str s) (e.get 0)
      · simp only [cond_false]; exact ih
      · rfl
theorem gF_no {fs : List T} {s : ByteArray} (h : hF fs s = false) : gF fs s = f0 := by
  unfold hF mhas at h
  unfold gF
  induction fs with
  | nil => rfl
  | cons e es ih =>
    rw [List.any_cons, Bool.or_eq_false_iff] at h
    simp only [mget, h.1, cond_false]
    exact ih h.2
theorem hF_put (fs : List T) (k s : ByteArray) (v : T) : hF (putF fs k v) s = (decide (s = k) || hF fs s) := by
  unfold hF putF
  induction fs with
  | nil =>
    show mhas keyS [.node [.str k, v]] (.str s) = _
    simp only [mhas, List.any_cons, List.any_nil, Bool.or_false]
    by_cases h : s = k
    · subst h; rw [decide_eq_true rfl]; exact key_self s
    · rw [decide_eq_false h]
      cases hq : keyS (.str s) ((T.node [.str k, v]).get 0) with
      | false => rfl
      | true => exact absurd ((key_iff _ _).1 hq) h
  | cons e es ih =>
    simp only [mput]
    cases hk : keyS (.str k) (e.get 0) with
    | true =>
      have hke : k = (e.get 0).txt := (key_iff _ _).1 hk
      simp only [cond_true, mhas, List.any_cons]
      have h3 : keyS (.str s) ((T.node [.str k, v]).get 0) = keyS (.str s) (e.get 0) := by
        show seqB s k = seqB s (e.get 0).txt
        rw [hke]
      rw [h3]
      by_cases h : s = k
      · subst h; rw [hk]; simp
      · rw [decide_eq_false h, Bool.false_or]
    | false =>
      simp only [cond_false, mhas, List.any_cons] at ih ⊢
      rw [ih]
      cases keyS (.str s) (e.get 0) <;> cases decide (s = k) <;> rfl
theorem Wf.put {fs : List T} (h : Wf fs) {k : ByteArray} {v : T} (hv : Fw v) : Wf (putF fs k v) := fun s => by
  rw [gF_put]
  split
  · exact hv
  · exact h s
theorem f0_ok : Fw f0 := ⟨by decide, by decide, by decide⟩
theorem put_eq (fs : List T) (s : ByteArray) (v : T) : mput keyS fs (T.str s) v = putF fs s v := id rfl
theorem del_eq (fs : List T) (s : ByteArray) : mdel keyS fs (T.str s) = delF fs s := id rfl
theorem gF_eq (fs : List T) (s : ByteArray) : mget keyS (fil ByteArray.empty 0) fs (T.str s) = gF fs s := id rfl
theorem hF_eq (fs : List T) (s : ByteArray) : mhas keyS fs (T.str s) = hF fs s := id rfl
theorem fT_eq (f : T) : (T.get f 0).txt = fT f := id rfl
theorem fN_eq (f : T) : (T.get f 1).num = fN f := id rfl
theorem fil_eq (s : ByteArray) (n : Int) : T.node [T.str s, T.int n] = fil s n := id rfl

theorem ksort_eq (n : Nat) (l : List T) : den Try.prog G0 ents (Nat.succ n) i_slices_Sorted none [A.t (T.node l)] = Option.map (fun o => (1, o)) (bif keysOk l then some [A.t (T.node (keysS l)), A.t (T.node l)] else none) := by kernel_rfl
theorem ksort_does {l : List T} (h : keysOk l = true) : Dz i_slices_Sorted none [A.t (T.node l)] (1, [A.t (T.node (keysS l)), A.t (T.node l)]) := Does.now fun n => by rw [ksort_eq, h]; rfl
def cutB (d : Dk) : Bool := !(d.lf == 0) && (IntKind.i64.wrap (d.lf - 1) == 0)
def dCut (d : Dk) : Dk := if d.lf = 0 then ⟨d.dn, d.lf, d.kp, IntKind.i64.wrap (d.op + 1), d.fs⟩ else ⟨IntKind.i64.wrap (d.lf - 1) == 0, IntKind.i64.wrap (d.lf - 1), d.kp, IntKind.i64.wrap (d.op + 1), d.fs⟩
theorem dCut_fs (d : Dk) : (dCut d).fs = d.fs := by unfold dCut; split <;> rfl
theorem dCut_kp (d : Dk) : (dCut d).kp = d.kp := by unfold dCut; split <;> rfl
theorem dCut_dn (d : Dk) (h : d.dn = false) : (dCut d).dn = cutB d := by
  unfold dCut cutB
  by_cases h0 : d.lf = 0
  · rw [if_pos h0, h0]; exact h
  · rw [if_neg h0]
    have : (d.lf == 0) = false := by simpa using h0
    rw [this]; rfl
def rdS (d : Dk) (s : ByteArray) : ByteArray := if d.dn then ⟨List.toArray []⟩ else if hF d.fs s then fT (gF d.fs s) else ⟨List.toArray []⟩
def rdE (d : Dk) (s : ByteArray) : Int := if d.dn then 8 else if hF d.fs s then 0 else 5
def apT (d : Dk) (s : ByteArray) : ByteArray := ByteArray.extract s 0 (Int.toNat (maxI 0 (minI d.kp ((s.size : Nat) : Int))))
def apE (d : Dk) (to s : ByteArray) : Int :=
  if d.dn then 8 else if nameB to then (if 4194304 < (fT (gF d.fs to)).size + s.size then 4 else if cutB d then 8 else 0) else 1
def apD (d : Dk) (to s : ByteArray) : Dk :=
  if d.dn then d else if nameB to then (if 4194304 < (fT (gF d.fs to)).size + s.size then d else { dCut d with fs := putF d.fs to (fil (fT (gF d.fs to) ++ (if cutB d then apT d s else s)) (fN (gF d.fs to))) }) else d
theorem maxmin {k z : Int} (hz : 0 ≤ z) : 0 ≤ maxI 0 (minI k z) ∧ maxI 0 (minI k z) ≤ z := by
  unfold maxI minI
  split <;> split at * <;> omega
def syE (d : Dk) (s : ByteArray) : Int := if rdE d s = 0 then (if cutB d then 8 else 0) else rdE d s
def syD (d : Dk) (s : ByteArray) : Dk := if rdE d s = 0 then (if cutB d then dCut d else { dCut d with fs := putF d.fs s (fil (fT (gF d.fs s)) ((fT (gF d.fs s)).size : Int)) }) else d
def kpN (keeps : List T) (i : Nat) : Int := if i < keeps.length then (tAtD keeps i).num else 0
def stayF (f : T) (k : Int) : Int := maxI 0 (minI k (((fT f).size : Int) - fN f))
def cutT (f : T) (k : Int) : ByteArray := ByteArray.extract (fT f) 0 (Int.toNat (fN f + stayF f k))
def cutF (f : T) (k : Int) : T := fil (cutT f k) ((cutT f k).size : Int)
theorem stay_ok {f : T} (h : Fw f) (k : Int) : 0 ≤ stayF f k ∧ stayF f k ≤ ((fT f).size : Int) - fN f := maxmin (by have := h.2.1; omega)
theorem cutF_ok {f : T} (h : Fw f) (k : Int) : Fw (cutF f k) := by
  obtain ⟨h1, h2⟩ := stay_ok h k
  obtain ⟨h3, h4, h5⟩ := h
  have : (cutT f k).size ≤ (fT f).size := by unfold cutT; rw [ByteArray.size_extract]; omega
  exact ⟨by rw [cutF, fN_fil]; omega, by rw [cutF, fN_fil, fT_fil]; omega, by rw [cutF, fT_fil]; omega⟩
def wakeL (keeps : List T) : Nat → List T → List T → List T
  | _, [], fs => fs
  | i, s :: ss, fs => wakeL keeps (i + 1) ss (putF fs s.txt (cutF (gF fs s.txt) (kpN keeps i)))
def wkD (d : Dk) (keeps : List T) : Dk := ⟨false, 0, d.kp, d.op, wakeL keeps 0 (keysS d.fs) d.fs⟩
theorem keysS_len (es : List T) : (keysS es).length = es.length := by
  unfold keysS
  rw [List.length_map, (keysB_perm es).length_eq, List.length_map]
end Go.Proofs.YtbejhhoakeapgaaGR
namespace Go.Proofs.YtbejhhoakeapgaaGR
open Go Go.Proofs.YtbejhhoakeapgaaVM
set_option linter.unusedVariables false
set_option linter.unusedSimpArgs false
set_option maxRecDepth 100000

def ky (e : T) : ByteArray := (e.get 0).txt
def nF (x : T) : ByteArray := (x.get 0).txt
def sF (x : T) : ByteArray := (x.get 1).txt
def uF (x : T) : Int := (x.get 2).num
def Up (F : List T) : Prop := F.Pairwise fun a b => sltB (nF a) (nF b) = true
theorem lt_irr (a : ByteArray) : sltB a a = false := by
  rw [slt_data, decide_eq_false_iff_not]
  exact List.lt_irrefl _
theorem lt_tr {a b c : ByteArray} (h1 : sltB a b = true) (h2 : sltB b c = true) : sltB a c = true := by
  rw [slt_data, decide_eq_true_eq] at *
  exact List.lt_trans h1 h2
theorem lt_ne {a b : ByteArray} (h : sltB a b = true) : a ≠ b := fun e => by subst e; rw [lt_irr] at h; cases h
theorem lt_no {a b : ByteArray} (h : sltB a b = true) : sltB b a = false := by
  cases hb : sltB b a with
  | false => rfl
  | true => have := lt_tr h hb; rw [lt_irr] at this; cases this
theorem lt_or {a b : ByteArray} (h : sltB a b = false) (hn : a ≠ b) : sltB b a = true := by
  rw [slt_data] at *
  rw [decide_eq_false_iff_not] at h
  rw [decide_eq_true_eq]
  have h1 : b.data.toList ≤ a.data.toList := h
  rcases List.le_iff_lt_or_eq.1 h1 with h2 | h2
  · exact h2
  · exact absurd (ByteArray.ext (Array.toList_inj.1 h2)).symm hn
def insF (f : T) : List T → List T
  | [] => [f]
  | x :: l => if sltB (nF x) (nF f) then x :: insF f l else if nF x = nF f then f :: l else f :: x :: l
theorem ins_mem {f x : T} : ∀ {F : List T}, Up F → x ∈ insF f F → x = f ∨ (x ∈ F ∧ nF x ≠ nF f)
  | [], _, h => .inl (by simpa [insF] using h)
  | y :: l, hu, h => by
    obtain ⟨h1, h2⟩ := List.pairwise_cons.1 hu
    unfold insF at h
    cases hy : sltB (nF y) (nF f) with
    | true =>
      rw [hy, if_pos rfl] at h
      rcases List.mem_cons.1 h with rfl | h
      · exact .inr ⟨List.mem_cons_self, lt_ne hy⟩
      · exact (ins_mem h2 h).imp id fun ⟨a, b⟩ => ⟨List.mem_cons_of_mem _ a, b⟩
    | false =>
      rw [hy, if_neg (by simp)] at h
      by_cases he : nF y = nF f
      · rw [if_pos he] at h
        rcases List.mem_cons.1 h with rfl | h
        · exact .inl rfl
        · exact .inr ⟨List.mem_cons_of_mem _ h, fun e => lt_ne (h1 x h) (by rw [he, e])⟩
      · rw [if_neg he] at h
        have hg : sltB (nF f) (nF y) = true := lt_or hy he
        rcases List.mem_cons.1 h with rfl | h
        · exact .inl rfl
        · rcases List.mem_cons.1 h with rfl | h
          · exact .inr ⟨List.mem_cons_self, he⟩
          · exact .inr ⟨List.mem_cons_of_mem _ h, fun e => lt_ne (lt_tr hg (h1 x h)) e.symm⟩
theorem ins_self (f : T) : ∀ F : List T, f ∈ insF f F
  | [] => List.mem_cons_self
  | y :: l => by
    unfold insF
    split
    · exact List.mem_cons_of_mem _ (ins_self f l)
    · split <;> exact List.mem_cons_self
theorem ins_up {f : T} : ∀ {F : List T}, Up F → Up (insF f F)
  | [], _ => List.pairwise_singleton _ _
  | y :: l, hu => by
    obtain ⟨h1, h2⟩ := List.pairwise_cons.1 hu
    unfold insF
    cases hy : sltB (nF y) (nF f) with
    | true =>
      rw [if_pos rfl]
      refine List.pairwise_cons.2 ⟨fun x hx => ?_, ins_up h2⟩
      rcases ins_mem h2 hx with rfl | ⟨h3, _⟩
      · exact hy
      · exact h1 x h3
    | false =>
      rw [if_neg (by simp)]
      by_cases he : nF y = nF f
      · rw [if_pos he]
        exact List.pairwise_cons.2 ⟨fun x hx => by rw [← he]; exact h1 x hx, h2⟩
      · rw [if_neg he]
        have hg : sltB (nF f) (nF y) = true := lt_or hy he
        refine List.pairwise_cons.2 ⟨fun x hx => ?_, hu⟩
        rcases List.mem_cons.1 hx with rfl | hx
        · exact hg
        · exact lt_tr hg (h1 x hx)
theorem ins_in {f : T} : ∀ {F : List T}, Up F → nF f ∈ F.map nF → (insF f F).map nF = F.map nF
  | [], _, h => by simp at h
  | y :: l, hu, h => by
    obtain ⟨h1, h2⟩ := List.pairwise_cons.1 hu
    unfold insF
    cases hy : sltB (nF y) (nF f) with
    | true =>
      rw [if_pos rfl]
      rw [List.map_cons] at h
      rcases List.mem_cons.1 h with h | h
      · exact absurd h.symm (lt_ne hy)
      · rw [List.map_cons, List.map_cons, ins_in h2 h]
    | false =>
      rw [if_neg (by simp)]
      by_cases he : nF y = nF f
      · rw [if_pos he, List.map_cons, List.map_cons, he]
      · rw [List.map_cons] at h
        rcases List.mem_cons.1 h with h | h
        · exact absurd h.symm he
        · obtain ⟨x, hx, e⟩ := List.mem_map.1 h
          have := h1 x hx
          rw [e, hy] at this; cases this
theorem ins_out {f : T} : ∀ {F : List T}, nF f ∉ F.map nF → ((insF f F).map nF).Perm (nF f :: F.map nF)
  | [], _ => List.Perm.refl _
  | y :: l, h => by
    rw [List.map_cons, List.mem_cons, not_or] at h
    unfold insF
    split
    · rw [List.map_cons, List.map_cons]
      exact ((ins_out h.2).cons _).trans (List.Perm.swap _ _ _)
    · rw [if_neg (fun e => h.1 e.symm)]
      exact List.Perm.refl _
def stepP (f : T) (s : Bool × List T) (x : T) : Bool × List T :=
  (s.1 || (sltB (nF f) (nF x) || seqB (nF f) (nF x)), s.2 ++ (if !s.1 && (sltB (nF f) (nF x) || seqB (nF f) (nF x)) then [f] else []) ++ (if seqB (nF x) (nF f) then [] else [x]))
theorem seq_is {a b : ByteArray} : seqB a b = true ↔ a = b := key_iff (.str a) (.str b)
theorem seq_no {a b : ByteArray} (h : a ≠ b) : seqB a b = false := by
  cases hs : seqB a b with
  | false => rfl
  | true => exact absurd (seq_is.1 hs) h
theorem step_in {f : T} : ∀ (F out : List T), (∀ x ∈ F, nF x ≠ nF f) → F.foldl (stepP f) (true, out) = (true, out ++ F)
  | [], out, _ => by simp
  | x :: l, out, h => by
    rw [List.foldl_cons]
    have e : stepP f (true, out) x = (true, out ++ [x]) := by
      unfold stepP
      rw [seq_no (h x List.mem_cons_self)]
      simp
    rw [e, step_in l _ fun y hy => h y (List.mem_cons_of_mem _ hy)]
    simp
theorem step_ins {f : T} : ∀ (F out : List T), Up F → (F.foldl (stepP f) (false, out)).2 ++ (if (F.foldl (stepP f) (false, out)).1 then [] else [f]) = out ++ insF f F
  | [], out, _ => by simp [insF]
  | x :: l, out, hu => by
    obtain ⟨h1, h2⟩ := List.pairwise_cons.1 hu
    rw [List.foldl_cons]
    unfold insF
    cases hy : sltB (nF x) (nF f) with
    | true =>
      have e : stepP f (false, out) x = (false, out ++ [x]) := by
        unfold stepP
        rw [seq_no (lt_ne hy), seq_no (lt_ne hy).symm, lt_no hy]
        simp
      rw [e, if_pos rfl, step_ins l _ h2]
      simp
    | false =>
      simp only [Bool.false_eq_true, if_false]
      by_cases he : nF x = nF f
      · have e : stepP f (false, out) x = (true, out ++ [f]) := by
          unfold stepP
          rw [seq_is.2 he, seq_is.2 he.symm]
          simp
        rw [e, if_pos he, step_in l _ fun y hy => by rw [← he]; exact (lt_ne (h1 y hy)).symm]
        simp
      · have hg : sltB (nF f) (nF x) = true := lt_or hy he
        have e : stepP f (false, out) x = (true, out ++ [f, x]) := by
          unfold stepP
          rw [seq_no he, hg]
          simp
        rw [e, if_neg he, step_in l _ fun y hy => (lt_ne (lt_tr hg (h1 y hy))).symm]
        simp

theorem hF_mem (fs : List T) (k : ByteArray) : hF fs k = true ↔ k ∈ fs.map ky := by
  unfold hF mhas
  rw [List.any_eq_true, List.mem_map]
  exact ⟨fun ⟨e, he, hk⟩ => ⟨e, he, ((key_iff _ _).1 hk).symm⟩, fun ⟨e, he, hk⟩ => ⟨e, he, (key_iff _ _).2 hk.symm⟩⟩
theorem put_in {k : ByteArray} {v : T} : ∀ {fs : List T}, k ∈ fs.map ky → (putF fs k v).map ky = fs.map ky
  | [], h => by simp at h
  | e :: es, h => by
    unfold putF
    simp only [mput]
    cases hk : keyS (.str k) (e.get 0) with
    | true =>
      have hke : k = ky e := (key_iff _ _).1 hk
      simp only [cond_true, List.map_cons]
      rw [← hke]; rfl
    | false =>
      simp only [cond_false, List.map_cons]
      rw [List.map_cons] at h
      rcases List.mem_cons.1 h with h | h
      · rw [show keyS (.str k) (e.get 0) = true from (key_iff _ _).2 h] at hk; cases hk
      · rw [show (mput keyS es (.str k) v).map ky = es.map ky from put_in h]
theorem put_out {k : ByteArray} {v : T} : ∀ {fs : List T}, k ∉ fs.map ky → (putF fs k v).map ky = fs.map ky ++ [k]
  | [], _ => rfl
  | e :: es, h => by
    rw [List.map_cons, List.mem_cons, not_or] at h
    unfold putF
    simp only [mput]
    have hk : keyS (.str k) (e.get 0) = false := by
      cases hq : keyS (.str k) (e.get 0) with
      | false => rfl
      | true => exact absurd ((key_iff _ _).1 hq) h.1
    rw [hk]
    simp only [cond_false, List.map_cons, List.cons_append]
    rw [show (mput keyS es (.str k) v).map ky = es.map ky ++ [k] from put_out h.2]
theorem del_keys (k : ByteArray) : ∀ {fs : List T}, (fs.map ky).Nodup → (delF fs k).map ky = (fs.map ky).filter fun s => !seqB s k
  | [], _ => rfl
  | e :: es, h => by
    rw [List.map_cons, List.nodup_cons] at h
    unfold delF
    simp only [mdel]
    cases hk : keyS (.str k) (e.get 0) with
    | true =>
      have hke : k = ky e := (key_iff _ _).1 hk
      simp only [cond_true, List.map_cons]
      rw [List.filter_cons_of_neg (by rw [seq_is.2 hke.symm]; simp)]
      refine (List.filter_eq_self.2 fun s hs => ?_).symm
      rw [seq_no fun e' => h.1 (by rw [← hke, ← e']; exact hs)]; rfl
    | false =>
      have hne : ky e ≠ k := fun e' => by rw [show keyS (.str k) (e.get 0) = true from (key_iff _ _).2 e'.symm] at hk; cases hk
      simp only [cond_false, List.map_cons]
      rw [List.filter_cons_of_pos (by rw [seq_no hne]; rfl), show (mdel keyS es (.str k)).map ky = _ from del_keys k h.2]
structure In (N : Nat) (fs F : List T) : Prop where
  up : Up F
  perm : (fs.map ky).Perm (F.map nF)
  val : ∀ x ∈ F, fT (gF fs (nF x)) = sF x ∧ fN (gF fs (nF x)) = uF x
  wf : Wf fs
  len : F.length ≤ N
  nam : ∀ x ∈ F, (nF x).size ≤ 100
theorem Up.nodup {F : List T} (h : Up F) : (F.map nF).Nodup := by
  unfold List.Nodup
  rw [List.pairwise_map]
  exact h.imp fun h => lt_ne h
theorem In.put {N : Nat} {fs F : List T} (h : In N fs F) {f v : T} (hs : (nF f).size ≤ 100) (h1 : fT v = sF f) (h2 : fN v = uF f) (hv : Fw v) : In (N + 1) (putF fs (nF f) v) (insF f F) := by
  have hlen : (insF f F).length ≤ F.length + 1 := by
    clear h
    induction F with
    | nil => exact Nat.le_refl _
    | cons y l ih =>
      unfold insF
      split
      · rw [List.length_cons, List.length_cons]; omega
      · split <;> simp
  refine ⟨ins_up h.up, ?_, fun x hx => ?_, h.wf.put hv, by have := h.len; omega, fun x hx => ?_⟩
  · by_cases hk : nF f ∈ F.map nF
    · rw [ins_in h.up hk, put_in (h.perm.mem_iff.2 hk)]
      exact h.perm
    · rw [put_out (fun h' => hk (h.perm.mem_iff.1 h'))]
      exact ((List.perm_append_singleton _ _).trans (h.perm.cons _)).trans (ins_out hk).symm
  · rcases ins_mem h.up hx with rfl | ⟨h3, h4⟩
    · rw [gF_put, if_pos rfl]; exact ⟨h1, h2⟩
    · rw [gF_put, if_neg h4]; exact h.val x h3
  · rcases ins_mem h.up hx with rfl | ⟨h3, _⟩
    · exact hs
    · exact h.nam x h3
def rmF (F : List T) (k : ByteArray) : List T := F.filter fun x => !seqB (nF x) k
theorem In.del {N : Nat} {fs F : List T} (h : In N fs F) (k : ByteArray) : In N (delF fs k) (rmF F k) := by
  have hnd : (fs.map ky).Nodup := (h.perm.nodup_iff).2 h.up.nodup
  have hkeys := del_keys k hnd
  refine ⟨h.up.sublist List.filter_sublist, ?_, fun x hx => ?_, fun s => ?_, Nat.le_trans (List.length_filter_le _ _) h.len, fun x hx => h.nam x (List.mem_filter.1 hx).1⟩
  · rw [hkeys]
    have e : (rmF F k).map nF = (F.map nF).filter fun s => !seqB s k := by
      unfold rmF
      rw [List.filter_map]
      rfl
    rw [e]
    exact h.perm.filter _
  · obtain ⟨h1, h2⟩ := List.mem_filter.1 hx
    rw [gF_del _ _ _ (fun e => by rw [seq_is.2 e] at h2; cases h2)]
    exact h.val x h1
  · by_cases e : s = k
    · subst e
      have hno : hF (delF fs s) s = false := by
        cases hq : hF (delF fs s) s with
        | false => rfl
        | true =>
          have := (hF_mem _ _).1 hq
          rw [hkeys, List.mem_filter] at this
          rw [seq_is.2 rfl] at this
          cases this.2
      rw [gF_no hno]
      exact f0_ok
    · rw [gF_del _ _ _ e]; exact h.wf s
theorem In.has {N : Nat} {fs F : List T} (h : In N fs F) (s : ByteArray) : hF fs s = F.any fun x => seqB (nF x) s := by
  cases hq : hF fs s with
  | true =>
    have := h.perm.mem_iff.1 ((hF_mem _ _).1 hq)
    obtain ⟨x, hx, e⟩ := List.mem_map.1 this
    exact (List.any_eq_true.2 ⟨x, hx, seq_is.2 e⟩).symm
  | false =>
    symm
    cases ha : F.any fun x => seqB (nF x) s with
    | false => rfl
    | true =>
      obtain ⟨x, hx, e⟩ := List.any_eq_true.1 ha
      have : hF fs s = true := (hF_mem _ _).2 (h.perm.mem_iff.2 (List.mem_map.2 ⟨x, hx, seq_is.1 e⟩))
      rw [hq] at this; cases this
theorem In.ok {N : Nat} {fs F : List T} (h : In N fs F) (hN : N ≤ 1000000) : keysOk fs = true := by
  have hl : fs.length = F.length := by have := h.perm.length_eq; simpa using this
  have := h.len
  unfold keysOk
  rw [Bool.and_eq_true, List.all_eq_true]
  refine ⟨Nat.ble_eq_true_of_le (by omega), fun e he => Nat.ble_eq_true_of_le ?_⟩
  have hm : ky e ∈ F.map nF := h.perm.mem_iff.1 (List.mem_map.2 ⟨e, he, rfl⟩)
  obtain ⟨x, hx, ex⟩ := List.mem_map.1 hm
  have := h.nam x hx
  rw [ex] at this
  show (ky e).size ≤ 1048576
  omega
theorem In.keys {N : Nat} {fs F : List T} (h : In N fs F) : keysS fs = F.map fun x => T.str (nF x) := by
  have e : keysB fs = F.map nF := by
    refine List.Perm.eq_of_pairwise (le := fun a b : ByteArray => a.data.toList ≤ b.data.toList) (fun a b _ _ h1 h2 => ByteArray.ext (Array.toList_inj.1 (List.le_antisymm h1 h2))) (keysB_rise fs) ?_ ((keysB_perm fs).trans h.perm)
    rw [List.pairwise_map]
    refine h.up.imp fun hab => ?_
    rw [slt_data, decide_eq_true_eq] at hab
    exact List.le_of_lt hab
  unfold keysS
  rw [e, List.map_map]
  rfl
theorem In.nil : In 0 [] [] := ⟨List.Pairwise.nil, List.Perm.refl _, fun x hx => (by cases hx), fun s => f0_ok, Nat.le_refl _, fun x hx => (by cases hx)⟩
theorem In.mono {N M : Nat} {fs F : List T} (h : In N fs F) (hm : N ≤ M) : In M fs F := ⟨h.up, h.perm, h.val, h.wf, Nat.le_trans h.len hm, h.nam⟩

def wkF (x : T) (k : Int) : T := .node [.str (nF x), .str (cutT (fil (sF x) (uF x)) k), .int ((cutT (fil (sF x) (uF x)) k).size : Nat)]
def wakeD (keeps : List T) : Nat → List T → List T
  | _, [] => []
  | i, x :: l => wkF x (kpN keeps i) :: wakeD keeps (i + 1) l
theorem wakeD_names (keeps : List T) : ∀ (F : List T) (i : Nat), (wakeD keeps i F).map nF = F.map nF
  | [], _ => rfl
  | x :: l, i => by rw [wakeD, List.map_cons, List.map_cons, wakeD_names keeps l]; rfl
theorem wakeD_len (keeps : List T) : ∀ (F : List T) (i : Nat), (wakeD keeps i F).length = F.length
  | [], _ => rfl
  | x :: l, i => by rw [wakeD, List.length_cons, List.length_cons, wakeD_len keeps l]
theorem wake_all (keeps : List T) : ∀ (G : List T) (i : Nat) (fs : List T), Up G → Wf fs → (∀ x ∈ G, nF x ∈ fs.map ky) → (∀ x ∈ G, fT (gF fs (nF x)) = sF x ∧ fN (gF fs (nF x)) = uF x) →
    (wakeL keeps i (G.map fun x => T.str (nF x)) fs).map ky = fs.map ky ∧ Wf (wakeL keeps i (G.map fun x => T.str (nF x)) fs) ∧
    (∀ y ∈ wakeD keeps i G, fT (gF (wakeL keeps i (G.map fun x => T.str (nF x)) fs) (nF y)) = sF y ∧ fN (gF (wakeL keeps i (G.map fun x => T.str (nF x)) fs) (nF y)) = uF y) ∧
    (∀ s, (∀ x ∈ G, nF x ≠ s) → gF (wakeL keeps i (G.map fun x => T.str (nF x)) fs) s = gF fs s)
  | [], i, fs, _, hw, _, _ => ⟨rfl, hw, fun y hy => (by cases hy), fun _ _ => rfl⟩
  | x :: l, i, fs, hu, hw, hk, hv => by
    obtain ⟨h1, h2⟩ := List.pairwise_cons.1 hu
    obtain ⟨v1, v2⟩ := hv x List.mem_cons_self
    have hfil : cutF (gF fs (nF x)) (kpN keeps i) = cutF (fil (sF x) (uF x)) (kpN keeps i) := by
      unfold cutF cutT stayF
      rw [v1, v2, fT_fil, fN_fil]
    have hkx := put_in (v := cutF (gF fs (nF x)) (kpN keeps i)) (hk x List.mem_cons_self)
    obtain ⟨a1, a2, a3, a4⟩ := wake_all keeps l (i + 1) (putF fs (nF x) (cutF (gF fs (nF x)) (kpN keeps i))) h2 (hw.put (cutF_ok (hw _) _)) (fun y hy => by rw [hkx]; exact hk y (List.mem_cons_of_mem _ hy))
      (fun y hy => by rw [gF_put, if_neg (lt_ne (h1 y hy)).symm]; exact hv y (List.mem_cons_of_mem _ hy))
    have e : wakeL keeps i ((x :: l).map fun x => T.str (nF x)) fs = wakeL keeps (i + 1) (l.map fun x => T.str (nF x)) (putF fs (nF x) (cutF (gF fs (nF x)) (kpN keeps i))) := rfl
    rw [e]
    refine ⟨a1.trans hkx, a2, fun y hy => ?_, fun s hs => ?_⟩
    · rw [wakeD] at hy
      rcases List.mem_cons.1 hy with rfl | hy
      · have hn : nF (wkF x (kpN keeps i)) = nF x := rfl
        rw [hn, a4 _ (fun z hz => (lt_ne (h1 z hz)).symm), gF_put, if_pos rfl, hfil]
        exact ⟨rfl, rfl⟩
      · exact a3 y hy
    · rw [a4 s (fun z hz => hs z (List.mem_cons_of_mem _ hz)), gF_put, if_neg fun e => hs x List.mem_cons_self e.symm]
theorem In.wake {N : Nat} {fs F : List T} (h : In N fs F) (keeps : List T) : In N (wakeL keeps 0 (keysS fs) fs) (wakeD keeps 0 F) := by
  obtain ⟨a1, a2, a3, _⟩ := wake_all keeps F 0 fs h.up h.wf (fun x hx => h.perm.mem_iff.2 (List.mem_map.2 ⟨x, hx, rfl⟩)) h.val
  rw [h.keys]
  have hn := wakeD_names keeps F 0
  refine ⟨?_, by rw [a1, hn]; exact h.perm, a3, a2, by rw [wakeD_len]; exact h.len, fun y hy => ?_⟩
  · have : ((wakeD keeps 0 F).map nF).Pairwise (fun a b => sltB a b = true) := by rw [hn, List.pairwise_map]; exact h.up
    rw [List.pairwise_map] at this
    exact this
  · have : nF y ∈ F.map nF := by rw [← hn]; exact List.mem_map.2 ⟨y, hy, rfl⟩
    obtain ⟨x, hx, e⟩ := List.mem_map.1 this
    rw [← e]; exact h.nam x hx

def rnE (d : Dk) (a b : ByteArray) : Int := if d.dn then 8 else if nameB b then (if hF d.fs a then (if cutB d then 8 else 0) else 5) else 1
def rnD (d : Dk) (a b : ByteArray) : Dk := if d.dn then d else if nameB b then (if hF d.fs a then (if cutB d then dCut d else { dCut d with fs := putF (delF d.fs a) b (gF d.fs a) }) else d) else d
def rmD (d : Dk) (s : ByteArray) : Dk := if rdE d s = 0 then (if cutB d then dCut d else { dCut d with fs := delF d.fs s }) else d
def ldE (to s : ByteArray) : Int := if nameB to then (if 4194304 < s.size then 4 else 0) else 1
def ldD (d : Dk) (to s : ByteArray) : Dk := if nameB to then (if 4194304 < s.size then d else { d with fs := putF d.fs to (fil s (s.size : Nat)) }) else d
end Go.Proofs.YtbejhhoakeapgaaGR
namespace Go.Proofs.YtbejhhoakeapgaaGR
open Go Go.Proofs.YtbejhhoakeapgaaVM
set_option linter.unusedVariables false
set_option linter.unusedSimpArgs false
set_option maxRecDepth 100000

def tl (l : List ByteArray) : List T := l.map T.str
def Ri (l : List ByteArray) : Prop := l.Pairwise fun a b => sltB a b = true
def insT (s : ByteArray) : List ByteArray → List ByteArray
  | [] => [s]
  | y :: l => if sltB y s then y :: insT s l else if y = s then y :: l else s :: y :: l
theorem mem_insT {s x : ByteArray} : ∀ {l : List ByteArray}, x ∈ insT s l ↔ x = s ∨ x ∈ l
  | [] => by simp [insT]
  | y :: l => by
    unfold insT
    split
    · rw [List.mem_cons, List.mem_cons, mem_insT]
      exact ⟨fun h => h.elim (fun h => .inr (.inl h)) (fun h => h.elim .inl (fun h => .inr (.inr h))), fun h => h.elim (fun h => .inr (.inl h)) (fun h => h.elim .inl (fun h => .inr (.inr h)))⟩
    · split
      · rename_i e
        subst e
        rw [List.mem_cons]
        exact ⟨fun h => .inr h, fun h => h.elim (fun h => .inl h) (fun h => h)⟩
      · rw [List.mem_cons]
theorem insT_rise {s : ByteArray} : ∀ {l : List ByteArray}, Ri l → Ri (insT s l)
  | [], _ => List.pairwise_singleton _ _
  | y :: l, h => by
    obtain ⟨h1, h2⟩ := List.pairwise_cons.1 h
    unfold insT
    cases hy : sltB y s with
    | true =>
      rw [if_pos rfl]
      refine List.pairwise_cons.2 ⟨fun x hx => ?_, insT_rise h2⟩
      rcases mem_insT.1 hx with rfl | hx
      · exact hy
      · exact h1 x hx
    | false =>
      simp only [Bool.false_eq_true, if_false]
      by_cases e : y = s
      · rw [if_pos e]; exact h
      · rw [if_neg e]
        have hg := lt_or hy e
        refine List.pairwise_cons.2 ⟨fun x hx => ?_, h⟩
        rcases List.mem_cons.1 hx with rfl | hx
        · exact hg
        · exact lt_tr hg (h1 x hx)
theorem insT_len (s : ByteArray) : ∀ l : List ByteArray, (insT s l).length ≤ l.length + 1
  | [] => Nat.le_refl _
  | y :: l => by
    unfold insT
    split
    · have := insT_len s l; simp only [List.length_cons]; omega
    · split <;> simp
theorem Ri.nodup {l : List ByteArray} (h : Ri l) : l.Nodup := by
  unfold List.Nodup
  exact h.imp fun h => lt_ne h
theorem Ri.ext {a b : List ByteArray} (ha : Ri a) (hb : Ri b) (h : ∀ x, x ∈ a ↔ x ∈ b) : a = b := by
  have hp : a.Perm b := (List.perm_ext_iff_of_nodup ha.nodup hb.nodup).2 h
  have hp2 : (a.map fun s => s.data.toList) = (b.map fun s => s.data.toList) := by
    refine List.Perm.eq_of_pairwise (le := fun x y : List UInt8 => x ≤ y) (fun x y _ _ h1 h2 => List.le_antisymm h1 h2) ?_ ?_ (hp.map _)
    · rw [List.pairwise_map]
      refine ha.imp fun hab => ?_
      rw [slt_data, decide_eq_true_eq] at hab
      exact List.le_of_lt hab
    · rw [List.pairwise_map]
      refine hb.imp fun hab => ?_
      rw [slt_data, decide_eq_true_eq] at hab
      exact List.le_of_lt hab
  exact List.map_inj_right (fun x y e => ByteArray.ext (Array.toList_inj.1 e)) |>.1 hp2
theorem insT_has {s : ByteArray} {l : List ByteArray} (h : Ri l) (hs : s ∈ l) : insT s l = l :=
  Ri.ext (insT_rise h) h fun x => by rw [mem_insT]; exact ⟨fun h => h.elim (fun e => e ▸ hs) id, .inr⟩
def pos (s : ByteArray) : List ByteArray → Nat
  | [] => 0
  | y :: l => if sltB y s then pos s l + 1 else 0
theorem pos_le (s : ByteArray) : ∀ l : List ByteArray, pos s l ≤ l.length
  | [] => Nat.le_refl _
  | y :: l => by unfold pos; split; · have := pos_le s l; simp only [List.length_cons]; omega
                 · exact Nat.zero_le _
theorem pos_lt {s : ByteArray} : ∀ {l : List ByteArray}, Ri l → ∀ (j : Nat) (hj : j < l.length), (sltB l[j] s = true ↔ j < pos s l)
  | [], _, j, hj => by simp at hj
  | y :: l, h, j, hj => by
    obtain ⟨h1, h2⟩ := List.pairwise_cons.1 h
    unfold pos
    cases hy : sltB y s with
    | true =>
      rw [if_pos rfl]
      cases j with
      | zero => simp [hy]
      | succ j =>
        have := pos_lt (s := s) h2 j (by simpa using hj)
        rw [List.getElem_cons_succ, this]
        omega
    | false =>
      simp only [Bool.false_eq_true, if_false]
      refine ⟨fun hl => ?_, fun hl => by omega⟩
      cases j with
      | zero => rw [List.getElem_cons_zero, hy] at hl; cases hl
      | succ j =>
        rw [List.getElem_cons_succ] at hl
        have := lt_tr (h1 _ (List.getElem_mem (by simpa using hj))) hl
        rw [hy] at this; cases this
theorem pos_mem {s : ByteArray} : ∀ {l : List ByteArray}, Ri l → (s ∈ l ↔ l[pos s l]? = some s)
  | [], _ => by simp
  | y :: l, h => by
    obtain ⟨h1, h2⟩ := List.pairwise_cons.1 h
    unfold pos
    cases hy : sltB y s with
    | true =>
      rw [if_pos rfl, List.getElem?_cons_succ, ← pos_mem h2, List.mem_cons]
      exact ⟨fun h => h.resolve_left fun e => lt_ne hy e.symm, .inr⟩
    | false =>
      simp only [Bool.false_eq_true, if_false, List.getElem?_cons_zero, Option.some.injEq, List.mem_cons]
      refine ⟨fun h => h.elim Eq.symm fun hs => ?_, fun e => .inl e.symm⟩
      have := h1 s hs
      rw [hy] at this; cases this
theorem pos_ins {s : ByteArray} : ∀ {l : List ByteArray}, s ∉ l → insT s l = l.take (pos s l) ++ [s] ++ l.drop (pos s l)
  | [], _ => rfl
  | y :: l, h => by
    rw [List.mem_cons, not_or] at h
    unfold insT pos
    split
    · rw [pos_ins h.2]; simp
    · rw [if_neg fun e => h.1 e.symm]; simp
theorem insL_tl {s : ByteArray} {l : List ByteArray} (h : s ∉ l) : insL ((pos s l : Nat) : Int) (tl l) [T.str s] = tl (insT s l) := by
  unfold insL tl
  rw [pos_ins h, Int.toNat_natCast]
  simp [List.map_take, List.map_drop]

def ptsOf (l : List ByteArray) (L : List (ByteArray × ByteArray)) : List ByteArray := L.foldl (fun a x => insT x.2 (insT x.1 a)) (l.foldl (fun a s => insT s a) [])
def toOf (L : List (ByteArray × ByteArray)) (k : ByteArray) : List ByteArray := L.foldl (fun a x => if x.1 = k then insT x.2 a else a) []
theorem fold_rise : ∀ (l a : List ByteArray), Ri a → Ri (l.foldl (fun a s => insT s a) a)
  | [], _, h => h
  | s :: l, a, h => fold_rise l _ (insT_rise h)
theorem mem_fold {x : ByteArray} : ∀ (l a : List ByteArray), x ∈ l.foldl (fun a s => insT s a) a ↔ x ∈ a ∨ x ∈ l
  | [], a => by simp
  | s :: l, a => by
    rw [List.foldl_cons, mem_fold l, mem_insT, List.mem_cons]
    exact ⟨fun h => h.elim (fun h => h.elim (fun h => .inr (.inl h)) .inl) (fun h => .inr (.inr h)), fun h => h.elim (fun h => .inl (.inr h)) (fun h => h.elim (fun h => .inl (.inl h)) .inr)⟩
theorem foldL_rise : ∀ (L : List (ByteArray × ByteArray)) (a : List ByteArray), Ri a → Ri (L.foldl (fun a x => insT x.2 (insT x.1 a)) a)
  | [], _, h => h
  | s :: l, a, h => foldL_rise l _ (insT_rise (insT_rise h))
theorem mem_foldL {x : ByteArray} : ∀ (L : List (ByteArray × ByteArray)) (a : List ByteArray), x ∈ L.foldl (fun a x => insT x.2 (insT x.1 a)) a ↔ x ∈ a ∨ ∃ y ∈ L, x = y.1 ∨ x = y.2
  | [], a => by simp
  | s :: l, a => by
    rw [List.foldl_cons, mem_foldL l, mem_insT, mem_insT]
    constructor
    · rintro ((h | h | h) | ⟨y, hy, h⟩)
      · exact .inr ⟨s, List.mem_cons_self, .inr h⟩
      · exact .inr ⟨s, List.mem_cons_self, .inl h⟩
      · exact .inl h
      · exact .inr ⟨y, List.mem_cons_of_mem _ hy, h⟩
    · rintro (h | ⟨y, hy, h⟩)
      · exact .inl (.inr (.inr h))
      · rcases List.mem_cons.1 hy with rfl | hy
        · exact h.elim (fun h => .inl (.inr (.inl h))) (fun h => .inl (.inl h))
        · exact .inr ⟨y, hy, h⟩
theorem pts_rise (l : List ByteArray) (L : List (ByteArray × ByteArray)) : Ri (ptsOf l L) := foldL_rise L _ (fold_rise l [] List.Pairwise.nil)
theorem mem_pts {x : ByteArray} {l : List ByteArray} {L : List (ByteArray × ByteArray)} : x ∈ ptsOf l L ↔ x ∈ l ∨ ∃ y ∈ L, x = y.1 ∨ x = y.2 := by
  unfold ptsOf
  rw [mem_foldL, mem_fold]
  simp
theorem foldT_rise (k : ByteArray) : ∀ (L : List (ByteArray × ByteArray)) (a : List ByteArray), Ri a → Ri (L.foldl (fun a x => if x.1 = k then insT x.2 a else a) a)
  | [], _, h => h
  | s :: l, a, h => by
    rw [List.foldl_cons]
    refine foldT_rise k l _ ?_
    split
    · exact insT_rise h
    · exact h
theorem mem_foldT {x k : ByteArray} : ∀ (L : List (ByteArray × ByteArray)) (a : List ByteArray), x ∈ L.foldl (fun a x => if x.1 = k then insT x.2 a else a) a ↔ x ∈ a ∨ (k, x) ∈ L
  | [], a => by simp
  | (u, v) :: l, a => by
    rw [List.foldl_cons, mem_foldT l, List.mem_cons, Prod.mk.injEq]
    by_cases e : u = k
    · rw [if_pos e, mem_insT]
      exact ⟨fun h => h.elim (fun h => h.elim (fun h => .inr (.inl ⟨e.symm, h⟩)) .inl) (fun h => .inr (.inr h)), fun h => h.elim (fun h => .inl (.inr h)) (fun h => h.elim (fun h => .inl (.inl h.2)) .inr)⟩
    · rw [if_neg e]
      exact ⟨fun h => h.imp id .inr, fun h => h.imp id fun h => h.resolve_left fun h => e h.1.symm⟩
theorem to_rise (L : List (ByteArray × ByteArray)) (k : ByteArray) : Ri (toOf L k) := foldT_rise k L [] List.Pairwise.nil
theorem mem_to {x k : ByteArray} {L : List (ByteArray × ByteArray)} : x ∈ toOf L k ↔ (k, x) ∈ L := by
  unfold toOf
  rw [mem_foldT]
  simp
theorem foldT_len (k : ByteArray) : ∀ (L : List (ByteArray × ByteArray)) (a : List ByteArray), (L.foldl (fun a x => if x.1 = k then insT x.2 a else a) a).length ≤ a.length + L.length
  | [], a => Nat.le_refl _
  | s :: l, a => by
    rw [List.foldl_cons]
    have h1 := foldT_len k l (if s.1 = k then insT s.2 a else a)
    have h2 : (if s.1 = k then insT s.2 a else a).length ≤ a.length + 1 := by
      split
      · exact insT_len _ _
      · omega
    simp only [List.length_cons]
    omega
theorem to_len (L : List (ByteArray × ByteArray)) (k : ByteArray) : (toOf L k).length ≤ L.length := by have := foldT_len k L []; rw [List.length_nil, Nat.zero_add] at this; exact this
theorem fold_len : ∀ (l a : List ByteArray), (l.foldl (fun a s => insT s a) a).length ≤ a.length + l.length
  | [], a => Nat.le_refl _
  | s :: l, a => by
    rw [List.foldl_cons]
    have h1 := fold_len l (insT s a)
    have h2 := insT_len s a
    simp only [List.length_cons]
    omega
theorem foldL_len : ∀ (L : List (ByteArray × ByteArray)) (a : List ByteArray), (L.foldl (fun a x => insT x.2 (insT x.1 a)) a).length ≤ a.length + 2 * L.length
  | [], a => Nat.le_refl _
  | s :: l, a => by
    rw [List.foldl_cons]
    have h1 := foldL_len l (insT s.2 (insT s.1 a))
    have h2 := insT_len s.2 (insT s.1 a)
    have h3 := insT_len s.1 a
    simp only [List.length_cons]
    omega
theorem pts_len (l : List ByteArray) (L : List (ByteArray × ByteArray)) : (ptsOf l L).length ≤ l.length + 2 * L.length := by
  have h1 := foldL_len L (l.foldl (fun a s => insT s a) [])
  have h2 := fold_len l []
  unfold ptsOf
  simp only [List.length_nil] at h2
  omega
def swp (L : List (ByteArray × ByteArray)) : List (ByteArray × ByteArray) := L.map fun x => (x.2, x.1)
theorem mem_swp {a b : ByteArray} {L : List (ByteArray × ByteArray)} : (a, b) ∈ swp L ↔ (b, a) ∈ L := by
  unfold swp
  rw [List.mem_map]
  exact ⟨fun ⟨x, hx, e⟩ => by cases e; exact hx, fun h => ⟨_, h, rfl⟩⟩
theorem tl_len (l : List ByteArray) : (tl l).length = l.length := by unfold tl; rw [List.length_map]
theorem tl_get {l : List ByteArray} {j : Nat} (h : j < l.length) : tAtD (tl l) j = T.str l[j] := by
  rw [at_get (by rw [tl_len]; exact h)]
  unfold tl
  simp
theorem tl_app (a b : List ByteArray) : tl (a ++ b) = tl a ++ tl b := by unfold tl; simp

def gZ (z : T) (fs : List T) (s : ByteArray) : T := mget keyS z fs (.str s)
theorem gZ_put (z : T) (fs : List T) (k s : ByteArray) (v : T) : gZ z (putF fs k v) s = if s = k then v else gZ z fs s := by
  unfold gZ putF
  induction fs with
  | nil =>
    show mget keyS z [.node [.str k, v]] (.str s) = _
    simp only [mget]
    by_cases h : s = k
    · subst h
      rw [show keyS (.str s) ((T.node [.str s, v]).get 0) = true from key_self s, if_pos rfl]
      rfl
    · have : keyS (.str s) ((T.node [.str k, v]).get 0) = false := by
        cases hq : keyS (.str s) ((T.node [.str k, v]).get 0) with
        | false => rfl
        | true => exact absurd ((key_iff _ _).1 hq) h
      rw [this, if_neg h]
      rfl
  | cons e es ih =>
    simp only [mput]
    cases hk : keyS (.str k) (e.get 0) with
    | true =>
      have hke : k = (e.get 0).txt := (key_iff _ _).1 hk
      simp only [cond_true, mget]
      by_cases h : s = k
      · subst h
        rw [show keyS (.str s) ((T.node [.str s, v]).get 0) = true from key_self s, if_pos rfl]
        rfl
      · have h1 : keyS (.str s) ((T.node [.str k, v]).get 0) = false := by
          cases hq : keyS (.str s) ((T.node [.str k, v]).get 0) with
          | false => rfl
          | true => exact absurd ((key_iff _ _).1 hq) h
        have h2 : keyS (.str s) (e.get 0) = false := by
          cases hq : keyS (.str s) (e.get 0) with
          | false => rfl
          | true => exact absurd (((key_iff _ _).1 hq).trans hke.symm) h
        rw [h1, h2, if_neg h]
        rfl
    | false =>
      simp only [cond_false, mget]
      cases hs : keyS (.str s) (e.get 0) with
      | true =>
        have hne : ¬ s = k := fun h => by subst h; rw [hs] at hk; cases hk
        rw [if_neg hne]
        rfl
      | false => simp only [cond_false]; exact ih
theorem gZ_del (z : T) (fs : List T) (k s : ByteArray) (h : s ≠ k) : gZ z (delF fs k) s = gZ z fs s := by
  unfold gZ delF
  induction fs with
  | nil => rfl
  | cons e es ih =>
    simp only [mdel]
    cases hk : keyS (.str k) (e.get 0) with
    | true =>
      have hke : k = (e.get 0).txt := (key_iff _ _).1 hk
      have h2 : keyS (.str s) (e.get 0) = false := by
        cases hq : keyS (.str s) (e.get 0) with
        | false => rfl
        | true => exact absurd (((key_iff _ _).1 hq).trans hke.symm) h
      simp only [cond_true, mget, h2, cond_false]
    | false =>
      simp only [cond_false, mget]
      cases hs : keyS (.str s) (e.get 0)
      · simp only [cond_false]; exact ih
      · rfl
theorem gZ_no {z : T} {fs : List T} {s : ByteArray} (h : hF fs s = false) : gZ z fs s = z := by
  unfold hF mhas at h
  unfold gZ
  induction fs with
  | nil => rfl
  | cons e es ih =>
    rw [List.any_cons, Bool.or_eq_false_iff] at h
    simp only [mget, h.1, cond_false]
    exact ih h.2
theorem keys_of {fs : List T} {p : List ByteArray} (hp : (fs.map ky).Perm p) (hr : Ri p) : keysS fs = tl p := by
  have e : keysB fs = p := by
    refine List.Perm.eq_of_pairwise (le := fun a b : ByteArray => a.data.toList ≤ b.data.toList) (fun a b _ _ h1 h2 => ByteArray.ext (Array.toList_inj.1 (List.le_antisymm h1 h2))) (keysB_rise fs) ?_ ((keysB_perm fs).trans hp)
    refine hr.imp fun hab => ?_
    rw [slt_data, decide_eq_true_eq] at hab
    exact List.le_of_lt hab
  unfold keysS
  rw [e]
  rfl
theorem keysOk_of {fs : List T} {p : List ByteArray} (hp : (fs.map ky).Perm p) (hl : p.length ≤ 1000000) (hs : ∀ x ∈ p, x.size ≤ 1000000) : keysOk fs = true := by
  have h1 : fs.length = p.length := by have := hp.length_eq; simpa using this
  unfold keysOk
  rw [Bool.and_eq_true, List.all_eq_true]
  refine ⟨Nat.ble_eq_true_of_le (by omega), fun e he => Nat.ble_eq_true_of_le ?_⟩
  have hm : ky e ∈ p := hp.mem_iff.1 (List.mem_map.2 ⟨e, he, rfl⟩)
  have := hs _ hm
  show (ky e).size ≤ 1048576
  omega
end Go.Proofs.YtbejhhoakeapgaaGR
namespace Go.Proofs.YtbejhhoakeapgaaGR
open Go Go.Proofs.YtbejhhoakeapgaaVM
set_option linter.unusedVariables false
set_option linter.unusedSimpArgs false
set_option maxRecDepth 100000

theorem txt_s (s : ByteArray) : (T.str s).txt = s := id rfl
def hasB (s : ByteArray) (l : List ByteArray) : Bool := l.any fun x => seqB x s
theorem hasB_iff {s : ByteArray} {l : List ByteArray} : hasB s l = true ↔ s ∈ l := by
  unfold hasB
  rw [List.any_eq_true]
  exact ⟨fun ⟨x, hx, e⟩ => seq_is.1 e ▸ hx, fun h => ⟨s, h, seq_is.2 rfl⟩⟩
theorem hasB_no {s : ByteArray} {l : List ByteArray} (h : s ∉ l) : hasB s l = false := by
  cases hb : hasB s l with
  | false => rfl
  | true => exact absurd (hasB_iff.1 hb) h
theorem hasB_cons (s x : ByteArray) (l : List ByteArray) : hasB s (x :: l) = (seqB x s || hasB s l) := rfl
theorem rhas_loop (l : List ByteArray) (s : ByteArray) (hl : l.length ≤ 1000000) : ∀ (k j : Nat), j + k = l.length →
    Dz i_R17_Has (some p_R17_Has_c1) [A.t (T.node (tl l)), A.t (T.str s), A.t (T.int j)] (if hasB s (l.drop j) then (1, [A.t (T.bool true)]) else (2, [])) := by
  intro k
  induction k with
  | zero =>
    intro j hj
    refine Does.now fun m => ?_
    rw [q_R17_Has_c1, List.drop_of_length_le (by omega)]
    simp only [S0, S9, S1, S2, if_true, if_false, tl_len]
    rw [if_neg (by omega)]
    rfl
  | succ k ih =>
    intro j hj
    have hlt : j < l.length := by omega
    have hw : IntKind.i64.wrap ((j : Int) + 1) = ((j + 1 : Nat) : Int) := i64succ (by omega)
    obtain ⟨n0, h0⟩ := ih (j + 1) (by omega)
    refine Does.of n0 fun m hm => ?_
    have q := h0 m hm
    rw [q_R17_Has_c1, List.drop_eq_getElem_cons hlt, hasB_cons]
    simp only [S0, S9, S1, S2, if_true, if_false, tl_len, tl_get hlt, txt_s, hw]
    rw [if_pos (by omega), if_pos (by omega)]
    cases seqB l[j] s
    · simp only [Bool.false_eq_true, if_false, false_or]; exact q
    · simp only [if_true, true_or]
theorem rhas_does (l : List ByteArray) (s : ByteArray) (hl : l.length ≤ 1000000) : Dz i_R17_Has none [A.t (T.node (tl l)), A.t (T.str s)] (1, [A.t (T.bool (hasB s l))]) := by
  obtain ⟨n0, h0⟩ := rhas_loop l s hl l.length 0 (by omega)
  rw [List.drop_zero] at h0
  refine Does.of n0 fun m hm => ?_
  have q : den Try.prog G0 ents m i_R17_Has (some p_R17_Has_c1) [A.t (T.node (tl l)), A.t (T.str s), A.t (T.int 0)] = _ := h0 m hm
  rw [q_R17_Has]
  simp only [S0, S9, S1, S2, if_true, if_false, q]
  cases hasB s l <;> rfl
def putR (s : ByteArray) (a : Bool × List ByteArray) (x : ByteArray) : Bool × List ByteArray := (a.1 || sltB s x, a.2 ++ (if !a.1 && sltB s x then [s] else []) ++ [x])
theorem putR_in {s : ByteArray} : ∀ (l out : List ByteArray), l.foldl (putR s) (true, out) = (true, out ++ l)
  | [], out => by simp
  | x :: l, out => by
    rw [List.foldl_cons]
    have e : putR s (true, out) x = (true, out ++ [x]) := by unfold putR; simp
    rw [e, putR_in l]
    simp
theorem putR_ins {s : ByteArray} : ∀ (l out : List ByteArray), Ri l → s ∉ l → (l.foldl (putR s) (false, out)).2 ++ (if (l.foldl (putR s) (false, out)).1 then [] else [s]) = out ++ insT s l
  | [], out, _, _ => by simp [insT]
  | x :: l, out, h, hn => by
    obtain ⟨h1, h2⟩ := List.pairwise_cons.1 h
    rw [List.mem_cons, not_or] at hn
    rw [List.foldl_cons]
    unfold insT
    cases hx : sltB x s with
    | true =>
      have e : putR s (false, out) x = (false, out ++ [x]) := by unfold putR; rw [lt_no hx]; simp
      rw [e, if_pos rfl, putR_ins l _ h2 hn.2]
      simp
    | false =>
      have hg := lt_or hx fun e => hn.1 e.symm
      have e : putR s (false, out) x = (true, out ++ [s, x]) := by unfold putR; rw [hg]; simp
      rw [e, putR_in]
      simp only [Bool.false_eq_true, if_false, if_true, List.append_nil]
      rw [if_neg fun e => hn.1 e.symm]
      simp
theorem putR_len {s : ByteArray} : ∀ (l : List ByteArray) (a : Bool × List ByteArray), (l.foldl (putR s) a).2.length ≤ a.2.length + 2 * l.length
  | [], a => Nat.le_refl _
  | x :: l, a => by
    rw [List.foldl_cons]
    have h1 := putR_len (s := s) l (putR s a x)
    have h2 : (putR s a x).2.length ≤ a.2.length + 2 := by
      unfold putR
      simp only [List.length_append, List.length_singleton]
      have : (if (!a.1 && sltB s x) = true then [s] else []).length ≤ 1 := by split <;> simp
      omega
    simp only [List.length_cons]
    omega
theorem rput17_loop (l : List ByteArray) (s : ByteArray) (hl : l.length ≤ 1000000) : ∀ (k j : Nat) (b : Bool) (out : List ByteArray), j + k = l.length → out.length ≤ 2 * j →
    Dz i_R17_Put (some p_R17_Put_c1) [A.t (T.node (tl l)), A.t (T.str s), A.t (T.bool b), A.t (T.int j), A.t (T.node (tl out))] (2, [A.t (T.str s), A.t (T.bool ((l.drop j).foldl (putR s) (b, out)).1), A.t (T.node (tl ((l.drop j).foldl (putR s) (b, out)).2))]) := by
  intro k
  induction k with
  | zero =>
    intro j b out hj ho
    refine Does.now fun m => ?_
    rw [q_R17_Put_c1, List.drop_of_length_le (by omega)]
    simp only [S0, S9, S1, S2, if_true, if_false, tl_len, List.foldl_nil]
    rw [if_neg (by omega)]
  | succ k ih =>
    intro j b out hj ho
    have hlt : j < l.length := by omega
    have hw : IntKind.i64.wrap ((j : Int) + 1) = ((j + 1 : Nat) : Int) := i64succ (by omega)
    have hlen := putR_len (s := s) [l[j]] (b, out)
    obtain ⟨n0, h0⟩ := ih (j + 1) (putR s (b, out) l[j]).1 (putR s (b, out) l[j]).2 (by omega) (by simp only [List.foldl_cons, List.foldl_nil, List.length_singleton] at hlen; omega)
    refine Does.of n0 fun m hm => ?_
    have q := h0 m hm
    have hs1 : Nat.succ out.length < 1073741824 := by show _ + 1 < _; omega
    have hs2 : Nat.succ (tl out ++ [T.str s]).length < 1073741824 := by rw [List.length_append, tl_len]; show _ + 1 + 1 < _; omega
    rw [q_R17_Put_c1, List.drop_eq_getElem_cons hlt, List.foldl_cons]
    simp only [S0, S9, S1, S2, if_true, if_false, tl_len, tl_get hlt, txt_s, hw, hs1, hs2]
    have e : putR s (b, out) l[j] = ((putR s (b, out) l[j]).1, (putR s (b, out) l[j]).2) := rfl
    rw [e]
    refine Eq.trans ?_ q
    unfold putR
    rw [if_pos (by omega)]
    have hib : (0 : Int) ≤ (j : Int) ∧ (j : Int) < ((l.length : Nat) : Int) := ⟨by omega, by omega⟩
    have t1 : ∀ x : ByteArray, tl [x] = [T.str x] := fun _ => rfl
    have t0 : tl [] = [] := rfl
    cases b <;> cases sltB s l[j] <;>
      simp only [Bool.not_false, Bool.not_true, Bool.false_or, Bool.true_or, Bool.or_true, Bool.or_false, Bool.true_and, Bool.false_and, Bool.and_true, Bool.and_false, Bool.false_eq_true, if_true, if_false, hib, and_self, List.append_nil, tl_app, t1, t0]
theorem rput17_does (l : List ByteArray) (s : ByteArray) (hl : l.length ≤ 1000000) (hr : Ri l) : Dz i_R17_Put none [A.t (T.node (tl l)), A.t (T.str s)] (1, [A.t (T.node (tl (insT s l)))]) := by
  by_cases h : s ∈ l
  · obtain ⟨n0, h0⟩ := rhas_does l s hl
    refine Does.of n0 fun m hm => ?_
    rw [q_R17_Put]
    simp only [S0, S9, S1, S2, if_true, if_false, h0 m hm, hasB_iff.2 h]
    rw [insT_has hr h]
  · obtain ⟨n0, h0⟩ := (rhas_does l s hl).both (rput17_loop l s hl l.length 0 false [] (by omega) (by simp))
    refine Does.of n0 fun m hm => ?_
    obtain ⟨q1, q2⟩ := h0 m hm
    have q : den Try.prog G0 ents m i_R17_Put (some p_R17_Put_c1) [A.t (T.node (tl l)), A.t (T.str s), A.t (T.bool false), A.t (T.int 0), A.t (T.node [])] = _ := q2
    rw [List.drop_zero] at q
    have hi := putR_ins l [] hr h
    have hlen := putR_len (s := s) l (false, [])
    have hs1 : Nat.succ (tl (l.foldl (putR s) (false, [])).2).length < 1073741824 := by
      rw [tl_len]; show _ + 1 < _
      simp only [List.length_nil] at hlen
      omega
    rw [q_R17_Put, ← List.nil_append (insT s l), ← hi]
    simp only [S0, S9, S1, S2, if_true, if_false, q1, hasB_no h, q, hs1, Bool.false_eq_true]
    cases (l.foldl (putR s) (false, [])).1
    · simp only [Bool.not_false, if_true, Bool.false_eq_true, if_false, tl_app]
      rfl
    · simp only [Bool.not_true, if_true, Bool.false_eq_true, if_false, List.append_nil]
def lns (L : List (ByteArray × ByteArray)) : List T := L.map fun x => T.node [T.str x.1, T.str x.2]
theorem lns_len (L : List (ByteArray × ByteArray)) : (lns L).length = L.length := by unfold lns; rw [List.length_map]
def ln (x : T) : ByteArray × ByteArray := ((x.get 0).txt, (x.get 1).txt)
theorem ln0 (x : T) : (T.get x 0).txt = (ln x).1 := id rfl
theorem ln1 (x : T) : (T.get x 1).txt = (ln x).2 := id rfl
theorem take_succ' {α : Type} {l : List α} {j : Nat} (h : j < l.length) : l.take (j + 1) = l.take j ++ [l[j]] := by rw [List.take_add_one, List.getElem?_eq_getElem h]; rfl
theorem rpts1_loop (l : List ByteArray) (lt : List T) (hl : l.length ≤ 1000) : ∀ (k j : Nat), j + k = l.length →
    Dz i_R17_Points (some p_R17_Points_c1) [A.t (T.node (tl l)), A.t (T.node lt), A.t (T.node (tl ((l.take j).foldl (fun a s => insT s a) []))), A.t (T.int j)] (2, [A.t (T.node lt), A.t (T.node (tl (l.foldl (fun a s => insT s a) [])))]) := by
  intro k
  induction k with
  | zero =>
    intro j hj
    refine Does.now fun m => ?_
    rw [q_R17_Points_c1, List.take_of_length_le (by omega)]
    simp only [S0, S9, S1, S2, if_true, if_false, tl_len]
    rw [if_neg (by omega)]
  | succ k ih =>
    intro j hj
    have hlt : j < l.length := by omega
    have hw : IntKind.i64.wrap ((j : Int) + 1) = ((j + 1 : Nat) : Int) := i64succ (by omega)
    have hlen := fold_len (l.take j) []
    have hi := ih (j + 1) (by omega)
    rw [take_succ' hlt, List.foldl_append] at hi
    obtain ⟨n0, h0⟩ := (rput17_does ((l.take j).foldl (fun a s => insT s a) []) l[j] (by rw [List.length_take] at hlen; simp only [List.length_nil] at hlen; omega) (fold_rise _ _ List.Pairwise.nil)).both hi
    refine Does.of n0 fun m hm => ?_
    obtain ⟨q1, q2⟩ := h0 m hm
    rw [q_R17_Points_c1]
    simp only [S0, S9, S1, S2, if_true, if_false, tl_len, tl_get hlt, txt_s, hw, q1]
    rw [if_pos (by omega), if_pos (by omega)]
    exact q2
theorem rpts2_loop (lt : List T) (hl : lt.length ≤ 1000) (a : List ByteArray) (ha : a.length ≤ 1000) (hr : Ri a) : ∀ (k j : Nat), j + k = lt.length →
    Dz i_R17_Points (some p_R17_Points_c2) [A.t (T.node lt), A.t (T.node (tl (((lt.take j).map ln).foldl (fun a x => insT x.2 (insT x.1 a)) a))), A.t (T.int j)] (4, [A.t (T.node (tl ((lt.map ln).foldl (fun a x => insT x.2 (insT x.1 a)) a)))]) := by
  intro k
  induction k with
  | zero =>
    intro j hj
    refine Does.now fun m => ?_
    rw [q_R17_Points_c2, List.take_of_length_le (by omega)]
    simp only [S0, S9, S1, S2, if_true, if_false]
    rw [if_neg (by omega)]
  | succ k ih =>
    intro j hj
    have hlt : j < lt.length := by omega
    have hw : IntKind.i64.wrap ((j : Int) + 1) = ((j + 1 : Nat) : Int) := i64succ (by omega)
    have hlen := foldL_len ((lt.take j).map ln) a
    rw [List.length_map, List.length_take] at hlen
    have hrise := foldL_rise ((lt.take j).map ln) a hr
    have hi := ih (j + 1) (by omega)
    rw [take_succ' hlt, List.map_append, List.foldl_append] at hi
    have hl2 := insT_len (ln lt[j]).1 (((lt.take j).map ln).foldl (fun a x => insT x.2 (insT x.1 a)) a)
    obtain ⟨n0, h0⟩ := (rput17_does (((lt.take j).map ln).foldl (fun a x => insT x.2 (insT x.1 a)) a) (ln lt[j]).1 (by omega) hrise).both (rput17_does (insT (ln lt[j]).1 (((lt.take j).map ln).foldl (fun a x => insT x.2 (insT x.1 a)) a)) (ln lt[j]).2 (by omega) (insT_rise hrise))
    obtain ⟨n1, h1⟩ := hi
    refine Does.of (n0 + n1) fun m hm => ?_
    obtain ⟨q1, q2⟩ := h0 m (by omega)
    have q3 := h1 m (by omega)
    rw [q_R17_Points_c2]
    simp only [S0, S9, S1, S2, if_true, if_false, at_get hlt, ln0, ln1, hw, q1, q2]
    rw [if_pos (by omega), if_pos (by omega), if_pos (by omega)]
    exact q3
theorem rpoints_does (l : List ByteArray) (lt : List T) (hl : l.length ≤ 300) (hlt : lt.length ≤ 300) : Dz i_R17_Points none [A.t (T.node (tl l)), A.t (T.node lt)] (1, [A.t (T.node (tl (ptsOf l (lt.map ln))))]) := by
  have hfl := fold_len l []
  simp only [List.length_nil] at hfl
  obtain ⟨n0, h0⟩ := (rpts1_loop l lt (by omega) l.length 0 (by omega)).both (rpts2_loop lt (by omega) (l.foldl (fun a s => insT s a) []) (by omega) (fold_rise _ _ List.Pairwise.nil) lt.length 0 (by omega))
  refine Does.of n0 fun m hm => ?_
  obtain ⟨q1, q2⟩ := h0 m hm
  have q1' : den Try.prog G0 ents m i_R17_Points (some p_R17_Points_c1) [A.t (T.node (tl l)), A.t (T.node lt), A.t (T.node []), A.t (T.int 0)] = _ := q1
  have q2' : den Try.prog G0 ents m i_R17_Points (some p_R17_Points_c2) [A.t (T.node lt), A.t (T.node (tl (l.foldl (fun a s => insT s a) []))), A.t (T.int 0)] = _ := q2
  rw [q_R17_Points]
  simp only [S0, S9, S1, S2, if_true, if_false, q1', q2', show Nat.beq 4 4 = true from rfl]
  rfl
end Go.Proofs.YtbejhhoakeapgaaGR
namespace Go.Proofs.YtbejhhoakeapgaaGR
open Go Go.Proofs.YtbejhhoakeapgaaVM
set_option linter.unusedVariables false
set_option linter.unusedSimpArgs false
set_option maxRecDepth 100000

structure Gr (fs : List T) (p : List ByteArray) (t : ByteArray → List ByteArray) : Prop where
  rise : Ri p
  perm : (fs.map ky).Perm p
  to : ∀ s, (gZ (.node []) fs s).kids = tl (t s)
  tri : ∀ s, Ri (t s)
  len : p.length ≤ 200000
  tlen : ∀ s, (t s).length ≤ 200000
  siz : ∀ x ∈ p, x.size ≤ 100
  tsiz : ∀ s, ∀ x ∈ t s, x.size ≤ 100
theorem Gr.has {fs : List T} {p : List ByteArray} {t : ByteArray → List ByteArray} (h : Gr fs p t) (s : ByteArray) : hF fs s = hasB s p := by
  cases hb : hasB s p with
  | true => exact (hF_mem _ _).2 (h.perm.mem_iff.2 (hasB_iff.1 hb))
  | false =>
    cases hh : hF fs s with
    | false => rfl
    | true =>
      have := hasB_iff.2 (h.perm.mem_iff.1 ((hF_mem _ _).1 hh))
      rw [hb] at this; cases this
theorem Gr.out {fs : List T} {p : List ByteArray} {t : ByteArray → List ByteArray} (h : Gr fs p t) {s : ByteArray} (hs : s ∉ p) : t s = [] := by
  have h1 : hF fs s = false := by rw [h.has]; exact hasB_no hs
  have h2 := h.to s
  rw [gZ_no h1] at h2
  have : (tl (t s)).length = 0 := by rw [← h2]; rfl
  rw [tl_len] at this
  exact List.eq_nil_of_length_eq_zero this
def updT (t : ByteArray → List ByteArray) (a : ByteArray) (v : List ByteArray) : ByteArray → List ByteArray := fun s => if s = a then v else t s
theorem Gr.add {fs : List T} {p : List ByteArray} {t : ByteArray → List ByteArray} (h : Gr fs p t) {s : ByteArray} (hs : s.size ≤ 100) (hl : p.length < 200000) (hn : s ∉ p) : Gr (putF fs s (.node [])) (insT s p) t := by
  have hk : s ∉ fs.map ky := fun h' => hn (h.perm.mem_iff.1 h')
  refine ⟨insT_rise h.rise, ?_, fun x => ?_, h.tri, by have := insT_len s p; omega, h.tlen, fun x hx => ?_, h.tsiz⟩
  · rw [put_out hk]
    refine (List.perm_append_singleton _ _).trans ((h.perm.cons s).trans ?_)
    rw [List.perm_ext_iff_of_nodup (List.nodup_cons.2 ⟨hn, h.rise.nodup⟩) (insT_rise h.rise).nodup]
    intro x
    rw [mem_insT, List.mem_cons]
  · rw [gZ_put]
    split
    · rename_i e
      subst e
      rw [h.out hn]
      rfl
    · exact h.to x
  · rcases mem_insT.1 hx with rfl | hx
    · exact hs
    · exact h.siz x hx
theorem Gr.set {fs : List T} {p : List ByteArray} {t : ByteArray → List ByteArray} (h : Gr fs p t) {a : ByteArray} (ha : a ∈ p) {l : List ByteArray} (hl : Ri l) (hn : l.length ≤ 200000) (hs : ∀ x ∈ l, x.size ≤ 100) : Gr (putF fs a (.node (tl l))) p (updT t a l) := by
  refine ⟨h.rise, by rw [put_in (h.perm.mem_iff.2 ha)]; exact h.perm, fun x => ?_, fun x => ?_, h.len, fun x => ?_, h.siz, fun x y hy => ?_⟩
  · rw [gZ_put]
    unfold updT
    split
    · rfl
    · exact h.to x
  · unfold updT; split
    · exact hl
    · exact h.tri x
  · unfold updT; split
    · exact hn
    · exact h.tlen x
  · unfold updT at hy; split at hy
    · exact hs y hy
    · exact h.tsiz x y hy
theorem ph_does (fs : List T) (s : ByteArray) : Dz i_graph_Graph_string_Has none [A.t (T.str s), A.t (T.node fs)] (1, [A.t (T.bool (hF fs s)), A.t (T.node fs)]) := Does.now fun m => by
  rw [q_graph_Graph_string_Has]
  simp only [S0, S9, S1, S2, if_true, if_false, hF_eq]
theorem gZ_eq (fs : List T) (s : ByteArray) : mget keyS (T.node []) fs (T.str s) = gZ (.node []) fs s := id rfl
theorem padd_does {fs : List T} {p : List ByteArray} {t : ByteArray → List ByteArray} (h : Gr fs p t) {s : ByteArray} (hs : s.size ≤ 100) (hl : p.length < 200000) : ∃ fs', Gr fs' (insT s p) t ∧ Dz i_graph_Graph_string_Add none [A.t (T.str s), A.t (T.node fs)] (1, [A.t (T.node fs')]) := by
  obtain ⟨n0, h0⟩ := ph_does fs s
  by_cases hn : s ∈ p
  · refine ⟨fs, by rw [insT_has h.rise hn]; exact h, Does.of n0 fun m hm => ?_⟩
    rw [q_graph_Graph_string_Add]
    simp only [S0, S9, S1, S2, if_true, if_false, h0 m hm, h.has, hasB_iff.2 hn, Bool.not_true, Bool.false_eq_true]
  · refine ⟨_, h.add hs hl hn, Does.of n0 fun m hm => ?_⟩
    rw [q_graph_Graph_string_Add]
    simp only [S0, S9, S1, S2, if_true, if_false, h0 m hm, h.has, hasB_no hn, Bool.not_false, put_eq]
theorem less_does (a b : ByteArray) : Dz i_cmp_Less_string none [A.t (T.str a), A.t (T.str b)] (1, [A.t (T.bool (sltB a b))]) := by
  have h1 : Dz i_cmp_isNaN_string none [A.t (T.str a)] (1, [A.t (T.bool false)]) := Does.now fun m => by
    rw [q_cmp_isNaN_string]
    simp only [S0, S9, S1, S2, if_true, if_false, seq_is.2 rfl, Bool.not_true]
  obtain ⟨n0, h0⟩ := h1
  refine Does.of n0 fun m hm => ?_
  rw [q_cmp_Less_string]
  simp only [S0, S9, S1, S2, if_true, if_false, h0 m hm, Bool.false_eq_true]
theorem bs_loop (l : List ByteArray) (s : ByteArray) (hl : l.length ≤ 1000000) (hr : Ri l) : ∀ (d i j : Nat), j - i ≤ d → i ≤ pos s l → pos s l ≤ j → j ≤ l.length →
    Dz i_slices_BinarySearch_string (some p_slices_BinarySearch_string_c1) [A.t (T.node (tl l)), A.t (T.str s), A.t (T.int (l.length : Nat)), A.t (T.int i), A.t (T.int j)] (2, [A.t (T.node (tl l)), A.t (T.str s), A.t (T.int (l.length : Nat)), A.t (T.int (pos s l : Nat))]) := by
  intro d
  induction d with
  | zero =>
    intro i j hd h1 h2 h3
    refine Does.now fun m => ?_
    rw [q_slices_BinarySearch_string_c1]
    simp only [S0, S9, S1, S2, if_true, if_false]
    rw [if_neg (by omega), show i = pos s l by omega]
  | succ d ih =>
    intro i j hd h1 h2 h3
    by_cases hij : i < j
    · have hh : i ≤ (i + j) / 2 ∧ (i + j) / 2 < j := by omega
      have hlt : (i + j) / 2 < l.length := by omega
      have w1 : IntKind.i64.wrap ((i : Int) + (j : Int)) = ((i + j : Nat) : Int) := i64add (by omega)
      have w2 : IntKind.u64.wrap ((i + j : Nat) : Int) = ((i + j : Nat) : Int) := by rw [wu64, Nat.mod_eq_of_lt (by omega)]
      have w3 : Int.fdiv ((i + j : Nat) : Int) 2 = (((i + j) / 2 : Nat) : Int) := fdivN (i + j) 2
      have w4 : IntKind.i64.wrap (((i + j) / 2 : Nat) : Int) = (((i + j) / 2 : Nat) : Int) := i64nat (by omega)
      have w5 : IntKind.i64.wrap ((((i + j) / 2 : Nat) : Int) + 1) = (((i + j) / 2 + 1 : Nat) : Int) := i64succ (by omega)
      have hp := pos_lt (s := s) hr _ hlt
      cases hb : sltB l[(i + j) / 2] s with
      | true =>
        have hp2 := hp.1 hb
        obtain ⟨n0, h0⟩ := (less_does l[(i + j) / 2] s).both (ih ((i + j) / 2 + 1) j (by omega) (by omega) h2 h3)
        refine Does.of n0 fun m hm => ?_
        obtain ⟨q1, q2⟩ := h0 m hm
        rw [hb] at q1
        rw [q_slices_BinarySearch_string_c1]
        simp only [S0, S9, S1, S2, if_true, if_false, w1, w2, w3, w4, w5, tl_len, tl_get hlt, txt_s, q1]
        rw [if_pos (by omega), if_pos (by omega)]
        exact q2
      | false =>
        have hp2 : pos s l ≤ (i + j) / 2 := by
          rcases Nat.lt_or_ge ((i + j) / 2) (pos s l) with h | h
          · rw [hp.2 h] at hb; cases hb
          · exact h
        obtain ⟨n0, h0⟩ := (less_does l[(i + j) / 2] s).both (ih i ((i + j) / 2) (by omega) h1 hp2 (by omega))
        refine Does.of n0 fun m hm => ?_
        obtain ⟨q1, q2⟩ := h0 m hm
        rw [hb] at q1
        rw [q_slices_BinarySearch_string_c1]
        simp only [S0, S9, S1, S2, if_true, if_false, w1, w2, w3, w4, w5, tl_len, tl_get hlt, txt_s, q1, Bool.false_eq_true]
        rw [if_pos (by omega), if_pos (by omega)]
        exact q2
    · refine Does.now fun m => ?_
      rw [q_slices_BinarySearch_string_c1]
      simp only [S0, S9, S1, S2, if_true, if_false]
      rw [if_neg (by omega), show i = pos s l by omega]
theorem bs_does (l : List ByteArray) (s : ByteArray) (hl : l.length ≤ 1000000) (hr : Ri l) : Dz i_slices_BinarySearch_string none [A.t (T.node (tl l)), A.t (T.str s)] (1, [A.t (T.int (pos s l : Nat)), A.t (T.bool (hasB s l))]) := by
  have hp := pos_le s l
  have h2 : ∀ x : ByteArray, Dz i_slices_isNaN_string none [A.t (T.str x)] (1, [A.t (T.bool false)]) := fun x => Does.now fun m => by
    rw [q_slices_isNaN_string]
    simp only [S0, S9, S1, S2, if_true, if_false, seq_is.2 rfl, Bool.not_true]
  have h1 := bs_loop l s hl hr l.length 0 l.length (by omega) (Nat.zero_le _) hp (Nat.le_refl _)
  by_cases hlt : pos s l < l.length
  · obtain ⟨n0, h0⟩ := h1.both (h2 l[pos s l])
    refine Does.of n0 fun m hm => ?_
    obtain ⟨q1, q2⟩ := h0 m hm
    have q : den Try.prog G0 ents m i_slices_BinarySearch_string (some p_slices_BinarySearch_string_c1) [A.t (T.node (tl l)), A.t (T.str s), A.t (T.int (l.length : Nat)), A.t (T.int 0), A.t (T.int (l.length : Nat))] = _ := q1
    rw [q_slices_BinarySearch_string]
    simp only [S0, S9, S1, S2, if_true, if_false, tl_len, q, tl_get hlt, txt_s, q2]
    rw [if_pos (by omega), if_pos (by omega)]
    by_cases e : l[pos s l] = s
    · have hm : s ∈ l := (pos_mem hr).2 (by rw [List.getElem?_eq_getElem hlt, e])
      rw [seq_is.2 e, hasB_iff.2 hm]
      simp
    · have hm : s ∉ l := fun hm => by
        have := (pos_mem hr).1 hm
        rw [List.getElem?_eq_getElem hlt] at this
        exact e (Option.some.inj this)
      rw [seq_no e, hasB_no hm]
      simp only [Bool.false_eq_true, if_false, not_false_eq_true, if_true]
      rw [if_pos (by omega)]
  · obtain ⟨n0, h0⟩ := h1
    refine Does.of n0 fun m hm => ?_
    have q : den Try.prog G0 ents m i_slices_BinarySearch_string (some p_slices_BinarySearch_string_c1) [A.t (T.node (tl l)), A.t (T.str s), A.t (T.int (l.length : Nat)), A.t (T.int 0), A.t (T.int (l.length : Nat))] = _ := h0 m hm
    have hm : s ∉ l := fun hm => by
      have := (pos_mem hr).1 hm
      rw [List.getElem?_eq_none (by omega)] at this
      cases this
    rw [q_slices_BinarySearch_string]
    simp only [S0, S9, S1, S2, if_true, if_false, tl_len, q, hasB_no hm]
    rw [if_neg (by omega)]
theorem clone_eq (n : Nat) (l : List T) : den Try.prog G0 ents (Nat.succ n) i_slices_Clone none [A.t (T.node l)] = Option.map (fun o => (1, o)) (bif decide (l.length ≤ 1000000000) then some [A.t (T.node l)] else none) := by kernel_rfl
theorem clone_does {l : List T} (h : l.length ≤ 1000000000) : Dz i_slices_Clone none [A.t (T.node l)] (1, [A.t (T.node l)]) := Does.now fun n => by rw [clone_eq, decide_eq_true h]; rfl
theorem insert_eq (n : Nat) (i : Int) (s v : List T) : den Try.prog G0 ents (Nat.succ n) i_slices_Insert none [A.t (T.int i), A.t (T.node s), A.t (T.node v)] = Option.map (fun o => (1, o)) (bif insrtOk i s v then some [A.t (T.node v), A.t (T.node (insL i s v))] else none) := by kernel_rfl
theorem insert_does {i : Int} {s v : List T} (h : insrtOk i s v = true) : Dz i_slices_Insert none [A.t (T.int i), A.t (T.node s), A.t (T.node v)] (1, [A.t (T.node v), A.t (T.node (insL i s v))]) := Does.now fun n => by rw [insert_eq, h]; rfl
theorem ins_does {l : List ByteArray} {s : ByteArray} (hl : l.length ≤ 500000) (h : s ∉ l) : Dz i_slices_Insert none [A.t (T.int (pos s l : Nat)), A.t (T.node (tl l)), A.t (T.node [T.str s])] (1, [A.t (T.node [T.str s]), A.t (T.node (tl (insT s l)))]) := by
  have hp := pos_le s l
  have := insert_does (i := ((pos s l : Nat) : Int)) (s := tl l) (v := [T.str s]) (by
    unfold insrtOk
    simp only [Bool.and_eq_true, decide_eq_true_eq, tl_len, List.length_singleton]
    omega)
  rw [insL_tl h] at this
  exact this
theorem plink_does {fs : List T} {p : List ByteArray} {t : ByteArray → List ByteArray} (h : Gr fs p t) {a b : ByteArray} (ha : a.size ≤ 100) (hb : b.size ≤ 100) (hl : p.length + 2 ≤ 200000) (hn : (t a).length + 1 ≤ 200000) :
    ∃ fs', Gr fs' (insT b (insT a p)) (updT t a (insT b (t a))) ∧ Dz i_graph_Graph_string_Link none [A.t (T.str a), A.t (T.str b), A.t (T.node fs)] (1, [A.t (T.node fs')]) := by
  obtain ⟨f1, g1, d1⟩ := padd_does h ha (by omega)
  have hla := insT_len a p
  obtain ⟨f2, g2, d2⟩ := padd_does g1 hb (by omega)
  have hmem : a ∈ insT b (insT a p) := mem_insT.2 (.inr (mem_insT.2 (.inl rfl)))
  have hta := g2.to a
  obtain ⟨n0, h0⟩ := d1.both d2
  have hbs := bs_does (t a) b (by omega) (h.tri a)
  by_cases hin : b ∈ t a
  · have e : updT t a (insT b (t a)) = t := by
      funext s
      unfold updT
      split
      · rename_i e; subst e; exact insT_has (h.tri _) hin
      · rfl
    obtain ⟨n1, h1⟩ := hbs
    refine ⟨f2, by rw [e]; exact g2, Does.of (n0 + n1) fun m hm => ?_⟩
    have q3 := h1 m (by omega)
    rw [q_graph_Graph_string_Link]
    simp only [S0, S9, S1, S2, if_true, if_false, (h0 m (by omega)).1, (h0 m (by omega)).2, gZ_eq, hta, q3, hasB_iff.2 hin, Bool.not_true, Bool.false_eq_true]
  · have hlen := insT_len b (t a)
    obtain ⟨n1, h1⟩ := hbs.both (clone_does (l := tl (t a)) (by rw [tl_len]; omega))
    obtain ⟨n2, h2⟩ := ins_does (l := t a) (s := b) (by omega) hin
    refine ⟨_, g2.set hmem (insT_rise (h.tri a)) (by omega) (fun x hx => ?_), Does.of (n0 + n1 + n2) fun m hm => ?_⟩
    · rcases mem_insT.1 hx with rfl | hx
      · exact hb
      · exact h.tsiz a x hx
    · have q3 := h1 m (by omega)
      have q4 := h2 m (by omega)
      rw [q_graph_Graph_string_Link]
      simp only [S0, S9, S1, S2, if_true, if_false, (h0 m (by omega)).1, (h0 m (by omega)).2, gZ_eq, hta, q3.1, q3.2, hasB_no hin, Bool.not_false, q4, put_eq]
theorem to_snoc (L : List (ByteArray × ByteArray)) (a b : ByteArray) : toOf (L ++ [(a, b)]) = updT (toOf L) a (insT b (toOf L a)) := by
  funext s
  unfold toOf updT
  rw [List.foldl_append]
  show (if a = s then insT b _ else _) = _
  by_cases e : a = s
  · subst e; simp
  · rw [if_neg e, if_neg fun h => e h.symm]
theorem pts_snoc (l : List ByteArray) (L : List (ByteArray × ByteArray)) (a b : ByteArray) : ptsOf l (L ++ [(a, b)]) = insT b (insT a (ptsOf l L)) := by
  unfold ptsOf
  rw [List.foldl_append]
  rfl
theorem link_on {fs : List T} {l : List ByteArray} {L : List (ByteArray × ByteArray)} (h : Gr fs (ptsOf l L) (toOf L)) {a b : ByteArray} (ha : a.size ≤ 100) (hb : b.size ≤ 100) (hl : l.length + 2 * L.length ≤ 190000) :
    ∃ fs', Gr fs' (ptsOf l (L ++ [(a, b)])) (toOf (L ++ [(a, b)])) ∧ Dz i_graph_Graph_string_Link none [A.t (T.str a), A.t (T.str b), A.t (T.node fs)] (1, [A.t (T.node fs')]) := by
  have h1 := pts_len l L
  have h2 := to_len L a
  rw [to_snoc, pts_snoc]
  exact plink_does h ha hb (by omega) (by omega)
theorem new_loop (l : List ByteArray) (hl : l.length ≤ 1000) (hs : ∀ x ∈ l, x.size ≤ 100) : ∀ (k j : Nat) (fs : List T), j + k = l.length → Gr fs ((l.take j).foldl (fun a s => insT s a) []) (fun _ => []) →
    ∃ fs', Gr fs' (l.foldl (fun a s => insT s a) []) (fun _ => []) ∧ Dz i_graph_New_string (some p_graph_New_string_c1) [A.t (T.node (tl l)), A.t (T.int (l.length : Nat)), A.t (T.int j), A.t (T.node fs)] (2, [A.t (T.node fs')]) := by
  intro k
  induction k with
  | zero =>
    intro j fs hj h
    rw [List.take_of_length_le (by omega)] at h
    refine ⟨fs, h, Does.now fun m => ?_⟩
    rw [q_graph_New_string_c1]
    simp only [S0, S9, S1, S2, if_true, if_false]
    rw [if_neg (by omega)]
  | succ k ih =>
    intro j fs hj h
    have hlt : j < l.length := by omega
    have hw : IntKind.i64.wrap ((j : Int) + 1) = ((j + 1 : Nat) : Int) := i64succ (by omega)
    have hlen := fold_len (l.take j) []
    rw [List.length_take] at hlen
    simp only [List.length_nil] at hlen
    obtain ⟨f1, g1, d1⟩ := padd_does h (hs _ (List.getElem_mem hlt)) (by omega)
    have e : insT l[j] ((l.take j).foldl (fun a s => insT s a) []) = (l.take (j + 1)).foldl (fun a s => insT s a) [] := by
      rw [take_succ' hlt, List.foldl_append]; rfl
    rw [e] at g1
    obtain ⟨f2, g2, d2⟩ := ih (j + 1) f1 (by omega) g1
    obtain ⟨n0, h0⟩ := d1.both d2
    refine ⟨f2, g2, Does.of n0 fun m hm => ?_⟩
    obtain ⟨q1, q2⟩ := h0 m hm
    rw [q_graph_New_string_c1]
    simp only [S0, S9, S1, S2, if_true, if_false, tl_len, tl_get hlt, txt_s, hw, q1]
    rw [if_pos (by omega), if_pos (by omega)]
    exact q2
theorem Gr.nil : Gr [] [] (fun _ => []) := ⟨List.Pairwise.nil, List.Perm.refl _, fun s => rfl, fun s => List.Pairwise.nil, by simp, fun s => by simp, fun x hx => (by cases hx), fun s x hx => (by cases hx)⟩
theorem new_does (l : List ByteArray) (hl : l.length ≤ 1000) (hs : ∀ x ∈ l, x.size ≤ 100) : ∃ fs', Gr fs' (ptsOf l []) (toOf []) ∧ Dz i_graph_New_string none [A.t (T.node (tl l))] (1, [A.t (T.node fs')]) := by
  obtain ⟨f1, g1, d1⟩ := new_loop l hl hs l.length 0 [] (by omega) Gr.nil
  obtain ⟨n0, h0⟩ := d1
  refine ⟨f1, g1, Does.of n0 fun m hm => ?_⟩
  have q : den Try.prog G0 ents m i_graph_New_string (some p_graph_New_string_c1) [A.t (T.node (tl l)), A.t (T.int (l.length : Nat)), A.t (T.int 0), A.t (T.node [])] = _ := h0 m hm
  rw [q_graph_New_string]
  simp only [S0, S9, S1, S2, if_true, if_false, tl_len, q]
theorem of_loop (l : List ByteArray) (lt : List T) (hl : l.length ≤ 1000) (hlt : lt.length ≤ 1000) (hs : ∀ x ∈ lt, (ln x).1.size ≤ 100 ∧ (ln x).2.size ≤ 100) : ∀ (k j : Nat) (fs : List T), j + k = lt.length → Gr fs (ptsOf l ((lt.take j).map ln)) (toOf ((lt.take j).map ln)) →
    ∃ fs', Gr fs' (ptsOf l (lt.map ln)) (toOf (lt.map ln)) ∧ Dz i_L17_of (some p_L17_of_c1) [A.t (T.node lt), A.t (T.int j), A.t (T.node fs)] (2, [A.t (T.node fs')]) := by
  intro k
  induction k with
  | zero =>
    intro j fs hj h
    rw [List.take_of_length_le (by omega)] at h
    refine ⟨fs, h, Does.now fun m => ?_⟩
    rw [q_L17_of_c1]
    simp only [S0, S9, S1, S2, if_true, if_false]
    rw [if_neg (by omega)]
  | succ k ih =>
    intro j fs hj h
    have hlt : j < lt.length := by omega
    have hw : IntKind.i64.wrap ((j : Int) + 1) = ((j + 1 : Nat) : Int) := i64succ (by omega)
    obtain ⟨s1, s2⟩ := hs _ (List.getElem_mem hlt)
    obtain ⟨f1, g1, d1⟩ := link_on h s1 s2 (by rw [List.length_map, List.length_take]; omega)
    have e : (lt.take j).map ln ++ [((ln lt[j]).1, (ln lt[j]).2)] = (lt.take (j + 1)).map ln := by
      rw [take_succ' hlt, List.map_append]; rfl
    rw [e] at g1
    obtain ⟨f2, g2, d2⟩ := ih (j + 1) f1 (by omega) g1
    obtain ⟨n0, h0⟩ := d1.both d2
    refine ⟨f2, g2, Does.of n0 fun m hm => ?_⟩
    obtain ⟨q1, q2⟩ := h0 m hm
    rw [q_L17_of_c1]
    simp only [S0, S9, S1, S2, if_true, if_false, at_get hlt, ln0, ln1, hw, q1]
    rw [if_pos (by omega), if_pos (by omega), if_pos (by omega)]
    exact q2
theorem of_does (l : List ByteArray) (lt : List T) (hl : l.length ≤ 1000) (hlt : lt.length ≤ 1000) (h1 : ∀ x ∈ l, x.size ≤ 100) (hs : ∀ x ∈ lt, (ln x).1.size ≤ 100 ∧ (ln x).2.size ≤ 100) :
    ∃ fs', Gr fs' (ptsOf l (lt.map ln)) (toOf (lt.map ln)) ∧ Dz i_L17_of none [A.t (T.node (tl l)), A.t (T.node lt)] (1, [A.t (T.node fs')]) := by
  obtain ⟨f1, g1, d1⟩ := new_does l hl h1
  obtain ⟨f2, g2, d2⟩ := of_loop l lt hl hlt hs lt.length 0 f1 (by omega) g1
  obtain ⟨n0, h0⟩ := d1.both d2
  refine ⟨f2, g2, Does.of n0 fun m hm => ?_⟩
  obtain ⟨q1, q2⟩ := h0 m hm
  have q : den Try.prog G0 ents m i_L17_of (some p_L17_of_c1) [A.t (T.node lt), A.t (T.int 0), A.t (T.node f1)] = _ := q2
  rw [q_L17_of]
  simp only [S0, S9, S1, S2, if_true, if_false, q1, q]
theorem psort_eq (n : Nat) (l : List T) : den Try.prog G0 ents (Nat.succ n) i_slices_Sorted_l none [A.t (T.node l)] = Option.map (fun o => (1, o)) (bif keysOk l then some [A.t (T.node (keysS l)), A.t (T.node l)] else none) := by kernel_rfl
end Go.Proofs.YtbejhhoakeapgaaGR
namespace Go.Proofs.YtbejhhoakeapgaaGR
open Go Go.Proofs.YtbejhhoakeapgaaVM
set_option linter.unusedVariables false
set_option linter.unusedSimpArgs false
set_option maxRecDepth 100000

def prs (k : ByteArray) (l : List ByteArray) : List (ByteArray × ByteArray) := l.map fun x => (x, k)
def turnL (p : List ByteArray) (t : ByteArray → List ByteArray) : List (ByteArray × ByteArray) := p.flatMap fun k => prs k (t k)
theorem mem_turn {p : List ByteArray} {t : ByteArray → List ByteArray} {a b : ByteArray} : (a, b) ∈ turnL p t ↔ b ∈ p ∧ a ∈ t b := by
  unfold turnL prs
  rw [List.mem_flatMap]
  constructor
  · rintro ⟨k, hk, h⟩
    obtain ⟨x, hx, e⟩ := List.mem_map.1 h
    cases e
    exact ⟨hk, hx⟩
  · rintro ⟨h1, h2⟩
    exact ⟨b, h1, List.mem_map.2 ⟨a, h2, rfl⟩⟩
theorem turn_len {t : ByteArray → List ByteArray} (N : Nat) (ht : ∀ s, (t s).length ≤ N) : ∀ p : List ByteArray, (turnL p t).length ≤ p.length * N
  | [] => by simp [turnL]
  | x :: p => by
    have h1 := turn_len N ht p
    have h2 := ht x
    unfold turnL at h1 ⊢
    rw [List.flatMap_cons, List.length_append, List.length_cons, Nat.add_mul, Nat.one_mul]
    unfold prs at h1 ⊢
    rw [List.length_map]
    omega
theorem turn_pts {l : List ByteArray} {L : List (ByteArray × ByteArray)} : ptsOf (ptsOf l L) (turnL (ptsOf l L) (toOf L)) = ptsOf l L := by
  refine Ri.ext (pts_rise _ _) (pts_rise _ _) fun x => ?_
  rw [mem_pts (l := ptsOf l L)]
  constructor
  · rintro (h | ⟨⟨a, b⟩, hy, h⟩)
    · exact h
    · obtain ⟨h1, h2⟩ := mem_turn.1 hy
      have h3 := mem_to.1 h2
      rcases h with rfl | rfl
      · exact mem_pts.2 (.inr ⟨_, h3, .inr rfl⟩)
      · exact h1
  · exact .inl
theorem turn_to {l : List ByteArray} {L : List (ByteArray × ByteArray)} (s : ByteArray) : toOf (turnL (ptsOf l L) (toOf L)) s = toOf (swp L) s := by
  refine Ri.ext (to_rise _ _) (to_rise _ _) fun x => ?_
  rw [mem_to, mem_to, mem_turn, mem_to, mem_swp]
  exact ⟨fun h => h.2, fun h => ⟨mem_pts.2 (.inr ⟨_, h, .inl rfl⟩), h⟩⟩
def turnT (x : T) : T := .node [.str (ln x).2, .str (ln x).1]
theorem turnT_ln (lt : List T) : (lt.map turnT).map ln = swp (lt.map ln) := by
  unfold swp
  rw [List.map_map, List.map_map]
  rfl
theorem same_loop (a : List ByteArray) (ha : a.length ≤ 1000000) : ∀ (k j : Nat), j + k = a.length → Dz i_R02_Same (some p_R02_Same_c1) [A.t (T.node (tl a)), A.t (T.node (tl a)), A.t (T.int j)] (2, []) := by
  intro k
  induction k with
  | zero =>
    intro j hj
    refine Does.now fun m => ?_
    rw [q_R02_Same_c1]
    simp only [S0, S9, S1, S2, if_true, if_false, tl_len]
    rw [if_neg (by omega)]
  | succ k ih =>
    intro j hj
    have hlt : j < a.length := by omega
    have hw : IntKind.i64.wrap ((j : Int) + 1) = ((j + 1 : Nat) : Int) := i64succ (by omega)
    obtain ⟨n0, h0⟩ := ih (j + 1) (by omega)
    refine Does.of n0 fun m hm => ?_
    rw [q_R02_Same_c1]
    simp only [S0, S9, S1, S2, if_true, if_false, tl_len, tl_get hlt, txt_s, hw, seq_is.2 rfl, Bool.not_true, Bool.false_eq_true]
    rw [if_pos (by omega), if_pos (by omega), if_pos (by omega)]
    exact h0 m hm
theorem same_does (a : List ByteArray) (ha : a.length ≤ 1000000) : Dz i_R02_Same none [A.t (T.node (tl a)), A.t (T.node (tl a))] (1, [A.t (T.bool true)]) := by
  obtain ⟨n0, h0⟩ := same_loop a ha a.length 0 (by omega)
  refine Does.of n0 fun m hm => ?_
  have q : den Try.prog G0 ents m i_R02_Same (some p_R02_Same_c1) [A.t (T.node (tl a)), A.t (T.node (tl a)), A.t (T.int 0)] = _ := h0 m hm
  rw [q_R02_Same]
  simp only [S0, S9, S1, S2, if_true, if_false, q, bne_self_eq_false, Bool.false_eq_true, not_true_eq_false]
end Go.Proofs.YtbejhhoakeapgaaGR
namespace Go.Proofs.YtbejhhoakeapgaaGR
open Go Go.Proofs.YtbejhhoakeapgaaVM
set_option linter.unusedVariables false
set_option linter.unusedSimpArgs false
set_option maxRecDepth 100000

def okB (lt : List T) : Bool := lt.all fun x => decide ((ln x).1.size ≤ 100) && decide ((ln x).2.size ≤ 100)
def okN (l : List T) : Bool := l.all fun x => decide (x.txt.size ≤ 100)
theorem few1_loop (l : List T) (lt : List T) (hl : l.length ≤ 1000) : ∀ (k j : Nat), j + k = l.length →
    Dz i_L17_few (some p_L17_few_c1) [A.t (T.node l), A.t (T.node lt), A.t (T.int j)] (if okN (l.drop j) then (2, [A.t (T.node lt)]) else (1, [A.t (T.bool false)])) := by
  intro k
  induction k with
  | zero =>
    intro j hj
    refine Does.now fun m => ?_
    rw [q_L17_few_c1, List.drop_of_length_le (by omega)]
    simp only [S0, S9, S1, S2, if_true, if_false]
    rw [if_neg (by omega)]
    rfl
  | succ k ih =>
    intro j hj
    have hlt : j < l.length := by omega
    have hw : IntKind.i64.wrap ((j : Int) + 1) = ((j + 1 : Nat) : Int) := i64succ (by omega)
    obtain ⟨n0, h0⟩ := ih (j + 1) (by omega)
    refine Does.of n0 fun m hm => ?_
    have q := h0 m hm
    have e : okN (l[j] :: l.drop (j + 1)) = (decide (l[j].txt.size ≤ 100) && okN (l.drop (j + 1))) := rfl
    rw [q_L17_few_c1, List.drop_eq_getElem_cons hlt, e]
    simp only [S0, S9, S1, S2, if_true, if_false, at_get hlt, hw]
    rw [if_pos (by omega), if_pos (by omega)]
    by_cases h : l[j].txt.size ≤ 100
    · rw [if_neg (by omega), q]
      simp only [h, true_and]
    · rw [if_pos (by omega)]
      simp only [h, false_and, if_false]
theorem few2_loop (lt : List T) (hl : lt.length ≤ 1000) : ∀ (k j : Nat), j + k = lt.length →
    Dz i_L17_few (some p_L17_few_c2) [A.t (T.node lt), A.t (T.int j)] (if okB (lt.drop j) then (4, []) else (1, [A.t (T.bool false)])) := by
  intro k
  induction k with
  | zero =>
    intro j hj
    refine Does.now fun m => ?_
    rw [q_L17_few_c2, List.drop_of_length_le (by omega)]
    simp only [S0, S9, S1, S2, if_true, if_false]
    rw [if_neg (by omega)]
    rfl
  | succ k ih =>
    intro j hj
    have hlt : j < lt.length := by omega
    have hw : IntKind.i64.wrap ((j : Int) + 1) = ((j + 1 : Nat) : Int) := i64succ (by omega)
    obtain ⟨n0, h0⟩ := ih (j + 1) (by omega)
    refine Does.of n0 fun m hm => ?_
    have q := h0 m hm
    have e : okB (lt[j] :: lt.drop (j + 1)) = ((decide ((ln lt[j]).1.size ≤ 100) && decide ((ln lt[j]).2.size ≤ 100)) && okB (lt.drop (j + 1))) := rfl
    rw [q_L17_few_c2, List.drop_eq_getElem_cons hlt, e]
    simp only [S0, S9, S1, S2, if_true, if_false, at_get hlt, ln0, ln1, hw]
    rw [if_pos (by omega), if_pos (by omega)]
    by_cases h : (ln lt[j]).1.size ≤ 100
    · by_cases h2 : (ln lt[j]).2.size ≤ 100
      · rw [if_pos (by omega), if_pos (by omega), if_neg (by omega), q]
        simp only [h, h2, true_and]
      · rw [if_pos (by omega), if_pos (by omega), if_pos (by omega)]
        simp only [h, h2, false_and, and_false, if_false]
    · rw [if_neg (by omega)]
      simp only [h, false_and, if_false]
def fewG (l lt : List T) : Bool := decide (l.length ≤ 30) && decide (lt.length ≤ 60) && okN l && okB lt
theorem few_does (l lt : List T) : Dz i_L17_few none [A.t (T.node l), A.t (T.node lt)] (1, [A.t (T.bool (fewG l lt))]) := by
  unfold fewG
  by_cases h1 : l.length ≤ 30
  · by_cases h2 : lt.length ≤ 60
    · obtain ⟨n0, h0⟩ := (few1_loop l lt (by omega) l.length 0 (by omega)).both (few2_loop lt (by omega) lt.length 0 (by omega))
      rw [List.drop_zero, List.drop_zero] at h0
      refine Does.of n0 fun m hm => ?_
      have q1 : den Try.prog G0 ents m i_L17_few (some p_L17_few_c1) [A.t (T.node l), A.t (T.node lt), A.t (T.int 0)] = _ := (h0 m hm).1
      have q2 : den Try.prog G0 ents m i_L17_few (some p_L17_few_c2) [A.t (T.node lt), A.t (T.int 0)] = _ := (h0 m hm).2
      rw [q_L17_few]
      cases hn : okN l with
      | false =>
        rw [hn] at q1
        simp only [S0, S9, S1, S2, if_true, if_false, q1, Bool.false_eq_true]
        rw [if_pos (by omega), if_neg (by omega)]
        simp [h1, h2]
      | true =>
        rw [hn] at q1
        cases hb : okB lt with
        | false =>
          rw [hb] at q2
          simp only [S0, S9, S1, S2, if_true, if_false, q1, q2, Bool.false_eq_true]
          rw [if_pos (by omega), if_neg (by omega)]
          simp [h1, h2]
        | true =>
          rw [hb] at q2
          simp only [S0, S9, S1, S2, if_true, if_false, q1, q2, show Nat.beq 4 4 = true from rfl]
          rw [if_pos (by omega), if_neg (by omega)]
          simp [h1, h2]
    · refine Does.now fun m => ?_
      rw [q_L17_few]
      simp only [S0, S9, S1, S2, if_true, if_false]
      rw [if_pos (by omega), if_pos (by omega)]
      simp [h1, h2]
  · refine Does.now fun m => ?_
    rw [q_L17_few]
    simp only [S0, S9, S1, S2, if_true, if_false]
    rw [if_neg (by omega)]
    simp [h1]
theorem few_ok {l lt : List T} (h : fewG l lt = true) : l.length ≤ 30 ∧ lt.length ≤ 60 ∧ (∀ x ∈ l.map T.txt, x.size ≤ 100) ∧ (∀ x ∈ lt, (ln x).1.size ≤ 100 ∧ (ln x).2.size ≤ 100) := by
  unfold fewG at h
  simp only [Bool.and_eq_true, decide_eq_true_eq] at h
  obtain ⟨⟨⟨h1, h2⟩, h3⟩, h4⟩ := h
  refine ⟨h1, h2, fun x hx => ?_, fun x hx => ?_⟩
  · obtain ⟨y, hy, e⟩ := List.mem_map.1 hx
    have := List.all_eq_true.1 h3 y hy
    rw [decide_eq_true_eq] at this
    rw [← e]; exact this
  · have := List.all_eq_true.1 h4 x hx
    simpa using this
theorem awakeG_does : Dz i_L17_awake none [] (1, [A.t (T.bool true)]) := run_of 200 fun n => by kernel_rfl
end Go.Proofs.YtbejhhoakeapgaaGR
namespace Go.Proofs.YtbejhhoakeapgaaGR
open Go Go.Proofs.YtbejhhoakeapgaaVM
set_option linter.unusedVariables false
set_option linter.unusedSimpArgs false
set_option maxRecDepth 100000

theorem texts_of {t : T} (h : TOk Try.prog 22 t) : t.kids = tl (t.kids.map T.txt) := by
  obtain ⟨xs, rfl, _, hx⟩ := TOk.row_of Try.underlying22 h
  show xs = (xs.map T.txt).map T.str
  rw [List.map_map]
  have : ∀ x ∈ xs, (T.str ∘ T.txt) x = x := fun x hx' => by
    obtain ⟨s, rfl, _⟩ := TOk.str_of Try.underlying9 (hx x hx')
    rfl
  rw [List.map_congr_left this, List.map_id']
end Go.Proofs.YtbejhhoakeapgaaGR
namespace Go.Proofs.YtbejhhoakeapgaaGR
open Go Go.Proofs.YtbejhhoakeapgaaVM
set_option linter.unusedVariables false
set_option linter.unusedSimpArgs false
set_option maxRecDepth 100000

inductive Rch (p f : List ByteArray) (L : List (ByteArray × ByteArray)) : ByteArray → Prop
  | base {s : ByteArray} : s ∈ f → s ∈ p → Rch p f L s
  | step {a b : ByteArray} : Rch p f L a → (a, b) ∈ L → Rch p f L b
theorem Rch.inp {p f : List ByteArray} {L : List (ByteArray × ByteArray)} {s : ByteArray} (h : Rch p f L s) (hL : ∀ x ∈ L, x.2 ∈ p) : s ∈ p := by
  cases h with
  | base _ h => exact h
  | step _ h => exact hL _ h
theorem Rch.least {p f : List ByteArray} {L : List (ByteArray × ByteArray)} {q : List ByteArray} (h1 : ∀ o ∈ f, o ∈ p → o ∈ q) (h2 : ∀ a ∈ q, ∀ b, (a, b) ∈ L → b ∈ q) {s : ByteArray} (h : Rch p f L s) : s ∈ q := by
  induction h with
  | base a b => exact h1 _ a b
  | step _ b ih => exact h2 _ ih _ b
theorem ri_sub {a b : List ByteArray} (ha : Ri a) (h : ∀ x ∈ a, x ∈ b) : a.length ≤ b.length := List.Nodup.length_le_of_subset ha.nodup h
theorem insT_more {s : ByteArray} {l : List ByteArray} (h : s ∉ l) : (insT s l).length = l.length + 1 := by
  have := pos_le s l
  rw [pos_ins h, List.length_append, List.length_append, List.length_take, List.length_drop, List.length_singleton]
  omega
structure Sn (ms : List T) (q : List ByteArray) : Prop where
  rise : Ri q
  perm : (ms.map ky).Perm q
  sees : ∀ s, (gZ (.int 0) ms s).num = if hasB s q then 1 else 0
theorem Sn.nil : Sn [] [] := ⟨List.Pairwise.nil, List.Perm.refl _, fun s => rfl⟩
theorem Sn.put {ms : List T} {q : List ByteArray} (h : Sn ms q) {s : ByteArray} (hn : s ∉ q) : Sn (putF ms s (.int 1)) (insT s q) := by
  have hk : s ∉ ms.map ky := fun h' => hn (h.perm.mem_iff.1 h')
  refine ⟨insT_rise h.rise, ?_, fun x => ?_⟩
  · rw [put_out hk]
    refine (List.perm_append_singleton _ _).trans ((h.perm.cons s).trans ?_)
    rw [List.perm_ext_iff_of_nodup (List.nodup_cons.2 ⟨hn, h.rise.nodup⟩) (insT_rise h.rise).nodup]
    intro x
    rw [mem_insT, List.mem_cons]
  · rw [gZ_put]
    by_cases e : x = s
    · rw [if_pos e, hasB_iff.2 (mem_insT.2 (.inl e))]; rfl
    · rw [if_neg e, h.sees]
      by_cases e2 : x ∈ q
      · rw [hasB_iff.2 e2, hasB_iff.2 (mem_insT.2 (.inr e2))]
      · rw [hasB_no e2, hasB_no fun h => (mem_insT.1 h).elim e e2]
theorem gI_eq (fs : List T) (s : ByteArray) : mget keyS (T.int 0) fs (T.str s) = gZ (.int 0) fs s := id rfl
theorem putI_eq (fs : List T) (s : ByteArray) (v : T) : mput keyS fs (T.str s) v = putF fs s v := id rfl
theorem reach_loop {fs : List T} {p : List ByteArray} {t : ByteArray → List ByteArray} (h : Gr fs p t) (B : Nat) (hB : ∀ s, (t s).length ≤ B) {f : List ByteArray} {L : List (ByteArray × ByteArray)} (ht : ∀ a b, b ∈ t a ↔ (a, b) ∈ L) (hL : ∀ x ∈ L, x.2 ∈ p) : ∀ (N : Nat), N ≤ 1000000 → ∀ (ms : List T) (q op : List ByteArray), (p.length - q.length) * (B + 1) + op.length ≤ N → Sn ms q → (∀ x ∈ q, x ∈ p) → (∀ x ∈ q, Rch p f L x) → (∀ o ∈ op, o ∈ p → Rch p f L o) → (∀ o ∈ f, o ∈ p → o ∈ q ∨ o ∈ op) → (∀ a ∈ q, ∀ b, (a, b) ∈ L → b ∈ q ∨ b ∈ op) →
    ∃ ms' q', Sn ms' q' ∧ (∀ x, x ∈ q' ↔ Rch p f L x) ∧ Dz i_graph_Graph_string_Reach (some p_graph_Graph_string_Reach_c1) [A.t (T.node fs), A.t (T.node ms), A.t (T.node (tl op))] (2, [A.t (T.node fs), A.t (T.node ms')]) := by
  intro N
  induction N with
  | zero =>
    intro _ ms q op hN hs hq hr ho hf hc
    have : op = [] := List.eq_nil_of_length_eq_zero (by omega)
    subst this
    refine ⟨ms, q, hs, fun x => ⟨hr x, Rch.least (fun o a b => (hf o a b).elim id fun h => by cases h) (fun a ha b hb => (hc a ha b hb).elim id fun h => by cases h)⟩, Does.now fun m => ?_⟩
    rw [q_graph_Graph_string_Reach_c1]
    simp only [S0, S9, S1, S2, if_true, if_false]
    rfl
  | succ N ih =>
    intro hNb ms q op hN hs hq hr ho hf hc
    rcases List.eq_nil_or_concat op with rfl | ⟨o', s, e⟩
    · refine ⟨ms, q, hs, fun x => ⟨hr x, Rch.least (fun o a b => (hf o a b).elim id fun h => by cases h) (fun a ha b hb => (hc a ha b hb).elim id fun h => by cases h)⟩, Does.now fun m => ?_⟩
      rw [q_graph_Graph_string_Reach_c1]
      simp only [S0, S9, S1, S2, if_true, if_false]
      rfl
    · rw [List.concat_eq_append] at e
      subst e
      have hl : (tl (o' ++ [s])).length = o'.length + 1 := by rw [tl_len, List.length_append, List.length_singleton]
      rw [List.length_append, List.length_singleton] at hN
      have hw : IntKind.i64.wrap (((o'.length + 1 : Nat) : Int) - 1) = ((o'.length : Nat) : Int) := by
        rw [show ((o'.length + 1 : Nat) : Int) - 1 = ((o'.length : Nat) : Int) by omega]
        exact i64nat (by omega)
      have hg : tAtD (tl (o' ++ [s])) o'.length = T.str s := by
        rw [tl_get (by rw [List.length_append, List.length_singleton]; omega)]
        simp
      have htk : (tl (o' ++ [s])).take o'.length = tl o' := by
        rw [tl_app, List.take_left' (tl_len o')]
      have hh := ph_does fs s
      rw [h.has] at hh
      have hop : ∀ o ∈ o', o ∈ p → Rch p f L o := fun o a b => ho o (List.mem_append_left _ a) b
      have hcut : ∀ o, o ≠ s → o ∈ q ∨ o ∈ o' ++ [s] → o ∈ q ∨ o ∈ o' := fun o hne h => h.imp id fun h => (List.mem_append.1 h).elim id fun h => absurd (List.mem_singleton.1 h) hne
      by_cases hp : s ∈ p
      · rw [hasB_iff.2 hp] at hh
        by_cases hsq : s ∈ q
        · have hcut2 : ∀ o, o ∈ q ∨ o ∈ o' ++ [s] → o ∈ q ∨ o ∈ o' := fun o h => by
            by_cases e : o = s
            · exact .inl (e ▸ hsq)
            · exact hcut o e h
          obtain ⟨ms', q', g1, g2, d⟩ := ih (by omega) ms q o' (by omega) hs hq hr hop (fun o a b => hcut2 o (hf o a b)) (fun a ha b hb => hcut2 b (hc a ha b hb))
          obtain ⟨n0, h0⟩ := hh.both d
          have hsee : (gZ (.int 0) ms s).num = 1 := by rw [hs.sees, hasB_iff.2 hsq]; rfl
          refine ⟨ms', q', g1, g2, Does.of n0 fun m hm => ?_⟩
          obtain ⟨q1, q2⟩ := h0 m hm
          rw [q_graph_Graph_string_Reach_c1]
          simp only [S0, S9, S1, S2, if_true, if_false, hl, hw, hg, htk, txt_s, q1, gI_eq, hsee, Bool.not_true]
          rw [if_pos (by omega), if_pos (by omega), if_pos (by omega), if_pos (by omega), if_pos (by omega)]
          exact q2
        · have hmore := insT_more hsq
          have hq' : ∀ x ∈ insT s q, x ∈ p := fun x hx => (mem_insT.1 hx).elim (fun e => e ▸ hp) (hq x)
          have hlen := ri_sub (insT_rise (s := s) hs.rise) hq'
          have hrs : Rch p f L s := ho s (List.mem_append_right _ (List.mem_singleton.2 rfl)) hp
          have hBs := hB s
          have hmul : (p.length - q.length) * (B + 1) = (p.length - (insT s q).length) * (B + 1) + (B + 1) := by
            rw [show p.length - q.length = (p.length - (insT s q).length) + 1 by omega, Nat.succ_mul]
          obtain ⟨ms', q', g1, g2, d⟩ := ih (by omega) (putF ms s (.int 1)) (insT s q) (o' ++ t s) (by rw [List.length_append]; omega) (hs.put hsq) hq'
            (fun x hx => (mem_insT.1 hx).elim (fun e => e ▸ hrs) (hr x))
            (fun o a b => (List.mem_append.1 a).elim (fun a => hop o a b) (fun a => hrs.step ((ht s o).1 a)))
            (fun o a b => by
              by_cases e : o = s
              · exact .inl (mem_insT.2 (.inl e))
              · exact (hcut o e (hf o a b)).imp (fun h => mem_insT.2 (.inr h)) (fun h => List.mem_append_left _ h))
            (fun a ha b hb => by
              rcases mem_insT.1 ha with rfl | ha
              · exact .inr (List.mem_append_right _ ((ht _ _).2 hb))
              · by_cases e : b = s
                · exact .inl (mem_insT.2 (.inl e))
                · exact (hcut b e (hc a ha b hb)).imp (fun h => mem_insT.2 (.inr h)) (fun h => List.mem_append_left _ h))
          obtain ⟨n0, h0⟩ := hh.both d
          have hsee : (gZ (.int 0) ms s).num = 0 := by rw [hs.sees, hasB_no hsq]; rfl
          have hto := h.to s
          have hsz : (tl o').length + (tl (t s)).length < 1073741824 := by rw [tl_len, tl_len]; have := h.tlen s; omega
          refine ⟨ms', q', g1, g2, Does.of n0 fun m hm => ?_⟩
          obtain ⟨q1, q2⟩ := h0 m hm
          rw [q_graph_Graph_string_Reach_c1]
          simp only [S0, S9, S1, S2, if_true, if_false, hl, hw, hg, htk, txt_s, q1, gI_eq, gZ_eq, putI_eq, hsee, hto, hsz, Bool.not_true]
          rw [if_pos (by omega), if_pos (by omega), if_pos (by omega), if_pos (by omega), if_neg (by omega), ← tl_app]
          exact q2
      · rw [hasB_no hp] at hh
        obtain ⟨ms', q', g1, g2, d⟩ := ih (by omega) ms q o' (by omega) hs hq hr hop (fun o a b => hcut o (fun e => hp (e ▸ b)) (hf o a b)) (fun a ha b hb => hcut b (fun e => hp (e ▸ hL _ hb)) (hc a ha b hb))
        obtain ⟨n0, h0⟩ := hh.both d
        refine ⟨ms', q', g1, g2, Does.of n0 fun m hm => ?_⟩
        obtain ⟨q1, q2⟩ := h0 m hm
        rw [q_graph_Graph_string_Reach_c1]
        simp only [S0, S9, S1, S2, if_true, if_false, hl, hw, hg, htk, txt_s, q1, Bool.not_false, Bool.true_eq_false]
        rw [if_pos (by omega), if_pos (by omega), if_pos (by omega), if_pos (by omega)]
        exact q2
theorem isort_eq (n : Nat) (l : List T) : den Try.prog G0 ents (Nat.succ n) i_slices_Sorted none [A.t (T.node l)] = Option.map (fun o => (1, o)) (bif keysOk l then some [A.t (T.node (keysS l)), A.t (T.node l)] else none) := by kernel_rfl
theorem reach_does {fs : List T} {p : List ByteArray} {t : ByteArray → List ByteArray} (h : Gr fs p t) (B : Nat) (hB : ∀ s, (t s).length ≤ B) {f : List ByteArray} {L : List (ByteArray × ByteArray)} (ht : ∀ a b, b ∈ t a ↔ (a, b) ∈ L) (hL : ∀ x ∈ L, x.2 ∈ p) (hN : p.length * (B + 1) + f.length ≤ 1000000) :
    ∃ q, Ri q ∧ (∀ x, x ∈ q ↔ Rch p f L x) ∧ Dz i_graph_Graph_string_Reach none [A.t (T.node (tl f)), A.t (T.node fs)] (1, [A.t (T.node (tl q)), A.t (T.node fs)]) := by
  obtain ⟨ms, q, g1, g2, d⟩ := reach_loop h B hB (f := f) ht hL _ hN [] [] f (Nat.le_refl _) Sn.nil (fun x hx => by cases hx) (fun x hx => by cases hx) (fun o a b => .base a b) (fun o a b => .inr a) (fun a ha => by cases ha)
  have hqp : ∀ x ∈ q, x ∈ p := fun x hx => ((g2 x).1 hx).inp hL
  have hlen := ri_sub g1.rise hqp
  have h1 : Dz i_maps_Keys_map_string_int_string_int none [A.t (T.node ms)] (1, [A.t (T.node ms)]) := Does.now fun m => by
    rw [q_maps_Keys_map_string_int_string_int]
    simp only [S0, S9, S1, S2, if_true, if_false]
  have h2 : Dz i_slices_Sorted none [A.t (T.node ms)] (1, [A.t (T.node (keysS ms)), A.t (T.node ms)]) := Does.now fun n => by
    rw [isort_eq, keysOk_of g1.perm (by have := h.len; omega) (fun x hx => by have := h.siz x (hqp x hx); omega)]; rfl
  rw [keys_of g1.perm g1.rise] at h2
  obtain ⟨n0, h0⟩ := h1.both h2
  obtain ⟨n1, h3⟩ := (clone_does (l := tl f) (by rw [tl_len]; omega)).both d
  refine ⟨q, g1.rise, g2, Does.of (n0 + n1) fun m hm => ?_⟩
  obtain ⟨q1, q2⟩ := h0 m (by omega)
  obtain ⟨q3, q4⟩ := h3 m (by omega)
  rw [q_graph_Graph_string_Reach]
  simp only [S0, S9, S1, S2, if_true, if_false, q1, q2, q3, q4]
end Go.Proofs.YtbejhhoakeapgaaGR
namespace Go.Proofs.YtbejhhoakeapgaaGR
open Go Go.Proofs.YtbejhhoakeapgaaVM
set_option linter.unusedVariables false
set_option linter.unusedSimpArgs false
set_option maxRecDepth 100000

def rnd1 (o : List ByteArray) (x : ByteArray × ByteArray) : List ByteArray := if hasB x.1 o then insT x.2 o else o
def rnd (L : List (ByteArray × ByteArray)) (o : List ByteArray) : List ByteArray := L.foldl rnd1 o
def rnds (L : List (ByteArray × ByteArray)) : Nat → List ByteArray → List ByteArray
  | 0, o => o
  | k + 1, o => rnds L k (rnd L o)
def beg1 (p : List ByteArray) (o : List ByteArray) (s : ByteArray) : List ByteArray := if hasB s p then insT s o else o
def beg (p f : List ByteArray) : List ByteArray := f.foldl (beg1 p) []
structure Wi (p o : List ByteArray) : Prop where
  rise : Ri o
  sub : ∀ x ∈ o, x ∈ p
theorem Wi.len {p o : List ByteArray} (h : Wi p o) : o.length ≤ p.length := ri_sub h.rise h.sub
theorem Wi.put {p o : List ByteArray} (h : Wi p o) {s : ByteArray} (hs : s ∈ p) : Wi p (insT s o) := ⟨insT_rise h.rise, fun x hx => (mem_insT.1 hx).elim (fun e => e ▸ hs) (h.sub x)⟩
theorem Wi.rnd1 {p o : List ByteArray} (h : Wi p o) {x : ByteArray × ByteArray} (hx : x.2 ∈ p) : Wi p (rnd1 o x) := by
  unfold YtbejhhoakeapgaaGR.rnd1
  split
  · exact h.put hx
  · exact h
theorem Wi.beg1 {p o : List ByteArray} (h : Wi p o) (s : ByteArray) : Wi p (beg1 p o s) := by
  unfold YtbejhhoakeapgaaGR.beg1
  split
  · rename_i hs; exact h.put (hasB_iff.1 hs)
  · exact h
theorem Wi.rnd {p : List ByteArray} : ∀ {L : List (ByteArray × ByteArray)} {o : List ByteArray}, Wi p o → (∀ x ∈ L, x.2 ∈ p) → Wi p (rnd L o)
  | [], _, h, _ => h
  | x :: L, _, h, hL => Wi.rnd (L := L) (h.rnd1 (hL x List.mem_cons_self)) fun y hy => hL y (List.mem_cons_of_mem _ hy)
theorem Wi.nil (p : List ByteArray) : Wi p [] := ⟨List.Pairwise.nil, fun x hx => by cases hx⟩
theorem Wi.begs {p : List ByteArray} : ∀ (f o : List ByteArray), Wi p o → Wi p (f.foldl (YtbejhhoakeapgaaGR.beg1 p) o)
  | [], _, h => h
  | s :: f, _, h => Wi.begs f _ (h.beg1 s)
theorem mem_begs {p : List ByteArray} {x : ByteArray} : ∀ (f o : List ByteArray), x ∈ f.foldl (beg1 p) o ↔ x ∈ o ∨ (x ∈ f ∧ x ∈ p)
  | [], o => by simp
  | s :: f, o => by
    rw [List.foldl_cons, mem_begs f, List.mem_cons]
    unfold beg1
    by_cases hs : s ∈ p
    · rw [hasB_iff.2 hs, if_pos rfl, mem_insT]
      constructor
      · rintro ((rfl | h) | h)
        · exact .inr ⟨.inl rfl, hs⟩
        · exact .inl h
        · exact .inr ⟨.inr h.1, h.2⟩
      · rintro (h | ⟨rfl | h, h2⟩)
        · exact .inl (.inr h)
        · exact .inl (.inl rfl)
        · exact .inr ⟨h, h2⟩
    · rw [hasB_no hs]
      simp only [Bool.false_eq_true, if_false]
      constructor
      · rintro (h | h)
        · exact .inl h
        · exact .inr ⟨.inr h.1, h.2⟩
      · rintro (h | ⟨rfl | h, h2⟩)
        · exact .inl h
        · exact absurd h2 hs
        · exact .inr ⟨h, h2⟩
theorem rnd1_len (o : List ByteArray) (x : ByteArray × ByteArray) : o.length ≤ (rnd1 o x).length := by
  unfold rnd1
  split
  · by_cases h : x.2 ∈ o
    · by_cases h2 : (insT x.2 o).length = o.length
      · omega
      · exact Nat.le_of_lt (Nat.lt_of_le_of_ne (by
          clear h2
          induction o with
          | nil => exact Nat.zero_le _
          | cons y o ih =>
            unfold insT
            split
            · simp only [List.length_cons]
              have : ∀ (s : ByteArray) (l : List ByteArray), l.length ≤ (insT s l).length := fun s l => by
                induction l with
                | nil => exact Nat.zero_le _
                | cons z l ih =>
                  unfold insT
                  split
                  · simp only [List.length_cons]; omega
                  · split <;> simp
              have := this x.2 o
              omega
            · split <;> simp) (Ne.symm h2))
    · rw [insT_more h]; omega
  · exact Nat.le_refl _
theorem rnd_len : ∀ (L : List (ByteArray × ByteArray)) (o : List ByteArray), o.length ≤ (rnd L o).length
  | [], _ => Nat.le_refl _
  | x :: L, o => Nat.le_trans (rnd1_len o x) (rnd_len L (rnd1 o x))
theorem rnd_still : ∀ (L : List (ByteArray × ByteArray)) (o : List ByteArray), Ri o → (rnd L o).length ≤ o.length → rnd L o = o ∧ ∀ x ∈ L, x.1 ∈ o → x.2 ∈ o
  | [], o, _, _ => ⟨rfl, fun x hx => by cases hx⟩
  | x :: L, o, hr, h => by
    have hx : rnd1 o x = o ∧ (x.1 ∈ o → x.2 ∈ o) := by
      by_cases h1 : x.1 ∈ o
      · by_cases h2 : x.2 ∈ o
        · exact ⟨by unfold rnd1; rw [hasB_iff.2 h1, if_pos rfl, insT_has hr h2], fun _ => h2⟩
        · exfalso
          have e : (rnd1 o x).length = o.length + 1 := by unfold rnd1; rw [hasB_iff.2 h1, if_pos rfl, insT_more h2]
          have := rnd_len L (rnd1 o x)
          have e2 : rnd (x :: L) o = rnd L (rnd1 o x) := rfl
          rw [e2] at h
          omega
      · exact ⟨by unfold rnd1; rw [hasB_no h1]; rfl, fun h => absurd h h1⟩
    have e2 : rnd (x :: L) o = rnd L o := by show rnd L (rnd1 o x) = _; rw [hx.1]
    rw [e2] at h ⊢
    obtain ⟨h1, h2⟩ := rnd_still L o hr h
    refine ⟨h1, fun y hy => ?_⟩
    rcases List.mem_cons.1 hy with rfl | hy
    · exact hx.2
    · exact h2 y hy
theorem rnds_still {L : List (ByteArray × ByteArray)} {o : List ByteArray} (h : rnd L o = o) : ∀ k, rnds L k o = o
  | 0 => rfl
  | k + 1 => by show rnds L k (rnd L o) = o; rw [h]; exact rnds_still h k
def Closed (L : List (ByteArray × ByteArray)) (o : List ByteArray) : Prop := ∀ x ∈ L, x.1 ∈ o → x.2 ∈ o
theorem rnds_ends {p : List ByteArray} {L : List (ByteArray × ByteArray)} (hL : ∀ x ∈ L, x.2 ∈ p) : ∀ (k : Nat) (o : List ByteArray), Wi p o → Closed L (rnds L k o) ∨ o.length + k ≤ (rnds L k o).length
  | 0, o, _ => .inr (Nat.le_refl _)
  | k + 1, o, h => by
    rcases Nat.lt_or_ge o.length (rnd L o).length with hlt | hge
    · rcases rnds_ends hL k (rnd L o) (h.rnd hL) with h1 | h1
      · exact .inl h1
      · exact .inr (by show _ ≤ (rnds L k (rnd L o)).length; omega)
    · obtain ⟨e, hc⟩ := rnd_still L o h.rise hge
      rw [rnds_still e]
      exact .inl hc
theorem rnds_in {p : List ByteArray} {L : List (ByteArray × ByteArray)} (hL : ∀ x ∈ L, x.2 ∈ p) : ∀ (k : Nat) (o : List ByteArray), Wi p o → Wi p (rnds L k o)
  | 0, _, h => h
  | k + 1, _, h => rnds_in hL k _ (h.rnd hL)
theorem rnd_mono : ∀ (L : List (ByteArray × ByteArray)) (o : List ByteArray), ∀ x ∈ o, x ∈ rnd L o
  | [], _, x, h => h
  | y :: L, o, x, h => rnd_mono L (rnd1 o y) x (by
    unfold rnd1
    split
    · exact mem_insT.2 (.inr h)
    · exact h)
theorem rnds_mono (L : List (ByteArray × ByteArray)) : ∀ (k : Nat) (o : List ByteArray), ∀ x ∈ o, x ∈ rnds L k o
  | 0, _, x, h => h
  | k + 1, o, x, h => rnds_mono L k (rnd L o) x (rnd_mono L o x h)
theorem rnd_sound {p f : List ByteArray} {L0 : List (ByteArray × ByteArray)} : ∀ (L : List (ByteArray × ByteArray)), (∀ x ∈ L, x ∈ L0) → ∀ (o : List ByteArray), (∀ x ∈ o, Rch p f L0 x) → ∀ x ∈ rnd L o, Rch p f L0 x
  | [], _, o, h => h
  | y :: L, hs, o, h => rnd_sound L (fun x hx => hs x (List.mem_cons_of_mem _ hx)) (rnd1 o y) (by
    intro x hx
    unfold rnd1 at hx
    split at hx
    · rename_i hy
      rcases mem_insT.1 hx with rfl | hx
      · exact (h _ (hasB_iff.1 hy)).step (hs y List.mem_cons_self)
      · exact h x hx
    · exact h x hx)
theorem rnds_sound {p f : List ByteArray} {L : List (ByteArray × ByteArray)} : ∀ (k : Nat) (o : List ByteArray), (∀ x ∈ o, Rch p f L x) → ∀ x ∈ rnds L k o, Rch p f L x
  | 0, _, h => h
  | k + 1, o, h => rnds_sound k (rnd L o) (rnd_sound L (fun x h => h) o h)
theorem rnds_all {p f : List ByteArray} {L : List (ByteArray × ByteArray)} (hL : ∀ x ∈ L, x.2 ∈ p) : Ri (rnds L p.length (beg p f)) ∧ ∀ x, x ∈ rnds L p.length (beg p f) ↔ Rch p f L x := by
  have hb0 : Wi p (beg p f) := Wi.begs f [] (Wi.nil p)
  have hi := rnds_in hL p.length _ hb0
  refine ⟨hi.rise, fun x => ⟨rnds_sound p.length _ (fun x hx => ?_) x, fun h => Rch.least (fun o a b => rnds_mono L _ _ o ((mem_begs f []).2 (.inr ⟨a, b⟩))) (fun a ha b hb => ?_) h⟩⟩
  · rcases (mem_begs f []).1 hx with h | h
    · cases h
    · exact .base h.1 h.2
  · have hc : Closed L (rnds L p.length (beg p f)) := by
      rcases rnds_ends hL p.length _ hb0 with h | h
      · exact h
      · have hl := hi.len
        have h0 : beg p f = [] := List.eq_nil_of_length_eq_zero (by omega)
        have : ∀ M : List (ByteArray × ByteArray), rnd M [] = [] := fun M => by
          induction M with
          | nil => rfl
          | cons y M ih => exact ih
        rw [h0, rnds_still (this L)]
        intro y _ hy
        cases hy
    exact hc (a, b) hb ha
theorem rreach1_loop (p f : List ByteArray) (lt : List T) (hp : p.length ≤ 1000000) (hf : f.length ≤ 1000000) : ∀ (k j : Nat) (o : List ByteArray), j + k = f.length → Wi p o →
    Dz i_R17_Reach (some p_R17_Reach_c1) [A.t (T.node (tl p)), A.t (T.node lt), A.t (T.node (tl f)), A.t (T.node (tl o)), A.t (T.int j)] (2, [A.t (T.node (tl p)), A.t (T.node lt), A.t (T.node (tl ((f.drop j).foldl (beg1 p) o)))]) := by
  intro k
  induction k with
  | zero =>
    intro j o hj ho
    refine Does.now fun m => ?_
    rw [q_R17_Reach_c1, List.drop_of_length_le (by omega)]
    simp only [S0, S9, S1, S2, if_true, if_false, tl_len, List.foldl_nil]
    rw [if_neg (by omega)]
  | succ k ih =>
    intro j o hj ho
    have hlt : j < f.length := by omega
    have hw : IntKind.i64.wrap ((j : Int) + 1) = ((j + 1 : Nat) : Int) := i64succ (by omega)
    have hol := ho.len
    obtain ⟨n0, h0⟩ := (rhas_does p f[j] hp).both (ih (j + 1) (beg1 p o f[j]) (by omega) (ho.beg1 _))
    obtain ⟨n1, h1⟩ := rput17_does o f[j] (by omega) ho.rise
    refine Does.of (n0 + n1) fun m hm => ?_
    obtain ⟨q1, q2⟩ := h0 m (by omega)
    have q3 := h1 m (by omega)
    rw [q_R17_Reach_c1, List.drop_eq_getElem_cons hlt, List.foldl_cons]
    simp only [S0, S9, S1, S2, if_true, if_false, tl_len, tl_get hlt, txt_s, hw, q1, q3]
    rw [if_pos (by omega), if_pos (by omega)]
    have hib : (0 : Int) ≤ (j : Int) ∧ (j : Int) < ((f.length : Nat) : Int) := ⟨by omega, by omega⟩
    refine Eq.trans ?_ q2
    unfold beg1
    cases hh : hasB f[j] p
    · simp only [Bool.false_eq_true, if_false]
    · simp only [if_true, hib, and_self]
theorem rreach3_loop (p : List ByteArray) (lt : List T) (hp : p.length ≤ 1000000) (hl : lt.length ≤ 1000000) (hL : ∀ x ∈ lt.map ln, x.2 ∈ p) (x0 : List T) (i : Int) : ∀ (k j : Nat) (o : List ByteArray), j + k = lt.length → Wi p o →
    Dz i_R17_Reach (some p_R17_Reach_c3) [A.t (T.node x0), A.t (T.node lt), A.t (T.node (tl o)), A.t (T.int i), A.t (T.int j)] (6, [A.t (T.node x0), A.t (T.node lt), A.t (T.node (tl (rnd ((lt.drop j).map ln) o))), A.t (T.int i)]) := by
  intro k
  induction k with
  | zero =>
    intro j o hj ho
    refine Does.now fun m => ?_
    rw [q_R17_Reach_c3, List.drop_of_length_le (by omega)]
    simp only [S0, S9, S1, S2, if_true, if_false]
    rw [if_neg (by omega)]
    rfl
  | succ k ih =>
    intro j o hj ho
    have hlt : j < lt.length := by omega
    have hw : IntKind.i64.wrap ((j : Int) + 1) = ((j + 1 : Nat) : Int) := i64succ (by omega)
    have hol := ho.len
    obtain ⟨n0, h0⟩ := (rhas_does o (ln lt[j]).1 (by omega)).both (ih (j + 1) (rnd1 o (ln lt[j])) (by omega) (ho.rnd1 (hL _ (List.mem_map.2 ⟨_, List.getElem_mem hlt, rfl⟩))))
    obtain ⟨n1, h1⟩ := rput17_does o (ln lt[j]).2 (by omega) ho.rise
    refine Does.of (n0 + n1) fun m hm => ?_
    obtain ⟨q1, q2⟩ := h0 m (by omega)
    have q3 := h1 m (by omega)
    have e : rnd (ln lt[j] :: (lt.drop (j + 1)).map ln) o = rnd ((lt.drop (j + 1)).map ln) (rnd1 o (ln lt[j])) := rfl
    rw [q_R17_Reach_c3, List.drop_eq_getElem_cons hlt, List.map_cons, e]
    simp only [S0, S9, S1, S2, if_true, if_false, at_get hlt, ln0, ln1, hw, q1, q3]
    rw [if_pos (by omega), if_pos (by omega)]
    have hib : (0 : Int) ≤ (j : Int) ∧ (j : Int) < ((lt.length : Nat) : Int) := ⟨by omega, by omega⟩
    refine Eq.trans ?_ q2
    unfold rnd1
    cases hh : hasB (ln lt[j]).1 o
    · simp only [Bool.false_eq_true, if_false]
    · simp only [if_true, hib, and_self]
theorem rreach2_loop (p : List ByteArray) (lt : List T) (hp : p.length ≤ 1000000) (hl : lt.length ≤ 1000000) (hL : ∀ x ∈ lt.map ln, x.2 ∈ p) : ∀ (k j : Nat) (o : List ByteArray), j + k = p.length → Wi p o →
    Dz i_R17_Reach (some p_R17_Reach_c2) [A.t (T.node (tl p)), A.t (T.node lt), A.t (T.node (tl o)), A.t (T.int j)] (4, [A.t (T.node (tl (rnds (lt.map ln) k o)))]) := by
  intro k
  induction k with
  | zero =>
    intro j o hj ho
    refine Does.now fun m => ?_
    rw [q_R17_Reach_c2]
    simp only [S0, S9, S1, S2, if_true, if_false, tl_len]
    rw [if_neg (by omega)]
    rfl
  | succ k ih =>
    intro j o hj ho
    have hw : IntKind.i64.wrap ((j : Int) + 1) = ((j + 1 : Nat) : Int) := i64succ (by omega)
    have h3 := rreach3_loop p lt hp hl hL (tl p) (j : Nat) lt.length 0 o (by omega) ho
    rw [List.drop_zero] at h3
    obtain ⟨n0, h0⟩ := h3.both (ih (j + 1) (rnd (lt.map ln) o) (by omega) (ho.rnd hL))
    refine Does.of n0 fun m hm => ?_
    obtain ⟨q1, q2⟩ := h0 m hm
    have q1' : den Try.prog G0 ents m i_R17_Reach (some p_R17_Reach_c3) [A.t (T.node (tl p)), A.t (T.node lt), A.t (T.node (tl o)), A.t (T.int (j : Nat)), A.t (T.int 0)] = _ := q1
    rw [q_R17_Reach_c2]
    simp only [S0, S9, S1, S2, if_true, if_false, tl_len, hw, q1', show Nat.beq 6 6 = true from rfl]
    rw [if_pos (by omega)]
    exact q2
theorem rreach_does (p f : List ByteArray) (lt : List T) (hp : p.length ≤ 1000000) (hf : f.length ≤ 1000000) (hl : lt.length ≤ 1000000) (hL : ∀ x ∈ lt.map ln, x.2 ∈ p) :
    Dz i_R17_Reach none [A.t (T.node (tl p)), A.t (T.node lt), A.t (T.node (tl f))] (1, [A.t (T.node (tl (rnds (lt.map ln) p.length (beg p f))))]) := by
  have h1 := rreach1_loop p f lt hp hf f.length 0 [] (by omega) (Wi.nil p)
  have h2 := rreach2_loop p lt hp hl hL p.length 0 (beg p f) (by omega) (Wi.begs f [] (Wi.nil p))
  rw [List.drop_zero] at h1
  obtain ⟨n0, h0⟩ := h1.both h2
  refine Does.of n0 fun m hm => ?_
  have q1 : den Try.prog G0 ents m i_R17_Reach (some p_R17_Reach_c1) [A.t (T.node (tl p)), A.t (T.node lt), A.t (T.node (tl f)), A.t (T.node []), A.t (T.int 0)] = some (2, [A.t (T.node (tl p)), A.t (T.node lt), A.t (T.node (tl (beg p f)))]) := (h0 m hm).1
  have q2 : den Try.prog G0 ents m i_R17_Reach (some p_R17_Reach_c2) [A.t (T.node (tl p)), A.t (T.node lt), A.t (T.node (tl (beg p f))), A.t (T.int 0)] = _ := (h0 m hm).2
  rw [q_R17_Reach]
  simp only [S0, S9, S1, S2, if_true, if_false, q1, q2]
end Go.Proofs.YtbejhhoakeapgaaGR
namespace Go.Proofs.YtbejhhoakeapgaaGR
open Go Go.Proofs.YtbejhhoakeapgaaVM
set_option linter.unusedVariables false
set_option linter.unusedSimpArgs false
set_option maxRecDepth 100000

theorem law_does (x y z : T) (hx : x.kids = tl (x.kids.map T.txt)) (hz : z.kids = tl (z.kids.map T.txt)) : Dz i_L17_GraphReaches none [A.t x, A.t y, A.t z] (1, [A.t (T.bool true)]) := by
  obtain ⟨n0, h0⟩ := (few_does x.kids y.kids).both awakeG_does
  obtain ⟨n1, h1⟩ := few_does z.kids []
  cases hf : fewG x.kids y.kids with
  | false =>
    rw [hf] at h0
    refine Does.of n0 fun m hm => ?_
    obtain ⟨q1, q2⟩ := h0 m hm
    rw [q_L17_GraphReaches]
    simp only [S0, S9, S1, S2, if_true, if_false, q1, q2, Bool.not_false, Bool.false_eq_true, show (true = false) = False by simp]
  | true =>
    rw [hf] at h0
    cases hg : fewG z.kids [] with
    | false =>
      rw [hg] at h1
      refine Does.of (n0 + n1) fun m hm => ?_
      obtain ⟨q1, q2⟩ := h0 m (by omega)
      have q3 := h1 m (by omega)
      rw [q_L17_GraphReaches]
      simp only [S0, S9, S1, S2, if_true, if_false, q1, q2, q3, Bool.not_false, Bool.not_true, Bool.false_eq_true, show (true = false) = False by simp]
    | true =>
      rw [hg] at h1
      obtain ⟨b1, b2, b3, b4⟩ := few_ok hf
      obtain ⟨c1, _, _, _⟩ := few_ok hg
      generalize hl : x.kids.map T.txt = l at *
      have hll : l.length ≤ 30 := by rw [← hl, List.length_map]; exact b1
      generalize hff : z.kids.map T.txt = f at *
      have hfl : f.length ≤ 30 := by rw [← hff, List.length_map]; exact c1
      generalize hy : y.kids = lt at *
      have hpl := pts_len l (lt.map ln)
      rw [List.length_map] at hpl
      have htl : ∀ s, (toOf (lt.map ln) s).length ≤ 60 := fun s => by have := to_len (lt.map ln) s; rw [List.length_map] at this; omega
      have hL : ∀ x ∈ lt.map ln, x.2 ∈ ptsOf l (lt.map ln) := fun x hx => mem_pts.2 (.inr ⟨x, hx, .inr rfl⟩)
      obtain ⟨fs, g, d1⟩ := of_does l lt (by omega) (by omega) b3 b4
      obtain ⟨q, g1, g2, d2⟩ := reach_does g 60 htl (f := f) (L := lt.map ln) (fun a b => mem_to) hL (by omega)
      obtain ⟨r1, r2⟩ := rnds_all (f := f) hL
      have he : rnds (lt.map ln) (ptsOf l (lt.map ln)).length (beg (ptsOf l (lt.map ln)) f) = q := Ri.ext r1 g1 fun x => (r2 x).trans (g2 x).symm
      have d3 := rreach_does (ptsOf l (lt.map ln)) f lt (by omega) (by omega) (by omega) hL
      rw [he] at d3
      have hql : q.length ≤ (ptsOf l (lt.map ln)).length := ri_sub g1 fun x hx => ((g2 x).1 hx).inp hL
      obtain ⟨n2, h2⟩ := d1.both d2
      obtain ⟨n3, h3⟩ := d3.both (same_does q (by omega))
      obtain ⟨n4, h4⟩ := rpoints_does l lt (by omega) (by omega)
      refine Does.of (n0 + n1 + n2 + n3 + n4) fun m hm => ?_
      obtain ⟨q1, q2⟩ := h0 m (by omega)
      have q3 := h1 m (by omega)
      obtain ⟨q4, q5⟩ := h2 m (by omega)
      obtain ⟨q6, q7⟩ := h3 m (by omega)
      have q8 := h4 m (by omega)
      rw [q_L17_GraphReaches]
      rw [hx] at q1
      rw [hz] at q3
      simp only [S0, S9, S1, S2, if_true, if_false, hx, hy, hz, q1, q2, q3, q4, q5, q6, q7, q8, Bool.not_true, Bool.not_false, Bool.false_eq_true]
end Go.Proofs.YtbejhhoakeapgaaGR
