/- A law's proof, a part: what the code answers. -/
import Derived.Test.YtdofdhlpheaonaaDoorVmZu
import Derived.Test.YtdofdhlpheaonaaDoorVmC
import Derived.Test.YtdofdhlpheaonaaDoorVmZw
import Derived.Test.YtdofdhlpheaonaaDoorProg
import Derived.Lib.Join
namespace Go.Proofs.YtdofdhlpheaonaaDoorKT
open Go Go.Proofs.YtdofdhlpheaonaaDoorVM
def strsT (l : List (List UInt8)) : T := .node (l.map fun b => T.str ⟨b.toArray⟩)
def G0 : List (Nat × TypeId × T) := [(1, 176, .node (wordsL.map T.str)), (0, 170, strsT [[], [98,111,111,108], [105,110,116], [115,116,114,105,110,103], [], [97,110,121]]), (2, 194, strsT [[],[],[],[],[],[],[],[],[],[],[],[32,38,32],[32,124,32],[32,43,32],[32,45,32],[32,42,32]]), (3, 221, .node ([0,0,0,0,0,0,0,0,0,0,0,2,1,3,3,4].map fun (n : Int) => T.int n))]
def e0 : Entry := nameE 45 9 4
def e1 : Entry := joinE 41 69 9
def e2 : Entry := { fid := 3, ins := ⟨[(0, .v 24), (1, .v 3)], []⟩, outs := ⟨[(0, .v 4)], []⟩, cuts := [], lit := true }
def e3 : Entry := { fid := 8, ins := ⟨[(0, .v 26)], []⟩, outs := ⟨[(0, .v 4)], []⟩, cuts := [([false, true, false, true, true], ⟨⟨[(0, .v 26), (3, .v 3)], []⟩, [(2, ⟨[], []⟩), (1, ⟨[(2, .v 4)], []⟩)]⟩), ([false, true, true, false, false, true, false, false, true, false, true, true], ⟨⟨[(0, .v 26), (3, .v 3), (4, .v 3)], []⟩, [(4, ⟨[(0, .v 26), (3, .v 3)], []⟩), (1, ⟨[(2, .v 4)], []⟩)]⟩)], lit := true }
def e4 : Entry := { fid := 37, ins := ⟨[(0, .v 74)], []⟩, outs := ⟨[(0, .v 4)], []⟩, cuts := [], lit := true }
def e5 : Entry := { fid := 72, ins := ⟨[(0, .v 74), (1, .v 3), (2, .v 3)], []⟩, outs := ⟨[(0, .v 3)], []⟩, cuts := [([false, true, false, true, true, true], ⟨⟨[(1, .v 3), (2, .v 3), (3, .p 0 74), (7, .v 3)], [.var 74 (.v 74) false]⟩, [(2, ⟨[(1, .v 3), (2, .v 3), (3, .p 0 74)], [.var 74 (.v 74) false]⟩), (1, ⟨[(6, .v 3)], []⟩)]⟩), ([false, true, false, true, true, true, true], ⟨⟨[(1, .v 3), (2, .v 3), (3, .p 0 74), (8, .v 3)], [.var 74 (.v 74) false]⟩, [(4, ⟨[(1, .v 3), (2, .v 3), (3, .p 0 74)], [.var 74 (.v 74) false]⟩), (1, ⟨[(6, .v 3)], []⟩)]⟩), ([false, true, false, true, true, true, true, true], ⟨⟨[(1, .v 3), (2, .v 3), (3, .p 0 74), (9, .v 3)], [.var 74 (.v 74) false]⟩, [(6, ⟨[(2, .v 3)], []⟩)]⟩)], lit := true }
def e6 : Entry := { fid := 9, ins := ⟨[], []⟩, outs := ⟨[(0, .v 4)], []⟩, cuts := [], lit := true }
def e7 : Entry := { fid := 10, ins := ⟨[(0, .v 24), (1, .v 3)], []⟩, outs := ⟨[(0, .v 9), (1, .v 28)], []⟩, cuts := [([false, true, false, true, true, true], ⟨⟨[(6, .o 0), (21, .v 22), (22, .v 3), (23, .v 3)], [.row 9]⟩, [(2, ⟨[(6, .o 0)], [.row 9]⟩)]⟩)] }
def e8 : Entry := { fid := 38, ins := ⟨[(0, .v 24), (1, .v 3)], []⟩, outs := ⟨[(0, .v 4)], []⟩, cuts := [] }
def e9 : Entry := { fid := 73, ins := ⟨[(0, .v 22), (1, .clo 74 [])], []⟩, outs := ⟨[(0, .v 4)], []⟩, cuts := [] }
def e10 : Entry := { fid := 121, ins := ⟨[(0, .v 22), (1, .clo 74 [])], []⟩, outs := ⟨[(0, .v 3)], []⟩, cuts := [([false, true, false, true], ⟨⟨[(0, .v 22), (1, .clo 74 []), (7, .v 3), (8, .v 3)], []⟩, [(2, ⟨[], []⟩), (1, ⟨[(4, .v 3)], []⟩)]⟩)] }
def e11 : Entry := { fid := 74, ins := ⟨[(0, .v 74)], []⟩, outs := ⟨[(0, .v 4)], []⟩, cuts := [] }
def e12 : Entry := { fid := 75, ins := ⟨[(0, .v 74)], []⟩, outs := ⟨[(0, .v 28)], []⟩, cuts := [] }
def e13 : Entry := { fid := 122, ins := ⟨[(0, .v 74)], []⟩, outs := ⟨[(0, .v 4)], []⟩, cuts := [] }
def e14 : Entry := { fid := 153, ins := ⟨[(0, .v 74)], []⟩, outs := ⟨[(0, .v 4)], []⟩, cuts := [] }
def e15 : Entry := { fid := 193, ins := ⟨[(0, .v 74), (1, .v 4), (2, .v 4), (3, .v 4), (4, .v 4), (5, .v 4)], []⟩, outs := ⟨[(0, .v 4)], []⟩, cuts := [] }
def e16 : Entry := { fid := 194, ins := ⟨[(0, .v 3)], []⟩, outs := ⟨[(0, .v 4)], []⟩, cuts := [] }
def e17 : Entry := { fid := 156, ins := ⟨[(0, .v 69)], []⟩, outs := ⟨[(0, .v 4)], []⟩, cuts := [([false, true, false, true, true], ⟨⟨[(13, .v 69), (14, .v 3), (15, .v 3)], []⟩, [(2, ⟨[], []⟩), (1, ⟨[(2, .v 4)], []⟩)]⟩)] }
def e18 : Entry := { fid := 195, ins := ⟨[(0, .v 72)], []⟩, outs := ⟨[(0, .v 4)], []⟩, cuts := [([false, true, false, true], ⟨⟨[(0, .v 72), (5, .v 72), (6, .v 3), (7, .v 3)], []⟩, [(2, ⟨[], []⟩), (1, ⟨[(2, .v 4)], []⟩)]⟩)] }
def e19 : Entry := { fid := 154, ins := ⟨[(0, .v 74)], []⟩, outs := ⟨[(0, .v 22)], []⟩, cuts := [([false, true, false, true, true, true], ⟨⟨[(3, .o 0), (12, .v 72), (13, .v 3), (14, .v 3)], [.row 74]⟩, [(2, ⟨[(3, .o 0)], [.row 74]⟩)]⟩)] }
def e20 : Entry := { fid := 73, ins := ⟨[(0, .v 22), (1, .clo 155 [])], []⟩, outs := ⟨[(0, .v 4)], []⟩, cuts := [] }
def e21 : Entry := { fid := 121, ins := ⟨[(0, .v 22), (1, .clo 155 [])], []⟩, outs := ⟨[(0, .v 3)], []⟩, cuts := [([false, true, false, true], ⟨⟨[(0, .v 22), (1, .clo 155 []), (7, .v 3), (8, .v 3)], []⟩, [(2, ⟨[], []⟩), (1, ⟨[(4, .v 3)], []⟩)]⟩)] }
def e22 : Entry := { fid := 155, ins := ⟨[(0, .v 74)], []⟩, outs := ⟨[(0, .v 4)], []⟩, cuts := [] }
def e23 : Entry := { fid := 123, ins := ⟨[(0, .v 74)], []⟩, outs := ⟨[(0, .v 3)], []⟩, cuts := [([false, true, false, true, true], ⟨⟨[(3, .v 3), (7, .v 22), (8, .v 3), (9, .v 3)], []⟩, [(2, ⟨[(3, .v 3)], []⟩)]⟩)] }
def e24 : Entry := { fid := 39, ins := ⟨[(0, .v 3)], []⟩, outs := ⟨[(0, .v 9)], []⟩, cuts := [([false, true, false, true, true, true, true, true], ⟨⟨[(0, .v 3), (3, .v 59), (4, .p 0 123), (5, .v 3), (12, .v 3)], [.var 123 (.v 123) false]⟩, [(2, ⟨[(0, .v 3), (4, .p 0 123), (5, .v 3)], [.var 123 (.v 123) false]⟩)]⟩)] }
def e25 : Entry := { fid := 40, ins := ⟨[(0, .v 74)], []⟩, outs := ⟨[(0, .v 9), (1, .v 28)], []⟩, cuts := [] }
def e26 : Entry := { fid := 76, ins := ⟨[(0, .v 74)], []⟩, outs := ⟨[(0, .v 9)], []⟩, cuts := [] }
def e27 : Entry := { fid := 124, ins := ⟨[(0, .v 9)], []⟩, outs := ⟨[(0, .v 9)], []⟩, cuts := [([false, true, false, true, true], ⟨⟨[(0, .v 9), (3, .o 0), (8, .v 3), (9, .v 3)], [.row 5]⟩, [(2, ⟨[(3, .o 0)], [.row 5]⟩)]⟩)] }
def e28 : Entry := { fid := 126, ins := ⟨[(0, .v 69)], []⟩, outs := ⟨[(0, .v 9), (1, .v 4)], []⟩, cuts := [] }
def e29 : Entry := { fid := 127, ins := ⟨[(0, .v 74)], []⟩, outs := ⟨[(0, .v 9)], []⟩, cuts := [([false, true, false, true, true], ⟨⟨[(1, .p 0 74), (3, .o 1), (7, .v 72), (8, .v 3), (9, .v 3)], [.var 74 (.v 74) false, .row 9]⟩, [(2, ⟨[(1, .p 0 74), (3, .o 1)], [.var 74 (.v 74) false, .row 9]⟩)]⟩)] }
def e30 : Entry := { fid := 128, ins := ⟨[(0, .v 74)], []⟩, outs := ⟨[(0, .v 9)], []⟩, cuts := [([false, true, false, true, true], ⟨⟨[(1, .p 0 74), (3, .o 1), (8, .v 22), (9, .v 3), (10, .v 3)], [.var 74 (.v 74) false, .row 9]⟩, [(2, ⟨[(1, .p 0 74), (3, .o 1)], [.var 74 (.v 74) false, .row 9]⟩)]⟩)] }
def e31 : Entry := { fid := 157, ins := ⟨[(0, .v 74)], []⟩, outs := ⟨[(0, .v 3)], []⟩, cuts := [] }
def e32 : Entry := { fid := 158, ins := ⟨[(0, .v 74), (1, .v 3)], []⟩, outs := ⟨[(0, .v 9)], []⟩, cuts := [] }
def e33 : Entry := { fid := 11, ins := ⟨[(0, .v 24), (1, .v 3)], []⟩, outs := ⟨[(0, .v 9), (1, .v 3)], []⟩, cuts := [([false, true, false, true, true, true], ⟨⟨[(2, .p 0 24), (6, .v 9), (7, .v 3)], [.var 24 (.v 24) false]⟩, [(2, ⟨[(6, .v 9)], []⟩)]⟩)], lit := true }
def e34 : Entry := { fid := 42, ins := ⟨[(0, .v 24), (1, .v 3)], []⟩, outs := ⟨[(0, .v 4)], []⟩, cuts := [([false, true, false, true], ⟨⟨[(1, .v 3), (2, .p 0 24), (5, .v 3)], [.var 24 (.v 24) false]⟩, [(2, ⟨[(1, .v 3), (2, .p 0 24)], [.var 24 (.v 24) false]⟩), (1, ⟨[(4, .v 4)], []⟩)]⟩)], lit := true }
def e35 : Entry := { fid := 80, ins := ⟨[(0, .v 74)], []⟩, outs := ⟨[(0, .v 3)], []⟩, cuts := [], lit := true }
def e36 : Entry := { fid := 131, ins := ⟨[(0, .v 74)], []⟩, outs := ⟨[(0, .v 4)], []⟩, cuts := [], lit := true }
def e37 : Entry := { fid := 161, ins := ⟨[(0, .v 74), (1, .v 3)], []⟩, outs := ⟨[(0, .v 4)], []⟩, cuts := [], lit := true }
def e38 : Entry := { fid := 162, ins := ⟨[(0, .v 3)], []⟩, outs := ⟨[(0, .v 4)], []⟩, cuts := [], lit := true }
def e39 : Entry := { fid := 134, ins := ⟨[(0, .v 69)], []⟩, outs := ⟨[(0, .v 4)], []⟩, cuts := [([false, true, false, true], ⟨⟨[(0, .v 69), (3, .v 3)], []⟩, [(2, ⟨[(0, .v 69)], []⟩), (1, ⟨[(2, .v 4)], []⟩)]⟩)], lit := true }
def e40 : Entry := { fid := 81, ins := ⟨[(0, .v 9)], []⟩, outs := ⟨[(0, .v 4)], []⟩, cuts := [([false, true, false, true, true], ⟨⟨[(0, .v 9), (3, .v 3)], []⟩, [(2, ⟨[], []⟩), (1, ⟨[(2, .v 4)], []⟩)]⟩)], lit := true }
def e41 : Entry := { fid := 133, ins := ⟨[(0, .v 9)], []⟩, outs := ⟨[(0, .v 3)], []⟩, cuts := [], lit := true }
def e42 : Entry := { fid := 163, ins := ⟨[(0, .v 72)], []⟩, outs := ⟨[(0, .v 4)], []⟩, cuts := [([false, true, false, true, true], ⟨⟨[(0, .v 72), (3, .o 0), (4, .v 3)], [.row 9]⟩, [(2, ⟨[(0, .v 72), (3, .o 0)], [.row 9]⟩), (1, ⟨[(2, .v 4)], []⟩)]⟩)], lit := true }
def e43 : Entry := { fid := 164, ins := ⟨[(0, .v 22), (1, .v 3), (2, .v 3)], []⟩, outs := ⟨[(0, .v 4)], []⟩, cuts := [([false, true, false, true], ⟨⟨[(0, .v 22), (1, .v 3), (2, .v 3), (7, .v 3)], []⟩, [(2, ⟨[(0, .v 22), (1, .v 3), (2, .v 3)], []⟩), (1, ⟨[(6, .v 4)], []⟩)]⟩)], lit := true }
def e44 : Entry := { fid := 132, ins := ⟨[(0, .v 74)], []⟩, outs := ⟨[(0, .v 3)], []⟩, cuts := [([false, true, false, true, true, true], ⟨⟨[(3, .v 3), (4, .v 22), (5, .v 3)], []⟩, [(2, ⟨[(3, .v 3)], []⟩)]⟩)], lit := true }
def e45 : Entry := { fid := 165, ins := ⟨[(0, .v 74)], []⟩, outs := ⟨[(0, .v 22)], []⟩, cuts := [([false, true, false, true, true, true], ⟨⟨[(1, .p 0 74), (3, .o 1), (4, .v 3)], [.var 74 (.v 74) false, .row 74]⟩, [(2, ⟨[(3, .o 0)], [.row 74]⟩)]⟩)], lit := true }
def e46 : Entry := { fid := 43, ins := ⟨[(0, .v 3)], []⟩, outs := ⟨[(0, .v 9)], []⟩, cuts := [], lit := true }
def e47 : Entry := { fid := 44, ins := ⟨[(0, .v 74)], []⟩, outs := ⟨[(0, .v 9)], []⟩, cuts := [([false, true, false, false, true, false, true, true, true], ⟨⟨[(1, .p 0 74), (3, .v 9), (4, .v 3)], [.var 74 (.v 74) false]⟩, [(3, ⟨[(1, .p 0 74), (3, .v 9)], [.var 74 (.v 74) false]⟩)]⟩), ([false, true, false, true, true, true, true], ⟨⟨[(1, .p 0 74), (3, .v 9), (5, .v 3)], [.var 74 (.v 74) false]⟩, [(5, ⟨[(3, .v 9)], []⟩)]⟩)], lit := true }
def e48 : Entry := { fid := 82, ins := ⟨[(0, .v 9)], []⟩, outs := ⟨[(0, .v 9)], []⟩, cuts := [([false, true, false, true, true, true], ⟨⟨[(0, .v 9), (3, .v 9), (4, .v 9), (5, .v 3)], []⟩, [(2, ⟨[(4, .v 9)], []⟩)]⟩)], lit := true }
def e49 : Entry := { fid := 83, ins := ⟨[(0, .v 3)], []⟩, outs := ⟨[(0, .v 9)], []⟩, cuts := [], lit := true }
def e50 : Entry := { fid := 84, ins := ⟨[(0, .v 69)], []⟩, outs := ⟨[(0, .v 9)], []⟩, cuts := [([false, true, false, true, true, true], ⟨⟨[(0, .v 69), (3, .v 9), (4, .v 3)], []⟩, [(2, ⟨[(3, .v 9)], []⟩)]⟩)], lit := true }
def e51 : Entry := { fid := 85, ins := ⟨[(0, .v 3)], []⟩, outs := ⟨[(0, .v 9)], []⟩, cuts := [], lit := true }
def e52 : Entry := { fid := 86, ins := ⟨[(0, .v 3), (1, .v 3), (2, .v 3)], []⟩, outs := ⟨[(0, .v 4)], []⟩, cuts := [], lit := true }
def e53 : Entry := joinOE 41 9
def e54 : Entry := { fid := 125, ins := ⟨[(0, .o 0)], [.row 9]⟩, outs := ⟨[(0, .v 9)], [.row 9]⟩, cuts := [] }
def e55 : Entry := { fid := 145, ins := ⟨[(0, .o 0)], [.row 9]⟩, outs := ⟨[(0, .v 4)], [.row 9]⟩, cuts := [([false, true, false, true], ⟨⟨[(0, .o 0), (3, .v 3)], [.row 9]⟩, [(2, ⟨[], [.row 9]⟩), (1, ⟨[(2, .v 4)], [.row 9]⟩)]⟩)], lit := true }
def ents : List Entry := [e0, e1, e2, e3, e4, e5, e6, e7, e8, e9, e10, e11, e12, e13, e14, e15, e16, e17, e18, e19, e20, e21, e22, e23, e24, e25, e26, e27, e28, e29, e30, e31, e32, e33, e34, e35, e36, e37, e38, e39, e40, e41, e42, e43, e44, e45, e46, e47, e48, e49, e50, e51, e52, e53, e54, e55]
def i_name_Right : Nat := 0
def i_strings_Join : Nat := 1
def i_L22_KeyTexts : Nat := 2
def i_L16_Few : Nat := 3
def i_L13_Few : Nat := 4
def i_L13_left : Nat := 5
def i_L22_awake : Nat := 6
def i_key_Of : Nat := 7
def i_key_may : Nat := 8
def i_slices_ContainsFunc_Expr_may1 : Nat := 9
def i_slices_IndexFunc_Expr_may1 : Nat := 10
def i_key_may_1 : Nat := 11
def i_expr_Check : Nat := 12
def i_expr_Right : Nat := 13
def i_expr_shaped : Nat := 14
def i_expr_bare : Nat := 15
def i_num_In : Nat := 16
def i_name_Path : Nat := 17
def i_expr_rising : Nat := 18
def i_expr_parts : Nat := 19
def i_slices_ContainsFunc_Expr_Right1 : Nat := 20
def i_slices_IndexFunc_Expr_Right1 : Nat := 21
def i_expr_Right_1 : Nat := 22
def i_expr_Depth : Nat := 23
def i_num_Text : Nat := 24
def i_show_Expr : Nat := 25
def i_show_text : Nat := 26
def i_token_Quote : Nat := 27
def i_name_Text : Nat := 28
def i_show_fields : Nat := 29
def i_show_kids : Nat := 30
def i_show_level : Nat := 31
def i_show_in : Nat := 32
def i_R22_Of : Nat := 33
def i_R22_May : Nat := 34
def i_R13_Check : Nat := 35
def i_R13_Right : Nat := 36
def i_R13_empty : Nat := 37
def i_R01_In : Nat := 38
def i_R02_Path : Nat := 39
def i_R02_Right : Nat := 40
def i_R02_Word : Nat := 41
def i_R13_pairs : Nat := 42
def i_R13_kids : Nat := 43
def i_R13_Depth : Nat := 44
def i_R13_Parts : Nat := 45
def i_R01_Text : Nat := 46
def i_R15_Of : Nat := 47
def i_R12_Quote : Nat := 48
def i_R15_kind : Nat := 49
def i_R02_Text : Nat := 50
def i_R15_sign : Nat := 51
def i_R15_bracketed : Nat := 52
def i_strings_Join_o : Nat := 53
def i_show_glue_o : Nat := 54
def i_R02_Rising_o : Nat := 55
def p_L16_Few_c1 : List Bool := [false, true, false, true, true]
def p_L16_Few_c2 : List Bool := [false, true, true, false, false, true, false, false, true, false, true, true]
def p_L13_left_c1 : List Bool := [false, true, false, true, true, true]
def p_L13_left_c2 : List Bool := [false, true, false, true, true, true, true]
def p_L13_left_c3 : List Bool := [false, true, false, true, true, true, true, true]
def p_key_Of_c1 : List Bool := [false, true, false, true, true, true]
def p_slices_IndexFunc_Expr_may1_c1 : List Bool := [false, true, false, true]
def p_name_Path_c1 : List Bool := [false, true, false, true, true]
def p_expr_rising_c1 : List Bool := [false, true, false, true]
def p_expr_parts_c1 : List Bool := [false, true, false, true, true, true]
def p_slices_IndexFunc_Expr_Right1_c1 : List Bool := [false, true, false, true]
def p_expr_Depth_c1 : List Bool := [false, true, false, true, true]
def p_num_Text_c1 : List Bool := [false, true, false, true, true, true, true, true]
def p_token_Quote_c1 : List Bool := [false, true, false, true, true]
def p_show_fields_c1 : List Bool := [false, true, false, true, true]
def p_show_kids_c1 : List Bool := [false, true, false, true, true]
def p_R22_Of_c1 : List Bool := [false, true, false, true, true, true]
def p_R22_May_c1 : List Bool := [false, true, false, true]
def p_R02_Path_c1 : List Bool := [false, true, false, true]
def p_R02_Right_c1 : List Bool := [false, true, false, true, true]
def p_R13_pairs_c1 : List Bool := [false, true, false, true, true]
def p_R13_kids_c1 : List Bool := [false, true, false, true]
def p_R13_Depth_c1 : List Bool := [false, true, false, true, true, true]
def p_R13_Parts_c1 : List Bool := [false, true, false, true, true, true]
def p_R15_Of_c1 : List Bool := [false, true, false, false, true, false, true, true, true]
def p_R15_Of_c2 : List Bool := [false, true, false, true, true, true, true]
def p_R12_Quote_c1 : List Bool := [false, true, false, true, true, true]
def p_R02_Text_c1 : List Bool := [false, true, false, true, true, true]
def p_R02_Rising_o_c1 : List Bool := [false, true, false, true]
noncomputable def D (n i : Nat) (p : Option (List Bool)) (xs : List A) : Option (Nat × List A) := den Tryd.prog G0 ents n i p xs
noncomputable def cl (n i : Nat) (xs : List A) (k : List A → Option (Nat × List A)) : Option (Nat × List A) := Option.bind (Option.map (fun v => v.2) (den Tryd.prog G0 ents n i none xs)) k
noncomputable def lp (n i : Nat) (p : List Bool) (xs : List A) (k : Nat × List A → Option (Nat × List A)) : Option (Nat × List A) := Option.bind (den Tryd.prog G0 ents n i (some p) xs) k
end Go.Proofs.YtdofdhlpheaonaaDoorKT
set_option linter.unusedVariables false
set_option maxRecDepth 100000
namespace Go.Proofs.YtdofdhlpheaonaaDoorKT
open Go Go.Proofs.YtdofdhlpheaonaaDoorVM Go.Proofs
theorem q_L22_KeyTexts (n : Nat) (x0 x1 : T) : den Tryd.prog G0 ents (Nat.succ n) i_L22_KeyTexts none [A.t x0, A.t x1] =
  cl n i_L16_Few [aL [x0]] fun v0 => bif !(r v0 0).b then cl n i_L22_awake [] fun v1 => rt [aB (r v1 0).b] else cl n i_key_Of [A.t x0,aI x1.n] fun v1 => cl n i_R22_Of [A.t x0,aI x1.n] fun v2 => cl n i_L22_awake [] fun v3 => bif (r v3 0).b == true then bif seqB (r v1 0).s (r v2 0).s == true then rt [aB ((r v1 1).n == (r v2 1).n)] else rt [aB false] else rt [aB false] := by kernel_rfl
theorem q_L16_Few (n : Nat) (x0 : T) : den Tryd.prog G0 ents (Nat.succ n) i_L16_Few none [A.t x0] =
  bif gt x0.l 40 then rt [aB false] else lp n i_L16_Few p_L16_Few_c1 [aL x0.k,aI 0] fun v0 => bif Nat.beq v0.1 2 then rt [aB true] else bif Nat.beq v0.1 1 then rt [aB (r v0.2 0).b] else none := by kernel_rfl
theorem q_L16_Few_c1 (n : Nat) (x0 x1 : T) : den Tryd.prog G0 ents (Nat.succ n) i_L16_Few (some p_L16_Few_c1) [A.t x0, A.t x1] =
  bif lt x1.n x0.l then bif ib x1.n x0.l then bif gt ((x0.a x1.n).g 0).z 100 == false then bif ib x1.n x0.l then bif gt ((x0.a x1.n).g 2).l 10 then rt [aB false] else lp n i_L16_Few p_L16_Few_c2 [aL x0.k,aI x1.n,aI 0] fun v0 => bif Nat.beq v0.1 4 then D n i_L16_Few (some p_L16_Few_c1) [aL (r v0.2 0).k,aI (w6 ((r v0.2 1).n + 1))] else bif Nat.beq v0.1 1 then rt [aB (r v0.2 0).b] else none else none else rt [aB false] else none else some (2,[]) := by kernel_rfl
theorem q_L16_Few_c2 (n : Nat) (x0 x1 x2 : T) : den Tryd.prog G0 ents (Nat.succ n) i_L16_Few (some p_L16_Few_c2) [A.t x0, A.t x1, A.t x2] =
  bif ib x1.n x0.l then bif lt x2.n ((x0.a x1.n).g 2).l then bif ib x1.n x0.l then bif ib x2.n ((x0.a x1.n).g 2).l then cl n i_L13_Few [A.t (((x0.a x1.n).g 2).a x2.n)] fun v0 => bif !(r v0 0).b then rt [aB false] else D n i_L16_Few (some p_L16_Few_c2) [aL x0.k,aI x1.n,aI (w6 (x2.n + 1))] else none else none else some (4,[aL x0.k,aI x1.n]) else none := by kernel_rfl
theorem q_L13_Few (n : Nat) (x0 : T) : den Tryd.prog G0 ents (Nat.succ n) i_L13_Few none [A.t x0] =
  cl n i_L13_left [A.t x0,aI 24,aI 200] fun v0 => rt [aB (ge (r v0 0).n 0)] := by kernel_rfl
theorem q_L13_left (n : Nat) (x0 x1 x2 : T) : den Tryd.prog G0 ents (Nat.succ n) i_L13_left none [A.t x0, A.t x1, A.t x2] =
  bif (x1.n == 0) == false then bif le x2.n 0 == false then bif gt (x0.g 2).z 400 == false then bif gt (x0.g 3).l 40 == false then bif gt (x0.g 4).l 200 == false then bif gt (x0.g 6).l 200 then rt [aI (-1)] else lp n i_L13_left p_L13_left_c1 [aI x1.n,aI (w6 (x2.n - 1)),aI 0,A.t x0] fun v0 => bif Nat.beq v0.1 2 then lp n i_L13_left p_L13_left_c2 [aI (r v0.2 0).n,aI (r v0.2 1).n,aI 0,A.t (r v0.2 2)] fun v1 => bif Nat.beq v1.1 4 then lp n i_L13_left p_L13_left_c3 [aI (r v1.2 0).n,aI (r v1.2 1).n,aI 0,A.t (r v1.2 2)] fun v2 => bif Nat.beq v2.1 6 then rt [aI (r v2.2 0).n] else none else bif Nat.beq v1.1 1 then rt [aI (r v1.2 0).n] else none else bif Nat.beq v0.1 1 then rt [aI (r v0.2 0).n] else none else rt [aI (-1)] else rt [aI (-1)] else rt [aI (-1)] else rt [aI (-1)] else rt [aI (-1)] := by kernel_rfl
theorem q_L13_left_c1 (n : Nat) (x0 x1 x2 x3 : T) : den Tryd.prog G0 ents (Nat.succ n) i_L13_left (some p_L13_left_c1) [A.t x0, A.t x1, A.t x2, A.t x3] =
  bif lt x2.n (x3.g 3).l then bif ib x2.n (x3.g 3).l then bif gt ((x3.g 3).a x2.n).z 400 then rt [aI (-1)] else D n i_L13_left (some p_L13_left_c1) [aI x0.n,aI x1.n,aI (w6 (x2.n + 1)),A.t x3] else none else some (2,[aI x0.n,aI x1.n,A.t x3]) := by kernel_rfl
theorem q_L13_left_c2 (n : Nat) (x0 x1 x2 x3 : T) : den Tryd.prog G0 ents (Nat.succ n) i_L13_left (some p_L13_left_c2) [A.t x0, A.t x1, A.t x2, A.t x3] =
  bif lt x2.n (x3.g 4).l == true then bif ge x1.n 0 then bif ib x2.n (x3.g 4).l then bif gt (((x3.g 4).a x2.n).g 0).z 400 then rt [aI (-1)] else bif ib x2.n (x3.g 4).l then cl n i_L13_left [A.t (((x3.g 4).a x2.n).g 1),aI (w6 (x0.n - 1)),aI x1.n] fun v0 => D n i_L13_left (some p_L13_left_c2) [aI x0.n,aI (r v0 0).n,aI (w6 (x2.n + 1)),A.t x3] else none else none else some (4,[aI x0.n,aI x1.n,A.t x3]) else some (4,[aI x0.n,aI x1.n,A.t x3]) := by kernel_rfl
theorem q_L13_left_c3 (n : Nat) (x0 x1 x2 x3 : T) : den Tryd.prog G0 ents (Nat.succ n) i_L13_left (some p_L13_left_c3) [A.t x0, A.t x1, A.t x2, A.t x3] =
  bif lt x2.n (x3.g 6).l == true then bif ge x1.n 0 then bif ib x2.n (x3.g 6).l then cl n i_L13_left [A.t ((x3.g 6).a x2.n),aI (w6 (x0.n - 1)),aI x1.n] fun v0 => D n i_L13_left (some p_L13_left_c3) [aI x0.n,aI (r v0 0).n,aI (w6 (x2.n + 1)),A.t x3] else none else some (6,[aI x1.n]) else some (6,[aI x1.n]) := by kernel_rfl
theorem q_key_Of (n : Nat) (x0 x1 : T) : den Tryd.prog G0 ents (Nat.succ n) i_key_Of none [A.t x0, A.t x1] =
  cl n i_key_may [A.t x0,aI x1.n] fun v0 => bif !(r v0 0).b then rt [aS (bs []),aI 1] else cl n i_num_Text [aI x1.n] fun v1 => lp n i_key_Of p_key_Of_c1 [aL (x0.g 2).k,aI (x0.g 2).l,aI 0,aL [T.str (x0.g 0).s,T.str (r v1 0).s]] fun v2 => bif Nat.beq v2.1 2 then cl n i_strings_Join_o [aS (bs [10]),aL (r v2.2 0).k] fun v3 => bif decide (Nat.succ (ByteArray.size (r v3 0).s) < 9223372036854775808) then rt [aS ((r v3 0).s ++ bs [10]),aI 0] else none else none := by kernel_rfl
theorem q_key_Of_c1 (n : Nat) (x0 x1 x2 x3 : T) : den Tryd.prog G0 ents (Nat.succ n) i_key_Of (some p_key_Of_c1) [A.t x0, A.t x1, A.t x2, A.t x3] =
  bif lt x2.n x1.n then bif ib x2.n x0.l then cl n i_show_Expr [A.t (x0.a x2.n)] fun v0 => bif decide (Nat.succ (List.length x3.k) < 1073741824) then D n i_key_Of (some p_key_Of_c1) [aL x0.k,aI x1.n,aI (w6 (x2.n + 1)),aL (x3.k ++ [T.str (r v0 0).s])] else none else none else some (2,[aL x3.k]) := by kernel_rfl
theorem q_key_may (n : Nat) (x0 x1 : T) : den Tryd.prog G0 ents (Nat.succ n) i_key_may none [A.t x0, A.t x1] =
  cl n i_slices_ContainsFunc_Expr_may1 [aL (x0.g 2).k] fun v0 => cl n i_name_Right [aS (x0.g 0).s] fun v1 => bif (r v1 0).b == true then bif gt (x0.g 2).l 0 == true then bif (!(r v0 0).b) == true then bif ge x1.n 1 == true then rt [aB (le x1.n 1048576)] else rt [aB false] else rt [aB false] else rt [aB false] else rt [aB false] := by kernel_rfl
theorem q_slices_ContainsFunc_Expr_may1 (n : Nat) (x0 : T) : den Tryd.prog G0 ents (Nat.succ n) i_slices_ContainsFunc_Expr_may1 none [A.t x0] =
  cl n i_slices_IndexFunc_Expr_may1 [aL x0.k] fun v0 => rt [aB (ge (r v0 0).n 0)] := by kernel_rfl
theorem q_slices_IndexFunc_Expr_may1 (n : Nat) (x0 : T) : den Tryd.prog G0 ents (Nat.succ n) i_slices_IndexFunc_Expr_may1 none [A.t x0] =
  lp n i_slices_IndexFunc_Expr_may1 p_slices_IndexFunc_Expr_may1_c1 [aL x0.k,aI x0.l,aI 0] fun v0 => bif Nat.beq v0.1 2 then rt [aI (-1)] else bif Nat.beq v0.1 1 then rt [aI (r v0.2 0).n] else none := by kernel_rfl
theorem q_slices_IndexFunc_Expr_may1_c1 (n : Nat) (x0 x1 x2 : T) : den Tryd.prog G0 ents (Nat.succ n) i_slices_IndexFunc_Expr_may1 (some p_slices_IndexFunc_Expr_may1_c1) [A.t x0, A.t x1, A.t x2] =
  bif lt x2.n x1.n then bif ib x2.n x0.l then cl n i_key_may_1 [A.t (x0.a x2.n)] fun v0 => bif (r v0 0).b then rt [aI x2.n] else D n i_slices_IndexFunc_Expr_may1 (some p_slices_IndexFunc_Expr_may1_c1) [aL x0.k,aI x1.n,aI (w6 (x2.n + 1))] else none else some (2,[]) := by kernel_rfl
theorem q_key_may_1 (n : Nat) (x0 : T) : den Tryd.prog G0 ents (Nat.succ n) i_key_may_1 none [A.t x0] =
  cl n i_expr_Check [A.t x0] fun v0 => rt [aB ((r v0 0).n != 0)] := by kernel_rfl
theorem q_expr_Check (n : Nat) (x0 : T) : den Tryd.prog G0 ents (Nat.succ n) i_expr_Check none [A.t x0] =
  cl n i_expr_Right [A.t x0] fun v0 => bif !(r v0 0).b then rt [aI 1] else cl n i_expr_Depth [A.t x0] fun v1 => bif gt (r v1 0).n 16 then rt [aI 22] else rt [aI 0] := by kernel_rfl
theorem q_expr_Right (n : Nat) (x0 : T) : den Tryd.prog G0 ents (Nat.succ n) i_expr_Right none [A.t x0] =
  cl n i_expr_shaped [A.t x0] fun v0 => bif (r v0 0).b == true then cl n i_expr_parts [A.t x0] fun v1 => cl n i_slices_ContainsFunc_Expr_Right1 [aL (r v1 0).k] fun v2 => rt [aB (!(r v2 0).b)] else rt [aB false] := by kernel_rfl
theorem q_expr_shaped (n : Nat) (x0 : T) : den Tryd.prog G0 ents (Nat.succ n) i_expr_shaped none [A.t x0] =
  bif (x0.g 0).n == 1 then cl n i_expr_bare [A.t x0,aB true,aB false,aB false,aB false,aB false] fun v0 => bif (r v0 0).b == true then cl n i_num_In [aI (x0.g 1).n] fun v1 => rt [aB (r v1 0).b] else rt [aB false] else bif (x0.g 0).n == 7 then cl n i_expr_bare [A.t x0,aB true,aB false,aB false,aB false,aB false] fun v0 => bif (r v0 0).b == true then cl n i_num_In [aI (x0.g 1).n] fun v1 => rt [aB (r v1 0).b] else rt [aB false] else bif (x0.g 0).n == 8 then cl n i_expr_bare [A.t x0,aB true,aB false,aB false,aB false,aB false] fun v0 => bif (r v0 0).b == true then cl n i_num_In [aI (x0.g 1).n] fun v1 => rt [aB (r v1 0).b] else rt [aB false] else bif (x0.g 0).n == 2 then cl n i_expr_bare [A.t x0,aB false,aB true,aB false,aB false,aB false] fun v0 => bif (r v0 0).b == true then rt [aB (le (x0.g 2).z 256)] else rt [aB false] else bif (x0.g 0).n == 3 then cl n i_expr_bare [A.t x0,aB true,aB false,aB false,aB false,aB false] fun v0 => bif (r v0 0).b == true then bif ((x0.g 1).n == 0) == false then rt [aB ((x0.g 1).n == 1)] else rt [aB true] else rt [aB false] else bif (x0.g 0).n == 4 then bif ((x0.g 1).n == 1) == false then bif ((x0.g 1).n == 2) == false then bif ((x0.g 1).n == 3) == false then cl n i_expr_bare [A.t x0,aB true,aB false,aB false,aB false,aB false] fun v0 => bif (r v0 0).b == true then rt [aB ((x0.g 1).n == 5)] else rt [aB false] else cl n i_expr_bare [A.t x0,aB true,aB false,aB false,aB false,aB false] fun v0 => bif (r v0 0).b == true then rt [aB true] else rt [aB false] else cl n i_expr_bare [A.t x0,aB true,aB false,aB false,aB false,aB false] fun v0 => bif (r v0 0).b == true then rt [aB true] else rt [aB false] else cl n i_expr_bare [A.t x0,aB true,aB false,aB false,aB false,aB false] fun v0 => bif (r v0 0).b == true then rt [aB true] else rt [aB false] else bif (x0.g 0).n == 5 then cl n i_expr_bare [A.t x0,aB false,aB false,aB false,aB false,aB false] fun v0 => rt [aB (r v0 0).b] else bif (x0.g 0).n == 6 then cl n i_expr_bare [A.t x0,aB false,aB false,aB false,aB false,aB false] fun v0 => rt [aB (r v0 0).b] else bif (x0.g 0).n == 9 then cl n i_expr_bare [A.t x0,aB false,aB false,aB true,aB false,aB false] fun v0 => bif (r v0 0).b == true then cl n i_name_Path [aL (x0.g 3).k] fun v1 => rt [aB (r v1 0).b] else rt [aB false] else bif (x0.g 0).n == 10 then cl n i_expr_bare [A.t x0,aB false,aB false,aB false,aB true,aB false] fun v0 => bif (r v0 0).b == true then bif le (x0.g 4).l 32 == true then cl n i_expr_rising [aL (x0.g 4).k] fun v1 => rt [aB (r v1 0).b] else rt [aB false] else rt [aB false] else bif (x0.g 0).n == 11 then cl n i_expr_bare [A.t x0,aB false,aB false,aB false,aB false,aB true] fun v0 => bif (r v0 0).b == true then bif ge (x0.g 6).l 2 == true then rt [aB (le (x0.g 6).l 32)] else rt [aB false] else rt [aB false] else bif (x0.g 0).n == 12 then cl n i_expr_bare [A.t x0,aB false,aB false,aB false,aB false,aB true] fun v0 => bif (r v0 0).b == true then bif ge (x0.g 6).l 2 == true then rt [aB (le (x0.g 6).l 32)] else rt [aB false] else rt [aB false] else bif (x0.g 0).n == 13 then cl n i_expr_bare [A.t x0,aB false,aB false,aB false,aB false,aB true] fun v0 => bif (r v0 0).b == true then rt [aB ((x0.g 6).l == 2)] else rt [aB false] else bif (x0.g 0).n == 14 then cl n i_expr_bare [A.t x0,aB false,aB false,aB false,aB false,aB true] fun v0 => bif (r v0 0).b == true then rt [aB ((x0.g 6).l == 2)] else rt [aB false] else bif (x0.g 0).n == 15 then cl n i_expr_bare [A.t x0,aB false,aB false,aB false,aB false,aB true] fun v0 => bif (r v0 0).b == true then rt [aB ((x0.g 6).l == 2)] else rt [aB false] else rt [aB false] := by kernel_rfl
theorem q_expr_bare (n : Nat) (x0 x1 x2 x3 x4 x5 : T) : den Tryd.prog G0 ents (Nat.succ n) i_expr_bare none [A.t x0, A.t x1, A.t x2, A.t x3, A.t x4, A.t x5] =
  bif x1.b == false then bif ((x0.g 1).n == 0) == true then bif x2.b == false then bif seqB (x0.g 2).s (bs []) == true then bif x3.b == false then bif ((x0.g 3).l == 0) == true then bif x4.b == false then bif ((x0.g 4).l == 0) == true then bif (!(x0.g 5).b) == true then bif x5.b == false then rt [aB ((x0.g 6).l == 0)] else rt [aB true] else rt [aB false] else rt [aB false] else bif x5.b == false then rt [aB ((x0.g 6).l == 0)] else rt [aB true] else rt [aB false] else bif x4.b == false then bif ((x0.g 4).l == 0) == true then bif (!(x0.g 5).b) == true then bif x5.b == false then rt [aB ((x0.g 6).l == 0)] else rt [aB true] else rt [aB false] else rt [aB false] else bif x5.b == false then rt [aB ((x0.g 6).l == 0)] else rt [aB true] else rt [aB false] else bif x3.b == false then bif ((x0.g 3).l == 0) == true then bif x4.b == false then bif ((x0.g 4).l == 0) == true then bif (!(x0.g 5).b) == true then bif x5.b == false then rt [aB ((x0.g 6).l == 0)] else rt [aB true] else rt [aB false] else rt [aB false] else bif x5.b == false then rt [aB ((x0.g 6).l == 0)] else rt [aB true] else rt [aB false] else bif x4.b == false then bif ((x0.g 4).l == 0) == true then bif (!(x0.g 5).b) == true then bif x5.b == false then rt [aB ((x0.g 6).l == 0)] else rt [aB true] else rt [aB false] else rt [aB false] else bif x5.b == false then rt [aB ((x0.g 6).l == 0)] else rt [aB true] else rt [aB false] else bif x2.b == false then bif seqB (x0.g 2).s (bs []) == true then bif x3.b == false then bif ((x0.g 3).l == 0) == true then bif x4.b == false then bif ((x0.g 4).l == 0) == true then bif (!(x0.g 5).b) == true then bif x5.b == false then rt [aB ((x0.g 6).l == 0)] else rt [aB true] else rt [aB false] else rt [aB false] else bif x5.b == false then rt [aB ((x0.g 6).l == 0)] else rt [aB true] else rt [aB false] else bif x4.b == false then bif ((x0.g 4).l == 0) == true then bif (!(x0.g 5).b) == true then bif x5.b == false then rt [aB ((x0.g 6).l == 0)] else rt [aB true] else rt [aB false] else rt [aB false] else bif x5.b == false then rt [aB ((x0.g 6).l == 0)] else rt [aB true] else rt [aB false] else bif x3.b == false then bif ((x0.g 3).l == 0) == true then bif x4.b == false then bif ((x0.g 4).l == 0) == true then bif (!(x0.g 5).b) == true then bif x5.b == false then rt [aB ((x0.g 6).l == 0)] else rt [aB true] else rt [aB false] else rt [aB false] else bif x5.b == false then rt [aB ((x0.g 6).l == 0)] else rt [aB true] else rt [aB false] else bif x4.b == false then bif ((x0.g 4).l == 0) == true then bif (!(x0.g 5).b) == true then bif x5.b == false then rt [aB ((x0.g 6).l == 0)] else rt [aB true] else rt [aB false] else rt [aB false] else bif x5.b == false then rt [aB ((x0.g 6).l == 0)] else rt [aB true] := by kernel_rfl
theorem q_num_In (n : Nat) (x0 : T) : den Tryd.prog G0 ents (Nat.succ n) i_num_In none [A.t x0] =
  bif ge x0.n (-9007199254740992) == true then rt [aB (le x0.n 9007199254740992)] else rt [aB false] := by kernel_rfl
theorem q_name_Path (n : Nat) (x0 : T) : den Tryd.prog G0 ents (Nat.succ n) i_name_Path none [A.t x0] =
  bif (x0.l == 0) == false then bif gt x0.l 16 then rt [aB false] else lp n i_name_Path p_name_Path_c1 [aL x0.k,aI x0.l,aI 0] fun v0 => bif Nat.beq v0.1 2 then rt [aB true] else bif Nat.beq v0.1 1 then rt [aB (r v0.2 0).b] else none else rt [aB false] := by kernel_rfl
theorem q_name_Path_c1 (n : Nat) (x0 x1 x2 : T) : den Tryd.prog G0 ents (Nat.succ n) i_name_Path (some p_name_Path_c1) [A.t x0, A.t x1, A.t x2] =
  bif lt x2.n x1.n then bif ib x2.n x0.l then cl n i_name_Right [aS (x0.a x2.n).s] fun v0 => bif !(r v0 0).b then rt [aB false] else D n i_name_Path (some p_name_Path_c1) [aL x0.k,aI x1.n,aI (w6 (x2.n + 1))] else none else some (2,[]) := by kernel_rfl
theorem q_expr_rising (n : Nat) (x0 : T) : den Tryd.prog G0 ents (Nat.succ n) i_expr_rising none [A.t x0] =
  lp n i_expr_rising p_expr_rising_c1 [aL x0.k,aL x0.k,aI x0.l,aI 0] fun v0 => bif Nat.beq v0.1 2 then rt [aB true] else bif Nat.beq v0.1 1 then rt [aB (r v0.2 0).b] else none := by kernel_rfl
theorem q_expr_rising_c1 (n : Nat) (x0 x1 x2 x3 : T) : den Tryd.prog G0 ents (Nat.succ n) i_expr_rising (some p_expr_rising_c1) [A.t x0, A.t x1, A.t x2, A.t x3] =
  bif lt x3.n x2.n then bif ib x3.n x1.l then cl n i_name_Right [aS ((x1.a x3.n).g 0).s] fun v0 => bif (!(r v0 0).b) == false then bif gt x3.n 0 == true then bif ib (w6 (x3.n - 1)) x0.l then bif Bool.or (sltB ((x1.a x3.n).g 0).s ((x0.a (w6 (x3.n - 1))).g 0).s) (seqB ((x1.a x3.n).g 0).s ((x0.a (w6 (x3.n - 1))).g 0).s) then rt [aB false] else D n i_expr_rising (some p_expr_rising_c1) [aL x0.k,aL x1.k,aI x2.n,aI (w6 (x3.n + 1))] else none else D n i_expr_rising (some p_expr_rising_c1) [aL x0.k,aL x1.k,aI x2.n,aI (w6 (x3.n + 1))] else rt [aB false] else none else some (2,[]) := by kernel_rfl
theorem q_expr_parts (n : Nat) (x0 : T) : den Tryd.prog G0 ents (Nat.succ n) i_expr_parts none [A.t x0] =
  bif (x0.g 0).n != 10 then rt [aL (x0.g 6).k] else lp n i_expr_parts p_expr_parts_c1 [aL (x0.g 4).k,aI (x0.g 4).l,aI 0,aL []] fun v0 => bif Nat.beq v0.1 2 then rt [aL (r v0.2 0).k] else none := by kernel_rfl
theorem q_expr_parts_c1 (n : Nat) (x0 x1 x2 x3 : T) : den Tryd.prog G0 ents (Nat.succ n) i_expr_parts (some p_expr_parts_c1) [A.t x0, A.t x1, A.t x2, A.t x3] =
  bif lt x2.n x1.n then bif ib x2.n x0.l then bif decide (Nat.succ (List.length x3.k) < 1073741824) then D n i_expr_parts (some p_expr_parts_c1) [aL x0.k,aI x1.n,aI (w6 (x2.n + 1)),aL (x3.k ++ [(x0.a x2.n).g 1])] else none else none else some (2,[aL x3.k]) := by kernel_rfl
theorem q_slices_ContainsFunc_Expr_Right1 (n : Nat) (x0 : T) : den Tryd.prog G0 ents (Nat.succ n) i_slices_ContainsFunc_Expr_Right1 none [A.t x0] =
  cl n i_slices_IndexFunc_Expr_Right1 [aL x0.k] fun v0 => rt [aB (ge (r v0 0).n 0)] := by kernel_rfl
theorem q_slices_IndexFunc_Expr_Right1 (n : Nat) (x0 : T) : den Tryd.prog G0 ents (Nat.succ n) i_slices_IndexFunc_Expr_Right1 none [A.t x0] =
  lp n i_slices_IndexFunc_Expr_Right1 p_slices_IndexFunc_Expr_Right1_c1 [aL x0.k,aI x0.l,aI 0] fun v0 => bif Nat.beq v0.1 2 then rt [aI (-1)] else bif Nat.beq v0.1 1 then rt [aI (r v0.2 0).n] else none := by kernel_rfl
theorem q_slices_IndexFunc_Expr_Right1_c1 (n : Nat) (x0 x1 x2 : T) : den Tryd.prog G0 ents (Nat.succ n) i_slices_IndexFunc_Expr_Right1 (some p_slices_IndexFunc_Expr_Right1_c1) [A.t x0, A.t x1, A.t x2] =
  bif lt x2.n x1.n then bif ib x2.n x0.l then cl n i_expr_Right_1 [A.t (x0.a x2.n)] fun v0 => bif (r v0 0).b then rt [aI x2.n] else D n i_slices_IndexFunc_Expr_Right1 (some p_slices_IndexFunc_Expr_Right1_c1) [aL x0.k,aI x1.n,aI (w6 (x2.n + 1))] else none else some (2,[]) := by kernel_rfl
theorem q_expr_Right_1 (n : Nat) (x0 : T) : den Tryd.prog G0 ents (Nat.succ n) i_expr_Right_1 none [A.t x0] =
  cl n i_expr_Right [A.t x0] fun v0 => rt [aB (!(r v0 0).b)] := by kernel_rfl
theorem q_expr_Depth (n : Nat) (x0 : T) : den Tryd.prog G0 ents (Nat.succ n) i_expr_Depth none [A.t x0] =
  cl n i_expr_parts [A.t x0] fun v0 => lp n i_expr_Depth p_expr_Depth_c1 [aI 0,aL (r v0 0).k,aI (r v0 0).l,aI 0] fun v1 => bif Nat.beq v1.1 2 then rt [aI (w6 ((r v1.2 0).n + 1))] else none := by kernel_rfl
theorem q_expr_Depth_c1 (n : Nat) (x0 x1 x2 x3 : T) : den Tryd.prog G0 ents (Nat.succ n) i_expr_Depth (some p_expr_Depth_c1) [A.t x0, A.t x1, A.t x2, A.t x3] =
  bif lt x3.n x2.n then bif ib x3.n x1.l then cl n i_expr_Depth [A.t (x1.a x3.n)] fun v0 => D n i_expr_Depth (some p_expr_Depth_c1) [aI (maxI x0.n (r v0 0).n),aL x1.k,aI x2.n,aI (w6 (x3.n + 1))] else none else some (2,[aI x0.n]) := by kernel_rfl
theorem q_num_Text (n : Nat) (x0 : T) : den Tryd.prog G0 ents (Nat.succ n) i_num_Text none [A.t x0] =
  bif lt x0.n 0 then lp n i_num_Text p_num_Text_c1 [aI x0.n,aI (wu (0 - wu x0.n)),aI 20,aI 0,aL [T.int 0,T.int 0,T.int 0,T.int 0,T.int 0,T.int 0,T.int 0,T.int 0,T.int 0,T.int 0,T.int 0,T.int 0,T.int 0,T.int 0,T.int 0,T.int 0,T.int 0,T.int 0,T.int 0,T.int 0]] fun v0 => bif Nat.beq v0.1 2 then bif lt (r v0.2 0).n 0 then bif Bool.and (le 0 (r v0.2 1).n) (le (r v0.2 1).n 20) then bif decide ((1 + ByteArray.size (bytesT (List.drop (Int.toNat (r v0.2 1).n) [(r v0.2 2).g 0,(r v0.2 2).g 1,(r v0.2 2).g 2,(r v0.2 2).g 3,(r v0.2 2).g 4,(r v0.2 2).g 5,(r v0.2 2).g 6,(r v0.2 2).g 7,(r v0.2 2).g 8,(r v0.2 2).g 9,(r v0.2 2).g 10,(r v0.2 2).g 11,(r v0.2 2).g 12,(r v0.2 2).g 13,(r v0.2 2).g 14,(r v0.2 2).g 15,(r v0.2 2).g 16,(r v0.2 2).g 17,(r v0.2 2).g 18,(r v0.2 2).g 19]))) < 9223372036854775808) then rt [aS (bs [45] ++ bytesT (List.drop (Int.toNat (r v0.2 1).n) [(r v0.2 2).g 0,(r v0.2 2).g 1,(r v0.2 2).g 2,(r v0.2 2).g 3,(r v0.2 2).g 4,(r v0.2 2).g 5,(r v0.2 2).g 6,(r v0.2 2).g 7,(r v0.2 2).g 8,(r v0.2 2).g 9,(r v0.2 2).g 10,(r v0.2 2).g 11,(r v0.2 2).g 12,(r v0.2 2).g 13,(r v0.2 2).g 14,(r v0.2 2).g 15,(r v0.2 2).g 16,(r v0.2 2).g 17,(r v0.2 2).g 18,(r v0.2 2).g 19]))] else none else none else bif Bool.and (le 0 (r v0.2 1).n) (le (r v0.2 1).n 20) then rt [aS (bytesT (List.drop (Int.toNat (r v0.2 1).n) [(r v0.2 2).g 0,(r v0.2 2).g 1,(r v0.2 2).g 2,(r v0.2 2).g 3,(r v0.2 2).g 4,(r v0.2 2).g 5,(r v0.2 2).g 6,(r v0.2 2).g 7,(r v0.2 2).g 8,(r v0.2 2).g 9,(r v0.2 2).g 10,(r v0.2 2).g 11,(r v0.2 2).g 12,(r v0.2 2).g 13,(r v0.2 2).g 14,(r v0.2 2).g 15,(r v0.2 2).g 16,(r v0.2 2).g 17,(r v0.2 2).g 18,(r v0.2 2).g 19]))] else none else none else lp n i_num_Text p_num_Text_c1 [aI x0.n,aI (wu x0.n),aI 20,aI 0,aL [T.int 0,T.int 0,T.int 0,T.int 0,T.int 0,T.int 0,T.int 0,T.int 0,T.int 0,T.int 0,T.int 0,T.int 0,T.int 0,T.int 0,T.int 0,T.int 0,T.int 0,T.int 0,T.int 0,T.int 0]] fun v0 => bif Nat.beq v0.1 2 then bif lt (r v0.2 0).n 0 then bif Bool.and (le 0 (r v0.2 1).n) (le (r v0.2 1).n 20) then bif decide ((1 + ByteArray.size (bytesT (List.drop (Int.toNat (r v0.2 1).n) [(r v0.2 2).g 0,(r v0.2 2).g 1,(r v0.2 2).g 2,(r v0.2 2).g 3,(r v0.2 2).g 4,(r v0.2 2).g 5,(r v0.2 2).g 6,(r v0.2 2).g 7,(r v0.2 2).g 8,(r v0.2 2).g 9,(r v0.2 2).g 10,(r v0.2 2).g 11,(r v0.2 2).g 12,(r v0.2 2).g 13,(r v0.2 2).g 14,(r v0.2 2).g 15,(r v0.2 2).g 16,(r v0.2 2).g 17,(r v0.2 2).g 18,(r v0.2 2).g 19]))) < 9223372036854775808) then rt [aS (bs [45] ++ bytesT (List.drop (Int.toNat (r v0.2 1).n) [(r v0.2 2).g 0,(r v0.2 2).g 1,(r v0.2 2).g 2,(r v0.2 2).g 3,(r v0.2 2).g 4,(r v0.2 2).g 5,(r v0.2 2).g 6,(r v0.2 2).g 7,(r v0.2 2).g 8,(r v0.2 2).g 9,(r v0.2 2).g 10,(r v0.2 2).g 11,(r v0.2 2).g 12,(r v0.2 2).g 13,(r v0.2 2).g 14,(r v0.2 2).g 15,(r v0.2 2).g 16,(r v0.2 2).g 17,(r v0.2 2).g 18,(r v0.2 2).g 19]))] else none else none else bif Bool.and (le 0 (r v0.2 1).n) (le (r v0.2 1).n 20) then rt [aS (bytesT (List.drop (Int.toNat (r v0.2 1).n) [(r v0.2 2).g 0,(r v0.2 2).g 1,(r v0.2 2).g 2,(r v0.2 2).g 3,(r v0.2 2).g 4,(r v0.2 2).g 5,(r v0.2 2).g 6,(r v0.2 2).g 7,(r v0.2 2).g 8,(r v0.2 2).g 9,(r v0.2 2).g 10,(r v0.2 2).g 11,(r v0.2 2).g 12,(r v0.2 2).g 13,(r v0.2 2).g 14,(r v0.2 2).g 15,(r v0.2 2).g 16,(r v0.2 2).g 17,(r v0.2 2).g 18,(r v0.2 2).g 19]))] else none else none := by kernel_rfl
theorem q_num_Text_c1 (n : Nat) (x0 x1 x2 x3 x4 : T) : den Tryd.prog G0 ents (Nat.succ n) i_num_Text (some p_num_Text_c1) [A.t x0, A.t x1, A.t x2, A.t x3, A.t x4] =
  bif lt x3.n 20 then bif ib (w6 (x2.n - 1)) 20 then bif wu (Int.tdiv x1.n 10) == 0 then some (2,[aI x0.n,aI (w6 (x2.n - 1)),aL (setPad x4.k (Int.toNat (w6 (x2.n - 1))) (T.int (wb (48 + wb (Int.tmod x1.n 10)))))]) else D n i_num_Text (some p_num_Text_c1) [aI x0.n,aI (wu (Int.tdiv x1.n 10)),aI (w6 (x2.n - 1)),aI (w6 (x3.n + 1)),aL (setPad x4.k (Int.toNat (w6 (x2.n - 1))) (T.int (wb (48 + wb (Int.tmod x1.n 10)))))] else none else some (2,[aI x0.n,aI x2.n,A.t x4]) := by kernel_rfl
theorem q_show_Expr (n : Nat) (x0 : T) : den Tryd.prog G0 ents (Nat.succ n) i_show_Expr none [A.t x0] =
  cl n i_expr_Check [A.t x0] fun v0 => bif (r v0 0).n != 0 then rt [aS (bs []),aI (r v0 0).n] else cl n i_show_text [A.t x0] fun v1 => rt [aS (r v1 0).s,aI 0] := by kernel_rfl
theorem q_show_text (n : Nat) (x0 : T) : den Tryd.prog G0 ents (Nat.succ n) i_show_text none [A.t x0] =
  bif (x0.g 0).n == 1 then cl n i_num_Text [aI (x0.g 1).n] fun v0 => rt [aS (r v0 0).s] else bif (x0.g 0).n == 2 then cl n i_token_Quote [aS (x0.g 2).s] fun v0 => rt [aS (r v0 0).s] else bif (x0.g 0).n == 3 then bif (x0.g 1).n == 1 then rt [aS (bs [116,114,117,101])] else rt [aS (bs [102,97,108,115,101])] else bif (x0.g 0).n == 4 then bif ib (x0.g 1).n 6 then rt [aS ((T.node [T.str (bs []),T.str (bs [98,111,111,108]),T.str (bs [105,110,116]),T.str (bs [115,116,114,105,110,103]),T.str (bs []),T.str (bs [97,110,121])]).g (Int.toNat (x0.g 1).n)).s] else none else bif (x0.g 0).n == 5 then rt [aS (bs [110,111,110,101])] else bif (x0.g 0).n == 6 then rt [aS (bs [99,111,109,112,117,116,101,100])] else bif (x0.g 0).n == 7 then cl n i_num_Text [aI (x0.g 1).n] fun v0 => cl n i_show_glue_o [aL [T.str (bs [62,61]),T.str (r v0 0).s]] fun v1 => rt [aS (r v1 0).s] else bif (x0.g 0).n == 8 then cl n i_num_Text [aI (x0.g 1).n] fun v0 => cl n i_show_glue_o [aL [T.str (bs [60,61]),T.str (r v0 0).s]] fun v1 => rt [aS (r v1 0).s] else bif (x0.g 0).n == 9 then cl n i_name_Text [aL (x0.g 3).k] fun v0 => rt [aS (r v0 0).s] else bif (x0.g 0).n == 10 then cl n i_show_fields [A.t x0] fun v0 => rt [aS (r v0 0).s] else cl n i_show_kids [A.t x0] fun v0 => rt [aS (r v0 0).s] := by kernel_rfl
theorem q_token_Quote (n : Nat) (x0 : T) : den Tryd.prog G0 ents (Nat.succ n) i_token_Quote none [A.t x0] =
  lp n i_token_Quote p_token_Quote_c1 [aS x0.s,aI x0.z,aI 0,aL [T.int 34]] fun v0 => bif Nat.beq v0.1 2 then bif decide (Nat.succ (List.length (r v0.2 0).k) < 1073741824) then rt [aS (bytesT ((r v0.2 0).k ++ [T.int 34]))] else none else none := by kernel_rfl
theorem q_token_Quote_c1 (n : Nat) (x0 x1 x2 x3 : T) : den Tryd.prog G0 ents (Nat.succ n) i_token_Quote (some p_token_Quote_c1) [A.t x0, A.t x1, A.t x2, A.t x3] =
  bif lt x2.n x1.n then bif ib x2.n x0.z then bif (((UInt8.toNat (Array.getD (ByteArray.data x0.s) (Int.toNat x2.n) 0) : Nat) : Int) == 34) == false then bif ((UInt8.toNat (Array.getD (ByteArray.data x0.s) (Int.toNat x2.n) 0) : Nat) : Int) == 92 then bif decide (Nat.succ (Nat.succ (List.length x3.k)) < 1073741824) then D n i_token_Quote (some p_token_Quote_c1) [aS x0.s,aI x1.n,aI (w6 (x2.n + 1)),aL (x3.k ++ [T.int 92,T.int ((UInt8.toNat (Array.getD (ByteArray.data x0.s) (Int.toNat x2.n) 0) : Nat) : Int)])] else none else bif ((UInt8.toNat (Array.getD (ByteArray.data x0.s) (Int.toNat x2.n) 0) : Nat) : Int) == 10 then bif decide (Nat.succ (Nat.succ (List.length x3.k)) < 1073741824) then D n i_token_Quote (some p_token_Quote_c1) [aS x0.s,aI x1.n,aI (w6 (x2.n + 1)),aL (x3.k ++ [T.int 92,T.int 110])] else none else bif lt ((UInt8.toNat (Array.getD (ByteArray.data x0.s) (Int.toNat x2.n) 0) : Nat) : Int) 32 == false then bif gt ((UInt8.toNat (Array.getD (ByteArray.data x0.s) (Int.toNat x2.n) 0) : Nat) : Int) 126 then bif ib (Int.fdiv ((UInt8.toNat (Array.getD (ByteArray.data x0.s) (Int.toNat x2.n) 0) : Nat) : Int) 16) 16 then bif ib (zbits BinOp.and IntKind.u8 ((UInt8.toNat (Array.getD (ByteArray.data x0.s) (Int.toNat x2.n) 0) : Nat) : Int) 15) 16 then bif decide (Nat.succ (Nat.succ (Nat.succ (Nat.succ (List.length x3.k)))) < 1073741824) then D n i_token_Quote (some p_token_Quote_c1) [aS x0.s,aI x1.n,aI (w6 (x2.n + 1)),aL (x3.k ++ [T.int 92,T.int 120,T.int ((UInt8.toNat (Array.getD (ByteArray.data (bs [48,49,50,51,52,53,54,55,56,57,97,98,99,100,101,102])) (Int.toNat (Int.fdiv ((UInt8.toNat (Array.getD (ByteArray.data x0.s) (Int.toNat x2.n) 0) : Nat) : Int) 16)) 0) : Nat) : Int),T.int ((UInt8.toNat (Array.getD (ByteArray.data (bs [48,49,50,51,52,53,54,55,56,57,97,98,99,100,101,102])) (Int.toNat (zbits BinOp.and IntKind.u8 ((UInt8.toNat (Array.getD (ByteArray.data x0.s) (Int.toNat x2.n) 0) : Nat) : Int) 15)) 0) : Nat) : Int)])] else none else none else none else bif decide (Nat.succ (List.length x3.k) < 1073741824) then D n i_token_Quote (some p_token_Quote_c1) [aS x0.s,aI x1.n,aI (w6 (x2.n + 1)),aL (x3.k ++ [T.int ((UInt8.toNat (Array.getD (ByteArray.data x0.s) (Int.toNat x2.n) 0) : Nat) : Int)])] else none else bif ib (Int.fdiv ((UInt8.toNat (Array.getD (ByteArray.data x0.s) (Int.toNat x2.n) 0) : Nat) : Int) 16) 16 then bif ib (zbits BinOp.and IntKind.u8 ((UInt8.toNat (Array.getD (ByteArray.data x0.s) (Int.toNat x2.n) 0) : Nat) : Int) 15) 16 then bif decide (Nat.succ (Nat.succ (Nat.succ (Nat.succ (List.length x3.k)))) < 1073741824) then D n i_token_Quote (some p_token_Quote_c1) [aS x0.s,aI x1.n,aI (w6 (x2.n + 1)),aL (x3.k ++ [T.int 92,T.int 120,T.int ((UInt8.toNat (Array.getD (ByteArray.data (bs [48,49,50,51,52,53,54,55,56,57,97,98,99,100,101,102])) (Int.toNat (Int.fdiv ((UInt8.toNat (Array.getD (ByteArray.data x0.s) (Int.toNat x2.n) 0) : Nat) : Int) 16)) 0) : Nat) : Int),T.int ((UInt8.toNat (Array.getD (ByteArray.data (bs [48,49,50,51,52,53,54,55,56,57,97,98,99,100,101,102])) (Int.toNat (zbits BinOp.and IntKind.u8 ((UInt8.toNat (Array.getD (ByteArray.data x0.s) (Int.toNat x2.n) 0) : Nat) : Int) 15)) 0) : Nat) : Int)])] else none else none else none else bif decide (Nat.succ (Nat.succ (List.length x3.k)) < 1073741824) then D n i_token_Quote (some p_token_Quote_c1) [aS x0.s,aI x1.n,aI (w6 (x2.n + 1)),aL (x3.k ++ [T.int 92,T.int ((UInt8.toNat (Array.getD (ByteArray.data x0.s) (Int.toNat x2.n) 0) : Nat) : Int)])] else none else none else some (2,[aL x3.k]) := by kernel_rfl
theorem q_name_Text (n : Nat) (x0 : T) : den Tryd.prog G0 ents (Nat.succ n) i_name_Text none [A.t x0] =
  cl n i_name_Path [aL x0.k] fun v0 => bif !(r v0 0).b then rt [aS (bs []),aB false] else cl n i_strings_Join [aL x0.k,aS (bs [46])] fun v1 => rt [aS (r v1 0).s,aB true] := by kernel_rfl
theorem q_show_fields (n : Nat) (x0 : T) : den Tryd.prog G0 ents (Nat.succ n) i_show_fields none [A.t x0] =
  lp n i_show_fields p_show_fields_c1 [aL (x0.g 4).k,aI (x0.g 4).l,aI 0,A.t x0,aL []] fun v0 => bif Nat.beq v0.1 2 then bif ((r v0.2 0).g 5).b then bif decide (Nat.succ (List.length (r v0.2 1).k) < 1073741824) then cl n i_strings_Join_o [aS (bs [32]),aL ((r v0.2 1).k ++ [T.str (bs [46,46,46])])] fun v1 => cl n i_show_glue_o [aL [T.str (bs [123]),T.str (r v1 0).s,T.str (bs [125])]] fun v2 => rt [aS (r v2 0).s] else none else cl n i_strings_Join_o [aS (bs [32]),aL (r v0.2 1).k] fun v1 => cl n i_show_glue_o [aL [T.str (bs [123]),T.str (r v1 0).s,T.str (bs [125])]] fun v2 => rt [aS (r v2 0).s] else none := by kernel_rfl
theorem q_show_fields_c1 (n : Nat) (x0 x1 x2 x3 x4 : T) : den Tryd.prog G0 ents (Nat.succ n) i_show_fields (some p_show_fields_c1) [A.t x0, A.t x1, A.t x2, A.t x3, A.t x4] =
  bif lt x2.n x1.n then bif ib x2.n x0.l then cl n i_show_text [A.t ((x0.a x2.n).g 1)] fun v0 => cl n i_show_glue_o [aL [T.str ((x0.a x2.n).g 0).s,T.str (bs [58,32]),T.str (r v0 0).s,T.str (bs [59])]] fun v1 => bif decide (Nat.succ (List.length x4.k) < 1073741824) then D n i_show_fields (some p_show_fields_c1) [aL x0.k,aI x1.n,aI (w6 (x2.n + 1)),A.t x3,aL (x4.k ++ [T.str (r v1 0).s])] else none else none else some (2,[A.t x3,aL x4.k]) := by kernel_rfl
theorem q_show_kids (n : Nat) (x0 : T) : den Tryd.prog G0 ents (Nat.succ n) i_show_kids none [A.t x0] =
  lp n i_show_kids p_show_kids_c1 [aL (x0.g 6).k,aI (x0.g 6).l,aI 0,A.t x0,aL []] fun v0 => bif Nat.beq v0.1 2 then bif ib ((r v0.2 0).g 0).n 16 then cl n i_strings_Join_o [aS ((T.node [T.str (bs []),T.str (bs []),T.str (bs []),T.str (bs []),T.str (bs []),T.str (bs []),T.str (bs []),T.str (bs []),T.str (bs []),T.str (bs []),T.str (bs []),T.str (bs [32,38,32]),T.str (bs [32,124,32]),T.str (bs [32,43,32]),T.str (bs [32,45,32]),T.str (bs [32,42,32])]).g (Int.toNat ((r v0.2 0).g 0).n)).s,aL (r v0.2 1).k] fun v1 => rt [aS (r v1 0).s] else none else none := by kernel_rfl
theorem q_show_kids_c1 (n : Nat) (x0 x1 x2 x3 x4 : T) : den Tryd.prog G0 ents (Nat.succ n) i_show_kids (some p_show_kids_c1) [A.t x0, A.t x1, A.t x2, A.t x3, A.t x4] =
  bif lt x2.n x1.n then bif ib x2.n x0.l then cl n i_show_level [A.t x3] fun v0 => bif (x2.n == 0) == true then bif ((x3.g 0).n != 12) == true then bif (x3.g 0).n != 11 then cl n i_show_in [A.t (x0.a x2.n),aI (w6 (w6 ((r v0 0).n + 1) - 1))] fun v1 => bif decide (Nat.succ (List.length x4.k) < 1073741824) then D n i_show_kids (some p_show_kids_c1) [aL x0.k,aI x1.n,aI (w6 (x2.n + 1)),A.t x3,aL (x4.k ++ [T.str (r v1 0).s])] else none else cl n i_show_in [A.t (x0.a x2.n),aI (w6 ((r v0 0).n + 1))] fun v1 => bif decide (Nat.succ (List.length x4.k) < 1073741824) then D n i_show_kids (some p_show_kids_c1) [aL x0.k,aI x1.n,aI (w6 (x2.n + 1)),A.t x3,aL (x4.k ++ [T.str (r v1 0).s])] else none else cl n i_show_in [A.t (x0.a x2.n),aI (w6 ((r v0 0).n + 1))] fun v1 => bif decide (Nat.succ (List.length x4.k) < 1073741824) then D n i_show_kids (some p_show_kids_c1) [aL x0.k,aI x1.n,aI (w6 (x2.n + 1)),A.t x3,aL (x4.k ++ [T.str (r v1 0).s])] else none else cl n i_show_in [A.t (x0.a x2.n),aI (w6 ((r v0 0).n + 1))] fun v1 => bif decide (Nat.succ (List.length x4.k) < 1073741824) then D n i_show_kids (some p_show_kids_c1) [aL x0.k,aI x1.n,aI (w6 (x2.n + 1)),A.t x3,aL (x4.k ++ [T.str (r v1 0).s])] else none else none else some (2,[A.t x3,aL x4.k]) := by kernel_rfl
theorem q_show_level (n : Nat) (x0 : T) : den Tryd.prog G0 ents (Nat.succ n) i_show_level none [A.t x0] =
  bif lt (x0.g 0).n 16 == true then bif ib (x0.g 0).n 16 then bif gt ((T.node [T.int 0,T.int 0,T.int 0,T.int 0,T.int 0,T.int 0,T.int 0,T.int 0,T.int 0,T.int 0,T.int 0,T.int 2,T.int 1,T.int 3,T.int 3,T.int 4]).g (Int.toNat (x0.g 0).n)).n 0 then bif ib (x0.g 0).n 16 then rt [aI ((T.node [T.int 0,T.int 0,T.int 0,T.int 0,T.int 0,T.int 0,T.int 0,T.int 0,T.int 0,T.int 0,T.int 0,T.int 2,T.int 1,T.int 3,T.int 3,T.int 4]).g (Int.toNat (x0.g 0).n)).n] else none else rt [aI 5] else none else rt [aI 5] := by kernel_rfl
theorem q_show_in (n : Nat) (x0 x1 : T) : den Tryd.prog G0 ents (Nat.succ n) i_show_in none [A.t x0, A.t x1] =
  cl n i_show_level [A.t x0] fun v0 => bif lt (r v0 0).n x1.n then cl n i_show_text [A.t x0] fun v1 => cl n i_show_glue_o [aL [T.str (bs [40]),T.str (r v1 0).s,T.str (bs [41])]] fun v2 => rt [aS (r v2 0).s] else cl n i_show_text [A.t x0] fun v1 => rt [aS (r v1 0).s] := by kernel_rfl
theorem q_R22_Of (n : Nat) (x0 x1 : T) : den Tryd.prog G0 ents (Nat.succ n) i_R22_Of none [A.t x0, A.t x1] =
  cl n i_R22_May [A.t x0,aI x1.n] fun v0 => bif !(r v0 0).b then rt [aS (bs []),aI 1] else bif decide (Nat.succ (ByteArray.size (x0.g 0).s) < 9223372036854775808) then cl n i_R01_Text [aI x1.n] fun v1 => bif decide ((ByteArray.size ((x0.g 0).s ++ bs [10]) + ByteArray.size (r v1 0).s) < 9223372036854775808) then bif decide (Nat.succ (ByteArray.size (((x0.g 0).s ++ bs [10]) ++ (r v1 0).s)) < 9223372036854775808) then lp n i_R22_Of p_R22_Of_c1 [aS ((((x0.g 0).s ++ bs [10]) ++ (r v1 0).s) ++ bs [10]),aI 0,A.t x0] fun v2 => bif Nat.beq v2.1 2 then rt [aS (r v2.2 0).s,aI 0] else none else none else none else none := by kernel_rfl
theorem q_R22_Of_c1 (n : Nat) (x0 x1 x2 : T) : den Tryd.prog G0 ents (Nat.succ n) i_R22_Of (some p_R22_Of_c1) [A.t x0, A.t x1, A.t x2] =
  bif lt x1.n (x2.g 2).l then bif ib x1.n (x2.g 2).l then cl n i_R15_Of [A.t ((x2.g 2).a x1.n)] fun v0 => bif decide ((ByteArray.size x0.s + ByteArray.size (r v0 0).s) < 9223372036854775808) then bif decide (Nat.succ (ByteArray.size (x0.s ++ (r v0 0).s)) < 9223372036854775808) then D n i_R22_Of (some p_R22_Of_c1) [aS ((x0.s ++ (r v0 0).s) ++ bs [10]),aI (w6 (x1.n + 1)),A.t x2] else none else none else none else some (2,[aS x0.s]) := by kernel_rfl
theorem q_R22_May (n : Nat) (x0 x1 : T) : den Tryd.prog G0 ents (Nat.succ n) i_R22_May none [A.t x0, A.t x1] =
  lp n i_R22_May p_R22_May_c1 [aI x1.n,aI 0,A.t x0] fun v0 => bif Nat.beq v0.1 2 then cl n i_R02_Right [aS ((r v0.2 1).g 0).s] fun v1 => bif (r v1 0).b == true then bif gt ((r v0.2 1).g 2).l 0 == true then bif ge (r v0.2 0).n 1 == true then rt [aB (le (r v0.2 0).n 1048576)] else rt [aB false] else rt [aB false] else rt [aB false] else bif Nat.beq v0.1 1 then rt [aB (r v0.2 0).b] else none := by kernel_rfl
theorem q_R22_May_c1 (n : Nat) (x0 x1 x2 : T) : den Tryd.prog G0 ents (Nat.succ n) i_R22_May (some p_R22_May_c1) [A.t x0, A.t x1, A.t x2] =
  bif lt x1.n (x2.g 2).l then bif ib x1.n (x2.g 2).l then cl n i_R13_Check [A.t ((x2.g 2).a x1.n)] fun v0 => bif (r v0 0).n != 0 then rt [aB false] else D n i_R22_May (some p_R22_May_c1) [aI x0.n,aI (w6 (x1.n + 1)),A.t x2] else none else some (2,[aI x0.n,A.t x2]) := by kernel_rfl
theorem q_R13_Check (n : Nat) (x0 : T) : den Tryd.prog G0 ents (Nat.succ n) i_R13_Check none [A.t x0] =
  cl n i_R13_Right [A.t x0] fun v0 => bif !(r v0 0).b then rt [aI 1] else cl n i_R13_Depth [A.t x0] fun v1 => bif gt (r v1 0).n 16 then rt [aI 22] else rt [aI 0] := by kernel_rfl
theorem q_R13_Right (n : Nat) (x0 : T) : den Tryd.prog G0 ents (Nat.succ n) i_R13_Right none [A.t x0] =
  bif (x0.g 0).n == 1 then cl n i_R13_empty [A.t x0,aI 1] fun v0 => bif (r v0 0).b == true then cl n i_R01_In [aI (x0.g 1).n] fun v1 => rt [aB (r v1 0).b] else rt [aB false] else bif (x0.g 0).n == 7 then cl n i_R13_empty [A.t x0,aI 1] fun v0 => bif (r v0 0).b == true then cl n i_R01_In [aI (x0.g 1).n] fun v1 => rt [aB (r v1 0).b] else rt [aB false] else bif (x0.g 0).n == 8 then cl n i_R13_empty [A.t x0,aI 1] fun v0 => bif (r v0 0).b == true then cl n i_R01_In [aI (x0.g 1).n] fun v1 => rt [aB (r v1 0).b] else rt [aB false] else bif (x0.g 0).n == 2 then cl n i_R13_empty [A.t x0,aI 2] fun v0 => bif (r v0 0).b == true then rt [aB (le (x0.g 2).z 256)] else rt [aB false] else bif (x0.g 0).n == 3 then cl n i_R13_empty [A.t x0,aI 1] fun v0 => bif (r v0 0).b == true then bif ge (x0.g 1).n 0 == true then rt [aB (le (x0.g 1).n 1)] else rt [aB false] else rt [aB false] else bif (x0.g 0).n == 4 then cl n i_R13_empty [A.t x0,aI 1] fun v0 => bif (r v0 0).b == true then bif ge (x0.g 1).n 1 == true then bif le (x0.g 1).n 5 == true then rt [aB ((x0.g 1).n != 4)] else rt [aB false] else rt [aB false] else rt [aB false] else bif (x0.g 0).n == 5 then cl n i_R13_empty [A.t x0,aI 0] fun v0 => rt [aB (r v0 0).b] else bif (x0.g 0).n == 6 then cl n i_R13_empty [A.t x0,aI 0] fun v0 => rt [aB (r v0 0).b] else bif (x0.g 0).n == 9 then cl n i_R13_empty [A.t x0,aI 4] fun v0 => bif (r v0 0).b == true then cl n i_R02_Path [aL (x0.g 3).k] fun v1 => rt [aB (r v1 0).b] else rt [aB false] else bif (x0.g 0).n == 10 then cl n i_R13_empty [A.t x0,aI 8] fun v0 => bif (r v0 0).b == true then cl n i_R13_pairs [aL (x0.g 4).k] fun v1 => rt [aB (r v1 0).b] else rt [aB false] else bif (x0.g 0).n == 11 then cl n i_R13_empty [A.t x0,aI 16] fun v0 => bif (r v0 0).b == true then cl n i_R13_kids [aL (x0.g 6).k,aI 2,aI 32] fun v1 => rt [aB (r v1 0).b] else rt [aB false] else bif (x0.g 0).n == 12 then cl n i_R13_empty [A.t x0,aI 16] fun v0 => bif (r v0 0).b == true then cl n i_R13_kids [aL (x0.g 6).k,aI 2,aI 32] fun v1 => rt [aB (r v1 0).b] else rt [aB false] else bif (x0.g 0).n == 13 then cl n i_R13_empty [A.t x0,aI 16] fun v0 => bif (r v0 0).b == true then cl n i_R13_kids [aL (x0.g 6).k,aI 2,aI 2] fun v1 => rt [aB (r v1 0).b] else rt [aB false] else bif (x0.g 0).n == 14 then cl n i_R13_empty [A.t x0,aI 16] fun v0 => bif (r v0 0).b == true then cl n i_R13_kids [aL (x0.g 6).k,aI 2,aI 2] fun v1 => rt [aB (r v1 0).b] else rt [aB false] else bif (x0.g 0).n == 15 then cl n i_R13_empty [A.t x0,aI 16] fun v0 => bif (r v0 0).b == true then cl n i_R13_kids [aL (x0.g 6).k,aI 2,aI 2] fun v1 => rt [aB (r v1 0).b] else rt [aB false] else rt [aB false] := by kernel_rfl
end Go.Proofs.YtdofdhlpheaonaaDoorKT
set_option linter.unusedVariables false
set_option maxRecDepth 100000
namespace Go.Proofs.YtdofdhlpheaonaaDoorKT
open Go Go.Proofs.YtdofdhlpheaonaaDoorVM Go.Proofs
theorem q_R13_empty (n : Nat) (x0 x1 : T) : den Tryd.prog G0 ents (Nat.succ n) i_R13_empty none [A.t x0, A.t x1] =
  bif (Int.tmod x1.n 2 == 0) == true then bif ((x0.g 1).n != 0) == false then bif (Int.tmod (w6 (Int.tdiv x1.n 2)) 2 == 0) == true then bif (!(seqB (x0.g 2).s (bs []))) == false then bif (Int.tmod (w6 (Int.tdiv x1.n 4)) 2 == 0) == true then bif gt (x0.g 3).l 0 then rt [aB false] else bif (Int.tmod (w6 (Int.tdiv x1.n 8)) 2 == 1) == false then bif ((x0.g 4).l == 0) == true then bif (!(x0.g 5).b) == true then bif (Int.tmod (w6 (Int.tdiv x1.n 16)) 2 == 1) == false then rt [aB ((x0.g 6).l == 0)] else rt [aB true] else rt [aB false] else rt [aB false] else bif (Int.tmod (w6 (Int.tdiv x1.n 16)) 2 == 1) == false then rt [aB ((x0.g 6).l == 0)] else rt [aB true] else bif (Int.tmod (w6 (Int.tdiv x1.n 8)) 2 == 1) == false then bif ((x0.g 4).l == 0) == true then bif (!(x0.g 5).b) == true then bif (Int.tmod (w6 (Int.tdiv x1.n 16)) 2 == 1) == false then rt [aB ((x0.g 6).l == 0)] else rt [aB true] else rt [aB false] else rt [aB false] else bif (Int.tmod (w6 (Int.tdiv x1.n 16)) 2 == 1) == false then rt [aB ((x0.g 6).l == 0)] else rt [aB true] else rt [aB false] else bif (Int.tmod (w6 (Int.tdiv x1.n 4)) 2 == 0) == true then bif gt (x0.g 3).l 0 then rt [aB false] else bif (Int.tmod (w6 (Int.tdiv x1.n 8)) 2 == 1) == false then bif ((x0.g 4).l == 0) == true then bif (!(x0.g 5).b) == true then bif (Int.tmod (w6 (Int.tdiv x1.n 16)) 2 == 1) == false then rt [aB ((x0.g 6).l == 0)] else rt [aB true] else rt [aB false] else rt [aB false] else bif (Int.tmod (w6 (Int.tdiv x1.n 16)) 2 == 1) == false then rt [aB ((x0.g 6).l == 0)] else rt [aB true] else bif (Int.tmod (w6 (Int.tdiv x1.n 8)) 2 == 1) == false then bif ((x0.g 4).l == 0) == true then bif (!(x0.g 5).b) == true then bif (Int.tmod (w6 (Int.tdiv x1.n 16)) 2 == 1) == false then rt [aB ((x0.g 6).l == 0)] else rt [aB true] else rt [aB false] else rt [aB false] else bif (Int.tmod (w6 (Int.tdiv x1.n 16)) 2 == 1) == false then rt [aB ((x0.g 6).l == 0)] else rt [aB true] else rt [aB false] else bif (Int.tmod (w6 (Int.tdiv x1.n 2)) 2 == 0) == true then bif (!(seqB (x0.g 2).s (bs []))) == false then bif (Int.tmod (w6 (Int.tdiv x1.n 4)) 2 == 0) == true then bif gt (x0.g 3).l 0 then rt [aB false] else bif (Int.tmod (w6 (Int.tdiv x1.n 8)) 2 == 1) == false then bif ((x0.g 4).l == 0) == true then bif (!(x0.g 5).b) == true then bif (Int.tmod (w6 (Int.tdiv x1.n 16)) 2 == 1) == false then rt [aB ((x0.g 6).l == 0)] else rt [aB true] else rt [aB false] else rt [aB false] else bif (Int.tmod (w6 (Int.tdiv x1.n 16)) 2 == 1) == false then rt [aB ((x0.g 6).l == 0)] else rt [aB true] else bif (Int.tmod (w6 (Int.tdiv x1.n 8)) 2 == 1) == false then bif ((x0.g 4).l == 0) == true then bif (!(x0.g 5).b) == true then bif (Int.tmod (w6 (Int.tdiv x1.n 16)) 2 == 1) == false then rt [aB ((x0.g 6).l == 0)] else rt [aB true] else rt [aB false] else rt [aB false] else bif (Int.tmod (w6 (Int.tdiv x1.n 16)) 2 == 1) == false then rt [aB ((x0.g 6).l == 0)] else rt [aB true] else rt [aB false] else bif (Int.tmod (w6 (Int.tdiv x1.n 4)) 2 == 0) == true then bif gt (x0.g 3).l 0 then rt [aB false] else bif (Int.tmod (w6 (Int.tdiv x1.n 8)) 2 == 1) == false then bif ((x0.g 4).l == 0) == true then bif (!(x0.g 5).b) == true then bif (Int.tmod (w6 (Int.tdiv x1.n 16)) 2 == 1) == false then rt [aB ((x0.g 6).l == 0)] else rt [aB true] else rt [aB false] else rt [aB false] else bif (Int.tmod (w6 (Int.tdiv x1.n 16)) 2 == 1) == false then rt [aB ((x0.g 6).l == 0)] else rt [aB true] else bif (Int.tmod (w6 (Int.tdiv x1.n 8)) 2 == 1) == false then bif ((x0.g 4).l == 0) == true then bif (!(x0.g 5).b) == true then bif (Int.tmod (w6 (Int.tdiv x1.n 16)) 2 == 1) == false then rt [aB ((x0.g 6).l == 0)] else rt [aB true] else rt [aB false] else rt [aB false] else bif (Int.tmod (w6 (Int.tdiv x1.n 16)) 2 == 1) == false then rt [aB ((x0.g 6).l == 0)] else rt [aB true] := by kernel_rfl
theorem q_R01_In (n : Nat) (x0 : T) : den Tryd.prog G0 ents (Nat.succ n) i_R01_In none [A.t x0] =
  bif ge x0.n (-9007199254740992) == true then rt [aB (le x0.n 9007199254740992)] else rt [aB false] := by kernel_rfl
theorem q_R02_Path (n : Nat) (x0 : T) : den Tryd.prog G0 ents (Nat.succ n) i_R02_Path none [A.t x0] =
  lp n i_R02_Path p_R02_Path_c1 [aL x0.k,aI 0] fun v0 => bif Nat.beq v0.1 2 then bif ge (r v0.2 0).l 1 == true then rt [aB (le (r v0.2 0).l 16)] else rt [aB false] else bif Nat.beq v0.1 1 then rt [aB (r v0.2 0).b] else none := by kernel_rfl
theorem q_R02_Path_c1 (n : Nat) (x0 x1 : T) : den Tryd.prog G0 ents (Nat.succ n) i_R02_Path (some p_R02_Path_c1) [A.t x0, A.t x1] =
  bif lt x1.n x0.l then bif ib x1.n x0.l then cl n i_R02_Right [aS (x0.a x1.n).s] fun v0 => bif !(r v0 0).b then rt [aB false] else D n i_R02_Path (some p_R02_Path_c1) [aL x0.k,aI (w6 (x1.n + 1))] else none else some (2,[aL x0.k]) := by kernel_rfl
theorem q_R02_Right (n : Nat) (x0 : T) : den Tryd.prog G0 ents (Nat.succ n) i_R02_Right none [A.t x0] =
  bif lt x0.z 1 == false then bif gt x0.z 16 == false then cl n i_R02_Word [aS x0.s] fun v0 => bif gt (r v0 0).n 0 == false then bif lt 0 x0.z then bif lt ((UInt8.toNat (Array.getD (ByteArray.data x0.s) 0 0) : Nat) : Int) 97 == false then bif lt 0 x0.z then bif gt ((UInt8.toNat (Array.getD (ByteArray.data x0.s) 0 0) : Nat) : Int) 122 then rt [aB false] else lp n i_R02_Right p_R02_Right_c1 [aS x0.s,aI 1] fun v1 => bif Nat.beq v1.1 2 then rt [aB true] else bif Nat.beq v1.1 1 then rt [aB (r v1.2 0).b] else none else none else rt [aB false] else none else rt [aB false] else rt [aB false] else rt [aB false] := by kernel_rfl
theorem q_R02_Right_c1 (n : Nat) (x0 x1 : T) : den Tryd.prog G0 ents (Nat.succ n) i_R02_Right (some p_R02_Right_c1) [A.t x0, A.t x1] =
  bif lt x1.n x0.z then bif ib x1.n x0.z then bif ge ((UInt8.toNat (Array.getD (ByteArray.data x0.s) (Int.toNat x1.n) 0) : Nat) : Int) 97 == true then bif ib x1.n x0.z then bif ib x1.n x0.z then bif ge ((UInt8.toNat (Array.getD (ByteArray.data x0.s) (Int.toNat x1.n) 0) : Nat) : Int) 48 == true then bif ib x1.n x0.z then bif (!(le ((UInt8.toNat (Array.getD (ByteArray.data x0.s) (Int.toNat x1.n) 0) : Nat) : Int) 122)) == true then bif (!(le ((UInt8.toNat (Array.getD (ByteArray.data x0.s) (Int.toNat x1.n) 0) : Nat) : Int) 57)) == true then bif ib x1.n x0.z then bif ((UInt8.toNat (Array.getD (ByteArray.data x0.s) (Int.toNat x1.n) 0) : Nat) : Int) != 95 then rt [aB false] else D n i_R02_Right (some p_R02_Right_c1) [aS x0.s,aI (w6 (x1.n + 1))] else none else D n i_R02_Right (some p_R02_Right_c1) [aS x0.s,aI (w6 (x1.n + 1))] else D n i_R02_Right (some p_R02_Right_c1) [aS x0.s,aI (w6 (x1.n + 1))] else none else bif (!(le ((UInt8.toNat (Array.getD (ByteArray.data x0.s) (Int.toNat x1.n) 0) : Nat) : Int) 122)) == true then bif ib x1.n x0.z then bif ((UInt8.toNat (Array.getD (ByteArray.data x0.s) (Int.toNat x1.n) 0) : Nat) : Int) != 95 then rt [aB false] else D n i_R02_Right (some p_R02_Right_c1) [aS x0.s,aI (w6 (x1.n + 1))] else none else D n i_R02_Right (some p_R02_Right_c1) [aS x0.s,aI (w6 (x1.n + 1))] else none else none else bif ib x1.n x0.z then bif ge ((UInt8.toNat (Array.getD (ByteArray.data x0.s) (Int.toNat x1.n) 0) : Nat) : Int) 48 == true then bif ib x1.n x0.z then bif (!(le ((UInt8.toNat (Array.getD (ByteArray.data x0.s) (Int.toNat x1.n) 0) : Nat) : Int) 57)) == true then bif ib x1.n x0.z then bif ((UInt8.toNat (Array.getD (ByteArray.data x0.s) (Int.toNat x1.n) 0) : Nat) : Int) != 95 then rt [aB false] else D n i_R02_Right (some p_R02_Right_c1) [aS x0.s,aI (w6 (x1.n + 1))] else none else D n i_R02_Right (some p_R02_Right_c1) [aS x0.s,aI (w6 (x1.n + 1))] else none else bif ib x1.n x0.z then bif ((UInt8.toNat (Array.getD (ByteArray.data x0.s) (Int.toNat x1.n) 0) : Nat) : Int) != 95 then rt [aB false] else D n i_R02_Right (some p_R02_Right_c1) [aS x0.s,aI (w6 (x1.n + 1))] else none else none else none else some (2,[]) := by kernel_rfl
theorem q_R02_Word (n : Nat) (x0 : T) : den Tryd.prog G0 ents (Nat.succ n) i_R02_Word none [A.t x0] =
  bif seqB x0.s (bs [97,110,121]) then rt [aI 1] else bif seqB x0.s (bs [98,111,111,108]) then rt [aI 2] else bif seqB x0.s (bs [99,111,109,112,117,116,101,100]) then rt [aI 3] else bif seqB x0.s (bs [102,97,108,115,101]) then rt [aI 4] else bif seqB x0.s (bs [105,110,116]) then rt [aI 5] else bif seqB x0.s (bs [110,111,110,101]) then rt [aI 6] else bif seqB x0.s (bs [114,101,115,111,117,114,99,101]) then rt [aI 7] else bif seqB x0.s (bs [115,116,114,105,110,103]) then rt [aI 8] else bif seqB x0.s (bs [116,114,117,101]) then rt [aI 9] else rt [aI 0] := by kernel_rfl
theorem q_R13_pairs (n : Nat) (x0 : T) : den Tryd.prog G0 ents (Nat.succ n) i_R13_pairs none [A.t x0] =
  lp n i_R13_pairs p_R13_pairs_c1 [aL x0.k,aI 0,aL []] fun v0 => bif Nat.beq v0.1 2 then bif le (r v0.2 0).l 32 == true then cl n i_R02_Rising_o [aL (r v0.2 1).k] fun v1 => rt [aB (r v1 0).b] else rt [aB false] else bif Nat.beq v0.1 1 then rt [aB (r v0.2 0).b] else none := by kernel_rfl
theorem q_R13_pairs_c1 (n : Nat) (x0 x1 x2 : T) : den Tryd.prog G0 ents (Nat.succ n) i_R13_pairs (some p_R13_pairs_c1) [A.t x0, A.t x1, A.t x2] =
  bif lt x1.n x0.l then bif ib x1.n x0.l then bif decide (Nat.succ (List.length x2.k) < 1073741824) then bif ib x1.n x0.l then cl n i_R13_Right [A.t ((x0.a x1.n).g 1)] fun v0 => bif !(r v0 0).b then rt [aB false] else D n i_R13_pairs (some p_R13_pairs_c1) [aL x0.k,aI (w6 (x1.n + 1)),aL (x2.k ++ [T.str ((x0.a x1.n).g 0).s])] else none else none else none else some (2,[aL x0.k,aL x2.k]) := by kernel_rfl
theorem q_R13_kids (n : Nat) (x0 x1 x2 : T) : den Tryd.prog G0 ents (Nat.succ n) i_R13_kids none [A.t x0, A.t x1, A.t x2] =
  lp n i_R13_kids p_R13_kids_c1 [aL x0.k,aI x1.n,aI x2.n,aI 0] fun v0 => bif Nat.beq v0.1 2 then bif ge (r v0.2 0).l (r v0.2 1).n == true then rt [aB (le (r v0.2 0).l (r v0.2 2).n)] else rt [aB false] else bif Nat.beq v0.1 1 then rt [aB (r v0.2 0).b] else none := by kernel_rfl
theorem q_R13_kids_c1 (n : Nat) (x0 x1 x2 x3 : T) : den Tryd.prog G0 ents (Nat.succ n) i_R13_kids (some p_R13_kids_c1) [A.t x0, A.t x1, A.t x2, A.t x3] =
  bif lt x3.n x0.l then bif ib x3.n x0.l then cl n i_R13_Right [A.t (x0.a x3.n)] fun v0 => bif !(r v0 0).b then rt [aB false] else D n i_R13_kids (some p_R13_kids_c1) [aL x0.k,aI x1.n,aI x2.n,aI (w6 (x3.n + 1))] else none else some (2,[aL x0.k,aI x1.n,aI x2.n]) := by kernel_rfl
theorem q_R13_Depth (n : Nat) (x0 : T) : den Tryd.prog G0 ents (Nat.succ n) i_R13_Depth none [A.t x0] =
  cl n i_R13_Parts [A.t x0] fun v0 => lp n i_R13_Depth p_R13_Depth_c1 [aI 0,aL (r v0 0).k,aI 0] fun v1 => bif Nat.beq v1.1 2 then rt [aI (w6 (1 + (r v1.2 0).n))] else none := by kernel_rfl
theorem q_R13_Depth_c1 (n : Nat) (x0 x1 x2 : T) : den Tryd.prog G0 ents (Nat.succ n) i_R13_Depth (some p_R13_Depth_c1) [A.t x0, A.t x1, A.t x2] =
  bif lt x2.n x1.l then bif ib x2.n x1.l then cl n i_R13_Depth [A.t (x1.a x2.n)] fun v0 => bif gt (r v0 0).n x0.n then D n i_R13_Depth (some p_R13_Depth_c1) [aI (r v0 0).n,aL x1.k,aI (w6 (x2.n + 1))] else D n i_R13_Depth (some p_R13_Depth_c1) [aI x0.n,aL x1.k,aI (w6 (x2.n + 1))] else none else some (2,[aI x0.n]) := by kernel_rfl
theorem q_R13_Parts (n : Nat) (x0 : T) : den Tryd.prog G0 ents (Nat.succ n) i_R13_Parts none [A.t x0] =
  bif (x0.g 0).n != 10 then rt [aL (x0.g 6).k] else lp n i_R13_Parts p_R13_Parts_c1 [aI 0,A.t x0,aL []] fun v0 => bif Nat.beq v0.1 2 then rt [aL (r v0.2 0).k] else none := by kernel_rfl
theorem q_R13_Parts_c1 (n : Nat) (x0 x1 x2 : T) : den Tryd.prog G0 ents (Nat.succ n) i_R13_Parts (some p_R13_Parts_c1) [A.t x0, A.t x1, A.t x2] =
  bif lt x0.n (x1.g 4).l then bif ib x0.n (x1.g 4).l then bif decide (Nat.succ (List.length x2.k) < 1073741824) then D n i_R13_Parts (some p_R13_Parts_c1) [aI (w6 (x0.n + 1)),A.t x1,aL (x2.k ++ [((x1.g 4).a x0.n).g 1])] else none else none else some (2,[aL x2.k]) := by kernel_rfl
theorem q_R01_Text (n : Nat) (x0 : T) : den Tryd.prog G0 ents (Nat.succ n) i_R01_Text none [A.t x0] =
  bif ge x0.n 0 == true then bif lt x0.n 10 then rt [aS (bytesT [T.int (wb (w6 (48 + x0.n)))])] else bif gt x0.n 0 then cl n i_R01_Text [aI (w6 (Int.tdiv x0.n 10))] fun v0 => bif decide ((ByteArray.size (r v0 0).s + ByteArray.size (bytesT [T.int (wb (w6 (48 + Int.tmod x0.n 10)))])) < 9223372036854775808) then rt [aS ((r v0 0).s ++ bytesT [T.int (wb (w6 (48 + Int.tmod x0.n 10)))])] else none else bif gt x0.n (-10) then bif decide ((1 + ByteArray.size (bytesT [T.int (wb (w6 (48 + w6 (0 - Int.tmod x0.n 10))))])) < 9223372036854775808) then rt [aS (bs [45] ++ bytesT [T.int (wb (w6 (48 + w6 (0 - Int.tmod x0.n 10))))])] else none else cl n i_R01_Text [aI (w6 (Int.tdiv x0.n 10))] fun v0 => bif decide ((ByteArray.size (r v0 0).s + ByteArray.size (bytesT [T.int (wb (w6 (48 + w6 (0 - Int.tmod x0.n 10))))])) < 9223372036854775808) then rt [aS ((r v0 0).s ++ bytesT [T.int (wb (w6 (48 + w6 (0 - Int.tmod x0.n 10))))])] else none else bif gt x0.n 0 then cl n i_R01_Text [aI (w6 (Int.tdiv x0.n 10))] fun v0 => bif decide ((ByteArray.size (r v0 0).s + ByteArray.size (bytesT [T.int (wb (w6 (48 + Int.tmod x0.n 10)))])) < 9223372036854775808) then rt [aS ((r v0 0).s ++ bytesT [T.int (wb (w6 (48 + Int.tmod x0.n 10)))])] else none else bif gt x0.n (-10) then bif decide ((1 + ByteArray.size (bytesT [T.int (wb (w6 (48 + w6 (0 - Int.tmod x0.n 10))))])) < 9223372036854775808) then rt [aS (bs [45] ++ bytesT [T.int (wb (w6 (48 + w6 (0 - Int.tmod x0.n 10))))])] else none else cl n i_R01_Text [aI (w6 (Int.tdiv x0.n 10))] fun v0 => bif decide ((ByteArray.size (r v0 0).s + ByteArray.size (bytesT [T.int (wb (w6 (48 + w6 (0 - Int.tmod x0.n 10))))])) < 9223372036854775808) then rt [aS ((r v0 0).s ++ bytesT [T.int (wb (w6 (48 + w6 (0 - Int.tmod x0.n 10))))])] else none := by kernel_rfl
theorem q_R15_Of (n : Nat) (x0 : T) : den Tryd.prog G0 ents (Nat.succ n) i_R15_Of none [A.t x0] =
  bif (x0.g 0).n == 1 then cl n i_R01_Text [aI (x0.g 1).n] fun v0 => rt [aS (r v0 0).s] else bif (x0.g 0).n == 2 then cl n i_R12_Quote [aS (x0.g 2).s] fun v0 => rt [aS (r v0 0).s] else bif (x0.g 0).n == 3 then bif (x0.g 1).n == 1 then rt [aS (bs [116,114,117,101])] else rt [aS (bs [102,97,108,115,101])] else bif (x0.g 0).n == 4 then cl n i_R15_kind [aI (x0.g 1).n] fun v0 => rt [aS (r v0 0).s] else bif (x0.g 0).n == 5 then rt [aS (bs [110,111,110,101])] else bif (x0.g 0).n == 6 then rt [aS (bs [99,111,109,112,117,116,101,100])] else bif (x0.g 0).n == 7 then cl n i_R01_Text [aI (x0.g 1).n] fun v0 => bif decide ((2 + ByteArray.size (r v0 0).s) < 9223372036854775808) then rt [aS (bs [62,61] ++ (r v0 0).s)] else none else bif (x0.g 0).n == 8 then cl n i_R01_Text [aI (x0.g 1).n] fun v0 => bif decide ((2 + ByteArray.size (r v0 0).s) < 9223372036854775808) then rt [aS (bs [60,61] ++ (r v0 0).s)] else none else bif (x0.g 0).n == 9 then cl n i_R02_Text [aL (x0.g 3).k] fun v0 => rt [aS (r v0 0).s] else bif (x0.g 0).n == 10 then lp n i_R15_Of p_R15_Of_c1 [aS (bs []),aI 0,A.t x0] fun v0 => bif Nat.beq v0.1 3 then bif ((r v0.2 1).g 5).b == true then bif gt ((r v0.2 1).g 4).l 0 then bif decide (Nat.succ (ByteArray.size (r v0.2 0).s) < 9223372036854775808) then bif ((r v0.2 1).g 5).b then bif decide (Nat.succ (Nat.succ (Nat.succ (ByteArray.size ((r v0.2 0).s ++ bs [32])))) < 9223372036854775808) then bif decide ((1 + ByteArray.size (((r v0.2 0).s ++ bs [32]) ++ bs [46,46,46])) < 9223372036854775808) then bif decide (Nat.succ (ByteArray.size (bs [123] ++ (((r v0.2 0).s ++ bs [32]) ++ bs [46,46,46]))) < 9223372036854775808) then rt [aS ((bs [123] ++ (((r v0.2 0).s ++ bs [32]) ++ bs [46,46,46])) ++ bs [125])] else none else none else none else bif decide ((1 + ByteArray.size ((r v0.2 0).s ++ bs [32])) < 9223372036854775808) then bif decide (Nat.succ (ByteArray.size (bs [123] ++ ((r v0.2 0).s ++ bs [32]))) < 9223372036854775808) then rt [aS ((bs [123] ++ ((r v0.2 0).s ++ bs [32])) ++ bs [125])] else none else none else none else bif ((r v0.2 1).g 5).b then bif decide (Nat.succ (Nat.succ (Nat.succ (ByteArray.size (r v0.2 0).s))) < 9223372036854775808) then bif decide ((1 + ByteArray.size ((r v0.2 0).s ++ bs [46,46,46])) < 9223372036854775808) then bif decide (Nat.succ (ByteArray.size (bs [123] ++ ((r v0.2 0).s ++ bs [46,46,46]))) < 9223372036854775808) then rt [aS ((bs [123] ++ ((r v0.2 0).s ++ bs [46,46,46])) ++ bs [125])] else none else none else none else bif decide ((1 + ByteArray.size (r v0.2 0).s) < 9223372036854775808) then bif decide (Nat.succ (ByteArray.size (bs [123] ++ (r v0.2 0).s)) < 9223372036854775808) then rt [aS ((bs [123] ++ (r v0.2 0).s) ++ bs [125])] else none else none else bif ((r v0.2 1).g 5).b then bif decide (Nat.succ (Nat.succ (Nat.succ (ByteArray.size (r v0.2 0).s))) < 9223372036854775808) then bif decide ((1 + ByteArray.size ((r v0.2 0).s ++ bs [46,46,46])) < 9223372036854775808) then bif decide (Nat.succ (ByteArray.size (bs [123] ++ ((r v0.2 0).s ++ bs [46,46,46]))) < 9223372036854775808) then rt [aS ((bs [123] ++ ((r v0.2 0).s ++ bs [46,46,46])) ++ bs [125])] else none else none else none else bif decide ((1 + ByteArray.size (r v0.2 0).s) < 9223372036854775808) then bif decide (Nat.succ (ByteArray.size (bs [123] ++ (r v0.2 0).s)) < 9223372036854775808) then rt [aS ((bs [123] ++ (r v0.2 0).s) ++ bs [125])] else none else none else none else lp n i_R15_Of p_R15_Of_c2 [aS (bs []),aI 0,A.t x0] fun v0 => bif Nat.beq v0.1 5 then rt [aS (r v0.2 0).s] else none := by kernel_rfl
theorem q_R15_Of_c1 (n : Nat) (x0 x1 x2 : T) : den Tryd.prog G0 ents (Nat.succ n) i_R15_Of (some p_R15_Of_c1) [A.t x0, A.t x1, A.t x2] =
  bif lt x1.n (x2.g 4).l then bif gt x1.n 0 then bif decide (Nat.succ (ByteArray.size x0.s) < 9223372036854775808) then bif ib x1.n (x2.g 4).l then bif decide ((ByteArray.size (x0.s ++ bs [32]) + ByteArray.size (((x2.g 4).a x1.n).g 0).s) < 9223372036854775808) then bif decide (Nat.succ (Nat.succ (ByteArray.size ((x0.s ++ bs [32]) ++ (((x2.g 4).a x1.n).g 0).s))) < 9223372036854775808) then bif ib x1.n (x2.g 4).l then cl n i_R15_Of [A.t (((x2.g 4).a x1.n).g 1)] fun v0 => bif decide ((ByteArray.size (((x0.s ++ bs [32]) ++ (((x2.g 4).a x1.n).g 0).s) ++ bs [58,32]) + ByteArray.size (r v0 0).s) < 9223372036854775808) then bif decide (Nat.succ (ByteArray.size ((((x0.s ++ bs [32]) ++ (((x2.g 4).a x1.n).g 0).s) ++ bs [58,32]) ++ (r v0 0).s)) < 9223372036854775808) then D n i_R15_Of (some p_R15_Of_c1) [aS (((((x0.s ++ bs [32]) ++ (((x2.g 4).a x1.n).g 0).s) ++ bs [58,32]) ++ (r v0 0).s) ++ bs [59]),aI (w6 (x1.n + 1)),A.t x2] else none else none else none else none else none else none else none else bif ib x1.n (x2.g 4).l then bif decide ((ByteArray.size x0.s + ByteArray.size (((x2.g 4).a x1.n).g 0).s) < 9223372036854775808) then bif decide (Nat.succ (Nat.succ (ByteArray.size (x0.s ++ (((x2.g 4).a x1.n).g 0).s))) < 9223372036854775808) then bif ib x1.n (x2.g 4).l then cl n i_R15_Of [A.t (((x2.g 4).a x1.n).g 1)] fun v0 => bif decide ((ByteArray.size ((x0.s ++ (((x2.g 4).a x1.n).g 0).s) ++ bs [58,32]) + ByteArray.size (r v0 0).s) < 9223372036854775808) then bif decide (Nat.succ (ByteArray.size (((x0.s ++ (((x2.g 4).a x1.n).g 0).s) ++ bs [58,32]) ++ (r v0 0).s)) < 9223372036854775808) then D n i_R15_Of (some p_R15_Of_c1) [aS ((((x0.s ++ (((x2.g 4).a x1.n).g 0).s) ++ bs [58,32]) ++ (r v0 0).s) ++ bs [59]),aI (w6 (x1.n + 1)),A.t x2] else none else none else none else none else none else none else some (3,[aS x0.s,A.t x2]) := by kernel_rfl
theorem q_R15_Of_c2 (n : Nat) (x0 x1 x2 : T) : den Tryd.prog G0 ents (Nat.succ n) i_R15_Of (some p_R15_Of_c2) [A.t x0, A.t x1, A.t x2] =
  bif lt x1.n (x2.g 6).l then bif gt x1.n 0 then cl n i_R15_sign [aI (x2.g 0).n] fun v0 => bif decide ((ByteArray.size x0.s + ByteArray.size (r v0 0).s) < 9223372036854775808) then bif ib x1.n (x2.g 6).l then cl n i_R15_bracketed [aI (x2.g 0).n,aI x1.n,aI (((x2.g 6).a x1.n).g 0).n] fun v1 => bif (r v1 0).b then bif decide (Nat.succ (ByteArray.size (x0.s ++ (r v0 0).s)) < 9223372036854775808) then bif ib x1.n (x2.g 6).l then cl n i_R15_Of [A.t ((x2.g 6).a x1.n)] fun v2 => bif decide ((ByteArray.size ((x0.s ++ (r v0 0).s) ++ bs [40]) + ByteArray.size (r v2 0).s) < 9223372036854775808) then bif decide (Nat.succ (ByteArray.size (((x0.s ++ (r v0 0).s) ++ bs [40]) ++ (r v2 0).s)) < 9223372036854775808) then D n i_R15_Of (some p_R15_Of_c2) [aS ((((x0.s ++ (r v0 0).s) ++ bs [40]) ++ (r v2 0).s) ++ bs [41]),aI (w6 (x1.n + 1)),A.t x2] else none else none else none else none else bif ib x1.n (x2.g 6).l then cl n i_R15_Of [A.t ((x2.g 6).a x1.n)] fun v2 => bif decide ((ByteArray.size (x0.s ++ (r v0 0).s) + ByteArray.size (r v2 0).s) < 9223372036854775808) then D n i_R15_Of (some p_R15_Of_c2) [aS ((x0.s ++ (r v0 0).s) ++ (r v2 0).s),aI (w6 (x1.n + 1)),A.t x2] else none else none else none else none else bif ib x1.n (x2.g 6).l then cl n i_R15_bracketed [aI (x2.g 0).n,aI x1.n,aI (((x2.g 6).a x1.n).g 0).n] fun v0 => bif (r v0 0).b then bif decide (Nat.succ (ByteArray.size x0.s) < 9223372036854775808) then bif ib x1.n (x2.g 6).l then cl n i_R15_Of [A.t ((x2.g 6).a x1.n)] fun v1 => bif decide ((ByteArray.size (x0.s ++ bs [40]) + ByteArray.size (r v1 0).s) < 9223372036854775808) then bif decide (Nat.succ (ByteArray.size ((x0.s ++ bs [40]) ++ (r v1 0).s)) < 9223372036854775808) then D n i_R15_Of (some p_R15_Of_c2) [aS (((x0.s ++ bs [40]) ++ (r v1 0).s) ++ bs [41]),aI (w6 (x1.n + 1)),A.t x2] else none else none else none else none else bif ib x1.n (x2.g 6).l then cl n i_R15_Of [A.t ((x2.g 6).a x1.n)] fun v1 => bif decide ((ByteArray.size x0.s + ByteArray.size (r v1 0).s) < 9223372036854775808) then D n i_R15_Of (some p_R15_Of_c2) [aS (x0.s ++ (r v1 0).s),aI (w6 (x1.n + 1)),A.t x2] else none else none else none else some (5,[aS x0.s]) := by kernel_rfl
theorem q_R12_Quote (n : Nat) (x0 : T) : den Tryd.prog G0 ents (Nat.succ n) i_R12_Quote none [A.t x0] =
  lp n i_R12_Quote p_R12_Quote_c1 [aS x0.s,aS (bs [48,49,50,51,52,53,54,55,56,57,97,98,99,100,101,102]),aS (bs [34]),aI 0] fun v0 => bif Nat.beq v0.1 2 then bif decide (Nat.succ (ByteArray.size (r v0.2 0).s) < 9223372036854775808) then rt [aS ((r v0.2 0).s ++ bs [34])] else none else none := by kernel_rfl
theorem q_R12_Quote_c1 (n : Nat) (x0 x1 x2 x3 : T) : den Tryd.prog G0 ents (Nat.succ n) i_R12_Quote (some p_R12_Quote_c1) [A.t x0, A.t x1, A.t x2, A.t x3] =
  bif lt x3.n x0.z then bif ib x3.n x0.z then bif (w6 ((UInt8.toNat (Array.getD (ByteArray.data x0.s) (Int.toNat x3.n) 0) : Nat) : Int) == 34) == false then bif w6 ((UInt8.toNat (Array.getD (ByteArray.data x0.s) (Int.toNat x3.n) 0) : Nat) : Int) == 92 then bif decide (Nat.succ (ByteArray.size x2.s) < 9223372036854775808) then bif Bool.and (Bool.and (Bool.and (le 0 (w6 (x3.n + 1))) (le (w6 (x3.n + 1)) x0.z)) (le 0 x3.n)) (le x3.n (w6 (x3.n + 1))) then bif decide ((ByteArray.size (x2.s ++ bs [92]) + ByteArray.size (ByteArray.extract x0.s (Int.toNat x3.n) (Int.toNat (w6 (x3.n + 1))))) < 9223372036854775808) then D n i_R12_Quote (some p_R12_Quote_c1) [aS x0.s,aS x1.s,aS ((x2.s ++ bs [92]) ++ ByteArray.extract x0.s (Int.toNat x3.n) (Int.toNat (w6 (x3.n + 1)))),aI (w6 (x3.n + 1))] else none else none else none else bif w6 ((UInt8.toNat (Array.getD (ByteArray.data x0.s) (Int.toNat x3.n) 0) : Nat) : Int) == 10 then bif decide (Nat.succ (Nat.succ (ByteArray.size x2.s)) < 9223372036854775808) then D n i_R12_Quote (some p_R12_Quote_c1) [aS x0.s,aS x1.s,aS (x2.s ++ bs [92,110]),aI (w6 (x3.n + 1))] else none else bif lt (w6 ((UInt8.toNat (Array.getD (ByteArray.data x0.s) (Int.toNat x3.n) 0) : Nat) : Int)) 32 == false then bif gt (w6 ((UInt8.toNat (Array.getD (ByteArray.data x0.s) (Int.toNat x3.n) 0) : Nat) : Int)) 126 then bif decide (Nat.succ (Nat.succ (ByteArray.size x2.s)) < 9223372036854775808) then bif Bool.and (Bool.and (Bool.and (le 0 (w6 (w6 (Int.tdiv (w6 ((UInt8.toNat (Array.getD (ByteArray.data x0.s) (Int.toNat x3.n) 0) : Nat) : Int)) 16) + 1))) (le (w6 (w6 (Int.tdiv (w6 ((UInt8.toNat (Array.getD (ByteArray.data x0.s) (Int.toNat x3.n) 0) : Nat) : Int)) 16) + 1)) x1.z)) (le 0 (w6 (Int.tdiv (w6 ((UInt8.toNat (Array.getD (ByteArray.data x0.s) (Int.toNat x3.n) 0) : Nat) : Int)) 16)))) (le (w6 (Int.tdiv (w6 ((UInt8.toNat (Array.getD (ByteArray.data x0.s) (Int.toNat x3.n) 0) : Nat) : Int)) 16)) (w6 (w6 (Int.tdiv (w6 ((UInt8.toNat (Array.getD (ByteArray.data x0.s) (Int.toNat x3.n) 0) : Nat) : Int)) 16) + 1))) then bif decide ((ByteArray.size (x2.s ++ bs [92,120]) + ByteArray.size (ByteArray.extract x1.s (Int.toNat (w6 (Int.tdiv (w6 ((UInt8.toNat (Array.getD (ByteArray.data x0.s) (Int.toNat x3.n) 0) : Nat) : Int)) 16))) (Int.toNat (w6 (w6 (Int.tdiv (w6 ((UInt8.toNat (Array.getD (ByteArray.data x0.s) (Int.toNat x3.n) 0) : Nat) : Int)) 16) + 1))))) < 9223372036854775808) then bif Bool.and (Bool.and (Bool.and (le 0 (w6 (Int.tmod (w6 ((UInt8.toNat (Array.getD (ByteArray.data x0.s) (Int.toNat x3.n) 0) : Nat) : Int)) 16 + 1))) (le (w6 (Int.tmod (w6 ((UInt8.toNat (Array.getD (ByteArray.data x0.s) (Int.toNat x3.n) 0) : Nat) : Int)) 16 + 1)) x1.z)) (le 0 (Int.tmod (w6 ((UInt8.toNat (Array.getD (ByteArray.data x0.s) (Int.toNat x3.n) 0) : Nat) : Int)) 16))) (le (Int.tmod (w6 ((UInt8.toNat (Array.getD (ByteArray.data x0.s) (Int.toNat x3.n) 0) : Nat) : Int)) 16) (w6 (Int.tmod (w6 ((UInt8.toNat (Array.getD (ByteArray.data x0.s) (Int.toNat x3.n) 0) : Nat) : Int)) 16 + 1))) then bif decide ((ByteArray.size ((x2.s ++ bs [92,120]) ++ ByteArray.extract x1.s (Int.toNat (w6 (Int.tdiv (w6 ((UInt8.toNat (Array.getD (ByteArray.data x0.s) (Int.toNat x3.n) 0) : Nat) : Int)) 16))) (Int.toNat (w6 (w6 (Int.tdiv (w6 ((UInt8.toNat (Array.getD (ByteArray.data x0.s) (Int.toNat x3.n) 0) : Nat) : Int)) 16) + 1)))) + ByteArray.size (ByteArray.extract x1.s (Int.toNat (Int.tmod (w6 ((UInt8.toNat (Array.getD (ByteArray.data x0.s) (Int.toNat x3.n) 0) : Nat) : Int)) 16)) (Int.toNat (w6 (Int.tmod (w6 ((UInt8.toNat (Array.getD (ByteArray.data x0.s) (Int.toNat x3.n) 0) : Nat) : Int)) 16 + 1))))) < 9223372036854775808) then D n i_R12_Quote (some p_R12_Quote_c1) [aS x0.s,aS x1.s,aS (((x2.s ++ bs [92,120]) ++ ByteArray.extract x1.s (Int.toNat (w6 (Int.tdiv (w6 ((UInt8.toNat (Array.getD (ByteArray.data x0.s) (Int.toNat x3.n) 0) : Nat) : Int)) 16))) (Int.toNat (w6 (w6 (Int.tdiv (w6 ((UInt8.toNat (Array.getD (ByteArray.data x0.s) (Int.toNat x3.n) 0) : Nat) : Int)) 16) + 1)))) ++ ByteArray.extract x1.s (Int.toNat (Int.tmod (w6 ((UInt8.toNat (Array.getD (ByteArray.data x0.s) (Int.toNat x3.n) 0) : Nat) : Int)) 16)) (Int.toNat (w6 (Int.tmod (w6 ((UInt8.toNat (Array.getD (ByteArray.data x0.s) (Int.toNat x3.n) 0) : Nat) : Int)) 16 + 1)))),aI (w6 (x3.n + 1))] else none else none else none else none else none else bif Bool.and (Bool.and (Bool.and (le 0 (w6 (x3.n + 1))) (le (w6 (x3.n + 1)) x0.z)) (le 0 x3.n)) (le x3.n (w6 (x3.n + 1))) then bif decide ((ByteArray.size x2.s + ByteArray.size (ByteArray.extract x0.s (Int.toNat x3.n) (Int.toNat (w6 (x3.n + 1))))) < 9223372036854775808) then D n i_R12_Quote (some p_R12_Quote_c1) [aS x0.s,aS x1.s,aS (x2.s ++ ByteArray.extract x0.s (Int.toNat x3.n) (Int.toNat (w6 (x3.n + 1)))),aI (w6 (x3.n + 1))] else none else none else bif decide (Nat.succ (Nat.succ (ByteArray.size x2.s)) < 9223372036854775808) then bif Bool.and (Bool.and (Bool.and (le 0 (w6 (w6 (Int.tdiv (w6 ((UInt8.toNat (Array.getD (ByteArray.data x0.s) (Int.toNat x3.n) 0) : Nat) : Int)) 16) + 1))) (le (w6 (w6 (Int.tdiv (w6 ((UInt8.toNat (Array.getD (ByteArray.data x0.s) (Int.toNat x3.n) 0) : Nat) : Int)) 16) + 1)) x1.z)) (le 0 (w6 (Int.tdiv (w6 ((UInt8.toNat (Array.getD (ByteArray.data x0.s) (Int.toNat x3.n) 0) : Nat) : Int)) 16)))) (le (w6 (Int.tdiv (w6 ((UInt8.toNat (Array.getD (ByteArray.data x0.s) (Int.toNat x3.n) 0) : Nat) : Int)) 16)) (w6 (w6 (Int.tdiv (w6 ((UInt8.toNat (Array.getD (ByteArray.data x0.s) (Int.toNat x3.n) 0) : Nat) : Int)) 16) + 1))) then bif decide ((ByteArray.size (x2.s ++ bs [92,120]) + ByteArray.size (ByteArray.extract x1.s (Int.toNat (w6 (Int.tdiv (w6 ((UInt8.toNat (Array.getD (ByteArray.data x0.s) (Int.toNat x3.n) 0) : Nat) : Int)) 16))) (Int.toNat (w6 (w6 (Int.tdiv (w6 ((UInt8.toNat (Array.getD (ByteArray.data x0.s) (Int.toNat x3.n) 0) : Nat) : Int)) 16) + 1))))) < 9223372036854775808) then bif Bool.and (Bool.and (Bool.and (le 0 (w6 (Int.tmod (w6 ((UInt8.toNat (Array.getD (ByteArray.data x0.s) (Int.toNat x3.n) 0) : Nat) : Int)) 16 + 1))) (le (w6 (Int.tmod (w6 ((UInt8.toNat (Array.getD (ByteArray.data x0.s) (Int.toNat x3.n) 0) : Nat) : Int)) 16 + 1)) x1.z)) (le 0 (Int.tmod (w6 ((UInt8.toNat (Array.getD (ByteArray.data x0.s) (Int.toNat x3.n) 0) : Nat) : Int)) 16))) (le (Int.tmod (w6 ((UInt8.toNat (Array.getD (ByteArray.data x0.s) (Int.toNat x3.n) 0) : Nat) : Int)) 16) (w6 (Int.tmod (w6 ((UInt8.toNat (Array.getD (ByteArray.data x0.s) (Int.toNat x3.n) 0) : Nat) : Int)) 16 + 1))) then bif decide ((ByteArray.size ((x2.s ++ bs [92,120]) ++ ByteArray.extract x1.s (Int.toNat (w6 (Int.tdiv (w6 ((UInt8.toNat (Array.getD (ByteArray.data x0.s) (Int.toNat x3.n) 0) : Nat) : Int)) 16))) (Int.toNat (w6 (w6 (Int.tdiv (w6 ((UInt8.toNat (Array.getD (ByteArray.data x0.s) (Int.toNat x3.n) 0) : Nat) : Int)) 16) + 1)))) + ByteArray.size (ByteArray.extract x1.s (Int.toNat (Int.tmod (w6 ((UInt8.toNat (Array.getD (ByteArray.data x0.s) (Int.toNat x3.n) 0) : Nat) : Int)) 16)) (Int.toNat (w6 (Int.tmod (w6 ((UInt8.toNat (Array.getD (ByteArray.data x0.s) (Int.toNat x3.n) 0) : Nat) : Int)) 16 + 1))))) < 9223372036854775808) then D n i_R12_Quote (some p_R12_Quote_c1) [aS x0.s,aS x1.s,aS (((x2.s ++ bs [92,120]) ++ ByteArray.extract x1.s (Int.toNat (w6 (Int.tdiv (w6 ((UInt8.toNat (Array.getD (ByteArray.data x0.s) (Int.toNat x3.n) 0) : Nat) : Int)) 16))) (Int.toNat (w6 (w6 (Int.tdiv (w6 ((UInt8.toNat (Array.getD (ByteArray.data x0.s) (Int.toNat x3.n) 0) : Nat) : Int)) 16) + 1)))) ++ ByteArray.extract x1.s (Int.toNat (Int.tmod (w6 ((UInt8.toNat (Array.getD (ByteArray.data x0.s) (Int.toNat x3.n) 0) : Nat) : Int)) 16)) (Int.toNat (w6 (Int.tmod (w6 ((UInt8.toNat (Array.getD (ByteArray.data x0.s) (Int.toNat x3.n) 0) : Nat) : Int)) 16 + 1)))),aI (w6 (x3.n + 1))] else none else none else none else none else none else bif decide (Nat.succ (ByteArray.size x2.s) < 9223372036854775808) then bif Bool.and (Bool.and (Bool.and (le 0 (w6 (x3.n + 1))) (le (w6 (x3.n + 1)) x0.z)) (le 0 x3.n)) (le x3.n (w6 (x3.n + 1))) then bif decide ((ByteArray.size (x2.s ++ bs [92]) + ByteArray.size (ByteArray.extract x0.s (Int.toNat x3.n) (Int.toNat (w6 (x3.n + 1))))) < 9223372036854775808) then D n i_R12_Quote (some p_R12_Quote_c1) [aS x0.s,aS x1.s,aS ((x2.s ++ bs [92]) ++ ByteArray.extract x0.s (Int.toNat x3.n) (Int.toNat (w6 (x3.n + 1)))),aI (w6 (x3.n + 1))] else none else none else none else none else some (2,[aS x2.s]) := by kernel_rfl
theorem q_R15_kind (n : Nat) (x0 : T) : den Tryd.prog G0 ents (Nat.succ n) i_R15_kind none [A.t x0] =
  bif x0.n == 1 then rt [aS (bs [98,111,111,108])] else bif x0.n == 2 then rt [aS (bs [105,110,116])] else bif x0.n == 3 then rt [aS (bs [115,116,114,105,110,103])] else rt [aS (bs [97,110,121])] := by kernel_rfl
theorem q_R02_Text (n : Nat) (x0 : T) : den Tryd.prog G0 ents (Nat.succ n) i_R02_Text none [A.t x0] =
  cl n i_R02_Path [aL x0.k] fun v0 => bif !(r v0 0).b then rt [aS (bs [])] else bif lt 0 x0.l then lp n i_R02_Text p_R02_Text_c1 [aL x0.k,aS (tAtD x0.k 0).s,aI 1] fun v1 => bif Nat.beq v1.1 2 then rt [aS (r v1.2 0).s] else none else none := by kernel_rfl
theorem q_R02_Text_c1 (n : Nat) (x0 x1 x2 : T) : den Tryd.prog G0 ents (Nat.succ n) i_R02_Text (some p_R02_Text_c1) [A.t x0, A.t x1, A.t x2] =
  bif lt x2.n x0.l then bif decide (Nat.succ (ByteArray.size x1.s) < 9223372036854775808) then bif ib x2.n x0.l then bif decide ((ByteArray.size (x1.s ++ bs [46]) + ByteArray.size (x0.a x2.n).s) < 9223372036854775808) then D n i_R02_Text (some p_R02_Text_c1) [aL x0.k,aS ((x1.s ++ bs [46]) ++ (x0.a x2.n).s),aI (w6 (x2.n + 1))] else none else none else none else some (2,[aS x1.s]) := by kernel_rfl
theorem q_R15_sign (n : Nat) (x0 : T) : den Tryd.prog G0 ents (Nat.succ n) i_R15_sign none [A.t x0] =
  bif x0.n == 11 then rt [aS (bs [32,38,32])] else bif x0.n == 12 then rt [aS (bs [32,124,32])] else bif x0.n == 13 then rt [aS (bs [32,43,32])] else bif x0.n == 14 then rt [aS (bs [32,45,32])] else rt [aS (bs [32,42,32])] := by kernel_rfl
theorem q_R15_bracketed (n : Nat) (x0 x1 x2 : T) : den Tryd.prog G0 ents (Nat.succ n) i_R15_bracketed none [A.t x0, A.t x1, A.t x2] =
  bif (x2.n == 13) == false then bif x0.n == 12 then rt [aB (x2.n == 12)] else bif x0.n == 11 then bif (x2.n == 12) == false then rt [aB (x2.n == 11)] else rt [aB true] else bif x0.n == 13 then bif (x2.n == 12) == false then bif (x2.n == 11) == false then bif gt x1.n 0 == true then rt [aB (x2.n == 14)] else rt [aB false] else rt [aB true] else rt [aB true] else bif x0.n == 14 then bif (x2.n == 12) == false then bif (x2.n == 11) == false then bif gt x1.n 0 == true then rt [aB (x2.n == 14)] else rt [aB false] else rt [aB true] else rt [aB true] else bif (x2.n == 12) == false then bif (x2.n == 11) == false then bif (x2.n == 14) == false then bif gt x1.n 0 == true then rt [aB (x2.n == 15)] else rt [aB false] else rt [aB true] else rt [aB true] else rt [aB true] else bif x0.n == 12 then rt [aB (x2.n == 12)] else bif x0.n == 11 then bif (x2.n == 12) == false then rt [aB (x2.n == 11)] else rt [aB true] else bif x0.n == 13 then bif (x2.n == 12) == false then bif (x2.n == 11) == false then bif gt x1.n 0 == true then rt [aB true] else rt [aB false] else rt [aB true] else rt [aB true] else bif x0.n == 14 then bif (x2.n == 12) == false then bif (x2.n == 11) == false then bif gt x1.n 0 == true then rt [aB true] else rt [aB false] else rt [aB true] else rt [aB true] else bif (x2.n == 12) == false then bif (x2.n == 11) == false then rt [aB true] else rt [aB true] else rt [aB true] := by kernel_rfl
theorem q_show_glue_o (n : Nat) (x0 : T) : den Tryd.prog G0 ents (Nat.succ n) i_show_glue_o none [A.t x0] =
  cl n i_strings_Join_o [aS (bs []),aL x0.k] fun v0 => rt [aS (r v0 0).s,aL (r v0 1).k] := by kernel_rfl
theorem q_R02_Rising_o (n : Nat) (x0 : T) : den Tryd.prog G0 ents (Nat.succ n) i_R02_Rising_o none [A.t x0] =
  lp n i_R02_Rising_o p_R02_Rising_o_c1 [aI 0,aL x0.k] fun v0 => bif Nat.beq v0.1 2 then rt [aB true,aL (r v0.2 0).k] else bif Nat.beq v0.1 1 then rt [aB (r v0.2 0).b,aL (r v0.2 1).k] else none := by kernel_rfl
theorem q_R02_Rising_o_c1 (n : Nat) (x0 x1 : T) : den Tryd.prog G0 ents (Nat.succ n) i_R02_Rising_o (some p_R02_Rising_o_c1) [A.t x0, A.t x1] =
  bif lt x0.n x1.l then bif ib x0.n x1.l then bif decide (Int.toNat x0.n < List.length x1.k) then cl n i_R02_Right [aS (x1.a x0.n).s] fun v0 => bif (!(r v0 0).b) == false then bif gt x0.n 0 == true then bif ib (w6 (x0.n - 1)) x1.l then bif decide (Int.toNat (w6 (x0.n - 1)) < List.length x1.k) then bif ib x0.n x1.l then bif decide (Int.toNat x0.n < List.length x1.k) then bif !(sltB (x1.a (w6 (x0.n - 1))).s (x1.a x0.n).s) then rt [aB false,aL x1.k] else D n i_R02_Rising_o (some p_R02_Rising_o_c1) [aI (w6 (x0.n + 1)),aL x1.k] else none else none else none else none else D n i_R02_Rising_o (some p_R02_Rising_o_c1) [aI (w6 (x0.n + 1)),aL x1.k] else rt [aB false,aL x1.k] else none else none else some (2,[aL x1.k]) := by kernel_rfl
end Go.Proofs.YtdofdhlpheaonaaDoorKT
namespace Go.Proofs.YtdofdhlpheaonaaDoorKT
open Go Go.Proofs.YtdofdhlpheaonaaDoorVM
set_option linter.unusedVariables false
def terms (v : T) : List T := (v.get 0).kids
def flds (t : T) : List T := (t.get 7).kids
def nm (f : T) : ByteArray := (f.get 0).txt
def val (f : T) : T := f.get 1
def sumN (l : List Nat) : Nat := l.foldr (· + ·) 0
def wt : Nat → T → Nat
  | 0, _ => 0
  | d + 1, v => sumN ((terms v).map fun t => 1 + sumN ((flds t).map fun f => wt d (val f)))
def wtT (d : Nat) (t : T) : Nat := 1 + sumN ((flds t).map fun f => wt d (val f))
theorem wt_succ (d : Nat) (v : T) : wt (d + 1) v = sumN ((terms v).map (wtT d)) := rfl
def maxN (l : List Nat) : Nat := l.foldr max 0
def dep : Nat → T → Nat
  | 0, _ => 0
  | d + 1, v => 1 + maxN ((terms v).map fun t => maxN ((flds t).map fun f => dep d (val f)))
def Vd : Nat → T → Prop
  | 0, _ => False
  | d + 1, v => ∀ t ∈ terms v, (flds t).length ≤ 100 ∧ (t.get 3).txt.size ≤ 400 ∧ ∀ f ∈ flds t, (nm f).size ≤ 100 ∧ Vd d (val f)
theorem sum_foldl {α : Type} (f : α → Nat) : ∀ (l : List α) (a : Nat), l.foldl (fun a x => a + f x) a = a + sumN (l.map f)
  | [], a => by simp [sumN]
  | x :: l, a => by
    rw [List.foldl_cons, sum_foldl f l (a + f x)]
    simp only [List.map_cons, sumN, List.foldr_cons]
    omega
theorem max_foldl {α : Type} (f : α → Nat) : ∀ (l : List α) (a : Nat), l.foldl (fun a x => max a (f x)) a = max a (maxN (l.map f))
  | [], a => by simp [maxN]
  | x :: l, a => by
    rw [List.foldl_cons, max_foldl f l (max a (f x))]
    simp only [List.map_cons, maxN, List.foldr_cons]
    omega
theorem sum_mem {α : Type} {f : α → Nat} {l : List α} {x : α} (h : x ∈ l) : f x ≤ sumN (l.map f) := by
  induction l with
  | nil => cases h
  | cons y l ih =>
    simp only [List.map_cons, sumN, List.foldr_cons]
    rcases List.mem_cons.1 h with rfl | h
    · omega
    · have := ih h
      unfold sumN at this
      omega
theorem sum_len {α : Type} {f : α → Nat} {l : List α} (h : ∀ x ∈ l, 1 ≤ f x) : l.length ≤ sumN (l.map f) := by
  induction l with
  | nil => simp
  | cons y l ih =>
    have h1 := ih fun x hx => h x (List.mem_cons_of_mem _ hx)
    have h2 := h y List.mem_cons_self
    simp only [List.map_cons, sumN, List.foldr_cons, List.length_cons]
    unfold sumN at h1
    omega
def Sm (d : Nat) (v : T) : Prop := Vd d v ∧ wt d v ≤ 512
theorem Sm.terms {d : Nat} {v : T} (h : Sm d v) : (terms v).length ≤ 512 := by
  cases d with
  | zero => exact h.1.elim
  | succ d => exact Nat.le_trans (sum_len (f := wtT d) fun t _ => by unfold wtT; omega) h.2
theorem Sm.sub {d : Nat} {v t f : T} (h : Sm (d + 1) v) (ht : t ∈ YtdofdhlpheaonaaDoorKT.terms v) (hf : f ∈ flds t) : Sm d (val f) := by
  refine ⟨((h.1 t ht).2.2 f hf).2, ?_⟩
  have h1 : wt d (val f) ≤ wtT d t := by
    unfold wtT
    have := sum_mem (f := fun f => wt d (val f)) hf
    omega
  have h2 : wtT d t ≤ wt (d + 1) v := sum_mem (f := wtT d) ht
  have := h.2
  omega
theorem Sm.flds {d : Nat} {v t : T} (h : Sm (d + 1) v) (ht : t ∈ YtdofdhlpheaonaaDoorKT.terms v) : (YtdofdhlpheaonaaDoorKT.flds t).length ≤ 100 := (h.1 t ht).1
theorem Sm.wtT {d : Nat} {v t : T} (h : Sm (d + 1) v) (ht : t ∈ YtdofdhlpheaonaaDoorKT.terms v) : YtdofdhlpheaonaaDoorKT.wtT d t ≤ 512 := Nat.le_trans (sum_mem (f := YtdofdhlpheaonaaDoorKT.wtT d) ht) h.2

def leftFs (g : T → Int → Int) : List T → Int → Int
  | [], n => n
  | f :: fs, n => if n < 0 then n else if 100 < (nm f).size then -1 else leftFs g fs (g (val f) n)
def leftTs (g : T → Int → Int) : List T → Int → Int
  | [], n => n
  | t :: ts, n => if n < 0 then n else if 400 < (t.get 3).txt.size ∨ 100 < (flds t).length then -1 else leftTs g ts (leftFs g (flds t) (n - 1))
def leftF : Nat → T → Int → Int
  | 0, _, _ => -1
  | d + 1, v, n => if (((terms v).length : Nat) : Int) > n then -1 else leftTs (leftF d) (terms v) n
theorem leftFs_neg (g : T → Int → Int) : ∀ (l : List T) (n : Int), n < 0 → leftFs g l n = n
  | [], n, h => rfl
  | f :: fs, n, h => by rw [leftFs, if_pos h]
theorem leftTs_neg (g : T → Int → Int) : ∀ (l : List T) (n : Int), n < 0 → leftTs g l n = n
  | [], n, h => rfl
  | f :: fs, n, h => by rw [leftTs, if_pos h]
theorem left_few : ∀ (d : Nat) (v : T) (n : Int), 0 ≤ leftF d v n → Vd d v ∧ leftF d v n + (wt d v : Nat) = n
  | 0, v, n, h => by simp [leftF] at h
  | d + 1, v, n, h => by
    have hfs : ∀ (l : List T) (n : Int), 0 ≤ leftFs (leftF d) l n → (∀ f ∈ l, (nm f).size ≤ 100 ∧ Vd d (val f)) ∧ leftFs (leftF d) l n + (sumN (l.map fun f => wt d (val f)) : Nat) = n := by
      intro l
      induction l with
      | nil => intro n hn; exact ⟨by simp, by simp [leftFs, sumN]⟩
      | cons f l ih =>
        intro n hn
        rw [leftFs] at hn ⊢
        split at hn
        · omega
        · split at hn
          · omega
          · rename_i h1 h2
            rw [if_neg h1, if_neg h2]
            obtain ⟨q1, q2⟩ := ih _ hn
            have h3 : 0 ≤ leftF d (val f) n := by
              rcases Int.lt_or_le (leftF d (val f) n) 0 with h4 | h4
              · rw [leftFs_neg _ _ _ h4] at hn; omega
              · exact h4
            obtain ⟨q3, q4⟩ := left_few d (val f) n h3
            refine ⟨fun x hx => ?_, ?_⟩
            · rcases List.mem_cons.1 hx with rfl | hx
              · exact ⟨by omega, q3⟩
              · exact q1 x hx
            · simp only [List.map_cons, sumN, List.foldr_cons] at q2 ⊢
              omega
    have hts : ∀ (l : List T) (n : Int), 0 ≤ leftTs (leftF d) l n → (∀ t ∈ l, (flds t).length ≤ 100 ∧ (t.get 3).txt.size ≤ 400 ∧ ∀ f ∈ flds t, (nm f).size ≤ 100 ∧ Vd d (val f)) ∧ leftTs (leftF d) l n + (sumN (l.map (wtT d)) : Nat) = n := by
      intro l
      induction l with
      | nil => intro n hn; exact ⟨by simp, by simp [leftTs, sumN]⟩
      | cons t l ih =>
        intro n hn
        rw [leftTs] at hn ⊢
        split at hn
        · omega
        · split at hn
          · omega
          · rename_i h1 h2
            rw [if_neg h1, if_neg h2]
            obtain ⟨q1, q2⟩ := ih _ hn
            have h3 : 0 ≤ leftFs (leftF d) (flds t) (n - 1) := by
              rcases Int.lt_or_le (leftFs (leftF d) (flds t) (n - 1)) 0 with h4 | h4
              · rw [leftTs_neg _ _ _ h4] at hn; omega
              · exact h4
            obtain ⟨q3, q4⟩ := hfs _ _ h3
            refine ⟨fun x hx => ?_, ?_⟩
            · rcases List.mem_cons.1 hx with rfl | hx
              · exact ⟨by omega, by omega, q3⟩
              · exact q1 x hx
            · simp only [List.map_cons, sumN, List.foldr_cons, wtT] at q2 q4 ⊢
              omega
    rw [leftF] at h ⊢
    split at h
    · omega
    · rename_i h1
      rw [if_neg h1]
      exact hts _ _ h
end Go.Proofs.YtdofdhlpheaonaaDoorKT
namespace Go.Proofs.YtdofdhlpheaonaaDoorKT
open Go Go.Proofs.YtdofdhlpheaonaaDoorVM
set_option linter.unusedVariables false
set_option linter.unusedSimpArgs false
set_option maxRecDepth 100000

def Dz (i : Nat) (p : Option (List Bool)) (xs : List A) (r : Nat × List A) : Prop := Does Tryd.prog G0 ents i p xs r
theorem terms_eq (v : T) : (T.get v 0).kids = terms v := id rfl
theorem flds_eq (v : T) : (T.get v 7).kids = flds v := id rfl
theorem S1 : (∀ n i p xs, D n i p xs = den Tryd.prog G0 ents n i p xs) ∧ (∀ n i xs k, cl n i xs k = Option.bind (Option.map (fun v => v.2) (den Tryd.prog G0 ents n i none xs)) k) ∧ (∀ n i p xs k, lp n i p xs k = Option.bind (den Tryd.prog G0 ents n i (some p) xs) k) :=
  ⟨fun _ _ _ _ => rfl, fun _ _ _ _ => rfl, fun _ _ _ _ _ => rfl⟩
theorem S2 : (∀ v, (T.get v 0).kids = terms v) ∧ (∀ v, (T.get v 7).kids = flds v) := ⟨fun _ => rfl, fun _ => rfl⟩
theorem leftFs_le {g : T → Int → Int} (hg : ∀ v n, g v n ≤ max n (-1) ∧ (-1 ≤ n → -1 ≤ g v n)) : ∀ (l : List T) (n : Int), leftFs g l n ≤ max n (-1) ∧ (-1 ≤ n → -1 ≤ leftFs g l n) := by
  intro l
  induction l with
  | nil => intro n; simp only [leftFs]; omega
  | cons f l ih =>
    intro n
    rw [leftFs]
    split
    · omega
    · split
      · omega
      · have h1 := ih (g (val f) n)
        have h2 := hg (val f) n
        omega
theorem leftF_le : ∀ (d : Nat) (v : T) (n : Int), leftF d v n ≤ max n (-1) ∧ (-1 ≤ n → -1 ≤ leftF d v n)
  | 0, v, n => by simp only [leftF]; omega
  | d + 1, v, n => by
    have hts : ∀ (l : List T) (n : Int), leftTs (leftF d) l n ≤ max n (-1) ∧ (-1 ≤ n → -1 ≤ leftTs (leftF d) l n) := by
      intro l
      induction l with
      | nil => intro n; simp only [leftTs]; omega
      | cons t l ih =>
        intro n
        rw [leftTs]
        split
        · omega
        · split
          · omega
          · have h1 := ih (leftFs (leftF d) (flds t) (n - 1))
            have h2 := leftFs_le (fun v n => leftF_le d v n) (flds t) (n - 1)
            omega
    rw [leftF]
    split
    · omega
    · exact hts _ _
end Go.Proofs.YtdofdhlpheaonaaDoorKT
namespace Go.Proofs.YtdofdhlpheaonaaDoorKT
open Go Go.Proofs.YtdofdhlpheaonaaDoorVM
set_option linter.unusedVariables false
set_option linter.unusedSimpArgs false
set_option maxRecDepth 100000

def up : Nat → Nat → Nat
  | 0, n => n
  | k + 1, n => Nat.succ (up k n)
theorem up_add (k n : Nat) : up k n = n + k := by
  induction k with
  | zero => rfl
  | succ k ih => rw [up, ih]; rfl
theorem run_of {i : Nat} {xs : List A} {r : Nat × List A} (k : Nat) (h : ∀ n, den Tryd.prog G0 ents (up k n) i none xs = some r) : Dz i none xs r :=
  ⟨k, fun n hn => by
    obtain ⟨j, rfl⟩ : ∃ j, n = j + k := ⟨n - k, by omega⟩
    rw [← up_add]
    exact h j⟩
def fi (p : T → Bool) : List T → Nat → Int
  | [], _ => -1
  | x :: l, k => if p x then ((k : Nat) : Int) else fi p l (k + 1)
theorem fi_any (p : T → Bool) : ∀ (l : List T) (k : Nat), decide (fi p l k ≥ 0) = l.any p
  | [], k => by simp [fi]
  | x :: l, k => by
    rw [fi, List.any_cons, ← fi_any p l (k + 1)]
    cases p x
    · simp
    · simp
theorem fi_none {p : T → Bool} {l : List T} {k : Nat} (h : l.any p = false) : fi p l k = -1 := by
  induction l generalizing k with
  | nil => rfl
  | cons x l ih =>
    rw [List.any_cons, Bool.or_eq_false_iff] at h
    rw [fi, h.1, ih h.2]
    rfl
theorem idx0_loop {i ic : Nat} {pp : List Bool} (hq : ∀ n x0 x1 x2, den Tryd.prog G0 ents (Nat.succ n) i (some pp) [A.t x0, A.t x1, A.t x2] =
  bif lt x2.n x1.n then bif ib x2.n x0.l then cl n ic [A.t (x0.a x2.n)] fun v0 => bif (r v0 0).b then rt [aI x2.n] else D n i (some pp) [aL x0.k,aI x1.n,aI (w6 (x2.n + 1))] else none else some (2,[]))
    (l : List T) (p : T → Bool) (hl : l.length ≤ 1000000000) (hp : ∀ x ∈ l, Dz ic none [A.t x] (1, [A.t (T.bool (p x))])) : ∀ (k j : Nat), j + k = l.length →
    Dz i (some pp) [A.t (T.node l), A.t (T.int (l.length : Nat)), A.t (T.int j)] (if (l.drop j).any p then (1, [A.t (T.int (fi p (l.drop j) j))]) else (2, [])) := by
  intro k
  induction k with
  | zero =>
    intro j hj
    rw [List.drop_of_length_le (by omega)]
    refine Does.now fun m => ?_
    rw [hq]
    simp only [S0, S9, S1, S2, if_true, if_false, List.any_nil]
    rw [if_neg (by omega)]
  | succ k ih =>
    intro j hj
    have hlt : j < l.length := by omega
    have hw : IntKind.i64.wrap ((j : Int) + 1) = ((j + 1 : Nat) : Int) := i64succ (by omega)
    obtain ⟨n0, h0⟩ := (hp _ (List.getElem_mem hlt)).both (ih (j + 1) (by omega))
    refine Does.of n0 fun m hm => ?_
    obtain ⟨q, q2⟩ := h0 m hm
    rw [hq, List.drop_eq_getElem_cons hlt, List.any_cons, fi]
    simp only [S0, S9, S1, S2, if_true, if_false, hw, at_get hlt, q]
    rw [if_pos (by omega), if_pos (by omega)]
    cases p l[j]
    · simp only [Bool.false_eq_true, if_false, false_or]; exact q2
    · rfl
theorem idx0_does {i ic : Nat} {pp : List Bool} (hq2 : ∀ n x0, den Tryd.prog G0 ents (Nat.succ n) i none [A.t x0] =
  lp n i pp [aL x0.k,aI x0.l,aI 0] fun v0 => bif Nat.beq v0.1 2 then rt [aI (-1)] else bif Nat.beq v0.1 1 then rt [aI (r v0.2 0).n] else none) (hq : ∀ n x0 x1 x2, den Tryd.prog G0 ents (Nat.succ n) i (some pp) [A.t x0, A.t x1, A.t x2] =
  bif lt x2.n x1.n then bif ib x2.n x0.l then cl n ic [A.t (x0.a x2.n)] fun v0 => bif (r v0 0).b then rt [aI x2.n] else D n i (some pp) [aL x0.k,aI x1.n,aI (w6 (x2.n + 1))] else none else some (2,[]))
    (l : List T) (p : T → Bool) (hl : l.length ≤ 1000000000) (hp : ∀ x ∈ l, Dz ic none [A.t x] (1, [A.t (T.bool (p x))])) : Dz i none [A.t (T.node l)] (1, [A.t (T.int (fi p l 0))]) := by
  obtain ⟨n0, h0⟩ := idx0_loop hq l p hl hp l.length 0 (by omega)
  rw [List.drop_zero] at h0
  refine Does.of n0 fun m hm => ?_
  have q : den Tryd.prog G0 ents m i (some pp) [A.t (T.node l), A.t (T.int (l.length : Nat)), A.t (T.int 0)] = _ := h0 m hm
  rw [hq2]
  simp only [S0, S9, S1, S2, if_true, if_false, q]
  cases hb : l.any p
  · rw [fi_none hb]; rfl
  · rfl
theorem has0_does {i i2 ic : Nat} {pp : List Bool} (hq3 : ∀ n x0, den Tryd.prog G0 ents (Nat.succ n) i2 none [A.t x0] =
  cl n i [aL x0.k] fun v0 => rt [aB (ge (r v0 0).n 0)]) (hq2 : ∀ n x0, den Tryd.prog G0 ents (Nat.succ n) i none [A.t x0] =
  lp n i pp [aL x0.k,aI x0.l,aI 0] fun v0 => bif Nat.beq v0.1 2 then rt [aI (-1)] else bif Nat.beq v0.1 1 then rt [aI (r v0.2 0).n] else none) (hq : ∀ n x0 x1 x2, den Tryd.prog G0 ents (Nat.succ n) i (some pp) [A.t x0, A.t x1, A.t x2] =
  bif lt x2.n x1.n then bif ib x2.n x0.l then cl n ic [A.t (x0.a x2.n)] fun v0 => bif (r v0 0).b then rt [aI x2.n] else D n i (some pp) [aL x0.k,aI x1.n,aI (w6 (x2.n + 1))] else none else some (2,[]))
    (l : List T) (p : T → Bool) (hl : l.length ≤ 1000000000) (hp : ∀ x ∈ l, Dz ic none [A.t x] (1, [A.t (T.bool (p x))])) : Dz i2 none [A.t (T.node l)] (1, [A.t (T.bool (l.any p))]) := by
  obtain ⟨n0, h0⟩ := idx0_does hq2 hq l p hl hp
  refine Does.of n0 fun m hm => ?_
  rw [hq3]
  simp only [S0, S9, S1, S2, if_true, if_false, h0 m hm, fi_any]
theorem idx1_loop {i ic : Nat} {pp : List Bool} (hq : ∀ n x0 x1 x2 x3, den Tryd.prog G0 ents (Nat.succ n) i (some pp) [A.t x0, A.t x1, A.t x2, A.t x3] =
  bif lt x2.n x1.n then bif ib x2.n x0.l then cl n ic [A.t (x0.a x2.n),A.t x3] fun v0 => bif (r v0 0).b then rt [aI x2.n,A.t (r v0 1)] else D n i (some pp) [aL x0.k,aI x1.n,aI (w6 (x2.n + 1)),A.t (r v0 1)] else none else some (2,[A.t x3]))
    (l : List T) (c0 : T) (p : T → Bool) (hl : l.length ≤ 1000000000) (hp : ∀ x ∈ l, Dz ic none [A.t x, A.t c0] (1, [A.t (T.bool (p x)), A.t c0])) : ∀ (k j : Nat), j + k = l.length →
    Dz i (some pp) [A.t (T.node l), A.t (T.int (l.length : Nat)), A.t (T.int j), A.t c0] (if (l.drop j).any p then (1, [A.t (T.int (fi p (l.drop j) j)), A.t c0]) else (2, [A.t c0])) := by
  intro k
  induction k with
  | zero =>
    intro j hj
    rw [List.drop_of_length_le (by omega)]
    refine Does.now fun m => ?_
    rw [hq]
    simp only [S0, S9, S1, S2, if_true, if_false, List.any_nil]
    rw [if_neg (by omega)]
  | succ k ih =>
    intro j hj
    have hlt : j < l.length := by omega
    have hw : IntKind.i64.wrap ((j : Int) + 1) = ((j + 1 : Nat) : Int) := i64succ (by omega)
    obtain ⟨n0, h0⟩ := (hp _ (List.getElem_mem hlt)).both (ih (j + 1) (by omega))
    refine Does.of n0 fun m hm => ?_
    obtain ⟨q, q2⟩ := h0 m hm
    rw [hq, List.drop_eq_getElem_cons hlt, List.any_cons, fi]
    simp only [S0, S9, S1, S2, if_true, if_false, hw, at_get hlt, q]
    rw [if_pos (by omega), if_pos (by omega)]
    cases p l[j]
    · simp only [Bool.false_eq_true, if_false, false_or]; exact q2
    · rfl
theorem idx1_does {i ic : Nat} {pp : List Bool} (hq2 : ∀ n x0 x1, den Tryd.prog G0 ents (Nat.succ n) i none [A.t x0, A.t x1] =
  lp n i pp [aL x0.k,aI x0.l,aI 0,A.t x1] fun v0 => bif Nat.beq v0.1 2 then rt [aI (-1),A.t (r v0.2 0)] else bif Nat.beq v0.1 1 then rt [aI (r v0.2 0).n,A.t (r v0.2 1)] else none) (hq : ∀ n x0 x1 x2 x3, den Tryd.prog G0 ents (Nat.succ n) i (some pp) [A.t x0, A.t x1, A.t x2, A.t x3] =
  bif lt x2.n x1.n then bif ib x2.n x0.l then cl n ic [A.t (x0.a x2.n),A.t x3] fun v0 => bif (r v0 0).b then rt [aI x2.n,A.t (r v0 1)] else D n i (some pp) [aL x0.k,aI x1.n,aI (w6 (x2.n + 1)),A.t (r v0 1)] else none else some (2,[A.t x3]))
    (l : List T) (c0 : T) (p : T → Bool) (hl : l.length ≤ 1000000000) (hp : ∀ x ∈ l, Dz ic none [A.t x, A.t c0] (1, [A.t (T.bool (p x)), A.t c0])) : Dz i none [A.t (T.node l), A.t c0] (1, [A.t (T.int (fi p l 0)), A.t c0]) := by
  obtain ⟨n0, h0⟩ := idx1_loop hq l c0 p hl hp l.length 0 (by omega)
  rw [List.drop_zero] at h0
  refine Does.of n0 fun m hm => ?_
  have q : den Tryd.prog G0 ents m i (some pp) [A.t (T.node l), A.t (T.int (l.length : Nat)), A.t (T.int 0), A.t c0] = _ := h0 m hm
  rw [hq2]
  simp only [S0, S9, S1, S2, if_true, if_false, q]
  cases hb : l.any p
  · rw [fi_none hb]; rfl
  · rfl
theorem has1_does {i i2 ic : Nat} {pp : List Bool} (hq3 : ∀ n x0 x1, den Tryd.prog G0 ents (Nat.succ n) i2 none [A.t x0, A.t x1] =
  cl n i [aL x0.k,A.t x1] fun v0 => rt [aB (ge (r v0 0).n 0),A.t (r v0 1)]) (hq2 : ∀ n x0 x1, den Tryd.prog G0 ents (Nat.succ n) i none [A.t x0, A.t x1] =
  lp n i pp [aL x0.k,aI x0.l,aI 0,A.t x1] fun v0 => bif Nat.beq v0.1 2 then rt [aI (-1),A.t (r v0.2 0)] else bif Nat.beq v0.1 1 then rt [aI (r v0.2 0).n,A.t (r v0.2 1)] else none) (hq : ∀ n x0 x1 x2 x3, den Tryd.prog G0 ents (Nat.succ n) i (some pp) [A.t x0, A.t x1, A.t x2, A.t x3] =
  bif lt x2.n x1.n then bif ib x2.n x0.l then cl n ic [A.t (x0.a x2.n),A.t x3] fun v0 => bif (r v0 0).b then rt [aI x2.n,A.t (r v0 1)] else D n i (some pp) [aL x0.k,aI x1.n,aI (w6 (x2.n + 1)),A.t (r v0 1)] else none else some (2,[A.t x3]))
    (l : List T) (c0 : T) (p : T → Bool) (hl : l.length ≤ 1000000000) (hp : ∀ x ∈ l, Dz ic none [A.t x, A.t c0] (1, [A.t (T.bool (p x)), A.t c0])) : Dz i2 none [A.t (T.node l), A.t c0] (1, [A.t (T.bool (l.any p)), A.t c0]) := by
  obtain ⟨n0, h0⟩ := idx1_does hq2 hq l c0 p hl hp
  refine Does.of n0 fun m hm => ?_
  rw [hq3]
  simp only [S0, S9, S1, S2, if_true, if_false, h0 m hm, fi_any]
end Go.Proofs.YtdofdhlpheaonaaDoorKT
namespace Go.Proofs.YtdofdhlpheaonaaDoorKT
open Go Go.Proofs.YtdofdhlpheaonaaDoorVM
set_option linter.unusedVariables false
set_option linter.unusedSimpArgs false
set_option maxRecDepth 100000

theorem sum_cons (a : Nat) (l : List Nat) : sumN (a :: l) = a + sumN l := rfl
theorem max_cons (a : Nat) (l : List Nat) : maxN (a :: l) = max a (maxN l) := rfl
theorem val_eq (f : T) : T.get f 1 = val f := id rfl
theorem nm_eq (f : T) : (T.get f 0).txt = nm f := id rfl
theorem sum_less {α : Type} (f : α → Nat) (h : ∀ x, 1 ≤ f x) : ∀ l : List α, l.length + sumN (l.map fun x => f x - 1) = sumN (l.map f)
  | [] => rfl
  | x :: l => by
    have := sum_less f h l
    have h1 := h x
    simp only [List.map_cons, sum_cons, List.length_cons]
    omega
theorem dep_le : ∀ (d : Nat) (v : T), dep d v ≤ d
  | 0, v => Nat.le_refl _
  | d + 1, v => by
    have h : ∀ l : List Nat, (∀ x ∈ l, x ≤ d) → maxN l ≤ d := by
      intro l
      induction l with
      | nil => intro _; exact Nat.zero_le _
      | cons x l ih => intro hx; rw [max_cons]; have := hx x List.mem_cons_self; have := ih fun y hy => hx y (List.mem_cons_of_mem _ hy); omega
    have : maxN ((terms v).map fun t => maxN ((flds t).map fun f => dep d (val f))) ≤ d := by
      refine h _ fun x hx => ?_
      obtain ⟨t, _, rfl⟩ := List.mem_map.1 hx
      refine h _ fun y hy => ?_
      obtain ⟨f, _, rfl⟩ := List.mem_map.1 hy
      exact dep_le d (val f)
    simp only [dep]
    omega
def few (v : T) : Bool := decide (0 ≤ leftF 20 v 200) && decide (wt 20 v ≤ 40)
theorem few_sm {v : T} (h : few v = true) : Sm 20 v := by
  unfold few at h
  rw [Bool.and_eq_true, decide_eq_true_eq, decide_eq_true_eq] at h
  exact ⟨(left_few 20 v 200 h.1).1, by omega⟩
end Go.Proofs.YtdofdhlpheaonaaDoorKT
namespace Go.Proofs.YtdofdhlpheaonaaDoorKT
open Go Go.Proofs.YtdofdhlpheaonaaDoorVM
set_option linter.unusedVariables false
set_option linter.unusedSimpArgs false
set_option maxRecDepth 100000

def fst (x y : Int) : Int := if x = 0 then y else x
theorem fst_zero (y : Int) : fst 0 y = y := rfl
theorem fst_ne {x : Int} (h : x ≠ 0) (y : Int) : fst x y = x := if_neg h
theorem fst_z (x : Int) : fst x 0 = x := by
  unfold fst
  split <;> simp_all
theorem fst_assoc (a b c : Int) : fst (fst a b) c = fst a (fst b c) := by
  unfold fst
  by_cases h : a = 0
  · simp [h]
  · simp [h]
def cmpI (a b : Int) : Int := if a < b then -1 else if a > b then 1 else 0
def cmpF1 (a b : Bool) : Int := (if a then 1 else 0) - (if b then 1 else 0)
def cmpL (f : T → T → Int) : List T → List T → Int
  | [], [] => 0
  | [], _ :: _ => -1
  | _ :: _, [] => 1
  | a :: l, b :: m => fst (f a b) (cmpL f l m)
theorem cmpL_cons (f : T → T → Int) (a b : T) (l m : List T) : cmpL f (a :: l) (b :: m) = fst (f a b) (cmpL f l m) := rfl
theorem cmpL_end (f : T → T → Int) (l m : List T) (j : Nat) (h : j = min l.length m.length) : cmpL f (l.drop j) (m.drop j) = cmpI l.length m.length := by
  unfold cmpI
  rcases Nat.lt_trichotomy l.length m.length with h1 | h1 | h1
  · rw [List.drop_of_length_le (l := l) (by omega), if_pos (by omega), List.drop_eq_getElem_cons (l := m) (i := j) (by omega)]; rfl
  · rw [List.drop_of_length_le (l := l) (by omega), List.drop_of_length_le (l := m) (by omega), if_neg (by omega), if_neg (by omega)]; rfl
  · rw [List.drop_of_length_le (l := m) (by omega), if_neg (by omega), if_pos (by omega), List.drop_eq_getElem_cons (l := l) (i := j) (by omega)]; rfl
def plainC (a b : T) : Int := fst (cmpI (a.get 0).num (b.get 0).num) (fst (cmpI (a.get 1).num (b.get 1).num) (fst (cmpI (a.get 2).num (b.get 2).num) (fst (cmpB (a.get 3).txt (b.get 3).txt)
  (fst (cmpF1 (a.get 4).tf (b.get 4).tf) (fst (cmpF1 (a.get 5).tf (b.get 5).tf) (cmpF1 (a.get 6).tf (b.get 6).tf))))))
def cmpV : Nat → T → T → Int
  | 0, _, _ => 0
  | d + 1, a, b => cmpL (fun t u => fst (plainC t u) (cmpL (fun f g => fst (cmpB (nm f) (nm g)) (cmpV d (val f) (val g))) (flds t) (flds u))) (terms a) (terms b)
def cmpG (d : Nat) (f g : T) : Int := fst (cmpB (nm f) (nm g)) (cmpV d (val f) (val g))
def cmpT (d : Nat) (t u : T) : Int := fst (plainC t u) (cmpL (cmpG d) (flds t) (flds u))
theorem cmpV_succ (d : Nat) (a b : T) : cmpV (d + 1) a b = cmpL (cmpT d) (terms a) (terms b) := rfl

theorem neg1 : Int.negSucc 0 = -1 := id rfl
def firstL : List Int → Int
  | [] => 0
  | x :: l => fst x (firstL l)
def SmT (d : Nat) (t : T) : Prop := (flds t).length ≤ 100 ∧ ∀ f ∈ flds t, Sm d (val f)
theorem Sm.term {d : Nat} {v t : T} (h : Sm (d + 1) v) (ht : t ∈ YtdofdhlpheaonaaDoorKT.terms v) : SmT d t := ⟨h.flds ht, fun f hf => h.sub ht hf⟩
end Go.Proofs.YtdofdhlpheaonaaDoorKT
namespace Go.Proofs.YtdofdhlpheaonaaDoorKT
open Go Go.Proofs.YtdofdhlpheaonaaDoorVM
set_option linter.unusedVariables false
set_option linter.unusedSimpArgs false
set_option maxRecDepth 100000

theorem seqB_iff (a b : ByteArray) : seqB a b = true ↔ a = b := by
  simp only [seqB, beq_iff_eq]
  exact ⟨fun h => by rw [ByteArray.toList_eq, ByteArray.toList_eq] at h; exact ByteArray.ext (Array.toList_inj.1 h), fun h => by rw [h]⟩
theorem bl_irrefl : ∀ l : List UInt8, Op.bytesLess l l = false
  | [] => rfl
  | a :: l => by simp [Op.bytesLess, bl_irrefl l, UInt8.lt_irrefl]
theorem bl_tri : ∀ l m : List UInt8, Op.bytesLess l m = true ∨ Op.bytesLess m l = true ∨ l = m
  | [], [] => .inr (.inr rfl)
  | [], _ :: _ => .inl rfl
  | _ :: _, [] => .inr (.inl rfl)
  | a :: l, b :: m => by
    simp only [Op.bytesLess, Bool.or_eq_true, decide_eq_true_eq, Bool.and_eq_true, beq_iff_eq, List.cons.injEq]
    rcases UInt8.lt_or_lt_of_ne (a := a) (b := b) |> fun h => (Classical.em (a = b)).imp_right h with h | h | h
    · subst h
      rcases bl_tri l m with h | h | h
      · exact .inl (.inr ⟨rfl, h⟩)
      · exact .inr (.inl (.inr ⟨rfl, h⟩))
      · exact .inr (.inr ⟨rfl, h⟩)
    · exact .inl (.inl h)
    · exact .inr (.inl (.inl h))
theorem bl_asymm : ∀ l m : List UInt8, Op.bytesLess l m = true → Op.bytesLess m l = false
  | l, [], h => by cases l <;> simp [Op.bytesLess] at h
  | [], _ :: _, _ => rfl
  | a :: l, b :: m, h => by
    simp only [Op.bytesLess, Bool.or_eq_true, decide_eq_true_eq, Bool.and_eq_true, beq_iff_eq] at h
    simp only [Op.bytesLess, Bool.or_eq_false_iff, decide_eq_false_iff_not, Bool.and_eq_false_iff, beq_eq_false_iff_ne]
    rcases h with h | ⟨rfl, h⟩
    · exact ⟨UInt8.lt_asymm h, .inl (fun e => by subst e; exact UInt8.lt_irrefl _ h)⟩
    · exact ⟨UInt8.lt_irrefl _, .inr (bl_asymm l m h)⟩
theorem slt_asymm {a b : ByteArray} (h : sltB a b = true) : sltB b a = false := bl_asymm _ _ h
theorem slt_tri (a b : ByteArray) : sltB a b = true ∨ sltB b a = true ∨ a = b := by
  rcases bl_tri a.toList b.toList with h | h | h
  · exact .inl h
  · exact .inr (.inl h)
  · exact .inr (.inr ((seqB_iff a b).1 (by simp [seqB, h])))
theorem slt_irrefl (a : ByteArray) : sltB a a = false := bl_irrefl _
theorem cmpI_zero {a b : Int} : cmpI a b = 0 ↔ a = b := by unfold cmpI; split <;> (try split) <;> omega
theorem cmpF1_zero {a b : Bool} : cmpF1 a b = 0 ↔ a = b := by cases a <;> cases b <;> simp [cmpF1]
theorem cmpB_zero {a b : ByteArray} : cmpB a b = 0 ↔ a = b := by
  unfold cmpB
  rcases slt_tri a b with h | h | h
  · simp [h]; intro e; subst e; rw [slt_irrefl] at h; cases h
  · simp [h, slt_asymm h]; intro e; subst e; rw [slt_irrefl] at h; cases h
  · subst h; simp [slt_irrefl]
end Go.Proofs.YtdofdhlpheaonaaDoorKT
namespace Go.Proofs.YtdofdhlpheaonaaDoorKT
open Go Go.Proofs.YtdofdhlpheaonaaDoorVM
set_option linter.unusedVariables false
set_option linter.unusedSimpArgs false
set_option maxRecDepth 100000

def kd (t : T) : Int := (t.get 0).num
def lo (t : T) : Int := (t.get 1).num
def hi (t : T) : Int := (t.get 2).num
def tx (t : T) : ByteArray := (t.get 3).txt
def an (t : T) : Bool := (t.get 4).tf
def mb (t : T) : Bool := (t.get 5).tf
def op (t : T) : Bool := (t.get 6).tf
def emptyB : ByteArray := ⟨#[]⟩
def one (t : T) : Bool := if kd t = 3 then !an t else decide (lo t = hi t)
def rightK (k l h : Int) (x : ByteArray) (a : Bool) : Bool :=
  if k = 3 then decide (l = 0) && decide (h = 0) && (if a then decide (x = emptyB) else decide (x.size ≤ 256))
  else if k = 2 then decide (-9007199254740992 ≤ l) && decide (l ≤ h) && decide (h ≤ 9007199254740992) && decide (x = emptyB) && !a
  else if k = 1 then decide (0 ≤ l) && decide (l ≤ h) && decide (h ≤ 1) && decide (x = emptyB) && !a
  else false
def rightS (t : T) : Bool := !op t && decide ((flds t).length = 0) && !(mb t && one t) && rightK (kd t) (lo t) (hi t) (tx t) (an t)
theorem kd_eq (t : T) : (T.get t 0).num = kd t := id rfl
theorem lo_eq (t : T) : (T.get t 1).num = lo t := id rfl
theorem hi_eq (t : T) : (T.get t 2).num = hi t := id rfl
theorem tx_eq (t : T) : (T.get t 3).txt = tx t := id rfl
theorem an_eq (t : T) : (T.get t 4).tf = an t := id rfl
theorem mb_eq (t : T) : (T.get t 5).tf = mb t := id rfl
theorem op_eq (t : T) : (T.get t 6).tf = op t := id rfl
theorem seq_dec (a b : ByteArray) : seqB a b = decide (a = b) := by
  cases h : seqB a b with
  | true => rw [(seqB_iff a b).1 h]; simp
  | false =>
    symm
    rw [decide_eq_false_iff_not]
    intro e
    rw [(seqB_iff a b).2 e] at h
    cases h
theorem eb_eq : (ByteArray.mk (List.toArray [])) = emptyB := id rfl
theorem e0_zero (n : Nat) : (((n : Nat) : Int) = 0) = (n = 0) := by simp
theorem coll (p : Prop) [Decidable p] (b c : Bool) : (if p then some ((1 : Nat), [A.t (T.bool b)]) else some (1, [A.t (T.bool c)])) = some (1, [A.t (T.bool (if p then b else c))]) := by split <;> rfl
theorem ans {b c : Bool} (h : b = c) : some ((1 : Nat), [A.t (T.bool b)]) = some (1, [A.t (T.bool c)]) := by rw [h]
def sameS (a b : T) : Bool := rightS a && rightS b && decide (kd a = kd b) && decide (lo a = lo b) && decide (hi a = hi b) && decide (tx a = tx b) && decide (an a = an b) && decide (mb a = mb b)
end Go.Proofs.YtdofdhlpheaonaaDoorKT
namespace Go.Proofs.YtdofdhlpheaonaaDoorKT
open Go Go.Proofs.YtdofdhlpheaonaaDoorVM
set_option linter.unusedVariables false
set_option linter.unusedSimpArgs false
set_option maxRecDepth 100000

def trm (k l h : Int) (x : ByteArray) (a m o : Bool) (f : List T) : T := .node [.int k, .int l, .int h, .str x, .bool a, .bool m, .bool o, .node f]
theorem kd_trm (k l h : Int) (x : ByteArray) (a m o : Bool) (f : List T) : kd (trm k l h x a m o f) = k := id rfl
theorem lo_trm (k l h : Int) (x : ByteArray) (a m o : Bool) (f : List T) : lo (trm k l h x a m o f) = l := id rfl
theorem hi_trm (k l h : Int) (x : ByteArray) (a m o : Bool) (f : List T) : hi (trm k l h x a m o f) = h := id rfl
theorem tx_trm (k l h : Int) (x : ByteArray) (a m o : Bool) (f : List T) : tx (trm k l h x a m o f) = x := id rfl
theorem an_trm (k l h : Int) (x : ByteArray) (a m o : Bool) (f : List T) : an (trm k l h x a m o f) = a := id rfl
theorem mb_trm (k l h : Int) (x : ByteArray) (a m o : Bool) (f : List T) : mb (trm k l h x a m o f) = m := id rfl
def noTrm : T := trm 0 0 0 emptyB false false false []
def mX (a b : T) : ByteArray := if an a then tx b else tx a
def m0 (a b : T) (m : Bool) : T := trm (kd a) (maxI (lo a) (lo b)) (minI (hi a) (hi b)) (mX a b) (an a && an b) m false []
def okM (a b : T) : Bool := rightS a && rightS b && decide (kd a = kd b) && !decide (maxI (lo a) (lo b) > minI (hi a) (hi b)) && (an a || an b || decide (tx a = tx b))
def mT (a b : T) : T := m0 a b ((mb a || mb b) && !one (m0 a b false))
theorem noTrm_eq : T.node [T.int 0, T.int 0, T.int 0, T.str ByteArray.empty, T.bool false, T.bool false, T.bool false, T.node []] = noTrm := id rfl
theorem trm_eq (k l h : Int) (x : ByteArray) (a m o : Bool) (f : List T) : T.node [T.int k, T.int l, T.int h, T.str x, T.bool a, T.bool m, T.bool o, T.node f] = trm k l h x a m o f := id rfl
theorem one_m (a b : T) (m : Bool) : one (m0 a b m) = one (m0 a b false) := id rfl
theorem maxI_pos {a b : Int} (h : b > a) : maxI a b = b := if_pos h
theorem maxI_neg {a b : Int} (h : ¬ b > a) : maxI a b = a := if_neg h
theorem minI_pos {a b : Int} (h : b < a) : minI a b = b := if_pos h
theorem minI_neg {a b : Int} (h : ¬ b < a) : minI a b = a := if_neg h
theorem right_op {t : T} (h : rightS t = true) : op t = false ∧ flds t = [] ∧ (kd t ≠ 3 → an t = false ∧ tx t = emptyB) := by
  unfold rightS rightK at h
  simp only [Bool.and_eq_true, Bool.not_eq_true', decide_eq_true_eq] at h
  refine ⟨h.1.1.1, List.eq_nil_of_length_eq_zero h.1.1.2, fun hk => ?_⟩
  have h2 := h.2
  rw [if_neg hk] at h2
  split at h2
  · simp at h2; exact ⟨h2.2, h2.1.2⟩
  · split at h2
    · simp at h2; exact ⟨h2.2, h2.1.2⟩
    · cases h2
def belowS (a b : T) : Bool := okM a b && sameS (mT a b) a
end Go.Proofs.YtdofdhlpheaonaaDoorKT
namespace Go.Proofs.YtdofdhlpheaonaaDoorKT
open Go Go.Proofs.YtdofdhlpheaonaaDoorVM
set_option linter.unusedVariables false
set_option linter.unusedSimpArgs false
set_option maxRecDepth 100000

theorem nameR_eq (n : Nat) (a : ByteArray) : den Tryd.prog G0 ents (Nat.succ n) i_name_Right none [A.t (T.str a)] = some (1, [A.t (T.bool (nameB a))]) := by kernel_rfl
theorem nameR_does (a : ByteArray) : Dz i_name_Right none [A.t (T.str a)] (1, [A.t (T.bool (nameB a))]) := Does.now fun n => nameR_eq n a
theorem collI (p : Prop) [Decidable p] (b c : Int) : (if p then some ((1 : Nat), [A.t (T.int b)]) else some (1, [A.t (T.int c)])) = some (1, [A.t (T.int (if p then b else c))]) := by split <;> rfl
theorem ansI {b c : Int} (h : b = c) : some ((1 : Nat), [A.t (T.int b)]) = some (1, [A.t (T.int c)]) := by rw [h]
theorem seq_comm (a b : ByteArray) : seqB a b = seqB b a := by
  rw [seq_dec, seq_dec]
  exact decide_eq_decide.2 ⟨Eq.symm, Eq.symm⟩
def wordN (s : ByteArray) : Int := if seqB s ⟨#[97, 110, 121]⟩ = true then 1 else if seqB s ⟨#[98, 111, 111, 108]⟩ = true then 2 else if seqB s ⟨#[99, 111, 109, 112, 117, 116, 101, 100]⟩ = true then 3 else if seqB s ⟨#[102, 97, 108, 115, 101]⟩ = true then 4 else if seqB s ⟨#[105, 110, 116]⟩ = true then 5 else if seqB s ⟨#[110, 111, 110, 101]⟩ = true then 6 else if seqB s ⟨#[114, 101, 115, 111, 117, 114, 99, 101]⟩ = true then 7 else if seqB s ⟨#[115, 116, 114, 105, 110, 103]⟩ = true then 8 else if seqB s ⟨#[116, 114, 117, 101]⟩ = true then 9 else 0
theorem word_does (s : ByteArray) : Dz i_R02_Word none [A.t (T.str s)] (1, [A.t (T.int (wordN s))]) := by
  refine Does.now fun n => ?_
  rw [q_R02_Word]
  simp only [S9, S1, txt_str, Bool.cond_eq_ite, collI]
  rfl
theorem wordN_pos (s : ByteArray) : decide (wordN s > 0) = wordsL.any fun w => seqB w s := by
  simp only [wordsL, List.any_cons, List.any_nil, Bool.or_false]
  rw [seq_comm ⟨#[97, 110, 121]⟩ s, seq_comm ⟨#[98, 111, 111, 108]⟩ s, seq_comm ⟨#[99, 111, 109, 112, 117, 116, 101, 100]⟩ s, seq_comm ⟨#[102, 97, 108, 115, 101]⟩ s, seq_comm ⟨#[105, 110, 116]⟩ s, seq_comm ⟨#[110, 111, 110, 101]⟩ s, seq_comm ⟨#[114, 101, 115, 111, 117, 114, 99, 101]⟩ s, seq_comm ⟨#[115, 116, 114, 105, 110, 103]⟩ s, seq_comm ⟨#[116, 114, 117, 101]⟩ s]
  unfold wordN
  generalize seqB s ⟨#[97, 110, 121]⟩ = b0
  generalize seqB s ⟨#[98, 111, 111, 108]⟩ = b1
  generalize seqB s ⟨#[99, 111, 109, 112, 117, 116, 101, 100]⟩ = b2
  generalize seqB s ⟨#[102, 97, 108, 115, 101]⟩ = b3
  generalize seqB s ⟨#[105, 110, 116]⟩ = b4
  generalize seqB s ⟨#[110, 111, 110, 101]⟩ = b5
  generalize seqB s ⟨#[114, 101, 115, 111, 117, 114, 99, 101]⟩ = b6
  generalize seqB s ⟨#[115, 116, 114, 105, 110, 103]⟩ = b7
  generalize seqB s ⟨#[116, 114, 117, 101]⟩ = b8
  grind
theorem rname_loop (s : ByteArray) (hs : s.size ≤ 1000) : ∀ (k j : Nat), j + k = s.size →
    Dz i_R02_Right (some p_R02_Right_c1) [A.t (T.str s), A.t (T.int j)] (if (s.data.toList.drop j).all inner then (2, []) else (1, [A.t (T.bool false)])) := by
  have hl : s.data.toList.length = s.size := by rw [Array.length_toList]; rfl
  intro k
  induction k with
  | zero =>
    intro j hj
    refine Does.now fun m => ?_
    rw [q_R02_Right_c1, List.drop_of_length_le (by omega)]
    simp only [S0, S9, S1, S2, if_true, if_false]
    rw [if_neg (by omega)]
    rfl
  | succ k ih =>
    intro j hj
    have hlt : j < s.data.toList.length := by omega
    have hw : IntKind.i64.wrap ((j : Int) + 1) = ((j + 1 : Nat) : Int) := i64succ (by omega)
    obtain ⟨n0, h0⟩ := ih (j + 1) (by omega)
    refine Does.of n0 fun m hm => ?_
    have q := h0 m hm
    have hg : Array.getD s.data j (0 : UInt8) = s.data.toList[j] := by
      have : j < s.data.size := by simpa using hlt
      rw [Array.getD, dif_pos this, Array.getInternal_eq_getElem, Array.getElem_toList]
    rw [q_R02_Right_c1, List.drop_eq_getElem_cons hlt, List.all_cons]
    simp only [S0, S9, S1, S2, if_true, if_false, hw, hg, q, Bool.beq_eq_decide_eq, Bool.not_eq_true', Bool.not_eq_false']
    generalize (s.data.toList.drop (j + 1)).all inner = r
    unfold inner small
    generalize hb : (s.data.toList[j]).toNat = b
    rw [if_pos (by omega), if_pos (by omega)]
    have h1 : (((b : Nat) : Int) ≥ 97) = (97 ≤ b) := by apply propext; omega
    have h2 : (((b : Nat) : Int) ≤ 122) = (b ≤ 122) := by apply propext; omega
    have h3 : (((b : Nat) : Int) ≥ 48) = (48 ≤ b) := by apply propext; omega
    have h4 : (((b : Nat) : Int) ≤ 57) = (b ≤ 57) := by apply propext; omega
    have h5 : (((b : Nat) : Int) = 95) = (b = 95) := by apply propext; omega
    have h6 : ((0 : Int) ≤ (j : Int) ∧ (j : Int) < (s.size : Nat)) = True := by apply propext; constructor <;> intro <;> first | trivial | omega
    simp only [h1, h2, h3, h4, h5, h6, if_true]
    by_cases g1 : 97 ≤ b <;> by_cases g2 : b ≤ 122 <;> by_cases g3 : 48 ≤ b <;> by_cases g4 : b ≤ 57 <;> by_cases g5 : b = 95 <;> cases r <;> simp [g1, g2, g3, g4, g5] <;> omega
theorem rname_does (s : ByteArray) : Dz i_R02_Right none [A.t (T.str s)] (1, [A.t (T.bool (nameB s))]) := by
  have hl : s.data.toList.length = s.size := by rw [Array.length_toList]; rfl
  by_cases h16 : s.size ≤ 16
  · obtain ⟨n1, h1⟩ := word_does s
    cases he : s.data.toList with
    | nil =>
      refine Does.now fun m => ?_
      rw [q_R02_Right]
      have h0 : s.size = 0 := by rw [← hl, he]; rfl
      simp only [S0, S9, S1, S2, if_true, if_false, h0, nameB, he, nameL, Bool.and_false]
      rfl
    | cons c l =>
      obtain ⟨n2, h2⟩ := rname_loop s (by omega) (s.size - 1) 1 (by rw [← hl, he]; simp; omega)
      refine Does.of (n1 + n2) fun m hm => ?_
      have q1 := h1 m (by omega)
      have q2 : den Tryd.prog G0 ents m i_R02_Right (some p_R02_Right_c1) [A.t (T.str s), A.t (T.int 1)] = _ := h2 m (by omega)
      have hsz : 0 < s.size := by rw [← hl, he]; simp
      have hg : Array.getD s.data 0 (0 : UInt8) = c := by
        have : 0 < s.data.size := hsz
        have h3 : s.data[0] = s.data.toList[0]'(by omega) := (Array.getElem_toList _).symm
        rw [Array.getD, dif_pos this, Array.getInternal_eq_getElem, h3]
        simp only [he, List.getElem_cons_zero]
      rw [q_R02_Right]
      have hd : s.data.toList.drop 1 = l := by rw [he]; rfl
      rw [hd] at q2
      have hw := wordN_pos s
      simp only [S0, S9, S1, S2, if_true, if_false, q1, q2, hg, nameB, he, nameL, ← hw, Bool.beq_eq_decide_eq]
      unfold small
      generalize wordN s = w
      generalize l.all inner = r
      generalize c.toNat = b
      rw [if_pos (by omega), if_pos (by omega), decide_eq_true h16]
      by_cases hw : w > 0
      · rw [if_neg (by omega), decide_eq_true hw]; rfl
      rw [if_pos hw, if_pos (by omega), decide_eq_false hw]
      by_cases hb1 : 97 ≤ b
      · by_cases hb2 : b ≤ 122
        · rw [if_pos (by omega), if_pos (by omega), if_neg (by omega), decide_eq_true hb1, decide_eq_true hb2]
          cases r <;> rfl
        · rw [if_pos (by omega), if_pos (by omega), if_pos (by omega), decide_eq_true hb1, decide_eq_false hb2]; rfl
      · rw [if_neg (by omega), decide_eq_false hb1]; rfl
  · refine Does.now fun m => ?_
    rw [q_R02_Right]
    simp only [S0, S9, S1, S2, if_true, if_false, nameB, decide_eq_false h16, Bool.false_and]
    repeat (first | rw [if_pos (by omega)] | rw [if_neg (by omega)])
def okAt (l : List T) (j : Nat) : Bool := nameB (nm (tAtD l j)) && (j == 0 || sltB (nm (tAtD l (j - 1))) (nm (tAtD l j)))
def riseFrom (l : List T) : Nat → Nat → Bool
  | 0, _ => true
  | k + 1, j => okAt l j && riseFrom l k (j + 1)
def names (l : List T) : Bool := riseFrom l l.length 0
theorem nle_iff (a b : ByteArray) : (sltB a b || seqB a b) = !sltB b a := by
  rcases slt_tri a b with h | h | h
  · rw [h, slt_asymm h]; rfl
  · rw [h, slt_asymm h, seq_dec]
    have : a ≠ b := fun e => by subst e; rw [slt_irrefl] at h; cases h
    rw [decide_eq_false this]; rfl
  · subst h; rw [slt_irrefl, seq_dec, decide_eq_true rfl]; rfl
theorem rrising_loop (l : List T) (hl : l.length ≤ 1000) : ∀ (k j : Nat), j + k = l.length →
    Dz i_R02_Rising_o (some p_R02_Rising_o_c1) [A.t (T.int j), A.t (T.node (l.map fun f => T.str (nm f)))] (if riseFrom l k j then (2, [A.t (T.node (l.map fun f => T.str (nm f)))]) else (1, [A.t (T.bool false), A.t (T.node (l.map fun f => T.str (nm f)))])) := by
  have hat : ∀ j, j < l.length → tAtD (l.map fun f => T.str (nm f)) j = T.str (nm (tAtD l j)) := fun j hj => by
    rw [at_get (by simpa using hj), at_get hj, List.getElem_map]
  intro k
  induction k with
  | zero =>
    intro j hj
    refine Does.now fun m => ?_
    rw [q_R02_Rising_o_c1, riseFrom]
    simp only [S0, S9, S1, S2, if_true, if_false, List.length_map]
    rw [if_neg (by omega)]
  | succ k ih =>
    intro j hj
    have hlt : j < l.length := by omega
    have hw : IntKind.i64.wrap ((j : Int) + 1) = ((j + 1 : Nat) : Int) := i64succ (by omega)
    obtain ⟨n0, h0⟩ := (rname_does (nm (tAtD l j))).both (ih (j + 1) (by omega))
    refine Does.of n0 fun m hm => ?_
    obtain ⟨q1, q2⟩ := h0 m hm
    rw [q_R02_Rising_o_c1, riseFrom]
    simp only [S0, S9, S1, S2, if_true, if_false, List.length_map, hat j hlt, q1, q2, hw, Bool.not_eq_false', Bool.not_eq_true']
    rw [if_pos (by omega), if_pos (by omega), if_pos (by omega)]
    cases hb : nameB (nm (tAtD l j)) with
    | false => simp [okAt, hb]
    | true =>
      rw [if_pos rfl]
      by_cases h0 : j = 0
      · subst h0; simp [okAt, hb]
      · have hp : IntKind.i64.wrap ((j : Int) - 1) = ((j - 1 : Nat) : Int) := by rw [w64 (by omega) (by omega)]; omega
        rw [if_pos (by omega)]
        simp only [hp, Int.toNat_natCast, hat (j - 1) (by omega), txt_str]
        rw [if_pos (by omega), if_pos (by omega), if_pos (by omega), if_pos (by omega)]
        have hj0 : (j == 0) = false := by simp [h0]
        have hok : okAt l j = sltB (nm (tAtD l (j - 1))) (nm (tAtD l j)) := by rw [okAt, hb, hj0]; rfl
        rw [hok]
        cases sltB (nm (tAtD l (j - 1))) (nm (tAtD l j)) <;> simp
end Go.Proofs.YtdofdhlpheaonaaDoorKT
namespace Go.Proofs.YtdofdhlpheaonaaDoorKT
open Go Go.Proofs.YtdofdhlpheaonaaDoorVM
set_option linter.unusedVariables false
set_option linter.unusedSimpArgs false
set_option maxRecDepth 100000

def findF : List T → ByteArray → Nat → Int
  | [], _, _ => -1
  | f :: l, s, j => if nm f = s then j else findF l s (j + 1)
def Rise (l : List T) : Prop := ∀ i j, i < j → j < l.length → sltB (nm (tAtD l i)) (nm (tAtD l j)) = true
theorem bl_trans : ∀ l m o : List UInt8, Op.bytesLess l m = true → Op.bytesLess m o = true → Op.bytesLess l o = true
  | l, [], o, h, _ => by cases l <;> simp [Op.bytesLess] at h
  | l, _ :: _, [], _, h => by simp [Op.bytesLess] at h
  | [], _ :: _, _ :: _, _, _ => rfl
  | a :: l, b :: m, c :: o, h1, h2 => by
    simp only [Op.bytesLess, Bool.or_eq_true, decide_eq_true_eq, Bool.and_eq_true, beq_iff_eq] at h1 h2 ⊢
    rcases h1 with h1 | ⟨rfl, h1⟩
    · rcases h2 with h2 | ⟨rfl, h2⟩
      · exact .inl (UInt8.lt_trans h1 h2)
      · exact .inl h1
    · rcases h2 with h2 | ⟨rfl, h2⟩
      · exact .inl h2
      · exact .inr ⟨rfl, bl_trans l m o h1 h2⟩
theorem slt_trans {a b c : ByteArray} (h1 : sltB a b = true) (h2 : sltB b c = true) : sltB a c = true := bl_trans _ _ _ h1 h2
theorem names_rise {l : List T} (h : names l = true) : Rise l := by
  have hf : ∀ (k j : Nat), riseFrom l k j = true → ∀ i, j ≤ i → i < j + k → okAt l i = true := by
    intro k
    induction k with
    | zero => intro j _ i h1 h2; omega
    | succ k ih =>
      intro j hj i h1 h2
      rw [riseFrom, Bool.and_eq_true] at hj
      rcases Nat.eq_or_lt_of_le h1 with rfl | h3
      · exact hj.1
      · exact ih (j + 1) hj.2 i h3 (by omega)
  have hstep : ∀ i, i + 1 < l.length → sltB (nm (tAtD l i)) (nm (tAtD l (i + 1))) = true := by
    intro i hi
    have := hf _ _ h (i + 1) (by omega) (by omega)
    unfold okAt at this
    simpa using (Bool.and_eq_true_iff.1 this).2
  intro i j hij
  induction j with
  | zero => omega
  | succ j ih =>
    intro hj
    rcases Nat.lt_or_ge i j with h1 | h1
    · exact slt_trans (ih h1 (by omega)) (hstep j hj)
    · have : i = j := by omega
      subst this
      exact hstep i hj
theorem findF_le (l : List T) (s : ByteArray) : ∀ j : Nat, -1 ≤ findF l s j ∧ findF l s j < j + l.length := by
  induction l with
  | nil => intro j; simp [findF]; omega
  | cons f l ih =>
    intro j
    rw [findF]
    have := ih (j + 1)
    simp only [List.length_cons]
    split <;> omega
theorem findF_at {l : List T} {s : ByteArray} : ∀ (i j : Nat), (∀ k, k < i → nm (tAtD l k) ≠ s) → i < l.length → nm (tAtD l i) = s → findF l s j = (j + i : Nat) := by
  induction l with
  | nil => intro i j _ h; simp at h
  | cons f l ih =>
    intro i j h1 h2 h3
    rw [findF]
    cases i with
    | zero => exact if_pos h3
    | succ i =>
      refine (if_neg (h1 0 (by omega))).trans ?_
      rw [ih i (j + 1) (fun k hk => h1 (k + 1) (by omega)) (by simpa using h2) h3]
      omega
theorem findF_no {l : List T} {s : ByteArray} : ∀ (j : Nat), (∀ k, k < l.length → nm (tAtD l k) ≠ s) → findF l s j = -1 := by
  induction l with
  | nil => intro j _; rfl
  | cons f l ih =>
    intro j h
    rw [findF]
    refine (if_neg (h 0 (by simp))).trans ?_
    rw [ih (j + 1) (fun k hk => h (k + 1) (by simpa using hk))]
theorem mid_eq {i j : Nat} (h : i + j < 4294967296) : IntKind.i64.wrap (Int.fdiv (IntKind.u64.wrap (IntKind.i64.wrap ((i : Int) + (j : Int)))) 2) = (((i + j) / 2 : Nat) : Int) := by
  rw [i64add (by omega), wu64, Nat.mod_eq_of_lt (by omega), show (2 : Int) = ((2 : Nat) : Int) from rfl, fdivN, i64nat (by omega)]
end Go.Proofs.YtdofdhlpheaonaaDoorKT
namespace Go.Proofs.YtdofdhlpheaonaaDoorKT
open Go Go.Proofs.YtdofdhlpheaonaaDoorVM
set_option linter.unusedVariables false
set_option linter.unusedSimpArgs false
set_option maxRecDepth 100000

def lackT (a b : T) : Bool := !op a && (flds b).any fun f => decide (findF (flds a) (nm f) 0 < 0)
def atF (a f : T) : T := val (tAtD (flds a) (findF (flds a) (nm f) 0).toNat)
def fitF (U : T → T → Bool) (a f : T) : Bool := decide (0 ≤ findF (flds a) (nm f) 0) && U (atF a f) (val f)
def belowT (U : T → T → Bool) (a b : T) : Bool :=
  if kd b = 5 then true else if kd a = 4 ∧ kd b = 4 then !(op a && !op b) && !lackT b a && (flds b).all (fitF U a) else belowS a b
def underV : Nat → T → T → Bool
  | 0, _, _ => false
  | d + 1, a, b => (terms a).all fun t => (terms b).any fun u => belowT (underV d) t u
theorem underV_succ (d : Nat) (a b : T) : underV (d + 1) a b = (terms a).all fun t => (terms b).any fun u => belowT (underV d) t u := rfl
def NR : Nat → T → Prop
  | 0, _ => False
  | d + 1, v => ∀ t ∈ terms v, kd t = 4 → Rise (flds t) ∧ ∀ f ∈ flds t, NR d (val f)
def NRt (d : Nat) (t : T) : Prop := kd t = 4 → Rise (flds t) ∧ ∀ f ∈ flds t, NR d (val f)
theorem NR.term {d : Nat} {v t : T} (h : NR (d + 1) v) (ht : t ∈ terms v) : NRt d t := h t ht
theorem drop_any {l : List T} {j : Nat} (h : j < l.length) (p : T → Bool) : (l.drop j).any p = (p l[j] || (l.drop (j + 1)).any p) := by rw [List.drop_eq_getElem_cons h, List.any_cons]
theorem drop_all {l : List T} {j : Nat} (h : j < l.length) (p : T → Bool) : (l.drop j).all p = (p l[j] && (l.drop (j + 1)).all p) := by rw [List.drop_eq_getElem_cons h, List.all_cons]
end Go.Proofs.YtdofdhlpheaonaaDoorKT
namespace Go.Proofs.YtdofdhlpheaonaaDoorKT
open Go Go.Proofs.YtdofdhlpheaonaaDoorVM
set_option linter.unusedVariables false
set_option linter.unusedSimpArgs false
set_option maxRecDepth 100000

def allN (p : Nat → Bool) : Nat → Nat → Bool
  | 0, _ => true
  | k + 1, j => p j && allN p k (j + 1)
theorem allN_iff (p : Nat → Bool) : ∀ k j, allN p k j = true ↔ ∀ i, j ≤ i → i < j + k → p i = true
  | 0, j => by simp [allN]; omega
  | k + 1, j => by
    rw [allN, Bool.and_eq_true, allN_iff p k (j + 1)]
    constructor
    · intro h i h1 h2
      rcases Nat.eq_or_lt_of_le h1 with rfl | h3
      · exact h.1
      · exact h.2 i h3 (by omega)
    · intro h
      exact ⟨h j (by omega) (by omega), fun i h1 h2 => h i (by omega) (by omega)⟩
def anyT : T := trm 5 0 0 emptyB false false false []
def bareT (t : T) : Bool := decide (lo t = 0) && decide (hi t = 0) && decide (tx t = emptyB) && !an t && !mb t
def fullF (R : T → Bool) (f : T) : Bool := decide ((terms (val f)).length ≠ 0) && R (val f)
def okT (R : T → Bool) (d : Nat) (t : T) : Bool :=
  if kd t = 5 then decide (cmpT d t anyT = 0)
  else if kd t = 4 then bareT t && decide ((flds t).length ≤ 32) && names (flds t) && (flds t).all (fullF R)
  else rightS t
def ascAt (d : Nat) (l : List T) (j : Nat) : Bool := j == 0 || decide (cmpT d (tAtD l (j - 1)) (tAtD l j) < 0)
def apart (d : Nat) (l : List T) (i k : Nat) : Bool := decide (i = k) || !belowT (underV d) (tAtD l i) (tAtD l k)
def inOrder (R : T → Bool) (d : Nat) (l : List T) : Bool := allN (fun j => okT R d (tAtD l j) && ascAt d l j) l.length 0
def allApart (d : Nat) (l : List T) : Bool := allN (fun i => allN (apart d l i) l.length 0) l.length 0
def okV : Nat → T → Bool
  | 0, _ => false
  | d + 1, v => inOrder (okV d) d (terms v) && allApart d (terms v)
def listV : Nat → Nat → T → Bool
  | 0, _, _ => false
  | _ + 1, 0, _ => false
  | d + 1, e + 1, v => inOrder (listV d e) d (terms v) && allApart d (terms v)
def refV : Nat → T → Bool
  | 0, _ => false
  | d + 1, v => decide (dep (d + 1) v ≤ 16) && (inOrder (refV d) d (terms v) && allApart d (terms v))
def depT (d : Nat) (t : T) : Nat := maxN ((flds t).map fun f => dep d (val f))
theorem dep_succ (d : Nat) (v : T) : dep (d + 1) v = 1 + maxN ((terms v).map (depT d)) := id rfl
theorem maxN_le (l : List Nat) (e : Nat) : maxN l ≤ e ↔ ∀ x ∈ l, x ≤ e := by
  induction l with
  | nil => simp [maxN]
  | cons a l ih =>
    rw [max_cons, Nat.max_le, ih]
    simp
theorem any_flds {d : Nat} {t : T} (h : cmpT d t anyT = 0) : flds t = [] := by
  unfold cmpT at h
  have hp : cmpL (cmpG d) (flds t) (flds anyT) = 0 := by
    unfold fst at h
    split at h
    · exact h
    · rename_i h1; exact absurd h h1
  cases hf : flds t with
  | nil => rfl
  | cons f l =>
    rw [hf] at hp
    have : flds anyT = [] := rfl
    rw [this] at hp
    simp [cmpL] at hp
theorem okT_flds {R : T → Bool} {d : Nat} {t : T} (h : okT R d t = true) (h4 : kd t ≠ 4) : flds t = [] := by
  unfold okT at h
  split at h
  · exact any_flds (of_decide_eq_true h)
  · exact (right_op h).2.1
theorem okT_deep {R S : T → Bool} {d e : Nat} {t : T} (hR : ∀ f ∈ flds t, R (val f) = (S (val f) && decide (dep d (val f) ≤ e))) : okT R d t = (okT S d t && decide (depT d t ≤ e)) := by
  by_cases h4 : kd t = 4
  · have hall : (flds t).all (fullF R) = ((flds t).all (fullF S) && decide (depT d t ≤ e)) := by
      rw [Bool.eq_iff_iff, Bool.and_eq_true, decide_eq_true_eq, List.all_eq_true, List.all_eq_true, depT, maxN_le]
      simp only [fullF, List.mem_map, forall_exists_index, and_imp, forall_apply_eq_imp_iff₂]
      constructor
      · intro h
        refine ⟨fun f hf => ?_, fun f hf => ?_⟩
        · have := h f hf; rw [hR f hf] at this; simp only [Bool.and_eq_true, decide_eq_true_eq] at this ⊢; exact ⟨this.1, this.2.1⟩
        · have := h f hf; rw [hR f hf] at this; simp only [Bool.and_eq_true, decide_eq_true_eq] at this; exact this.2.2
      · rintro ⟨h1, h2⟩ f hf
        have := h1 f hf; rw [hR f hf]; simp only [Bool.and_eq_true, decide_eq_true_eq] at this ⊢; exact ⟨this.1, this.2, h2 f hf⟩
    unfold okT
    rw [if_neg (by omega), if_pos h4, if_neg (by omega), if_pos h4, hall, Bool.and_assoc]
    simp only [Bool.and_assoc]
  · have he : okT R d t = okT S d t := by unfold okT; rw [if_neg h4, if_neg h4]
    rw [he]
    cases hb : okT S d t with
    | false => rfl
    | true =>
      have : depT d t = 0 := by rw [depT, okT_flds hb h4]; rfl
      rw [this]; simp
theorem order_deep {R S : T → Bool} {d e : Nat} {l : List T} (hR : ∀ t ∈ l, ∀ f ∈ flds t, R (val f) = (S (val f) && decide (dep d (val f) ≤ e))) : inOrder R d l = (inOrder S d l && decide (maxN (l.map (depT d)) ≤ e)) := by
  have hT : ∀ j, j < l.length → okT R d (tAtD l j) = (okT S d (tAtD l j) && decide (depT d (tAtD l j) ≤ e)) := fun j hj => okT_deep (by rw [at_get hj]; exact hR _ (List.getElem_mem hj))
  unfold inOrder
  rw [Bool.eq_iff_iff, Bool.and_eq_true, decide_eq_true_eq, allN_iff, allN_iff, maxN_le]
  simp only [Nat.zero_le, true_implies, Nat.zero_add, List.mem_map, forall_exists_index, and_imp, forall_apply_eq_imp_iff₂]
  constructor
  · intro h
    refine ⟨fun i hi => ?_, fun t ht => ?_⟩
    · have := h i hi; rw [hT i hi] at this; simp only [Bool.and_eq_true, decide_eq_true_eq] at this ⊢; exact ⟨this.1.1, this.2⟩
    · obtain ⟨i, hi, rfl⟩ := List.getElem_of_mem ht
      have := h i hi; rw [hT i hi, at_get hi] at this; simp only [Bool.and_eq_true, decide_eq_true_eq] at this; exact this.1.2
  · rintro ⟨h1, h2⟩ i hi
    have := h1 i hi; rw [hT i hi]; simp only [Bool.and_eq_true, decide_eq_true_eq] at this ⊢
    exact ⟨⟨this.1, by rw [at_get hi]; exact h2 _ (List.getElem_mem hi)⟩, this.2⟩
theorem listV_eq : ∀ (d e : Nat) (v : T), listV d e v = (okV d v && decide (dep d v ≤ e))
  | 0, e, v => by simp [listV, okV]
  | d + 1, 0, v => by rw [dep_succ, decide_eq_false (by omega), Bool.and_false]; rfl
  | d + 1, e + 1, v => by
    rw [listV, okV, order_deep (S := okV d) (e := e) (fun t _ f _ => listV_eq d e (val f)), dep_succ]
    have : decide (1 + maxN ((terms v).map (depT d)) ≤ e + 1) = decide (maxN ((terms v).map (depT d)) ≤ e) := decide_eq_decide.2 (by omega)
    rw [this, Bool.and_assoc, Bool.and_assoc, Bool.and_comm (decide _)]
theorem refV_eq : ∀ (d : Nat) (v : T), refV d v = (okV d v && decide (dep d v ≤ 16))
  | 0, v => by simp [refV, okV]
  | d + 1, v => by
    rw [refV, okV, order_deep (S := okV d) (e := 16) (fun t _ f _ => refV_eq d (val f)), Bool.and_comm]
    cases h : decide (dep (d + 1) v ≤ 16) with
    | false => rw [Bool.and_false, Bool.and_false]
    | true =>
      have h1 := of_decide_eq_true h
      rw [dep_succ] at h1
      rw [decide_eq_true (by omega : maxN ((terms v).map (depT d)) ≤ 16)]
      simp only [Bool.and_true]
theorem refV_list (d : Nat) (v : T) : refV d v = listV d 16 v := by rw [refV_eq, listV_eq]
theorem okV_NR : ∀ (d : Nat) (v : T), okV d v = true → NR d v
  | 0, v, h => by cases h
  | d + 1, v, h => by
    rw [okV, Bool.and_eq_true] at h
    intro t ht h4
    obtain ⟨i, hi, rfl⟩ := List.getElem_of_mem ht
    have := (allN_iff _ _ _).1 h.1 i (by omega) (by omega)
    rw [at_get hi, Bool.and_eq_true] at this
    have h1 := this.1
    unfold okT at h1
    rw [if_neg (by omega), if_pos h4, Bool.and_eq_true, Bool.and_eq_true, List.all_eq_true] at h1
    refine ⟨names_rise h1.1.2, fun f hf => okV_NR d _ ?_⟩
    have := h1.2 f hf
    rw [fullF, Bool.and_eq_true] at this
    exact this.2
theorem NRt_of {d : Nat} {R : T → Bool} {t : T} (hR : ∀ f ∈ flds t, R (val f) = true → NR d (val f)) (h : okT R d t = true) : NRt d t := by
  intro h4
  unfold okT at h
  rw [if_neg (by omega), if_pos h4, Bool.and_eq_true, Bool.and_eq_true, List.all_eq_true] at h
  refine ⟨names_rise h.1.2, fun f hf => hR f hf ?_⟩
  have := h.2 f hf
  rw [fullF, Bool.and_eq_true] at this
  exact this.2
theorem listV_NR {d e : Nat} {v : T} (h : listV d e v = true) : NR d v := by
  rw [listV_eq, Bool.and_eq_true] at h
  exact okV_NR d v h.1
end Go.Proofs.YtdofdhlpheaonaaDoorKT
namespace Go.Proofs.YtdofdhlpheaonaaDoorKT
open Go Go.Proofs.YtdofdhlpheaonaaDoorVM
set_option linter.unusedVariables false
set_option linter.unusedSimpArgs false
set_option maxRecDepth 100000

theorem anyT_eq : T.node [T.int 5, T.int 0, T.int 0, T.str ByteArray.empty, T.bool false, T.bool false, T.bool false, T.node []] = anyT := id rfl
theorem Sm_any (d : Nat) : SmT d anyT := ⟨by decide, fun f hf => absurd hf (by show ¬ f ∈ []; simp)⟩
theorem beqI (a b : Int) : (a == b) = decide (a = b) := Bool.beq_eq_decide_eq a b
end Go.Proofs.YtdofdhlpheaonaaDoorKT
namespace Go.Proofs.YtdofdhlpheaonaaDoorKT
open Go Go.Proofs.YtdofdhlpheaonaaDoorVM
set_option linter.unusedVariables false
set_option linter.unusedSimpArgs false
set_option maxRecDepth 100000

end Go.Proofs.YtdofdhlpheaonaaDoorKT
namespace Go.Proofs.YtdofdhlpheaonaaDoorKT
open Go Go.Proofs.YtdofdhlpheaonaaDoorVM
set_option linter.unusedVariables false
set_option linter.unusedSimpArgs false
set_option maxRecDepth 100000

def tb (l : List UInt8) : List T := l.map fun b => T.int (b.toNat : Nat)
def sb (l : List UInt8) : ByteArray := ⟨l.toArray⟩
theorem tb_app (l m : List UInt8) : tb (l ++ m) = tb l ++ tb m := List.map_append
theorem tb_len (l : List UInt8) : (tb l).length = l.length := List.length_map _
theorem sb_size (l : List UInt8) : (sb l).size = l.length := by show l.toArray.size = _; simp
theorem sb_app (l m : List UInt8) : sb l ++ sb m = sb (l ++ m) := by
  apply ByteArray.ext
  rw [ByteArray.data_append]
  simp [sb]
theorem sb_toList (s : ByteArray) : sb s.data.toList = s := by apply ByteArray.ext; simp [sb]
theorem bytesT_tb (l : List UInt8) : bytesT (tb l) = sb l := by
  unfold bytesT tb sb
  rw [List.map_map]
  congr 2
  induction l with
  | nil => rfl
  | cons a l ih =>
    rw [List.map_cons, ih]
    show UInt8.ofNat (Int.toNat ((a.toNat : Nat) : Int)) :: l = a :: l
    rw [Int.toNat_natCast, UInt8.ofNat_toNat]
theorem tBytes_tb (s : ByteArray) : tBytes s = tb s.data.toList := by unfold tBytes tb; rfl
theorem ofB {k : Nat} (h : k < 256) : (((UInt8.ofNat k).toNat : Nat) : Int) = (k : Int) := by
  rw [UInt8.toNat_ofNat']; omega
def hiB : Nat → Nat → List UInt8
  | 0, _ => []
  | k + 1, m => if m = 0 then [] else hiB k (m / 128) ++ [UInt8.ofNat (m % 128 + 128)]
def numB (n : Nat) : List UInt8 := hiB 9 (n / 128) ++ [UInt8.ofNat (n % 128)]
theorem hiB_zero : ∀ k, hiB k 0 = []
  | 0 => rfl
  | k + 1 => rfl
theorem hiB_len : ∀ k m, (hiB k m).length ≤ k
  | 0, m => Nat.le_refl _
  | k + 1, m => by
    rw [hiB]
    split
    · exact Nat.zero_le _
    · rw [List.length_append]; have := hiB_len k (m / 128); simp; omega
theorem numB_len (n : Nat) : (numB n).length ≤ 10 := by
  unfold numB
  rw [List.length_append]
  have := hiB_len 9 (n / 128)
  simp; omega
def signN (n : Int) : Nat := if n < 0 then 2 * (-(n + 1)).toNat + 1 else 2 * n.toNat
theorem signN_lt {n : Int} (h1 : -9007199254740992 ≤ n) (h2 : n ≤ 9007199254740992) : signN n < 9223372036854775808 := by unfold signN; split <;> omega
def textB (s : ByteArray) : List UInt8 := numB s.size ++ s.data.toList
theorem textB_len (s : ByteArray) : (textB s).length ≤ 10 + s.size := by
  unfold textB
  have := numB_len s.size
  have h : s.data.toList.length = s.size := by rw [Array.length_toList]; rfl
  rw [List.length_append]
  omega
def bitN (b : Bool) (n : Nat) : Nat := if b then n else 0
def markN (t : T) : Nat := 8 * (kd t).toNat + bitN (mb t) 1 + bitN (an t) 2 + bitN (op t) 4
def fldB (E : T → List UInt8) (f : T) : List UInt8 := textB (nm f) ++ E (val f)
def bodyT (E : T → List UInt8) (t : T) : List UInt8 :=
  if kd t = 1 ∨ kd t = 2 then numB (signN (lo t)) ++ numB (signN (hi t)) else if kd t = 3 then textB (tx t) else if kd t = 4 then numB (flds t).length ++ (flds t).flatMap (fldB E) else []
def encT (E : T → List UInt8) (t : T) : List UInt8 := numB (markN t) ++ bodyT E t
def encV : Nat → T → List UInt8
  | 0, _ => []
  | d + 1, v => numB (terms v).length ++ (terms v).flatMap (encT (encV d))
def okK (t : T) : Prop := 1 ≤ kd t ∧ kd t ≤ 5 ∧ (kd t = 1 ∨ kd t = 2 → (-9007199254740992 ≤ lo t ∧ lo t ≤ 9007199254740992) ∧ (-9007199254740992 ≤ hi t ∧ hi t ≤ 9007199254740992))
def EV : Nat → T → Prop
  | 0, _ => False
  | d + 1, v => ∀ t ∈ terms v, okK t ∧ (kd t = 4 → ∀ f ∈ flds t, EV d (val f))
theorem flat_len (E : T → List UInt8) (g : T → Nat) (l : List T) (h : ∀ x ∈ l, (E x).length ≤ g x) : (l.flatMap E).length ≤ sumN (l.map g) := by
  induction l with
  | nil => exact Nat.zero_le _
  | cons a l ih =>
    rw [List.flatMap_cons, List.length_append, List.map_cons, sum_cons]
    have := h a List.mem_cons_self
    have := ih fun x hx => h x (List.mem_cons_of_mem _ hx)
    omega
theorem sum_lin (g : T → Nat) (a c : Nat) (l : List T) : sumN (l.map fun x => a + c * g x) = a * l.length + c * sumN (l.map g) := by
  induction l with
  | nil => simp [sumN]
  | cons x l ih =>
    rw [List.map_cons, sum_cons, ih, List.map_cons, sum_cons, List.length_cons, Nat.mul_add, Nat.mul_add]
    omega
theorem sum_scale (g : T → Nat) (c : Nat) (l : List T) : sumN (l.map fun x => c * g x) = c * sumN (l.map g) := by
  induction l with
  | nil => simp [sumN]
  | cons x l ih => rw [List.map_cons, sum_cons, ih, List.map_cons, sum_cons, Nat.mul_add]
theorem encV_len : ∀ (d : Nat) (v : T), Vd d v → (encV d v).length ≤ 10 + 20000 * wt d v
  | 0, v, h => h.elim
  | d + 1, v, h => by
    rw [encV, wt_succ, List.length_append]
    have h1 := numB_len (terms v).length
    have h2 : ((terms v).flatMap (encT (encV d))).length ≤ sumN ((terms v).map fun t => 20000 * wtT d t) := by
      refine flat_len _ _ _ fun t ht => ?_
      obtain ⟨c1, c2, c3⟩ := h t ht
      have n1 := numB_len (markN t)
      have n2 := numB_len (signN (lo t))
      have n3 := numB_len (signN (hi t))
      have n4 := textB_len (tx t)
      have c2' : (tx t).size ≤ 400 := c2
      have n5 := numB_len (flds t).length
      have n6 : ((flds t).flatMap (fldB (encV d))).length ≤ sumN ((flds t).map fun f => 120 + 20000 * wt d (val f)) := by
        refine flat_len _ _ _ fun f hf => ?_
        have := textB_len (nm f)
        have := (c3 f hf).1
        have := encV_len d (val f) (c3 f hf).2
        rw [fldB, List.length_append]
        omega
      rw [sum_lin] at n6
      unfold wtT
      rw [encT, List.length_append, bodyT]
      generalize sumN ((flds t).map fun f => wt d (val f)) = s at n6 ⊢
      split
      · rw [List.length_append]; omega
      · split
        · omega
        · split
          · rw [List.length_append]; omega
          · simp; omega
    rw [sum_scale] at h2
    omega
theorem markN_lt (t : T) (h5 : kd t ≤ 5) : markN t < 1000 := by
  unfold markN bitN
  split <;> split <;> split <;> omega
theorem flat_drop (E : T → List UInt8) {l : List T} {j : Nat} (h : j < l.length) : (l.drop j).flatMap E = E l[j] ++ (l.drop (j + 1)).flatMap E := by rw [List.drop_eq_getElem_cons h, List.flatMap_cons]
end Go.Proofs.YtdofdhlpheaonaaDoorKT
namespace Go.Proofs.YtdofdhlpheaonaaDoorKT
open Go Go.Proofs.YtdofdhlpheaonaaDoorVM
set_option linter.unusedVariables false
set_option linter.unusedSimpArgs false
set_option maxRecDepth 100000

theorem Dz.go {i : Nat} {p : Option (List Bool)} {R : Nat × List A} (n : Nat) (I : Nat → List A) (hend : Dz i p (I n) R) (hstep : ∀ j, j < n → ∀ R, Dz i p (I (j + 1)) R → Dz i p (I j) R) : Dz i p (I 0) R := by
  have : ∀ k j, j + k = n → Dz i p (I j) R := by
    intro k
    induction k with
    | zero => intro j hj; rw [show j = n by omega]; exact hend
    | succ k ih => intro j hj; exact hstep j (by omega) R (ih (j + 1) (by omega))
  exact this n 0 (by omega)
def opE (e : T) : Int := (e.get 0).num
def numE (e : T) : Int := (e.get 1).num
def txtE (e : T) : ByteArray := (e.get 2).txt
def pathE (e : T) : List T := (e.get 3).kids
def prsE (e : T) : List T := (e.get 4).kids
def openE (e : T) : Bool := (e.get 5).tf
def kidsE (e : T) : List T := (e.get 6).kids
theorem SX : (∀ e, (T.get e 0).num = opE e) ∧ (∀ e, (T.get e 1).num = numE e) ∧ (∀ e, (T.get e 2).txt = txtE e) ∧ (∀ e, (T.get e 3).kids = pathE e) ∧ (∀ e, (T.get e 4).kids = prsE e) ∧ (∀ e, (T.get e 5).tf = openE e) ∧ (∀ e, (T.get e 6).kids = kidsE e) ∧
    (∀ e, (T.get e 0).txt = nm e) ∧ (∀ e, T.get e 1 = val e) := ⟨fun _ => rfl, fun _ => rfl, fun _ => rfl, fun _ => rfl, fun _ => rfl, fun _ => rfl, fun _ => rfl, fun _ => rfl, fun _ => rfl⟩
theorem SY : (∀ e, (T.get e 0).num = opE e) ∧ (∀ e, (T.get e 1).num = numE e) ∧ (∀ e, (T.get e 2).txt = txtE e) ∧ (∀ e, (T.get e 3).kids = pathE e) ∧ (∀ e, (T.get e 4).kids = prsE e) ∧ (∀ e, (T.get e 5).tf = openE e) ∧ (∀ e, (T.get e 6).kids = kidsE e) := ⟨fun _ => rfl, fun _ => rfl, fun _ => rfl, fun _ => rfl, fun _ => rfl, fun _ => rfl, fun _ => rfl⟩
def Ed : Nat → T → Prop
  | 0, _ => False
  | d + 1, e => ((txtE e).size ≤ 400 ∧ (pathE e).length ≤ 40 ∧ (prsE e).length ≤ 200 ∧ (kidsE e).length ≤ 200) ∧ (∀ s ∈ pathE e, s.txt.size ≤ 400) ∧ (∀ p ∈ prsE e, (nm p).size ≤ 400 ∧ Ed d (val p)) ∧ (∀ k ∈ kidsE e, Ed d k)
def wE : Nat → T → Nat
  | 0, _ => 0
  | d + 1, e => 1 + sumN ((prsE e).map fun p => wE d (val p)) + sumN ((kidsE e).map (wE d))
def leftP (g : T → Int → Int) : List T → Int → Int
  | [], n => n
  | p :: l, n => if n < 0 then n else if 400 < (nm p).size then -1 else leftP g l (g (val p) n)
def leftK (g : T → Int → Int) : List T → Int → Int
  | [], n => n
  | k :: l, n => if n < 0 then n else leftK g l (g k n)
def leftE : Nat → T → Int → Int
  | 0, _, _ => -1
  | d + 1, e, n => if n ≤ 0 then -1 else if 400 < (txtE e).size ∨ 40 < (pathE e).length ∨ 200 < (prsE e).length ∨ 200 < (kidsE e).length then -1 else
      if (pathE e).any (fun s => decide (400 < s.txt.size)) = true then -1 else leftK (leftE d) (kidsE e) (leftP (leftE d) (prsE e) (n - 1))
theorem leftP_neg (g : T → Int → Int) : ∀ (l : List T) (n : Int), n < 0 → leftP g l n = n
  | [], n, h => rfl
  | f :: fs, n, h => by rw [leftP, if_pos h]
theorem leftK_neg (g : T → Int → Int) : ∀ (l : List T) (n : Int), n < 0 → leftK g l n = n
  | [], n, h => rfl
  | f :: fs, n, h => by rw [leftK, if_pos h]
theorem leftP_le {g : T → Int → Int} (hg : ∀ v n, g v n ≤ max n (-1) ∧ (-1 ≤ n → -1 ≤ g v n)) : ∀ (l : List T) (n : Int), leftP g l n ≤ max n (-1) ∧ (-1 ≤ n → -1 ≤ leftP g l n) := by
  intro l
  induction l with
  | nil => intro n; simp only [leftP]; omega
  | cons f l ih =>
    intro n
    rw [leftP]
    split
    · omega
    · split
      · omega
      · have h1 := ih (g (val f) n)
        have h2 := hg (val f) n
        omega
theorem leftK_le {g : T → Int → Int} (hg : ∀ v n, g v n ≤ max n (-1) ∧ (-1 ≤ n → -1 ≤ g v n)) : ∀ (l : List T) (n : Int), leftK g l n ≤ max n (-1) ∧ (-1 ≤ n → -1 ≤ leftK g l n) := by
  intro l
  induction l with
  | nil => intro n; simp only [leftK]; omega
  | cons f l ih =>
    intro n
    rw [leftK]
    split
    · omega
    · have h1 := ih (g f n)
      have h2 := hg f n
      omega
theorem leftE_le : ∀ (d : Nat) (v : T) (n : Int), leftE d v n ≤ max n (-1) ∧ (-1 ≤ n → -1 ≤ leftE d v n)
  | 0, v, n => by simp only [leftE]; omega
  | d + 1, v, n => by
    rw [leftE]
    have h1 := leftP_le (leftE_le d) (prsE v) (n - 1)
    have h2 := leftK_le (leftE_le d) (kidsE v) (leftP (leftE d) (prsE v) (n - 1))
    split
    · omega
    · split
      · omega
      · split <;> omega
theorem leftE_few : ∀ (d : Nat) (e : T) (n : Int), 0 ≤ leftE d e n → Ed d e ∧ leftE d e n + (wE d e : Nat) = n
  | 0, e, n, h => by simp [leftE] at h
  | d + 1, e, n, h => by
    have hP : ∀ (l : List T) (n : Int), 0 ≤ leftP (leftE d) l n → (∀ p ∈ l, (nm p).size ≤ 400 ∧ Ed d (val p)) ∧ leftP (leftE d) l n + (sumN (l.map fun p => wE d (val p)) : Nat) = n := by
      intro l
      induction l with
      | nil => intro n hn; exact ⟨by simp, by simp [leftP, sumN]⟩
      | cons f l ih =>
        intro n hn
        rw [leftP] at hn ⊢
        split at hn
        · omega
        · split at hn
          · omega
          · rename_i h1 h2
            rw [if_neg h1, if_neg h2]
            obtain ⟨q1, q2⟩ := ih _ hn
            have h3 : 0 ≤ leftE d (val f) n := by
              rcases Int.lt_or_le (leftE d (val f) n) 0 with h4 | h4
              · rw [leftP_neg _ _ _ h4] at hn; omega
              · exact h4
            obtain ⟨q3, q4⟩ := leftE_few d (val f) n h3
            refine ⟨fun x hx => ?_, ?_⟩
            · rcases List.mem_cons.1 hx with rfl | hx
              · exact ⟨by omega, q3⟩
              · exact q1 x hx
            · simp only [List.map_cons, sumN, List.foldr_cons] at q2 ⊢
              omega
    have hK : ∀ (l : List T) (n : Int), 0 ≤ leftK (leftE d) l n → (∀ p ∈ l, Ed d p) ∧ leftK (leftE d) l n + (sumN (l.map (wE d)) : Nat) = n := by
      intro l
      induction l with
      | nil => intro n hn; exact ⟨by simp, by simp [leftK, sumN]⟩
      | cons f l ih =>
        intro n hn
        rw [leftK] at hn ⊢
        split at hn
        · omega
        · rename_i h1
          rw [if_neg h1]
          obtain ⟨q1, q2⟩ := ih _ hn
          have h3 : 0 ≤ leftE d f n := by
            rcases Int.lt_or_le (leftE d f n) 0 with h4 | h4
            · rw [leftK_neg _ _ _ h4] at hn; omega
            · exact h4
          obtain ⟨q3, q4⟩ := leftE_few d f n h3
          refine ⟨fun x hx => ?_, ?_⟩
          · rcases List.mem_cons.1 hx with rfl | hx
            · exact q3
            · exact q1 x hx
          · simp only [List.map_cons, sumN, List.foldr_cons] at q2 ⊢
            omega
    rw [leftE] at h ⊢
    split at h
    · omega
    split at h
    · omega
    split at h
    · omega
    rename_i h1 h2 h3
    rw [if_neg h1, if_neg h2, if_neg h3]
    obtain ⟨q1, q2⟩ := hK _ _ h
    have h4 : 0 ≤ leftP (leftE d) (prsE e) (n - 1) := by
      rcases Int.lt_or_le (leftP (leftE d) (prsE e) (n - 1)) 0 with h4 | h4
      · rw [leftK_neg _ _ _ h4] at h; omega
      · exact h4
    obtain ⟨q3, q4⟩ := hP _ _ h4
    refine ⟨⟨by omega, fun s hs => ?_, q3, q1⟩, ?_⟩
    · rcases Nat.lt_or_ge 400 s.txt.size with h5 | h5
      · exact absurd (List.any_eq_true.2 ⟨s, hs, decide_eq_true h5⟩) h3
      · exact h5
    · rw [wE]
      omega
theorem leftE_path (x0 x1 : Int) (e : T) (hl : (pathE e).length ≤ 40) : ∀ (k j : Nat), j + k = (pathE e).length →
    Dz i_L13_left (some p_L13_left_c1) [A.t (T.int x0), A.t (T.int x1), A.t (T.int j), A.t e] (if ((pathE e).drop j).any (fun s => decide (400 < s.txt.size)) = true then (1, [A.t (T.int (-1))]) else (2, [A.t (T.int x0), A.t (T.int x1), A.t e])) := by
  intro k
  induction k with
  | zero =>
    intro j hj
    refine Does.now fun m => ?_
    rw [q_L13_left_c1, List.drop_of_length_le (by omega)]
    simp only [S0, S9, S1, S2, if_true, if_false, SY, List.any_nil]
    rw [if_neg (by omega)]
  | succ k ih =>
    intro j hj
    have hlt : j < (pathE e).length := by omega
    have hw : IntKind.i64.wrap ((j : Int) + 1) = ((j + 1 : Nat) : Int) := i64succ (by omega)
    obtain ⟨n0, h0⟩ := ih (j + 1) (by omega)
    refine Does.of n0 fun m hm => ?_
    have q := h0 m hm
    rw [q_L13_left_c1, List.drop_eq_getElem_cons hlt, List.any_cons]
    simp only [S0, S9, S1, S2, if_true, if_false, SY, hw, at_get hlt, q]
    rw [if_pos (by omega), if_pos (by omega)]
    by_cases hs : 400 < (pathE e)[j].txt.size
    · rw [if_pos (by omega), if_pos (Or.inl hs)]
    · rw [if_neg (by omega)]
      simp only [hs, false_or]
theorem leftE_prs (d : Nat) (ih : ∀ v n, n ≤ 200 → -1 ≤ n → Dz i_L13_left none [A.t v, A.t (T.int d), A.t (T.int n)] (1, [A.t (T.int (leftE d v n))])) (hd : d ≤ 40) (e : T) (hl : (prsE e).length ≤ 200) :
    ∀ (k j : Nat) (n : Int), j + k = (prsE e).length → n ≤ 200 → -1 ≤ n →
      Dz i_L13_left (some p_L13_left_c2) [A.t (T.int (d + 1 : Nat)), A.t (T.int n), A.t (T.int j), A.t e] (4, [A.t (T.int (d + 1 : Nat)), A.t (T.int (leftP (leftE d) ((prsE e).drop j) n)), A.t e]) ∨
      (leftP (leftE d) ((prsE e).drop j) n = -1 ∧ Dz i_L13_left (some p_L13_left_c2) [A.t (T.int (d + 1 : Nat)), A.t (T.int n), A.t (T.int j), A.t e] (1, [A.t (T.int (-1))])) := by
  intro k
  induction k with
  | zero =>
    intro j n hj h1 h2
    left
    refine Does.now fun m => ?_
    rw [q_L13_left_c2, List.drop_of_length_le (by omega), leftP]
    simp only [S0, S9, S1, S2, if_true, if_false, SY]
    repeat (first | rw [if_pos (by omega)] | rw [if_neg (by omega)])
  | succ k ihk =>
    intro j n hj h1 h2
    have hlt : j < (prsE e).length := by omega
    rw [List.drop_eq_getElem_cons hlt, leftP]
    by_cases h0 : n < 0
    · left
      rw [if_pos h0]
      refine Does.now fun m => ?_
      rw [q_L13_left_c2]
      simp only [S0, S9, S1, S2, if_true, if_false, SY]
      repeat (first | rw [if_pos (by omega)] | rw [if_neg (by omega)])
    rw [if_neg h0]
    have hs' : (T.get (prsE e)[j] 0).txt.size = (nm (prsE e)[j]).size := rfl
    by_cases hs : 400 < (nm (prsE e)[j]).size
    · right
      rw [if_pos hs]
      refine ⟨rfl, Does.now fun m => ?_⟩
      rw [q_L13_left_c2]
      simp only [S0, S9, S1, S2, if_true, if_false, SY, at_get hlt, hs']
      repeat (first | rw [if_pos (by omega)] | rw [if_neg (by omega)])
      all_goals rfl
    rw [if_neg hs]
    have hrec := ih (val (prsE e)[j]) n h1 h2
    have hle := leftE_le d (val (prsE e)[j]) n
    have hv' : T.get (prsE e)[j] 1 = val (prsE e)[j] := rfl
    have hw : IntKind.i64.wrap ((j : Int) + 1) = ((j + 1 : Nat) : Int) := i64succ (by omega)
    have hd1 : IntKind.i64.wrap (((d + 1 : Nat) : Int) - 1) = ((d : Nat) : Int) := by rw [w64 (by omega) (by omega)]; omega
    have step : ∀ R, Dz i_L13_left (some p_L13_left_c2) [A.t (T.int (d + 1 : Nat)), A.t (T.int (leftE d (val (prsE e)[j]) n)), A.t (T.int (j + 1 : Nat)), A.t e] R →
        Dz i_L13_left (some p_L13_left_c2) [A.t (T.int (d + 1 : Nat)), A.t (T.int n), A.t (T.int j), A.t e] R := by
      intro R hR
      obtain ⟨n0, h0'⟩ := hrec.both hR
      refine Does.of n0 fun m hm => ?_
      obtain ⟨q1, q2⟩ := h0' m hm
      rw [q_L13_left_c2]
      simp only [S0, S9, S1, S2, if_true, if_false, SY, at_get hlt, hs', hv', hd1, q1, hw]
      repeat (first | rw [if_pos (by omega)] | rw [if_neg (by omega)])
      exact q2
    rcases ihk (j + 1) (leftE d (val (prsE e)[j]) n) (by omega) (by omega) (by omega) with h | ⟨h, h'⟩
    · left; exact step _ h
    · right; exact ⟨h, step _ h'⟩
theorem leftE_kids (d : Nat) (ih : ∀ v n, n ≤ 200 → -1 ≤ n → Dz i_L13_left none [A.t v, A.t (T.int d), A.t (T.int n)] (1, [A.t (T.int (leftE d v n))])) (hd : d ≤ 40) (e : T) (hl : (kidsE e).length ≤ 200) :
    ∀ (k j : Nat) (n : Int), j + k = (kidsE e).length → n ≤ 200 → -1 ≤ n →
      Dz i_L13_left (some p_L13_left_c3) [A.t (T.int (d + 1 : Nat)), A.t (T.int n), A.t (T.int j), A.t e] (6, [A.t (T.int (leftK (leftE d) ((kidsE e).drop j) n))]) := by
  intro k
  induction k with
  | zero =>
    intro j n hj h1 h2
    refine Does.now fun m => ?_
    rw [q_L13_left_c3, List.drop_of_length_le (by omega), leftK]
    simp only [S0, S9, S1, S2, if_true, if_false, SY]
    repeat (first | rw [if_pos (by omega)] | rw [if_neg (by omega)])
  | succ k ihk =>
    intro j n hj h1 h2
    have hlt : j < (kidsE e).length := by omega
    rw [List.drop_eq_getElem_cons hlt, leftK]
    by_cases h0 : n < 0
    · rw [if_pos h0]
      refine Does.now fun m => ?_
      rw [q_L13_left_c3]
      simp only [S0, S9, S1, S2, if_true, if_false, SY]
      repeat (first | rw [if_pos (by omega)] | rw [if_neg (by omega)])
    rw [if_neg h0]
    have hrec := ih (kidsE e)[j] n h1 h2
    have hle := leftE_le d (kidsE e)[j] n
    have hw : IntKind.i64.wrap ((j : Int) + 1) = ((j + 1 : Nat) : Int) := i64succ (by omega)
    have hd1 : IntKind.i64.wrap (((d + 1 : Nat) : Int) - 1) = ((d : Nat) : Int) := by rw [w64 (by omega) (by omega)]; omega
    obtain ⟨n0, h0'⟩ := hrec.both (ihk (j + 1) (leftE d (kidsE e)[j] n) (by omega) (by omega) (by omega))
    refine Does.of n0 fun m hm => ?_
    obtain ⟨q1, q2⟩ := h0' m hm
    rw [q_L13_left_c3]
    simp only [S0, S9, S1, S2, if_true, if_false, SY, at_get hlt, hd1, q1, hw]
    repeat (first | rw [if_pos (by omega)] | rw [if_neg (by omega)])
    exact q2
theorem leftE_does : ∀ (d : Nat) (e : T) (n : Int), d ≤ 40 → n ≤ 200 → -1 ≤ n → Dz i_L13_left none [A.t e, A.t (T.int d), A.t (T.int n)] (1, [A.t (T.int (leftE d e n))])
  | 0, v, n, hd, h1, h2 => by
    refine Does.now fun m => ?_
    rw [q_L13_left, leftE]
    simp only [S0, S9, S1, S2, if_true, if_false, SY]
    repeat (first | rw [if_pos (by omega)] | rw [if_neg (by omega)])
  | d + 1, e, n, hd, h1, h2 => by
    rw [leftE]
    have h6 : Nat.beq 2 6 = false := rfl
    by_cases c1 : n ≤ 0
    · rw [if_pos c1]
      refine Does.now fun m => ?_
      rw [q_L13_left]
      simp only [S0, S9, S1, S2, if_true, if_false, SY]
      repeat (first | rw [if_pos (by omega)] | rw [if_neg (by omega)])
    rw [if_neg c1]
    by_cases c2 : 400 < (txtE e).size ∨ 40 < (pathE e).length ∨ 200 < (prsE e).length ∨ 200 < (kidsE e).length
    · rw [if_pos c2]
      refine Does.now fun m => ?_
      rw [q_L13_left]
      simp only [S0, S9, S1, S2, if_true, if_false, SY]
      rw [if_pos (by omega), if_pos (by omega)]
      repeat' split
      all_goals first | rfl | omega
    rw [if_neg c2]
    have hw1 : IntKind.i64.wrap (n - 1) = n - 1 := w64 (by omega) (by omega)
    have hp := leftE_path ((d + 1 : Nat) : Int) (n - 1) e (by omega) (pathE e).length 0 (by omega)
    rw [List.drop_zero] at hp
    by_cases c3 : (pathE e).any (fun s => decide (400 < s.txt.size)) = true
    · rw [if_pos c3] at hp ⊢
      obtain ⟨n0, h0⟩ := hp
      refine Does.of n0 fun m hm => ?_
      have q1 : den Tryd.prog G0 ents m i_L13_left (some p_L13_left_c1) [A.t (T.int (d + 1 : Nat)), A.t (T.int (n - 1)), A.t (T.int 0), A.t e] = _ := h0 m hm
      rw [q_L13_left]
      simp only [S0, S9, S1, S2, if_true, if_false, SY, hw1, q1]
      repeat (first | rw [if_pos (by omega)] | rw [if_neg (by omega)])
    rw [if_neg c3] at hp ⊢
    have hrec : ∀ v n, n ≤ 200 → -1 ≤ n → Dz i_L13_left none [A.t v, A.t (T.int d), A.t (T.int n)] (1, [A.t (T.int (leftE d v n))]) := fun v n h3 h4 => leftE_does d v n (by omega) h3 h4
    have hpr := leftE_prs d hrec (by omega) e (by omega) (prsE e).length 0 (n - 1) (by omega) (by omega) (by omega)
    have hle := leftP_le (leftE_le d) (prsE e) (n - 1)
    have hk := leftE_kids d hrec (by omega) e (by omega) (kidsE e).length 0 (leftP (leftE d) (prsE e) (n - 1)) (by omega) (by omega) (by omega)
    rw [List.drop_zero] at hpr hk
    rcases hpr with hpr | ⟨hneg, hpr⟩
    · obtain ⟨n0, h0⟩ := hp.both hpr
      obtain ⟨n1, h1'⟩ := hk
      refine Does.of (n0 + n1) fun m hm => ?_
      obtain ⟨q1, q2⟩ := h0 m (by omega)
      have q1' : den Tryd.prog G0 ents m i_L13_left (some p_L13_left_c1) [A.t (T.int (d + 1 : Nat)), A.t (T.int (n - 1)), A.t (T.int 0), A.t e] = _ := q1
      have q2' : den Tryd.prog G0 ents m i_L13_left (some p_L13_left_c2) [A.t (T.int (d + 1 : Nat)), A.t (T.int (n - 1)), A.t (T.int 0), A.t e] = _ := q2
      have q3' : den Tryd.prog G0 ents m i_L13_left (some p_L13_left_c3) [A.t (T.int (d + 1 : Nat)), A.t (T.int (leftP (leftE d) (prsE e) (n - 1))), A.t (T.int 0), A.t e] = _ := h1' m (by omega)
      rw [q_L13_left]
      simp only [S0, S9, S1, S2, if_true, if_false, SY, hw1, q1', q2', q3']
      repeat (first | rw [if_pos (by omega)] | rw [if_neg (by omega)])
    · obtain ⟨n0, h0⟩ := hp.both hpr
      rw [hneg, leftK_neg _ _ _ (by omega)]
      refine Does.of n0 fun m hm => ?_
      obtain ⟨q1, q2⟩ := h0 m (by omega)
      have q1' : den Tryd.prog G0 ents m i_L13_left (some p_L13_left_c1) [A.t (T.int (d + 1 : Nat)), A.t (T.int (n - 1)), A.t (T.int 0), A.t e] = _ := q1
      have q2' : den Tryd.prog G0 ents m i_L13_left (some p_L13_left_c2) [A.t (T.int (d + 1 : Nat)), A.t (T.int (n - 1)), A.t (T.int 0), A.t e] = _ := q2
      rw [q_L13_left]
      simp only [S0, S9, S1, S2, if_true, if_false, SY, hw1, q1', q2']
      repeat (first | rw [if_pos (by omega)] | rw [if_neg (by omega)])
theorem fewE_does (e : T) : Dz i_L13_Few none [A.t e] (1, [A.t (T.bool (decide (leftE 24 e 200 ≥ 0)))]) := by
  obtain ⟨n0, h0⟩ := leftE_does 24 e 200 (by omega) (by omega) (by omega)
  refine Does.of n0 fun m hm => ?_
  have q : den Tryd.prog G0 ents m i_L13_left none [A.t e, A.t (T.int 24), A.t (T.int 200)] = _ := h0 m hm
  rw [q_L13_Few]
  simp only [S0, S9, S1, S2, if_true, if_false, q]
def fewN (l : List T) : Bool := decide (l.length ≤ 40) && l.all fun x => decide ((nm x).size ≤ 100) && decide ((txts x).length ≤ 10) && (txts x).all fun e => decide (leftE 24 e 200 ≥ 0)
where txts (x : T) : List T := (x.get 2).kids
theorem fewN_in (l : List T) (i : Nat) (hi : i < l.length) (hl : l.length ≤ 40) (hx : (fewN.txts l[i]).length ≤ 10) : ∀ (k j : Nat), j + k = (fewN.txts l[i]).length →
    Dz i_L16_Few (some p_L16_Few_c2) [A.t (T.node l), A.t (T.int i), A.t (T.int j)] (if ((fewN.txts l[i]).drop j).all (fun e => decide (leftE 24 e 200 ≥ 0)) = true then (4, [A.t (T.node l), A.t (T.int i)]) else (1, [A.t (T.bool false)])) := by
  have hx' : ∀ x, (T.get x 2).kids = fewN.txts x := fun _ => rfl
  intro k
  induction k with
  | zero =>
    intro j hj
    refine Does.now fun m => ?_
    rw [q_L16_Few_c2, List.drop_of_length_le (by omega)]
    simp only [S0, S9, S1, S2, if_true, if_false, hx', at_get hi, List.all_nil]
    rw [if_pos (by omega), if_neg (by omega)]
  | succ k ih =>
    intro j hj
    have hlt : j < (fewN.txts l[i]).length := by omega
    have hw : IntKind.i64.wrap ((j : Int) + 1) = ((j + 1 : Nat) : Int) := i64succ (by omega)
    obtain ⟨n0, h0⟩ := (fewE_does (fewN.txts l[i])[j]).both (ih (j + 1) (by omega))
    refine Does.of n0 fun m hm => ?_
    obtain ⟨q1, q2⟩ := h0 m hm
    rw [q_L16_Few_c2, List.drop_eq_getElem_cons hlt, List.all_cons]
    simp only [S0, S9, S1, S2, if_true, if_false, hx', at_get hi, at_get hlt, q1, hw, q2, Bool.not_eq_true']
    rw [if_pos (by omega), if_pos (by omega), if_pos (by omega), if_pos (by omega)]
    by_cases hb : leftE 24 (fewN.txts l[i])[j] 200 ≥ 0
    · rw [if_neg (by omega)]
      simp only [hb, true_and]
    · rw [if_pos hb, if_neg (fun h => hb h.1)]
theorem fewN_out (l : List T) (hl : l.length ≤ 40) : ∀ (k j : Nat), j + k = l.length →
    Dz i_L16_Few (some p_L16_Few_c1) [A.t (T.node l), A.t (T.int j)] (if (l.drop j).all (fun x => decide ((nm x).size ≤ 100) && decide ((fewN.txts x).length ≤ 10) && (fewN.txts x).all fun e => decide (leftE 24 e 200 ≥ 0)) = true then (2, []) else (1, [A.t (T.bool false)])) := by
  have hx' : ∀ x, (T.get x 2).kids = fewN.txts x := fun _ => rfl
  intro k
  induction k with
  | zero =>
    intro j hj
    refine Does.now fun m => ?_
    rw [q_L16_Few_c1, List.drop_of_length_le (by omega)]
    simp only [S0, S9, S1, S2, if_true, if_false, List.all_nil]
    rw [if_neg (by omega)]
  | succ k ih =>
    intro j hj
    have hlt : j < l.length := by omega
    have hw : IntKind.i64.wrap ((j : Int) + 1) = ((j + 1 : Nat) : Int) := i64succ (by omega)
    have hn' : (T.get l[j] 0).txt.size = (nm l[j]).size := rfl
    rw [List.drop_eq_getElem_cons hlt, List.all_cons]
    by_cases c1 : (nm l[j]).size ≤ 100
    rotate_left
    · rw [decide_eq_false c1, Bool.false_and, Bool.false_and, Bool.false_and, if_neg (by decide)]
      refine Does.now fun m => ?_
      rw [q_L16_Few_c1]
      simp only [S0, S9, S1, S2, if_true, if_false, at_get hlt, hn']
      repeat (first | rw [if_pos (by omega)] | rw [if_neg (by omega)])
    by_cases c2 : (fewN.txts l[j]).length ≤ 10
    rotate_left
    · rw [decide_eq_true c1, decide_eq_false c2, Bool.and_false, Bool.false_and, Bool.false_and, if_neg (by decide)]
      refine Does.now fun m => ?_
      rw [q_L16_Few_c1]
      simp only [S0, S9, S1, S2, if_true, if_false, at_get hlt, hn', hx']
      repeat (first | rw [if_pos (by omega)] | rw [if_neg (by omega)])
    rw [decide_eq_true c1, decide_eq_true c2, Bool.and_true, Bool.true_and]
    have hin := fewN_in l j hlt hl c2 (fewN.txts l[j]).length 0 (by omega)
    rw [List.drop_zero] at hin
    obtain ⟨n0, h0⟩ := hin.both (ih (j + 1) (by omega))
    refine Does.of n0 fun m hm => ?_
    obtain ⟨q1, q2⟩ := h0 m hm
    have q1' : den Tryd.prog G0 ents m i_L16_Few (some p_L16_Few_c2) [A.t (T.node l), A.t (T.int j), A.t (T.int 0)] = _ := q1
    rw [q_L16_Few_c1]
    simp only [S0, S9, S1, S2, if_true, if_false, at_get hlt, hn', hx', q1', hw]
    rw [if_pos (by omega), if_pos (by omega), if_pos (by omega), if_pos (by omega), if_neg (by omega)]
    cases hb : (fewN.txts l[j]).all fun e => decide (leftE 24 e 200 ≥ 0) with
    | true =>
      simp only [S0, if_true, true_and, hw]
      exact q2
    | false =>
      simp only [S0, if_false, Bool.false_eq_true, false_and]
      rfl
theorem fewN_does (l : List T) : Dz i_L16_Few none [A.t (T.node l)] (1, [A.t (T.bool (fewN l))]) := by
  unfold fewN
  by_cases hl : l.length ≤ 40
  · have h := fewN_out l hl l.length 0 (by omega)
    rw [List.drop_zero] at h
    rw [decide_eq_true hl, Bool.true_and]
    obtain ⟨n0, h0⟩ := h
    refine Does.of n0 fun m hm => ?_
    have q1 : den Tryd.prog G0 ents m i_L16_Few (some p_L16_Few_c1) [A.t (T.node l), A.t (T.int 0)] = _ := h0 m hm
    rw [q_L16_Few]
    simp only [S0, S9, S1, S2, if_true, if_false, q1]
    rw [if_neg (by omega)]
    split
    · rename_i h; rw [h]; rfl
    · rename_i h; rw [Bool.eq_false_iff.2 (fun h2 => h h2)]; rfl
  · rw [decide_eq_false hl, Bool.false_and]
    refine Does.now fun m => ?_
    rw [q_L16_Few]
    simp only [S0, S9, S1, S2, if_true, if_false]
    rw [if_pos (by omega)]
end Go.Proofs.YtdofdhlpheaonaaDoorKT
namespace Go.Proofs.YtdofdhlpheaonaaDoorKT
open Go Go.Proofs.YtdofdhlpheaonaaDoorVM
set_option linter.unusedVariables false
set_option linter.unusedSimpArgs false
set_option maxRecDepth 100000

theorem cB (c a b : Bool) : (bif c then some ((1 : Nat), [A.t (T.bool a)]) else some (1, [A.t (T.bool b)])) = some (1, [A.t (T.bool (bif c then a else b))]) := by cases c <;> rfl
theorem iB (p : Prop) [Decidable p] (a b : Bool) : (if p then some ((1 : Nat), [A.t (T.bool a)]) else some (1, [A.t (T.bool b)])) = some (1, [A.t (T.bool (if p then a else b))]) := by split <;> rfl
def zE (s : ByteArray) : Bool := seqB s ⟨List.toArray []⟩
def bareB (n s p f k : Bool) (e : T) : Bool := (n || (numE e == 0)) && (s || zE (txtE e)) && (p || ((((pathE e).length : Nat) : Int) == 0)) && (f || (((((prsE e).length : Nat) : Int) == 0) && !openE e)) && (k || ((((kidsE e).length : Nat) : Int) == 0))
theorem bare5_does (e : T) (n s p f k : Bool) : Dz i_expr_bare none [A.t e, A.t (T.bool n), A.t (T.bool s), A.t (T.bool p), A.t (T.bool f), A.t (T.bool k)] (1, [A.t (T.bool (bareB n s p f k e))]) := by
  refine Does.now fun m => ?_
  rw [q_expr_bare]
  simp only [S9, SY, tf_bool, cB]
  refine congrArg (fun b => some ((1 : Nat), [A.t (T.bool b)])) ?_
  unfold bareB
  show _ = _
  have hz : seqB (txtE e) ⟨List.toArray []⟩ = zE (txtE e) := rfl
  rw [hz]
  generalize (numE e == 0) = b1
  generalize zE (txtE e) = b2
  generalize ((((pathE e).length : Nat) : Int) == 0) = b3
  generalize ((((prsE e).length : Nat) : Int) == 0) = b4
  generalize openE e = b5
  generalize ((((kidsE e).length : Nat) : Int) == 0) = b6
  cases n <;> cases s <;> cases p <;> cases f <;> cases k <;> cases b1 <;> cases b2 <;> cases b3 <;> cases b4 <;> cases b5 <;> rfl
def maskF (x : Int) : Bool × Bool × Bool × Bool × Bool := (!(Int.tmod x 2 == 0), !(Int.tmod (IntKind.i64.wrap (Int.tdiv x 2)) 2 == 0), !(Int.tmod (IntKind.i64.wrap (Int.tdiv x 4)) 2 == 0), Int.tmod (IntKind.i64.wrap (Int.tdiv x 8)) 2 == 1, Int.tmod (IntKind.i64.wrap (Int.tdiv x 16)) 2 == 1)
theorem gt0 (l : List T) : decide (((l.length : Nat) : Int) > 0) = !((((l.length : Nat) : Int)) == 0) := by
  cases l with
  | nil => rfl
  | cons a l =>
    have h1 : (((a :: l).length : Nat) : Int) > 0 := by simp only [List.length_cons]; omega
    have h2 : ¬ ((((a :: l).length : Nat) : Int) = 0) := by omega
    rw [decide_eq_true h1, beq_eq_false_iff_ne.2 h2]
    rfl
theorem empty_does (e : T) (x : Int) : Dz i_R13_empty none [A.t e, A.t (T.int x)] (1, [A.t (T.bool (bareB (maskF x).1 (maskF x).2.1 (maskF x).2.2.1 (maskF x).2.2.2.1 (maskF x).2.2.2.2 e))]) := by
  refine Does.now fun m => ?_
  rw [q_R13_empty]
  simp only [S9, SY, tf_bool, num_int, gt0, cB]
  refine congrArg (fun b => some ((1 : Nat), [A.t (T.bool b)])) ?_
  unfold bareB maskF
  have hz : seqB (txtE e) ⟨List.toArray []⟩ = zE (txtE e) := rfl
  have hn : (numE e != 0) = !(numE e == 0) := rfl
  simp only [hz, hn]
  generalize (numE e == 0) = b1
  generalize zE (txtE e) = b2
  generalize ((((pathE e).length : Nat) : Int) == 0) = b3
  generalize ((((prsE e).length : Nat) : Int) == 0) = b4
  generalize openE e = b5
  generalize ((((kidsE e).length : Nat) : Int) == 0) = b6
  generalize (Int.tmod x 2 == 0) = n
  generalize (Int.tmod (IntKind.i64.wrap (Int.tdiv x 2)) 2 == 0) = s
  generalize (Int.tmod (IntKind.i64.wrap (Int.tdiv x 4)) 2 == 0) = p
  generalize (Int.tmod (IntKind.i64.wrap (Int.tdiv x 8)) 2 == 1) = f
  generalize (Int.tmod (IntKind.i64.wrap (Int.tdiv x 16)) 2 == 1) = k
  cases n <;> cases s <;> cases p <;> cases f <;> cases k <;> cases b1 <;> cases b2 <;> cases b3 <;> cases b4 <;> cases b5 <;> rfl
def inB (x : Int) : Bool := decide (-9007199254740992 ≤ x) && decide (x ≤ 9007199254740992)
theorem in_does (x : Int) : Dz i_num_In none [A.t (T.int x)] (1, [A.t (T.bool (inB x))]) := by
  refine Does.now fun m => ?_
  rw [q_num_In]
  unfold inB
  simp only [S0, S9, S1, S2, if_true, if_false, iB]
  by_cases h : -9007199254740992 ≤ x
  · rw [if_pos h, decide_eq_true h]; rfl
  · rw [if_neg h, decide_eq_false h]; rfl
theorem rin_does (x : Int) : Dz i_R01_In none [A.t (T.int x)] (1, [A.t (T.bool (inB x))]) := by
  refine Does.now fun m => ?_
  rw [q_R01_In]
  unfold inB
  simp only [S0, S9, S1, S2, if_true, if_false, iB]
  by_cases h : -9007199254740992 ≤ x
  · rw [if_pos h, decide_eq_true h]; rfl
  · rw [if_neg h, decide_eq_false h]; rfl
def pathB (l : List T) : Bool := decide (1 ≤ l.length) && decide (l.length ≤ 16) && l.all fun s => nameB s.txt
theorem path_loop (l : List T) (hl : l.length ≤ 1000) : ∀ (k j : Nat), j + k = l.length →
    Dz i_name_Path (some p_name_Path_c1) [A.t (T.node l), A.t (T.int (l.length : Nat)), A.t (T.int j)] (if (l.drop j).all (fun s => nameB s.txt) = true then (2, []) else (1, [A.t (T.bool false)])) := by
  intro k
  induction k with
  | zero =>
    intro j hj
    refine Does.now fun m => ?_
    rw [q_name_Path_c1, List.drop_of_length_le (by omega)]
    simp only [S0, S9, S1, S2, if_true, if_false, List.all_nil]
    rw [if_neg (by omega)]
  | succ k ih =>
    intro j hj
    have hlt : j < l.length := by omega
    have hw : IntKind.i64.wrap ((j : Int) + 1) = ((j + 1 : Nat) : Int) := i64succ (by omega)
    obtain ⟨n0, h0⟩ := (nameR_does l[j].txt).both (ih (j + 1) (by omega))
    refine Does.of n0 fun m hm => ?_
    obtain ⟨q1, q2⟩ := h0 m hm
    rw [q_name_Path_c1, List.drop_eq_getElem_cons hlt, List.all_cons]
    simp only [S0, S9, S1, S2, if_true, if_false, at_get hlt, q1, hw, q2, Bool.not_eq_true']
    rw [if_pos (by omega), if_pos (by omega)]
    cases nameB l[j].txt <;> simp
theorem path_does (l : List T) (hl : l.length ≤ 1000) : Dz i_name_Path none [A.t (T.node l)] (1, [A.t (T.bool (pathB l))]) := by
  have h := path_loop l hl l.length 0 (by omega)
  rw [List.drop_zero] at h
  obtain ⟨n0, h0⟩ := h
  refine Does.of n0 fun m hm => ?_
  have q1 : den Tryd.prog G0 ents m i_name_Path (some p_name_Path_c1) [A.t (T.node l), A.t (T.int (l.length : Nat)), A.t (T.int 0)] = _ := h0 m hm
  rw [q_name_Path]
  unfold pathB
  simp only [S0, S9, S1, S2, if_true, if_false, q1]
  by_cases c1 : 1 ≤ l.length
  · by_cases c2 : l.length ≤ 16
    · rw [if_pos (by omega), if_neg (by omega), decide_eq_true c1, decide_eq_true c2]
      cases l.all (fun s => nameB s.txt) <;> rfl
    · rw [if_pos (by omega), if_pos (by omega), decide_eq_false c2, Bool.and_false]; rfl
  · rw [if_neg (by omega), decide_eq_false c1]; rfl
theorem rpath_loop (l : List T) (hl : l.length ≤ 1000) : ∀ (k j : Nat), j + k = l.length →
    Dz i_R02_Path (some p_R02_Path_c1) [A.t (T.node l), A.t (T.int j)] (if (l.drop j).all (fun s => nameB s.txt) = true then (2, [A.t (T.node l)]) else (1, [A.t (T.bool false)])) := by
  intro k
  induction k with
  | zero =>
    intro j hj
    refine Does.now fun m => ?_
    rw [q_R02_Path_c1, List.drop_of_length_le (by omega)]
    simp only [S0, S9, S1, S2, if_true, if_false, List.all_nil]
    rw [if_neg (by omega)]
  | succ k ih =>
    intro j hj
    have hlt : j < l.length := by omega
    have hw : IntKind.i64.wrap ((j : Int) + 1) = ((j + 1 : Nat) : Int) := i64succ (by omega)
    obtain ⟨n0, h0⟩ := (rname_does l[j].txt).both (ih (j + 1) (by omega))
    refine Does.of n0 fun m hm => ?_
    obtain ⟨q1, q2⟩ := h0 m hm
    rw [q_R02_Path_c1, List.drop_eq_getElem_cons hlt, List.all_cons]
    simp only [S0, S9, S1, S2, if_true, if_false, at_get hlt, q1, hw, q2, Bool.not_eq_true']
    rw [if_pos (by omega), if_pos (by omega)]
    cases nameB l[j].txt <;> simp
theorem rpath_does (l : List T) (hl : l.length ≤ 1000) : Dz i_R02_Path none [A.t (T.node l)] (1, [A.t (T.bool (pathB l))]) := by
  have h := rpath_loop l hl l.length 0 (by omega)
  rw [List.drop_zero] at h
  obtain ⟨n0, h0⟩ := h
  refine Does.of n0 fun m hm => ?_
  have q1 : den Tryd.prog G0 ents m i_R02_Path (some p_R02_Path_c1) [A.t (T.node l), A.t (T.int 0)] = _ := h0 m hm
  rw [q_R02_Path]
  unfold pathB
  simp only [S0, S9, S1, S2, if_true, if_false, q1]
  cases l.all (fun s => nameB s.txt) with
  | false => simp only [Bool.and_false]; rfl
  | true =>
    simp only [S0, if_true, Bool.and_true]
    by_cases c1 : 1 ≤ l.length
    · by_cases c2 : l.length ≤ 16
      · rw [if_pos (by omega), decide_eq_true c1, decide_eq_true c2, decide_eq_true (by omega)]; rfl
      · rw [if_pos (by omega), decide_eq_false c2, Bool.and_false, decide_eq_false (by omega)]
    · rw [if_neg (by omega), decide_eq_false c1]; rfl
theorem erising_loop (l : List T) (hl : l.length ≤ 1000) : ∀ (k j : Nat), j + k = l.length →
    Dz i_expr_rising (some p_expr_rising_c1) [A.t (T.node l), A.t (T.node l), A.t (T.int (l.length : Nat)), A.t (T.int j)] (if riseFrom l k j then (2, []) else (1, [A.t (T.bool false)])) := by
  intro k
  induction k with
  | zero =>
    intro j hj
    refine Does.now fun m => ?_
    rw [q_expr_rising_c1, riseFrom]
    simp only [S0, S9, S1, S2, if_true, if_false]
    rw [if_neg (by omega)]
  | succ k ih =>
    intro j hj
    have hlt : j < l.length := by omega
    have hw : IntKind.i64.wrap ((j : Int) + 1) = ((j + 1 : Nat) : Int) := i64succ (by omega)
    obtain ⟨n0, h0⟩ := (nameR_does (nm (tAtD l j))).both (ih (j + 1) (by omega))
    refine Does.of n0 fun m hm => ?_
    obtain ⟨q1, q2⟩ := h0 m hm
    rw [q_expr_rising_c1, riseFrom]
    simp only [S0, S9, S1, S2, if_true, if_false, nm_eq, q1, q2, hw, Bool.not_eq_false', Bool.not_eq_true']
    rw [if_pos (by omega), if_pos (by omega)]
    cases hb : nameB (nm (tAtD l j)) with
    | false => simp [okAt, hb]
    | true =>
      rw [if_pos rfl]
      by_cases h0 : j = 0
      · subst h0; simp [okAt, hb]
      · have hp : IntKind.i64.wrap ((j : Int) - 1) = ((j - 1 : Nat) : Int) := by rw [w64 (by omega) (by omega)]; omega
        rw [if_pos (by omega)]
        simp only [hp, Int.toNat_natCast]
        rw [if_pos (by omega)]
        have hj0 : (j == 0) = false := by simp [h0]
        have hn := nle_iff (nm (tAtD l j)) (nm (tAtD l (j - 1)))
        have hok : okAt l j = sltB (nm (tAtD l (j - 1))) (nm (tAtD l j)) := by rw [okAt, hb, hj0]; rfl
        rw [hok]
        simp only [← Bool.or_eq_true, hn]
        cases sltB (nm (tAtD l (j - 1))) (nm (tAtD l j)) <;> simp
theorem erising_does (l : List T) (hl : l.length ≤ 1000) : Dz i_expr_rising none [A.t (T.node l)] (1, [A.t (T.bool (names l))]) := by
  obtain ⟨n0, h0⟩ := erising_loop l hl l.length 0 (by omega)
  refine Does.of n0 fun m hm => ?_
  have q : den Tryd.prog G0 ents m i_expr_rising (some p_expr_rising_c1) [A.t (T.node l), A.t (T.node l), A.t (T.int (l.length : Nat)), A.t (T.int 0)] = _ := h0 m hm
  rw [q_expr_rising]
  unfold names
  simp only [S0, S9, S1, S2, if_true, if_false, q]
  cases riseFrom l l.length 0 <;> rfl
theorem rrisingO_does (l : List T) (hl : l.length ≤ 1000) : Dz i_R02_Rising_o none [A.t (T.node (l.map fun f => T.str (nm f)))] (1, [A.t (T.bool (names l)), A.t (T.node (l.map fun f => T.str (nm f)))]) := by
  obtain ⟨n0, h0⟩ := rrising_loop l hl l.length 0 (by omega)
  refine Does.of n0 fun m hm => ?_
  have q : den Tryd.prog G0 ents m i_R02_Rising_o (some p_R02_Rising_o_c1) [A.t (T.int 0), A.t (T.node (l.map fun f => T.str (nm f)))] = _ := h0 m hm
  rw [q_R02_Rising_o]
  unfold names
  simp only [S0, S9, S1, S2, if_true, if_false, q]
  cases riseFrom l l.length 0 <;> rfl
def partsE (e : T) : List T := if opE e = 10 then (prsE e).map val else kidsE e
theorem parts_len {d : Nat} {e : T} (h : Ed (d + 1) e) : (partsE e).length ≤ 200 := by
  unfold partsE
  split
  · rw [List.length_map]; exact h.1.2.2.1
  · exact h.1.2.2.2
theorem parts_ed {d : Nat} {e : T} (h : Ed (d + 1) e) : ∀ x ∈ partsE e, Ed d x := by
  unfold partsE
  intro x hx
  split at hx
  · obtain ⟨p, hp, rfl⟩ := List.mem_map.1 hx
    exact (h.2.2.1 p hp).2
  · exact h.2.2.2 x hx
theorem parts_does (e : T) (hl : (prsE e).length ≤ 1000) : Dz i_expr_parts none [A.t e] (1, [A.t (T.node (partsE e))]) := by
  unfold partsE
  by_cases h : opE e = 10
  · have hloop := Dz.go (i := i_expr_parts) (p := some p_expr_parts_c1) (R := (2, [A.t (T.node ((prsE e).map val))])) (prsE e).length
      (fun j => [A.t (T.node (prsE e)), A.t (T.int ((prsE e).length : Nat)), A.t (T.int j), A.t (T.node (((prsE e).take j).map val))]) (by
        refine Does.now fun m => ?_
        rw [q_expr_parts_c1, List.take_of_length_le (Nat.le_refl _)]
        simp only [S0, S9, S1, S2, if_true, if_false]
        rw [if_neg (by omega)]) (fun j hj R hR => by
        have hw : IntKind.i64.wrap ((j : Int) + 1) = ((j + 1 : Nat) : Int) := i64succ (by omega)
        have ht : ((prsE e).take (j + 1)).map val = ((prsE e).take j).map val ++ [val (prsE e)[j]] := by
          rw [List.take_add_one, List.getElem?_eq_getElem hj, List.map_append]; rfl
        obtain ⟨n0, h0⟩ := hR
        refine Does.of n0 fun m hm => ?_
        have q2 := h0 m hm
        rw [ht] at q2
        rw [q_expr_parts_c1]
        simp only [S0, S9, S1, S2, if_true, if_false, List.length_map, List.length_take, at_get hj, val_eq, hw, q2]
        rw [if_pos (by omega), if_pos (by omega), if_pos (by omega)])
    obtain ⟨n0, h0⟩ := hloop
    refine Does.of n0 fun m hm => ?_
    have q1 : den Tryd.prog G0 ents m i_expr_parts (some p_expr_parts_c1) [A.t (T.node (prsE e)), A.t (T.int ((prsE e).length : Nat)), A.t (T.int 0), A.t (T.node [])] = _ := h0 m hm
    rw [q_expr_parts, if_pos h]
    simp only [S0, S9, S1, S2, if_true, if_false, SY, h, q1]
    simp
  · refine Does.now fun m => ?_
    rw [q_expr_parts, if_neg h]
    simp only [S0, S9, S1, S2, if_true, if_false, SY]
    rw [if_pos h]
theorem rparts_does (e : T) (hl : (prsE e).length ≤ 1000) : Dz i_R13_Parts none [A.t e] (1, [A.t (T.node (partsE e))]) := by
  unfold partsE
  by_cases h : opE e = 10
  · have hloop := Dz.go (i := i_R13_Parts) (p := some p_R13_Parts_c1) (R := (2, [A.t (T.node ((prsE e).map val))])) (prsE e).length
      (fun j => [A.t (T.int j), A.t e, A.t (T.node (((prsE e).take j).map val))]) (by
        refine Does.now fun m => ?_
        rw [q_R13_Parts_c1, List.take_of_length_le (Nat.le_refl _)]
        simp only [S0, S9, S1, S2, if_true, if_false, SY]
        rw [if_neg (by omega)]) (fun j hj R hR => by
        have hw : IntKind.i64.wrap ((j : Int) + 1) = ((j + 1 : Nat) : Int) := i64succ (by omega)
        have ht : ((prsE e).take (j + 1)).map val = ((prsE e).take j).map val ++ [val (prsE e)[j]] := by
          rw [List.take_add_one, List.getElem?_eq_getElem hj, List.map_append]; rfl
        obtain ⟨n0, h0⟩ := hR
        refine Does.of n0 fun m hm => ?_
        have q2 := h0 m hm
        rw [ht] at q2
        rw [q_R13_Parts_c1]
        simp only [S0, S9, S1, S2, if_true, if_false, SY, List.length_map, List.length_take, at_get hj, val_eq, hw, q2]
        rw [if_pos (by omega), if_pos (by omega), if_pos (by omega)])
    obtain ⟨n0, h0⟩ := hloop
    refine Does.of n0 fun m hm => ?_
    have q1 : den Tryd.prog G0 ents m i_R13_Parts (some p_R13_Parts_c1) [A.t (T.int 0), A.t e, A.t (T.node [])] = _ := h0 m hm
    rw [q_R13_Parts, if_pos h]
    simp only [S0, S9, S1, S2, if_true, if_false, SY, h, q1]
    simp
  · refine Does.now fun m => ?_
    rw [q_R13_Parts, if_neg h]
    simp only [S0, S9, S1, S2, if_true, if_false, SY]
    rw [if_pos h]
end Go.Proofs.YtdofdhlpheaonaaDoorKT
namespace Go.Proofs.YtdofdhlpheaonaaDoorKT
open Go Go.Proofs.YtdofdhlpheaonaaDoorVM
set_option linter.unusedVariables false
set_option linter.unusedSimpArgs false
set_option maxRecDepth 100000

def shapedB (e : T) : Bool :=
  if opE e = 1 then bareB true false false false false e && inB (numE e)
  else if opE e = 7 then bareB true false false false false e && inB (numE e)
  else if opE e = 8 then bareB true false false false false e && inB (numE e)
  else if opE e = 2 then bareB false true false false false e && decide ((txtE e).size ≤ 256)
  else if opE e = 3 then bareB true false false false false e && (decide (numE e = 0) || decide (numE e = 1))
  else if opE e = 4 then bareB true false false false false e && (decide (numE e = 1) || decide (numE e = 2) || decide (numE e = 3) || decide (numE e = 5))
  else if opE e = 5 then bareB false false false false false e
  else if opE e = 6 then bareB false false false false false e
  else if opE e = 9 then bareB false false true false false e && pathB (pathE e)
  else if opE e = 10 then bareB false false false true false e && (decide ((prsE e).length ≤ 32) && names (prsE e))
  else if opE e = 11 then bareB false false false false true e && (decide (2 ≤ (kidsE e).length) && decide ((kidsE e).length ≤ 32))
  else if opE e = 12 then bareB false false false false true e && (decide (2 ≤ (kidsE e).length) && decide ((kidsE e).length ≤ 32))
  else if opE e = 13 then bareB false false false false true e && decide ((kidsE e).length = 2)
  else if opE e = 14 then bareB false false false false true e && decide ((kidsE e).length = 2)
  else if opE e = 15 then bareB false false false false true e && decide ((kidsE e).length = 2)
  else false
theorem if_and (a b : Bool) : (if a = true then b else false) = (a && b) := by cases a <;> rfl
theorem if_same {α : Type} (p : Prop) [Decidable p] (a b : α) (h : a = b) : (if p then a else b) = b := by split; exact h; rfl
theorem shaped13_does (e : T) (h1 : (pathE e).length ≤ 1000) (h2 : (prsE e).length ≤ 1000) : Dz i_expr_shaped none [A.t e] (1, [A.t (T.bool (shapedB e))]) := by
  obtain ⟨n1, g1⟩ := (bare5_does e true false false false false).both (bare5_does e false true false false false)
  obtain ⟨n2, g2⟩ := (bare5_does e false false false false false).both (bare5_does e false false true false false)
  obtain ⟨n3, g3⟩ := (bare5_does e false false false true false).both (bare5_does e false false false false true)
  obtain ⟨n4, g4⟩ := (in_does (numE e)).both (path_does (pathE e) h1)
  obtain ⟨n5, g5⟩ := erising_does (prsE e) h2
  refine Does.of (n1 + n2 + n3 + n4 + n5) fun m hm => ?_
  obtain ⟨a1, a2⟩ := g1 m (by omega)
  obtain ⟨a3, a4⟩ := g2 m (by omega)
  obtain ⟨a5, a6⟩ := g3 m (by omega)
  obtain ⟨a7, a8⟩ := g4 m (by omega)
  have a9 := g5 m (by omega)
  rw [q_expr_shaped]
  simp only [S0, S9, S1, S2, if_true, if_false, SY, a1, a2, a3, a4, a5, a6, a7, a8, a9, iB]
  refine congrArg (fun b => some ((1 : Nat), [A.t (T.bool b)])) ?_
  unfold shapedB
  have e3 : (if ¬numE e = 0 then (numE e == 1) else true) = (decide (numE e = 0) || decide (numE e = 1)) := by
    by_cases c : numE e = 0
    · rw [if_neg (by simp [c]), decide_eq_true c, Bool.true_or]
    · rw [if_pos c, decide_eq_false c, Bool.false_or]; rfl
  have i256 : decide (((txtE e).size : Int) ≤ 256) = decide ((txtE e).size ≤ 256) := decide_eq_decide.2 (by omega)
  have k2 : decide (((kidsE e).length : Int) ≤ 32) = decide ((kidsE e).length ≤ 32) := decide_eq_decide.2 (by omega)
  have k3 : (((kidsE e).length : Int) == 2) = decide ((kidsE e).length = 2) := decide_eq_decide.2 (by omega)
  have k4 : (((kidsE e).length : Int) ≥ 2) = (2 ≤ (kidsE e).length) := propext (by omega)
  have k5 : (((prsE e).length : Int) ≤ 32) = ((prsE e).length ≤ 32) := propext (by omega)
  have if_dec : ∀ (p : Prop) [Decidable p] (b : Bool), (if p then b else false) = (decide p && b) := fun p _ b => by
    by_cases c : p
    · rw [if_pos c, decide_eq_true c, Bool.true_and]
    · rw [if_neg c, decide_eq_false c, Bool.false_and]
  have b1 : ∀ b : Bool, decide (b = true) = b := fun b => by cases b <;> rfl
  simp only [e3, i256, k2, k3, k4, k5, if_dec, b1]
  have e4 : (if ¬ numE e = 1 then (if ¬ numE e = 2 then (if ¬ numE e = 3 then (bareB true false false false false e && (numE e == 5)) else (bareB true false false false false e && true)) else (bareB true false false false false e && true)) else (bareB true false false false false e && true)) =
      (bareB true false false false false e && (decide (numE e = 1) || decide (numE e = 2) || decide (numE e = 3) || decide (numE e = 5))) := by
    by_cases c1 : numE e = 1
    · simp [c1]
    · by_cases c2 : numE e = 2
      · simp [c2]
      · by_cases c3 : numE e = 3
        · simp [c3]
        · simp [c1, c2, c3]
          rfl
  rw [e4]
def rgt : Nat → T → Bool
  | 0, _ => false
  | d + 1, e => shapedB e && (partsE e).all (rgt d)
theorem any_not (l : List T) (p : T → Bool) : (!(l.any fun x => !p x)) = l.all p := by
  induction l with
  | nil => rfl
  | cons a l ih => rw [List.any_cons, List.all_cons, Bool.not_or, Bool.not_not, ih]
theorem eright_does : ∀ (d : Nat) (e : T), Ed d e → Dz i_expr_Right none [A.t e] (1, [A.t (T.bool (rgt d e))])
  | 0, e, h => h.elim
  | d + 1, e, h => by
    have hp : ∀ x ∈ partsE e, Dz i_expr_Right_1 none [A.t x] (1, [A.t (T.bool (!rgt d x))]) := fun x hx => by
      obtain ⟨n0, h0⟩ := eright_does d x (parts_ed h x hx)
      refine Does.of n0 fun m hm => ?_
      rw [q_expr_Right_1]
      simp only [S0, S9, S1, S2, if_true, if_false, h0 m hm]
    have hlen := parts_len h
    obtain ⟨n1, h1⟩ := (shaped13_does e (by have := h.1; omega) (by have := h.1; omega)).both (parts_does e (by have := h.1; omega))
    obtain ⟨n2, h2⟩ := has0_does q_slices_ContainsFunc_Expr_Right1 q_slices_IndexFunc_Expr_Right1 q_slices_IndexFunc_Expr_Right1_c1 (partsE e) (fun x => !rgt d x) (by omega) hp
    refine Does.of (n1 + n2) fun m hm => ?_
    obtain ⟨a1, a2⟩ := h1 m (by omega)
    have a3 := h2 m (by omega)
    rw [q_expr_Right, rgt, ← any_not]
    simp only [S0, S9, S1, S2, if_true, if_false, a1, a2, a3]
    cases shapedB e <;> rfl
theorem rkids_does (d : Nat) (e : T) (l : List T) (hl : l.length ≤ 1000) (hk : ∀ x ∈ l, Dz i_R13_Right none [A.t x] (1, [A.t (T.bool (rgt d x))])) (lo hi : Int) :
    Dz i_R13_kids none [A.t (T.node l), A.t (T.int lo), A.t (T.int hi)] (1, [A.t (T.bool (l.all (rgt d) && (decide (lo ≤ (l.length : Nat)) && decide (((l.length : Nat) : Int) ≤ hi))))]) := by
  have hloop : ∀ (k j : Nat), j + k = l.length → Dz i_R13_kids (some p_R13_kids_c1) [A.t (T.node l), A.t (T.int lo), A.t (T.int hi), A.t (T.int j)] (if (l.drop j).all (rgt d) = true then (2, [A.t (T.node l), A.t (T.int lo), A.t (T.int hi)]) else (1, [A.t (T.bool false)])) := by
    intro k
    induction k with
    | zero =>
      intro j hj
      refine Does.now fun m => ?_
      rw [q_R13_kids_c1, List.drop_of_length_le (by omega)]
      simp only [S0, S9, S1, S2, if_true, if_false, List.all_nil]
      rw [if_neg (by omega)]
    | succ k ih =>
      intro j hj
      have hlt : j < l.length := by omega
      have hw : IntKind.i64.wrap ((j : Int) + 1) = ((j + 1 : Nat) : Int) := i64succ (by omega)
      obtain ⟨n0, h0⟩ := (hk _ (List.getElem_mem hlt)).both (ih (j + 1) (by omega))
      refine Does.of n0 fun m hm => ?_
      obtain ⟨q1, q2⟩ := h0 m hm
      rw [q_R13_kids_c1, List.drop_eq_getElem_cons hlt, List.all_cons]
      simp only [S0, S9, S1, S2, if_true, if_false, at_get hlt, q1, hw, q2, Bool.not_eq_true']
      rw [if_pos (by omega), if_pos (by omega)]
      cases rgt d l[j] <;> simp
  have h := hloop l.length 0 (by omega)
  rw [List.drop_zero] at h
  obtain ⟨n0, h0⟩ := h
  refine Does.of n0 fun m hm => ?_
  have q1 : den Tryd.prog G0 ents m i_R13_kids (some p_R13_kids_c1) [A.t (T.node l), A.t (T.int lo), A.t (T.int hi), A.t (T.int 0)] = _ := h0 m hm
  rw [q_R13_kids]
  simp only [S0, S9, S1, S2, if_true, if_false, q1]
  cases l.all (rgt d) with
  | false => simp only [S0, if_false, Bool.false_and]; rfl
  | true =>
    simp only [S0, if_true, Bool.true_and]
    by_cases c : ((l.length : Nat) : Int) ≥ lo
    · rw [if_pos c, decide_eq_true (show lo ≤ ((l.length : Nat) : Int) from c), Bool.true_and]
    · rw [if_neg c, decide_eq_false (show ¬ lo ≤ ((l.length : Nat) : Int) from c), Bool.false_and]
theorem rpairs_does (d : Nat) (l : List T) (hl : l.length ≤ 1000) (hk : ∀ x ∈ l, Dz i_R13_Right none [A.t (val x)] (1, [A.t (T.bool (rgt d (val x)))])) :
    Dz i_R13_pairs none [A.t (T.node l)] (1, [A.t (T.bool ((l.map val).all (rgt d) && (decide (l.length ≤ 32) && names l)))]) := by
  have hloop : ∀ (k j : Nat), j + k = l.length → Dz i_R13_pairs (some p_R13_pairs_c1) [A.t (T.node l), A.t (T.int j), A.t (T.node ((l.take j).map fun f => T.str (nm f)))] (if ((l.drop j).map val).all (rgt d) = true then (2, [A.t (T.node l), A.t (T.node (l.map fun f => T.str (nm f)))]) else (1, [A.t (T.bool false)])) := by
    intro k
    induction k with
    | zero =>
      intro j hj
      refine Does.now fun m => ?_
      rw [q_R13_pairs_c1, List.drop_of_length_le (by omega), List.take_of_length_le (by omega)]
      simp only [S0, S9, S1, S2, if_true, if_false, List.map_nil, List.all_nil]
      rw [if_neg (by omega)]
    | succ k ih =>
      intro j hj
      have hlt : j < l.length := by omega
      have hw : IntKind.i64.wrap ((j : Int) + 1) = ((j + 1 : Nat) : Int) := i64succ (by omega)
      have ht : (l.take (j + 1)).map (fun f => T.str (nm f)) = (l.take j).map (fun f => T.str (nm f)) ++ [T.str (nm l[j])] := by
        rw [List.take_add_one, List.getElem?_eq_getElem hlt, List.map_append]; rfl
      obtain ⟨n0, h0⟩ := (hk _ (List.getElem_mem hlt)).both (ih (j + 1) (by omega))
      refine Does.of n0 fun m hm => ?_
      obtain ⟨q1, q2⟩ := h0 m hm
      rw [ht] at q2
      rw [q_R13_pairs_c1, List.drop_eq_getElem_cons hlt, List.map_cons, List.all_cons]
      simp only [S0, S9, S1, S2, if_true, if_false, at_get hlt, val_eq, nm_eq, q1, hw, q2, Bool.not_eq_true', List.length_map, List.length_take]
      rw [if_pos (by omega), if_pos (by omega), if_pos (by omega), if_pos (by omega)]
      cases rgt d (val l[j]) <;> simp
  have h := hloop l.length 0 (by omega)
  rw [List.drop_zero] at h
  obtain ⟨n0, h0⟩ := h.both (rrisingO_does l hl)
  refine Does.of n0 fun m hm => ?_
  obtain ⟨q, q2⟩ := h0 m hm
  have q1 : den Tryd.prog G0 ents m i_R13_pairs (some p_R13_pairs_c1) [A.t (T.node l), A.t (T.int 0), A.t (T.node [])] = _ := q
  rw [q_R13_pairs]
  simp only [S0, S9, S1, S2, if_true, if_false, q1, q2]
  cases (l.map val).all (rgt d) with
  | false => simp only [S0, if_false, Bool.false_and]; rfl
  | true =>
    simp only [S0, if_true, Bool.true_and, q2]
    by_cases c : l.length ≤ 32
    · rw [if_pos (by omega), decide_eq_true c, Bool.true_and]
    · rw [if_neg (by omega), decide_eq_false c, Bool.false_and]
theorem bare_kids {n s p f : Bool} {e : T} (h : bareB n s p f false e = true) : kidsE e = [] := by
  unfold bareB at h
  simp only [Bool.and_eq_true, Bool.false_or, beq_iff_eq] at h
  exact List.eq_nil_of_length_eq_zero (by omega)
theorem rgt_plain (d : Nat) (e : T) {n s p f : Bool} (h10 : opE e ≠ 10) (x : Bool) (h : shapedB e = (bareB n s p f false e && x)) : rgt (d + 1) e = (bareB n s p f false e && x) := by
  rw [rgt, h]
  unfold partsE
  rw [if_neg h10]
  cases hb : bareB n s p f false e with
  | false => rfl
  | true => rw [bare_kids hb, List.all_nil, Bool.and_true]
theorem rright13_does : ∀ (d : Nat) (e : T), Ed d e → Dz i_R13_Right none [A.t e] (1, [A.t (T.bool (rgt d e))])
  | 0, e, h => h.elim
  | d + 1, e, h => by
    have hl := h.1
    obtain ⟨n1, g1⟩ := (empty_does e 1).both (empty_does e 2)
    obtain ⟨n2, g2⟩ := (empty_does e 0).both (empty_does e 4)
    obtain ⟨n3, g3⟩ := (empty_does e 8).both (empty_does e 16)
    obtain ⟨n4, g4⟩ := (rin_does (numE e)).both (rpath_does (pathE e) (by omega))
    obtain ⟨n5, g5⟩ := rpairs_does d (prsE e) (by omega) (fun x hx => rright13_does d _ (h.2.2.1 x hx).2)
    obtain ⟨n6, g6⟩ := (rkids_does d e (kidsE e) (by omega) (fun x hx => rright13_does d _ (h.2.2.2 x hx)) 2 32).both (rkids_does d e (kidsE e) (by omega) (fun x hx => rright13_does d _ (h.2.2.2 x hx)) 2 2)
    have m1 : maskF 1 = (true, false, false, false, false) := by decide
    have m2 : maskF 2 = (false, true, false, false, false) := by decide
    have m0 : maskF 0 = (false, false, false, false, false) := by decide
    have m4 : maskF 4 = (false, false, true, false, false) := by decide
    have m8 : maskF 8 = (false, false, false, true, false) := by decide
    have m16 : maskF 16 = (false, false, false, false, true) := by decide
    rw [m1, m2] at g1
    rw [m0, m4] at g2
    rw [m8, m16] at g3
    refine Does.of (n1 + n2 + n3 + n4 + n5 + n6) fun m hm => ?_
    obtain ⟨a1, a2⟩ := g1 m (by omega)
    obtain ⟨a3, a4⟩ := g2 m (by omega)
    obtain ⟨a5, a6⟩ := g3 m (by omega)
    obtain ⟨a7, a8⟩ := g4 m (by omega)
    have a9 := g5 m (by omega)
    obtain ⟨b1, b2⟩ := g6 m (by omega)
    rw [q_R13_Right]
    simp only [S0, S9, S1, S2, if_true, if_false, SY, a1, a2, a3, a4, a5, a6, a7, a8, a9, b1, b2, iB]
    refine congrArg (fun b => some ((1 : Nat), [A.t (T.bool b)])) ?_
    have if_dec : ∀ (p : Prop) [Decidable p] (b : Bool), (if p then b else false) = (decide p && b) := fun p _ b => by
      by_cases c : p
      · rw [if_pos c, decide_eq_true c, Bool.true_and]
      · rw [if_neg c, decide_eq_false c, Bool.false_and]
    have bt : ∀ b : Bool, decide (b = true) = b := fun b => by cases b <;> rfl
    simp only [if_dec, bt]
    have i256 : decide (((txtE e).size : Int) ≤ 256) = decide ((txtE e).size ≤ 256) := decide_eq_decide.2 (by omega)
    by_cases o1 : opE e = 1
    · rw [if_pos o1]
      exact (rgt_plain d e (by omega) _ (by unfold shapedB; rw [if_pos o1])).symm
    by_cases o7 : opE e = 7
    · rw [if_neg o1, if_pos o7]
      exact (rgt_plain d e (by omega) _ (by unfold shapedB; rw [if_neg o1, if_pos o7])).symm
    by_cases o8 : opE e = 8
    · rw [if_neg o1, if_neg o7, if_pos o8]
      exact (rgt_plain d e (by omega) _ (by unfold shapedB; rw [if_neg o1, if_neg o7, if_pos o8])).symm
    by_cases o2 : opE e = 2
    · rw [if_neg o1, if_neg o7, if_neg o8, if_pos o2, i256]
      exact (rgt_plain d e (by omega) _ (by unfold shapedB; rw [if_neg o1, if_neg o7, if_neg o8, if_pos o2])).symm
    by_cases o3 : opE e = 3
    · rw [if_neg o1, if_neg o7, if_neg o8, if_neg o2, if_pos o3]
      have : (decide (numE e ≥ 0) && decide (numE e ≤ 1)) = (decide (numE e = 0) || decide (numE e = 1)) := by
        rw [← Bool.decide_and, ← Bool.decide_or]
        exact decide_eq_decide.2 (by omega)
      rw [this]
      exact (rgt_plain d e (by omega) _ (by unfold shapedB; rw [if_neg o1, if_neg o7, if_neg o8, if_neg o2, if_pos o3])).symm
    by_cases o4 : opE e = 4
    · rw [if_neg o1, if_neg o7, if_neg o8, if_neg o2, if_neg o3, if_pos o4]
      have : (decide (numE e ≥ 1) && (decide (numE e ≤ 5) && (numE e != 4))) = (decide (numE e = 1) || decide (numE e = 2) || decide (numE e = 3) || decide (numE e = 5)) := by
        have : (numE e != 4) = decide (¬ numE e = 4) := by
          by_cases c : numE e = 4
          · rw [c]; rfl
          · rw [decide_eq_true c]; simp [c]
        rw [this, ← Bool.decide_and, ← Bool.decide_and, ← Bool.decide_or, ← Bool.decide_or, ← Bool.decide_or]
        exact decide_eq_decide.2 (by omega)
      rw [this]
      exact (rgt_plain d e (by omega) _ (by unfold shapedB; rw [if_neg o1, if_neg o7, if_neg o8, if_neg o2, if_neg o3, if_pos o4])).symm
    by_cases o5 : opE e = 5
    · rw [if_neg o1, if_neg o7, if_neg o8, if_neg o2, if_neg o3, if_neg o4, if_pos o5]
      rw [rgt_plain d e (n := false) (s := false) (p := false) (f := false) (by omega) true (by unfold shapedB; rw [if_neg o1, if_neg o7, if_neg o8, if_neg o2, if_neg o3, if_neg o4, if_pos o5, Bool.and_true]), Bool.and_true]
    by_cases o6 : opE e = 6
    · rw [if_neg o1, if_neg o7, if_neg o8, if_neg o2, if_neg o3, if_neg o4, if_neg o5, if_pos o6]
      rw [rgt_plain d e (n := false) (s := false) (p := false) (f := false) (by omega) true (by unfold shapedB; rw [if_neg o1, if_neg o7, if_neg o8, if_neg o2, if_neg o3, if_neg o4, if_neg o5, if_pos o6, Bool.and_true]), Bool.and_true]
    by_cases o9 : opE e = 9
    · rw [if_neg o1, if_neg o7, if_neg o8, if_neg o2, if_neg o3, if_neg o4, if_neg o5, if_neg o6, if_pos o9]
      exact (rgt_plain d e (by omega) _ (by unfold shapedB; rw [if_neg o1, if_neg o7, if_neg o8, if_neg o2, if_neg o3, if_neg o4, if_neg o5, if_neg o6, if_pos o9])).symm
    rw [if_neg o1, if_neg o7, if_neg o8, if_neg o2, if_neg o3, if_neg o4, if_neg o5, if_neg o6, if_neg o9, rgt, partsE, shapedB]
    rw [if_neg o1, if_neg o7, if_neg o8, if_neg o2, if_neg o3, if_neg o4, if_neg o5, if_neg o6, if_neg o9]
    have k2 : decide (((kidsE e).length : Int) ≤ 32) = decide ((kidsE e).length ≤ 32) := decide_eq_decide.2 (by omega)
    have k4 : decide ((2 : Int) ≤ ((kidsE e).length : Int)) = decide (2 ≤ (kidsE e).length) := decide_eq_decide.2 (by omega)
    have k3 : (decide ((2 : Int) ≤ ((kidsE e).length : Int)) && decide (((kidsE e).length : Int) ≤ 2)) = decide ((kidsE e).length = 2) := by
      rw [← Bool.decide_and]
      exact decide_eq_decide.2 (by omega)
    rw [k3, k2, k4]
    by_cases o10 : opE e = 10
    · rw [if_pos o10, if_pos o10, if_pos o10]
      cases bareB false false false true false e <;> cases (List.map val (prsE e)).all (rgt d) <;> simp
    rw [if_neg o10, if_neg o10, if_neg o10]
    by_cases o11 : opE e = 11
    · rw [if_pos o11, if_pos o11]
      cases bareB false false false false true e <;> cases (kidsE e).all (rgt d) <;> simp
    rw [if_neg o11, if_neg o11]
    by_cases o12 : opE e = 12
    · rw [if_pos o12, if_pos o12]
      cases bareB false false false false true e <;> cases (kidsE e).all (rgt d) <;> simp
    rw [if_neg o12, if_neg o12]
    by_cases o13 : opE e = 13
    · rw [if_pos o13, if_pos o13]
      cases bareB false false false false true e <;> cases (kidsE e).all (rgt d) <;> simp
    rw [if_neg o13, if_neg o13]
    by_cases o14 : opE e = 14
    · rw [if_pos o14, if_pos o14]
      cases bareB false false false false true e <;> cases (kidsE e).all (rgt d) <;> simp
    rw [if_neg o14, if_neg o14]
    by_cases o15 : opE e = 15
    · rw [decide_eq_true o15, Bool.true_and, if_pos o15]
      cases bareB false false false false true e <;> cases (kidsE e).all (rgt d) <;> simp
    rw [decide_eq_false o15, if_neg o15]
    rfl
def dpE : Nat → T → Nat
  | 0, _ => 0
  | d + 1, e => 1 + maxN ((partsE e).map (dpE d))
theorem maxN_bound {l : List Nat} {n : Nat} (h : ∀ x ∈ l, x ≤ n) : maxN l ≤ n := by
  induction l with
  | nil => simp [maxN]
  | cons a l ih =>
    rw [max_cons]
    have h1 := h a List.mem_cons_self
    have h2 := ih fun x hx => h x (List.mem_cons_of_mem _ hx)
    omega
theorem dpE_le : ∀ (d : Nat) (e : T), dpE d e ≤ d
  | 0, e => Nat.le_refl _
  | d + 1, e => by
    rw [dpE]
    have : maxN ((partsE e).map (dpE d)) ≤ d := maxN_bound fun x hx => by
      obtain ⟨y, _, rfl⟩ := List.mem_map.1 hx
      exact dpE_le d y
    omega
theorem edepth_does : ∀ (d : Nat) (e : T), d ≤ 1000 → Ed d e → Dz i_expr_Depth none [A.t e] (1, [A.t (T.int (dpE d e : Nat))])
  | 0, e, hd, h => h.elim
  | d + 1, e, hd, h => by
    have hlen := parts_len h
    have hloop : ∀ (k j n : Nat), j + k = (partsE e).length → n ≤ 1000 → Dz i_expr_Depth (some p_expr_Depth_c1) [A.t (T.int n), A.t (T.node (partsE e)), A.t (T.int ((partsE e).length : Nat)), A.t (T.int j)] (2, [A.t (T.int (max n (maxN (((partsE e).drop j).map (dpE d))) : Nat))]) := by
      intro k
      induction k with
      | zero =>
        intro j n hj hn
        refine Does.now fun m => ?_
        rw [q_expr_Depth_c1, List.drop_of_length_le (by omega)]
        simp only [S0, S9, S1, S2, if_true, if_false, List.map_nil, maxN, List.foldr_nil, Nat.max_zero]
        rw [if_neg (by omega)]
      | succ k ih =>
        intro j n hj hn
        have hlt : j < (partsE e).length := by omega
        have hw : IntKind.i64.wrap ((j : Int) + 1) = ((j + 1 : Nat) : Int) := i64succ (by omega)
        have hle := dpE_le d (partsE e)[j]
        have hmx : maxI ((n : Nat) : Int) ((dpE d (partsE e)[j] : Nat) : Int) = ((max n (dpE d (partsE e)[j]) : Nat) : Int) := by unfold maxI; split <;> omega
        obtain ⟨n0, h0⟩ := (edepth_does d (partsE e)[j] (by omega) (parts_ed h _ (List.getElem_mem hlt))).both (ih (j + 1) (max n (dpE d (partsE e)[j])) (by omega) (by omega))
        refine Does.of n0 fun m hm => ?_
        obtain ⟨q1, q2⟩ := h0 m hm
        rw [q_expr_Depth_c1, List.drop_eq_getElem_cons hlt, List.map_cons, max_cons]
        simp only [S0, S9, S1, S2, if_true, if_false, at_get hlt, q1, hw, hmx, q2]
        rw [if_pos (by omega), if_pos (by omega), Nat.max_assoc]
    obtain ⟨n0, h0⟩ := (parts_does e (by have := h.1; omega)).both (hloop (partsE e).length 0 0 (by omega) (by omega))
    refine Does.of n0 fun m hm => ?_
    obtain ⟨q1, q⟩ := h0 m hm
    have q2 : den Tryd.prog G0 ents m i_expr_Depth (some p_expr_Depth_c1) [A.t (T.int 0), A.t (T.node (partsE e)), A.t (T.int ((partsE e).length : Nat)), A.t (T.int 0)] = _ := q
    have hle := dpE_le (d + 1) e
    rw [dpE] at hle
    rw [q_expr_Depth, dpE]
    simp only [S0, S9, S1, S2, if_true, if_false, q1, q2, List.drop_zero, Nat.zero_max, i64succ (show maxN ((partsE e).map (dpE d)) < 9223372036854775807 by omega)]
    rw [Nat.add_comm]
theorem rdepth13_does : ∀ (d : Nat) (e : T), d ≤ 1000 → Ed d e → Dz i_R13_Depth none [A.t e] (1, [A.t (T.int (dpE d e : Nat))])
  | 0, e, hd, h => h.elim
  | d + 1, e, hd, h => by
    have hlen := parts_len h
    have hloop : ∀ (k j n : Nat), j + k = (partsE e).length → n ≤ 1000 → Dz i_R13_Depth (some p_R13_Depth_c1) [A.t (T.int n), A.t (T.node (partsE e)), A.t (T.int j)] (2, [A.t (T.int (max n (maxN (((partsE e).drop j).map (dpE d))) : Nat))]) := by
      intro k
      induction k with
      | zero =>
        intro j n hj hn
        refine Does.now fun m => ?_
        rw [q_R13_Depth_c1, List.drop_of_length_le (by omega)]
        simp only [S0, S9, S1, S2, if_true, if_false, List.map_nil, maxN, List.foldr_nil, Nat.max_zero]
        rw [if_neg (by omega)]
      | succ k ih =>
        intro j n hj hn
        have hlt : j < (partsE e).length := by omega
        have hw : IntKind.i64.wrap ((j : Int) + 1) = ((j + 1 : Nat) : Int) := i64succ (by omega)
        have hle := dpE_le d (partsE e)[j]
        obtain ⟨n0, h0⟩ := (rdepth13_does d (partsE e)[j] (by omega) (parts_ed h _ (List.getElem_mem hlt))).both (ih (j + 1) (max n (dpE d (partsE e)[j])) (by omega) (by omega))
        refine Does.of n0 fun m hm => ?_
        obtain ⟨q1, q2⟩ := h0 m hm
        rw [q_R13_Depth_c1, List.drop_eq_getElem_cons hlt, List.map_cons, max_cons, ← Nat.max_assoc]
        simp only [S0, S9, S1, S2, if_true, if_false, at_get hlt, q1, hw]
        rw [if_pos (by omega), if_pos (by omega)]
        by_cases c : dpE d (partsE e)[j] > n
        · rw [if_pos (by omega)]
          rw [Nat.max_eq_right (by omega : n ≤ dpE d (partsE e)[j])] at q2 ⊢
          exact q2
        · rw [if_neg (by omega)]
          rw [Nat.max_eq_left (by omega : dpE d (partsE e)[j] ≤ n)] at q2 ⊢
          exact q2
    obtain ⟨n0, h0⟩ := (rparts_does e (by have := h.1; omega)).both (hloop (partsE e).length 0 0 (by omega) (by omega))
    refine Does.of n0 fun m hm => ?_
    obtain ⟨q1, q⟩ := h0 m hm
    have q2 : den Tryd.prog G0 ents m i_R13_Depth (some p_R13_Depth_c1) [A.t (T.int 0), A.t (T.node (partsE e)), A.t (T.int 0)] = _ := q
    have hle := dpE_le (d + 1) e
    rw [dpE] at hle
    have hw : IntKind.i64.wrap ((1 : Int) + ((maxN ((partsE e).map (dpE d)) : Nat) : Int)) = ((1 + maxN ((partsE e).map (dpE d)) : Nat) : Int) := by rw [w64 (by omega) (by omega)]; omega
    rw [q_R13_Depth, dpE]
    simp only [S0, S9, S1, S2, if_true, if_false, q1, q2, List.drop_zero, Nat.zero_max, hw]
def chkE (d : Nat) (e : T) : Int := if rgt d e = true then (if dpE d e ≤ 16 then 0 else 22) else 1
theorem check_does {d : Nat} {e : T} (hd : d ≤ 1000) (h : Ed d e) : Dz i_expr_Check none [A.t e] (1, [A.t (T.int (chkE d e))]) := by
  obtain ⟨n0, h0⟩ := (eright_does d e h).both (edepth_does d e hd h)
  refine Does.of n0 fun m hm => ?_
  obtain ⟨q1, q2⟩ := h0 m hm
  unfold chkE
  rw [q_expr_Check]
  simp only [S0, S9, S1, S2, if_true, if_false, q1, q2]
  cases rgt d e with
  | false => rfl
  | true =>
    by_cases c : dpE d e ≤ 16
    · rw [if_pos rfl, if_pos c]; simp; omega
    · rw [if_pos rfl, if_neg c]; simp; omega
theorem rcheck_does {d : Nat} {e : T} (hd : d ≤ 1000) (h : Ed d e) : Dz i_R13_Check none [A.t e] (1, [A.t (T.int (chkE d e))]) := by
  obtain ⟨n0, h0⟩ := (rright13_does d e h).both (rdepth13_does d e hd h)
  refine Does.of n0 fun m hm => ?_
  obtain ⟨q1, q2⟩ := h0 m hm
  unfold chkE
  rw [q_R13_Check]
  simp only [S0, S9, S1, S2, if_true, if_false, q1, q2]
  cases rgt d e with
  | false => rfl
  | true =>
    by_cases c : dpE d e ≤ 16
    · rw [if_pos rfl, if_pos c]; simp; omega
    · rw [if_pos rfl, if_neg c]; simp; omega
end Go.Proofs.YtdofdhlpheaonaaDoorKT
namespace Go.Proofs.YtdofdhlpheaonaaDoorKT
open Go Go.Proofs.YtdofdhlpheaonaaDoorVM
set_option linter.unusedVariables false
set_option linter.unusedSimpArgs false
set_option maxRecDepth 100000

def digs : Nat → Nat → List UInt8
  | 0, _ => []
  | k + 1, n => if n < 10 then [UInt8.ofNat (48 + n)] else digs k (n / 10) ++ [UInt8.ofNat (48 + n % 10)]
def numTxt (x : Int) : List UInt8 := if x < 0 then 45 :: digs 20 (-x).toNat else digs 20 x.toNat
theorem digs_len : ∀ k n, (digs k n).length ≤ k
  | 0, n => Nat.le_refl _
  | k + 1, n => by
    rw [digs]
    split
    · simp
    · rw [List.length_append]
      have := digs_len k (n / 10)
      simp
      omega
theorem numTxt_len (x : Int) : (numTxt x).length ≤ 21 := by
  unfold numTxt
  have h1 := digs_len 20 (-x).toNat
  have h2 := digs_len 20 x.toNat
  split
  · rw [List.length_cons]; omega
  · omega
theorem oneD {n : Nat} (h : n < 10) : IntKind.wrap IntKind.u8 (IntKind.wrap IntKind.i64 (48 + (n : Int))) = ((48 + n : Nat) : Int) := by
  rw [w64 (by omega) (by omega), show (48 : Int) + (n : Int) = ((48 + n : Nat) : Int) by omega, wu8, Nat.mod_eq_of_lt (by omega)]
theorem bytesT1 (n : Nat) : bytesT [T.int ((n : Nat) : Int)] = sb [UInt8.ofNat n] := rfl
theorem rtextP : ∀ (k n : Nat), n < 10 ^ (k + 1) → k ≤ 30 → n ≤ 9007199254740992 → Dz i_R01_Text none [A.t (T.int n)] (1, [A.t (T.str (sb (digs (k + 1) n)))]) := by
  intro k
  induction k with
  | zero =>
    intro n h hk hn
    refine Does.now fun m => ?_
    rw [q_R01_Text, digs, if_pos (by omega)]
    simp only [S0, S9, S1, S2, if_true, if_false, oneD (show n < 10 by omega), bytesT1]
    rw [if_pos (by omega), if_pos (by omega)]
  | succ k ih =>
    intro n h hk hn
    by_cases c : n < 10
    · refine Does.now fun m => ?_
      rw [q_R01_Text, digs, if_pos c]
      simp only [S0, S9, S1, S2, if_true, if_false, oneD c, bytesT1]
      rw [if_pos (by omega), if_pos (by omega)]
    · have h2 : n / 10 < 10 ^ (k + 1) := by
        rw [Nat.pow_succ] at h
        omega
      have hd : IntKind.wrap IntKind.i64 (Int.tdiv (n : Int) 10) = ((n / 10 : Nat) : Int) := by
        rw [show (10 : Int) = ((10 : Nat) : Int) from rfl, tdivN, w64 (by omega) (by omega)]
      have hm : Int.tmod (n : Int) 10 = ((n % 10 : Nat) : Int) := by rw [show (10 : Int) = ((10 : Nat) : Int) from rfl, tmodN]
      obtain ⟨n0, h0⟩ := ih (n / 10) h2 (by omega) (by omega)
      have hl := digs_len (k + 1) (n / 10)
      refine Does.of n0 fun m hm' => ?_
      rw [q_R01_Text, digs, if_neg c]
      simp only [S0, S9, S1, S2, if_true, if_false, hd, hm, oneD (Nat.mod_lt n (by omega)), bytesT1, h0 m hm', sb_size, sb_app, List.length_cons, List.length_nil]
      rw [if_pos (by omega), if_neg (by omega), if_pos (by omega), if_pos (by omega)]
theorem rtextM : ∀ (k n : Nat), n < 10 ^ (k + 1) → k ≤ 30 → 0 < n → n ≤ 9007199254740992 → Dz i_R01_Text none [A.t (T.int (-(n : Int)))] (1, [A.t (T.str (sb (45 :: digs (k + 1) n)))]) := by
  intro k
  induction k with
  | zero =>
    intro n h hk hp hn
    have hm : IntKind.wrap IntKind.i64 (0 - Int.tmod (-(n : Int)) 10) = ((n : Nat) : Int) := by
      rw [Int.neg_tmod, show (10 : Int) = ((10 : Nat) : Int) from rfl, tmodN, w64 (by omega) (by omega)]; omega
    refine Does.now fun m => ?_
    rw [q_R01_Text, digs, if_pos (by omega)]
    simp only [S0, S9, S1, S2, if_true, if_false, hm, oneD (show n < 10 by omega), bytesT1, sb_size, List.length_cons, List.length_nil]
    rw [if_neg (by omega), if_neg (by omega), if_pos (by omega), if_pos (by omega)]
    rfl
  | succ k ih =>
    intro n h hk hp hn
    have hm : IntKind.wrap IntKind.i64 (0 - Int.tmod (-(n : Int)) 10) = ((n % 10 : Nat) : Int) := by
      rw [Int.neg_tmod, show (10 : Int) = ((10 : Nat) : Int) from rfl, tmodN, w64 (by omega) (by omega)]; omega
    by_cases c : n < 10
    · rw [Nat.mod_eq_of_lt c] at hm
      refine Does.now fun m => ?_
      rw [q_R01_Text, digs, if_pos c]
      simp only [S0, S9, S1, S2, if_true, if_false, hm, oneD c, bytesT1, sb_size, List.length_cons, List.length_nil]
      rw [if_neg (by omega), if_neg (by omega), if_pos (by omega), if_pos (by omega)]
      rfl
    · have h2 : n / 10 < 10 ^ (k + 1) := by
        rw [Nat.pow_succ] at h
        omega
      have hd : IntKind.wrap IntKind.i64 (Int.tdiv (-(n : Int)) 10) = -((n / 10 : Nat) : Int) := by
        rw [Int.neg_tdiv, show (10 : Int) = ((10 : Nat) : Int) from rfl, tdivN, w64 (by omega) (by omega)]
      obtain ⟨n0, h0⟩ := ih (n / 10) h2 (by omega) (by omega) (by omega)
      have hl := digs_len (k + 1) (n / 10)
      refine Does.of n0 fun m hm' => ?_
      rw [q_R01_Text, digs, if_neg c]
      simp only [S0, S9, S1, S2, if_true, if_false, hd, hm, oneD (Nat.mod_lt n (by omega)), bytesT1, h0 m hm', sb_size, sb_app, List.length_cons, List.length_nil, List.cons_append]
      rw [if_neg (by omega), if_neg (by omega), if_neg (by omega), if_pos (by omega)]
theorem rtext_does (x : Int) (h1 : -9007199254740992 ≤ x) (h2 : x ≤ 9007199254740992) : Dz i_R01_Text none [A.t (T.int x)] (1, [A.t (T.str (sb (numTxt x)))]) := by
  unfold numTxt
  by_cases c : x < 0
  · rw [if_pos c]
    have h := rtextM 19 (-x).toNat (by omega) (by omega) (by omega) (by omega)
    rw [show -(((-x).toNat : Nat) : Int) = x by omega] at h
    exact h
  · rw [if_neg c]
    have h := rtextP 19 x.toNat (by omega) (by omega) (by omega)
    rw [show ((x.toNat : Nat) : Int) = x by omega] at h
    exact h
theorem numDig (u : Nat) : IntKind.wrap IntKind.u8 (48 + IntKind.wrap IntKind.u8 (Int.tmod (u : Int) 10)) = ((48 + u % 10 : Nat) : Int) := by
  rw [show (10 : Int) = ((10 : Nat) : Int) from rfl, tmodN, wu8, Nat.mod_eq_of_lt (show u % 10 < 256 by omega), show (48 : Int) + ((u % 10 : Nat) : Int) = ((48 + u % 10 : Nat) : Int) by omega, wu8, Nat.mod_eq_of_lt (by omega)]
theorem num_loop (x : Int) : ∀ (k u a : Nat) (arr : List T), u < 10 ^ (k + 1) → u < 18446744073709551616 → k + 1 ≤ a → a ≤ 20 → arr.length = 20 →
    ∃ (arr' : List T) (a' : Nat), Dz i_num_Text (some p_num_Text_c1) [A.t (T.int x), A.t (T.int u), A.t (T.int a), A.t (T.int (20 - a : Nat)), A.t (T.node arr)] (2, [A.t (T.int x), A.t (T.int a'), A.t (T.node arr')]) ∧
      arr'.length = 20 ∧ a' ≤ 20 ∧ arr'.drop a' = tb (digs (k + 1) u) ++ arr.drop a := by
  intro k
  induction k with
  | zero =>
    intro u a arr h hu ha ha2 hl
    have hd : IntKind.wrap IntKind.u64 (Int.tdiv (u : Int) 10) = 0 := by
      rw [show (10 : Int) = ((10 : Nat) : Int) from rfl, tdivN, wu64]; omega
    have hw : IntKind.wrap IntKind.i64 ((a : Int) - 1) = ((a - 1 : Nat) : Int) := by rw [w64 (by omega) (by omega)]; omega
    refine ⟨arr.set (a - 1) (T.int ((48 + u % 10 : Nat) : Int)), a - 1, Does.now fun m => ?_, by rw [List.length_set, hl], by omega, ?_⟩
    · rw [q_num_Text_c1]
      simp only [S0, S9, S1, S2, if_true, if_false, hd, hw, numDig, setPad_set arr (a - 1) (by omega)]
      rw [if_pos (by omega), if_pos (by omega)]
    · rw [digs, if_pos (by omega), List.drop_eq_getElem_cons (by rw [List.length_set]; omega), List.getElem_set_self, List.drop_set_of_lt (by omega), show a - 1 + 1 = a by omega, Nat.mod_eq_of_lt (by omega)]
      have := ofB (show 48 + u < 256 by omega)
      unfold tb
      rw [List.map_cons, this]
      rfl
  | succ k ih =>
    intro u a arr h hu ha ha2 hl
    have hd : IntKind.wrap IntKind.u64 (Int.tdiv (u : Int) 10) = ((u / 10 : Nat) : Int) := by
      rw [show (10 : Int) = ((10 : Nat) : Int) from rfl, tdivN, wu64]; omega
    have hw : IntKind.wrap IntKind.i64 ((a : Int) - 1) = ((a - 1 : Nat) : Int) := by rw [w64 (by omega) (by omega)]; omega
    have hfin : (arr.set (a - 1) (T.int ((48 + u % 10 : Nat) : Int))).drop (a - 1) = tb [UInt8.ofNat (48 + u % 10)] ++ arr.drop a := by
      rw [List.drop_eq_getElem_cons (by rw [List.length_set]; omega), List.getElem_set_self, List.drop_set_of_lt (by omega), show a - 1 + 1 = a by omega]
      have := ofB (show 48 + u % 10 < 256 by omega)
      unfold tb
      rw [List.map_cons, this]
      rfl
    by_cases c : u < 10
    · refine ⟨arr.set (a - 1) (T.int ((48 + u % 10 : Nat) : Int)), a - 1, Does.now fun m => ?_, by rw [List.length_set, hl], by omega, ?_⟩
      · rw [q_num_Text_c1]
        simp only [S0, S9, S1, S2, if_true, if_false, hd, hw, numDig, setPad_set arr (a - 1) (by omega)]
        rw [if_pos (by omega), if_pos (by omega), if_pos (by omega)]
      · rw [hfin, digs, if_pos c, Nat.mod_eq_of_lt c]
    · obtain ⟨arr', a', g1, g2, g3, g4⟩ := ih (u / 10) (a - 1) (arr.set (a - 1) (T.int ((48 + u % 10 : Nat) : Int))) (by rw [Nat.pow_succ] at h; omega) (by omega) (by omega) (by omega) (by rw [List.length_set, hl])
      refine ⟨arr', a', ?_, g2, g3, ?_⟩
      · obtain ⟨n0, h0⟩ := g1
        refine Does.of n0 fun m hm => ?_
        have hi : IntKind.wrap IntKind.i64 (((20 - a : Nat) : Int) + 1) = ((20 - (a - 1) : Nat) : Int) := by rw [w64 (by omega) (by omega)]; omega
        rw [q_num_Text_c1]
        simp only [S0, S9, S1, S2, if_true, if_false, hd, hw, hi, numDig, setPad_set arr (a - 1) (by omega), h0 m hm]
        rw [if_pos (by omega), if_pos (by omega), if_neg (by omega)]
      · have e : digs (k + 1 + 1) u = digs (k + 1) (u / 10) ++ [UInt8.ofNat (48 + u % 10)] := by rw [digs, if_neg c]
        rw [g4, hfin, e, tb_app, List.append_assoc]
theorem list20 {l : List T} (h : l.length = 20) : [l.getD 0 (.node []), l.getD 1 (.node []), l.getD 2 (.node []), l.getD 3 (.node []), l.getD 4 (.node []), l.getD 5 (.node []), l.getD 6 (.node []), l.getD 7 (.node []), l.getD 8 (.node []), l.getD 9 (.node []), l.getD 10 (.node []), l.getD 11 (.node []), l.getD 12 (.node []), l.getD 13 (.node []), l.getD 14 (.node []), l.getD 15 (.node []), l.getD 16 (.node []), l.getD 17 (.node []), l.getD 18 (.node []), l.getD 19 (.node [])] = l := by
  match l, h with
  | [_, _, _, _, _, _, _, _, _, _, _, _, _, _, _, _, _, _, _, _], _ => rfl
theorem text_does (x : Int) (h1 : -9007199254740992 ≤ x) (h2 : x ≤ 9007199254740992) : Dz i_num_Text none [A.t (T.int x)] (1, [A.t (T.str (sb (numTxt x)))]) := by
  have h0 : Nat.beq 2 2 = true := rfl
  by_cases c : x < 0
  · have hu : IntKind.wrap IntKind.u64 (0 - IntKind.wrap IntKind.u64 x) = (((-x).toNat : Nat) : Int) := by
      simp only [IntKind.wrap, IntKind.bits, IntKind.signed, Bool.false_and]
      simp
      omega
    obtain ⟨arr', a', g1, g2, g3, g4⟩ := num_loop x 19 (-x).toNat 20 [T.int 0,T.int 0,T.int 0,T.int 0,T.int 0,T.int 0,T.int 0,T.int 0,T.int 0,T.int 0,T.int 0,T.int 0,T.int 0,T.int 0,T.int 0,T.int 0,T.int 0,T.int 0,T.int 0,T.int 0] (by omega) (by omega) (by omega) (by omega) rfl
    obtain ⟨n0, h0'⟩ := g1
    refine Does.of n0 fun m hm => ?_
    have q : den Tryd.prog G0 ents m i_num_Text (some p_num_Text_c1) [A.t (T.int x), A.t (T.int ((-x).toNat : Nat)), A.t (T.int 20), A.t (T.int 0), A.t (T.node [T.int 0,T.int 0,T.int 0,T.int 0,T.int 0,T.int 0,T.int 0,T.int 0,T.int 0,T.int 0,T.int 0,T.int 0,T.int 0,T.int 0,T.int 0,T.int 0,T.int 0,T.int 0,T.int 0,T.int 0])] = _ := h0' m hm
    have g5 : arr'.drop a' = tb (digs 20 (-x).toNat) := by rw [g4]; exact List.append_nil _
    have hl := digs_len 20 (-x).toNat
    rw [q_num_Text]
    simp only [S0, S9, S1, S2, if_true, if_false, hu, q, c, get_node, list20 g2, g5, bytesT_tb, sb_size]
    rw [if_pos (by omega), if_pos (by omega)]
    unfold numTxt
    rw [if_pos c]
    rfl
  · have hu : IntKind.wrap IntKind.u64 x = ((x.toNat : Nat) : Int) := by
      simp only [IntKind.wrap, IntKind.bits, IntKind.signed, Bool.false_and]
      simp
      omega
    obtain ⟨arr', a', g1, g2, g3, g4⟩ := num_loop x 19 x.toNat 20 [T.int 0,T.int 0,T.int 0,T.int 0,T.int 0,T.int 0,T.int 0,T.int 0,T.int 0,T.int 0,T.int 0,T.int 0,T.int 0,T.int 0,T.int 0,T.int 0,T.int 0,T.int 0,T.int 0,T.int 0] (by omega) (by omega) (by omega) (by omega) rfl
    obtain ⟨n0, h0'⟩ := g1
    refine Does.of n0 fun m hm => ?_
    have q : den Tryd.prog G0 ents m i_num_Text (some p_num_Text_c1) [A.t (T.int x), A.t (T.int (x.toNat : Nat)), A.t (T.int 20), A.t (T.int 0), A.t (T.node [T.int 0,T.int 0,T.int 0,T.int 0,T.int 0,T.int 0,T.int 0,T.int 0,T.int 0,T.int 0,T.int 0,T.int 0,T.int 0,T.int 0,T.int 0,T.int 0,T.int 0,T.int 0,T.int 0,T.int 0])] = _ := h0' m hm
    have g5 : arr'.drop a' = tb (digs 20 x.toNat) := by rw [g4]; exact List.append_nil _
    have hl := digs_len 20 x.toNat
    rw [q_num_Text]
    simp only [S0, S9, S1, S2, if_true, if_false, hu, q, c, get_node, list20 g2, g5, bytesT_tb, sb_size]
    rw [if_pos (by omega)]
    unfold numTxt
    rw [if_neg c]
end Go.Proofs.YtdofdhlpheaonaaDoorKT
namespace Go.Proofs.YtdofdhlpheaonaaDoorKT
open Go Go.Proofs.YtdofdhlpheaonaaDoorVM
set_option linter.unusedVariables false
set_option linter.unusedSimpArgs false
set_option maxRecDepth 100000

def hx (k : Nat) : UInt8 := Array.getD (ByteArray.data (bs [48,49,50,51,52,53,54,55,56,57,97,98,99,100,101,102])) k 0
def qB (b : UInt8) : List UInt8 :=
  if b.toNat = 34 then [92, b] else if b.toNat = 92 then [92, b] else if b.toNat = 10 then [92, 110] else if b.toNat < 32 then [92, 120, hx (b.toNat / 16), hx (b.toNat % 16)] else if 126 < b.toNat then [92, 120, hx (b.toNat / 16), hx (b.toNat % 16)] else [b]
def qL : List UInt8 → List UInt8
  | [] => []
  | b :: l => qB b ++ qL l
def qTxt (s : ByteArray) : List UInt8 := 34 :: (qL s.data.toList ++ [34])
theorem qB_len (b : UInt8) : (qB b).length ≤ 4 := by
  unfold qB
  repeat' split
  all_goals simp
theorem qL_len : ∀ l, (qL l).length ≤ 4 * l.length
  | [] => Nat.le_refl _
  | b :: l => by
    rw [qL, List.length_append, List.length_cons]
    have := qL_len l
    have := qB_len b
    omega
theorem qTxt_len (s : ByteArray) : (qTxt s).length ≤ 4 * s.size + 2 := by
  unfold qTxt
  have := qL_len s.data.toList
  have h : s.data.toList.length = s.size := by rw [Array.length_toList]; rfl
  rw [List.length_cons, List.length_append]
  simp
  omega
theorem qL_app : ∀ a b, qL (a ++ b) = qL a ++ qL b
  | [], b => rfl
  | x :: a, b => by rw [List.cons_append, qL, qL, qL_app a b, List.append_assoc]
theorem byte_at {s : ByteArray} {j : Nat} (h : j < s.data.toList.length) : Array.getD s.data j (0 : UInt8) = s.data.toList[j] := by
  have : j < s.data.size := by simpa using h
  rw [Array.getD, dif_pos this, Array.getInternal_eq_getElem, Array.getElem_toList]
theorem ext_one {s : ByteArray} {j : Nat} (h : j < s.data.toList.length) : ByteArray.extract s j (j + 1) = sb [s.data.toList[j]] := by
  apply ByteArray.ext
  rw [ByteArray.data_extract]
  apply Array.ext'
  show _ = [s.data.toList[j]]
  rw [Array.toList_extract, List.extract_eq_take_drop, List.drop_eq_getElem_cons h, show j + 1 - j = 1 by omega]
  rfl
theorem u8_34 {b : UInt8} : (((b.toNat : Nat) : Int) = 34) = (b.toNat = 34) := propext (by omega)
theorem hexFacts (b : Nat) (h : b < 256) : zbits .and .u8 ((b : Nat) : Int) 15 = ((b % 16 : Nat) : Int) := by
  rw [show (15 : Int) = ((15 : Nat) : Int) from rfl, zand_u8 h (by omega)]
  congr 1
  exact Nat.and_two_pow_sub_one_eq_mod b 4
theorem quote_loop (s : ByteArray) (hs : s.size ≤ 1000) : ∀ (k j : Nat), j + k = s.size →
    Dz i_token_Quote (some p_token_Quote_c1) [A.t (T.str s), A.t (T.int (s.size : Nat)), A.t (T.int j), A.t (T.node (tb (34 :: qL (s.data.toList.take j))))] (2, [A.t (T.node (tb (34 :: qL s.data.toList)))]) := by
  have hl : s.data.toList.length = s.size := by rw [Array.length_toList]; rfl
  intro k
  induction k with
  | zero =>
    intro j hj
    refine Does.now fun m => ?_
    rw [q_token_Quote_c1, List.take_of_length_le (by omega)]
    simp only [S0, S9, S1, S2, if_true, if_false]
    rw [if_neg (by omega)]
  | succ k ih =>
    intro j hj
    have hlt : j < s.data.toList.length := by omega
    have hw : IntKind.i64.wrap ((j : Int) + 1) = ((j + 1 : Nat) : Int) := i64succ (by omega)
    have ht : s.data.toList.take (j + 1) = s.data.toList.take j ++ [s.data.toList[j]] := by rw [List.take_add_one, List.getElem?_eq_getElem hlt]; rfl
    have hq := qL_len (s.data.toList.take j)
    rw [List.length_take, Nat.min_eq_left (by omega)] at hq
    obtain ⟨n0, h0⟩ := ih (j + 1) (by omega)
    refine Does.of n0 fun m hm => ?_
    have q := h0 m hm
    rw [ht, qL_app, ← List.cons_append, tb_app] at q
    have hb : (s.data.toList[j]).toNat < 256 := UInt8.toNat_lt _
    have h16 : Int.fdiv (((s.data.toList[j]).toNat : Nat) : Int) 16 = (((s.data.toList[j]).toNat / 16 : Nat) : Int) := by rw [show (16 : Int) = ((16 : Nat) : Int) from rfl, fdivN]
    rw [q_token_Quote_c1]
    have hx' : ∀ k, (Array.getD (ByteArray.data ⟨List.toArray [48,49,50,51,52,53,54,55,56,57,97,98,99,100,101,102]⟩) k (0 : UInt8)) = hx k := fun _ => rfl
    simp only [S0, S9, S1, S2, if_true, if_false, byte_at hlt, hw, h16, hexFacts _ hb, hx', tb_len, List.length_cons]
    rw [if_pos (by omega), if_pos (by omega)]
    have hqb : tb (qL [s.data.toList[j]]) = tb (qB s.data.toList[j]) := by rw [qL, qL, List.append_nil]
    rw [hqb] at q
    unfold qB at q
    generalize s.data.toList[j] = b at *
    by_cases c1 : b.toNat = 34
    · rw [if_neg (by omega), if_pos (by omega)]
      rw [if_pos c1] at q
      exact q
    by_cases c2 : b.toNat = 92
    · rw [if_pos (by omega), if_pos (by omega), if_pos (by omega)]
      rw [if_neg c1, if_pos c2] at q
      exact q
    by_cases c3 : b.toNat = 10
    · rw [if_pos (by omega), if_neg (by omega), if_pos (by omega), if_pos (by omega)]
      rw [if_neg c1, if_neg c2, if_pos c3] at q
      exact q
    by_cases c4 : b.toNat < 32
    · rw [if_pos (by omega), if_neg (by omega), if_neg (by omega), if_neg (by omega), if_pos (by omega), if_pos (by omega), if_pos (by omega)]
      rw [if_neg c1, if_neg c2, if_neg c3, if_pos c4] at q
      exact q
    by_cases c5 : 126 < b.toNat
    · rw [if_pos (by omega), if_neg (by omega), if_neg (by omega), if_pos (by omega), if_pos (by omega), if_pos (by omega), if_pos (by omega), if_pos (by omega)]
      rw [if_neg c1, if_neg c2, if_neg c3, if_neg c4, if_pos c5] at q
      exact q
    · rw [if_pos (by omega), if_neg (by omega), if_neg (by omega), if_pos (by omega), if_neg (by omega), if_pos (by omega)]
      rw [if_neg c1, if_neg c2, if_neg c3, if_neg c4, if_neg c5] at q
      exact q
theorem quote_does (s : ByteArray) (hs : s.size ≤ 1000) : Dz i_token_Quote none [A.t (T.str s)] (1, [A.t (T.str (sb (qTxt s)))]) := by
  obtain ⟨n0, h0⟩ := quote_loop s hs s.size 0 (by omega)
  refine Does.of n0 fun m hm => ?_
  have q : den Tryd.prog G0 ents m i_token_Quote (some p_token_Quote_c1) [A.t (T.str s), A.t (T.int (s.size : Nat)), A.t (T.int 0), A.t (T.node [T.int 34])] = _ := h0 m hm
  have hq := qL_len s.data.toList
  have hl : s.data.toList.length = s.size := by rw [Array.length_toList]; rfl
  have e : tb (34 :: qL s.data.toList) ++ [T.int 34] = tb (qTxt s) := by
    unfold qTxt
    rw [← List.cons_append, tb_app]
    rfl
  rw [q_token_Quote]
  simp only [S0, S9, S1, S2, if_true, if_false, q, tb_len, List.length_cons, e, bytesT_tb]
  rw [if_pos (by omega)]
theorem hx_ext {k : Nat} (h : k < 16) : ByteArray.extract (bs [48,49,50,51,52,53,54,55,56,57,97,98,99,100,101,102]) k (k + 1) = sb [hx k] := by
  have hl : (bs [48,49,50,51,52,53,54,55,56,57,97,98,99,100,101,102]).data.toList.length = 16 := rfl
  rw [ext_one (by omega), ← byte_at (by omega)]
  rfl
theorem rquote_loop (s : ByteArray) (hs : s.size ≤ 1000) : ∀ (k j : Nat), j + k = s.size →
    Dz i_R12_Quote (some p_R12_Quote_c1) [A.t (T.str s), A.t (T.str (bs [48,49,50,51,52,53,54,55,56,57,97,98,99,100,101,102])), A.t (T.str (sb (34 :: qL (s.data.toList.take j)))), A.t (T.int j)] (2, [A.t (T.str (sb (34 :: qL s.data.toList)))]) := by
  have hl : s.data.toList.length = s.size := by rw [Array.length_toList]; rfl
  intro k
  induction k with
  | zero =>
    intro j hj
    refine Does.now fun m => ?_
    rw [q_R12_Quote_c1, List.take_of_length_le (by omega)]
    simp only [S0, S9, S1, S2, if_true, if_false]
    rw [if_neg (by omega)]
  | succ k ih =>
    intro j hj
    have hlt : j < s.data.toList.length := by omega
    have hw : IntKind.i64.wrap ((j : Int) + 1) = ((j + 1 : Nat) : Int) := i64succ (by omega)
    have ht : s.data.toList.take (j + 1) = s.data.toList.take j ++ [s.data.toList[j]] := by rw [List.take_add_one, List.getElem?_eq_getElem hlt]; rfl
    have hq := qL_len (s.data.toList.take j)
    rw [List.length_take, Nat.min_eq_left (by omega)] at hq
    obtain ⟨n0, h0⟩ := ih (j + 1) (by omega)
    refine Does.of n0 fun m hm => ?_
    have q := h0 m hm
    rw [ht, qL_app, ← List.cons_append, ← sb_app] at q
    have hb : (s.data.toList[j]).toNat < 256 := UInt8.toNat_lt _
    have hwb : IntKind.wrap IntKind.i64 (((s.data.toList[j]).toNat : Nat) : Int) = (((s.data.toList[j]).toNat : Nat) : Int) := w64 (by omega) (by omega)
    have h16 : IntKind.wrap IntKind.i64 (Int.tdiv (((s.data.toList[j]).toNat : Nat) : Int) 16) = (((s.data.toList[j]).toNat / 16 : Nat) : Int) := by
      rw [show (16 : Int) = ((16 : Nat) : Int) from rfl, tdivN, w64 (by omega) (by omega)]
    have hm16 : Int.tmod (((s.data.toList[j]).toNat : Nat) : Int) 16 = (((s.data.toList[j]).toNat % 16 : Nat) : Int) := by rw [show (16 : Int) = ((16 : Nat) : Int) from rfl, tmodN]
    have w1 : IntKind.wrap IntKind.i64 ((((s.data.toList[j]).toNat / 16 : Nat) : Int) + 1) = (((s.data.toList[j]).toNat / 16 + 1 : Nat) : Int) := i64succ (by omega)
    have w2 : IntKind.wrap IntKind.i64 ((((s.data.toList[j]).toNat % 16 : Nat) : Int) + 1) = (((s.data.toList[j]).toNat % 16 + 1 : Nat) : Int) := i64succ (by omega)
    have hbs : ((bs [48,49,50,51,52,53,54,55,56,57,97,98,99,100,101,102]).size : Int) = 16 := rfl
    have he := ext_one hlt
    have hqb : sb (qL [s.data.toList[j]]) = sb (qB s.data.toList[j]) := by rw [qL, qL, List.append_nil]
    rw [hqb] at q
    unfold qB at q
    have hx1 := hx_ext (show (s.data.toList[j]).toNat / 16 < 16 by omega)
    have hx2 := hx_ext (show (s.data.toList[j]).toNat % 16 < 16 by omega)
    rw [q_R12_Quote_c1]
    simp only [show ∀ i, T.z i = ((i.txt.size : Nat) : Int) from fun _ => rfl, show ∀ i, T.s i = i.txt from fun _ => rfl, txt_str, hbs, hx1]
    simp only [S0, S1, show ∀ t, T.n t = t.num from fun _ => rfl, show ∀ a, w6 a = IntKind.wrap .i64 a from fun _ => rfl, show ∀ n, aI n = A.t (.int n) from fun _ => rfl, show ∀ s, aS s = A.t (.str s) from fun _ => rfl, show ∀ a b, lt a b = decide (a < b) from fun _ _ => rfl, show ∀ a b, le a b = decide (a ≤ b) from fun _ _ => rfl, show ∀ a b, gt a b = decide (a > b) from fun _ _ => rfl, show ∀ i n, ib i n = Bool.and (decide (0 ≤ i)) (decide (i < n)) from fun _ _ => rfl, byte_at hlt, hwb, h16, hm16, w1, w2, hw, hx1, hx2, he, sb_size, List.length_cons, ByteArray.size_append]
    rw [if_pos (by omega), if_pos (by omega)]
    generalize s.data.toList[j] = b at *
    have e92 : bs [92] = sb [92] := rfl
    have e2 : bs [92, 110] = sb [92, 110] := rfl
    have e3 : bs [92, 120] = sb [92, 120] := rfl
    have f1 : (sb [92]).size = 1 := rfl
    have f2 : (sb [92, 120]).size = 2 := rfl
    simp only [e92, e2, e3, f1, f2, sb_size, List.length_cons, List.length_nil]
    by_cases c1 : b.toNat = 34
    · rw [if_neg (by omega)]
      repeat rw [if_pos (by omega)]
      rw [if_pos c1] at q
      rw [ByteArray.append_assoc, sb_app]
      exact q
    by_cases c2 : b.toNat = 92
    · repeat rw [if_pos (by omega)]
      rw [if_neg c1, if_pos c2] at q
      rw [ByteArray.append_assoc, sb_app]
      exact q
    by_cases c3 : b.toNat = 10
    · rw [if_pos (by omega), if_neg (by omega), if_pos (by omega), if_pos (by omega)]
      rw [if_neg c1, if_neg c2, if_pos c3] at q
      exact q
    by_cases c4 : b.toNat < 32
    · rw [if_pos (by omega), if_neg (by omega), if_neg (by omega), if_neg (by omega)]
      repeat rw [if_pos (by omega)]
      rw [if_neg c1, if_neg c2, if_neg c3, if_pos c4] at q
      rw [ByteArray.append_assoc, ByteArray.append_assoc, sb_app, sb_app]
      exact q
    by_cases c5 : 126 < b.toNat
    · rw [if_pos (by omega), if_neg (by omega), if_neg (by omega), if_pos (by omega)]
      repeat rw [if_pos (by omega)]
      rw [if_neg c1, if_neg c2, if_neg c3, if_neg c4, if_pos c5] at q
      rw [ByteArray.append_assoc, ByteArray.append_assoc, sb_app, sb_app]
      exact q
    · rw [if_pos (by omega), if_neg (by omega), if_neg (by omega), if_pos (by omega), if_neg (by omega)]
      repeat rw [if_pos (by omega)]
      rw [if_neg c1, if_neg c2, if_neg c3, if_neg c4, if_neg c5] at q
      exact q
theorem rquote_does (s : ByteArray) (hs : s.size ≤ 1000) : Dz i_R12_Quote none [A.t (T.str s)] (1, [A.t (T.str (sb (qTxt s)))]) := by
  obtain ⟨n0, h0⟩ := rquote_loop s hs s.size 0 (by omega)
  refine Does.of n0 fun m hm => ?_
  have q : den Tryd.prog G0 ents m i_R12_Quote (some p_R12_Quote_c1) [A.t (T.str s), A.t (T.str (bs [48,49,50,51,52,53,54,55,56,57,97,98,99,100,101,102])), A.t (T.str (bs [34])), A.t (T.int 0)] = _ := h0 m hm
  have hq := qL_len s.data.toList
  have hl : s.data.toList.length = s.size := by rw [Array.length_toList]; rfl
  have e : sb (34 :: qL s.data.toList) ++ bs [34] = sb (qTxt s) := by
    rw [show bs [34] = sb [34] from rfl, sb_app]
    rfl
  rw [q_R12_Quote]
  simp only [S0, S1, show ∀ v i, r v i = (aAt v i).tree from fun _ _ => rfl, show ∀ i, T.s i = i.txt from fun _ => rfl, show ∀ s, aS s = A.t (.str s) from fun _ => rfl, show ∀ n, aI n = A.t (.int n) from fun _ => rfl, show ∀ l, rt l = some (1, l) from fun _ => rfl, q, sb_size, List.length_cons, e]
  have hb : ((qL s.data.toList).length + 1).succ < 9223372036854775808 := by show _ + 1 + 1 < _; omega
  simp only [hb, if_true]
end Go.Proofs.YtdofdhlpheaonaaDoorKT
namespace Go.Proofs.YtdofdhlpheaonaaDoorKT
open Go Go.Proofs.YtdofdhlpheaonaaDoorVM
set_option linter.unusedVariables false
set_option linter.unusedSimpArgs false
set_option maxRecDepth 100000

def byt (s : ByteArray) : List UInt8 := s.data.toList
theorem byt_len (s : ByteArray) : (byt s).length = s.size := by unfold byt; rw [Array.length_toList]; rfl
theorem byt_sb (l : List UInt8) : byt (sb l) = l := by unfold byt sb; simp
theorem join_succ {l : List (List UInt8)} {sep y : List UInt8} {j : Nat} (h : l[j]? = some y) : Lib.join (l.take (j + 1)) sep = if j = 0 then y else Lib.join (l.take j) sep ++ sep ++ y := by
  cases l with
  | nil => simp at h
  | cons x r =>
    cases j with
    | zero => simp at h; subst h; rw [if_pos rfl, List.take_succ_cons, List.take_zero, Lib.join_one]
    | succ j =>
      rw [if_neg (by omega), List.take_succ_cons, List.take_succ_cons, Lib.join_cons, Lib.join_cons]
      rw [Lib.joinTail_take_succ sep r j y (by simpa using h)]
      simp only [List.append_assoc]
theorem join_snoc (l : List (List UInt8)) (sep x : List UInt8) : Lib.join (l ++ [x]) sep = if l = [] then x else Lib.join l sep ++ sep ++ x := by
  cases l with
  | nil => rw [if_pos rfl, List.nil_append, Lib.join_one]
  | cons a r =>
    rw [if_neg (by simp), List.cons_append, Lib.join_cons, Lib.join_cons]
    unfold Lib.joinTail
    simp
theorem join_take_le (l : List (List UInt8)) (sep : List UInt8) (j : Nat) : (Lib.join (l.take j) sep).length ≤ (Lib.join l sep).length := by
  cases l with
  | nil => simp [Lib.join_nil]
  | cons x r =>
    cases j with
    | zero => rw [List.take_zero, Lib.join_nil]; exact Nat.zero_le _
    | succ j =>
      rw [List.take_succ_cons, Lib.join_cons, Lib.join_cons, List.length_append, List.length_append]
      have := Lib.joinTail_take_le sep r j
      omega
theorem join_flat (l : List (List UInt8)) : Lib.join l [] = l.flatten := by
  cases l with
  | nil => rfl
  | cons x r =>
    rw [Lib.join_cons, List.flatten_cons]
    unfold Lib.joinTail
    simp
theorem join_len (l : List (List UInt8)) (sep : List UInt8) : (Lib.join l sep).length ≤ sumN (l.map fun x => x.length + sep.length) := by
  cases l with
  | nil => simp [Lib.join_nil, sumN]
  | cons x r =>
    rw [Lib.join_cons, List.length_append, List.map_cons, sum_cons]
    have : (Lib.joinTail sep r).length ≤ sumN (r.map fun x => x.length + sep.length) := by
      induction r with
      | nil => simp [Lib.joinTail, sumN]
      | cons y r ih =>
        have : Lib.joinTail sep (y :: r) = sep ++ y ++ Lib.joinTail sep r := by unfold Lib.joinTail; simp
        rw [this, List.length_append, List.length_append, List.map_cons, sum_cons]
        omega
    omega
def signL (o : Int) : List UInt8 := if o = 11 then [32, 38, 32] else if o = 12 then [32, 124, 32] else if o = 13 then [32, 43, 32] else if o = 14 then [32, 45, 32] else [32, 42, 32]
def lev (o : Int) : Int := if o = 11 then 2 else if o = 12 then 1 else if o = 13 then 3 else if o = 14 then 3 else if o = 15 then 4 else 5
def brk (o : Int) (first : Bool) (k : Int) : Bool := decide (lev k < (if first = true ∧ ¬ o = 12 ∧ ¬ o = 11 then lev o else lev o + 1))
def kidX (g : T → List UInt8) (o : Int) (first : Bool) (k : T) : List UInt8 := if brk o first (opE k) = true then [40] ++ g k ++ [41] else g k
def kidL (g : T → List UInt8) (o : Int) : List T → List (List UInt8)
  | [] => []
  | k :: l => kidX g o true k :: l.map (kidX g o false)
def prX (g : T → List UInt8) (p : T) : List UInt8 := byt (nm p) ++ [58, 32] ++ g (val p) ++ [59]
def prL (g : T → List UInt8) (e : T) : List (List UInt8) := (prsE e).map (prX g) ++ (if openE e = true then [[46, 46, 46]] else [])
def kindX (n : Int) : List UInt8 := if n = 1 then [98,111,111,108] else if n = 2 then [105,110,116] else if n = 3 then [115,116,114,105,110,103] else [97,110,121]
def txE : Nat → T → List UInt8
  | 0, _ => []
  | d + 1, e => if opE e = 1 then numTxt (numE e) else if opE e = 2 then qTxt (txtE e) else if opE e = 3 then (if numE e = 1 then [116,114,117,101] else [102,97,108,115,101])
      else if opE e = 4 then kindX (numE e) else if opE e = 5 then [110,111,110,101] else if opE e = 6 then [99,111,109,112,117,116,101,100] else if opE e = 7 then [62,61] ++ numTxt (numE e) else if opE e = 8 then [60,61] ++ numTxt (numE e)
      else if opE e = 9 then Lib.join ((pathE e).map fun s => byt s.txt) [46] else if opE e = 10 then [123] ++ Lib.join (prL (txE d) e) [32] ++ [125] else Lib.join (kidL (txE d) (opE e) (kidsE e)) (signL (opE e))
theorem kidL_len (g : T → List UInt8) (o : Int) : ∀ l, (kidL g o l).length = l.length
  | [] => rfl
  | k :: l => by rw [kidL, List.length_cons, List.length_map, List.length_cons]
theorem kidL_get (g : T → List UInt8) (o : Int) {l : List T} {j : Nat} (h : j < l.length) : (kidL g o l)[j]? = some (kidX g o (decide (j = 0)) l[j]) := by
  cases l with
  | nil => simp at h
  | cons k l =>
    cases j with
    | zero => rfl
    | succ j =>
      rw [kidL, List.getElem?_cons_succ, List.getElem?_map, List.getElem_cons_succ, List.getElem?_eq_getElem (by simpa using h)]
      rfl
theorem sum_le {α : Type} {f g : α → Nat} {l : List α} (h : ∀ x ∈ l, f x ≤ g x) : sumN (l.map f) ≤ sumN (l.map g) := by
  induction l with
  | nil => exact Nat.le_refl _
  | cons a l ih =>
    rw [List.map_cons, List.map_cons, sum_cons, sum_cons]
    have := h a List.mem_cons_self
    have := ih fun x hx => h x (List.mem_cons_of_mem _ hx)
    omega
theorem sum_mul (c : Nat) (l : List Nat) : sumN (l.map fun x => c * x) = c * sumN l := by
  induction l with
  | nil => simp [sumN]
  | cons a l ih => rw [List.map_cons, sum_cons, sum_cons, ih, Nat.mul_add]
theorem signL_len (o : Int) : (signL o).length = 3 := by unfold signL; repeat' split
                                                         all_goals rfl
theorem wE_pos {d : Nat} {e : T} (h : Ed d e) : 1 ≤ wE d e := by
  cases d with
  | zero => exact h.elim
  | succ d => rw [wE]; omega
theorem kindX_len (n : Int) : (kindX n).length ≤ 10 := by unfold kindX; repeat' split
                                                          all_goals simp
theorem txE_len : ∀ (d : Nat) (e : T), Ed d e → (txE d e).length + 1000 ≤ 30000 * wE d e
  | 0, e, h => h.elim
  | d + 1, e, h => by
    obtain ⟨⟨h1, h2, h3, h4⟩, h5, h6, h7⟩ := h
    have hw : 30000 * wE (d + 1) e = 30000 + 30000 * sumN ((prsE e).map fun p => wE d (val p)) + 30000 * sumN ((kidsE e).map (wE d)) := by
      rw [wE, Nat.mul_add, Nat.mul_add, Nat.mul_one]
    have hk : ∀ o, (Lib.join (kidL (txE d) o (kidsE e)) (signL o)).length ≤ 30000 * sumN ((kidsE e).map (wE d)) := fun o => by
      refine Nat.le_trans (join_len _ _) ?_
      have hx : ∀ f k, k ∈ kidsE e → (kidX (txE d) o f k).length + 3 ≤ 30000 * wE d k := fun f k hk => by
        have := txE_len d k (h7 k hk)
        have hl : (kidX (txE d) o f k).length ≤ (txE d k).length + 2 := by
          unfold kidX
          split
          · simp
          · omega
        omega
      have : sumN ((kidsE e).map fun k => 30000 * wE d k) = 30000 * sumN ((kidsE e).map (wE d)) := by
        rw [← sum_mul, List.map_map]; rfl
      rw [← this, signL_len]
      generalize hgk : kidsE e = ks at hx
      cases ks with
      | nil => exact Nat.le_refl _
      | cons k l =>
        rw [kidL, List.map_cons, sum_cons, List.map_cons, sum_cons, List.map_map]
        have a1 := hx true k List.mem_cons_self
        have a2 : sumN (l.map ((fun x : List UInt8 => x.length + 3) ∘ kidX (txE d) o false)) ≤ sumN (l.map fun k => 30000 * wE d k) := sum_le fun x hx' => hx false x (List.mem_cons_of_mem _ hx')
        omega
    have hp : (Lib.join (prL (txE d) e) [32]).length ≤ 30000 * sumN ((prsE e).map fun p => wE d (val p)) + 4 := by
      refine Nat.le_trans (join_len _ _) ?_
      unfold prL
      rw [List.map_append, List.map_map]
      have sum_app : ∀ a b : List Nat, sumN (a ++ b) = sumN a + sumN b := fun a b => by
        induction a with
        | nil => simp [sumN]
        | cons x a ih => rw [List.cons_append, sum_cons, sum_cons, ih, Nat.add_assoc]
      rw [sum_app]
      have a1 : sumN ((prsE e).map ((fun x : List UInt8 => x.length + [32].length) ∘ prX (txE d))) ≤ sumN ((prsE e).map fun p => 30000 * wE d (val p)) := sum_le fun x hx => by
        have := txE_len d (val x) (h6 x hx).2
        have := (h6 x hx).1
        show (prX (txE d) x).length + 1 ≤ _
        unfold prX
        simp only [List.length_append, byt_len, List.length_cons, List.length_nil]
        omega
      have a2 : sumN ((prsE e).map fun p => 30000 * wE d (val p)) = 30000 * sumN ((prsE e).map fun p => wE d (val p)) := by
        rw [← sum_mul, List.map_map]; rfl
      have a3 : sumN (List.map (fun x : List UInt8 => x.length + [32].length) (if openE e = true then [[46, 46, 46]] else [])) ≤ 4 := by split <;> simp [sumN]
      omega
    have hpath : (Lib.join ((pathE e).map fun s => byt s.txt) [46]).length ≤ 401 * 40 := by
      refine Nat.le_trans (join_len _ _) ?_
      rw [List.map_map]
      have a1 : sumN ((pathE e).map ((fun x : List UInt8 => x.length + [46].length) ∘ fun s => byt s.txt)) ≤ sumN ((pathE e).map fun _ => 401) := sum_le fun x hx => by
        have := h5 x hx
        show (byt x.txt).length + 1 ≤ 401
        rw [byt_len]; omega
      have a2 : ∀ l : List T, sumN (l.map fun _ => 401) = 401 * l.length := fun l => by
        induction l with
        | nil => rfl
        | cons a l ih => rw [List.map_cons, sum_cons, ih, List.length_cons]; omega
      rw [a2] at a1
      omega
    have hn := numTxt_len (numE e)
    have hq := qTxt_len (txtE e)
    have hkx := kindX_len (numE e)
    have hko := hk (opE e)
    rw [hw, txE]
    repeat' split
    all_goals (try simp only [List.length_append, List.length_cons, List.length_nil])
    all_goals omega
end Go.Proofs.YtdofdhlpheaonaaDoorKT
namespace Go.Proofs.YtdofdhlpheaonaaDoorKT
open Go Go.Proofs.YtdofdhlpheaonaaDoorVM
set_option linter.unusedVariables false
set_option linter.unusedSimpArgs false
set_option maxRecDepth 100000

def ss (l : List (List UInt8)) : List T := l.map fun x => T.str (sb x)
theorem ss_len (l : List (List UInt8)) : (ss l).length = l.length := List.length_map _
theorem joinP_eq (n : Nat) (l : List T) (s : ByteArray) : den Tryd.prog G0 ents (Nat.succ n) i_strings_Join none [A.t (T.node l), A.t (T.str s)] = Option.map (fun o => (1, o)) (bif joinOk (l.map T.txt) s then some [A.t (.str (joinB (l.map T.txt) s))] else none) := by kernel_rfl
theorem joinO_eq (n : Nat) (l : List T) (s : ByteArray) : den Tryd.prog G0 ents (Nat.succ n) i_strings_Join_o none [A.t (T.str s), A.t (T.node l)] = Option.map (fun o => (1, o)) (bif joinOk (l.map T.txt) s then some [A.t (.str (joinB (l.map T.txt) s)), A.t (.node l)] else none) := by kernel_rfl
theorem join_does (l : List T) (sep : List UInt8) (h1 : l.length ≤ 1000000000) (h2 : (Lib.join (l.map fun s => byt s.txt) sep).length ≤ 140737488355328) : Dz i_strings_Join none [A.t (T.node l), A.t (T.str (sb sep))] (1, [A.t (T.str (sb (Lib.join (l.map fun s => byt s.txt) sep)))]) := by
  refine Does.now fun m => ?_
  rw [joinP_eq]
  have e1 : (l.map T.txt).map (·.data.toList) = l.map fun s => byt s.txt := by rw [List.map_map]; rfl
  have e2 : (sb sep).data.toList = sep := byt_sb sep
  unfold joinOk joinB
  rw [e1, e2, List.length_map, decide_eq_true h1, decide_eq_true h2]
  rfl
theorem joinO_does (l : List (List UInt8)) (sep : List UInt8) (h1 : l.length ≤ 1000000000) (h2 : (Lib.join l sep).length ≤ 140737488355328) : Dz i_strings_Join_o none [A.t (T.str (sb sep)), A.t (T.node (ss l))] (1, [A.t (T.str (sb (Lib.join l sep))), A.t (T.node (ss l))]) := by
  refine Does.now fun m => ?_
  rw [joinO_eq]
  have e1 : ((ss l).map T.txt).map (·.data.toList) = l := by
    unfold ss
    rw [List.map_map, List.map_map]
    show l.map (fun x => byt (sb x)) = l
    rw [show (fun x => byt (sb x)) = id from funext byt_sb, List.map_id]
  have e2 : (sb sep).data.toList = sep := byt_sb sep
  unfold joinOk joinB
  rw [e1, e2, List.length_map, ss_len, decide_eq_true h1, decide_eq_true h2]
  rfl
theorem glue_does (l : List (List UInt8)) (h1 : l.length ≤ 1000000000) (h2 : l.flatten.length ≤ 140737488355328) : Dz i_show_glue_o none [A.t (T.node (ss l))] (1, [A.t (T.str (sb l.flatten)), A.t (T.node (ss l))]) := by
  have h := joinO_does l [] h1 (by rw [join_flat]; exact h2)
  rw [join_flat] at h
  obtain ⟨n0, h0⟩ := h
  refine Does.of n0 fun m hm => ?_
  have q : den Tryd.prog G0 ents m i_strings_Join_o none [A.t (T.str ⟨List.toArray []⟩), A.t (T.node (ss l))] = _ := h0 m hm
  rw [q_show_glue_o]
  simp only [S0, S9, S1, S2, if_true, if_false, q]
theorem nameText_does (l : List T) (hl : l.length ≤ 1000) (hp : pathB l = true) (h2 : (Lib.join (l.map fun s => byt s.txt) [46]).length ≤ 140737488355328) : Dz i_name_Text none [A.t (T.node l)] (1, [A.t (T.str (sb (Lib.join (l.map fun s => byt s.txt) [46]))), A.t (T.bool true)]) := by
  have hp' := path_does l hl
  rw [hp] at hp'
  obtain ⟨n0, h0⟩ := hp'.both (join_does l [46] (by omega) h2)
  refine Does.of n0 fun m hm => ?_
  obtain ⟨q1, q⟩ := h0 m hm
  have q2 : den Tryd.prog G0 ents m i_strings_Join none [A.t (T.node l), A.t (T.str ⟨List.toArray [46]⟩)] = _ := q
  rw [q_name_Text]
  simp only [S0, S9, S1, S2, if_true, if_false, q1, q2, Bool.not_true]
theorem rnameText_does (l : List T) (hl : l.length ≤ 1000) (hp : pathB l = true) (h2 : (Lib.join (l.map fun s => byt s.txt) [46]).length ≤ 1000000000) : Dz i_R02_Text none [A.t (T.node l)] (1, [A.t (T.str (sb (Lib.join (l.map fun s => byt s.txt) [46])))]) := by
  have hp' := rpath_does l hl
  rw [hp] at hp'
  have hpos : 0 < l.length := by
    unfold pathB at hp
    rw [Bool.and_eq_true, Bool.and_eq_true, decide_eq_true_eq] at hp
    omega
  have hloop : ∀ (k j : Nat), j + 1 + k = l.length → Dz i_R02_Text (some p_R02_Text_c1) [A.t (T.node l), A.t (T.str (sb (Lib.join ((l.map fun s => byt s.txt).take (j + 1)) [46]))), A.t (T.int (j + 1 : Nat))] (2, [A.t (T.str (sb (Lib.join (l.map fun s => byt s.txt) [46])))]) := by
    intro k
    induction k with
    | zero =>
      intro j hj
      refine Does.now fun m => ?_
      rw [q_R02_Text_c1, List.take_of_length_le (by rw [List.length_map]; omega)]
      simp only [S0, S9, S1, S2, if_true, if_false]
      rw [if_neg (by omega)]
    | succ k ih =>
      intro j hj
      have hlt : j + 1 < l.length := by omega
      have hw : IntKind.i64.wrap (((j + 1 : Nat) : Int) + 1) = ((j + 1 + 1 : Nat) : Int) := i64succ (by omega)
      have hget : (l.map fun s => byt s.txt)[j + 1]? = some (byt l[j + 1].txt) := by rw [List.getElem?_map, List.getElem?_eq_getElem hlt]; rfl
      have ht := join_succ (sep := [46]) hget
      rw [if_neg (by omega)] at ht
      have hle := join_take_le (l.map fun s => byt s.txt) [46] (j + 1 + 1)
      rw [ht, List.length_append, List.length_append, byt_len] at hle
      obtain ⟨n0, h0⟩ := ih (j + 1) (by omega)
      refine Does.of n0 fun m hm => ?_
      have q := h0 m hm
      rw [ht, ← sb_app, ← sb_app] at q
      have e1 : sb (byt l[j + 1].txt) = l[j + 1].txt := sb_toList _
      rw [e1] at q
      have q' : den Tryd.prog G0 ents m i_R02_Text (some p_R02_Text_c1) [A.t (T.node l), A.t (T.str (sb (Lib.join (List.take (j + 1) (List.map (fun s => byt s.txt) l)) [46]) ++ ⟨List.toArray [46]⟩ ++ l[j + 1].txt)), A.t (T.int (j + 1 + 1 : Nat))] = _ := q
      rw [q_R02_Text_c1]
      have e46 : (⟨List.toArray [46]⟩ : ByteArray).size = 1 := rfl
      simp only [S0, S9, S1, S2, if_true, if_false, at_get hlt, hw, q', sb_size, ByteArray.size_append, e46]
      have hb : (Lib.join (List.take (j + 1) (List.map (fun s => byt s.txt) l)) [46]).length.succ < 9223372036854775808 := by show _ + 1 < _; omega
      rw [if_pos (by omega), if_pos hb, if_pos (by omega), if_pos (by omega)]
  have h := hloop (l.length - 1) 0 (by omega)
  obtain ⟨n0, h0⟩ := hp'.both h
  refine Does.of n0 fun m hm => ?_
  obtain ⟨q1, q⟩ := h0 m hm
  have e1 : T.str (sb (Lib.join (List.take (0 + 1) (List.map (fun s => byt s.txt) l)) [46])) = T.str (tAtD l 0).txt := by
    have hget : (l.map fun s => byt s.txt)[0]? = some (byt l[0].txt) := by rw [List.getElem?_map, List.getElem?_eq_getElem hpos]; rfl
    rw [join_succ hget, if_pos rfl, at_get hpos]
    exact congrArg T.str (sb_toList _)
  rw [e1] at q
  have q2 : den Tryd.prog G0 ents m i_R02_Text (some p_R02_Text_c1) [A.t (T.node l), A.t (T.str (tAtD l 0).txt), A.t (T.int 1)] = _ := q
  rw [q_R02_Text]
  simp only [S0, S9, S1, S2, if_true, if_false, q1, q2, Bool.not_true]
  rw [if_pos (by omega)]
theorem level_does (e : T) (h1 : 1 ≤ opE e) (h2 : opE e ≤ 15) : Dz i_show_level none [A.t e] (1, [A.t (T.int (lev (opE e)))]) := by
  refine Does.now fun m => ?_
  rw [q_show_level]
  have hop : T.n (T.g e 0) = opE e := rfl
  simp only [hop]
  have : opE e = 1 ∨ opE e = 2 ∨ opE e = 3 ∨ opE e = 4 ∨ opE e = 5 ∨ opE e = 6 ∨ opE e = 7 ∨ opE e = 8 ∨ opE e = 9 ∨ opE e = 10 ∨ opE e = 11 ∨ opE e = 12 ∨ opE e = 13 ∨ opE e = 14 ∨ opE e = 15 := by omega
  rcases this with h | h | h | h | h | h | h | h | h | h | h | h | h | h | h <;> rw [h] <;> rfl
theorem sign_does (o : Int) : Dz i_R15_sign none [A.t (T.int o)] (1, [A.t (T.str (sb (signL o)))]) := by
  refine Does.now fun m => ?_
  rw [q_R15_sign]
  unfold signL
  simp only [S0, S9, S1, S2, if_true, if_false]
  repeat' split
  all_goals rfl
theorem rkind_does (o : Int) : Dz i_R15_kind none [A.t (T.int o)] (1, [A.t (T.str (sb (kindX o)))]) := by
  refine Does.now fun m => ?_
  rw [q_R15_kind]
  unfold kindX
  simp only [S0, S9, S1, S2, if_true, if_false]
  repeat' split
  all_goals rfl
theorem bracketed_does (o k : Int) (i : Nat) (ho1 : 11 ≤ o) (ho2 : o ≤ 15) (hk1 : 1 ≤ k) (hk2 : k ≤ 15) : Dz i_R15_bracketed none [A.t (T.int o), A.t (T.int i), A.t (T.int k)] (1, [A.t (T.bool (brk o (decide (i = 0)) k))]) := by
  refine Does.now fun m => ?_
  rw [q_R15_bracketed]
  have g1 : gt ((i : Nat) : Int) 0 = !decide (i = 0) := by
    unfold gt
    by_cases c : i = 0
    · subst c; rfl
    · rw [decide_eq_false c, decide_eq_true (by omega)]; rfl
  simp only [show ∀ x, T.n (T.int x) = x from fun _ => rfl, g1]
  have e1 : o = 11 ∨ o = 12 ∨ o = 13 ∨ o = 14 ∨ o = 15 := by omega
  have e2 : k = 1 ∨ k = 2 ∨ k = 3 ∨ k = 4 ∨ k = 5 ∨ k = 6 ∨ k = 7 ∨ k = 8 ∨ k = 9 ∨ k = 10 ∨ k = 11 ∨ k = 12 ∨ k = 13 ∨ k = 14 ∨ k = 15 := by omega
  cases decide (i = 0) <;> rcases e1 with h | h | h | h | h <;> subst h <;> rcases e2 with h | h | h | h | h | h | h | h | h | h | h | h | h | h | h <;> subst h <;> rfl
theorem rgt_op {d : Nat} {e : T} (h : rgt d e = true) : 1 ≤ opE e ∧ opE e ≤ 15 := by
  cases d with
  | zero => simp [rgt] at h
  | succ d =>
    rw [rgt, Bool.and_eq_true] at h
    have h1 := h.1
    unfold shapedB at h1
    by_cases c : 1 ≤ opE e ∧ opE e ≤ 15
    · exact c
    · repeat rw [if_neg (by omega)] at h1
      exact absurd h1 (by decide)
theorem rgt_parts {d : Nat} {e : T} (h : rgt (d + 1) e = true) : ∀ x ∈ partsE e, rgt d x = true := by
  rw [rgt, Bool.and_eq_true] at h
  exact fun x hx => List.all_eq_true.1 h.2 x hx
theorem rgt_num {d : Nat} {e : T} (h : rgt (d + 1) e = true) (ho : opE e = 1 ∨ opE e = 7 ∨ opE e = 8) : -9007199254740992 ≤ numE e ∧ numE e ≤ 9007199254740992 := by
  rw [rgt, Bool.and_eq_true] at h
  have h1 := h.1
  unfold shapedB at h1
  have : inB (numE e) = true := by
    rcases ho with ho | ho | ho
    · rw [if_pos ho, Bool.and_eq_true] at h1; exact h1.2
    · rw [if_neg (by omega), if_pos ho, Bool.and_eq_true] at h1; exact h1.2
    · rw [if_neg (by omega), if_neg (by omega), if_pos ho, Bool.and_eq_true] at h1; exact h1.2
  unfold inB at this
  rw [Bool.and_eq_true, decide_eq_true_eq, decide_eq_true_eq] at this
  exact this
theorem rgt_kind {d : Nat} {e : T} (h : rgt (d + 1) e = true) (ho : opE e = 4) : numE e = 1 ∨ numE e = 2 ∨ numE e = 3 ∨ numE e = 5 := by
  rw [rgt, Bool.and_eq_true] at h
  have h1 := h.1
  unfold shapedB at h1
  rw [if_neg (by omega), if_neg (by omega), if_neg (by omega), if_neg (by omega), if_neg (by omega), if_pos ho, Bool.and_eq_true] at h1
  have := h1.2
  simp only [Bool.or_eq_true, decide_eq_true_eq] at this
  omega
theorem rgt_path {d : Nat} {e : T} (h : rgt (d + 1) e = true) (ho : opE e = 9) : pathB (pathE e) = true := by
  rw [rgt, Bool.and_eq_true] at h
  have h1 := h.1
  unfold shapedB at h1
  rw [if_neg (by omega), if_neg (by omega), if_neg (by omega), if_neg (by omega), if_neg (by omega), if_neg (by omega), if_neg (by omega), if_neg (by omega), if_pos ho, Bool.and_eq_true] at h1
  exact h1.2
end Go.Proofs.YtdofdhlpheaonaaDoorKT
