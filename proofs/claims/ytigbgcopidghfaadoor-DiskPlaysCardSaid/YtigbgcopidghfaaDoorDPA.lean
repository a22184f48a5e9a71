/- A law's proof, a part: what the code answers. -/
import Derived.Test.YtigbgcopidghfaaDoorVmZu
import Derived.Test.YtigbgcopidghfaaDoorVmC
import Derived.Test.YtigbgcopidghfaaDoorVmZx
import Derived.Test.YtigbgcopidghfaaDoorProg
namespace Go.Proofs.YtigbgcopidghfaaDoorDP
open Go Go.Proofs.YtigbgcopidghfaaDoorVM
def G0 : List (Nat × TypeId × T) := [(0, 75, .node (wordsL.map T.str))]
def e0 : Entry := nameE 23 9 4
def e1 : Entry := sortedE 33 44 49 9 53 47
def e2 : Entry := { fid := 4, ins := ⟨[(0, .v 22)], []⟩, outs := ⟨[(0, .v 4)], []⟩, cuts := [([false, true, false, true, true, true, true, true], ⟨⟨[(0, .v 22), (3, .p 0 51), (4, .p 1 41), (5, .v 3)], [.var 51 (.agg 51 [.m 2, .v 4, .v 3, .v 3, .v 3]) false, .var 41 (.v 41) false, .map 9 53]⟩, [(2, ⟨[], []⟩), (1, ⟨[(2, .v 4)], []⟩)]⟩)], lit := true }
def e3 : Entry := { fid := 5, ins := ⟨[], []⟩, outs := ⟨[(0, .v 4)], []⟩, cuts := [], lit := true }
def e4 : Entry := { fid := 6, ins := ⟨[], []⟩, outs := ⟨[(0, .p 0 51)], [.var 51 (.agg 51 [.m 1, .v 4, .v 3, .v 3, .v 3]) false, .map 9 53]⟩, cuts := [] }
def e5 : Entry := { fid := 9, ins := ⟨[(0, .p 0 51), (1, .v 9), (2, .v 9)], [.var 51 (.agg 51 [.m 1, .v 4, .v 3, .v 3, .v 3]) false, .map 9 53]⟩, outs := ⟨[(0, .v 30)], [.var 51 (.agg 51 [.m 1, .v 4, .v 3, .v 3, .v 3]) false, .map 9 53]⟩, cuts := [] }
def e6 : Entry := { fid := 19, ins := ⟨[(0, .p 0 51)], [.var 51 (.agg 51 [.m 1, .v 4, .v 3, .v 3, .v 3]) false, .map 9 53]⟩, outs := ⟨[(0, .v 4)], [.var 51 (.agg 51 [.m 1, .v 4, .v 3, .v 3, .v 3]) false, .map 9 53]⟩, cuts := [] }
def e7 : Entry := { fid := 24, ins := ⟨[(0, .p 0 51)], [.var 51 (.agg 51 [.m 1, .v 4, .v 3, .v 3, .v 3]) false, .map 9 53]⟩, outs := ⟨[(0, .v 4)], [.var 51 (.agg 51 [.m 1, .v 4, .v 3, .v 3, .v 3]) false, .map 9 53]⟩, cuts := [] }
def e8 : Entry := { fid := 10, ins := ⟨[(0, .p 0 51), (1, .v 9)], [.var 51 (.agg 51 [.m 1, .v 4, .v 3, .v 3, .v 3]) false, .map 9 53]⟩, outs := ⟨[(0, .v 30)], [.var 51 (.agg 51 [.m 1, .v 4, .v 3, .v 3, .v 3]) false, .map 9 53]⟩, cuts := [] }
def e9 : Entry := { fid := 8, ins := ⟨[(0, .p 0 51), (1, .v 9)], [.var 51 (.agg 51 [.m 1, .v 4, .v 3, .v 3, .v 3]) false, .map 9 53]⟩, outs := ⟨[(0, .v 9), (1, .v 30)], [.var 51 (.agg 51 [.m 1, .v 4, .v 3, .v 3, .v 3]) false, .map 9 53]⟩, cuts := [] }
def e10 : Entry := { fid := 11, ins := ⟨[(0, .p 0 51), (1, .v 3), (2, .v 3)], [.var 51 (.agg 51 [.m 1, .v 4, .v 3, .v 3, .v 3]) false, .map 9 53]⟩, outs := ⟨[], [.var 51 (.agg 51 [.m 1, .v 4, .v 3, .v 3, .v 3]) false, .map 9 53]⟩, cuts := [] }
def e11 : Entry := { fid := 13, ins := ⟨[(0, .p 0 51), (1, .v 26)], [.var 51 (.agg 51 [.m 1, .v 4, .v 3, .v 3, .v 3]) false, .map 9 53]⟩, outs := ⟨[], [.var 51 (.agg 51 [.m 1, .v 4, .v 3, .v 3, .v 3]) false, .map 9 53]⟩, cuts := [([false, true, false, true], ⟨⟨[(0, .p 0 51), (1, .v 26), (11, .v 47), (12, .v 3), (13, .v 3)], [.var 51 (.agg 51 [.m 1, .v 4, .v 3, .v 3, .v 3]) false, .map 9 53]⟩, [(2, ⟨[(0, .p 0 51)], [.var 51 (.agg 51 [.m 1, .v 4, .v 3, .v 3, .v 3]) false, .map 9 53]⟩)]⟩)] }
def e12 : Entry := { fid := 22, ins := ⟨[(0, .p 0 51)], [.var 51 (.agg 51 [.m 1, .v 4, .v 3, .v 3, .v 3]) false, .map 9 53]⟩, outs := ⟨[(0, .v 47)], [.var 51 (.agg 51 [.m 1, .v 4, .v 3, .v 3, .v 3]) false, .map 9 53]⟩, cuts := [] }
def e13 : Entry := { fid := 34, ins := ⟨[(0, .m 0)], [.map 9 53]⟩, outs := ⟨[(0, .clo 44 [.p 1 49])], [.map 9 53, .var 49 (.m 0) false]⟩, cuts := [] }
def e14 : Entry := { fid := 21, ins := ⟨[(0, .p 0 51), (1, .v 9)], [.var 51 (.agg 51 [.m 1, .v 4, .v 3, .v 3, .v 3]) false, .map 9 53]⟩, outs := ⟨[(0, .v 3)], [.var 51 (.agg 51 [.m 1, .v 4, .v 3, .v 3, .v 3]) false, .map 9 53]⟩, cuts := [] }
def e15 : Entry := { fid := 7, ins := ⟨[(0, .v 28)], []⟩, outs := ⟨[(0, .v 4)], []⟩, cuts := [], lit := true }
def e16 : Entry := { fid := 14, ins := ⟨[(0, .p 0 51), (1, .v 41), (2, .v 28)], [.var 51 (.agg 51 [.m 1, .v 4, .v 3, .v 3, .v 3]) false, .map 9 53]⟩, outs := ⟨[(0, .v 41), (1, .v 4)], [.var 51 (.agg 51 [.m 1, .v 4, .v 3, .v 3, .v 3]) false, .map 9 53]⟩, cuts := [], lit := true }
def e17 : Entry := { fid := 25, ins := ⟨[(0, .v 41), (1, .v 9), (2, .v 9)], []⟩, outs := ⟨[(0, .v 41), (1, .v 3)], []⟩, cuts := [], lit := true }
def e18 : Entry := { fid := 37, ins := ⟨[(0, .v 9)], []⟩, outs := ⟨[(0, .v 4)], []⟩, cuts := [([false, true, false, true, true], ⟨⟨[(0, .v 9), (3, .v 3)], []⟩, [(2, ⟨[], []⟩), (1, ⟨[(2, .v 4)], []⟩)]⟩)], lit := true }
def e19 : Entry := { fid := 45, ins := ⟨[(0, .v 9)], []⟩, outs := ⟨[(0, .v 3)], []⟩, cuts := [], lit := true }
def e20 : Entry := { fid := 38, ins := ⟨[(0, .v 41), (1, .v 9)], []⟩, outs := ⟨[(0, .v 3)], []⟩, cuts := [([false, true, false, true], ⟨⟨[(1, .v 9), (2, .p 0 41), (5, .v 3)], [.var 41 (.v 41) false]⟩, [(2, ⟨[], []⟩), (1, ⟨[(4, .v 3)], []⟩)]⟩)], lit := true }
def e21 : Entry := { fid := 39, ins := ⟨[(0, .v 41)], []⟩, outs := ⟨[(0, .v 41), (1, .v 4)], []⟩, cuts := [], lit := true }
def e22 : Entry := { fid := 40, ins := ⟨[(0, .v 39), (1, .v 64)], []⟩, outs := ⟨[(0, .o 0)], [.row 64]⟩, cuts := [([false, true, false, true, true, true], ⟨⟨[(0, .v 39), (3, .p 0 64), (5, .o 1), (6, .v 4), (7, .v 3)], [.var 64 (.v 64) false, .row 64]⟩, [(2, ⟨[(3, .p 0 64), (5, .o 1), (6, .v 4)], [.var 64 (.v 64) false, .row 64]⟩)]⟩)], lit := true }
def e23 : Entry := { fid := 26, ins := ⟨[(0, .v 41), (1, .v 9)], []⟩, outs := ⟨[(0, .v 41), (1, .v 3)], []⟩, cuts := [], lit := true }
def e24 : Entry := { fid := 32, ins := ⟨[(0, .v 41), (1, .v 9)], []⟩, outs := ⟨[(0, .v 9), (1, .v 3)], []⟩, cuts := [], lit := true }
def e25 : Entry := { fid := 16, ins := ⟨[(0, .p 0 51), (1, .v 9), (2, .v 9)], [.var 51 (.agg 51 [.m 1, .v 4, .v 3, .v 3, .v 3]) false, .map 9 53]⟩, outs := ⟨[(0, .v 30)], [.var 51 (.agg 51 [.m 1, .v 4, .v 3, .v 3, .v 3]) false, .map 9 53]⟩, cuts := [] }
def e26 : Entry := { fid := 27, ins := ⟨[(0, .v 41), (1, .v 9), (2, .v 9)], []⟩, outs := ⟨[(0, .v 41), (1, .v 3)], []⟩, cuts := [], lit := true }
def e27 : Entry := { fid := 41, ins := ⟨[(0, .v 39), (1, .v 9)], []⟩, outs := ⟨[(0, .o 0)], [.row 64]⟩, cuts := [([false, true, false, true, true], ⟨⟨[(0, .v 39), (1, .v 9), (5, .o 0), (6, .v 3)], [.row 64]⟩, [(2, ⟨[(5, .o 0)], [.row 64]⟩)]⟩)], lit := true }
def e28 : Entry := { fid := 17, ins := ⟨[(0, .p 0 51), (1, .v 9)], [.var 51 (.agg 51 [.m 1, .v 4, .v 3, .v 3, .v 3]) false, .map 9 53]⟩, outs := ⟨[(0, .v 30)], [.var 51 (.agg 51 [.m 1, .v 4, .v 3, .v 3, .v 3]) false, .map 9 53]⟩, cuts := [] }
def e29 : Entry := { fid := 28, ins := ⟨[(0, .v 41), (1, .v 9)], []⟩, outs := ⟨[(0, .v 41), (1, .v 3)], []⟩, cuts := [], lit := true }
def e30 : Entry := { fid := 12, ins := ⟨[(0, .v 26), (1, .v 3)], []⟩, outs := ⟨[(0, .v 3)], []⟩, cuts := [], lit := true }
def e31 : Entry := { fid := 29, ins := ⟨[(0, .v 41), (1, .v 3), (2, .v 3)], []⟩, outs := ⟨[(0, .v 41)], []⟩, cuts := [], lit := true }
def e32 : Entry := { fid := 30, ins := ⟨[(0, .v 41), (1, .v 26)], []⟩, outs := ⟨[(0, .v 41)], []⟩, cuts := [([false, true, false, true, true], ⟨⟨[(1, .v 26), (2, .p 0 41), (4, .p 1 41), (5, .o 2), (6, .v 3)], [.var 41 (.v 41) false, .var 41 (.v 41) false, .row 64]⟩, [(2, ⟨[(2, .p 0 41), (4, .p 1 41), (5, .o 2)], [.var 41 (.v 41) false, .var 41 (.v 41) false, .row 64]⟩)]⟩)], lit := true }
def e33 : Entry := { fid := 18, ins := ⟨[(0, .p 0 51), (1, .v 9), (2, .v 9)], [.var 51 (.agg 51 [.m 1, .v 4, .v 3, .v 3, .v 3]) false, .map 9 53]⟩, outs := ⟨[(0, .v 30)], [.var 51 (.agg 51 [.m 1, .v 4, .v 3, .v 3, .v 3]) false, .map 9 53]⟩, cuts := [] }
def e34 : Entry := { fid := 31, ins := ⟨[(0, .v 41), (1, .v 9), (2, .v 9)], []⟩, outs := ⟨[(0, .v 41), (1, .v 3)], []⟩, cuts := [], lit := true }
def e35 : Entry := { fid := 15, ins := ⟨[(0, .p 0 51), (1, .v 41)], [.var 51 (.agg 51 [.m 1, .v 4, .v 3, .v 3, .v 3]) false, .map 9 53]⟩, outs := ⟨[(0, .v 4)], [.var 51 (.agg 51 [.m 1, .v 4, .v 3, .v 3, .v 3]) false, .map 9 53]⟩, cuts := [([false, true, false, true, true, true], ⟨⟨[(0, .p 0 51), (3, .p 2 41), (5, .v 47), (6, .v 3)], [.var 51 (.agg 51 [.m 1, .v 4, .v 3, .v 3, .v 3]) false, .map 9 53, .var 41 (.v 41) false]⟩, [(2, ⟨[], [.var 51 (.agg 51 [.m 1, .v 4, .v 3, .v 3, .v 3]) false, .map 9 53]⟩), (1, ⟨[(4, .v 4)], [.var 51 (.agg 51 [.m 1, .v 4, .v 3, .v 3, .v 3]) false, .map 9 53]⟩)]⟩)], lit := true }
def e36 : Entry := { fid := 20, ins := ⟨[(0, .p 0 51)], [.var 51 (.agg 51 [.m 1, .v 4, .v 3, .v 3, .v 3]) false, .map 9 53]⟩, outs := ⟨[(0, .v 3)], [.var 51 (.agg 51 [.m 1, .v 4, .v 3, .v 3, .v 3]) false, .map 9 53]⟩, cuts := [] }
def e37 : Entry := { fid := 11, ins := ⟨[(0, .np), (1, .v 3), (2, .v 3)], []⟩, outs := ⟨[], []⟩, cuts := [] }
def e38 : Entry := { fid := 13, ins := ⟨[(0, .np), (1, .v 26)], []⟩, outs := ⟨[], []⟩, cuts := [([false, true, false, true], ⟨⟨[(0, .np), (1, .v 26), (11, .v 47), (12, .v 3), (13, .v 3)], []⟩, [(2, ⟨[(0, .np)], []⟩)]⟩)] }
def e39 : Entry := { fid := 22, ins := ⟨[(0, .np)], []⟩, outs := ⟨[(0, .v 47)], []⟩, cuts := [] }
def e40 : Entry := { fid := 8, ins := ⟨[(0, .np), (1, .v 9)], []⟩, outs := ⟨[(0, .v 9), (1, .v 30)], []⟩, cuts := [] }
def e41 : Entry := { fid := 19, ins := ⟨[(0, .np)], []⟩, outs := ⟨[(0, .v 4)], []⟩, cuts := [] }
def e42 : Entry := { fid := 9, ins := ⟨[(0, .np), (1, .v 9), (2, .v 9)], []⟩, outs := ⟨[(0, .v 30)], []⟩, cuts := [] }
def e43 : Entry := { fid := 10, ins := ⟨[(0, .np), (1, .v 9)], []⟩, outs := ⟨[(0, .v 30)], []⟩, cuts := [] }
def e44 : Entry := { fid := 16, ins := ⟨[(0, .np), (1, .v 9), (2, .v 9)], []⟩, outs := ⟨[(0, .v 30)], []⟩, cuts := [] }
def e45 : Entry := { fid := 17, ins := ⟨[(0, .np), (1, .v 9)], []⟩, outs := ⟨[(0, .v 30)], []⟩, cuts := [] }
def e46 : Entry := { fid := 18, ins := ⟨[(0, .np), (1, .v 9), (2, .v 9)], []⟩, outs := ⟨[(0, .v 30)], []⟩, cuts := [] }
def e47 : Entry := { fid := 20, ins := ⟨[(0, .np)], []⟩, outs := ⟨[(0, .v 3)], []⟩, cuts := [] }
def e48 : Entry := { fid := 21, ins := ⟨[(0, .np), (1, .v 9)], []⟩, outs := ⟨[(0, .v 3)], []⟩, cuts := [] }
def e49 : Entry := { fid := 40, ins := ⟨[(0, .o 0), (1, .v 64)], [.row 64]⟩, outs := ⟨[(0, .o 1)], [.row 64, .row 64]⟩, cuts := [([false, true, false, true, true, true], ⟨⟨[(0, .o 0), (3, .p 1 64), (5, .o 2), (6, .v 4), (7, .v 3)], [.row 64, .var 64 (.v 64) false, .row 64]⟩, [(2, ⟨[(3, .p 1 64), (5, .o 2), (6, .v 4)], [.row 64, .var 64 (.v 64) false, .row 64]⟩)]⟩)], lit := true }
def ents : List Entry := [e0, e1, e2, e3, e4, e5, e6, e7, e8, e9, e10, e11, e12, e13, e14, e15, e16, e17, e18, e19, e20, e21, e22, e23, e24, e25, e26, e27, e28, e29, e30, e31, e32, e33, e34, e35, e36, e37, e38, e39, e40, e41, e42, e43, e44, e45, e46, e47, e48, e49]
def i_name_Right : Nat := 0
def i_slices_Sorted : Nat := 1
def i_L23_DiskPlays : Nat := 2
def i_L23_awake : Nat := 3
def i_disk_New : Nat := 4
def i_disk_Disk_Append : Nat := 5
def i_disk_Disk_Down : Nat := 6
def i_disk_Disk_cut : Nat := 7
def i_disk_Disk_Sync : Nat := 8
def i_disk_Disk_Read : Nat := 9
def i_disk_Disk_Fuse : Nat := 10
def i_disk_Disk_Wake : Nat := 11
def i_disk_Disk_Names : Nat := 12
def i_maps_Keys_map_string_disk_file_string_disk_file : Nat := 13
def i_disk_Disk_Sure : Nat := 14
def i_L23_short : Nat := 15
def i_L23_step : Nat := 16
def i_R23_Append : Nat := 17
def i_R02_Right : Nat := 18
def i_R02_Word : Nat := 19
def i_R23_Find : Nat := 20
def i_R23_cut : Nat := 21
def i_R23_put : Nat := 22
def i_R23_Sync : Nat := 23
def i_R23_Read : Nat := 24
def i_disk_Disk_Rename : Nat := 25
def i_R23_Rename : Nat := 26
def i_R23_drop : Nat := 27
def i_disk_Disk_Remove : Nat := 28
def i_R23_Remove : Nat := 29
def i_L23_number : Nat := 30
def i_R23_Fuse : Nat := 31
def i_R23_Wake : Nat := 32
def i_disk_Disk_Load : Nat := 33
def i_R23_Load : Nat := 34
def i_L23_Like : Nat := 35
def i_disk_Disk_Ops : Nat := 36
def i_disk_Disk_Fuse_v2 : Nat := 37
def i_disk_Disk_Wake_v2 : Nat := 38
def i_disk_Disk_Names_v2 : Nat := 39
def i_disk_Disk_Read_v2 : Nat := 40
def i_disk_Disk_Down_v2 : Nat := 41
def i_disk_Disk_Append_v2 : Nat := 42
def i_disk_Disk_Sync_v2 : Nat := 43
def i_disk_Disk_Rename_v2 : Nat := 44
def i_disk_Disk_Remove_v2 : Nat := 45
def i_disk_Disk_Load_v2 : Nat := 46
def i_disk_Disk_Ops_v2 : Nat := 47
def i_disk_Disk_Sure_v2 : Nat := 48
def i_R23_put_o : Nat := 49
def p_L23_DiskPlays_c1 : List Bool := [false, true, false, true, true, true, true, true]
def p_disk_Disk_Wake_c1 : List Bool := [false, true, false, true]
def p_R02_Right_c1 : List Bool := [false, true, false, true, true]
def p_R23_Find_c1 : List Bool := [false, true, false, true]
def p_R23_put_c1 : List Bool := [false, true, false, true, true, true]
def p_R23_drop_c1 : List Bool := [false, true, false, true, true]
def p_R23_Wake_c1 : List Bool := [false, true, false, true, true]
def p_L23_Like_c1 : List Bool := [false, true, false, true, true, true]
def p_disk_Disk_Wake_v2_c1 : List Bool := [false, true, false, true]
def p_R23_put_o_c1 : List Bool := [false, true, false, true, true, true]
noncomputable def D (n i : Nat) (p : Option (List Bool)) (xs : List A) : Option (Nat × List A) := den Tryd.prog G0 ents n i p xs
noncomputable def cl (n i : Nat) (xs : List A) (k : List A → Option (Nat × List A)) : Option (Nat × List A) := Option.bind (Option.map (fun v => v.2) (den Tryd.prog G0 ents n i none xs)) k
noncomputable def lp (n i : Nat) (p : List Bool) (xs : List A) (k : Nat × List A → Option (Nat × List A)) : Option (Nat × List A) := Option.bind (den Tryd.prog G0 ents n i (some p) xs) k
end Go.Proofs.YtigbgcopidghfaaDoorDP
set_option linter.unusedVariables false
set_option maxRecDepth 100000
namespace Go.Proofs.YtigbgcopidghfaaDoorDP
open Go Go.Proofs.YtigbgcopidghfaaDoorVM Go.Proofs
theorem q_L23_DiskPlays (n : Nat) (x0 : T) : den Tryd.prog G0 ents (Nat.succ n) i_L23_DiskPlays none [A.t x0] =
  bif gt x0.l 60 then cl n i_L23_awake [] fun v0 => rt [aB (r v0 0).b] else cl n i_disk_New [] fun v0 => lp n i_L23_DiskPlays p_L23_DiskPlays_c1 [aL x0.k,aI 0,aB (r v0 0).b,aI (r v0 1).n,aI (r v0 2).n,aI (r v0 3).n,aL [T.node [],T.bool false,T.int 0,T.int 0,T.int 0],aL (r v0 4).k] fun v1 => bif Nat.beq v1.1 2 then cl n i_disk_Disk_Fuse_v2 [aI 1,aI 1] fun v2 => cl n i_disk_Disk_Wake_v2 [aL [T.int 1]] fun v3 => cl n i_disk_Disk_Read_v2 [aS (bs [97])] fun v4 => cl n i_disk_Disk_Append_v2 [aS (bs [97]),aS (bs [])] fun v5 => bif ((r v5 0).n == 8) == true then cl n i_disk_Disk_Sync_v2 [aS (bs [97])] fun v6 => bif ((r v6 0).n == 8) == true then cl n i_disk_Disk_Rename_v2 [aS (bs [97]),aS (bs [98])] fun v7 => bif ((r v7 0).n == 8) == true then cl n i_disk_Disk_Remove_v2 [aS (bs [97])] fun v8 => bif ((r v8 0).n == 8) == true then cl n i_disk_Disk_Load_v2 [aS (bs [97]),aS (bs [])] fun v9 => cl n i_L23_awake [] fun v10 => bif (r v10 0).b == true then bif ((r v9 0).n == 8) == true then bif ((r v4 1).n == 8) == true then cl n i_disk_Disk_Down_v2 [] fun v11 => bif (r v11 0).b == true then cl n i_disk_Disk_Ops_v2 [] fun v12 => cl n i_disk_Disk_Sure_v2 [aS (bs [97])] fun v13 => cl n i_disk_Disk_Names_v2 [] fun v14 => rt [aB (w6 (w6 ((r v12 0).n + (r v13 0).n) + (r v14 0).l) == 0)] else rt [aB false] else rt [aB false] else rt [aB false] else rt [aB false] else cl n i_L23_awake [] fun v9 => bif (r v9 0).b == true then rt [aB false] else rt [aB false] else cl n i_L23_awake [] fun v8 => bif (r v8 0).b == true then rt [aB false] else rt [aB false] else cl n i_L23_awake [] fun v7 => bif (r v7 0).b == true then rt [aB false] else rt [aB false] else cl n i_L23_awake [] fun v6 => bif (r v6 0).b == true then rt [aB false] else rt [aB false] else bif Nat.beq v1.1 1 then rt [aB (r v1.2 0).b] else none := by kernel_rfl
theorem q_L23_DiskPlays_c1 (n : Nat) (x0 x1 x2 x3 x4 x5 x6 x7 : T) : den Tryd.prog G0 ents (Nat.succ n) i_L23_DiskPlays (some p_L23_DiskPlays_c1) [A.t x0, A.t x1, A.t x2, A.t x3, A.t x4, A.t x5, A.t x6, A.t x7] =
  bif lt x1.n x0.l then bif ib x1.n x0.l then cl n i_L23_short [A.t (x0.a x1.n)] fun v0 => bif !(r v0 0).b then D n i_L23_DiskPlays (some p_L23_DiskPlays_c1) [aL x0.k,aI (w6 (x1.n + 1)),aB x2.b,aI x3.n,aI x4.n,aI x5.n,A.t x6,aL x7.k] else bif ib x1.n x0.l then cl n i_L23_step [A.t x6,A.t (x0.a x1.n),aB x2.b,aI x3.n,aI x4.n,aI x5.n,aL x7.k] fun v1 => bif (!(r v1 1).b) == false then cl n i_L23_Like [A.t (r v1 0),aB (r v1 2).b,aI (r v1 3).n,aI (r v1 4).n,aI (r v1 5).n,aL (r v1 6).k] fun v2 => bif !(r v2 0).b then rt [aB false] else D n i_L23_DiskPlays (some p_L23_DiskPlays_c1) [aL x0.k,aI (w6 (x1.n + 1)),aB (r v2 1).b,aI (r v2 2).n,aI (r v2 3).n,aI (r v2 4).n,A.t (r v1 0),aL (r v2 5).k] else rt [aB false] else none else none else some (2,[]) := by kernel_rfl
theorem q_disk_New (n : Nat) : den Tryd.prog G0 ents (Nat.succ n) i_disk_New none [] =
  rt [aB false,aI 0,aI 0,aI 0,aL []] := by kernel_rfl
theorem q_disk_Disk_Append (n : Nat) (x0 x1 x2 x3 x4 x5 x6 : T) : den Tryd.prog G0 ents (Nat.succ n) i_disk_Disk_Append none [A.t x0, A.t x1, A.t x2, A.t x3, A.t x4, A.t x5, A.t x6] =
  cl n i_disk_Disk_Down [aB x2.b,aI x3.n,aI x4.n,aI x5.n,aL x6.k] fun v0 => bif (r v0 0).b then rt [aI 8,aB (r v0 1).b,aI (r v0 2).n,aI (r v0 3).n,aI (r v0 4).n,aL (r v0 5).k] else cl n i_name_Right [aS x0.s] fun v1 => bif !(r v1 0).b then rt [aI 1,aB (r v0 1).b,aI (r v0 2).n,aI (r v0 3).n,aI (r v0 4).n,aL (r v0 5).k] else bif gt (w6 (((mget keyS (T.node [T.str ByteArray.empty,T.int 0]) (r v0 5).k (T.str x0.s)).g 0).z + x1.z)) 4194304 then rt [aI 4,aB (r v0 1).b,aI (r v0 2).n,aI (r v0 3).n,aI (r v0 4).n,aL (r v0 5).k] else cl n i_disk_Disk_cut [aB (r v0 1).b,aI (r v0 2).n,aI (r v0 3).n,aI (r v0 4).n,aL (r v0 5).k] fun v2 => bif (r v2 0).b then bif Bool.and (Bool.and (Bool.and (le 0 (maxI 0 (minI (r v2 3).n x1.z))) (le (maxI 0 (minI (r v2 3).n x1.z)) x1.z)) true) (le 0 (maxI 0 (minI (r v2 3).n x1.z))) then bif decide ((ByteArray.size ((mget keyS (T.node [T.str ByteArray.empty,T.int 0]) (r v0 5).k (T.str x0.s)).g 0).s + ByteArray.size (ByteArray.extract x1.s 0 (Int.toNat (maxI 0 (minI (r v2 3).n x1.z))))) < 9223372036854775808) then rt [aI 8,aB (r v2 1).b,aI (r v2 2).n,aI (r v2 3).n,aI (r v2 4).n,aL (mput keyS (r v2 5).k (T.str x0.s) (T.node [T.str (((mget keyS (T.node [T.str ByteArray.empty,T.int 0]) (r v0 5).k (T.str x0.s)).g 0).s ++ ByteArray.extract x1.s 0 (Int.toNat (maxI 0 (minI (r v2 3).n x1.z)))),T.int ((mget keyS (T.node [T.str ByteArray.empty,T.int 0]) (r v0 5).k (T.str x0.s)).g 1).n]))] else none else none else bif decide ((ByteArray.size ((mget keyS (T.node [T.str ByteArray.empty,T.int 0]) (r v0 5).k (T.str x0.s)).g 0).s + ByteArray.size x1.s) < 9223372036854775808) then rt [aI 0,aB (r v2 1).b,aI (r v2 2).n,aI (r v2 3).n,aI (r v2 4).n,aL (mput keyS (r v2 5).k (T.str x0.s) (T.node [T.str (((mget keyS (T.node [T.str ByteArray.empty,T.int 0]) (r v0 5).k (T.str x0.s)).g 0).s ++ x1.s),T.int ((mget keyS (T.node [T.str ByteArray.empty,T.int 0]) (r v0 5).k (T.str x0.s)).g 1).n]))] else none := by kernel_rfl
theorem q_disk_Disk_Down (n : Nat) (x0 x1 x2 x3 x4 : T) : den Tryd.prog G0 ents (Nat.succ n) i_disk_Disk_Down none [A.t x0, A.t x1, A.t x2, A.t x3, A.t x4] =
  rt [aB x0.b,aB x0.b,aI x1.n,aI x2.n,aI x3.n,aL x4.k] := by kernel_rfl
theorem q_disk_Disk_cut (n : Nat) (x0 x1 x2 x3 x4 : T) : den Tryd.prog G0 ents (Nat.succ n) i_disk_Disk_cut none [A.t x0, A.t x1, A.t x2, A.t x3, A.t x4] =
  bif x1.n == 0 then rt [aB false,aB x0.b,aI x1.n,aI x2.n,aI (w6 (x3.n + 1)),aL x4.k] else rt [aB (w6 (x1.n - 1) == 0),aB (w6 (x1.n - 1) == 0),aI (w6 (x1.n - 1)),aI x2.n,aI (w6 (x3.n + 1)),aL x4.k] := by kernel_rfl
theorem q_disk_Disk_Sync (n : Nat) (x0 x1 x2 x3 x4 x5 : T) : den Tryd.prog G0 ents (Nat.succ n) i_disk_Disk_Sync none [A.t x0, A.t x1, A.t x2, A.t x3, A.t x4, A.t x5] =
  cl n i_disk_Disk_Read [aS x0.s,aB x1.b,aI x2.n,aI x3.n,aI x4.n,aL x5.k] fun v0 => bif (r v0 1).n != 0 then rt [aI (r v0 1).n,aB (r v0 2).b,aI (r v0 3).n,aI (r v0 4).n,aI (r v0 5).n,aL (r v0 6).k] else cl n i_disk_Disk_cut [aB (r v0 2).b,aI (r v0 3).n,aI (r v0 4).n,aI (r v0 5).n,aL (r v0 6).k] fun v1 => bif (r v1 0).b then rt [aI 8,aB (r v1 1).b,aI (r v1 2).n,aI (r v1 3).n,aI (r v1 4).n,aL (r v1 5).k] else rt [aI 0,aB (r v1 1).b,aI (r v1 2).n,aI (r v1 3).n,aI (r v1 4).n,aL (mput keyS (r v1 5).k (T.str x0.s) (T.node [T.str ((mget keyS (T.node [T.str ByteArray.empty,T.int 0]) (r v1 5).k (T.str x0.s)).g 0).s,T.int ((mget keyS (T.node [T.str ByteArray.empty,T.int 0]) (r v1 5).k (T.str x0.s)).g 0).z]))] := by kernel_rfl
theorem q_disk_Disk_Read (n : Nat) (x0 x1 x2 x3 x4 x5 : T) : den Tryd.prog G0 ents (Nat.succ n) i_disk_Disk_Read none [A.t x0, A.t x1, A.t x2, A.t x3, A.t x4, A.t x5] =
  cl n i_disk_Disk_Down [aB x1.b,aI x2.n,aI x3.n,aI x4.n,aL x5.k] fun v0 => bif (r v0 0).b then rt [aS (bs []),aI 8,aB (r v0 1).b,aI (r v0 2).n,aI (r v0 3).n,aI (r v0 4).n,aL (r v0 5).k] else bif !(mhas keyS (r v0 5).k (T.str x0.s)) then rt [aS (bs []),aI 5,aB (r v0 1).b,aI (r v0 2).n,aI (r v0 3).n,aI (r v0 4).n,aL (r v0 5).k] else rt [aS ((mget keyS (T.node [T.str ByteArray.empty,T.int 0]) (r v0 5).k (T.str x0.s)).g 0).s,aI 0,aB (r v0 1).b,aI (r v0 2).n,aI (r v0 3).n,aI (r v0 4).n,aL (r v0 5).k] := by kernel_rfl
theorem q_disk_Disk_Fuse (n : Nat) (x0 x1 x2 x3 x4 x5 x6 : T) : den Tryd.prog G0 ents (Nat.succ n) i_disk_Disk_Fuse none [A.t x0, A.t x1, A.t x2, A.t x3, A.t x4, A.t x5, A.t x6] =
  rt [aB x2.b,aI (maxI x0.n 1),aI x1.n,aI x5.n,aL x6.k] := by kernel_rfl
theorem q_disk_Disk_Wake (n : Nat) (x0 x1 x2 x3 x4 x5 : T) : den Tryd.prog G0 ents (Nat.succ n) i_disk_Disk_Wake none [A.t x0, A.t x1, A.t x2, A.t x3, A.t x4, A.t x5] =
  cl n i_disk_Disk_Names [aB x1.b,aI x2.n,aI x3.n,aI x4.n,aL x5.k] fun v0 => lp n i_disk_Disk_Wake p_disk_Disk_Wake_c1 [aL x0.k,aL (r v0 0).k,aI (r v0 0).l,aI 0,aB (r v0 1).b,aI (r v0 2).n,aI (r v0 3).n,aI (r v0 4).n,aL (r v0 5).k] fun v1 => bif Nat.beq v1.1 2 then rt [aB false,aI 0,aI (r v1.2 2).n,aI (r v1.2 3).n,aL (r v1.2 4).k] else none := by kernel_rfl
theorem q_disk_Disk_Wake_c1 (n : Nat) (x0 x1 x2 x3 x4 x5 x6 x7 x8 : T) : den Tryd.prog G0 ents (Nat.succ n) i_disk_Disk_Wake (some p_disk_Disk_Wake_c1) [A.t x0, A.t x1, A.t x2, A.t x3, A.t x4, A.t x5, A.t x6, A.t x7, A.t x8] =
  bif lt x3.n x2.n then bif ib x3.n x1.l then bif lt x3.n x0.l then bif ib x3.n x0.l then bif Bool.and (Bool.and (Bool.and (le 0 (w6 (((mget keyS (T.node [T.str ByteArray.empty,T.int 0]) x8.k (T.str (x1.a x3.n).s)).g 1).n + maxI 0 (minI (x0.a x3.n).n (w6 (((mget keyS (T.node [T.str ByteArray.empty,T.int 0]) x8.k (T.str (x1.a x3.n).s)).g 0).z - ((mget keyS (T.node [T.str ByteArray.empty,T.int 0]) x8.k (T.str (x1.a x3.n).s)).g 1).n)))))) (le (w6 (((mget keyS (T.node [T.str ByteArray.empty,T.int 0]) x8.k (T.str (x1.a x3.n).s)).g 1).n + maxI 0 (minI (x0.a x3.n).n (w6 (((mget keyS (T.node [T.str ByteArray.empty,T.int 0]) x8.k (T.str (x1.a x3.n).s)).g 0).z - ((mget keyS (T.node [T.str ByteArray.empty,T.int 0]) x8.k (T.str (x1.a x3.n).s)).g 1).n))))) ((mget keyS (T.node [T.str ByteArray.empty,T.int 0]) x8.k (T.str (x1.a x3.n).s)).g 0).z)) true) (le 0 (w6 (((mget keyS (T.node [T.str ByteArray.empty,T.int 0]) x8.k (T.str (x1.a x3.n).s)).g 1).n + maxI 0 (minI (x0.a x3.n).n (w6 (((mget keyS (T.node [T.str ByteArray.empty,T.int 0]) x8.k (T.str (x1.a x3.n).s)).g 0).z - ((mget keyS (T.node [T.str ByteArray.empty,T.int 0]) x8.k (T.str (x1.a x3.n).s)).g 1).n)))))) then D n i_disk_Disk_Wake (some p_disk_Disk_Wake_c1) [aL x0.k,aL x1.k,aI x2.n,aI (w6 (x3.n + 1)),aB x4.b,aI x5.n,aI x6.n,aI x7.n,aL (mput keyS x8.k (T.str (x1.a x3.n).s) (T.node [T.str (ByteArray.extract ((mget keyS (T.node [T.str ByteArray.empty,T.int 0]) x8.k (T.str (x1.a x3.n).s)).g 0).s 0 (Int.toNat (w6 (((mget keyS (T.node [T.str ByteArray.empty,T.int 0]) x8.k (T.str (x1.a x3.n).s)).g 1).n + maxI 0 (minI (x0.a x3.n).n (w6 (((mget keyS (T.node [T.str ByteArray.empty,T.int 0]) x8.k (T.str (x1.a x3.n).s)).g 0).z - ((mget keyS (T.node [T.str ByteArray.empty,T.int 0]) x8.k (T.str (x1.a x3.n).s)).g 1).n))))))),T.int ((ByteArray.size (ByteArray.extract ((mget keyS (T.node [T.str ByteArray.empty,T.int 0]) x8.k (T.str (x1.a x3.n).s)).g 0).s 0 (Int.toNat (w6 (((mget keyS (T.node [T.str ByteArray.empty,T.int 0]) x8.k (T.str (x1.a x3.n).s)).g 1).n + maxI 0 (minI (x0.a x3.n).n (w6 (((mget keyS (T.node [T.str ByteArray.empty,T.int 0]) x8.k (T.str (x1.a x3.n).s)).g 0).z - ((mget keyS (T.node [T.str ByteArray.empty,T.int 0]) x8.k (T.str (x1.a x3.n).s)).g 1).n))))))) : Nat) : Int)]))] else none else none else bif Bool.and (Bool.and (Bool.and (le 0 (w6 (((mget keyS (T.node [T.str ByteArray.empty,T.int 0]) x8.k (T.str (x1.a x3.n).s)).g 1).n + 0))) (le (w6 (((mget keyS (T.node [T.str ByteArray.empty,T.int 0]) x8.k (T.str (x1.a x3.n).s)).g 1).n + 0)) ((mget keyS (T.node [T.str ByteArray.empty,T.int 0]) x8.k (T.str (x1.a x3.n).s)).g 0).z)) true) (le 0 (w6 (((mget keyS (T.node [T.str ByteArray.empty,T.int 0]) x8.k (T.str (x1.a x3.n).s)).g 1).n + 0))) then D n i_disk_Disk_Wake (some p_disk_Disk_Wake_c1) [aL x0.k,aL x1.k,aI x2.n,aI (w6 (x3.n + 1)),aB x4.b,aI x5.n,aI x6.n,aI x7.n,aL (mput keyS x8.k (T.str (x1.a x3.n).s) (T.node [T.str (ByteArray.extract ((mget keyS (T.node [T.str ByteArray.empty,T.int 0]) x8.k (T.str (x1.a x3.n).s)).g 0).s 0 (Int.toNat (w6 (((mget keyS (T.node [T.str ByteArray.empty,T.int 0]) x8.k (T.str (x1.a x3.n).s)).g 1).n + 0)))),T.int ((ByteArray.size (ByteArray.extract ((mget keyS (T.node [T.str ByteArray.empty,T.int 0]) x8.k (T.str (x1.a x3.n).s)).g 0).s 0 (Int.toNat (w6 (((mget keyS (T.node [T.str ByteArray.empty,T.int 0]) x8.k (T.str (x1.a x3.n).s)).g 1).n + 0)))) : Nat) : Int)]))] else none else none else some (2,[aB x4.b,aI x5.n,aI x6.n,aI x7.n,aL x8.k]) := by kernel_rfl
theorem q_disk_Disk_Names (n : Nat) (x0 x1 x2 x3 x4 : T) : den Tryd.prog G0 ents (Nat.succ n) i_disk_Disk_Names none [A.t x0, A.t x1, A.t x2, A.t x3, A.t x4] =
  cl n i_maps_Keys_map_string_disk_file_string_disk_file [aL x4.k] fun v0 => cl n i_slices_Sorted [aL (r v0 0).k] fun v1 => rt [aL (r v1 0).k,aB x0.b,aI x1.n,aI x2.n,aI x3.n,aL (r v1 1).k] := by kernel_rfl
theorem q_maps_Keys_map_string_disk_file_string_disk_file (n : Nat) (x0 : T) : den Tryd.prog G0 ents (Nat.succ n) i_maps_Keys_map_string_disk_file_string_disk_file none [A.t x0] =
  rt [aL x0.k] := by kernel_rfl
theorem q_disk_Disk_Sure (n : Nat) (x0 x1 x2 x3 x4 x5 : T) : den Tryd.prog G0 ents (Nat.succ n) i_disk_Disk_Sure none [A.t x0, A.t x1, A.t x2, A.t x3, A.t x4, A.t x5] =
  rt [aI ((mget keyS (T.node [T.str ByteArray.empty,T.int 0]) x5.k (T.str x0.s)).g 1).n,aB x1.b,aI x2.n,aI x3.n,aI x4.n,aL x5.k] := by kernel_rfl
theorem q_L23_short (n : Nat) (x0 : T) : den Tryd.prog G0 ents (Nat.succ n) i_L23_short none [A.t x0] =
  bif le (x0.g 1).z 100 == true then bif le (x0.g 2).z 100 == true then bif le (x0.g 3).z 300 == true then rt [aB (le (x0.g 4).l 20)] else rt [aB false] else rt [aB false] else rt [aB false] := by kernel_rfl
theorem q_L23_step (n : Nat) (x0 x1 x2 x3 x4 x5 x6 : T) : den Tryd.prog G0 ents (Nat.succ n) i_L23_step none [A.t x0, A.t x1, A.t x2, A.t x3, A.t x4, A.t x5, A.t x6] =
  bif Int.tmod (x1.g 0).n 8 == 0 then cl n i_disk_Disk_Append [aS (x1.g 1).s,aS (x1.g 3).s,aB x2.b,aI x3.n,aI x4.n,aI x5.n,aL x6.k] fun v0 => cl n i_R23_Append [A.t x0,aS (x1.g 1).s,aS (x1.g 3).s] fun v1 => rt [A.t (r v1 0),aB ((r v0 0).n == (r v1 1).n),aB (r v0 1).b,aI (r v0 2).n,aI (r v0 3).n,aI (r v0 4).n,aL (r v0 5).k] else bif Int.tmod (x1.g 0).n 8 == 1 then cl n i_disk_Disk_Sync [aS (x1.g 1).s,aB x2.b,aI x3.n,aI x4.n,aI x5.n,aL x6.k] fun v0 => cl n i_R23_Sync [A.t x0,aS (x1.g 1).s] fun v1 => rt [A.t (r v1 0),aB ((r v0 0).n == (r v1 1).n),aB (r v0 1).b,aI (r v0 2).n,aI (r v0 3).n,aI (r v0 4).n,aL (r v0 5).k] else bif Int.tmod (x1.g 0).n 8 == 2 then cl n i_disk_Disk_Rename [aS (x1.g 1).s,aS (x1.g 2).s,aB x2.b,aI x3.n,aI x4.n,aI x5.n,aL x6.k] fun v0 => cl n i_R23_Rename [A.t x0,aS (x1.g 1).s,aS (x1.g 2).s] fun v1 => rt [A.t (r v1 0),aB ((r v0 0).n == (r v1 1).n),aB (r v0 1).b,aI (r v0 2).n,aI (r v0 3).n,aI (r v0 4).n,aL (r v0 5).k] else bif Int.tmod (x1.g 0).n 8 == 3 then cl n i_disk_Disk_Remove [aS (x1.g 1).s,aB x2.b,aI x3.n,aI x4.n,aI x5.n,aL x6.k] fun v0 => cl n i_R23_Remove [A.t x0,aS (x1.g 1).s] fun v1 => rt [A.t (r v1 0),aB ((r v0 0).n == (r v1 1).n),aB (r v0 1).b,aI (r v0 2).n,aI (r v0 3).n,aI (r v0 4).n,aL (r v0 5).k] else bif Int.tmod (x1.g 0).n 8 == 4 then cl n i_L23_number [aL (x1.g 4).k,aI 0] fun v0 => cl n i_L23_number [aL (x1.g 4).k,aI 1] fun v1 => cl n i_disk_Disk_Fuse [aI (r v0 0).n,aI (r v1 0).n,aB x2.b,aI x3.n,aI x4.n,aI x5.n,aL x6.k] fun v2 => cl n i_L23_number [aL (x1.g 4).k,aI 0] fun v3 => cl n i_L23_number [aL (x1.g 4).k,aI 1] fun v4 => cl n i_R23_Fuse [A.t x0,aI (r v3 0).n,aI (r v4 0).n] fun v5 => rt [A.t (r v5 0),aB true,aB (r v2 0).b,aI (r v2 1).n,aI (r v2 2).n,aI (r v2 3).n,aL (r v2 4).k] else bif Int.tmod (x1.g 0).n 8 == 5 then cl n i_disk_Disk_Wake [aL (x1.g 4).k,aB x2.b,aI x3.n,aI x4.n,aI x5.n,aL x6.k] fun v0 => cl n i_R23_Wake [A.t x0,aL (x1.g 4).k] fun v1 => rt [A.t (r v1 0),aB true,aB (r v0 0).b,aI (r v0 1).n,aI (r v0 2).n,aI (r v0 3).n,aL (r v0 4).k] else bif Int.tmod (x1.g 0).n 8 == 6 then cl n i_disk_Disk_Load [aS (x1.g 1).s,aS (x1.g 3).s,aB x2.b,aI x3.n,aI x4.n,aI x5.n,aL x6.k] fun v0 => cl n i_R23_Load [A.t x0,aS (x1.g 1).s,aS (x1.g 3).s] fun v1 => rt [A.t (r v1 0),aB ((r v0 0).n == (r v1 1).n),aB (r v0 1).b,aI (r v0 2).n,aI (r v0 3).n,aI (r v0 4).n,aL (r v0 5).k] else cl n i_disk_Disk_Read [aS (x1.g 1).s,aB x2.b,aI x3.n,aI x4.n,aI x5.n,aL x6.k] fun v0 => cl n i_R23_Read [A.t x0,aS (x1.g 1).s] fun v1 => bif seqB (r v0 0).s (r v1 0).s == true then rt [A.t x0,aB ((r v0 1).n == (r v1 1).n),aB (r v0 2).b,aI (r v0 3).n,aI (r v0 4).n,aI (r v0 5).n,aL (r v0 6).k] else rt [A.t x0,aB false,aB (r v0 2).b,aI (r v0 3).n,aI (r v0 4).n,aI (r v0 5).n,aL (r v0 6).k] := by kernel_rfl
theorem q_R23_Append (n : Nat) (x0 x1 x2 : T) : den Tryd.prog G0 ents (Nat.succ n) i_R23_Append none [A.t x0, A.t x1, A.t x2] =
  bif (x0.g 1).b then rt [A.t x0,aI 8] else cl n i_R02_Right [aS x1.s] fun v0 => bif !(r v0 0).b then rt [A.t x0,aI 1] else cl n i_R23_Find [A.t x0,aS x1.s] fun v1 => bif ge (r v1 0).n 0 then bif ib (r v1 0).n (x0.g 0).l then bif gt (w6 ((((x0.g 0).a (r v1 0).n).g 1).z + x2.z)) 4194304 then rt [A.t x0,aI 4] else cl n i_R23_cut [A.t x0] fun v2 => bif (r v2 1).b then bif lt ((r v2 0).g 3).n 0 then bif ge ((r v2 0).g 3).n 0 == true then bif lt ((r v2 0).g 3).n 0 then bif Bool.and (Bool.and (Bool.and (le 0 ((r v2 0).g 3).n) (le ((r v2 0).g 3).n 0)) true) (le 0 ((r v2 0).g 3).n) then bif decide ((ByteArray.size (((x0.g 0).a (r v1 0).n).g 1).s + ByteArray.size (ByteArray.extract (bs []) 0 (Int.toNat ((r v2 0).g 3).n))) < 9223372036854775808) then cl n i_R23_put [aL ((r v2 0).g 0).k,aL [T.str (((x0.g 0).a (r v1 0).n).g 0).s,T.str ((((x0.g 0).a (r v1 0).n).g 1).s ++ ByteArray.extract (bs []) 0 (Int.toNat ((r v2 0).g 3).n)),T.int (((x0.g 0).a (r v1 0).n).g 2).n]] fun v3 => rt [aL [T.node (r v3 0).k,T.bool ((r v2 0).g 1).b,T.int ((r v2 0).g 2).n,T.int ((r v2 0).g 3).n,T.int ((r v2 0).g 4).n],aI 8] else none else none else bif decide (ByteArray.size (((x0.g 0).a (r v1 0).n).g 1).s < 9223372036854775808) then cl n i_R23_put [aL ((r v2 0).g 0).k,aL [T.str (((x0.g 0).a (r v1 0).n).g 0).s,T.str ((((x0.g 0).a (r v1 0).n).g 1).s ++ bs []),T.int (((x0.g 0).a (r v1 0).n).g 2).n]] fun v3 => rt [aL [T.node (r v3 0).k,T.bool ((r v2 0).g 1).b,T.int ((r v2 0).g 2).n,T.int ((r v2 0).g 3).n,T.int ((r v2 0).g 4).n],aI 8] else none else bif decide (ByteArray.size (((x0.g 0).a (r v1 0).n).g 1).s < 9223372036854775808) then cl n i_R23_put [aL ((r v2 0).g 0).k,aL [T.str (((x0.g 0).a (r v1 0).n).g 0).s,T.str ((((x0.g 0).a (r v1 0).n).g 1).s ++ bs []),T.int (((x0.g 0).a (r v1 0).n).g 2).n]] fun v3 => rt [aL [T.node (r v3 0).k,T.bool ((r v2 0).g 1).b,T.int ((r v2 0).g 2).n,T.int ((r v2 0).g 3).n,T.int ((r v2 0).g 4).n],aI 8] else none else bif ge ((r v2 0).g 3).n 0 == true then bif lt ((r v2 0).g 3).n x2.z then bif Bool.and (Bool.and (Bool.and (le 0 ((r v2 0).g 3).n) (le ((r v2 0).g 3).n x2.z)) true) (le 0 ((r v2 0).g 3).n) then bif decide ((ByteArray.size (((x0.g 0).a (r v1 0).n).g 1).s + ByteArray.size (ByteArray.extract x2.s 0 (Int.toNat ((r v2 0).g 3).n))) < 9223372036854775808) then cl n i_R23_put [aL ((r v2 0).g 0).k,aL [T.str (((x0.g 0).a (r v1 0).n).g 0).s,T.str ((((x0.g 0).a (r v1 0).n).g 1).s ++ ByteArray.extract x2.s 0 (Int.toNat ((r v2 0).g 3).n)),T.int (((x0.g 0).a (r v1 0).n).g 2).n]] fun v3 => rt [aL [T.node (r v3 0).k,T.bool ((r v2 0).g 1).b,T.int ((r v2 0).g 2).n,T.int ((r v2 0).g 3).n,T.int ((r v2 0).g 4).n],aI 8] else none else none else bif decide ((ByteArray.size (((x0.g 0).a (r v1 0).n).g 1).s + ByteArray.size x2.s) < 9223372036854775808) then cl n i_R23_put [aL ((r v2 0).g 0).k,aL [T.str (((x0.g 0).a (r v1 0).n).g 0).s,T.str ((((x0.g 0).a (r v1 0).n).g 1).s ++ x2.s),T.int (((x0.g 0).a (r v1 0).n).g 2).n]] fun v3 => rt [aL [T.node (r v3 0).k,T.bool ((r v2 0).g 1).b,T.int ((r v2 0).g 2).n,T.int ((r v2 0).g 3).n,T.int ((r v2 0).g 4).n],aI 8] else none else bif decide ((ByteArray.size (((x0.g 0).a (r v1 0).n).g 1).s + ByteArray.size x2.s) < 9223372036854775808) then cl n i_R23_put [aL ((r v2 0).g 0).k,aL [T.str (((x0.g 0).a (r v1 0).n).g 0).s,T.str ((((x0.g 0).a (r v1 0).n).g 1).s ++ x2.s),T.int (((x0.g 0).a (r v1 0).n).g 2).n]] fun v3 => rt [aL [T.node (r v3 0).k,T.bool ((r v2 0).g 1).b,T.int ((r v2 0).g 2).n,T.int ((r v2 0).g 3).n,T.int ((r v2 0).g 4).n],aI 8] else none else bif decide ((ByteArray.size (((x0.g 0).a (r v1 0).n).g 1).s + ByteArray.size x2.s) < 9223372036854775808) then cl n i_R23_put [aL ((r v2 0).g 0).k,aL [T.str (((x0.g 0).a (r v1 0).n).g 0).s,T.str ((((x0.g 0).a (r v1 0).n).g 1).s ++ x2.s),T.int (((x0.g 0).a (r v1 0).n).g 2).n]] fun v3 => rt [aL [T.node (r v3 0).k,T.bool ((r v2 0).g 1).b,T.int ((r v2 0).g 2).n,T.int ((r v2 0).g 3).n,T.int ((r v2 0).g 4).n],aI 0] else none else none else bif gt (w6 (0 + x2.z)) 4194304 then rt [A.t x0,aI 4] else cl n i_R23_cut [A.t x0] fun v2 => bif (r v2 1).b then bif lt ((r v2 0).g 3).n 0 then bif ge ((r v2 0).g 3).n 0 == true then bif lt ((r v2 0).g 3).n 0 then bif Bool.and (Bool.and (Bool.and (le 0 ((r v2 0).g 3).n) (le ((r v2 0).g 3).n 0)) true) (le 0 ((r v2 0).g 3).n) then bif decide ((0 + ByteArray.size (ByteArray.extract (bs []) 0 (Int.toNat ((r v2 0).g 3).n))) < 9223372036854775808) then cl n i_R23_put [aL ((r v2 0).g 0).k,aL [T.str x1.s,T.str (ByteArray.empty ++ ByteArray.extract (bs []) 0 (Int.toNat ((r v2 0).g 3).n)),T.int 0]] fun v3 => rt [aL [T.node (r v3 0).k,T.bool ((r v2 0).g 1).b,T.int ((r v2 0).g 2).n,T.int ((r v2 0).g 3).n,T.int ((r v2 0).g 4).n],aI 8] else none else none else cl n i_R23_put [aL ((r v2 0).g 0).k,aL [T.str x1.s,T.str (bs (Array.toList (ByteArray.data ByteArray.empty) ++ Array.toList (ByteArray.data (bs [])))),T.int 0]] fun v3 => rt [aL [T.node (r v3 0).k,T.bool ((r v2 0).g 1).b,T.int ((r v2 0).g 2).n,T.int ((r v2 0).g 3).n,T.int ((r v2 0).g 4).n],aI 8] else cl n i_R23_put [aL ((r v2 0).g 0).k,aL [T.str x1.s,T.str (bs (Array.toList (ByteArray.data ByteArray.empty) ++ Array.toList (ByteArray.data (bs [])))),T.int 0]] fun v3 => rt [aL [T.node (r v3 0).k,T.bool ((r v2 0).g 1).b,T.int ((r v2 0).g 2).n,T.int ((r v2 0).g 3).n,T.int ((r v2 0).g 4).n],aI 8] else bif ge ((r v2 0).g 3).n 0 == true then bif lt ((r v2 0).g 3).n x2.z then bif Bool.and (Bool.and (Bool.and (le 0 ((r v2 0).g 3).n) (le ((r v2 0).g 3).n x2.z)) true) (le 0 ((r v2 0).g 3).n) then bif decide ((0 + ByteArray.size (ByteArray.extract x2.s 0 (Int.toNat ((r v2 0).g 3).n))) < 9223372036854775808) then cl n i_R23_put [aL ((r v2 0).g 0).k,aL [T.str x1.s,T.str (ByteArray.empty ++ ByteArray.extract x2.s 0 (Int.toNat ((r v2 0).g 3).n)),T.int 0]] fun v3 => rt [aL [T.node (r v3 0).k,T.bool ((r v2 0).g 1).b,T.int ((r v2 0).g 2).n,T.int ((r v2 0).g 3).n,T.int ((r v2 0).g 4).n],aI 8] else none else none else bif decide ((0 + ByteArray.size x2.s) < 9223372036854775808) then cl n i_R23_put [aL ((r v2 0).g 0).k,aL [T.str x1.s,T.str (ByteArray.empty ++ x2.s),T.int 0]] fun v3 => rt [aL [T.node (r v3 0).k,T.bool ((r v2 0).g 1).b,T.int ((r v2 0).g 2).n,T.int ((r v2 0).g 3).n,T.int ((r v2 0).g 4).n],aI 8] else none else bif decide ((0 + ByteArray.size x2.s) < 9223372036854775808) then cl n i_R23_put [aL ((r v2 0).g 0).k,aL [T.str x1.s,T.str (ByteArray.empty ++ x2.s),T.int 0]] fun v3 => rt [aL [T.node (r v3 0).k,T.bool ((r v2 0).g 1).b,T.int ((r v2 0).g 2).n,T.int ((r v2 0).g 3).n,T.int ((r v2 0).g 4).n],aI 8] else none else bif decide ((0 + ByteArray.size x2.s) < 9223372036854775808) then cl n i_R23_put [aL ((r v2 0).g 0).k,aL [T.str x1.s,T.str (ByteArray.empty ++ x2.s),T.int 0]] fun v3 => rt [aL [T.node (r v3 0).k,T.bool ((r v2 0).g 1).b,T.int ((r v2 0).g 2).n,T.int ((r v2 0).g 3).n,T.int ((r v2 0).g 4).n],aI 0] else none := by kernel_rfl
theorem q_R02_Right (n : Nat) (x0 : T) : den Tryd.prog G0 ents (Nat.succ n) i_R02_Right none [A.t x0] =
  bif lt x0.z 1 == false then bif gt x0.z 16 == false then cl n i_R02_Word [aS x0.s] fun v0 => bif gt (r v0 0).n 0 == false then bif lt 0 x0.z then bif lt ((UInt8.toNat (Array.getD (ByteArray.data x0.s) 0 0) : Nat) : Int) 97 == false then bif lt 0 x0.z then bif gt ((UInt8.toNat (Array.getD (ByteArray.data x0.s) 0 0) : Nat) : Int) 122 then rt [aB false] else lp n i_R02_Right p_R02_Right_c1 [aS x0.s,aI 1] fun v1 => bif Nat.beq v1.1 2 then rt [aB true] else bif Nat.beq v1.1 1 then rt [aB (r v1.2 0).b] else none else none else rt [aB false] else none else rt [aB false] else rt [aB false] else rt [aB false] := by kernel_rfl
theorem q_R02_Right_c1 (n : Nat) (x0 x1 : T) : den Tryd.prog G0 ents (Nat.succ n) i_R02_Right (some p_R02_Right_c1) [A.t x0, A.t x1] =
  bif lt x1.n x0.z then bif ib x1.n x0.z then bif ge ((UInt8.toNat (Array.getD (ByteArray.data x0.s) (Int.toNat x1.n) 0) : Nat) : Int) 97 == true then bif ib x1.n x0.z then bif ib x1.n x0.z then bif ge ((UInt8.toNat (Array.getD (ByteArray.data x0.s) (Int.toNat x1.n) 0) : Nat) : Int) 48 == true then bif ib x1.n x0.z then bif (!(le ((UInt8.toNat (Array.getD (ByteArray.data x0.s) (Int.toNat x1.n) 0) : Nat) : Int) 122)) == true then bif (!(le ((UInt8.toNat (Array.getD (ByteArray.data x0.s) (Int.toNat x1.n) 0) : Nat) : Int) 57)) == true then bif ib x1.n x0.z then bif ((UInt8.toNat (Array.getD (ByteArray.data x0.s) (Int.toNat x1.n) 0) : Nat) : Int) != 95 then rt [aB false] else D n i_R02_Right (some p_R02_Right_c1) [aS x0.s,aI (w6 (x1.n + 1))] else none else D n i_R02_Right (some p_R02_Right_c1) [aS x0.s,aI (w6 (x1.n + 1))] else D n i_R02_Right (some p_R02_Right_c1) [aS x0.s,aI (w6 (x1.n + 1))] else none else bif (!(le ((UInt8.toNat (Array.getD (ByteArray.data x0.s) (Int.toNat x1.n) 0) : Nat) : Int) 122)) == true then bif ib x1.n x0.z then bif ((UInt8.toNat (Array.getD (ByteArray.data x0.s) (Int.toNat x1.n) 0) : Nat) : Int) != 95 then rt [aB false] else D n i_R02_Right (some p_R02_Right_c1) [aS x0.s,aI (w6 (x1.n + 1))] else none else D n i_R02_Right (some p_R02_Right_c1) [aS x0.s,aI (w6 (x1.n + 1))] else none else none else bif ib x1.n x0.z then bif ge ((UInt8.toNat (Array.getD (ByteArray.data x0.s) (Int.toNat x1.n) 0) : Nat) : Int) 48 == true then bif ib x1.n x0.z then bif (!(le ((UInt8.toNat (Array.getD (ByteArray.data x0.s) (Int.toNat x1.n) 0) : Nat) : Int) 57)) == true then bif ib x1.n x0.z then bif ((UInt8.toNat (Array.getD (ByteArray.data x0.s) (Int.toNat x1.n) 0) : Nat) : Int) != 95 then rt [aB false] else D n i_R02_Right (some p_R02_Right_c1) [aS x0.s,aI (w6 (x1.n + 1))] else none else D n i_R02_Right (some p_R02_Right_c1) [aS x0.s,aI (w6 (x1.n + 1))] else none else bif ib x1.n x0.z then bif ((UInt8.toNat (Array.getD (ByteArray.data x0.s) (Int.toNat x1.n) 0) : Nat) : Int) != 95 then rt [aB false] else D n i_R02_Right (some p_R02_Right_c1) [aS x0.s,aI (w6 (x1.n + 1))] else none else none else none else some (2,[]) := by kernel_rfl
end Go.Proofs.YtigbgcopidghfaaDoorDP
set_option linter.unusedVariables false
set_option maxRecDepth 100000
namespace Go.Proofs.YtigbgcopidghfaaDoorDP
open Go Go.Proofs.YtigbgcopidghfaaDoorVM Go.Proofs
theorem q_R02_Word (n : Nat) (x0 : T) : den Tryd.prog G0 ents (Nat.succ n) i_R02_Word none [A.t x0] =
  bif seqB x0.s (bs [97,110,121]) then rt [aI 1] else bif seqB x0.s (bs [98,111,111,108]) then rt [aI 2] else bif seqB x0.s (bs [99,111,109,112,117,116,101,100]) then rt [aI 3] else bif seqB x0.s (bs [102,97,108,115,101]) then rt [aI 4] else bif seqB x0.s (bs [105,110,116]) then rt [aI 5] else bif seqB x0.s (bs [110,111,110,101]) then rt [aI 6] else bif seqB x0.s (bs [114,101,115,111,117,114,99,101]) then rt [aI 7] else bif seqB x0.s (bs [115,116,114,105,110,103]) then rt [aI 8] else bif seqB x0.s (bs [116,114,117,101]) then rt [aI 9] else rt [aI 0] := by kernel_rfl
theorem q_R23_Find (n : Nat) (x0 x1 : T) : den Tryd.prog G0 ents (Nat.succ n) i_R23_Find none [A.t x0, A.t x1] =
  lp n i_R23_Find p_R23_Find_c1 [aS x1.s,aI 0,A.t x0] fun v0 => bif Nat.beq v0.1 2 then rt [aI (-1)] else bif Nat.beq v0.1 1 then rt [aI (r v0.2 0).n] else none := by kernel_rfl
theorem q_R23_Find_c1 (n : Nat) (x0 x1 x2 : T) : den Tryd.prog G0 ents (Nat.succ n) i_R23_Find (some p_R23_Find_c1) [A.t x0, A.t x1, A.t x2] =
  bif lt x1.n (x2.g 0).l then bif ib x1.n (x2.g 0).l then bif seqB (((x2.g 0).a x1.n).g 0).s x0.s then rt [aI x1.n] else D n i_R23_Find (some p_R23_Find_c1) [aS x0.s,aI (w6 (x1.n + 1)),A.t x2] else none else some (2,[]) := by kernel_rfl
theorem q_R23_cut (n : Nat) (x0 : T) : den Tryd.prog G0 ents (Nat.succ n) i_R23_cut none [A.t x0] =
  bif (x0.g 2).n == 0 then rt [aL [T.node (x0.g 0).k,T.bool (x0.g 1).b,T.int (x0.g 2).n,T.int (x0.g 3).n,T.int (w6 ((x0.g 4).n + 1))],aB false] else rt [aL [T.node (x0.g 0).k,T.bool (w6 ((x0.g 2).n - 1) == 0),T.int (w6 ((x0.g 2).n - 1)),T.int (x0.g 3).n,T.int (w6 ((x0.g 4).n + 1))],aB (w6 ((x0.g 2).n - 1) == 0)] := by kernel_rfl
theorem q_R23_put (n : Nat) (x0 x1 : T) : den Tryd.prog G0 ents (Nat.succ n) i_R23_put none [A.t x0, A.t x1] =
  lp n i_R23_put p_R23_put_c1 [aL x0.k,aB false,aI 0,A.t x1,aL []] fun v0 => bif Nat.beq v0.1 2 then bif !(r v0.2 0).b then bif decide (Nat.succ (List.length (r v0.2 2).k) < 1073741824) then rt [aL ((r v0.2 2).k ++ [r v0.2 1])] else none else rt [aL (r v0.2 2).k] else none := by kernel_rfl
theorem q_R23_put_c1 (n : Nat) (x0 x1 x2 x3 x4 : T) : den Tryd.prog G0 ents (Nat.succ n) i_R23_put (some p_R23_put_c1) [A.t x0, A.t x1, A.t x2, A.t x3, A.t x4] =
  bif lt x2.n x0.l then bif (!x1.b) == true then bif ib x2.n x0.l then bif Bool.or (sltB (x3.g 0).s ((x0.a x2.n).g 0).s) (seqB (x3.g 0).s ((x0.a x2.n).g 0).s) then bif decide (Nat.succ (List.length x4.k) < 1073741824) then bif ib x2.n x0.l then bif !(seqB ((x0.a x2.n).g 0).s (x3.g 0).s) then bif ib x2.n x0.l then bif decide (Nat.succ (List.length (x4.k ++ [x3])) < 1073741824) then D n i_R23_put (some p_R23_put_c1) [aL x0.k,aB true,aI (w6 (x2.n + 1)),A.t x3,aL ((x4.k ++ [x3]) ++ [x0.a x2.n])] else none else none else D n i_R23_put (some p_R23_put_c1) [aL x0.k,aB true,aI (w6 (x2.n + 1)),A.t x3,aL (x4.k ++ [x3])] else none else none else bif ib x2.n x0.l then bif !(seqB ((x0.a x2.n).g 0).s (x3.g 0).s) then bif ib x2.n x0.l then bif decide (Nat.succ (List.length x4.k) < 1073741824) then D n i_R23_put (some p_R23_put_c1) [aL x0.k,aB x1.b,aI (w6 (x2.n + 1)),A.t x3,aL (x4.k ++ [x0.a x2.n])] else none else none else D n i_R23_put (some p_R23_put_c1) [aL x0.k,aB x1.b,aI (w6 (x2.n + 1)),A.t x3,aL x4.k] else none else none else bif ib x2.n x0.l then bif !(seqB ((x0.a x2.n).g 0).s (x3.g 0).s) then bif ib x2.n x0.l then bif decide (Nat.succ (List.length x4.k) < 1073741824) then D n i_R23_put (some p_R23_put_c1) [aL x0.k,aB x1.b,aI (w6 (x2.n + 1)),A.t x3,aL (x4.k ++ [x0.a x2.n])] else none else none else D n i_R23_put (some p_R23_put_c1) [aL x0.k,aB x1.b,aI (w6 (x2.n + 1)),A.t x3,aL x4.k] else none else some (2,[aB x1.b,A.t x3,aL x4.k]) := by kernel_rfl
theorem q_R23_Sync (n : Nat) (x0 x1 : T) : den Tryd.prog G0 ents (Nat.succ n) i_R23_Sync none [A.t x0, A.t x1] =
  cl n i_R23_Read [A.t x0,aS x1.s] fun v0 => bif (r v0 1).n != 0 then rt [A.t x0,aI (r v0 1).n] else cl n i_R23_cut [A.t x0] fun v1 => bif (r v1 1).b then rt [A.t (r v1 0),aI 8] else cl n i_R23_Find [A.t (r v1 0),aS x1.s] fun v2 => bif ib (r v2 0).n ((r v1 0).g 0).l then cl n i_R23_put [aL ((r v1 0).g 0).k,aL [T.str ((((r v1 0).g 0).a (r v2 0).n).g 0).s,T.str ((((r v1 0).g 0).a (r v2 0).n).g 1).s,T.int ((((r v1 0).g 0).a (r v2 0).n).g 1).z]] fun v3 => rt [aL [T.node (r v3 0).k,T.bool ((r v1 0).g 1).b,T.int ((r v1 0).g 2).n,T.int ((r v1 0).g 3).n,T.int ((r v1 0).g 4).n],aI 0] else none := by kernel_rfl
theorem q_R23_Read (n : Nat) (x0 x1 : T) : den Tryd.prog G0 ents (Nat.succ n) i_R23_Read none [A.t x0, A.t x1] =
  bif (x0.g 1).b then rt [aS (bs []),aI 8] else cl n i_R23_Find [A.t x0,aS x1.s] fun v0 => bif lt (r v0 0).n 0 then rt [aS (bs []),aI 5] else bif ib (r v0 0).n (x0.g 0).l then rt [aS (((x0.g 0).a (r v0 0).n).g 1).s,aI 0] else none := by kernel_rfl
theorem q_disk_Disk_Rename (n : Nat) (x0 x1 x2 x3 x4 x5 x6 : T) : den Tryd.prog G0 ents (Nat.succ n) i_disk_Disk_Rename none [A.t x0, A.t x1, A.t x2, A.t x3, A.t x4, A.t x5, A.t x6] =
  cl n i_disk_Disk_Down [aB x2.b,aI x3.n,aI x4.n,aI x5.n,aL x6.k] fun v0 => bif (r v0 0).b then rt [aI 8,aB (r v0 1).b,aI (r v0 2).n,aI (r v0 3).n,aI (r v0 4).n,aL (r v0 5).k] else cl n i_name_Right [aS x1.s] fun v1 => bif !(r v1 0).b then rt [aI 1,aB (r v0 1).b,aI (r v0 2).n,aI (r v0 3).n,aI (r v0 4).n,aL (r v0 5).k] else bif !(mhas keyS (r v0 5).k (T.str x0.s)) then rt [aI 5,aB (r v0 1).b,aI (r v0 2).n,aI (r v0 3).n,aI (r v0 4).n,aL (r v0 5).k] else cl n i_disk_Disk_cut [aB (r v0 1).b,aI (r v0 2).n,aI (r v0 3).n,aI (r v0 4).n,aL (r v0 5).k] fun v2 => bif (r v2 0).b then rt [aI 8,aB (r v2 1).b,aI (r v2 2).n,aI (r v2 3).n,aI (r v2 4).n,aL (r v2 5).k] else rt [aI 0,aB (r v2 1).b,aI (r v2 2).n,aI (r v2 3).n,aI (r v2 4).n,aL (mput keyS (mdel keyS (r v2 5).k (T.str x0.s)) (T.str x1.s) (mget keyS (T.node [T.str ByteArray.empty,T.int 0]) (r v0 5).k (T.str x0.s)))] := by kernel_rfl
theorem q_R23_Rename (n : Nat) (x0 x1 x2 : T) : den Tryd.prog G0 ents (Nat.succ n) i_R23_Rename none [A.t x0, A.t x1, A.t x2] =
  bif (x0.g 1).b then rt [A.t x0,aI 8] else cl n i_R02_Right [aS x2.s] fun v0 => bif !(r v0 0).b then rt [A.t x0,aI 1] else cl n i_R23_Find [A.t x0,aS x1.s] fun v1 => bif lt (r v1 0).n 0 then rt [A.t x0,aI 5] else cl n i_R23_cut [A.t x0] fun v2 => bif (r v2 1).b then rt [A.t (r v2 0),aI 8] else bif ib (r v1 0).n ((r v2 0).g 0).l then cl n i_R23_drop [aL ((r v2 0).g 0).k,aS x1.s] fun v3 => cl n i_R23_put_o [aL [T.str x2.s,T.str ((((r v2 0).g 0).a (r v1 0).n).g 1).s,T.int ((((r v2 0).g 0).a (r v1 0).n).g 2).n],aL (r v3 0).k] fun v4 => rt [aL [T.node (r v4 1).k,T.bool ((r v2 0).g 1).b,T.int ((r v2 0).g 2).n,T.int ((r v2 0).g 3).n,T.int ((r v2 0).g 4).n],aI 0] else none := by kernel_rfl
theorem q_R23_drop (n : Nat) (x0 x1 : T) : den Tryd.prog G0 ents (Nat.succ n) i_R23_drop none [A.t x0, A.t x1] =
  lp n i_R23_drop p_R23_drop_c1 [aL x0.k,aS x1.s,aI 0,aL []] fun v0 => bif Nat.beq v0.1 2 then rt [aL (r v0.2 0).k] else none := by kernel_rfl
theorem q_R23_drop_c1 (n : Nat) (x0 x1 x2 x3 : T) : den Tryd.prog G0 ents (Nat.succ n) i_R23_drop (some p_R23_drop_c1) [A.t x0, A.t x1, A.t x2, A.t x3] =
  bif lt x2.n x0.l then bif ib x2.n x0.l then bif !(seqB ((x0.a x2.n).g 0).s x1.s) then bif ib x2.n x0.l then bif decide (Nat.succ (List.length x3.k) < 1073741824) then D n i_R23_drop (some p_R23_drop_c1) [aL x0.k,aS x1.s,aI (w6 (x2.n + 1)),aL (x3.k ++ [x0.a x2.n])] else none else none else D n i_R23_drop (some p_R23_drop_c1) [aL x0.k,aS x1.s,aI (w6 (x2.n + 1)),aL x3.k] else none else some (2,[aL x3.k]) := by kernel_rfl
theorem q_disk_Disk_Remove (n : Nat) (x0 x1 x2 x3 x4 x5 : T) : den Tryd.prog G0 ents (Nat.succ n) i_disk_Disk_Remove none [A.t x0, A.t x1, A.t x2, A.t x3, A.t x4, A.t x5] =
  cl n i_disk_Disk_Read [aS x0.s,aB x1.b,aI x2.n,aI x3.n,aI x4.n,aL x5.k] fun v0 => bif (r v0 1).n != 0 then rt [aI (r v0 1).n,aB (r v0 2).b,aI (r v0 3).n,aI (r v0 4).n,aI (r v0 5).n,aL (r v0 6).k] else cl n i_disk_Disk_cut [aB (r v0 2).b,aI (r v0 3).n,aI (r v0 4).n,aI (r v0 5).n,aL (r v0 6).k] fun v1 => bif (r v1 0).b then rt [aI 8,aB (r v1 1).b,aI (r v1 2).n,aI (r v1 3).n,aI (r v1 4).n,aL (r v1 5).k] else rt [aI 0,aB (r v1 1).b,aI (r v1 2).n,aI (r v1 3).n,aI (r v1 4).n,aL (mdel keyS (r v1 5).k (T.str x0.s))] := by kernel_rfl
theorem q_R23_Remove (n : Nat) (x0 x1 : T) : den Tryd.prog G0 ents (Nat.succ n) i_R23_Remove none [A.t x0, A.t x1] =
  cl n i_R23_Read [A.t x0,aS x1.s] fun v0 => bif (r v0 1).n != 0 then rt [A.t x0,aI (r v0 1).n] else cl n i_R23_cut [A.t x0] fun v1 => bif (r v1 1).b then rt [A.t (r v1 0),aI 8] else cl n i_R23_drop [aL ((r v1 0).g 0).k,aS x1.s] fun v2 => rt [aL [T.node (r v2 0).k,T.bool ((r v1 0).g 1).b,T.int ((r v1 0).g 2).n,T.int ((r v1 0).g 3).n,T.int ((r v1 0).g 4).n],aI 0] := by kernel_rfl
theorem q_L23_number (n : Nat) (x0 x1 : T) : den Tryd.prog G0 ents (Nat.succ n) i_L23_number none [A.t x0, A.t x1] =
  bif lt x1.n x0.l then bif ib x1.n x0.l then rt [aI (x0.a x1.n).n] else none else rt [aI 0] := by kernel_rfl
theorem q_R23_Fuse (n : Nat) (x0 x1 x2 : T) : den Tryd.prog G0 ents (Nat.succ n) i_R23_Fuse none [A.t x0, A.t x1, A.t x2] =
  bif lt x1.n 1 then rt [aL [T.node (x0.g 0).k,T.bool (x0.g 1).b,T.int 1,T.int x2.n,T.int (x0.g 4).n]] else rt [aL [T.node (x0.g 0).k,T.bool (x0.g 1).b,T.int x1.n,T.int x2.n,T.int (x0.g 4).n]] := by kernel_rfl
theorem q_R23_Wake (n : Nat) (x0 x1 : T) : den Tryd.prog G0 ents (Nat.succ n) i_R23_Wake none [A.t x0, A.t x1] =
  lp n i_R23_Wake p_R23_Wake_c1 [aL x1.k,aI 0,A.t x0,aL [T.node [],T.bool false,T.int 0,T.int 0,T.int 0],aL []] fun v0 => bif Nat.beq v0.1 2 then rt [aL [T.node (r v0.2 2).k,T.bool false,T.int 0,T.int ((r v0.2 0).g 3).n,T.int ((r v0.2 0).g 4).n]] else none := by kernel_rfl
theorem q_R23_Wake_c1 (n : Nat) (x0 x1 x2 x3 x4 : T) : den Tryd.prog G0 ents (Nat.succ n) i_R23_Wake (some p_R23_Wake_c1) [A.t x0, A.t x1, A.t x2, A.t x3, A.t x4] =
  bif lt x1.n (x2.g 0).l then bif ib x1.n (x2.g 0).l then bif lt x1.n x0.l == true then bif ib x1.n x0.l then bif gt (x0.a x1.n).n 0 then bif ib x1.n x0.l then bif gt (x0.a x1.n).n (w6 ((((x2.g 0).a x1.n).g 1).z - (((x2.g 0).a x1.n).g 2).n)) then bif Bool.and (Bool.and (Bool.and (le 0 (w6 ((((x2.g 0).a x1.n).g 2).n + w6 ((((x2.g 0).a x1.n).g 1).z - (((x2.g 0).a x1.n).g 2).n)))) (le (w6 ((((x2.g 0).a x1.n).g 2).n + w6 ((((x2.g 0).a x1.n).g 1).z - (((x2.g 0).a x1.n).g 2).n))) (((x2.g 0).a x1.n).g 1).z)) true) (le 0 (w6 ((((x2.g 0).a x1.n).g 2).n + w6 ((((x2.g 0).a x1.n).g 1).z - (((x2.g 0).a x1.n).g 2).n)))) then bif decide (Nat.succ (List.length x4.k) < 1073741824) then D n i_R23_Wake (some p_R23_Wake_c1) [aL x0.k,aI (w6 (x1.n + 1)),A.t x2,A.t x3,aL (x4.k ++ [T.node [T.str (((x2.g 0).a x1.n).g 0).s,T.str (ByteArray.extract (((x2.g 0).a x1.n).g 1).s 0 (Int.toNat (w6 ((((x2.g 0).a x1.n).g 2).n + w6 ((((x2.g 0).a x1.n).g 1).z - (((x2.g 0).a x1.n).g 2).n))))),T.int ((ByteArray.size (ByteArray.extract (((x2.g 0).a x1.n).g 1).s 0 (Int.toNat (w6 ((((x2.g 0).a x1.n).g 2).n + w6 ((((x2.g 0).a x1.n).g 1).z - (((x2.g 0).a x1.n).g 2).n))))) : Nat) : Int)]])] else none else none else bif Bool.and (Bool.and (Bool.and (le 0 (w6 ((((x2.g 0).a x1.n).g 2).n + (x0.a x1.n).n))) (le (w6 ((((x2.g 0).a x1.n).g 2).n + (x0.a x1.n).n)) (((x2.g 0).a x1.n).g 1).z)) true) (le 0 (w6 ((((x2.g 0).a x1.n).g 2).n + (x0.a x1.n).n))) then bif decide (Nat.succ (List.length x4.k) < 1073741824) then D n i_R23_Wake (some p_R23_Wake_c1) [aL x0.k,aI (w6 (x1.n + 1)),A.t x2,A.t x3,aL (x4.k ++ [T.node [T.str (((x2.g 0).a x1.n).g 0).s,T.str (ByteArray.extract (((x2.g 0).a x1.n).g 1).s 0 (Int.toNat (w6 ((((x2.g 0).a x1.n).g 2).n + (x0.a x1.n).n)))),T.int ((ByteArray.size (ByteArray.extract (((x2.g 0).a x1.n).g 1).s 0 (Int.toNat (w6 ((((x2.g 0).a x1.n).g 2).n + (x0.a x1.n).n)))) : Nat) : Int)]])] else none else none else none else bif gt 0 (w6 ((((x2.g 0).a x1.n).g 1).z - (((x2.g 0).a x1.n).g 2).n)) then bif Bool.and (Bool.and (Bool.and (le 0 (w6 ((((x2.g 0).a x1.n).g 2).n + w6 ((((x2.g 0).a x1.n).g 1).z - (((x2.g 0).a x1.n).g 2).n)))) (le (w6 ((((x2.g 0).a x1.n).g 2).n + w6 ((((x2.g 0).a x1.n).g 1).z - (((x2.g 0).a x1.n).g 2).n))) (((x2.g 0).a x1.n).g 1).z)) true) (le 0 (w6 ((((x2.g 0).a x1.n).g 2).n + w6 ((((x2.g 0).a x1.n).g 1).z - (((x2.g 0).a x1.n).g 2).n)))) then bif decide (Nat.succ (List.length x4.k) < 1073741824) then D n i_R23_Wake (some p_R23_Wake_c1) [aL x0.k,aI (w6 (x1.n + 1)),A.t x2,A.t x3,aL (x4.k ++ [T.node [T.str (((x2.g 0).a x1.n).g 0).s,T.str (ByteArray.extract (((x2.g 0).a x1.n).g 1).s 0 (Int.toNat (w6 ((((x2.g 0).a x1.n).g 2).n + w6 ((((x2.g 0).a x1.n).g 1).z - (((x2.g 0).a x1.n).g 2).n))))),T.int ((ByteArray.size (ByteArray.extract (((x2.g 0).a x1.n).g 1).s 0 (Int.toNat (w6 ((((x2.g 0).a x1.n).g 2).n + w6 ((((x2.g 0).a x1.n).g 1).z - (((x2.g 0).a x1.n).g 2).n))))) : Nat) : Int)]])] else none else none else bif Bool.and (Bool.and (Bool.and (le 0 (w6 ((((x2.g 0).a x1.n).g 2).n + 0))) (le (w6 ((((x2.g 0).a x1.n).g 2).n + 0)) (((x2.g 0).a x1.n).g 1).z)) true) (le 0 (w6 ((((x2.g 0).a x1.n).g 2).n + 0))) then bif decide (Nat.succ (List.length x4.k) < 1073741824) then D n i_R23_Wake (some p_R23_Wake_c1) [aL x0.k,aI (w6 (x1.n + 1)),A.t x2,A.t x3,aL (x4.k ++ [T.node [T.str (((x2.g 0).a x1.n).g 0).s,T.str (ByteArray.extract (((x2.g 0).a x1.n).g 1).s 0 (Int.toNat (w6 ((((x2.g 0).a x1.n).g 2).n + 0)))),T.int ((ByteArray.size (ByteArray.extract (((x2.g 0).a x1.n).g 1).s 0 (Int.toNat (w6 ((((x2.g 0).a x1.n).g 2).n + 0)))) : Nat) : Int)]])] else none else none else none else bif gt 0 (w6 ((((x2.g 0).a x1.n).g 1).z - (((x2.g 0).a x1.n).g 2).n)) then bif Bool.and (Bool.and (Bool.and (le 0 (w6 ((((x2.g 0).a x1.n).g 2).n + w6 ((((x2.g 0).a x1.n).g 1).z - (((x2.g 0).a x1.n).g 2).n)))) (le (w6 ((((x2.g 0).a x1.n).g 2).n + w6 ((((x2.g 0).a x1.n).g 1).z - (((x2.g 0).a x1.n).g 2).n))) (((x2.g 0).a x1.n).g 1).z)) true) (le 0 (w6 ((((x2.g 0).a x1.n).g 2).n + w6 ((((x2.g 0).a x1.n).g 1).z - (((x2.g 0).a x1.n).g 2).n)))) then bif decide (Nat.succ (List.length x4.k) < 1073741824) then D n i_R23_Wake (some p_R23_Wake_c1) [aL x0.k,aI (w6 (x1.n + 1)),A.t x2,A.t x3,aL (x4.k ++ [T.node [T.str (((x2.g 0).a x1.n).g 0).s,T.str (ByteArray.extract (((x2.g 0).a x1.n).g 1).s 0 (Int.toNat (w6 ((((x2.g 0).a x1.n).g 2).n + w6 ((((x2.g 0).a x1.n).g 1).z - (((x2.g 0).a x1.n).g 2).n))))),T.int ((ByteArray.size (ByteArray.extract (((x2.g 0).a x1.n).g 1).s 0 (Int.toNat (w6 ((((x2.g 0).a x1.n).g 2).n + w6 ((((x2.g 0).a x1.n).g 1).z - (((x2.g 0).a x1.n).g 2).n))))) : Nat) : Int)]])] else none else none else bif Bool.and (Bool.and (Bool.and (le 0 (w6 ((((x2.g 0).a x1.n).g 2).n + 0))) (le (w6 ((((x2.g 0).a x1.n).g 2).n + 0)) (((x2.g 0).a x1.n).g 1).z)) true) (le 0 (w6 ((((x2.g 0).a x1.n).g 2).n + 0))) then bif decide (Nat.succ (List.length x4.k) < 1073741824) then D n i_R23_Wake (some p_R23_Wake_c1) [aL x0.k,aI (w6 (x1.n + 1)),A.t x2,A.t x3,aL (x4.k ++ [T.node [T.str (((x2.g 0).a x1.n).g 0).s,T.str (ByteArray.extract (((x2.g 0).a x1.n).g 1).s 0 (Int.toNat (w6 ((((x2.g 0).a x1.n).g 2).n + 0)))),T.int ((ByteArray.size (ByteArray.extract (((x2.g 0).a x1.n).g 1).s 0 (Int.toNat (w6 ((((x2.g 0).a x1.n).g 2).n + 0)))) : Nat) : Int)]])] else none else none else none else some (2,[A.t x2,A.t x3,aL x4.k]) := by kernel_rfl
theorem q_disk_Disk_Load (n : Nat) (x0 x1 x2 x3 x4 x5 x6 : T) : den Tryd.prog G0 ents (Nat.succ n) i_disk_Disk_Load none [A.t x0, A.t x1, A.t x2, A.t x3, A.t x4, A.t x5, A.t x6] =
  cl n i_name_Right [aS x0.s] fun v0 => bif !(r v0 0).b then rt [aI 1,aB x2.b,aI x3.n,aI x4.n,aI x5.n,aL x6.k] else bif gt x1.z 4194304 then rt [aI 4,aB x2.b,aI x3.n,aI x4.n,aI x5.n,aL x6.k] else rt [aI 0,aB x2.b,aI x3.n,aI x4.n,aI x5.n,aL (mput keyS x6.k (T.str x0.s) (T.node [T.str x1.s,T.int x1.z]))] := by kernel_rfl
theorem q_R23_Load (n : Nat) (x0 x1 x2 : T) : den Tryd.prog G0 ents (Nat.succ n) i_R23_Load none [A.t x0, A.t x1, A.t x2] =
  cl n i_R02_Right [aS x1.s] fun v0 => bif !(r v0 0).b then rt [A.t x0,aI 1] else bif gt x2.z 4194304 then rt [A.t x0,aI 4] else cl n i_R23_put [aL (x0.g 0).k,aL [T.str x1.s,T.str x2.s,T.int x2.z]] fun v1 => rt [aL [T.node (r v1 0).k,T.bool (x0.g 1).b,T.int (x0.g 2).n,T.int (x0.g 3).n,T.int (x0.g 4).n],aI 0] := by kernel_rfl
theorem q_L23_Like (n : Nat) (x0 x1 x2 x3 x4 x5 : T) : den Tryd.prog G0 ents (Nat.succ n) i_L23_Like none [A.t x0, A.t x1, A.t x2, A.t x3, A.t x4, A.t x5] =
  cl n i_disk_Disk_Names [aB x1.b,aI x2.n,aI x3.n,aI x4.n,aL x5.k] fun v0 => bif ((r v0 0).l != (x0.g 0).l) == false then cl n i_disk_Disk_Down [aB (r v0 1).b,aI (r v0 2).n,aI (r v0 3).n,aI (r v0 4).n,aL (r v0 5).k] fun v1 => bif (!((r v1 0).b == (x0.g 1).b)) == false then cl n i_disk_Disk_Ops [aB (r v1 1).b,aI (r v1 2).n,aI (r v1 3).n,aI (r v1 4).n,aL (r v1 5).k] fun v2 => bif (r v2 0).n != (x0.g 4).n then rt [aB false,aB (r v2 1).b,aI (r v2 2).n,aI (r v2 3).n,aI (r v2 4).n,aL (r v2 5).k] else lp n i_L23_Like p_L23_Like_c1 [aL (r v0 0).k,aI 0,aB (r v2 1).b,aI (r v2 2).n,aI (r v2 3).n,aI (r v2 4).n,aL (r v2 5).k,A.t x0] fun v3 => bif Nat.beq v3.1 2 then rt [aB true,aB (r v3.2 0).b,aI (r v3.2 1).n,aI (r v3.2 2).n,aI (r v3.2 3).n,aL (r v3.2 4).k] else bif Nat.beq v3.1 1 then rt [aB (r v3.2 0).b,aB (r v3.2 1).b,aI (r v3.2 2).n,aI (r v3.2 3).n,aI (r v3.2 4).n,aL (r v3.2 5).k] else none else rt [aB false,aB (r v1 1).b,aI (r v1 2).n,aI (r v1 3).n,aI (r v1 4).n,aL (r v1 5).k] else rt [aB false,aB (r v0 1).b,aI (r v0 2).n,aI (r v0 3).n,aI (r v0 4).n,aL (r v0 5).k] := by kernel_rfl
theorem q_L23_Like_c1 (n : Nat) (x0 x1 x2 x3 x4 x5 x6 x7 : T) : den Tryd.prog G0 ents (Nat.succ n) i_L23_Like (some p_L23_Like_c1) [A.t x0, A.t x1, A.t x2, A.t x3, A.t x4, A.t x5, A.t x6, A.t x7] =
  bif lt x1.n x0.l then bif ib x1.n x0.l then bif ib x1.n (x7.g 0).l then bif (!(seqB (x0.a x1.n).s (((x7.g 0).a x1.n).g 0).s)) == false then bif ib x1.n x0.l then cl n i_disk_Disk_Sure [aS (x0.a x1.n).s,aB x2.b,aI x3.n,aI x4.n,aI x5.n,aL x6.k] fun v0 => bif ib x1.n (x7.g 0).l then bif (r v0 0).n != (((x7.g 0).a x1.n).g 2).n then rt [aB false,aB (r v0 1).b,aI (r v0 2).n,aI (r v0 3).n,aI (r v0 4).n,aL (r v0 5).k] else bif ib x1.n x0.l then cl n i_disk_Disk_Read [aS (x0.a x1.n).s,aB (r v0 1).b,aI (r v0 2).n,aI (r v0 3).n,aI (r v0 4).n,aL (r v0 5).k] fun v1 => bif ib x1.n x0.l then cl n i_R23_Read [A.t x7,aS (x0.a x1.n).s] fun v2 => bif (!(seqB (r v1 0).s (r v2 0).s)) == false then bif (r v1 1).n != (r v2 1).n then rt [aB false,aB (r v1 2).b,aI (r v1 3).n,aI (r v1 4).n,aI (r v1 5).n,aL (r v1 6).k] else D n i_L23_Like (some p_L23_Like_c1) [aL x0.k,aI (w6 (x1.n + 1)),aB (r v1 2).b,aI (r v1 3).n,aI (r v1 4).n,aI (r v1 5).n,aL (r v1 6).k,A.t x7] else rt [aB false,aB (r v1 2).b,aI (r v1 3).n,aI (r v1 4).n,aI (r v1 5).n,aL (r v1 6).k] else none else none else none else none else rt [aB false,aB x2.b,aI x3.n,aI x4.n,aI x5.n,aL x6.k] else none else none else some (2,[aB x2.b,aI x3.n,aI x4.n,aI x5.n,aL x6.k]) := by kernel_rfl
theorem q_disk_Disk_Ops (n : Nat) (x0 x1 x2 x3 x4 : T) : den Tryd.prog G0 ents (Nat.succ n) i_disk_Disk_Ops none [A.t x0, A.t x1, A.t x2, A.t x3, A.t x4] =
  rt [aI x3.n,aB x0.b,aI x1.n,aI x2.n,aI x3.n,aL x4.k] := by kernel_rfl
theorem q_disk_Disk_Fuse_v2 (n : Nat) (x0 x1 : T) : den Tryd.prog G0 ents (Nat.succ n) i_disk_Disk_Fuse_v2 none [A.t x0, A.t x1] =
  rt [] := by kernel_rfl
theorem q_disk_Disk_Wake_v2 (n : Nat) (x0 : T) : den Tryd.prog G0 ents (Nat.succ n) i_disk_Disk_Wake_v2 none [A.t x0] =
  rt [] := by kernel_rfl
theorem q_disk_Disk_Names_v2 (n : Nat) : den Tryd.prog G0 ents (Nat.succ n) i_disk_Disk_Names_v2 none [] =
  rt [aL []] := by kernel_rfl
theorem q_disk_Disk_Read_v2 (n : Nat) (x0 : T) : den Tryd.prog G0 ents (Nat.succ n) i_disk_Disk_Read_v2 none [A.t x0] =
  cl n i_disk_Disk_Down_v2 [] fun v0 => bif (r v0 0).b then rt [aS (bs []),aI 8] else none := by kernel_rfl
theorem q_disk_Disk_Down_v2 (n : Nat) : den Tryd.prog G0 ents (Nat.succ n) i_disk_Disk_Down_v2 none [] =
  rt [aB true] := by kernel_rfl
theorem q_disk_Disk_Append_v2 (n : Nat) (x0 x1 : T) : den Tryd.prog G0 ents (Nat.succ n) i_disk_Disk_Append_v2 none [A.t x0, A.t x1] =
  cl n i_disk_Disk_Down_v2 [] fun v0 => bif (r v0 0).b then rt [aI 8] else cl n i_name_Right [aS x0.s] fun v1 => bif !(r v1 0).b then rt [aI 1] else none := by kernel_rfl
theorem q_disk_Disk_Sync_v2 (n : Nat) (x0 : T) : den Tryd.prog G0 ents (Nat.succ n) i_disk_Disk_Sync_v2 none [A.t x0] =
  cl n i_disk_Disk_Read_v2 [aS x0.s] fun v0 => bif (r v0 1).n != 0 then rt [aI (r v0 1).n] else none := by kernel_rfl
theorem q_disk_Disk_Rename_v2 (n : Nat) (x0 x1 : T) : den Tryd.prog G0 ents (Nat.succ n) i_disk_Disk_Rename_v2 none [A.t x0, A.t x1] =
  cl n i_disk_Disk_Down_v2 [] fun v0 => bif (r v0 0).b then rt [aI 8] else cl n i_name_Right [aS x1.s] fun v1 => bif !(r v1 0).b then rt [aI 1] else none := by kernel_rfl
theorem q_disk_Disk_Remove_v2 (n : Nat) (x0 : T) : den Tryd.prog G0 ents (Nat.succ n) i_disk_Disk_Remove_v2 none [A.t x0] =
  cl n i_disk_Disk_Read_v2 [aS x0.s] fun v0 => bif (r v0 1).n != 0 then rt [aI (r v0 1).n] else none := by kernel_rfl
theorem q_disk_Disk_Load_v2 (n : Nat) (x0 x1 : T) : den Tryd.prog G0 ents (Nat.succ n) i_disk_Disk_Load_v2 none [A.t x0, A.t x1] =
  rt [aI 8] := by kernel_rfl
theorem q_disk_Disk_Ops_v2 (n : Nat) : den Tryd.prog G0 ents (Nat.succ n) i_disk_Disk_Ops_v2 none [] =
  rt [aI 0] := by kernel_rfl
theorem q_disk_Disk_Sure_v2 (n : Nat) (x0 : T) : den Tryd.prog G0 ents (Nat.succ n) i_disk_Disk_Sure_v2 none [A.t x0] =
  rt [aI 0] := by kernel_rfl
theorem q_R23_put_o (n : Nat) (x0 x1 : T) : den Tryd.prog G0 ents (Nat.succ n) i_R23_put_o none [A.t x0, A.t x1] =
  lp n i_R23_put_o p_R23_put_o_c1 [aB false,aI 0,aL x1.k,A.t x0,aL []] fun v0 => bif Nat.beq v0.1 2 then bif !(r v0.2 0).b then bif decide (Nat.succ (List.length (r v0.2 3).k) < 1073741824) then rt [aL (r v0.2 1).k,aL ((r v0.2 3).k ++ [r v0.2 2])] else none else rt [aL (r v0.2 1).k,aL (r v0.2 3).k] else none := by kernel_rfl
theorem q_R23_put_o_c1 (n : Nat) (x0 x1 x2 x3 x4 : T) : den Tryd.prog G0 ents (Nat.succ n) i_R23_put_o (some p_R23_put_o_c1) [A.t x0, A.t x1, A.t x2, A.t x3, A.t x4] =
  bif lt x1.n x2.l then bif (!x0.b) == true then bif ib x1.n x2.l then bif decide (Int.toNat x1.n < List.length x2.k) then bif Bool.or (sltB (x3.g 0).s ((x2.a x1.n).g 0).s) (seqB (x3.g 0).s ((x2.a x1.n).g 0).s) then bif decide (Nat.succ (List.length x4.k) < 1073741824) then bif ib x1.n x2.l then bif decide (Int.toNat x1.n < List.length x2.k) then bif !(seqB ((x2.a x1.n).g 0).s (x3.g 0).s) then bif ib x1.n x2.l then bif decide (Int.toNat x1.n < List.length x2.k) then bif decide (Nat.succ (List.length (x4.k ++ [x3])) < 1073741824) then D n i_R23_put_o (some p_R23_put_o_c1) [aB true,aI (w6 (x1.n + 1)),aL x2.k,A.t x3,aL ((x4.k ++ [x3]) ++ [x2.a x1.n])] else none else none else none else D n i_R23_put_o (some p_R23_put_o_c1) [aB true,aI (w6 (x1.n + 1)),aL x2.k,A.t x3,aL (x4.k ++ [x3])] else none else none else none else bif ib x1.n x2.l then bif decide (Int.toNat x1.n < List.length x2.k) then bif !(seqB ((x2.a x1.n).g 0).s (x3.g 0).s) then bif ib x1.n x2.l then bif decide (Int.toNat x1.n < List.length x2.k) then bif decide (Nat.succ (List.length x4.k) < 1073741824) then D n i_R23_put_o (some p_R23_put_o_c1) [aB x0.b,aI (w6 (x1.n + 1)),aL x2.k,A.t x3,aL (x4.k ++ [x2.a x1.n])] else none else none else none else D n i_R23_put_o (some p_R23_put_o_c1) [aB x0.b,aI (w6 (x1.n + 1)),aL x2.k,A.t x3,aL x4.k] else none else none else none else none else bif ib x1.n x2.l then bif decide (Int.toNat x1.n < List.length x2.k) then bif !(seqB ((x2.a x1.n).g 0).s (x3.g 0).s) then bif ib x1.n x2.l then bif decide (Int.toNat x1.n < List.length x2.k) then bif decide (Nat.succ (List.length x4.k) < 1073741824) then D n i_R23_put_o (some p_R23_put_o_c1) [aB x0.b,aI (w6 (x1.n + 1)),aL x2.k,A.t x3,aL (x4.k ++ [x2.a x1.n])] else none else none else none else D n i_R23_put_o (some p_R23_put_o_c1) [aB x0.b,aI (w6 (x1.n + 1)),aL x2.k,A.t x3,aL x4.k] else none else none else some (2,[aB x0.b,aL x2.k,A.t x3,aL x4.k]) := by kernel_rfl
end Go.Proofs.YtigbgcopidghfaaDoorDP
namespace Go.Proofs.YtigbgcopidghfaaDoorDP
open Go Go.Proofs.YtigbgcopidghfaaDoorVM
set_option linter.unusedVariables false
def terms (v : T) : List T := (v.get 0).kids
def flds (t : T) : List T := (t.get 7).kids
def nm (f : T) : ByteArray := (f.get 0).txt
def val (f : T) : T := f.get 1
def sumN (l : List Nat) : Nat := l.foldr (· + ·) 0
def wt : Nat → T → Nat
  | 0, _ => 0
  | d + 1, v => sumN ((terms v).map fun t => 1 + sumN ((flds t).map fun f => wt d (val f)))
def wtT (d : Nat) (t : T) : Nat := 1 + sumN ((flds t).map fun f => wt d (val f))
theorem wt_succ (d : Nat) (v : T) : wt (d + 1) v = sumN ((terms v).map (wtT d)) := rfl
def maxN (l : List Nat) : Nat := l.foldr max 0
def dep : Nat → T → Nat
  | 0, _ => 0
  | d + 1, v => 1 + maxN ((terms v).map fun t => maxN ((flds t).map fun f => dep d (val f)))
def Vd : Nat → T → Prop
  | 0, _ => False
  | d + 1, v => ∀ t ∈ terms v, (flds t).length ≤ 100 ∧ (t.get 3).txt.size ≤ 400 ∧ ∀ f ∈ flds t, (nm f).size ≤ 100 ∧ Vd d (val f)
theorem sum_foldl {α : Type} (f : α → Nat) : ∀ (l : List α) (a : Nat), l.foldl (fun a x => a + f x) a = a + sumN (l.map f)
  | [], a => by simp [sumN]
  | x :: l, a => by
    rw [List.foldl_cons, sum_foldl f l (a + f x)]
    simp only [List.map_cons, sumN, List.foldr_cons]
    omega
theorem max_foldl {α : Type} (f : α → Nat) : ∀ (l : List α) (a : Nat), l.foldl (fun a x => max a (f x)) a = max a (maxN (l.map f))
  | [], a => by simp [maxN]
  | x :: l, a => by
    rw [List.foldl_cons, max_foldl f l (max a (f x))]
    simp only [List.map_cons, maxN, List.foldr_cons]
    omega
theorem sum_mem {α : Type} {f : α → Nat} {l : List α} {x : α} (h : x ∈ l) : f x ≤ sumN (l.map f) := by
  induction l with
  | nil => cases h
  | cons y l ih =>
    simp only [List.map_cons, sumN, List.foldr_cons]
    rcases List.mem_cons.1 h with rfl | h
    · omega
    · have := ih h
      unfold sumN at this
      omega
theorem sum_len {α : Type} {f : α → Nat} {l : List α} (h : ∀ x ∈ l, 1 ≤ f x) : l.length ≤ sumN (l.map f) := by
  induction l with
  | nil => simp
  | cons y l ih =>
    have h1 := ih fun x hx => h x (List.mem_cons_of_mem _ hx)
    have h2 := h y List.mem_cons_self
    simp only [List.map_cons, sumN, List.foldr_cons, List.length_cons]
    unfold sumN at h1
    omega
def Sm (d : Nat) (v : T) : Prop := Vd d v ∧ wt d v ≤ 512
theorem Sm.terms {d : Nat} {v : T} (h : Sm d v) : (terms v).length ≤ 512 := by
  cases d with
  | zero => exact h.1.elim
  | succ d => exact Nat.le_trans (sum_len (f := wtT d) fun t _ => by unfold wtT; omega) h.2
theorem Sm.sub {d : Nat} {v t f : T} (h : Sm (d + 1) v) (ht : t ∈ YtigbgcopidghfaaDoorDP.terms v) (hf : f ∈ flds t) : Sm d (val f) := by
  refine ⟨((h.1 t ht).2.2 f hf).2, ?_⟩
  have h1 : wt d (val f) ≤ wtT d t := by
    unfold wtT
    have := sum_mem (f := fun f => wt d (val f)) hf
    omega
  have h2 : wtT d t ≤ wt (d + 1) v := sum_mem (f := wtT d) ht
  have := h.2
  omega
theorem Sm.flds {d : Nat} {v t : T} (h : Sm (d + 1) v) (ht : t ∈ YtigbgcopidghfaaDoorDP.terms v) : (YtigbgcopidghfaaDoorDP.flds t).length ≤ 100 := (h.1 t ht).1
theorem Sm.wtT {d : Nat} {v t : T} (h : Sm (d + 1) v) (ht : t ∈ YtigbgcopidghfaaDoorDP.terms v) : YtigbgcopidghfaaDoorDP.wtT d t ≤ 512 := Nat.le_trans (sum_mem (f := YtigbgcopidghfaaDoorDP.wtT d) ht) h.2

def leftFs (g : T → Int → Int) : List T → Int → Int
  | [], n => n
  | f :: fs, n => if n < 0 then n else if 100 < (nm f).size then -1 else leftFs g fs (g (val f) n)
def leftTs (g : T → Int → Int) : List T → Int → Int
  | [], n => n
  | t :: ts, n => if n < 0 then n else if 400 < (t.get 3).txt.size ∨ 100 < (flds t).length then -1 else leftTs g ts (leftFs g (flds t) (n - 1))
def leftF : Nat → T → Int → Int
  | 0, _, _ => -1
  | d + 1, v, n => if (((terms v).length : Nat) : Int) > n then -1 else leftTs (leftF d) (terms v) n
theorem leftFs_neg (g : T → Int → Int) : ∀ (l : List T) (n : Int), n < 0 → leftFs g l n = n
  | [], n, h => rfl
  | f :: fs, n, h => by rw [leftFs, if_pos h]
theorem leftTs_neg (g : T → Int → Int) : ∀ (l : List T) (n : Int), n < 0 → leftTs g l n = n
  | [], n, h => rfl
  | f :: fs, n, h => by rw [leftTs, if_pos h]
theorem left_few : ∀ (d : Nat) (v : T) (n : Int), 0 ≤ leftF d v n → Vd d v ∧ leftF d v n + (wt d v : Nat) = n
  | 0, v, n, h => by simp [leftF] at h
  | d + 1, v, n, h => by
    have hfs : ∀ (l : List T) (n : Int), 0 ≤ leftFs (leftF d) l n → (∀ f ∈ l, (nm f).size ≤ 100 ∧ Vd d (val f)) ∧ leftFs (leftF d) l n + (sumN (l.map fun f => wt d (val f)) : Nat) = n := by
      intro l
      induction l with
      | nil => intro n hn; exact ⟨by simp, by simp [leftFs, sumN]⟩
      | cons f l ih =>
        intro n hn
        rw [leftFs] at hn ⊢
        split at hn
        · omega
        · split at hn
          · omega
          · rename_i h1 h2
            rw [if_neg h1, if_neg h2]
            obtain ⟨q1, q2⟩ := ih _ hn
            have h3 : 0 ≤ leftF d (val f) n := by
              rcases Int.lt_or_le (leftF d (val f) n) 0 with h4 | h4
              · rw [leftFs_neg _ _ _ h4] at hn; omega
              · exact h4
            obtain ⟨q3, q4⟩ := left_few d (val f) n h3
            refine ⟨fun x hx => ?_, ?_⟩
            · rcases List.mem_cons.1 hx with rfl | hx
              · exact ⟨by omega, q3⟩
              · exact q1 x hx
            · simp only [List.map_cons, sumN, List.foldr_cons] at q2 ⊢
              omega
    have hts : ∀ (l : List T) (n : Int), 0 ≤ leftTs (leftF d) l n → (∀ t ∈ l, (flds t).length ≤ 100 ∧ (t.get 3).txt.size ≤ 400 ∧ ∀ f ∈ flds t, (nm f).size ≤ 100 ∧ Vd d (val f)) ∧ leftTs (leftF d) l n + (sumN (l.map (wtT d)) : Nat) = n := by
      intro l
      induction l with
      | nil => intro n hn; exact ⟨by simp, by simp [leftTs, sumN]⟩
      | cons t l ih =>
        intro n hn
        rw [leftTs] at hn ⊢
        split at hn
        · omega
        · split at hn
          · omega
          · rename_i h1 h2
            rw [if_neg h1, if_neg h2]
            obtain ⟨q1, q2⟩ := ih _ hn
            have h3 : 0 ≤ leftFs (leftF d) (flds t) (n - 1) := by
              rcases Int.lt_or_le (leftFs (leftF d) (flds t) (n - 1)) 0 with h4 | h4
              · rw [leftTs_neg _ _ _ h4] at hn; omega
              · exact h4
            obtain ⟨q3, q4⟩ := hfs _ _ h3
            refine ⟨fun x hx => ?_, ?_⟩
            · rcases List.mem_cons.1 hx with rfl | hx
              · exact ⟨by omega, by omega, q3⟩
              · exact q1 x hx
            · simp only [List.map_cons, sumN, List.foldr_cons, wtT] at q2 q4 ⊢
              omega
    rw [leftF] at h ⊢
    split at h
    · omega
    · rename_i h1
      rw [if_neg h1]
      exact hts _ _ h
end Go.Proofs.YtigbgcopidghfaaDoorDP
namespace Go.Proofs.YtigbgcopidghfaaDoorDP
open Go Go.Proofs.YtigbgcopidghfaaDoorVM
set_option linter.unusedVariables false
set_option linter.unusedSimpArgs false
set_option maxRecDepth 100000

def Dz (i : Nat) (p : Option (List Bool)) (xs : List A) (r : Nat × List A) : Prop := Does Tryd.prog G0 ents i p xs r
theorem terms_eq (v : T) : (T.get v 0).kids = terms v := id rfl
theorem flds_eq (v : T) : (T.get v 7).kids = flds v := id rfl
theorem S1 : (∀ n i p xs, D n i p xs = den Tryd.prog G0 ents n i p xs) ∧ (∀ n i xs k, cl n i xs k = Option.bind (Option.map (fun v => v.2) (den Tryd.prog G0 ents n i none xs)) k) ∧ (∀ n i p xs k, lp n i p xs k = Option.bind (den Tryd.prog G0 ents n i (some p) xs) k) :=
  ⟨fun _ _ _ _ => rfl, fun _ _ _ _ => rfl, fun _ _ _ _ _ => rfl⟩
theorem S2 : (∀ v, (T.get v 0).kids = terms v) ∧ (∀ v, (T.get v 7).kids = flds v) := ⟨fun _ => rfl, fun _ => rfl⟩
theorem leftFs_le {g : T → Int → Int} (hg : ∀ v n, g v n ≤ max n (-1) ∧ (-1 ≤ n → -1 ≤ g v n)) : ∀ (l : List T) (n : Int), leftFs g l n ≤ max n (-1) ∧ (-1 ≤ n → -1 ≤ leftFs g l n) := by
  intro l
  induction l with
  | nil => intro n; simp only [leftFs]; omega
  | cons f l ih =>
    intro n
    rw [leftFs]
    split
    · omega
    · split
      · omega
      · have h1 := ih (g (val f) n)
        have h2 := hg (val f) n
        omega
theorem leftF_le : ∀ (d : Nat) (v : T) (n : Int), leftF d v n ≤ max n (-1) ∧ (-1 ≤ n → -1 ≤ leftF d v n)
  | 0, v, n => by simp only [leftF]; omega
  | d + 1, v, n => by
    have hts : ∀ (l : List T) (n : Int), leftTs (leftF d) l n ≤ max n (-1) ∧ (-1 ≤ n → -1 ≤ leftTs (leftF d) l n) := by
      intro l
      induction l with
      | nil => intro n; simp only [leftTs]; omega
      | cons t l ih =>
        intro n
        rw [leftTs]
        split
        · omega
        · split
          · omega
          · have h1 := ih (leftFs (leftF d) (flds t) (n - 1))
            have h2 := leftFs_le (fun v n => leftF_le d v n) (flds t) (n - 1)
            omega
    rw [leftF]
    split
    · omega
    · exact hts _ _
end Go.Proofs.YtigbgcopidghfaaDoorDP
namespace Go.Proofs.YtigbgcopidghfaaDoorDP
open Go Go.Proofs.YtigbgcopidghfaaDoorVM
set_option linter.unusedVariables false
set_option linter.unusedSimpArgs false
set_option maxRecDepth 100000

def up : Nat → Nat → Nat
  | 0, n => n
  | k + 1, n => Nat.succ (up k n)
theorem up_add (k n : Nat) : up k n = n + k := by
  induction k with
  | zero => rfl
  | succ k ih => rw [up, ih]; rfl
theorem run_of {i : Nat} {xs : List A} {r : Nat × List A} (k : Nat) (h : ∀ n, den Tryd.prog G0 ents (up k n) i none xs = some r) : Dz i none xs r :=
  ⟨k, fun n hn => by
    obtain ⟨j, rfl⟩ : ∃ j, n = j + k := ⟨n - k, by omega⟩
    rw [← up_add]
    exact h j⟩
def fi (p : T → Bool) : List T → Nat → Int
  | [], _ => -1
  | x :: l, k => if p x then ((k : Nat) : Int) else fi p l (k + 1)
theorem fi_any (p : T → Bool) : ∀ (l : List T) (k : Nat), decide (fi p l k ≥ 0) = l.any p
  | [], k => by simp [fi]
  | x :: l, k => by
    rw [fi, List.any_cons, ← fi_any p l (k + 1)]
    cases p x
    · simp
    · simp
theorem fi_none {p : T → Bool} {l : List T} {k : Nat} (h : l.any p = false) : fi p l k = -1 := by
  induction l generalizing k with
  | nil => rfl
  | cons x l ih =>
    rw [List.any_cons, Bool.or_eq_false_iff] at h
    rw [fi, h.1, ih h.2]
    rfl
theorem idx0_loop {i ic : Nat} {pp : List Bool} (hq : ∀ n x0 x1 x2, den Tryd.prog G0 ents (Nat.succ n) i (some pp) [A.t x0, A.t x1, A.t x2] =
  bif lt x2.n x1.n then bif ib x2.n x0.l then cl n ic [A.t (x0.a x2.n)] fun v0 => bif (r v0 0).b then rt [aI x2.n] else D n i (some pp) [aL x0.k,aI x1.n,aI (w6 (x2.n + 1))] else none else some (2,[]))
    (l : List T) (p : T → Bool) (hl : l.length ≤ 1000000000) (hp : ∀ x ∈ l, Dz ic none [A.t x] (1, [A.t (T.bool (p x))])) : ∀ (k j : Nat), j + k = l.length →
    Dz i (some pp) [A.t (T.node l), A.t (T.int (l.length : Nat)), A.t (T.int j)] (if (l.drop j).any p then (1, [A.t (T.int (fi p (l.drop j) j))]) else (2, [])) := by
  intro k
  induction k with
  | zero =>
    intro j hj
    rw [List.drop_of_length_le (by omega)]
    refine Does.now fun m => ?_
    rw [hq]
    simp only [S0, S9, S1, S2, if_true, if_false, List.any_nil]
    rw [if_neg (by omega)]
  | succ k ih =>
    intro j hj
    have hlt : j < l.length := by omega
    have hw : IntKind.i64.wrap ((j : Int) + 1) = ((j + 1 : Nat) : Int) := i64succ (by omega)
    obtain ⟨n0, h0⟩ := (hp _ (List.getElem_mem hlt)).both (ih (j + 1) (by omega))
    refine Does.of n0 fun m hm => ?_
    obtain ⟨q, q2⟩ := h0 m hm
    rw [hq, List.drop_eq_getElem_cons hlt, List.any_cons, fi]
    simp only [S0, S9, S1, S2, if_true, if_false, hw, at_get hlt, q]
    rw [if_pos (by omega), if_pos (by omega)]
    cases p l[j]
    · simp only [Bool.false_eq_true, if_false, false_or]; exact q2
    · rfl
theorem idx0_does {i ic : Nat} {pp : List Bool} (hq2 : ∀ n x0, den Tryd.prog G0 ents (Nat.succ n) i none [A.t x0] =
  lp n i pp [aL x0.k,aI x0.l,aI 0] fun v0 => bif Nat.beq v0.1 2 then rt [aI (-1)] else bif Nat.beq v0.1 1 then rt [aI (r v0.2 0).n] else none) (hq : ∀ n x0 x1 x2, den Tryd.prog G0 ents (Nat.succ n) i (some pp) [A.t x0, A.t x1, A.t x2] =
  bif lt x2.n x1.n then bif ib x2.n x0.l then cl n ic [A.t (x0.a x2.n)] fun v0 => bif (r v0 0).b then rt [aI x2.n] else D n i (some pp) [aL x0.k,aI x1.n,aI (w6 (x2.n + 1))] else none else some (2,[]))
    (l : List T) (p : T → Bool) (hl : l.length ≤ 1000000000) (hp : ∀ x ∈ l, Dz ic none [A.t x] (1, [A.t (T.bool (p x))])) : Dz i none [A.t (T.node l)] (1, [A.t (T.int (fi p l 0))]) := by
  obtain ⟨n0, h0⟩ := idx0_loop hq l p hl hp l.length 0 (by omega)
  rw [List.drop_zero] at h0
  refine Does.of n0 fun m hm => ?_
  have q : den Tryd.prog G0 ents m i (some pp) [A.t (T.node l), A.t (T.int (l.length : Nat)), A.t (T.int 0)] = _ := h0 m hm
  rw [hq2]
  simp only [S0, S9, S1, S2, if_true, if_false, q]
  cases hb : l.any p
  · rw [fi_none hb]; rfl
  · rfl
theorem has0_does {i i2 ic : Nat} {pp : List Bool} (hq3 : ∀ n x0, den Tryd.prog G0 ents (Nat.succ n) i2 none [A.t x0] =
  cl n i [aL x0.k] fun v0 => rt [aB (ge (r v0 0).n 0)]) (hq2 : ∀ n x0, den Tryd.prog G0 ents (Nat.succ n) i none [A.t x0] =
  lp n i pp [aL x0.k,aI x0.l,aI 0] fun v0 => bif Nat.beq v0.1 2 then rt [aI (-1)] else bif Nat.beq v0.1 1 then rt [aI (r v0.2 0).n] else none) (hq : ∀ n x0 x1 x2, den Tryd.prog G0 ents (Nat.succ n) i (some pp) [A.t x0, A.t x1, A.t x2] =
  bif lt x2.n x1.n then bif ib x2.n x0.l then cl n ic [A.t (x0.a x2.n)] fun v0 => bif (r v0 0).b then rt [aI x2.n] else D n i (some pp) [aL x0.k,aI x1.n,aI (w6 (x2.n + 1))] else none else some (2,[]))
    (l : List T) (p : T → Bool) (hl : l.length ≤ 1000000000) (hp : ∀ x ∈ l, Dz ic none [A.t x] (1, [A.t (T.bool (p x))])) : Dz i2 none [A.t (T.node l)] (1, [A.t (T.bool (l.any p))]) := by
  obtain ⟨n0, h0⟩ := idx0_does hq2 hq l p hl hp
  refine Does.of n0 fun m hm => ?_
  rw [hq3]
  simp only [S0, S9, S1, S2, if_true, if_false, h0 m hm, fi_any]
theorem idx1_loop {i ic : Nat} {pp : List Bool} (hq : ∀ n x0 x1 x2 x3, den Tryd.prog G0 ents (Nat.succ n) i (some pp) [A.t x0, A.t x1, A.t x2, A.t x3] =
  bif lt x2.n x1.n then bif ib x2.n x0.l then cl n ic [A.t (x0.a x2.n),A.t x3] fun v0 => bif (r v0 0).b then rt [aI x2.n,A.t (r v0 1)] else D n i (some pp) [aL x0.k,aI x1.n,aI (w6 (x2.n + 1)),A.t (r v0 1)] else none else some (2,[A.t x3]))
    (l : List T) (c0 : T) (p : T → Bool) (hl : l.length ≤ 1000000000) (hp : ∀ x ∈ l, Dz ic none [A.t x, A.t c0] (1, [A.t (T.bool (p x)), A.t c0])) : ∀ (k j : Nat), j + k = l.length →
    Dz i (some pp) [A.t (T.node l), A.t (T.int (l.length : Nat)), A.t (T.int j), A.t c0] (if (l.drop j).any p then (1, [A.t (T.int (fi p (l.drop j) j)), A.t c0]) else (2, [A.t c0])) := by
  intro k
  induction k with
  | zero =>
    intro j hj
    rw [List.drop_of_length_le (by omega)]
    refine Does.now fun m => ?_
    rw [hq]
    simp only [S0, S9, S1, S2, if_true, if_false, List.any_nil]
    rw [if_neg (by omega)]
  | succ k ih =>
    intro j hj
    have hlt : j < l.length := by omega
    have hw : IntKind.i64.wrap ((j : Int) + 1) = ((j + 1 : Nat) : Int) := i64succ (by omega)
    obtain ⟨n0, h0⟩ := (hp _ (List.getElem_mem hlt)).both (ih (j + 1) (by omega))
    refine Does.of n0 fun m hm => ?_
    obtain ⟨q, q2⟩ := h0 m hm
    rw [hq, List.drop_eq_getElem_cons hlt, List.any_cons, fi]
    simp only [S0, S9, S1, S2, if_true, if_false, hw, at_get hlt, q]
    rw [if_pos (by omega), if_pos (by omega)]
    cases p l[j]
    · simp only [Bool.false_eq_true, if_false, false_or]; exact q2
    · rfl
theorem idx1_does {i ic : Nat} {pp : List Bool} (hq2 : ∀ n x0 x1, den Tryd.prog G0 ents (Nat.succ n) i none [A.t x0, A.t x1] =
  lp n i pp [aL x0.k,aI x0.l,aI 0,A.t x1] fun v0 => bif Nat.beq v0.1 2 then rt [aI (-1),A.t (r v0.2 0)] else bif Nat.beq v0.1 1 then rt [aI (r v0.2 0).n,A.t (r v0.2 1)] else none) (hq : ∀ n x0 x1 x2 x3, den Tryd.prog G0 ents (Nat.succ n) i (some pp) [A.t x0, A.t x1, A.t x2, A.t x3] =
  bif lt x2.n x1.n then bif ib x2.n x0.l then cl n ic [A.t (x0.a x2.n),A.t x3] fun v0 => bif (r v0 0).b then rt [aI x2.n,A.t (r v0 1)] else D n i (some pp) [aL x0.k,aI x1.n,aI (w6 (x2.n + 1)),A.t (r v0 1)] else none else some (2,[A.t x3]))
    (l : List T) (c0 : T) (p : T → Bool) (hl : l.length ≤ 1000000000) (hp : ∀ x ∈ l, Dz ic none [A.t x, A.t c0] (1, [A.t (T.bool (p x)), A.t c0])) : Dz i none [A.t (T.node l), A.t c0] (1, [A.t (T.int (fi p l 0)), A.t c0]) := by
  obtain ⟨n0, h0⟩ := idx1_loop hq l c0 p hl hp l.length 0 (by omega)
  rw [List.drop_zero] at h0
  refine Does.of n0 fun m hm => ?_
  have q : den Tryd.prog G0 ents m i (some pp) [A.t (T.node l), A.t (T.int (l.length : Nat)), A.t (T.int 0), A.t c0] = _ := h0 m hm
  rw [hq2]
  simp only [S0, S9, S1, S2, if_true, if_false, q]
  cases hb : l.any p
  · rw [fi_none hb]; rfl
  · rfl
theorem has1_does {i i2 ic : Nat} {pp : List Bool} (hq3 : ∀ n x0 x1, den Tryd.prog G0 ents (Nat.succ n) i2 none [A.t x0, A.t x1] =
  cl n i [aL x0.k,A.t x1] fun v0 => rt [aB (ge (r v0 0).n 0),A.t (r v0 1)]) (hq2 : ∀ n x0 x1, den Tryd.prog G0 ents (Nat.succ n) i none [A.t x0, A.t x1] =
  lp n i pp [aL x0.k,aI x0.l,aI 0,A.t x1] fun v0 => bif Nat.beq v0.1 2 then rt [aI (-1),A.t (r v0.2 0)] else bif Nat.beq v0.1 1 then rt [aI (r v0.2 0).n,A.t (r v0.2 1)] else none) (hq : ∀ n x0 x1 x2 x3, den Tryd.prog G0 ents (Nat.succ n) i (some pp) [A.t x0, A.t x1, A.t x2, A.t x3] =
  bif lt x2.n x1.n then bif ib x2.n x0.l then cl n ic [A.t (x0.a x2.n),A.t x3] fun v0 => bif (r v0 0).b then rt [aI x2.n,A.t (r v0 1)] else D n i (some pp) [aL x0.k,aI x1.n,aI (w6 (x2.n + 1)),A.t (r v0 1)] else none else some (2,[A.t x3]))
    (l : List T) (c0 : T) (p : T → Bool) (hl : l.length ≤ 1000000000) (hp : ∀ x ∈ l, Dz ic none [A.t x, A.t c0] (1, [A.t (T.bool (p x)), A.t c0])) : Dz i2 none [A.t (T.node l), A.t c0] (1, [A.t (T.bool (l.any p)), A.t c0]) := by
  obtain ⟨n0, h0⟩ := idx1_does hq2 hq l c0 p hl hp
  refine Does.of n0 fun m hm => ?_
  rw [hq3]
  simp only [S0, S9, S1, S2, if_true, if_false, h0 m hm, fi_any]
end Go.Proofs.YtigbgcopidghfaaDoorDP
namespace Go.Proofs.YtigbgcopidghfaaDoorDP
open Go Go.Proofs.YtigbgcopidghfaaDoorVM
set_option linter.unusedVariables false
set_option linter.unusedSimpArgs false
set_option maxRecDepth 100000

theorem sum_cons (a : Nat) (l : List Nat) : sumN (a :: l) = a + sumN l := rfl
theorem max_cons (a : Nat) (l : List Nat) : maxN (a :: l) = max a (maxN l) := rfl
theorem val_eq (f : T) : T.get f 1 = val f := id rfl
theorem nm_eq (f : T) : (T.get f 0).txt = nm f := id rfl
theorem sum_less {α : Type} (f : α → Nat) (h : ∀ x, 1 ≤ f x) : ∀ l : List α, l.length + sumN (l.map fun x => f x - 1) = sumN (l.map f)
  | [] => rfl
  | x :: l => by
    have := sum_less f h l
    have h1 := h x
    simp only [List.map_cons, sum_cons, List.length_cons]
    omega
theorem dep_le : ∀ (d : Nat) (v : T), dep d v ≤ d
  | 0, v => Nat.le_refl _
  | d + 1, v => by
    have h : ∀ l : List Nat, (∀ x ∈ l, x ≤ d) → maxN l ≤ d := by
      intro l
      induction l with
      | nil => intro _; exact Nat.zero_le _
      | cons x l ih => intro hx; rw [max_cons]; have := hx x List.mem_cons_self; have := ih fun y hy => hx y (List.mem_cons_of_mem _ hy); omega
    have : maxN ((terms v).map fun t => maxN ((flds t).map fun f => dep d (val f))) ≤ d := by
      refine h _ fun x hx => ?_
      obtain ⟨t, _, rfl⟩ := List.mem_map.1 hx
      refine h _ fun y hy => ?_
      obtain ⟨f, _, rfl⟩ := List.mem_map.1 hy
      exact dep_le d (val f)
    simp only [dep]
    omega
def few (v : T) : Bool := decide (0 ≤ leftF 20 v 200) && decide (wt 20 v ≤ 40)
theorem few_sm {v : T} (h : few v = true) : Sm 20 v := by
  unfold few at h
  rw [Bool.and_eq_true, decide_eq_true_eq, decide_eq_true_eq] at h
  exact ⟨(left_few 20 v 200 h.1).1, by omega⟩
end Go.Proofs.YtigbgcopidghfaaDoorDP
namespace Go.Proofs.YtigbgcopidghfaaDoorDP
open Go Go.Proofs.YtigbgcopidghfaaDoorVM
set_option linter.unusedVariables false
set_option linter.unusedSimpArgs false
set_option maxRecDepth 100000

def fst (x y : Int) : Int := if x = 0 then y else x
theorem fst_zero (y : Int) : fst 0 y = y := rfl
theorem fst_ne {x : Int} (h : x ≠ 0) (y : Int) : fst x y = x := if_neg h
theorem fst_z (x : Int) : fst x 0 = x := by
  unfold fst
  split <;> simp_all
theorem fst_assoc (a b c : Int) : fst (fst a b) c = fst a (fst b c) := by
  unfold fst
  by_cases h : a = 0
  · simp [h]
  · simp [h]
def cmpI (a b : Int) : Int := if a < b then -1 else if a > b then 1 else 0
def cmpF1 (a b : Bool) : Int := (if a then 1 else 0) - (if b then 1 else 0)
def cmpL (f : T → T → Int) : List T → List T → Int
  | [], [] => 0
  | [], _ :: _ => -1
  | _ :: _, [] => 1
  | a :: l, b :: m => fst (f a b) (cmpL f l m)
theorem cmpL_cons (f : T → T → Int) (a b : T) (l m : List T) : cmpL f (a :: l) (b :: m) = fst (f a b) (cmpL f l m) := rfl
theorem cmpL_end (f : T → T → Int) (l m : List T) (j : Nat) (h : j = min l.length m.length) : cmpL f (l.drop j) (m.drop j) = cmpI l.length m.length := by
  unfold cmpI
  rcases Nat.lt_trichotomy l.length m.length with h1 | h1 | h1
  · rw [List.drop_of_length_le (l := l) (by omega), if_pos (by omega), List.drop_eq_getElem_cons (l := m) (i := j) (by omega)]; rfl
  · rw [List.drop_of_length_le (l := l) (by omega), List.drop_of_length_le (l := m) (by omega), if_neg (by omega), if_neg (by omega)]; rfl
  · rw [List.drop_of_length_le (l := m) (by omega), if_neg (by omega), if_pos (by omega), List.drop_eq_getElem_cons (l := l) (i := j) (by omega)]; rfl
def plainC (a b : T) : Int := fst (cmpI (a.get 0).num (b.get 0).num) (fst (cmpI (a.get 1).num (b.get 1).num) (fst (cmpI (a.get 2).num (b.get 2).num) (fst (cmpB (a.get 3).txt (b.get 3).txt)
  (fst (cmpF1 (a.get 4).tf (b.get 4).tf) (fst (cmpF1 (a.get 5).tf (b.get 5).tf) (cmpF1 (a.get 6).tf (b.get 6).tf))))))
def cmpV : Nat → T → T → Int
  | 0, _, _ => 0
  | d + 1, a, b => cmpL (fun t u => fst (plainC t u) (cmpL (fun f g => fst (cmpB (nm f) (nm g)) (cmpV d (val f) (val g))) (flds t) (flds u))) (terms a) (terms b)
def cmpG (d : Nat) (f g : T) : Int := fst (cmpB (nm f) (nm g)) (cmpV d (val f) (val g))
def cmpT (d : Nat) (t u : T) : Int := fst (plainC t u) (cmpL (cmpG d) (flds t) (flds u))
theorem cmpV_succ (d : Nat) (a b : T) : cmpV (d + 1) a b = cmpL (cmpT d) (terms a) (terms b) := rfl

theorem neg1 : Int.negSucc 0 = -1 := id rfl
def firstL : List Int → Int
  | [] => 0
  | x :: l => fst x (firstL l)
def SmT (d : Nat) (t : T) : Prop := (flds t).length ≤ 100 ∧ ∀ f ∈ flds t, Sm d (val f)
theorem Sm.term {d : Nat} {v t : T} (h : Sm (d + 1) v) (ht : t ∈ YtigbgcopidghfaaDoorDP.terms v) : SmT d t := ⟨h.flds ht, fun f hf => h.sub ht hf⟩
end Go.Proofs.YtigbgcopidghfaaDoorDP
namespace Go.Proofs.YtigbgcopidghfaaDoorDP
open Go Go.Proofs.YtigbgcopidghfaaDoorVM
set_option linter.unusedVariables false
set_option linter.unusedSimpArgs false
set_option maxRecDepth 100000

theorem seqB_iff (a b : ByteArray) : seqB a b = true ↔ a = b := by
  simp only [seqB, beq_iff_eq]
  exact ⟨fun h => by rw [ByteArray.toList_eq, ByteArray.toList_eq] at h; exact ByteArray.ext (Array.toList_inj.1 h), fun h => by rw [h]⟩
theorem bl_irrefl : ∀ l : List UInt8, Op.bytesLess l l = false
  | [] => rfl
  | a :: l => by simp [Op.bytesLess, bl_irrefl l, UInt8.lt_irrefl]
theorem bl_tri : ∀ l m : List UInt8, Op.bytesLess l m = true ∨ Op.bytesLess m l = true ∨ l = m
  | [], [] => .inr (.inr rfl)
  | [], _ :: _ => .inl rfl
  | _ :: _, [] => .inr (.inl rfl)
  | a :: l, b :: m => by
    simp only [Op.bytesLess, Bool.or_eq_true, decide_eq_true_eq, Bool.and_eq_true, beq_iff_eq, List.cons.injEq]
    rcases UInt8.lt_or_lt_of_ne (a := a) (b := b) |> fun h => (Classical.em (a = b)).imp_right h with h | h | h
    · subst h
      rcases bl_tri l m with h | h | h
      · exact .inl (.inr ⟨rfl, h⟩)
      · exact .inr (.inl (.inr ⟨rfl, h⟩))
      · exact .inr (.inr ⟨rfl, h⟩)
    · exact .inl (.inl h)
    · exact .inr (.inl (.inl h))
theorem bl_asymm : ∀ l m : List UInt8, Op.bytesLess l m = true → Op.bytesLess m l = false
  | l, [], h => by cases l <;> simp [Op.bytesLess] at h
  | [], _ :: _, _ => rfl
  | a :: l, b :: m, h => by
    simp only [Op.bytesLess, Bool.or_eq_true, decide_eq_true_eq, Bool.and_eq_true, beq_iff_eq] at h
    simp only [Op.bytesLess, Bool.or_eq_false_iff, decide_eq_false_iff_not, Bool.and_eq_false_iff, beq_eq_false_iff_ne]
    rcases h with h | ⟨rfl, h⟩
    · exact ⟨UInt8.lt_asymm h, .inl (fun e => by subst e; exact UInt8.lt_irrefl _ h)⟩
    · exact ⟨UInt8.lt_irrefl _, .inr (bl_asymm l m h)⟩
theorem slt_asymm {a b : ByteArray} (h : sltB a b = true) : sltB b a = false := bl_asymm _ _ h
theorem slt_tri (a b : ByteArray) : sltB a b = true ∨ sltB b a = true ∨ a = b := by
  rcases bl_tri a.toList b.toList with h | h | h
  · exact .inl h
  · exact .inr (.inl h)
  · exact .inr (.inr ((seqB_iff a b).1 (by simp [seqB, h])))
theorem slt_irrefl (a : ByteArray) : sltB a a = false := bl_irrefl _
theorem cmpI_zero {a b : Int} : cmpI a b = 0 ↔ a = b := by unfold cmpI; split <;> (try split) <;> omega
theorem cmpF1_zero {a b : Bool} : cmpF1 a b = 0 ↔ a = b := by cases a <;> cases b <;> simp [cmpF1]
theorem cmpB_zero {a b : ByteArray} : cmpB a b = 0 ↔ a = b := by
  unfold cmpB
  rcases slt_tri a b with h | h | h
  · simp [h]; intro e; subst e; rw [slt_irrefl] at h; cases h
  · simp [h, slt_asymm h]; intro e; subst e; rw [slt_irrefl] at h; cases h
  · subst h; simp [slt_irrefl]
end Go.Proofs.YtigbgcopidghfaaDoorDP
namespace Go.Proofs.YtigbgcopidghfaaDoorDP
open Go Go.Proofs.YtigbgcopidghfaaDoorVM
set_option linter.unusedVariables false
set_option linter.unusedSimpArgs false
set_option maxRecDepth 100000

def kd (t : T) : Int := (t.get 0).num
def lo (t : T) : Int := (t.get 1).num
def hi (t : T) : Int := (t.get 2).num
def tx (t : T) : ByteArray := (t.get 3).txt
def an (t : T) : Bool := (t.get 4).tf
def mb (t : T) : Bool := (t.get 5).tf
def op (t : T) : Bool := (t.get 6).tf
def emptyB : ByteArray := ⟨#[]⟩
def one (t : T) : Bool := if kd t = 3 then !an t else decide (lo t = hi t)
def rightK (k l h : Int) (x : ByteArray) (a : Bool) : Bool :=
  if k = 3 then decide (l = 0) && decide (h = 0) && (if a then decide (x = emptyB) else decide (x.size ≤ 256))
  else if k = 2 then decide (-9007199254740992 ≤ l) && decide (l ≤ h) && decide (h ≤ 9007199254740992) && decide (x = emptyB) && !a
  else if k = 1 then decide (0 ≤ l) && decide (l ≤ h) && decide (h ≤ 1) && decide (x = emptyB) && !a
  else false
def rightS (t : T) : Bool := !op t && decide ((flds t).length = 0) && !(mb t && one t) && rightK (kd t) (lo t) (hi t) (tx t) (an t)
theorem kd_eq (t : T) : (T.get t 0).num = kd t := id rfl
theorem lo_eq (t : T) : (T.get t 1).num = lo t := id rfl
theorem hi_eq (t : T) : (T.get t 2).num = hi t := id rfl
theorem tx_eq (t : T) : (T.get t 3).txt = tx t := id rfl
theorem an_eq (t : T) : (T.get t 4).tf = an t := id rfl
theorem mb_eq (t : T) : (T.get t 5).tf = mb t := id rfl
theorem op_eq (t : T) : (T.get t 6).tf = op t := id rfl
theorem seq_dec (a b : ByteArray) : seqB a b = decide (a = b) := by
  cases h : seqB a b with
  | true => rw [(seqB_iff a b).1 h]; simp
  | false =>
    symm
    rw [decide_eq_false_iff_not]
    intro e
    rw [(seqB_iff a b).2 e] at h
    cases h
theorem eb_eq : (ByteArray.mk (List.toArray [])) = emptyB := id rfl
theorem e0_zero (n : Nat) : (((n : Nat) : Int) = 0) = (n = 0) := by simp
theorem coll (p : Prop) [Decidable p] (b c : Bool) : (if p then some ((1 : Nat), [A.t (T.bool b)]) else some (1, [A.t (T.bool c)])) = some (1, [A.t (T.bool (if p then b else c))]) := by split <;> rfl
theorem ans {b c : Bool} (h : b = c) : some ((1 : Nat), [A.t (T.bool b)]) = some (1, [A.t (T.bool c)]) := by rw [h]
def sameS (a b : T) : Bool := rightS a && rightS b && decide (kd a = kd b) && decide (lo a = lo b) && decide (hi a = hi b) && decide (tx a = tx b) && decide (an a = an b) && decide (mb a = mb b)
end Go.Proofs.YtigbgcopidghfaaDoorDP
namespace Go.Proofs.YtigbgcopidghfaaDoorDP
open Go Go.Proofs.YtigbgcopidghfaaDoorVM
set_option linter.unusedVariables false
set_option linter.unusedSimpArgs false
set_option maxRecDepth 100000

def trm (k l h : Int) (x : ByteArray) (a m o : Bool) (f : List T) : T := .node [.int k, .int l, .int h, .str x, .bool a, .bool m, .bool o, .node f]
theorem kd_trm (k l h : Int) (x : ByteArray) (a m o : Bool) (f : List T) : kd (trm k l h x a m o f) = k := id rfl
theorem lo_trm (k l h : Int) (x : ByteArray) (a m o : Bool) (f : List T) : lo (trm k l h x a m o f) = l := id rfl
theorem hi_trm (k l h : Int) (x : ByteArray) (a m o : Bool) (f : List T) : hi (trm k l h x a m o f) = h := id rfl
theorem tx_trm (k l h : Int) (x : ByteArray) (a m o : Bool) (f : List T) : tx (trm k l h x a m o f) = x := id rfl
theorem an_trm (k l h : Int) (x : ByteArray) (a m o : Bool) (f : List T) : an (trm k l h x a m o f) = a := id rfl
theorem mb_trm (k l h : Int) (x : ByteArray) (a m o : Bool) (f : List T) : mb (trm k l h x a m o f) = m := id rfl
def noTrm : T := trm 0 0 0 emptyB false false false []
def mX (a b : T) : ByteArray := if an a then tx b else tx a
def m0 (a b : T) (m : Bool) : T := trm (kd a) (maxI (lo a) (lo b)) (minI (hi a) (hi b)) (mX a b) (an a && an b) m false []
def okM (a b : T) : Bool := rightS a && rightS b && decide (kd a = kd b) && !decide (maxI (lo a) (lo b) > minI (hi a) (hi b)) && (an a || an b || decide (tx a = tx b))
def mT (a b : T) : T := m0 a b ((mb a || mb b) && !one (m0 a b false))
theorem noTrm_eq : T.node [T.int 0, T.int 0, T.int 0, T.str ByteArray.empty, T.bool false, T.bool false, T.bool false, T.node []] = noTrm := id rfl
theorem trm_eq (k l h : Int) (x : ByteArray) (a m o : Bool) (f : List T) : T.node [T.int k, T.int l, T.int h, T.str x, T.bool a, T.bool m, T.bool o, T.node f] = trm k l h x a m o f := id rfl
theorem one_m (a b : T) (m : Bool) : one (m0 a b m) = one (m0 a b false) := id rfl
theorem maxI_pos {a b : Int} (h : b > a) : maxI a b = b := if_pos h
theorem maxI_neg {a b : Int} (h : ¬ b > a) : maxI a b = a := if_neg h
theorem minI_pos {a b : Int} (h : b < a) : minI a b = b := if_pos h
theorem minI_neg {a b : Int} (h : ¬ b < a) : minI a b = a := if_neg h
theorem right_op {t : T} (h : rightS t = true) : op t = false ∧ flds t = [] ∧ (kd t ≠ 3 → an t = false ∧ tx t = emptyB) := by
  unfold rightS rightK at h
  simp only [Bool.and_eq_true, Bool.not_eq_true', decide_eq_true_eq] at h
  refine ⟨h.1.1.1, List.eq_nil_of_length_eq_zero h.1.1.2, fun hk => ?_⟩
  have h2 := h.2
  rw [if_neg hk] at h2
  split at h2
  · simp at h2; exact ⟨h2.2, h2.1.2⟩
  · split at h2
    · simp at h2; exact ⟨h2.2, h2.1.2⟩
    · cases h2
def belowS (a b : T) : Bool := okM a b && sameS (mT a b) a
end Go.Proofs.YtigbgcopidghfaaDoorDP
namespace Go.Proofs.YtigbgcopidghfaaDoorDP
open Go Go.Proofs.YtigbgcopidghfaaDoorVM
set_option linter.unusedVariables false
set_option linter.unusedSimpArgs false
set_option maxRecDepth 100000

theorem nameR_eq (n : Nat) (a : ByteArray) : den Tryd.prog G0 ents (Nat.succ n) i_name_Right none [A.t (T.str a)] = some (1, [A.t (T.bool (nameB a))]) := by kernel_rfl
theorem nameR_does (a : ByteArray) : Dz i_name_Right none [A.t (T.str a)] (1, [A.t (T.bool (nameB a))]) := Does.now fun n => nameR_eq n a
theorem collI (p : Prop) [Decidable p] (b c : Int) : (if p then some ((1 : Nat), [A.t (T.int b)]) else some (1, [A.t (T.int c)])) = some (1, [A.t (T.int (if p then b else c))]) := by split <;> rfl
theorem ansI {b c : Int} (h : b = c) : some ((1 : Nat), [A.t (T.int b)]) = some (1, [A.t (T.int c)]) := by rw [h]
theorem seq_comm (a b : ByteArray) : seqB a b = seqB b a := by
  rw [seq_dec, seq_dec]
  exact decide_eq_decide.2 ⟨Eq.symm, Eq.symm⟩
def wordN (s : ByteArray) : Int := if seqB s ⟨#[97, 110, 121]⟩ = true then 1 else if seqB s ⟨#[98, 111, 111, 108]⟩ = true then 2 else if seqB s ⟨#[99, 111, 109, 112, 117, 116, 101, 100]⟩ = true then 3 else if seqB s ⟨#[102, 97, 108, 115, 101]⟩ = true then 4 else if seqB s ⟨#[105, 110, 116]⟩ = true then 5 else if seqB s ⟨#[110, 111, 110, 101]⟩ = true then 6 else if seqB s ⟨#[114, 101, 115, 111, 117, 114, 99, 101]⟩ = true then 7 else if seqB s ⟨#[115, 116, 114, 105, 110, 103]⟩ = true then 8 else if seqB s ⟨#[116, 114, 117, 101]⟩ = true then 9 else 0
theorem word_does (s : ByteArray) : Dz i_R02_Word none [A.t (T.str s)] (1, [A.t (T.int (wordN s))]) := by
  refine Does.now fun n => ?_
  rw [q_R02_Word]
  simp only [S9, S1, txt_str, Bool.cond_eq_ite, collI]
  rfl
theorem wordN_pos (s : ByteArray) : decide (wordN s > 0) = wordsL.any fun w => seqB w s := by
  simp only [wordsL, List.any_cons, List.any_nil, Bool.or_false]
  rw [seq_comm ⟨#[97, 110, 121]⟩ s, seq_comm ⟨#[98, 111, 111, 108]⟩ s, seq_comm ⟨#[99, 111, 109, 112, 117, 116, 101, 100]⟩ s, seq_comm ⟨#[102, 97, 108, 115, 101]⟩ s, seq_comm ⟨#[105, 110, 116]⟩ s, seq_comm ⟨#[110, 111, 110, 101]⟩ s, seq_comm ⟨#[114, 101, 115, 111, 117, 114, 99, 101]⟩ s, seq_comm ⟨#[115, 116, 114, 105, 110, 103]⟩ s, seq_comm ⟨#[116, 114, 117, 101]⟩ s]
  unfold wordN
  generalize seqB s ⟨#[97, 110, 121]⟩ = b0
  generalize seqB s ⟨#[98, 111, 111, 108]⟩ = b1
  generalize seqB s ⟨#[99, 111, 109, 112, 117, 116, 101, 100]⟩ = b2
  generalize seqB s ⟨#[102, 97, 108, 115, 101]⟩ = b3
  generalize seqB s ⟨#[105, 110, 116]⟩ = b4
  generalize seqB s ⟨#[110, 111, 110, 101]⟩ = b5
  generalize seqB s ⟨#[114, 101, 115, 111, 117, 114, 99, 101]⟩ = b6
  generalize seqB s ⟨#[115, 116, 114, 105, 110, 103]⟩ = b7
  generalize seqB s ⟨#[116, 114, 117, 101]⟩ = b8
  grind
theorem rname_loop (s : ByteArray) (hs : s.size ≤ 1000) : ∀ (k j : Nat), j + k = s.size →
    Dz i_R02_Right (some p_R02_Right_c1) [A.t (T.str s), A.t (T.int j)] (if (s.data.toList.drop j).all inner then (2, []) else (1, [A.t (T.bool false)])) := by
  have hl : s.data.toList.length = s.size := by rw [Array.length_toList]; rfl
  intro k
  induction k with
  | zero =>
    intro j hj
    refine Does.now fun m => ?_
    rw [q_R02_Right_c1, List.drop_of_length_le (by omega)]
    simp only [S0, S9, S1, S2, if_true, if_false]
    rw [if_neg (by omega)]
    rfl
  | succ k ih =>
    intro j hj
    have hlt : j < s.data.toList.length := by omega
    have hw : IntKind.i64.wrap ((j : Int) + 1) = ((j + 1 : Nat) : Int) := i64succ (by omega)
    obtain ⟨n0, h0⟩ := ih (j + 1) (by omega)
    refine Does.of n0 fun m hm => ?_
    have q := h0 m hm
    have hg : Array.getD s.data j (0 : UInt8) = s.data.toList[j] := by
      have : j < s.data.size := by simpa using hlt
      rw [Array.getD, dif_pos this, Array.getInternal_eq_getElem, Array.getElem_toList]
    rw [q_R02_Right_c1, List.drop_eq_getElem_cons hlt, List.all_cons]
    simp only [S0, S9, S1, S2, if_true, if_false, hw, hg, q, Bool.beq_eq_decide_eq, Bool.not_eq_true', Bool.not_eq_false']
    generalize (s.data.toList.drop (j + 1)).all inner = r
    unfold inner small
    generalize hb : (s.data.toList[j]).toNat = b
    rw [if_pos (by omega), if_pos (by omega)]
    have h1 : (((b : Nat) : Int) ≥ 97) = (97 ≤ b) := by apply propext; omega
    have h2 : (((b : Nat) : Int) ≤ 122) = (b ≤ 122) := by apply propext; omega
    have h3 : (((b : Nat) : Int) ≥ 48) = (48 ≤ b) := by apply propext; omega
    have h4 : (((b : Nat) : Int) ≤ 57) = (b ≤ 57) := by apply propext; omega
    have h5 : (((b : Nat) : Int) = 95) = (b = 95) := by apply propext; omega
    have h6 : ((0 : Int) ≤ (j : Int) ∧ (j : Int) < (s.size : Nat)) = True := by apply propext; constructor <;> intro <;> first | trivial | omega
    simp only [h1, h2, h3, h4, h5, h6, if_true]
    by_cases g1 : 97 ≤ b <;> by_cases g2 : b ≤ 122 <;> by_cases g3 : 48 ≤ b <;> by_cases g4 : b ≤ 57 <;> by_cases g5 : b = 95 <;> cases r <;> simp [g1, g2, g3, g4, g5] <;> omega
theorem rname_does (s : ByteArray) : Dz i_R02_Right none [A.t (T.str s)] (1, [A.t (T.bool (nameB s))]) := by
  have hl : s.data.toList.length = s.size := by rw [Array.length_toList]; rfl
  by_cases h16 : s.size ≤ 16
  · obtain ⟨n1, h1⟩ := word_does s
    cases he : s.data.toList with
    | nil =>
      refine Does.now fun m => ?_
      rw [q_R02_Right]
      have h0 : s.size = 0 := by rw [← hl, he]; rfl
      simp only [S0, S9, S1, S2, if_true, if_false, h0, nameB, he, nameL, Bool.and_false]
      rfl
    | cons c l =>
      obtain ⟨n2, h2⟩ := rname_loop s (by omega) (s.size - 1) 1 (by rw [← hl, he]; simp; omega)
      refine Does.of (n1 + n2) fun m hm => ?_
      have q1 := h1 m (by omega)
      have q2 : den Tryd.prog G0 ents m i_R02_Right (some p_R02_Right_c1) [A.t (T.str s), A.t (T.int 1)] = _ := h2 m (by omega)
      have hsz : 0 < s.size := by rw [← hl, he]; simp
      have hg : Array.getD s.data 0 (0 : UInt8) = c := by
        have : 0 < s.data.size := hsz
        have h3 : s.data[0] = s.data.toList[0]'(by omega) := (Array.getElem_toList _).symm
        rw [Array.getD, dif_pos this, Array.getInternal_eq_getElem, h3]
        simp only [he, List.getElem_cons_zero]
      rw [q_R02_Right]
      have hd : s.data.toList.drop 1 = l := by rw [he]; rfl
      rw [hd] at q2
      have hw := wordN_pos s
      simp only [S0, S9, S1, S2, if_true, if_false, q1, q2, hg, nameB, he, nameL, ← hw, Bool.beq_eq_decide_eq]
      unfold small
      generalize wordN s = w
      generalize l.all inner = r
      generalize c.toNat = b
      rw [if_pos (by omega), if_pos (by omega), decide_eq_true h16]
      by_cases hw : w > 0
      · rw [if_neg (by omega), decide_eq_true hw]; rfl
      rw [if_pos hw, if_pos (by omega), decide_eq_false hw]
      by_cases hb1 : 97 ≤ b
      · by_cases hb2 : b ≤ 122
        · rw [if_pos (by omega), if_pos (by omega), if_neg (by omega), decide_eq_true hb1, decide_eq_true hb2]
          cases r <;> rfl
        · rw [if_pos (by omega), if_pos (by omega), if_pos (by omega), decide_eq_true hb1, decide_eq_false hb2]; rfl
      · rw [if_neg (by omega), decide_eq_false hb1]; rfl
  · refine Does.now fun m => ?_
    rw [q_R02_Right]
    simp only [S0, S9, S1, S2, if_true, if_false, nameB, decide_eq_false h16, Bool.false_and]
    repeat (first | rw [if_pos (by omega)] | rw [if_neg (by omega)])
def okAt (l : List T) (j : Nat) : Bool := nameB (nm (tAtD l j)) && (j == 0 || sltB (nm (tAtD l (j - 1))) (nm (tAtD l j)))
def riseFrom (l : List T) : Nat → Nat → Bool
  | 0, _ => true
  | k + 1, j => okAt l j && riseFrom l k (j + 1)
def names (l : List T) : Bool := riseFrom l l.length 0
theorem nle_iff (a b : ByteArray) : (sltB a b || seqB a b) = !sltB b a := by
  rcases slt_tri a b with h | h | h
  · rw [h, slt_asymm h]; rfl
  · rw [h, slt_asymm h, seq_dec]
    have : a ≠ b := fun e => by subst e; rw [slt_irrefl] at h; cases h
    rw [decide_eq_false this]; rfl
  · subst h; rw [slt_irrefl, seq_dec, decide_eq_true rfl]; rfl
end Go.Proofs.YtigbgcopidghfaaDoorDP
namespace Go.Proofs.YtigbgcopidghfaaDoorDP
open Go Go.Proofs.YtigbgcopidghfaaDoorVM
set_option linter.unusedVariables false
set_option linter.unusedSimpArgs false
set_option maxRecDepth 100000

structure Dk where
  dn : Bool
  lf : Int
  kp : Int
  op : Int
  fs : List T
def f0 : T := .node [.str ByteArray.empty, .int 0]
def gF (fs : List T) (s : ByteArray) : T := mget keyS f0 fs (.str s)
def hF (fs : List T) (s : ByteArray) : Bool := mhas keyS fs (.str s)
def fT (f : T) : ByteArray := (f.get 0).txt
def fN (f : T) : Int := (f.get 1).num
def fil (s : ByteArray) (n : Int) : T := .node [.str s, .int n]
def putF (fs : List T) (s : ByteArray) (v : T) : List T := mput keyS fs (.str s) v
def delF (fs : List T) (s : ByteArray) : List T := mdel keyS fs (.str s)
theorem fT_fil (s : ByteArray) (n : Int) : fT (fil s n) = s := id rfl
theorem fN_fil (s : ByteArray) (n : Int) : fN (fil s n) = n := id rfl
def Fw (f : T) : Prop := 0 ≤ fN f ∧ fN f ≤ ((fT f).size : Int) ∧ (fT f).size ≤ 4194304
def Wf (fs : List T) : Prop := ∀ s, Fw (gF fs s)
theorem key_self (s : ByteArray) : keyS (.str s) (.str s) = true := by
  show seqB s s = true
  unfold seqB
  exact beq_self_eq_true _
theorem key_iff (a b : T) : keyS a b = true ↔ a.txt = b.txt := by
  unfold keyS seqB
  rw [beq_iff_eq]
  exact ⟨fun h => by rw [ByteArray.toList_eq, ByteArray.toList_eq] at h; exact ByteArray.ext (Array.toList_inj.1 h), fun h => by rw [h]⟩
theorem gF_put (fs : List T) (k s : ByteArray) (v : T) : gF (putF fs k v) s = if s = k then v else gF fs s := by
  unfold gF putF
  induction fs with
  | nil =>
    show mget keyS f0 [.node [.str k, v]] (.str s) = _
    simp only [mget]
    by_cases h : s = k
    · subst h
      rw [show keyS (.str s) ((T.node [.str s, v]).get 0) = true from key_self s, if_pos rfl]
      rfl
    · have : keyS (.str s) ((T.node [.str k, v]).get 0) = false := by
        cases hq : keyS (.str s) ((T.node [.str k, v]).get 0) with
        | false => rfl
        | true => exact absurd ((key_iff _ _).1 hq) h
      rw [this, if_neg h]
      rfl
  | cons e es ih =>
    simp only [mput]
    cases hk : keyS (.str k) (e.get 0) with
    | true =>
      have hke : k = (e.get 0).txt := (key_iff _ _).1 hk
      simp only [cond_true, mget]
      by_cases h : s = k
      · subst h
        rw [show keyS (.str s) ((T.node [.str s, v]).get 0) = true from key_self s, if_pos rfl]
        rfl
      · have h1 : keyS (.str s) ((T.node [.str k, v]).get 0) = false := by
          cases hq : keyS (.str s) ((T.node [.str k, v]).get 0) with
          | false => rfl
          | true => exact absurd ((key_iff _ _).1 hq) h
        have h2 : keyS (.str s) (e.get 0) = false := by
          cases hq : keyS (.str s) (e.get 0) with
          | false => rfl
          | true => exact absurd (((key_iff _ _).1 hq).trans hke.symm) h
        rw [h1, h2, if_neg h]
        rfl
    | false =>
      simp only [cond_false, mget]
      cases hs : keyS (.str s) (e.get 0) with
      | true =>
        have hne : ¬ s = k := fun h => by subst h; rw [hs] at hk; cases hk
        rw [if_neg hne]
        rfl
      | false => simp only [cond_false]; exact ih
theorem gF_del (fs : List T) (k s : ByteArray) (h : s ≠ k) : gF (delF fs k) s = gF fs s := by
  unfold gF delF
  induction fs with
  | nil => rfl
  | cons e es ih =>
    simp only [mdel]
    cases hk : keyS (.str k) (e.get 0) with
    | true =>
      have hke : k = (e.get 0).txt := (key_iff _ _).1 hk
      have h2 : keyS (.str s) (e.get 0) = false := by
        cases hq : keyS (.str s) (e.get 0) with
        | false => rfl
        | true => exact absurd (((key_iff _ _).1 hq).trans hke.symm) h
      simp only [cond_true, mget, h2, cond_false]
    | false =>
      simp only [cond_false, mget]
      cases hs : keyS (.str s) (e.get 0)
      · simp only [cond_false]; exact ih
      · rfl
theorem gF_no {fs : List T} {s : ByteArray} (h : hF fs s = false) : gF fs s = f0 := by
  unfold hF mhas at h
  unfold gF
  induction fs with
  | nil => rfl
  | cons e es ih =>
    rw [List.any_cons, Bool.or_eq_false_iff] at h
    simp only [mget, h.1, cond_false]
    exact ih h.2
theorem hF_put (fs : List T) (k s : ByteArray) (v : T) : hF (putF fs k v) s = (decide (s = k) || hF fs s) := by
  unfold hF putF
  induction fs with
  | nil =>
    show mhas keyS [.node [.str k, v]] (.str s) = _
    simp only [mhas, List.any_cons, List.any_nil, Bool.or_false]
    by_cases h : s = k
    · subst h; rw [decide_eq_true rfl]; exact key_self s
    · rw [decide_eq_false h]
      cases hq : keyS (.str s) ((T.node [.str k, v]).get 0) with
      | false => rfl
      | true => exact absurd ((key_iff _ _).1 hq) h
  | cons e es ih =>
    simp only [mput]
    cases hk : keyS (.str k) (e.get 0) with
    | true =>
      have hke : k = (e.get 0).txt := (key_iff _ _).1 hk
      simp only [cond_true, mhas, List.any_cons]
      have h3 : keyS (.str s) ((T.node [.str k, v]).get 0) = keyS (.str s) (e.get 0) := by
        show seqB s k = seqB s (e.get 0).txt
        rw [hke]
      rw [h3]
      by_cases h : s = k
      · subst h; rw [hk]; simp
      · rw [decide_eq_false h, Bool.false_or]
    | false =>
      simp only [cond_false, mhas, List.any_cons] at ih ⊢
      rw [ih]
      cases keyS (.str s) (e.get 0) <;> cases decide (s = k) <;> rfl
theorem Wf.put {fs : List T} (h : Wf fs) {k : ByteArray} {v : T} (hv : Fw v) : Wf (putF fs k v) := fun s => by
  rw [gF_put]
  split
  · exact hv
  · exact h s
theorem f0_ok : Fw f0 := ⟨by decide, by decide, by decide⟩
theorem put_eq (fs : List T) (s : ByteArray) (v : T) : mput keyS fs (T.str s) v = putF fs s v := id rfl
theorem del_eq (fs : List T) (s : ByteArray) : mdel keyS fs (T.str s) = delF fs s := id rfl
theorem gF_eq (fs : List T) (s : ByteArray) : mget keyS (fil ByteArray.empty 0) fs (T.str s) = gF fs s := id rfl
theorem hF_eq (fs : List T) (s : ByteArray) : mhas keyS fs (T.str s) = hF fs s := id rfl
theorem fT_eq (f : T) : (T.get f 0).txt = fT f := id rfl
theorem fN_eq (f : T) : (T.get f 1).num = fN f := id rfl
theorem fil_eq (s : ByteArray) (n : Int) : T.node [T.str s, T.int n] = fil s n := id rfl

theorem kname_eq (n : Nat) (a : ByteArray) : den Tryd.prog G0 ents (Nat.succ n) i_name_Right none [A.t (T.str a)] = some (1, [A.t (T.bool (nameB a))]) := by kernel_rfl
theorem kname_does (a : ByteArray) : Dz i_name_Right none [A.t (T.str a)] (1, [A.t (T.bool (nameB a))]) := Does.now fun n => kname_eq n a
theorem ksort_eq (n : Nat) (l : List T) : den Tryd.prog G0 ents (Nat.succ n) i_slices_Sorted none [A.t (T.node l)] = Option.map (fun o => (1, o)) (bif keysOk l then some [A.t (T.node (keysS l)), A.t (T.node l)] else none) := by kernel_rfl
theorem ksort_does {l : List T} (h : keysOk l = true) : Dz i_slices_Sorted none [A.t (T.node l)] (1, [A.t (T.node (keysS l)), A.t (T.node l)]) := Does.now fun n => by rw [ksort_eq, h]; rfl
theorem names_does (d : Dk) (h : keysOk d.fs = true) : Dz i_disk_Disk_Names none [A.t (T.bool d.dn), A.t (T.int d.lf), A.t (T.int d.kp), A.t (T.int d.op), A.t (T.node d.fs)] (1, [A.t (T.node (keysS d.fs)), A.t (T.bool d.dn), A.t (T.int d.lf), A.t (T.int d.kp), A.t (T.int d.op), A.t (T.node d.fs)]) := by
  have h0 : Dz i_maps_Keys_map_string_disk_file_string_disk_file none [A.t (T.node d.fs)] (1, [A.t (T.node d.fs)]) := Does.now fun m => by
    rw [q_maps_Keys_map_string_disk_file_string_disk_file]
    simp only [S0, S9, S1, S2, if_true, if_false]
  obtain ⟨n0, h0⟩ := h0.both (ksort_does h)
  refine Does.of n0 fun m hm => ?_
  rw [q_disk_Disk_Names]
  simp only [S0, S9, S1, S2, if_true, if_false, (h0 m hm).1, (h0 m hm).2]
theorem down_does (d : Dk) : Dz i_disk_Disk_Down none [A.t (T.bool d.dn), A.t (T.int d.lf), A.t (T.int d.kp), A.t (T.int d.op), A.t (T.node d.fs)] (1, [A.t (T.bool d.dn), A.t (T.bool d.dn), A.t (T.int d.lf), A.t (T.int d.kp), A.t (T.int d.op), A.t (T.node d.fs)]) := Does.now fun m => by
  rw [q_disk_Disk_Down]
  simp only [S0, S9, S1, S2, if_true, if_false]
def cutB (d : Dk) : Bool := !(d.lf == 0) && (IntKind.i64.wrap (d.lf - 1) == 0)
def dCut (d : Dk) : Dk := if d.lf = 0 then ⟨d.dn, d.lf, d.kp, IntKind.i64.wrap (d.op + 1), d.fs⟩ else ⟨IntKind.i64.wrap (d.lf - 1) == 0, IntKind.i64.wrap (d.lf - 1), d.kp, IntKind.i64.wrap (d.op + 1), d.fs⟩
theorem dCut_fs (d : Dk) : (dCut d).fs = d.fs := by unfold dCut; split <;> rfl
theorem dCut_kp (d : Dk) : (dCut d).kp = d.kp := by unfold dCut; split <;> rfl
theorem dCut_dn (d : Dk) (h : d.dn = false) : (dCut d).dn = cutB d := by
  unfold dCut cutB
  by_cases h0 : d.lf = 0
  · rw [if_pos h0, h0]; exact h
  · rw [if_neg h0]
    have : (d.lf == 0) = false := by simpa using h0
    rw [this]; rfl
theorem cut_does (d : Dk) : Dz i_disk_Disk_cut none [A.t (T.bool d.dn), A.t (T.int d.lf), A.t (T.int d.kp), A.t (T.int d.op), A.t (T.node d.fs)] (1, [A.t (T.bool (cutB d)), A.t (T.bool (dCut d).dn), A.t (T.int (dCut d).lf), A.t (T.int (dCut d).kp), A.t (T.int (dCut d).op), A.t (T.node (dCut d).fs)]) := Does.now fun m => by
  rw [q_disk_Disk_cut]
  by_cases h : d.lf = 0
  · simp only [S0, S9, S1, S2, if_true, if_false, cutB, dCut, h]
    rfl
  · have hb : (d.lf == 0) = false := by simpa using h
    simp only [cutB, dCut, hb, Bool.not_false, Bool.true_and, if_neg h, S0, S9, S1]
    rfl
def rdS (d : Dk) (s : ByteArray) : ByteArray := if d.dn then ⟨List.toArray []⟩ else if hF d.fs s then fT (gF d.fs s) else ⟨List.toArray []⟩
def rdE (d : Dk) (s : ByteArray) : Int := if d.dn then 8 else if hF d.fs s then 0 else 5
theorem read_does (d : Dk) (s : ByteArray) : Dz i_disk_Disk_Read none [A.t (T.str s), A.t (T.bool d.dn), A.t (T.int d.lf), A.t (T.int d.kp), A.t (T.int d.op), A.t (T.node d.fs)] (1, [A.t (T.str (rdS d s)), A.t (T.int (rdE d s)), A.t (T.bool d.dn), A.t (T.int d.lf), A.t (T.int d.kp), A.t (T.int d.op), A.t (T.node d.fs)]) := by
  obtain ⟨n0, h0⟩ := down_does d
  refine Does.of n0 fun m hm => ?_
  rw [q_disk_Disk_Read]
  simp only [S0, S9, S1, S2, if_true, if_false, h0 m hm, hF_eq, gF_eq, fil_eq, fT_eq, rdS, rdE]
  cases d.dn
  · cases hF d.fs s <;> rfl
  · rfl
def apT (d : Dk) (s : ByteArray) : ByteArray := ByteArray.extract s 0 (Int.toNat (maxI 0 (minI d.kp ((s.size : Nat) : Int))))
def apE (d : Dk) (to s : ByteArray) : Int :=
  if d.dn then 8 else if nameB to then (if 4194304 < (fT (gF d.fs to)).size + s.size then 4 else if cutB d then 8 else 0) else 1
def apD (d : Dk) (to s : ByteArray) : Dk :=
  if d.dn then d else if nameB to then (if 4194304 < (fT (gF d.fs to)).size + s.size then d else { dCut d with fs := putF d.fs to (fil (fT (gF d.fs to) ++ (if cutB d then apT d s else s)) (fN (gF d.fs to))) }) else d
theorem maxmin {k z : Int} (hz : 0 ≤ z) : 0 ≤ maxI 0 (minI k z) ∧ maxI 0 (minI k z) ≤ z := by
  unfold maxI minI
  split <;> split at * <;> omega
theorem append_does (d : Dk) (to s : ByteArray) (hw : Wf d.fs) (hs : s.size ≤ 1000000) : Dz i_disk_Disk_Append none [A.t (T.str to), A.t (T.str s), A.t (T.bool d.dn), A.t (T.int d.lf), A.t (T.int d.kp), A.t (T.int d.op), A.t (T.node d.fs)] (1, [A.t (T.int (apE d to s)), A.t (T.bool (apD d to s).dn), A.t (T.int (apD d to s).lf), A.t (T.int (apD d to s).kp), A.t (T.int (apD d to s).op), A.t (T.node (apD d to s).fs)]) := by
  obtain ⟨n0, h0⟩ := (down_does d).both (kname_does to)
  obtain ⟨n1, h1⟩ := cut_does d
  have hz := (hw to).2.2
  have h2 : IntKind.i64.wrap (((fT (gF d.fs to)).size : Int) + (s.size : Int)) = (((fT (gF d.fs to)).size + s.size : Nat) : Int) := i64add (by omega)
  have hm2 := maxmin (k := d.kp) (z := ((s.size : Nat) : Int)) (by omega)
  have hx : (ByteArray.extract s 0 (Int.toNat (maxI 0 (minI d.kp ((s.size : Nat) : Int))))).size ≤ s.size := by
    rw [ByteArray.size_extract]; omega
  refine Does.of (n0 + n1) fun m hm => ?_
  rw [q_disk_Disk_Append]
  simp only [S0, S9, S1, S2, if_true, if_false, (h0 m (by omega)).1, (h0 m (by omega)).2, h1 m (by omega), gF_eq, fT_eq, fN_eq, put_eq, fil_eq, dCut_fs, dCut_kp, h2, apE, apD]
  cases hd : d.dn
  · cases hn : nameB to
    · simp only [Bool.not_false, if_true, if_false, Bool.false_eq_true, hd]
    · simp only [Bool.not_true, if_true, if_false, Bool.false_eq_true, hd]
      by_cases h4 : 4194304 < (fT (gF d.fs to)).size + s.size
      · rw [if_pos (by omega), if_pos h4, if_pos h4, hd]
      · rw [if_neg (by omega), if_neg h4, if_neg h4]
        cases hc : cutB d
        · simp only [Bool.false_eq_true, if_false]
          rw [if_pos (by omega)]
        · simp only [if_true]
          rw [if_pos (by refine ⟨⟨⟨?_, ?_⟩, trivial⟩, ?_⟩ <;> omega), if_pos (by omega)]
          rfl
  · simp only [if_true, hd]
def syE (d : Dk) (s : ByteArray) : Int := if rdE d s = 0 then (if cutB d then 8 else 0) else rdE d s
def syD (d : Dk) (s : ByteArray) : Dk := if rdE d s = 0 then (if cutB d then dCut d else { dCut d with fs := putF d.fs s (fil (fT (gF d.fs s)) ((fT (gF d.fs s)).size : Int)) }) else d
theorem sync_does (d : Dk) (s : ByteArray) : Dz i_disk_Disk_Sync none [A.t (T.str s), A.t (T.bool d.dn), A.t (T.int d.lf), A.t (T.int d.kp), A.t (T.int d.op), A.t (T.node d.fs)] (1, [A.t (T.int (syE d s)), A.t (T.bool (syD d s).dn), A.t (T.int (syD d s).lf), A.t (T.int (syD d s).kp), A.t (T.int (syD d s).op), A.t (T.node (syD d s).fs)]) := by
  obtain ⟨n0, h0⟩ := (read_does d s).both (cut_does d)
  refine Does.of n0 fun m hm => ?_
  rw [q_disk_Disk_Sync]
  simp only [S0, S9, S1, S2, if_true, if_false, (h0 m hm).1, (h0 m hm).2, gF_eq, fT_eq, fN_eq, put_eq, fil_eq, dCut_fs, syE, syD]
  by_cases he : rdE d s = 0
  · rw [if_neg (by simpa using he), if_pos he, if_pos he]
    cases hc : cutB d
    · simp only [Bool.false_eq_true, if_false]
    · simp only [if_true, dCut_fs]
  · rw [if_pos (by simpa using he), if_neg he, if_neg he]
theorem fuse_does (d : Dk) (n k : Int) : Dz i_disk_Disk_Fuse none [A.t (T.int n), A.t (T.int k), A.t (T.bool d.dn), A.t (T.int d.lf), A.t (T.int d.kp), A.t (T.int d.op), A.t (T.node d.fs)] (1, [A.t (T.bool d.dn), A.t (T.int (maxI n 1)), A.t (T.int k), A.t (T.int d.op), A.t (T.node d.fs)]) := Does.now fun m => by
  rw [q_disk_Disk_Fuse]
  simp only [S0, S9, S1, S2, if_true, if_false]
def kpN (keeps : List T) (i : Nat) : Int := if i < keeps.length then (tAtD keeps i).num else 0
def stayF (f : T) (k : Int) : Int := maxI 0 (minI k (((fT f).size : Int) - fN f))
def cutT (f : T) (k : Int) : ByteArray := ByteArray.extract (fT f) 0 (Int.toNat (fN f + stayF f k))
def cutF (f : T) (k : Int) : T := fil (cutT f k) ((cutT f k).size : Int)
theorem stay_ok {f : T} (h : Fw f) (k : Int) : 0 ≤ stayF f k ∧ stayF f k ≤ ((fT f).size : Int) - fN f := maxmin (by have := h.2.1; omega)
theorem cutF_ok {f : T} (h : Fw f) (k : Int) : Fw (cutF f k) := by
  obtain ⟨h1, h2⟩ := stay_ok h k
  obtain ⟨h3, h4, h5⟩ := h
  have : (cutT f k).size ≤ (fT f).size := by unfold cutT; rw [ByteArray.size_extract]; omega
  exact ⟨by rw [cutF, fN_fil]; omega, by rw [cutF, fN_fil, fT_fil]; omega, by rw [cutF, fT_fil]; omega⟩
def wakeL (keeps : List T) : Nat → List T → List T → List T
  | _, [], fs => fs
  | i, s :: ss, fs => wakeL keeps (i + 1) ss (putF fs s.txt (cutF (gF fs s.txt) (kpN keeps i)))
theorem wake_in (keeps ns : List T) (hk : keeps.length ≤ 1000000) (hn : ns.length ≤ 2000000) (d : Dk) : ∀ (k j : Nat) (fs : List T), j + k = ns.length → Wf fs →
    Dz i_disk_Disk_Wake (some p_disk_Disk_Wake_c1) [A.t (T.node keeps), A.t (T.node ns), A.t (T.int (ns.length : Nat)), A.t (T.int j), A.t (T.bool d.dn), A.t (T.int d.lf), A.t (T.int d.kp), A.t (T.int d.op), A.t (T.node fs)]
      (2, [A.t (T.bool d.dn), A.t (T.int d.lf), A.t (T.int d.kp), A.t (T.int d.op), A.t (T.node (wakeL keeps j (ns.drop j) fs))]) := by
  intro k
  induction k with
  | zero =>
    intro j fs hj hw
    refine Does.now fun m => ?_
    rw [q_disk_Disk_Wake_c1, List.drop_of_length_le (by omega)]
    simp only [S0, S9, S1, S2, if_true, if_false]
    repeat (first | rw [if_pos (by omega)] | rw [if_neg (by omega)])
    rfl
  | succ k ih =>
    intro j fs hj hw
    have hlt : j < ns.length := by omega
    have hj1 : IntKind.i64.wrap ((j : Int) + 1) = ((j + 1 : Nat) : Int) := i64succ (by omega)
    have hf := hw ns[j].txt
    obtain ⟨g1, g2, g3⟩ := hf
    have hs := stay_ok (hw ns[j].txt) (kpN keeps j)
    obtain ⟨n0, h0⟩ := ih (j + 1) (putF fs ns[j].txt (cutF (gF fs ns[j].txt) (kpN keeps j))) (by omega) (hw.put (cutF_ok (hw _) _))
    have hw1 : IntKind.i64.wrap (((fT (gF fs ns[j].txt)).size : Int) - fN (gF fs ns[j].txt)) = ((fT (gF fs ns[j].txt)).size : Int) - fN (gF fs ns[j].txt) := w64 (by omega) (by omega)
    refine Does.of n0 fun m hm => ?_
    have q := h0 m hm
    rw [q_disk_Disk_Wake_c1, List.drop_eq_getElem_cons hlt, wakeL]
    by_cases hkl : j < keeps.length
    · have hkn : kpN keeps j = (tAtD keeps j).num := if_pos hkl
      have hst : maxI 0 (minI (tAtD keeps j).num (((fT (gF fs ns[j].txt)).size : Int) - fN (gF fs ns[j].txt))) = stayF (gF fs ns[j].txt) (kpN keeps j) := by rw [hkn]; rfl
      have hw2 : IntKind.i64.wrap (fN (gF fs ns[j].txt) + stayF (gF fs ns[j].txt) (kpN keeps j)) = fN (gF fs ns[j].txt) + stayF (gF fs ns[j].txt) (kpN keeps j) := w64 (by omega) (by omega)
      have hct : ByteArray.extract (fT (gF fs ns[j].txt)) 0 (Int.toNat (fN (gF fs ns[j].txt) + stayF (gF fs ns[j].txt) (kpN keeps j))) = cutT (gF fs ns[j].txt) (kpN keeps j) := rfl
      have hcf : fil (cutT (gF fs ns[j].txt) (kpN keeps j)) (((cutT (gF fs ns[j].txt) (kpN keeps j)).size : Nat) : Int) = cutF (gF fs ns[j].txt) (kpN keeps j) := rfl
      simp only [S0, S9, S1, S2, if_true, if_false, at_get hlt, gF_eq, fT_eq, fN_eq, put_eq, fil_eq, hw1, hst, hw2, hct, hcf, hj1]
      rw [if_pos (by omega), if_pos (by omega), if_pos (by omega), if_pos (by omega), if_pos (by refine ⟨⟨⟨?_, ?_⟩, trivial⟩, ?_⟩ <;> omega)]
      exact q
    · have hkn : kpN keeps j = 0 := if_neg hkl
      have hst : stayF (gF fs ns[j].txt) (kpN keeps j) = 0 := by
        rw [hkn]; unfold stayF maxI minI
        split <;> split at * <;> omega
      have hw2 : IntKind.i64.wrap (fN (gF fs ns[j].txt) + 0) = fN (gF fs ns[j].txt) + 0 := w64 (by omega) (by omega)
      have hct : ByteArray.extract (fT (gF fs ns[j].txt)) 0 (Int.toNat (fN (gF fs ns[j].txt) + 0)) = cutT (gF fs ns[j].txt) (kpN keeps j) := by rw [cutT, hst]
      have hcf : fil (cutT (gF fs ns[j].txt) (kpN keeps j)) (((cutT (gF fs ns[j].txt) (kpN keeps j)).size : Nat) : Int) = cutF (gF fs ns[j].txt) (kpN keeps j) := rfl
      simp only [S0, S9, S1, S2, if_true, if_false, at_get hlt, gF_eq, fT_eq, fN_eq, put_eq, fil_eq, hw2, hct, hcf, hj1]
      rw [if_pos (by omega), if_pos (by omega), if_neg (by omega), if_pos (by refine ⟨⟨⟨?_, ?_⟩, trivial⟩, ?_⟩ <;> omega)]
      exact q
def wkD (d : Dk) (keeps : List T) : Dk := ⟨false, 0, d.kp, d.op, wakeL keeps 0 (keysS d.fs) d.fs⟩
theorem keysS_len (es : List T) : (keysS es).length = es.length := by
  unfold keysS
  rw [List.length_map, (keysB_perm es).length_eq, List.length_map]
theorem wake_does (d : Dk) (keeps : List T) (hk : keeps.length ≤ 1000000) (hok : keysOk d.fs = true) (hw : Wf d.fs) : Dz i_disk_Disk_Wake none [A.t (T.node keeps), A.t (T.bool d.dn), A.t (T.int d.lf), A.t (T.int d.kp), A.t (T.int d.op), A.t (T.node d.fs)] (1, [A.t (T.bool (wkD d keeps).dn), A.t (T.int (wkD d keeps).lf), A.t (T.int (wkD d keeps).kp), A.t (T.int (wkD d keeps).op), A.t (T.node (wkD d keeps).fs)]) := by
  have hl : (keysS d.fs).length ≤ 2000000 := by
    rw [keysS_len]
    unfold keysOk at hok
    rw [Bool.and_eq_true] at hok
    have := Nat.le_of_ble_eq_true hok.1
    omega
  obtain ⟨n0, h0⟩ := (names_does d hok).both (wake_in keeps (keysS d.fs) hk hl d (keysS d.fs).length 0 d.fs (by omega) hw)
  refine Does.of n0 fun m hm => ?_
  have q : den Tryd.prog G0 ents m i_disk_Disk_Wake (some p_disk_Disk_Wake_c1) [A.t (T.node keeps), A.t (T.node (keysS d.fs)), A.t (T.int ((keysS d.fs).length : Nat)), A.t (T.int 0), A.t (T.bool d.dn), A.t (T.int d.lf), A.t (T.int d.kp), A.t (T.int d.op), A.t (T.node d.fs)] = _ := (h0 m hm).2
  rw [List.drop_zero] at q
  rw [q_disk_Disk_Wake]
  simp only [S0, S9, S1, S2, if_true, if_false, (h0 m hm).1, q]
  rfl
end Go.Proofs.YtigbgcopidghfaaDoorDP
namespace Go.Proofs.YtigbgcopidghfaaDoorDP
open Go Go.Proofs.YtigbgcopidghfaaDoorVM
set_option linter.unusedVariables false
set_option linter.unusedSimpArgs false
set_option maxRecDepth 100000

def ky (e : T) : ByteArray := (e.get 0).txt
def nF (x : T) : ByteArray := (x.get 0).txt
def sF (x : T) : ByteArray := (x.get 1).txt
def uF (x : T) : Int := (x.get 2).num
def Up (F : List T) : Prop := F.Pairwise fun a b => sltB (nF a) (nF b) = true
theorem lt_irr (a : ByteArray) : sltB a a = false := by
  rw [slt_data, decide_eq_false_iff_not]
  exact List.lt_irrefl _
theorem lt_tr {a b c : ByteArray} (h1 : sltB a b = true) (h2 : sltB b c = true) : sltB a c = true := by
  rw [slt_data, decide_eq_true_eq] at *
  exact List.lt_trans h1 h2
theorem lt_ne {a b : ByteArray} (h : sltB a b = true) : a ≠ b := fun e => by subst e; rw [lt_irr] at h; cases h
theorem lt_no {a b : ByteArray} (h : sltB a b = true) : sltB b a = false := by
  cases hb : sltB b a with
  | false => rfl
  | true => have := lt_tr h hb; rw [lt_irr] at this; cases this
theorem lt_or {a b : ByteArray} (h : sltB a b = false) (hn : a ≠ b) : sltB b a = true := by
  rw [slt_data] at *
  rw [decide_eq_false_iff_not] at h
  rw [decide_eq_true_eq]
  have h1 : b.data.toList ≤ a.data.toList := h
  rcases List.le_iff_lt_or_eq.1 h1 with h2 | h2
  · exact h2
  · exact absurd (ByteArray.ext (Array.toList_inj.1 h2)).symm hn
def insF (f : T) : List T → List T
  | [] => [f]
  | x :: l => if sltB (nF x) (nF f) then x :: insF f l else if nF x = nF f then f :: l else f :: x :: l
theorem ins_mem {f x : T} : ∀ {F : List T}, Up F → x ∈ insF f F → x = f ∨ (x ∈ F ∧ nF x ≠ nF f)
  | [], _, h => .inl (by simpa [insF] using h)
  | y :: l, hu, h => by
    obtain ⟨h1, h2⟩ := List.pairwise_cons.1 hu
    unfold insF at h
    cases hy : sltB (nF y) (nF f) with
    | true =>
      rw [hy, if_pos rfl] at h
      rcases List.mem_cons.1 h with rfl | h
      · exact .inr ⟨List.mem_cons_self, lt_ne hy⟩
      · exact (ins_mem h2 h).imp id fun ⟨a, b⟩ => ⟨List.mem_cons_of_mem _ a, b⟩
    | false =>
      rw [hy, if_neg (by simp)] at h
      by_cases he : nF y = nF f
      · rw [if_pos he] at h
        rcases List.mem_cons.1 h with rfl | h
        · exact .inl rfl
        · exact .inr ⟨List.mem_cons_of_mem _ h, fun e => lt_ne (h1 x h) (by rw [he, e])⟩
      · rw [if_neg he] at h
        have hg : sltB (nF f) (nF y) = true := lt_or hy he
        rcases List.mem_cons.1 h with rfl | h
        · exact .inl rfl
        · rcases List.mem_cons.1 h with rfl | h
          · exact .inr ⟨List.mem_cons_self, he⟩
          · exact .inr ⟨List.mem_cons_of_mem _ h, fun e => lt_ne (lt_tr hg (h1 x h)) e.symm⟩
theorem ins_self (f : T) : ∀ F : List T, f ∈ insF f F
  | [] => List.mem_cons_self
  | y :: l => by
    unfold insF
    split
    · exact List.mem_cons_of_mem _ (ins_self f l)
    · split <;> exact List.mem_cons_self
theorem ins_up {f : T} : ∀ {F : List T}, Up F → Up (insF f F)
  | [], _ => List.pairwise_singleton _ _
  | y :: l, hu => by
    obtain ⟨h1, h2⟩ := List.pairwise_cons.1 hu
    unfold insF
    cases hy : sltB (nF y) (nF f) with
    | true =>
      rw [if_pos rfl]
      refine List.pairwise_cons.2 ⟨fun x hx => ?_, ins_up h2⟩
      rcases ins_mem h2 hx with rfl | ⟨h3, _⟩
      · exact hy
      · exact h1 x h3
    | false =>
      rw [if_neg (by simp)]
      by_cases he : nF y = nF f
      · rw [if_pos he]
        exact List.pairwise_cons.2 ⟨fun x hx => by rw [← he]; exact h1 x hx, h2⟩
      · rw [if_neg he]
        have hg : sltB (nF f) (nF y) = true := lt_or hy he
        refine List.pairwise_cons.2 ⟨fun x hx => ?_, hu⟩
        rcases List.mem_cons.1 hx with rfl | hx
        · exact hg
        · exact lt_tr hg (h1 x hx)
theorem ins_in {f : T} : ∀ {F : List T}, Up F → nF f ∈ F.map nF → (insF f F).map nF = F.map nF
  | [], _, h => by simp at h
  | y :: l, hu, h => by
    obtain ⟨h1, h2⟩ := List.pairwise_cons.1 hu
    unfold insF
    cases hy : sltB (nF y) (nF f) with
    | true =>
      rw [if_pos rfl]
      rw [List.map_cons] at h
      rcases List.mem_cons.1 h with h | h
      · exact absurd h.symm (lt_ne hy)
      · rw [List.map_cons, List.map_cons, ins_in h2 h]
    | false =>
      rw [if_neg (by simp)]
      by_cases he : nF y = nF f
      · rw [if_pos he, List.map_cons, List.map_cons, he]
      · rw [List.map_cons] at h
        rcases List.mem_cons.1 h with h | h
        · exact absurd h.symm he
        · obtain ⟨x, hx, e⟩ := List.mem_map.1 h
          have := h1 x hx
          rw [e, hy] at this; cases this
theorem ins_out {f : T} : ∀ {F : List T}, nF f ∉ F.map nF → ((insF f F).map nF).Perm (nF f :: F.map nF)
  | [], _ => List.Perm.refl _
  | y :: l, h => by
    rw [List.map_cons, List.mem_cons, not_or] at h
    unfold insF
    split
    · rw [List.map_cons, List.map_cons]
      exact ((ins_out h.2).cons _).trans (List.Perm.swap _ _ _)
    · rw [if_neg (fun e => h.1 e.symm)]
      exact List.Perm.refl _
def stepP (f : T) (s : Bool × List T) (x : T) : Bool × List T :=
  (s.1 || (sltB (nF f) (nF x) || seqB (nF f) (nF x)), s.2 ++ (if !s.1 && (sltB (nF f) (nF x) || seqB (nF f) (nF x)) then [f] else []) ++ (if seqB (nF x) (nF f) then [] else [x]))
theorem seq_is {a b : ByteArray} : seqB a b = true ↔ a = b := key_iff (.str a) (.str b)
theorem seq_no {a b : ByteArray} (h : a ≠ b) : seqB a b = false := by
  cases hs : seqB a b with
  | false => rfl
  | true => exact absurd (seq_is.1 hs) h
theorem step_in {f : T} : ∀ (F out : List T), (∀ x ∈ F, nF x ≠ nF f) → F.foldl (stepP f) (true, out) = (true, out ++ F)
  | [], out, _ => by simp
  | x :: l, out, h => by
    rw [List.foldl_cons]
    have e : stepP f (true, out) x = (true, out ++ [x]) := by
      unfold stepP
      rw [seq_no (h x List.mem_cons_self)]
      simp
    rw [e, step_in l _ fun y hy => h y (List.mem_cons_of_mem _ hy)]
    simp
theorem step_ins {f : T} : ∀ (F out : List T), Up F → (F.foldl (stepP f) (false, out)).2 ++ (if (F.foldl (stepP f) (false, out)).1 then [] else [f]) = out ++ insF f F
  | [], out, _ => by simp [insF]
  | x :: l, out, hu => by
    obtain ⟨h1, h2⟩ := List.pairwise_cons.1 hu
    rw [List.foldl_cons]
    unfold insF
    cases hy : sltB (nF x) (nF f) with
    | true =>
      have e : stepP f (false, out) x = (false, out ++ [x]) := by
        unfold stepP
        rw [seq_no (lt_ne hy), seq_no (lt_ne hy).symm, lt_no hy]
        simp
      rw [e, if_pos rfl, step_ins l _ h2]
      simp
    | false =>
      simp only [Bool.false_eq_true, if_false]
      by_cases he : nF x = nF f
      · have e : stepP f (false, out) x = (true, out ++ [f]) := by
          unfold stepP
          rw [seq_is.2 he, seq_is.2 he.symm]
          simp
        rw [e, if_pos he, step_in l _ fun y hy => by rw [← he]; exact (lt_ne (h1 y hy)).symm]
        simp
      · have hg : sltB (nF f) (nF x) = true := lt_or hy he
        have e : stepP f (false, out) x = (true, out ++ [f, x]) := by
          unfold stepP
          rw [seq_no he, hg]
          simp
        rw [e, if_neg he, step_in l _ fun y hy => (lt_ne (lt_tr hg (h1 y hy))).symm]
        simp

theorem hF_mem (fs : List T) (k : ByteArray) : hF fs k = true ↔ k ∈ fs.map ky := by
  unfold hF mhas
  rw [List.any_eq_true, List.mem_map]
  exact ⟨fun ⟨e, he, hk⟩ => ⟨e, he, ((key_iff _ _).1 hk).symm⟩, fun ⟨e, he, hk⟩ => ⟨e, he, (key_iff _ _).2 hk.symm⟩⟩
theorem put_in {k : ByteArray} {v : T} : ∀ {fs : List T}, k ∈ fs.map ky → (putF fs k v).map ky = fs.map ky
  | [], h => by simp at h
  | e :: es, h => by
    unfold putF
    simp only [mput]
    cases hk : keyS (.str k) (e.get 0) with
    | true =>
      have hke : k = ky e := (key_iff _ _).1 hk
      simp only [cond_true, List.map_cons]
      rw [← hke]; rfl
    | false =>
      simp only [cond_false, List.map_cons]
      rw [List.map_cons] at h
      rcases List.mem_cons.1 h with h | h
      · rw [show keyS (.str k) (e.get 0) = true from (key_iff _ _).2 h] at hk; cases hk
      · rw [show (mput keyS es (.str k) v).map ky = es.map ky from put_in h]
theorem put_out {k : ByteArray} {v : T} : ∀ {fs : List T}, k ∉ fs.map ky → (putF fs k v).map ky = fs.map ky ++ [k]
  | [], _ => rfl
  | e :: es, h => by
    rw [List.map_cons, List.mem_cons, not_or] at h
    unfold putF
    simp only [mput]
    have hk : keyS (.str k) (e.get 0) = false := by
      cases hq : keyS (.str k) (e.get 0) with
      | false => rfl
      | true => exact absurd ((key_iff _ _).1 hq) h.1
    rw [hk]
    simp only [cond_false, List.map_cons, List.cons_append]
    rw [show (mput keyS es (.str k) v).map ky = es.map ky ++ [k] from put_out h.2]
theorem del_keys (k : ByteArray) : ∀ {fs : List T}, (fs.map ky).Nodup → (delF fs k).map ky = (fs.map ky).filter fun s => !seqB s k
  | [], _ => rfl
  | e :: es, h => by
    rw [List.map_cons, List.nodup_cons] at h
    unfold delF
    simp only [mdel]
    cases hk : keyS (.str k) (e.get 0) with
    | true =>
      have hke : k = ky e := (key_iff _ _).1 hk
      simp only [cond_true, List.map_cons]
      rw [List.filter_cons_of_neg (by rw [seq_is.2 hke.symm]; simp)]
      refine (List.filter_eq_self.2 fun s hs => ?_).symm
      rw [seq_no fun e' => h.1 (by rw [← hke, ← e']; exact hs)]; rfl
    | false =>
      have hne : ky e ≠ k := fun e' => by rw [show keyS (.str k) (e.get 0) = true from (key_iff _ _).2 e'.symm] at hk; cases hk
      simp only [cond_false, List.map_cons]
      rw [List.filter_cons_of_pos (by rw [seq_no hne]; rfl), show (mdel keyS es (.str k)).map ky = _ from del_keys k h.2]
structure In (N : Nat) (fs F : List T) : Prop where
  up : Up F
  perm : (fs.map ky).Perm (F.map nF)
  val : ∀ x ∈ F, fT (gF fs (nF x)) = sF x ∧ fN (gF fs (nF x)) = uF x
  wf : Wf fs
  len : F.length ≤ N
  nam : ∀ x ∈ F, (nF x).size ≤ 100
theorem Up.nodup {F : List T} (h : Up F) : (F.map nF).Nodup := by
  unfold List.Nodup
  rw [List.pairwise_map]
  exact h.imp fun h => lt_ne h
theorem In.put {N : Nat} {fs F : List T} (h : In N fs F) {f v : T} (hs : (nF f).size ≤ 100) (h1 : fT v = sF f) (h2 : fN v = uF f) (hv : Fw v) : In (N + 1) (putF fs (nF f) v) (insF f F) := by
  have hlen : (insF f F).length ≤ F.length + 1 := by
    clear h
    induction F with
    | nil => exact Nat.le_refl _
    | cons y l ih =>
      unfold insF
      split
      · rw [List.length_cons, List.length_cons]; omega
      · split <;> simp
  refine ⟨ins_up h.up, ?_, fun x hx => ?_, h.wf.put hv, by have := h.len; omega, fun x hx => ?_⟩
  · by_cases hk : nF f ∈ F.map nF
    · rw [ins_in h.up hk, put_in (h.perm.mem_iff.2 hk)]
      exact h.perm
    · rw [put_out (fun h' => hk (h.perm.mem_iff.1 h'))]
      exact ((List.perm_append_singleton _ _).trans (h.perm.cons _)).trans (ins_out hk).symm
  · rcases ins_mem h.up hx with rfl | ⟨h3, h4⟩
    · rw [gF_put, if_pos rfl]; exact ⟨h1, h2⟩
    · rw [gF_put, if_neg h4]; exact h.val x h3
  · rcases ins_mem h.up hx with rfl | ⟨h3, _⟩
    · exact hs
    · exact h.nam x h3
def rmF (F : List T) (k : ByteArray) : List T := F.filter fun x => !seqB (nF x) k
theorem In.del {N : Nat} {fs F : List T} (h : In N fs F) (k : ByteArray) : In N (delF fs k) (rmF F k) := by
  have hnd : (fs.map ky).Nodup := (h.perm.nodup_iff).2 h.up.nodup
  have hkeys := del_keys k hnd
  refine ⟨h.up.sublist List.filter_sublist, ?_, fun x hx => ?_, fun s => ?_, Nat.le_trans (List.length_filter_le _ _) h.len, fun x hx => h.nam x (List.mem_filter.1 hx).1⟩
  · rw [hkeys]
    have e : (rmF F k).map nF = (F.map nF).filter fun s => !seqB s k := by
      unfold rmF
      rw [List.filter_map]
      rfl
    rw [e]
    exact h.perm.filter _
  · obtain ⟨h1, h2⟩ := List.mem_filter.1 hx
    rw [gF_del _ _ _ (fun e => by rw [seq_is.2 e] at h2; cases h2)]
    exact h.val x h1
  · by_cases e : s = k
    · subst e
      have hno : hF (delF fs s) s = false := by
        cases hq : hF (delF fs s) s with
        | false => rfl
        | true =>
          have := (hF_mem _ _).1 hq
          rw [hkeys, List.mem_filter] at this
          rw [seq_is.2 rfl] at this
          cases this.2
      rw [gF_no hno]
      exact f0_ok
    · rw [gF_del _ _ _ e]; exact h.wf s
theorem In.has {N : Nat} {fs F : List T} (h : In N fs F) (s : ByteArray) : hF fs s = F.any fun x => seqB (nF x) s := by
  cases hq : hF fs s with
  | true =>
    have := h.perm.mem_iff.1 ((hF_mem _ _).1 hq)
    obtain ⟨x, hx, e⟩ := List.mem_map.1 this
    exact (List.any_eq_true.2 ⟨x, hx, seq_is.2 e⟩).symm
  | false =>
    symm
    cases ha : F.any fun x => seqB (nF x) s with
    | false => rfl
    | true =>
      obtain ⟨x, hx, e⟩ := List.any_eq_true.1 ha
      have : hF fs s = true := (hF_mem _ _).2 (h.perm.mem_iff.2 (List.mem_map.2 ⟨x, hx, seq_is.1 e⟩))
      rw [hq] at this; cases this
theorem In.ok {N : Nat} {fs F : List T} (h : In N fs F) (hN : N ≤ 1000000) : keysOk fs = true := by
  have hl : fs.length = F.length := by have := h.perm.length_eq; simpa using this
  have := h.len
  unfold keysOk
  rw [Bool.and_eq_true, List.all_eq_true]
  refine ⟨Nat.ble_eq_true_of_le (by omega), fun e he => Nat.ble_eq_true_of_le ?_⟩
  have hm : ky e ∈ F.map nF := h.perm.mem_iff.1 (List.mem_map.2 ⟨e, he, rfl⟩)
  obtain ⟨x, hx, ex⟩ := List.mem_map.1 hm
  have := h.nam x hx
  rw [ex] at this
  show (ky e).size ≤ 1048576
  omega
theorem In.keys {N : Nat} {fs F : List T} (h : In N fs F) : keysS fs = F.map fun x => T.str (nF x) := by
  have e : keysB fs = F.map nF := by
    refine List.Perm.eq_of_pairwise (le := fun a b : ByteArray => a.data.toList ≤ b.data.toList) (fun a b _ _ h1 h2 => ByteArray.ext (Array.toList_inj.1 (List.le_antisymm h1 h2))) (keysB_rise fs) ?_ ((keysB_perm fs).trans h.perm)
    rw [List.pairwise_map]
    refine h.up.imp fun hab => ?_
    rw [slt_data, decide_eq_true_eq] at hab
    exact List.le_of_lt hab
  unfold keysS
  rw [e, List.map_map]
  rfl
theorem In.nil : In 0 [] [] := ⟨List.Pairwise.nil, List.Perm.refl _, fun x hx => (by cases hx), fun s => f0_ok, Nat.le_refl _, fun x hx => (by cases hx)⟩
theorem In.mono {N M : Nat} {fs F : List T} (h : In N fs F) (hm : N ≤ M) : In M fs F := ⟨h.up, h.perm, h.val, h.wf, Nat.le_trans h.len hm, h.nam⟩

def wkF (x : T) (k : Int) : T := .node [.str (nF x), .str (cutT (fil (sF x) (uF x)) k), .int ((cutT (fil (sF x) (uF x)) k).size : Nat)]
def wakeD (keeps : List T) : Nat → List T → List T
  | _, [] => []
  | i, x :: l => wkF x (kpN keeps i) :: wakeD keeps (i + 1) l
theorem wakeD_names (keeps : List T) : ∀ (F : List T) (i : Nat), (wakeD keeps i F).map nF = F.map nF
  | [], _ => rfl
  | x :: l, i => by rw [wakeD, List.map_cons, List.map_cons, wakeD_names keeps l]; rfl
theorem wakeD_len (keeps : List T) : ∀ (F : List T) (i : Nat), (wakeD keeps i F).length = F.length
  | [], _ => rfl
  | x :: l, i => by rw [wakeD, List.length_cons, List.length_cons, wakeD_len keeps l]
theorem wake_all (keeps : List T) : ∀ (G : List T) (i : Nat) (fs : List T), Up G → Wf fs → (∀ x ∈ G, nF x ∈ fs.map ky) → (∀ x ∈ G, fT (gF fs (nF x)) = sF x ∧ fN (gF fs (nF x)) = uF x) →
    (wakeL keeps i (G.map fun x => T.str (nF x)) fs).map ky = fs.map ky ∧ Wf (wakeL keeps i (G.map fun x => T.str (nF x)) fs) ∧
    (∀ y ∈ wakeD keeps i G, fT (gF (wakeL keeps i (G.map fun x => T.str (nF x)) fs) (nF y)) = sF y ∧ fN (gF (wakeL keeps i (G.map fun x => T.str (nF x)) fs) (nF y)) = uF y) ∧
    (∀ s, (∀ x ∈ G, nF x ≠ s) → gF (wakeL keeps i (G.map fun x => T.str (nF x)) fs) s = gF fs s)
  | [], i, fs, _, hw, _, _ => ⟨rfl, hw, fun y hy => (by cases hy), fun _ _ => rfl⟩
  | x :: l, i, fs, hu, hw, hk, hv => by
    obtain ⟨h1, h2⟩ := List.pairwise_cons.1 hu
    obtain ⟨v1, v2⟩ := hv x List.mem_cons_self
    have hfil : cutF (gF fs (nF x)) (kpN keeps i) = cutF (fil (sF x) (uF x)) (kpN keeps i) := by
      unfold cutF cutT stayF
      rw [v1, v2, fT_fil, fN_fil]
    have hkx := put_in (v := cutF (gF fs (nF x)) (kpN keeps i)) (hk x List.mem_cons_self)
    obtain ⟨a1, a2, a3, a4⟩ := wake_all keeps l (i + 1) (putF fs (nF x) (cutF (gF fs (nF x)) (kpN keeps i))) h2 (hw.put (cutF_ok (hw _) _)) (fun y hy => by rw [hkx]; exact hk y (List.mem_cons_of_mem _ hy))
      (fun y hy => by rw [gF_put, if_neg (lt_ne (h1 y hy)).symm]; exact hv y (List.mem_cons_of_mem _ hy))
    have e : wakeL keeps i ((x :: l).map fun x => T.str (nF x)) fs = wakeL keeps (i + 1) (l.map fun x => T.str (nF x)) (putF fs (nF x) (cutF (gF fs (nF x)) (kpN keeps i))) := rfl
    rw [e]
    refine ⟨a1.trans hkx, a2, fun y hy => ?_, fun s hs => ?_⟩
    · rw [wakeD] at hy
      rcases List.mem_cons.1 hy with rfl | hy
      · have hn : nF (wkF x (kpN keeps i)) = nF x := rfl
        rw [hn, a4 _ (fun z hz => (lt_ne (h1 z hz)).symm), gF_put, if_pos rfl, hfil]
        exact ⟨rfl, rfl⟩
      · exact a3 y hy
    · rw [a4 s (fun z hz => hs z (List.mem_cons_of_mem _ hz)), gF_put, if_neg fun e => hs x List.mem_cons_self e.symm]
theorem In.wake {N : Nat} {fs F : List T} (h : In N fs F) (keeps : List T) : In N (wakeL keeps 0 (keysS fs) fs) (wakeD keeps 0 F) := by
  obtain ⟨a1, a2, a3, _⟩ := wake_all keeps F 0 fs h.up h.wf (fun x hx => h.perm.mem_iff.2 (List.mem_map.2 ⟨x, hx, rfl⟩)) h.val
  rw [h.keys]
  have hn := wakeD_names keeps F 0
  refine ⟨?_, by rw [a1, hn]; exact h.perm, a3, a2, by rw [wakeD_len]; exact h.len, fun y hy => ?_⟩
  · have : ((wakeD keeps 0 F).map nF).Pairwise (fun a b => sltB a b = true) := by rw [hn, List.pairwise_map]; exact h.up
    rw [List.pairwise_map] at this
    exact this
  · have : nF y ∈ F.map nF := by rw [← hn]; exact List.mem_map.2 ⟨y, hy, rfl⟩
    obtain ⟨x, hx, e⟩ := List.mem_map.1 this
    rw [← e]; exact h.nam x hx

theorem sure_does (d : Dk) (s : ByteArray) : Dz i_disk_Disk_Sure none [A.t (T.str s), A.t (T.bool d.dn), A.t (T.int d.lf), A.t (T.int d.kp), A.t (T.int d.op), A.t (T.node d.fs)] (1, [A.t (T.int (fN (gF d.fs s))), A.t (T.bool d.dn), A.t (T.int d.lf), A.t (T.int d.kp), A.t (T.int d.op), A.t (T.node d.fs)]) := Does.now fun m => by
  rw [q_disk_Disk_Sure]
  simp only [S0, S9, S1, S2, if_true, if_false, fil_eq, gF_eq, fN_eq]
theorem ops_does (d : Dk) : Dz i_disk_Disk_Ops none [A.t (T.bool d.dn), A.t (T.int d.lf), A.t (T.int d.kp), A.t (T.int d.op), A.t (T.node d.fs)] (1, [A.t (T.int d.op), A.t (T.bool d.dn), A.t (T.int d.lf), A.t (T.int d.kp), A.t (T.int d.op), A.t (T.node d.fs)]) := Does.now fun m => by
  rw [q_disk_Disk_Ops]
  simp only [S0, S9, S1, S2, if_true, if_false]
def rnE (d : Dk) (a b : ByteArray) : Int := if d.dn then 8 else if nameB b then (if hF d.fs a then (if cutB d then 8 else 0) else 5) else 1
def rnD (d : Dk) (a b : ByteArray) : Dk := if d.dn then d else if nameB b then (if hF d.fs a then (if cutB d then dCut d else { dCut d with fs := putF (delF d.fs a) b (gF d.fs a) }) else d) else d
theorem rename_does (d : Dk) (a b : ByteArray) : Dz i_disk_Disk_Rename none [A.t (T.str a), A.t (T.str b), A.t (T.bool d.dn), A.t (T.int d.lf), A.t (T.int d.kp), A.t (T.int d.op), A.t (T.node d.fs)] (1, [A.t (T.int (rnE d a b)), A.t (T.bool (rnD d a b).dn), A.t (T.int (rnD d a b).lf), A.t (T.int (rnD d a b).kp), A.t (T.int (rnD d a b).op), A.t (T.node (rnD d a b).fs)]) := by
  obtain ⟨n0, h0⟩ := (down_does d).both (kname_does b)
  obtain ⟨n1, h1⟩ := cut_does d
  refine Does.of (n0 + n1) fun m hm => ?_
  rw [q_disk_Disk_Rename]
  simp only [S0, S9, S1, S2, if_true, if_false, (h0 m (by omega)).1, (h0 m (by omega)).2, h1 m (by omega), fil_eq, gF_eq, hF_eq, put_eq, del_eq, dCut_fs, rnE, rnD]
  cases hd : d.dn
  · cases hn : nameB b
    · simp only [Bool.not_false, if_true, if_false, Bool.false_eq_true, hd]
    · cases hh : hF d.fs a
      · simp only [Bool.not_true, Bool.not_false, if_true, if_false, Bool.false_eq_true, hd]
      · cases hc : cutB d
        · simp only [Bool.not_true, if_true, if_false, Bool.false_eq_true, hd]
        · simp only [Bool.not_true, if_true, if_false, Bool.false_eq_true, hd, dCut_fs]
  · simp only [if_true, hd]
def rmD (d : Dk) (s : ByteArray) : Dk := if rdE d s = 0 then (if cutB d then dCut d else { dCut d with fs := delF d.fs s }) else d
theorem remove_does (d : Dk) (s : ByteArray) : Dz i_disk_Disk_Remove none [A.t (T.str s), A.t (T.bool d.dn), A.t (T.int d.lf), A.t (T.int d.kp), A.t (T.int d.op), A.t (T.node d.fs)] (1, [A.t (T.int (syE d s)), A.t (T.bool (rmD d s).dn), A.t (T.int (rmD d s).lf), A.t (T.int (rmD d s).kp), A.t (T.int (rmD d s).op), A.t (T.node (rmD d s).fs)]) := by
  obtain ⟨n0, h0⟩ := (read_does d s).both (cut_does d)
  refine Does.of n0 fun m hm => ?_
  rw [q_disk_Disk_Remove]
  simp only [S0, S9, S1, S2, if_true, if_false, (h0 m hm).1, (h0 m hm).2, del_eq, dCut_fs, syE, rmD]
  by_cases he : rdE d s = 0
  · rw [if_neg (by simpa using he), if_pos he, if_pos he]
    cases hc : cutB d
    · simp only [Bool.false_eq_true, if_false]
    · simp only [if_true, dCut_fs]
  · rw [if_pos (by simpa using he), if_neg he, if_neg he]
def ldE (to s : ByteArray) : Int := if nameB to then (if 4194304 < s.size then 4 else 0) else 1
def ldD (d : Dk) (to s : ByteArray) : Dk := if nameB to then (if 4194304 < s.size then d else { d with fs := putF d.fs to (fil s (s.size : Nat)) }) else d
theorem load_does (d : Dk) (to s : ByteArray) : Dz i_disk_Disk_Load none [A.t (T.str to), A.t (T.str s), A.t (T.bool d.dn), A.t (T.int d.lf), A.t (T.int d.kp), A.t (T.int d.op), A.t (T.node d.fs)] (1, [A.t (T.int (ldE to s)), A.t (T.bool (ldD d to s).dn), A.t (T.int (ldD d to s).lf), A.t (T.int (ldD d to s).kp), A.t (T.int (ldD d to s).op), A.t (T.node (ldD d to s).fs)]) := by
  obtain ⟨n0, h0⟩ := kname_does to
  refine Does.of n0 fun m hm => ?_
  rw [q_disk_Disk_Load]
  simp only [S0, S9, S1, S2, if_true, if_false, h0 m hm, put_eq, fil_eq, ldE, ldD]
  cases hn : nameB to
  · simp only [Bool.not_false, if_true, if_false, Bool.false_eq_true]
  · simp only [Bool.not_true, if_true, if_false, Bool.false_eq_true]
    by_cases h4 : 4194304 < s.size
    · rw [if_pos (by omega), if_pos h4, if_pos h4]
    · rw [if_neg (by omega), if_neg h4, if_neg h4]
end Go.Proofs.YtigbgcopidghfaaDoorDP
namespace Go.Proofs.YtigbgcopidghfaaDoorDP
open Go Go.Proofs.YtigbgcopidghfaaDoorVM
set_option linter.unusedVariables false
set_option linter.unusedSimpArgs false
set_option maxRecDepth 100000

def Wt (F : List T) (d : Dk) : T := .node [.node F, .bool d.dn, .int d.lf, .int d.kp, .int d.op]
theorem Wt0 (F : List T) (d : Dk) : T.get (Wt F d) 0 = .node F := id rfl
theorem Wt1 (F : List T) (d : Dk) : T.get (Wt F d) 1 = .bool d.dn := id rfl
theorem Wt2 (F : List T) (d : Dk) : T.get (Wt F d) 2 = .int d.lf := id rfl
theorem Wt3 (F : List T) (d : Dk) : T.get (Wt F d) 3 = .int d.kp := id rfl
theorem Wt4 (F : List T) (d : Dk) : T.get (Wt F d) 4 = .int d.op := id rfl
theorem nF_eq (x : T) : (T.get x 0).txt = nF x := id rfl
theorem sF_eq (x : T) : (T.get x 1).txt = sF x := id rfl
theorem uF_eq (x : T) : (T.get x 2).num = uF x := id rfl
theorem fi_some (p : T → Bool) : ∀ (l : List T) (k : Nat), l.any p = true → ∃ j, ∃ h : j < l.length, fi p l k = ((k + j : Nat) : Int) ∧ p l[j] = true
  | [], k, h => by simp at h
  | x :: l, k, h => by
    rw [fi]
    cases hp : p x with
    | true => exact ⟨0, by simp, by simp, hp⟩
    | false =>
      rw [List.any_cons, hp, Bool.false_or] at h
      obtain ⟨j, hj, h1, h2⟩ := fi_some p l (k + 1) h
      refine ⟨j + 1, by simpa using hj, ?_, by simpa using h2⟩
      rw [if_neg (by simp), h1]
      congr 1; omega
theorem rfind_loop (F : List T) (d : Dk) (s : ByteArray) (hl : F.length ≤ 1000000) : ∀ (k j : Nat), j + k = F.length →
    Dz i_R23_Find (some p_R23_Find_c1) [A.t (T.str s), A.t (T.int j), A.t (Wt F d)] (if (F.drop j).any (fun x => seqB (nF x) s) then (1, [A.t (T.int (fi (fun x => seqB (nF x) s) (F.drop j) j))]) else (2, [])) := by
  intro k
  induction k with
  | zero =>
    intro j hj
    refine Does.now fun m => ?_
    rw [q_R23_Find_c1, List.drop_of_length_le (by omega)]
    simp only [S0, S9, S1, S2, if_true, if_false, Wt0, List.any_nil]
    rw [if_neg (by omega)]
  | succ k ih =>
    intro j hj
    have hlt : j < F.length := by omega
    have hw : IntKind.i64.wrap ((j : Int) + 1) = ((j + 1 : Nat) : Int) := i64succ (by omega)
    obtain ⟨n0, h0⟩ := ih (j + 1) (by omega)
    refine Does.of n0 fun m hm => ?_
    have q := h0 m hm
    rw [q_R23_Find_c1, List.drop_eq_getElem_cons hlt, List.any_cons, fi]
    simp only [S0, S9, S1, S2, if_true, if_false, Wt0, at_get hlt, nF_eq, hw]
    rw [if_pos (by omega), if_pos (by omega)]
    cases seqB (nF F[j]) s
    · simp only [Bool.false_eq_true, if_false, false_or]; exact q
    · rfl
theorem rfind_does (F : List T) (d : Dk) (s : ByteArray) (hl : F.length ≤ 1000000) : Dz i_R23_Find none [A.t (Wt F d), A.t (T.str s)] (1, [A.t (T.int (fi (fun x => seqB (nF x) s) F 0))]) := by
  obtain ⟨n0, h0⟩ := rfind_loop F d s hl F.length 0 (by omega)
  rw [List.drop_zero] at h0
  refine Does.of n0 fun m hm => ?_
  have q : den Tryd.prog G0 ents m i_R23_Find (some p_R23_Find_c1) [A.t (T.str s), A.t (T.int 0), A.t (Wt F d)] = _ := h0 m hm
  rw [q_R23_Find]
  simp only [S0, S9, S1, S2, if_true, if_false, q]
  cases hb : F.any fun x => seqB (nF x) s
  · rw [fi_none hb]; rfl
  · rfl
theorem find_in {N : Nat} {fs F : List T} (h : In N fs F) (s : ByteArray) : (hF fs s = false ∧ fi (fun x => seqB (nF x) s) F 0 = -1) ∨
    (hF fs s = true ∧ ∃ j, ∃ hj : j < F.length, fi (fun x => seqB (nF x) s) F 0 = (j : Int) ∧ nF F[j] = s ∧ sF F[j] = fT (gF fs s) ∧ uF F[j] = fN (gF fs s)) := by
  rw [h.has s]
  cases hb : F.any fun x => seqB (nF x) s with
  | false => exact .inl ⟨rfl, fi_none hb⟩
  | true =>
    obtain ⟨j, hj, h1, h2⟩ := fi_some _ F 0 hb
    have e := seq_is.1 h2
    obtain ⟨v1, v2⟩ := h.val F[j] (List.getElem_mem hj)
    rw [e] at v1 v2
    exact .inr ⟨rfl, j, hj, by rw [h1, Nat.zero_add], e, v1.symm, v2.symm⟩
theorem rcut_does (F : List T) (d : Dk) : Dz i_R23_cut none [A.t (Wt F d)] (1, [A.t (Wt F (dCut d)), A.t (T.bool (cutB d))]) := Does.now fun m => by
  rw [q_R23_cut]
  by_cases h : d.lf = 0
  · simp only [S0, S9, S1, S2, if_true, if_false, Wt0, Wt1, Wt2, Wt3, Wt4, cutB, dCut, h]
    rfl
  · have hb : (d.lf == 0) = false := by simpa using h
    simp only [S0, S9, S1, S2, if_true, if_false, Wt0, Wt1, Wt2, Wt3, Wt4, cutB, dCut, h, hb, Bool.not_false, Bool.true_and]
    rfl
theorem rread_does {N : Nat} {F : List T} {d : Dk} (h : In N d.fs F) (hN : N ≤ 1000000) (s : ByteArray) : Dz i_R23_Read none [A.t (Wt F d), A.t (T.str s)] (1, [A.t (T.str (rdS d s)), A.t (T.int (rdE d s))]) := by
  have hl := h.len
  obtain ⟨n0, h0⟩ := rfind_does F d s (by omega)
  refine Does.of n0 fun m hm => ?_
  rw [q_R23_Read]
  rcases find_in h s with ⟨e1, e2⟩ | ⟨e1, j, hj, e2, e3, e4, e5⟩
  · simp only [S0, S9, S1, S2, if_true, if_false, Wt0, Wt1, h0 m hm, e2, rdS, rdE, e1, show ((-1 : Int) < 0) = True by simp]
    cases d.dn
    · simp only [Bool.false_eq_true, if_false]
    · rfl
  · simp only [S0, S9, S1, S2, if_true, if_false, Wt0, Wt1, h0 m hm, e2, rdS, rdE, e1, at_get hj, sF_eq, e4]
    cases d.dn
    · simp only [Bool.false_eq_true, if_false]
      repeat (first | rw [if_pos (by omega)] | rw [if_neg (by omega)])
    · rfl
theorem leb_eq (f x : T) : Bool.or (sltB (nF f) (nF x)) (seqB (nF f) (nF x)) = (sltB (nF f) (nF x) || seqB (nF f) (nF x)) := rfl
theorem rput_loop (f : T) (l : List T) (hl : l.length ≤ 1000000) : ∀ (k j : Nat) (b : Bool) (out : List T), j + k = l.length → out.length ≤ 2 * j →
    Dz i_R23_put (some p_R23_put_c1) [A.t (T.node l), A.t (T.bool b), A.t (T.int j), A.t f, A.t (T.node out)] (2, [A.t (T.bool ((l.drop j).foldl (stepP f) (b, out)).1), A.t f, A.t (T.node ((l.drop j).foldl (stepP f) (b, out)).2)]) := by
  intro k
  induction k with
  | zero =>
    intro j b out hj ho
    refine Does.now fun m => ?_
    rw [q_R23_put_c1, List.drop_of_length_le (by omega)]
    simp only [S0, S9, S1, S2, if_true, if_false, List.foldl_nil]
    rw [if_neg (by omega)]
  | succ k ih =>
    intro j b out hj ho
    have hlt : j < l.length := by omega
    have hw : IntKind.i64.wrap ((j : Int) + 1) = ((j + 1 : Nat) : Int) := i64succ (by omega)
    have hlen : (stepP f (b, out) l[j]).2.length ≤ 2 * (j + 1) := by
      unfold stepP
      simp only [List.length_append]
      have h1 : (if (!b && (sltB (nF f) (nF l[j]) || seqB (nF f) (nF l[j]))) = true then [f] else []).length ≤ 1 := by split <;> simp
      have h2 : (if seqB (nF l[j]) (nF f) = true then [] else [l[j]]).length ≤ 1 := by split <;> simp
      omega
    obtain ⟨n0, h0⟩ := ih (j + 1) (stepP f (b, out) l[j]).1 (stepP f (b, out) l[j]).2 (by omega) hlen
    refine Does.of n0 fun m hm => ?_
    have q := h0 m hm
    have hs1 : Nat.succ out.length < 1073741824 := by show _ + 1 < _; omega
    have hs2 : Nat.succ (out ++ [f]).length < 1073741824 := by show _ + 1 < _; rw [List.length_append, List.length_singleton]; omega
    rw [q_R23_put_c1, List.drop_eq_getElem_cons hlt, List.foldl_cons]
    simp only [S0, S9, S1, S2, if_true, if_false, at_get hlt, nF_eq, hw, hs1, hs2]
    have e : stepP f (b, out) l[j] = ((stepP f (b, out) l[j]).1, (stepP f (b, out) l[j]).2) := rfl
    rw [e]
    refine Eq.trans ?_ q
    have hcm : seqB (nF l[j]) (nF f) = seqB (nF f) (nF l[j]) := seq_comm _ _
    unfold stepP
    rw [if_pos (by omega), hcm]
    have hib : (0 : Int) ≤ (j : Int) ∧ (j : Int) < ((l.length : Nat) : Int) := ⟨by omega, by omega⟩
    cases b <;> cases sltB (nF f) (nF l[j]) <;> cases seqB (nF f) (nF l[j]) <;>
      simp only [Bool.not_false, Bool.not_true, Bool.false_or, Bool.true_or, Bool.or_true, Bool.or_false, Bool.true_and, Bool.false_and, Bool.and_true, Bool.and_false, Bool.false_eq_true, false_or, or_false, true_or, or_true, if_true, if_false, hib, and_self, List.append_nil]
theorem rput_does (f : T) (l : List T) (hl : l.length ≤ 1000000) (hu : Up l) : Dz i_R23_put none [A.t (T.node l), A.t f] (1, [A.t (T.node (insF f l))]) := by
  obtain ⟨n0, h0⟩ := rput_loop f l hl l.length 0 false [] (by omega) (by simp)
  rw [List.drop_zero] at h0
  have hi := step_ins l [] hu (f := f)
  have hlen : (l.foldl (stepP f) (false, [])).2.length ≤ 1000000 + 1 := by
    have : ((l.foldl (stepP f) (false, [])).2 ++ (if (l.foldl (stepP f) (false, [])).1 then [] else [f])).length ≤ l.length + 1 := by
      rw [hi, List.nil_append]
      have : ∀ F : List T, (insF f F).length ≤ F.length + 1 := by
        intro F
        induction F with
        | nil => exact Nat.le_refl _
        | cons y l ih =>
          unfold insF
          split
          · rw [List.length_cons, List.length_cons]; omega
          · split <;> simp
      exact this l
    rw [List.length_append] at this
    omega
  refine Does.of n0 fun m hm => ?_
  have q : den Tryd.prog G0 ents m i_R23_put (some p_R23_put_c1) [A.t (T.node l), A.t (T.bool false), A.t (T.int 0), A.t f, A.t (T.node [])] = _ := h0 m hm
  rw [q_R23_put, ← List.nil_append (insF f l), ← hi]
  simp only [S0, S9, S1, S2, if_true, if_false, q]
  cases (l.foldl (stepP f) (false, [])).1
  · simp only [Bool.not_false, if_true, Bool.false_eq_true, if_false]
    rw [if_pos (by show _ + 1 < _; omega)]
  · simp only [Bool.not_true, if_true, Bool.false_eq_true, if_false, List.append_nil]
theorem rputo_loop (f : T) (l : List T) (hl : l.length ≤ 1000000) : ∀ (k j : Nat) (b : Bool) (out : List T), j + k = l.length → out.length ≤ 2 * j →
    Dz i_R23_put_o (some p_R23_put_o_c1) [A.t (T.bool b), A.t (T.int j), A.t (T.node l), A.t f, A.t (T.node out)] (2, [A.t (T.bool ((l.drop j).foldl (stepP f) (b, out)).1), A.t (T.node l), A.t f, A.t (T.node ((l.drop j).foldl (stepP f) (b, out)).2)]) := by
  intro k
  induction k with
  | zero =>
    intro j b out hj ho
    refine Does.now fun m => ?_
    rw [q_R23_put_o_c1, List.drop_of_length_le (by omega)]
    simp only [S0, S9, S1, S2, if_true, if_false, List.foldl_nil]
    rw [if_neg (by omega)]
  | succ k ih =>
    intro j b out hj ho
    have hlt : j < l.length := by omega
    have hw : IntKind.i64.wrap ((j : Int) + 1) = ((j + 1 : Nat) : Int) := i64succ (by omega)
    have hlen : (stepP f (b, out) l[j]).2.length ≤ 2 * (j + 1) := by
      unfold stepP
      simp only [List.length_append]
      have h1 : (if (!b && (sltB (nF f) (nF l[j]) || seqB (nF f) (nF l[j]))) = true then [f] else []).length ≤ 1 := by split <;> simp
      have h2 : (if seqB (nF l[j]) (nF f) = true then [] else [l[j]]).length ≤ 1 := by split <;> simp
      omega
    obtain ⟨n0, h0⟩ := ih (j + 1) (stepP f (b, out) l[j]).1 (stepP f (b, out) l[j]).2 (by omega) hlen
    refine Does.of n0 fun m hm => ?_
    have q := h0 m hm
    have hs1 : Nat.succ out.length < 1073741824 := by show _ + 1 < _; omega
    have hs2 : Nat.succ (out ++ [f]).length < 1073741824 := by show _ + 1 < _; rw [List.length_append, List.length_singleton]; omega
    rw [q_R23_put_o_c1, List.drop_eq_getElem_cons hlt, List.foldl_cons]
    simp only [S0, S9, S1, S2, if_true, if_false, at_get hlt, nF_eq, hw, hs1, hs2]
    have e : stepP f (b, out) l[j] = ((stepP f (b, out) l[j]).1, (stepP f (b, out) l[j]).2) := rfl
    rw [e]
    refine Eq.trans ?_ q
    have hcm : seqB (nF l[j]) (nF f) = seqB (nF f) (nF l[j]) := seq_comm _ _
    unfold stepP
    rw [if_pos (by omega), hcm]
    have hib : (0 : Int) ≤ (j : Int) ∧ (j : Int) < ((l.length : Nat) : Int) := ⟨by omega, by omega⟩
    cases b <;> cases sltB (nF f) (nF l[j]) <;> cases seqB (nF f) (nF l[j]) <;>
      simp only [Bool.not_false, Bool.not_true, Bool.false_or, Bool.true_or, Bool.or_true, Bool.or_false, Bool.true_and, Bool.false_and, Bool.and_true, Bool.and_false, Bool.false_eq_true, false_or, or_false, true_or, or_true, if_true, if_false, hib, hlt, and_self, List.append_nil]
theorem rputo_does (f : T) (l : List T) (hl : l.length ≤ 1000000) (hu : Up l) : Dz i_R23_put_o none [A.t f, A.t (T.node l)] (1, [A.t (T.node l), A.t (T.node (insF f l))]) := by
  obtain ⟨n0, h0⟩ := rputo_loop f l hl l.length 0 false [] (by omega) (by simp)
  rw [List.drop_zero] at h0
  have hi := step_ins l [] hu (f := f)
  have hlen : (l.foldl (stepP f) (false, [])).2.length ≤ 1000000 + 1 := by
    have : ((l.foldl (stepP f) (false, [])).2 ++ (if (l.foldl (stepP f) (false, [])).1 then [] else [f])).length ≤ l.length + 1 := by
      rw [hi, List.nil_append]
      have : ∀ F : List T, (insF f F).length ≤ F.length + 1 := by
        intro F
        induction F with
        | nil => exact Nat.le_refl _
        | cons y l ih =>
          unfold insF
          split
          · rw [List.length_cons, List.length_cons]; omega
          · split <;> simp
      exact this l
    rw [List.length_append] at this
    omega
  refine Does.of n0 fun m hm => ?_
  have q : den Tryd.prog G0 ents m i_R23_put_o (some p_R23_put_o_c1) [A.t (T.bool false), A.t (T.int 0), A.t (T.node l), A.t f, A.t (T.node [])] = _ := h0 m hm
  rw [q_R23_put_o, ← List.nil_append (insF f l), ← hi]
  simp only [S0, S9, S1, S2, if_true, if_false, q]
  cases (l.foldl (stepP f) (false, [])).1
  · simp only [Bool.not_false, if_true, Bool.false_eq_true, if_false]
    rw [if_pos (by show _ + 1 < _; omega)]
  · simp only [Bool.not_true, if_true, Bool.false_eq_true, if_false, List.append_nil]
theorem rdrop_loop (s : ByteArray) (l : List T) (hl : l.length ≤ 1000000) : ∀ (k j : Nat) (out : List T), j + k = l.length → out.length ≤ j →
    Dz i_R23_drop (some p_R23_drop_c1) [A.t (T.node l), A.t (T.str s), A.t (T.int j), A.t (T.node out)] (2, [A.t (T.node (out ++ rmF (l.drop j) s))]) := by
  intro k
  induction k with
  | zero =>
    intro j out hj ho
    refine Does.now fun m => ?_
    rw [q_R23_drop_c1, List.drop_of_length_le (by omega)]
    simp only [S0, S9, S1, S2, if_true, if_false, rmF, List.filter_nil, List.append_nil]
    rw [if_neg (by omega)]
  | succ k ih =>
    intro j out hj ho
    have hlt : j < l.length := by omega
    have hw : IntKind.i64.wrap ((j : Int) + 1) = ((j + 1 : Nat) : Int) := i64succ (by omega)
    have hs1 : Nat.succ out.length < 1073741824 := by show _ + 1 < _; omega
    rw [List.drop_eq_getElem_cons hlt]
    cases hb : seqB (nF l[j]) s with
    | true =>
      obtain ⟨n0, h0⟩ := ih (j + 1) out (by omega) (by omega)
      refine Does.of n0 fun m hm => ?_
      have q := h0 m hm
      rw [q_R23_drop_c1]
      unfold rmF at q ⊢
      rw [List.filter_cons_of_neg (by rw [hb]; simp)]
      simp only [S0, S9, S1, S2, if_true, if_false, at_get hlt, nF_eq, hw, hs1, hb, Bool.not_true]
      rw [if_pos (by omega), if_pos (by omega)]
      exact q
    | false =>
      obtain ⟨n0, h0⟩ := ih (j + 1) (out ++ [l[j]]) (by omega) (by rw [List.length_append, List.length_singleton]; omega)
      refine Does.of n0 fun m hm => ?_
      have q := h0 m hm
      rw [q_R23_drop_c1]
      unfold rmF at q ⊢
      rw [List.filter_cons_of_pos (by rw [hb]; rfl)]
      simp only [S0, S9, S1, S2, if_true, if_false, at_get hlt, nF_eq, hw, hs1, hb, Bool.not_false]
      rw [if_pos (by omega), if_pos (by omega), if_pos (by omega)]
      rw [q, List.append_assoc]
      rfl
theorem rdrop_does (s : ByteArray) (l : List T) (hl : l.length ≤ 1000000) : Dz i_R23_drop none [A.t (T.node l), A.t (T.str s)] (1, [A.t (T.node (rmF l s))]) := by
  obtain ⟨n0, h0⟩ := rdrop_loop s l hl l.length 0 [] (by omega) (by simp)
  rw [List.drop_zero, List.nil_append] at h0
  refine Does.of n0 fun m hm => ?_
  have q : den Tryd.prog G0 ents m i_R23_drop (some p_R23_drop_c1) [A.t (T.node l), A.t (T.str s), A.t (T.int 0), A.t (T.node [])] = _ := h0 m hm
  rw [q_R23_drop]
  simp only [S0, S9, S1, S2, if_true, if_false, q]
end Go.Proofs.YtigbgcopidghfaaDoorDP
namespace Go.Proofs.YtigbgcopidghfaaDoorDP
open Go Go.Proofs.YtigbgcopidghfaaDoorVM
set_option linter.unusedVariables false
set_option linter.unusedSimpArgs false
set_option maxRecDepth 100000

theorem WtT (F : List T) (d : Dk) : terms (Wt F d) = F := id rfl
theorem apT_neg {d : Dk} {s : ByteArray} (h : d.kp < 0) : apT d s = ⟨List.toArray []⟩ := by
  have e : Int.toNat (maxI 0 (minI d.kp ((s.size : Nat) : Int))) = 0 := by
    unfold maxI minI
    split <;> (try split at *) <;> omega
  unfold apT
  rw [e]
  apply ByteArray.ext
  simp
theorem apT_mid {d : Dk} {s : ByteArray} (h : 0 ≤ d.kp) (h2 : d.kp < (s.size : Int)) : apT d s = s.extract 0 d.kp.toNat := by
  have e : maxI 0 (minI d.kp ((s.size : Nat) : Int)) = d.kp := by
    unfold maxI minI
    split <;> (try split at *) <;> omega
  unfold apT
  rw [e]
theorem apT_big {d : Dk} {s : ByteArray} (h2 : (s.size : Int) ≤ d.kp) : apT d s = s := by
  have e : Int.toNat (maxI 0 (minI d.kp ((s.size : Nat) : Int))) = s.size := by
    unfold maxI minI
    split <;> (try split at *) <;> omega
  unfold apT
  rw [e]
  simp
def apF (d : Dk) (to s : ByteArray) : T := .node [.str to, .str (fT (gF d.fs to) ++ (if cutB d then apT d s else s)), .int (fN (gF d.fs to))]
def apL (F : List T) (d : Dk) (to s : ByteArray) : List T := if d.dn then F else if nameB to then (if 4194304 < (fT (gF d.fs to)).size + s.size then F else insF (apF d to s) F) else F
theorem apL_in {N : Nat} {F : List T} {d : Dk} (h : In N d.fs F) {to s : ByteArray} (ht : to.size ≤ 100) : In (N + 1) (apD d to s).fs (apL F d to s) := by
  obtain ⟨g1, g2, g3⟩ := h.wf to
  unfold apD apL
  cases d.dn
  · cases nameB to
    · exact h.mono (by omega)
    · simp only [Bool.false_eq_true, if_false, if_true]
      by_cases h4 : 4194304 < (fT (gF d.fs to)).size + s.size
      · rw [if_pos h4, if_pos h4]; exact h.mono (by omega)
      · rw [if_neg h4, if_neg h4]
        have hz : (if cutB d = true then apT d s else s).size ≤ s.size := by
          split
          · unfold apT; rw [ByteArray.size_extract]; omega
          · exact Nat.le_refl _
        exact h.put (f := apF d to s) ht rfl rfl ⟨by rw [fN_fil]; exact g1, by rw [fN_fil, fT_fil, ByteArray.size_append]; omega, by rw [fT_fil, ByteArray.size_append]; omega⟩
  · exact h.mono (by omega)
theorem rappend_does {N : Nat} {F : List T} {d : Dk} (h : In N d.fs F) (hN : N ≤ 100000) (to s : ByteArray) (hs : s.size ≤ 1000000) :
    Dz i_R23_Append none [A.t (Wt F d), A.t (T.str to), A.t (T.str s)] (1, [A.t (Wt (apL F d to s) (apD d to s)), A.t (T.int (apE d to s))]) := by
  have hl := h.len
  obtain ⟨g1, g2, g3⟩ := h.wf to
  obtain ⟨n0, h0⟩ := (rname_does to).both (rfind_does F d to (by omega))
  obtain ⟨n1, h1⟩ := (rcut_does F d).both (rput_does (apF d to s) F (by omega) h.up)
  unfold apL apE apD
  cases hd : d.dn with
  | true =>
    refine Does.now fun m => ?_
    rw [q_R23_Append]
    simp only [S0, S9, S1, S2, if_true, if_false, Wt1, hd]
  | false =>
    cases hn : nameB to with
    | false =>
      rw [hn] at h0
      refine Does.of n0 fun m hm => ?_
      rw [q_R23_Append]
      simp only [S0, S9, S1, S2, if_true, if_false, Wt1, hd, (h0 m (by omega)).1, Bool.not_false, Bool.false_eq_true]
    | true =>
      rw [hn] at h0
      by_cases h4 : 4194304 < (fT (gF d.fs to)).size + s.size
      · refine Does.of n0 fun m hm => ?_
        obtain ⟨q1, q2⟩ := h0 m (by omega)
        rw [q_R23_Append]
        rcases find_in h to with ⟨e1, e2⟩ | ⟨e1, j, hj, e2, e3, e4, e5⟩
        · have hw0 : IntKind.i64.wrap (0 + (s.size : Int)) = (s.size : Int) := by rw [w64 (by omega) (by omega)]; omega
          have hz0 : (fT (gF d.fs to)).size = 0 := by rw [gF_no e1]; rfl
          simp only [S0, S9, S1, S2, if_true, if_false, WtT, Wt0, Wt1, hd, q1, q2, e2, Bool.not_true, Bool.false_eq_true, h4, hw0, show ((-1 : Int) ≥ 0) = False by simp]
          rw [if_pos (by omega)]
        · have hw1 : IntKind.i64.wrap (((fT (gF d.fs to)).size : Int) + (s.size : Int)) = (((fT (gF d.fs to)).size + s.size : Nat) : Int) := i64add (by omega)
          simp only [S0, S9, S1, S2, if_true, if_false, WtT, Wt0, Wt1, hd, q1, q2, e2, Bool.not_true, Bool.false_eq_true, h4, at_get hj, nF_eq, sF_eq, uF_eq, e4, hw1]
          rw [if_pos (by omega), if_pos (by omega), if_pos (by omega)]
      · -- it is put
        have fin : ∀ (m : Nat) (X : ByteArray) (e : Int), (if cutB d = true then apT d s else s) = X → n0 + n1 ≤ m → den Tryd.prog G0 ents m i_R23_put none [A.t (T.node F), A.t (T.node [T.str to, T.str (fT (gF d.fs to) ++ X), T.int (fN (gF d.fs to))])] = some (1, [A.t (T.node (insF (apF d to s) F))]) := by
          intro m X e hX hm
          have := (h1 m (by omega)).2
          unfold apF at this ⊢
          rw [hX] at this ⊢
          exact this
        refine Does.of (n0 + n1) fun m hm => ?_
        obtain ⟨q1, q2⟩ := h0 m (by omega)
        have q3 := (h1 m (by omega)).1
        have hbe : (⟨List.toArray []⟩ : ByteArray).size = 0 := rfl
        rw [q_R23_Append]
        rcases find_in h to with ⟨e1, e2⟩ | ⟨e1, j, hj, e2, e3, e4, e5⟩
        · have hw0 : IntKind.i64.wrap (0 + (s.size : Int)) = (s.size : Int) := by rw [w64 (by omega) (by omega)]; omega
          have hg : gF d.fs to = f0 := gF_no e1
          have hz0 : (fT (gF d.fs to)).size = 0 := by rw [hg]; rfl
          have ht0 : fT (gF d.fs to) = ByteArray.empty := by rw [hg]; rfl
          have hn0 : fN (gF d.fs to) = 0 := by rw [hg]; rfl
          rw [ht0, hn0] at fin
          have hx0 : (s.extract 0 d.kp.toNat).size ≤ s.size := by rw [ByteArray.size_extract]; omega
          simp only [S0, S9, S1, S2, if_true, if_false, WtT, Wt0, Wt1, hd, q1, q2, e2, Bool.not_true, Bool.false_eq_true, h4, hw0, show ((-1 : Int) ≥ 0) = False by simp, q3, Wt2, Wt3, Wt4, dCut_kp]
          rw [if_neg (by omega)]
          cases hc : cutB d with
          | false =>
            have q4 := fin m s 0 (by rw [hc]; simp) (by omega)
            simp only [Bool.false_eq_true, if_false]
            rw [if_pos (by omega)]
            simp only [q4, S0]
            rfl
          | true =>
            simp only [if_true]
            by_cases k0 : d.kp < 0
            · have q4 := fin m ⟨List.toArray []⟩ 0 (by rw [hc, if_pos rfl]; exact apT_neg k0) (by omega)
              rw [if_pos k0, if_neg (by omega)]
              have q4' : den Tryd.prog G0 ents m i_R23_put none [A.t (T.node F), A.t (T.node [T.str to, T.str ⟨List.toArray (ByteArray.empty.data.toList ++ (⟨List.toArray []⟩ : ByteArray).data.toList)⟩, T.int 0])] = _ := q4
              simp only [q4', S0]
              rfl
            · by_cases k1 : d.kp < (s.size : Int)
              · have q4 := fin m (s.extract 0 d.kp.toNat) 0 (by rw [hc, if_pos rfl]; exact apT_mid (by omega) k1) (by omega)
                rw [if_neg k0, if_pos (by omega), if_pos k1, if_pos (by refine ⟨⟨⟨?_, ?_⟩, trivial⟩, ?_⟩ <;> omega), if_pos (by omega)]
                simp only [q4, S0]
                rfl
              · have q4 := fin m s 0 (by rw [hc, if_pos rfl]; exact apT_big (by omega)) (by omega)
                rw [if_neg k0, if_pos (by omega), if_neg k1, if_pos (by omega)]
                simp only [q4, S0]
                rfl
        · have hw1 : IntKind.i64.wrap (((fT (gF d.fs to)).size : Int) + (s.size : Int)) = (((fT (gF d.fs to)).size + s.size : Nat) : Int) := i64add (by omega)
          have hx0 : (s.extract 0 d.kp.toNat).size ≤ s.size := by rw [ByteArray.size_extract]; omega
          simp only [S0, S9, S1, S2, if_true, if_false, WtT, Wt0, Wt1, hd, q1, q2, e2, Bool.not_true, Bool.false_eq_true, h4, at_get hj, nF_eq, sF_eq, uF_eq, e3, e4, e5, hw1, q3, Wt2, Wt3, Wt4, dCut_kp]
          rw [if_pos (by omega), if_pos (by omega), if_neg (by omega)]
          cases hc : cutB d with
          | false =>
            have q4 := fin m s 0 (by rw [hc]; simp) (by omega)
            simp only [Bool.false_eq_true, if_false]
            rw [if_pos (by omega)]
            simp only [q4, S0]
            rfl
          | true =>
            simp only [if_true]
            by_cases k0 : d.kp < 0
            · have q4 := fin m ⟨List.toArray []⟩ 0 (by rw [hc, if_pos rfl]; exact apT_neg k0) (by omega)
              rw [if_pos k0, if_neg (by omega), if_pos (by omega)]
              simp only [q4, S0]
              rfl
            · by_cases k1 : d.kp < (s.size : Int)
              · have q4 := fin m (s.extract 0 d.kp.toNat) 0 (by rw [hc, if_pos rfl]; exact apT_mid (by omega) k1) (by omega)
                rw [if_neg k0, if_pos (by omega), if_pos k1, if_pos (by refine ⟨⟨⟨?_, ?_⟩, trivial⟩, ?_⟩ <;> omega), if_pos (by omega)]
                simp only [q4, S0]
                rfl
              · have q4 := fin m s 0 (by rw [hc, if_pos rfl]; exact apT_big (by omega)) (by omega)
                rw [if_neg k0, if_pos (by omega), if_neg k1, if_pos (by omega)]
                simp only [q4, S0]
                rfl
def syL (F : List T) (d : Dk) (s : ByteArray) : List T := if rdE d s = 0 then (if cutB d then F else insF (.node [.str s, .str (fT (gF d.fs s)), .int ((fT (gF d.fs s)).size : Nat)]) F) else F
theorem rdE_zero {d : Dk} {s : ByteArray} (h : rdE d s = 0) : d.dn = false ∧ hF d.fs s = true := by
  unfold rdE at h
  cases hd : d.dn <;> rw [hd] at h
  · cases hh : hF d.fs s <;> rw [hh] at h
    · simp at h
    · exact ⟨rfl, rfl⟩
  · simp at h
theorem syL_in {N : Nat} {F : List T} {d : Dk} (h : In N d.fs F) {s : ByteArray} (hs : s.size ≤ 100) : In (N + 1) (syD d s).fs (syL F d s) := by
  obtain ⟨g1, g2, g3⟩ := h.wf s
  unfold syD syL
  by_cases he : rdE d s = 0
  · rw [if_pos he, if_pos he]
    cases cutB d
    · exact h.put (f := .node [.str s, .str (fT (gF d.fs s)), .int ((fT (gF d.fs s)).size : Nat)]) hs rfl rfl ⟨by rw [fN_fil]; omega, by rw [fN_fil, fT_fil]; omega, by rw [fT_fil]; exact g3⟩
    · simp only [if_true]; rw [dCut_fs]; exact h.mono (by omega)
  · rw [if_neg he, if_neg he]; exact h.mono (by omega)
theorem rsync_does {N : Nat} {F : List T} {d : Dk} (h : In N d.fs F) (hN : N ≤ 100000) (s : ByteArray) : Dz i_R23_Sync none [A.t (Wt F d), A.t (T.str s)] (1, [A.t (Wt (syL F d s) (syD d s)), A.t (T.int (syE d s))]) := by
  have hl := h.len
  obtain ⟨n0, h0⟩ := (rread_does h (by omega) s).both (rcut_does F d)
  unfold syL syD syE
  by_cases he : rdE d s = 0
  · obtain ⟨hd, hh⟩ := rdE_zero he
    cases hc : cutB d with
    | true =>
      rw [hc] at h0
      refine Does.of n0 fun m hm => ?_
      rw [q_R23_Sync]
      simp only [S0, S9, S1, S2, if_true, if_false, (h0 m hm).1, (h0 m hm).2, he, not_true_eq_false]
    | false =>
      rw [hc] at h0
      rcases find_in h s with ⟨e1, e2⟩ | ⟨e1, j, hj, e2, e3, e4, e5⟩
      · rw [hh] at e1; cases e1
      · obtain ⟨n1, h1⟩ := (rfind_does F (dCut d) s (by omega)).both (rput_does (.node [.str s, .str (fT (gF d.fs s)), .int ((fT (gF d.fs s)).size : Nat)]) F (by omega) h.up)
        refine Does.of (n0 + n1) fun m hm => ?_
        obtain ⟨q1, q2⟩ := h0 m (by omega)
        obtain ⟨q3, q4⟩ := h1 m (by omega)
        rw [q_R23_Sync]
        simp only [S0, S9, S1, S2, if_true, if_false, q1, q2, he, not_true_eq_false, q3, e2, WtT, Wt0, Wt1, Wt2, Wt3, Wt4, at_get hj, nF_eq, sF_eq, e3, e4, q4, Bool.false_eq_true]
        rw [if_pos (by omega)]
        rfl
  · refine Does.of n0 fun m hm => ?_
    rw [q_R23_Sync]
    simp only [S0, S9, S1, S2, if_true, if_false, (h0 m hm).1, he, not_true_eq_false]
    rw [if_pos (by simp)]
def rnL (F : List T) (d : Dk) (a b : ByteArray) : List T := if d.dn then F else if nameB b then (if hF d.fs a then (if cutB d then F else insF (.node [.str b, .str (fT (gF d.fs a)), .int (fN (gF d.fs a))]) (rmF F a)) else F) else F
theorem rnL_in {N : Nat} {F : List T} {d : Dk} (h : In N d.fs F) {a b : ByteArray} (hs : b.size ≤ 100) : In (N + 1) (rnD d a b).fs (rnL F d a b) := by
  unfold rnD rnL
  cases d.dn
  · cases nameB b
    · exact h.mono (by omega)
    · cases hF d.fs a
      · exact h.mono (by omega)
      · cases cutB d
        · exact (h.del a).put (f := .node [.str b, .str (fT (gF d.fs a)), .int (fN (gF d.fs a))]) (v := gF d.fs a) hs rfl rfl (h.wf a)
        · show In (N + 1) (dCut d).fs F; rw [dCut_fs]; exact h.mono (by omega)
  · exact h.mono (by omega)
theorem rrename_does {N : Nat} {F : List T} {d : Dk} (h : In N d.fs F) (hN : N ≤ 100000) (a b : ByteArray) : Dz i_R23_Rename none [A.t (Wt F d), A.t (T.str a), A.t (T.str b)] (1, [A.t (Wt (rnL F d a b) (rnD d a b)), A.t (T.int (rnE d a b))]) := by
  have hl := h.len
  have hl2 : (rmF F a).length ≤ F.length := List.length_filter_le _ _
  obtain ⟨n0, h0⟩ := (rname_does b).both (rfind_does F d a (by omega))
  obtain ⟨n1, h1⟩ := (rcut_does F d).both (rdrop_does a F (by omega))
  obtain ⟨n2, h2⟩ := rputo_does (.node [.str b, .str (fT (gF d.fs a)), .int (fN (gF d.fs a))]) (rmF F a) (by omega) (h.del a).up
  unfold rnL rnD rnE
  refine Does.of (n0 + n1 + n2) fun m hm => ?_
  obtain ⟨q1, q2⟩ := h0 m (by omega)
  obtain ⟨q3, q4⟩ := h1 m (by omega)
  have q5 := h2 m (by omega)
  rw [q_R23_Rename]
  cases hd : d.dn with
  | true => simp only [S0, S9, S1, S2, if_true, if_false, Wt1, hd]
  | false =>
    cases hn : nameB b with
    | false =>
      rw [hn] at q1
      simp only [S0, S9, S1, S2, if_true, if_false, Wt1, hd, q1, Bool.not_false, Bool.false_eq_true]
    | true =>
      rw [hn] at q1
      rcases find_in h a with ⟨e1, e2⟩ | ⟨e1, j, hj, e2, e3, e4, e5⟩
      · simp only [S0, S9, S1, S2, if_true, if_false, Wt1, hd, q1, q2, e1, e2, Bool.not_true, Bool.false_eq_true, show ((-1 : Int) < 0) = True by simp]
      · cases hc : cutB d with
        | true =>
          rw [hc] at q3
          simp only [S0, S9, S1, S2, if_true, if_false, Wt1, hd, q1, q2, q3, e1, e2, Bool.not_true, Bool.false_eq_true]
          rw [if_neg (by omega)]
        | false =>
          rw [hc] at q3
          simp only [S0, S9, S1, S2, if_true, if_false, WtT, WtT, Wt0, Wt1, Wt2, Wt3, Wt4, hd, q1, q2, q3, q4, e1, e2, Bool.not_true, Bool.false_eq_true, at_get hj, sF_eq, uF_eq, e4, e5, q5]
          rw [if_neg (by omega), if_pos (by omega)]
          rfl
def rmL (F : List T) (d : Dk) (s : ByteArray) : List T := if rdE d s = 0 then (if cutB d then F else rmF F s) else F
theorem rmL_in {N : Nat} {F : List T} {d : Dk} (h : In N d.fs F) (s : ByteArray) : In (N + 1) (rmD d s).fs (rmL F d s) := by
  unfold rmD rmL
  by_cases he : rdE d s = 0
  · rw [if_pos he, if_pos he]
    cases cutB d
    · exact (h.del s).mono (by omega)
    · simp only [if_true]; rw [dCut_fs]; exact h.mono (by omega)
  · rw [if_neg he, if_neg he]; exact h.mono (by omega)
theorem rremove_does {N : Nat} {F : List T} {d : Dk} (h : In N d.fs F) (hN : N ≤ 100000) (s : ByteArray) : Dz i_R23_Remove none [A.t (Wt F d), A.t (T.str s)] (1, [A.t (Wt (rmL F d s) (rmD d s)), A.t (T.int (syE d s))]) := by
  have hl := h.len
  obtain ⟨n0, h0⟩ := (rread_does h (by omega) s).both (rcut_does F d)
  obtain ⟨n1, h1⟩ := rdrop_does s F (by omega)
  refine Does.of (n0 + n1) fun m hm => ?_
  obtain ⟨q1, q2⟩ := h0 m (by omega)
  have q3 := h1 m (by omega)
  unfold rmL rmD syE
  rw [q_R23_Remove]
  by_cases he : rdE d s = 0
  · cases hc : cutB d with
    | true =>
      rw [hc] at q2
      simp only [S0, S9, S1, S2, if_true, if_false, q1, q2, he, not_true_eq_false]
    | false =>
      rw [hc] at q2
      simp only [S0, S9, S1, S2, if_true, if_false, q1, q2, he, not_true_eq_false, q3, WtT, Wt0, Wt1, Wt2, Wt3, Wt4, Bool.false_eq_true]
      rfl
  · simp only [S0, S9, S1, S2, if_true, if_false, q1, he, not_true_eq_false]
    rw [if_pos (by simp)]
theorem rfuse_does (F : List T) (d : Dk) (n k : Int) : Dz i_R23_Fuse none [A.t (Wt F d), A.t (T.int n), A.t (T.int k)] (1, [A.t (Wt F ⟨d.dn, maxI n 1, k, d.op, d.fs⟩)]) := Does.now fun m => by
  rw [q_R23_Fuse]
  simp only [S0, S9, S1, S2, if_true, if_false, WtT, Wt0, Wt1, Wt4]
  by_cases h : n < 1
  · have e : maxI n 1 = 1 := by unfold maxI; split <;> omega
    rw [if_pos h, e]; rfl
  · have e : maxI n 1 = n := by unfold maxI; split <;> omega
    rw [if_neg h, e]; rfl
def ldL (F : List T) (to s : ByteArray) : List T := if nameB to then (if 4194304 < s.size then F else insF (.node [.str to, .str s, .int (s.size : Nat)]) F) else F
theorem ldL_in {N : Nat} {F : List T} {d : Dk} (h : In N d.fs F) {to s : ByteArray} (ht : to.size ≤ 100) : In (N + 1) (ldD d to s).fs (ldL F to s) := by
  unfold ldD ldL
  cases nameB to
  · exact h.mono (by omega)
  · simp only [if_true]
    by_cases h4 : 4194304 < s.size
    · rw [if_pos h4, if_pos h4]; exact h.mono (by omega)
    · rw [if_neg h4, if_neg h4]
      exact h.put (f := .node [.str to, .str s, .int (s.size : Nat)]) ht rfl rfl ⟨by rw [fN_fil]; omega, by rw [fN_fil, fT_fil]; omega, by rw [fT_fil]; omega⟩
theorem rload_does {N : Nat} {F : List T} {d : Dk} (h : In N d.fs F) (hN : N ≤ 100000) (to s : ByteArray) : Dz i_R23_Load none [A.t (Wt F d), A.t (T.str to), A.t (T.str s)] (1, [A.t (Wt (ldL F to s) (ldD d to s)), A.t (T.int (ldE to s))]) := by
  have hl := h.len
  obtain ⟨n0, h0⟩ := (rname_does to).both (rput_does (.node [.str to, .str s, .int (s.size : Nat)]) F (by omega) h.up)
  refine Does.of n0 fun m hm => ?_
  obtain ⟨q1, q2⟩ := h0 m hm
  unfold ldL ldD ldE
  rw [q_R23_Load]
  cases hn : nameB to with
  | false =>
    rw [hn] at q1
    simp only [S0, S9, S1, S2, if_true, if_false, q1, Bool.not_false, Bool.false_eq_true]
  | true =>
    rw [hn] at q1
    by_cases h4 : 4194304 < s.size
    · simp only [S0, S9, S1, S2, if_true, if_false, q1, Bool.not_true, Bool.false_eq_true, h4]
      rw [if_pos (by omega)]
    · simp only [S0, S9, S1, S2, if_true, if_false, q1, Bool.not_true, Bool.false_eq_true, h4, WtT, Wt0, Wt1, Wt2, Wt3, Wt4, q2]
      rw [if_neg (by omega)]
      rfl
theorem rwake_loop {N : Nat} {F : List T} {d : Dk} (h : In N d.fs F) (hN : N ≤ 100000) (keeps : List T) (hk : keeps.length ≤ 1000000) (x3 : T) : ∀ (k j : Nat) (out : List T), j + k = F.length → out.length ≤ j →
    Dz i_R23_Wake (some p_R23_Wake_c1) [A.t (T.node keeps), A.t (T.int j), A.t (Wt F d), A.t x3, A.t (T.node out)] (2, [A.t (Wt F d), A.t x3, A.t (T.node (out ++ wakeD keeps j (F.drop j)))]) := by
  have hl := h.len
  intro k
  induction k with
  | zero =>
    intro j out hj ho
    refine Does.now fun m => ?_
    rw [q_R23_Wake_c1, List.drop_of_length_le (by omega)]
    simp only [S0, S9, S1, S2, if_true, if_false, WtT, Wt0, wakeD, List.append_nil]
    rw [if_neg (by omega)]
  | succ k ih =>
    intro j out hj ho
    have hlt : j < F.length := by omega
    have hw : IntKind.i64.wrap ((j : Int) + 1) = ((j + 1 : Nat) : Int) := i64succ (by omega)
    have hs1 : Nat.succ out.length < 1073741824 := by show _ + 1 < _; omega
    obtain ⟨n0, h0⟩ := ih (j + 1) (out ++ [wkF F[j] (kpN keeps j)]) (by omega) (by rw [List.length_append, List.length_singleton]; omega)
    have hfw : Fw (fil (sF F[j]) (uF F[j])) := by
      obtain ⟨v1, v2⟩ := h.val F[j] (List.getElem_mem hlt)
      obtain ⟨w1, w2, w3⟩ := h.wf (nF F[j])
      rw [v1, v2] at w2
      rw [v2] at w1
      rw [v1] at w3
      exact ⟨w1, w2, w3⟩
    obtain ⟨g1, g2, g3⟩ := hfw
    rw [fN_fil] at g1 g2
    rw [fT_fil] at g2 g3
    have hw1 : IntKind.i64.wrap (((sF F[j]).size : Int) - uF F[j]) = ((sF F[j]).size : Int) - uF F[j] := w64 (by omega) (by omega)
    have hct : cutT (fil (sF F[j]) (uF F[j])) (kpN keeps j) = ByteArray.extract (sF F[j]) 0 (Int.toNat (uF F[j] + stayF (fil (sF F[j]) (uF F[j])) (kpN keeps j))) := rfl
    have goal : ∀ (m : Nat) (st : Int), n0 ≤ m → stayF (fil (sF F[j]) (uF F[j])) (kpN keeps j) = st → den Tryd.prog G0 ents m i_R23_Wake (some p_R23_Wake_c1) [A.t (T.node keeps), A.t (T.int (j + 1 : Nat)), A.t (Wt F d), A.t x3, A.t (T.node (out ++ [T.node [T.str (nF F[j]), T.str (ByteArray.extract (sF F[j]) 0 (Int.toNat (uF F[j] + st))), T.int ((ByteArray.extract (sF F[j]) 0 (Int.toNat (uF F[j] + st))).size : Nat)]]))] = some (2, [A.t (Wt F d), A.t x3, A.t (T.node (out ++ wakeD keeps j (F[j] :: F.drop (j + 1))))]) := by
      intro m st hm hst
      have q := h0 m hm
      rw [List.append_assoc] at q
      have e : wkF F[j] (kpN keeps j) = T.node [T.str (nF F[j]), T.str (ByteArray.extract (sF F[j]) 0 (Int.toNat (uF F[j] + st))), T.int ((ByteArray.extract (sF F[j]) 0 (Int.toNat (uF F[j] + st))).size : Nat)] := by
        unfold wkF
        rw [hct, hst]
      rw [e] at q
      rw [wakeD, e]
      exact q
    refine Does.of n0 fun m hm => ?_
    rw [q_R23_Wake_c1, List.drop_eq_getElem_cons hlt]
    by_cases hkl : j < keeps.length
    · have hkn : kpN keeps j = (tAtD keeps j).num := if_pos hkl
      by_cases k0 : (tAtD keeps j).num > 0
      · by_cases k1 : (tAtD keeps j).num > ((sF F[j]).size : Int) - uF F[j]
        · have hst : stayF (fil (sF F[j]) (uF F[j])) (kpN keeps j) = ((sF F[j]).size : Int) - uF F[j] := by
            rw [hkn]; unfold stayF maxI minI; rw [fT_fil, fN_fil]
            split <;> (try split at *) <;> omega
          have hw2 : IntKind.i64.wrap (uF F[j] + (((sF F[j]).size : Int) - uF F[j])) = uF F[j] + (((sF F[j]).size : Int) - uF F[j]) := w64 (by omega) (by omega)
          simp only [S0, S9, S1, S2, if_true, if_false, WtT, Wt0, at_get hlt, nF_eq, sF_eq, uF_eq, hw, hs1, hw1, hw2, k0, k1]
          rw [if_pos (by omega), if_pos (by omega), if_pos (by omega), if_pos (by omega), if_pos (by omega), if_pos (by refine ⟨⟨⟨?_, ?_⟩, trivial⟩, ?_⟩ <;> omega)]
          exact goal m _ hm hst
        · have hst : stayF (fil (sF F[j]) (uF F[j])) (kpN keeps j) = (tAtD keeps j).num := by
            rw [hkn]; unfold stayF maxI minI; rw [fT_fil, fN_fil]
            split <;> (try split at *) <;> omega
          have hw2 : IntKind.i64.wrap (uF F[j] + (tAtD keeps j).num) = uF F[j] + (tAtD keeps j).num := w64 (by omega) (by omega)
          simp only [S0, S9, S1, S2, if_true, if_false, WtT, Wt0, at_get hlt, nF_eq, sF_eq, uF_eq, hw, hs1, hw1, hw2, k0, k1]
          rw [if_pos (by omega), if_pos (by omega), if_pos (by omega), if_pos (by omega), if_pos (by omega), if_pos (by refine ⟨⟨⟨?_, ?_⟩, trivial⟩, ?_⟩ <;> omega)]
          exact goal m _ hm hst
      · have hst : stayF (fil (sF F[j]) (uF F[j])) (kpN keeps j) = 0 := by
          rw [hkn]; unfold stayF maxI minI; rw [fT_fil, fN_fil]
          split <;> (try split at *) <;> omega
        have hw2 : IntKind.i64.wrap (uF F[j] + 0) = uF F[j] + 0 := w64 (by omega) (by omega)
        have k1 : ¬ (0 : Int) > ((sF F[j]).size : Int) - uF F[j] := by omega
        simp only [S0, S9, S1, S2, if_true, if_false, WtT, Wt0, at_get hlt, nF_eq, sF_eq, uF_eq, hw, hs1, hw1, hw2, k0, k1]
        rw [if_pos (by omega), if_pos (by omega), if_pos (by omega), if_pos (by omega), if_pos (by refine ⟨⟨⟨?_, ?_⟩, trivial⟩, ?_⟩ <;> omega)]
        exact goal m _ hm hst
    · have hkn : kpN keeps j = 0 := if_neg hkl
      have hst : stayF (fil (sF F[j]) (uF F[j])) (kpN keeps j) = 0 := by
        rw [hkn]; unfold stayF maxI minI; rw [fT_fil, fN_fil]
        split <;> (try split at *) <;> omega
      have hw2 : IntKind.i64.wrap (uF F[j] + 0) = uF F[j] + 0 := w64 (by omega) (by omega)
      have k1 : ¬ (0 : Int) > ((sF F[j]).size : Int) - uF F[j] := by omega
      simp only [S0, S9, S1, S2, if_true, if_false, WtT, Wt0, at_get hlt, nF_eq, sF_eq, uF_eq, hw, hs1, hw1, hw2, k1]
      rw [if_pos (by omega), if_pos (by omega), if_neg (by omega), if_pos (by refine ⟨⟨⟨?_, ?_⟩, trivial⟩, ?_⟩ <;> omega)]
      exact goal m _ hm hst
theorem rwake_does {N : Nat} {F : List T} {d : Dk} (h : In N d.fs F) (hN : N ≤ 100000) (keeps : List T) (hk : keeps.length ≤ 1000000) : Dz i_R23_Wake none [A.t (Wt F d), A.t (T.node keeps)] (1, [A.t (Wt (wakeD keeps 0 F) (wkD d keeps))]) := by
  obtain ⟨n0, h0⟩ := rwake_loop h hN keeps hk (.node [.node [], .bool false, .int 0, .int 0, .int 0]) F.length 0 [] (by omega) (by simp)
  rw [List.drop_zero, List.nil_append] at h0
  refine Does.of n0 fun m hm => ?_
  have q : den Tryd.prog G0 ents m i_R23_Wake (some p_R23_Wake_c1) [A.t (T.node keeps), A.t (T.int 0), A.t (Wt F d), A.t (.node [.node [], .bool false, .int 0, .int 0, .int 0]), A.t (T.node [])] = _ := h0 m hm
  rw [q_R23_Wake]
  simp only [S0, S9, S1, S2, if_true, if_false, q, Wt3, Wt4]
  rfl
end Go.Proofs.YtigbgcopidghfaaDoorDP
namespace Go.Proofs.YtigbgcopidghfaaDoorDP
open Go Go.Proofs.YtigbgcopidghfaaDoorVM
set_option linter.unusedVariables false
set_option linter.unusedSimpArgs false
set_option maxRecDepth 100000

theorem shortP_does (a : T) : Dz i_L23_short none [A.t a] (1, [A.t (T.bool (decide (((a.get 1).txt.size : Int) ≤ 100) && (decide (((a.get 2).txt.size : Int) ≤ 100) && (decide (((a.get 3).txt.size : Int) ≤ 300) && decide (((a.get 4).kids.length : Int) ≤ 20)))))]) := Does.now fun m => by
  rw [q_L23_short]
  simp only [S0, S9, S1]
  by_cases h1 : ((a.get 1).txt.size : Int) ≤ 100 <;> by_cases h2 : ((a.get 2).txt.size : Int) ≤ 100 <;> by_cases h3 : ((a.get 3).txt.size : Int) ≤ 300 <;>
    simp only [h1, h2, h3, if_true, if_false, decide_true, decide_false, Bool.true_and, Bool.false_and]
theorem numberP_does (l : List T) (i : Nat) (h : i < 1000) : Dz i_L23_number none [A.t (T.node l), A.t (T.int (i : Nat))] (1, [A.t (T.int (kpN l i))]) := Does.now fun m => by
  rw [q_L23_number]
  simp only [S0, S9, S1, S2, if_true, if_false, kpN]
  by_cases hi : i < l.length
  · rw [if_pos (by omega), if_pos (by omega), if_pos hi]
  · rw [if_neg (by omega), if_neg hi]
theorem step_does {N : Nat} {F : List T} {d : Dk} (h : In N d.fs F) (hN : N ≤ 10000) (a : T) (ha : (a.get 1).txt.size ≤ 100 ∧ (a.get 2).txt.size ≤ 100 ∧ (a.get 3).txt.size ≤ 300 ∧ (a.get 4).kids.length ≤ 20) :
    ∃ F' d', In (N + 1) d'.fs F' ∧ Dz i_L23_step none [A.t (Wt F d), A.t a, A.t (T.bool d.dn), A.t (T.int d.lf), A.t (T.int d.kp), A.t (T.int d.op), A.t (T.node d.fs)] (1, [A.t (Wt F' d'), A.t (T.bool true), A.t (T.bool d'.dn), A.t (T.int d'.lf), A.t (T.int d'.kp), A.t (T.int d'.op), A.t (T.node d'.fs)]) := by
  obtain ⟨s1, s2, s3, s4⟩ := ha
  have hbt : ∀ x : Int, (x == x) = true := fun x => beq_self_eq_true x
  by_cases k0 : Int.tmod (a.get 0).num 8 = 0
  · refine ⟨_, _, apL_in h s1 (s := (a.get 3).txt), ?_⟩
    obtain ⟨n0, h0⟩ := (append_does d (a.get 1).txt (a.get 3).txt h.wf (by omega)).both (rappend_does h (by omega) (a.get 1).txt (a.get 3).txt (by omega))
    refine Does.of n0 fun m hm => ?_
    rw [q_L23_step]
    simp only [S0, S9, S1, S2, if_true, if_false, (h0 m hm).1, (h0 m hm).2, k0, hbt]
  by_cases k1 : Int.tmod (a.get 0).num 8 = 1
  · refine ⟨_, _, syL_in h s1, ?_⟩
    obtain ⟨n0, h0⟩ := (sync_does d (a.get 1).txt).both (rsync_does h (by omega) (a.get 1).txt)
    refine Does.of n0 fun m hm => ?_
    rw [q_L23_step]
    simp only [S0, S9, S1, S2, if_true, if_false, (h0 m hm).1, (h0 m hm).2, k1, hbt, show ¬ (1 : Int) = 0 by omega]
  by_cases k2 : Int.tmod (a.get 0).num 8 = 2
  · refine ⟨_, _, rnL_in h (a := (a.get 1).txt) s2, ?_⟩
    obtain ⟨n0, h0⟩ := (rename_does d (a.get 1).txt (a.get 2).txt).both (rrename_does h (by omega) (a.get 1).txt (a.get 2).txt)
    refine Does.of n0 fun m hm => ?_
    rw [q_L23_step]
    simp only [S0, S9, S1, S2, if_true, if_false, (h0 m hm).1, (h0 m hm).2, k2, hbt, show ¬ (2 : Int) = 0 by omega, show ¬ (2 : Int) = 1 by omega]
  by_cases k3 : Int.tmod (a.get 0).num 8 = 3
  · refine ⟨_, _, rmL_in h (a.get 1).txt, ?_⟩
    obtain ⟨n0, h0⟩ := (remove_does d (a.get 1).txt).both (rremove_does h (by omega) (a.get 1).txt)
    refine Does.of n0 fun m hm => ?_
    rw [q_L23_step]
    simp only [S0, S9, S1, S2, if_true, if_false, (h0 m hm).1, (h0 m hm).2, k3, hbt, show ¬ (3 : Int) = 0 by omega, show ¬ (3 : Int) = 1 by omega, show ¬ (3 : Int) = 2 by omega]
  by_cases k4 : Int.tmod (a.get 0).num 8 = 4
  · refine ⟨F, ⟨d.dn, maxI (kpN (a.get 4).kids 0) 1, kpN (a.get 4).kids 1, d.op, d.fs⟩, h.mono (by omega), ?_⟩
    obtain ⟨n0, h0⟩ := (numberP_does (a.get 4).kids 0 (by omega)).both (numberP_does (a.get 4).kids 1 (by omega))
    obtain ⟨n1, h1⟩ := (fuse_does d (kpN (a.get 4).kids 0) (kpN (a.get 4).kids 1)).both (rfuse_does F d (kpN (a.get 4).kids 0) (kpN (a.get 4).kids 1))
    refine Does.of (n0 + n1) fun m hm => ?_
    have q1 : den Tryd.prog G0 ents m i_L23_number none [A.t (T.node (a.get 4).kids), A.t (T.int 0)] = _ := (h0 m (by omega)).1
    have q2 : den Tryd.prog G0 ents m i_L23_number none [A.t (T.node (a.get 4).kids), A.t (T.int 1)] = _ := (h0 m (by omega)).2
    rw [q_L23_step]
    simp only [S0, S9, S1, S2, if_true, if_false, q1, q2, (h1 m (by omega)).1, (h1 m (by omega)).2, k4, show ¬ (4 : Int) = 0 by omega, show ¬ (4 : Int) = 1 by omega, show ¬ (4 : Int) = 2 by omega, show ¬ (4 : Int) = 3 by omega]
  by_cases k5 : Int.tmod (a.get 0).num 8 = 5
  · refine ⟨wakeD (a.get 4).kids 0 F, wkD d (a.get 4).kids, (h.wake _).mono (by omega), ?_⟩
    obtain ⟨n0, h0⟩ := (wake_does d (a.get 4).kids (by omega) (h.ok (by omega)) h.wf).both (rwake_does h (by omega) (a.get 4).kids (by omega))
    refine Does.of n0 fun m hm => ?_
    rw [q_L23_step]
    simp only [S0, S9, S1, S2, if_true, if_false, (h0 m hm).1, (h0 m hm).2, k5, show ¬ (5 : Int) = 0 by omega, show ¬ (5 : Int) = 1 by omega, show ¬ (5 : Int) = 2 by omega, show ¬ (5 : Int) = 3 by omega, show ¬ (5 : Int) = 4 by omega]
  by_cases k6 : Int.tmod (a.get 0).num 8 = 6
  · refine ⟨_, _, ldL_in h s1 (s := (a.get 3).txt), ?_⟩
    obtain ⟨n0, h0⟩ := (load_does d (a.get 1).txt (a.get 3).txt).both (rload_does h (by omega) (a.get 1).txt (a.get 3).txt)
    refine Does.of n0 fun m hm => ?_
    rw [q_L23_step]
    simp only [S0, S9, S1, S2, if_true, if_false, (h0 m hm).1, (h0 m hm).2, k6, hbt, show ¬ (6 : Int) = 0 by omega, show ¬ (6 : Int) = 1 by omega, show ¬ (6 : Int) = 2 by omega, show ¬ (6 : Int) = 3 by omega, show ¬ (6 : Int) = 4 by omega, show ¬ (6 : Int) = 5 by omega]
  · refine ⟨F, d, h.mono (by omega), ?_⟩
    obtain ⟨n0, h0⟩ := (read_does d (a.get 1).txt).both (rread_does h (by omega) (a.get 1).txt)
    refine Does.of n0 fun m hm => ?_
    rw [q_L23_step]
    simp only [S0, S9, S1, S2, if_true, if_false, (h0 m hm).1, (h0 m hm).2, k0, k1, k2, k3, k4, k5, k6, hbt, seq_is.2 rfl]
theorem like_loop {N : Nat} {F : List T} {d : Dk} (h : In N d.fs F) (hN : N ≤ 100000) : ∀ (k j : Nat), j + k = F.length →
    Dz i_L23_Like (some p_L23_Like_c1) [A.t (T.node (F.map fun x => T.str (nF x))), A.t (T.int j), A.t (T.bool d.dn), A.t (T.int d.lf), A.t (T.int d.kp), A.t (T.int d.op), A.t (T.node d.fs), A.t (Wt F d)] (2, [A.t (T.bool d.dn), A.t (T.int d.lf), A.t (T.int d.kp), A.t (T.int d.op), A.t (T.node d.fs)]) := by
  have hl := h.len
  intro k
  induction k with
  | zero =>
    intro j hj
    refine Does.now fun m => ?_
    rw [q_L23_Like_c1]
    simp only [S0, S9, S1, S2, if_true, if_false, List.length_map]
    rw [if_neg (by omega)]
  | succ k ih =>
    intro j hj
    have hlt : j < F.length := by omega
    have hlm : j < (F.map fun x => T.str (nF x)).length := by rw [List.length_map]; exact hlt
    have hw : IntKind.i64.wrap ((j : Int) + 1) = ((j + 1 : Nat) : Int) := i64succ (by omega)
    have hget : (F.map fun x => T.str (nF x))[j] = T.str (nF F[j]) := by simp
    obtain ⟨v1, v2⟩ := h.val F[j] (List.getElem_mem hlt)
    obtain ⟨n0, h0⟩ := (sure_does d (nF F[j])).both (read_does d (nF F[j]))
    obtain ⟨n1, h1⟩ := (rread_does h (by omega) (nF F[j])).both (ih (j + 1) (by omega))
    refine Does.of (n0 + n1) fun m hm => ?_
    obtain ⟨q1, q2⟩ := h0 m (by omega)
    obtain ⟨q3, q4⟩ := h1 m (by omega)
    rw [q_L23_Like_c1]
    simp only [S0, S9, S1, S2, if_true, if_false, List.length_map, at_get hlm, hget, WtT, Wt0, at_get hlt, nF_eq, uF_eq, q1, q2, q3, hw, seq_is.2 rfl, Bool.not_true, v2, not_true_eq_false]
    repeat (first | rw [if_pos (by omega)] | rw [if_neg (by omega)])
    exact q4
theorem like_does {N : Nat} {F : List T} {d : Dk} (h : In N d.fs F) (hN : N ≤ 100000) : Dz i_L23_Like none [A.t (Wt F d), A.t (T.bool d.dn), A.t (T.int d.lf), A.t (T.int d.kp), A.t (T.int d.op), A.t (T.node d.fs)] (1, [A.t (T.bool true), A.t (T.bool d.dn), A.t (T.int d.lf), A.t (T.int d.kp), A.t (T.int d.op), A.t (T.node d.fs)]) := by
  have hl := h.len
  obtain ⟨n0, h0⟩ := (names_does d (h.ok (by omega))).both (down_does d)
  obtain ⟨n1, h1⟩ := (ops_does d).both (like_loop h hN F.length 0 (by omega))
  refine Does.of (n0 + n1) fun m hm => ?_
  obtain ⟨q1, q2⟩ := h0 m (by omega)
  have q3 := (h1 m (by omega)).1
  have q4 : den Tryd.prog G0 ents m i_L23_Like (some p_L23_Like_c1) [A.t (T.node (F.map fun x => T.str (nF x))), A.t (T.int 0), A.t (T.bool d.dn), A.t (T.int d.lf), A.t (T.int d.kp), A.t (T.int d.op), A.t (T.node d.fs), A.t (Wt F d)] = _ := (h1 m (by omega)).2
  rw [h.keys] at q1
  rw [q_L23_Like]
  simp only [S0, S9, S1, S2, if_true, if_false, q1, q2, q3, q4, WtT, Wt0, Wt1, Wt4, List.length_map, bne_self_eq_false, Bool.false_eq_true, not_true_eq_false, beq_self_eq_true, Bool.not_true]
theorem plays_loop (acts : List T) (hl : acts.length ≤ 60) : ∀ (k j : Nat) (F : List T) (d : Dk), j + k = acts.length → In j d.fs F →
    Dz i_L23_DiskPlays (some p_L23_DiskPlays_c1) [A.t (T.node acts), A.t (T.int j), A.t (T.bool d.dn), A.t (T.int d.lf), A.t (T.int d.kp), A.t (T.int d.op), A.t (Wt F d), A.t (T.node d.fs)] (2, []) := by
  intro k
  induction k with
  | zero =>
    intro j F d hj h
    refine Does.now fun m => ?_
    rw [q_L23_DiskPlays_c1]
    simp only [S0, S9, S1, S2, if_true, if_false]
    rw [if_neg (by omega)]
  | succ k ih =>
    intro j F d hj h
    have hlt : j < acts.length := by omega
    have hw : IntKind.i64.wrap ((j : Int) + 1) = ((j + 1 : Nat) : Int) := i64succ (by omega)
    have hs := shortP_does acts[j]
    cases hb : (decide (((acts[j].get 1).txt.size : Int) ≤ 100) && (decide (((acts[j].get 2).txt.size : Int) ≤ 100) && (decide (((acts[j].get 3).txt.size : Int) ≤ 300) && decide (((acts[j].get 4).kids.length : Int) ≤ 20)))) with
    | false =>
      rw [hb] at hs
      obtain ⟨n0, h0⟩ := hs.both (ih (j + 1) F d (by omega) (h.mono (by omega)))
      refine Does.of n0 fun m hm => ?_
      obtain ⟨q1, q2⟩ := h0 m hm
      rw [q_L23_DiskPlays_c1]
      simp only [S0, S9, S1, S2, if_true, if_false, at_get hlt, q1, Bool.not_false, hw]
      rw [if_pos (by omega), if_pos (by omega)]
      exact q2
    | true =>
      rw [hb] at hs
      have ha : (acts[j].get 1).txt.size ≤ 100 ∧ (acts[j].get 2).txt.size ≤ 100 ∧ (acts[j].get 3).txt.size ≤ 300 ∧ (acts[j].get 4).kids.length ≤ 20 := by
        simp only [Bool.and_eq_true, decide_eq_true_eq] at hb
        omega
      obtain ⟨F', d', h', hst⟩ := step_does h (by omega) acts[j] ha
      obtain ⟨n0, h0⟩ := hs.both hst
      obtain ⟨n1, h1⟩ := (like_does h' (by omega)).both (ih (j + 1) F' d' (by omega) h')
      refine Does.of (n0 + n1) fun m hm => ?_
      obtain ⟨q1, q2⟩ := h0 m (by omega)
      obtain ⟨q3, q4⟩ := h1 m (by omega)
      rw [q_L23_DiskPlays_c1]
      simp only [S0, S9, S1, S2, if_true, if_false, at_get hlt, q1, q2, q3, Bool.not_true, hw, Bool.false_eq_true]
      rw [if_pos (by omega), if_pos (by omega), if_pos (by omega)]
      exact q4
theorem awakeP_does : Dz i_L23_awake none [] (1, [A.t (T.bool true)]) := run_of 100 fun n => by kernel_rfl
theorem fuse2_does : Dz i_disk_Disk_Fuse_v2 none [A.t (T.int 1), A.t (T.int 1)] (1, []) := run_of 9 fun n => by kernel_rfl
theorem wake2_does : Dz i_disk_Disk_Wake_v2 none [A.t (T.node [T.int 1])] (1, []) := run_of 9 fun n => by kernel_rfl
theorem read2_does : Dz i_disk_Disk_Read_v2 none [A.t (T.str ⟨List.toArray [97]⟩)] (1, [A.t (T.str ⟨List.toArray []⟩), A.t (T.int 8)]) := run_of 9 fun n => by kernel_rfl
theorem append2_does : Dz i_disk_Disk_Append_v2 none [A.t (T.str ⟨List.toArray [97]⟩), A.t (T.str ⟨List.toArray []⟩)] (1, [A.t (T.int 8)]) := run_of 9 fun n => by kernel_rfl
theorem sync2_does : Dz i_disk_Disk_Sync_v2 none [A.t (T.str ⟨List.toArray [97]⟩)] (1, [A.t (T.int 8)]) := run_of 9 fun n => by kernel_rfl
theorem rename2_does : Dz i_disk_Disk_Rename_v2 none [A.t (T.str ⟨List.toArray [97]⟩), A.t (T.str ⟨List.toArray [98]⟩)] (1, [A.t (T.int 8)]) := run_of 9 fun n => by kernel_rfl
theorem remove2_does : Dz i_disk_Disk_Remove_v2 none [A.t (T.str ⟨List.toArray [97]⟩)] (1, [A.t (T.int 8)]) := run_of 9 fun n => by kernel_rfl
theorem load2_does : Dz i_disk_Disk_Load_v2 none [A.t (T.str ⟨List.toArray [97]⟩), A.t (T.str ⟨List.toArray []⟩)] (1, [A.t (T.int 8)]) := run_of 9 fun n => by kernel_rfl
theorem down2_does : Dz i_disk_Disk_Down_v2 none [] (1, [A.t (T.bool true)]) := run_of 9 fun n => by kernel_rfl
theorem ops2_does : Dz i_disk_Disk_Ops_v2 none [] (1, [A.t (T.int 0)]) := run_of 9 fun n => by kernel_rfl
theorem sure2_does : Dz i_disk_Disk_Sure_v2 none [A.t (T.str ⟨List.toArray [97]⟩)] (1, [A.t (T.int 0)]) := run_of 9 fun n => by kernel_rfl
theorem names2_does : Dz i_disk_Disk_Names_v2 none [] (1, [A.t (T.node [])]) := run_of 9 fun n => by kernel_rfl
theorem law_does (x : T) : Dz i_L23_DiskPlays none [A.t x] (1, [A.t (T.bool true)]) := by
  by_cases hl : x.kids.length ≤ 60
  · have hnew : Dz i_disk_New none [] (1, [A.t (T.bool false), A.t (T.int 0), A.t (T.int 0), A.t (T.int 0), A.t (T.node [])]) := Does.now fun m => by
      rw [q_disk_New]
      simp only [S0, S9, S1, S2, if_true, if_false]
    obtain ⟨n0, h0⟩ := hnew.both awakeP_does
    obtain ⟨n1, h1⟩ := plays_loop x.kids hl x.kids.length 0 [] ⟨false, 0, 0, 0, []⟩ (by omega) In.nil
    obtain ⟨n2, h2⟩ := fuse2_does.both wake2_does
    obtain ⟨n3, h3⟩ := read2_does.both append2_does
    obtain ⟨n4, h4⟩ := sync2_does.both rename2_does
    obtain ⟨n5, h5⟩ := remove2_does.both load2_does
    obtain ⟨n6, h6⟩ := down2_does.both ops2_does
    obtain ⟨n7, h7⟩ := sure2_does.both names2_does
    refine Does.of (n0 + n1 + n2 + n3 + n4 + n5 + n6 + n7) fun m hm => ?_
    have q : den Tryd.prog G0 ents m i_L23_DiskPlays (some p_L23_DiskPlays_c1) [A.t (T.node x.kids), A.t (T.int 0), A.t (T.bool false), A.t (T.int 0), A.t (T.int 0), A.t (T.int 0), A.t (T.node [T.node [], T.bool false, T.int 0, T.int 0, T.int 0]), A.t (T.node [])] = _ := h1 m (by omega)
    rw [q_L23_DiskPlays]
    simp only [S0, S9, S1, S2, if_true, if_false, (h0 m (by omega)).1, (h0 m (by omega)).2, q, (h2 m (by omega)).1, (h2 m (by omega)).2, (h3 m (by omega)).1, (h3 m (by omega)).2, (h4 m (by omega)).1, (h4 m (by omega)).2, (h5 m (by omega)).1, (h5 m (by omega)).2, (h6 m (by omega)).1, (h6 m (by omega)).2, (h7 m (by omega)).1, (h7 m (by omega)).2]
    rw [if_neg (by omega)]
    rfl
  · obtain ⟨n0, h0⟩ := awakeP_does
    refine Does.of n0 fun m hm => ?_
    rw [q_L23_DiskPlays]
    simp only [S0, S9, S1, S2, if_true, if_false, h0 m hm]
    rw [if_pos (by omega)]
end Go.Proofs.YtigbgcopidghfaaDoorDP
