/- A law's proof, a part: what the code answers. -/
import Derived.Test.YtigbgcopidghfaaDoorVmZu
import Derived.Test.YtigbgcopidghfaaDoorVmC
import Derived.Test.YtigbgcopidghfaaDoorVmZx
import Derived.Test.YtigbgcopidghfaaDoorProg
namespace Go.Proofs.YtigbgcopidghfaaDoorDK
open Go Go.Proofs.YtigbgcopidghfaaDoorVM
def G0 : List (Nat × TypeId × T) := [(0, 75, .node (wordsL.map T.str))]
def e0 : Entry := nameE 23 9 4
def e1 : Entry := sortedE 33 44 49 9 53 47
def e2 : Entry := { fid := 3, ins := ⟨[(0, .v 22)], []⟩, outs := ⟨[(0, .v 4)], []⟩, cuts := [([false, true, false, true, true, true, true, true], ⟨⟨[(0, .v 22), (3, .p 0 51), (4, .v 9), (5, .v 3)], [.var 51 (.agg 51 [.m 1, .v 4, .v 3, .v 3, .v 3]) false, .map 9 53]⟩, [(2, ⟨[], []⟩), (1, ⟨[(2, .v 4)], []⟩)]⟩)], lit := true }
def e3 : Entry := { fid := 5, ins := ⟨[], []⟩, outs := ⟨[(0, .v 4)], []⟩, cuts := [], lit := true }
def e4 : Entry := { fid := 6, ins := ⟨[], []⟩, outs := ⟨[(0, .p 0 51)], [.var 51 (.agg 51 [.m 1, .v 4, .v 3, .v 3, .v 3]) false, .map 9 53]⟩, cuts := [] }
def e5 : Entry := { fid := 9, ins := ⟨[(0, .p 0 51), (1, .v 9), (2, .v 9)], [.var 51 (.agg 51 [.m 1, .v 4, .v 3, .v 3, .v 3]) false, .map 9 53]⟩, outs := ⟨[(0, .v 30)], [.var 51 (.agg 51 [.m 1, .v 4, .v 3, .v 3, .v 3]) false, .map 9 53]⟩, cuts := [] }
def e6 : Entry := { fid := 19, ins := ⟨[(0, .p 0 51)], [.var 51 (.agg 51 [.m 1, .v 4, .v 3, .v 3, .v 3]) false, .map 9 53]⟩, outs := ⟨[(0, .v 4)], [.var 51 (.agg 51 [.m 1, .v 4, .v 3, .v 3, .v 3]) false, .map 9 53]⟩, cuts := [] }
def e7 : Entry := { fid := 24, ins := ⟨[(0, .p 0 51)], [.var 51 (.agg 51 [.m 1, .v 4, .v 3, .v 3, .v 3]) false, .map 9 53]⟩, outs := ⟨[(0, .v 4)], [.var 51 (.agg 51 [.m 1, .v 4, .v 3, .v 3, .v 3]) false, .map 9 53]⟩, cuts := [] }
def e8 : Entry := { fid := 10, ins := ⟨[(0, .p 0 51), (1, .v 9)], [.var 51 (.agg 51 [.m 1, .v 4, .v 3, .v 3, .v 3]) false, .map 9 53]⟩, outs := ⟨[(0, .v 30)], [.var 51 (.agg 51 [.m 1, .v 4, .v 3, .v 3, .v 3]) false, .map 9 53]⟩, cuts := [] }
def e9 : Entry := { fid := 8, ins := ⟨[(0, .p 0 51), (1, .v 9)], [.var 51 (.agg 51 [.m 1, .v 4, .v 3, .v 3, .v 3]) false, .map 9 53]⟩, outs := ⟨[(0, .v 9), (1, .v 30)], [.var 51 (.agg 51 [.m 1, .v 4, .v 3, .v 3, .v 3]) false, .map 9 53]⟩, cuts := [] }
def e10 : Entry := { fid := 11, ins := ⟨[(0, .p 0 51), (1, .v 3), (2, .v 3)], [.var 51 (.agg 51 [.m 1, .v 4, .v 3, .v 3, .v 3]) false, .map 9 53]⟩, outs := ⟨[], [.var 51 (.agg 51 [.m 1, .v 4, .v 3, .v 3, .v 3]) false, .map 9 53]⟩, cuts := [] }
def e11 : Entry := { fid := 13, ins := ⟨[(0, .p 0 51), (1, .v 26)], [.var 51 (.agg 51 [.m 1, .v 4, .v 3, .v 3, .v 3]) false, .map 9 53]⟩, outs := ⟨[], [.var 51 (.agg 51 [.m 1, .v 4, .v 3, .v 3, .v 3]) false, .map 9 53]⟩, cuts := [([false, true, false, true], ⟨⟨[(0, .p 0 51), (1, .v 26), (11, .v 47), (12, .v 3), (13, .v 3)], [.var 51 (.agg 51 [.m 1, .v 4, .v 3, .v 3, .v 3]) false, .map 9 53]⟩, [(2, ⟨[(0, .p 0 51)], [.var 51 (.agg 51 [.m 1, .v 4, .v 3, .v 3, .v 3]) false, .map 9 53]⟩)]⟩)] }
def e12 : Entry := { fid := 22, ins := ⟨[(0, .p 0 51)], [.var 51 (.agg 51 [.m 1, .v 4, .v 3, .v 3, .v 3]) false, .map 9 53]⟩, outs := ⟨[(0, .v 47)], [.var 51 (.agg 51 [.m 1, .v 4, .v 3, .v 3, .v 3]) false, .map 9 53]⟩, cuts := [] }
def e13 : Entry := { fid := 34, ins := ⟨[(0, .m 0)], [.map 9 53]⟩, outs := ⟨[(0, .clo 44 [.p 1 49])], [.map 9 53, .var 49 (.m 0) false]⟩, cuts := [] }
def e14 : Entry := { fid := 21, ins := ⟨[(0, .p 0 51), (1, .v 9)], [.var 51 (.agg 51 [.m 1, .v 4, .v 3, .v 3, .v 3]) false, .map 9 53]⟩, outs := ⟨[(0, .v 3)], [.var 51 (.agg 51 [.m 1, .v 4, .v 3, .v 3, .v 3]) false, .map 9 53]⟩, cuts := [] }
def e15 : Entry := { fid := 7, ins := ⟨[(0, .v 28)], []⟩, outs := ⟨[(0, .v 4)], []⟩, cuts := [], lit := true }
def e16 : Entry := { fid := 12, ins := ⟨[(0, .v 26), (1, .v 3)], []⟩, outs := ⟨[(0, .v 3)], []⟩, cuts := [], lit := true }
def ents : List Entry := [e0, e1, e2, e3, e4, e5, e6, e7, e8, e9, e10, e11, e12, e13, e14, e15, e16]
def i_name_Right : Nat := 0
def i_slices_Sorted : Nat := 1
def i_L23_DiskKeeps : Nat := 2
def i_L23_awake : Nat := 3
def i_disk_New : Nat := 4
def i_disk_Disk_Append : Nat := 5
def i_disk_Disk_Down : Nat := 6
def i_disk_Disk_cut : Nat := 7
def i_disk_Disk_Sync : Nat := 8
def i_disk_Disk_Read : Nat := 9
def i_disk_Disk_Fuse : Nat := 10
def i_disk_Disk_Wake : Nat := 11
def i_disk_Disk_Names : Nat := 12
def i_maps_Keys_map_string_disk_file_string_disk_file : Nat := 13
def i_disk_Disk_Sure : Nat := 14
def i_L23_short : Nat := 15
def i_L23_number : Nat := 16
def p_L23_DiskKeeps_c1 : List Bool := [false, true, false, true, true, true, true, true]
def p_disk_Disk_Wake_c1 : List Bool := [false, true, false, true]
noncomputable def D (n i : Nat) (p : Option (List Bool)) (xs : List A) : Option (Nat × List A) := den Tryd.prog G0 ents n i p xs
noncomputable def cl (n i : Nat) (xs : List A) (k : List A → Option (Nat × List A)) : Option (Nat × List A) := Option.bind (Option.map (fun v => v.2) (den Tryd.prog G0 ents n i none xs)) k
noncomputable def lp (n i : Nat) (p : List Bool) (xs : List A) (k : Nat × List A → Option (Nat × List A)) : Option (Nat × List A) := Option.bind (den Tryd.prog G0 ents n i (some p) xs) k
end Go.Proofs.YtigbgcopidghfaaDoorDK
set_option linter.unusedVariables false
set_option maxRecDepth 100000
namespace Go.Proofs.YtigbgcopidghfaaDoorDK
open Go Go.Proofs.YtigbgcopidghfaaDoorVM Go.Proofs
theorem q_L23_DiskKeeps (n : Nat) (x0 : T) : den Tryd.prog G0 ents (Nat.succ n) i_L23_DiskKeeps none [A.t x0] =
  bif gt x0.l 60 then cl n i_L23_awake [] fun v0 => rt [aB (r v0 0).b] else cl n i_disk_New [] fun v0 => lp n i_L23_DiskKeeps p_L23_DiskKeeps_c1 [aL x0.k,aS (bs []),aI 0,aB (r v0 0).b,aI (r v0 1).n,aI (r v0 2).n,aI (r v0 3).n,aL (r v0 4).k] fun v1 => bif Nat.beq v1.1 2 then cl n i_L23_awake [] fun v2 => rt [aB (r v2 0).b] else bif Nat.beq v1.1 1 then rt [aB (r v1.2 0).b] else none := by kernel_rfl
theorem q_L23_DiskKeeps_c1 (n : Nat) (x0 x1 x2 x3 x4 x5 x6 x7 : T) : den Tryd.prog G0 ents (Nat.succ n) i_L23_DiskKeeps (some p_L23_DiskKeeps_c1) [A.t x0, A.t x1, A.t x2, A.t x3, A.t x4, A.t x5, A.t x6, A.t x7] =
  bif lt x2.n x0.l then bif ib x2.n x0.l then cl n i_L23_short [A.t (x0.a x2.n)] fun v0 => bif !(r v0 0).b then D n i_L23_DiskKeeps (some p_L23_DiskKeeps_c1) [aL x0.k,aS x1.s,aI (w6 (x2.n + 1)),aB x3.b,aI x4.n,aI x5.n,aI x6.n,aL x7.k] else cl n i_disk_Disk_Read [aS (bs [102]),aB x3.b,aI x4.n,aI x5.n,aI x6.n,aL x7.k] fun v1 => bif Int.tmod ((x0.a x2.n).g 0).n 4 == 0 then cl n i_disk_Disk_Append [aS (bs [102]),aS ((x0.a x2.n).g 3).s,aB (r v1 2).b,aI (r v1 3).n,aI (r v1 4).n,aI (r v1 5).n,aL (r v1 6).k] fun v2 => cl n i_disk_Disk_Read [aS (bs [102]),aB (r v2 1).b,aI (r v2 2).n,aI (r v2 3).n,aI (r v2 4).n,aL (r v2 5).k] fun v3 => bif ((r v2 0).n == 0) == true then bif ((r v3 1).n != 0) == false then bif decide ((ByteArray.size (r v1 0).s + ByteArray.size ((x0.a x2.n).g 3).s) < 9223372036854775808) then bif !(seqB (r v3 0).s ((r v1 0).s ++ ((x0.a x2.n).g 3).s)) then rt [aB false] else cl n i_disk_Disk_Read [aS (bs [102]),aB (r v3 2).b,aI (r v3 3).n,aI (r v3 4).n,aI (r v3 5).n,aL (r v3 6).k] fun v4 => bif ((r v4 1).n == 0) == true then bif lt (r v4 0).z x1.z == false then bif Bool.and (Bool.and (Bool.and (le 0 x1.z) (le x1.z (r v4 0).z)) true) (le 0 x1.z) then bif !(seqB (ByteArray.extract (r v4 0).s 0 (Int.toNat x1.z)) x1.s) then rt [aB false] else D n i_L23_DiskKeeps (some p_L23_DiskKeeps_c1) [aL x0.k,aS x1.s,aI (w6 (x2.n + 1)),aB (r v4 2).b,aI (r v4 3).n,aI (r v4 4).n,aI (r v4 5).n,aL (r v4 6).k] else none else rt [aB false] else D n i_L23_DiskKeeps (some p_L23_DiskKeeps_c1) [aL x0.k,aS x1.s,aI (w6 (x2.n + 1)),aB (r v4 2).b,aI (r v4 3).n,aI (r v4 4).n,aI (r v4 5).n,aL (r v4 6).k] else none else rt [aB false] else cl n i_disk_Disk_Read [aS (bs [102]),aB (r v3 2).b,aI (r v3 3).n,aI (r v3 4).n,aI (r v3 5).n,aL (r v3 6).k] fun v4 => bif ((r v4 1).n == 0) == true then bif lt (r v4 0).z x1.z == false then bif Bool.and (Bool.and (Bool.and (le 0 x1.z) (le x1.z (r v4 0).z)) true) (le 0 x1.z) then bif !(seqB (ByteArray.extract (r v4 0).s 0 (Int.toNat x1.z)) x1.s) then rt [aB false] else D n i_L23_DiskKeeps (some p_L23_DiskKeeps_c1) [aL x0.k,aS x1.s,aI (w6 (x2.n + 1)),aB (r v4 2).b,aI (r v4 3).n,aI (r v4 4).n,aI (r v4 5).n,aL (r v4 6).k] else none else rt [aB false] else D n i_L23_DiskKeeps (some p_L23_DiskKeeps_c1) [aL x0.k,aS x1.s,aI (w6 (x2.n + 1)),aB (r v4 2).b,aI (r v4 3).n,aI (r v4 4).n,aI (r v4 5).n,aL (r v4 6).k] else bif Int.tmod ((x0.a x2.n).g 0).n 4 == 1 then cl n i_disk_Disk_Sync [aS (bs [102]),aB (r v1 2).b,aI (r v1 3).n,aI (r v1 4).n,aI (r v1 5).n,aL (r v1 6).k] fun v2 => bif (r v2 0).n == 0 then cl n i_disk_Disk_Read [aS (bs [102]),aB (r v2 1).b,aI (r v2 2).n,aI (r v2 3).n,aI (r v2 4).n,aL (r v2 5).k] fun v3 => bif ((r v3 1).n == 0) == true then bif lt (r v3 0).z (r v1 0).z == false then bif Bool.and (Bool.and (Bool.and (le 0 (r v1 0).z) (le (r v1 0).z (r v3 0).z)) true) (le 0 (r v1 0).z) then bif !(seqB (ByteArray.extract (r v3 0).s 0 (Int.toNat (r v1 0).z)) (r v1 0).s) then rt [aB false] else D n i_L23_DiskKeeps (some p_L23_DiskKeeps_c1) [aL x0.k,aS (r v1 0).s,aI (w6 (x2.n + 1)),aB (r v3 2).b,aI (r v3 3).n,aI (r v3 4).n,aI (r v3 5).n,aL (r v3 6).k] else none else rt [aB false] else D n i_L23_DiskKeeps (some p_L23_DiskKeeps_c1) [aL x0.k,aS (r v1 0).s,aI (w6 (x2.n + 1)),aB (r v3 2).b,aI (r v3 3).n,aI (r v3 4).n,aI (r v3 5).n,aL (r v3 6).k] else cl n i_disk_Disk_Read [aS (bs [102]),aB (r v2 1).b,aI (r v2 2).n,aI (r v2 3).n,aI (r v2 4).n,aL (r v2 5).k] fun v3 => bif ((r v3 1).n == 0) == true then bif lt (r v3 0).z x1.z == false then bif Bool.and (Bool.and (Bool.and (le 0 x1.z) (le x1.z (r v3 0).z)) true) (le 0 x1.z) then bif !(seqB (ByteArray.extract (r v3 0).s 0 (Int.toNat x1.z)) x1.s) then rt [aB false] else D n i_L23_DiskKeeps (some p_L23_DiskKeeps_c1) [aL x0.k,aS x1.s,aI (w6 (x2.n + 1)),aB (r v3 2).b,aI (r v3 3).n,aI (r v3 4).n,aI (r v3 5).n,aL (r v3 6).k] else none else rt [aB false] else D n i_L23_DiskKeeps (some p_L23_DiskKeeps_c1) [aL x0.k,aS x1.s,aI (w6 (x2.n + 1)),aB (r v3 2).b,aI (r v3 3).n,aI (r v3 4).n,aI (r v3 5).n,aL (r v3 6).k] else bif Int.tmod ((x0.a x2.n).g 0).n 4 == 2 then cl n i_L23_number [aL ((x0.a x2.n).g 4).k,aI 0] fun v2 => cl n i_L23_number [aL ((x0.a x2.n).g 4).k,aI 1] fun v3 => cl n i_disk_Disk_Fuse [aI (Int.tmod (r v2 0).n 9),aI (r v3 0).n,aB (r v1 2).b,aI (r v1 3).n,aI (r v1 4).n,aI (r v1 5).n,aL (r v1 6).k] fun v4 => cl n i_disk_Disk_Read [aS (bs [102]),aB (r v4 0).b,aI (r v4 1).n,aI (r v4 2).n,aI (r v4 3).n,aL (r v4 4).k] fun v5 => bif ((r v5 1).n == 0) == true then bif lt (r v5 0).z x1.z == false then bif Bool.and (Bool.and (Bool.and (le 0 x1.z) (le x1.z (r v5 0).z)) true) (le 0 x1.z) then bif !(seqB (ByteArray.extract (r v5 0).s 0 (Int.toNat x1.z)) x1.s) then rt [aB false] else D n i_L23_DiskKeeps (some p_L23_DiskKeeps_c1) [aL x0.k,aS x1.s,aI (w6 (x2.n + 1)),aB (r v5 2).b,aI (r v5 3).n,aI (r v5 4).n,aI (r v5 5).n,aL (r v5 6).k] else none else rt [aB false] else D n i_L23_DiskKeeps (some p_L23_DiskKeeps_c1) [aL x0.k,aS x1.s,aI (w6 (x2.n + 1)),aB (r v5 2).b,aI (r v5 3).n,aI (r v5 4).n,aI (r v5 5).n,aL (r v5 6).k] else cl n i_disk_Disk_Wake [aL ((x0.a x2.n).g 4).k,aB (r v1 2).b,aI (r v1 3).n,aI (r v1 4).n,aI (r v1 5).n,aL (r v1 6).k] fun v2 => cl n i_disk_Disk_Read [aS (bs [102]),aB (r v2 0).b,aI (r v2 1).n,aI (r v2 2).n,aI (r v2 3).n,aL (r v2 4).k] fun v3 => bif lt (r v3 0).z x1.z == false then bif Bool.and (Bool.and (Bool.and (le 0 x1.z) (le x1.z (r v3 0).z)) true) (le 0 x1.z) then bif (!(seqB (ByteArray.extract (r v3 0).s 0 (Int.toNat x1.z)) x1.s)) == false then bif ((r v1 1).n == 0) == true then bif gt (r v3 0).z (r v1 0).z == false then bif Bool.and (Bool.and (Bool.and (le 0 (r v3 0).z) (le (r v3 0).z (r v1 0).z)) true) (le 0 (r v3 0).z) then bif !(seqB (ByteArray.extract (r v1 0).s 0 (Int.toNat (r v3 0).z)) (r v3 0).s) then rt [aB false] else cl n i_disk_Disk_Read [aS (bs [102]),aB (r v3 2).b,aI (r v3 3).n,aI (r v3 4).n,aI (r v3 5).n,aL (r v3 6).k] fun v4 => bif ((r v4 1).n == 0) == true then bif lt (r v4 0).z (r v3 0).z == false then bif Bool.and (Bool.and (Bool.and (le 0 (r v3 0).z) (le (r v3 0).z (r v4 0).z)) true) (le 0 (r v3 0).z) then bif !(seqB (ByteArray.extract (r v4 0).s 0 (Int.toNat (r v3 0).z)) (r v3 0).s) then rt [aB false] else D n i_L23_DiskKeeps (some p_L23_DiskKeeps_c1) [aL x0.k,aS (r v3 0).s,aI (w6 (x2.n + 1)),aB (r v4 2).b,aI (r v4 3).n,aI (r v4 4).n,aI (r v4 5).n,aL (r v4 6).k] else none else rt [aB false] else D n i_L23_DiskKeeps (some p_L23_DiskKeeps_c1) [aL x0.k,aS (r v3 0).s,aI (w6 (x2.n + 1)),aB (r v4 2).b,aI (r v4 3).n,aI (r v4 4).n,aI (r v4 5).n,aL (r v4 6).k] else none else rt [aB false] else cl n i_disk_Disk_Read [aS (bs [102]),aB (r v3 2).b,aI (r v3 3).n,aI (r v3 4).n,aI (r v3 5).n,aL (r v3 6).k] fun v4 => bif ((r v4 1).n == 0) == true then bif lt (r v4 0).z (r v3 0).z == false then bif Bool.and (Bool.and (Bool.and (le 0 (r v3 0).z) (le (r v3 0).z (r v4 0).z)) true) (le 0 (r v3 0).z) then bif !(seqB (ByteArray.extract (r v4 0).s 0 (Int.toNat (r v3 0).z)) (r v3 0).s) then rt [aB false] else D n i_L23_DiskKeeps (some p_L23_DiskKeeps_c1) [aL x0.k,aS (r v3 0).s,aI (w6 (x2.n + 1)),aB (r v4 2).b,aI (r v4 3).n,aI (r v4 4).n,aI (r v4 5).n,aL (r v4 6).k] else none else rt [aB false] else D n i_L23_DiskKeeps (some p_L23_DiskKeeps_c1) [aL x0.k,aS (r v3 0).s,aI (w6 (x2.n + 1)),aB (r v4 2).b,aI (r v4 3).n,aI (r v4 4).n,aI (r v4 5).n,aL (r v4 6).k] else rt [aB false] else none else rt [aB false] else none else some (2,[]) := by kernel_rfl
theorem q_disk_New (n : Nat) : den Tryd.prog G0 ents (Nat.succ n) i_disk_New none [] =
  rt [aB false,aI 0,aI 0,aI 0,aL []] := by kernel_rfl
theorem q_disk_Disk_Append (n : Nat) (x0 x1 x2 x3 x4 x5 x6 : T) : den Tryd.prog G0 ents (Nat.succ n) i_disk_Disk_Append none [A.t x0, A.t x1, A.t x2, A.t x3, A.t x4, A.t x5, A.t x6] =
  cl n i_disk_Disk_Down [aB x2.b,aI x3.n,aI x4.n,aI x5.n,aL x6.k] fun v0 => bif (r v0 0).b then rt [aI 8,aB (r v0 1).b,aI (r v0 2).n,aI (r v0 3).n,aI (r v0 4).n,aL (r v0 5).k] else cl n i_name_Right [aS x0.s] fun v1 => bif !(r v1 0).b then rt [aI 1,aB (r v0 1).b,aI (r v0 2).n,aI (r v0 3).n,aI (r v0 4).n,aL (r v0 5).k] else bif gt (w6 (((mget keyS (T.node [T.str ByteArray.empty,T.int 0]) (r v0 5).k (T.str x0.s)).g 0).z + x1.z)) 4194304 then rt [aI 4,aB (r v0 1).b,aI (r v0 2).n,aI (r v0 3).n,aI (r v0 4).n,aL (r v0 5).k] else cl n i_disk_Disk_cut [aB (r v0 1).b,aI (r v0 2).n,aI (r v0 3).n,aI (r v0 4).n,aL (r v0 5).k] fun v2 => bif (r v2 0).b then bif Bool.and (Bool.and (Bool.and (le 0 (maxI 0 (minI (r v2 3).n x1.z))) (le (maxI 0 (minI (r v2 3).n x1.z)) x1.z)) true) (le 0 (maxI 0 (minI (r v2 3).n x1.z))) then bif decide ((ByteArray.size ((mget keyS (T.node [T.str ByteArray.empty,T.int 0]) (r v0 5).k (T.str x0.s)).g 0).s + ByteArray.size (ByteArray.extract x1.s 0 (Int.toNat (maxI 0 (minI (r v2 3).n x1.z))))) < 9223372036854775808) then rt [aI 8,aB (r v2 1).b,aI (r v2 2).n,aI (r v2 3).n,aI (r v2 4).n,aL (mput keyS (r v2 5).k (T.str x0.s) (T.node [T.str (((mget keyS (T.node [T.str ByteArray.empty,T.int 0]) (r v0 5).k (T.str x0.s)).g 0).s ++ ByteArray.extract x1.s 0 (Int.toNat (maxI 0 (minI (r v2 3).n x1.z)))),T.int ((mget keyS (T.node [T.str ByteArray.empty,T.int 0]) (r v0 5).k (T.str x0.s)).g 1).n]))] else none else none else bif decide ((ByteArray.size ((mget keyS (T.node [T.str ByteArray.empty,T.int 0]) (r v0 5).k (T.str x0.s)).g 0).s + ByteArray.size x1.s) < 9223372036854775808) then rt [aI 0,aB (r v2 1).b,aI (r v2 2).n,aI (r v2 3).n,aI (r v2 4).n,aL (mput keyS (r v2 5).k (T.str x0.s) (T.node [T.str (((mget keyS (T.node [T.str ByteArray.empty,T.int 0]) (r v0 5).k (T.str x0.s)).g 0).s ++ x1.s),T.int ((mget keyS (T.node [T.str ByteArray.empty,T.int 0]) (r v0 5).k (T.str x0.s)).g 1).n]))] else none := by kernel_rfl
theorem q_disk_Disk_Down (n : Nat) (x0 x1 x2 x3 x4 : T) : den Tryd.prog G0 ents (Nat.succ n) i_disk_Disk_Down none [A.t x0, A.t x1, A.t x2, A.t x3, A.t x4] =
  rt [aB x0.b,aB x0.b,aI x1.n,aI x2.n,aI x3.n,aL x4.k] := by kernel_rfl
theorem q_disk_Disk_cut (n : Nat) (x0 x1 x2 x3 x4 : T) : den Tryd.prog G0 ents (Nat.succ n) i_disk_Disk_cut none [A.t x0, A.t x1, A.t x2, A.t x3, A.t x4] =
  bif x1.n == 0 then rt [aB false,aB x0.b,aI x1.n,aI x2.n,aI (w6 (x3.n + 1)),aL x4.k] else rt [aB (w6 (x1.n - 1) == 0),aB (w6 (x1.n - 1) == 0),aI (w6 (x1.n - 1)),aI x2.n,aI (w6 (x3.n + 1)),aL x4.k] := by kernel_rfl
theorem q_disk_Disk_Sync (n : Nat) (x0 x1 x2 x3 x4 x5 : T) : den Tryd.prog G0 ents (Nat.succ n) i_disk_Disk_Sync none [A.t x0, A.t x1, A.t x2, A.t x3, A.t x4, A.t x5] =
  cl n i_disk_Disk_Read [aS x0.s,aB x1.b,aI x2.n,aI x3.n,aI x4.n,aL x5.k] fun v0 => bif (r v0 1).n != 0 then rt [aI (r v0 1).n,aB (r v0 2).b,aI (r v0 3).n,aI (r v0 4).n,aI (r v0 5).n,aL (r v0 6).k] else cl n i_disk_Disk_cut [aB (r v0 2).b,aI (r v0 3).n,aI (r v0 4).n,aI (r v0 5).n,aL (r v0 6).k] fun v1 => bif (r v1 0).b then rt [aI 8,aB (r v1 1).b,aI (r v1 2).n,aI (r v1 3).n,aI (r v1 4).n,aL (r v1 5).k] else rt [aI 0,aB (r v1 1).b,aI (r v1 2).n,aI (r v1 3).n,aI (r v1 4).n,aL (mput keyS (r v1 5).k (T.str x0.s) (T.node [T.str ((mget keyS (T.node [T.str ByteArray.empty,T.int 0]) (r v1 5).k (T.str x0.s)).g 0).s,T.int ((mget keyS (T.node [T.str ByteArray.empty,T.int 0]) (r v1 5).k (T.str x0.s)).g 0).z]))] := by kernel_rfl
theorem q_disk_Disk_Read (n : Nat) (x0 x1 x2 x3 x4 x5 : T) : den Tryd.prog G0 ents (Nat.succ n) i_disk_Disk_Read none [A.t x0, A.t x1, A.t x2, A.t x3, A.t x4, A.t x5] =
  cl n i_disk_Disk_Down [aB x1.b,aI x2.n,aI x3.n,aI x4.n,aL x5.k] fun v0 => bif (r v0 0).b then rt [aS (bs []),aI 8,aB (r v0 1).b,aI (r v0 2).n,aI (r v0 3).n,aI (r v0 4).n,aL (r v0 5).k] else bif !(mhas keyS (r v0 5).k (T.str x0.s)) then rt [aS (bs []),aI 5,aB (r v0 1).b,aI (r v0 2).n,aI (r v0 3).n,aI (r v0 4).n,aL (r v0 5).k] else rt [aS ((mget keyS (T.node [T.str ByteArray.empty,T.int 0]) (r v0 5).k (T.str x0.s)).g 0).s,aI 0,aB (r v0 1).b,aI (r v0 2).n,aI (r v0 3).n,aI (r v0 4).n,aL (r v0 5).k] := by kernel_rfl
theorem q_disk_Disk_Fuse (n : Nat) (x0 x1 x2 x3 x4 x5 x6 : T) : den Tryd.prog G0 ents (Nat.succ n) i_disk_Disk_Fuse none [A.t x0, A.t x1, A.t x2, A.t x3, A.t x4, A.t x5, A.t x6] =
  rt [aB x2.b,aI (maxI x0.n 1),aI x1.n,aI x5.n,aL x6.k] := by kernel_rfl
theorem q_disk_Disk_Wake (n : Nat) (x0 x1 x2 x3 x4 x5 : T) : den Tryd.prog G0 ents (Nat.succ n) i_disk_Disk_Wake none [A.t x0, A.t x1, A.t x2, A.t x3, A.t x4, A.t x5] =
  cl n i_disk_Disk_Names [aB x1.b,aI x2.n,aI x3.n,aI x4.n,aL x5.k] fun v0 => lp n i_disk_Disk_Wake p_disk_Disk_Wake_c1 [aL x0.k,aL (r v0 0).k,aI (r v0 0).l,aI 0,aB (r v0 1).b,aI (r v0 2).n,aI (r v0 3).n,aI (r v0 4).n,aL (r v0 5).k] fun v1 => bif Nat.beq v1.1 2 then rt [aB false,aI 0,aI (r v1.2 2).n,aI (r v1.2 3).n,aL (r v1.2 4).k] else none := by kernel_rfl
theorem q_disk_Disk_Wake_c1 (n : Nat) (x0 x1 x2 x3 x4 x5 x6 x7 x8 : T) : den Tryd.prog G0 ents (Nat.succ n) i_disk_Disk_Wake (some p_disk_Disk_Wake_c1) [A.t x0, A.t x1, A.t x2, A.t x3, A.t x4, A.t x5, A.t x6, A.t x7, A.t x8] =
  bif lt x3.n x2.n then bif ib x3.n x1.l then bif lt x3.n x0.l then bif ib x3.n x0.l then bif Bool.and (Bool.and (Bool.and (le 0 (w6 (((mget keyS (T.node [T.str ByteArray.empty,T.int 0]) x8.k (T.str (x1.a x3.n).s)).g 1).n + maxI 0 (minI (x0.a x3.n).n (w6 (((mget keyS (T.node [T.str ByteArray.empty,T.int 0]) x8.k (T.str (x1.a x3.n).s)).g 0).z - ((mget keyS (T.node [T.str ByteArray.empty,T.int 0]) x8.k (T.str (x1.a x3.n).s)).g 1).n)))))) (le (w6 (((mget keyS (T.node [T.str ByteArray.empty,T.int 0]) x8.k (T.str (x1.a x3.n).s)).g 1).n + maxI 0 (minI (x0.a x3.n).n (w6 (((mget keyS (T.node [T.str ByteArray.empty,T.int 0]) x8.k (T.str (x1.a x3.n).s)).g 0).z - ((mget keyS (T.node [T.str ByteArray.empty,T.int 0]) x8.k (T.str (x1.a x3.n).s)).g 1).n))))) ((mget keyS (T.node [T.str ByteArray.empty,T.int 0]) x8.k (T.str (x1.a x3.n).s)).g 0).z)) true) (le 0 (w6 (((mget keyS (T.node [T.str ByteArray.empty,T.int 0]) x8.k (T.str (x1.a x3.n).s)).g 1).n + maxI 0 (minI (x0.a x3.n).n (w6 (((mget keyS (T.node [T.str ByteArray.empty,T.int 0]) x8.k (T.str (x1.a x3.n).s)).g 0).z - ((mget keyS (T.node [T.str ByteArray.empty,T.int 0]) x8.k (T.str (x1.a x3.n).s)).g 1).n)))))) then D n i_disk_Disk_Wake (some p_disk_Disk_Wake_c1) [aL x0.k,aL x1.k,aI x2.n,aI (w6 (x3.n + 1)),aB x4.b,aI x5.n,aI x6.n,aI x7.n,aL (mput keyS x8.k (T.str (x1.a x3.n).s) (T.node [T.str (ByteArray.extract ((mget keyS (T.node [T.str ByteArray.empty,T.int 0]) x8.k (T.str (x1.a x3.n).s)).g 0).s 0 (Int.toNat (w6 (((mget keyS (T.node [T.str ByteArray.empty,T.int 0]) x8.k (T.str (x1.a x3.n).s)).g 1).n + maxI 0 (minI (x0.a x3.n).n (w6 (((mget keyS (T.node [T.str ByteArray.empty,T.int 0]) x8.k (T.str (x1.a x3.n).s)).g 0).z - ((mget keyS (T.node [T.str ByteArray.empty,T.int 0]) x8.k (T.str (x1.a x3.n).s)).g 1).n))))))),T.int ((ByteArray.size (ByteArray.extract ((mget keyS (T.node [T.str ByteArray.empty,T.int 0]) x8.k (T.str (x1.a x3.n).s)).g 0).s 0 (Int.toNat (w6 (((mget keyS (T.node [T.str ByteArray.empty,T.int 0]) x8.k (T.str (x1.a x3.n).s)).g 1).n + maxI 0 (minI (x0.a x3.n).n (w6 (((mget keyS (T.node [T.str ByteArray.empty,T.int 0]) x8.k (T.str (x1.a x3.n).s)).g 0).z - ((mget keyS (T.node [T.str ByteArray.empty,T.int 0]) x8.k (T.str (x1.a x3.n).s)).g 1).n))))))) : Nat) : Int)]))] else none else none else bif Bool.and (Bool.and (Bool.and (le 0 (w6 (((mget keyS (T.node [T.str ByteArray.empty,T.int 0]) x8.k (T.str (x1.a x3.n).s)).g 1).n + 0))) (le (w6 (((mget keyS (T.node [T.str ByteArray.empty,T.int 0]) x8.k (T.str (x1.a x3.n).s)).g 1).n + 0)) ((mget keyS (T.node [T.str ByteArray.empty,T.int 0]) x8.k (T.str (x1.a x3.n).s)).g 0).z)) true) (le 0 (w6 (((mget keyS (T.node [T.str ByteArray.empty,T.int 0]) x8.k (T.str (x1.a x3.n).s)).g 1).n + 0))) then D n i_disk_Disk_Wake (some p_disk_Disk_Wake_c1) [aL x0.k,aL x1.k,aI x2.n,aI (w6 (x3.n + 1)),aB x4.b,aI x5.n,aI x6.n,aI x7.n,aL (mput keyS x8.k (T.str (x1.a x3.n).s) (T.node [T.str (ByteArray.extract ((mget keyS (T.node [T.str ByteArray.empty,T.int 0]) x8.k (T.str (x1.a x3.n).s)).g 0).s 0 (Int.toNat (w6 (((mget keyS (T.node [T.str ByteArray.empty,T.int 0]) x8.k (T.str (x1.a x3.n).s)).g 1).n + 0)))),T.int ((ByteArray.size (ByteArray.extract ((mget keyS (T.node [T.str ByteArray.empty,T.int 0]) x8.k (T.str (x1.a x3.n).s)).g 0).s 0 (Int.toNat (w6 (((mget keyS (T.node [T.str ByteArray.empty,T.int 0]) x8.k (T.str (x1.a x3.n).s)).g 1).n + 0)))) : Nat) : Int)]))] else none else none else some (2,[aB x4.b,aI x5.n,aI x6.n,aI x7.n,aL x8.k]) := by kernel_rfl
theorem q_disk_Disk_Names (n : Nat) (x0 x1 x2 x3 x4 : T) : den Tryd.prog G0 ents (Nat.succ n) i_disk_Disk_Names none [A.t x0, A.t x1, A.t x2, A.t x3, A.t x4] =
  cl n i_maps_Keys_map_string_disk_file_string_disk_file [aL x4.k] fun v0 => cl n i_slices_Sorted [aL (r v0 0).k] fun v1 => rt [aL (r v1 0).k,aB x0.b,aI x1.n,aI x2.n,aI x3.n,aL (r v1 1).k] := by kernel_rfl
theorem q_maps_Keys_map_string_disk_file_string_disk_file (n : Nat) (x0 : T) : den Tryd.prog G0 ents (Nat.succ n) i_maps_Keys_map_string_disk_file_string_disk_file none [A.t x0] =
  rt [aL x0.k] := by kernel_rfl
theorem q_L23_short (n : Nat) (x0 : T) : den Tryd.prog G0 ents (Nat.succ n) i_L23_short none [A.t x0] =
  bif le (x0.g 1).z 100 == true then bif le (x0.g 2).z 100 == true then bif le (x0.g 3).z 300 == true then rt [aB (le (x0.g 4).l 20)] else rt [aB false] else rt [aB false] else rt [aB false] := by kernel_rfl
theorem q_L23_number (n : Nat) (x0 x1 : T) : den Tryd.prog G0 ents (Nat.succ n) i_L23_number none [A.t x0, A.t x1] =
  bif lt x1.n x0.l then bif ib x1.n x0.l then rt [aI (x0.a x1.n).n] else none else rt [aI 0] := by kernel_rfl
end Go.Proofs.YtigbgcopidghfaaDoorDK
namespace Go.Proofs.YtigbgcopidghfaaDoorDK
open Go Go.Proofs.YtigbgcopidghfaaDoorVM
set_option linter.unusedVariables false
def terms (v : T) : List T := (v.get 0).kids
def flds (t : T) : List T := (t.get 7).kids
def nm (f : T) : ByteArray := (f.get 0).txt
def val (f : T) : T := f.get 1
def sumN (l : List Nat) : Nat := l.foldr (· + ·) 0
def wt : Nat → T → Nat
  | 0, _ => 0
  | d + 1, v => sumN ((terms v).map fun t => 1 + sumN ((flds t).map fun f => wt d (val f)))
def wtT (d : Nat) (t : T) : Nat := 1 + sumN ((flds t).map fun f => wt d (val f))
theorem wt_succ (d : Nat) (v : T) : wt (d + 1) v = sumN ((terms v).map (wtT d)) := rfl
def maxN (l : List Nat) : Nat := l.foldr max 0
def dep : Nat → T → Nat
  | 0, _ => 0
  | d + 1, v => 1 + maxN ((terms v).map fun t => maxN ((flds t).map fun f => dep d (val f)))
def Vd : Nat → T → Prop
  | 0, _ => False
  | d + 1, v => ∀ t ∈ terms v, (flds t).length ≤ 100 ∧ (t.get 3).txt.size ≤ 400 ∧ ∀ f ∈ flds t, (nm f).size ≤ 100 ∧ Vd d (val f)
theorem sum_foldl {α : Type} (f : α → Nat) : ∀ (l : List α) (a : Nat), l.foldl (fun a x => a + f x) a = a + sumN (l.map f)
  | [], a => by simp [sumN]
  | x :: l, a => by
    rw [List.foldl_cons, sum_foldl f l (a + f x)]
    simp only [List.map_cons, sumN, List.foldr_cons]
    omega
theorem max_foldl {α : Type} (f : α → Nat) : ∀ (l : List α) (a : Nat), l.foldl (fun a x => max a (f x)) a = max a (maxN (l.map f))
  | [], a => by simp [maxN]
  | x :: l, a => by
    rw [List.foldl_cons, max_foldl f l (max a (f x))]
    simp only [List.map_cons, maxN, List.foldr_cons]
    omega
theorem sum_mem {α : Type} {f : α → Nat} {l : List α} {x : α} (h : x ∈ l) : f x ≤ sumN (l.map f) := by
  induction l with
  | nil => cases h
  | cons y l ih =>
    simp only [List.map_cons, sumN, List.foldr_cons]
    rcases List.mem_cons.1 h with rfl | h
    · omega
    · have := ih h
      unfold sumN at this
      omega
theorem sum_len {α : Type} {f : α → Nat} {l : List α} (h : ∀ x ∈ l, 1 ≤ f x) : l.length ≤ sumN (l.map f) := by
  induction l with
  | nil => simp
  | cons y l ih =>
    have h1 := ih fun x hx => h x (List.mem_cons_of_mem _ hx)
    have h2 := h y List.mem_cons_self
    simp only [List.map_cons, sumN, List.foldr_cons, List.length_cons]
    unfold sumN at h1
    omega
def Sm (d : Nat) (v : T) : Prop := Vd d v ∧ wt d v ≤ 512
theorem Sm.terms {d : Nat} {v : T} (h : Sm d v) : (terms v).length ≤ 512 := by
  cases d with
  | zero => exact h.1.elim
  | succ d => exact Nat.le_trans (sum_len (f := wtT d) fun t _ => by unfold wtT; omega) h.2
theorem Sm.sub {d : Nat} {v t f : T} (h : Sm (d + 1) v) (ht : t ∈ YtigbgcopidghfaaDoorDK.terms v) (hf : f ∈ flds t) : Sm d (val f) := by
  refine ⟨((h.1 t ht).2.2 f hf).2, ?_⟩
  have h1 : wt d (val f) ≤ wtT d t := by
    unfold wtT
    have := sum_mem (f := fun f => wt d (val f)) hf
    omega
  have h2 : wtT d t ≤ wt (d + 1) v := sum_mem (f := wtT d) ht
  have := h.2
  omega
theorem Sm.flds {d : Nat} {v t : T} (h : Sm (d + 1) v) (ht : t ∈ YtigbgcopidghfaaDoorDK.terms v) : (YtigbgcopidghfaaDoorDK.flds t).length ≤ 100 := (h.1 t ht).1
theorem Sm.wtT {d : Nat} {v t : T} (h : Sm (d + 1) v) (ht : t ∈ YtigbgcopidghfaaDoorDK.terms v) : YtigbgcopidghfaaDoorDK.wtT d t ≤ 512 := Nat.le_trans (sum_mem (f := YtigbgcopidghfaaDoorDK.wtT d) ht) h.2

def leftFs (g : T → Int → Int) : List T → Int → Int
  | [], n => n
  | f :: fs, n => if n < 0 then n else if 100 < (nm f).size then -1 else leftFs g fs (g (val f) n)
def leftTs (g : T → Int → Int) : List T → Int → Int
  | [], n => n
  | t :: ts, n => if n < 0 then n else if 400 < (t.get 3).txt.size ∨ 100 < (flds t).length then -1 else leftTs g ts (leftFs g (flds t) (n - 1))
def leftF : Nat → T → Int → Int
  | 0, _, _ => -1
  | d + 1, v, n => if (((terms v).length : Nat) : Int) > n then -1 else leftTs (leftF d) (terms v) n
theorem leftFs_neg (g : T → Int → Int) : ∀ (l : List T) (n : Int), n < 0 → leftFs g l n = n
  | [], n, h => rfl
  | f :: fs, n, h => by rw [leftFs, if_pos h]
theorem leftTs_neg (g : T → Int → Int) : ∀ (l : List T) (n : Int), n < 0 → leftTs g l n = n
  | [], n, h => rfl
  | f :: fs, n, h => by rw [leftTs, if_pos h]
theorem left_few : ∀ (d : Nat) (v : T) (n : Int), 0 ≤ leftF d v n → Vd d v ∧ leftF d v n + (wt d v : Nat) = n
  | 0, v, n, h => by simp [leftF] at h
  | d + 1, v, n, h => by
    have hfs : ∀ (l : List T) (n : Int), 0 ≤ leftFs (leftF d) l n → (∀ f ∈ l, (nm f).size ≤ 100 ∧ Vd d (val f)) ∧ leftFs (leftF d) l n + (sumN (l.map fun f => wt d (val f)) : Nat) = n := by
      intro l
      induction l with
      | nil => intro n hn; exact ⟨by simp, by simp [leftFs, sumN]⟩
      | cons f l ih =>
        intro n hn
        rw [leftFs] at hn ⊢
        split at hn
        · omega
        · split at hn
          · omega
          · rename_i h1 h2
            rw [if_neg h1, if_neg h2]
            obtain ⟨q1, q2⟩ := ih _ hn
            have h3 : 0 ≤ leftF d (val f) n := by
              rcases Int.lt_or_le (leftF d (val f) n) 0 with h4 | h4
              · rw [leftFs_neg _ _ _ h4] at hn; omega
              · exact h4
            obtain ⟨q3, q4⟩ := left_few d (val f) n h3
            refine ⟨fun x hx => ?_, ?_⟩
            · rcases List.mem_cons.1 hx with rfl | hx
              · exact ⟨by omega, q3⟩
              · exact q1 x hx
            · simp only [List.map_cons, sumN, List.foldr_cons] at q2 ⊢
              omega
    have hts : ∀ (l : List T) (n : Int), 0 ≤ leftTs (leftF d) l n → (∀ t ∈ l, (flds t).length ≤ 100 ∧ (t.get 3).txt.size ≤ 400 ∧ ∀ f ∈ flds t, (nm f).size ≤ 100 ∧ Vd d (val f)) ∧ leftTs (leftF d) l n + (sumN (l.map (wtT d)) : Nat) = n := by
      intro l
      induction l with
      | nil => intro n hn; exact ⟨by simp, by simp [leftTs, sumN]⟩
      | cons t l ih =>
        intro n hn
        rw [leftTs] at hn ⊢
        split at hn
        · omega
        · split at hn
          · omega
          · rename_i h1 h2
            rw [if_neg h1, if_neg h2]
            obtain ⟨q1, q2⟩ := ih _ hn
            have h3 : 0 ≤ leftFs (leftF d) (flds t) (n - 1) := by
              rcases Int.lt_or_le (leftFs (leftF d) (flds t) (n - 1)) 0 with h4 | h4
              · rw [leftTs_neg _ _ _ h4] at hn; omega
              · exact h4
            obtain ⟨q3, q4⟩ := hfs _ _ h3
            refine ⟨fun x hx => ?_, ?_⟩
            · rcases List.mem_cons.1 hx with rfl | hx
              · exact ⟨by omega, by omega, q3⟩
              · exact q1 x hx
            · simp only [List.map_cons, sumN, List.foldr_cons, wtT] at q2 q4 ⊢
              omega
    rw [leftF] at h ⊢
    split at h
    · omega
    · rename_i h1
      rw [if_neg h1]
      exact hts _ _ h
end Go.Proofs.YtigbgcopidghfaaDoorDK
namespace Go.Proofs.YtigbgcopidghfaaDoorDK
open Go Go.Proofs.YtigbgcopidghfaaDoorVM
set_option linter.unusedVariables false
set_option linter.unusedSimpArgs false
set_option maxRecDepth 100000

def Dz (i : Nat) (p : Option (List Bool)) (xs : List A) (r : Nat × List A) : Prop := Does Tryd.prog G0 ents i p xs r
theorem terms_eq (v : T) : (T.get v 0).kids = terms v := id rfl
theorem flds_eq (v : T) : (T.get v 7).kids = flds v := id rfl
theorem S1 : (∀ n i p xs, D n i p xs = den Tryd.prog G0 ents n i p xs) ∧ (∀ n i xs k, cl n i xs k = Option.bind (Option.map (fun v => v.2) (den Tryd.prog G0 ents n i none xs)) k) ∧ (∀ n i p xs k, lp n i p xs k = Option.bind (den Tryd.prog G0 ents n i (some p) xs) k) :=
  ⟨fun _ _ _ _ => rfl, fun _ _ _ _ => rfl, fun _ _ _ _ _ => rfl⟩
theorem S2 : (∀ v, (T.get v 0).kids = terms v) ∧ (∀ v, (T.get v 7).kids = flds v) := ⟨fun _ => rfl, fun _ => rfl⟩
theorem leftFs_le {g : T → Int → Int} (hg : ∀ v n, g v n ≤ max n (-1) ∧ (-1 ≤ n → -1 ≤ g v n)) : ∀ (l : List T) (n : Int), leftFs g l n ≤ max n (-1) ∧ (-1 ≤ n → -1 ≤ leftFs g l n) := by
  intro l
  induction l with
  | nil => intro n; simp only [leftFs]; omega
  | cons f l ih =>
    intro n
    rw [leftFs]
    split
    · omega
    · split
      · omega
      · have h1 := ih (g (val f) n)
        have h2 := hg (val f) n
        omega
theorem leftF_le : ∀ (d : Nat) (v : T) (n : Int), leftF d v n ≤ max n (-1) ∧ (-1 ≤ n → -1 ≤ leftF d v n)
  | 0, v, n => by simp only [leftF]; omega
  | d + 1, v, n => by
    have hts : ∀ (l : List T) (n : Int), leftTs (leftF d) l n ≤ max n (-1) ∧ (-1 ≤ n → -1 ≤ leftTs (leftF d) l n) := by
      intro l
      induction l with
      | nil => intro n; simp only [leftTs]; omega
      | cons t l ih =>
        intro n
        rw [leftTs]
        split
        · omega
        · split
          · omega
          · have h1 := ih (leftFs (leftF d) (flds t) (n - 1))
            have h2 := leftFs_le (fun v n => leftF_le d v n) (flds t) (n - 1)
            omega
    rw [leftF]
    split
    · omega
    · exact hts _ _
end Go.Proofs.YtigbgcopidghfaaDoorDK
namespace Go.Proofs.YtigbgcopidghfaaDoorDK
open Go Go.Proofs.YtigbgcopidghfaaDoorVM
set_option linter.unusedVariables false
set_option linter.unusedSimpArgs false
set_option maxRecDepth 100000

def up : Nat → Nat → Nat
  | 0, n => n
  | k + 1, n => Nat.succ (up k n)
theorem up_add (k n : Nat) : up k n = n + k := by
  induction k with
  | zero => rfl
  | succ k ih => rw [up, ih]; rfl
theorem run_of {i : Nat} {xs : List A} {r : Nat × List A} (k : Nat) (h : ∀ n, den Tryd.prog G0 ents (up k n) i none xs = some r) : Dz i none xs r :=
  ⟨k, fun n hn => by
    obtain ⟨j, rfl⟩ : ∃ j, n = j + k := ⟨n - k, by omega⟩
    rw [← up_add]
    exact h j⟩
def fi (p : T → Bool) : List T → Nat → Int
  | [], _ => -1
  | x :: l, k => if p x then ((k : Nat) : Int) else fi p l (k + 1)
theorem fi_any (p : T → Bool) : ∀ (l : List T) (k : Nat), decide (fi p l k ≥ 0) = l.any p
  | [], k => by simp [fi]
  | x :: l, k => by
    rw [fi, List.any_cons, ← fi_any p l (k + 1)]
    cases p x
    · simp
    · simp
theorem fi_none {p : T → Bool} {l : List T} {k : Nat} (h : l.any p = false) : fi p l k = -1 := by
  induction l generalizing k with
  | nil => rfl
  | cons x l ih =>
    rw [List.any_cons, Bool.or_eq_false_iff] at h
    rw [fi, h.1, ih h.2]
    rfl
theorem idx0_loop {i ic : Nat} {pp : List Bool} (hq : ∀ n x0 x1 x2, den Tryd.prog G0 ents (Nat.succ n) i (some pp) [A.t x0, A.t x1, A.t x2] =
  bif lt x2.n x1.n then bif ib x2.n x0.l then cl n ic [A.t (x0.a x2.n)] fun v0 => bif (r v0 0).b then rt [aI x2.n] else D n i (some pp) [aL x0.k,aI x1.n,aI (w6 (x2.n + 1))] else none else some (2,[]))
    (l : List T) (p : T → Bool) (hl : l.length ≤ 1000000000) (hp : ∀ x ∈ l, Dz ic none [A.t x] (1, [A.t (T.bool (p x))])) : ∀ (k j : Nat), j + k = l.length →
    Dz i (some pp) [A.t (T.node l), A.t (T.int (l.length : Nat)), A.t (T.int j)] (if (l.drop j).any p then (1, [A.t (T.int (fi p (l.drop j) j))]) else (2, [])) := by
  intro k
  induction k with
  | zero =>
    intro j hj
    rw [List.drop_of_length_le (by omega)]
    refine Does.now fun m => ?_
    rw [hq]
    simp only [S0, S9, S1, S2, if_true, if_false, List.any_nil]
    rw [if_neg (by omega)]
  | succ k ih =>
    intro j hj
    have hlt : j < l.length := by omega
    have hw : IntKind.i64.wrap ((j : Int) + 1) = ((j + 1 : Nat) : Int) := i64succ (by omega)
    obtain ⟨n0, h0⟩ := (hp _ (List.getElem_mem hlt)).both (ih (j + 1) (by omega))
    refine Does.of n0 fun m hm => ?_
    obtain ⟨q, q2⟩ := h0 m hm
    rw [hq, List.drop_eq_getElem_cons hlt, List.any_cons, fi]
    simp only [S0, S9, S1, S2, if_true, if_false, hw, at_get hlt, q]
    rw [if_pos (by omega), if_pos (by omega)]
    cases p l[j]
    · simp only [Bool.false_eq_true, if_false, false_or]; exact q2
    · rfl
theorem idx0_does {i ic : Nat} {pp : List Bool} (hq2 : ∀ n x0, den Tryd.prog G0 ents (Nat.succ n) i none [A.t x0] =
  lp n i pp [aL x0.k,aI x0.l,aI 0] fun v0 => bif Nat.beq v0.1 2 then rt [aI (-1)] else bif Nat.beq v0.1 1 then rt [aI (r v0.2 0).n] else none) (hq : ∀ n x0 x1 x2, den Tryd.prog G0 ents (Nat.succ n) i (some pp) [A.t x0, A.t x1, A.t x2] =
  bif lt x2.n x1.n then bif ib x2.n x0.l then cl n ic [A.t (x0.a x2.n)] fun v0 => bif (r v0 0).b then rt [aI x2.n] else D n i (some pp) [aL x0.k,aI x1.n,aI (w6 (x2.n + 1))] else none else some (2,[]))
    (l : List T) (p : T → Bool) (hl : l.length ≤ 1000000000) (hp : ∀ x ∈ l, Dz ic none [A.t x] (1, [A.t (T.bool (p x))])) : Dz i none [A.t (T.node l)] (1, [A.t (T.int (fi p l 0))]) := by
  obtain ⟨n0, h0⟩ := idx0_loop hq l p hl hp l.length 0 (by omega)
  rw [List.drop_zero] at h0
  refine Does.of n0 fun m hm => ?_
  have q : den Tryd.prog G0 ents m i (some pp) [A.t (T.node l), A.t (T.int (l.length : Nat)), A.t (T.int 0)] = _ := h0 m hm
  rw [hq2]
  simp only [S0, S9, S1, S2, if_true, if_false, q]
  cases hb : l.any p
  · rw [fi_none hb]; rfl
  · rfl
theorem has0_does {i i2 ic : Nat} {pp : List Bool} (hq3 : ∀ n x0, den Tryd.prog G0 ents (Nat.succ n) i2 none [A.t x0] =
  cl n i [aL x0.k] fun v0 => rt [aB (ge (r v0 0).n 0)]) (hq2 : ∀ n x0, den Tryd.prog G0 ents (Nat.succ n) i none [A.t x0] =
  lp n i pp [aL x0.k,aI x0.l,aI 0] fun v0 => bif Nat.beq v0.1 2 then rt [aI (-1)] else bif Nat.beq v0.1 1 then rt [aI (r v0.2 0).n] else none) (hq : ∀ n x0 x1 x2, den Tryd.prog G0 ents (Nat.succ n) i (some pp) [A.t x0, A.t x1, A.t x2] =
  bif lt x2.n x1.n then bif ib x2.n x0.l then cl n ic [A.t (x0.a x2.n)] fun v0 => bif (r v0 0).b then rt [aI x2.n] else D n i (some pp) [aL x0.k,aI x1.n,aI (w6 (x2.n + 1))] else none else some (2,[]))
    (l : List T) (p : T → Bool) (hl : l.length ≤ 1000000000) (hp : ∀ x ∈ l, Dz ic none [A.t x] (1, [A.t (T.bool (p x))])) : Dz i2 none [A.t (T.node l)] (1, [A.t (T.bool (l.any p))]) := by
  obtain ⟨n0, h0⟩ := idx0_does hq2 hq l p hl hp
  refine Does.of n0 fun m hm => ?_
  rw [hq3]
  simp only [S0, S9, S1, S2, if_true, if_false, h0 m hm, fi_any]
theorem idx1_loop {i ic : Nat} {pp : List Bool} (hq : ∀ n x0 x1 x2 x3, den Tryd.prog G0 ents (Nat.succ n) i (some pp) [A.t x0, A.t x1, A.t x2, A.t x3] =
  bif lt x2.n x1.n then bif ib x2.n x0.l then cl n ic [A.t (x0.a x2.n),A.t x3] fun v0 => bif (r v0 0).b then rt [aI x2.n,A.t (r v0 1)] else D n i (some pp) [aL x0.k,aI x1.n,aI (w6 (x2.n + 1)),A.t (r v0 1)] else none else some (2,[A.t x3]))
    (l : List T) (c0 : T) (p : T → Bool) (hl : l.length ≤ 1000000000) (hp : ∀ x ∈ l, Dz ic none [A.t x, A.t c0] (1, [A.t (T.bool (p x)), A.t c0])) : ∀ (k j : Nat), j + k = l.length →
    Dz i (some pp) [A.t (T.node l), A.t (T.int (l.length : Nat)), A.t (T.int j), A.t c0] (if (l.drop j).any p then (1, [A.t (T.int (fi p (l.drop j) j)), A.t c0]) else (2, [A.t c0])) := by
  intro k
  induction k with
  | zero =>
    intro j hj
    rw [List.drop_of_length_le (by omega)]
    refine Does.now fun m => ?_
    rw [hq]
    simp only [S0, S9, S1, S2, if_true, if_false, List.any_nil]
    rw [if_neg (by omega)]
  | succ k ih =>
    intro j hj
    have hlt : j < l.length := by omega
    have hw : IntKind.i64.wrap ((j : Int) + 1) = ((j + 1 : Nat) : Int) := i64succ (by omega)
    obtain ⟨n0, h0⟩ := (hp _ (List.getElem_mem hlt)).both (ih (j + 1) (by omega))
    refine Does.of n0 fun m hm => ?_
    obtain ⟨q, q2⟩ := h0 m hm
    rw [hq, List.drop_eq_getElem_cons hlt, List.any_cons, fi]
    simp only [S0, S9, S1, S2, if_true, if_false, hw, at_get hlt, q]
    rw [if_pos (by omega), if_pos (by omega)]
    cases p l[j]
    · simp only [Bool.false_eq_true, if_false, false_or]; exact q2
    · rfl
theorem idx1_does {i ic : Nat} {pp : List Bool} (hq2 : ∀ n x0 x1, den Tryd.prog G0 ents (Nat.succ n) i none [A.t x0, A.t x1] =
  lp n i pp [aL x0.k,aI x0.l,aI 0,A.t x1] fun v0 => bif Nat.beq v0.1 2 then rt [aI (-1),A.t (r v0.2 0)] else bif Nat.beq v0.1 1 then rt [aI (r v0.2 0).n,A.t (r v0.2 1)] else none) (hq : ∀ n x0 x1 x2 x3, den Tryd.prog G0 ents (Nat.succ n) i (some pp) [A.t x0, A.t x1, A.t x2, A.t x3] =
  bif lt x2.n x1.n then bif ib x2.n x0.l then cl n ic [A.t (x0.a x2.n),A.t x3] fun v0 => bif (r v0 0).b then rt [aI x2.n,A.t (r v0 1)] else D n i (some pp) [aL x0.k,aI x1.n,aI (w6 (x2.n + 1)),A.t (r v0 1)] else none else some (2,[A.t x3]))
    (l : List T) (c0 : T) (p : T → Bool) (hl : l.length ≤ 1000000000) (hp : ∀ x ∈ l, Dz ic none [A.t x, A.t c0] (1, [A.t (T.bool (p x)), A.t c0])) : Dz i none [A.t (T.node l), A.t c0] (1, [A.t (T.int (fi p l 0)), A.t c0]) := by
  obtain ⟨n0, h0⟩ := idx1_loop hq l c0 p hl hp l.length 0 (by omega)
  rw [List.drop_zero] at h0
  refine Does.of n0 fun m hm => ?_
  have q : den Tryd.prog G0 ents m i (some pp) [A.t (T.node l), A.t (T.int (l.length : Nat)), A.t (T.int 0), A.t c0] = _ := h0 m hm
  rw [hq2]
  simp only [S0, S9, S1, S2, if_true, if_false, q]
  cases hb : l.any p
  · rw [fi_none hb]; rfl
  · rfl
theorem has1_does {i i2 ic : Nat} {pp : List Bool} (hq3 : ∀ n x0 x1, den Tryd.prog G0 ents (Nat.succ n) i2 none [A.t x0, A.t x1] =
  cl n i [aL x0.k,A.t x1] fun v0 => rt [aB (ge (r v0 0).n 0),A.t (r v0 1)]) (hq2 : ∀ n x0 x1, den Tryd.prog G0 ents (Nat.succ n) i none [A.t x0, A.t x1] =
  lp n i pp [aL x0.k,aI x0.l,aI 0,A.t x1] fun v0 => bif Nat.beq v0.1 2 then rt [aI (-1),A.t (r v0.2 0)] else bif Nat.beq v0.1 1 then rt [aI (r v0.2 0).n,A.t (r v0.2 1)] else none) (hq : ∀ n x0 x1 x2 x3, den Tryd.prog G0 ents (Nat.succ n) i (some pp) [A.t x0, A.t x1, A.t x2, A.t x3] =
  bif lt x2.n x1.n then bif ib x2.n x0.l then cl n ic [A.t (x0.a x2.n),A.t x3] fun v0 => bif (r v0 0).b then rt [aI x2.n,A.t (r v0 1)] else D n i (some pp) [aL x0.k,aI x1.n,aI (w6 (x2.n + 1)),A.t (r v0 1)] else none else some (2,[A.t x3]))
    (l : List T) (c0 : T) (p : T → Bool) (hl : l.length ≤ 1000000000) (hp : ∀ x ∈ l, Dz ic none [A.t x, A.t c0] (1, [A.t (T.bool (p x)), A.t c0])) : Dz i2 none [A.t (T.node l), A.t c0] (1, [A.t (T.bool (l.any p)), A.t c0]) := by
  obtain ⟨n0, h0⟩ := idx1_does hq2 hq l c0 p hl hp
  refine Does.of n0 fun m hm => ?_
  rw [hq3]
  simp only [S0, S9, S1, S2, if_true, if_false, h0 m hm, fi_any]
end Go.Proofs.YtigbgcopidghfaaDoorDK
namespace Go.Proofs.YtigbgcopidghfaaDoorDK
open Go Go.Proofs.YtigbgcopidghfaaDoorVM
set_option linter.unusedVariables false
set_option linter.unusedSimpArgs false
set_option maxRecDepth 100000

structure Dk where
  dn : Bool
  lf : Int
  kp : Int
  op : Int
  fs : List T
def f0 : T := .node [.str ByteArray.empty, .int 0]
def gF (fs : List T) (s : ByteArray) : T := mget keyS f0 fs (.str s)
def hF (fs : List T) (s : ByteArray) : Bool := mhas keyS fs (.str s)
def fT (f : T) : ByteArray := (f.get 0).txt
def fN (f : T) : Int := (f.get 1).num
def fil (s : ByteArray) (n : Int) : T := .node [.str s, .int n]
def putF (fs : List T) (s : ByteArray) (v : T) : List T := mput keyS fs (.str s) v
def delF (fs : List T) (s : ByteArray) : List T := mdel keyS fs (.str s)
theorem fT_fil (s : ByteArray) (n : Int) : fT (fil s n) = s := id rfl
theorem fN_fil (s : ByteArray) (n : Int) : fN (fil s n) = n := id rfl
def Fw (f : T) : Prop := 0 ≤ fN f ∧ fN f ≤ ((fT f).size : Int) ∧ (fT f).size ≤ 4194304
def Wf (fs : List T) : Prop := ∀ s, Fw (gF fs s)
theorem key_self (s : ByteArray) : keyS (.str s) (.str s) = true := by
  show seqB s s = true
  unfold seqB
  exact beq_self_eq_true _
theorem key_iff (a b : T) : keyS a b = true ↔ a.txt = b.txt := by
  unfold keyS seqB
  rw [beq_iff_eq]
  exact ⟨fun h => by rw [ByteArray.toList_eq, ByteArray.toList_eq] at h; exact ByteArray.ext (Array.toList_inj.1 h), fun h => by rw [h]⟩
theorem gF_put (fs : List T) (k s : ByteArray) (v : T) : gF (putF fs k v) s = if s = k then v else gF fs s := by
  unfold gF putF
  induction fs with
  | nil =>
    show mget keyS f0 [.node [.str k, v]] (.str s) = _
    simp only [mget]
    by_cases h : s = k
    · subst h
      rw [show keyS (.str s) ((T.node [.str s, v]).get 0) = true from key_self s, if_pos rfl]
      rfl
    · have : keyS (.str s) ((T.node [.str k, v]).get 0) = false := by
        cases hq : keyS (.str s) ((T.node [.str k, v]).get 0) with
        | false => rfl
        | true => exact absurd ((key_iff _ _).1 hq) h
      rw [this, if_neg h]
      rfl
  | cons e es ih =>
    simp only [mput]
    cases hk : keyS (.str k) (e.get 0) with
    | true =>
      have hke : k = (e.get 0).txt := (key_iff _ _).1 hk
      simp only [cond_true, mget]
      by_cases h : s = k
      · subst h
        rw [show keyS (.str s) ((T.node [.str s, v]).get 0) = true from key_self s, if_pos rfl]
        rfl
      · have h1 : keyS (.str s) ((T.node [.str k, v]).get 0) = false := by
          cases hq : keyS (.str s) ((T.node [.str k, v]).get 0) with
          | false => rfl
          | true => exact absurd ((key_iff _ _).1 hq) h
        have h2 : keyS (.str s) (e.get 0) = false := by
          cases hq : keyS (.str s) (e.get 0) with
          | false => rfl
          | true => exact absurd (((key_iff _ _).1 hq).trans hke.symm) h
        rw [h1, h2, if_neg h]
        rfl
    | false =>
      simp only [cond_false, mget]
      cases hs : keyS (.str s) (e.get 0) with
      | true =>
        have hne : ¬ s = k := fun h => by subst h; rw [hs] at hk; cases hk
        rw [if_neg hne]
        rfl
      | false => simp only [cond_false]; exact ih
theorem gF_del (fs : List T) (k s : ByteArray) (h : s ≠ k) : gF (delF fs k) s = gF fs s := by
  unfold gF delF
  induction fs with
  | nil => rfl
  | cons e es ih =>
    simp only [mdel]
    cases hk : keyS (.str k) (e.get 0) with
    | true =>
      have hke : k = (e.get 0).txt := (key_iff _ _).1 hk
      have h2 : keyS (.str s) (e.get 0) = false := by
        cases hq : keyS (.str s) (e.get 0) with
        | false => rfl
        | true => exact absurd (((key_iff _ _).1 hq).trans hke.symm) h
      simp only [cond_true, mget, h2, cond_false]
    | false =>
      simp only [cond_false, mget]
      cases hs : keyS (.str s) (e.get 0)
      · simp only [cond_false]; exact ih
      · rfl
theorem gF_no {fs : List T} {s : ByteArray} (h : hF fs s = false) : gF fs s = f0 := by
  unfold hF mhas at h
  unfold gF
  induction fs with
  | nil => rfl
  | cons e es ih =>
    rw [List.any_cons, Bool.or_eq_false_iff] at h
    simp only [mget, h.1, cond_false]
    exact ih h.2
theorem hF_put (fs : List T) (k s : ByteArray) (v : T) : hF (putF fs k v) s = (decide (s = k) || hF fs s) := by
  unfold hF putF
  induction fs with
  | nil =>
    show mhas keyS [.node [.str k, v]] (.str s) = _
    simp only [mhas, List.any_cons, List.any_nil, Bool.or_false]
    by_cases h : s = k
    · subst h; rw [decide_eq_true rfl]; exact key_self s
    · rw [decide_eq_false h]
      cases hq : keyS (.str s) ((T.node [.str k, v]).get 0) with
      | false => rfl
      | true => exact absurd ((key_iff _ _).1 hq) h
  | cons e es ih =>
    simp only [mput]
    cases hk : keyS (.str k) (e.get 0) with
    | true =>
      have hke : k = (e.get 0).txt := (key_iff _ _).1 hk
      simp only [cond_true, mhas, List.any_cons]
      have h3 : keyS (.str s) ((T.node [.str k, v]).get 0) = keyS (.str s) (e.get 0) := by
        show seqB s k = seqB s (e.get 0).txt
        rw [hke]
      rw [h3]
      by_cases h : s = k
      · subst h; rw [hk]; simp
      · rw [decide_eq_false h, Bool.false_or]
    | false =>
      simp only [cond_false, mhas, List.any_cons] at ih ⊢
      rw [ih]
      cases keyS (.str s) (e.get 0) <;> cases decide (s = k) <;> rfl
theorem Wf.put {fs : List T} (h : Wf fs) {k : ByteArray} {v : T} (hv : Fw v) : Wf (putF fs k v) := fun s => by
  rw [gF_put]
  split
  · exact hv
  · exact h s
theorem f0_ok : Fw f0 := ⟨by decide, by decide, by decide⟩
theorem put_eq (fs : List T) (s : ByteArray) (v : T) : mput keyS fs (T.str s) v = putF fs s v := id rfl
theorem del_eq (fs : List T) (s : ByteArray) : mdel keyS fs (T.str s) = delF fs s := id rfl
theorem gF_eq (fs : List T) (s : ByteArray) : mget keyS (fil ByteArray.empty 0) fs (T.str s) = gF fs s := id rfl
theorem hF_eq (fs : List T) (s : ByteArray) : mhas keyS fs (T.str s) = hF fs s := id rfl
theorem fT_eq (f : T) : (T.get f 0).txt = fT f := id rfl
theorem fN_eq (f : T) : (T.get f 1).num = fN f := id rfl
theorem fil_eq (s : ByteArray) (n : Int) : T.node [T.str s, T.int n] = fil s n := id rfl

theorem kname_eq (n : Nat) (a : ByteArray) : den Tryd.prog G0 ents (Nat.succ n) i_name_Right none [A.t (T.str a)] = some (1, [A.t (T.bool (nameB a))]) := by kernel_rfl
theorem kname_does (a : ByteArray) : Dz i_name_Right none [A.t (T.str a)] (1, [A.t (T.bool (nameB a))]) := Does.now fun n => kname_eq n a
theorem ksort_eq (n : Nat) (l : List T) : den Tryd.prog G0 ents (Nat.succ n) i_slices_Sorted none [A.t (T.node l)] = Option.map (fun o => (1, o)) (bif keysOk l then some [A.t (T.node (keysS l)), A.t (T.node l)] else none) := by kernel_rfl
theorem ksort_does {l : List T} (h : keysOk l = true) : Dz i_slices_Sorted none [A.t (T.node l)] (1, [A.t (T.node (keysS l)), A.t (T.node l)]) := Does.now fun n => by rw [ksort_eq, h]; rfl
theorem names_does (d : Dk) (h : keysOk d.fs = true) : Dz i_disk_Disk_Names none [A.t (T.bool d.dn), A.t (T.int d.lf), A.t (T.int d.kp), A.t (T.int d.op), A.t (T.node d.fs)] (1, [A.t (T.node (keysS d.fs)), A.t (T.bool d.dn), A.t (T.int d.lf), A.t (T.int d.kp), A.t (T.int d.op), A.t (T.node d.fs)]) := by
  have h0 : Dz i_maps_Keys_map_string_disk_file_string_disk_file none [A.t (T.node d.fs)] (1, [A.t (T.node d.fs)]) := Does.now fun m => by
    rw [q_maps_Keys_map_string_disk_file_string_disk_file]
    simp only [S0, S9, S1, S2, if_true, if_false]
  obtain ⟨n0, h0⟩ := h0.both (ksort_does h)
  refine Does.of n0 fun m hm => ?_
  rw [q_disk_Disk_Names]
  simp only [S0, S9, S1, S2, if_true, if_false, (h0 m hm).1, (h0 m hm).2]
theorem down_does (d : Dk) : Dz i_disk_Disk_Down none [A.t (T.bool d.dn), A.t (T.int d.lf), A.t (T.int d.kp), A.t (T.int d.op), A.t (T.node d.fs)] (1, [A.t (T.bool d.dn), A.t (T.bool d.dn), A.t (T.int d.lf), A.t (T.int d.kp), A.t (T.int d.op), A.t (T.node d.fs)]) := Does.now fun m => by
  rw [q_disk_Disk_Down]
  simp only [S0, S9, S1, S2, if_true, if_false]
def cutB (d : Dk) : Bool := !(d.lf == 0) && (IntKind.i64.wrap (d.lf - 1) == 0)
def dCut (d : Dk) : Dk := if d.lf = 0 then ⟨d.dn, d.lf, d.kp, IntKind.i64.wrap (d.op + 1), d.fs⟩ else ⟨IntKind.i64.wrap (d.lf - 1) == 0, IntKind.i64.wrap (d.lf - 1), d.kp, IntKind.i64.wrap (d.op + 1), d.fs⟩
theorem dCut_fs (d : Dk) : (dCut d).fs = d.fs := by unfold dCut; split <;> rfl
theorem dCut_kp (d : Dk) : (dCut d).kp = d.kp := by unfold dCut; split <;> rfl
theorem dCut_dn (d : Dk) (h : d.dn = false) : (dCut d).dn = cutB d := by
  unfold dCut cutB
  by_cases h0 : d.lf = 0
  · rw [if_pos h0, h0]; exact h
  · rw [if_neg h0]
    have : (d.lf == 0) = false := by simpa using h0
    rw [this]; rfl
theorem cut_does (d : Dk) : Dz i_disk_Disk_cut none [A.t (T.bool d.dn), A.t (T.int d.lf), A.t (T.int d.kp), A.t (T.int d.op), A.t (T.node d.fs)] (1, [A.t (T.bool (cutB d)), A.t (T.bool (dCut d).dn), A.t (T.int (dCut d).lf), A.t (T.int (dCut d).kp), A.t (T.int (dCut d).op), A.t (T.node (dCut d).fs)]) := Does.now fun m => by
  rw [q_disk_Disk_cut]
  by_cases h : d.lf = 0
  · simp only [S0, S9, S1, S2, if_true, if_false, cutB, dCut, h]
    rfl
  · have hb : (d.lf == 0) = false := by simpa using h
    simp only [cutB, dCut, hb, Bool.not_false, Bool.true_and, if_neg h, S0, S9, S1]
    rfl
def rdS (d : Dk) (s : ByteArray) : ByteArray := if d.dn then ⟨List.toArray []⟩ else if hF d.fs s then fT (gF d.fs s) else ⟨List.toArray []⟩
def rdE (d : Dk) (s : ByteArray) : Int := if d.dn then 8 else if hF d.fs s then 0 else 5
theorem read_does (d : Dk) (s : ByteArray) : Dz i_disk_Disk_Read none [A.t (T.str s), A.t (T.bool d.dn), A.t (T.int d.lf), A.t (T.int d.kp), A.t (T.int d.op), A.t (T.node d.fs)] (1, [A.t (T.str (rdS d s)), A.t (T.int (rdE d s)), A.t (T.bool d.dn), A.t (T.int d.lf), A.t (T.int d.kp), A.t (T.int d.op), A.t (T.node d.fs)]) := by
  obtain ⟨n0, h0⟩ := down_does d
  refine Does.of n0 fun m hm => ?_
  rw [q_disk_Disk_Read]
  simp only [S0, S9, S1, S2, if_true, if_false, h0 m hm, hF_eq, gF_eq, fil_eq, fT_eq, rdS, rdE]
  cases d.dn
  · cases hF d.fs s <;> rfl
  · rfl
def apT (d : Dk) (s : ByteArray) : ByteArray := ByteArray.extract s 0 (Int.toNat (maxI 0 (minI d.kp ((s.size : Nat) : Int))))
def apE (d : Dk) (to s : ByteArray) : Int :=
  if d.dn then 8 else if nameB to then (if 4194304 < (fT (gF d.fs to)).size + s.size then 4 else if cutB d then 8 else 0) else 1
def apD (d : Dk) (to s : ByteArray) : Dk :=
  if d.dn then d else if nameB to then (if 4194304 < (fT (gF d.fs to)).size + s.size then d else { dCut d with fs := putF d.fs to (fil (fT (gF d.fs to) ++ (if cutB d then apT d s else s)) (fN (gF d.fs to))) }) else d
theorem maxmin {k z : Int} (hz : 0 ≤ z) : 0 ≤ maxI 0 (minI k z) ∧ maxI 0 (minI k z) ≤ z := by
  unfold maxI minI
  split <;> split at * <;> omega
theorem append_does (d : Dk) (to s : ByteArray) (hw : Wf d.fs) (hs : s.size ≤ 1000000) : Dz i_disk_Disk_Append none [A.t (T.str to), A.t (T.str s), A.t (T.bool d.dn), A.t (T.int d.lf), A.t (T.int d.kp), A.t (T.int d.op), A.t (T.node d.fs)] (1, [A.t (T.int (apE d to s)), A.t (T.bool (apD d to s).dn), A.t (T.int (apD d to s).lf), A.t (T.int (apD d to s).kp), A.t (T.int (apD d to s).op), A.t (T.node (apD d to s).fs)]) := by
  obtain ⟨n0, h0⟩ := (down_does d).both (kname_does to)
  obtain ⟨n1, h1⟩ := cut_does d
  have hz := (hw to).2.2
  have h2 : IntKind.i64.wrap (((fT (gF d.fs to)).size : Int) + (s.size : Int)) = (((fT (gF d.fs to)).size + s.size : Nat) : Int) := i64add (by omega)
  have hm2 := maxmin (k := d.kp) (z := ((s.size : Nat) : Int)) (by omega)
  have hx : (ByteArray.extract s 0 (Int.toNat (maxI 0 (minI d.kp ((s.size : Nat) : Int))))).size ≤ s.size := by
    rw [ByteArray.size_extract]; omega
  refine Does.of (n0 + n1) fun m hm => ?_
  rw [q_disk_Disk_Append]
  simp only [S0, S9, S1, S2, if_true, if_false, (h0 m (by omega)).1, (h0 m (by omega)).2, h1 m (by omega), gF_eq, fT_eq, fN_eq, put_eq, fil_eq, dCut_fs, dCut_kp, h2, apE, apD]
  cases hd : d.dn
  · cases hn : nameB to
    · simp only [Bool.not_false, if_true, if_false, Bool.false_eq_true, hd]
    · simp only [Bool.not_true, if_true, if_false, Bool.false_eq_true, hd]
      by_cases h4 : 4194304 < (fT (gF d.fs to)).size + s.size
      · rw [if_pos (by omega), if_pos h4, if_pos h4, hd]
      · rw [if_neg (by omega), if_neg h4, if_neg h4]
        cases hc : cutB d
        · simp only [Bool.false_eq_true, if_false]
          rw [if_pos (by omega)]
        · simp only [if_true]
          rw [if_pos (by refine ⟨⟨⟨?_, ?_⟩, trivial⟩, ?_⟩ <;> omega), if_pos (by omega)]
          rfl
  · simp only [if_true, hd]
def syE (d : Dk) (s : ByteArray) : Int := if rdE d s = 0 then (if cutB d then 8 else 0) else rdE d s
def syD (d : Dk) (s : ByteArray) : Dk := if rdE d s = 0 then (if cutB d then dCut d else { dCut d with fs := putF d.fs s (fil (fT (gF d.fs s)) ((fT (gF d.fs s)).size : Int)) }) else d
theorem sync_does (d : Dk) (s : ByteArray) : Dz i_disk_Disk_Sync none [A.t (T.str s), A.t (T.bool d.dn), A.t (T.int d.lf), A.t (T.int d.kp), A.t (T.int d.op), A.t (T.node d.fs)] (1, [A.t (T.int (syE d s)), A.t (T.bool (syD d s).dn), A.t (T.int (syD d s).lf), A.t (T.int (syD d s).kp), A.t (T.int (syD d s).op), A.t (T.node (syD d s).fs)]) := by
  obtain ⟨n0, h0⟩ := (read_does d s).both (cut_does d)
  refine Does.of n0 fun m hm => ?_
  rw [q_disk_Disk_Sync]
  simp only [S0, S9, S1, S2, if_true, if_false, (h0 m hm).1, (h0 m hm).2, gF_eq, fT_eq, fN_eq, put_eq, fil_eq, dCut_fs, syE, syD]
  by_cases he : rdE d s = 0
  · rw [if_neg (by simpa using he), if_pos he, if_pos he]
    cases hc : cutB d
    · simp only [Bool.false_eq_true, if_false]
    · simp only [if_true, dCut_fs]
  · rw [if_pos (by simpa using he), if_neg he, if_neg he]
theorem fuse_does (d : Dk) (n k : Int) : Dz i_disk_Disk_Fuse none [A.t (T.int n), A.t (T.int k), A.t (T.bool d.dn), A.t (T.int d.lf), A.t (T.int d.kp), A.t (T.int d.op), A.t (T.node d.fs)] (1, [A.t (T.bool d.dn), A.t (T.int (maxI n 1)), A.t (T.int k), A.t (T.int d.op), A.t (T.node d.fs)]) := Does.now fun m => by
  rw [q_disk_Disk_Fuse]
  simp only [S0, S9, S1, S2, if_true, if_false]
def kpN (keeps : List T) (i : Nat) : Int := if i < keeps.length then (tAtD keeps i).num else 0
def stayF (f : T) (k : Int) : Int := maxI 0 (minI k (((fT f).size : Int) - fN f))
def cutT (f : T) (k : Int) : ByteArray := ByteArray.extract (fT f) 0 (Int.toNat (fN f + stayF f k))
def cutF (f : T) (k : Int) : T := fil (cutT f k) ((cutT f k).size : Int)
theorem stay_ok {f : T} (h : Fw f) (k : Int) : 0 ≤ stayF f k ∧ stayF f k ≤ ((fT f).size : Int) - fN f := maxmin (by have := h.2.1; omega)
theorem cutF_ok {f : T} (h : Fw f) (k : Int) : Fw (cutF f k) := by
  obtain ⟨h1, h2⟩ := stay_ok h k
  obtain ⟨h3, h4, h5⟩ := h
  have : (cutT f k).size ≤ (fT f).size := by unfold cutT; rw [ByteArray.size_extract]; omega
  exact ⟨by rw [cutF, fN_fil]; omega, by rw [cutF, fN_fil, fT_fil]; omega, by rw [cutF, fT_fil]; omega⟩
def wakeL (keeps : List T) : Nat → List T → List T → List T
  | _, [], fs => fs
  | i, s :: ss, fs => wakeL keeps (i + 1) ss (putF fs s.txt (cutF (gF fs s.txt) (kpN keeps i)))
theorem wake_in (keeps ns : List T) (hk : keeps.length ≤ 1000000) (hn : ns.length ≤ 2000000) (d : Dk) : ∀ (k j : Nat) (fs : List T), j + k = ns.length → Wf fs →
    Dz i_disk_Disk_Wake (some p_disk_Disk_Wake_c1) [A.t (T.node keeps), A.t (T.node ns), A.t (T.int (ns.length : Nat)), A.t (T.int j), A.t (T.bool d.dn), A.t (T.int d.lf), A.t (T.int d.kp), A.t (T.int d.op), A.t (T.node fs)]
      (2, [A.t (T.bool d.dn), A.t (T.int d.lf), A.t (T.int d.kp), A.t (T.int d.op), A.t (T.node (wakeL keeps j (ns.drop j) fs))]) := by
  intro k
  induction k with
  | zero =>
    intro j fs hj hw
    refine Does.now fun m => ?_
    rw [q_disk_Disk_Wake_c1, List.drop_of_length_le (by omega)]
    simp only [S0, S9, S1, S2, if_true, if_false]
    repeat (first | rw [if_pos (by omega)] | rw [if_neg (by omega)])
    rfl
  | succ k ih =>
    intro j fs hj hw
    have hlt : j < ns.length := by omega
    have hj1 : IntKind.i64.wrap ((j : Int) + 1) = ((j + 1 : Nat) : Int) := i64succ (by omega)
    have hf := hw ns[j].txt
    obtain ⟨g1, g2, g3⟩ := hf
    have hs := stay_ok (hw ns[j].txt) (kpN keeps j)
    obtain ⟨n0, h0⟩ := ih (j + 1) (putF fs ns[j].txt (cutF (gF fs ns[j].txt) (kpN keeps j))) (by omega) (hw.put (cutF_ok (hw _) _))
    have hw1 : IntKind.i64.wrap (((fT (gF fs ns[j].txt)).size : Int) - fN (gF fs ns[j].txt)) = ((fT (gF fs ns[j].txt)).size : Int) - fN (gF fs ns[j].txt) := w64 (by omega) (by omega)
    refine Does.of n0 fun m hm => ?_
    have q := h0 m hm
    rw [q_disk_Disk_Wake_c1, List.drop_eq_getElem_cons hlt, wakeL]
    by_cases hkl : j < keeps.length
    · have hkn : kpN keeps j = (tAtD keeps j).num := if_pos hkl
      have hst : maxI 0 (minI (tAtD keeps j).num (((fT (gF fs ns[j].txt)).size : Int) - fN (gF fs ns[j].txt))) = stayF (gF fs ns[j].txt) (kpN keeps j) := by rw [hkn]; rfl
      have hw2 : IntKind.i64.wrap (fN (gF fs ns[j].txt) + stayF (gF fs ns[j].txt) (kpN keeps j)) = fN (gF fs ns[j].txt) + stayF (gF fs ns[j].txt) (kpN keeps j) := w64 (by omega) (by omega)
      have hct : ByteArray.extract (fT (gF fs ns[j].txt)) 0 (Int.toNat (fN (gF fs ns[j].txt) + stayF (gF fs ns[j].txt) (kpN keeps j))) = cutT (gF fs ns[j].txt) (kpN keeps j) := rfl
      have hcf : fil (cutT (gF fs ns[j].txt) (kpN keeps j)) (((cutT (gF fs ns[j].txt) (kpN keeps j)).size : Nat) : Int) = cutF (gF fs ns[j].txt) (kpN keeps j) := rfl
      simp only [S0, S9, S1, S2, if_true, if_false, at_get hlt, gF_eq, fT_eq, fN_eq, put_eq, fil_eq, hw1, hst, hw2, hct, hcf, hj1]
      rw [if_pos (by omega), if_pos (by omega), if_pos (by omega), if_pos (by omega), if_pos (by refine ⟨⟨⟨?_, ?_⟩, trivial⟩, ?_⟩ <;> omega)]
      exact q
    · have hkn : kpN keeps j = 0 := if_neg hkl
      have hst : stayF (gF fs ns[j].txt) (kpN keeps j) = 0 := by
        rw [hkn]; unfold stayF maxI minI
        split <;> split at * <;> omega
      have hw2 : IntKind.i64.wrap (fN (gF fs ns[j].txt) + 0) = fN (gF fs ns[j].txt) + 0 := w64 (by omega) (by omega)
      have hct : ByteArray.extract (fT (gF fs ns[j].txt)) 0 (Int.toNat (fN (gF fs ns[j].txt) + 0)) = cutT (gF fs ns[j].txt) (kpN keeps j) := by rw [cutT, hst]
      have hcf : fil (cutT (gF fs ns[j].txt) (kpN keeps j)) (((cutT (gF fs ns[j].txt) (kpN keeps j)).size : Nat) : Int) = cutF (gF fs ns[j].txt) (kpN keeps j) := rfl
      simp only [S0, S9, S1, S2, if_true, if_false, at_get hlt, gF_eq, fT_eq, fN_eq, put_eq, fil_eq, hw2, hct, hcf, hj1]
      rw [if_pos (by omega), if_pos (by omega), if_neg (by omega), if_pos (by refine ⟨⟨⟨?_, ?_⟩, trivial⟩, ?_⟩ <;> omega)]
      exact q
def wkD (d : Dk) (keeps : List T) : Dk := ⟨false, 0, d.kp, d.op, wakeL keeps 0 (keysS d.fs) d.fs⟩
theorem keysS_len (es : List T) : (keysS es).length = es.length := by
  unfold keysS
  rw [List.length_map, (keysB_perm es).length_eq, List.length_map]
theorem wake_does (d : Dk) (keeps : List T) (hk : keeps.length ≤ 1000000) (hok : keysOk d.fs = true) (hw : Wf d.fs) : Dz i_disk_Disk_Wake none [A.t (T.node keeps), A.t (T.bool d.dn), A.t (T.int d.lf), A.t (T.int d.kp), A.t (T.int d.op), A.t (T.node d.fs)] (1, [A.t (T.bool (wkD d keeps).dn), A.t (T.int (wkD d keeps).lf), A.t (T.int (wkD d keeps).kp), A.t (T.int (wkD d keeps).op), A.t (T.node (wkD d keeps).fs)]) := by
  have hl : (keysS d.fs).length ≤ 2000000 := by
    rw [keysS_len]
    unfold keysOk at hok
    rw [Bool.and_eq_true] at hok
    have := Nat.le_of_ble_eq_true hok.1
    omega
  obtain ⟨n0, h0⟩ := (names_does d hok).both (wake_in keeps (keysS d.fs) hk hl d (keysS d.fs).length 0 d.fs (by omega) hw)
  refine Does.of n0 fun m hm => ?_
  have q : den Tryd.prog G0 ents m i_disk_Disk_Wake (some p_disk_Disk_Wake_c1) [A.t (T.node keeps), A.t (T.node (keysS d.fs)), A.t (T.int ((keysS d.fs).length : Nat)), A.t (T.int 0), A.t (T.bool d.dn), A.t (T.int d.lf), A.t (T.int d.kp), A.t (T.int d.op), A.t (T.node d.fs)] = _ := (h0 m hm).2
  rw [List.drop_zero] at q
  rw [q_disk_Disk_Wake]
  simp only [S0, S9, S1, S2, if_true, if_false, (h0 m hm).1, q]
  rfl
end Go.Proofs.YtigbgcopidghfaaDoorDK
namespace Go.Proofs.YtigbgcopidghfaaDoorDK
open Go Go.Proofs.YtigbgcopidghfaaDoorVM
set_option linter.unusedVariables false
set_option linter.unusedSimpArgs false
set_option maxRecDepth 100000

def fK : ByteArray := ⟨List.toArray [102]⟩
theorem fK_eq : (⟨List.toArray [102]⟩ : ByteArray) = fK := id rfl
theorem fK_name : nameB fK = true := by kernel_rfl
theorem ext_ext (b : ByteArray) (m n : Nat) (h : n ≤ m) : (b.extract 0 m).extract 0 n = b.extract 0 n := by
  apply ByteArray.ext
  simp only [ByteArray.data_extract, Array.extract_extract]
  congr 1
  omega
theorem ext_all (b : ByteArray) : b.extract 0 b.size = b := by simp
theorem ext_app (b c : ByteArray) (n : Nat) (h : n ≤ b.size) : (b ++ c).extract 0 n = b.extract 0 n := by
  apply ByteArray.ext
  simp only [ByteArray.data_extract, ByteArray.data_append]
  rw [Array.extract_append]
  have h0 : n - b.data.size = 0 := by have : b.data.size = b.size := rfl; omega
  rw [h0]
  simp
theorem ext_size {b : ByteArray} {n : Nat} (h : n ≤ b.size) : (b.extract 0 n).size = n := by rw [ByteArray.size_extract]; omega
def One (fs : List T) : Prop := fs = [] ∨ ∃ v, fs = [.node [.str fK, v]]
theorem One.put {fs : List T} (h : One fs) (v : T) : One (putF fs fK v) := by
  rcases h with rfl | ⟨w, rfl⟩
  · exact .inr ⟨v, rfl⟩
  · refine .inr ⟨v, ?_⟩
    unfold putF
    simp only [mput]
    rw [show keyS (.str fK) ((T.node [.str fK, w]).get 0) = true from key_self fK]
    rfl
theorem One.ok {fs : List T} (h : One fs) : keysOk fs = true := by
  rcases h with rfl | ⟨w, rfl⟩ <;> rfl
theorem One.wake {fs : List T} (h : One fs) (keeps : List T) : One (wakeL keeps 0 (keysS fs) fs) ∧ hF (wakeL keeps 0 (keysS fs) fs) fK = hF fs fK ∧ (hF fs fK = true → gF (wakeL keeps 0 (keysS fs) fs) fK = cutF (gF fs fK) (kpN keeps 0)) := by
  rcases h with rfl | ⟨w, rfl⟩
  · exact ⟨.inl rfl, rfl, fun h => by cases h⟩
  · have e : wakeL keeps 0 (keysS [.node [.str fK, w]]) [.node [.str fK, w]] = putF [.node [.str fK, w]] fK (cutF (gF [.node [.str fK, w]] fK) (kpN keeps 0)) := rfl
    rw [e]
    refine ⟨One.put (.inr ⟨w, rfl⟩) _, ?_, fun _ => by rw [gF_put, if_pos rfl]⟩
    rw [hF_put]
    have : hF [.node [.str fK, w]] fK = true := by
      unfold hF mhas
      rw [List.any_cons, show keyS (.str fK) ((T.node [.str fK, w]).get 0) = true from key_self fK]
      rfl
    rw [this]; simp
structure KInv (sure : ByteArray) (d : Dk) : Prop where
  one : One d.fs
  wf : Wf d.fs
  sure : sure = (fT (gF d.fs fK)).extract 0 (fN (gF d.fs fK)).toNat
theorem rdS_up {d : Dk} (h : d.dn = false) : rdS d fK = fT (gF d.fs fK) := by
  unfold rdS
  rw [h]
  simp only [Bool.false_eq_true, if_false]
  cases hh : hF d.fs fK
  · rw [gF_no hh]; rfl
  · rfl
theorem rdE_up {d : Dk} (h : rdE d fK = 0) : d.dn = false ∧ hF d.fs fK = true := by
  unfold rdE at h
  cases hd : d.dn <;> rw [hd] at h
  · cases hh : hF d.fs fK <;> rw [hh] at h
    · simp at h
    · exact ⟨rfl, rfl⟩
  · simp at h
theorem KInv.fin {sure : ByteArray} {d : Dk} (h : KInv sure d) (he : rdE d fK = 0) : sure.size ≤ (rdS d fK).size ∧ ByteArray.extract (rdS d fK) 0 sure.size = sure := by
  obtain ⟨h1, h2⟩ := rdE_up he
  obtain ⟨g1, g2, g3⟩ := h.wf fK
  rw [rdS_up h1]
  have hs := h.sure
  have hz : sure.size = (fN (gF d.fs fK)).toNat := by rw [hs]; exact ext_size (by omega)
  refine ⟨by omega, ?_⟩
  rw [hz]
  exact hs.symm
theorem app_ok {sure : ByteArray} {d : Dk} (h : KInv sure d) (s : ByteArray) : KInv sure (apD d fK s) ∧ (apE d fK s = 0 → rdE (apD d fK s) fK = 0 ∧ rdS (apD d fK s) fK = rdS d fK ++ s ∧ (rdS d fK).size ≤ 4194304) := by
  obtain ⟨g1, g2, g3⟩ := h.wf fK
  unfold apD apE
  rw [fK_name]
  simp only [if_true]
  cases hd : d.dn
  · simp only [Bool.false_eq_true, if_false]
    by_cases h4 : 4194304 < (fT (gF d.fs fK)).size + s.size
    · rw [if_pos h4, if_pos h4]
      exact ⟨h, fun h => by cases h⟩
    · rw [if_neg h4, if_neg h4]
      have ht : (if cutB d = true then apT d s else s).size ≤ s.size := by
        split
        · unfold apT; rw [ByteArray.size_extract]; omega
        · exact Nat.le_refl _
      refine ⟨⟨?_, ?_, ?_⟩, fun he => ?_⟩
      · exact h.one.put _
      · refine h.wf.put ⟨by rw [fN_fil]; exact g1, by rw [fN_fil, fT_fil, ByteArray.size_append]; omega, by rw [fT_fil, ByteArray.size_append]; omega⟩
      · show sure = (fT (gF (putF d.fs fK _) fK)).extract 0 (fN (gF (putF d.fs fK _) fK)).toNat
        rw [gF_put, if_pos rfl, fT_fil, fN_fil, ext_app _ _ _ (by omega)]
        exact h.sure
      · cases hc : cutB d
        · have hdn : (dCut d).dn = false := by rw [dCut_dn d hd, hc]
          have hh : hF (putF d.fs fK (fil (fT (gF d.fs fK) ++ s) (fN (gF d.fs fK)))) fK = true := by rw [hF_put]; simp
          rw [rdS_up hd]
          refine ⟨?_, ?_, g3⟩
          · unfold rdE
            simp only [hdn, Bool.false_eq_true, if_false, hh, if_true]
          · rw [rdS_up (by exact hdn)]
            simp only [Bool.false_eq_true, if_false]
            rw [gF_put, if_pos rfl, fT_fil]
        · rw [hc] at he; simp at he
  · simp only [if_true]
    exact ⟨h, fun h => by cases h⟩
theorem sync_ok {sure : ByteArray} {d : Dk} (h : KInv sure d) : KInv (if syE d fK = 0 then rdS d fK else sure) (syD d fK) := by
  obtain ⟨g1, g2, g3⟩ := h.wf fK
  unfold syE syD
  by_cases he : rdE d fK = 0
  · obtain ⟨h1, h2⟩ := rdE_up he
    rw [if_pos he, if_pos he]
    cases hc : cutB d
    · simp only [Bool.false_eq_true, if_false, if_true]
      refine ⟨h.one.put _, h.wf.put ⟨by rw [fN_fil]; omega, by rw [fN_fil, fT_fil]; omega, by rw [fT_fil]; exact g3⟩, ?_⟩
      show rdS d fK = (fT (gF (putF d.fs fK _) fK)).extract 0 (fN (gF (putF d.fs fK _) fK)).toNat
      rw [gF_put, if_pos rfl, fT_fil, fN_fil, rdS_up h1, Int.toNat_natCast, ext_all]
    · simp only [if_true]
      rw [if_neg (by omega)]
      exact ⟨by rw [dCut_fs]; exact h.one, by rw [dCut_fs]; exact h.wf, by rw [dCut_fs]; exact h.sure⟩
  · rw [if_neg he, if_neg he, if_neg he]
    exact h
theorem wk_ok {sure : ByteArray} {d : Dk} (h : KInv sure d) (keeps : List T) : KInv (rdS (wkD d keeps) fK) (wkD d keeps) ∧ sure.size ≤ (rdS (wkD d keeps) fK).size ∧ ByteArray.extract (rdS (wkD d keeps) fK) 0 sure.size = sure ∧
    (rdE d fK = 0 → (rdS (wkD d keeps) fK).size ≤ (rdS d fK).size ∧ ByteArray.extract (rdS d fK) 0 (rdS (wkD d keeps) fK).size = rdS (wkD d keeps) fK) := by
  obtain ⟨g1, g2, g3⟩ := h.wf fK
  obtain ⟨w1, w2, w3⟩ := h.one.wake keeps
  have hup : rdS (wkD d keeps) fK = fT (gF (wkD d keeps).fs fK) := rdS_up rfl
  have hsz : sure.size = (fN (gF d.fs fK)).toNat := by rw [h.sure]; exact ext_size (by omega)
  cases hh : hF d.fs fK with
  | false =>
    have e1 : gF d.fs fK = f0 := gF_no hh
    have e2 : gF (wkD d keeps).fs fK = f0 := gF_no (w2.trans hh)
    have e3 : d.fs = [] := by
      rcases h.one with h1 | ⟨w, h1⟩
      · exact h1
      · rw [h1] at hh
        have : hF [.node [.str fK, w]] fK = true := by
          unfold hF mhas
          rw [List.any_cons, show keyS (.str fK) ((T.node [.str fK, w]).get 0) = true from key_self fK]
          rfl
        rw [this] at hh; cases hh
    have e4 : (wkD d keeps).fs = [] := by unfold wkD; rw [e3]; rfl
    have hs : sure = ByteArray.empty := by rw [h.sure, e1]; rfl
    rw [hup, e2]
    refine ⟨⟨by rw [e4]; exact .inl rfl, fun s => by rw [e4]; exact f0_ok, by rw [e2]; rfl⟩, by rw [hs]; exact Nat.le_refl _, by rw [hs]; rfl, fun he => ?_⟩
    have := (rdE_up he).2
    rw [hh] at this; cases this
  | true =>
    have e2 : gF (wkD d keeps).fs fK = cutF (gF d.fs fK) (kpN keeps 0) := w3 hh
    obtain ⟨k1, k2⟩ := stay_ok (h.wf fK) (kpN keeps 0)
    have hc : Fw (cutF (gF d.fs fK) (kpN keeps 0)) := cutF_ok (h.wf fK) _
    have hcs : (cutT (gF d.fs fK) (kpN keeps 0)).size = (fN (gF d.fs fK) + stayF (gF d.fs fK) (kpN keeps 0)).toNat := ext_size (by omega)
    rw [hup, e2]
    show KInv (cutT (gF d.fs fK) (kpN keeps 0)) (wkD d keeps) ∧ sure.size ≤ (cutT (gF d.fs fK) (kpN keeps 0)).size ∧ ByteArray.extract (cutT (gF d.fs fK) (kpN keeps 0)) 0 sure.size = sure ∧ (rdE d fK = 0 → (cutT (gF d.fs fK) (kpN keeps 0)).size ≤ (rdS d fK).size ∧ ByteArray.extract (rdS d fK) 0 (cutT (gF d.fs fK) (kpN keeps 0)).size = cutT (gF d.fs fK) (kpN keeps 0))
    refine ⟨⟨w1, ?_, ?_⟩, by omega, ?_, fun he => ?_⟩
    · intro s
      by_cases hs : s = fK
      · subst hs; rw [e2]; exact hc
      · have w1' := w1
        rcases w1' with h1 | ⟨v, h1⟩
        · show Fw (gF (wakeL keeps 0 (keysS d.fs) d.fs) s)
          rw [h1]; exact f0_ok
        · show Fw (gF (wakeL keeps 0 (keysS d.fs) d.fs) s)
          rw [h1]
          have : gF [.node [.str fK, v]] s = f0 := by
            unfold gF
            simp only [mget]
            have : keyS (.str s) ((T.node [.str fK, v]).get 0) = false := by
              cases hq : keyS (.str s) ((T.node [.str fK, v]).get 0) with
              | false => rfl
              | true => exact absurd ((key_iff _ _).1 hq) hs
            rw [this]; rfl
          rw [this]; exact f0_ok
    · rw [e2]
      show _ = (cutT (gF d.fs fK) (kpN keeps 0)).extract 0 (((cutT (gF d.fs fK) (kpN keeps 0)).size : Nat) : Int).toNat
      rw [Int.toNat_natCast, ext_all]
    · rw [hsz]
      unfold cutT
      rw [ext_ext _ _ _ (by omega)]
      exact h.sure.symm
    · rw [rdS_up (rdE_up he).1]
      refine ⟨by omega, ?_⟩
      rw [hcs]; rfl

def shB (a : T) : Bool := decide (((a.get 1).txt.size : Int) ≤ 100) && (decide (((a.get 2).txt.size : Int) ≤ 100) && (decide (((a.get 3).txt.size : Int) ≤ 300) && decide (((a.get 4).kids.length : Int) ≤ 20)))
theorem short_does (a : T) : Dz i_L23_short none [A.t a] (1, [A.t (T.bool (shB a))]) := Does.now fun m => by
  rw [q_L23_short]
  simp only [S0, S9, S1, shB]
  by_cases h1 : ((a.get 1).txt.size : Int) ≤ 100 <;> by_cases h2 : ((a.get 2).txt.size : Int) ≤ 100 <;> by_cases h3 : ((a.get 3).txt.size : Int) ≤ 300 <;>
    simp only [h1, h2, h3, if_true, if_false, decide_true, decide_false, Bool.true_and, Bool.false_and]
theorem shB_ok {a : T} (h : shB a = true) : (a.get 1).txt.size ≤ 100 ∧ (a.get 2).txt.size ≤ 100 ∧ (a.get 3).txt.size ≤ 300 ∧ (a.get 4).kids.length ≤ 20 := by
  unfold shB at h
  simp only [Bool.and_eq_true, decide_eq_true_eq] at h
  omega
theorem number_does (l : List T) (i : Nat) (h : i < 1000) : Dz i_L23_number none [A.t (T.node l), A.t (T.int (i : Nat))] (1, [A.t (T.int (kpN l i))]) := Does.now fun m => by
  rw [q_L23_number]
  simp only [S0, S9, S1, S2, if_true, if_false, kpN]
  by_cases hi : i < l.length
  · rw [if_pos (by omega), if_pos (by omega), if_pos hi]
  · rw [if_neg (by omega), if_neg hi]
theorem seq_self (a : ByteArray) : seqB a a = true := by unfold seqB; exact beq_self_eq_true _
theorem tail_eq {sure now : ByteArray} {e : Int} {x bad no : Option (Nat × List A)} (h : e = 0 → sure.size ≤ now.size ∧ ByteArray.extract now 0 sure.size = sure) :
    (if e = 0 then (if ¬ ((now.size : Nat) : Int) < ((sure.size : Nat) : Int) then (if ((0 ≤ ((sure.size : Nat) : Int) ∧ ((sure.size : Nat) : Int) ≤ ((now.size : Nat) : Int)) ∧ True) ∧ 0 ≤ ((sure.size : Nat) : Int) then (if (!seqB (ByteArray.extract now 0 sure.size) sure) = true then bad else x) else no) else bad) else x) = x := by
  by_cases he : e = 0
  · obtain ⟨h1, h2⟩ := h he
    rw [if_pos he, if_pos (by omega), if_pos ⟨⟨⟨by omega, by omega⟩, trivial⟩, by omega⟩, h2, seq_self]
    rfl
  · rw [if_neg he]
theorem keep_round (acts : List T) (hl : acts.length ≤ 60) (j : Nat) (hlt : j < acts.length) (sure : ByteArray) (d : Dk) (h : KInv sure d) : ∃ sure' d', KInv sure' d' ∧ ∃ n0, ∀ m, n0 ≤ m →
    den Tryd.prog G0 ents (Nat.succ m) i_L23_DiskKeeps (some p_L23_DiskKeeps_c1) [A.t (T.node acts), A.t (T.str sure), A.t (T.int j), A.t (T.bool d.dn), A.t (T.int d.lf), A.t (T.int d.kp), A.t (T.int d.op), A.t (T.node d.fs)] =
    den Tryd.prog G0 ents m i_L23_DiskKeeps (some p_L23_DiskKeeps_c1) [A.t (T.node acts), A.t (T.str sure'), A.t (T.int (j + 1 : Nat)), A.t (T.bool d'.dn), A.t (T.int d'.lf), A.t (T.int d'.kp), A.t (T.int d'.op), A.t (T.node d'.fs)] := by
  have hj1 : IntKind.i64.wrap ((j : Int) + 1) = ((j + 1 : Nat) : Int) := i64succ (by omega)
  obtain ⟨n0, h0⟩ := (short_does acts[j]).both (read_does d fK)
  cases hsh : shB acts[j] with
  | false =>
    refine ⟨sure, d, h, n0, fun m hm => ?_⟩
    obtain ⟨q1, q2⟩ := h0 m hm
    rw [hsh] at q1
    rw [q_L23_DiskKeeps_c1]
    simp only [S0, S9, S1, S2, if_true, if_false, at_get hlt, q1, Bool.not_false, hj1]
    rw [if_pos (by omega), if_pos (by omega)]
  | true =>
    rw [hsh] at h0
    obtain ⟨s1, s2, s3, s4⟩ := shB_ok hsh
    by_cases k0 : Int.tmod ((acts[j]).get 0).num 4 = 0
    · obtain ⟨a1, a2⟩ := app_ok h (acts[j].get 3).txt
      obtain ⟨n1, h1⟩ := (append_does d fK (acts[j].get 3).txt h.wf (by omega)).both (read_does (apD d fK (acts[j].get 3).txt) fK)
      refine ⟨sure, _, a1, n0 + n1, fun m hm => ?_⟩
      obtain ⟨q1, q2⟩ := h0 m (by omega)
      obtain ⟨q3, q4⟩ := h1 m (by omega)
      rw [q_L23_DiskKeeps_c1]
      simp only [S0, S9, S1, S2, if_true, if_false, at_get hlt, q1, q2, q3, q4, Bool.not_true, hj1, k0, fK_eq]
      rw [if_pos (by omega), if_pos (by omega)]
      rw [tail_eq a1.fin]
      by_cases e1 : apE d fK (acts[j].get 3).txt = 0
      · obtain ⟨b1, b2, b3⟩ := a2 e1
        rw [if_pos e1, if_pos (by rw [b1]; rfl), if_pos (by omega), if_neg (by rw [b2, seq_self]; simp)]
      · rw [if_neg e1]
    · by_cases k1 : Int.tmod ((acts[j]).get 0).num 4 = 1
      · have a1 := sync_ok h
        obtain ⟨n1, h1⟩ := (sync_does d fK).both (read_does (syD d fK) fK)
        refine ⟨_, _, a1, n0 + n1, fun m hm => ?_⟩
        obtain ⟨q1, q2⟩ := h0 m (by omega)
        obtain ⟨q3, q4⟩ := h1 m (by omega)
        rw [q_L23_DiskKeeps_c1]
        simp only [S0, S9, S1, S2, if_true, if_false, at_get hlt, q1, q2, q3, q4, Bool.not_true, hj1, k1, show ¬ (1 : Int) = 0 by omega, fK_eq]
        rw [if_pos (by omega), if_pos (by omega)]
        by_cases e1 : syE d fK = 0
        · rw [if_pos e1] at a1 ⊢
          rw [tail_eq a1.fin, if_pos e1]
        · rw [if_neg e1] at a1 ⊢
          rw [tail_eq a1.fin, if_neg e1]
      · by_cases k2 : Int.tmod ((acts[j]).get 0).num 4 = 2
        · obtain ⟨n1, h1⟩ := (number_does (acts[j].get 4).kids 0 (by omega)).both (number_does (acts[j].get 4).kids 1 (by omega))
          have a1 : KInv sure ⟨d.dn, maxI (Int.tmod (kpN (acts[j].get 4).kids 0) 9) 1, kpN (acts[j].get 4).kids 1, d.op, d.fs⟩ := ⟨h.one, h.wf, h.sure⟩
          obtain ⟨n2, h2⟩ := (fuse_does d (Int.tmod (kpN (acts[j].get 4).kids 0) 9) (kpN (acts[j].get 4).kids 1)).both (read_does ⟨d.dn, maxI (Int.tmod (kpN (acts[j].get 4).kids 0) 9) 1, kpN (acts[j].get 4).kids 1, d.op, d.fs⟩ fK)
          refine ⟨sure, _, a1, n0 + n1 + n2, fun m hm => ?_⟩
          obtain ⟨q1, q2⟩ := h0 m (by omega)
          obtain ⟨q3, q4⟩ := h1 m (by omega)
          obtain ⟨q5, q6⟩ := h2 m (by omega)
          have q3' : den Tryd.prog G0 ents m i_L23_number none [A.t (T.node (acts[j].get 4).kids), A.t (T.int 0)] = _ := q3
          have q4' : den Tryd.prog G0 ents m i_L23_number none [A.t (T.node (acts[j].get 4).kids), A.t (T.int 1)] = _ := q4
          rw [q_L23_DiskKeeps_c1]
          simp only [S0, S9, S1, S2, if_true, if_false, at_get hlt, q1, q2, q3', q4', q5, q6, Bool.not_true, hj1, k2, show ¬ (2 : Int) = 0 by omega, show ¬ (2 : Int) = 1 by omega, fK_eq]
          rw [if_pos (by omega), if_pos (by omega), tail_eq a1.fin]
        · obtain ⟨a1, a2, a3, a4⟩ := wk_ok h (acts[j].get 4).kids
          obtain ⟨n1, h1⟩ := (wake_does d (acts[j].get 4).kids (by omega) h.one.ok h.wf).both (read_does (wkD d (acts[j].get 4).kids) fK)
          refine ⟨_, _, a1, n0 + n1, fun m hm => ?_⟩
          obtain ⟨q1, q2⟩ := h0 m (by omega)
          obtain ⟨q3, q4⟩ := h1 m (by omega)
          rw [q_L23_DiskKeeps_c1]
          simp only [S0, S9, S1, S2, if_true, if_false, at_get hlt, q1, q2, q3, q4, Bool.not_true, hj1, k0, k1, k2, fK_eq]
          rw [if_pos (by omega), if_pos (by omega), if_pos (by omega), if_pos ⟨⟨⟨by omega, by omega⟩, trivial⟩, by omega⟩, a3, seq_self]
          rw [tail_eq a1.fin]
          simp only [Bool.not_true, if_true]
          by_cases e1 : rdE d fK = 0
          · obtain ⟨b1, b2⟩ := a4 e1
            rw [if_pos e1, if_pos (by omega), if_pos ⟨⟨⟨by omega, by omega⟩, trivial⟩, by omega⟩, b2, seq_self]
            simp
          · rw [if_neg e1]
theorem keep_loop (acts : List T) (hl : acts.length ≤ 60) : ∀ (k j : Nat) (sure : ByteArray) (d : Dk), j + k = acts.length → KInv sure d →
    Dz i_L23_DiskKeeps (some p_L23_DiskKeeps_c1) [A.t (T.node acts), A.t (T.str sure), A.t (T.int j), A.t (T.bool d.dn), A.t (T.int d.lf), A.t (T.int d.kp), A.t (T.int d.op), A.t (T.node d.fs)] (2, []) := by
  intro k
  induction k with
  | zero =>
    intro j sure d hj h
    refine Does.now fun m => ?_
    rw [q_L23_DiskKeeps_c1]
    simp only [S0, S9, S1, S2, if_true, if_false]
    repeat (first | rw [if_pos (by omega)] | rw [if_neg (by omega)])
  | succ k ih =>
    intro j sure d hj h
    obtain ⟨sure', d', h', n0, h0⟩ := keep_round acts hl j (by omega) sure d h
    obtain ⟨n1, h1⟩ := ih (j + 1) sure' d' (by omega) h'
    exact Does.of (n0 + n1) fun m hm => (h0 m (by omega)).trans (h1 m (by omega))
theorem awake_does : Dz i_L23_awake none [] (1, [A.t (T.bool true)]) := run_of 100 fun n => by kernel_rfl
theorem law_does (x : T) : Dz i_L23_DiskKeeps none [A.t x] (1, [A.t (T.bool true)]) := by
  by_cases hl : x.kids.length ≤ 60
  · have hnew : Dz i_disk_New none [] (1, [A.t (T.bool false), A.t (T.int 0), A.t (T.int 0), A.t (T.int 0), A.t (T.node [])]) := Does.now fun m => by
      rw [q_disk_New]
      simp only [S0, S9, S1, S2, if_true, if_false]
    obtain ⟨n0, h0⟩ := hnew.both awake_does
    obtain ⟨n1, h1⟩ := keep_loop x.kids hl x.kids.length 0 ByteArray.empty ⟨false, 0, 0, 0, []⟩ (by omega) ⟨.inl rfl, fun s => f0_ok, rfl⟩
    refine Does.of (n0 + n1) fun m hm => ?_
    have q : den Tryd.prog G0 ents m i_L23_DiskKeeps (some p_L23_DiskKeeps_c1) [A.t (T.node x.kids), A.t (T.str ⟨List.toArray []⟩), A.t (T.int 0), A.t (T.bool false), A.t (T.int 0), A.t (T.int 0), A.t (T.int 0), A.t (T.node [])] = _ := h1 m (by omega)
    rw [q_L23_DiskKeeps]
    simp only [S0, S9, S1, S2, if_true, if_false, (h0 m (by omega)).1, (h0 m (by omega)).2, q]
    repeat (first | rw [if_pos (by omega)] | rw [if_neg (by omega)])
  · obtain ⟨n0, h0⟩ := awake_does
    refine Does.of n0 fun m hm => ?_
    rw [q_L23_DiskKeeps]
    simp only [S0, S9, S1, S2, if_true, if_false, h0 m hm]
    repeat (first | rw [if_pos (by omega)] | rw [if_neg (by omega)])
end Go.Proofs.YtigbgcopidghfaaDoorDK
