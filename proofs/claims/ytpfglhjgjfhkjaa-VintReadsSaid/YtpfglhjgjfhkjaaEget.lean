/- The walk of the reference's Get (layer 3). Condition: the place lies in the text. -/
import Derived.Test.YtpfglhjgjfhkjaaProg
import Derived.WalkKit
import Derived.Below
import Derived.Deep.Draws
import Derived.Deep.LoopGhost
import Derived.Lib.Hide
import Derived.RowKit3
import Derived.Test.YtpfglhjgjfhkjaaWWords
import Derived.Test.YtpfglhjgjfhkjaaWMore
import Derived.Test.YtpfglhjgjfhkjaaMget
namespace Go.Proofs.Ytpfglhjgjfhkjaa.Eget
set_option linter.unusedVariables false
set_option linter.unusedSimpArgs false
open Go.RowKit Go.Proofs.YtpfglhjgjfhkjaaW.PrintWords Go.Proofs.YtpfglhjgjfhkjaaW.PrintMore Go.Proofs.Ytpfglhjgjfhkjaa.Mget

set_option maxRecDepth 100000 in
theorem get_err (s : ByteArray) (n e0 : Int) (w : World) (he : e0 ≠ 0) :
    Calls Try.prog 33 #[.agg #[.string s, .int .i64 n, .int .i64 e0]] w fun e w' => e = .returned (.tuple #[.agg #[.string s, .int .i64 n, .int .i64 e0], .int .u64 0]) ∧ Below w.heap.size w w' := by
  have h1 : ((e0 : Int) != 0) = true := bne_iff_ne.mpr he
  clear he
  go_enter Try.func33, Try.ntmps33
  go_wp2
  exact bodyPost_ret (v := .tuple #[.agg #[.string s, .int .i64 n, .int .i64 e0], .int .u64 0]) (by simp [results, Try.results33, go_sem]) rfl ⟨rfl, ((Below.refl _ _).alloc (Nat.le_refl _) _).alloc (by simp) _⟩

set_option maxRecDepth 100000 in
theorem fail_any (s : ByteArray) (n e0 a b : Int) (w : World) :
    Calls Try.prog 54 #[.agg #[.string s, .int .i64 n, .int .i64 e0], .int .i64 a, .int .i64 b] w fun e w' => e = .returned (.agg #[.string s, .int .i64 a, .int .i64 b]) ∧ Below w.heap.size w w' := by
  go_enter Try.func54, Try.ntmps54
  go_wp2
  exact bodyPost_ret (v := .agg #[.string s, .int .i64 a, .int .i64 b]) (by simp [results, Try.results54, go_sem]) rfl ⟨rfl, ((Below.refl _ _).alloc (Nat.le_refl _) _).alloc (by simp) _⟩

theorem results_cell_tmp {P : Program} {fn : Func} {p q : Tmp} {ty : TypeId} (h : fn.results = #[.cell p ty, .tmp q]) (tmps : Array Value) (w : World) (g : Nat) (t : TypeId) (cs : Array Value) (fr : Nat × Nat) (d : TypeDesc)
    (hp : tmps.getD p undef = .pointer (some ⟨g, 0, none⟩)) (hg : w.heap[g]? = some (.cells cs t fr))
    (hu : P.underlying ty = some d) (hd : (match d with | .struct _ | .array _ _ => true | _ => false) = true) (hi : (P.info? ty).map (·.size) = some cs.size) :
    (results fn tmps).run P w = .ok (.tuple #[.agg cs, tmps.getD q undef]) w := by
  have hp' : tmps[p]?.getD undef = .pointer (some ⟨g, 0, none⟩) := by simpa using hp
  simp [results, h, hp', asAddr, run_loadVar_row w g t ty cs fr d hg hu hd hi]
theorem below_setRow {B : Nat} {a w : World} (h : Below B a w) (g : Nat) (hg : B ≤ g) (cs : Array Value) : Below B a (w.setRow g cs) :=
  ⟨h.os, h.tape, h.output, by simpa using h.size, fun i hi => (setRow_other w g i cs (by omega)).trans (h.block i hi)⟩
/-- the struct that is answered: what is known of its block behind a call -/
structure Res (w w1 : World) : Prop where
  blk : w1.heap[w.heap.size + 1]? = some (.cells #[.string ⟨#[]⟩, .int .i64 0, .int .i64 0] 52 (0, 0))
  bel : Below w.heap.size w w1
theorem Res.start (w : World) (x y z : Value) : Res w ((w.alloc (.cells #[x, y, z] 52)).alloc (.cells #[.string ⟨#[]⟩, .int .i64 0, .int .i64 0] 52)) :=
  ⟨heap_alloc2_new _ _ _, ((Below.refl _ _).alloc (Nat.le_refl _) _).alloc (by simp) _⟩
theorem Res.below {w w1 w2 : World} (h : Res w w1) (hb : Below w1.heap.size w1 w2) : Res w w2 :=
  ⟨(hb.block _ (Array.getElem?_eq_some_iff.1 h.blk).1).trans h.blk, below_then h.bel h.bel.size hb⟩
theorem one3 (s : ByteArray) (a b : Int) : (#[Value.string s, .int .i64 a, .int .i64 b]).all (·.oneCell') = true := by simp [Value.oneCell']
theorem head_pos {rest : ByteArray} {c : UInt8} (hm : rest.data.toList.head? = some c) : ∃ h : 0 < rest.size, rest[0] = c := by
  have hp : 0 < rest.data.toList.length := by
    rcases hl : rest.data.toList with _ | ⟨a, l⟩
    · rw [hl] at hm; simp at hm
    · simp
  have hp2 : 0 < rest.size := by simpa using hp
  rw [List.head?_eq_getElem?, List.getElem?_eq_getElem hp] at hm
  injection hm with hm
  exact ⟨hp2, hm⟩

set_option maxRecDepth 100000 in
theorem get_mark (s : ByteArray) (n : Int) (w : World) (h0 : 0 ≤ n) (h1 : n ≤ (s.size : Int)) (hm : (s.extract n.toNat s.size).data.toList.head? = some 128) :
    Calls Try.prog 33 #[.agg #[.string s, .int .i64 n, .int .i64 0]] w fun e w' => e = .returned (.tuple #[.agg #[.string s, .int .i64 n, .int .i64 2], .int .u64 0]) ∧ Below w.heap.size w w' := by
  have hz : (s.extract n.toNat s.size).size = s.size - n.toNat := by simp
  have HM := Lib.hid hm
  have HZ := Lib.hid hz
  clear hm hz
  go_enter Try.func33, Try.ntmps33
  go_upto_region 4 with (fail)
  generalize s.extract n.toNat s.size = rest at *
  obtain ⟨hp, hb⟩ := head_pos HM.out
  have hb2 : (((rest[0]).toNat : Int) == 128) = true := by rw [hb]; rfl
  clear hb
  have HR := Res.start w (.string s) (.int .i64 n) (.int .i64 0)
  go_wp2_with (first | (go_at_call 54; refine (fail_any _ _ _ _ _ _).mono ?_; rintro e w1 ⟨rfl, hB⟩; replace HR := HR.below hB; clear hB) | (refine wpList_store_row rfl 52 (.tmp 2) (.tmp _) rfl (w.heap.size + 1) #[.string s, .int .i64 n, .int .i64 2] rfl rfl 52 _ HR.blk (by kernel_rfl) (by rfl) (one3 _ _ _) ?_))
  refine bodyPost_ret (v := .tuple #[.agg #[.string s, .int .i64 n, .int .i64 2], .int .u64 0]) ?_ rfl ⟨rfl, below_setRow HR.bel _ (by omega) _⟩
  exact (results_cell_tmp (p := 2) (q := 3) (ty := 52) (by rfl) _ _ (w.heap.size + 1) 52 _ _ _ (by rfl) (setRow_heap _ _ _ _ _ _ HR.blk) Try.underlying52 rfl (by kernel_rfl)).trans rfl

set_option maxHeartbeats 1000000 in
set_option maxRecDepth 100000 in
theorem get_rest (s : ByteArray) (n : Int) (w : World) (h0 : 0 ≤ n) (h1 : n ≤ (s.size : Int)) (hs : s.size ≤ 140737488355328) (hm : (s.extract n.toNat s.size).data.toList.head? ≠ some 128)
    (e0 : Int) (m : Nat) (x q : Int) (hR : scanE (s.extract n.toNat s.size).data.toList = (e0, m, x)) (hq : q = if e0 = 0 then n + m else n) :
    Calls Try.prog 33 #[.agg #[.string s, .int .i64 n, .int .i64 0]] w fun e w' => e = .returned (.tuple #[.agg #[.string s, .int .i64 q, .int .i64 e0], .int .u64 x]) ∧ Below w.heap.size w w' := by
  have HRR := Lib.hid hR
  have HQ := Lib.hid hq
  clear hR hq
  have hz : (s.extract n.toNat s.size).size = s.size - n.toNat := by simp
  have HM := Lib.hid hm
  have HZ := Lib.hid hz
  clear hm hz
  go_enter Try.func33, Try.ntmps33
  go_upto_region 4 with (fail)
  generalize s.extract n.toNat s.size = rest at *
  have hlen : rest.data.toList.length = rest.size := by simp
  have hle := lastOf_le rest.data.toList
  have HB := fun j h => last_before rest.data.toList j h
  have HN := last_end rest.data.toList
  have HLB := Lib.hid HB
  have HLE := Lib.hid HN
  have HLEN := Lib.hid hlen
  clear HB HN
  obtain ⟨J, hJ⟩ : ∃ J, J = lastOf rest.data.toList := ⟨_, rfl⟩
  rw [← hJ, hlen] at hle
  have HJ := Lib.hid hJ
  clear hJ hlen
  have hz : rest.size ≤ 140737488355328 := by have := HZ.out; omega
  have HR := Res.start w (.string s) (.int .i64 n) (.int .i64 0)
  have hfirst : (0 < rest.size → ∀ h : 0 < rest.size, (rest[0]).toNat ≠ 128) := fun _ h hc => by
    have h' : 0 < rest.data.toList.length := by simpa using h
    apply HM.out
    rw [List.head?_eq_getElem?, List.getElem?_eq_getElem h']
    congr 1
    exact UInt8.toNat_inj.1 hc
  have HF := Lib.hid hfirst
  clear hfirst
  by_cases hp : 0 < rest.size
  · have hf : ((((rest[0]).toNat : Nat) : Int) == 128) = false := beq_eq_false_iff_ne.mpr (by have := HF.out hp hp; omega)
    go_wp2
    go_loop [5] (fun v => ∃ j : Nat, j ≤ J ∧ v = .int .i64 j) (fun v => J - (intOf v).toNat)
    case atStart => exact ⟨0, by omega, rfl⟩
    case round =>
      obtain ⟨j, hj, rfl⟩ := hrel
      by_cases hlt : j < J
      · obtain ⟨hj1, hj2, hj3⟩ := HLB.out j (by rw [← HJ.out]; exact hlt)
        have hj4 : j < rest.size := by rw [HLEN.out] at hj1; exact hj1
        have hj5 : 128 ≤ (rest[j]).toNat := hj3
        clear hj1 hj3
        go_wp2
        go_round
        case rel => exact ⟨j + 1, by omega, by go_num⟩
        case measure => simp [intOf]; omega
      · obtain rfl : j = J := by omega
        by_cases h10 : j = 10
        · subst h10
          by_cases hsz : 10 < rest.size
          all_goals
            have hE : scanE rest.data.toList = (2, 0, 0) := by
              unfold scanE
              rw [if_neg HM.out, ← HJ.out, HLEN.out, if_pos rfl]
            have hE2 := HRR.out
            rw [hE] at hE2
            simp only [Prod.mk.injEq] at hE2
            obtain ⟨rfl, rfl, rfl⟩ := hE2
            have hq := HQ.out
            rw [if_neg (by decide)] at hq
            clear hE HQ HRR
            obtain rfl : n = q := hq.symm
            clear hq
            go_wp2_with (first | (go_at_call 54; refine (fail_any _ _ _ _ _ _).mono ?_; rintro e w1 ⟨rfl, hB⟩; replace HR := HR.below hB; clear hB) | (refine wpList_store_row rfl 52 (.tmp 2) (.tmp _) rfl (w.heap.size + 1) #[.string s, .int .i64 n, .int .i64 2] rfl rfl 52 _ HR.blk (by kernel_rfl) (by rfl) (one3 _ _ _) ?_))
            refine bodyPost_ret (v := .tuple #[.agg #[.string s, .int .i64 n, .int .i64 2], .int .u64 0]) ?_ rfl ⟨rfl, below_setRow HR.bel _ (by omega) _⟩
            exact (results_cell_tmp (p := 2) (q := 3) (ty := 52) (by rfl) _ _ (w.heap.size + 1) 52 _ _ _ (by rfl) (setRow_heap _ _ _ _ _ _ HR.blk) Try.underlying52 rfl (by kernel_rfl)).trans rfl
        · by_cases hsz : j = rest.size
          · have he : ((j : Int) == (rest.size : Int)) = true := by rw [hsz]; simp
            have he10 : ((j : Int) == 10) = false := beq_eq_false_iff_ne.mpr (by omega)
            have HSZ := Lib.hid hsz
            have hnl : ¬ j < rest.size := by omega
            clear hsz
            have hE : scanE rest.data.toList = (3, 0, 0) := by
              unfold scanE
              rw [if_neg HM.out, ← HJ.out, HLEN.out, if_neg h10, if_pos HSZ.out]
            have hE2 := HRR.out
            rw [hE] at hE2
            simp only [Prod.mk.injEq] at hE2
            obtain ⟨rfl, rfl, rfl⟩ := hE2
            have hq := HQ.out
            rw [if_neg (by decide)] at hq
            clear hE HQ HRR
            obtain rfl : n = q := hq.symm
            clear hq
            go_wp2_with (first | (go_at_call 54; refine (fail_any _ _ _ _ _ _).mono ?_; rintro e w1 ⟨rfl, hB⟩; replace HR := HR.below hB; clear hB) | (refine wpList_store_row rfl 52 (.tmp 2) (.tmp _) rfl (w.heap.size + 1) #[.string s, .int .i64 n, .int .i64 3] rfl rfl 52 _ HR.blk (by kernel_rfl) (by rfl) (one3 _ _ _) ?_))
            refine bodyPost_ret (v := .tuple #[.agg #[.string s, .int .i64 n, .int .i64 3], .int .u64 0]) ?_ rfl ⟨rfl, below_setRow HR.bel _ (by omega) _⟩
            exact (results_cell_tmp (p := 2) (q := 3) (ty := 52) (by rfl) _ _ (w.heap.size + 1) 52 _ _ _ (by rfl) (setRow_heap _ _ _ _ _ _ HR.blk) Try.underlying52 rfl (by kernel_rfl)).trans rfl
          · have hjs : j < rest.size := by omega
            have hb : (rest[j]'hjs).toNat < 128 := by
              have h := HLE.out (by rw [← HJ.out]; omega) (by rw [← HJ.out, HLEN.out]; omega)
              have he : rest.data.toList[lastOf rest.data.toList]'(by rw [← HJ.out, HLEN.out]; omega) = rest[j]'hjs := by
                simp only [← HJ.out]; rfl
              rw [he] at h
              exact h
            have he : ((j : Int) == (rest.size : Int)) = false := beq_eq_false_iff_ne.mpr (by omega)
            have he10 : ((j : Int) == 10) = false := beq_eq_false_iff_ne.mpr (by omega)
            have hd0 : rest.data.toList.getD 0 0 = rest[0] := by
              have h' : 0 < rest.data.toList.length := by simpa using hp
              rw [List.getD_eq_getElem?_getD, List.getElem?_eq_getElem h']; rfl
            have HD0 := Lib.hid hd0
            clear hd0
            have HJS := Lib.hid hsz
            clear hsz
            by_cases h9 : j = 9 ∧ 129 < (rest[0]).toNat
            · obtain ⟨rfl, h129⟩ := h9
              have hE : scanE rest.data.toList = (2, 0, 0) := by
                unfold scanE
                rw [if_neg HM.out, ← HJ.out, HLEN.out, if_neg h10, if_neg HJS.out, if_pos ⟨rfl, by rw [HD0.out]; exact h129⟩]
              have hE2 := HRR.out
              rw [hE] at hE2
              simp only [Prod.mk.injEq] at hE2
              obtain ⟨rfl, rfl, rfl⟩ := hE2
              have hq := HQ.out
              rw [if_neg (by decide)] at hq
              clear hE HQ HRR
              obtain rfl : n = q := hq.symm
              clear hq
              go_wp2_with (first | (go_at_call 54; refine (fail_any _ _ _ _ _ _).mono ?_; rintro e w1 ⟨rfl, hB⟩; replace HR := HR.below hB; clear hB) | (refine wpList_store_row rfl 52 (.tmp 2) (.tmp _) rfl (w.heap.size + 1) #[.string s, .int .i64 n, .int .i64 2] rfl rfl 52 _ HR.blk (by kernel_rfl) (by rfl) (one3 _ _ _) ?_))
              refine bodyPost_ret (v := .tuple #[.agg #[.string s, .int .i64 n, .int .i64 2], .int .u64 0]) ?_ rfl ⟨rfl, below_setRow HR.bel _ (by omega) _⟩
              exact (results_cell_tmp (p := 2) (q := 3) (ty := 52) (by rfl) _ _ (w.heap.size + 1) 52 _ _ _ (by rfl) (setRow_heap _ _ _ _ _ _ HR.blk) Try.underlying52 rfl (by kernel_rfl)).trans rfl
            · have hE : scanE rest.data.toList = (0, j + 1, valG (rest.data.toList.take (j + 1))) := by
                unfold scanE
                rw [if_neg HM.out, ← HJ.out, HLEN.out, if_neg h10, if_neg HJS.out, if_neg (by rw [HD0.out]; exact h9)]
              have HE := Lib.hid hE
              clear hE
              have hE2 := HRR.out
              rw [HE.out] at hE2
              simp only [Prod.mk.injEq] at hE2
              obtain ⟨rfl, rfl, rfl⟩ := hE2
              have hq := HQ.out
              rw [if_pos rfl] at hq
              clear HE HQ HRR
              have HQ := Lib.hid hq
              clear hq
              have hcase : (((j : Int) == 9) = true ∧ decide ((129 : Int) < ((rest[0]).toNat : Int)) = false) ∨ ((j : Int) == 9) = false := by
                by_cases hj9 : j = 9
                · exact .inl ⟨beq_iff_eq.mpr (by omega), decide_eq_false (by omega)⟩
                · exact .inr (beq_eq_false_iff_ne.mpr (by omega))
              clear h9
              rcases hcase with ⟨he9, h129⟩ | he9
              all_goals
                go_wp2
                go_loop [6, 7] (fun x v => ∃ i : Nat, i ≤ j + 1 ∧ v = .int .i64 i ∧ x = .int .u64 (valG (rest.data.toList.take i))) (fun _ v => j + 1 - (intOf v).toNat)
                case atStart => exact ⟨0, by omega, rfl, rfl⟩
                case round =>
                  obtain ⟨i, hi, rfl, rfl⟩ := hrel
                  by_cases hij : i ≤ j
                  · have hil : i < rest.data.toList.length := by rw [HLEN.out]; omega
                    have hir : i < rest.size := by omega
                    have hv := valG_succ rest.data.toList i hil
                    have hg : (rest.data.toList[i]'hil) = rest[i]'hir := rfl
                    rw [hg] at hv
                    have HV := Lib.hid hv
                    clear hv hg hil
                    generalize valG (rest.data.toList.take i) = y at *
                    go_wp2
                    go_round
                    case rel => exact ⟨i + 1, by omega, by go_num, by rw [HV.out, ← grp_walk]⟩
                    case measure => simp [intOf]; omega
                  · obtain rfl : i = j + 1 := by omega
                    have hq := HQ.out
                    go_wp2_with (refine wpList_store_row rfl 52 (.tmp 2) (.tmp _) rfl (w.heap.size + 1) #[.string s, .int .i64 (n + (j : Int) + 1), .int .i64 0] rfl rfl 52 _ HR.blk (by kernel_rfl) (by rfl) (one3 _ _ _) ?_)
                    refine bodyPost_ret (v := .tuple #[.agg #[.string s, .int .i64 (n + (j : Int) + 1), .int .i64 0], .int .u64 (valG (rest.data.toList.take (j + 1)))]) ?_ rfl ⟨by rw [Int.add_assoc], below_setRow HR.bel _ (by omega) _⟩
                    exact (results_cell_tmp (p := 2) (q := 3) (ty := 52) (by rfl) _ _ (w.heap.size + 1) 52 _ _ _ (by rfl) (setRow_heap _ _ _ _ _ _ HR.blk) Try.underlying52 rfl (by kernel_rfl)).trans rfl
  · have hj0 : J = 0 := by omega
    have hz0 : rest.size = 0 := by omega
    have hE : scanE rest.data.toList = (3, 0, 0) := by
      unfold scanE
      rw [if_neg HM.out, ← HJ.out, HLEN.out, if_neg (by omega), if_pos (by omega)]
    have hE2 := HRR.out
    rw [hE] at hE2
    simp only [Prod.mk.injEq] at hE2
    obtain ⟨rfl, rfl, rfl⟩ := hE2
    have hq := HQ.out
    rw [if_neg (by decide)] at hq
    clear hE HQ HRR
    obtain rfl : n = q := hq.symm
    clear hq hj0
    have hz1 : ((0 : Int) == (rest.size : Int)) = true := by rw [hz0]; rfl
    have hz2 : (0 == rest.size) = true := by rw [hz0]; rfl
    clear hz0
    go_wp2
    go_loop [5] (fun v => v = .int .i64 0) (fun _ => 0)
    case atStart => exact rfl
    case round =>
      obtain rfl := hrel
      go_wp2_with (first | (go_at_call 54; refine (fail_any _ _ _ _ _ _).mono ?_; rintro e w1 ⟨rfl, hB⟩; replace HR := HR.below hB; clear hB) | (refine wpList_store_row rfl 52 (.tmp 2) (.tmp _) rfl (w.heap.size + 1) #[.string s, .int .i64 n, .int .i64 3] rfl rfl 52 _ HR.blk (by kernel_rfl) (by rfl) (one3 _ _ _) ?_))
      refine bodyPost_ret (v := .tuple #[.agg #[.string s, .int .i64 n, .int .i64 3], .int .u64 0]) ?_ rfl ⟨rfl, below_setRow HR.bel _ (by omega) _⟩
      exact (results_cell_tmp (p := 2) (q := 3) (ty := 52) (by rfl) _ _ (w.heap.size + 1) 52 _ _ _ (by rfl) (setRow_heap _ _ _ _ _ _ HR.blk) Try.underlying52 rfl (by kernel_rfl)).trans rfl

end Go.Proofs.Ytpfglhjgjfhkjaa.Eget
