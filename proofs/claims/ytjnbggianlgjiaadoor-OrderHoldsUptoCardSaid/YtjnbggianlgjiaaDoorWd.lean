/- Which texts are names: walked. -/
import Derived.Test.YtjnbggianlgjiaaDoorVmC
import Derived.Test.YtjnbggianlgjiaaDoorProg
import Derived.WalkKit
import Derived.Below
import Derived.Lib.OthersKept
import Derived.Lib.SpaceUEq
import Derived.Lib.RuneCount
import Derived.Test.YtjnbggianlgjiaaDoorVmA
import Derived.Test.YtjnbggianlgjiaaDoorVmZq
namespace Go.Proofs.YtjnbggianlgjiaaDoorWD
open Go Go.Proofs.YtjnbggianlgjiaaDoorVM Go.Proofs
def G0 : List (Nat × TypeId × T) := [(0, 102, .node (wordsL.map T.str))]
def e0 : Entry := { fid := 51, ins := ⟨[(0, .v 9)], []⟩, outs := ⟨[(0, .v 3)], []⟩, cuts := [([false, true, false, true], ⟨⟨[(0, .v 9), (5, .v 102), (6, .v 3)], []⟩, [(2, ⟨[], []⟩), (1, ⟨[(2, .v 3)], []⟩)]⟩)] }
def ents : List Entry := [e0]
def i_name_Word : Nat := 0
def p_name_Word_c1 : List Bool := [false, true, false, true]
end Go.Proofs.YtjnbggianlgjiaaDoorWD
set_option linter.unusedVariables false
set_option maxRecDepth 100000
namespace Go.Proofs.YtjnbggianlgjiaaDoorWD
open Go Go.Proofs.YtjnbggianlgjiaaDoorVM Go.Proofs
theorem q_name_Word (n : Nat) (x0 : T) : den Tryd.prog G0 ents (Nat.succ n) i_name_Word none [A.t x0] =
  (Option.bind (den Tryd.prog G0 ents n i_name_Word (some p_name_Word_c1) [(A.t (T.str (T.txt x0))), (A.t (T.node [(T.str (ByteArray.mk (List.toArray [97, 110, 121]))), (T.str (ByteArray.mk (List.toArray [98, 111, 111, 108]))), (T.str (ByteArray.mk (List.toArray [99, 111, 109, 112, 117, 116, 101, 100]))), (T.str (ByteArray.mk (List.toArray [102, 97, 108, 115, 101]))), (T.str (ByteArray.mk (List.toArray [105, 110, 116]))), (T.str (ByteArray.mk (List.toArray [110, 111, 110, 101]))), (T.str (ByteArray.mk (List.toArray [114, 101, 115, 111, 117, 114, 99, 101]))), (T.str (ByteArray.mk (List.toArray [115, 116, 114, 105, 110, 103]))), (T.str (ByteArray.mk (List.toArray [116, 114, 117, 101])))])), (A.t (T.int (0 : Int)))]) (fun v0 => (bif (Nat.beq v0.1 2) then (some (1, [(A.t (T.int (0 : Int)))])) else (bif (Nat.beq v0.1 1) then (some (1, [(A.t (T.int (T.num (A.tree (aAt v0.2 0)))))])) else none)))) := by kernel_rfl
theorem q_name_Word_c1 (n : Nat) (x0 x1 x2 : T) : den Tryd.prog G0 ents (Nat.succ n) i_name_Word (some p_name_Word_c1) [A.t x0, A.t x1, A.t x2] =
  (bif (decide ((T.num x2) < (9 : Int))) then (bif (Bool.and (decide ((0 : Int) ≤ (T.num x2))) (decide ((T.num x2) < (9 : Int)))) then (bif (seqB (T.txt (T.get x1 (Int.toNat (T.num x2)))) (T.txt x0)) then (some (1, [(A.t (T.int (IntKind.wrap IntKind.i64 ((T.num x2) + (1 : Int)))))])) else (den Tryd.prog G0 ents n i_name_Word (some p_name_Word_c1) [(A.t (T.str (T.txt x0))), (A.t x1), (A.t (T.int (IntKind.wrap IntKind.i64 ((T.num x2) + (1 : Int)))))])) else none) else (some (2, []))) := by kernel_rfl
end Go.Proofs.YtjnbggianlgjiaaDoorWD
namespace Go.Proofs.YtjnbggianlgjiaaDoorWD
open Go Go.Proofs.YtjnbggianlgjiaaDoorVM Go.RowKit
set_option linter.unusedVariables false
set_option linter.unusedSimpArgs false
theorem orders : Tryd.prog.follows .mixedOrders = true := by kernel_rfl
theorem entered : ents.all (fun e => entersB Tryd.prog e.fid) = true := by kernel_rfl
theorem noPrims : ents.all (fun e => e.prim.isNone) = true := by kernel_rfl
theorem word_loop (s : ByteArray) (x1 : T) (hx : ∀ j, j < 9 → T.txt (T.get x1 j) = wordsL.getD j ⟨#[]⟩) : ∀ (k j : Nat), j + k = 9 →
    if (wordsL.drop j).any (fun w => seqB w s) then ∃ i : Nat, Does Tryd.prog G0 ents i_name_Word (some p_name_Word_c1) [A.t (T.str s), A.t x1, A.t (T.int j)] (1, [A.t (T.int (i + 1 : Nat))])
    else Does Tryd.prog G0 ents i_name_Word (some p_name_Word_c1) [A.t (T.str s), A.t x1, A.t (T.int j)] (2, []) := by
  have hl : wordsL.length = 9 := rfl
  intro k
  induction k with
  | zero =>
    intro j hj
    rw [List.drop_of_length_le (by omega)]
    refine Does.now fun m => ?_
    rw [q_name_Word_c1]
    simp only [num_int]
    rw [decide_eq_false (by omega)]
    rfl
  | succ k ih =>
    intro j hj
    have hlt : j < wordsL.length := by omega
    have hw : IntKind.i64.wrap ((j : Int) + 1) = ((j + 1 : Nat) : Int) := by rw [w64 (by omega) (by omega)]; rfl
    have hxj : T.txt (T.get x1 j) = wordsL[j] := by rw [hx j (by omega)]; simp [List.getD, hlt]
    have he : ∀ m, den Tryd.prog G0 ents (Nat.succ m) i_name_Word (some p_name_Word_c1) [A.t (T.str s), A.t x1, A.t (T.int j)] = bif seqB wordsL[j] s then some (1, [A.t (T.int (j + 1 : Nat))]) else den Tryd.prog G0 ents m i_name_Word (some p_name_Word_c1) [A.t (T.str s), A.t x1, A.t (T.int (j + 1 : Nat))] := by
      intro m
      rw [q_name_Word_c1]
      simp only [num_int, txt_str, Int.toNat_natCast, hxj, hw]
      rw [decide_eq_true (show (j : Int) < 9 by omega), decide_eq_true (show (0 : Int) ≤ (j : Int) by omega)]
      rfl
    rw [List.drop_eq_getElem_cons hlt, List.any_cons]
    cases hb : seqB wordsL[j] s with
    | true =>
      rw [Bool.true_or, if_pos rfl]
      exact ⟨j, Does.now fun m => by rw [he, hb]; rfl⟩
    | false =>
      rw [Bool.false_or]
      have h := ih (j + 1) (by omega)
      split at h
      · rename_i h1
        rw [if_pos h1]
        obtain ⟨i, h2⟩ := h
        exact ⟨i, Does.next h2 fun m => by rw [he, hb]; rfl⟩
      · rename_i h1
        rw [if_neg h1]
        exact Does.next h fun m => by rw [he, hb]; rfl
theorem word_does (s : ByteArray) : ∃ k : Int, Does Tryd.prog G0 ents i_name_Word none [A.t (T.str s)] (1, [A.t (T.int k)]) ∧ decide (k ≠ 0) = wordsL.any fun w => seqB w s := by
  have hx : ∀ j, j < 9 → T.txt (T.get (T.node (wordsL.map T.str)) j) = wordsL.getD j ⟨#[]⟩ := by
    intro j hj
    have : j = 0 ∨ j = 1 ∨ j = 2 ∨ j = 3 ∨ j = 4 ∨ j = 5 ∨ j = 6 ∨ j = 7 ∨ j = 8 := by omega
    rcases this with rfl | rfl | rfl | rfl | rfl | rfl | rfl | rfl | rfl <;> rfl
  have h := word_loop s (T.node (wordsL.map T.str)) hx 9 0 (by omega)
  rw [List.drop_zero] at h
  cases hb : wordsL.any fun w => seqB w s with
  | true =>
    rw [hb, if_pos rfl] at h
    obtain ⟨i, n0, h0⟩ := h
    refine ⟨(i + 1 : Nat), Does.of n0 fun m hm => ?_, decide_eq_true (by omega)⟩
    have q : den Tryd.prog G0 ents m i_name_Word (some p_name_Word_c1) [A.t (T.str s), A.t (T.node (wordsL.map T.str)), A.t (T.int 0)] = _ := h0 m hm
    rw [q_name_Word]
    exact (congrArg (fun o => Option.bind o _) q).trans rfl
  | false =>
    rw [hb, if_neg (by simp)] at h
    obtain ⟨n0, h0⟩ := h
    refine ⟨0, Does.of n0 fun m hm => ?_, by rfl⟩
    have q : den Tryd.prog G0 ents m i_name_Word (some p_name_Word_c1) [A.t (T.str s), A.t (T.node (wordsL.map T.str)), A.t (T.int 0)] = _ := h0 m hm
    rw [q_name_Word]
    exact (congrArg (fun o => Option.bind o _) q).trans rfl
def Laid (W : World) : Prop := ∀ g τ t, (g, τ, t) ∈ G0 → ∃ c el fr s, W.heap[g]? = some (.cells c el fr) ∧ csz Tryd.prog τ = some s ∧ PRep Tryd.prog W (fun _ => True) τ t (c.toList.take s) ∧ s ≤ c.size
theorem int_of {ok : Nat → Prop} {W : World} {P : Program} {τ : TypeId} {k : IntKind} {n : Int} {us : List Value} (hu : P.underlying τ = some (.int k)) (h : PVs P W ok [τ] [.int n] us) : us = [.int k n] := by
  match us, h with
  | [v], ⟨⟨cs, h1, h2⟩, _⟩ =>
    rw [if_neg (by simp [isAggB, hu])] at h2
    subst h2
    cases h1 with
    | bool h => rw [hu] at h; cases h
    | int h => rw [hu] at h; cases h; rfl
    | str h => rw [hu] at h; cases h
    | slice h _ _ => rw [hu] at h; cases h
    | struct h _ => have := fieldsOf_agg h; obtain ⟨_, _, _, hq, _⟩ := this; rw [hu] at hq; cases hq
    | arr h _ _ => have := arrOf_agg h; obtain ⟨_, _, _, _, hq⟩ := this; rw [hu] at hq; cases hq
theorem word_calls (s : ByteArray) {W : World} (hg : Laid W) : Calls Tryd.prog 51 #[.string s] W fun e W' => ∃ k : Int, decide (k ≠ 0) = (wordsL.any fun w => seqB w s) ∧ e = .returned (.int .i64 k) ∧ Below W.heap.size W W' := by
  obtain ⟨k, hk, hd⟩ := word_does s
  obtain ⟨n, hn⟩ := hk.sem
  refine (FnOk.data (sem_ok (drawOk orders) (Go.Proofs.YtjnbggianlgjiaaDoorVM.enters_of entered) (prims_of noPrims) n 0 (e := e0) rfl) (ps := [9]) (rs := [3]) rfl rfl (by kernel_rfl) (by kernel_rfl) hg (ts := [T.str s]) (vs := [.string s]) ?_ hn).mono ?_
  · refine ⟨⟨[.string s], .str Tryd.underlying9, ?_⟩, trivial⟩
    rw [if_neg (by simp [isAggB, Tryd.underlying9])]
  · rintro x W' ⟨us, rfl, bel, hus⟩
    obtain rfl := int_of Tryd.underlying3 hus
    exact ⟨k, hd, rfl, bel⟩
theorem small_calls (c : Int) (w : World) : Calls Tryd.prog 52 #[.int .i32 c] w fun e w' => e = .returned (.bool (decide (97 ≤ c) && decide (c ≤ 122))) ∧ w' = w := by
  go_enter Tryd.func52, Tryd.ntmps52
  go_wp2
  all_goals (go_ret)
  all_goals (refine ⟨?_, rfl⟩)
  all_goals
    show Ending.returned (Value.bool _) = Ending.returned (Value.bool _)
    refine congrArg (fun b => Ending.returned (Value.bool b)) ?_
    rw [Bool.eq_iff_iff]
    simp
    try omega
theorem decode_facts (s : ByteArray) (p : Nat) (h : p < s.size) : (((s.get! p).toNat < 128 ∧ Utf8.decode s p = ((s.get! p).toNat, 1)) ∨ (128 ≤ (s.get! p).toNat ∧ 128 ≤ (Utf8.decode s p).1)) ∧ 1 ≤ (Utf8.decode s p).2 := by
  refine ⟨?_, Lib.decode_width_pos s p h⟩
  rw [Lib.decode_at]
  generalize (s.get! p).toNat = b0
  rcases Lib.decodeN_cases (s.size - p) b0 (s.get! (p + 1)).toNat (s.get! (p + 2)).toNat (s.get! (p + 3)).toNat with ⟨h1, h2⟩ | ⟨h1, _, _, h3, h2⟩ | ⟨h1, _, _, _, h3, h2⟩ | ⟨h1, h2⟩ | h2
  · exact .inl ⟨h1, h2⟩
  · right; rw [h2]; exact ⟨by omega, h3⟩
  · right; rw [h2]; exact ⟨by omega, by omega⟩
  · by_cases hb : b0 < 128
    · unfold Lib.decodeN at h1; rw [if_pos hb] at h1; simp only at h1; omega
    · exact .inr ⟨by omega, by omega⟩
  · by_cases hb : b0 < 128
    · unfold Lib.decodeN at h2; rw [if_pos hb] at h2; have := congrArg Prod.fst h2; simp only at this; omega
    · right; rw [h2]; exact ⟨by omega, by omega⟩
end Go.Proofs.YtjnbggianlgjiaaDoorWD
namespace Go.Proofs.YtjnbggianlgjiaaDoorWD
open Go Go.Proofs.YtjnbggianlgjiaaDoorVM Go.RowKit
set_option linter.unusedVariables false
set_option linter.unusedSimpArgs false
theorem iterPos_of {w : World} {k : Nat} {s : ByteArray} {p : Nat} (h : w.heap[k]? = some (.stringIter s p)) : w.iterPos k = p := by simp [World.iterPos, h]
theorem get_data (s : ByteArray) {p : Nat} (h : p < s.size) : s.get! p = s.data.toList[p]'(by rw [Array.length_toList]; exact h) := by
  have h' : p < s.data.size := h
  show s.data[p]! = _
  rw [getElem!_pos s.data p h', Array.getElem_toList]
def Fine (s : ByteArray) (p : Nat) : Prop := ∀ i, i < p → (i = 0 → small (s.get! i) = true) ∧ inner (s.get! i) = true
theorem data_len (s : ByteArray) : s.data.toList.length = s.size := by rw [Array.length_toList]; rfl
theorem nameL_all : ∀ l : List UInt8, nameL l = true → ∀ i (hi : i < l.length), (i = 0 → small l[i] = true) ∧ inner l[i] = true
  | [], h, i, hi => by simp at hi
  | c :: l, h, i, hi => by
    simp only [nameL, Bool.and_eq_true, List.all_eq_true] at h
    have hin : inner c = true := by unfold inner; rw [h.1]; rfl
    cases i with
    | zero => exact ⟨fun _ => h.1, hin⟩
    | succ i => exact ⟨fun e => by omega, h.2 _ (List.getElem_mem _)⟩
theorem nameL_of : ∀ l : List UInt8, 0 < l.length → (∀ i (hi : i < l.length), (i = 0 → small l[i] = true) ∧ inner l[i] = true) → nameL l = true
  | [], h, _ => by simp at h
  | c :: l, h, hf => by
    simp only [nameL, Bool.and_eq_true, List.all_eq_true]
    refine ⟨(hf 0 h).1 rfl, fun x hx => ?_⟩
    obtain ⟨i, hi, rfl⟩ := List.getElem_of_mem hx
    exact (hf (i + 1) (by simp; omega)).2
theorem nameL_iff (s : ByteArray) (h : 0 < s.size) : nameL s.data.toList = true ↔ Fine s s.size := by
  have hl := data_len s
  constructor
  · intro hn i hi
    rw [get_data s hi]
    exact nameL_all _ hn i (by omega)
  · intro hf
    refine nameL_of _ (by omega) fun i hi => ?_
    have := hf i (by omega)
    rw [get_data s (by omega)] at this
    exact this
theorem name_bad {s : ByteArray} (hf : ¬ Fine s s.size) (h0 : 0 < s.size) : nameB s = false := by
  have : nameL s.data.toList = false := by
    cases h : nameL s.data.toList with
    | false => rfl
    | true => exact absurd ((nameL_iff s h0).1 h) hf
  unfold nameB
  rw [this, Bool.and_false]
theorem name_none {s : ByteArray} (h : ¬ 0 < s.size) : nameB s = false := by
  have hl := data_len s
  have he : s.data.toList = [] := List.eq_nil_of_length_eq_zero (by omega)
  unfold nameB
  rw [he]
  simp [nameL]
theorem name_long {s : ByteArray} (h : 16 < s.size) : nameB s = false := by
  unfold nameB
  rw [decide_eq_false (by omega)]
  rfl
theorem name_word {s : ByteArray} (h : (wordsL.any fun w => seqB w s) = true) : nameB s = false := by
  unfold nameB
  rw [h]
  simp
theorem name_good {s : ByteArray} (h : (wordsL.any fun w => seqB w s) = false) (h16 : s.size ≤ 16) (h0 : 0 < s.size) (hf : Fine s s.size) : nameB s = true := by
  unfold nameB
  rw [h, (nameL_iff s h0).2 hf, decide_eq_true h16]
  rfl
theorem letter_pass {s : ByteArray} {pos c : Nat} (hp : pos < s.size) (hc : (Utf8.decode s pos).1 = c) (hd : (((s.get! pos).toNat < 128 ∧ Utf8.decode s pos = ((s.get! pos).toNat, 1)) ∨ (128 ≤ (s.get! pos).toNat ∧ 128 ≤ c)))
    (hok : (97 ≤ c ∧ c ≤ 122) ∨ (pos ≠ 0 ∧ (c = 95 ∨ (48 ≤ c ∧ c ≤ 57)))) (hf : Fine s pos) : Fine s (pos + (Utf8.decode s pos).2) ∧ pos + (Utf8.decode s pos).2 ≤ s.size := by
  rcases hd with ⟨h1, h2⟩ | ⟨h1, h2⟩
  · rw [h2] at hc ⊢
    simp only at hc ⊢
    refine ⟨fun i hi => ?_, by omega⟩
    by_cases he : i < pos
    · exact hf i he
    · have : i = pos := by omega
      subst this
      unfold inner small
      rw [hc]
      constructor
      · intro h; rcases hok with h3 | ⟨h3, _⟩
        · simp; omega
        · omega
      · simp; omega
  · omega
theorem letter_fail {s : ByteArray} {pos c : Nat} (hp : pos < s.size) (hc : (Utf8.decode s pos).1 = c) (hd : (((s.get! pos).toNat < 128 ∧ Utf8.decode s pos = ((s.get! pos).toNat, 1)) ∨ (128 ≤ (s.get! pos).toNat ∧ 128 ≤ c)))
    (hok : ¬ ((97 ≤ c ∧ c ≤ 122) ∨ (pos ≠ 0 ∧ (c = 95 ∨ (48 ≤ c ∧ c ≤ 57))))) : nameB s = false := by
  refine name_bad (fun hf => hok ?_) (by omega)
  obtain ⟨h1, h2⟩ := hf pos hp
  unfold inner small at h2
  unfold small at h1
  simp at h1 h2
  rcases hd with ⟨h3, h4⟩ | ⟨h3, h4⟩
  · rw [h4] at hc
    simp only at hc
    omega
  · omega
set_option maxRecDepth 1000000 in
theorem right_calls (s : ByteArray) {W : World} (hg : Laid W) : Calls Tryd.prog 34 #[.string s] W fun e W' => e = .returned (.bool (nameB s)) ∧ Below W.heap.size W W' := by
  have hw := word_calls s hg
  have hsm := small_calls
  by_cases hnz : 0 < s.size
  rotate_left
  · have hse : s = ⟨#[]⟩ := by apply ByteArray.ext; apply Array.eq_empty_of_size_eq_zero; show s.size = 0; omega
    rw [name_none hnz]
    subst hse
    go_enter Tryd.func34, Tryd.ntmps34
    go_wp2
    go_ret
    exact ⟨rfl, Below.refl _ _⟩
  have hie : s.toList.isEmpty = false := by
    cases hb : s.toList.isEmpty with
    | false => rfl
    | true =>
      have h1 := List.isEmpty_iff.1 hb
      have h2 : s.data.toList.length = 0 := by rw [← ByteArray.toList_eq, h1]; rfl
      rw [data_len] at h2
      omega
  by_cases h16 : 16 < s.size
  · rw [name_long h16]
    have h16' : (16 : Int) < (s.size : Int) := by omega
    go_enter Tryd.func34, Tryd.ntmps34
    go_wp2
    all_goals (go_ret; exact ⟨rfl, Below.refl _ _⟩)
  have h16' : (s.size : Int) ≤ 16 := by omega
  have h16b : decide ((16 : Int) < (s.size : Int)) = false := decide_eq_false (by omega)
  cases hany : (wordsL.any fun w => seqB w s) with
  | true =>
    rw [name_word hany]
    have hw' : Calls Tryd.prog 51 #[.string s] W fun e W' => ∃ k : Int, (k != 0) = true ∧ e = .returned (.int .i64 k) ∧ Below W.heap.size W W' := hw.mono (by
      rintro e W' ⟨k, hk, h1, h2⟩
      rw [hany, decide_eq_true_eq] at hk
      exact ⟨k, bne_iff_ne.2 hk, h1, h2⟩)
    clear hw
    go_enter Tryd.func34, Tryd.ntmps34
    go_wp2_with (go_at_call 51; refine hw'.mono ?_; rintro e w' ⟨k, hk, rfl, hb⟩)
    all_goals (go_ret; exact ⟨rfl, hb⟩)
  | false =>
    have hw' : Calls Tryd.prog 51 #[.string s] W fun e W' => e = .returned (.int .i64 0) ∧ Below W.heap.size W W' := hw.mono (by
      rintro e W' ⟨k, hk, h1, h2⟩
      rw [hany, decide_eq_false_iff_not] at hk
      have : k = 0 := Decidable.not_not.1 hk
      subst this
      exact ⟨h1, h2⟩)
    clear hw
    go_enter Tryd.func34, Tryd.ntmps34
    go_wp2_with (go_at_call 51; refine hw'.mono ?_; rintro e w' ⟨rfl, hb⟩)
    go_loopw [] (fun wr => ∃ pos : Nat, wr.heap[w'.heap.size]? = some (.stringIter s pos) ∧ Below W.heap.size W wr ∧ Fine s pos ∧ pos ≤ s.size) (fun wr => s.size - wr.iterPos w'.heap.size)
    case atStart => exact ⟨0, World.iter_heap w' s 0, hb.alloc hb.size _, fun i hi => by omega, Nat.zero_le _⟩
    case round =>
      obtain ⟨pos, hit, hbw, hf, hle⟩ := hrel
      have hpos0 := iterPos_of hit
      by_cases hp : pos < s.size
      · have hnx : ∀ ty, (Instr.next (.pointer (some ⟨w'.heap.size, 0, none⟩)) true ty).run Tryd.prog wr = _ := fun ty => Lib.run_next_any_at wr w'.heap.size s pos ty hit hp
        obtain ⟨hd, hwd⟩ := decode_facts s pos hp
        have hit2 := Lib.iterAt_heap wr w'.heap.size s pos (pos + (Utf8.decode s pos).2) hit
        have hbw2 := Lib.below_iterAt hbw (k := w'.heap.size) hb.size s (pos + (Utf8.decode s pos).2)
        obtain ⟨W1, hW1⟩ : ∃ W1, W1 = wr.iterAt w'.heap.size s (pos + (Utf8.decode s pos).2) := ⟨_, rfl⟩
        rw [← hW1] at hnx hit2 hbw2
        clear hW1 hit hbw
        generalize hc : (Utf8.decode s pos).1 = c at hnx hd
        go_wp2_with (go_at_call 52; refine (hsm _ _).mono ?_; rintro e w2 ⟨rfl, rfl⟩)
        all_goals (try (rename_i hz; simp at hz))
        all_goals first
          | (exfalso; omega)
          | (go_ret; exact ⟨by rw [letter_fail hp hc hd (by omega)]; rfl, hbw2⟩)
          | (refine ⟨?_, by first | (rw [iterPos_of hit2, hpos0]; omega) | (rw [iterPos_of hit2]; omega)⟩
             first
               | exact letter_pass hp hc hd (by omega) hf
               | exact ⟨_, hit2, hbw2, letter_pass hp hc hd (by omega) hf⟩
               | ((repeat apply Exists.intro); exact ⟨⟨_, hit2, hbw2, letter_pass hp hc hd (by omega) hf⟩, rfl⟩))
      · have hnx : ∀ ty, (Instr.next (.pointer (some ⟨w'.heap.size, 0, none⟩)) true ty).run Tryd.prog wr = _ := fun ty => Lib.run_next_end_at wr w'.heap.size s pos ty hit hp
        have hps : pos = s.size := by omega
        subst hps
        go_wp2
        go_ret
        refine ⟨?_, hbw⟩
        rw [name_good hany (by omega) hnz hf]
        rfl
theorem retE {s : ByteArray} : regRMs (nameE 34 9 4).ins = [.v 9] := rfl
theorem name_okG {G : Globs} (hG : ∀ x ∈ G0, x ∈ G) (hen : Go.Proofs.YtjnbggianlgjiaaDoorVM.Enters Tryd.prog 34) : FnOk Tryd.prog G (nameE 34 9 4) nameF := by
  refine FnOk.of_step (E := { call := fun _ _ => none, loop := fun _ _ => none, ents := [], cuts := [], σ0 := [], G := [] }) hen (by simp [nameE]) ?_
  intro C β vs zs o W hW hF hl hrel
  cases hF
  refine ⟨{ d := .bool (nameB (aAt zs 0).tree.txt), upd := goneAll [], touch := [], fresh := 0 }, ⟨[.t (.bool (nameB (aAt zs 0).tree.txt))], [], [], []⟩, ?_, rfl, ?_⟩
  · simp [packShape, nameE, regRMs, packTops, packTop, packR, packObjs, bindN, sigma, stays, hasName, updF, setF, goneAll, apartB, meets, sigBound, gonesOk, liveB]
    have hp : packT Tryd.prog (lookOf Tryd.prog [] zs (unRs Tryd.prog id zs [RM.v 9] 0).snd) 4 (D.bool (nameB (aAt zs 0).tree.txt)) = some (T.bool (nameB (aAt zs 0).tree.txt), []) := by
      simp [packT, Tryd.underlying4]
    rw [hp]
    simp [apartB, meets, sigBound, liveB]
  have hu : unRs Tryd.prog id zs (regRMs (nameE 34 9 4).ins) 0 = ([.str (aAt zs 0).tree.txt], 1) := by
    simp [nameE, regRMs, unRs, unR, ofT, Tryd.underlying9]
  rw [hu] at hrel ⊢
  have h0 := hrel.vals 0
  have hl' : vs.length = 1 := hl
  match vs, hl' with
  | [v0], _ =>
    obtain ⟨c0, hc0, hv0⟩ := h0
    have e0 : v0 = .string (aAt zs 0).tree.txt := by
      have : c0 = [.string (aAt zs 0).tree.txt] := hc0
      subst this
      simp [VF, scalar, regsOf, Array.getD] at hv0
      exact hv0.symm
    subst e0
    have hlaid : Laid W := by
      intro g τ t hm
      obtain ⟨b, o, c, el, fr, s, e1, _, q2, q3, q4, q5⟩ := hrel.globs g τ t (hG _ hm)
      cases e1
      exact ⟨c, el, fr, s, q2, q3, by rw [List.drop_zero] at q4; exact q4.stay ⟨fun b _ => .inl trivial, fun _ _ _ h => h⟩, by omega⟩
    refine (right_calls _ hlaid).mono ?_
    rintro x W' ⟨rfl, hbel⟩
    exact ⟨_, rfl, nxt_gone hrel (Wr.of_below hbel) (frz := []) (fun _ => rv_bool)⟩
theorem name_ok (hen : Go.Proofs.YtjnbggianlgjiaaDoorVM.Enters Tryd.prog 34) : FnOk Tryd.prog G0 (nameE 34 9 4) nameF := name_okG (fun _ h => h) hen
end Go.Proofs.YtjnbggianlgjiaaDoorWD
