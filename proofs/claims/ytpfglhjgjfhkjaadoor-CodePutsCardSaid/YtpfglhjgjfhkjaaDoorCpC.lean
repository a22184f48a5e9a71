/- Part of a law's proof. -/
import Derived.Test.YtpfglhjgjfhkjaaDoorCpB
namespace Go.Proofs.YtpfglhjgjfhkjaaDoorCP
open Go Go.Proofs.YtpfglhjgjfhkjaaDoorVM
set_option linter.unusedVariables false
set_option linter.unusedSimpArgs false
set_option maxRecDepth 100000

/-! ### the order, plain -/
def fst (x y : Int) : Int := if x = 0 then y else x
theorem fst_zero (y : Int) : fst 0 y = y := rfl
theorem fst_ne {x : Int} (h : x ≠ 0) (y : Int) : fst x y = x := if_neg h
theorem fst_z (x : Int) : fst x 0 = x := by
  unfold fst
  split <;> simp_all
theorem fst_assoc (a b c : Int) : fst (fst a b) c = fst a (fst b c) := by
  unfold fst
  by_cases h : a = 0
  · simp [h]
  · simp [h]
def cmpI (a b : Int) : Int := if a < b then -1 else if a > b then 1 else 0
def cmpF1 (a b : Bool) : Int := (if a then 1 else 0) - (if b then 1 else 0)
def cmpL (f : T → T → Int) : List T → List T → Int
  | [], [] => 0
  | [], _ :: _ => -1
  | _ :: _, [] => 1
  | a :: l, b :: m => fst (f a b) (cmpL f l m)
theorem cmpL_cons (f : T → T → Int) (a b : T) (l m : List T) : cmpL f (a :: l) (b :: m) = fst (f a b) (cmpL f l m) := rfl
theorem cmpL_end (f : T → T → Int) (l m : List T) (j : Nat) (h : j = min l.length m.length) : cmpL f (l.drop j) (m.drop j) = cmpI l.length m.length := by
  unfold cmpI
  rcases Nat.lt_trichotomy l.length m.length with h1 | h1 | h1
  · rw [List.drop_of_length_le (l := l) (by omega), if_pos (by omega), List.drop_eq_getElem_cons (l := m) (i := j) (by omega)]; rfl
  · rw [List.drop_of_length_le (l := l) (by omega), List.drop_of_length_le (l := m) (by omega), if_neg (by omega), if_neg (by omega)]; rfl
  · rw [List.drop_of_length_le (l := m) (by omega), if_neg (by omega), if_pos (by omega), List.drop_eq_getElem_cons (l := l) (i := j) (by omega)]; rfl
def plainC (a b : T) : Int := fst (cmpI (a.get 0).num (b.get 0).num) (fst (cmpI (a.get 1).num (b.get 1).num) (fst (cmpI (a.get 2).num (b.get 2).num) (fst (cmpB (a.get 3).txt (b.get 3).txt)
  (fst (cmpF1 (a.get 4).tf (b.get 4).tf) (fst (cmpF1 (a.get 5).tf (b.get 5).tf) (cmpF1 (a.get 6).tf (b.get 6).tf))))))
def cmpV : Nat → T → T → Int
  | 0, _, _ => 0
  | d + 1, a, b => cmpL (fun t u => fst (plainC t u) (cmpL (fun f g => fst (cmpB (nm f) (nm g)) (cmpV d (val f) (val g))) (flds t) (flds u))) (terms a) (terms b)
def cmpG (d : Nat) (f g : T) : Int := fst (cmpB (nm f) (nm g)) (cmpV d (val f) (val g))
def cmpT (d : Nat) (t u : T) : Int := fst (plainC t u) (cmpL (cmpG d) (flds t) (flds u))
theorem cmpV_succ (d : Nat) (a b : T) : cmpV (d + 1) a b = cmpL (cmpT d) (terms a) (terms b) := rfl

/-! ### the program's -/
theorem neg1 : Int.negSucc 0 = -1 := id rfl
theorem nan_does (a : Int) : Dz i_cmp_isNaN_int none [A.t (T.int a)] (1, [A.t (T.bool false)]) := by
  refine Does.now fun n => ?_
  rw [q_cmp_isNaN_int, num_int, bne_self_eq_false]
theorem cmp_does (a b : Int) : Dz i_cmp_Compare_int none [A.t (T.int a), A.t (T.int b)] (1, [A.t (T.int (cmpI a b))]) := by
  obtain ⟨n0, h0⟩ := (nan_does a).both (nan_does b)
  refine Does.of n0 fun n hn => ?_
  obtain ⟨q1, q2⟩ := h0 n hn
  rw [q_cmp_Compare_int]
  simp only [num_int, tf_bool, txt_str, kids_node, tree_t, aAt_zero, aAt_succ, Option.map_some, Option.bind_some, Nat.beq_refl, Bool.cond_eq_ite, decide_eq_true_eq, decide_eq_false_iff_not, Bool.and_eq_true, Bool.or_eq_true, beq_iff_eq, beq_eq_false_iff_ne, bne_iff_ne, ne_eq, if_true, if_false, Int.toNat_natCast, Bool.false_eq_true, nb12, nb21, nb14, nb24, nb42, nb41, terms_eq, flds_eq, q1, q2, neg1]
  unfold cmpI
  split
  · rfl
  · split <;> rfl
theorem strcmp_eq (n : Nat) (a b : ByteArray) : den Tryd.prog G0 ents (Nat.succ n) i_strings_Compare none [A.t (T.str a), A.t (T.str b)] = some (1, [A.t (T.int (cmpB a b))]) := by kernel_rfl
theorem strcmp_does (a b : ByteArray) : Dz i_strings_Compare none [A.t (T.str a), A.t (T.str b)] (1, [A.t (T.int (cmpB a b))]) := Does.now fun n => strcmp_eq n a b
theorem flag_does (b : Bool) : Dz i_rank_flag none [A.t (T.bool b)] (1, [A.t (T.int (if b then 1 else 0))]) := by
  refine Does.now fun n => ?_
  rw [q_rank_flag, tf_bool]
  cases b <;> rfl
def firstL : List Int → Int
  | [] => 0
  | x :: l => fst x (firstL l)
theorem first_loop (l : List Int) (hl : l.length ≤ 1000) : ∀ (k j : Nat), j + k = l.length →
    (Dz i_rank_first (some p_rank_first_c1) [A.t (T.int (l.length : Nat)), A.t (T.int j), A.t (T.node (l.map T.int))] (2, [A.t (T.node (l.map T.int))]) ∧ firstL (l.drop j) = 0) ∨
    Dz i_rank_first (some p_rank_first_c1) [A.t (T.int (l.length : Nat)), A.t (T.int j), A.t (T.node (l.map T.int))] (1, [A.t (T.int (firstL (l.drop j))), A.t (T.node (l.map T.int))]) := by
  intro k
  induction k with
  | zero =>
    intro j hj
    left
    refine ⟨Does.now fun n => ?_, by rw [List.drop_of_length_le (by omega)]; rfl⟩
    rw [q_rank_first_c1]
    simp only [num_int, tf_bool, txt_str, kids_node, tree_t, aAt_zero, aAt_succ, Option.map_some, Option.bind_some, Nat.beq_refl, Bool.cond_eq_ite, decide_eq_true_eq, decide_eq_false_iff_not, Bool.and_eq_true, Bool.or_eq_true, beq_iff_eq, beq_eq_false_iff_ne, bne_iff_ne, ne_eq, if_true, if_false, Int.toNat_natCast, Bool.false_eq_true, nb12, nb21, nb14, nb24, nb42, nb41, terms_eq, flds_eq]
    rw [if_neg (by omega)]
  | succ k ih =>
    intro j hj
    have h1 : j < l.length := by omega
    have hw : IntKind.i64.wrap ((j : Int) + 1) = ((j + 1 : Nat) : Int) := i64succ (by omega)
    have hg : tAtD (l.map T.int) j = T.int l[j] := by simp [tAtD, List.getD, h1]
    rw [List.drop_eq_getElem_cons h1, firstL]
    by_cases h0 : l[j] = 0
    · have step : ∀ R, Dz i_rank_first (some p_rank_first_c1) [A.t (T.int (l.length : Nat)), A.t (T.int (j + 1 : Nat)), A.t (T.node (l.map T.int))] R → Dz i_rank_first (some p_rank_first_c1) [A.t (T.int (l.length : Nat)), A.t (T.int j), A.t (T.node (l.map T.int))] R := by
        intro R hR
        refine Does.next hR fun n => ?_
        rw [q_rank_first_c1]
        simp only [num_int, tf_bool, txt_str, kids_node, tree_t, aAt_zero, aAt_succ, Option.map_some, Option.bind_some, Nat.beq_refl, Bool.cond_eq_ite, decide_eq_true_eq, decide_eq_false_iff_not, Bool.and_eq_true, Bool.or_eq_true, beq_iff_eq, beq_eq_false_iff_ne, bne_iff_ne, ne_eq, if_true, if_false, Int.toNat_natCast, Bool.false_eq_true, nb12, nb21, nb14, nb24, nb42, nb41, terms_eq, flds_eq, hg, h0, hw, List.length_map]
        rw [if_pos (by omega), if_pos (by omega), if_pos (by omega), if_neg (by simp)]
      rw [h0, fst_zero]
      rcases ih (j + 1) (by omega) with ⟨h3, h4⟩ | h3
      · left; exact ⟨step _ h3, h4⟩
      · right; exact step _ h3
    · right
      rw [fst_ne h0]
      refine Does.now fun n => ?_
      rw [q_rank_first_c1]
      simp only [num_int, tf_bool, txt_str, kids_node, tree_t, aAt_zero, aAt_succ, Option.map_some, Option.bind_some, Nat.beq_refl, Bool.cond_eq_ite, decide_eq_true_eq, decide_eq_false_iff_not, Bool.and_eq_true, Bool.or_eq_true, beq_iff_eq, beq_eq_false_iff_ne, bne_iff_ne, ne_eq, if_true, if_false, Int.toNat_natCast, Bool.false_eq_true, nb12, nb21, nb14, nb24, nb42, nb41, terms_eq, flds_eq, hg, List.length_map]
      rw [if_pos (by omega), if_pos (by omega), if_pos (by omega), if_pos h0]
theorem first_does (l : List Int) (hl : l.length ≤ 1000) : Dz i_rank_first none [A.t (T.node (l.map T.int))] (1, [A.t (T.int (firstL l)), A.t (T.node (l.map T.int))]) := by
  rcases first_loop l hl l.length 0 (by omega) with ⟨⟨n0, h⟩, h2⟩ | ⟨n0, h⟩
  · refine Does.of n0 fun n hn => ?_
    have q1' : den Tryd.prog G0 ents n i_rank_first (some p_rank_first_c1) [A.t (T.int (l.length : Nat)), A.t (T.int 0), A.t (T.node (l.map T.int))] = _ := h n hn
    rw [List.drop_zero] at h2
    rw [q_rank_first, h2]
    simp only [num_int, tf_bool, txt_str, kids_node, tree_t, aAt_zero, aAt_succ, Option.map_some, Option.bind_some, Nat.beq_refl, Bool.cond_eq_ite, decide_eq_true_eq, decide_eq_false_iff_not, Bool.and_eq_true, Bool.or_eq_true, beq_iff_eq, beq_eq_false_iff_ne, bne_iff_ne, ne_eq, if_true, if_false, Int.toNat_natCast, Bool.false_eq_true, nb12, nb21, nb14, nb24, nb42, nb41, terms_eq, flds_eq, List.length_map, q1']
  · refine Does.of n0 fun n hn => ?_
    have q1' : den Tryd.prog G0 ents n i_rank_first (some p_rank_first_c1) [A.t (T.int (l.length : Nat)), A.t (T.int 0), A.t (T.node (l.map T.int))] = _ := h n hn
    rw [q_rank_first]
    simp only [num_int, tf_bool, txt_str, kids_node, tree_t, aAt_zero, aAt_succ, Option.map_some, Option.bind_some, Nat.beq_refl, Bool.cond_eq_ite, decide_eq_true_eq, decide_eq_false_iff_not, Bool.and_eq_true, Bool.or_eq_true, beq_iff_eq, beq_eq_false_iff_ne, bne_iff_ne, ne_eq, if_true, if_false, Int.toNat_natCast, Bool.false_eq_true, nb12, nb21, nb14, nb24, nb42, nb41, terms_eq, flds_eq, List.length_map, q1', List.drop_zero]

theorem rank_lists_Field_loop (f : T → T → Int) (l m : List T) (hl : l.length ≤ 1000) (hm : m.length ≤ 1000) (hf : ∀ x ∈ l, ∀ y ∈ m, Dz i_rank_fields none [A.t x, A.t y] (1, [A.t (T.int (f x y))])) :
    ∀ (k j : Nat), j + k = min l.length m.length →
      (Dz i_rank_lists_Field (some p_rank_lists_Field_c1) [A.t (T.node l), A.t (T.node m), A.t (T.int (min l.length m.length : Nat)), A.t (T.int j)] (2, [A.t (T.node l), A.t (T.node m)]) ∧ cmpL f (l.drop j) (m.drop j) = cmpI l.length m.length) ∨
      Dz i_rank_lists_Field (some p_rank_lists_Field_c1) [A.t (T.node l), A.t (T.node m), A.t (T.int (min l.length m.length : Nat)), A.t (T.int j)] (1, [A.t (T.int (cmpL f (l.drop j) (m.drop j)))]) := by
  intro k
  induction k with
  | zero =>
    intro j hj
    left
    refine ⟨Does.now fun n => ?_, cmpL_end f l m j (by omega)⟩
    rw [q_rank_lists_Field_c1]
    simp only [num_int, tf_bool, txt_str, kids_node, tree_t, aAt_zero, aAt_succ, Option.map_some, Option.bind_some, Nat.beq_refl, Bool.cond_eq_ite, decide_eq_true_eq, decide_eq_false_iff_not, Bool.and_eq_true, Bool.or_eq_true, beq_iff_eq, beq_eq_false_iff_ne, bne_iff_ne, ne_eq, if_true, if_false, Int.toNat_natCast, Bool.false_eq_true, nb12, nb21, nb14, nb24, nb42, nb41, terms_eq, flds_eq]
    rw [if_neg (by omega)]
  | succ k ih =>
    intro j hj
    have h1 : j < l.length := by omega
    have h2 : j < m.length := by omega
    have hw : IntKind.i64.wrap ((j : Int) + 1) = ((j + 1 : Nat) : Int) := i64succ (by omega)
    have hc := hf _ (List.getElem_mem h1) _ (List.getElem_mem h2)
    rw [List.drop_eq_getElem_cons h1, List.drop_eq_getElem_cons h2, cmpL_cons]
    by_cases h0 : f l[j] m[j] = 0
    · have step : ∀ R, Dz i_rank_lists_Field (some p_rank_lists_Field_c1) [A.t (T.node l), A.t (T.node m), A.t (T.int (min l.length m.length : Nat)), A.t (T.int (j + 1 : Nat))] R → Dz i_rank_lists_Field (some p_rank_lists_Field_c1) [A.t (T.node l), A.t (T.node m), A.t (T.int (min l.length m.length : Nat)), A.t (T.int j)] R := by
        intro R hR
        obtain ⟨n0, h⟩ := hc.both hR
        refine Does.of n0 fun n hn => ?_
        obtain ⟨q1, q2⟩ := h n hn
        rw [q_rank_lists_Field_c1]
        simp only [num_int, tf_bool, txt_str, kids_node, tree_t, aAt_zero, aAt_succ, Option.map_some, Option.bind_some, Nat.beq_refl, Bool.cond_eq_ite, decide_eq_true_eq, decide_eq_false_iff_not, Bool.and_eq_true, Bool.or_eq_true, beq_iff_eq, beq_eq_false_iff_ne, bne_iff_ne, ne_eq, if_true, if_false, Int.toNat_natCast, Bool.false_eq_true, nb12, nb21, nb14, nb24, nb42, nb41, terms_eq, flds_eq, at_get h1, at_get h2, q1, h0, hw]
        rw [if_pos (by omega), if_pos (by omega), if_pos (by omega), if_neg (by simp)]
        exact q2
      rw [h0, fst_zero]
      rcases ih (j + 1) (by omega) with ⟨h3, h4⟩ | h3
      · left; exact ⟨step _ h3, h4⟩
      · right; exact step _ h3
    · right
      rw [fst_ne h0]
      obtain ⟨n0, h⟩ := hc
      refine Does.of n0 fun n hn => ?_
      rw [q_rank_lists_Field_c1]
      simp only [num_int, tf_bool, txt_str, kids_node, tree_t, aAt_zero, aAt_succ, Option.map_some, Option.bind_some, Nat.beq_refl, Bool.cond_eq_ite, decide_eq_true_eq, decide_eq_false_iff_not, Bool.and_eq_true, Bool.or_eq_true, beq_iff_eq, beq_eq_false_iff_ne, bne_iff_ne, ne_eq, if_true, if_false, Int.toNat_natCast, Bool.false_eq_true, nb12, nb21, nb14, nb24, nb42, nb41, terms_eq, flds_eq, at_get h1, at_get h2, h n hn]
      rw [if_pos (by omega), if_pos (by omega), if_pos (by omega), if_pos h0]
theorem rank_lists_Field_does (f : T → T → Int) (l m : List T) (hl : l.length ≤ 1000) (hm : m.length ≤ 1000) (hf : ∀ x ∈ l, ∀ y ∈ m, Dz i_rank_fields none [A.t x, A.t y] (1, [A.t (T.int (f x y))])) :
    Dz i_rank_lists_Field none [A.t (T.node l), A.t (T.node m)] (1, [A.t (T.int (cmpL f l m))]) := by
  have hmin : minI ((l.length : Nat) : Int) ((m.length : Nat) : Int) = ((min l.length m.length : Nat) : Int) := by unfold minI; split <;> omega
  rcases rank_lists_Field_loop f l m hl hm hf (min l.length m.length) 0 (by omega) with ⟨h1, h2⟩ | h1
  · obtain ⟨n0, h⟩ := h1.both (cmp_does l.length m.length)
    refine Does.of n0 fun n hn => ?_
    obtain ⟨q1, q2⟩ := h n hn
    rw [List.drop_zero, List.drop_zero] at h2
    have q1' : den Tryd.prog G0 ents n i_rank_lists_Field (some p_rank_lists_Field_c1) [A.t (T.node l), A.t (T.node m), A.t (T.int (min l.length m.length : Nat)), A.t (T.int 0)] = _ := q1
    rw [q_rank_lists_Field, h2]
    simp only [num_int, tf_bool, txt_str, kids_node, tree_t, aAt_zero, aAt_succ, Option.map_some, Option.bind_some, Nat.beq_refl, Bool.cond_eq_ite, decide_eq_true_eq, decide_eq_false_iff_not, Bool.and_eq_true, Bool.or_eq_true, beq_iff_eq, beq_eq_false_iff_ne, bne_iff_ne, ne_eq, if_true, if_false, Int.toNat_natCast, Bool.false_eq_true, nb12, nb21, nb14, nb24, nb42, nb41, terms_eq, flds_eq, hmin, q1', q2]
  · obtain ⟨n0, h⟩ := h1
    refine Does.of n0 fun n hn => ?_
    have q1' : den Tryd.prog G0 ents n i_rank_lists_Field (some p_rank_lists_Field_c1) [A.t (T.node l), A.t (T.node m), A.t (T.int (min l.length m.length : Nat)), A.t (T.int 0)] = _ := h n hn
    rw [q_rank_lists_Field]
    simp only [num_int, tf_bool, txt_str, kids_node, tree_t, aAt_zero, aAt_succ, Option.map_some, Option.bind_some, Nat.beq_refl, Bool.cond_eq_ite, decide_eq_true_eq, decide_eq_false_iff_not, Bool.and_eq_true, Bool.or_eq_true, beq_iff_eq, beq_eq_false_iff_ne, bne_iff_ne, ne_eq, if_true, if_false, Int.toNat_natCast, Bool.false_eq_true, nb12, nb21, nb14, nb24, nb42, nb41, terms_eq, flds_eq, hmin, q1']
    rfl

theorem rank_lists_Term_loop (f : T → T → Int) (l m : List T) (hl : l.length ≤ 1000) (hm : m.length ≤ 1000) (hf : ∀ x ∈ l, ∀ y ∈ m, Dz i_rank_Terms none [A.t x, A.t y] (1, [A.t (T.int (f x y))])) :
    ∀ (k j : Nat), j + k = min l.length m.length →
      (Dz i_rank_lists_Term (some p_rank_lists_Term_c1) [A.t (T.node l), A.t (T.node m), A.t (T.int (min l.length m.length : Nat)), A.t (T.int j)] (2, [A.t (T.node l), A.t (T.node m)]) ∧ cmpL f (l.drop j) (m.drop j) = cmpI l.length m.length) ∨
      Dz i_rank_lists_Term (some p_rank_lists_Term_c1) [A.t (T.node l), A.t (T.node m), A.t (T.int (min l.length m.length : Nat)), A.t (T.int j)] (1, [A.t (T.int (cmpL f (l.drop j) (m.drop j)))]) := by
  intro k
  induction k with
  | zero =>
    intro j hj
    left
    refine ⟨Does.now fun n => ?_, cmpL_end f l m j (by omega)⟩
    rw [q_rank_lists_Term_c1]
    simp only [num_int, tf_bool, txt_str, kids_node, tree_t, aAt_zero, aAt_succ, Option.map_some, Option.bind_some, Nat.beq_refl, Bool.cond_eq_ite, decide_eq_true_eq, decide_eq_false_iff_not, Bool.and_eq_true, Bool.or_eq_true, beq_iff_eq, beq_eq_false_iff_ne, bne_iff_ne, ne_eq, if_true, if_false, Int.toNat_natCast, Bool.false_eq_true, nb12, nb21, nb14, nb24, nb42, nb41, terms_eq, flds_eq]
    rw [if_neg (by omega)]
  | succ k ih =>
    intro j hj
    have h1 : j < l.length := by omega
    have h2 : j < m.length := by omega
    have hw : IntKind.i64.wrap ((j : Int) + 1) = ((j + 1 : Nat) : Int) := i64succ (by omega)
    have hc := hf _ (List.getElem_mem h1) _ (List.getElem_mem h2)
    rw [List.drop_eq_getElem_cons h1, List.drop_eq_getElem_cons h2, cmpL_cons]
    by_cases h0 : f l[j] m[j] = 0
    · have step : ∀ R, Dz i_rank_lists_Term (some p_rank_lists_Term_c1) [A.t (T.node l), A.t (T.node m), A.t (T.int (min l.length m.length : Nat)), A.t (T.int (j + 1 : Nat))] R → Dz i_rank_lists_Term (some p_rank_lists_Term_c1) [A.t (T.node l), A.t (T.node m), A.t (T.int (min l.length m.length : Nat)), A.t (T.int j)] R := by
        intro R hR
        obtain ⟨n0, h⟩ := hc.both hR
        refine Does.of n0 fun n hn => ?_
        obtain ⟨q1, q2⟩ := h n hn
        rw [q_rank_lists_Term_c1]
        simp only [num_int, tf_bool, txt_str, kids_node, tree_t, aAt_zero, aAt_succ, Option.map_some, Option.bind_some, Nat.beq_refl, Bool.cond_eq_ite, decide_eq_true_eq, decide_eq_false_iff_not, Bool.and_eq_true, Bool.or_eq_true, beq_iff_eq, beq_eq_false_iff_ne, bne_iff_ne, ne_eq, if_true, if_false, Int.toNat_natCast, Bool.false_eq_true, nb12, nb21, nb14, nb24, nb42, nb41, terms_eq, flds_eq, at_get h1, at_get h2, q1, h0, hw]
        rw [if_pos (by omega), if_pos (by omega), if_pos (by omega), if_neg (by simp)]
        exact q2
      rw [h0, fst_zero]
      rcases ih (j + 1) (by omega) with ⟨h3, h4⟩ | h3
      · left; exact ⟨step _ h3, h4⟩
      · right; exact step _ h3
    · right
      rw [fst_ne h0]
      obtain ⟨n0, h⟩ := hc
      refine Does.of n0 fun n hn => ?_
      rw [q_rank_lists_Term_c1]
      simp only [num_int, tf_bool, txt_str, kids_node, tree_t, aAt_zero, aAt_succ, Option.map_some, Option.bind_some, Nat.beq_refl, Bool.cond_eq_ite, decide_eq_true_eq, decide_eq_false_iff_not, Bool.and_eq_true, Bool.or_eq_true, beq_iff_eq, beq_eq_false_iff_ne, bne_iff_ne, ne_eq, if_true, if_false, Int.toNat_natCast, Bool.false_eq_true, nb12, nb21, nb14, nb24, nb42, nb41, terms_eq, flds_eq, at_get h1, at_get h2, h n hn]
      rw [if_pos (by omega), if_pos (by omega), if_pos (by omega), if_pos h0]
theorem rank_lists_Term_does (f : T → T → Int) (l m : List T) (hl : l.length ≤ 1000) (hm : m.length ≤ 1000) (hf : ∀ x ∈ l, ∀ y ∈ m, Dz i_rank_Terms none [A.t x, A.t y] (1, [A.t (T.int (f x y))])) :
    Dz i_rank_lists_Term none [A.t (T.node l), A.t (T.node m)] (1, [A.t (T.int (cmpL f l m))]) := by
  have hmin : minI ((l.length : Nat) : Int) ((m.length : Nat) : Int) = ((min l.length m.length : Nat) : Int) := by unfold minI; split <;> omega
  rcases rank_lists_Term_loop f l m hl hm hf (min l.length m.length) 0 (by omega) with ⟨h1, h2⟩ | h1
  · obtain ⟨n0, h⟩ := h1.both (cmp_does l.length m.length)
    refine Does.of n0 fun n hn => ?_
    obtain ⟨q1, q2⟩ := h n hn
    rw [List.drop_zero, List.drop_zero] at h2
    have q1' : den Tryd.prog G0 ents n i_rank_lists_Term (some p_rank_lists_Term_c1) [A.t (T.node l), A.t (T.node m), A.t (T.int (min l.length m.length : Nat)), A.t (T.int 0)] = _ := q1
    rw [q_rank_lists_Term, h2]
    simp only [num_int, tf_bool, txt_str, kids_node, tree_t, aAt_zero, aAt_succ, Option.map_some, Option.bind_some, Nat.beq_refl, Bool.cond_eq_ite, decide_eq_true_eq, decide_eq_false_iff_not, Bool.and_eq_true, Bool.or_eq_true, beq_iff_eq, beq_eq_false_iff_ne, bne_iff_ne, ne_eq, if_true, if_false, Int.toNat_natCast, Bool.false_eq_true, nb12, nb21, nb14, nb24, nb42, nb41, terms_eq, flds_eq, hmin, q1', q2]
  · obtain ⟨n0, h⟩ := h1
    refine Does.of n0 fun n hn => ?_
    have q1' : den Tryd.prog G0 ents n i_rank_lists_Term (some p_rank_lists_Term_c1) [A.t (T.node l), A.t (T.node m), A.t (T.int (min l.length m.length : Nat)), A.t (T.int 0)] = _ := h n hn
    rw [q_rank_lists_Term]
    simp only [num_int, tf_bool, txt_str, kids_node, tree_t, aAt_zero, aAt_succ, Option.map_some, Option.bind_some, Nat.beq_refl, Bool.cond_eq_ite, decide_eq_true_eq, decide_eq_false_iff_not, Bool.and_eq_true, Bool.or_eq_true, beq_iff_eq, beq_eq_false_iff_ne, bne_iff_ne, ne_eq, if_true, if_false, Int.toNat_natCast, Bool.false_eq_true, nb12, nb21, nb14, nb24, nb42, nb41, terms_eq, flds_eq, hmin, q1']
    rfl

theorem fields_does (d : Nat) (f g : T) (h : Dz i_rank_Compare none [A.t (val f), A.t (val g)] (1, [A.t (T.int (cmpV d (val f) (val g)))])) : Dz i_rank_fields none [A.t f, A.t g] (1, [A.t (T.int (cmpG d f g))]) := by
  obtain ⟨n1, h1⟩ := strcmp_does (nm f) (nm g)
  obtain ⟨n2, h2⟩ := h
  obtain ⟨n3, h3⟩ := first_does [cmpB (nm f) (nm g), cmpV d (val f) (val g)] (by simp)
  refine Does.of (n1 + n2 + n3) fun n hn => ?_
  have h3' : den Tryd.prog G0 ents n i_rank_first none [A.t (T.node [T.int (cmpB (nm f) (nm g)), T.int (cmpV d (val f) (val g))])] = _ := h3 n (by omega)
  rw [q_rank_fields]
  simp only [num_int, tf_bool, txt_str, kids_node, tree_t, aAt_zero, aAt_succ, Option.map_some, Option.bind_some, Nat.beq_refl, Bool.cond_eq_ite, decide_eq_true_eq, decide_eq_false_iff_not, Bool.and_eq_true, Bool.or_eq_true, beq_iff_eq, beq_eq_false_iff_ne, bne_iff_ne, ne_eq, if_true, if_false, Int.toNat_natCast, Bool.false_eq_true, nb12, nb21, nb14, nb24, nb42, nb41, terms_eq, flds_eq, nm_eq, val_eq, h1 n (by omega), h2 n (by omega), h3']
  have : firstL [cmpB (nm f) (nm g), cmpV d (val f) (val g)] = cmpG d f g := by
    simp only [firstL, cmpG, fst_z]
  rw [this]
theorem pterms_does (d : Nat) (t u : T) (ht : (flds t).length ≤ 1000) (hu : (flds u).length ≤ 1000) (h : ∀ f ∈ flds t, ∀ g ∈ flds u, Dz i_rank_Compare none [A.t (val f), A.t (val g)] (1, [A.t (T.int (cmpV d (val f) (val g)))])) :
    Dz i_rank_Terms none [A.t t, A.t u] (1, [A.t (T.int (cmpT d t u))]) := by
  obtain ⟨n1, h1⟩ := cmp_does (t.get 0).num (u.get 0).num
  obtain ⟨n2, h2⟩ := cmp_does (t.get 1).num (u.get 1).num
  obtain ⟨n3, h3⟩ := cmp_does (t.get 2).num (u.get 2).num
  obtain ⟨n4, h4⟩ := strcmp_does (t.get 3).txt (u.get 3).txt
  obtain ⟨n5, h5⟩ := flag_does (t.get 4).tf
  obtain ⟨n6, h6⟩ := flag_does (u.get 4).tf
  obtain ⟨n7, h7⟩ := flag_does (t.get 5).tf
  obtain ⟨n8, h8⟩ := flag_does (u.get 5).tf
  obtain ⟨n9, h9⟩ := flag_does (t.get 6).tf
  obtain ⟨n10, h10⟩ := flag_does (u.get 6).tf
  obtain ⟨n11, h11⟩ := rank_lists_Field_does (cmpG d) (flds t) (flds u) ht hu (fun f hf g hg => fields_does d f g (h f hf g hg))
  obtain ⟨n12, h12⟩ := first_does [cmpI (t.get 0).num (u.get 0).num, cmpI (t.get 1).num (u.get 1).num, cmpI (t.get 2).num (u.get 2).num, cmpB (t.get 3).txt (u.get 3).txt, cmpF1 (t.get 4).tf (u.get 4).tf, cmpF1 (t.get 5).tf (u.get 5).tf, cmpF1 (t.get 6).tf (u.get 6).tf, cmpL (cmpG d) (flds t) (flds u)] (by simp)
  have hb : ∀ a b : Bool, IntKind.i64.wrap ((if a = true then (1 : Int) else 0) - (if b = true then (1 : Int) else 0)) = cmpF1 a b := by
    intro a b; cases a <;> cases b <;> rfl
  refine Does.of (n1 + n2 + n3 + n4 + n5 + n6 + n7 + n8 + n9 + n10 + n11 + n12) fun n hn => ?_
  have h12' := h12 n (by omega)
  simp only [List.map_cons, List.map_nil] at h12'
  rw [q_rank_Terms]
  simp only [num_int, tf_bool, txt_str, kids_node, tree_t, aAt_zero, aAt_succ, Option.map_some, Option.bind_some, Nat.beq_refl, Bool.cond_eq_ite, decide_eq_true_eq, decide_eq_false_iff_not, Bool.and_eq_true, Bool.or_eq_true, beq_iff_eq, beq_eq_false_iff_ne, bne_iff_ne, ne_eq, if_true, if_false, Int.toNat_natCast, Bool.false_eq_true, nb12, nb21, nb14, nb24, nb42, nb41, terms_eq, flds_eq, h1 n (by omega), h2 n (by omega), h3 n (by omega), h4 n (by omega), h5 n (by omega), h6 n (by omega), h7 n (by omega), h8 n (by omega), h9 n (by omega), h10 n (by omega), h11 n (by omega), hb, h12']
  have : firstL [cmpI (t.get 0).num (u.get 0).num, cmpI (t.get 1).num (u.get 1).num, cmpI (t.get 2).num (u.get 2).num, cmpB (t.get 3).txt (u.get 3).txt, cmpF1 (t.get 4).tf (u.get 4).tf, cmpF1 (t.get 5).tf (u.get 5).tf, cmpF1 (t.get 6).tf (u.get 6).tf, cmpL (cmpG d) (flds t) (flds u)] = cmpT d t u := by
    simp only [firstL, fst_z, cmpT, plainC, fst_assoc]
  rw [this]
theorem pcompare_does : ∀ (d : Nat) (a b : T), Sm d a → Sm d b → Dz i_rank_Compare none [A.t a, A.t b] (1, [A.t (T.int (cmpV d a b))])
  | 0, a, b, h, _ => h.1.elim
  | d + 1, a, b, ha, hb => by
    have la := ha.terms
    have lb := hb.terms
    obtain ⟨n0, h0⟩ := rank_lists_Term_does (cmpT d) (terms a) (terms b) (by omega) (by omega) (fun t ht u hu =>
      pterms_does d t u (by have := ha.flds ht; omega) (by have := hb.flds hu; omega) (fun f hf g hg => pcompare_does d _ _ (ha.sub ht hf) (hb.sub hu hg)))
    refine Does.of n0 fun n hn => ?_
    rw [q_rank_Compare]
    simp only [num_int, tf_bool, txt_str, kids_node, tree_t, aAt_zero, aAt_succ, Option.map_some, Option.bind_some, Nat.beq_refl, Bool.cond_eq_ite, decide_eq_true_eq, decide_eq_false_iff_not, Bool.and_eq_true, Bool.or_eq_true, beq_iff_eq, beq_eq_false_iff_ne, bne_iff_ne, ne_eq, if_true, if_false, Int.toNat_natCast, Bool.false_eq_true, nb12, nb21, nb14, nb24, nb42, nb41, terms_eq, flds_eq, h0 n hn]
    rfl
/-- Two terms of small values. -/
def SmT (d : Nat) (t : T) : Prop := (flds t).length ≤ 100 ∧ ∀ f ∈ flds t, Sm d (val f)
theorem Sm.term {d : Nat} {v t : T} (h : Sm (d + 1) v) (ht : t ∈ YtpfglhjgjfhkjaaDoorCP.terms v) : SmT d t := ⟨h.flds ht, fun f hf => h.sub ht hf⟩
theorem pt_does {d : Nat} {t u : T} (ht : SmT d t) (hu : SmT d u) : Dz i_rank_Terms none [A.t t, A.t u] (1, [A.t (T.int (cmpT d t u))]) :=
  pterms_does d t u (by have := ht.1; omega) (by have := hu.1; omega) (fun f hf g hg => pcompare_does d _ _ (ht.2 f hf) (hu.2 g hg))
end Go.Proofs.YtpfglhjgjfhkjaaDoorCP
namespace Go.Proofs.YtpfglhjgjfhkjaaDoorCP
open Go Go.Proofs.YtpfglhjgjfhkjaaDoorVM
set_option linter.unusedVariables false
set_option linter.unusedSimpArgs false
set_option maxRecDepth 100000

/-! ### the order of texts -/
theorem seqB_iff (a b : ByteArray) : seqB a b = true ↔ a = b := by
  simp only [seqB, beq_iff_eq]
  exact ⟨fun h => by rw [ByteArray.toList_eq, ByteArray.toList_eq] at h; exact ByteArray.ext (Array.toList_inj.1 h), fun h => by rw [h]⟩
theorem bl_irrefl : ∀ l : List UInt8, Op.bytesLess l l = false
  | [] => rfl
  | a :: l => by simp [Op.bytesLess, bl_irrefl l, UInt8.lt_irrefl]
theorem bl_tri : ∀ l m : List UInt8, Op.bytesLess l m = true ∨ Op.bytesLess m l = true ∨ l = m
  | [], [] => .inr (.inr rfl)
  | [], _ :: _ => .inl rfl
  | _ :: _, [] => .inr (.inl rfl)
  | a :: l, b :: m => by
    simp only [Op.bytesLess, Bool.or_eq_true, decide_eq_true_eq, Bool.and_eq_true, beq_iff_eq, List.cons.injEq]
    rcases UInt8.lt_or_lt_of_ne (a := a) (b := b) |> fun h => (Classical.em (a = b)).imp_right h with h | h | h
    · subst h
      rcases bl_tri l m with h | h | h
      · exact .inl (.inr ⟨rfl, h⟩)
      · exact .inr (.inl (.inr ⟨rfl, h⟩))
      · exact .inr (.inr ⟨rfl, h⟩)
    · exact .inl (.inl h)
    · exact .inr (.inl (.inl h))
theorem bl_asymm : ∀ l m : List UInt8, Op.bytesLess l m = true → Op.bytesLess m l = false
  | l, [], h => by cases l <;> simp [Op.bytesLess] at h
  | [], _ :: _, _ => rfl
  | a :: l, b :: m, h => by
    simp only [Op.bytesLess, Bool.or_eq_true, decide_eq_true_eq, Bool.and_eq_true, beq_iff_eq] at h
    simp only [Op.bytesLess, Bool.or_eq_false_iff, decide_eq_false_iff_not, Bool.and_eq_false_iff, beq_eq_false_iff_ne]
    rcases h with h | ⟨rfl, h⟩
    · exact ⟨UInt8.lt_asymm h, .inl (fun e => by subst e; exact UInt8.lt_irrefl _ h)⟩
    · exact ⟨UInt8.lt_irrefl _, .inr (bl_asymm l m h)⟩
theorem slt_asymm {a b : ByteArray} (h : sltB a b = true) : sltB b a = false := bl_asymm _ _ h
theorem slt_tri (a b : ByteArray) : sltB a b = true ∨ sltB b a = true ∨ a = b := by
  rcases bl_tri a.toList b.toList with h | h | h
  · exact .inl h
  · exact .inr (.inl h)
  · exact .inr (.inr ((seqB_iff a b).1 (by simp [seqB, h])))
theorem slt_irrefl (a : ByteArray) : sltB a a = false := bl_irrefl _
theorem texts_does (a b : ByteArray) : Dz i_treillageref08_texts none [A.t (T.str a), A.t (T.str b)] (1, [A.t (T.int (cmpB a b))]) := by
  refine Does.now fun n => ?_
  rw [q_treillageref08_texts]
  simp only [txt_str, cmpB, neg1]
  rcases slt_tri a b with h | h | h
  · simp [h]
  · have h1 := slt_asymm h
    have h2 : seqB a b = false := by
      cases hs : seqB a b with
      | false => rfl
      | true => rw [(seqB_iff a b).1 hs, slt_irrefl] at h; cases h
    simp [h, h1, h2]
  · subst h
    have : seqB a a = true := (seqB_iff a a).2 rfl
    simp [slt_irrefl, this]
theorem nums_does (a b : Int) : Dz i_treillageref08_nums none [A.t (T.int a), A.t (T.int b)] (1, [A.t (T.int (cmpI a b))]) := by
  refine Does.now fun n => ?_
  rw [q_treillageref08_nums]
  simp only [num_int, tf_bool, txt_str, kids_node, tree_t, aAt_zero, aAt_succ, Option.map_some, Option.bind_some, Nat.beq_refl, Bool.cond_eq_ite, decide_eq_true_eq, decide_eq_false_iff_not, Bool.and_eq_true, Bool.or_eq_true, beq_iff_eq, beq_eq_false_iff_ne, bne_iff_ne, ne_eq, if_true, if_false, Int.toNat_natCast, Bool.false_eq_true, nb12, nb21, nb14, nb24, nb42, nb41, terms_eq, flds_eq, neg1]
  unfold cmpI
  split
  · rfl
  · split <;> rfl
theorem bools_does (a b : Bool) : Dz i_treillageref08_bools none [A.t (T.bool a), A.t (T.bool b)] (1, [A.t (T.int (cmpF1 a b))]) := by
  refine Does.now fun n => ?_
  rw [q_treillageref08_bools, tf_bool, tf_bool]
  cases a <;> cases b <;> rfl
theorem cmpI_zero {a b : Int} : cmpI a b = 0 ↔ a = b := by unfold cmpI; split <;> (try split) <;> omega
theorem cmpF1_zero {a b : Bool} : cmpF1 a b = 0 ↔ a = b := by cases a <;> cases b <;> simp [cmpF1]
theorem cmpB_zero {a b : ByteArray} : cmpB a b = 0 ↔ a = b := by
  unfold cmpB
  rcases slt_tri a b with h | h | h
  · simp [h]; intro e; subst e; rw [slt_irrefl] at h; cases h
  · simp [h, slt_asymm h]; intro e; subst e; rw [slt_irrefl] at h; cases h
  · subst h; simp [slt_irrefl]
theorem plain_does (t u : T) : Dz i_treillageref08_plain none [A.t t, A.t u] (1, [A.t (T.int (plainC t u))]) := by
  obtain ⟨n1, h1⟩ := nums_does (t.get 0).num (u.get 0).num
  obtain ⟨n2, h2⟩ := nums_does (t.get 1).num (u.get 1).num
  obtain ⟨n3, h3⟩ := nums_does (t.get 2).num (u.get 2).num
  obtain ⟨n4, h4⟩ := texts_does (t.get 3).txt (u.get 3).txt
  obtain ⟨n5, h5⟩ := bools_does (t.get 4).tf (u.get 4).tf
  obtain ⟨n6, h6⟩ := bools_does (t.get 5).tf (u.get 5).tf
  obtain ⟨n7, h7⟩ := bools_does (t.get 6).tf (u.get 6).tf
  refine Does.of (n1 + n2 + n3 + n4 + n5 + n6 + n7) fun n hn => ?_
  have hs : ∀ a b : ByteArray, ((!seqB a b) = true) = ¬ (a = b) := fun a b => by
    rw [Bool.not_eq_true', ← Bool.not_eq_true, seqB_iff]
  have hbb : ∀ a b : Bool, ((!(a == b)) = true) = ¬ (a = b) := fun a b => by cases a <;> cases b <;> simp
  rw [q_treillageref08_plain]
  simp only [num_int, tf_bool, txt_str, kids_node, tree_t, aAt_zero, aAt_succ, Option.map_some, Option.bind_some, Nat.beq_refl, Bool.cond_eq_ite, decide_eq_true_eq, decide_eq_false_iff_not, Bool.and_eq_true, Bool.or_eq_true, beq_iff_eq, beq_eq_false_iff_ne, bne_iff_ne, ne_eq, if_true, if_false, Int.toNat_natCast, Bool.false_eq_true, nb12, nb21, nb14, nb24, nb42, nb41, terms_eq, flds_eq, h1 n (by omega), h2 n (by omega), h3 n (by omega), h4 n (by omega), h5 n (by omega), h6 n (by omega), h7 n (by omega), hs, hbb]
  unfold plainC fst
  simp only [cmpI_zero, cmpB_zero, cmpF1_zero]
  have key : ∀ (p : Prop) [Decidable p] (x y : Int) (Y : Option (Nat × List A)), Y = some (1, [A.t (T.int y)]) → (if ¬ p then some (1, [A.t (T.int x)]) else Y) = some (1, [A.t (T.int (if p then y else x))]) := by
    intro p _ x y Y hY
    by_cases hp : p
    · rw [if_neg (fun h => h hp), if_pos hp, hY]
    · rw [if_pos hp, if_neg hp]
  exact key _ _ _ _ (key _ _ _ _ (key _ _ _ _ (key _ _ _ _ (key _ _ _ _ (key _ _ _ _ rfl)))))
/-! ### the document's order -/
theorem rterms_loop (d : Nat) (t u : T) (ht : (flds t).length ≤ 1000) (hu : (flds u).length ≤ 1000) (h : ∀ f ∈ flds t, ∀ g ∈ flds u, Dz i_treillageref08_Compare none [A.t (val f), A.t (val g)] (1, [A.t (T.int (cmpV d (val f) (val g)))])) :
    ∀ (k j : Nat), j + k = min (flds t).length (flds u).length →
      (Dz i_treillageref08_Terms (some p_treillageref08_Terms_c1) [A.t (T.int j), A.t t, A.t u] (2, [A.t t, A.t u]) ∧ cmpL (cmpG d) ((flds t).drop j) ((flds u).drop j) = cmpI (flds t).length (flds u).length) ∨
      Dz i_treillageref08_Terms (some p_treillageref08_Terms_c1) [A.t (T.int j), A.t t, A.t u] (1, [A.t (T.int (cmpL (cmpG d) ((flds t).drop j) ((flds u).drop j)))]) := by
  intro k
  induction k with
  | zero =>
    intro j hj
    left
    refine ⟨Does.now fun n => ?_, cmpL_end (cmpG d) (flds t) (flds u) j (by omega)⟩
    rw [q_treillageref08_Terms_c1]
    simp only [num_int, tf_bool, txt_str, kids_node, tree_t, aAt_zero, aAt_succ, Option.map_some, Option.bind_some, Nat.beq_refl, Bool.cond_eq_ite, decide_eq_true_eq, decide_eq_false_iff_not, Bool.and_eq_true, Bool.or_eq_true, beq_iff_eq, beq_eq_false_iff_ne, bne_iff_ne, ne_eq, if_true, if_false, Int.toNat_natCast, Bool.false_eq_true, nb12, nb21, nb14, nb24, nb42, nb41, terms_eq, flds_eq]
    by_cases h1 : j < (flds t).length
    · rw [if_pos (by omega), if_neg (by omega)]
    · rw [if_neg (by omega)]
  | succ k ih =>
    intro j hj
    have h1 : j < (flds t).length := by omega
    have h2 : j < (flds u).length := by omega
    have hw : IntKind.i64.wrap ((j : Int) + 1) = ((j + 1 : Nat) : Int) := i64succ (by omega)
    have hc := h _ (List.getElem_mem h1) _ (List.getElem_mem h2)
    rw [List.drop_eq_getElem_cons h1, List.drop_eq_getElem_cons h2, cmpL_cons]
    by_cases h0 : cmpB (nm (flds t)[j]) (nm (flds u)[j]) = 0
    · by_cases h3 : cmpV d (val (flds t)[j]) (val (flds u)[j]) = 0
      · have hz : cmpG d (flds t)[j] (flds u)[j] = 0 := by unfold cmpG; rw [h0, fst_zero, h3]
        have step : ∀ R, Dz i_treillageref08_Terms (some p_treillageref08_Terms_c1) [A.t (T.int (j + 1 : Nat)), A.t t, A.t u] R → Dz i_treillageref08_Terms (some p_treillageref08_Terms_c1) [A.t (T.int j), A.t t, A.t u] R := by
          intro R hR
          obtain ⟨n1, q1⟩ := texts_does (nm (flds t)[j]) (nm (flds u)[j])
          obtain ⟨n2, q2⟩ := hc
          obtain ⟨n3, q3⟩ := hR
          refine Does.of (n1 + n2 + n3) fun n hn => ?_
          rw [q_treillageref08_Terms_c1]
          simp only [num_int, tf_bool, txt_str, kids_node, tree_t, aAt_zero, aAt_succ, Option.map_some, Option.bind_some, Nat.beq_refl, Bool.cond_eq_ite, decide_eq_true_eq, decide_eq_false_iff_not, Bool.and_eq_true, Bool.or_eq_true, beq_iff_eq, beq_eq_false_iff_ne, bne_iff_ne, ne_eq, if_true, if_false, Int.toNat_natCast, Bool.false_eq_true, nb12, nb21, nb14, nb24, nb42, nb41, terms_eq, flds_eq, at_get h1, at_get h2, nm_eq, val_eq, q1 n (by omega), q2 n (by omega), h0, h3, hw]
          rw [if_pos (by omega), if_pos (by omega), if_pos (by omega), if_pos (by omega), if_pos (by omega), if_pos (by omega), if_neg (by simp)]
          exact q3 n (by omega)
        rw [hz, fst_zero]
        rcases ih (j + 1) (by omega) with ⟨h4, h5⟩ | h4
        · left; exact ⟨step _ h4, h5⟩
        · right; exact step _ h4
      · right
        have hz : cmpG d (flds t)[j] (flds u)[j] = cmpV d (val (flds t)[j]) (val (flds u)[j]) := by unfold cmpG; rw [h0, fst_zero]
        rw [hz, fst_ne h3]
        obtain ⟨n1, q1⟩ := texts_does (nm (flds t)[j]) (nm (flds u)[j])
        obtain ⟨n2, q2⟩ := hc
        refine Does.of (n1 + n2) fun n hn => ?_
        rw [q_treillageref08_Terms_c1]
        simp only [num_int, tf_bool, txt_str, kids_node, tree_t, aAt_zero, aAt_succ, Option.map_some, Option.bind_some, Nat.beq_refl, Bool.cond_eq_ite, decide_eq_true_eq, decide_eq_false_iff_not, Bool.and_eq_true, Bool.or_eq_true, beq_iff_eq, beq_eq_false_iff_ne, bne_iff_ne, ne_eq, if_true, if_false, Int.toNat_natCast, Bool.false_eq_true, nb12, nb21, nb14, nb24, nb42, nb41, terms_eq, flds_eq, at_get h1, at_get h2, nm_eq, val_eq, q1 n (by omega), q2 n (by omega), h0]
        rw [if_pos (by omega), if_pos (by omega), if_pos (by omega), if_pos (by omega), if_pos (by omega), if_pos (by omega), if_pos h3]
    · right
      have hz : cmpG d (flds t)[j] (flds u)[j] = cmpB (nm (flds t)[j]) (nm (flds u)[j]) := by unfold cmpG; rw [fst_ne h0]
      rw [hz, fst_ne h0]
      obtain ⟨n1, q1⟩ := texts_does (nm (flds t)[j]) (nm (flds u)[j])
      refine Does.of n1 fun n hn => ?_
      rw [q_treillageref08_Terms_c1]
      simp only [num_int, tf_bool, txt_str, kids_node, tree_t, aAt_zero, aAt_succ, Option.map_some, Option.bind_some, Nat.beq_refl, Bool.cond_eq_ite, decide_eq_true_eq, decide_eq_false_iff_not, Bool.and_eq_true, Bool.or_eq_true, beq_iff_eq, beq_eq_false_iff_ne, bne_iff_ne, ne_eq, if_true, if_false, Int.toNat_natCast, Bool.false_eq_true, nb12, nb21, nb14, nb24, nb42, nb41, terms_eq, flds_eq, at_get h1, at_get h2, nm_eq, val_eq, q1 n (by omega)]
      rw [if_pos (by omega), if_pos (by omega), if_pos (by omega), if_pos (by omega), if_neg h0, if_pos h0]
theorem rterms_does (d : Nat) (t u : T) (ht : (flds t).length ≤ 1000) (hu : (flds u).length ≤ 1000) (h : ∀ f ∈ flds t, ∀ g ∈ flds u, Dz i_treillageref08_Compare none [A.t (val f), A.t (val g)] (1, [A.t (T.int (cmpV d (val f) (val g)))])) :
    Dz i_treillageref08_Terms none [A.t t, A.t u] (1, [A.t (T.int (cmpT d t u))]) := by
  obtain ⟨n1, q1⟩ := plain_does t u
  by_cases h0 : plainC t u = 0
  · have hz : cmpT d t u = cmpL (cmpG d) (flds t) (flds u) := by unfold cmpT; rw [h0, fst_zero]
    rw [hz]
    rcases rterms_loop d t u ht hu h (min (flds t).length (flds u).length) 0 (by omega) with ⟨⟨n2, q2⟩, h2⟩ | ⟨n2, q2⟩
    · rw [List.drop_zero, List.drop_zero] at h2
      obtain ⟨n3, q3⟩ := nums_does (flds t).length (flds u).length
      refine Does.of (n1 + n2 + n3) fun n hn => ?_
      have q2' : den Tryd.prog G0 ents n i_treillageref08_Terms (some p_treillageref08_Terms_c1) [A.t (T.int 0), A.t t, A.t u] = _ := q2 n (by omega)
      rw [q_treillageref08_Terms, h2]
      simp only [num_int, tf_bool, txt_str, kids_node, tree_t, aAt_zero, aAt_succ, Option.map_some, Option.bind_some, Nat.beq_refl, Bool.cond_eq_ite, decide_eq_true_eq, decide_eq_false_iff_not, Bool.and_eq_true, Bool.or_eq_true, beq_iff_eq, beq_eq_false_iff_ne, bne_iff_ne, ne_eq, if_true, if_false, Int.toNat_natCast, Bool.false_eq_true, nb12, nb21, nb14, nb24, nb42, nb41, terms_eq, flds_eq, q1 n (by omega), h0, q2', q3 n (by omega), not_true_eq_false]
    · refine Does.of (n1 + n2) fun n hn => ?_
      have q2' : den Tryd.prog G0 ents n i_treillageref08_Terms (some p_treillageref08_Terms_c1) [A.t (T.int 0), A.t t, A.t u] = _ := q2 n (by omega)
      rw [q_treillageref08_Terms]
      simp only [num_int, tf_bool, txt_str, kids_node, tree_t, aAt_zero, aAt_succ, Option.map_some, Option.bind_some, Nat.beq_refl, Bool.cond_eq_ite, decide_eq_true_eq, decide_eq_false_iff_not, Bool.and_eq_true, Bool.or_eq_true, beq_iff_eq, beq_eq_false_iff_ne, bne_iff_ne, ne_eq, if_true, if_false, Int.toNat_natCast, Bool.false_eq_true, nb12, nb21, nb14, nb24, nb42, nb41, terms_eq, flds_eq, q1 n (by omega), h0, q2', not_true_eq_false, List.drop_zero]
  · have hz : cmpT d t u = plainC t u := by unfold cmpT; rw [fst_ne h0]
    refine Does.of n1 fun n hn => ?_
    rw [q_treillageref08_Terms, hz]
    simp only [num_int, tf_bool, txt_str, kids_node, tree_t, aAt_zero, aAt_succ, Option.map_some, Option.bind_some, Nat.beq_refl, Bool.cond_eq_ite, decide_eq_true_eq, decide_eq_false_iff_not, Bool.and_eq_true, Bool.or_eq_true, beq_iff_eq, beq_eq_false_iff_ne, bne_iff_ne, ne_eq, if_true, if_false, Int.toNat_natCast, Bool.false_eq_true, nb12, nb21, nb14, nb24, nb42, nb41, terms_eq, flds_eq, q1 n (by omega)]
    rw [if_pos h0]
theorem rcomp_loop (d : Nat) (a b : T) (ha : (terms a).length ≤ 1000) (hb : (terms b).length ≤ 1000) (h : ∀ t ∈ terms a, ∀ u ∈ terms b, Dz i_treillageref08_Terms none [A.t t, A.t u] (1, [A.t (T.int (cmpT d t u))])) :
    ∀ (k j : Nat), j + k = min (terms a).length (terms b).length →
      (Dz i_treillageref08_Compare (some p_treillageref08_Compare_c1) [A.t (T.int j), A.t a, A.t b] (2, [A.t a, A.t b]) ∧ cmpL (cmpT d) ((terms a).drop j) ((terms b).drop j) = cmpI (terms a).length (terms b).length) ∨
      Dz i_treillageref08_Compare (some p_treillageref08_Compare_c1) [A.t (T.int j), A.t a, A.t b] (1, [A.t (T.int (cmpL (cmpT d) ((terms a).drop j) ((terms b).drop j)))]) := by
  intro k
  induction k with
  | zero =>
    intro j hj
    left
    refine ⟨Does.now fun n => ?_, cmpL_end (cmpT d) (terms a) (terms b) j (by omega)⟩
    rw [q_treillageref08_Compare_c1]
    simp only [num_int, tf_bool, txt_str, kids_node, tree_t, aAt_zero, aAt_succ, Option.map_some, Option.bind_some, Nat.beq_refl, Bool.cond_eq_ite, decide_eq_true_eq, decide_eq_false_iff_not, Bool.and_eq_true, Bool.or_eq_true, beq_iff_eq, beq_eq_false_iff_ne, bne_iff_ne, ne_eq, if_true, if_false, Int.toNat_natCast, Bool.false_eq_true, nb12, nb21, nb14, nb24, nb42, nb41, terms_eq, flds_eq]
    by_cases h1 : j < (terms a).length
    · rw [if_pos (by omega), if_neg (by omega)]
    · rw [if_neg (by omega)]
  | succ k ih =>
    intro j hj
    have h1 : j < (terms a).length := by omega
    have h2 : j < (terms b).length := by omega
    have hw : IntKind.i64.wrap ((j : Int) + 1) = ((j + 1 : Nat) : Int) := i64succ (by omega)
    have hc := h _ (List.getElem_mem h1) _ (List.getElem_mem h2)
    rw [List.drop_eq_getElem_cons h1, List.drop_eq_getElem_cons h2, cmpL_cons]
    by_cases h0 : cmpT d (terms a)[j] (terms b)[j] = 0
    · have step : ∀ R, Dz i_treillageref08_Compare (some p_treillageref08_Compare_c1) [A.t (T.int (j + 1 : Nat)), A.t a, A.t b] R → Dz i_treillageref08_Compare (some p_treillageref08_Compare_c1) [A.t (T.int j), A.t a, A.t b] R := by
        intro R hR
        obtain ⟨n0, h⟩ := hc.both hR
        refine Does.of n0 fun n hn => ?_
        obtain ⟨q1, q2⟩ := h n hn
        rw [q_treillageref08_Compare_c1]
        simp only [num_int, tf_bool, txt_str, kids_node, tree_t, aAt_zero, aAt_succ, Option.map_some, Option.bind_some, Nat.beq_refl, Bool.cond_eq_ite, decide_eq_true_eq, decide_eq_false_iff_not, Bool.and_eq_true, Bool.or_eq_true, beq_iff_eq, beq_eq_false_iff_ne, bne_iff_ne, ne_eq, if_true, if_false, Int.toNat_natCast, Bool.false_eq_true, nb12, nb21, nb14, nb24, nb42, nb41, terms_eq, flds_eq, at_get h1, at_get h2, q1, h0, hw]
        rw [if_pos (by omega), if_pos (by omega), if_pos (by omega), if_pos (by omega), if_neg (by simp)]
        exact q2
      rw [h0, fst_zero]
      rcases ih (j + 1) (by omega) with ⟨h3, h4⟩ | h3
      · left; exact ⟨step _ h3, h4⟩
      · right; exact step _ h3
    · right
      rw [fst_ne h0]
      obtain ⟨n0, h⟩ := hc
      refine Does.of n0 fun n hn => ?_
      rw [q_treillageref08_Compare_c1]
      simp only [num_int, tf_bool, txt_str, kids_node, tree_t, aAt_zero, aAt_succ, Option.map_some, Option.bind_some, Nat.beq_refl, Bool.cond_eq_ite, decide_eq_true_eq, decide_eq_false_iff_not, Bool.and_eq_true, Bool.or_eq_true, beq_iff_eq, beq_eq_false_iff_ne, bne_iff_ne, ne_eq, if_true, if_false, Int.toNat_natCast, Bool.false_eq_true, nb12, nb21, nb14, nb24, nb42, nb41, terms_eq, flds_eq, at_get h1, at_get h2, h n hn]
      rw [if_pos (by omega), if_pos (by omega), if_pos (by omega), if_pos (by omega), if_pos h0]
theorem rcompare_does : ∀ (d : Nat) (a b : T), Sm d a → Sm d b → Dz i_treillageref08_Compare none [A.t a, A.t b] (1, [A.t (T.int (cmpV d a b))])
  | 0, a, b, h, _ => h.1.elim
  | d + 1, a, b, ha, hb => by
    have la := ha.terms
    have lb := hb.terms
    rw [cmpV_succ]
    have hT : ∀ t ∈ terms a, ∀ u ∈ terms b, Dz i_treillageref08_Terms none [A.t t, A.t u] (1, [A.t (T.int (cmpT d t u))]) := fun t ht u hu =>
      rterms_does d t u (by have := ha.flds ht; omega) (by have := hb.flds hu; omega) (fun f hf g hg => rcompare_does d _ _ (ha.sub ht hf) (hb.sub hu hg))
    rcases rcomp_loop d a b (by omega) (by omega) hT (min (terms a).length (terms b).length) 0 (by omega) with ⟨⟨n2, q2⟩, h2⟩ | ⟨n2, q2⟩
    · rw [List.drop_zero, List.drop_zero] at h2
      obtain ⟨n3, q3⟩ := nums_does (terms a).length (terms b).length
      refine Does.of (n2 + n3) fun n hn => ?_
      have q2' : den Tryd.prog G0 ents n i_treillageref08_Compare (some p_treillageref08_Compare_c1) [A.t (T.int 0), A.t a, A.t b] = _ := q2 n (by omega)
      rw [q_treillageref08_Compare, h2]
      simp only [num_int, tf_bool, txt_str, kids_node, tree_t, aAt_zero, aAt_succ, Option.map_some, Option.bind_some, Nat.beq_refl, Bool.cond_eq_ite, decide_eq_true_eq, decide_eq_false_iff_not, Bool.and_eq_true, Bool.or_eq_true, beq_iff_eq, beq_eq_false_iff_ne, bne_iff_ne, ne_eq, if_true, if_false, Int.toNat_natCast, Bool.false_eq_true, nb12, nb21, nb14, nb24, nb42, nb41, terms_eq, flds_eq, q2', q3 n (by omega)]
    · refine Does.of n2 fun n hn => ?_
      have q2' : den Tryd.prog G0 ents n i_treillageref08_Compare (some p_treillageref08_Compare_c1) [A.t (T.int 0), A.t a, A.t b] = _ := q2 n (by omega)
      rw [q_treillageref08_Compare]
      simp only [num_int, tf_bool, txt_str, kids_node, tree_t, aAt_zero, aAt_succ, Option.map_some, Option.bind_some, Nat.beq_refl, Bool.cond_eq_ite, decide_eq_true_eq, decide_eq_false_iff_not, Bool.and_eq_true, Bool.or_eq_true, beq_iff_eq, beq_eq_false_iff_ne, bne_iff_ne, ne_eq, if_true, if_false, Int.toNat_natCast, Bool.false_eq_true, nb12, nb21, nb14, nb24, nb42, nb41, terms_eq, flds_eq, q2', List.drop_zero]
theorem rt_does {d : Nat} {t u : T} (ht : SmT d t) (hu : SmT d u) : Dz i_treillageref08_Terms none [A.t t, A.t u] (1, [A.t (T.int (cmpT d t u))]) :=
  rterms_does d t u (by have := ht.1; omega) (by have := hu.1; omega) (fun f hf g hg => rcompare_does d _ _ (ht.2 f hf) (hu.2 g hg))
end Go.Proofs.YtpfglhjgjfhkjaaDoorCP
namespace Go.Proofs.YtpfglhjgjfhkjaaDoorCP
open Go Go.Proofs.YtpfglhjgjfhkjaaDoorVM
set_option linter.unusedVariables false
set_option linter.unusedSimpArgs false
set_option maxRecDepth 100000

/-! ### scalars, plain -/
def kd (t : T) : Int := (t.get 0).num
def lo (t : T) : Int := (t.get 1).num
def hi (t : T) : Int := (t.get 2).num
def tx (t : T) : ByteArray := (t.get 3).txt
def an (t : T) : Bool := (t.get 4).tf
def mb (t : T) : Bool := (t.get 5).tf
def op (t : T) : Bool := (t.get 6).tf
def emptyB : ByteArray := ⟨#[]⟩
def one (t : T) : Bool := if kd t = 3 then !an t else decide (lo t = hi t)
/-- A right scalar's own condition. -/
def rightK (k l h : Int) (x : ByteArray) (a : Bool) : Bool :=
  if k = 3 then decide (l = 0) && decide (h = 0) && (if a then decide (x = emptyB) else decide (x.size ≤ 256))
  else if k = 2 then decide (-9007199254740992 ≤ l) && decide (l ≤ h) && decide (h ≤ 9007199254740992) && decide (x = emptyB) && !a
  else if k = 1 then decide (0 ≤ l) && decide (l ≤ h) && decide (h ≤ 1) && decide (x = emptyB) && !a
  else false
def rightS (t : T) : Bool := !op t && decide ((flds t).length = 0) && !(mb t && one t) && rightK (kd t) (lo t) (hi t) (tx t) (an t)
theorem kd_eq (t : T) : (T.get t 0).num = kd t := id rfl
theorem lo_eq (t : T) : (T.get t 1).num = lo t := id rfl
theorem hi_eq (t : T) : (T.get t 2).num = hi t := id rfl
theorem tx_eq (t : T) : (T.get t 3).txt = tx t := id rfl
theorem an_eq (t : T) : (T.get t 4).tf = an t := id rfl
theorem mb_eq (t : T) : (T.get t 5).tf = mb t := id rfl
theorem op_eq (t : T) : (T.get t 6).tf = op t := id rfl
theorem seq_dec (a b : ByteArray) : seqB a b = decide (a = b) := by
  cases h : seqB a b with
  | true => rw [(seqB_iff a b).1 h]; simp
  | false =>
    symm
    rw [decide_eq_false_iff_not]
    intro e
    rw [(seqB_iff a b).2 e] at h
    cases h
theorem eb_eq : (ByteArray.mk (List.toArray [])) = emptyB := id rfl
theorem e0_zero (n : Nat) : (((n : Nat) : Int) = 0) = (n = 0) := by simp
/-- Answers, joined. -/
theorem coll (p : Prop) [Decidable p] (b c : Bool) : (if p then some ((1 : Nat), [A.t (T.bool b)]) else some (1, [A.t (T.bool c)])) = some (1, [A.t (T.bool (if p then b else c))]) := by split <;> rfl
theorem ans {b c : Bool} (h : b = c) : some ((1 : Nat), [A.t (T.bool b)]) = some (1, [A.t (T.bool c)]) := by rw [h]
theorem bare_does (t : T) : Dz i_scalar_bare none [A.t t] (1, [A.t (T.bool (!op t && decide ((flds t).length = 0)))]) := by
  refine Does.now fun n => ?_
  rw [q_scalar_bare]
  simp only [flds_eq, op_eq]
  have hb : (((flds t).length : Int) == 0) = decide ((flds t).length = 0) := by
    rw [Bool.eq_iff_iff]; simp
  rw [hb]
  cases op t <;> simp
theorem one_does (t : T) : Dz i_scalar_one none [A.t t] (1, [A.t (T.bool (one t))]) := by
  refine Does.now fun n => ?_
  rw [q_scalar_one]
  simp only [kd_eq, lo_eq, hi_eq, an_eq, one]
  by_cases h : kd t = 3
  · simp [h]
  · simp [h, Bool.beq_eq_decide_eq]
theorem single_does (t : T) : Dz i_treillageref07_Single none [A.t t] (1, [A.t (T.bool (one t))]) := by
  refine Does.now fun n => ?_
  rw [q_treillageref07_Single]
  simp only [kd_eq, lo_eq, hi_eq, an_eq, one]
  by_cases h : kd t = 3
  · simp [h]
  · simp [h, Bool.beq_eq_decide_eq]
theorem sright_does (t : T) : Dz i_scalar_Right none [A.t t] (1, [A.t (T.bool (rightS t))]) := by
  obtain ⟨n0, h0⟩ := (bare_does t).both (one_does t)
  refine Does.of n0 fun n hn => ?_
  obtain ⟨q1, q2⟩ := h0 n hn
  rw [q_scalar_Right, q1, q2]
  simp only [Option.map_some, Option.bind_some, aAt_zero, tree_t, tf_bool, kd_eq, lo_eq, hi_eq, tx_eq, an_eq, mb_eq, seq_dec, eb_eq, rightS, rightK, show (Int.negSucc 9007199254740991) = -9007199254740992 from rfl, Bool.cond_eq_ite, Bool.beq_eq_decide_eq, coll]
  apply ans
  generalize one t = o
  generalize op t = w
  generalize mb t = m
  generalize an t = a
  generalize tx t = x
  generalize lo t = l
  generalize hi t = h
  generalize kd t = k
  generalize (flds t).length = fl
  grind
theorem rright_does (t : T) : Dz i_treillageref07_Right none [A.t t] (1, [A.t (T.bool (rightS t))]) := by
  obtain ⟨n0, q2⟩ := single_does t
  refine Does.of n0 fun n hn => ?_
  rw [q_treillageref07_Right, q2 n hn]
  simp only [Option.map_some, Option.bind_some, aAt_zero, tree_t, tf_bool, kd_eq, lo_eq, hi_eq, tx_eq, an_eq, mb_eq, op_eq, flds_eq, seq_dec, eb_eq, rightS, rightK, show (Int.negSucc 9007199254740991) = -9007199254740992 from rfl, Bool.cond_eq_ite, Bool.beq_eq_decide_eq, coll]
  apply ans
  generalize one t = o
  generalize op t = w
  generalize mb t = m
  generalize an t = a
  generalize tx t = x
  generalize lo t = l
  generalize hi t = h
  generalize kd t = k
  generalize (flds t).length = fl
  have h5 : decide (((fl : Nat) : Int) > 0) = !decide (fl = 0) := by rw [Bool.eq_iff_iff]; simp; omega
  rw [h5]
  have h6 : decide (((x.size : Nat) : Int) > 256) = !decide (x.size ≤ 256) := by rw [Bool.eq_iff_iff]; simp; omega
  have h7 : (((x.size : Nat) : Int) > 256) = ¬ (x.size ≤ 256) := by simp; omega
  simp only [h6, h7]
  have hx : x = emptyB → x.size ≤ 256 := fun e => by subst e; decide
  cases o <;> cases w <;> cases m <;> cases a <;> simp only [Bool.not_true, Bool.not_false, Bool.true_and, Bool.and_true, Bool.false_and, Bool.and_false, if_true, if_false, Bool.false_eq_true] <;> grind
/-- The same scalar, both right. -/
def sameS (a b : T) : Bool := rightS a && rightS b && decide (kd a = kd b) && decide (lo a = lo b) && decide (hi a = hi b) && decide (tx a = tx b) && decide (an a = an b) && decide (mb a = mb b)
theorem ssame_does (a b : T) : Dz i_scalar_Same none [A.t a, A.t b] (1, [A.t (T.bool (sameS a b))]) := by
  obtain ⟨n0, h0⟩ := (sright_does a).both (sright_does b)
  refine Does.of n0 fun n hn => ?_
  obtain ⟨q1, q2⟩ := h0 n hn
  rw [q_scalar_Same, q1]
  simp only [q2, Option.map_some, Option.bind_some, aAt_zero, tree_t, tf_bool, kd_eq, lo_eq, hi_eq, tx_eq, an_eq, mb_eq, seq_dec, Bool.cond_eq_ite, Bool.beq_eq_decide_eq, coll]
  apply ans
  unfold sameS
  generalize rightS a = r
  generalize rightS b = r'
  grind
theorem rsame_does (a b : T) : Dz i_treillageref07_Same none [A.t a, A.t b] (1, [A.t (T.bool (sameS a b))]) := by
  obtain ⟨n0, h0⟩ := (rright_does a).both (rright_does b)
  refine Does.of n0 fun n hn => ?_
  obtain ⟨q1, q2⟩ := h0 n hn
  rw [q_treillageref07_Same, q1]
  simp only [q2, Option.map_some, Option.bind_some, aAt_zero, tree_t, tf_bool, kd_eq, lo_eq, hi_eq, tx_eq, an_eq, mb_eq, seq_dec, Bool.cond_eq_ite, Bool.beq_eq_decide_eq, coll]
  apply ans
  unfold sameS
  generalize rightS a = r
  generalize rightS b = r'
  grind
end Go.Proofs.YtpfglhjgjfhkjaaDoorCP
namespace Go.Proofs.YtpfglhjgjfhkjaaDoorCP
open Go Go.Proofs.YtpfglhjgjfhkjaaDoorVM
set_option linter.unusedVariables false
set_option linter.unusedSimpArgs false
set_option maxRecDepth 100000

def trm (k l h : Int) (x : ByteArray) (a m o : Bool) (f : List T) : T := .node [.int k, .int l, .int h, .str x, .bool a, .bool m, .bool o, .node f]
theorem kd_trm (k l h : Int) (x : ByteArray) (a m o : Bool) (f : List T) : kd (trm k l h x a m o f) = k := id rfl
theorem lo_trm (k l h : Int) (x : ByteArray) (a m o : Bool) (f : List T) : lo (trm k l h x a m o f) = l := id rfl
theorem hi_trm (k l h : Int) (x : ByteArray) (a m o : Bool) (f : List T) : hi (trm k l h x a m o f) = h := id rfl
theorem tx_trm (k l h : Int) (x : ByteArray) (a m o : Bool) (f : List T) : tx (trm k l h x a m o f) = x := id rfl
theorem an_trm (k l h : Int) (x : ByteArray) (a m o : Bool) (f : List T) : an (trm k l h x a m o f) = a := id rfl
theorem mb_trm (k l h : Int) (x : ByteArray) (a m o : Bool) (f : List T) : mb (trm k l h x a m o f) = m := id rfl
def noTrm : T := trm 0 0 0 emptyB false false false []
/-- What two right scalars of a kind have in common, but for 'Maybe'. -/
def mX (a b : T) : ByteArray := if an a then tx b else tx a
def m0 (a b : T) (m : Bool) : T := trm (kd a) (maxI (lo a) (lo b)) (minI (hi a) (hi b)) (mX a b) (an a && an b) m false []
def okM (a b : T) : Bool := rightS a && rightS b && decide (kd a = kd b) && !decide (maxI (lo a) (lo b) > minI (hi a) (hi b)) && (an a || an b || decide (tx a = tx b))
def mT (a b : T) : T := m0 a b ((mb a || mb b) && !one (m0 a b false))
theorem noTrm_eq : T.node [T.int 0, T.int 0, T.int 0, T.str ByteArray.empty, T.bool false, T.bool false, T.bool false, T.node []] = noTrm := id rfl
theorem trm_eq (k l h : Int) (x : ByteArray) (a m o : Bool) (f : List T) : T.node [T.int k, T.int l, T.int h, T.str x, T.bool a, T.bool m, T.bool o, T.node f] = trm k l h x a m o f := id rfl
theorem one_m (a b : T) (m : Bool) : one (m0 a b m) = one (m0 a b false) := id rfl
theorem smeet_does (a b : T) : Dz i_scalar_Meet none [A.t a, A.t b] (1, if okM a b then [A.t (mT a b), A.t (T.bool true)] else [A.t noTrm, A.t (T.bool false)]) := by
  obtain ⟨n1, h1⟩ := (sright_does a).both (sright_does b)
  obtain ⟨n2, h2⟩ := one_does (m0 a b false)
  refine Does.of (n1 + n2) fun n hn => ?_
  obtain ⟨q1, q2⟩ := h1 n (by omega)
  have q3 := h2 n (by omega)
  rw [q_scalar_Meet, q1]
  simp only [q2, Option.map_some, Option.bind_some, aAt_zero, aAt_succ, tree_t, tf_bool, kd_eq, lo_eq, hi_eq, tx_eq, an_eq, mb_eq, seq_dec, Bool.cond_eq_ite, Bool.beq_eq_decide_eq, noTrm_eq, trm_eq, okM, mT]
  have bb : ∀ x : Bool, x = true ∨ x = false := fun x => by cases x <;> simp
  have hno : trm 0 0 0 ByteArray.empty false false false [] = noTrm := rfl
  have hsw : ∀ (p q : ByteArray), (p = q) = (p = q) := fun _ _ => rfl
  rcases bb (rightS a) with ra | ra
  · rcases bb (rightS b) with rb | rb
    · by_cases hk : kd a = kd b
      · by_cases hl : maxI (lo a) (lo b) > minI (hi a) (hi b)
        · rcases bb (an a) with ha | ha <;> simp [ra, rb, hk, hl, ha, hno]
        · unfold m0 mX at q3 ⊢
          rcases bb (an a) with ha | ha <;> rcases bb (an b) with hb | hb <;> rcases bb (mb a) with hma | hma <;> rcases bb (mb b) with hmb | hmb <;> by_cases hx : tx a = tx b <;> simp [ra, rb, hk, hl, ha, hb, hma, hmb, hx, hno] at q3 ⊢ <;> simp_all <;> rfl
      · simp [ra, rb, hk, hno]
    · simp [ra, rb, hno]
  · simp [ra, hno]
theorem maxI_pos {a b : Int} (h : b > a) : maxI a b = b := if_pos h
theorem maxI_neg {a b : Int} (h : ¬ b > a) : maxI a b = a := if_neg h
theorem minI_pos {a b : Int} (h : b < a) : minI a b = b := if_pos h
theorem minI_neg {a b : Int} (h : ¬ b < a) : minI a b = a := if_neg h
theorem right_op {t : T} (h : rightS t = true) : op t = false ∧ flds t = [] ∧ (kd t ≠ 3 → an t = false ∧ tx t = emptyB) := by
  unfold rightS rightK at h
  simp only [Bool.and_eq_true, Bool.not_eq_true', decide_eq_true_eq] at h
  refine ⟨h.1.1.1, List.eq_nil_of_length_eq_zero h.1.1.2, fun hk => ?_⟩
  have h2 := h.2
  rw [if_neg hk] at h2
  split at h2
  · simp at h2; exact ⟨h2.2, h2.1.2⟩
  · split at h2
    · simp at h2; exact ⟨h2.2, h2.1.2⟩
    · cases h2
set_option maxHeartbeats 4000000 in
theorem rmeet_does (a b : T) : Dz i_treillageref07_Meet none [A.t a, A.t b] (1, if okM a b then [A.t (mT a b), A.t (T.bool true)] else [A.t noTrm, A.t (T.bool false)]) := by
  obtain ⟨n1, h1⟩ := (rright_does a).both (rright_does b)
  obtain ⟨n2, h2⟩ := single_does (m0 a b false)
  refine Does.of (n1 + n2) fun n hn => ?_
  obtain ⟨q1, q2⟩ := h1 n (by omega)
  have q3 := h2 n (by omega)
  rw [q_treillageref07_Meet, q1]
  simp only [q2, Option.map_some, Option.bind_some, aAt_zero, aAt_succ, tree_t, tf_bool, kd_eq, lo_eq, hi_eq, tx_eq, an_eq, mb_eq, op_eq, flds_eq, seq_dec, Bool.cond_eq_ite, Bool.beq_eq_decide_eq, noTrm_eq, trm_eq, okM, mT]
  have bb : ∀ x : Bool, x = true ∨ x = false := fun x => by cases x <;> simp
  have hno : trm 0 0 0 ByteArray.empty false false false [] = noTrm := rfl
  rcases bb (rightS a) with ra | ra
  · rcases bb (rightS b) with rb | rb
    · obtain ⟨oa, fa, ka⟩ := right_op ra
      obtain ⟨ob, fb, kb⟩ := right_op rb
      by_cases hk : kd a = kd b
      · unfold m0 mX at q3 ⊢
        by_cases h3 : kd b = 3
        · by_cases g1 : lo b > lo a <;> by_cases g2 : hi b < hi a <;> simp only [maxI_pos, maxI_neg, minI_pos, minI_neg, g1, g2, not_false_eq_true] at q3 ⊢ <;>
            rcases bb (an a) with ha | ha <;> rcases bb (an b) with hb | hb <;> rcases bb (mb a) with hma | hma <;> rcases bb (mb b) with hmb | hmb <;> by_cases hx : tx a = tx b <;>
            simp [ra, rb, hk, h3, ha, hb, hma, hmb, hx, hno, oa, fa, g1, g2] at q3 ⊢ <;> (try (split <;> simp_all <;> (try rfl)))
        · obtain ⟨ha, xa⟩ := ka (by rw [hk]; exact h3)
          obtain ⟨hb, xb⟩ := kb h3
          by_cases g1 : lo b > lo a <;> by_cases g2 : hi b < hi a <;> simp only [maxI_pos, maxI_neg, minI_pos, minI_neg, g1, g2, not_false_eq_true] at q3 ⊢ <;>
            rcases bb (mb a) with hma | hma <;> rcases bb (mb b) with hmb | hmb <;>
            simp [ra, rb, hk, h3, ha, hb, xa, xb, hma, hmb, hno, oa, fa, g1, g2] at q3 ⊢ <;> (try (split <;> simp_all <;> (try rfl)))
          all_goals (simp only [aAt_zero, tree_t, tf_bool]; split <;> simp_all)
      · simp [ra, rb, hk, hno]
    · simp [ra, rb, hno]
  · simp [ra, hno]
/-- Below, of scalars. -/
def belowS (a b : T) : Bool := okM a b && sameS (mT a b) a
theorem sbelow_does (a b : T) : Dz i_scalar_Below none [A.t a, A.t b] (1, [A.t (T.bool (belowS a b))]) := by
  obtain ⟨n1, h1⟩ := (smeet_does a b).both (ssame_does (mT a b) a)
  refine Does.of n1 fun n hn => ?_
  obtain ⟨q1, q2⟩ := h1 n hn
  rw [q_scalar_Below, q1]
  unfold belowS
  cases h : okM a b with
  | true => simp [aAt_zero, aAt_succ, tree_t, tf_bool, q2]
  | false => simp [aAt_zero, aAt_succ, tree_t, tf_bool]
theorem rbelow_does (a b : T) : Dz i_treillageref07_Below none [A.t a, A.t b] (1, [A.t (T.bool (belowS a b))]) := by
  obtain ⟨n1, h1⟩ := (rmeet_does a b).both (rsame_does (mT a b) a)
  refine Does.of n1 fun n hn => ?_
  obtain ⟨q1, q2⟩ := h1 n hn
  rw [q_treillageref07_Below, q1]
  unfold belowS
  cases h : okM a b with
  | true => simp [aAt_zero, aAt_succ, tree_t, tf_bool, q2]
  | false => simp [aAt_zero, aAt_succ, tree_t, tf_bool]
end Go.Proofs.YtpfglhjgjfhkjaaDoorCP
namespace Go.Proofs.YtpfglhjgjfhkjaaDoorCP
open Go Go.Proofs.YtpfglhjgjfhkjaaDoorVM
set_option linter.unusedVariables false
set_option linter.unusedSimpArgs false
set_option maxRecDepth 100000

/-! ### names -/
theorem nameR_eq (n : Nat) (a : ByteArray) : den Tryd.prog G0 ents (Nat.succ n) i_name_Right none [A.t (T.str a)] = some (1, [A.t (T.bool (nameB a))]) := by kernel_rfl
theorem nameR_does (a : ByteArray) : Dz i_name_Right none [A.t (T.str a)] (1, [A.t (T.bool (nameB a))]) := Does.now fun n => nameR_eq n a
theorem collI (p : Prop) [Decidable p] (b c : Int) : (if p then some ((1 : Nat), [A.t (T.int b)]) else some (1, [A.t (T.int c)])) = some (1, [A.t (T.int (if p then b else c))]) := by split <;> rfl
theorem ansI {b c : Int} (h : b = c) : some ((1 : Nat), [A.t (T.int b)]) = some (1, [A.t (T.int c)]) := by rw [h]
theorem seq_comm (a b : ByteArray) : seqB a b = seqB b a := by
  rw [seq_dec, seq_dec]
  exact decide_eq_decide.2 ⟨Eq.symm, Eq.symm⟩
def wordN (s : ByteArray) : Int := if seqB s ⟨#[97, 110, 121]⟩ = true then 1 else if seqB s ⟨#[98, 111, 111, 108]⟩ = true then 2 else if seqB s ⟨#[99, 111, 109, 112, 117, 116, 101, 100]⟩ = true then 3 else if seqB s ⟨#[102, 97, 108, 115, 101]⟩ = true then 4 else if seqB s ⟨#[105, 110, 116]⟩ = true then 5 else if seqB s ⟨#[110, 111, 110, 101]⟩ = true then 6 else if seqB s ⟨#[114, 101, 115, 111, 117, 114, 99, 101]⟩ = true then 7 else if seqB s ⟨#[115, 116, 114, 105, 110, 103]⟩ = true then 8 else if seqB s ⟨#[116, 114, 117, 101]⟩ = true then 9 else 0
theorem word_does (s : ByteArray) : Dz i_treillageref02_Word none [A.t (T.str s)] (1, [A.t (T.int (wordN s))]) := by
  refine Does.now fun n => ?_
  rw [q_treillageref02_Word]
  simp only [txt_str, Bool.cond_eq_ite, collI]
  rfl
theorem wordN_pos (s : ByteArray) : decide (wordN s > 0) = wordsL.any fun w => seqB w s := by
  simp only [wordsL, List.any_cons, List.any_nil, Bool.or_false]
  rw [seq_comm ⟨#[97, 110, 121]⟩ s, seq_comm ⟨#[98, 111, 111, 108]⟩ s, seq_comm ⟨#[99, 111, 109, 112, 117, 116, 101, 100]⟩ s, seq_comm ⟨#[102, 97, 108, 115, 101]⟩ s, seq_comm ⟨#[105, 110, 116]⟩ s, seq_comm ⟨#[110, 111, 110, 101]⟩ s, seq_comm ⟨#[114, 101, 115, 111, 117, 114, 99, 101]⟩ s, seq_comm ⟨#[115, 116, 114, 105, 110, 103]⟩ s, seq_comm ⟨#[116, 114, 117, 101]⟩ s]
  unfold wordN
  generalize seqB s ⟨#[97, 110, 121]⟩ = b0
  generalize seqB s ⟨#[98, 111, 111, 108]⟩ = b1
  generalize seqB s ⟨#[99, 111, 109, 112, 117, 116, 101, 100]⟩ = b2
  generalize seqB s ⟨#[102, 97, 108, 115, 101]⟩ = b3
  generalize seqB s ⟨#[105, 110, 116]⟩ = b4
  generalize seqB s ⟨#[110, 111, 110, 101]⟩ = b5
  generalize seqB s ⟨#[114, 101, 115, 111, 117, 114, 99, 101]⟩ = b6
  generalize seqB s ⟨#[115, 116, 114, 105, 110, 103]⟩ = b7
  generalize seqB s ⟨#[116, 114, 117, 101]⟩ = b8
  grind
theorem rname_loop (s : ByteArray) (hs : s.size ≤ 1000) : ∀ (k j : Nat), j + k = s.size →
    Dz i_treillageref02_Right (some p_treillageref02_Right_c1) [A.t (T.str s), A.t (T.int j)] (if (s.data.toList.drop j).all inner then (2, []) else (1, [A.t (T.bool false)])) := by
  have hl : s.data.toList.length = s.size := by rw [Array.length_toList]; rfl
  intro k
  induction k with
  | zero =>
    intro j hj
    refine Does.now fun m => ?_
    rw [q_treillageref02_Right_c1, List.drop_of_length_le (by omega)]
    simp only [num_int, tf_bool, txt_str, kids_node, tree_t, aAt_zero, aAt_succ, Option.map_some, Option.bind_some, Nat.beq_refl, Bool.cond_eq_ite, decide_eq_true_eq, decide_eq_false_iff_not, Bool.and_eq_true, Bool.or_eq_true, beq_iff_eq, beq_eq_false_iff_ne, bne_iff_ne, ne_eq, if_true, if_false, Int.toNat_natCast, Bool.false_eq_true, nb12, nb21, nb14, nb24, nb42, nb41, terms_eq, flds_eq]
    rw [if_neg (by omega)]
    rfl
  | succ k ih =>
    intro j hj
    have hlt : j < s.data.toList.length := by omega
    have hw : IntKind.i64.wrap ((j : Int) + 1) = ((j + 1 : Nat) : Int) := i64succ (by omega)
    obtain ⟨n0, h0⟩ := ih (j + 1) (by omega)
    refine Does.of n0 fun m hm => ?_
    have q := h0 m hm
    have hg : Array.getD s.data j (0 : UInt8) = s.data.toList[j] := by
      have : j < s.data.size := by simpa using hlt
      rw [Array.getD, dif_pos this, Array.getInternal_eq_getElem, Array.getElem_toList]
    rw [q_treillageref02_Right_c1, List.drop_eq_getElem_cons hlt, List.all_cons]
    simp only [num_int, tf_bool, txt_str, kids_node, tree_t, aAt_zero, aAt_succ, Option.map_some, Option.bind_some, Nat.beq_refl, Bool.cond_eq_ite, decide_eq_true_eq, decide_eq_false_iff_not, Bool.and_eq_true, Bool.or_eq_true, beq_iff_eq, beq_eq_false_iff_ne, bne_iff_ne, ne_eq, if_true, if_false, Int.toNat_natCast, Bool.false_eq_true, nb12, nb21, nb14, nb24, nb42, nb41, terms_eq, flds_eq, hw, hg, q, Bool.beq_eq_decide_eq, Bool.not_eq_true', Bool.not_eq_false']
    generalize (s.data.toList.drop (j + 1)).all inner = r
    unfold inner small
    generalize hb : (s.data.toList[j]).toNat = b
    rw [if_pos (by omega), if_pos (by omega)]
    have h1 : (((b : Nat) : Int) ≥ 97) = (97 ≤ b) := by apply propext; omega
    have h2 : (((b : Nat) : Int) ≤ 122) = (b ≤ 122) := by apply propext; omega
    have h3 : (((b : Nat) : Int) ≥ 48) = (48 ≤ b) := by apply propext; omega
    have h4 : (((b : Nat) : Int) ≤ 57) = (b ≤ 57) := by apply propext; omega
    have h5 : (((b : Nat) : Int) = 95) = (b = 95) := by apply propext; omega
    have h6 : ((0 : Int) ≤ (j : Int) ∧ (j : Int) < (s.size : Nat)) = True := by apply propext; constructor <;> intro <;> first | trivial | omega
    simp only [h1, h2, h3, h4, h5, h6, if_true]
    by_cases g1 : 97 ≤ b <;> by_cases g2 : b ≤ 122 <;> by_cases g3 : 48 ≤ b <;> by_cases g4 : b ≤ 57 <;> by_cases g5 : b = 95 <;> cases r <;> simp [g1, g2, g3, g4, g5] <;> omega
theorem rname_does (s : ByteArray) : Dz i_treillageref02_Right none [A.t (T.str s)] (1, [A.t (T.bool (nameB s))]) := by
  have hl : s.data.toList.length = s.size := by rw [Array.length_toList]; rfl
  by_cases h16 : s.size ≤ 16
  · obtain ⟨n1, h1⟩ := word_does s
    cases he : s.data.toList with
    | nil =>
      refine Does.now fun m => ?_
      rw [q_treillageref02_Right]
      have h0 : s.size = 0 := by rw [← hl, he]; rfl
      simp only [num_int, tf_bool, txt_str, kids_node, tree_t, aAt_zero, aAt_succ, Option.map_some, Option.bind_some, Nat.beq_refl, Bool.cond_eq_ite, decide_eq_true_eq, decide_eq_false_iff_not, Bool.and_eq_true, Bool.or_eq_true, beq_iff_eq, beq_eq_false_iff_ne, bne_iff_ne, ne_eq, if_true, if_false, Int.toNat_natCast, Bool.false_eq_true, nb12, nb21, nb14, nb24, nb42, nb41, terms_eq, flds_eq, h0, nameB, he, nameL, Bool.and_false]
      rfl
    | cons c l =>
      obtain ⟨n2, h2⟩ := rname_loop s (by omega) (s.size - 1) 1 (by rw [← hl, he]; simp; omega)
      refine Does.of (n1 + n2) fun m hm => ?_
      have q1 := h1 m (by omega)
      have q2 : den Tryd.prog G0 ents m i_treillageref02_Right (some p_treillageref02_Right_c1) [A.t (T.str s), A.t (T.int 1)] = _ := h2 m (by omega)
      have hsz : 0 < s.size := by rw [← hl, he]; simp
      have hg : Array.getD s.data 0 (0 : UInt8) = c := by
        have : 0 < s.data.size := hsz
        have h3 : s.data[0] = s.data.toList[0]'(by omega) := (Array.getElem_toList _).symm
        rw [Array.getD, dif_pos this, Array.getInternal_eq_getElem, h3]
        simp only [he, List.getElem_cons_zero]
      rw [q_treillageref02_Right]
      have hd : s.data.toList.drop 1 = l := by rw [he]; rfl
      rw [hd] at q2
      have hw := wordN_pos s
      simp only [num_int, tf_bool, txt_str, kids_node, tree_t, aAt_zero, aAt_succ, Option.map_some, Option.bind_some, Nat.beq_refl, Bool.cond_eq_ite, decide_eq_true_eq, decide_eq_false_iff_not, Bool.and_eq_true, Bool.or_eq_true, beq_iff_eq, beq_eq_false_iff_ne, bne_iff_ne, ne_eq, if_true, if_false, Int.toNat_natCast, Bool.false_eq_true, nb12, nb21, nb14, nb24, nb42, nb41, terms_eq, flds_eq, q1, q2, hg, nameB, he, nameL, ← hw, Bool.beq_eq_decide_eq]
      unfold small
      generalize wordN s = w
      generalize l.all inner = r
      generalize c.toNat = b
      rw [if_pos (by omega), if_pos (by omega), decide_eq_true h16]
      by_cases hw : w > 0
      · rw [if_neg (by omega), decide_eq_true hw]; rfl
      rw [if_pos hw, if_pos (by omega), decide_eq_false hw]
      by_cases hb1 : 97 ≤ b
      · by_cases hb2 : b ≤ 122
        · rw [if_pos (by omega), if_pos (by omega), if_neg (by omega), decide_eq_true hb1, decide_eq_true hb2]
          cases r <;> rfl
        · rw [if_pos (by omega), if_pos (by omega), if_pos (by omega), decide_eq_true hb1, decide_eq_false hb2]; rfl
      · rw [if_neg (by omega), decide_eq_false hb1]; rfl
  · refine Does.now fun m => ?_
    rw [q_treillageref02_Right]
    simp only [num_int, tf_bool, txt_str, kids_node, tree_t, aAt_zero, aAt_succ, Option.map_some, Option.bind_some, Nat.beq_refl, Bool.cond_eq_ite, decide_eq_true_eq, decide_eq_false_iff_not, Bool.and_eq_true, Bool.or_eq_true, beq_iff_eq, beq_eq_false_iff_ne, bne_iff_ne, ne_eq, if_true, if_false, Int.toNat_natCast, Bool.false_eq_true, nb12, nb21, nb14, nb24, nb42, nb41, terms_eq, flds_eq, nameB, decide_eq_false h16, Bool.false_and]
    repeat (first | rw [if_pos (by omega)] | rw [if_neg (by omega)])
/-! ### names that rise -/
def okAt (l : List T) (j : Nat) : Bool := nameB (nm (tAtD l j)) && (j == 0 || sltB (nm (tAtD l (j - 1))) (nm (tAtD l j)))
def riseFrom (l : List T) : Nat → Nat → Bool
  | 0, _ => true
  | k + 1, j => okAt l j && riseFrom l k (j + 1)
def names (l : List T) : Bool := riseFrom l l.length 0
theorem nle_iff (a b : ByteArray) : (sltB a b || seqB a b) = !sltB b a := by
  rcases slt_tri a b with h | h | h
  · rw [h, slt_asymm h]; rfl
  · rw [h, slt_asymm h, seq_dec]
    have : a ≠ b := fun e => by subst e; rw [slt_irrefl] at h; cases h
    rw [decide_eq_false this]; rfl
  · subst h; rw [slt_irrefl, seq_dec, decide_eq_true rfl]; rfl
theorem rising_loop (l : List T) (hl : l.length ≤ 1000) : ∀ (k j : Nat), j + k = l.length →
    Dz i_lat_rising (some p_lat_rising_c1) [A.t (T.node l), A.t (T.node l), A.t (T.int (l.length : Nat)), A.t (T.int j)] (if riseFrom l k j then (2, []) else (1, [A.t (T.bool false)])) := by
  intro k
  induction k with
  | zero =>
    intro j hj
    refine Does.now fun m => ?_
    rw [q_lat_rising_c1, riseFrom]
    simp only [num_int, tf_bool, txt_str, kids_node, tree_t, aAt_zero, aAt_succ, Option.map_some, Option.bind_some, Nat.beq_refl, Bool.cond_eq_ite, decide_eq_true_eq, decide_eq_false_iff_not, Bool.and_eq_true, Bool.or_eq_true, beq_iff_eq, beq_eq_false_iff_ne, bne_iff_ne, ne_eq, if_true, if_false, Int.toNat_natCast, Bool.false_eq_true, nb12, nb21, nb14, nb24, nb42, nb41, terms_eq, flds_eq]
    rw [if_neg (by omega)]
  | succ k ih =>
    intro j hj
    have hlt : j < l.length := by omega
    have hw : IntKind.i64.wrap ((j : Int) + 1) = ((j + 1 : Nat) : Int) := i64succ (by omega)
    obtain ⟨n0, h0⟩ := (nameR_does (nm (tAtD l j))).both (ih (j + 1) (by omega))
    refine Does.of n0 fun m hm => ?_
    obtain ⟨q1, q2⟩ := h0 m hm
    rw [q_lat_rising_c1, riseFrom]
    simp only [num_int, tf_bool, txt_str, kids_node, tree_t, aAt_zero, aAt_succ, Option.map_some, Option.bind_some, Nat.beq_refl, Bool.cond_eq_ite, decide_eq_true_eq, decide_eq_false_iff_not, Bool.and_eq_true, Bool.or_eq_true, beq_iff_eq, beq_eq_false_iff_ne, bne_iff_ne, ne_eq, if_true, if_false, Int.toNat_natCast, Bool.false_eq_true, nb12, nb21, nb14, nb24, nb42, nb41, terms_eq, flds_eq, nm_eq, q1, q2, hw, Bool.not_eq_false', Bool.not_eq_true']
    rw [if_pos (by omega), if_pos (by omega)]
    cases hb : nameB (nm (tAtD l j)) with
    | false => simp [okAt, hb]
    | true =>
      rw [if_pos rfl]
      by_cases h0 : j = 0
      · subst h0; simp [okAt, hb]
      · have hp : IntKind.i64.wrap ((j : Int) - 1) = ((j - 1 : Nat) : Int) := by rw [w64 (by omega) (by omega)]; omega
        rw [if_pos (by omega)]
        simp only [hp, Int.toNat_natCast]
        rw [if_pos (by omega)]
        have hj0 : (j == 0) = false := by simp [h0]
        have hn := nle_iff (nm (tAtD l j)) (nm (tAtD l (j - 1)))
        have hok : okAt l j = sltB (nm (tAtD l (j - 1))) (nm (tAtD l j)) := by rw [okAt, hb, hj0]; rfl
        rw [hok]
        simp only [← Bool.or_eq_true, hn]
        cases sltB (nm (tAtD l (j - 1))) (nm (tAtD l j)) <;> simp
theorem rising_does (l : List T) (hl : l.length ≤ 1000) : Dz i_lat_rising none [A.t (T.node l)] (1, [A.t (T.bool (names l))]) := by
  obtain ⟨n0, h0⟩ := rising_loop l hl l.length 0 (by omega)
  refine Does.of n0 fun m hm => ?_
  have q : den Tryd.prog G0 ents m i_lat_rising (some p_lat_rising_c1) [A.t (T.node l), A.t (T.node l), A.t (T.int (l.length : Nat)), A.t (T.int 0)] = _ := h0 m hm
  rw [q_lat_rising]
  unfold names
  simp only [num_int, tf_bool, txt_str, kids_node, tree_t, aAt_zero, aAt_succ, Option.map_some, Option.bind_some, Nat.beq_refl, Bool.cond_eq_ite, decide_eq_true_eq, decide_eq_false_iff_not, Bool.and_eq_true, Bool.or_eq_true, beq_iff_eq, beq_eq_false_iff_ne, bne_iff_ne, ne_eq, if_true, if_false, Int.toNat_natCast, Bool.false_eq_true, nb12, nb21, nb14, nb24, nb42, nb41, terms_eq, flds_eq, q]
  cases riseFrom l l.length 0 <;> rfl
theorem rrising_loop (l : List T) (hl : l.length ≤ 1000) : ∀ (k j : Nat), j + k = l.length →
    Dz i_treillageref02_Rising (some p_treillageref02_Rising_c1) [A.t (T.int j), A.t (T.node (l.map fun f => T.str (nm f)))] (if riseFrom l k j then (2, [A.t (T.node (l.map fun f => T.str (nm f)))]) else (1, [A.t (T.bool false), A.t (T.node (l.map fun f => T.str (nm f)))])) := by
  have hat : ∀ j, j < l.length → tAtD (l.map fun f => T.str (nm f)) j = T.str (nm (tAtD l j)) := fun j hj => by
    rw [at_get (by simpa using hj), at_get hj, List.getElem_map]
  intro k
  induction k with
  | zero =>
    intro j hj
    refine Does.now fun m => ?_
    rw [q_treillageref02_Rising_c1, riseFrom]
    simp only [num_int, tf_bool, txt_str, kids_node, tree_t, aAt_zero, aAt_succ, Option.map_some, Option.bind_some, Nat.beq_refl, Bool.cond_eq_ite, decide_eq_true_eq, decide_eq_false_iff_not, Bool.and_eq_true, Bool.or_eq_true, beq_iff_eq, beq_eq_false_iff_ne, bne_iff_ne, ne_eq, if_true, if_false, Int.toNat_natCast, Bool.false_eq_true, nb12, nb21, nb14, nb24, nb42, nb41, terms_eq, flds_eq, List.length_map]
    rw [if_neg (by omega)]
  | succ k ih =>
    intro j hj
    have hlt : j < l.length := by omega
    have hw : IntKind.i64.wrap ((j : Int) + 1) = ((j + 1 : Nat) : Int) := i64succ (by omega)
    obtain ⟨n0, h0⟩ := (rname_does (nm (tAtD l j))).both (ih (j + 1) (by omega))
    refine Does.of n0 fun m hm => ?_
    obtain ⟨q1, q2⟩ := h0 m hm
    rw [q_treillageref02_Rising_c1, riseFrom]
    simp only [num_int, tf_bool, txt_str, kids_node, tree_t, aAt_zero, aAt_succ, Option.map_some, Option.bind_some, Nat.beq_refl, Bool.cond_eq_ite, decide_eq_true_eq, decide_eq_false_iff_not, Bool.and_eq_true, Bool.or_eq_true, beq_iff_eq, beq_eq_false_iff_ne, bne_iff_ne, ne_eq, if_true, if_false, Int.toNat_natCast, Bool.false_eq_true, nb12, nb21, nb14, nb24, nb42, nb41, terms_eq, flds_eq, List.length_map, hat j hlt, q1, q2, hw, Bool.not_eq_false', Bool.not_eq_true']
    rw [if_pos (by omega), if_pos (by omega), if_pos (by omega)]
    cases hb : nameB (nm (tAtD l j)) with
    | false => simp [okAt, hb]
    | true =>
      rw [if_pos rfl]
      by_cases h0 : j = 0
      · subst h0; simp [okAt, hb]
      · have hp : IntKind.i64.wrap ((j : Int) - 1) = ((j - 1 : Nat) : Int) := by rw [w64 (by omega) (by omega)]; omega
        rw [if_pos (by omega)]
        simp only [hp, Int.toNat_natCast, hat (j - 1) (by omega), txt_str]
        rw [if_pos (by omega), if_pos (by omega), if_pos (by omega), if_pos (by omega)]
        have hj0 : (j == 0) = false := by simp [h0]
        have hok : okAt l j = sltB (nm (tAtD l (j - 1))) (nm (tAtD l j)) := by rw [okAt, hb, hj0]; rfl
        rw [hok]
        cases sltB (nm (tAtD l (j - 1))) (nm (tAtD l j)) <;> simp
theorem rnames_loop (l : List T) (hl : l.length ≤ 1000) : ∀ (k j : Nat), j + k = l.length →
    Dz i_treillageref09_names (some p_treillageref09_names_c1) [A.t (T.node l), A.t (T.int j), A.t (T.node ((l.take j).map fun f => T.str (nm f)))] (2, [A.t (T.node (l.map fun f => T.str (nm f)))]) := by
  intro k
  induction k with
  | zero =>
    intro j hj
    refine Does.now fun m => ?_
    rw [q_treillageref09_names_c1, List.take_of_length_le (by omega)]
    simp only [num_int, tf_bool, txt_str, kids_node, tree_t, aAt_zero, aAt_succ, Option.map_some, Option.bind_some, Nat.beq_refl, Bool.cond_eq_ite, decide_eq_true_eq, decide_eq_false_iff_not, Bool.and_eq_true, Bool.or_eq_true, beq_iff_eq, beq_eq_false_iff_ne, bne_iff_ne, ne_eq, if_true, if_false, Int.toNat_natCast, Bool.false_eq_true, nb12, nb21, nb14, nb24, nb42, nb41, terms_eq, flds_eq]
    rw [if_neg (by omega)]
  | succ k ih =>
    intro j hj
    have hlt : j < l.length := by omega
    have hw : IntKind.i64.wrap ((j : Int) + 1) = ((j + 1 : Nat) : Int) := i64succ (by omega)
    have ht : (l.take (j + 1)).map (fun f => T.str (nm f)) = (l.take j).map (fun f => T.str (nm f)) ++ [T.str (nm (tAtD l j))] := by
      rw [at_get hlt, List.take_add_one, List.getElem?_eq_getElem hlt, List.map_append]; rfl
    obtain ⟨n0, h0⟩ := ih (j + 1) (by omega)
    refine Does.of n0 fun m hm => ?_
    have q2 := h0 m hm
    rw [ht] at q2
    rw [q_treillageref09_names_c1]
    simp only [num_int, tf_bool, txt_str, kids_node, tree_t, aAt_zero, aAt_succ, Option.map_some, Option.bind_some, Nat.beq_refl, Bool.cond_eq_ite, decide_eq_true_eq, decide_eq_false_iff_not, Bool.and_eq_true, Bool.or_eq_true, beq_iff_eq, beq_eq_false_iff_ne, bne_iff_ne, ne_eq, if_true, if_false, Int.toNat_natCast, Bool.false_eq_true, nb12, nb21, nb14, nb24, nb42, nb41, terms_eq, flds_eq, List.length_map, nm_eq, hw, q2, List.length_take]
    rw [if_pos (by omega), if_pos (by omega), if_pos (by omega)]
theorem rnames_does (l : List T) (hl : l.length ≤ 1000) : Dz i_treillageref09_names none [A.t (T.node l)] (1, [A.t (T.bool (names l))]) := by
  have hr : Dz i_treillageref02_Rising none [A.t (T.node (l.map fun f => T.str (nm f)))] (1, [A.t (T.bool (names l)), A.t (T.node (l.map fun f => T.str (nm f)))]) := by
    obtain ⟨n0, h0⟩ := rrising_loop l hl l.length 0 (by omega)
    refine Does.of n0 fun m hm => ?_
    have q : den Tryd.prog G0 ents m i_treillageref02_Rising (some p_treillageref02_Rising_c1) [A.t (T.int 0), A.t (T.node (l.map fun f => T.str (nm f)))] = _ := h0 m hm
    rw [q_treillageref02_Rising]
    unfold names
    simp only [num_int, tf_bool, txt_str, kids_node, tree_t, aAt_zero, aAt_succ, Option.map_some, Option.bind_some, Nat.beq_refl, Bool.cond_eq_ite, decide_eq_true_eq, decide_eq_false_iff_not, Bool.and_eq_true, Bool.or_eq_true, beq_iff_eq, beq_eq_false_iff_ne, bne_iff_ne, ne_eq, if_true, if_false, Int.toNat_natCast, Bool.false_eq_true, nb12, nb21, nb14, nb24, nb42, nb41, terms_eq, flds_eq, q]
    cases riseFrom l l.length 0 <;> rfl
  obtain ⟨n0, h0⟩ := (rnames_loop l hl l.length 0 (by omega)).both hr
  refine Does.of n0 fun m hm => ?_
  obtain ⟨q1, q2⟩ := h0 m hm
  have q1' : den Tryd.prog G0 ents m i_treillageref09_names (some p_treillageref09_names_c1) [A.t (T.node l), A.t (T.int 0), A.t (T.node [])] = _ := q1
  rw [q_treillageref09_names]
  simp only [num_int, tf_bool, txt_str, kids_node, tree_t, aAt_zero, aAt_succ, Option.map_some, Option.bind_some, Nat.beq_refl, Bool.cond_eq_ite, decide_eq_true_eq, decide_eq_false_iff_not, Bool.and_eq_true, Bool.or_eq_true, beq_iff_eq, beq_eq_false_iff_ne, bne_iff_ne, ne_eq, if_true, if_false, Int.toNat_natCast, Bool.false_eq_true, nb12, nb21, nb14, nb24, nb42, nb41, terms_eq, flds_eq, q1', q2]
end Go.Proofs.YtpfglhjgjfhkjaaDoorCP
namespace Go.Proofs.YtpfglhjgjfhkjaaDoorCP
open Go Go.Proofs.YtpfglhjgjfhkjaaDoorVM
set_option linter.unusedVariables false
set_option linter.unusedSimpArgs false
set_option maxRecDepth 100000

/-! ### where a name stands -/
def findF : List T → ByteArray → Nat → Int
  | [], _, _ => -1
  | f :: l, s, j => if nm f = s then j else findF l s (j + 1)
/-- Names rise. -/
def Rise (l : List T) : Prop := ∀ i j, i < j → j < l.length → sltB (nm (tAtD l i)) (nm (tAtD l j)) = true
theorem bl_trans : ∀ l m o : List UInt8, Op.bytesLess l m = true → Op.bytesLess m o = true → Op.bytesLess l o = true
  | l, [], o, h, _ => by cases l <;> simp [Op.bytesLess] at h
  | l, _ :: _, [], _, h => by simp [Op.bytesLess] at h
  | [], _ :: _, _ :: _, _, _ => rfl
  | a :: l, b :: m, c :: o, h1, h2 => by
    simp only [Op.bytesLess, Bool.or_eq_true, decide_eq_true_eq, Bool.and_eq_true, beq_iff_eq] at h1 h2 ⊢
    rcases h1 with h1 | ⟨rfl, h1⟩
    · rcases h2 with h2 | ⟨rfl, h2⟩
      · exact .inl (UInt8.lt_trans h1 h2)
      · exact .inl h1
    · rcases h2 with h2 | ⟨rfl, h2⟩
      · exact .inl h2
      · exact .inr ⟨rfl, bl_trans l m o h1 h2⟩
theorem slt_trans {a b c : ByteArray} (h1 : sltB a b = true) (h2 : sltB b c = true) : sltB a c = true := bl_trans _ _ _ h1 h2
theorem names_rise {l : List T} (h : names l = true) : Rise l := by
  have hf : ∀ (k j : Nat), riseFrom l k j = true → ∀ i, j ≤ i → i < j + k → okAt l i = true := by
    intro k
    induction k with
    | zero => intro j _ i h1 h2; omega
    | succ k ih =>
      intro j hj i h1 h2
      rw [riseFrom, Bool.and_eq_true] at hj
      rcases Nat.eq_or_lt_of_le h1 with rfl | h3
      · exact hj.1
      · exact ih (j + 1) hj.2 i h3 (by omega)
  have hstep : ∀ i, i + 1 < l.length → sltB (nm (tAtD l i)) (nm (tAtD l (i + 1))) = true := by
    intro i hi
    have := hf _ _ h (i + 1) (by omega) (by omega)
    unfold okAt at this
    simpa using (Bool.and_eq_true_iff.1 this).2
  intro i j hij
  induction j with
  | zero => omega
  | succ j ih =>
    intro hj
    rcases Nat.lt_or_ge i j with h1 | h1
    · exact slt_trans (ih h1 (by omega)) (hstep j hj)
    · have : i = j := by omega
      subst this
      exact hstep i hj
theorem findF_le (l : List T) (s : ByteArray) : ∀ j : Nat, -1 ≤ findF l s j ∧ findF l s j < j + l.length := by
  induction l with
  | nil => intro j; simp [findF]; omega
  | cons f l ih =>
    intro j
    rw [findF]
    have := ih (j + 1)
    simp only [List.length_cons]
    split <;> omega
theorem findF_at {l : List T} {s : ByteArray} : ∀ (i j : Nat), (∀ k, k < i → nm (tAtD l k) ≠ s) → i < l.length → nm (tAtD l i) = s → findF l s j = (j + i : Nat) := by
  induction l with
  | nil => intro i j _ h; simp at h
  | cons f l ih =>
    intro i j h1 h2 h3
    rw [findF]
    cases i with
    | zero => exact if_pos h3
    | succ i =>
      refine (if_neg (h1 0 (by omega))).trans ?_
      rw [ih i (j + 1) (fun k hk => h1 (k + 1) (by omega)) (by simpa using h2) h3]
      omega
theorem findF_no {l : List T} {s : ByteArray} : ∀ (j : Nat), (∀ k, k < l.length → nm (tAtD l k) ≠ s) → findF l s j = -1 := by
  induction l with
  | nil => intro j _; rfl
  | cons f l ih =>
    intro j h
    rw [findF]
    refine (if_neg (h 0 (by simp))).trans ?_
    rw [ih (j + 1) (fun k hk => h (k + 1) (by simpa using hk))]
theorem rfind_loop (l : List T) (s : ByteArray) (hl : l.length ≤ 1000) : ∀ (k j : Nat), j + k = l.length →
    Dz i_treillageref09_Find (some p_treillageref09_Find_c1) [A.t (T.node l), A.t (T.str s), A.t (T.int j)] (if findF (l.drop j) s j < 0 then (2, []) else (1, [A.t (T.int (findF (l.drop j) s j))])) := by
  intro k
  induction k with
  | zero =>
    intro j hj
    refine Does.now fun m => ?_
    rw [q_treillageref09_Find_c1, List.drop_of_length_le (by omega), findF]
    simp only [num_int, tf_bool, txt_str, kids_node, tree_t, aAt_zero, aAt_succ, Option.map_some, Option.bind_some, Nat.beq_refl, Bool.cond_eq_ite, decide_eq_true_eq, decide_eq_false_iff_not, Bool.and_eq_true, Bool.or_eq_true, beq_iff_eq, beq_eq_false_iff_ne, bne_iff_ne, ne_eq, if_true, if_false, Int.toNat_natCast, Bool.false_eq_true, nb12, nb21, nb14, nb24, nb42, nb41, terms_eq, flds_eq]
    rw [if_neg (by omega), if_pos (by omega)]
  | succ k ih =>
    intro j hj
    have hlt : j < l.length := by omega
    have hw : IntKind.i64.wrap ((j : Int) + 1) = ((j + 1 : Nat) : Int) := i64succ (by omega)
    obtain ⟨n0, h0⟩ := ih (j + 1) (by omega)
    refine Does.of n0 fun m hm => ?_
    have q := h0 m hm
    rw [q_treillageref09_Find_c1, List.drop_eq_getElem_cons hlt, findF]
    simp only [num_int, tf_bool, txt_str, kids_node, tree_t, aAt_zero, aAt_succ, Option.map_some, Option.bind_some, Nat.beq_refl, Bool.cond_eq_ite, decide_eq_true_eq, decide_eq_false_iff_not, Bool.and_eq_true, Bool.or_eq_true, beq_iff_eq, beq_eq_false_iff_ne, bne_iff_ne, ne_eq, if_true, if_false, Int.toNat_natCast, Bool.false_eq_true, nb12, nb21, nb14, nb24, nb42, nb41, terms_eq, flds_eq, hw, at_get hlt, nm_eq, q, seq_dec]
    rw [if_pos (by omega), if_pos (by omega)]
    by_cases he : nm l[j] = s
    · rw [if_pos he, if_pos he, if_neg (by omega)]
    · rw [if_neg he, if_neg he]
theorem rfind_does (l : List T) (s : ByteArray) (hl : l.length ≤ 1000) : Dz i_treillageref09_Find none [A.t (T.node l), A.t (T.str s)] (1, [A.t (T.int (findF l s 0))]) := by
  obtain ⟨n0, h0⟩ := rfind_loop l s hl l.length 0 (by omega)
  have hle := findF_le l s 0
  refine Does.of n0 fun m hm => ?_
  have q : den Tryd.prog G0 ents m i_treillageref09_Find (some p_treillageref09_Find_c1) [A.t (T.node l), A.t (T.str s), A.t (T.int 0)] = _ := h0 m hm
  rw [List.drop_zero] at q
  rw [q_treillageref09_Find]
  simp only [num_int, tf_bool, txt_str, kids_node, tree_t, aAt_zero, aAt_succ, Option.map_some, Option.bind_some, Nat.beq_refl, Bool.cond_eq_ite, decide_eq_true_eq, decide_eq_false_iff_not, Bool.and_eq_true, Bool.or_eq_true, beq_iff_eq, beq_eq_false_iff_ne, bne_iff_ne, ne_eq, if_true, if_false, Int.toNat_natCast, Bool.false_eq_true, nb12, nb21, nb14, nb24, nb42, nb41, terms_eq, flds_eq, q]
  by_cases h : findF l s 0 < 0
  · have h1 : findF l s 0 = -1 := by omega
    rw [h1]
    rfl
  · simp only [if_neg h]
    rfl
theorem find1_does (f : T) (s : ByteArray) : Dz i_lat_find_1 none [A.t f, A.t (T.str s)] (1, [A.t (T.int (if sltB (nm f) s then -1 else if nm f = s then 0 else 1))]) := by
  refine Does.now fun m => ?_
  rw [q_lat_find_1]
  simp only [num_int, tf_bool, txt_str, kids_node, tree_t, aAt_zero, aAt_succ, Option.map_some, Option.bind_some, Nat.beq_refl, Bool.cond_eq_ite, decide_eq_true_eq, decide_eq_false_iff_not, Bool.and_eq_true, Bool.or_eq_true, beq_iff_eq, beq_eq_false_iff_ne, bne_iff_ne, ne_eq, if_true, if_false, Int.toNat_natCast, Bool.false_eq_true, nb12, nb21, nb14, nb24, nb42, nb41, terms_eq, flds_eq, nm_eq, seq_dec, neg1, Bool.not_eq_true', Bool.or_eq_false_iff, collI]
  apply ansI
  by_cases h : sltB (nm f) s = true
  · rw [if_pos h, if_pos h]
  · rw [if_neg h, if_neg h]
    by_cases h2 : nm f = s
    · rw [if_pos h2, if_neg (fun e => e.2 h2)]
    · rw [if_neg h2, if_pos ⟨by simpa using h, h2⟩]
theorem mid_eq {i j : Nat} (h : i + j < 4294967296) : IntKind.i64.wrap (Int.fdiv (IntKind.u64.wrap (IntKind.i64.wrap ((i : Int) + (j : Int)))) 2) = (((i + j) / 2 : Nat) : Int) := by
  rw [i64add (by omega), wu64, Nat.mod_eq_of_lt (by omega), show (2 : Int) = ((2 : Nat) : Int) from rfl, fdivN, i64nat (by omega)]
theorem bsearch_loop (l : List T) (s : ByteArray) (hl : l.length ≤ 1000) (hr : Rise l) : ∀ (k i j : Nat), j - i ≤ k → i ≤ j → j ≤ l.length → (∀ x, x < i → sltB (nm (tAtD l x)) s = true) → (∀ x, j ≤ x → x < l.length → sltB (nm (tAtD l x)) s = false) →
    ∃ c : Nat, c ≤ l.length ∧ (∀ x, x < c → sltB (nm (tAtD l x)) s = true) ∧ (∀ x, c ≤ x → x < l.length → sltB (nm (tAtD l x)) s = false) ∧
      Dz i_slices_BinarySearchFunc_Field (some p_slices_BinarySearchFunc_Field_c1) [A.t (T.node l), A.t (T.str s), A.t (T.int (l.length : Nat)), A.t (T.int i), A.t (T.int j)] (2, [A.t (T.node l), A.t (T.str s), A.t (T.int (l.length : Nat)), A.t (T.int c)]) := by
  intro k
  induction k with
  | zero =>
    intro i j hk hij hj h1 h2
    have : i = j := by omega
    subst this
    refine ⟨i, hj, h1, h2, Does.now fun m => ?_⟩
    rw [q_slices_BinarySearchFunc_Field_c1]
    simp only [num_int, tf_bool, txt_str, kids_node, tree_t, aAt_zero, aAt_succ, Option.map_some, Option.bind_some, Nat.beq_refl, Bool.cond_eq_ite, decide_eq_true_eq, decide_eq_false_iff_not, Bool.and_eq_true, Bool.or_eq_true, beq_iff_eq, beq_eq_false_iff_ne, bne_iff_ne, ne_eq, if_true, if_false, Int.toNat_natCast, Bool.false_eq_true, nb12, nb21, nb14, nb24, nb42, nb41, terms_eq, flds_eq]
    rw [if_neg (by omega)]
  | succ k ih =>
    intro i j hk hij hj h1 h2
    by_cases he : i = j
    · subst he
      refine ⟨i, hj, h1, h2, Does.now fun m => ?_⟩
      rw [q_slices_BinarySearchFunc_Field_c1]
      simp only [num_int, tf_bool, txt_str, kids_node, tree_t, aAt_zero, aAt_succ, Option.map_some, Option.bind_some, Nat.beq_refl, Bool.cond_eq_ite, decide_eq_true_eq, decide_eq_false_iff_not, Bool.and_eq_true, Bool.or_eq_true, beq_iff_eq, beq_eq_false_iff_ne, bne_iff_ne, ne_eq, if_true, if_false, Int.toNat_natCast, Bool.false_eq_true, nb12, nb21, nb14, nb24, nb42, nb41, terms_eq, flds_eq]
      rw [if_neg (by omega)]
    have hmid := @mid_eq i j (by omega)
    have hml : (i + j) / 2 < l.length := by omega
    have hmw : IntKind.i64.wrap ((((i + j) / 2 : Nat) : Int) + 1) = (((i + j) / 2 + 1 : Nat) : Int) := i64succ (by omega)
    cases hs : sltB (nm (tAtD l ((i + j) / 2))) s with
    | true =>
      obtain ⟨c, c1, c2, c3, hc⟩ := ih ((i + j) / 2 + 1) j (by omega) (by omega) hj (fun x hx => by
        rcases Nat.lt_or_ge x ((i + j) / 2) with h | h
        · exact slt_trans (hr _ _ h hml) hs
        · have : x = (i + j) / 2 := by omega
          subst this; exact hs) h2
      refine ⟨c, c1, c2, c3, ?_⟩
      obtain ⟨n0, h0⟩ := (find1_does (tAtD l ((i + j) / 2)) s).both hc
      refine Does.of n0 fun m hm => ?_
      obtain ⟨q1, q2⟩ := h0 m hm
      rw [hs, if_pos rfl] at q1
      rw [q_slices_BinarySearchFunc_Field_c1]
      simp only [num_int, hmid, kids_node, Int.toNat_natCast, txt_str, q1, hmw, q2]
      simp only [num_int, tf_bool, txt_str, kids_node, tree_t, aAt_zero, aAt_succ, Option.map_some, Option.bind_some, Nat.beq_refl, Bool.cond_eq_ite, decide_eq_true_eq, decide_eq_false_iff_not, Bool.and_eq_true, Bool.or_eq_true, beq_iff_eq, beq_eq_false_iff_ne, bne_iff_ne, ne_eq, if_true, if_false, Int.toNat_natCast, Bool.false_eq_true, nb12, nb21, nb14, nb24, nb42, nb41, terms_eq, flds_eq]
      repeat (first | rw [if_pos (by omega)] | rw [if_neg (by omega)])
    | false =>
      obtain ⟨c, c1, c2, c3, hc⟩ := ih i ((i + j) / 2) (by omega) (by omega) (by omega) h1 (fun x hx hx2 => by
        rcases Nat.lt_or_ge ((i + j) / 2) x with h | h
        · cases h3 : sltB (nm (tAtD l x)) s with
          | false => rfl
          | true => rw [slt_trans (hr _ _ h hx2) h3] at hs; cases hs
        · have : x = (i + j) / 2 := by omega
          subst this; exact hs)
      refine ⟨c, c1, c2, c3, ?_⟩
      obtain ⟨n0, h0⟩ := (find1_does (tAtD l ((i + j) / 2)) s).both hc
      refine Does.of n0 fun m hm => ?_
      obtain ⟨q1, q2⟩ := h0 m hm
      rw [hs, if_neg (by simp)] at q1
      rw [q_slices_BinarySearchFunc_Field_c1]
      simp only [num_int, hmid, kids_node, Int.toNat_natCast, txt_str, q1, q2]
      simp only [num_int, tf_bool, txt_str, kids_node, tree_t, aAt_zero, aAt_succ, Option.map_some, Option.bind_some, Nat.beq_refl, Bool.cond_eq_ite, decide_eq_true_eq, decide_eq_false_iff_not, Bool.and_eq_true, Bool.or_eq_true, beq_iff_eq, beq_eq_false_iff_ne, bne_iff_ne, ne_eq, if_true, if_false, Int.toNat_natCast, Bool.false_eq_true, nb12, nb21, nb14, nb24, nb42, nb41, terms_eq, flds_eq]
      have : ¬ ((if nm (tAtD l ((i + j) / 2)) = s then (0 : Int) else 1) < 0) := by split <;> omega
      rw [if_pos (by omega), if_pos (by omega), if_neg this]
theorem lfind_does (l : List T) (s : ByteArray) (hl : l.length ≤ 1000) (hr : Rise l) : Dz i_lat_find none [A.t (T.node l), A.t (T.str s)] (1, [A.t (T.int (findF l s 0))]) := by
  obtain ⟨c, c1, c2, c3, hc⟩ := bsearch_loop l s hl hr l.length 0 l.length (by omega) (by omega) (by omega) (fun x hx => by omega) (fun x h1 h2 => by omega)
  have hne : ∀ x, x < c → nm (tAtD l x) ≠ s := fun x hx e => by have := c2 x hx; rw [e, slt_irrefl] at this; cases this
  have hb : Dz i_slices_BinarySearchFunc_Field none [A.t (T.node l), A.t (T.str s)] (1, [A.t (T.int c), A.t (T.bool (decide (c < l.length ∧ nm (tAtD l c) = s)))]) := by
    obtain ⟨n0, h0⟩ := hc
    obtain ⟨n1, h1⟩ := find1_does (tAtD l c) s
    refine Does.of (n0 + n1) fun m hm => ?_
    have q : den Tryd.prog G0 ents m i_slices_BinarySearchFunc_Field (some p_slices_BinarySearchFunc_Field_c1) [A.t (T.node l), A.t (T.str s), A.t (T.int (l.length : Nat)), A.t (T.int 0), A.t (T.int (l.length : Nat))] = _ := h0 m (by omega)
    have q1 := h1 m (by omega)
    rw [q_slices_BinarySearchFunc_Field]
    simp only [num_int, tf_bool, txt_str, kids_node, tree_t, aAt_zero, aAt_succ, Option.map_some, Option.bind_some, Nat.beq_refl, Bool.cond_eq_ite, decide_eq_true_eq, decide_eq_false_iff_not, Bool.and_eq_true, Bool.or_eq_true, beq_iff_eq, beq_eq_false_iff_ne, bne_iff_ne, ne_eq, if_true, if_false, Int.toNat_natCast, Bool.false_eq_true, nb12, nb21, nb14, nb24, nb42, nb41, terms_eq, flds_eq, q, q1]
    by_cases h : c < l.length
    · rw [if_pos (by omega), if_pos (by omega), c3 c (by omega) h]
      by_cases h3 : nm (tAtD l c) = s
      · simp [h, h3]
      · simp [h, h3]
    · rw [if_neg (by omega), decide_eq_false (fun e => h e.1)]
  obtain ⟨n0, h0⟩ := hb
  refine Does.of n0 fun m hm => ?_
  rw [q_lat_find]
  simp only [num_int, tf_bool, txt_str, kids_node, tree_t, aAt_zero, aAt_succ, Option.map_some, Option.bind_some, Nat.beq_refl, Bool.cond_eq_ite, decide_eq_true_eq, decide_eq_false_iff_not, Bool.and_eq_true, Bool.or_eq_true, beq_iff_eq, beq_eq_false_iff_ne, bne_iff_ne, ne_eq, if_true, if_false, Int.toNat_natCast, Bool.false_eq_true, nb12, nb21, nb14, nb24, nb42, nb41, terms_eq, flds_eq, h0 m hm, Bool.not_eq_true', neg1, collI]
  apply ansI
  by_cases h : c < l.length ∧ nm (tAtD l c) = s
  · rw [if_neg (by simpa using h), findF_at c 0 hne h.1 h.2]; simp
  · rw [if_pos (by simpa using h), findF_no]
    intro k hk e
    rcases Nat.lt_or_ge k c with h1 | h1
    · exact hne k h1 e
    · rcases Nat.eq_or_lt_of_le h1 with rfl | h2
      · exact h ⟨hk, e⟩
      · have := hr c k h2 hk
        rw [e] at this
        rw [c3 c (by omega) (by omega)] at this
        cases this
end Go.Proofs.YtpfglhjgjfhkjaaDoorCP
namespace Go.Proofs.YtpfglhjgjfhkjaaDoorCP
open Go Go.Proofs.YtpfglhjgjfhkjaaDoorVM
set_option linter.unusedVariables false
set_option linter.unusedSimpArgs false
set_option maxRecDepth 100000

/-! ### what is below, plain -/
def lackT (a b : T) : Bool := !op a && (flds b).any fun f => decide (findF (flds a) (nm f) 0 < 0)
def atF (a f : T) : T := val (tAtD (flds a) (findF (flds a) (nm f) 0).toNat)
def fitF (U : T → T → Bool) (a f : T) : Bool := decide (0 ≤ findF (flds a) (nm f) 0) && U (atF a f) (val f)
def belowT (U : T → T → Bool) (a b : T) : Bool :=
  if kd b = 5 then true else if kd a = 4 ∧ kd b = 4 then !(op a && !op b) && !lackT b a && (flds b).all (fitF U a) else belowS a b
def underV : Nat → T → T → Bool
  | 0, _, _ => false
  | d + 1, a, b => (terms a).all fun t => (terms b).any fun u => belowT (underV d) t u
theorem underV_succ (d : Nat) (a b : T) : underV (d + 1) a b = (terms a).all fun t => (terms b).any fun u => belowT (underV d) t u := rfl
/-- Where names are asked for, they rise. -/
def NR : Nat → T → Prop
  | 0, _ => False
  | d + 1, v => ∀ t ∈ terms v, kd t = 4 → Rise (flds t) ∧ ∀ f ∈ flds t, NR d (val f)
def NRt (d : Nat) (t : T) : Prop := kd t = 4 → Rise (flds t) ∧ ∀ f ∈ flds t, NR d (val f)
theorem NR.term {d : Nat} {v t : T} (h : NR (d + 1) v) (ht : t ∈ terms v) : NRt d t := h t ht
theorem drop_any {l : List T} {j : Nat} (h : j < l.length) (p : T → Bool) : (l.drop j).any p = (p l[j] || (l.drop (j + 1)).any p) := by rw [List.drop_eq_getElem_cons h, List.any_cons]
theorem drop_all {l : List T} {j : Nat} (h : j < l.length) (p : T → Bool) : (l.drop j).all p = (p l[j] && (l.drop (j + 1)).all p) := by rw [List.drop_eq_getElem_cons h, List.all_cons]
/-! ### the first Field that lat_lacks_1 takes -/
theorem idxField_loop (l : List T) (c : T) (p : T → Bool) (hl : l.length ≤ 1000) (hp : ∀ x ∈ l, Dz i_lat_lacks_1 none [A.t x, A.t c] (1, [A.t (T.bool (p x)), A.t c])) : ∀ (k j : Nat), j + k = l.length →
    ((l.drop j).any p = false ∧ Dz i_slices_IndexFunc_Field (some p_slices_IndexFunc_Field_c1) [A.t (T.node l), A.t (T.int (l.length : Nat)), A.t (T.int j), A.t c] (2, [A.t c])) ∨
    ((l.drop j).any p = true ∧ ∃ i : Nat, Dz i_slices_IndexFunc_Field (some p_slices_IndexFunc_Field_c1) [A.t (T.node l), A.t (T.int (l.length : Nat)), A.t (T.int j), A.t c] (1, [A.t (T.int i), A.t c])) := by
  intro k
  induction k with
  | zero =>
    intro j hj
    left
    refine ⟨by rw [List.drop_of_length_le (by omega)]; rfl, Does.now fun m => ?_⟩
    rw [q_slices_IndexFunc_Field_c1]
    simp only [num_int, tf_bool, txt_str, kids_node, tree_t, aAt_zero, aAt_succ, Option.map_some, Option.bind_some, Nat.beq_refl, Bool.cond_eq_ite, decide_eq_true_eq, decide_eq_false_iff_not, Bool.and_eq_true, Bool.or_eq_true, beq_iff_eq, beq_eq_false_iff_ne, bne_iff_ne, ne_eq, if_true, if_false, Int.toNat_natCast, Bool.false_eq_true, nb12, nb21, nb14, nb24, nb42, nb41, terms_eq, flds_eq]
    rw [if_neg (by omega)]
  | succ k ih =>
    intro j hj
    have hlt : j < l.length := by omega
    have hw : IntKind.i64.wrap ((j : Int) + 1) = ((j + 1 : Nat) : Int) := i64succ (by omega)
    have h1 := hp _ (List.getElem_mem hlt)
    rw [drop_any hlt]
    cases hb : p l[j] with
    | true =>
      right
      refine ⟨rfl, j, ?_⟩
      obtain ⟨n0, h0⟩ := h1
      refine Does.of n0 fun m hm => ?_
      have q := h0 m hm
      rw [hb] at q
      rw [q_slices_IndexFunc_Field_c1]
      simp only [num_int, tf_bool, txt_str, kids_node, tree_t, aAt_zero, aAt_succ, Option.map_some, Option.bind_some, Nat.beq_refl, Bool.cond_eq_ite, decide_eq_true_eq, decide_eq_false_iff_not, Bool.and_eq_true, Bool.or_eq_true, beq_iff_eq, beq_eq_false_iff_ne, bne_iff_ne, ne_eq, if_true, if_false, Int.toNat_natCast, Bool.false_eq_true, nb12, nb21, nb14, nb24, nb42, nb41, terms_eq, flds_eq, hw, at_get hlt, q]
      rw [if_pos (by omega), if_pos (by omega)]
    | false =>
      have step : ∀ R, Dz i_slices_IndexFunc_Field (some p_slices_IndexFunc_Field_c1) [A.t (T.node l), A.t (T.int (l.length : Nat)), A.t (T.int (j + 1 : Nat)), A.t c] R → Dz i_slices_IndexFunc_Field (some p_slices_IndexFunc_Field_c1) [A.t (T.node l), A.t (T.int (l.length : Nat)), A.t (T.int j), A.t c] R := by
        intro R hR
        obtain ⟨n0, h0⟩ := h1.both hR
        refine Does.of n0 fun m hm => ?_
        obtain ⟨q, q2⟩ := h0 m hm
        rw [hb] at q
        rw [q_slices_IndexFunc_Field_c1]
        simp only [num_int, tf_bool, txt_str, kids_node, tree_t, aAt_zero, aAt_succ, Option.map_some, Option.bind_some, Nat.beq_refl, Bool.cond_eq_ite, decide_eq_true_eq, decide_eq_false_iff_not, Bool.and_eq_true, Bool.or_eq_true, beq_iff_eq, beq_eq_false_iff_ne, bne_iff_ne, ne_eq, if_true, if_false, Int.toNat_natCast, Bool.false_eq_true, nb12, nb21, nb14, nb24, nb42, nb41, terms_eq, flds_eq, hw, at_get hlt, q]
        rw [if_pos (by omega), if_pos (by omega)]
        exact q2
      rcases ih (j + 1) (by omega) with ⟨h2, h3⟩ | ⟨h2, i, h3⟩
      · left; exact ⟨h2, step _ h3⟩
      · right; exact ⟨h2, i, step _ h3⟩
theorem hasField_does (l : List T) (c : T) (p : T → Bool) (hl : l.length ≤ 1000) (hp : ∀ x ∈ l, Dz i_lat_lacks_1 none [A.t x, A.t c] (1, [A.t (T.bool (p x)), A.t c])) : Dz i_slices_ContainsFunc_Field none [A.t (T.node l), A.t c] (1, [A.t (T.bool (l.any p)), A.t c]) := by
  have hidx : ∃ i : Int, decide (i ≥ 0) = l.any p ∧ Dz i_slices_IndexFunc_Field none [A.t (T.node l), A.t c] (1, [A.t (T.int i), A.t c]) := by
    rcases idxField_loop l c p hl hp l.length 0 (by omega) with ⟨h2, n0, h0⟩ | ⟨h2, i, n0, h0⟩
    · refine ⟨-1, by rw [List.drop_zero] at h2; rw [h2]; rfl, Does.of n0 fun m hm => ?_⟩
      have q : den Tryd.prog G0 ents m i_slices_IndexFunc_Field (some p_slices_IndexFunc_Field_c1) [A.t (T.node l), A.t (T.int (l.length : Nat)), A.t (T.int 0), A.t c] = _ := h0 m hm
      rw [q_slices_IndexFunc_Field]
      simp only [num_int, tf_bool, txt_str, kids_node, tree_t, aAt_zero, aAt_succ, Option.map_some, Option.bind_some, Nat.beq_refl, Bool.cond_eq_ite, decide_eq_true_eq, decide_eq_false_iff_not, Bool.and_eq_true, Bool.or_eq_true, beq_iff_eq, beq_eq_false_iff_ne, bne_iff_ne, ne_eq, if_true, if_false, Int.toNat_natCast, Bool.false_eq_true, nb12, nb21, nb14, nb24, nb42, nb41, terms_eq, flds_eq, q, neg1]
    · refine ⟨i, by rw [List.drop_zero] at h2; rw [h2]; exact decide_eq_true (by omega), Does.of n0 fun m hm => ?_⟩
      have q : den Tryd.prog G0 ents m i_slices_IndexFunc_Field (some p_slices_IndexFunc_Field_c1) [A.t (T.node l), A.t (T.int (l.length : Nat)), A.t (T.int 0), A.t c] = _ := h0 m hm
      rw [q_slices_IndexFunc_Field]
      simp only [num_int, tf_bool, txt_str, kids_node, tree_t, aAt_zero, aAt_succ, Option.map_some, Option.bind_some, Nat.beq_refl, Bool.cond_eq_ite, decide_eq_true_eq, decide_eq_false_iff_not, Bool.and_eq_true, Bool.or_eq_true, beq_iff_eq, beq_eq_false_iff_ne, bne_iff_ne, ne_eq, if_true, if_false, Int.toNat_natCast, Bool.false_eq_true, nb12, nb21, nb14, nb24, nb42, nb41, terms_eq, flds_eq, q, neg1]
  obtain ⟨i, h1, n0, h0⟩ := hidx
  refine Does.of n0 fun m hm => ?_
  rw [q_slices_ContainsFunc_Field]
  simp only [num_int, tf_bool, txt_str, kids_node, tree_t, aAt_zero, aAt_succ, Option.map_some, Option.bind_some, Nat.beq_refl, Bool.cond_eq_ite, decide_eq_true_eq, decide_eq_false_iff_not, Bool.and_eq_true, Bool.or_eq_true, beq_iff_eq, beq_eq_false_iff_ne, bne_iff_ne, ne_eq, if_true, if_false, Int.toNat_natCast, Bool.false_eq_true, nb12, nb21, nb14, nb24, nb42, nb41, terms_eq, flds_eq, h0 m hm, h1]
/-! ### the first Term that lat_under_1 takes -/
theorem idxTerm_loop (l : List T) (c : T) (p : T → Bool) (hl : l.length ≤ 1000) (hp : ∀ x ∈ l, Dz i_lat_under_1 none [A.t x, A.t c] (1, [A.t (T.bool (p x)), A.t c])) : ∀ (k j : Nat), j + k = l.length →
    ((l.drop j).any p = false ∧ Dz i_slices_IndexFunc_Term (some p_slices_IndexFunc_Term_c1) [A.t (T.node l), A.t (T.int (l.length : Nat)), A.t (T.int j), A.t c] (2, [A.t c])) ∨
    ((l.drop j).any p = true ∧ ∃ i : Nat, Dz i_slices_IndexFunc_Term (some p_slices_IndexFunc_Term_c1) [A.t (T.node l), A.t (T.int (l.length : Nat)), A.t (T.int j), A.t c] (1, [A.t (T.int i), A.t c])) := by
  intro k
  induction k with
  | zero =>
    intro j hj
    left
    refine ⟨by rw [List.drop_of_length_le (by omega)]; rfl, Does.now fun m => ?_⟩
    rw [q_slices_IndexFunc_Term_c1]
    simp only [num_int, tf_bool, txt_str, kids_node, tree_t, aAt_zero, aAt_succ, Option.map_some, Option.bind_some, Nat.beq_refl, Bool.cond_eq_ite, decide_eq_true_eq, decide_eq_false_iff_not, Bool.and_eq_true, Bool.or_eq_true, beq_iff_eq, beq_eq_false_iff_ne, bne_iff_ne, ne_eq, if_true, if_false, Int.toNat_natCast, Bool.false_eq_true, nb12, nb21, nb14, nb24, nb42, nb41, terms_eq, flds_eq]
    rw [if_neg (by omega)]
  | succ k ih =>
    intro j hj
    have hlt : j < l.length := by omega
    have hw : IntKind.i64.wrap ((j : Int) + 1) = ((j + 1 : Nat) : Int) := i64succ (by omega)
    have h1 := hp _ (List.getElem_mem hlt)
    rw [drop_any hlt]
    cases hb : p l[j] with
    | true =>
      right
      refine ⟨rfl, j, ?_⟩
      obtain ⟨n0, h0⟩ := h1
      refine Does.of n0 fun m hm => ?_
      have q := h0 m hm
      rw [hb] at q
      rw [q_slices_IndexFunc_Term_c1]
      simp only [num_int, tf_bool, txt_str, kids_node, tree_t, aAt_zero, aAt_succ, Option.map_some, Option.bind_some, Nat.beq_refl, Bool.cond_eq_ite, decide_eq_true_eq, decide_eq_false_iff_not, Bool.and_eq_true, Bool.or_eq_true, beq_iff_eq, beq_eq_false_iff_ne, bne_iff_ne, ne_eq, if_true, if_false, Int.toNat_natCast, Bool.false_eq_true, nb12, nb21, nb14, nb24, nb42, nb41, terms_eq, flds_eq, hw, at_get hlt, q]
      rw [if_pos (by omega), if_pos (by omega)]
    | false =>
      have step : ∀ R, Dz i_slices_IndexFunc_Term (some p_slices_IndexFunc_Term_c1) [A.t (T.node l), A.t (T.int (l.length : Nat)), A.t (T.int (j + 1 : Nat)), A.t c] R → Dz i_slices_IndexFunc_Term (some p_slices_IndexFunc_Term_c1) [A.t (T.node l), A.t (T.int (l.length : Nat)), A.t (T.int j), A.t c] R := by
        intro R hR
        obtain ⟨n0, h0⟩ := h1.both hR
        refine Does.of n0 fun m hm => ?_
        obtain ⟨q, q2⟩ := h0 m hm
        rw [hb] at q
        rw [q_slices_IndexFunc_Term_c1]
        simp only [num_int, tf_bool, txt_str, kids_node, tree_t, aAt_zero, aAt_succ, Option.map_some, Option.bind_some, Nat.beq_refl, Bool.cond_eq_ite, decide_eq_true_eq, decide_eq_false_iff_not, Bool.and_eq_true, Bool.or_eq_true, beq_iff_eq, beq_eq_false_iff_ne, bne_iff_ne, ne_eq, if_true, if_false, Int.toNat_natCast, Bool.false_eq_true, nb12, nb21, nb14, nb24, nb42, nb41, terms_eq, flds_eq, hw, at_get hlt, q]
        rw [if_pos (by omega), if_pos (by omega)]
        exact q2
      rcases ih (j + 1) (by omega) with ⟨h2, h3⟩ | ⟨h2, i, h3⟩
      · left; exact ⟨h2, step _ h3⟩
      · right; exact ⟨h2, i, step _ h3⟩
theorem hasTerm_does (l : List T) (c : T) (p : T → Bool) (hl : l.length ≤ 1000) (hp : ∀ x ∈ l, Dz i_lat_under_1 none [A.t x, A.t c] (1, [A.t (T.bool (p x)), A.t c])) : Dz i_slices_ContainsFunc_Term none [A.t (T.node l), A.t c] (1, [A.t (T.bool (l.any p)), A.t c]) := by
  have hidx : ∃ i : Int, decide (i ≥ 0) = l.any p ∧ Dz i_slices_IndexFunc_Term none [A.t (T.node l), A.t c] (1, [A.t (T.int i), A.t c]) := by
    rcases idxTerm_loop l c p hl hp l.length 0 (by omega) with ⟨h2, n0, h0⟩ | ⟨h2, i, n0, h0⟩
    · refine ⟨-1, by rw [List.drop_zero] at h2; rw [h2]; rfl, Does.of n0 fun m hm => ?_⟩
      have q : den Tryd.prog G0 ents m i_slices_IndexFunc_Term (some p_slices_IndexFunc_Term_c1) [A.t (T.node l), A.t (T.int (l.length : Nat)), A.t (T.int 0), A.t c] = _ := h0 m hm
      rw [q_slices_IndexFunc_Term]
      simp only [num_int, tf_bool, txt_str, kids_node, tree_t, aAt_zero, aAt_succ, Option.map_some, Option.bind_some, Nat.beq_refl, Bool.cond_eq_ite, decide_eq_true_eq, decide_eq_false_iff_not, Bool.and_eq_true, Bool.or_eq_true, beq_iff_eq, beq_eq_false_iff_ne, bne_iff_ne, ne_eq, if_true, if_false, Int.toNat_natCast, Bool.false_eq_true, nb12, nb21, nb14, nb24, nb42, nb41, terms_eq, flds_eq, q, neg1]
    · refine ⟨i, by rw [List.drop_zero] at h2; rw [h2]; exact decide_eq_true (by omega), Does.of n0 fun m hm => ?_⟩
      have q : den Tryd.prog G0 ents m i_slices_IndexFunc_Term (some p_slices_IndexFunc_Term_c1) [A.t (T.node l), A.t (T.int (l.length : Nat)), A.t (T.int 0), A.t c] = _ := h0 m hm
      rw [q_slices_IndexFunc_Term]
      simp only [num_int, tf_bool, txt_str, kids_node, tree_t, aAt_zero, aAt_succ, Option.map_some, Option.bind_some, Nat.beq_refl, Bool.cond_eq_ite, decide_eq_true_eq, decide_eq_false_iff_not, Bool.and_eq_true, Bool.or_eq_true, beq_iff_eq, beq_eq_false_iff_ne, bne_iff_ne, ne_eq, if_true, if_false, Int.toNat_natCast, Bool.false_eq_true, nb12, nb21, nb14, nb24, nb42, nb41, terms_eq, flds_eq, q, neg1]
  obtain ⟨i, h1, n0, h0⟩ := hidx
  refine Does.of n0 fun m hm => ?_
  rw [q_slices_ContainsFunc_Term]
  simp only [num_int, tf_bool, txt_str, kids_node, tree_t, aAt_zero, aAt_succ, Option.map_some, Option.bind_some, Nat.beq_refl, Bool.cond_eq_ite, decide_eq_true_eq, decide_eq_false_iff_not, Bool.and_eq_true, Bool.or_eq_true, beq_iff_eq, beq_eq_false_iff_ne, bne_iff_ne, ne_eq, if_true, if_false, Int.toNat_natCast, Bool.false_eq_true, nb12, nb21, nb14, nb24, nb42, nb41, terms_eq, flds_eq, h0 m hm, h1]
theorem lacks_does (a b : T) (ha : (flds a).length ≤ 1000) (hb : (flds b).length ≤ 1000) (hr : Rise (flds a)) : Dz i_lat_lacks none [A.t a, A.t b] (1, [A.t (T.bool (lackT a b))]) := by
  have h1 : ∀ x ∈ flds b, Dz i_lat_lacks_1 none [A.t x, A.t a] (1, [A.t (T.bool (decide (findF (flds a) (nm x) 0 < 0))), A.t a]) := by
    intro x _
    obtain ⟨n0, h0⟩ := lfind_does (flds a) (nm x) ha hr
    refine Does.of n0 fun m hm => ?_
    rw [q_lat_lacks_1]
    simp only [num_int, tf_bool, txt_str, kids_node, tree_t, aAt_zero, aAt_succ, Option.map_some, Option.bind_some, Nat.beq_refl, Bool.cond_eq_ite, decide_eq_true_eq, decide_eq_false_iff_not, Bool.and_eq_true, Bool.or_eq_true, beq_iff_eq, beq_eq_false_iff_ne, bne_iff_ne, ne_eq, if_true, if_false, Int.toNat_natCast, Bool.false_eq_true, nb12, nb21, nb14, nb24, nb42, nb41, terms_eq, flds_eq, nm_eq, h0 m hm]
  obtain ⟨n0, h0⟩ := hasField_does (flds b) a _ hb h1
  refine Does.of n0 fun m hm => ?_
  rw [q_lat_lacks, lackT]
  simp only [num_int, tf_bool, txt_str, kids_node, tree_t, aAt_zero, aAt_succ, Option.map_some, Option.bind_some, Nat.beq_refl, Bool.cond_eq_ite, decide_eq_true_eq, decide_eq_false_iff_not, Bool.and_eq_true, Bool.or_eq_true, beq_iff_eq, beq_eq_false_iff_ne, bne_iff_ne, ne_eq, if_true, if_false, Int.toNat_natCast, Bool.false_eq_true, nb12, nb21, nb14, nb24, nb42, nb41, terms_eq, flds_eq, h0 m hm, op_eq]
  cases op a <;> rfl
theorem below_loop (U : T → T → Bool) (a : T) (l : List T) (ha : (flds a).length ≤ 1000) (hl : l.length ≤ 1000) (hr : Rise (flds a)) (hu : ∀ f ∈ flds a, ∀ g ∈ l, Dz i_lat_under none [A.t (val f), A.t (val g)] (1, [A.t (T.bool (U (val f) (val g)))])) : ∀ (k j : Nat), j + k = l.length →
    Dz i_lat_below (some p_lat_below_c1) [A.t (T.node l), A.t (T.int (l.length : Nat)), A.t (T.int j), A.t a] (if (l.drop j).all (fitF U a) then (3, []) else (1, [A.t (T.bool false)])) := by
  intro k
  induction k with
  | zero =>
    intro j hj
    refine Does.now fun m => ?_
    rw [q_lat_below_c1, List.drop_of_length_le (by omega)]
    simp only [num_int, tf_bool, txt_str, kids_node, tree_t, aAt_zero, aAt_succ, Option.map_some, Option.bind_some, Nat.beq_refl, Bool.cond_eq_ite, decide_eq_true_eq, decide_eq_false_iff_not, Bool.and_eq_true, Bool.or_eq_true, beq_iff_eq, beq_eq_false_iff_ne, bne_iff_ne, ne_eq, if_true, if_false, Int.toNat_natCast, Bool.false_eq_true, nb12, nb21, nb14, nb24, nb42, nb41, terms_eq, flds_eq]
    rw [if_neg (by omega)]; rfl
  | succ k ih =>
    intro j hj
    have hlt : j < l.length := by omega
    have hw : IntKind.i64.wrap ((j : Int) + 1) = ((j + 1 : Nat) : Int) := i64succ (by omega)
    have hle := findF_le (flds a) (nm l[j]) 0
    rw [drop_all hlt]
    obtain ⟨n1, h1⟩ := lfind_does (flds a) (nm l[j]) ha hr
    by_cases hneg : findF (flds a) (nm l[j]) 0 < 0
    · refine Does.of n1 fun m hm => ?_
      have hf : fitF U a l[j] = false := by rw [fitF, decide_eq_false (by omega), Bool.false_and]
      rw [q_lat_below_c1]
      simp only [num_int, tf_bool, txt_str, kids_node, tree_t, aAt_zero, aAt_succ, Option.map_some, Option.bind_some, Nat.beq_refl, Bool.cond_eq_ite, decide_eq_true_eq, decide_eq_false_iff_not, Bool.and_eq_true, Bool.or_eq_true, beq_iff_eq, beq_eq_false_iff_ne, bne_iff_ne, ne_eq, if_true, if_false, Int.toNat_natCast, Bool.false_eq_true, nb12, nb21, nb14, nb24, nb42, nb41, terms_eq, flds_eq, at_get hlt, nm_eq, h1 m hm, hf]
      rw [if_pos (by omega), if_pos (by omega), if_neg (by omega)]
      rfl
    · have hk : (findF (flds a) (nm l[j]) 0).toNat < (flds a).length := by omega
      have h2 := hu _ (List.getElem_mem hk) _ (List.getElem_mem hlt)
      have hf : fitF U a l[j] = U (val (flds a)[(findF (flds a) (nm l[j]) 0).toNat]) (val l[j]) := by rw [fitF, decide_eq_true (by omega), Bool.true_and, atF, at_get hk]
      obtain ⟨n2, h2⟩ := h2.both (ih (j + 1) (by omega))
      refine Does.of (n1 + n2) fun m hm => ?_
      obtain ⟨q2, q3⟩ := h2 m (by omega)
      have q1 := h1 m (by omega)
      rw [q_lat_below_c1, hf]
      simp only [num_int, tf_bool, txt_str, kids_node, tree_t, aAt_zero, aAt_succ, Option.map_some, Option.bind_some, Nat.beq_refl, Bool.cond_eq_ite, decide_eq_true_eq, decide_eq_false_iff_not, Bool.and_eq_true, Bool.or_eq_true, beq_iff_eq, beq_eq_false_iff_ne, bne_iff_ne, ne_eq, if_true, if_false, Int.toNat_natCast, Bool.false_eq_true, nb12, nb21, nb14, nb24, nb42, nb41, terms_eq, flds_eq, at_get hlt, at_get hk, nm_eq, val_eq, q1, q2, q3, hw]
      rw [if_pos (by omega), if_pos (by omega), if_pos (by omega), if_pos (by omega)]
      cases U (val (flds a)[(findF (flds a) (nm l[j]) 0).toNat]) (val l[j]) <;> simp
theorem lbelow_does (U : T → T → Bool) (a b : T) (ha : (flds a).length ≤ 1000) (hb : (flds b).length ≤ 1000) (hra : kd a = 4 → Rise (flds a)) (hrb : kd b = 4 → Rise (flds b))
    (hu : kd a = 4 → kd b = 4 → ∀ f ∈ flds a, ∀ g ∈ flds b, Dz i_lat_under none [A.t (val f), A.t (val g)] (1, [A.t (T.bool (U (val f) (val g)))])) : Dz i_lat_below none [A.t a, A.t b] (1, [A.t (T.bool (belowT U a b))]) := by
  by_cases h5 : kd b = 5
  · refine Does.now fun m => ?_
    rw [q_lat_below, belowT, if_pos h5]
    simp only [num_int, tf_bool, txt_str, kids_node, tree_t, aAt_zero, aAt_succ, Option.map_some, Option.bind_some, Nat.beq_refl, Bool.cond_eq_ite, decide_eq_true_eq, decide_eq_false_iff_not, Bool.and_eq_true, Bool.or_eq_true, beq_iff_eq, beq_eq_false_iff_ne, bne_iff_ne, ne_eq, if_true, if_false, Int.toNat_natCast, Bool.false_eq_true, nb12, nb21, nb14, nb24, nb42, nb41, terms_eq, flds_eq, kd_eq, h5]
  by_cases h4 : kd a = 4 ∧ kd b = 4
  · obtain ⟨n1, h1⟩ := lacks_does b a hb ha (hrb h4.2)
    obtain ⟨n2, h2⟩ := below_loop U a (flds b) ha hb (hra h4.1) (hu h4.1 h4.2) (flds b).length 0 (by omega)
    refine Does.of (n1 + n2) fun m hm => ?_
    have q1 := h1 m (by omega)
    have q2 : den Tryd.prog G0 ents m i_lat_below (some p_lat_below_c1) [A.t (T.node (flds b)), A.t (T.int ((flds b).length : Nat)), A.t (T.int 0), A.t a] = _ := h2 m (by omega)
    rw [List.drop_zero] at q2
    rw [q_lat_below, belowT, if_neg h5, if_pos h4]
    simp only [terms_eq, flds_eq, kd_eq, op_eq, h4.1, h4.2, q1, q2]
    cases op a <;> cases op b <;> cases lackT b a <;> cases (flds b).all (fitF U a) <;> rfl
  · obtain ⟨n0, h0⟩ := sbelow_does a b
    refine Does.of n0 fun m hm => ?_
    rw [q_lat_below, belowT, if_neg h5, if_neg h4]
    simp only [num_int, tf_bool, txt_str, kids_node, tree_t, aAt_zero, aAt_succ, Option.map_some, Option.bind_some, Nat.beq_refl, Bool.cond_eq_ite, decide_eq_true_eq, decide_eq_false_iff_not, Bool.and_eq_true, Bool.or_eq_true, beq_iff_eq, beq_eq_false_iff_ne, bne_iff_ne, ne_eq, if_true, if_false, Int.toNat_natCast, Bool.false_eq_true, nb12, nb21, nb14, nb24, nb42, nb41, terms_eq, flds_eq, kd_eq, h0 m hm]
    by_cases h1 : kd a = kd b
    · have : ¬ kd a = 4 := fun e => h4 ⟨e, h1 ▸ e⟩
      simp [h1 ▸ this, h1, h5]
    · simp [h1, h5]
theorem lunder_loop (U : T → T → Bool) (l : List T) (b : T) (hl : l.length ≤ 1000) (hb : (terms b).length ≤ 1000) (hp : ∀ x ∈ l, ∀ y ∈ terms b, Dz i_lat_below none [A.t x, A.t y] (1, [A.t (T.bool (belowT U x y))])) : ∀ (k j : Nat), j + k = l.length →
    Dz i_lat_under (some p_lat_under_c1) [A.t (T.node l), A.t (T.int (l.length : Nat)), A.t (T.int j), A.t b] (if (l.drop j).all (fun t => (terms b).any fun u => belowT U t u) then (2, []) else (1, [A.t (T.bool false)])) := by
  intro k
  induction k with
  | zero =>
    intro j hj
    refine Does.now fun m => ?_
    rw [q_lat_under_c1, List.drop_of_length_le (by omega)]
    simp only [num_int, tf_bool, txt_str, kids_node, tree_t, aAt_zero, aAt_succ, Option.map_some, Option.bind_some, Nat.beq_refl, Bool.cond_eq_ite, decide_eq_true_eq, decide_eq_false_iff_not, Bool.and_eq_true, Bool.or_eq_true, beq_iff_eq, beq_eq_false_iff_ne, bne_iff_ne, ne_eq, if_true, if_false, Int.toNat_natCast, Bool.false_eq_true, nb12, nb21, nb14, nb24, nb42, nb41, terms_eq, flds_eq]
    rw [if_neg (by omega)]; rfl
  | succ k ih =>
    intro j hj
    have hlt : j < l.length := by omega
    have hw : IntKind.i64.wrap ((j : Int) + 1) = ((j + 1 : Nat) : Int) := i64succ (by omega)
    have h1 : ∀ y ∈ terms b, Dz i_lat_under_1 none [A.t y, A.t l[j]] (1, [A.t (T.bool (belowT U l[j] y)), A.t l[j]]) := by
      intro y hy
      obtain ⟨n0, h0⟩ := hp _ (List.getElem_mem hlt) y hy
      refine Does.of n0 fun m hm => ?_
      rw [q_lat_under_1]
      simp only [num_int, tf_bool, txt_str, kids_node, tree_t, aAt_zero, aAt_succ, Option.map_some, Option.bind_some, Nat.beq_refl, Bool.cond_eq_ite, decide_eq_true_eq, decide_eq_false_iff_not, Bool.and_eq_true, Bool.or_eq_true, beq_iff_eq, beq_eq_false_iff_ne, bne_iff_ne, ne_eq, if_true, if_false, Int.toNat_natCast, Bool.false_eq_true, nb12, nb21, nb14, nb24, nb42, nb41, terms_eq, flds_eq, h0 m hm]
    obtain ⟨n0, h0⟩ := (hasTerm_does (terms b) l[j] _ hb h1).both (ih (j + 1) (by omega))
    refine Does.of n0 fun m hm => ?_
    obtain ⟨q1, q2⟩ := h0 m hm
    rw [q_lat_under_c1, drop_all hlt]
    simp only [num_int, tf_bool, txt_str, kids_node, tree_t, aAt_zero, aAt_succ, Option.map_some, Option.bind_some, Nat.beq_refl, Bool.cond_eq_ite, decide_eq_true_eq, decide_eq_false_iff_not, Bool.and_eq_true, Bool.or_eq_true, beq_iff_eq, beq_eq_false_iff_ne, bne_iff_ne, ne_eq, if_true, if_false, Int.toNat_natCast, Bool.false_eq_true, nb12, nb21, nb14, nb24, nb42, nb41, terms_eq, flds_eq, at_get hlt, q1, q2, hw]
    rw [if_pos (by omega), if_pos (by omega)]
    cases (terms b).any fun u => belowT U l[j] u <;> simp
theorem lunder_does : ∀ (d : Nat) (a b : T), Sm d a → Sm d b → NR d a → NR d b → Dz i_lat_under none [A.t a, A.t b] (1, [A.t (T.bool (underV d a b))])
  | 0, a, b, ha, _, _, _ => ha.1.elim
  | d + 1, a, b, ha, hb, na, nb => by
    have la := ha.terms
    have lb := hb.terms
    have hp : ∀ x ∈ terms a, ∀ y ∈ terms b, Dz i_lat_below none [A.t x, A.t y] (1, [A.t (T.bool (belowT (underV d) x y))]) := fun x hx y hy =>
      lbelow_does (underV d) x y (by have := ha.flds hx; omega) (by have := hb.flds hy; omega) (fun h => (na x hx h).1) (fun h => (nb y hy h).1)
        fun h1 h2 f hf g hg => lunder_does d _ _ (ha.sub hx hf) (hb.sub hy hg) ((na x hx h1).2 f hf) ((nb y hy h2).2 g hg)
    obtain ⟨n0, h0⟩ := lunder_loop (underV d) (terms a) b (by omega) (by omega) hp (terms a).length 0 (by omega)
    refine Does.of n0 fun m hm => ?_
    have q : den Tryd.prog G0 ents m i_lat_under (some p_lat_under_c1) [A.t (T.node (terms a)), A.t (T.int ((terms a).length : Nat)), A.t (T.int 0), A.t b] = _ := h0 m hm
    rw [List.drop_zero, ← underV_succ] at q
    rw [q_lat_under]
    simp only [num_int, tf_bool, txt_str, kids_node, tree_t, aAt_zero, aAt_succ, Option.map_some, Option.bind_some, Nat.beq_refl, Bool.cond_eq_ite, decide_eq_true_eq, decide_eq_false_iff_not, Bool.and_eq_true, Bool.or_eq_true, beq_iff_eq, beq_eq_false_iff_ne, bne_iff_ne, ne_eq, if_true, if_false, Int.toNat_natCast, Bool.false_eq_true, nb12, nb21, nb14, nb24, nb42, nb41, terms_eq, flds_eq, q]
    cases underV (d + 1) a b <;> rfl
/-! ### the document's -/
theorem rlack_loop (a b : T) (ha : (flds a).length ≤ 1000) (hb : (flds b).length ≤ 1000) : ∀ (k j : Nat), j + k = (flds a).length →
    Dz i_treillageref09_under (some p_treillageref09_under_c1) [A.t (T.int j), A.t a, A.t b] (if !op b && ((flds a).drop j).any (fun f => decide (findF (flds b) (nm f) 0 < 0)) then (1, [A.t (T.bool false)]) else (2, [A.t a, A.t b])) := by
  intro k
  induction k with
  | zero =>
    intro j hj
    refine Does.now fun m => ?_
    rw [q_treillageref09_under_c1, List.drop_of_length_le (by omega)]
    simp only [num_int, tf_bool, txt_str, kids_node, tree_t, aAt_zero, aAt_succ, Option.map_some, Option.bind_some, Nat.beq_refl, Bool.cond_eq_ite, decide_eq_true_eq, decide_eq_false_iff_not, Bool.and_eq_true, Bool.or_eq_true, beq_iff_eq, beq_eq_false_iff_ne, bne_iff_ne, ne_eq, if_true, if_false, Int.toNat_natCast, Bool.false_eq_true, nb12, nb21, nb14, nb24, nb42, nb41, terms_eq, flds_eq, op_eq]
    rw [if_neg (by omega)]
    simp
  | succ k ih =>
    intro j hj
    have hlt : j < (flds a).length := by omega
    have hw : IntKind.i64.wrap ((j : Int) + 1) = ((j + 1 : Nat) : Int) := i64succ (by omega)
    obtain ⟨n0, h0⟩ := (rfind_does (flds b) (nm (flds a)[j]) hb).both (ih (j + 1) (by omega))
    refine Does.of n0 fun m hm => ?_
    obtain ⟨q1, q2⟩ := h0 m hm
    rw [q_treillageref09_under_c1, drop_any hlt]
    simp only [num_int, tf_bool, txt_str, kids_node, tree_t, aAt_zero, aAt_succ, Option.map_some, Option.bind_some, Nat.beq_refl, Bool.cond_eq_ite, decide_eq_true_eq, decide_eq_false_iff_not, Bool.and_eq_true, Bool.or_eq_true, beq_iff_eq, beq_eq_false_iff_ne, bne_iff_ne, ne_eq, if_true, if_false, Int.toNat_natCast, Bool.false_eq_true, nb12, nb21, nb14, nb24, nb42, nb41, terms_eq, flds_eq, op_eq, at_get hlt, nm_eq, q1, q2, hw, Bool.not_eq_true']
    rw [if_pos (by omega)]
    cases ho : op b with
    | true => simp
    | false =>
      rw [if_pos rfl, if_pos (by omega)]
      by_cases h : findF (flds b) (nm (flds a)[j]) 0 < 0
      · simp [h]
      · simp [h]
theorem rbelow_loop (U : T → T → Bool) (a b : T) (ha : (flds a).length ≤ 1000) (hb : (flds b).length ≤ 1000) (hu : ∀ f ∈ flds a, ∀ g ∈ flds b, Dz i_treillageref09_Under none [A.t (val f), A.t (val g)] (1, [A.t (T.bool (U (val f) (val g)))])) : ∀ (k j : Nat), j + k = (flds b).length →
    Dz i_treillageref09_under (some p_treillageref09_under_c2) [A.t (T.int j), A.t a, A.t b] (if ((flds b).drop j).all (fitF U a) then (4, []) else (1, [A.t (T.bool false)])) := by
  intro k
  induction k with
  | zero =>
    intro j hj
    refine Does.now fun m => ?_
    rw [q_treillageref09_under_c2, List.drop_of_length_le (by omega)]
    simp only [num_int, tf_bool, txt_str, kids_node, tree_t, aAt_zero, aAt_succ, Option.map_some, Option.bind_some, Nat.beq_refl, Bool.cond_eq_ite, decide_eq_true_eq, decide_eq_false_iff_not, Bool.and_eq_true, Bool.or_eq_true, beq_iff_eq, beq_eq_false_iff_ne, bne_iff_ne, ne_eq, if_true, if_false, Int.toNat_natCast, Bool.false_eq_true, nb12, nb21, nb14, nb24, nb42, nb41, terms_eq, flds_eq]
    rw [if_neg (by omega)]; rfl
  | succ k ih =>
    intro j hj
    have hlt : j < (flds b).length := by omega
    have hw : IntKind.i64.wrap ((j : Int) + 1) = ((j + 1 : Nat) : Int) := i64succ (by omega)
    have hle := findF_le (flds a) (nm (flds b)[j]) 0
    rw [drop_all hlt]
    obtain ⟨n1, h1⟩ := rfind_does (flds a) (nm (flds b)[j]) ha
    by_cases hneg : findF (flds a) (nm (flds b)[j]) 0 < 0
    · refine Does.of n1 fun m hm => ?_
      have hf : fitF U a (flds b)[j] = false := by rw [fitF, decide_eq_false (by omega), Bool.false_and]
      rw [q_treillageref09_under_c2]
      simp only [num_int, tf_bool, txt_str, kids_node, tree_t, aAt_zero, aAt_succ, Option.map_some, Option.bind_some, Nat.beq_refl, Bool.cond_eq_ite, decide_eq_true_eq, decide_eq_false_iff_not, Bool.and_eq_true, Bool.or_eq_true, beq_iff_eq, beq_eq_false_iff_ne, bne_iff_ne, ne_eq, if_true, if_false, Int.toNat_natCast, Bool.false_eq_true, nb12, nb21, nb14, nb24, nb42, nb41, terms_eq, flds_eq, at_get hlt, nm_eq, h1 m hm, hf]
      rw [if_pos (by omega), if_pos (by omega), if_neg (by omega)]
      rfl
    · have hk : (findF (flds a) (nm (flds b)[j]) 0).toNat < (flds a).length := by omega
      have h2 := hu _ (List.getElem_mem hk) _ (List.getElem_mem hlt)
      have hf : fitF U a (flds b)[j] = U (val (flds a)[(findF (flds a) (nm (flds b)[j]) 0).toNat]) (val (flds b)[j]) := by rw [fitF, decide_eq_true (by omega), Bool.true_and, atF, at_get hk]
      obtain ⟨n2, h2⟩ := h2.both (ih (j + 1) (by omega))
      refine Does.of (n1 + n2) fun m hm => ?_
      obtain ⟨q2, q3⟩ := h2 m (by omega)
      have q1 := h1 m (by omega)
      rw [q_treillageref09_under_c2, hf]
      simp only [num_int, tf_bool, txt_str, kids_node, tree_t, aAt_zero, aAt_succ, Option.map_some, Option.bind_some, Nat.beq_refl, Bool.cond_eq_ite, decide_eq_true_eq, decide_eq_false_iff_not, Bool.and_eq_true, Bool.or_eq_true, beq_iff_eq, beq_eq_false_iff_ne, bne_iff_ne, ne_eq, if_true, if_false, Int.toNat_natCast, Bool.false_eq_true, nb12, nb21, nb14, nb24, nb42, nb41, terms_eq, flds_eq, at_get hlt, at_get hk, nm_eq, val_eq, q1, q2, q3, hw]
      rw [if_pos (by omega), if_pos (by omega), if_pos (by omega), if_pos (by omega), if_pos (by omega)]
      cases U (val (flds a)[(findF (flds a) (nm (flds b)[j]) 0).toNat]) (val (flds b)[j]) <;> simp
theorem runder1_does (U : T → T → Bool) (a b : T) (ha : (flds a).length ≤ 1000) (hb : (flds b).length ≤ 1000)
    (hu : kd a = 4 → kd b = 4 → ∀ f ∈ flds a, ∀ g ∈ flds b, Dz i_treillageref09_Under none [A.t (val f), A.t (val g)] (1, [A.t (T.bool (U (val f) (val g)))])) : Dz i_treillageref09_under none [A.t a, A.t b] (1, [A.t (T.bool (belowT U a b))]) := by
  by_cases h5 : kd b = 5
  · refine Does.now fun m => ?_
    rw [q_treillageref09_under, belowT, if_pos h5]
    simp only [num_int, tf_bool, txt_str, kids_node, tree_t, aAt_zero, aAt_succ, Option.map_some, Option.bind_some, Nat.beq_refl, Bool.cond_eq_ite, decide_eq_true_eq, decide_eq_false_iff_not, Bool.and_eq_true, Bool.or_eq_true, beq_iff_eq, beq_eq_false_iff_ne, bne_iff_ne, ne_eq, if_true, if_false, Int.toNat_natCast, Bool.false_eq_true, nb12, nb21, nb14, nb24, nb42, nb41, terms_eq, flds_eq, kd_eq, h5]
  by_cases h4 : kd a = 4 ∧ kd b = 4
  · obtain ⟨n1, h1⟩ := rlack_loop a b ha hb (flds a).length 0 (by omega)
    obtain ⟨n2, h2⟩ := rbelow_loop U a b ha hb (hu h4.1 h4.2) (flds b).length 0 (by omega)
    refine Does.of (n1 + n2) fun m hm => ?_
    have q1 : den Tryd.prog G0 ents m i_treillageref09_under (some p_treillageref09_under_c1) [A.t (T.int 0), A.t a, A.t b] = _ := h1 m (by omega)
    have q2 : den Tryd.prog G0 ents m i_treillageref09_under (some p_treillageref09_under_c2) [A.t (T.int 0), A.t a, A.t b] = _ := h2 m (by omega)
    rw [List.drop_zero] at q1 q2
    rw [q_treillageref09_under, belowT, if_neg h5, if_pos h4, lackT]
    simp only [terms_eq, flds_eq, kd_eq, op_eq, h4.1, h4.2, q1]
    generalize (flds a).any (fun f => decide (findF (flds b) (nm f) 0 < 0)) = c1 at q1 ⊢
    generalize (flds b).all (fitF U a) = c2 at q2 ⊢
    cases hoa : op a <;> cases hob : op b <;> cases c1 <;> simp [aAt_zero, aAt_succ, tree_t, q2] <;> cases c2 <;> rfl
  · obtain ⟨n0, h0⟩ := rbelow_does a b
    refine Does.of n0 fun m hm => ?_
    rw [q_treillageref09_under, belowT, if_neg h5, if_neg h4]
    simp only [num_int, tf_bool, txt_str, kids_node, tree_t, aAt_zero, aAt_succ, Option.map_some, Option.bind_some, Nat.beq_refl, Bool.cond_eq_ite, decide_eq_true_eq, decide_eq_false_iff_not, Bool.and_eq_true, Bool.or_eq_true, beq_iff_eq, beq_eq_false_iff_ne, bne_iff_ne, ne_eq, if_true, if_false, Int.toNat_natCast, Bool.false_eq_true, nb12, nb21, nb14, nb24, nb42, nb41, terms_eq, flds_eq, kd_eq, h0 m hm]
    by_cases h1 : kd a = 4
    · have : ¬ kd b = 4 := fun e => h4 ⟨h1, e⟩
      simp [h1, this, h5]
    · simp [h1, h5]
theorem runder_in (U : T → T → Bool) (i : Nat) (a b : T) (hi : i < (terms a).length) (hb : (terms b).length ≤ 1000) (hp : ∀ y ∈ terms b, Dz i_treillageref09_under none [A.t (tAtD (terms a) i), A.t y] (1, [A.t (T.bool (belowT U (tAtD (terms a) i) y))])) : ∀ (k j : Nat) (met : Bool), j + k = (terms b).length →
    Dz i_treillageref09_Under (some p_treillageref09_Under_c2) [A.t (T.int i), A.t (T.bool met), A.t (T.int j), A.t a, A.t b] (4, [A.t (T.int i), A.t (T.bool (met || ((terms b).drop j).any fun u => belowT U (tAtD (terms a) i) u)), A.t a, A.t b]) := by
  intro k
  induction k with
  | zero =>
    intro j met hj
    refine Does.now fun m => ?_
    rw [q_treillageref09_Under_c2, List.drop_of_length_le (by omega)]
    simp only [num_int, tf_bool, txt_str, kids_node, tree_t, aAt_zero, aAt_succ, Option.map_some, Option.bind_some, Nat.beq_refl, Bool.cond_eq_ite, decide_eq_true_eq, decide_eq_false_iff_not, Bool.and_eq_true, Bool.or_eq_true, beq_iff_eq, beq_eq_false_iff_ne, bne_iff_ne, ne_eq, if_true, if_false, Int.toNat_natCast, Bool.false_eq_true, nb12, nb21, nb14, nb24, nb42, nb41, terms_eq, flds_eq]
    rw [if_neg (by omega)]; simp
  | succ k ih =>
    intro j met hj
    have hlt : j < (terms b).length := by omega
    have hw : IntKind.i64.wrap ((j : Int) + 1) = ((j + 1 : Nat) : Int) := i64succ (by omega)
    cases met with
    | true =>
      refine Does.now fun m => ?_
      rw [q_treillageref09_Under_c2]
      simp only [num_int, tf_bool, txt_str, kids_node, tree_t, aAt_zero, aAt_succ, Option.map_some, Option.bind_some, Nat.beq_refl, Bool.cond_eq_ite, decide_eq_true_eq, decide_eq_false_iff_not, Bool.and_eq_true, Bool.or_eq_true, beq_iff_eq, beq_eq_false_iff_ne, bne_iff_ne, ne_eq, if_true, if_false, Int.toNat_natCast, Bool.false_eq_true, nb12, nb21, nb14, nb24, nb42, nb41, terms_eq, flds_eq]
      rw [if_pos (by omega)]; rfl
    | false =>
      have h1 := hp _ (List.getElem_mem hlt)
      obtain ⟨n0, h0⟩ := h1.both (ih (j + 1) (belowT U (tAtD (terms a) i) (terms b)[j]) (by omega))
      refine Does.of n0 fun m hm => ?_
      obtain ⟨q1, q2⟩ := h0 m hm
      rw [q_treillageref09_Under_c2, drop_any hlt]
      simp only [num_int, tf_bool, txt_str, kids_node, tree_t, aAt_zero, aAt_succ, Option.map_some, Option.bind_some, Nat.beq_refl, Bool.cond_eq_ite, decide_eq_true_eq, decide_eq_false_iff_not, Bool.and_eq_true, Bool.or_eq_true, beq_iff_eq, beq_eq_false_iff_ne, bne_iff_ne, ne_eq, if_true, if_false, Int.toNat_natCast, Bool.false_eq_true, nb12, nb21, nb14, nb24, nb42, nb41, terms_eq, flds_eq, at_get hlt, q1, hw, q2, Bool.not_false]
      rw [if_pos (by omega), if_pos (by omega), if_pos (by omega), Bool.false_or]
theorem runder_loop (U : T → T → Bool) (a b : T) (ha : (terms a).length ≤ 1000) (hb : (terms b).length ≤ 1000) (hp : ∀ x ∈ terms a, ∀ y ∈ terms b, Dz i_treillageref09_under none [A.t x, A.t y] (1, [A.t (T.bool (belowT U x y))])) : ∀ (k j : Nat), j + k = (terms a).length →
    Dz i_treillageref09_Under (some p_treillageref09_Under_c1) [A.t (T.int j), A.t a, A.t b] (if ((terms a).drop j).all (fun t => (terms b).any fun u => belowT U t u) then (2, []) else (1, [A.t (T.bool false)])) := by
  intro k
  induction k with
  | zero =>
    intro j hj
    refine Does.now fun m => ?_
    rw [q_treillageref09_Under_c1, List.drop_of_length_le (by omega)]
    simp only [num_int, tf_bool, txt_str, kids_node, tree_t, aAt_zero, aAt_succ, Option.map_some, Option.bind_some, Nat.beq_refl, Bool.cond_eq_ite, decide_eq_true_eq, decide_eq_false_iff_not, Bool.and_eq_true, Bool.or_eq_true, beq_iff_eq, beq_eq_false_iff_ne, bne_iff_ne, ne_eq, if_true, if_false, Int.toNat_natCast, Bool.false_eq_true, nb12, nb21, nb14, nb24, nb42, nb41, terms_eq, flds_eq]
    rw [if_neg (by omega)]; rfl
  | succ k ih =>
    intro j hj
    have hlt : j < (terms a).length := by omega
    have hw : IntKind.i64.wrap ((j : Int) + 1) = ((j + 1 : Nat) : Int) := i64succ (by omega)
    have hin := runder_in U j a b hlt hb (fun y hy => by rw [at_get hlt]; exact hp _ (List.getElem_mem hlt) y hy) (terms b).length 0 false (by omega)
    rw [List.drop_zero, Bool.false_or, at_get hlt] at hin
    obtain ⟨n0, h0⟩ := hin.both (ih (j + 1) (by omega))
    refine Does.of n0 fun m hm => ?_
    obtain ⟨q1, q2⟩ := h0 m hm
    have q1' : den Tryd.prog G0 ents m i_treillageref09_Under (some p_treillageref09_Under_c2) [A.t (T.int j), A.t (T.bool false), A.t (T.int 0), A.t a, A.t b] = _ := q1
    rw [q_treillageref09_Under_c1, drop_all hlt]
    simp only [num_int, tf_bool, txt_str, kids_node, tree_t, aAt_zero, aAt_succ, Option.map_some, Option.bind_some, Nat.beq_refl, Bool.cond_eq_ite, decide_eq_true_eq, decide_eq_false_iff_not, Bool.and_eq_true, Bool.or_eq_true, beq_iff_eq, beq_eq_false_iff_ne, bne_iff_ne, ne_eq, if_true, if_false, Int.toNat_natCast, Bool.false_eq_true, nb12, nb21, nb14, nb24, nb42, nb41, terms_eq, flds_eq, q1', hw, q2]
    rw [if_pos (by omega)]
    cases (terms b).any fun u => belowT U (terms a)[j] u <;> simp
theorem runder_does : ∀ (d : Nat) (a b : T), Sm d a → Sm d b → Dz i_treillageref09_Under none [A.t a, A.t b] (1, [A.t (T.bool (underV d a b))])
  | 0, a, b, ha, _ => ha.1.elim
  | d + 1, a, b, ha, hb => by
    have la := ha.terms
    have lb := hb.terms
    have hp : ∀ x ∈ terms a, ∀ y ∈ terms b, Dz i_treillageref09_under none [A.t x, A.t y] (1, [A.t (T.bool (belowT (underV d) x y))]) := fun x hx y hy =>
      runder1_does (underV d) x y (by have := ha.flds hx; omega) (by have := hb.flds hy; omega)
        fun h1 h2 f hf g hg => runder_does d _ _ (ha.sub hx hf) (hb.sub hy hg)
    obtain ⟨n0, h0⟩ := runder_loop (underV d) a b (by omega) (by omega) hp (terms a).length 0 (by omega)
    refine Does.of n0 fun m hm => ?_
    have q : den Tryd.prog G0 ents m i_treillageref09_Under (some p_treillageref09_Under_c1) [A.t (T.int 0), A.t a, A.t b] = _ := h0 m hm
    rw [List.drop_zero, ← underV_succ] at q
    rw [q_treillageref09_Under]
    simp only [num_int, tf_bool, txt_str, kids_node, tree_t, aAt_zero, aAt_succ, Option.map_some, Option.bind_some, Nat.beq_refl, Bool.cond_eq_ite, decide_eq_true_eq, decide_eq_false_iff_not, Bool.and_eq_true, Bool.or_eq_true, beq_iff_eq, beq_eq_false_iff_ne, bne_iff_ne, ne_eq, if_true, if_false, Int.toNat_natCast, Bool.false_eq_true, nb12, nb21, nb14, nb24, nb42, nb41, terms_eq, flds_eq, q]
    cases underV (d + 1) a b <;> rfl
end Go.Proofs.YtpfglhjgjfhkjaaDoorCP
