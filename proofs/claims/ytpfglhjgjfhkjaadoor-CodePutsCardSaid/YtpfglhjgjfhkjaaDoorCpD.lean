/- Part of a law's proof. -/
import Derived.Test.YtpfglhjgjfhkjaaDoorCpC
namespace Go.Proofs.YtpfglhjgjfhkjaaDoorCP
open Go Go.Proofs.YtpfglhjgjfhkjaaDoorVM
set_option linter.unusedVariables false
set_option linter.unusedSimpArgs false
set_option maxRecDepth 100000

/-! ### what is right, plain -/
def allN (p : Nat → Bool) : Nat → Nat → Bool
  | 0, _ => true
  | k + 1, j => p j && allN p k (j + 1)
theorem allN_iff (p : Nat → Bool) : ∀ k j, allN p k j = true ↔ ∀ i, j ≤ i → i < j + k → p i = true
  | 0, j => by simp [allN]; omega
  | k + 1, j => by
    rw [allN, Bool.and_eq_true, allN_iff p k (j + 1)]
    constructor
    · intro h i h1 h2
      rcases Nat.eq_or_lt_of_le h1 with rfl | h3
      · exact h.1
      · exact h.2 i h3 (by omega)
    · intro h
      exact ⟨h j (by omega) (by omega), fun i h1 h2 => h i (by omega) (by omega)⟩
def anyT : T := trm 5 0 0 emptyB false false false []
def bareT (t : T) : Bool := decide (lo t = 0) && decide (hi t = 0) && decide (tx t = emptyB) && !an t && !mb t
def fullF (R : T → Bool) (f : T) : Bool := decide ((terms (val f)).length ≠ 0) && R (val f)
def okT (R : T → Bool) (d : Nat) (t : T) : Bool :=
  if kd t = 5 then decide (cmpT d t anyT = 0)
  else if kd t = 4 then bareT t && decide ((flds t).length ≤ 32) && names (flds t) && (flds t).all (fullF R)
  else rightS t
def ascAt (d : Nat) (l : List T) (j : Nat) : Bool := j == 0 || decide (cmpT d (tAtD l (j - 1)) (tAtD l j) < 0)
def apart (d : Nat) (l : List T) (i k : Nat) : Bool := decide (i = k) || !belowT (underV d) (tAtD l i) (tAtD l k)
def inOrder (R : T → Bool) (d : Nat) (l : List T) : Bool := allN (fun j => okT R d (tAtD l j) && ascAt d l j) l.length 0
def allApart (d : Nat) (l : List T) : Bool := allN (fun i => allN (apart d l i) l.length 0) l.length 0
def okV : Nat → T → Bool
  | 0, _ => false
  | d + 1, v => inOrder (okV d) d (terms v) && allApart d (terms v)
def listV : Nat → Nat → T → Bool
  | 0, _, _ => false
  | _ + 1, 0, _ => false
  | d + 1, e + 1, v => inOrder (listV d e) d (terms v) && allApart d (terms v)
def refV : Nat → T → Bool
  | 0, _ => false
  | d + 1, v => decide (dep (d + 1) v ≤ 16) && (inOrder (refV d) d (terms v) && allApart d (terms v))
def depT (d : Nat) (t : T) : Nat := maxN ((flds t).map fun f => dep d (val f))
theorem dep_succ (d : Nat) (v : T) : dep (d + 1) v = 1 + maxN ((terms v).map (depT d)) := id rfl
theorem maxN_le (l : List Nat) (e : Nat) : maxN l ≤ e ↔ ∀ x ∈ l, x ≤ e := by
  induction l with
  | nil => simp [maxN]
  | cons a l ih =>
    rw [max_cons, Nat.max_le, ih]
    simp
theorem any_flds {d : Nat} {t : T} (h : cmpT d t anyT = 0) : flds t = [] := by
  unfold cmpT at h
  have hp : cmpL (cmpG d) (flds t) (flds anyT) = 0 := by
    unfold fst at h
    split at h
    · exact h
    · rename_i h1; exact absurd h h1
  cases hf : flds t with
  | nil => rfl
  | cons f l =>
    rw [hf] at hp
    have : flds anyT = [] := rfl
    rw [this] at hp
    simp [cmpL] at hp
theorem okT_flds {R : T → Bool} {d : Nat} {t : T} (h : okT R d t = true) (h4 : kd t ≠ 4) : flds t = [] := by
  unfold okT at h
  split at h
  · exact any_flds (of_decide_eq_true h)
  · exact (right_op h).2.1
theorem okT_deep {R S : T → Bool} {d e : Nat} {t : T} (hR : ∀ f ∈ flds t, R (val f) = (S (val f) && decide (dep d (val f) ≤ e))) : okT R d t = (okT S d t && decide (depT d t ≤ e)) := by
  by_cases h4 : kd t = 4
  · have hall : (flds t).all (fullF R) = ((flds t).all (fullF S) && decide (depT d t ≤ e)) := by
      rw [Bool.eq_iff_iff, Bool.and_eq_true, decide_eq_true_eq, List.all_eq_true, List.all_eq_true, depT, maxN_le]
      simp only [fullF, List.mem_map, forall_exists_index, and_imp, forall_apply_eq_imp_iff₂]
      constructor
      · intro h
        refine ⟨fun f hf => ?_, fun f hf => ?_⟩
        · have := h f hf; rw [hR f hf] at this; simp only [Bool.and_eq_true, decide_eq_true_eq] at this ⊢; exact ⟨this.1, this.2.1⟩
        · have := h f hf; rw [hR f hf] at this; simp only [Bool.and_eq_true, decide_eq_true_eq] at this; exact this.2.2
      · rintro ⟨h1, h2⟩ f hf
        have := h1 f hf; rw [hR f hf]; simp only [Bool.and_eq_true, decide_eq_true_eq] at this ⊢; exact ⟨this.1, this.2, h2 f hf⟩
    unfold okT
    rw [if_neg (by omega), if_pos h4, if_neg (by omega), if_pos h4, hall, Bool.and_assoc]
    simp only [Bool.and_assoc]
  · have he : okT R d t = okT S d t := by unfold okT; rw [if_neg h4, if_neg h4]
    rw [he]
    cases hb : okT S d t with
    | false => rfl
    | true =>
      have : depT d t = 0 := by rw [depT, okT_flds hb h4]; rfl
      rw [this]; simp
theorem order_deep {R S : T → Bool} {d e : Nat} {l : List T} (hR : ∀ t ∈ l, ∀ f ∈ flds t, R (val f) = (S (val f) && decide (dep d (val f) ≤ e))) : inOrder R d l = (inOrder S d l && decide (maxN (l.map (depT d)) ≤ e)) := by
  have hT : ∀ j, j < l.length → okT R d (tAtD l j) = (okT S d (tAtD l j) && decide (depT d (tAtD l j) ≤ e)) := fun j hj => okT_deep (by rw [at_get hj]; exact hR _ (List.getElem_mem hj))
  unfold inOrder
  rw [Bool.eq_iff_iff, Bool.and_eq_true, decide_eq_true_eq, allN_iff, allN_iff, maxN_le]
  simp only [Nat.zero_le, true_implies, Nat.zero_add, List.mem_map, forall_exists_index, and_imp, forall_apply_eq_imp_iff₂]
  constructor
  · intro h
    refine ⟨fun i hi => ?_, fun t ht => ?_⟩
    · have := h i hi; rw [hT i hi] at this; simp only [Bool.and_eq_true, decide_eq_true_eq] at this ⊢; exact ⟨this.1.1, this.2⟩
    · obtain ⟨i, hi, rfl⟩ := List.getElem_of_mem ht
      have := h i hi; rw [hT i hi, at_get hi] at this; simp only [Bool.and_eq_true, decide_eq_true_eq] at this; exact this.1.2
  · rintro ⟨h1, h2⟩ i hi
    have := h1 i hi; rw [hT i hi]; simp only [Bool.and_eq_true, decide_eq_true_eq] at this ⊢
    exact ⟨⟨this.1, by rw [at_get hi]; exact h2 _ (List.getElem_mem hi)⟩, this.2⟩
theorem listV_eq : ∀ (d e : Nat) (v : T), listV d e v = (okV d v && decide (dep d v ≤ e))
  | 0, e, v => by simp [listV, okV]
  | d + 1, 0, v => by rw [dep_succ, decide_eq_false (by omega), Bool.and_false]; rfl
  | d + 1, e + 1, v => by
    rw [listV, okV, order_deep (S := okV d) (e := e) (fun t _ f _ => listV_eq d e (val f)), dep_succ]
    have : decide (1 + maxN ((terms v).map (depT d)) ≤ e + 1) = decide (maxN ((terms v).map (depT d)) ≤ e) := decide_eq_decide.2 (by omega)
    rw [this, Bool.and_assoc, Bool.and_assoc, Bool.and_comm (decide _)]
theorem refV_eq : ∀ (d : Nat) (v : T), refV d v = (okV d v && decide (dep d v ≤ 16))
  | 0, v => by simp [refV, okV]
  | d + 1, v => by
    rw [refV, okV, order_deep (S := okV d) (e := 16) (fun t _ f _ => refV_eq d (val f)), Bool.and_comm]
    cases h : decide (dep (d + 1) v ≤ 16) with
    | false => rw [Bool.and_false, Bool.and_false]
    | true =>
      have h1 := of_decide_eq_true h
      rw [dep_succ] at h1
      rw [decide_eq_true (by omega : maxN ((terms v).map (depT d)) ≤ 16)]
      simp only [Bool.and_true]
theorem refV_list (d : Nat) (v : T) : refV d v = listV d 16 v := by rw [refV_eq, listV_eq]
theorem okV_NR : ∀ (d : Nat) (v : T), okV d v = true → NR d v
  | 0, v, h => by cases h
  | d + 1, v, h => by
    rw [okV, Bool.and_eq_true] at h
    intro t ht h4
    obtain ⟨i, hi, rfl⟩ := List.getElem_of_mem ht
    have := (allN_iff _ _ _).1 h.1 i (by omega) (by omega)
    rw [at_get hi, Bool.and_eq_true] at this
    have h1 := this.1
    unfold okT at h1
    rw [if_neg (by omega), if_pos h4, Bool.and_eq_true, Bool.and_eq_true, List.all_eq_true] at h1
    refine ⟨names_rise h1.1.2, fun f hf => okV_NR d _ ?_⟩
    have := h1.2 f hf
    rw [fullF, Bool.and_eq_true] at this
    exact this.2
theorem NRt_of {d : Nat} {R : T → Bool} {t : T} (hR : ∀ f ∈ flds t, R (val f) = true → NR d (val f)) (h : okT R d t = true) : NRt d t := by
  intro h4
  unfold okT at h
  rw [if_neg (by omega), if_pos h4, Bool.and_eq_true, Bool.and_eq_true, List.all_eq_true] at h
  refine ⟨names_rise h.1.2, fun f hf => hR f hf ?_⟩
  have := h.2 f hf
  rw [fullF, Bool.and_eq_true] at this
  exact this.2
theorem listV_NR {d e : Nat} {v : T} (h : listV d e v = true) : NR d v := by
  rw [listV_eq, Bool.and_eq_true] at h
  exact okV_NR d v h.1
end Go.Proofs.YtpfglhjgjfhkjaaDoorCP
namespace Go.Proofs.YtpfglhjgjfhkjaaDoorCP
open Go Go.Proofs.YtpfglhjgjfhkjaaDoorVM
set_option linter.unusedVariables false
set_option linter.unusedSimpArgs false
set_option maxRecDepth 100000

/-! ### right: the program's -/
theorem anyT_eq : T.node [T.int 5, T.int 0, T.int 0, T.str ByteArray.empty, T.bool false, T.bool false, T.bool false, T.node []] = anyT := id rfl
theorem Sm_any (d : Nat) : SmT d anyT := ⟨by decide, fun f hf => absurd hf (by show ¬ f ∈ []; simp)⟩
theorem beqI (a b : Int) : (a == b) = decide (a = b) := Bool.beq_eq_decide_eq a b
theorem anything_does {d : Nat} {t : T} (h : SmT d t) : Dz i_lat_anything none [A.t t] (1, [A.t (T.bool (decide (cmpT d t anyT = 0)))]) := by
  obtain ⟨n0, h0⟩ := pt_does h (Sm_any d)
  refine Does.of n0 fun m hm => ?_
  rw [q_lat_anything, anyT_eq]
  simp only [num_int, tf_bool, txt_str, kids_node, tree_t, aAt_zero, aAt_succ, Option.map_some, Option.bind_some, Nat.beq_refl, Bool.cond_eq_ite, decide_eq_true_eq, decide_eq_false_iff_not, Bool.and_eq_true, Bool.or_eq_true, beq_iff_eq, beq_eq_false_iff_ne, bne_iff_ne, ne_eq, if_true, if_false, Int.toNat_natCast, Bool.false_eq_true, nb12, nb21, nb14, nb24, nb42, nb41, terms_eq, flds_eq, h0 m hm, beqI]
theorem lbare_does (t : T) : Dz i_lat_bare none [A.t t] (1, [A.t (T.bool (bareT t))]) := by
  refine Does.now fun m => ?_
  rw [q_lat_bare]
  simp only [Option.map_some, Option.bind_some, aAt_zero, tree_t, tf_bool, kd_eq, lo_eq, hi_eq, tx_eq, an_eq, mb_eq, seq_dec, eb_eq, bareT, Bool.cond_eq_ite, Bool.beq_eq_decide_eq, coll]
  apply ans
  generalize mb t = m
  generalize an t = a
  generalize tx t = x
  generalize lo t = l
  generalize hi t = h
  grind
theorem shaped_loop (R : T → Bool) (l : List T) (e : Nat) (he : e ≤ 1000) (hl : l.length ≤ 1000) (hR : ∀ f ∈ l, Dz i_lat_listed none [A.t (val f), A.t (T.int e)] (1, [A.t (T.bool (R (val f)))])) : ∀ (k j : Nat), j + k = l.length →
    Dz i_lat_shaped (some p_lat_shaped_c1) [A.t (T.int (e + 1 : Nat)), A.t (T.node l), A.t (T.int (l.length : Nat)), A.t (T.int j)] (if (l.drop j).all (fullF R) then (3, []) else (1, [A.t (T.bool false)])) := by
  intro k
  induction k with
  | zero =>
    intro j hj
    refine Does.now fun m => ?_
    rw [q_lat_shaped_c1, List.drop_of_length_le (by omega)]
    simp only [num_int, tf_bool, txt_str, kids_node, tree_t, aAt_zero, aAt_succ, Option.map_some, Option.bind_some, Nat.beq_refl, Bool.cond_eq_ite, decide_eq_true_eq, decide_eq_false_iff_not, Bool.and_eq_true, Bool.or_eq_true, beq_iff_eq, beq_eq_false_iff_ne, bne_iff_ne, ne_eq, if_true, if_false, Int.toNat_natCast, Bool.false_eq_true, nb12, nb21, nb14, nb24, nb42, nb41, terms_eq, flds_eq]
    rw [if_neg (by omega)]; rfl
  | succ k ih =>
    intro j hj
    have hlt : j < l.length := by omega
    have hw : IntKind.i64.wrap ((j : Int) + 1) = ((j + 1 : Nat) : Int) := i64succ (by omega)
    have hd : IntKind.i64.wrap (((e + 1 : Nat) : Int) - 1) = ((e : Nat) : Int) := by rw [w64 (by omega) (by omega)]; omega
    obtain ⟨n0, h0⟩ := (hR _ (List.getElem_mem hlt)).both (ih (j + 1) (by omega))
    refine Does.of n0 fun m hm => ?_
    obtain ⟨q1, q2⟩ := h0 m hm
    rw [q_lat_shaped_c1, drop_all hlt]
    simp only [num_int, tf_bool, txt_str, kids_node, tree_t, aAt_zero, aAt_succ, Option.map_some, Option.bind_some, Nat.beq_refl, Bool.cond_eq_ite, decide_eq_true_eq, decide_eq_false_iff_not, Bool.and_eq_true, Bool.or_eq_true, beq_iff_eq, beq_eq_false_iff_ne, bne_iff_ne, ne_eq, if_true, if_false, Int.toNat_natCast, Bool.false_eq_true, nb12, nb21, nb14, nb24, nb42, nb41, terms_eq, flds_eq, at_get hlt, val_eq, hw, hd, q1, q2, fullF, e0_zero, Bool.not_eq_true']
    rw [if_pos (by omega), if_pos (by omega)]
    by_cases hz : (terms (val l[j])).length = 0
    · rw [if_neg (by simp [hz]), if_neg (by simp [hz])]
    · rw [if_pos (by simp [hz])]
      cases R (val l[j]) <;> simp [hz]
theorem shaped_does (R : T → Bool) (d : Nat) (t : T) (ht : SmT d t) (e : Nat) (he : e ≤ 1000) (hR : kd t = 4 → ∀ f ∈ flds t, Dz i_lat_listed none [A.t (val f), A.t (T.int e)] (1, [A.t (T.bool (R (val f)))])) : Dz i_lat_shaped none [A.t t, A.t (T.int (e + 1 : Nat))] (1, [A.t (T.bool (okT R d t))]) := by
  have hl := ht.1
  by_cases h5 : kd t = 5
  · obtain ⟨n0, h0⟩ := anything_does ht
    refine Does.of n0 fun m hm => ?_
    rw [q_lat_shaped, okT, if_pos h5]
    simp only [num_int, tf_bool, txt_str, kids_node, tree_t, aAt_zero, aAt_succ, Option.map_some, Option.bind_some, Nat.beq_refl, Bool.cond_eq_ite, decide_eq_true_eq, decide_eq_false_iff_not, Bool.and_eq_true, Bool.or_eq_true, beq_iff_eq, beq_eq_false_iff_ne, bne_iff_ne, ne_eq, if_true, if_false, Int.toNat_natCast, Bool.false_eq_true, nb12, nb21, nb14, nb24, nb42, nb41, terms_eq, flds_eq, kd_eq, h0 m hm, h5]
  by_cases h4 : kd t = 4
  · obtain ⟨n1, h1⟩ := (lbare_does t).both (rising_does (flds t) (by omega))
    obtain ⟨n2, h2⟩ := shaped_loop R (flds t) e he (by omega) (hR h4) (flds t).length 0 (by omega)
    refine Does.of (n1 + n2) fun m hm => ?_
    obtain ⟨q1, q2⟩ := h1 m (by omega)
    have q3 : den Tryd.prog G0 ents m i_lat_shaped (some p_lat_shaped_c1) [A.t (T.int (e + 1 : Nat)), A.t (T.node (flds t)), A.t (T.int ((flds t).length : Nat)), A.t (T.int 0)] = _ := h2 m (by omega)
    rw [List.drop_zero] at q3
    rw [q_lat_shaped, okT, if_neg h5, if_pos h4]
    simp only [terms_eq, flds_eq, num_int, kd_eq, h4, q1, q2, q3]
    have h32 : decide ((((flds t).length : Nat) : Int) > 32) = !decide ((flds t).length ≤ 32) := by rw [Bool.eq_iff_iff]; simp; omega
    rw [h32]
    generalize (flds t).all (fullF R) = c
    generalize decide ((flds t).length ≤ 32) = c2
    generalize names (flds t) = c3
    generalize bareT t = c4
    cases c <;> cases c2 <;> cases c3 <;> cases c4 <;> rfl
  · obtain ⟨n0, h0⟩ := sright_does t
    refine Does.of n0 fun m hm => ?_
    rw [q_lat_shaped, okT, if_neg h5, if_neg h4]
    simp only [num_int, tf_bool, txt_str, kids_node, tree_t, aAt_zero, aAt_succ, Option.map_some, Option.bind_some, Nat.beq_refl, Bool.cond_eq_ite, decide_eq_true_eq, decide_eq_false_iff_not, Bool.and_eq_true, Bool.or_eq_true, beq_iff_eq, beq_eq_false_iff_ne, bne_iff_ne, ne_eq, if_true, if_false, Int.toNat_natCast, Bool.false_eq_true, nb12, nb21, nb14, nb24, nb42, nb41, terms_eq, flds_eq, kd_eq, h0 m hm, h5, h4]
theorem listed_c1 (R : T → Bool) (d : Nat) (v : T) (hv : Sm (d + 1) v) (e : Nat) (he : e ≤ 1000) (hR : ∀ t ∈ terms v, ∀ f ∈ flds t, Dz i_lat_listed none [A.t (val f), A.t (T.int e)] (1, [A.t (T.bool (R (val f)))])) : ∀ (k j : Nat), j + k = (terms v).length →
    Dz i_lat_listed (some p_lat_listed_c1) [A.t (T.int (e + 1 : Nat)), A.t (T.node (terms v)), A.t (T.int ((terms v).length : Nat)), A.t (T.int j), A.t v] (if allN (fun j => okT R d (tAtD (terms v) j) && ascAt d (terms v) j) k j then (2, [A.t v]) else (1, [A.t (T.bool false)])) := by
  have hl := hv.terms
  intro k
  induction k with
  | zero =>
    intro j hj
    refine Does.now fun m => ?_
    rw [q_lat_listed_c1, allN]
    simp only [num_int, tf_bool, txt_str, kids_node, tree_t, aAt_zero, aAt_succ, Option.map_some, Option.bind_some, Nat.beq_refl, Bool.cond_eq_ite, decide_eq_true_eq, decide_eq_false_iff_not, Bool.and_eq_true, Bool.or_eq_true, beq_iff_eq, beq_eq_false_iff_ne, bne_iff_ne, ne_eq, if_true, if_false, Int.toNat_natCast, Bool.false_eq_true, nb12, nb21, nb14, nb24, nb42, nb41, terms_eq, flds_eq]
    rw [if_neg (by omega)]
  | succ k ih =>
    intro j hj
    have hlt : j < (terms v).length := by omega
    have hw : IntKind.i64.wrap ((j : Int) + 1) = ((j + 1 : Nat) : Int) := i64succ (by omega)
    have hm := List.getElem_mem hlt
    have hs := shaped_does R d (terms v)[j] (hv.term hm) e he (fun _ => hR _ hm)
    rw [allN, at_get hlt]
    by_cases h0 : j = 0
    · subst h0
      obtain ⟨n0, h0⟩ := hs.both (ih (0 + 1) (by omega))
      refine Does.of n0 fun m hm => ?_
      obtain ⟨q1, q2⟩ := h0 m hm
      have hasc : ascAt d (terms v) 0 = true := rfl
      rw [hasc, q_lat_listed_c1]
      simp only [num_int, tf_bool, txt_str, kids_node, tree_t, aAt_zero, aAt_succ, Option.map_some, Option.bind_some, Nat.beq_refl, Bool.cond_eq_ite, decide_eq_true_eq, decide_eq_false_iff_not, Bool.and_eq_true, Bool.or_eq_true, beq_iff_eq, beq_eq_false_iff_ne, bne_iff_ne, ne_eq, if_true, if_false, Int.toNat_natCast, Bool.false_eq_true, nb12, nb21, nb14, nb24, nb42, nb41, terms_eq, flds_eq, at_get hlt, hw, q1, q2, Bool.and_true]
      rw [if_pos (by omega), if_pos (by omega)]
      cases okT R d (terms v)[0] <;> simp
    · have hlt2 : j - 1 < (terms v).length := by omega
      have hp : IntKind.i64.wrap ((j : Int) - 1) = ((j - 1 : Nat) : Int) := by rw [w64 (by omega) (by omega)]; omega
      obtain ⟨n0, h0'⟩ := hs.both (ih (j + 1) (by omega))
      obtain ⟨n1, h1⟩ := pt_does (hv.term (List.getElem_mem hlt2)) (hv.term hm)
      refine Does.of (n0 + n1) fun m hm => ?_
      obtain ⟨q1, q2⟩ := h0' m (by omega)
      have q3 := h1 m (by omega)
      have hasc : ascAt d (terms v) j = decide (cmpT d (terms v)[j - 1] (terms v)[j] < 0) := by
        rw [ascAt, at_get hlt, at_get hlt2, show (j == 0) = false by simp [h0]]; rfl
      rw [hasc, q_lat_listed_c1]
      simp only [num_int, tf_bool, txt_str, kids_node, tree_t, aAt_zero, aAt_succ, Option.map_some, Option.bind_some, Nat.beq_refl, Bool.cond_eq_ite, decide_eq_true_eq, decide_eq_false_iff_not, Bool.and_eq_true, Bool.or_eq_true, beq_iff_eq, beq_eq_false_iff_ne, bne_iff_ne, ne_eq, if_true, if_false, Int.toNat_natCast, Bool.false_eq_true, nb12, nb21, nb14, nb24, nb42, nb41, terms_eq, flds_eq, at_get hlt, at_get hlt2, hw, hp, q1, q2, q3]
      rw [if_pos (by omega), if_pos (by omega)]
      cases okT R d (terms v)[j] with
      | false => simp
      | true =>
        rw [if_pos (by rfl), if_pos (by omega), if_pos (by omega)]
        by_cases hc : cmpT d (terms v)[j - 1] (terms v)[j] < 0
        · rw [if_neg (by omega)]; simp [hc]
        · rw [if_pos (by omega)]; simp [hc]
theorem listed_c3 (d : Nat) (v : T) (i : Nat) (hi : i < (terms v).length) (hl : (terms v).length ≤ 1000) (hb : ∀ y ∈ terms v, Dz i_lat_below none [A.t (terms v)[i], A.t y] (1, [A.t (T.bool (belowT (underV d) (terms v)[i] y))])) : ∀ (k j : Nat), j + k = (terms v).length →
    Dz i_lat_listed (some p_lat_listed_c3) [A.t (T.int i), A.t (T.node (terms v)), A.t (T.int ((terms v).length : Nat)), A.t (T.int i), A.t (T.node (terms v)), A.t (T.int ((terms v).length : Nat)), A.t (T.int j), A.t v, A.t (terms v)[i]] (if allN (apart d (terms v) i) k j then (6, [A.t (T.node (terms v)), A.t (T.int ((terms v).length : Nat)), A.t (T.int i), A.t v]) else (1, [A.t (T.bool false)])) := by
  intro k
  induction k with
  | zero =>
    intro j hj
    refine Does.now fun m => ?_
    rw [q_lat_listed_c3, allN]
    simp only [num_int, tf_bool, txt_str, kids_node, tree_t, aAt_zero, aAt_succ, Option.map_some, Option.bind_some, Nat.beq_refl, Bool.cond_eq_ite, decide_eq_true_eq, decide_eq_false_iff_not, Bool.and_eq_true, Bool.or_eq_true, beq_iff_eq, beq_eq_false_iff_ne, bne_iff_ne, ne_eq, if_true, if_false, Int.toNat_natCast, Bool.false_eq_true, nb12, nb21, nb14, nb24, nb42, nb41, terms_eq, flds_eq]
    rw [if_neg (by omega)]
  | succ k ih =>
    intro j hj
    have hlt : j < (terms v).length := by omega
    have hw : IntKind.i64.wrap ((j : Int) + 1) = ((j + 1 : Nat) : Int) := i64succ (by omega)
    obtain ⟨n0, h0⟩ := (hb _ (List.getElem_mem hlt)).both (ih (j + 1) (by omega))
    refine Does.of n0 fun m hm => ?_
    obtain ⟨q1, q2⟩ := h0 m hm
    have hap : apart d (terms v) i j = (decide (i = j) || !belowT (underV d) (terms v)[i] (terms v)[j]) := by rw [apart, at_get hi, at_get hlt]
    rw [q_lat_listed_c3, allN, hap]
    simp only [num_int, tf_bool, txt_str, kids_node, tree_t, aAt_zero, aAt_succ, Option.map_some, Option.bind_some, Nat.beq_refl, Bool.cond_eq_ite, decide_eq_true_eq, decide_eq_false_iff_not, Bool.and_eq_true, Bool.or_eq_true, beq_iff_eq, beq_eq_false_iff_ne, bne_iff_ne, ne_eq, if_true, if_false, Int.toNat_natCast, Bool.false_eq_true, nb12, nb21, nb14, nb24, nb42, nb41, terms_eq, flds_eq, at_get hlt, hw, q1, q2]
    rw [if_pos (by omega), if_pos (by omega)]
    by_cases he : i = j
    · rw [if_neg (by omega)]; simp [he]
    · rw [if_pos (by omega)]
      cases belowT (underV d) (terms v)[i] (terms v)[j] <;> simp [he]
theorem listed_c2 (d : Nat) (v : T) (hl : (terms v).length ≤ 1000) (hb : ∀ x ∈ terms v, ∀ y ∈ terms v, Dz i_lat_below none [A.t x, A.t y] (1, [A.t (T.bool (belowT (underV d) x y))])) : ∀ (k j : Nat), j + k = (terms v).length →
    Dz i_lat_listed (some p_lat_listed_c2) [A.t (T.node (terms v)), A.t (T.int ((terms v).length : Nat)), A.t (T.int j), A.t v] (if allN (fun i => allN (apart d (terms v) i) (terms v).length 0) k j then (4, []) else (1, [A.t (T.bool false)])) := by
  intro k
  induction k with
  | zero =>
    intro j hj
    refine Does.now fun m => ?_
    rw [q_lat_listed_c2, allN]
    simp only [num_int, tf_bool, txt_str, kids_node, tree_t, aAt_zero, aAt_succ, Option.map_some, Option.bind_some, Nat.beq_refl, Bool.cond_eq_ite, decide_eq_true_eq, decide_eq_false_iff_not, Bool.and_eq_true, Bool.or_eq_true, beq_iff_eq, beq_eq_false_iff_ne, bne_iff_ne, ne_eq, if_true, if_false, Int.toNat_natCast, Bool.false_eq_true, nb12, nb21, nb14, nb24, nb42, nb41, terms_eq, flds_eq]
    rw [if_neg (by omega)]
  | succ k ih =>
    intro j hj
    have hlt : j < (terms v).length := by omega
    have hw : IntKind.i64.wrap ((j : Int) + 1) = ((j + 1 : Nat) : Int) := i64succ (by omega)
    obtain ⟨n0, h0⟩ := (listed_c3 d v j hlt hl (hb _ (List.getElem_mem hlt)) (terms v).length 0 (by omega)).both (ih (j + 1) (by omega))
    refine Does.of n0 fun m hm => ?_
    obtain ⟨q1, q2⟩ := h0 m hm
    have q1' : den Tryd.prog G0 ents m i_lat_listed (some p_lat_listed_c3) [A.t (T.int j), A.t (T.node (terms v)), A.t (T.int ((terms v).length : Nat)), A.t (T.int j), A.t (T.node (terms v)), A.t (T.int ((terms v).length : Nat)), A.t (T.int 0), A.t v, A.t (terms v)[j]] = _ := q1
    rw [q_lat_listed_c2, allN]
    simp only [terms_eq, kids_node, num_int, Int.toNat_natCast, at_get hlt, q1']
    generalize allN (apart d (terms v) j) (terms v).length 0 = c
    cases c with
    | false =>
      simp only [num_int, tf_bool, txt_str, kids_node, tree_t, aAt_zero, aAt_succ, Option.map_some, Option.bind_some, Nat.beq_refl, Bool.cond_eq_ite, decide_eq_true_eq, decide_eq_false_iff_not, Bool.and_eq_true, Bool.or_eq_true, beq_iff_eq, beq_eq_false_iff_ne, bne_iff_ne, ne_eq, if_true, if_false, Int.toNat_natCast, Bool.false_eq_true, nb12, nb21, nb14, nb24, nb42, nb41, terms_eq, flds_eq]
      rw [if_pos (by omega), if_pos (by omega)]
      rfl
    | true =>
      simp only [num_int, tf_bool, txt_str, kids_node, tree_t, aAt_zero, aAt_succ, Option.map_some, Option.bind_some, Nat.beq_refl, Bool.cond_eq_ite, decide_eq_true_eq, decide_eq_false_iff_not, Bool.and_eq_true, Bool.or_eq_true, beq_iff_eq, beq_eq_false_iff_ne, bne_iff_ne, ne_eq, if_true, if_false, Int.toNat_natCast, Bool.false_eq_true, nb12, nb21, nb14, nb24, nb42, nb41, terms_eq, flds_eq, hw, q2, show Nat.beq 6 6 = true from rfl, true_and]
      rw [if_pos (by omega), if_pos (by omega)]
theorem listed_does : ∀ (d e : Nat) (v : T), e ≤ 1000 → Sm d v → Dz i_lat_listed none [A.t v, A.t (T.int e)] (1, [A.t (T.bool (listV d e v))])
  | 0, _, v, _, h => h.1.elim
  | d + 1, 0, v, _, h => by
    refine Does.now fun m => ?_
    rw [q_lat_listed]
    simp only [num_int, tf_bool, txt_str, kids_node, tree_t, aAt_zero, aAt_succ, Option.map_some, Option.bind_some, Nat.beq_refl, Bool.cond_eq_ite, decide_eq_true_eq, decide_eq_false_iff_not, Bool.and_eq_true, Bool.or_eq_true, beq_iff_eq, beq_eq_false_iff_ne, bne_iff_ne, ne_eq, if_true, if_false, Int.toNat_natCast, Bool.false_eq_true, nb12, nb21, nb14, nb24, nb42, nb41, terms_eq, flds_eq]
    rfl
  | d + 1, e + 1, v, he, h => by
    have hl := h.terms
    have hR : ∀ t ∈ terms v, ∀ f ∈ flds t, Dz i_lat_listed none [A.t (val f), A.t (T.int e)] (1, [A.t (T.bool (listV d e (val f)))]) := fun t ht f hf => listed_does d e (val f) (by omega) (h.sub ht hf)
    obtain ⟨n1, h1⟩ := listed_c1 (listV d e) d v h e (by omega) hR (terms v).length 0 (by omega)
    have q1' : ∀ m, n1 ≤ m → den Tryd.prog G0 ents m i_lat_listed (some p_lat_listed_c1) [A.t (T.int (e + 1 : Nat)), A.t (T.node (terms v)), A.t (T.int ((terms v).length : Nat)), A.t (T.int 0), A.t v] = some (if inOrder (listV d e) d (terms v) then (2, [A.t v]) else (1, [A.t (T.bool false)])) := h1
    rw [listV]
    cases ho : inOrder (listV d e) d (terms v) with
    | false =>
      rw [ho] at q1'
      refine Does.of n1 fun m hm => ?_
      rw [q_lat_listed]
      simp only [num_int, tf_bool, txt_str, kids_node, tree_t, aAt_zero, aAt_succ, Option.map_some, Option.bind_some, Nat.beq_refl, Bool.cond_eq_ite, decide_eq_true_eq, decide_eq_false_iff_not, Bool.and_eq_true, Bool.or_eq_true, beq_iff_eq, beq_eq_false_iff_ne, bne_iff_ne, ne_eq, if_true, if_false, Int.toNat_natCast, Bool.false_eq_true, nb12, nb21, nb14, nb24, nb42, nb41, terms_eq, flds_eq, q1' m hm]
      rw [if_pos (by omega), if_neg (by omega)]
      rfl
    | true =>
      rw [ho] at q1'
      have hN : ∀ t ∈ terms v, NRt d t := fun t ht => by
        obtain ⟨i, hi, rfl⟩ := List.getElem_of_mem ht
        have := (allN_iff _ _ _).1 ho i (by omega) (by omega)
        rw [at_get hi, Bool.and_eq_true] at this
        exact NRt_of (fun f hf h => listV_NR h) this.1
      have hb : ∀ x ∈ terms v, ∀ y ∈ terms v, Dz i_lat_below none [A.t x, A.t y] (1, [A.t (T.bool (belowT (underV d) x y))]) := fun x hx y hy =>
        lbelow_does (underV d) x y (by have := h.flds hx; omega) (by have := h.flds hy; omega) (fun h4 => (hN x hx h4).1) (fun h4 => (hN y hy h4).1)
          fun h1 h2 f hf g hg => lunder_does d _ _ (h.sub hx hf) (h.sub hy hg) ((hN x hx h1).2 f hf) ((hN y hy h2).2 g hg)
      obtain ⟨n2, h2⟩ := listed_c2 d v (by omega) hb (terms v).length 0 (by omega)
      have q2' : ∀ m, n2 ≤ m → den Tryd.prog G0 ents m i_lat_listed (some p_lat_listed_c2) [A.t (T.node (terms v)), A.t (T.int ((terms v).length : Nat)), A.t (T.int 0), A.t v] = some (if allApart d (terms v) then (4, []) else (1, [A.t (T.bool false)])) := h2
      refine Does.of (n1 + n2) fun m hm => ?_
      rw [q_lat_listed]
      simp only [num_int, tf_bool, txt_str, kids_node, tree_t, aAt_zero, aAt_succ, Option.map_some, Option.bind_some, Nat.beq_refl, Bool.cond_eq_ite, decide_eq_true_eq, decide_eq_false_iff_not, Bool.and_eq_true, Bool.or_eq_true, beq_iff_eq, beq_eq_false_iff_ne, bne_iff_ne, ne_eq, if_true, if_false, Int.toNat_natCast, Bool.false_eq_true, nb12, nb21, nb14, nb24, nb42, nb41, terms_eq, flds_eq, q1' m (by omega), q2' m (by omega)]
      rw [if_pos (by omega), if_neg (by omega)]
      cases allApart d (terms v) <;> rfl
theorem lright_does {v : T} (h : Sm 20 v) : Dz i_lat_Right none [A.t v] (1, [A.t (T.bool (refV 20 v))]) := by
  obtain ⟨n0, h0⟩ := (listed_does 20 16 v (by omega) h).both (pweight_does 20 v h)
  have hw := h.2
  refine Does.of n0 fun m hm => ?_
  obtain ⟨q1, q2⟩ := h0 m hm
  have q1' : den Tryd.prog G0 ents m i_lat_listed none [A.t v, A.t (T.int 16)] = _ := q1
  rw [refV_list, q_lat_Right]
  simp only [num_int, tf_bool, txt_str, kids_node, tree_t, aAt_zero, aAt_succ, Option.map_some, Option.bind_some, Nat.beq_refl, Bool.cond_eq_ite, decide_eq_true_eq, decide_eq_false_iff_not, Bool.and_eq_true, Bool.or_eq_true, beq_iff_eq, beq_eq_false_iff_ne, bne_iff_ne, ne_eq, if_true, if_false, Int.toNat_natCast, Bool.false_eq_true, nb12, nb21, nb14, nb24, nb42, nb41, terms_eq, flds_eq, q1', q2]
  cases listV 20 16 v with
  | false => rfl
  | true => rw [if_pos rfl, decide_eq_true (by omega)]
end Go.Proofs.YtpfglhjgjfhkjaaDoorCP
namespace Go.Proofs.YtpfglhjgjfhkjaaDoorCP
open Go Go.Proofs.YtpfglhjgjfhkjaaDoorVM
set_option linter.unusedVariables false
set_option linter.unusedSimpArgs false
set_option maxRecDepth 100000

/-! ### right: the document's -/
theorem rterm_loop (R : T → Bool) (t : T) (hl : (flds t).length ≤ 1000) (hR : ∀ f ∈ flds t, Dz i_treillageref09_Right none [A.t (val f)] (1, [A.t (T.bool (R (val f)))])) : ∀ (k j : Nat), j + k = (flds t).length →
    Dz i_treillageref09_Term (some p_treillageref09_Term_c1) [A.t (T.int j), A.t t] (if ((flds t).drop j).all (fullF R) then (2, []) else (1, [A.t (T.bool false)])) := by
  intro k
  induction k with
  | zero =>
    intro j hj
    refine Does.now fun m => ?_
    rw [q_treillageref09_Term_c1, List.drop_of_length_le (by omega)]
    simp only [num_int, tf_bool, txt_str, kids_node, tree_t, aAt_zero, aAt_succ, Option.map_some, Option.bind_some, Nat.beq_refl, Bool.cond_eq_ite, decide_eq_true_eq, decide_eq_false_iff_not, Bool.and_eq_true, Bool.or_eq_true, beq_iff_eq, beq_eq_false_iff_ne, bne_iff_ne, ne_eq, if_true, if_false, Int.toNat_natCast, Bool.false_eq_true, nb12, nb21, nb14, nb24, nb42, nb41, terms_eq, flds_eq]
    rw [if_neg (by omega)]; rfl
  | succ k ih =>
    intro j hj
    have hlt : j < (flds t).length := by omega
    have hw : IntKind.i64.wrap ((j : Int) + 1) = ((j + 1 : Nat) : Int) := i64succ (by omega)
    obtain ⟨n0, h0⟩ := (hR _ (List.getElem_mem hlt)).both (ih (j + 1) (by omega))
    refine Does.of n0 fun m hm => ?_
    obtain ⟨q1, q2⟩ := h0 m hm
    rw [q_treillageref09_Term_c1, drop_all hlt]
    simp only [num_int, tf_bool, txt_str, kids_node, tree_t, aAt_zero, aAt_succ, Option.map_some, Option.bind_some, Nat.beq_refl, Bool.cond_eq_ite, decide_eq_true_eq, decide_eq_false_iff_not, Bool.and_eq_true, Bool.or_eq_true, beq_iff_eq, beq_eq_false_iff_ne, bne_iff_ne, ne_eq, if_true, if_false, Int.toNat_natCast, Bool.false_eq_true, nb12, nb21, nb14, nb24, nb42, nb41, terms_eq, flds_eq, at_get hlt, val_eq, hw, q1, q2, fullF, e0_zero, Bool.not_eq_true']
    rw [if_pos (by omega), if_pos (by omega)]
    by_cases hz : (terms (val (flds t)[j])).length = 0
    · rw [if_neg (by simp [hz]), if_neg (by simp [hz])]
    · rw [if_pos (by simp [hz]), if_pos (by omega)]
      cases R (val (flds t)[j]) <;> simp [hz]
theorem rterm_does (R : T → Bool) (d : Nat) (t : T) (ht : SmT d t) (hR : kd t = 4 → ∀ f ∈ flds t, Dz i_treillageref09_Right none [A.t (val f)] (1, [A.t (T.bool (R (val f)))])) : Dz i_treillageref09_Term none [A.t t] (1, [A.t (T.bool (okT R d t))]) := by
  have hl := ht.1
  by_cases h5 : kd t = 5
  · obtain ⟨n0, h0⟩ := rt_does ht (Sm_any d)
    refine Does.of n0 fun m hm => ?_
    rw [q_treillageref09_Term, okT, if_pos h5, anyT_eq]
    simp only [num_int, tf_bool, txt_str, kids_node, tree_t, aAt_zero, aAt_succ, Option.map_some, Option.bind_some, Nat.beq_refl, Bool.cond_eq_ite, decide_eq_true_eq, decide_eq_false_iff_not, Bool.and_eq_true, Bool.or_eq_true, beq_iff_eq, beq_eq_false_iff_ne, bne_iff_ne, ne_eq, if_true, if_false, Int.toNat_natCast, Bool.false_eq_true, nb12, nb21, nb14, nb24, nb42, nb41, terms_eq, flds_eq, kd_eq, h0 m hm, h5, beqI]
  by_cases h4 : kd t = 4
  · obtain ⟨n1, h1⟩ := rnames_does (flds t) (by omega)
    obtain ⟨n2, h2⟩ := rterm_loop R t (by omega) (hR h4) (flds t).length 0 (by omega)
    refine Does.of (n1 + n2) fun m hm => ?_
    have q2 := h1 m (by omega)
    have q3 : den Tryd.prog G0 ents m i_treillageref09_Term (some p_treillageref09_Term_c1) [A.t (T.int 0), A.t t] = _ := h2 m (by omega)
    rw [List.drop_zero] at q3
    rw [q_treillageref09_Term, okT, if_neg h5, if_pos h4]
    simp only [terms_eq, flds_eq, num_int, kd_eq, h4, lo_eq, hi_eq, tx_eq, an_eq, mb_eq, eb_eq, seq_dec, q2, q3, bareT]
    have h32 : decide ((((flds t).length : Nat) : Int) > 32) = !decide ((flds t).length ≤ 32) := by rw [Bool.eq_iff_iff]; simp; omega
    have hlo : (lo t != 0) = !decide (lo t = 0) := by rw [bne, beqI]
    have hhi : (hi t != 0) = !decide (hi t = 0) := by rw [bne, beqI]
    rw [h32, hlo, hhi]
    generalize (flds t).all (fullF R) = c
    generalize decide ((flds t).length ≤ 32) = c2
    generalize names (flds t) = c3
    generalize decide (lo t = 0) = c4
    generalize decide (hi t = 0) = c5
    generalize decide (tx t = emptyB) = c6
    generalize an t = c7
    generalize mb t = c8
    cases c4 <;> cases c5 <;> cases c6 <;> cases c7 <;> cases c8 <;> cases c2 <;> cases c3 <;> cases c <;> rfl
  · obtain ⟨n0, h0⟩ := rright_does t
    refine Does.of n0 fun m hm => ?_
    rw [q_treillageref09_Term, okT, if_neg h5, if_neg h4]
    simp only [num_int, tf_bool, txt_str, kids_node, tree_t, aAt_zero, aAt_succ, Option.map_some, Option.bind_some, Nat.beq_refl, Bool.cond_eq_ite, decide_eq_true_eq, decide_eq_false_iff_not, Bool.and_eq_true, Bool.or_eq_true, beq_iff_eq, beq_eq_false_iff_ne, bne_iff_ne, ne_eq, if_true, if_false, Int.toNat_natCast, Bool.false_eq_true, nb12, nb21, nb14, nb24, nb42, nb41, terms_eq, flds_eq, kd_eq, h0 m hm, h5, h4, not_false_eq_true]
theorem rright_c1 (R : T → Bool) (d : Nat) (v : T) (hv : Sm (d + 1) v) (hR : ∀ t ∈ terms v, ∀ f ∈ flds t, Dz i_treillageref09_Right none [A.t (val f)] (1, [A.t (T.bool (R (val f)))])) : ∀ (k j : Nat), j + k = (terms v).length →
    Dz i_treillageref09_Right (some p_treillageref09_Right_c1) [A.t (T.int j), A.t v] (if allN (fun j => okT R d (tAtD (terms v) j) && ascAt d (terms v) j) k j then (2, [A.t v]) else (1, [A.t (T.bool false)])) := by
  have hl := hv.terms
  intro k
  induction k with
  | zero =>
    intro j hj
    refine Does.now fun m => ?_
    rw [q_treillageref09_Right_c1, allN]
    simp only [num_int, tf_bool, txt_str, kids_node, tree_t, aAt_zero, aAt_succ, Option.map_some, Option.bind_some, Nat.beq_refl, Bool.cond_eq_ite, decide_eq_true_eq, decide_eq_false_iff_not, Bool.and_eq_true, Bool.or_eq_true, beq_iff_eq, beq_eq_false_iff_ne, bne_iff_ne, ne_eq, if_true, if_false, Int.toNat_natCast, Bool.false_eq_true, nb12, nb21, nb14, nb24, nb42, nb41, terms_eq, flds_eq]
    rw [if_neg (by omega)]
  | succ k ih =>
    intro j hj
    have hlt : j < (terms v).length := by omega
    have hw : IntKind.i64.wrap ((j : Int) + 1) = ((j + 1 : Nat) : Int) := i64succ (by omega)
    have hm := List.getElem_mem hlt
    have hs := rterm_does R d (terms v)[j] (hv.term hm) (fun _ => hR _ hm)
    rw [allN, at_get hlt]
    by_cases h0 : j = 0
    · subst h0
      obtain ⟨n0, h0⟩ := hs.both (ih (0 + 1) (by omega))
      refine Does.of n0 fun m hm => ?_
      obtain ⟨q1, q2⟩ := h0 m hm
      have hasc : ascAt d (terms v) 0 = true := rfl
      rw [hasc, q_treillageref09_Right_c1]
      simp only [num_int, tf_bool, txt_str, kids_node, tree_t, aAt_zero, aAt_succ, Option.map_some, Option.bind_some, Nat.beq_refl, Bool.cond_eq_ite, decide_eq_true_eq, decide_eq_false_iff_not, Bool.and_eq_true, Bool.or_eq_true, beq_iff_eq, beq_eq_false_iff_ne, bne_iff_ne, ne_eq, if_true, if_false, Int.toNat_natCast, Bool.false_eq_true, nb12, nb21, nb14, nb24, nb42, nb41, terms_eq, flds_eq, at_get hlt, hw, q1, q2, Bool.and_true]
      rw [if_pos (by omega), if_pos (by omega)]
      cases okT R d (terms v)[0] <;> simp
    · have hlt2 : j - 1 < (terms v).length := by omega
      have hp : IntKind.i64.wrap ((j : Int) - 1) = ((j - 1 : Nat) : Int) := by rw [w64 (by omega) (by omega)]; omega
      obtain ⟨n0, h0'⟩ := hs.both (ih (j + 1) (by omega))
      obtain ⟨n1, h1⟩ := rt_does (hv.term (List.getElem_mem hlt2)) (hv.term hm)
      refine Does.of (n0 + n1) fun m hm => ?_
      obtain ⟨q1, q2⟩ := h0' m (by omega)
      have q3 := h1 m (by omega)
      have hasc : ascAt d (terms v) j = decide (cmpT d (terms v)[j - 1] (terms v)[j] < 0) := by
        rw [ascAt, at_get hlt, at_get hlt2, show (j == 0) = false by simp [h0]]; rfl
      rw [hasc, q_treillageref09_Right_c1]
      simp only [num_int, tf_bool, txt_str, kids_node, tree_t, aAt_zero, aAt_succ, Option.map_some, Option.bind_some, Nat.beq_refl, Bool.cond_eq_ite, decide_eq_true_eq, decide_eq_false_iff_not, Bool.and_eq_true, Bool.or_eq_true, beq_iff_eq, beq_eq_false_iff_ne, bne_iff_ne, ne_eq, if_true, if_false, Int.toNat_natCast, Bool.false_eq_true, nb12, nb21, nb14, nb24, nb42, nb41, terms_eq, flds_eq, at_get hlt, at_get hlt2, hw, hp, q1, q2, q3]
      rw [if_pos (by omega), if_pos (by omega)]
      cases okT R d (terms v)[j] with
      | false => simp
      | true =>
        rw [if_pos (by rfl), if_pos (by omega), if_pos (by omega), if_pos (by omega)]
        by_cases hc : cmpT d (terms v)[j - 1] (terms v)[j] < 0
        · rw [if_neg (by omega)]; simp [hc]
        · rw [if_pos (by omega)]; simp [hc]
theorem rright_c3 (d : Nat) (v : T) (i : Nat) (hi : i < (terms v).length) (hl : (terms v).length ≤ 1000) (hb : ∀ y ∈ terms v, Dz i_treillageref09_under none [A.t (terms v)[i], A.t y] (1, [A.t (T.bool (belowT (underV d) (terms v)[i] y))])) : ∀ (k j : Nat), j + k = (terms v).length →
    Dz i_treillageref09_Right (some p_treillageref09_Right_c3) [A.t (T.int i), A.t (T.int j), A.t v] (if allN (apart d (terms v) i) k j then (6, [A.t (T.int i), A.t v]) else (1, [A.t (T.bool false)])) := by
  intro k
  induction k with
  | zero =>
    intro j hj
    refine Does.now fun m => ?_
    rw [q_treillageref09_Right_c3, allN]
    simp only [num_int, tf_bool, txt_str, kids_node, tree_t, aAt_zero, aAt_succ, Option.map_some, Option.bind_some, Nat.beq_refl, Bool.cond_eq_ite, decide_eq_true_eq, decide_eq_false_iff_not, Bool.and_eq_true, Bool.or_eq_true, beq_iff_eq, beq_eq_false_iff_ne, bne_iff_ne, ne_eq, if_true, if_false, Int.toNat_natCast, Bool.false_eq_true, nb12, nb21, nb14, nb24, nb42, nb41, terms_eq, flds_eq]
    rw [if_neg (by omega)]
  | succ k ih =>
    intro j hj
    have hlt : j < (terms v).length := by omega
    have hw : IntKind.i64.wrap ((j : Int) + 1) = ((j + 1 : Nat) : Int) := i64succ (by omega)
    obtain ⟨n0, h0⟩ := (hb _ (List.getElem_mem hlt)).both (ih (j + 1) (by omega))
    refine Does.of n0 fun m hm => ?_
    obtain ⟨q1, q2⟩ := h0 m hm
    have hap : apart d (terms v) i j = (decide (i = j) || !belowT (underV d) (terms v)[i] (terms v)[j]) := by rw [apart, at_get hi, at_get hlt]
    rw [q_treillageref09_Right_c3, allN, hap]
    simp only [num_int, tf_bool, txt_str, kids_node, tree_t, aAt_zero, aAt_succ, Option.map_some, Option.bind_some, Nat.beq_refl, Bool.cond_eq_ite, decide_eq_true_eq, decide_eq_false_iff_not, Bool.and_eq_true, Bool.or_eq_true, beq_iff_eq, beq_eq_false_iff_ne, bne_iff_ne, ne_eq, if_true, if_false, Int.toNat_natCast, Bool.false_eq_true, nb12, nb21, nb14, nb24, nb42, nb41, terms_eq, flds_eq, at_get hlt, at_get hi, hw, q1, q2]
    rw [if_pos (by omega)]
    by_cases he : i = j
    · rw [if_neg (by omega)]; simp [he]
    · rw [if_pos (by omega), if_pos (by omega), if_pos (by omega)]
      cases belowT (underV d) (terms v)[i] (terms v)[j] <;> simp [he]
theorem rright_c2 (d : Nat) (v : T) (hl : (terms v).length ≤ 1000) (hb : ∀ x ∈ terms v, ∀ y ∈ terms v, Dz i_treillageref09_under none [A.t x, A.t y] (1, [A.t (T.bool (belowT (underV d) x y))])) : ∀ (k j : Nat), j + k = (terms v).length →
    Dz i_treillageref09_Right (some p_treillageref09_Right_c2) [A.t (T.int j), A.t v] (if allN (fun i => allN (apart d (terms v) i) (terms v).length 0) k j then (4, []) else (1, [A.t (T.bool false)])) := by
  intro k
  induction k with
  | zero =>
    intro j hj
    refine Does.now fun m => ?_
    rw [q_treillageref09_Right_c2, allN]
    simp only [num_int, tf_bool, txt_str, kids_node, tree_t, aAt_zero, aAt_succ, Option.map_some, Option.bind_some, Nat.beq_refl, Bool.cond_eq_ite, decide_eq_true_eq, decide_eq_false_iff_not, Bool.and_eq_true, Bool.or_eq_true, beq_iff_eq, beq_eq_false_iff_ne, bne_iff_ne, ne_eq, if_true, if_false, Int.toNat_natCast, Bool.false_eq_true, nb12, nb21, nb14, nb24, nb42, nb41, terms_eq, flds_eq]
    rw [if_neg (by omega)]
  | succ k ih =>
    intro j hj
    have hlt : j < (terms v).length := by omega
    have hw : IntKind.i64.wrap ((j : Int) + 1) = ((j + 1 : Nat) : Int) := i64succ (by omega)
    obtain ⟨n0, h0⟩ := (rright_c3 d v j hlt hl (hb _ (List.getElem_mem hlt)) (terms v).length 0 (by omega)).both (ih (j + 1) (by omega))
    refine Does.of n0 fun m hm => ?_
    obtain ⟨q1, q2⟩ := h0 m hm
    have q1' : den Tryd.prog G0 ents m i_treillageref09_Right (some p_treillageref09_Right_c3) [A.t (T.int j), A.t (T.int 0), A.t v] = _ := q1
    rw [q_treillageref09_Right_c2, allN]
    simp only [terms_eq, num_int, q1']
    generalize allN (apart d (terms v) j) (terms v).length 0 = c
    cases c with
    | false =>
      simp only [num_int, tf_bool, txt_str, kids_node, tree_t, aAt_zero, aAt_succ, Option.map_some, Option.bind_some, Nat.beq_refl, Bool.cond_eq_ite, decide_eq_true_eq, decide_eq_false_iff_not, Bool.and_eq_true, Bool.or_eq_true, beq_iff_eq, beq_eq_false_iff_ne, bne_iff_ne, ne_eq, if_true, if_false, Int.toNat_natCast, Bool.false_eq_true, nb12, nb21, nb14, nb24, nb42, nb41, terms_eq, flds_eq]
      rw [if_pos (by omega)]
      rfl
    | true =>
      simp only [num_int, tf_bool, txt_str, kids_node, tree_t, aAt_zero, aAt_succ, Option.map_some, Option.bind_some, Nat.beq_refl, Bool.cond_eq_ite, decide_eq_true_eq, decide_eq_false_iff_not, Bool.and_eq_true, Bool.or_eq_true, beq_iff_eq, beq_eq_false_iff_ne, bne_iff_ne, ne_eq, if_true, if_false, Int.toNat_natCast, Bool.false_eq_true, nb12, nb21, nb14, nb24, nb42, nb41, terms_eq, flds_eq, hw, q2, show Nat.beq 6 6 = true from rfl, true_and]
      rw [if_pos (by omega)]
theorem rright_val : ∀ (d : Nat) (v : T), d ≤ 1000 → Sm d v → Dz i_treillageref09_Right none [A.t v] (1, [A.t (T.bool (refV d v))])
  | 0, v, _, h => h.1.elim
  | d + 1, v, hd, h => by
    have hl := h.terms
    have hwt := h.2
    obtain ⟨n0, h0⟩ := (rweight_does (d + 1) v h).both (depth_does (d + 1) v hd h)
    rw [refV]
    by_cases hdp : dep (d + 1) v ≤ 16
    rotate_left
    · refine Does.of n0 fun m hm => ?_
      obtain ⟨q1, q2⟩ := h0 m hm
      rw [q_treillageref09_Right, decide_eq_false hdp]
      simp only [num_int, tf_bool, txt_str, kids_node, tree_t, aAt_zero, aAt_succ, Option.map_some, Option.bind_some, Nat.beq_refl, Bool.cond_eq_ite, decide_eq_true_eq, decide_eq_false_iff_not, Bool.and_eq_true, Bool.or_eq_true, beq_iff_eq, beq_eq_false_iff_ne, bne_iff_ne, ne_eq, if_true, if_false, Int.toNat_natCast, Bool.false_eq_true, nb12, nb21, nb14, nb24, nb42, nb41, terms_eq, flds_eq, q1, q2]
      rw [if_pos (by omega), if_pos (by omega)]
      rfl
    rw [decide_eq_true hdp, Bool.true_and]
    have hR : ∀ t ∈ terms v, ∀ f ∈ flds t, Dz i_treillageref09_Right none [A.t (val f)] (1, [A.t (T.bool (refV d (val f)))]) := fun t ht f hf => rright_val d (val f) (by omega) (h.sub ht hf)
    obtain ⟨n1, h1⟩ := rright_c1 (refV d) d v h hR (terms v).length 0 (by omega)
    have q1' : ∀ m, n1 ≤ m → den Tryd.prog G0 ents m i_treillageref09_Right (some p_treillageref09_Right_c1) [A.t (T.int 0), A.t v] = some (if inOrder (refV d) d (terms v) then (2, [A.t v]) else (1, [A.t (T.bool false)])) := h1
    have hb : ∀ x ∈ terms v, ∀ y ∈ terms v, Dz i_treillageref09_under none [A.t x, A.t y] (1, [A.t (T.bool (belowT (underV d) x y))]) := fun x hx y hy =>
      runder1_does (underV d) x y (by have := h.flds hx; omega) (by have := h.flds hy; omega)
        fun h1 h2 f hf g hg => runder_does d _ _ (h.sub hx hf) (h.sub hy hg)
    obtain ⟨n2, h2⟩ := rright_c2 d v (by omega) hb (terms v).length 0 (by omega)
    have q2' : ∀ m, n2 ≤ m → den Tryd.prog G0 ents m i_treillageref09_Right (some p_treillageref09_Right_c2) [A.t (T.int 0), A.t v] = some (if allApart d (terms v) then (4, []) else (1, [A.t (T.bool false)])) := h2
    refine Does.of (n0 + n1 + n2) fun m hm => ?_
    obtain ⟨q1, q2⟩ := h0 m (by omega)
    rw [q_treillageref09_Right]
    simp only [num_int, tf_bool, txt_str, kids_node, tree_t, aAt_zero, aAt_succ, Option.map_some, Option.bind_some, Nat.beq_refl, Bool.cond_eq_ite, decide_eq_true_eq, decide_eq_false_iff_not, Bool.and_eq_true, Bool.or_eq_true, beq_iff_eq, beq_eq_false_iff_ne, bne_iff_ne, ne_eq, if_true, if_false, Int.toNat_natCast, Bool.false_eq_true, nb12, nb21, nb14, nb24, nb42, nb41, terms_eq, flds_eq, q1, q2, q1' m (by omega)]
    rw [if_pos (by omega), if_neg (by omega)]
    cases inOrder (refV d) d (terms v) with
    | false => rfl
    | true =>
      simp only [num_int, tf_bool, txt_str, kids_node, tree_t, aAt_zero, aAt_succ, Option.map_some, Option.bind_some, Nat.beq_refl, Bool.cond_eq_ite, decide_eq_true_eq, decide_eq_false_iff_not, Bool.and_eq_true, Bool.or_eq_true, beq_iff_eq, beq_eq_false_iff_ne, bne_iff_ne, ne_eq, if_true, if_false, Int.toNat_natCast, Bool.false_eq_true, nb12, nb21, nb14, nb24, nb42, nb41, terms_eq, flds_eq, q2' m (by omega)]
      cases allApart d (terms v) <;> rfl
theorem refRight_does {v : T} (h : Sm 20 v) : Dz i_treillageref09_Right none [A.t v] (1, [A.t (T.bool (refV 20 v))]) := rright_val 20 v (by omega) h
end Go.Proofs.YtpfglhjgjfhkjaaDoorCP
namespace Go.Proofs.YtpfglhjgjfhkjaaDoorCP
open Go Go.Proofs.YtpfglhjgjfhkjaaDoorVM
set_option linter.unusedVariables false
set_option linter.unusedSimpArgs false
set_option maxRecDepth 100000

/-! ### bytes -/
theorem grow_eq (n : Nat) (k : Int) : den Tryd.prog G0 ents (Nat.succ n) i_slices_Grow none [A.t (T.int k)] = (growF [A.t (T.int k)]).map (fun o => (1, o)) := by kernel_rfl
theorem grow_does (k : Nat) (h : k ≤ 1000000000) : Dz i_slices_Grow none [A.t (T.int k)] (1, [A.t (T.node [])]) := by
  refine Does.now fun n => ?_
  rw [grow_eq]
  simp only [growF, aAt_zero, tree_t, num_int, Bool.cond_eq_ite, Bool.and_eq_true, decide_eq_true_eq]
  rw [if_pos (by omega)]
  rfl
/-- Two rows, joined. -/
theorem concat_does (a b : List T) (ha : a.length ≤ 20000000) (hb : b.length ≤ 20000000) : Dz i_slices_Concat_bytes none [A.t (T.node [T.node a, T.node b])] (1, [A.t (T.node [T.node a, T.node b]), A.t (T.node (a ++ b))]) := by
  have s2 : Dz i_slices_Concat_bytes (some p_slices_Concat_bytes_c1) [A.t (T.int (a.length + b.length : Nat)), A.t (T.int 2), A.t (T.int (2 : Nat)), A.t (T.node [T.node a, T.node b])] (2, [A.t (T.int (a.length + b.length : Nat)), A.t (T.node [T.node a, T.node b])]) := by
    refine Does.now fun n => ?_
    rw [q_slices_Concat_bytes_c1]
    simp only [num_int, kids_node, Bool.cond_eq_ite, decide_eq_true_eq]
    rw [if_neg (by omega)]
  have s1 : Dz i_slices_Concat_bytes (some p_slices_Concat_bytes_c1) [A.t (T.int (a.length : Nat)), A.t (T.int 2), A.t (T.int (1 : Nat)), A.t (T.node [T.node a, T.node b])] (2, [A.t (T.int (a.length + b.length : Nat)), A.t (T.node [T.node a, T.node b])]) := by
    refine Does.next s2 fun n => ?_
    rw [q_slices_Concat_bytes_c1]
    have hg : tAtD [T.node a, T.node b] 1 = T.node b := id rfl
    have hw : IntKind.i64.wrap (((a.length : Nat) : Int) + ((b.length : Nat) : Int)) = ((a.length + b.length : Nat) : Int) := by rw [w64 (by omega) (by omega)]; omega
    simp only [num_int, kids_node, Bool.cond_eq_ite, decide_eq_true_eq, Bool.and_eq_true, Int.toNat_natCast, hg, hw, i64succ (show 1 < 9223372036854775807 by omega), List.length_cons, List.length_nil]
    rw [if_pos (by omega), if_pos (by omega), if_pos (by omega), if_neg (by omega)]
  have s0 : Dz i_slices_Concat_bytes (some p_slices_Concat_bytes_c1) [A.t (T.int 0), A.t (T.int 2), A.t (T.int 0), A.t (T.node [T.node a, T.node b])] (2, [A.t (T.int (a.length + b.length : Nat)), A.t (T.node [T.node a, T.node b])]) := by
    refine Does.next s1 fun n => ?_
    rw [q_slices_Concat_bytes_c1]
    have hg : tAtD [T.node a, T.node b] (Int.toNat 0) = T.node a := id rfl
    have hw : IntKind.i64.wrap ((0 : Int) + ((a.length : Nat) : Int)) = ((a.length : Nat) : Int) := by rw [w64 (by omega) (by omega)]; omega
    have hw1 : IntKind.i64.wrap ((0 : Int) + 1) = ((1 : Nat) : Int) := by rw [w64 (by omega) (by omega)]; rfl
    simp only [num_int, kids_node, Bool.cond_eq_ite, decide_eq_true_eq, Bool.and_eq_true, hg, hw, hw1, List.length_cons, List.length_nil]
    rw [if_pos (by omega), if_pos (by omega), if_pos (by omega), if_neg (by omega)]
  have r2 : Dz i_slices_Concat_bytes (some p_slices_Concat_bytes_c2) [A.t (T.int 2), A.t (T.int (2 : Nat)), A.t (T.node [T.node a, T.node b]), A.t (T.node (a ++ b))] (4, [A.t (T.node [T.node a, T.node b]), A.t (T.node (a ++ b))]) := by
    refine Does.now fun n => ?_
    rw [q_slices_Concat_bytes_c2]
    simp only [num_int, kids_node, Bool.cond_eq_ite, decide_eq_true_eq]
    rw [if_neg (by omega)]
  have r1 : Dz i_slices_Concat_bytes (some p_slices_Concat_bytes_c2) [A.t (T.int 2), A.t (T.int (1 : Nat)), A.t (T.node [T.node a, T.node b]), A.t (T.node a)] (4, [A.t (T.node [T.node a, T.node b]), A.t (T.node (a ++ b))]) := by
    refine Does.next r2 fun n => ?_
    rw [q_slices_Concat_bytes_c2]
    have hg : tAtD [T.node a, T.node b] 1 = T.node b := id rfl
    simp only [num_int, kids_node, Bool.cond_eq_ite, decide_eq_true_eq, Bool.and_eq_true, Int.toNat_natCast, hg, i64succ (show 1 < 9223372036854775807 by omega), List.length_cons, List.length_nil]
    rw [if_pos (by omega), if_pos (by omega), if_pos (by omega), if_pos (by omega)]
  have r0 : Dz i_slices_Concat_bytes (some p_slices_Concat_bytes_c2) [A.t (T.int 2), A.t (T.int 0), A.t (T.node [T.node a, T.node b]), A.t (T.node [])] (4, [A.t (T.node [T.node a, T.node b]), A.t (T.node (a ++ b))]) := by
    refine Does.next r1 fun n => ?_
    rw [q_slices_Concat_bytes_c2]
    have hg : tAtD [T.node a, T.node b] (Int.toNat 0) = T.node a := id rfl
    have hw1 : IntKind.i64.wrap ((0 : Int) + 1) = ((1 : Nat) : Int) := by rw [w64 (by omega) (by omega)]; rfl
    simp only [num_int, kids_node, Bool.cond_eq_ite, decide_eq_true_eq, Bool.and_eq_true, hg, hw1, List.length_cons, List.length_nil, List.nil_append]
    rw [if_pos (by omega), if_pos (by omega), if_pos (by omega), if_pos (by omega)]
  obtain ⟨n1, h1⟩ := s0
  obtain ⟨n2, h2⟩ := r0
  obtain ⟨n3, h3⟩ := grow_does (a.length + b.length) (by omega)
  refine Does.of (n1 + n2 + n3) fun n hn => ?_
  have h1' : den Tryd.prog G0 ents n i_slices_Concat_bytes (some p_slices_Concat_bytes_c1) [A.t (T.int 0), A.t (T.int ((2 : Nat) : Int)), A.t (T.int 0), A.t (T.node [T.node a, T.node b])] = _ := h1 n (by omega)
  have h2' : den Tryd.prog G0 ents n i_slices_Concat_bytes (some p_slices_Concat_bytes_c2) [A.t (T.int ((2 : Nat) : Int)), A.t (T.int 0), A.t (T.node [T.node a, T.node b]), A.t (T.node [])] = _ := h2 n (by omega)
  rw [q_slices_Concat_bytes]
  simp only [kids_node, List.length_cons, List.length_nil, Nat.zero_add, Nat.reduceAdd, h1', Option.bind_some, Nat.beq_refl, Bool.cond_eq_ite, if_true, aAt_zero, aAt_succ, tree_t, num_int, h3 n (by omega), Option.map_some, h2']
def tb (l : List UInt8) : List T := l.map fun b => T.int (b.toNat : Nat)
def sb (l : List UInt8) : ByteArray := ⟨l.toArray⟩
theorem tb_app (l m : List UInt8) : tb (l ++ m) = tb l ++ tb m := List.map_append
theorem tb_len (l : List UInt8) : (tb l).length = l.length := List.length_map _
theorem sb_size (l : List UInt8) : (sb l).size = l.length := by show l.toArray.size = _; simp
theorem sb_app (l m : List UInt8) : sb l ++ sb m = sb (l ++ m) := by
  apply ByteArray.ext
  rw [ByteArray.data_append]
  simp [sb]
theorem sb_toList (s : ByteArray) : sb s.data.toList = s := by apply ByteArray.ext; simp [sb]
theorem bytesT_tb (l : List UInt8) : bytesT (tb l) = sb l := by
  unfold bytesT tb sb
  rw [List.map_map]
  congr 2
  induction l with
  | nil => rfl
  | cons a l ih =>
    rw [List.map_cons, ih]
    show UInt8.ofNat (Int.toNat ((a.toNat : Nat) : Int)) :: l = a :: l
    rw [Int.toNat_natCast, UInt8.ofNat_toNat]
theorem tBytes_tb (s : ByteArray) : tBytes s = tb s.data.toList := by unfold tBytes tb; rfl
theorem ofB {k : Nat} (h : k < 256) : (((UInt8.ofNat k).toNat : Nat) : Int) = (k : Int) := by
  rw [UInt8.toNat_ofNat']; omega
/-- What stands ahead of a number's last byte. -/
def hiB : Nat → Nat → List UInt8
  | 0, _ => []
  | k + 1, m => if m = 0 then [] else hiB k (m / 128) ++ [UInt8.ofNat (m % 128 + 128)]
def numB (n : Nat) : List UInt8 := hiB 9 (n / 128) ++ [UInt8.ofNat (n % 128)]
theorem hiB_zero : ∀ k, hiB k 0 = []
  | 0 => rfl
  | k + 1 => rfl
theorem hiB_len : ∀ k m, (hiB k m).length ≤ k
  | 0, m => Nat.le_refl _
  | k + 1, m => by
    rw [hiB]
    split
    · exact Nat.zero_le _
    · rw [List.length_append]; have := hiB_len k (m / 128); simp; omega
theorem numB_len (n : Nat) : (numB n).length ≤ 10 := by
  unfold numB
  rw [List.length_append]
  have := hiB_len 9 (n / 128)
  simp; omega
theorem and127_u64 (n : Nat) (h : n < 18446744073709551616) : zbits .and .u64 (n : Int) 127 = ((n % 128 : Nat) : Int) := by
  rw [show (127 : Int) = ((127 : Nat) : Int) from rfl, zand_u64 h (by omega), show (127 : Nat) = 2 ^ 7 - 1 from rfl, Nat.and_two_pow_sub_one_eq_mod]
theorem or128_u8 (n : Nat) (h : n < 128) : zbits .or .u8 (n : Int) 128 = ((n + 128 : Nat) : Int) := by
  rw [show (128 : Int) = ((128 : Nat) : Int) from rfl, zor_u8 (by omega) (by omega)]
  have : n ||| 128 = n + 128 := by
    have := Nat.two_pow_add_eq_or_of_lt (i := 7) (b := n) (by omega) 1
    rw [Nat.or_comm, show (128 : Nat) = 2 ^ 7 * 1 from rfl, ← this, Nat.add_comm]
  rw [this]
theorem get10 (l : List T) (h : l.length = 10) : [(T.node l).get 0, (T.node l).get 1, (T.node l).get 2, (T.node l).get 3, (T.node l).get 4, (T.node l).get 5, (T.node l).get 6, (T.node l).get 7, (T.node l).get 8, (T.node l).get 9] = l := by
  match l, h with
  | [a, b, c, d, e, f, g, h, i, j], _ => rfl
theorem drop_set (l : List T) (k : Nat) (y : T) (h : k < l.length) : (l.set k y).drop k = y :: l.drop (k + 1) := by
  rw [List.drop_eq_getElem_cons (by simpa using h), List.getElem_set_self, List.drop_set_of_lt (by omega)]
theorem vput_loop (b : List T) : ∀ (a m : Nat) (g : List T), g.length = 10 → a ≤ 9 → m < 128 ^ a → m < 18446744073709551616 →
    ∃ (a' : Nat) (g' : List T), a' ≤ 9 ∧ g'.length = 10 ∧ g'.drop a' = tb (hiB a m) ++ g.drop a ∧
      Dz i_vint_Put (some p_vint_Put_c1) [A.t (T.node b), A.t (T.int m), A.t (T.int a), A.t (T.node g)] (2, [A.t (T.node b), A.t (T.int a'), A.t (T.node g')]) := by
  intro a
  induction a with
  | zero =>
    intro m g hg ha hm _
    have : m = 0 := by simpa using hm
    subst this
    refine ⟨0, g, by omega, hg, rfl, Does.now fun k => ?_⟩
    rw [q_vint_Put_c1]
    simp only [num_int, tf_bool, txt_str, kids_node, tree_t, aAt_zero, aAt_succ, Option.map_some, Option.bind_some, Nat.beq_refl, Bool.cond_eq_ite, decide_eq_true_eq, decide_eq_false_iff_not, Bool.and_eq_true, Bool.or_eq_true, beq_iff_eq, beq_eq_false_iff_ne, bne_iff_ne, ne_eq, if_true, if_false, Int.toNat_natCast, Bool.false_eq_true, nb12, nb21, nb14, nb24, nb42, nb41, terms_eq, flds_eq]
    rw [if_neg (by omega)]
  | succ a ih =>
    intro m g hg ha hm h64
    by_cases h0 : m = 0
    · subst h0
      refine ⟨a + 1, g, by omega, hg, by rw [hiB_zero]; rfl, Does.now fun k => ?_⟩
      rw [q_vint_Put_c1]
      simp only [num_int, tf_bool, txt_str, kids_node, tree_t, aAt_zero, aAt_succ, Option.map_some, Option.bind_some, Nat.beq_refl, Bool.cond_eq_ite, decide_eq_true_eq, decide_eq_false_iff_not, Bool.and_eq_true, Bool.or_eq_true, beq_iff_eq, beq_eq_false_iff_ne, bne_iff_ne, ne_eq, if_true, if_false, Int.toNat_natCast, Bool.false_eq_true, nb12, nb21, nb14, nb24, nb42, nb41, terms_eq, flds_eq]
      rw [if_neg (by omega)]
    · have hp : IntKind.i64.wrap (((a + 1 : Nat) : Int) - 1) = ((a : Nat) : Int) := by rw [w64 (by omega) (by omega)]; omega
      obtain ⟨a', g', h1, h2, h3, h4⟩ := ih (m / 128) (g.set a (T.int (m % 128 + 128 : Nat))) (by simpa using hg) (by omega) (by rw [Nat.pow_succ] at hm; omega) (by omega)
      refine ⟨a', g', h1, h2, ?_, Does.next h4 fun k => ?_⟩
      · rw [h3, hiB, if_neg h0, tb_app, drop_set _ _ _ (by omega), List.append_assoc]
        show _ = _ ++ ([T.int _] ++ _)
        rw [ofB (by omega)]; rfl
      · rw [q_vint_Put_c1]
        have ho := or128_u8 (m % 128) (by omega)
        rw [show (128 : Int) = ((128 : Nat) : Int) from rfl] at ho
        simp only [num_int, tf_bool, txt_str, kids_node, tree_t, aAt_zero, aAt_succ, Option.map_some, Option.bind_some, Nat.beq_refl, Bool.cond_eq_ite, decide_eq_true_eq, decide_eq_false_iff_not, Bool.and_eq_true, Bool.or_eq_true, beq_iff_eq, beq_eq_false_iff_ne, bne_iff_ne, ne_eq, if_true, if_false, Int.toNat_natCast, Bool.false_eq_true, nb12, nb21, nb14, nb24, nb42, nb41, terms_eq, flds_eq, hp, and127_u64 m h64, wu8, Nat.mod_eq_of_lt (show m % 128 < 256 by omega), ho, setPad_set g a (by omega), show (128 : Int) = ((128 : Nat) : Int) from rfl, fdivN]
        rw [if_pos (by omega), if_pos (by omega)]
theorem vput_does (b : List T) (n : Nat) (hn : n < 9223372036854775808) (hb : b.length ≤ 10000000) : Dz i_vint_Put none [A.t (T.node b), A.t (T.int n)] (1, [A.t (T.node (b ++ tb (numB n)))]) := by
  obtain ⟨a', g', h1, h2, h3, n0, h0⟩ := vput_loop b 9 (n / 128) [T.int 0, T.int 0, T.int 0, T.int 0, T.int 0, T.int 0, T.int 0, T.int 0, T.int 0, T.int (n % 128 : Nat)] rfl (by omega) (by omega) (by omega)
  have h3' : g'.drop a' = tb (numB n) := by
    rw [h3, numB, tb_app]
    show _ ++ [T.int _] = _ ++ [T.int _]
    rw [ofB (by omega)]
  have hlen := numB_len n
  obtain ⟨n1, h4⟩ := concat_does b (tb (numB n)) (by omega) (by rw [tb_len]; omega)
  refine Does.of (n0 + n1) fun k hk => ?_
  have q1 : den Tryd.prog G0 ents k i_vint_Put (some p_vint_Put_c1) [A.t (T.node b), A.t (T.int (n / 128 : Nat)), A.t (T.int 9), A.t (T.node [T.int 0, T.int 0, T.int 0, T.int 0, T.int 0, T.int 0, T.int 0, T.int 0, T.int 0, T.int (n % 128 : Nat)])] = _ := h0 k (by omega)
  have q2 := h4 k (by omega)
  rw [q_vint_Put]
  rw [show (128 : Int) = ((128 : Nat) : Int) from rfl]
  simp only [num_int, kids_node, fdivN, and127_u64 n (by omega), wu8, Nat.mod_eq_of_lt (show n % 128 < 256 by omega), q1, Option.bind_some, Nat.beq_refl, Bool.cond_eq_ite, if_true, aAt_zero, aAt_succ, tree_t, get10 g' h2, Int.toNat_natCast, h3', q2, Option.map_some, Bool.and_eq_true, decide_eq_true_eq]
  rw [if_pos (by omega)]
theorem vput_v2_loop (b : List T) : ∀ (a m : Nat) (g : List T), g.length = 10 → a ≤ 9 → m < 128 ^ a → m < 18446744073709551616 →
    ∃ (a' : Nat) (g' : List T), a' ≤ 9 ∧ g'.length = 10 ∧ g'.drop a' = tb (hiB a m) ++ g.drop a ∧
      Dz i_vint_Put_v2 (some p_vint_Put_v2_c1) [A.t (T.int m), A.t (T.int a), A.t (T.node b), A.t (T.node g)] (2, [A.t (T.int a'), A.t (T.node b), A.t (T.node g')]) := by
  intro a
  induction a with
  | zero =>
    intro m g hg ha hm _
    have : m = 0 := by simpa using hm
    subst this
    refine ⟨0, g, by omega, hg, rfl, Does.now fun k => ?_⟩
    rw [q_vint_Put_v2_c1]
    simp only [num_int, tf_bool, txt_str, kids_node, tree_t, aAt_zero, aAt_succ, Option.map_some, Option.bind_some, Nat.beq_refl, Bool.cond_eq_ite, decide_eq_true_eq, decide_eq_false_iff_not, Bool.and_eq_true, Bool.or_eq_true, beq_iff_eq, beq_eq_false_iff_ne, bne_iff_ne, ne_eq, if_true, if_false, Int.toNat_natCast, Bool.false_eq_true, nb12, nb21, nb14, nb24, nb42, nb41, terms_eq, flds_eq]
    rw [if_neg (by omega)]
  | succ a ih =>
    intro m g hg ha hm h64
    by_cases h0 : m = 0
    · subst h0
      refine ⟨a + 1, g, by omega, hg, by rw [hiB_zero]; rfl, Does.now fun k => ?_⟩
      rw [q_vint_Put_v2_c1]
      simp only [num_int, tf_bool, txt_str, kids_node, tree_t, aAt_zero, aAt_succ, Option.map_some, Option.bind_some, Nat.beq_refl, Bool.cond_eq_ite, decide_eq_true_eq, decide_eq_false_iff_not, Bool.and_eq_true, Bool.or_eq_true, beq_iff_eq, beq_eq_false_iff_ne, bne_iff_ne, ne_eq, if_true, if_false, Int.toNat_natCast, Bool.false_eq_true, nb12, nb21, nb14, nb24, nb42, nb41, terms_eq, flds_eq]
      rw [if_neg (by omega)]
    · have hp : IntKind.i64.wrap (((a + 1 : Nat) : Int) - 1) = ((a : Nat) : Int) := by rw [w64 (by omega) (by omega)]; omega
      obtain ⟨a', g', h1, h2, h3, h4⟩ := ih (m / 128) (g.set a (T.int (m % 128 + 128 : Nat))) (by simpa using hg) (by omega) (by rw [Nat.pow_succ] at hm; omega) (by omega)
      refine ⟨a', g', h1, h2, ?_, Does.next h4 fun k => ?_⟩
      · rw [h3, hiB, if_neg h0, tb_app, drop_set _ _ _ (by omega), List.append_assoc]
        show _ = _ ++ ([T.int _] ++ _)
        rw [ofB (by omega)]; rfl
      · rw [q_vint_Put_v2_c1]
        have ho := or128_u8 (m % 128) (by omega)
        rw [show (128 : Int) = ((128 : Nat) : Int) from rfl] at ho
        simp only [num_int, tf_bool, txt_str, kids_node, tree_t, aAt_zero, aAt_succ, Option.map_some, Option.bind_some, Nat.beq_refl, Bool.cond_eq_ite, decide_eq_true_eq, decide_eq_false_iff_not, Bool.and_eq_true, Bool.or_eq_true, beq_iff_eq, beq_eq_false_iff_ne, bne_iff_ne, ne_eq, if_true, if_false, Int.toNat_natCast, Bool.false_eq_true, nb12, nb21, nb14, nb24, nb42, nb41, terms_eq, flds_eq, hp, and127_u64 m h64, wu8, Nat.mod_eq_of_lt (show m % 128 < 256 by omega), ho, setPad_set g a (by omega), show (128 : Int) = ((128 : Nat) : Int) from rfl, fdivN]
        rw [if_pos (by omega), if_pos (by omega)]
theorem vput_v2_does (b : List T) (n : Nat) (hn : n < 9223372036854775808) (hb : b.length ≤ 10000000) : Dz i_vint_Put_v2 none [A.t (T.int n), A.t (T.node b)] (1, [A.t (T.node (b ++ tb (numB n)))]) := by
  obtain ⟨a', g', h1, h2, h3, n0, h0⟩ := vput_v2_loop b 9 (n / 128) [T.int 0, T.int 0, T.int 0, T.int 0, T.int 0, T.int 0, T.int 0, T.int 0, T.int 0, T.int (n % 128 : Nat)] rfl (by omega) (by omega) (by omega)
  have h3' : g'.drop a' = tb (numB n) := by
    rw [h3, numB, tb_app]
    show _ ++ [T.int _] = _ ++ [T.int _]
    rw [ofB (by omega)]
  have hlen := numB_len n
  obtain ⟨n1, h4⟩ := concat_does b (tb (numB n)) (by omega) (by rw [tb_len]; omega)
  refine Does.of (n0 + n1) fun k hk => ?_
  have q1 : den Tryd.prog G0 ents k i_vint_Put_v2 (some p_vint_Put_v2_c1) [A.t (T.int (n / 128 : Nat)), A.t (T.int 9), A.t (T.node b), A.t (T.node [T.int 0, T.int 0, T.int 0, T.int 0, T.int 0, T.int 0, T.int 0, T.int 0, T.int 0, T.int (n % 128 : Nat)])] = _ := h0 k (by omega)
  have q2 := h4 k (by omega)
  rw [q_vint_Put_v2]
  rw [show (128 : Int) = ((128 : Nat) : Int) from rfl]
  simp only [num_int, kids_node, fdivN, and127_u64 n (by omega), wu8, Nat.mod_eq_of_lt (show n % 128 < 256 by omega), q1, Option.bind_some, Nat.beq_refl, Bool.cond_eq_ite, if_true, aAt_zero, aAt_succ, tree_t, get10 g' h2, Int.toNat_natCast, h3', q2, Option.map_some, Bool.and_eq_true, decide_eq_true_eq]
  rw [if_pos (by omega)]
/-- A number with a sign, as one without. -/
def signN (n : Int) : Nat := if n < 0 then 2 * (-(n + 1)).toNat + 1 else 2 * n.toNat
def big : Int := 9007199254740992
theorem sign_neg {n : Int} (h : n < 0) (h1 : -9007199254740992 ≤ n) : IntKind.wrap IntKind.u64 ((IntKind.wrap IntKind.u64 ((IntKind.wrap IntKind.u64 (IntKind.wrap IntKind.i64 ((0 : Int) - (IntKind.wrap IntKind.i64 (n + (1 : Int)))))) * (2 : Int))) + (1 : Int)) = ((signN n : Nat) : Int) := by
  obtain ⟨k, hk⟩ : ∃ k : Nat, -(n + 1) = (k : Int) := ⟨(-(n + 1)).toNat, by omega⟩
  rw [w64 (n := n + 1) (by omega) (by omega), show (0 : Int) - (n + 1) = (k : Int) by omega, w64 (by omega) (by omega), wu64, Nat.mod_eq_of_lt (by omega),
    show ((k : Nat) : Int) * 2 = ((k * 2 : Nat) : Int) by omega, wu64, Nat.mod_eq_of_lt (by omega), show ((k * 2 : Nat) : Int) + 1 = ((k * 2 + 1 : Nat) : Int) by omega, wu64, Nat.mod_eq_of_lt (by omega)]
  unfold signN
  rw [if_pos h, hk, Int.toNat_natCast, Nat.mul_comm]
theorem sign_pos {n : Int} (h : ¬ n < 0) (h1 : n ≤ 9007199254740992) : IntKind.wrap IntKind.u64 ((IntKind.wrap IntKind.u64 n) * (2 : Int)) = ((signN n : Nat) : Int) := by
  obtain ⟨k, hk⟩ : ∃ k : Nat, n = (k : Int) := ⟨n.toNat, by omega⟩
  subst hk
  rw [wu64, Nat.mod_eq_of_lt (by omega), show ((k : Nat) : Int) * 2 = ((k * 2 : Nat) : Int) by omega, wu64, Nat.mod_eq_of_lt (by omega)]
  unfold signN
  rw [if_neg h, Int.toNat_natCast, Nat.mul_comm]
theorem signN_lt {n : Int} (h1 : -9007199254740992 ≤ n) (h2 : n ≤ 9007199254740992) : signN n < 9223372036854775808 := by unfold signN; split <;> omega
theorem putint_does (b : List T) (n : Int) (h1 : -9007199254740992 ≤ n) (h2 : n ≤ 9007199254740992) (hb : b.length ≤ 10000000) : Dz i_vint_PutInt none [A.t (T.int n), A.t (T.node b)] (1, [A.t (T.node (b ++ tb (numB (signN n))))]) := by
  obtain ⟨n0, h0⟩ := vput_v2_does b (signN n) (signN_lt h1 h2) hb
  refine Does.of n0 fun k hk => ?_
  rw [q_vint_PutInt]
  by_cases h : n < 0
  · simp only [num_int, tf_bool, txt_str, kids_node, tree_t, aAt_zero, aAt_succ, Option.map_some, Option.bind_some, Nat.beq_refl, Bool.cond_eq_ite, decide_eq_true_eq, decide_eq_false_iff_not, Bool.and_eq_true, Bool.or_eq_true, beq_iff_eq, beq_eq_false_iff_ne, bne_iff_ne, ne_eq, if_true, if_false, Int.toNat_natCast, Bool.false_eq_true, nb12, nb21, nb14, nb24, nb42, nb41, terms_eq, flds_eq, sign_neg h h1, h0 k hk]
    rw [if_pos h]
  · simp only [num_int, tf_bool, txt_str, kids_node, tree_t, aAt_zero, aAt_succ, Option.map_some, Option.bind_some, Nat.beq_refl, Bool.cond_eq_ite, decide_eq_true_eq, decide_eq_false_iff_not, Bool.and_eq_true, Bool.or_eq_true, beq_iff_eq, beq_eq_false_iff_ne, bne_iff_ne, ne_eq, if_true, if_false, Int.toNat_natCast, Bool.false_eq_true, nb12, nb21, nb14, nb24, nb42, nb41, terms_eq, flds_eq, sign_pos h h2, h0 k hk]
    rw [if_neg h]
def textB (s : ByteArray) : List UInt8 := numB s.size ++ s.data.toList
theorem textB_len (s : ByteArray) : (textB s).length ≤ 10 + s.size := by
  unfold textB
  have := numB_len s.size
  have h : s.data.toList.length = s.size := by rw [Array.length_toList]; rfl
  rw [List.length_append]
  omega
theorem puttext_does (b : List T) (s : ByteArray) (hs : s.size ≤ 1000) (hb : b.length ≤ 10000000) : Dz i_vint_PutText none [A.t (T.node b), A.t (T.str s)] (1, [A.t (T.node (b ++ tb (textB s)))]) := by
  obtain ⟨n0, h0⟩ := vput_does b s.size (by omega) hb
  have hlen := numB_len s.size
  have h : s.data.toList.length = s.size := by rw [Array.length_toList]; rfl
  refine Does.of n0 fun k hk => ?_
  rw [q_vint_PutText]
  simp only [num_int, tf_bool, txt_str, kids_node, tree_t, aAt_zero, aAt_succ, Option.map_some, Option.bind_some, Nat.beq_refl, Bool.cond_eq_ite, decide_eq_true_eq, decide_eq_false_iff_not, Bool.and_eq_true, Bool.or_eq_true, beq_iff_eq, beq_eq_false_iff_ne, bne_iff_ne, ne_eq, if_true, if_false, Int.toNat_natCast, Bool.false_eq_true, nb12, nb21, nb14, nb24, nb42, nb41, terms_eq, flds_eq, wu64, Nat.mod_eq_of_lt (show s.size < 18446744073709551616 by omega), h0 k hk, tBytes_tb, List.length_append, tb_len, h]
  rw [if_pos (by omega), textB, tb_app, List.append_assoc]
theorem puttext_v2_does (b : List T) (s : ByteArray) (hs : s.size ≤ 1000) (hb : b.length ≤ 10000000) : Dz i_vint_PutText_v2 none [A.t (T.str s), A.t (T.node b)] (1, [A.t (T.node (b ++ tb (textB s)))]) := by
  obtain ⟨n0, h0⟩ := vput_v2_does b s.size (by omega) hb
  have hlen := numB_len s.size
  have h : s.data.toList.length = s.size := by rw [Array.length_toList]; rfl
  refine Does.of n0 fun k hk => ?_
  rw [q_vint_PutText_v2]
  simp only [num_int, tf_bool, txt_str, kids_node, tree_t, aAt_zero, aAt_succ, Option.map_some, Option.bind_some, Nat.beq_refl, Bool.cond_eq_ite, decide_eq_true_eq, decide_eq_false_iff_not, Bool.and_eq_true, Bool.or_eq_true, beq_iff_eq, beq_eq_false_iff_ne, bne_iff_ne, ne_eq, if_true, if_false, Int.toNat_natCast, Bool.false_eq_true, nb12, nb21, nb14, nb24, nb42, nb41, terms_eq, flds_eq, wu64, Nat.mod_eq_of_lt (show s.size < 18446744073709551616 by omega), h0 k hk, tBytes_tb, List.length_append, tb_len, h]
  rw [if_pos (by omega), textB, tb_app, List.append_assoc]
/-! ### the document's -/
theorem rnum_loop (hw : ∀ m : Nat, m < 18446744073709551616 → IntKind.u64.wrap ((m : Nat) : Int) = ((m : Nat) : Int)) : ∀ (k j n : Nat) (out : List UInt8), j + k = 9 → n < 18446744073709551616 → out.length ≤ 1000 - k →
    Dz i_treillageref03_Num (some p_treillageref03_Num_c1) [A.t (T.int n), A.t (T.str (sb out)), A.t (T.int j)] (2, [A.t (T.str (sb (hiB k (n / 128) ++ out)))]) := by
  intro k
  induction k with
  | zero =>
    intro j n out hj hn ho
    refine Does.now fun m => ?_
    rw [q_treillageref03_Num_c1]
    simp only [num_int, tf_bool, txt_str, kids_node, tree_t, aAt_zero, aAt_succ, Option.map_some, Option.bind_some, Nat.beq_refl, Bool.cond_eq_ite, decide_eq_true_eq, decide_eq_false_iff_not, Bool.and_eq_true, Bool.or_eq_true, beq_iff_eq, beq_eq_false_iff_ne, bne_iff_ne, ne_eq, if_true, if_false, Int.toNat_natCast, Bool.false_eq_true, nb12, nb21, nb14, nb24, nb42, nb41, terms_eq, flds_eq]
    rw [if_neg (by omega)]; rfl
  | succ k ih =>
    intro j n out hj hn ho
    have hs : IntKind.i64.wrap ((j : Int) + 1) = ((j + 1 : Nat) : Int) := i64succ (by omega)
    have hb1 : bytesT [T.int ((n / 128 % 128 + 128) % 256 : Nat)] = sb [UInt8.ofNat (n / 128 % 128 + 128)] := by
      rw [← bytesT_tb]
      show _ = bytesT [T.int _]
      rw [ofB (by omega), Nat.mod_eq_of_lt (show n / 128 % 128 + 128 < 256 by omega)]
    by_cases h0 : n / 128 = 0
    · have hz : hiB (k + 1) (n / 128) = hiB k (n / 128 / 128) := by rw [h0, show 0 / 128 = 0 from rfl, hiB_zero, hiB_zero]
      rw [hz]
      refine Does.next (ih (j + 1) (n / 128) out (by omega) (by omega) (by omega)) fun m => ?_
      rw [q_treillageref03_Num_c1]
      simp only [num_int, tf_bool, txt_str, kids_node, tree_t, aAt_zero, aAt_succ, Option.map_some, Option.bind_some, Nat.beq_refl, Bool.cond_eq_ite, decide_eq_true_eq, decide_eq_false_iff_not, Bool.and_eq_true, Bool.or_eq_true, beq_iff_eq, beq_eq_false_iff_ne, bne_iff_ne, ne_eq, if_true, if_false, Int.toNat_natCast, Bool.false_eq_true, nb12, nb21, nb14, nb24, nb42, nb41, terms_eq, flds_eq, show (128 : Int) = ((128 : Nat) : Int) from rfl, tdivN, hw (n / 128) (by omega), hs]
      rw [if_pos (by omega), if_neg (by omega)]
    · have hih := ih (j + 1) (n / 128) ([UInt8.ofNat (n / 128 % 128 + 128)] ++ out) (by omega) (by omega) (by simp; omega)
      rw [hiB, if_neg h0]
      rw [← List.append_assoc] at hih
      refine Does.next hih fun m => ?_
      rw [q_treillageref03_Num_c1]
      have h128 : (128 : Int) = ((128 : Nat) : Int) := rfl
      rw [h128]
      simp only [num_int, tdivN, tmodN, hw (n / 128) (by omega), hs, txt_str, ← Int.natCast_add, hw (n / 128 % 128 + 128) (by omega), wu8, hb1, sb_size, sb_app, Bool.cond_eq_ite, decide_eq_true_eq]
      rw [if_pos (by omega), if_pos (by omega), if_pos (by simp; omega)]
theorem rnum_does (n : Nat) (hn : n < 18446744073709551616) : Dz i_treillageref03_Num none [A.t (T.int n)] (1, [A.t (T.str (sb (numB n)))]) := by
  have hw : ∀ m : Nat, m < 18446744073709551616 → IntKind.u64.wrap ((m : Nat) : Int) = ((m : Nat) : Int) := fun m hm => by rw [wu64, Nat.mod_eq_of_lt hm]
  obtain ⟨n0, h0⟩ := rnum_loop hw 9 0 n [UInt8.ofNat (n % 128)] (by omega) hn (by simp)
  have hb1 : bytesT [T.int (n % 128 % 256 : Nat)] = sb [UInt8.ofNat (n % 128)] := by
    rw [← bytesT_tb]
    show _ = bytesT [T.int _]
    rw [ofB (by omega), Nat.mod_eq_of_lt (show n % 128 < 256 by omega)]
  refine Does.of n0 fun m hm => ?_
  have q : den Tryd.prog G0 ents m i_treillageref03_Num (some p_treillageref03_Num_c1) [A.t (T.int n), A.t (T.str (sb [UInt8.ofNat (n % 128)])), A.t (T.int 0)] = _ := h0 m hm
  rw [q_treillageref03_Num]
  simp only [num_int, tf_bool, txt_str, kids_node, tree_t, aAt_zero, aAt_succ, Option.map_some, Option.bind_some, Nat.beq_refl, Bool.cond_eq_ite, decide_eq_true_eq, decide_eq_false_iff_not, Bool.and_eq_true, Bool.or_eq_true, beq_iff_eq, beq_eq_false_iff_ne, bne_iff_ne, ne_eq, if_true, if_false, Int.toNat_natCast, Bool.false_eq_true, nb12, nb21, nb14, nb24, nb42, nb41, terms_eq, flds_eq, show (128 : Int) = ((128 : Nat) : Int) from rfl, tmodN, wu8, hb1, q]
  rfl
theorem rsign_does (n : Int) (h1 : -9007199254740992 ≤ n) (h2 : n ≤ 9007199254740992) : Dz i_treillageref03_Sign none [A.t (T.int n)] (1, [A.t (T.int (signN n : Nat))]) := by
  refine Does.now fun m => ?_
  rw [q_treillageref03_Sign]
  by_cases h : n < 0
  · have := sign_neg h h1
    rw [Int.mul_comm] at this
    simp only [num_int, tf_bool, txt_str, kids_node, tree_t, aAt_zero, aAt_succ, Option.map_some, Option.bind_some, Nat.beq_refl, Bool.cond_eq_ite, decide_eq_true_eq, decide_eq_false_iff_not, Bool.and_eq_true, Bool.or_eq_true, beq_iff_eq, beq_eq_false_iff_ne, bne_iff_ne, ne_eq, if_true, if_false, Int.toNat_natCast, Bool.false_eq_true, nb12, nb21, nb14, nb24, nb42, nb41, terms_eq, flds_eq, this, ge_iff_le]
    rw [if_neg (by omega)]
  · have := sign_pos h h2
    rw [Int.mul_comm] at this
    simp only [num_int, tf_bool, txt_str, kids_node, tree_t, aAt_zero, aAt_succ, Option.map_some, Option.bind_some, Nat.beq_refl, Bool.cond_eq_ite, decide_eq_true_eq, decide_eq_false_iff_not, Bool.and_eq_true, Bool.or_eq_true, beq_iff_eq, beq_eq_false_iff_ne, bne_iff_ne, ne_eq, if_true, if_false, Int.toNat_natCast, Bool.false_eq_true, nb12, nb21, nb14, nb24, nb42, nb41, terms_eq, flds_eq, this, ge_iff_le]
    rw [if_pos (by omega)]
theorem rtext_does (s : ByteArray) (hs : s.size ≤ 1000) : Dz i_treillageref03_Text none [A.t (T.str s)] (1, [A.t (T.str (sb (textB s)))]) := by
  obtain ⟨n0, h0⟩ := rnum_does s.size (by omega)
  have hlen := numB_len s.size
  refine Does.of n0 fun m hm => ?_
  rw [q_treillageref03_Text]
  simp only [num_int, tf_bool, txt_str, kids_node, tree_t, aAt_zero, aAt_succ, Option.map_some, Option.bind_some, Nat.beq_refl, Bool.cond_eq_ite, decide_eq_true_eq, decide_eq_false_iff_not, Bool.and_eq_true, Bool.or_eq_true, beq_iff_eq, beq_eq_false_iff_ne, bne_iff_ne, ne_eq, if_true, if_false, Int.toNat_natCast, Bool.false_eq_true, nb12, nb21, nb14, nb24, nb42, nb41, terms_eq, flds_eq, wu64, Nat.mod_eq_of_lt (show s.size < 18446744073709551616 by omega), h0 m hm, sb_size]
  rw [if_pos (by omega)]
  unfold textB
  rw [← sb_app, sb_toList]
end Go.Proofs.YtpfglhjgjfhkjaaDoorCP
namespace Go.Proofs.YtpfglhjgjfhkjaaDoorCP
open Go Go.Proofs.YtpfglhjgjfhkjaaDoorVM
set_option linter.unusedVariables false
set_option linter.unusedSimpArgs false
set_option maxRecDepth 100000

/-! ### a value's bytes, plain -/
def bitN (b : Bool) (n : Nat) : Nat := if b then n else 0
def markN (t : T) : Nat := 8 * (kd t).toNat + bitN (mb t) 1 + bitN (an t) 2 + bitN (op t) 4
def fldB (E : T → List UInt8) (f : T) : List UInt8 := textB (nm f) ++ E (val f)
def bodyT (E : T → List UInt8) (t : T) : List UInt8 :=
  if kd t = 1 ∨ kd t = 2 then numB (signN (lo t)) ++ numB (signN (hi t)) else if kd t = 3 then textB (tx t) else if kd t = 4 then numB (flds t).length ++ (flds t).flatMap (fldB E) else []
def encT (E : T → List UInt8) (t : T) : List UInt8 := numB (markN t) ++ bodyT E t
def encV : Nat → T → List UInt8
  | 0, _ => []
  | d + 1, v => numB (terms v).length ++ (terms v).flatMap (encT (encV d))
/-- What can be written. -/
def okK (t : T) : Prop := 1 ≤ kd t ∧ kd t ≤ 5 ∧ (kd t = 1 ∨ kd t = 2 → (-9007199254740992 ≤ lo t ∧ lo t ≤ 9007199254740992) ∧ (-9007199254740992 ≤ hi t ∧ hi t ≤ 9007199254740992))
def EV : Nat → T → Prop
  | 0, _ => False
  | d + 1, v => ∀ t ∈ terms v, okK t ∧ (kd t = 4 → ∀ f ∈ flds t, EV d (val f))
theorem okV_EV : ∀ (d : Nat) (v : T), okV d v = true → EV d v
  | 0, v, h => by cases h
  | d + 1, v, h => by
    rw [okV, Bool.and_eq_true] at h
    intro t ht
    obtain ⟨i, hi, rfl⟩ := List.getElem_of_mem ht
    have := (allN_iff _ _ _).1 h.1 i (by omega) (by omega)
    rw [at_get hi, Bool.and_eq_true] at this
    have h1 := this.1
    unfold okT at h1
    by_cases h5 : kd (terms v)[i] = 5
    · exact ⟨⟨by omega, by omega, fun h => by omega⟩, fun h => by omega⟩
    rw [if_neg h5] at h1
    by_cases h4 : kd (terms v)[i] = 4
    · rw [if_pos h4, Bool.and_eq_true, List.all_eq_true] at h1
      refine ⟨⟨by omega, by omega, fun h => by omega⟩, fun _ f hf => okV_EV d _ ?_⟩
      have := h1.2 f hf
      rw [fullF, Bool.and_eq_true] at this
      exact this.2
    · rw [if_neg h4] at h1
      unfold rightS at h1
      rw [Bool.and_eq_true] at h1
      have h2 := h1.2
      unfold rightK at h2
      by_cases h3 : kd (terms v)[i] = 3
      · exact ⟨⟨by omega, by omega, fun h => by omega⟩, fun h => by omega⟩
      rw [if_neg h3] at h2
      by_cases h22 : kd (terms v)[i] = 2
      · rw [if_pos h22] at h2
        simp only [Bool.and_eq_true, decide_eq_true_eq] at h2
        exact ⟨⟨by omega, by omega, fun h => by omega⟩, fun h => by omega⟩
      rw [if_neg h22] at h2
      by_cases h11 : kd (terms v)[i] = 1
      · rw [if_pos h11] at h2
        simp only [Bool.and_eq_true, decide_eq_true_eq] at h2
        exact ⟨⟨by omega, by omega, fun h => by omega⟩, fun h => by omega⟩
      · rw [if_neg h11] at h2
        cases h2
/-- No value's bytes are too many. -/
theorem flat_len (E : T → List UInt8) (g : T → Nat) (l : List T) (h : ∀ x ∈ l, (E x).length ≤ g x) : (l.flatMap E).length ≤ sumN (l.map g) := by
  induction l with
  | nil => exact Nat.zero_le _
  | cons a l ih =>
    rw [List.flatMap_cons, List.length_append, List.map_cons, sum_cons]
    have := h a List.mem_cons_self
    have := ih fun x hx => h x (List.mem_cons_of_mem _ hx)
    omega
theorem sum_lin (g : T → Nat) (a c : Nat) (l : List T) : sumN (l.map fun x => a + c * g x) = a * l.length + c * sumN (l.map g) := by
  induction l with
  | nil => simp [sumN]
  | cons x l ih =>
    rw [List.map_cons, sum_cons, ih, List.map_cons, sum_cons, List.length_cons, Nat.mul_add, Nat.mul_add]
    omega
theorem sum_scale (g : T → Nat) (c : Nat) (l : List T) : sumN (l.map fun x => c * g x) = c * sumN (l.map g) := by
  induction l with
  | nil => simp [sumN]
  | cons x l ih => rw [List.map_cons, sum_cons, ih, List.map_cons, sum_cons, Nat.mul_add]
theorem encV_len : ∀ (d : Nat) (v : T), Vd d v → (encV d v).length ≤ 10 + 20000 * wt d v
  | 0, v, h => h.elim
  | d + 1, v, h => by
    rw [encV, wt_succ, List.length_append]
    have h1 := numB_len (terms v).length
    have h2 : ((terms v).flatMap (encT (encV d))).length ≤ sumN ((terms v).map fun t => 20000 * wtT d t) := by
      refine flat_len _ _ _ fun t ht => ?_
      obtain ⟨c1, c2, c3⟩ := h t ht
      have n1 := numB_len (markN t)
      have n2 := numB_len (signN (lo t))
      have n3 := numB_len (signN (hi t))
      have n4 := textB_len (tx t)
      have c2' : (tx t).size ≤ 400 := c2
      have n5 := numB_len (flds t).length
      have n6 : ((flds t).flatMap (fldB (encV d))).length ≤ sumN ((flds t).map fun f => 120 + 20000 * wt d (val f)) := by
        refine flat_len _ _ _ fun f hf => ?_
        have := textB_len (nm f)
        have := (c3 f hf).1
        have := encV_len d (val f) (c3 f hf).2
        rw [fldB, List.length_append]
        omega
      rw [sum_lin] at n6
      unfold wtT
      rw [encT, List.length_append, bodyT]
      generalize sumN ((flds t).map fun f => wt d (val f)) = s at n6 ⊢
      split
      · rw [List.length_append]; omega
      · split
        · omega
        · split
          · rw [List.length_append]; omega
          · simp; omega
    rw [sum_scale] at h2
    omega
/-! ### the program's -/
theorem mark_does (t : T) (h1 : 1 ≤ kd t) (h5 : kd t ≤ 5) : Dz i_code_mark none [A.t t] (1, [A.t (T.int (markN t : Nat))]) := by
  refine Does.now fun m => ?_
  rw [q_code_mark]
  unfold markN
  simp only [kd_eq, mb_eq, an_eq, op_eq]
  generalize mb t = b1
  generalize an t = b2
  generalize op t = b3
  have : kd t = 1 ∨ kd t = 2 ∨ kd t = 3 ∨ kd t = 4 ∨ kd t = 5 := by omega
  rcases this with h | h | h | h | h <;> rw [h] <;> cases b1 <;> cases b2 <;> cases b3 <;> rfl
theorem markN_lt (t : T) (h5 : kd t ≤ 5) : markN t < 1000 := by
  unfold markN bitN
  split <;> split <;> split <;> omega
theorem flat_drop (E : T → List UInt8) {l : List T} {j : Nat} (h : j < l.length) : (l.drop j).flatMap E = E l[j] ++ (l.drop (j + 1)).flatMap E := by rw [List.drop_eq_getElem_cons h, List.flatMap_cons]
theorem put_v2_flds (E : T → List UInt8) (fl ts : List T) (n1 i : Int) (hl : fl.length ≤ 1000) (hf : ∀ f ∈ fl, (nm f).size ≤ 1000) (hE : ∀ f ∈ fl, ∀ b : List T, b.length + (E (val f)).length ≤ 9000000 → Dz i_code_put_v2 none [A.t (val f), A.t (T.node b)] (1, [A.t (T.node (b ++ tb (E (val f))))])) : ∀ (k j : Nat) (b : List T), j + k = fl.length → b.length + ((fl.drop j).flatMap (fldB E)).length ≤ 9000000 →
    Dz i_code_put_v2 (some p_code_put_v2_c2) [A.t (T.node b), A.t (T.node ts), A.t (T.int n1), A.t (T.int i), A.t (T.node fl), A.t (T.int (fl.length : Nat)), A.t (T.int j)] (5, [A.t (T.node (b ++ tb ((fl.drop j).flatMap (fldB E)))), A.t (T.node ts), A.t (T.int n1), A.t (T.int i)]) := by
  intro k
  induction k with
  | zero =>
    intro j b hj hb
    refine Does.now fun m => ?_
    rw [q_code_put_v2_c2, List.drop_of_length_le (by omega)]
    simp only [num_int, tf_bool, txt_str, kids_node, tree_t, aAt_zero, aAt_succ, Option.map_some, Option.bind_some, Nat.beq_refl, Bool.cond_eq_ite, decide_eq_true_eq, decide_eq_false_iff_not, Bool.and_eq_true, Bool.or_eq_true, beq_iff_eq, beq_eq_false_iff_ne, bne_iff_ne, ne_eq, if_true, if_false, Int.toNat_natCast, Bool.false_eq_true, nb12, nb21, nb14, nb24, nb42, nb41, terms_eq, flds_eq]
    rw [if_neg (by omega)]
    show _ = some (5, [A.t (T.node (b ++ [])), _, _, _])
    rw [List.append_nil]
  | succ k ih =>
    intro j b hj hb
    have hlt : j < fl.length := by omega
    have hm := List.getElem_mem hlt
    have hs := hf _ hm
    have hw : IntKind.i64.wrap ((j : Int) + 1) = ((j + 1 : Nat) : Int) := i64succ (by omega)
    rw [flat_drop _ hlt, fldB, List.append_assoc, tb_app, tb_app] at *
    rw [List.length_append, List.length_append] at hb
    obtain ⟨n0, h0⟩ := (puttext_does b (nm fl[j]) hs (by omega)).both (hE _ hm (b ++ tb (textB (nm fl[j]))) (by rw [List.length_append, tb_len]; omega))
    obtain ⟨n2, h2⟩ := ih (j + 1) (b ++ tb (textB (nm fl[j])) ++ tb (E (val fl[j]))) (by omega) (by rw [List.length_append, List.length_append, tb_len, tb_len]; omega)
    refine Does.of (n0 + n2) fun m hm => ?_
    obtain ⟨q1, q2⟩ := h0 m (by omega)
    have q3 := h2 m (by omega)
    rw [q_code_put_v2_c2]
    simp only [num_int, tf_bool, txt_str, kids_node, tree_t, aAt_zero, aAt_succ, Option.map_some, Option.bind_some, Nat.beq_refl, Bool.cond_eq_ite, decide_eq_true_eq, decide_eq_false_iff_not, Bool.and_eq_true, Bool.or_eq_true, beq_iff_eq, beq_eq_false_iff_ne, bne_iff_ne, ne_eq, if_true, if_false, Int.toNat_natCast, Bool.false_eq_true, nb12, nb21, nb14, nb24, nb42, nb41, terms_eq, flds_eq, at_get hlt, nm_eq, val_eq, q1, q2, q3, hw]
    rw [if_pos (by omega), if_pos (by omega)]
    simp only [List.append_assoc]
theorem put_v2_terms (E : T → List UInt8) (ts : List T) (hl : ts.length ≤ 1000) (hok : ∀ t ∈ ts, okK t ∧ (tx t).size ≤ 1000 ∧ (flds t).length ≤ 1000 ∧ ∀ f ∈ flds t, (nm f).size ≤ 1000)
    (hE : ∀ t ∈ ts, kd t = 4 → ∀ f ∈ flds t, ∀ b : List T, b.length + (E (val f)).length ≤ 9000000 → Dz i_code_put_v2 none [A.t (val f), A.t (T.node b)] (1, [A.t (T.node (b ++ tb (E (val f))))])) : ∀ (k j : Nat) (b : List T), j + k = ts.length → b.length + ((ts.drop j).flatMap (encT E)).length ≤ 9000000 →
    Dz i_code_put_v2 (some p_code_put_v2_c1) [A.t (T.node b), A.t (T.node ts), A.t (T.int (ts.length : Nat)), A.t (T.int j)] (2, [A.t (T.node (b ++ tb ((ts.drop j).flatMap (encT E))))]) := by
  intro k
  induction k with
  | zero =>
    intro j b hj hb
    refine Does.now fun m => ?_
    rw [q_code_put_v2_c1, List.drop_of_length_le (by omega)]
    simp only [num_int, tf_bool, txt_str, kids_node, tree_t, aAt_zero, aAt_succ, Option.map_some, Option.bind_some, Nat.beq_refl, Bool.cond_eq_ite, decide_eq_true_eq, decide_eq_false_iff_not, Bool.and_eq_true, Bool.or_eq_true, beq_iff_eq, beq_eq_false_iff_ne, bne_iff_ne, ne_eq, if_true, if_false, Int.toNat_natCast, Bool.false_eq_true, nb12, nb21, nb14, nb24, nb42, nb41, terms_eq, flds_eq]
    rw [if_neg (by omega)]
    show _ = some (2, [A.t (T.node (b ++ []))])
    rw [List.append_nil]
  | succ k ih =>
    intro j b hj hb
    have hlt : j < ts.length := by omega
    have hm := List.getElem_mem hlt
    obtain ⟨⟨k1, k5, kb⟩, htx, hfl, hnm⟩ := hok _ hm
    have hEt := hE _ hm
    have hw : IntKind.i64.wrap ((j : Int) + 1) = ((j + 1 : Nat) : Int) := i64succ (by omega)
    have hmk := markN_lt ts[j] k5
    rw [flat_drop _ hlt] at hb ⊢
    rw [List.length_append] at hb
    have hib : (b ++ tb (encT E ts[j])).length + ((ts.drop (j + 1)).flatMap (encT E)).length ≤ 9000000 := by rw [List.length_append, tb_len]; omega
    obtain ⟨n2, h2⟩ := ih (j + 1) (b ++ tb (encT E ts[j])) (by omega) hib
    have hlen : (encT E ts[j]).length ≤ 9000000 - b.length := by omega
    rw [encT, List.length_append] at hlen
    obtain ⟨n0, h0⟩ := (mark_does ts[j] k1 k5).both (vput_does b (markN ts[j]) (by omega) (by omega))
    have kk : kd ts[j] = 1 ∨ kd ts[j] = 2 ∨ kd ts[j] = 3 ∨ kd ts[j] = 4 ∨ kd ts[j] = 5 := by omega
    have h12 : kd ts[j] = 1 ∨ kd ts[j] = 2 → Dz i_code_put_v2 (some p_code_put_v2_c1) [A.t (T.node b), A.t (T.node ts), A.t (T.int (ts.length : Nat)), A.t (T.int j)] (2, [A.t (T.node (b ++ tb (encT E ts[j] ++ (ts.drop (j + 1)).flatMap (encT E))))]) := by
      intro hk
      obtain ⟨⟨l1, l2⟩, g1, g2⟩ := kb hk
      have hbody : bodyT E ts[j] = numB (signN (lo ts[j])) ++ numB (signN (hi ts[j])) := if_pos hk
      rw [hbody, List.length_append] at hlen
      obtain ⟨n3, h3⟩ := (putint_does (b ++ tb (numB (markN ts[j]))) (lo ts[j]) l1 l2 (by rw [List.length_append, tb_len]; omega)).both (putint_does (b ++ tb (numB (markN ts[j])) ++ tb (numB (signN (lo ts[j])))) (hi ts[j]) g1 g2 (by rw [List.length_append, List.length_append, tb_len, tb_len]; omega))
      refine Does.of (n0 + n2 + n3) fun m hm => ?_
      obtain ⟨q1, q2⟩ := h0 m (by omega)
      obtain ⟨q4, q5⟩ := h3 m (by omega)
      have q3 := h2 m (by omega)
      rw [encT, hbody] at q3 ⊢
      simp only [tb_app, List.append_assoc] at q3 q5 ⊢
      rw [q_code_put_v2_c1]
      rcases hk with hk | hk <;>
      (simp only [kids_node, num_int, Int.toNat_natCast, at_get hlt, kd_eq, lo_eq, hi_eq, q1, q2, hk, Option.map_some, Option.bind_some, aAt_zero, tree_t, q4, List.append_assoc, q5, hw, q3]
       simp only [num_int, tf_bool, txt_str, kids_node, tree_t, aAt_zero, aAt_succ, Option.map_some, Option.bind_some, Nat.beq_refl, Bool.cond_eq_ite, decide_eq_true_eq, decide_eq_false_iff_not, Bool.and_eq_true, Bool.or_eq_true, beq_iff_eq, beq_eq_false_iff_ne, bne_iff_ne, ne_eq, if_true, if_false, Int.toNat_natCast, Bool.false_eq_true, nb12, nb21, nb14, nb24, nb42, nb41, terms_eq, flds_eq]
       repeat (first | rw [if_pos (by omega)] | rw [if_neg (by omega)]))
    rcases kk with hk | hk | hk | hk | hk
    · exact h12 (.inl hk)
    · exact h12 (.inr hk)
    · have hbody : bodyT E ts[j] = textB (tx ts[j]) := by rw [bodyT, if_neg (by omega), if_pos hk]
      obtain ⟨n3, h3⟩ := puttext_v2_does (b ++ tb (numB (markN ts[j]))) (tx ts[j]) htx (by rw [List.length_append, tb_len]; omega)
      refine Does.of (n0 + n2 + n3) fun m hm => ?_
      obtain ⟨q1, q2⟩ := h0 m (by omega)
      have q4 := h3 m (by omega)
      have q3 := h2 m (by omega)
      rw [encT, hbody] at q3 ⊢
      simp only [tb_app, List.append_assoc] at q3 q4 ⊢
      rw [q_code_put_v2_c1]
      simp only [kids_node, num_int, Int.toNat_natCast, at_get hlt, kd_eq, tx_eq, q1, q2, hk, Option.map_some, Option.bind_some, aAt_zero, tree_t, q4, List.append_assoc, hw, q3]
      simp only [num_int, tf_bool, txt_str, kids_node, tree_t, aAt_zero, aAt_succ, Option.map_some, Option.bind_some, Nat.beq_refl, Bool.cond_eq_ite, decide_eq_true_eq, decide_eq_false_iff_not, Bool.and_eq_true, Bool.or_eq_true, beq_iff_eq, beq_eq_false_iff_ne, bne_iff_ne, ne_eq, if_true, if_false, Int.toNat_natCast, Bool.false_eq_true, nb12, nb21, nb14, nb24, nb42, nb41, terms_eq, flds_eq]
      repeat (first | rw [if_pos (by omega)] | rw [if_neg (by omega)])
    · have hbody : bodyT E ts[j] = numB (flds ts[j]).length ++ (flds ts[j]).flatMap (fldB E) := by rw [bodyT, if_neg (by omega), if_neg (by omega), if_pos hk]
      rw [hbody, List.length_append] at hlen
      obtain ⟨n3, h3⟩ := vput_v2_does (b ++ tb (numB (markN ts[j]))) (flds ts[j]).length (by omega) (by rw [List.length_append, tb_len]; omega)
      obtain ⟨n4, h4⟩ := put_v2_flds E (flds ts[j]) ts (ts.length : Nat) j hfl hnm (hEt hk) (flds ts[j]).length 0 (b ++ tb (numB (markN ts[j])) ++ tb (numB (flds ts[j]).length)) (by omega) (by rw [List.length_append, List.length_append, tb_len, tb_len, List.drop_zero]; omega)
      refine Does.of (n0 + n2 + n3 + n4) fun m hm => ?_
      obtain ⟨q1, q2⟩ := h0 m (by omega)
      have q4 := h3 m (by omega)
      have q5 : den Tryd.prog G0 ents m i_code_put_v2 (some p_code_put_v2_c2) [A.t (T.node (b ++ tb (numB (markN ts[j])) ++ tb (numB (flds ts[j]).length))), A.t (T.node ts), A.t (T.int (ts.length : Nat)), A.t (T.int j), A.t (T.node (flds ts[j])), A.t (T.int ((flds ts[j]).length : Nat)), A.t (T.int 0)] = _ := h4 m (by omega)
      rw [List.drop_zero] at q5
      have q3 := h2 m (by omega)
      rw [encT, hbody] at q3 ⊢
      simp only [tb_app, List.append_assoc] at q3 q4 q5 ⊢
      have hu : IntKind.u64.wrap (((flds ts[j]).length : Nat) : Int) = (((flds ts[j]).length : Nat) : Int) := by rw [wu64, Nat.mod_eq_of_lt (by omega)]
      rw [q_code_put_v2_c1]
      simp only [kids_node, num_int, Int.toNat_natCast, at_get hlt, kd_eq, flds_eq, q1, q2, hk, hu, Option.map_some, Option.bind_some, aAt_zero, aAt_succ, tree_t, q4, q5, List.append_assoc, hw, q3]
      simp only [num_int, tf_bool, txt_str, kids_node, tree_t, aAt_zero, aAt_succ, Option.map_some, Option.bind_some, Nat.beq_refl, Bool.cond_eq_ite, decide_eq_true_eq, decide_eq_false_iff_not, Bool.and_eq_true, Bool.or_eq_true, beq_iff_eq, beq_eq_false_iff_ne, bne_iff_ne, ne_eq, if_true, if_false, Int.toNat_natCast, Bool.false_eq_true, nb12, nb21, nb14, nb24, nb42, nb41, terms_eq, flds_eq, q3, hw]
      repeat (first | rw [if_pos (by omega)] | rw [if_neg (by omega)])
    · have hbody : bodyT E ts[j] = [] := by rw [bodyT, if_neg (by omega), if_neg (by omega), if_neg (by omega)]
      refine Does.of (n0 + n2) fun m hm => ?_
      obtain ⟨q1, q2⟩ := h0 m (by omega)
      have q3 := h2 m (by omega)
      rw [encT, hbody, List.append_nil] at q3 ⊢
      simp only [tb_app, List.append_assoc] at q3 ⊢
      rw [q_code_put_v2_c1]
      simp only [kids_node, num_int, Int.toNat_natCast, at_get hlt, kd_eq, q1, q2, hk, Option.map_some, Option.bind_some, aAt_zero, tree_t, List.append_assoc, hw, q3]
      simp only [num_int, tf_bool, txt_str, kids_node, tree_t, aAt_zero, aAt_succ, Option.map_some, Option.bind_some, Nat.beq_refl, Bool.cond_eq_ite, decide_eq_true_eq, decide_eq_false_iff_not, Bool.and_eq_true, Bool.or_eq_true, beq_iff_eq, beq_eq_false_iff_ne, bne_iff_ne, ne_eq, if_true, if_false, Int.toNat_natCast, Bool.false_eq_true, nb12, nb21, nb14, nb24, nb42, nb41, terms_eq, flds_eq]
      repeat (first | rw [if_pos (by omega)] | rw [if_neg (by omega)])
theorem put_v2_does : ∀ (d : Nat) (v : T) (b : List T), Sm d v → EV d v → b.length + (encV d v).length ≤ 9000000 → Dz i_code_put_v2 none [A.t v, A.t (T.node b)] (1, [A.t (T.node (b ++ tb (encV d v)))])
  | 0, v, b, h, _, _ => h.1.elim
  | d + 1, v, b, h, hev, hb => by
    have he := hev
    have hts := h.terms
    have he' := he
    obtain ⟨n0, h0⟩ := vput_v2_does b (terms v).length (by omega) (by omega)
    have hE : ∀ t ∈ terms v, kd t = 4 → ∀ f ∈ flds t, ∀ b : List T, b.length + (encV d (val f)).length ≤ 9000000 → Dz i_code_put_v2 none [A.t (val f), A.t (T.node b)] (1, [A.t (T.node (b ++ tb (encV d (val f))))]) := fun t ht h4 f hf b hb => put_v2_does d (val f) b (h.sub ht hf) ((hev t ht).2 h4 f hf) hb
    rw [encV, List.length_append] at hb
    obtain ⟨n1, h1⟩ := put_v2_terms (encV d) (terms v) (by omega) (fun t ht => ⟨(hev t ht).1, by have := (h.1 t ht).2.1; exact Nat.le_trans this (by omega), by have := h.flds ht; omega, fun f hf => by have := ((h.1 t ht).2.2 f hf).1; omega⟩) hE (terms v).length 0 (b ++ tb (numB (terms v).length)) (by omega) (by rw [List.length_append, tb_len, List.drop_zero]; omega)
    refine Does.of (n0 + n1) fun m hm => ?_
    have q1 := h0 m (by omega)
    have q2 : den Tryd.prog G0 ents m i_code_put_v2 (some p_code_put_v2_c1) [A.t (T.node (b ++ tb (numB (terms v).length))), A.t (T.node (terms v)), A.t (T.int ((terms v).length : Nat)), A.t (T.int 0)] = _ := h1 m (by omega)
    rw [List.drop_zero] at q2
    have hu : IntKind.u64.wrap (((terms v).length : Nat) : Int) = (((terms v).length : Nat) : Int) := by rw [wu64, Nat.mod_eq_of_lt (by omega)]
    rw [q_code_put_v2]
    simp only [num_int, tf_bool, txt_str, kids_node, tree_t, aAt_zero, aAt_succ, Option.map_some, Option.bind_some, Nat.beq_refl, Bool.cond_eq_ite, decide_eq_true_eq, decide_eq_false_iff_not, Bool.and_eq_true, Bool.or_eq_true, beq_iff_eq, beq_eq_false_iff_ne, bne_iff_ne, ne_eq, if_true, if_false, Int.toNat_natCast, Bool.false_eq_true, nb12, nb21, nb14, nb24, nb42, nb41, terms_eq, flds_eq, hu, q1, q2]
    rw [encV, tb_app, List.append_assoc]
theorem put_flds (E : T → List UInt8) (fl ts : List T) (n1 i : Int) (hl : fl.length ≤ 1000) (hf : ∀ f ∈ fl, (nm f).size ≤ 1000) (hE : ∀ f ∈ fl, ∀ b : List T, b.length + (E (val f)).length ≤ 9000000 → Dz i_code_put_v2 none [A.t (val f), A.t (T.node b)] (1, [A.t (T.node (b ++ tb (E (val f))))])) : ∀ (k j : Nat) (b : List T), j + k = fl.length → b.length + ((fl.drop j).flatMap (fldB E)).length ≤ 9000000 →
    Dz i_code_put (some p_code_put_c2) [A.t (T.node b), A.t (T.node ts), A.t (T.int n1), A.t (T.int i), A.t (T.node fl), A.t (T.int (fl.length : Nat)), A.t (T.int j)] (5, [A.t (T.node (b ++ tb ((fl.drop j).flatMap (fldB E)))), A.t (T.node ts), A.t (T.int n1), A.t (T.int i)]) := by
  intro k
  induction k with
  | zero =>
    intro j b hj hb
    refine Does.now fun m => ?_
    rw [q_code_put_c2, List.drop_of_length_le (by omega)]
    simp only [num_int, tf_bool, txt_str, kids_node, tree_t, aAt_zero, aAt_succ, Option.map_some, Option.bind_some, Nat.beq_refl, Bool.cond_eq_ite, decide_eq_true_eq, decide_eq_false_iff_not, Bool.and_eq_true, Bool.or_eq_true, beq_iff_eq, beq_eq_false_iff_ne, bne_iff_ne, ne_eq, if_true, if_false, Int.toNat_natCast, Bool.false_eq_true, nb12, nb21, nb14, nb24, nb42, nb41, terms_eq, flds_eq]
    rw [if_neg (by omega)]
    show _ = some (5, [A.t (T.node (b ++ [])), _, _, _])
    rw [List.append_nil]
  | succ k ih =>
    intro j b hj hb
    have hlt : j < fl.length := by omega
    have hm := List.getElem_mem hlt
    have hs := hf _ hm
    have hw : IntKind.i64.wrap ((j : Int) + 1) = ((j + 1 : Nat) : Int) := i64succ (by omega)
    rw [flat_drop _ hlt, fldB, List.append_assoc, tb_app, tb_app] at *
    rw [List.length_append, List.length_append] at hb
    obtain ⟨n0, h0⟩ := (puttext_does b (nm fl[j]) hs (by omega)).both (hE _ hm (b ++ tb (textB (nm fl[j]))) (by rw [List.length_append, tb_len]; omega))
    obtain ⟨n2, h2⟩ := ih (j + 1) (b ++ tb (textB (nm fl[j])) ++ tb (E (val fl[j]))) (by omega) (by rw [List.length_append, List.length_append, tb_len, tb_len]; omega)
    refine Does.of (n0 + n2) fun m hm => ?_
    obtain ⟨q1, q2⟩ := h0 m (by omega)
    have q3 := h2 m (by omega)
    rw [q_code_put_c2]
    simp only [num_int, tf_bool, txt_str, kids_node, tree_t, aAt_zero, aAt_succ, Option.map_some, Option.bind_some, Nat.beq_refl, Bool.cond_eq_ite, decide_eq_true_eq, decide_eq_false_iff_not, Bool.and_eq_true, Bool.or_eq_true, beq_iff_eq, beq_eq_false_iff_ne, bne_iff_ne, ne_eq, if_true, if_false, Int.toNat_natCast, Bool.false_eq_true, nb12, nb21, nb14, nb24, nb42, nb41, terms_eq, flds_eq, at_get hlt, nm_eq, val_eq, q1, q2, q3, hw]
    rw [if_pos (by omega), if_pos (by omega)]
    simp only [List.append_assoc]
theorem put_terms (E : T → List UInt8) (ts : List T) (hl : ts.length ≤ 1000) (hok : ∀ t ∈ ts, okK t ∧ (tx t).size ≤ 1000 ∧ (flds t).length ≤ 1000 ∧ ∀ f ∈ flds t, (nm f).size ≤ 1000)
    (hE : ∀ t ∈ ts, kd t = 4 → ∀ f ∈ flds t, ∀ b : List T, b.length + (E (val f)).length ≤ 9000000 → Dz i_code_put_v2 none [A.t (val f), A.t (T.node b)] (1, [A.t (T.node (b ++ tb (E (val f))))])) : ∀ (k j : Nat) (b : List T), j + k = ts.length → b.length + ((ts.drop j).flatMap (encT E)).length ≤ 9000000 →
    Dz i_code_put (some p_code_put_c1) [A.t (T.node b), A.t (T.node ts), A.t (T.int (ts.length : Nat)), A.t (T.int j)] (2, [A.t (T.node (b ++ tb ((ts.drop j).flatMap (encT E))))]) := by
  intro k
  induction k with
  | zero =>
    intro j b hj hb
    refine Does.now fun m => ?_
    rw [q_code_put_c1, List.drop_of_length_le (by omega)]
    simp only [num_int, tf_bool, txt_str, kids_node, tree_t, aAt_zero, aAt_succ, Option.map_some, Option.bind_some, Nat.beq_refl, Bool.cond_eq_ite, decide_eq_true_eq, decide_eq_false_iff_not, Bool.and_eq_true, Bool.or_eq_true, beq_iff_eq, beq_eq_false_iff_ne, bne_iff_ne, ne_eq, if_true, if_false, Int.toNat_natCast, Bool.false_eq_true, nb12, nb21, nb14, nb24, nb42, nb41, terms_eq, flds_eq]
    rw [if_neg (by omega)]
    show _ = some (2, [A.t (T.node (b ++ []))])
    rw [List.append_nil]
  | succ k ih =>
    intro j b hj hb
    have hlt : j < ts.length := by omega
    have hm := List.getElem_mem hlt
    obtain ⟨⟨k1, k5, kb⟩, htx, hfl, hnm⟩ := hok _ hm
    have hEt := hE _ hm
    have hw : IntKind.i64.wrap ((j : Int) + 1) = ((j + 1 : Nat) : Int) := i64succ (by omega)
    have hmk := markN_lt ts[j] k5
    rw [flat_drop _ hlt] at hb ⊢
    rw [List.length_append] at hb
    have hib : (b ++ tb (encT E ts[j])).length + ((ts.drop (j + 1)).flatMap (encT E)).length ≤ 9000000 := by rw [List.length_append, tb_len]; omega
    obtain ⟨n2, h2⟩ := ih (j + 1) (b ++ tb (encT E ts[j])) (by omega) hib
    have hlen : (encT E ts[j]).length ≤ 9000000 - b.length := by omega
    rw [encT, List.length_append] at hlen
    obtain ⟨n0, h0⟩ := (mark_does ts[j] k1 k5).both (vput_does b (markN ts[j]) (by omega) (by omega))
    have kk : kd ts[j] = 1 ∨ kd ts[j] = 2 ∨ kd ts[j] = 3 ∨ kd ts[j] = 4 ∨ kd ts[j] = 5 := by omega
    have h12 : kd ts[j] = 1 ∨ kd ts[j] = 2 → Dz i_code_put (some p_code_put_c1) [A.t (T.node b), A.t (T.node ts), A.t (T.int (ts.length : Nat)), A.t (T.int j)] (2, [A.t (T.node (b ++ tb (encT E ts[j] ++ (ts.drop (j + 1)).flatMap (encT E))))]) := by
      intro hk
      obtain ⟨⟨l1, l2⟩, g1, g2⟩ := kb hk
      have hbody : bodyT E ts[j] = numB (signN (lo ts[j])) ++ numB (signN (hi ts[j])) := if_pos hk
      rw [hbody, List.length_append] at hlen
      obtain ⟨n3, h3⟩ := (putint_does (b ++ tb (numB (markN ts[j]))) (lo ts[j]) l1 l2 (by rw [List.length_append, tb_len]; omega)).both (putint_does (b ++ tb (numB (markN ts[j])) ++ tb (numB (signN (lo ts[j])))) (hi ts[j]) g1 g2 (by rw [List.length_append, List.length_append, tb_len, tb_len]; omega))
      refine Does.of (n0 + n2 + n3) fun m hm => ?_
      obtain ⟨q1, q2⟩ := h0 m (by omega)
      obtain ⟨q4, q5⟩ := h3 m (by omega)
      have q3 := h2 m (by omega)
      rw [encT, hbody] at q3 ⊢
      simp only [tb_app, List.append_assoc] at q3 q5 ⊢
      rw [q_code_put_c1]
      rcases hk with hk | hk <;>
      (simp only [kids_node, num_int, Int.toNat_natCast, at_get hlt, kd_eq, lo_eq, hi_eq, q1, q2, hk, Option.map_some, Option.bind_some, aAt_zero, tree_t, q4, List.append_assoc, q5, hw, q3]
       simp only [num_int, tf_bool, txt_str, kids_node, tree_t, aAt_zero, aAt_succ, Option.map_some, Option.bind_some, Nat.beq_refl, Bool.cond_eq_ite, decide_eq_true_eq, decide_eq_false_iff_not, Bool.and_eq_true, Bool.or_eq_true, beq_iff_eq, beq_eq_false_iff_ne, bne_iff_ne, ne_eq, if_true, if_false, Int.toNat_natCast, Bool.false_eq_true, nb12, nb21, nb14, nb24, nb42, nb41, terms_eq, flds_eq]
       repeat (first | rw [if_pos (by omega)] | rw [if_neg (by omega)]))
    rcases kk with hk | hk | hk | hk | hk
    · exact h12 (.inl hk)
    · exact h12 (.inr hk)
    · have hbody : bodyT E ts[j] = textB (tx ts[j]) := by rw [bodyT, if_neg (by omega), if_pos hk]
      obtain ⟨n3, h3⟩ := puttext_v2_does (b ++ tb (numB (markN ts[j]))) (tx ts[j]) htx (by rw [List.length_append, tb_len]; omega)
      refine Does.of (n0 + n2 + n3) fun m hm => ?_
      obtain ⟨q1, q2⟩ := h0 m (by omega)
      have q4 := h3 m (by omega)
      have q3 := h2 m (by omega)
      rw [encT, hbody] at q3 ⊢
      simp only [tb_app, List.append_assoc] at q3 q4 ⊢
      rw [q_code_put_c1]
      simp only [kids_node, num_int, Int.toNat_natCast, at_get hlt, kd_eq, tx_eq, q1, q2, hk, Option.map_some, Option.bind_some, aAt_zero, tree_t, q4, List.append_assoc, hw, q3]
      simp only [num_int, tf_bool, txt_str, kids_node, tree_t, aAt_zero, aAt_succ, Option.map_some, Option.bind_some, Nat.beq_refl, Bool.cond_eq_ite, decide_eq_true_eq, decide_eq_false_iff_not, Bool.and_eq_true, Bool.or_eq_true, beq_iff_eq, beq_eq_false_iff_ne, bne_iff_ne, ne_eq, if_true, if_false, Int.toNat_natCast, Bool.false_eq_true, nb12, nb21, nb14, nb24, nb42, nb41, terms_eq, flds_eq]
      repeat (first | rw [if_pos (by omega)] | rw [if_neg (by omega)])
    · have hbody : bodyT E ts[j] = numB (flds ts[j]).length ++ (flds ts[j]).flatMap (fldB E) := by rw [bodyT, if_neg (by omega), if_neg (by omega), if_pos hk]
      rw [hbody, List.length_append] at hlen
      obtain ⟨n3, h3⟩ := vput_v2_does (b ++ tb (numB (markN ts[j]))) (flds ts[j]).length (by omega) (by rw [List.length_append, tb_len]; omega)
      obtain ⟨n4, h4⟩ := put_flds E (flds ts[j]) ts (ts.length : Nat) j hfl hnm (hEt hk) (flds ts[j]).length 0 (b ++ tb (numB (markN ts[j])) ++ tb (numB (flds ts[j]).length)) (by omega) (by rw [List.length_append, List.length_append, tb_len, tb_len, List.drop_zero]; omega)
      refine Does.of (n0 + n2 + n3 + n4) fun m hm => ?_
      obtain ⟨q1, q2⟩ := h0 m (by omega)
      have q4 := h3 m (by omega)
      have q5 : den Tryd.prog G0 ents m i_code_put (some p_code_put_c2) [A.t (T.node (b ++ tb (numB (markN ts[j])) ++ tb (numB (flds ts[j]).length))), A.t (T.node ts), A.t (T.int (ts.length : Nat)), A.t (T.int j), A.t (T.node (flds ts[j])), A.t (T.int ((flds ts[j]).length : Nat)), A.t (T.int 0)] = _ := h4 m (by omega)
      rw [List.drop_zero] at q5
      have q3 := h2 m (by omega)
      rw [encT, hbody] at q3 ⊢
      simp only [tb_app, List.append_assoc] at q3 q4 q5 ⊢
      have hu : IntKind.u64.wrap (((flds ts[j]).length : Nat) : Int) = (((flds ts[j]).length : Nat) : Int) := by rw [wu64, Nat.mod_eq_of_lt (by omega)]
      rw [q_code_put_c1]
      simp only [kids_node, num_int, Int.toNat_natCast, at_get hlt, kd_eq, flds_eq, q1, q2, hk, hu, Option.map_some, Option.bind_some, aAt_zero, aAt_succ, tree_t, q4, q5, List.append_assoc, hw, q3]
      simp only [num_int, tf_bool, txt_str, kids_node, tree_t, aAt_zero, aAt_succ, Option.map_some, Option.bind_some, Nat.beq_refl, Bool.cond_eq_ite, decide_eq_true_eq, decide_eq_false_iff_not, Bool.and_eq_true, Bool.or_eq_true, beq_iff_eq, beq_eq_false_iff_ne, bne_iff_ne, ne_eq, if_true, if_false, Int.toNat_natCast, Bool.false_eq_true, nb12, nb21, nb14, nb24, nb42, nb41, terms_eq, flds_eq, q3, hw]
      repeat (first | rw [if_pos (by omega)] | rw [if_neg (by omega)])
    · have hbody : bodyT E ts[j] = [] := by rw [bodyT, if_neg (by omega), if_neg (by omega), if_neg (by omega)]
      refine Does.of (n0 + n2) fun m hm => ?_
      obtain ⟨q1, q2⟩ := h0 m (by omega)
      have q3 := h2 m (by omega)
      rw [encT, hbody, List.append_nil] at q3 ⊢
      simp only [tb_app, List.append_assoc] at q3 ⊢
      rw [q_code_put_c1]
      simp only [kids_node, num_int, Int.toNat_natCast, at_get hlt, kd_eq, q1, q2, hk, Option.map_some, Option.bind_some, aAt_zero, tree_t, List.append_assoc, hw, q3]
      simp only [num_int, tf_bool, txt_str, kids_node, tree_t, aAt_zero, aAt_succ, Option.map_some, Option.bind_some, Nat.beq_refl, Bool.cond_eq_ite, decide_eq_true_eq, decide_eq_false_iff_not, Bool.and_eq_true, Bool.or_eq_true, beq_iff_eq, beq_eq_false_iff_ne, bne_iff_ne, ne_eq, if_true, if_false, Int.toNat_natCast, Bool.false_eq_true, nb12, nb21, nb14, nb24, nb42, nb41, terms_eq, flds_eq]
      repeat (first | rw [if_pos (by omega)] | rw [if_neg (by omega)])
theorem put_does (d : Nat) (v : T) (b : List T) (h : Sm (d + 1) v) (hev : EV (d + 1) v) (hb : b.length + (encV (d + 1) v).length ≤ 9000000) : Dz i_code_put none [A.t (T.node b), A.t v] (1, [A.t (T.node (b ++ tb (encV (d + 1) v)))]) := by
    have he := hev
    have hts := h.terms
    have he' := he
    obtain ⟨n0, h0⟩ := vput_does b (terms v).length (by omega) (by omega)
    have hE : ∀ t ∈ terms v, kd t = 4 → ∀ f ∈ flds t, ∀ b : List T, b.length + (encV d (val f)).length ≤ 9000000 → Dz i_code_put_v2 none [A.t (val f), A.t (T.node b)] (1, [A.t (T.node (b ++ tb (encV d (val f))))]) := fun t ht h4 f hf b hb => put_v2_does d (val f) b (h.sub ht hf) ((hev t ht).2 h4 f hf) hb
    rw [encV, List.length_append] at hb
    obtain ⟨n1, h1⟩ := put_terms (encV d) (terms v) (by omega) (fun t ht => ⟨(hev t ht).1, by have := (h.1 t ht).2.1; exact Nat.le_trans this (by omega), by have := h.flds ht; omega, fun f hf => by have := ((h.1 t ht).2.2 f hf).1; omega⟩) hE (terms v).length 0 (b ++ tb (numB (terms v).length)) (by omega) (by rw [List.length_append, tb_len, List.drop_zero]; omega)
    refine Does.of (n0 + n1) fun m hm => ?_
    have q1 := h0 m (by omega)
    have q2 : den Tryd.prog G0 ents m i_code_put (some p_code_put_c1) [A.t (T.node (b ++ tb (numB (terms v).length))), A.t (T.node (terms v)), A.t (T.int ((terms v).length : Nat)), A.t (T.int 0)] = _ := h1 m (by omega)
    rw [List.drop_zero] at q2
    have hu : IntKind.u64.wrap (((terms v).length : Nat) : Int) = (((terms v).length : Nat) : Int) := by rw [wu64, Nat.mod_eq_of_lt (by omega)]
    rw [q_code_put]
    simp only [num_int, tf_bool, txt_str, kids_node, tree_t, aAt_zero, aAt_succ, Option.map_some, Option.bind_some, Nat.beq_refl, Bool.cond_eq_ite, decide_eq_true_eq, decide_eq_false_iff_not, Bool.and_eq_true, Bool.or_eq_true, beq_iff_eq, beq_eq_false_iff_ne, bne_iff_ne, ne_eq, if_true, if_false, Int.toNat_natCast, Bool.false_eq_true, nb12, nb21, nb14, nb24, nb42, nb41, terms_eq, flds_eq, hu, q1, q2]
    rw [encV, tb_app, List.append_assoc]
def encR (v : T) : Nat × List A := if refV 20 v then (1, [A.t (T.str (sb (encV 20 v))), A.t (T.int 0)]) else (1, [A.t (T.str emptyB), A.t (T.int 1)])
theorem refV_EV {v : T} (h : refV 20 v = true) : EV 20 v := by
  rw [refV_eq, Bool.and_eq_true] at h
  exact okV_EV 20 v h.1
theorem encV_bound {v : T} (h : Sm 20 v) : (encV 20 v).length ≤ 5000000 := by
  have := encV_len 20 v h.1
  have := h.2
  omega
theorem encode_does {v : T} (h : Sm 20 v) : Dz i_code_Encode none [A.t v] (encR v) := by
  obtain ⟨n0, h0⟩ := lright_does h
  unfold encR
  cases hr : refV 20 v with
  | false =>
    rw [hr] at h0
    refine Does.of n0 fun m hm => ?_
    rw [q_code_Encode]
    simp only [num_int, tf_bool, txt_str, kids_node, tree_t, aAt_zero, aAt_succ, Option.map_some, Option.bind_some, Nat.beq_refl, Bool.cond_eq_ite, decide_eq_true_eq, decide_eq_false_iff_not, Bool.and_eq_true, Bool.or_eq_true, beq_iff_eq, beq_eq_false_iff_ne, bne_iff_ne, ne_eq, if_true, if_false, Int.toNat_natCast, Bool.false_eq_true, nb12, nb21, nb14, nb24, nb42, nb41, terms_eq, flds_eq, h0 m hm, Bool.not_false, eb_eq]
  | true =>
    rw [hr] at h0
    have hb := encV_bound h
    obtain ⟨n1, h1⟩ := put_does 19 v [] h (refV_EV hr) (by simp; omega)
    refine Does.of (n0 + n1) fun m hm => ?_
    rw [q_code_Encode]
    simp only [num_int, tf_bool, txt_str, kids_node, tree_t, aAt_zero, aAt_succ, Option.map_some, Option.bind_some, Nat.beq_refl, Bool.cond_eq_ite, decide_eq_true_eq, decide_eq_false_iff_not, Bool.and_eq_true, Bool.or_eq_true, beq_iff_eq, beq_eq_false_iff_ne, bne_iff_ne, ne_eq, if_true, if_false, Int.toNat_natCast, Bool.false_eq_true, nb12, nb21, nb14, nb24, nb42, nb41, terms_eq, flds_eq, h0 m (by omega), h1 m (by omega), Bool.not_true, List.nil_append, bytesT_tb]
end Go.Proofs.YtpfglhjgjfhkjaaDoorCP
namespace Go.Proofs.YtpfglhjgjfhkjaaDoorCP
open Go Go.Proofs.YtpfglhjgjfhkjaaDoorVM
set_option linter.unusedVariables false
set_option linter.unusedSimpArgs false
set_option maxRecDepth 100000

/-! ### a value's bytes: the document's -/
theorem of_flds (E : T → List UInt8) (t : T) (i : Int) (v : T) (hl : (flds t).length ≤ 1000) (hf : ∀ f ∈ flds t, (nm f).size ≤ 1000) (hE : ∀ f ∈ flds t, Dz i_treillageref10_Of none [A.t (val f)] (1, [A.t (T.str (sb (E (val f))))])) : ∀ (k j : Nat) (b : List UInt8), j + k = (flds t).length → b.length + (((flds t).drop j).flatMap (fldB E)).length ≤ 9000000 →
    Dz i_treillageref10_Of (some p_treillageref10_Of_c2) [A.t (T.str (sb b)), A.t (T.int i), A.t (T.int j), A.t v, A.t t] (4, [A.t (T.str (sb (b ++ ((flds t).drop j).flatMap (fldB E)))), A.t (T.int i), A.t v]) := by
  intro k
  induction k with
  | zero =>
    intro j b hj hb
    refine Does.now fun m => ?_
    rw [q_treillageref10_Of_c2, List.drop_of_length_le (by omega), List.flatMap_nil, List.append_nil]
    simp only [num_int, tf_bool, txt_str, kids_node, tree_t, aAt_zero, aAt_succ, Option.map_some, Option.bind_some, Nat.beq_refl, Bool.cond_eq_ite, decide_eq_true_eq, decide_eq_false_iff_not, Bool.and_eq_true, Bool.or_eq_true, beq_iff_eq, beq_eq_false_iff_ne, bne_iff_ne, ne_eq, if_true, if_false, Int.toNat_natCast, Bool.false_eq_true, nb12, nb21, nb14, nb24, nb42, nb41, terms_eq, flds_eq]
    rw [if_neg (by omega)]
  | succ k ih =>
    intro j b hj hb
    have hlt : j < (flds t).length := by omega
    have hm := List.getElem_mem hlt
    have hs := hf _ hm
    have hw : IntKind.i64.wrap ((j : Int) + 1) = ((j + 1 : Nat) : Int) := i64succ (by omega)
    rw [flat_drop _ hlt, fldB, List.append_assoc] at *
    rw [List.length_append, List.length_append] at hb
    obtain ⟨n0, h0⟩ := (rtext_does (nm (flds t)[j]) hs).both (hE _ hm)
    obtain ⟨n2, h2⟩ := ih (j + 1) (b ++ textB (nm (flds t)[j]) ++ E (val (flds t)[j])) (by omega) (by rw [List.length_append, List.length_append]; omega)
    refine Does.of (n0 + n2) fun m hm => ?_
    obtain ⟨q1, q2⟩ := h0 m (by omega)
    have q3 := h2 m (by omega)
    rw [q_treillageref10_Of_c2]
    simp only [num_int, tf_bool, txt_str, kids_node, tree_t, aAt_zero, aAt_succ, Option.map_some, Option.bind_some, Nat.beq_refl, Bool.cond_eq_ite, decide_eq_true_eq, decide_eq_false_iff_not, Bool.and_eq_true, Bool.or_eq_true, beq_iff_eq, beq_eq_false_iff_ne, bne_iff_ne, ne_eq, if_true, if_false, Int.toNat_natCast, Bool.false_eq_true, nb12, nb21, nb14, nb24, nb42, nb41, terms_eq, flds_eq, at_get hlt, nm_eq, val_eq, q1, q2, q3, hw, sb_size, sb_app, List.length_append]
    repeat (first | rw [if_pos (by omega)] | rw [if_neg (by omega)])
    simp only [List.append_assoc]
def ofK (D : Nat → Option (List Bool) → List A → Option (Nat × List A)) (x0 x1 x2 : T) : List A → Option (Nat × List A) := (fun v0 => (bif (decide (((ByteArray.size (T.txt x0)) + (ByteArray.size (T.txt (A.tree (aAt v0 0))))) < 9223372036854775808)) then (bif (((T.num (T.get (tAtD (T.kids (T.get x2 0)) (Int.toNat (T.num x1))) 0)) == (1 : Int)) == false) then (bif ((T.num (T.get (tAtD (T.kids (T.get x2 0)) (Int.toNat (T.num x1))) 0)) == (2 : Int)) then (Option.bind (Option.map (fun v1 => v1.2) (D i_treillageref03_Sign none [(A.t (T.int (T.num (T.get (tAtD (T.kids (T.get x2 0)) (Int.toNat (T.num x1))) 1))))])) (fun v1 => (Option.bind (Option.map (fun v2 => v2.2) (D i_treillageref03_Num none [(A.t (T.int (T.num (A.tree (aAt v1 0)))))])) (fun v2 => (bif (decide (((ByteArray.size ((T.txt x0) ++ (T.txt (A.tree (aAt v0 0))))) + (ByteArray.size (T.txt (A.tree (aAt v2 0))))) < 9223372036854775808)) then (Option.bind (Option.map (fun v3 => v3.2) (D i_treillageref03_Sign none [(A.t (T.int (T.num (T.get (tAtD (T.kids (T.get x2 0)) (Int.toNat (T.num x1))) 2))))])) (fun v3 => (Option.bind (Option.map (fun v4 => v4.2) (D i_treillageref03_Num none [(A.t (T.int (T.num (A.tree (aAt v3 0)))))])) (fun v4 => (bif (decide (((ByteArray.size (((T.txt x0) ++ (T.txt (A.tree (aAt v0 0)))) ++ (T.txt (A.tree (aAt v2 0))))) + (ByteArray.size (T.txt (A.tree (aAt v4 0))))) < 9223372036854775808)) then (bif ((T.num (T.get (tAtD (T.kids (T.get x2 0)) (Int.toNat (T.num x1))) 0)) == (3 : Int)) then (Option.bind (Option.map (fun v5 => v5.2) (D i_treillageref03_Text none [(A.t (T.str (T.txt (T.get (tAtD (T.kids (T.get x2 0)) (Int.toNat (T.num x1))) 3))))])) (fun v5 => (bif (decide (((ByteArray.size ((((T.txt x0) ++ (T.txt (A.tree (aAt v0 0)))) ++ (T.txt (A.tree (aAt v2 0)))) ++ (T.txt (A.tree (aAt v4 0))))) + (ByteArray.size (T.txt (A.tree (aAt v5 0))))) < 9223372036854775808)) then (bif ((T.num (T.get (tAtD (T.kids (T.get x2 0)) (Int.toNat (T.num x1))) 0)) == (4 : Int)) then (Option.bind (Option.map (fun v6 => v6.2) (D i_treillageref03_Num none [(A.t (T.int (IntKind.wrap IntKind.u64 (((List.length (T.kids (T.get (tAtD (T.kids (T.get x2 0)) (Int.toNat (T.num x1))) 7))) : Nat) : Int))))])) (fun v6 => (bif (decide (((ByteArray.size (((((T.txt x0) ++ (T.txt (A.tree (aAt v0 0)))) ++ (T.txt (A.tree (aAt v2 0)))) ++ (T.txt (A.tree (aAt v4 0)))) ++ (T.txt (A.tree (aAt v5 0))))) + (ByteArray.size (T.txt (A.tree (aAt v6 0))))) < 9223372036854775808)) then (Option.bind (D i_treillageref10_Of (some p_treillageref10_Of_c2) [(A.t (T.str ((((((T.txt x0) ++ (T.txt (A.tree (aAt v0 0)))) ++ (T.txt (A.tree (aAt v2 0)))) ++ (T.txt (A.tree (aAt v4 0)))) ++ (T.txt (A.tree (aAt v5 0)))) ++ (T.txt (A.tree (aAt v6 0)))))), (A.t (T.int (T.num x1))), (A.t (T.int (0 : Int))), (A.t x2), (A.t (tAtD (T.kids (T.get x2 0)) (Int.toNat (T.num x1))))]) (fun v7 => (bif (Nat.beq v7.1 4) then (D i_treillageref10_Of (some p_treillageref10_Of_c1) [(A.t (T.str (T.txt (A.tree (aAt v7.2 0))))), (A.t (T.int (IntKind.wrap IntKind.i64 ((T.num (A.tree (aAt v7.2 1))) + (1 : Int))))), (A.t (A.tree (aAt v7.2 2)))]) else none))) else none))) else (D i_treillageref10_Of (some p_treillageref10_Of_c1) [(A.t (T.str (((((T.txt x0) ++ (T.txt (A.tree (aAt v0 0)))) ++ (T.txt (A.tree (aAt v2 0)))) ++ (T.txt (A.tree (aAt v4 0)))) ++ (T.txt (A.tree (aAt v5 0)))))), (A.t (T.int (IntKind.wrap IntKind.i64 ((T.num x1) + (1 : Int))))), (A.t x2)])) else none))) else (bif ((T.num (T.get (tAtD (T.kids (T.get x2 0)) (Int.toNat (T.num x1))) 0)) == (4 : Int)) then (Option.bind (Option.map (fun v5 => v5.2) (D i_treillageref03_Num none [(A.t (T.int (IntKind.wrap IntKind.u64 (((List.length (T.kids (T.get (tAtD (T.kids (T.get x2 0)) (Int.toNat (T.num x1))) 7))) : Nat) : Int))))])) (fun v5 => (bif (decide (((ByteArray.size ((((T.txt x0) ++ (T.txt (A.tree (aAt v0 0)))) ++ (T.txt (A.tree (aAt v2 0)))) ++ (T.txt (A.tree (aAt v4 0))))) + (ByteArray.size (T.txt (A.tree (aAt v5 0))))) < 9223372036854775808)) then (Option.bind (D i_treillageref10_Of (some p_treillageref10_Of_c2) [(A.t (T.str (((((T.txt x0) ++ (T.txt (A.tree (aAt v0 0)))) ++ (T.txt (A.tree (aAt v2 0)))) ++ (T.txt (A.tree (aAt v4 0)))) ++ (T.txt (A.tree (aAt v5 0)))))), (A.t (T.int (T.num x1))), (A.t (T.int (0 : Int))), (A.t x2), (A.t (tAtD (T.kids (T.get x2 0)) (Int.toNat (T.num x1))))]) (fun v6 => (bif (Nat.beq v6.1 4) then (D i_treillageref10_Of (some p_treillageref10_Of_c1) [(A.t (T.str (T.txt (A.tree (aAt v6.2 0))))), (A.t (T.int (IntKind.wrap IntKind.i64 ((T.num (A.tree (aAt v6.2 1))) + (1 : Int))))), (A.t (A.tree (aAt v6.2 2)))]) else none))) else none))) else (D i_treillageref10_Of (some p_treillageref10_Of_c1) [(A.t (T.str ((((T.txt x0) ++ (T.txt (A.tree (aAt v0 0)))) ++ (T.txt (A.tree (aAt v2 0)))) ++ (T.txt (A.tree (aAt v4 0)))))), (A.t (T.int (IntKind.wrap IntKind.i64 ((T.num x1) + (1 : Int))))), (A.t x2)]))) else none))))) else none))))) else (bif ((T.num (T.get (tAtD (T.kids (T.get x2 0)) (Int.toNat (T.num x1))) 0)) == (3 : Int)) then (Option.bind (Option.map (fun v1 => v1.2) (D i_treillageref03_Text none [(A.t (T.str (T.txt (T.get (tAtD (T.kids (T.get x2 0)) (Int.toNat (T.num x1))) 3))))])) (fun v1 => (bif (decide (((ByteArray.size ((T.txt x0) ++ (T.txt (A.tree (aAt v0 0))))) + (ByteArray.size (T.txt (A.tree (aAt v1 0))))) < 9223372036854775808)) then (bif ((T.num (T.get (tAtD (T.kids (T.get x2 0)) (Int.toNat (T.num x1))) 0)) == (4 : Int)) then (Option.bind (Option.map (fun v2 => v2.2) (D i_treillageref03_Num none [(A.t (T.int (IntKind.wrap IntKind.u64 (((List.length (T.kids (T.get (tAtD (T.kids (T.get x2 0)) (Int.toNat (T.num x1))) 7))) : Nat) : Int))))])) (fun v2 => (bif (decide (((ByteArray.size (((T.txt x0) ++ (T.txt (A.tree (aAt v0 0)))) ++ (T.txt (A.tree (aAt v1 0))))) + (ByteArray.size (T.txt (A.tree (aAt v2 0))))) < 9223372036854775808)) then (Option.bind (D i_treillageref10_Of (some p_treillageref10_Of_c2) [(A.t (T.str ((((T.txt x0) ++ (T.txt (A.tree (aAt v0 0)))) ++ (T.txt (A.tree (aAt v1 0)))) ++ (T.txt (A.tree (aAt v2 0)))))), (A.t (T.int (T.num x1))), (A.t (T.int (0 : Int))), (A.t x2), (A.t (tAtD (T.kids (T.get x2 0)) (Int.toNat (T.num x1))))]) (fun v3 => (bif (Nat.beq v3.1 4) then (D i_treillageref10_Of (some p_treillageref10_Of_c1) [(A.t (T.str (T.txt (A.tree (aAt v3.2 0))))), (A.t (T.int (IntKind.wrap IntKind.i64 ((T.num (A.tree (aAt v3.2 1))) + (1 : Int))))), (A.t (A.tree (aAt v3.2 2)))]) else none))) else none))) else (D i_treillageref10_Of (some p_treillageref10_Of_c1) [(A.t (T.str (((T.txt x0) ++ (T.txt (A.tree (aAt v0 0)))) ++ (T.txt (A.tree (aAt v1 0)))))), (A.t (T.int (IntKind.wrap IntKind.i64 ((T.num x1) + (1 : Int))))), (A.t x2)])) else none))) else (bif ((T.num (T.get (tAtD (T.kids (T.get x2 0)) (Int.toNat (T.num x1))) 0)) == (4 : Int)) then (Option.bind (Option.map (fun v1 => v1.2) (D i_treillageref03_Num none [(A.t (T.int (IntKind.wrap IntKind.u64 (((List.length (T.kids (T.get (tAtD (T.kids (T.get x2 0)) (Int.toNat (T.num x1))) 7))) : Nat) : Int))))])) (fun v1 => (bif (decide (((ByteArray.size ((T.txt x0) ++ (T.txt (A.tree (aAt v0 0))))) + (ByteArray.size (T.txt (A.tree (aAt v1 0))))) < 9223372036854775808)) then (Option.bind (D i_treillageref10_Of (some p_treillageref10_Of_c2) [(A.t (T.str (((T.txt x0) ++ (T.txt (A.tree (aAt v0 0)))) ++ (T.txt (A.tree (aAt v1 0)))))), (A.t (T.int (T.num x1))), (A.t (T.int (0 : Int))), (A.t x2), (A.t (tAtD (T.kids (T.get x2 0)) (Int.toNat (T.num x1))))]) (fun v2 => (bif (Nat.beq v2.1 4) then (D i_treillageref10_Of (some p_treillageref10_Of_c1) [(A.t (T.str (T.txt (A.tree (aAt v2.2 0))))), (A.t (T.int (IntKind.wrap IntKind.i64 ((T.num (A.tree (aAt v2.2 1))) + (1 : Int))))), (A.t (A.tree (aAt v2.2 2)))]) else none))) else none))) else (D i_treillageref10_Of (some p_treillageref10_Of_c1) [(A.t (T.str ((T.txt x0) ++ (T.txt (A.tree (aAt v0 0)))))), (A.t (T.int (IntKind.wrap IntKind.i64 ((T.num x1) + (1 : Int))))), (A.t x2)])))) else (Option.bind (Option.map (fun v1 => v1.2) (D i_treillageref03_Sign none [(A.t (T.int (T.num (T.get (tAtD (T.kids (T.get x2 0)) (Int.toNat (T.num x1))) 1))))])) (fun v1 => (Option.bind (Option.map (fun v2 => v2.2) (D i_treillageref03_Num none [(A.t (T.int (T.num (A.tree (aAt v1 0)))))])) (fun v2 => (bif (decide (((ByteArray.size ((T.txt x0) ++ (T.txt (A.tree (aAt v0 0))))) + (ByteArray.size (T.txt (A.tree (aAt v2 0))))) < 9223372036854775808)) then (Option.bind (Option.map (fun v3 => v3.2) (D i_treillageref03_Sign none [(A.t (T.int (T.num (T.get (tAtD (T.kids (T.get x2 0)) (Int.toNat (T.num x1))) 2))))])) (fun v3 => (Option.bind (Option.map (fun v4 => v4.2) (D i_treillageref03_Num none [(A.t (T.int (T.num (A.tree (aAt v3 0)))))])) (fun v4 => (bif (decide (((ByteArray.size (((T.txt x0) ++ (T.txt (A.tree (aAt v0 0)))) ++ (T.txt (A.tree (aAt v2 0))))) + (ByteArray.size (T.txt (A.tree (aAt v4 0))))) < 9223372036854775808)) then (bif ((T.num (T.get (tAtD (T.kids (T.get x2 0)) (Int.toNat (T.num x1))) 0)) == (3 : Int)) then (Option.bind (Option.map (fun v5 => v5.2) (D i_treillageref03_Text none [(A.t (T.str (T.txt (T.get (tAtD (T.kids (T.get x2 0)) (Int.toNat (T.num x1))) 3))))])) (fun v5 => (bif (decide (((ByteArray.size ((((T.txt x0) ++ (T.txt (A.tree (aAt v0 0)))) ++ (T.txt (A.tree (aAt v2 0)))) ++ (T.txt (A.tree (aAt v4 0))))) + (ByteArray.size (T.txt (A.tree (aAt v5 0))))) < 9223372036854775808)) then (bif ((T.num (T.get (tAtD (T.kids (T.get x2 0)) (Int.toNat (T.num x1))) 0)) == (4 : Int)) then (Option.bind (Option.map (fun v6 => v6.2) (D i_treillageref03_Num none [(A.t (T.int (IntKind.wrap IntKind.u64 (((List.length (T.kids (T.get (tAtD (T.kids (T.get x2 0)) (Int.toNat (T.num x1))) 7))) : Nat) : Int))))])) (fun v6 => (bif (decide (((ByteArray.size (((((T.txt x0) ++ (T.txt (A.tree (aAt v0 0)))) ++ (T.txt (A.tree (aAt v2 0)))) ++ (T.txt (A.tree (aAt v4 0)))) ++ (T.txt (A.tree (aAt v5 0))))) + (ByteArray.size (T.txt (A.tree (aAt v6 0))))) < 9223372036854775808)) then (Option.bind (D i_treillageref10_Of (some p_treillageref10_Of_c2) [(A.t (T.str ((((((T.txt x0) ++ (T.txt (A.tree (aAt v0 0)))) ++ (T.txt (A.tree (aAt v2 0)))) ++ (T.txt (A.tree (aAt v4 0)))) ++ (T.txt (A.tree (aAt v5 0)))) ++ (T.txt (A.tree (aAt v6 0)))))), (A.t (T.int (T.num x1))), (A.t (T.int (0 : Int))), (A.t x2), (A.t (tAtD (T.kids (T.get x2 0)) (Int.toNat (T.num x1))))]) (fun v7 => (bif (Nat.beq v7.1 4) then (D i_treillageref10_Of (some p_treillageref10_Of_c1) [(A.t (T.str (T.txt (A.tree (aAt v7.2 0))))), (A.t (T.int (IntKind.wrap IntKind.i64 ((T.num (A.tree (aAt v7.2 1))) + (1 : Int))))), (A.t (A.tree (aAt v7.2 2)))]) else none))) else none))) else (D i_treillageref10_Of (some p_treillageref10_Of_c1) [(A.t (T.str (((((T.txt x0) ++ (T.txt (A.tree (aAt v0 0)))) ++ (T.txt (A.tree (aAt v2 0)))) ++ (T.txt (A.tree (aAt v4 0)))) ++ (T.txt (A.tree (aAt v5 0)))))), (A.t (T.int (IntKind.wrap IntKind.i64 ((T.num x1) + (1 : Int))))), (A.t x2)])) else none))) else (bif ((T.num (T.get (tAtD (T.kids (T.get x2 0)) (Int.toNat (T.num x1))) 0)) == (4 : Int)) then (Option.bind (Option.map (fun v5 => v5.2) (D i_treillageref03_Num none [(A.t (T.int (IntKind.wrap IntKind.u64 (((List.length (T.kids (T.get (tAtD (T.kids (T.get x2 0)) (Int.toNat (T.num x1))) 7))) : Nat) : Int))))])) (fun v5 => (bif (decide (((ByteArray.size ((((T.txt x0) ++ (T.txt (A.tree (aAt v0 0)))) ++ (T.txt (A.tree (aAt v2 0)))) ++ (T.txt (A.tree (aAt v4 0))))) + (ByteArray.size (T.txt (A.tree (aAt v5 0))))) < 9223372036854775808)) then (Option.bind (D i_treillageref10_Of (some p_treillageref10_Of_c2) [(A.t (T.str (((((T.txt x0) ++ (T.txt (A.tree (aAt v0 0)))) ++ (T.txt (A.tree (aAt v2 0)))) ++ (T.txt (A.tree (aAt v4 0)))) ++ (T.txt (A.tree (aAt v5 0)))))), (A.t (T.int (T.num x1))), (A.t (T.int (0 : Int))), (A.t x2), (A.t (tAtD (T.kids (T.get x2 0)) (Int.toNat (T.num x1))))]) (fun v6 => (bif (Nat.beq v6.1 4) then (D i_treillageref10_Of (some p_treillageref10_Of_c1) [(A.t (T.str (T.txt (A.tree (aAt v6.2 0))))), (A.t (T.int (IntKind.wrap IntKind.i64 ((T.num (A.tree (aAt v6.2 1))) + (1 : Int))))), (A.t (A.tree (aAt v6.2 2)))]) else none))) else none))) else (D i_treillageref10_Of (some p_treillageref10_Of_c1) [(A.t (T.str ((((T.txt x0) ++ (T.txt (A.tree (aAt v0 0)))) ++ (T.txt (A.tree (aAt v2 0)))) ++ (T.txt (A.tree (aAt v4 0)))))), (A.t (T.int (IntKind.wrap IntKind.i64 ((T.num x1) + (1 : Int))))), (A.t x2)]))) else none))))) else none)))))) else none))
theorem of_c1_eq (n : Nat) (x0 x1 x2 : T) : den Tryd.prog G0 ents (Nat.succ n) i_treillageref10_Of (some p_treillageref10_Of_c1) [A.t x0, A.t x1, A.t x2] =
  (bif (decide ((T.num x1) < (((List.length (T.kids (T.get x2 0))) : Nat) : Int))) then (bif (Bool.and (decide ((0 : Int) ≤ (T.num x1))) (decide ((T.num x1) < (((List.length (T.kids (T.get x2 0))) : Nat) : Int)))) then (bif (T.tf (T.get (tAtD (T.kids (T.get x2 0)) (Int.toNat (T.num x1))) 5)) then (bif (T.tf (T.get (tAtD (T.kids (T.get x2 0)) (Int.toNat (T.num x1))) 4)) then (bif (T.tf (T.get (tAtD (T.kids (T.get x2 0)) (Int.toNat (T.num x1))) 6)) then (Option.bind (Option.map (fun v0 => v0.2) (den Tryd.prog G0 ents n i_treillageref03_Num none [(A.t (T.int (IntKind.wrap IntKind.u64 (IntKind.wrap IntKind.i64 ((IntKind.wrap IntKind.i64 ((IntKind.wrap IntKind.i64 ((IntKind.wrap IntKind.i64 ((8 : Int) * (T.num (T.get (tAtD (T.kids (T.get x2 0)) (Int.toNat (T.num x1))) 0)))) + (1 : Int))) + (2 : Int))) + (4 : Int))))))])) (ofK (den Tryd.prog G0 ents n) x0 x1 x2)) else (Option.bind (Option.map (fun v0 => v0.2) (den Tryd.prog G0 ents n i_treillageref03_Num none [(A.t (T.int (IntKind.wrap IntKind.u64 (IntKind.wrap IntKind.i64 ((IntKind.wrap IntKind.i64 ((IntKind.wrap IntKind.i64 ((8 : Int) * (T.num (T.get (tAtD (T.kids (T.get x2 0)) (Int.toNat (T.num x1))) 0)))) + (1 : Int))) + (2 : Int))))))])) (ofK (den Tryd.prog G0 ents n) x0 x1 x2))) else (bif (T.tf (T.get (tAtD (T.kids (T.get x2 0)) (Int.toNat (T.num x1))) 6)) then (Option.bind (Option.map (fun v0 => v0.2) (den Tryd.prog G0 ents n i_treillageref03_Num none [(A.t (T.int (IntKind.wrap IntKind.u64 (IntKind.wrap IntKind.i64 ((IntKind.wrap IntKind.i64 ((IntKind.wrap IntKind.i64 ((8 : Int) * (T.num (T.get (tAtD (T.kids (T.get x2 0)) (Int.toNat (T.num x1))) 0)))) + (1 : Int))) + (4 : Int))))))])) (ofK (den Tryd.prog G0 ents n) x0 x1 x2)) else (Option.bind (Option.map (fun v0 => v0.2) (den Tryd.prog G0 ents n i_treillageref03_Num none [(A.t (T.int (IntKind.wrap IntKind.u64 (IntKind.wrap IntKind.i64 ((IntKind.wrap IntKind.i64 ((8 : Int) * (T.num (T.get (tAtD (T.kids (T.get x2 0)) (Int.toNat (T.num x1))) 0)))) + (1 : Int))))))])) (ofK (den Tryd.prog G0 ents n) x0 x1 x2)))) else (bif (T.tf (T.get (tAtD (T.kids (T.get x2 0)) (Int.toNat (T.num x1))) 4)) then (bif (T.tf (T.get (tAtD (T.kids (T.get x2 0)) (Int.toNat (T.num x1))) 6)) then (Option.bind (Option.map (fun v0 => v0.2) (den Tryd.prog G0 ents n i_treillageref03_Num none [(A.t (T.int (IntKind.wrap IntKind.u64 (IntKind.wrap IntKind.i64 ((IntKind.wrap IntKind.i64 ((IntKind.wrap IntKind.i64 ((8 : Int) * (T.num (T.get (tAtD (T.kids (T.get x2 0)) (Int.toNat (T.num x1))) 0)))) + (2 : Int))) + (4 : Int))))))])) (ofK (den Tryd.prog G0 ents n) x0 x1 x2)) else (Option.bind (Option.map (fun v0 => v0.2) (den Tryd.prog G0 ents n i_treillageref03_Num none [(A.t (T.int (IntKind.wrap IntKind.u64 (IntKind.wrap IntKind.i64 ((IntKind.wrap IntKind.i64 ((8 : Int) * (T.num (T.get (tAtD (T.kids (T.get x2 0)) (Int.toNat (T.num x1))) 0)))) + (2 : Int))))))])) (ofK (den Tryd.prog G0 ents n) x0 x1 x2))) else (bif (T.tf (T.get (tAtD (T.kids (T.get x2 0)) (Int.toNat (T.num x1))) 6)) then (Option.bind (Option.map (fun v0 => v0.2) (den Tryd.prog G0 ents n i_treillageref03_Num none [(A.t (T.int (IntKind.wrap IntKind.u64 (IntKind.wrap IntKind.i64 ((IntKind.wrap IntKind.i64 ((8 : Int) * (T.num (T.get (tAtD (T.kids (T.get x2 0)) (Int.toNat (T.num x1))) 0)))) + (4 : Int))))))])) (ofK (den Tryd.prog G0 ents n) x0 x1 x2)) else (Option.bind (Option.map (fun v0 => v0.2) (den Tryd.prog G0 ents n i_treillageref03_Num none [(A.t (T.int (IntKind.wrap IntKind.u64 (IntKind.wrap IntKind.i64 ((8 : Int) * (T.num (T.get (tAtD (T.kids (T.get x2 0)) (Int.toNat (T.num x1))) 0)))))))])) (ofK (den Tryd.prog G0 ents n) x0 x1 x2))))) else none) else (some (2, [(A.t (T.str (T.txt x0)))]))) := q_treillageref10_Of_c1 n x0 x1 x2
theorem of_mark (m : Nat) (b : List UInt8) (j : Nat) (v t : T) (hlt : j < (terms v).length) (ht : (terms v)[j] = t) (k1 : 1 ≤ kd t) (k5 : kd t ≤ 5) : den Tryd.prog G0 ents (Nat.succ m) i_treillageref10_Of (some p_treillageref10_Of_c1) [A.t (T.str (sb b)), A.t (T.int j), A.t v] =
    Option.bind (Option.map (fun v0 => v0.2) (den Tryd.prog G0 ents m i_treillageref03_Num none [A.t (T.int (markN t : Nat))])) (ofK (den Tryd.prog G0 ents m) (T.str (sb b)) (T.int j) v) := by
    obtain ⟨kk, hkk⟩ : ∃ kk : Nat, kd t = (kk : Nat) := ⟨(kd t).toNat, by omega⟩
    have hmark : markN t = 8 * kk + bitN (mb t) 1 + bitN (an t) 2 + bitN (op t) 4 := by unfold markN; rw [hkk, Int.toNat_natCast]
    have e0 : (8 : Int) * ((kk : Nat) : Int) = ((8 * kk : Nat) : Int) := by omega
    have e1 : ((8 * kk : Nat) : Int) + 1 = ((8 * kk + 1 : Nat) : Int) := by omega
    have e2 : ((8 * kk : Nat) : Int) + 2 = ((8 * kk + 2 : Nat) : Int) := by omega
    have e4 : ((8 * kk : Nat) : Int) + 4 = ((8 * kk + 4 : Nat) : Int) := by omega
    have e3 : ((8 * kk + 1 : Nat) : Int) + 2 = ((8 * kk + 1 + 2 : Nat) : Int) := by omega
    have e5 : ((8 * kk + 1 : Nat) : Int) + 4 = ((8 * kk + 1 + 4 : Nat) : Int) := by omega
    have e6 : ((8 * kk + 2 : Nat) : Int) + 4 = ((8 * kk + 2 + 4 : Nat) : Int) := by omega
    have e7 : ((8 * kk + 1 + 2 : Nat) : Int) + 4 = ((8 * kk + 1 + 2 + 4 : Nat) : Int) := by omega
    have wi : ∀ n : Nat, n < 1000 → IntKind.i64.wrap ((n : Nat) : Int) = ((n : Nat) : Int) := fun n h => i64nat (by omega)
    have wu : ∀ n : Nat, n < 1000 → IntKind.u64.wrap ((n : Nat) : Int) = ((n : Nat) : Int) := fun n h => by rw [wu64, Nat.mod_eq_of_lt (by omega)]
    have i0 := wi (8 * kk) (by omega)
    have i1 := wi (8 * kk + 1) (by omega)
    have i2 := wi (8 * kk + 2) (by omega)
    have i4 := wi (8 * kk + 4) (by omega)
    have i3 := wi (8 * kk + 1 + 2) (by omega)
    have i5 := wi (8 * kk + 1 + 4) (by omega)
    have i6 := wi (8 * kk + 2 + 4) (by omega)
    have i7 := wi (8 * kk + 1 + 2 + 4) (by omega)
    have u0 := wu (8 * kk) (by omega)
    have u1 := wu (8 * kk + 1) (by omega)
    have u2 := wu (8 * kk + 2) (by omega)
    have u4 := wu (8 * kk + 4) (by omega)
    have u3 := wu (8 * kk + 1 + 2) (by omega)
    have u5 := wu (8 * kk + 1 + 4) (by omega)
    have u6 := wu (8 * kk + 2 + 4) (by omega)
    have u7 := wu (8 * kk + 1 + 2 + 4) (by omega)
    rw [of_c1_eq, hmark]
    generalize ofK (den Tryd.prog G0 ents m) (T.str (sb b)) (T.int j) v = K
    simp only [num_int, terms_eq, Int.toNat_natCast, at_get hlt, ht, kd_eq, mb_eq, an_eq, op_eq, hkk, e0, i0, e1, i1, e2, i2, e4, i4, e3, i3, e5, i5, e6, i6, e7, i7, u0, u1, u2, u3, u4, u5, u6, u7]
    rw [decide_eq_true (show ((j : Nat) : Int) < (((terms v).length : Nat) : Int) by omega), decide_eq_true (show (0 : Int) ≤ ((j : Nat) : Int) by omega)]
    cases mb t <;> cases an t <;> cases op t <;> rfl
theorem of_terms (E : T → List UInt8) (v : T) (hl : (terms v).length ≤ 1000) (hok : ∀ t ∈ terms v, okK t ∧ (tx t).size ≤ 1000 ∧ (flds t).length ≤ 1000 ∧ ∀ f ∈ flds t, (nm f).size ≤ 1000)
    (hE : ∀ t ∈ terms v, kd t = 4 → ∀ f ∈ flds t, Dz i_treillageref10_Of none [A.t (val f)] (1, [A.t (T.str (sb (E (val f))))])) : ∀ (k j : Nat) (b : List UInt8), j + k = (terms v).length → b.length + (((terms v).drop j).flatMap (encT E)).length ≤ 9000000 →
    Dz i_treillageref10_Of (some p_treillageref10_Of_c1) [A.t (T.str (sb b)), A.t (T.int j), A.t v] (2, [A.t (T.str (sb (b ++ ((terms v).drop j).flatMap (encT E))))]) := by
  intro k
  induction k with
  | zero =>
    intro j b hj hb
    refine Does.now fun m => ?_
    rw [q_treillageref10_Of_c1, List.drop_of_length_le (by omega), List.flatMap_nil, List.append_nil]
    simp only [num_int, terms_eq, txt_str]
    rw [decide_eq_false (by omega)]
    rfl
  | succ k ih =>
    intro j b hj hb
    have hlt : j < (terms v).length := by omega
    have hm := List.getElem_mem hlt
    obtain ⟨⟨k1, k5, kb⟩, htx, hfl, hnm⟩ := hok _ hm
    have hEt := hE _ hm
    have hw : IntKind.i64.wrap ((j : Int) + 1) = ((j + 1 : Nat) : Int) := i64succ (by omega)
    have hmk := markN_lt (terms v)[j] k5
    have hn1 := numB_len (markN (terms v)[j])
    rw [flat_drop _ hlt] at hb ⊢
    rw [List.length_append] at hb
    obtain ⟨n2, h2⟩ := ih (j + 1) (b ++ encT E (terms v)[j]) (by omega) (by rw [List.length_append]; omega)
    have hlen : (encT E (terms v)[j]).length ≤ 9000000 - b.length := by omega
    rw [encT, List.length_append] at hlen
    obtain ⟨n0, h0⟩ := rnum_does (markN (terms v)[j]) (by omega)
    have kk : kd (terms v)[j] = 1 ∨ kd (terms v)[j] = 2 ∨ kd (terms v)[j] = 3 ∨ kd (terms v)[j] = 4 ∨ kd (terms v)[j] = 5 := by omega
    have h12 : kd (terms v)[j] = 1 ∨ kd (terms v)[j] = 2 → Dz i_treillageref10_Of (some p_treillageref10_Of_c1) [A.t (T.str (sb b)), A.t (T.int j), A.t v] (2, [A.t (T.str (sb (b ++ (encT E (terms v)[j] ++ ((terms v).drop (j + 1)).flatMap (encT E)))))]) := by
      intro hk
      obtain ⟨⟨l1, l2⟩, g1, g2⟩ := kb hk
      have hbody : bodyT E (terms v)[j] = numB (signN (lo (terms v)[j])) ++ numB (signN (hi (terms v)[j])) := if_pos hk
      have s1 := signN_lt l1 l2
      have s2 := signN_lt g1 g2
      have hn2 := numB_len (signN (lo (terms v)[j]))
      have hn3 := numB_len (signN (hi (terms v)[j]))
      obtain ⟨n3, h3⟩ := (rsign_does (lo (terms v)[j]) l1 l2).both (rsign_does (hi (terms v)[j]) g1 g2)
      obtain ⟨n4, h4⟩ := (rnum_does (signN (lo (terms v)[j])) (by omega)).both (rnum_does (signN (hi (terms v)[j])) (by omega))
      refine Does.of (n0 + n2 + n3 + n4) fun m hm => ?_
      have q1 := h0 m (by omega)
      obtain ⟨q4, q5⟩ := h3 m (by omega)
      obtain ⟨q6, q7⟩ := h4 m (by omega)
      have q3 := h2 m (by omega)
      rw [encT, hbody] at q3 ⊢
      simp only [List.append_assoc] at q3 ⊢
      rw [of_mark m b j v _ hlt rfl k1 k5, q1]
      simp only [Option.map_some, Option.bind_some, ofK]
      rcases hk with hk | hk <;>
      (simp only [num_int, txt_str, Int.toNat_natCast, terms_eq, at_get hlt, kd_eq, lo_eq, hi_eq, hk, Option.map_some, Option.bind_some, aAt_zero, tree_t, q4, q5, q6, q7, sb_app, sb_size, List.length_append, List.append_assoc, hw, q3]
       simp only [num_int, tf_bool, txt_str, kids_node, tree_t, aAt_zero, aAt_succ, Option.map_some, Option.bind_some, Nat.beq_refl, Bool.cond_eq_ite, decide_eq_true_eq, decide_eq_false_iff_not, Bool.and_eq_true, Bool.or_eq_true, beq_iff_eq, beq_eq_false_iff_ne, bne_iff_ne, ne_eq, if_true, if_false, Int.toNat_natCast, Bool.false_eq_true, nb12, nb21, nb14, nb24, nb42, nb41, terms_eq, flds_eq, not_true_eq_false, not_false_eq_true, q3]
       repeat (first | rw [if_pos (by omega)] | rw [if_neg (by omega)]))
    rcases kk with hk | hk | hk | hk | hk
    · exact h12 (.inl hk)
    · exact h12 (.inr hk)
    · have hbody : bodyT E (terms v)[j] = textB (tx (terms v)[j]) := by rw [bodyT, if_neg (by omega), if_pos hk]
      have hn2 := textB_len (tx (terms v)[j])
      obtain ⟨n3, h3⟩ := rtext_does (tx (terms v)[j]) htx
      refine Does.of (n0 + n2 + n3) fun m hm => ?_
      have q1 := h0 m (by omega)
      have q4 := h3 m (by omega)
      have q3 := h2 m (by omega)
      rw [encT, hbody] at q3 ⊢
      simp only [List.append_assoc] at q3 ⊢
      rw [of_mark m b j v _ hlt rfl k1 k5, q1]
      simp only [Option.map_some, Option.bind_some, ofK]
      simp only [num_int, txt_str, Int.toNat_natCast, terms_eq, at_get hlt, kd_eq, tx_eq, hk, Option.map_some, Option.bind_some, aAt_zero, tree_t, q4, sb_app, sb_size, List.length_append, List.append_assoc, hw, q3]
      simp only [num_int, tf_bool, txt_str, kids_node, tree_t, aAt_zero, aAt_succ, Option.map_some, Option.bind_some, Nat.beq_refl, Bool.cond_eq_ite, decide_eq_true_eq, decide_eq_false_iff_not, Bool.and_eq_true, Bool.or_eq_true, beq_iff_eq, beq_eq_false_iff_ne, bne_iff_ne, ne_eq, if_true, if_false, Int.toNat_natCast, Bool.false_eq_true, nb12, nb21, nb14, nb24, nb42, nb41, terms_eq, flds_eq, not_true_eq_false, not_false_eq_true, q3]
      repeat (first | rw [if_pos (by omega)] | rw [if_neg (by omega)])
    · have hbody : bodyT E (terms v)[j] = numB (flds (terms v)[j]).length ++ (flds (terms v)[j]).flatMap (fldB E) := by rw [bodyT, if_neg (by omega), if_neg (by omega), if_pos hk]
      rw [hbody, List.length_append] at hlen
      have hn2 := numB_len (flds (terms v)[j]).length
      obtain ⟨n3, h3⟩ := rnum_does (flds (terms v)[j]).length (by omega)
      obtain ⟨n4, h4⟩ := of_flds E (terms v)[j] j v hfl hnm (hEt hk) (flds (terms v)[j]).length 0 (b ++ numB (markN (terms v)[j]) ++ numB (flds (terms v)[j]).length) (by omega) (by rw [List.length_append, List.length_append, List.drop_zero]; omega)
      refine Does.of (n0 + n2 + n3 + n4) fun m hm => ?_
      have q1 := h0 m (by omega)
      have q4 := h3 m (by omega)
      have q5 : den Tryd.prog G0 ents m i_treillageref10_Of (some p_treillageref10_Of_c2) [A.t (T.str (sb (b ++ numB (markN (terms v)[j]) ++ numB (flds (terms v)[j]).length))), A.t (T.int j), A.t (T.int 0), A.t v, A.t (terms v)[j]] = _ := h4 m (by omega)
      rw [List.drop_zero] at q5
      have q3 := h2 m (by omega)
      rw [encT, hbody] at q3 ⊢
      simp only [List.append_assoc] at q3 q5 ⊢
      have hu : IntKind.u64.wrap (((flds (terms v)[j]).length : Nat) : Int) = (((flds (terms v)[j]).length : Nat) : Int) := by rw [wu64, Nat.mod_eq_of_lt (by omega)]
      rw [of_mark m b j v _ hlt rfl k1 k5, q1]
      simp only [Option.map_some, Option.bind_some, ofK]
      simp only [num_int, txt_str, Int.toNat_natCast, terms_eq, flds_eq, at_get hlt, kd_eq, hk, hu, Option.map_some, Option.bind_some, aAt_zero, aAt_succ, tree_t, q4, q5, sb_app, sb_size, List.length_append, List.append_assoc, hw, q3]
      simp only [num_int, tf_bool, txt_str, kids_node, tree_t, aAt_zero, aAt_succ, Option.map_some, Option.bind_some, Nat.beq_refl, Bool.cond_eq_ite, decide_eq_true_eq, decide_eq_false_iff_not, Bool.and_eq_true, Bool.or_eq_true, beq_iff_eq, beq_eq_false_iff_ne, bne_iff_ne, ne_eq, if_true, if_false, Int.toNat_natCast, Bool.false_eq_true, nb12, nb21, nb14, nb24, nb42, nb41, terms_eq, flds_eq, hw, q3]
      repeat (first | rw [if_pos (by omega)] | rw [if_neg (by omega)])
    · have hbody : bodyT E (terms v)[j] = [] := by rw [bodyT, if_neg (by omega), if_neg (by omega), if_neg (by omega)]
      refine Does.of (n0 + n2) fun m hm => ?_
      have q1 := h0 m (by omega)
      have q3 := h2 m (by omega)
      rw [encT, hbody, List.append_nil] at q3 ⊢
      rw [of_mark m b j v _ hlt rfl k1 k5, q1]
      simp only [Option.map_some, Option.bind_some, ofK]
      simp only [List.append_assoc] at q3 ⊢
      simp only [num_int, txt_str, Int.toNat_natCast, terms_eq, at_get hlt, kd_eq, hk, Option.map_some, Option.bind_some, aAt_zero, tree_t, sb_app, sb_size, List.length_append, List.append_assoc, hw, q3]
      simp only [num_int, tf_bool, txt_str, kids_node, tree_t, aAt_zero, aAt_succ, Option.map_some, Option.bind_some, Nat.beq_refl, Bool.cond_eq_ite, decide_eq_true_eq, decide_eq_false_iff_not, Bool.and_eq_true, Bool.or_eq_true, beq_iff_eq, beq_eq_false_iff_ne, bne_iff_ne, ne_eq, if_true, if_false, Int.toNat_natCast, Bool.false_eq_true, nb12, nb21, nb14, nb24, nb42, nb41, terms_eq, flds_eq, not_true_eq_false, not_false_eq_true, q3]
      repeat (first | rw [if_pos (by omega)] | rw [if_neg (by omega)])
theorem of_does : ∀ (d : Nat) (v : T), Sm d v → EV d v → (encV d v).length ≤ 9000000 → Dz i_treillageref10_Of none [A.t v] (1, [A.t (T.str (sb (encV d v)))])
  | 0, v, h, _, _ => h.1.elim
  | d + 1, v, h, hev, hb => by
    have hts := h.terms
    obtain ⟨n0, h0⟩ := rnum_does (terms v).length (by omega)
    have hE : ∀ t ∈ terms v, kd t = 4 → ∀ f ∈ flds t, Dz i_treillageref10_Of none [A.t (val f)] (1, [A.t (T.str (sb (encV d (val f))))]) := fun t ht h4 f hf =>
      of_does d (val f) (h.sub ht hf) ((hev t ht).2 h4 f hf) (by have := encV_len d (val f) (h.sub ht hf).1; have := (h.sub ht hf).2; omega)
    rw [encV, List.length_append] at hb
    obtain ⟨n1, h1⟩ := of_terms (encV d) v (by omega) (fun t ht => ⟨(hev t ht).1, by have := (h.1 t ht).2.1; exact Nat.le_trans this (by omega), by have := h.flds ht; omega, fun f hf => by have := ((h.1 t ht).2.2 f hf).1; omega⟩) hE (terms v).length 0 (numB (terms v).length) (by omega) (by rw [List.drop_zero]; omega)
    refine Does.of (n0 + n1) fun m hm => ?_
    have q1 := h0 m (by omega)
    have q2 : den Tryd.prog G0 ents m i_treillageref10_Of (some p_treillageref10_Of_c1) [A.t (T.str (sb (numB (terms v).length))), A.t (T.int 0), A.t v] = _ := h1 m (by omega)
    rw [List.drop_zero] at q2
    have hu : IntKind.u64.wrap (((terms v).length : Nat) : Int) = (((terms v).length : Nat) : Int) := by rw [wu64, Nat.mod_eq_of_lt (by omega)]
    rw [q_treillageref10_Of]
    simp only [num_int, tf_bool, txt_str, kids_node, tree_t, aAt_zero, aAt_succ, Option.map_some, Option.bind_some, Nat.beq_refl, Bool.cond_eq_ite, decide_eq_true_eq, decide_eq_false_iff_not, Bool.and_eq_true, Bool.or_eq_true, beq_iff_eq, beq_eq_false_iff_ne, bne_iff_ne, ne_eq, if_true, if_false, Int.toNat_natCast, Bool.false_eq_true, nb12, nb21, nb14, nb24, nb42, nb41, terms_eq, flds_eq, hu, q1, q2]
    rw [encV]
theorem rencode_does {v : T} (h : Sm 20 v) : Dz i_treillageref10_Encode none [A.t v] (encR v) := by
  obtain ⟨n0, h0⟩ := refRight_does h
  unfold encR
  cases hr : refV 20 v with
  | false =>
    rw [hr] at h0
    refine Does.of n0 fun m hm => ?_
    rw [q_treillageref10_Encode]
    simp only [num_int, tf_bool, txt_str, kids_node, tree_t, aAt_zero, aAt_succ, Option.map_some, Option.bind_some, Nat.beq_refl, Bool.cond_eq_ite, decide_eq_true_eq, decide_eq_false_iff_not, Bool.and_eq_true, Bool.or_eq_true, beq_iff_eq, beq_eq_false_iff_ne, bne_iff_ne, ne_eq, if_true, if_false, Int.toNat_natCast, Bool.false_eq_true, nb12, nb21, nb14, nb24, nb42, nb41, terms_eq, flds_eq, h0 m hm, Bool.not_false, eb_eq]
  | true =>
    rw [hr] at h0
    have hb := encV_bound h
    obtain ⟨n1, h1⟩ := of_does 20 v h (refV_EV hr) (by omega)
    refine Does.of (n0 + n1) fun m hm => ?_
    rw [q_treillageref10_Encode]
    simp only [num_int, tf_bool, txt_str, kids_node, tree_t, aAt_zero, aAt_succ, Option.map_some, Option.bind_some, Nat.beq_refl, Bool.cond_eq_ite, decide_eq_true_eq, decide_eq_false_iff_not, Bool.and_eq_true, Bool.or_eq_true, beq_iff_eq, beq_eq_false_iff_ne, bne_iff_ne, ne_eq, if_true, if_false, Int.toNat_natCast, Bool.false_eq_true, nb12, nb21, nb14, nb24, nb42, nb41, terms_eq, flds_eq, h0 m (by omega), h1 m (by omega), Bool.not_true]
end Go.Proofs.YtpfglhjgjfhkjaaDoorCP
namespace Go.Proofs.YtpfglhjgjfhkjaaDoorCP
open Go Go.Proofs.YtpfglhjgjfhkjaaDoorVM
set_option linter.unusedVariables false
set_option linter.unusedSimpArgs false
set_option maxRecDepth 100000

theorem awake_eq (n : Nat) : den Tryd.prog G0 ents (Nat.succ (Nat.succ (Nat.succ (Nat.succ (Nat.succ (Nat.succ (Nat.succ (Nat.succ (Nat.succ (Nat.succ (Nat.succ (Nat.succ (Nat.succ (Nat.succ (Nat.succ (Nat.succ (Nat.succ (Nat.succ (Nat.succ (Nat.succ (Nat.succ (Nat.succ (Nat.succ (Nat.succ (Nat.succ (Nat.succ (Nat.succ (Nat.succ (Nat.succ (Nat.succ (Nat.succ (Nat.succ (Nat.succ (Nat.succ (Nat.succ (Nat.succ (Nat.succ (Nat.succ (Nat.succ (Nat.succ (Nat.succ (Nat.succ (Nat.succ (Nat.succ (Nat.succ (Nat.succ (Nat.succ (Nat.succ (Nat.succ (Nat.succ (Nat.succ (Nat.succ (Nat.succ (Nat.succ (Nat.succ (Nat.succ (Nat.succ (Nat.succ (Nat.succ (Nat.succ n)))))))))))))))))))))))))))))))))))))))))))))))))))))))))))) i_treillagelaw10_awake none [] = some (1, [A.t (T.bool true)]) := by kernel_rfl
theorem awake_does : Dz i_treillagelaw10_awake none [] (1, [A.t (T.bool true)]) := by
  refine ⟨60, fun n hn => ?_⟩
  obtain ⟨k, rfl⟩ : ∃ k, n = k + 60 := ⟨n - 60, by omega⟩
  exact awake_eq k
theorem encR_cases (v : T) : (refV 20 v = true ∧ encR v = (1, [A.t (T.str (sb (encV 20 v))), A.t (T.int 0)])) ∨ encR v = (1, [A.t (T.str emptyB), A.t (T.int 1)]) := by
  unfold encR
  split
  · rename_i h; exact .inl ⟨h, rfl⟩
  · exact .inr rfl
theorem law_does (v : T) : Dz i_treillagelaw10_CodePuts none [A.t v] (1, [A.t (T.bool true)]) := by
  obtain ⟨n1, h1⟩ := (few_does v).both awake_does
  cases hf : few v with
  | false =>
    rw [hf] at h1
    refine Does.of n1 fun m hm => ?_
    obtain ⟨q1, q2⟩ := h1 m hm
    rw [q_treillagelaw10_CodePuts]
    simp only [num_int, tf_bool, txt_str, kids_node, tree_t, aAt_zero, aAt_succ, Option.map_some, Option.bind_some, Nat.beq_refl, Bool.cond_eq_ite, decide_eq_true_eq, decide_eq_false_iff_not, Bool.and_eq_true, Bool.or_eq_true, beq_iff_eq, beq_eq_false_iff_ne, bne_iff_ne, ne_eq, if_true, if_false, Int.toNat_natCast, Bool.false_eq_true, nb12, nb21, nb14, nb24, nb42, nb41, terms_eq, flds_eq, q1, q2, Bool.not_false]
  | true =>
    rw [hf] at h1
    have hs := few_sm hf
    obtain ⟨n2, h2⟩ := (encode_does hs).both (rencode_does hs)
    refine Does.of (n1 + n2) fun m hm => ?_
    obtain ⟨q1, q2⟩ := h1 m (by omega)
    obtain ⟨q3, q4⟩ := h2 m (by omega)
    rw [q_treillagelaw10_CodePuts, q1, q3, q4, q2]
    rcases encR_cases v with ⟨_, h⟩ | h
    · rw [h]
      simp only [num_int, tf_bool, txt_str, kids_node, tree_t, aAt_zero, aAt_succ, Option.map_some, Option.bind_some, Nat.beq_refl, Bool.cond_eq_ite, decide_eq_true_eq, decide_eq_false_iff_not, Bool.and_eq_true, Bool.or_eq_true, beq_iff_eq, beq_eq_false_iff_ne, bne_iff_ne, ne_eq, if_true, if_false, Int.toNat_natCast, Bool.false_eq_true, nb12, nb21, nb14, nb24, nb42, nb41, terms_eq, flds_eq, Bool.not_true, seq_dec, decide_eq_true_eq, beq_self_eq_true]
    · rw [h]
      simp only [num_int, tf_bool, txt_str, kids_node, tree_t, aAt_zero, aAt_succ, Option.map_some, Option.bind_some, Nat.beq_refl, Bool.cond_eq_ite, decide_eq_true_eq, decide_eq_false_iff_not, Bool.and_eq_true, Bool.or_eq_true, beq_iff_eq, beq_eq_false_iff_ne, bne_iff_ne, ne_eq, if_true, if_false, Int.toNat_natCast, Bool.false_eq_true, nb12, nb21, nb14, nb24, nb42, nb41, terms_eq, flds_eq, Bool.not_true, seq_dec, decide_eq_true_eq, beq_self_eq_true]
end Go.Proofs.YtpfglhjgjfhkjaaDoorCP
