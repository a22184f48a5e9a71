/- A law's proof, a part: what the code answers. -/
import Derived.Test.YtffncdkbcphbgaaGreatDoorLRA
namespace Go.Proofs.YtffncdkbcphbgaaGreatDoorLR
open Go Go.Proofs.YtffncdkbcphbgaaGreatDoorVM
set_option linter.unusedVariables false
set_option linter.unusedSimpArgs false
set_option maxRecDepth 100000

theorem anyT_eq : T.node [T.int 5, T.int 0, T.int 0, T.str ByteArray.empty, T.bool false, T.bool false, T.bool false, T.node []] = anyT := id rfl
theorem Sm_any (d : Nat) : SmT d anyT := ⟨by decide, fun f hf => absurd hf (by show ¬ f ∈ []; simp)⟩
theorem beqI (a b : Int) : (a == b) = decide (a = b) := Bool.beq_eq_decide_eq a b
theorem anything_does {d : Nat} {t : T} (h : SmT d t) : Dz i_lat_anything none [A.t t] (1, [A.t (T.bool (decide (cmpT d t anyT = 0)))]) := by
  obtain ⟨n0, h0⟩ := pt_does h (Sm_any d)
  refine Does.of n0 fun m hm => ?_
  rw [q_lat_anything]; simp only [S9, S1]; rw [anyT_eq]
  simp only [S0, S9, S1, S2, if_true, if_false, h0 m hm, beqI]
theorem lbare_does (t : T) : Dz i_lat_bare none [A.t t] (1, [A.t (T.bool (bareT t))]) := by
  refine Does.now fun m => ?_
  rw [q_lat_bare]
  simp only [S9, S1, Option.map_some, Option.bind_some, aAt_zero, tree_t, tf_bool, kd_eq, lo_eq, hi_eq, tx_eq, an_eq, mb_eq, seq_dec, eb_eq, bareT, Bool.cond_eq_ite, Bool.beq_eq_decide_eq, coll]
  apply ans
  generalize mb t = m
  generalize an t = a
  generalize tx t = x
  generalize lo t = l
  generalize hi t = h
  grind
theorem shaped_loop (R : T → Bool) (l : List T) (e : Nat) (he : e ≤ 1000) (hl : l.length ≤ 1000) (hR : ∀ f ∈ l, Dz i_lat_listed none [A.t (val f), A.t (T.int e)] (1, [A.t (T.bool (R (val f)))])) : ∀ (k j : Nat), j + k = l.length →
    Dz i_lat_shaped (some p_lat_shaped_c1) [A.t (T.int (e + 1 : Nat)), A.t (T.node l), A.t (T.int (l.length : Nat)), A.t (T.int j)] (if (l.drop j).all (fullF R) then (3, []) else (1, [A.t (T.bool false)])) := by
  intro k
  induction k with
  | zero =>
    intro j hj
    refine Does.now fun m => ?_
    rw [q_lat_shaped_c1, List.drop_of_length_le (by omega)]
    simp only [S0, S9, S1, S2, if_true, if_false]
    rw [if_neg (by omega)]; rfl
  | succ k ih =>
    intro j hj
    have hlt : j < l.length := by omega
    have hw : IntKind.i64.wrap ((j : Int) + 1) = ((j + 1 : Nat) : Int) := i64succ (by omega)
    have hd : IntKind.i64.wrap (((e + 1 : Nat) : Int) - 1) = ((e : Nat) : Int) := by rw [w64 (by omega) (by omega)]; omega
    obtain ⟨n0, h0⟩ := (hR _ (List.getElem_mem hlt)).both (ih (j + 1) (by omega))
    refine Does.of n0 fun m hm => ?_
    obtain ⟨q1, q2⟩ := h0 m hm
    rw [q_lat_shaped_c1, drop_all hlt]
    simp only [S0, S9, S1, S2, if_true, if_false, at_get hlt, val_eq, hw, hd, q1, q2, fullF, e0_zero, Bool.not_eq_true']
    rw [if_pos (by omega), if_pos (by omega)]
    by_cases hz : (terms (val l[j])).length = 0
    · rw [if_neg (by simp [hz]), if_neg (by simp [hz])]
    · rw [if_pos (by simp [hz])]
      cases R (val l[j]) <;> simp [hz]
theorem shaped_does (R : T → Bool) (d : Nat) (t : T) (ht : SmT d t) (e : Nat) (he : e ≤ 1000) (hR : kd t = 4 → ∀ f ∈ flds t, Dz i_lat_listed none [A.t (val f), A.t (T.int e)] (1, [A.t (T.bool (R (val f)))])) : Dz i_lat_shaped none [A.t t, A.t (T.int (e + 1 : Nat))] (1, [A.t (T.bool (okT R d t))]) := by
  have hl := ht.1
  by_cases h5 : kd t = 5
  · obtain ⟨n0, h0⟩ := anything_does ht
    refine Does.of n0 fun m hm => ?_
    rw [q_lat_shaped, okT, if_pos h5]
    simp only [S0, S9, S1, S2, if_true, if_false, kd_eq, h0 m hm, h5]
  by_cases h4 : kd t = 4
  · obtain ⟨n1, h1⟩ := (lbare_does t).both (rising_does (flds t) (by omega))
    obtain ⟨n2, h2⟩ := shaped_loop R (flds t) e he (by omega) (hR h4) (flds t).length 0 (by omega)
    refine Does.of (n1 + n2) fun m hm => ?_
    obtain ⟨q1, q2⟩ := h1 m (by omega)
    have q3 : den Tryz.prog G0 ents m i_lat_shaped (some p_lat_shaped_c1) [A.t (T.int (e + 1 : Nat)), A.t (T.node (flds t)), A.t (T.int ((flds t).length : Nat)), A.t (T.int 0)] = _ := h2 m (by omega)
    rw [List.drop_zero] at q3
    rw [q_lat_shaped, okT, if_neg h5, if_pos h4]
    simp only [S9, S1, terms_eq, flds_eq, num_int, kd_eq, h4, q1, q2, q3]
    have h32 : decide ((((flds t).length : Nat) : Int) > 32) = !decide ((flds t).length ≤ 32) := by rw [Bool.eq_iff_iff]; simp; omega
    rw [h32]
    generalize (flds t).all (fullF R) = c
    generalize decide ((flds t).length ≤ 32) = c2
    generalize names (flds t) = c3
    generalize bareT t = c4
    cases c <;> cases c2 <;> cases c3 <;> cases c4 <;> rfl
  · obtain ⟨n0, h0⟩ := sright_does t
    refine Does.of n0 fun m hm => ?_
    rw [q_lat_shaped, okT, if_neg h5, if_neg h4]
    simp only [S0, S9, S1, S2, if_true, if_false, kd_eq, h0 m hm, h5, h4]
theorem listed_c1 (R : T → Bool) (d : Nat) (v : T) (hv : Sm (d + 1) v) (e : Nat) (he : e ≤ 1000) (hR : ∀ t ∈ terms v, ∀ f ∈ flds t, Dz i_lat_listed none [A.t (val f), A.t (T.int e)] (1, [A.t (T.bool (R (val f)))])) : ∀ (k j : Nat), j + k = (terms v).length →
    Dz i_lat_listed (some p_lat_listed_c1) [A.t (T.int (e + 1 : Nat)), A.t (T.node (terms v)), A.t (T.int ((terms v).length : Nat)), A.t (T.int j), A.t v] (if allN (fun j => okT R d (tAtD (terms v) j) && ascAt d (terms v) j) k j then (2, [A.t v]) else (1, [A.t (T.bool false)])) := by
  have hl := hv.terms
  intro k
  induction k with
  | zero =>
    intro j hj
    refine Does.now fun m => ?_
    rw [q_lat_listed_c1, allN]
    simp only [S0, S9, S1, S2, if_true, if_false]
    rw [if_neg (by omega)]
  | succ k ih =>
    intro j hj
    have hlt : j < (terms v).length := by omega
    have hw : IntKind.i64.wrap ((j : Int) + 1) = ((j + 1 : Nat) : Int) := i64succ (by omega)
    have hm := List.getElem_mem hlt
    have hs := shaped_does R d (terms v)[j] (hv.term hm) e he (fun _ => hR _ hm)
    rw [allN, at_get hlt]
    by_cases h0 : j = 0
    · subst h0
      obtain ⟨n0, h0⟩ := hs.both (ih (0 + 1) (by omega))
      refine Does.of n0 fun m hm => ?_
      obtain ⟨q1, q2⟩ := h0 m hm
      have hasc : ascAt d (terms v) 0 = true := rfl
      rw [hasc, q_lat_listed_c1]
      simp only [S0, S9, S1, S2, if_true, if_false, at_get hlt, hw, q1, q2, Bool.and_true]
      rw [if_pos (by omega), if_pos (by omega)]
      cases okT R d (terms v)[0] <;> simp
    · have hlt2 : j - 1 < (terms v).length := by omega
      have hp : IntKind.i64.wrap ((j : Int) - 1) = ((j - 1 : Nat) : Int) := by rw [w64 (by omega) (by omega)]; omega
      obtain ⟨n0, h0'⟩ := hs.both (ih (j + 1) (by omega))
      obtain ⟨n1, h1⟩ := pt_does (hv.term (List.getElem_mem hlt2)) (hv.term hm)
      refine Does.of (n0 + n1) fun m hm => ?_
      obtain ⟨q1, q2⟩ := h0' m (by omega)
      have q3 := h1 m (by omega)
      have hasc : ascAt d (terms v) j = decide (cmpT d (terms v)[j - 1] (terms v)[j] < 0) := by
        rw [ascAt, at_get hlt, at_get hlt2, show (j == 0) = false by simp [h0]]; rfl
      rw [hasc, q_lat_listed_c1]
      simp only [S0, S9, S1, S2, if_true, if_false, at_get hlt, at_get hlt2, hw, hp, q1, q2, q3]
      rw [if_pos (by omega), if_pos (by omega)]
      cases okT R d (terms v)[j] with
      | false => simp
      | true =>
        rw [if_pos (by rfl), if_pos (by omega), if_pos (by omega)]
        by_cases hc : cmpT d (terms v)[j - 1] (terms v)[j] < 0
        · rw [if_neg (by omega)]; simp [hc]
        · rw [if_pos (by omega)]; simp [hc]
theorem listed_c3 (d : Nat) (v : T) (i : Nat) (hi : i < (terms v).length) (hl : (terms v).length ≤ 1000) (hb : ∀ y ∈ terms v, Dz i_lat_below none [A.t (terms v)[i], A.t y] (1, [A.t (T.bool (belowT (underV d) (terms v)[i] y))])) : ∀ (k j : Nat), j + k = (terms v).length →
    Dz i_lat_listed (some p_lat_listed_c3) [A.t (T.int i), A.t (T.node (terms v)), A.t (T.int ((terms v).length : Nat)), A.t (T.int i), A.t (T.node (terms v)), A.t (T.int ((terms v).length : Nat)), A.t (T.int j), A.t v, A.t (terms v)[i]] (if allN (apart d (terms v) i) k j then (6, [A.t (T.node (terms v)), A.t (T.int ((terms v).length : Nat)), A.t (T.int i), A.t v]) else (1, [A.t (T.bool false)])) := by
  intro k
  induction k with
  | zero =>
    intro j hj
    refine Does.now fun m => ?_
    rw [q_lat_listed_c3, allN]
    simp only [S0, S9, S1, S2, if_true, if_false]
    rw [if_neg (by omega)]
  | succ k ih =>
    intro j hj
    have hlt : j < (terms v).length := by omega
    have hw : IntKind.i64.wrap ((j : Int) + 1) = ((j + 1 : Nat) : Int) := i64succ (by omega)
    obtain ⟨n0, h0⟩ := (hb _ (List.getElem_mem hlt)).both (ih (j + 1) (by omega))
    refine Does.of n0 fun m hm => ?_
    obtain ⟨q1, q2⟩ := h0 m hm
    have hap : apart d (terms v) i j = (decide (i = j) || !belowT (underV d) (terms v)[i] (terms v)[j]) := by rw [apart, at_get hi, at_get hlt]
    rw [q_lat_listed_c3, allN, hap]
    simp only [S0, S9, S1, S2, if_true, if_false, at_get hlt, hw, q1, q2]
    rw [if_pos (by omega), if_pos (by omega)]
    by_cases he : i = j
    · rw [if_neg (by omega)]; simp [he]
    · rw [if_pos (by omega)]
      cases belowT (underV d) (terms v)[i] (terms v)[j] <;> simp [he]
theorem listed_c2 (d : Nat) (v : T) (hl : (terms v).length ≤ 1000) (hb : ∀ x ∈ terms v, ∀ y ∈ terms v, Dz i_lat_below none [A.t x, A.t y] (1, [A.t (T.bool (belowT (underV d) x y))])) : ∀ (k j : Nat), j + k = (terms v).length →
    Dz i_lat_listed (some p_lat_listed_c2) [A.t (T.node (terms v)), A.t (T.int ((terms v).length : Nat)), A.t (T.int j), A.t v] (if allN (fun i => allN (apart d (terms v) i) (terms v).length 0) k j then (4, []) else (1, [A.t (T.bool false)])) := by
  intro k
  induction k with
  | zero =>
    intro j hj
    refine Does.now fun m => ?_
    rw [q_lat_listed_c2, allN]
    simp only [S0, S9, S1, S2, if_true, if_false]
    rw [if_neg (by omega)]
  | succ k ih =>
    intro j hj
    have hlt : j < (terms v).length := by omega
    have hw : IntKind.i64.wrap ((j : Int) + 1) = ((j + 1 : Nat) : Int) := i64succ (by omega)
    obtain ⟨n0, h0⟩ := (listed_c3 d v j hlt hl (hb _ (List.getElem_mem hlt)) (terms v).length 0 (by omega)).both (ih (j + 1) (by omega))
    refine Does.of n0 fun m hm => ?_
    obtain ⟨q1, q2⟩ := h0 m hm
    have q1' : den Tryz.prog G0 ents m i_lat_listed (some p_lat_listed_c3) [A.t (T.int j), A.t (T.node (terms v)), A.t (T.int ((terms v).length : Nat)), A.t (T.int j), A.t (T.node (terms v)), A.t (T.int ((terms v).length : Nat)), A.t (T.int 0), A.t v, A.t (terms v)[j]] = _ := q1
    rw [q_lat_listed_c2, allN]
    simp only [S9, S1, terms_eq, kids_node, num_int, Int.toNat_natCast, at_get hlt, q1']
    generalize allN (apart d (terms v) j) (terms v).length 0 = c
    cases c with
    | false =>
      simp only [S0, S9, S1, S2, if_true, if_false]
      rw [if_pos (by omega), if_pos (by omega)]
      rfl
    | true =>
      simp only [S0, S9, S1, S2, if_true, if_false, hw, q2, show Nat.beq 6 6 = true from rfl, true_and]
      rw [if_pos (by omega), if_pos (by omega)]
theorem listed_does : ∀ (d e : Nat) (v : T), e ≤ 1000 → Sm d v → Dz i_lat_listed none [A.t v, A.t (T.int e)] (1, [A.t (T.bool (listV d e v))])
  | 0, _, v, _, h => h.1.elim
  | d + 1, 0, v, _, h => by
    refine Does.now fun m => ?_
    rw [q_lat_listed]
    simp only [S0, S9, S1, S2, if_true, if_false]
    rfl
  | d + 1, e + 1, v, he, h => by
    have hl := h.terms
    have hR : ∀ t ∈ terms v, ∀ f ∈ flds t, Dz i_lat_listed none [A.t (val f), A.t (T.int e)] (1, [A.t (T.bool (listV d e (val f)))]) := fun t ht f hf => listed_does d e (val f) (by omega) (h.sub ht hf)
    obtain ⟨n1, h1⟩ := listed_c1 (listV d e) d v h e (by omega) hR (terms v).length 0 (by omega)
    have q1' : ∀ m, n1 ≤ m → den Tryz.prog G0 ents m i_lat_listed (some p_lat_listed_c1) [A.t (T.int (e + 1 : Nat)), A.t (T.node (terms v)), A.t (T.int ((terms v).length : Nat)), A.t (T.int 0), A.t v] = some (if inOrder (listV d e) d (terms v) then (2, [A.t v]) else (1, [A.t (T.bool false)])) := h1
    rw [listV]
    cases ho : inOrder (listV d e) d (terms v) with
    | false =>
      rw [ho] at q1'
      refine Does.of n1 fun m hm => ?_
      rw [q_lat_listed]
      simp only [S0, S9, S1, S2, if_true, if_false, q1' m hm]
      rw [if_pos (by omega), if_neg (by omega)]
      rfl
    | true =>
      rw [ho] at q1'
      have hN : ∀ t ∈ terms v, NRt d t := fun t ht => by
        obtain ⟨i, hi, rfl⟩ := List.getElem_of_mem ht
        have := (allN_iff _ _ _).1 ho i (by omega) (by omega)
        rw [at_get hi, Bool.and_eq_true] at this
        exact NRt_of (fun f hf h => listV_NR h) this.1
      have hb : ∀ x ∈ terms v, ∀ y ∈ terms v, Dz i_lat_below none [A.t x, A.t y] (1, [A.t (T.bool (belowT (underV d) x y))]) := fun x hx y hy =>
        lbelow_does (underV d) x y (by have := h.flds hx; omega) (by have := h.flds hy; omega) (fun h4 => (hN x hx h4).1) (fun h4 => (hN y hy h4).1)
          fun h1 h2 f hf g hg => lunder_does d _ _ (h.sub hx hf) (h.sub hy hg) ((hN x hx h1).2 f hf) ((hN y hy h2).2 g hg)
      obtain ⟨n2, h2⟩ := listed_c2 d v (by omega) hb (terms v).length 0 (by omega)
      have q2' : ∀ m, n2 ≤ m → den Tryz.prog G0 ents m i_lat_listed (some p_lat_listed_c2) [A.t (T.node (terms v)), A.t (T.int ((terms v).length : Nat)), A.t (T.int 0), A.t v] = some (if allApart d (terms v) then (4, []) else (1, [A.t (T.bool false)])) := h2
      refine Does.of (n1 + n2) fun m hm => ?_
      rw [q_lat_listed]
      simp only [S0, S9, S1, S2, if_true, if_false, q1' m (by omega), q2' m (by omega)]
      rw [if_pos (by omega), if_neg (by omega)]
      cases allApart d (terms v) <;> rfl
theorem lright_does {v : T} (h : Sm 20 v) : Dz i_lat_Right none [A.t v] (1, [A.t (T.bool (refV 20 v))]) := by
  obtain ⟨n0, h0⟩ := (listed_does 20 16 v (by omega) h).both (pweight_does 20 v h)
  have hw := h.2
  refine Does.of n0 fun m hm => ?_
  obtain ⟨q1, q2⟩ := h0 m hm
  have q1' : den Tryz.prog G0 ents m i_lat_listed none [A.t v, A.t (T.int 16)] = _ := q1
  rw [refV_list, q_lat_Right]
  simp only [S0, S9, S1, S2, if_true, if_false, q1', q2]
  cases listV 20 16 v with
  | false => rfl
  | true => rw [if_pos rfl, decide_eq_true (by omega)]
end Go.Proofs.YtffncdkbcphbgaaGreatDoorLR
namespace Go.Proofs.YtffncdkbcphbgaaGreatDoorLR
open Go Go.Proofs.YtffncdkbcphbgaaGreatDoorVM
set_option linter.unusedVariables false
set_option linter.unusedSimpArgs false
set_option maxRecDepth 100000

theorem rterm_loop (R : T → Bool) (t : T) (hl : (flds t).length ≤ 1000) (hR : ∀ f ∈ flds t, Dz i_R09_Right none [A.t (val f)] (1, [A.t (T.bool (R (val f)))])) : ∀ (k j : Nat), j + k = (flds t).length →
    Dz i_R09_Term (some p_R09_Term_c1) [A.t (T.int j), A.t t] (if ((flds t).drop j).all (fullF R) then (2, []) else (1, [A.t (T.bool false)])) := by
  intro k
  induction k with
  | zero =>
    intro j hj
    refine Does.now fun m => ?_
    rw [q_R09_Term_c1, List.drop_of_length_le (by omega)]
    simp only [S0, S9, S1, S2, if_true, if_false]
    rw [if_neg (by omega)]; rfl
  | succ k ih =>
    intro j hj
    have hlt : j < (flds t).length := by omega
    have hw : IntKind.i64.wrap ((j : Int) + 1) = ((j + 1 : Nat) : Int) := i64succ (by omega)
    obtain ⟨n0, h0⟩ := (hR _ (List.getElem_mem hlt)).both (ih (j + 1) (by omega))
    refine Does.of n0 fun m hm => ?_
    obtain ⟨q1, q2⟩ := h0 m hm
    rw [q_R09_Term_c1, drop_all hlt]
    simp only [S0, S9, S1, S2, if_true, if_false, at_get hlt, val_eq, hw, q1, q2, fullF, e0_zero, Bool.not_eq_true']
    rw [if_pos (by omega), if_pos (by omega)]
    by_cases hz : (terms (val (flds t)[j])).length = 0
    · rw [if_neg (by simp [hz]), if_neg (by simp [hz])]
    · rw [if_pos (by simp [hz]), if_pos (by omega)]
      cases R (val (flds t)[j]) <;> simp [hz]
theorem rterm_does (R : T → Bool) (d : Nat) (t : T) (ht : SmT d t) (hR : kd t = 4 → ∀ f ∈ flds t, Dz i_R09_Right none [A.t (val f)] (1, [A.t (T.bool (R (val f)))])) : Dz i_R09_Term none [A.t t] (1, [A.t (T.bool (okT R d t))]) := by
  have hl := ht.1
  by_cases h5 : kd t = 5
  · obtain ⟨n0, h0⟩ := rt_does ht (Sm_any d)
    refine Does.of n0 fun m hm => ?_
    rw [q_R09_Term, okT, if_pos h5]; simp only [S9, S1]; rw [anyT_eq]
    simp only [S0, S9, S1, S2, if_true, if_false, kd_eq, h0 m hm, h5, beqI]
  by_cases h4 : kd t = 4
  · obtain ⟨n1, h1⟩ := rnames_does (flds t) (by omega)
    obtain ⟨n2, h2⟩ := rterm_loop R t (by omega) (hR h4) (flds t).length 0 (by omega)
    refine Does.of (n1 + n2) fun m hm => ?_
    have q2 := h1 m (by omega)
    have q3 : den Tryz.prog G0 ents m i_R09_Term (some p_R09_Term_c1) [A.t (T.int 0), A.t t] = _ := h2 m (by omega)
    rw [List.drop_zero] at q3
    rw [q_R09_Term, okT, if_neg h5, if_pos h4]
    simp only [S9, S1, terms_eq, flds_eq, num_int, kd_eq, h4, lo_eq, hi_eq, tx_eq, an_eq, mb_eq, eb_eq, seq_dec, q2, q3, bareT]
    have h32 : decide ((((flds t).length : Nat) : Int) > 32) = !decide ((flds t).length ≤ 32) := by rw [Bool.eq_iff_iff]; simp; omega
    have hlo : (lo t != 0) = !decide (lo t = 0) := by rw [bne, beqI]
    have hhi : (hi t != 0) = !decide (hi t = 0) := by rw [bne, beqI]
    rw [h32, hlo, hhi]
    generalize (flds t).all (fullF R) = c
    generalize decide ((flds t).length ≤ 32) = c2
    generalize names (flds t) = c3
    generalize decide (lo t = 0) = c4
    generalize decide (hi t = 0) = c5
    generalize decide (tx t = emptyB) = c6
    generalize an t = c7
    generalize mb t = c8
    cases c4 <;> cases c5 <;> cases c6 <;> cases c7 <;> cases c8 <;> cases c2 <;> cases c3 <;> cases c <;> rfl
  · obtain ⟨n0, h0⟩ := rright_does t
    refine Does.of n0 fun m hm => ?_
    rw [q_R09_Term, okT, if_neg h5, if_neg h4]
    simp only [S0, S9, S1, S2, if_true, if_false, kd_eq, h0 m hm, h5, h4, not_false_eq_true]
theorem rright_c1 (R : T → Bool) (d : Nat) (v : T) (hv : Sm (d + 1) v) (hR : ∀ t ∈ terms v, ∀ f ∈ flds t, Dz i_R09_Right none [A.t (val f)] (1, [A.t (T.bool (R (val f)))])) : ∀ (k j : Nat), j + k = (terms v).length →
    Dz i_R09_Right (some p_R09_Right_c1) [A.t (T.int j), A.t v] (if allN (fun j => okT R d (tAtD (terms v) j) && ascAt d (terms v) j) k j then (2, [A.t v]) else (1, [A.t (T.bool false)])) := by
  have hl := hv.terms
  intro k
  induction k with
  | zero =>
    intro j hj
    refine Does.now fun m => ?_
    rw [q_R09_Right_c1, allN]
    simp only [S0, S9, S1, S2, if_true, if_false]
    rw [if_neg (by omega)]
  | succ k ih =>
    intro j hj
    have hlt : j < (terms v).length := by omega
    have hw : IntKind.i64.wrap ((j : Int) + 1) = ((j + 1 : Nat) : Int) := i64succ (by omega)
    have hm := List.getElem_mem hlt
    have hs := rterm_does R d (terms v)[j] (hv.term hm) (fun _ => hR _ hm)
    rw [allN, at_get hlt]
    by_cases h0 : j = 0
    · subst h0
      obtain ⟨n0, h0⟩ := hs.both (ih (0 + 1) (by omega))
      refine Does.of n0 fun m hm => ?_
      obtain ⟨q1, q2⟩ := h0 m hm
      have hasc : ascAt d (terms v) 0 = true := rfl
      rw [hasc, q_R09_Right_c1]
      simp only [S0, S9, S1, S2, if_true, if_false, at_get hlt, hw, q1, q2, Bool.and_true]
      rw [if_pos (by omega), if_pos (by omega)]
      cases okT R d (terms v)[0] <;> simp
    · have hlt2 : j - 1 < (terms v).length := by omega
      have hp : IntKind.i64.wrap ((j : Int) - 1) = ((j - 1 : Nat) : Int) := by rw [w64 (by omega) (by omega)]; omega
      obtain ⟨n0, h0'⟩ := hs.both (ih (j + 1) (by omega))
      obtain ⟨n1, h1⟩ := rt_does (hv.term (List.getElem_mem hlt2)) (hv.term hm)
      refine Does.of (n0 + n1) fun m hm => ?_
      obtain ⟨q1, q2⟩ := h0' m (by omega)
      have q3 := h1 m (by omega)
      have hasc : ascAt d (terms v) j = decide (cmpT d (terms v)[j - 1] (terms v)[j] < 0) := by
        rw [ascAt, at_get hlt, at_get hlt2, show (j == 0) = false by simp [h0]]; rfl
      rw [hasc, q_R09_Right_c1]
      simp only [S0, S9, S1, S2, if_true, if_false, at_get hlt, at_get hlt2, hw, hp, q1, q2, q3]
      rw [if_pos (by omega), if_pos (by omega)]
      cases okT R d (terms v)[j] with
      | false => simp
      | true =>
        rw [if_pos (by rfl), if_pos (by omega), if_pos (by omega), if_pos (by omega)]
        by_cases hc : cmpT d (terms v)[j - 1] (terms v)[j] < 0
        · rw [if_neg (by omega)]; simp [hc]
        · rw [if_pos (by omega)]; simp [hc]
theorem rright_c3 (d : Nat) (v : T) (i : Nat) (hi : i < (terms v).length) (hl : (terms v).length ≤ 1000) (hb : ∀ y ∈ terms v, Dz i_R09_under none [A.t (terms v)[i], A.t y] (1, [A.t (T.bool (belowT (underV d) (terms v)[i] y))])) : ∀ (k j : Nat), j + k = (terms v).length →
    Dz i_R09_Right (some p_R09_Right_c3) [A.t (T.int i), A.t (T.int j), A.t v] (if allN (apart d (terms v) i) k j then (6, [A.t (T.int i), A.t v]) else (1, [A.t (T.bool false)])) := by
  intro k
  induction k with
  | zero =>
    intro j hj
    refine Does.now fun m => ?_
    rw [q_R09_Right_c3, allN]
    simp only [S0, S9, S1, S2, if_true, if_false]
    rw [if_neg (by omega)]
  | succ k ih =>
    intro j hj
    have hlt : j < (terms v).length := by omega
    have hw : IntKind.i64.wrap ((j : Int) + 1) = ((j + 1 : Nat) : Int) := i64succ (by omega)
    obtain ⟨n0, h0⟩ := (hb _ (List.getElem_mem hlt)).both (ih (j + 1) (by omega))
    refine Does.of n0 fun m hm => ?_
    obtain ⟨q1, q2⟩ := h0 m hm
    have hap : apart d (terms v) i j = (decide (i = j) || !belowT (underV d) (terms v)[i] (terms v)[j]) := by rw [apart, at_get hi, at_get hlt]
    rw [q_R09_Right_c3, allN, hap]
    simp only [S0, S9, S1, S2, if_true, if_false, at_get hlt, at_get hi, hw, q1, q2]
    rw [if_pos (by omega)]
    by_cases he : i = j
    · rw [if_neg (by omega)]; simp [he]
    · rw [if_pos (by omega), if_pos (by omega), if_pos (by omega)]
      cases belowT (underV d) (terms v)[i] (terms v)[j] <;> simp [he]
theorem rright_c2 (d : Nat) (v : T) (hl : (terms v).length ≤ 1000) (hb : ∀ x ∈ terms v, ∀ y ∈ terms v, Dz i_R09_under none [A.t x, A.t y] (1, [A.t (T.bool (belowT (underV d) x y))])) : ∀ (k j : Nat), j + k = (terms v).length →
    Dz i_R09_Right (some p_R09_Right_c2) [A.t (T.int j), A.t v] (if allN (fun i => allN (apart d (terms v) i) (terms v).length 0) k j then (4, []) else (1, [A.t (T.bool false)])) := by
  intro k
  induction k with
  | zero =>
    intro j hj
    refine Does.now fun m => ?_
    rw [q_R09_Right_c2, allN]
    simp only [S0, S9, S1, S2, if_true, if_false]
    rw [if_neg (by omega)]
  | succ k ih =>
    intro j hj
    have hlt : j < (terms v).length := by omega
    have hw : IntKind.i64.wrap ((j : Int) + 1) = ((j + 1 : Nat) : Int) := i64succ (by omega)
    obtain ⟨n0, h0⟩ := (rright_c3 d v j hlt hl (hb _ (List.getElem_mem hlt)) (terms v).length 0 (by omega)).both (ih (j + 1) (by omega))
    refine Does.of n0 fun m hm => ?_
    obtain ⟨q1, q2⟩ := h0 m hm
    have q1' : den Tryz.prog G0 ents m i_R09_Right (some p_R09_Right_c3) [A.t (T.int j), A.t (T.int 0), A.t v] = _ := q1
    rw [q_R09_Right_c2, allN]
    simp only [S9, S1, terms_eq, num_int, q1']
    generalize allN (apart d (terms v) j) (terms v).length 0 = c
    cases c with
    | false =>
      simp only [S0, S9, S1, S2, if_true, if_false]
      rw [if_pos (by omega)]
      rfl
    | true =>
      simp only [S0, S9, S1, S2, if_true, if_false, hw, q2, show Nat.beq 6 6 = true from rfl, true_and]
      rw [if_pos (by omega)]
theorem rright_val : ∀ (d : Nat) (v : T), d ≤ 1000 → Sm d v → Dz i_R09_Right none [A.t v] (1, [A.t (T.bool (refV d v))])
  | 0, v, _, h => h.1.elim
  | d + 1, v, hd, h => by
    have hl := h.terms
    have hwt := h.2
    obtain ⟨n0, h0⟩ := (rweight_does (d + 1) v h).both (depth_does (d + 1) v hd h)
    rw [refV]
    by_cases hdp : dep (d + 1) v ≤ 16
    rotate_left
    · refine Does.of n0 fun m hm => ?_
      obtain ⟨q1, q2⟩ := h0 m hm
      rw [q_R09_Right, decide_eq_false hdp]
      simp only [S0, S9, S1, S2, if_true, if_false, q1, q2]
      rw [if_pos (by omega), if_pos (by omega)]
      rfl
    rw [decide_eq_true hdp, Bool.true_and]
    have hR : ∀ t ∈ terms v, ∀ f ∈ flds t, Dz i_R09_Right none [A.t (val f)] (1, [A.t (T.bool (refV d (val f)))]) := fun t ht f hf => rright_val d (val f) (by omega) (h.sub ht hf)
    obtain ⟨n1, h1⟩ := rright_c1 (refV d) d v h hR (terms v).length 0 (by omega)
    have q1' : ∀ m, n1 ≤ m → den Tryz.prog G0 ents m i_R09_Right (some p_R09_Right_c1) [A.t (T.int 0), A.t v] = some (if inOrder (refV d) d (terms v) then (2, [A.t v]) else (1, [A.t (T.bool false)])) := h1
    have hb : ∀ x ∈ terms v, ∀ y ∈ terms v, Dz i_R09_under none [A.t x, A.t y] (1, [A.t (T.bool (belowT (underV d) x y))]) := fun x hx y hy =>
      runder1_does (underV d) x y (by have := h.flds hx; omega) (by have := h.flds hy; omega)
        fun h1 h2 f hf g hg => runder_does d _ _ (h.sub hx hf) (h.sub hy hg)
    obtain ⟨n2, h2⟩ := rright_c2 d v (by omega) hb (terms v).length 0 (by omega)
    have q2' : ∀ m, n2 ≤ m → den Tryz.prog G0 ents m i_R09_Right (some p_R09_Right_c2) [A.t (T.int 0), A.t v] = some (if allApart d (terms v) then (4, []) else (1, [A.t (T.bool false)])) := h2
    refine Does.of (n0 + n1 + n2) fun m hm => ?_
    obtain ⟨q1, q2⟩ := h0 m (by omega)
    rw [q_R09_Right]
    simp only [S0, S9, S1, S2, if_true, if_false, q1, q2, q1' m (by omega)]
    rw [if_pos (by omega), if_neg (by omega)]
    cases inOrder (refV d) d (terms v) with
    | false => rfl
    | true =>
      simp only [S0, S9, S1, S2, if_true, if_false, q2' m (by omega)]
      cases allApart d (terms v) <;> rfl
theorem refRight_does {v : T} (h : Sm 20 v) : Dz i_R09_Right none [A.t v] (1, [A.t (T.bool (refV 20 v))]) := rright_val 20 v (by omega) h
end Go.Proofs.YtffncdkbcphbgaaGreatDoorLR
namespace Go.Proofs.YtffncdkbcphbgaaGreatDoorLR
open Go Go.Proofs.YtffncdkbcphbgaaGreatDoorVM
set_option linter.unusedVariables false
set_option linter.unusedSimpArgs false
set_option maxRecDepth 100000

theorem refV_NR {v : T} (h : refV 20 v = true) : NR 20 v := by
  rw [refV_eq, Bool.and_eq_true] at h
  exact okV_NR 20 v h.1
def belowV (a b : T) : Bool := refV 20 a && (refV 20 b && underV 20 a b)
theorem latbelow_does {a b : T} (ha : Sm 20 a) (hb : Sm 20 b) : Dz i_lat_Below none [A.t a, A.t b] (1, [A.t (T.bool (belowV a b))]) := by
  obtain ⟨n0, h0⟩ := (lright_does ha).both (lright_does hb)
  unfold belowV
  cases hra : refV 20 a with
  | false =>
    rw [hra] at h0
    refine Does.of n0 fun m hm => ?_
    rw [q_lat_Below]; simp only [S9, S1]; rw [(h0 m hm).1]
    rfl
  | true =>
    cases hrb : refV 20 b with
    | false =>
      rw [hra, hrb] at h0
      refine Does.of n0 fun m hm => ?_
      rw [q_lat_Below]; simp only [S9, S1]; rw [(h0 m hm).1]
      simp only [S0, S9, S1, S2, if_true, if_false, (h0 m hm).2]
      rfl
    | true =>
      rw [hra, hrb] at h0
      obtain ⟨n1, h1⟩ := lunder_does 20 a b ha hb (refV_NR hra) (refV_NR hrb)
      refine Does.of (n0 + n1) fun m hm => ?_
      rw [q_lat_Below]; simp only [S9, S1]; rw [(h0 m (by omega)).1]
      simp only [S0, S9, S1, S2, if_true, if_false, (h0 m (by omega)).2, h1 m (by omega), Bool.true_and]
end Go.Proofs.YtffncdkbcphbgaaGreatDoorLR
namespace Go.Proofs.YtffncdkbcphbgaaGreatDoorLR
open Go Go.Proofs.YtffncdkbcphbgaaGreatDoorVM
set_option linter.unusedVariables false
set_option linter.unusedSimpArgs false
set_option maxRecDepth 100000

theorem awake_does : Dz i_L09_awake none [] (1, [A.t (T.bool true)]) := run_of 60 fun n => by kernel_rfl
def noV : T := .node [.node []]
def anyV : T := .node [.node [anyT]]
theorem same_any : Dz i_R08_Same none [A.t anyV, A.t anyV] (1, [A.t (T.bool true)]) := run_of 30 fun n => by kernel_rfl
theorem Sm_no : Sm 20 noV := ⟨fun t ht => (by cases ht), by decide⟩
theorem Sm_anyV : Sm 20 anyV := by
  refine ⟨fun t ht => ?_, by decide⟩
  have : t = anyT := List.mem_singleton.1 ht
  subst this
  exact ⟨by decide, by decide, fun f hf => (by cases hf)⟩
theorem below_no (a : T) : belowV noV a = refV 20 a := by
  unfold belowV
  rw [show refV 20 noV = true by decide +kernel, show underV 20 noV a = true from rfl]
  simp
theorem below_any (a : T) : belowV a anyV = refV 20 a := by
  unfold belowV
  rw [show refV 20 anyV = true by decide +kernel]
  have : underV 20 a anyV = true := by
    rw [underV_succ, List.all_eq_true]
    intro t _
    rw [List.any_eq_true]
    refine ⟨anyT, List.mem_singleton.2 rfl, ?_⟩
    unfold belowT
    rw [if_pos (show kd anyT = 5 from rfl)]
  rw [this]
  simp
theorem law_does (a b : T) : Dz i_L09_LatRights none [A.t a, A.t b] (1, [A.t (T.bool true)]) := by
  obtain ⟨n1, h1⟩ := (few_does a).both (few_does b)
  obtain ⟨n2, h2⟩ := awake_does.both same_any
  cases hfa : few a with
  | false =>
    rw [hfa] at h1
    refine Does.of (n1 + n2) fun m hm => ?_
    rw [q_L09_LatRights]
    simp only [S0, S9, S1, S2, if_true, if_false, (h1 m (by omega)).1, (h2 m (by omega)).1, Bool.not_false, Bool.true_eq_false]
  | true =>
  cases hfb : few b with
  | false =>
    rw [hfa, hfb] at h1
    refine Does.of (n1 + n2) fun m hm => ?_
    rw [q_L09_LatRights]
    simp only [S0, S9, S1, S2, if_true, if_false, (h1 m (by omega)).1, (h1 m (by omega)).2, (h2 m (by omega)).1, Bool.not_false, Bool.not_true, Bool.true_eq_false, not_true_eq_false, not_false_eq_true]
  | true =>
  rw [hfa, hfb] at h1
  have ha := few_sm hfa
  have hb := few_sm hfb
  obtain ⟨n3, h3⟩ := (refRight_does ha).both (refRight_does hb)
  obtain ⟨n4, h4⟩ := (lright_does ha).both (lright_does hb)
  obtain ⟨n5, h5⟩ := (latbelow_does ha hb).both (runder_does 20 a b ha hb)
  obtain ⟨n6, h6⟩ := (latbelow_does Sm_no ha).both (latbelow_does ha Sm_anyV)
  obtain ⟨n7, h7⟩ := (Does.now (fun m => (q_lat_None m : _ = some (1, [A.t noV]))) : Dz i_lat_None none [] (1, [A.t noV])).both (Does.now (fun m => (q_lat_Any m : _ = some (1, [A.t anyV]))) : Dz i_lat_Any none [] (1, [A.t anyV]))
  refine Does.of (n1 + n2 + n3 + n4 + n5 + n6 + n7) fun m hm => ?_
  obtain ⟨a1, a2⟩ := h1 m (by omega)
  obtain ⟨a3, a4⟩ := h2 m (by omega)
  obtain ⟨b1, b2⟩ := h3 m (by omega)
  obtain ⟨b3, b4⟩ := h4 m (by omega)
  obtain ⟨b5, b6⟩ := h5 m (by omega)
  obtain ⟨c1, c2⟩ := h6 m (by omega)
  obtain ⟨c3, c4⟩ := h7 m (by omega)
  have a4' : den Tryz.prog G0 ents m i_R08_Same none [A.t anyV, A.t (T.node [T.node [T.node [T.int 5, T.int 0, T.int 0, T.str ByteArray.empty, T.bool false, T.bool false, T.bool false, T.node []]]])] = some (1, [A.t (T.bool true)]) := a4
  rw [below_no] at c1
  rw [below_any] at c2
  rw [q_L09_LatRights]
  simp only [S0, S9, S1, S2, if_true, if_false, a1, a2, a3, a4', b1, b2, b3, b4, b5, b6, c1, c2, c3, c4, Bool.not_true, not_true_eq_false, not_false_eq_true, beq_self_eq_true, Bool.true_eq_false]
  have hz : (terms noV).length = 0 := rfl
  unfold belowV
  rw [hz]
  cases refV 20 a <;> cases refV 20 b <;> cases underV 20 a b <;> rfl
end Go.Proofs.YtffncdkbcphbgaaGreatDoorLR
