/- A law's proof, a part: what the code answers. -/
import Derived.Test.YtffncdkbcphbgaaGreatDoorFRA
namespace Go.Proofs.YtffncdkbcphbgaaGreatDoorFR
open Go Go.Proofs.YtffncdkbcphbgaaGreatDoorVM
set_option linter.unusedVariables false
set_option linter.unusedSimpArgs false
set_option maxRecDepth 100000

def lackT (a b : T) : Bool := !op a && (flds b).any fun f => decide (findF (flds a) (nm f) 0 < 0)
def atF (a f : T) : T := val (tAtD (flds a) (findF (flds a) (nm f) 0).toNat)
def fitF (U : T → T → Bool) (a f : T) : Bool := decide (0 ≤ findF (flds a) (nm f) 0) && U (atF a f) (val f)
def belowT (U : T → T → Bool) (a b : T) : Bool :=
  if kd b = 5 then true else if kd a = 4 ∧ kd b = 4 then !(op a && !op b) && !lackT b a && (flds b).all (fitF U a) else belowS a b
def underV : Nat → T → T → Bool
  | 0, _, _ => false
  | d + 1, a, b => (terms a).all fun t => (terms b).any fun u => belowT (underV d) t u
theorem underV_succ (d : Nat) (a b : T) : underV (d + 1) a b = (terms a).all fun t => (terms b).any fun u => belowT (underV d) t u := rfl
def NR : Nat → T → Prop
  | 0, _ => False
  | d + 1, v => ∀ t ∈ terms v, kd t = 4 → Rise (flds t) ∧ ∀ f ∈ flds t, NR d (val f)
def NRt (d : Nat) (t : T) : Prop := kd t = 4 → Rise (flds t) ∧ ∀ f ∈ flds t, NR d (val f)
theorem NR.term {d : Nat} {v t : T} (h : NR (d + 1) v) (ht : t ∈ terms v) : NRt d t := h t ht
theorem drop_any {l : List T} {j : Nat} (h : j < l.length) (p : T → Bool) : (l.drop j).any p = (p l[j] || (l.drop (j + 1)).any p) := by rw [List.drop_eq_getElem_cons h, List.any_cons]
theorem drop_all {l : List T} {j : Nat} (h : j < l.length) (p : T → Bool) : (l.drop j).all p = (p l[j] && (l.drop (j + 1)).all p) := by rw [List.drop_eq_getElem_cons h, List.all_cons]
theorem hasField_does (l : List T) (c : T) (p : T → Bool) (hl : l.length ≤ 1000) (hp : ∀ x ∈ l, Dz i_lat_lacks_1 none [A.t x, A.t c] (1, [A.t (T.bool (p x)), A.t c])) : Dz i_slices_ContainsFunc_Field_lacks1 none [A.t (T.node l), A.t c] (1, [A.t (T.bool (l.any p)), A.t c]) :=
  has1_does q_slices_ContainsFunc_Field_lacks1 q_slices_IndexFunc_Field_lacks1 q_slices_IndexFunc_Field_lacks1_c1 l c p (by omega) hp
theorem hasTerm_does (l : List T) (c : T) (p : T → Bool) (hl : l.length ≤ 1000) (hp : ∀ x ∈ l, Dz i_lat_under_1 none [A.t x, A.t c] (1, [A.t (T.bool (p x)), A.t c])) : Dz i_slices_ContainsFunc_Term_under1 none [A.t (T.node l), A.t c] (1, [A.t (T.bool (l.any p)), A.t c]) :=
  has1_does q_slices_ContainsFunc_Term_under1 q_slices_IndexFunc_Term_under1 q_slices_IndexFunc_Term_under1_c1 l c p (by omega) hp
theorem lacks_does (a b : T) (ha : (flds a).length ≤ 1000) (hb : (flds b).length ≤ 1000) (hr : Rise (flds a)) : Dz i_lat_lacks none [A.t a, A.t b] (1, [A.t (T.bool (lackT a b))]) := by
  have h1 : ∀ x ∈ flds b, Dz i_lat_lacks_1 none [A.t x, A.t a] (1, [A.t (T.bool (decide (findF (flds a) (nm x) 0 < 0))), A.t a]) := by
    intro x _
    obtain ⟨n0, h0⟩ := lfind_does (flds a) (nm x) ha hr
    refine Does.of n0 fun m hm => ?_
    rw [q_lat_lacks_1]
    simp only [S0, S9, S1, S2, if_true, if_false, nm_eq, h0 m hm]
  obtain ⟨n0, h0⟩ := hasField_does (flds b) a _ hb h1
  refine Does.of n0 fun m hm => ?_
  rw [q_lat_lacks, lackT]
  simp only [S0, S9, S1, S2, if_true, if_false, h0 m hm, op_eq]
  cases op a <;> rfl
theorem below_loop (U : T → T → Bool) (a : T) (l : List T) (ha : (flds a).length ≤ 1000) (hl : l.length ≤ 1000) (hr : Rise (flds a)) (hu : ∀ f ∈ flds a, ∀ g ∈ l, Dz i_lat_under none [A.t (val f), A.t (val g)] (1, [A.t (T.bool (U (val f) (val g)))])) : ∀ (k j : Nat), j + k = l.length →
    Dz i_lat_below (some p_lat_below_c1) [A.t (T.node l), A.t (T.int (l.length : Nat)), A.t (T.int j), A.t a] (if (l.drop j).all (fitF U a) then (3, []) else (1, [A.t (T.bool false)])) := by
  intro k
  induction k with
  | zero =>
    intro j hj
    refine Does.now fun m => ?_
    rw [q_lat_below_c1, List.drop_of_length_le (by omega)]
    simp only [S0, S9, S1, S2, if_true, if_false]
    rw [if_neg (by omega)]; rfl
  | succ k ih =>
    intro j hj
    have hlt : j < l.length := by omega
    have hw : IntKind.i64.wrap ((j : Int) + 1) = ((j + 1 : Nat) : Int) := i64succ (by omega)
    have hle := findF_le (flds a) (nm l[j]) 0
    rw [drop_all hlt]
    obtain ⟨n1, h1⟩ := lfind_does (flds a) (nm l[j]) ha hr
    by_cases hneg : findF (flds a) (nm l[j]) 0 < 0
    · refine Does.of n1 fun m hm => ?_
      have hf : fitF U a l[j] = false := by rw [fitF, decide_eq_false (by omega), Bool.false_and]
      rw [q_lat_below_c1]
      simp only [S0, S9, S1, S2, if_true, if_false, at_get hlt, nm_eq, h1 m hm, hf]
      rw [if_pos (by omega), if_pos (by omega), if_neg (by omega)]
      rfl
    · have hk : (findF (flds a) (nm l[j]) 0).toNat < (flds a).length := by omega
      have h2 := hu _ (List.getElem_mem hk) _ (List.getElem_mem hlt)
      have hf : fitF U a l[j] = U (val (flds a)[(findF (flds a) (nm l[j]) 0).toNat]) (val l[j]) := by rw [fitF, decide_eq_true (by omega), Bool.true_and, atF, at_get hk]
      obtain ⟨n2, h2⟩ := h2.both (ih (j + 1) (by omega))
      refine Does.of (n1 + n2) fun m hm => ?_
      obtain ⟨q2, q3⟩ := h2 m (by omega)
      have q1 := h1 m (by omega)
      rw [q_lat_below_c1, hf]
      simp only [S0, S9, S1, S2, if_true, if_false, at_get hlt, at_get hk, nm_eq, val_eq, q1, q2, q3, hw]
      rw [if_pos (by omega), if_pos (by omega), if_pos (by omega), if_pos (by omega)]
      cases U (val (flds a)[(findF (flds a) (nm l[j]) 0).toNat]) (val l[j]) <;> simp
theorem lbelow_does (U : T → T → Bool) (a b : T) (ha : (flds a).length ≤ 1000) (hb : (flds b).length ≤ 1000) (hra : kd a = 4 → Rise (flds a)) (hrb : kd b = 4 → Rise (flds b))
    (hu : kd a = 4 → kd b = 4 → ∀ f ∈ flds a, ∀ g ∈ flds b, Dz i_lat_under none [A.t (val f), A.t (val g)] (1, [A.t (T.bool (U (val f) (val g)))])) : Dz i_lat_below none [A.t a, A.t b] (1, [A.t (T.bool (belowT U a b))]) := by
  by_cases h5 : kd b = 5
  · refine Does.now fun m => ?_
    rw [q_lat_below, belowT, if_pos h5]
    simp only [S0, S9, S1, S2, if_true, if_false, kd_eq, h5]
  by_cases h4 : kd a = 4 ∧ kd b = 4
  · obtain ⟨n1, h1⟩ := lacks_does b a hb ha (hrb h4.2)
    obtain ⟨n2, h2⟩ := below_loop U a (flds b) ha hb (hra h4.1) (hu h4.1 h4.2) (flds b).length 0 (by omega)
    refine Does.of (n1 + n2) fun m hm => ?_
    have q1 := h1 m (by omega)
    have q2 : den Tryz.prog G0 ents m i_lat_below (some p_lat_below_c1) [A.t (T.node (flds b)), A.t (T.int ((flds b).length : Nat)), A.t (T.int 0), A.t a] = _ := h2 m (by omega)
    rw [List.drop_zero] at q2
    rw [q_lat_below, belowT, if_neg h5, if_pos h4]
    simp only [S9, S1, terms_eq, flds_eq, kd_eq, op_eq, h4.1, h4.2, q1, q2]
    cases op a <;> cases op b <;> cases lackT b a <;> cases (flds b).all (fitF U a) <;> rfl
  · obtain ⟨n0, h0⟩ := sbelow_does a b
    refine Does.of n0 fun m hm => ?_
    rw [q_lat_below, belowT, if_neg h5, if_neg h4]
    simp only [S0, S9, S1, S2, if_true, if_false, kd_eq, h0 m hm]
    by_cases h1 : kd a = kd b
    · have : ¬ kd a = 4 := fun e => h4 ⟨e, h1 ▸ e⟩
      simp [h1 ▸ this, h1, h5]
    · simp [h1, h5]
theorem lunder_loop (U : T → T → Bool) (l : List T) (b : T) (hl : l.length ≤ 1000) (hb : (terms b).length ≤ 1000) (hp : ∀ x ∈ l, ∀ y ∈ terms b, Dz i_lat_below none [A.t x, A.t y] (1, [A.t (T.bool (belowT U x y))])) : ∀ (k j : Nat), j + k = l.length →
    Dz i_lat_under (some p_lat_under_c1) [A.t (T.node l), A.t (T.int (l.length : Nat)), A.t (T.int j), A.t b] (if (l.drop j).all (fun t => (terms b).any fun u => belowT U t u) then (2, []) else (1, [A.t (T.bool false)])) := by
  intro k
  induction k with
  | zero =>
    intro j hj
    refine Does.now fun m => ?_
    rw [q_lat_under_c1, List.drop_of_length_le (by omega)]
    simp only [S0, S9, S1, S2, if_true, if_false]
    rw [if_neg (by omega)]; rfl
  | succ k ih =>
    intro j hj
    have hlt : j < l.length := by omega
    have hw : IntKind.i64.wrap ((j : Int) + 1) = ((j + 1 : Nat) : Int) := i64succ (by omega)
    have h1 : ∀ y ∈ terms b, Dz i_lat_under_1 none [A.t y, A.t l[j]] (1, [A.t (T.bool (belowT U l[j] y)), A.t l[j]]) := by
      intro y hy
      obtain ⟨n0, h0⟩ := hp _ (List.getElem_mem hlt) y hy
      refine Does.of n0 fun m hm => ?_
      rw [q_lat_under_1]
      simp only [S0, S9, S1, S2, if_true, if_false, h0 m hm]
    obtain ⟨n0, h0⟩ := (hasTerm_does (terms b) l[j] _ hb h1).both (ih (j + 1) (by omega))
    refine Does.of n0 fun m hm => ?_
    obtain ⟨q1, q2⟩ := h0 m hm
    rw [q_lat_under_c1, drop_all hlt]
    simp only [S0, S9, S1, S2, if_true, if_false, at_get hlt, q1, q2, hw]
    rw [if_pos (by omega), if_pos (by omega)]
    cases (terms b).any fun u => belowT U l[j] u <;> simp
theorem lunder_does : ∀ (d : Nat) (a b : T), Sm d a → Sm d b → NR d a → NR d b → Dz i_lat_under none [A.t a, A.t b] (1, [A.t (T.bool (underV d a b))])
  | 0, a, b, ha, _, _, _ => ha.1.elim
  | d + 1, a, b, ha, hb, na, nb => by
    have la := ha.terms
    have lb := hb.terms
    have hp : ∀ x ∈ terms a, ∀ y ∈ terms b, Dz i_lat_below none [A.t x, A.t y] (1, [A.t (T.bool (belowT (underV d) x y))]) := fun x hx y hy =>
      lbelow_does (underV d) x y (by have := ha.flds hx; omega) (by have := hb.flds hy; omega) (fun h => (na x hx h).1) (fun h => (nb y hy h).1)
        fun h1 h2 f hf g hg => lunder_does d _ _ (ha.sub hx hf) (hb.sub hy hg) ((na x hx h1).2 f hf) ((nb y hy h2).2 g hg)
    obtain ⟨n0, h0⟩ := lunder_loop (underV d) (terms a) b (by omega) (by omega) hp (terms a).length 0 (by omega)
    refine Does.of n0 fun m hm => ?_
    have q : den Tryz.prog G0 ents m i_lat_under (some p_lat_under_c1) [A.t (T.node (terms a)), A.t (T.int ((terms a).length : Nat)), A.t (T.int 0), A.t b] = _ := h0 m hm
    rw [List.drop_zero, ← underV_succ] at q
    rw [q_lat_under]
    simp only [S0, S9, S1, S2, if_true, if_false, q]
    cases underV (d + 1) a b <;> rfl
theorem rlack_loop (a b : T) (ha : (flds a).length ≤ 1000) (hb : (flds b).length ≤ 1000) : ∀ (k j : Nat), j + k = (flds a).length →
    Dz i_R09_under (some p_R09_under_c1) [A.t (T.int j), A.t a, A.t b] (if !op b && ((flds a).drop j).any (fun f => decide (findF (flds b) (nm f) 0 < 0)) then (1, [A.t (T.bool false)]) else (2, [A.t a, A.t b])) := by
  intro k
  induction k with
  | zero =>
    intro j hj
    refine Does.now fun m => ?_
    rw [q_R09_under_c1, List.drop_of_length_le (by omega)]
    simp only [S0, S9, S1, S2, if_true, if_false, op_eq]
    rw [if_neg (by omega)]
    simp
  | succ k ih =>
    intro j hj
    have hlt : j < (flds a).length := by omega
    have hw : IntKind.i64.wrap ((j : Int) + 1) = ((j + 1 : Nat) : Int) := i64succ (by omega)
    obtain ⟨n0, h0⟩ := (rfind_does (flds b) (nm (flds a)[j]) hb).both (ih (j + 1) (by omega))
    refine Does.of n0 fun m hm => ?_
    obtain ⟨q1, q2⟩ := h0 m hm
    rw [q_R09_under_c1, drop_any hlt]
    simp only [S0, S9, S1, S2, if_true, if_false, op_eq, at_get hlt, nm_eq, q1, q2, hw, Bool.not_eq_true']
    rw [if_pos (by omega)]
    cases ho : op b with
    | true => simp
    | false =>
      rw [if_pos rfl, if_pos (by omega)]
      by_cases h : findF (flds b) (nm (flds a)[j]) 0 < 0
      · simp [h]
      · simp [h]
theorem rbelow_loop (U : T → T → Bool) (a b : T) (ha : (flds a).length ≤ 1000) (hb : (flds b).length ≤ 1000) (hu : ∀ f ∈ flds a, ∀ g ∈ flds b, Dz i_R09_Under none [A.t (val f), A.t (val g)] (1, [A.t (T.bool (U (val f) (val g)))])) : ∀ (k j : Nat), j + k = (flds b).length →
    Dz i_R09_under (some p_R09_under_c2) [A.t (T.int j), A.t a, A.t b] (if ((flds b).drop j).all (fitF U a) then (4, []) else (1, [A.t (T.bool false)])) := by
  intro k
  induction k with
  | zero =>
    intro j hj
    refine Does.now fun m => ?_
    rw [q_R09_under_c2, List.drop_of_length_le (by omega)]
    simp only [S0, S9, S1, S2, if_true, if_false]
    rw [if_neg (by omega)]; rfl
  | succ k ih =>
    intro j hj
    have hlt : j < (flds b).length := by omega
    have hw : IntKind.i64.wrap ((j : Int) + 1) = ((j + 1 : Nat) : Int) := i64succ (by omega)
    have hle := findF_le (flds a) (nm (flds b)[j]) 0
    rw [drop_all hlt]
    obtain ⟨n1, h1⟩ := rfind_does (flds a) (nm (flds b)[j]) ha
    by_cases hneg : findF (flds a) (nm (flds b)[j]) 0 < 0
    · refine Does.of n1 fun m hm => ?_
      have hf : fitF U a (flds b)[j] = false := by rw [fitF, decide_eq_false (by omega), Bool.false_and]
      rw [q_R09_under_c2]
      simp only [S0, S9, S1, S2, if_true, if_false, at_get hlt, nm_eq, h1 m hm, hf]
      rw [if_pos (by omega), if_pos (by omega), if_neg (by omega)]
      rfl
    · have hk : (findF (flds a) (nm (flds b)[j]) 0).toNat < (flds a).length := by omega
      have h2 := hu _ (List.getElem_mem hk) _ (List.getElem_mem hlt)
      have hf : fitF U a (flds b)[j] = U (val (flds a)[(findF (flds a) (nm (flds b)[j]) 0).toNat]) (val (flds b)[j]) := by rw [fitF, decide_eq_true (by omega), Bool.true_and, atF, at_get hk]
      obtain ⟨n2, h2⟩ := h2.both (ih (j + 1) (by omega))
      refine Does.of (n1 + n2) fun m hm => ?_
      obtain ⟨q2, q3⟩ := h2 m (by omega)
      have q1 := h1 m (by omega)
      rw [q_R09_under_c2, hf]
      simp only [S0, S9, S1, S2, if_true, if_false, at_get hlt, at_get hk, nm_eq, val_eq, q1, q2, q3, hw]
      rw [if_pos (by omega), if_pos (by omega), if_pos (by omega), if_pos (by omega), if_pos (by omega)]
      cases U (val (flds a)[(findF (flds a) (nm (flds b)[j]) 0).toNat]) (val (flds b)[j]) <;> simp
theorem runder1_does (U : T → T → Bool) (a b : T) (ha : (flds a).length ≤ 1000) (hb : (flds b).length ≤ 1000)
    (hu : kd a = 4 → kd b = 4 → ∀ f ∈ flds a, ∀ g ∈ flds b, Dz i_R09_Under none [A.t (val f), A.t (val g)] (1, [A.t (T.bool (U (val f) (val g)))])) : Dz i_R09_under none [A.t a, A.t b] (1, [A.t (T.bool (belowT U a b))]) := by
  by_cases h5 : kd b = 5
  · refine Does.now fun m => ?_
    rw [q_R09_under, belowT, if_pos h5]
    simp only [S0, S9, S1, S2, if_true, if_false, kd_eq, h5]
  by_cases h4 : kd a = 4 ∧ kd b = 4
  · obtain ⟨n1, h1⟩ := rlack_loop a b ha hb (flds a).length 0 (by omega)
    obtain ⟨n2, h2⟩ := rbelow_loop U a b ha hb (hu h4.1 h4.2) (flds b).length 0 (by omega)
    refine Does.of (n1 + n2) fun m hm => ?_
    have q1 : den Tryz.prog G0 ents m i_R09_under (some p_R09_under_c1) [A.t (T.int 0), A.t a, A.t b] = _ := h1 m (by omega)
    have q2 : den Tryz.prog G0 ents m i_R09_under (some p_R09_under_c2) [A.t (T.int 0), A.t a, A.t b] = _ := h2 m (by omega)
    rw [List.drop_zero] at q1 q2
    rw [q_R09_under, belowT, if_neg h5, if_pos h4, lackT]
    simp only [S9, S1, terms_eq, flds_eq, kd_eq, op_eq, h4.1, h4.2, q1]
    generalize (flds a).any (fun f => decide (findF (flds b) (nm f) 0 < 0)) = c1 at q1 ⊢
    generalize (flds b).all (fitF U a) = c2 at q2 ⊢
    cases hoa : op a <;> cases hob : op b <;> cases c1 <;> simp [aAt_zero, aAt_succ, tree_t, q2] <;> cases c2 <;> rfl
  · obtain ⟨n0, h0⟩ := rbelow_does a b
    refine Does.of n0 fun m hm => ?_
    rw [q_R09_under, belowT, if_neg h5, if_neg h4]
    simp only [S0, S9, S1, S2, if_true, if_false, kd_eq, h0 m hm]
    by_cases h1 : kd a = 4
    · have : ¬ kd b = 4 := fun e => h4 ⟨h1, e⟩
      simp [h1, this, h5]
    · simp [h1, h5]
theorem runder_in (U : T → T → Bool) (i : Nat) (a b : T) (hi : i < (terms a).length) (hb : (terms b).length ≤ 1000) (hp : ∀ y ∈ terms b, Dz i_R09_under none [A.t (tAtD (terms a) i), A.t y] (1, [A.t (T.bool (belowT U (tAtD (terms a) i) y))])) : ∀ (k j : Nat) (met : Bool), j + k = (terms b).length →
    Dz i_R09_Under (some p_R09_Under_c2) [A.t (T.int i), A.t (T.bool met), A.t (T.int j), A.t a, A.t b] (4, [A.t (T.int i), A.t (T.bool (met || ((terms b).drop j).any fun u => belowT U (tAtD (terms a) i) u)), A.t a, A.t b]) := by
  intro k
  induction k with
  | zero =>
    intro j met hj
    refine Does.now fun m => ?_
    rw [q_R09_Under_c2, List.drop_of_length_le (by omega)]
    simp only [S0, S9, S1, S2, if_true, if_false]
    rw [if_neg (by omega)]; simp
  | succ k ih =>
    intro j met hj
    have hlt : j < (terms b).length := by omega
    have hw : IntKind.i64.wrap ((j : Int) + 1) = ((j + 1 : Nat) : Int) := i64succ (by omega)
    cases met with
    | true =>
      refine Does.now fun m => ?_
      rw [q_R09_Under_c2]
      simp only [S0, S9, S1, S2, if_true, if_false]
      rw [if_pos (by omega)]; rfl
    | false =>
      have h1 := hp _ (List.getElem_mem hlt)
      obtain ⟨n0, h0⟩ := h1.both (ih (j + 1) (belowT U (tAtD (terms a) i) (terms b)[j]) (by omega))
      refine Does.of n0 fun m hm => ?_
      obtain ⟨q1, q2⟩ := h0 m hm
      rw [q_R09_Under_c2, drop_any hlt]
      simp only [S0, S9, S1, S2, if_true, if_false, at_get hlt, q1, hw, q2, Bool.not_false]
      rw [if_pos (by omega), if_pos (by omega), if_pos (by omega), Bool.false_or]
theorem runder_loop (U : T → T → Bool) (a b : T) (ha : (terms a).length ≤ 1000) (hb : (terms b).length ≤ 1000) (hp : ∀ x ∈ terms a, ∀ y ∈ terms b, Dz i_R09_under none [A.t x, A.t y] (1, [A.t (T.bool (belowT U x y))])) : ∀ (k j : Nat), j + k = (terms a).length →
    Dz i_R09_Under (some p_R09_Under_c1) [A.t (T.int j), A.t a, A.t b] (if ((terms a).drop j).all (fun t => (terms b).any fun u => belowT U t u) then (2, []) else (1, [A.t (T.bool false)])) := by
  intro k
  induction k with
  | zero =>
    intro j hj
    refine Does.now fun m => ?_
    rw [q_R09_Under_c1, List.drop_of_length_le (by omega)]
    simp only [S0, S9, S1, S2, if_true, if_false]
    rw [if_neg (by omega)]; rfl
  | succ k ih =>
    intro j hj
    have hlt : j < (terms a).length := by omega
    have hw : IntKind.i64.wrap ((j : Int) + 1) = ((j + 1 : Nat) : Int) := i64succ (by omega)
    have hin := runder_in U j a b hlt hb (fun y hy => by rw [at_get hlt]; exact hp _ (List.getElem_mem hlt) y hy) (terms b).length 0 false (by omega)
    rw [List.drop_zero, Bool.false_or, at_get hlt] at hin
    obtain ⟨n0, h0⟩ := hin.both (ih (j + 1) (by omega))
    refine Does.of n0 fun m hm => ?_
    obtain ⟨q1, q2⟩ := h0 m hm
    have q1' : den Tryz.prog G0 ents m i_R09_Under (some p_R09_Under_c2) [A.t (T.int j), A.t (T.bool false), A.t (T.int 0), A.t a, A.t b] = _ := q1
    rw [q_R09_Under_c1, drop_all hlt]
    simp only [S0, S9, S1, S2, if_true, if_false, q1', hw, q2]
    rw [if_pos (by omega)]
    cases (terms b).any fun u => belowT U (terms a)[j] u <;> simp
theorem runder_does : ∀ (d : Nat) (a b : T), Sm d a → Sm d b → Dz i_R09_Under none [A.t a, A.t b] (1, [A.t (T.bool (underV d a b))])
  | 0, a, b, ha, _ => ha.1.elim
  | d + 1, a, b, ha, hb => by
    have la := ha.terms
    have lb := hb.terms
    have hp : ∀ x ∈ terms a, ∀ y ∈ terms b, Dz i_R09_under none [A.t x, A.t y] (1, [A.t (T.bool (belowT (underV d) x y))]) := fun x hx y hy =>
      runder1_does (underV d) x y (by have := ha.flds hx; omega) (by have := hb.flds hy; omega)
        fun h1 h2 f hf g hg => runder_does d _ _ (ha.sub hx hf) (hb.sub hy hg)
    obtain ⟨n0, h0⟩ := runder_loop (underV d) a b (by omega) (by omega) hp (terms a).length 0 (by omega)
    refine Does.of n0 fun m hm => ?_
    have q : den Tryz.prog G0 ents m i_R09_Under (some p_R09_Under_c1) [A.t (T.int 0), A.t a, A.t b] = _ := h0 m hm
    rw [List.drop_zero, ← underV_succ] at q
    rw [q_R09_Under]
    simp only [S0, S9, S1, S2, if_true, if_false, q]
    cases underV (d + 1) a b <;> rfl
end Go.Proofs.YtffncdkbcphbgaaGreatDoorFR
namespace Go.Proofs.YtffncdkbcphbgaaGreatDoorFR
open Go Go.Proofs.YtffncdkbcphbgaaGreatDoorVM
set_option linter.unusedVariables false
set_option linter.unusedSimpArgs false
set_option maxRecDepth 100000

def allN (p : Nat → Bool) : Nat → Nat → Bool
  | 0, _ => true
  | k + 1, j => p j && allN p k (j + 1)
theorem allN_iff (p : Nat → Bool) : ∀ k j, allN p k j = true ↔ ∀ i, j ≤ i → i < j + k → p i = true
  | 0, j => by simp [allN]; omega
  | k + 1, j => by
    rw [allN, Bool.and_eq_true, allN_iff p k (j + 1)]
    constructor
    · intro h i h1 h2
      rcases Nat.eq_or_lt_of_le h1 with rfl | h3
      · exact h.1
      · exact h.2 i h3 (by omega)
    · intro h
      exact ⟨h j (by omega) (by omega), fun i h1 h2 => h i (by omega) (by omega)⟩
def anyT : T := trm 5 0 0 emptyB false false false []
def bareT (t : T) : Bool := decide (lo t = 0) && decide (hi t = 0) && decide (tx t = emptyB) && !an t && !mb t
def fullF (R : T → Bool) (f : T) : Bool := decide ((terms (val f)).length ≠ 0) && R (val f)
def okT (R : T → Bool) (d : Nat) (t : T) : Bool :=
  if kd t = 5 then decide (cmpT d t anyT = 0)
  else if kd t = 4 then bareT t && decide ((flds t).length ≤ 32) && names (flds t) && (flds t).all (fullF R)
  else rightS t
def ascAt (d : Nat) (l : List T) (j : Nat) : Bool := j == 0 || decide (cmpT d (tAtD l (j - 1)) (tAtD l j) < 0)
def apart (d : Nat) (l : List T) (i k : Nat) : Bool := decide (i = k) || !belowT (underV d) (tAtD l i) (tAtD l k)
def inOrder (R : T → Bool) (d : Nat) (l : List T) : Bool := allN (fun j => okT R d (tAtD l j) && ascAt d l j) l.length 0
def allApart (d : Nat) (l : List T) : Bool := allN (fun i => allN (apart d l i) l.length 0) l.length 0
def okV : Nat → T → Bool
  | 0, _ => false
  | d + 1, v => inOrder (okV d) d (terms v) && allApart d (terms v)
def listV : Nat → Nat → T → Bool
  | 0, _, _ => false
  | _ + 1, 0, _ => false
  | d + 1, e + 1, v => inOrder (listV d e) d (terms v) && allApart d (terms v)
def refV : Nat → T → Bool
  | 0, _ => false
  | d + 1, v => decide (dep (d + 1) v ≤ 16) && (inOrder (refV d) d (terms v) && allApart d (terms v))
def depT (d : Nat) (t : T) : Nat := maxN ((flds t).map fun f => dep d (val f))
theorem dep_succ (d : Nat) (v : T) : dep (d + 1) v = 1 + maxN ((terms v).map (depT d)) := id rfl
theorem maxN_le (l : List Nat) (e : Nat) : maxN l ≤ e ↔ ∀ x ∈ l, x ≤ e := by
  induction l with
  | nil => simp [maxN]
  | cons a l ih =>
    rw [max_cons, Nat.max_le, ih]
    simp
theorem any_flds {d : Nat} {t : T} (h : cmpT d t anyT = 0) : flds t = [] := by
  unfold cmpT at h
  have hp : cmpL (cmpG d) (flds t) (flds anyT) = 0 := by
    unfold fst at h
    split at h
    · exact h
    · rename_i h1; exact absurd h h1
  cases hf : flds t with
  | nil => rfl
  | cons f l =>
    rw [hf] at hp
    have : flds anyT = [] := rfl
    rw [this] at hp
    simp [cmpL] at hp
theorem okT_flds {R : T → Bool} {d : Nat} {t : T} (h : okT R d t = true) (h4 : kd t ≠ 4) : flds t = [] := by
  unfold okT at h
  split at h
  · exact any_flds (of_decide_eq_true h)
  · exact (right_op h).2.1
theorem okT_deep {R S : T → Bool} {d e : Nat} {t : T} (hR : ∀ f ∈ flds t, R (val f) = (S (val f) && decide (dep d (val f) ≤ e))) : okT R d t = (okT S d t && decide (depT d t ≤ e)) := by
  by_cases h4 : kd t = 4
  · have hall : (flds t).all (fullF R) = ((flds t).all (fullF S) && decide (depT d t ≤ e)) := by
      rw [Bool.eq_iff_iff, Bool.and_eq_true, decide_eq_true_eq, List.all_eq_true, List.all_eq_true, depT, maxN_le]
      simp only [fullF, List.mem_map, forall_exists_index, and_imp, forall_apply_eq_imp_iff₂]
      constructor
      · intro h
        refine ⟨fun f hf => ?_, fun f hf => ?_⟩
        · have := h f hf; rw [hR f hf] at this; simp only [Bool.and_eq_true, decide_eq_true_eq] at this ⊢; exact ⟨this.1, this.2.1⟩
        · have := h f hf; rw [hR f hf] at this; simp only [Bool.and_eq_true, decide_eq_true_eq] at this; exact this.2.2
      · rintro ⟨h1, h2⟩ f hf
        have := h1 f hf; rw [hR f hf]; simp only [Bool.and_eq_true, decide_eq_true_eq] at this ⊢; exact ⟨this.1, this.2, h2 f hf⟩
    unfold okT
    rw [if_neg (by omega), if_pos h4, if_neg (by omega), if_pos h4, hall, Bool.and_assoc]
    simp only [Bool.and_assoc]
  · have he : okT R d t = okT S d t := by unfold okT; rw [if_neg h4, if_neg h4]
    rw [he]
    cases hb : okT S d t with
    | false => rfl
    | true =>
      have : depT d t = 0 := by rw [depT, okT_flds hb h4]; rfl
      rw [this]; simp
theorem order_deep {R S : T → Bool} {d e : Nat} {l : List T} (hR : ∀ t ∈ l, ∀ f ∈ flds t, R (val f) = (S (val f) && decide (dep d (val f) ≤ e))) : inOrder R d l = (inOrder S d l && decide (maxN (l.map (depT d)) ≤ e)) := by
  have hT : ∀ j, j < l.length → okT R d (tAtD l j) = (okT S d (tAtD l j) && decide (depT d (tAtD l j) ≤ e)) := fun j hj => okT_deep (by rw [at_get hj]; exact hR _ (List.getElem_mem hj))
  unfold inOrder
  rw [Bool.eq_iff_iff, Bool.and_eq_true, decide_eq_true_eq, allN_iff, allN_iff, maxN_le]
  simp only [Nat.zero_le, true_implies, Nat.zero_add, List.mem_map, forall_exists_index, and_imp, forall_apply_eq_imp_iff₂]
  constructor
  · intro h
    refine ⟨fun i hi => ?_, fun t ht => ?_⟩
    · have := h i hi; rw [hT i hi] at this; simp only [Bool.and_eq_true, decide_eq_true_eq] at this ⊢; exact ⟨this.1.1, this.2⟩
    · obtain ⟨i, hi, rfl⟩ := List.getElem_of_mem ht
      have := h i hi; rw [hT i hi, at_get hi] at this; simp only [Bool.and_eq_true, decide_eq_true_eq] at this; exact this.1.2
  · rintro ⟨h1, h2⟩ i hi
    have := h1 i hi; rw [hT i hi]; simp only [Bool.and_eq_true, decide_eq_true_eq] at this ⊢
    exact ⟨⟨this.1, by rw [at_get hi]; exact h2 _ (List.getElem_mem hi)⟩, this.2⟩
theorem listV_eq : ∀ (d e : Nat) (v : T), listV d e v = (okV d v && decide (dep d v ≤ e))
  | 0, e, v => by simp [listV, okV]
  | d + 1, 0, v => by rw [dep_succ, decide_eq_false (by omega), Bool.and_false]; rfl
  | d + 1, e + 1, v => by
    rw [listV, okV, order_deep (S := okV d) (e := e) (fun t _ f _ => listV_eq d e (val f)), dep_succ]
    have : decide (1 + maxN ((terms v).map (depT d)) ≤ e + 1) = decide (maxN ((terms v).map (depT d)) ≤ e) := decide_eq_decide.2 (by omega)
    rw [this, Bool.and_assoc, Bool.and_assoc, Bool.and_comm (decide _)]
theorem refV_eq : ∀ (d : Nat) (v : T), refV d v = (okV d v && decide (dep d v ≤ 16))
  | 0, v => by simp [refV, okV]
  | d + 1, v => by
    rw [refV, okV, order_deep (S := okV d) (e := 16) (fun t _ f _ => refV_eq d (val f)), Bool.and_comm]
    cases h : decide (dep (d + 1) v ≤ 16) with
    | false => rw [Bool.and_false, Bool.and_false]
    | true =>
      have h1 := of_decide_eq_true h
      rw [dep_succ] at h1
      rw [decide_eq_true (by omega : maxN ((terms v).map (depT d)) ≤ 16)]
      simp only [Bool.and_true]
theorem refV_list (d : Nat) (v : T) : refV d v = listV d 16 v := by rw [refV_eq, listV_eq]
theorem okV_NR : ∀ (d : Nat) (v : T), okV d v = true → NR d v
  | 0, v, h => by cases h
  | d + 1, v, h => by
    rw [okV, Bool.and_eq_true] at h
    intro t ht h4
    obtain ⟨i, hi, rfl⟩ := List.getElem_of_mem ht
    have := (allN_iff _ _ _).1 h.1 i (by omega) (by omega)
    rw [at_get hi, Bool.and_eq_true] at this
    have h1 := this.1
    unfold okT at h1
    rw [if_neg (by omega), if_pos h4, Bool.and_eq_true, Bool.and_eq_true, List.all_eq_true] at h1
    refine ⟨names_rise h1.1.2, fun f hf => okV_NR d _ ?_⟩
    have := h1.2 f hf
    rw [fullF, Bool.and_eq_true] at this
    exact this.2
theorem NRt_of {d : Nat} {R : T → Bool} {t : T} (hR : ∀ f ∈ flds t, R (val f) = true → NR d (val f)) (h : okT R d t = true) : NRt d t := by
  intro h4
  unfold okT at h
  rw [if_neg (by omega), if_pos h4, Bool.and_eq_true, Bool.and_eq_true, List.all_eq_true] at h
  refine ⟨names_rise h.1.2, fun f hf => hR f hf ?_⟩
  have := h.2 f hf
  rw [fullF, Bool.and_eq_true] at this
  exact this.2
theorem listV_NR {d e : Nat} {v : T} (h : listV d e v = true) : NR d v := by
  rw [listV_eq, Bool.and_eq_true] at h
  exact okV_NR d v h.1
end Go.Proofs.YtffncdkbcphbgaaGreatDoorFR
namespace Go.Proofs.YtffncdkbcphbgaaGreatDoorFR
open Go Go.Proofs.YtffncdkbcphbgaaGreatDoorVM
set_option linter.unusedVariables false
set_option linter.unusedSimpArgs false
set_option maxRecDepth 100000

theorem anyT_eq : T.node [T.int 5, T.int 0, T.int 0, T.str ByteArray.empty, T.bool false, T.bool false, T.bool false, T.node []] = anyT := id rfl
theorem Sm_any (d : Nat) : SmT d anyT := ⟨by decide, fun f hf => absurd hf (by show ¬ f ∈ []; simp)⟩
theorem beqI (a b : Int) : (a == b) = decide (a = b) := Bool.beq_eq_decide_eq a b
theorem anything_does {d : Nat} {t : T} (h : SmT d t) : Dz i_lat_anything none [A.t t] (1, [A.t (T.bool (decide (cmpT d t anyT = 0)))]) := by
  obtain ⟨n0, h0⟩ := pt_does h (Sm_any d)
  refine Does.of n0 fun m hm => ?_
  rw [q_lat_anything]; simp only [S9, S1]; rw [anyT_eq]
  simp only [S0, S9, S1, S2, if_true, if_false, h0 m hm, beqI]
theorem lbare_does (t : T) : Dz i_lat_bare none [A.t t] (1, [A.t (T.bool (bareT t))]) := by
  refine Does.now fun m => ?_
  rw [q_lat_bare]
  simp only [S9, S1, Option.map_some, Option.bind_some, aAt_zero, tree_t, tf_bool, kd_eq, lo_eq, hi_eq, tx_eq, an_eq, mb_eq, seq_dec, eb_eq, bareT, Bool.cond_eq_ite, Bool.beq_eq_decide_eq, coll]
  apply ans
  generalize mb t = m
  generalize an t = a
  generalize tx t = x
  generalize lo t = l
  generalize hi t = h
  grind
theorem shaped_loop (R : T → Bool) (l : List T) (e : Nat) (he : e ≤ 1000) (hl : l.length ≤ 1000) (hR : ∀ f ∈ l, Dz i_lat_listed none [A.t (val f), A.t (T.int e)] (1, [A.t (T.bool (R (val f)))])) : ∀ (k j : Nat), j + k = l.length →
    Dz i_lat_shaped (some p_lat_shaped_c1) [A.t (T.int (e + 1 : Nat)), A.t (T.node l), A.t (T.int (l.length : Nat)), A.t (T.int j)] (if (l.drop j).all (fullF R) then (3, []) else (1, [A.t (T.bool false)])) := by
  intro k
  induction k with
  | zero =>
    intro j hj
    refine Does.now fun m => ?_
    rw [q_lat_shaped_c1, List.drop_of_length_le (by omega)]
    simp only [S0, S9, S1, S2, if_true, if_false]
    rw [if_neg (by omega)]; rfl
  | succ k ih =>
    intro j hj
    have hlt : j < l.length := by omega
    have hw : IntKind.i64.wrap ((j : Int) + 1) = ((j + 1 : Nat) : Int) := i64succ (by omega)
    have hd : IntKind.i64.wrap (((e + 1 : Nat) : Int) - 1) = ((e : Nat) : Int) := by rw [w64 (by omega) (by omega)]; omega
    obtain ⟨n0, h0⟩ := (hR _ (List.getElem_mem hlt)).both (ih (j + 1) (by omega))
    refine Does.of n0 fun m hm => ?_
    obtain ⟨q1, q2⟩ := h0 m hm
    rw [q_lat_shaped_c1, drop_all hlt]
    simp only [S0, S9, S1, S2, if_true, if_false, at_get hlt, val_eq, hw, hd, q1, q2, fullF, e0_zero, Bool.not_eq_true']
    rw [if_pos (by omega), if_pos (by omega)]
    by_cases hz : (terms (val l[j])).length = 0
    · rw [if_neg (by simp [hz]), if_neg (by simp [hz])]
    · rw [if_pos (by simp [hz])]
      cases R (val l[j]) <;> simp [hz]
theorem shaped_does (R : T → Bool) (d : Nat) (t : T) (ht : SmT d t) (e : Nat) (he : e ≤ 1000) (hR : kd t = 4 → ∀ f ∈ flds t, Dz i_lat_listed none [A.t (val f), A.t (T.int e)] (1, [A.t (T.bool (R (val f)))])) : Dz i_lat_shaped none [A.t t, A.t (T.int (e + 1 : Nat))] (1, [A.t (T.bool (okT R d t))]) := by
  have hl := ht.1
  by_cases h5 : kd t = 5
  · obtain ⟨n0, h0⟩ := anything_does ht
    refine Does.of n0 fun m hm => ?_
    rw [q_lat_shaped, okT, if_pos h5]
    simp only [S0, S9, S1, S2, if_true, if_false, kd_eq, h0 m hm, h5]
  by_cases h4 : kd t = 4
  · obtain ⟨n1, h1⟩ := (lbare_does t).both (rising_does (flds t) (by omega))
    obtain ⟨n2, h2⟩ := shaped_loop R (flds t) e he (by omega) (hR h4) (flds t).length 0 (by omega)
    refine Does.of (n1 + n2) fun m hm => ?_
    obtain ⟨q1, q2⟩ := h1 m (by omega)
    have q3 : den Tryz.prog G0 ents m i_lat_shaped (some p_lat_shaped_c1) [A.t (T.int (e + 1 : Nat)), A.t (T.node (flds t)), A.t (T.int ((flds t).length : Nat)), A.t (T.int 0)] = _ := h2 m (by omega)
    rw [List.drop_zero] at q3
    rw [q_lat_shaped, okT, if_neg h5, if_pos h4]
    simp only [S9, S1, terms_eq, flds_eq, num_int, kd_eq, h4, q1, q2, q3]
    have h32 : decide ((((flds t).length : Nat) : Int) > 32) = !decide ((flds t).length ≤ 32) := by rw [Bool.eq_iff_iff]; simp; omega
    rw [h32]
    generalize (flds t).all (fullF R) = c
    generalize decide ((flds t).length ≤ 32) = c2
    generalize names (flds t) = c3
    generalize bareT t = c4
    cases c <;> cases c2 <;> cases c3 <;> cases c4 <;> rfl
  · obtain ⟨n0, h0⟩ := sright_does t
    refine Does.of n0 fun m hm => ?_
    rw [q_lat_shaped, okT, if_neg h5, if_neg h4]
    simp only [S0, S9, S1, S2, if_true, if_false, kd_eq, h0 m hm, h5, h4]
theorem listed_c1 (R : T → Bool) (d : Nat) (v : T) (hv : Sm (d + 1) v) (e : Nat) (he : e ≤ 1000) (hR : ∀ t ∈ terms v, ∀ f ∈ flds t, Dz i_lat_listed none [A.t (val f), A.t (T.int e)] (1, [A.t (T.bool (R (val f)))])) : ∀ (k j : Nat), j + k = (terms v).length →
    Dz i_lat_listed (some p_lat_listed_c1) [A.t (T.int (e + 1 : Nat)), A.t (T.node (terms v)), A.t (T.int ((terms v).length : Nat)), A.t (T.int j), A.t v] (if allN (fun j => okT R d (tAtD (terms v) j) && ascAt d (terms v) j) k j then (2, [A.t v]) else (1, [A.t (T.bool false)])) := by
  have hl := hv.terms
  intro k
  induction k with
  | zero =>
    intro j hj
    refine Does.now fun m => ?_
    rw [q_lat_listed_c1, allN]
    simp only [S0, S9, S1, S2, if_true, if_false]
    rw [if_neg (by omega)]
  | succ k ih =>
    intro j hj
    have hlt : j < (terms v).length := by omega
    have hw : IntKind.i64.wrap ((j : Int) + 1) = ((j + 1 : Nat) : Int) := i64succ (by omega)
    have hm := List.getElem_mem hlt
    have hs := shaped_does R d (terms v)[j] (hv.term hm) e he (fun _ => hR _ hm)
    rw [allN, at_get hlt]
    by_cases h0 : j = 0
    · subst h0
      obtain ⟨n0, h0⟩ := hs.both (ih (0 + 1) (by omega))
      refine Does.of n0 fun m hm => ?_
      obtain ⟨q1, q2⟩ := h0 m hm
      have hasc : ascAt d (terms v) 0 = true := rfl
      rw [hasc, q_lat_listed_c1]
      simp only [S0, S9, S1, S2, if_true, if_false, at_get hlt, hw, q1, q2, Bool.and_true]
      rw [if_pos (by omega), if_pos (by omega)]
      cases okT R d (terms v)[0] <;> simp
    · have hlt2 : j - 1 < (terms v).length := by omega
      have hp : IntKind.i64.wrap ((j : Int) - 1) = ((j - 1 : Nat) : Int) := by rw [w64 (by omega) (by omega)]; omega
      obtain ⟨n0, h0'⟩ := hs.both (ih (j + 1) (by omega))
      obtain ⟨n1, h1⟩ := pt_does (hv.term (List.getElem_mem hlt2)) (hv.term hm)
      refine Does.of (n0 + n1) fun m hm => ?_
      obtain ⟨q1, q2⟩ := h0' m (by omega)
      have q3 := h1 m (by omega)
      have hasc : ascAt d (terms v) j = decide (cmpT d (terms v)[j - 1] (terms v)[j] < 0) := by
        rw [ascAt, at_get hlt, at_get hlt2, show (j == 0) = false by simp [h0]]; rfl
      rw [hasc, q_lat_listed_c1]
      simp only [S0, S9, S1, S2, if_true, if_false, at_get hlt, at_get hlt2, hw, hp, q1, q2, q3]
      rw [if_pos (by omega), if_pos (by omega)]
      cases okT R d (terms v)[j] with
      | false => simp
      | true =>
        rw [if_pos (by rfl), if_pos (by omega), if_pos (by omega)]
        by_cases hc : cmpT d (terms v)[j - 1] (terms v)[j] < 0
        · rw [if_neg (by omega)]; simp [hc]
        · rw [if_pos (by omega)]; simp [hc]
theorem listed_c3 (d : Nat) (v : T) (i : Nat) (hi : i < (terms v).length) (hl : (terms v).length ≤ 1000) (hb : ∀ y ∈ terms v, Dz i_lat_below none [A.t (terms v)[i], A.t y] (1, [A.t (T.bool (belowT (underV d) (terms v)[i] y))])) : ∀ (k j : Nat), j + k = (terms v).length →
    Dz i_lat_listed (some p_lat_listed_c3) [A.t (T.int i), A.t (T.node (terms v)), A.t (T.int ((terms v).length : Nat)), A.t (T.int i), A.t (T.node (terms v)), A.t (T.int ((terms v).length : Nat)), A.t (T.int j), A.t v, A.t (terms v)[i]] (if allN (apart d (terms v) i) k j then (6, [A.t (T.node (terms v)), A.t (T.int ((terms v).length : Nat)), A.t (T.int i), A.t v]) else (1, [A.t (T.bool false)])) := by
  intro k
  induction k with
  | zero =>
    intro j hj
    refine Does.now fun m => ?_
    rw [q_lat_listed_c3, allN]
    simp only [S0, S9, S1, S2, if_true, if_false]
    rw [if_neg (by omega)]
  | succ k ih =>
    intro j hj
    have hlt : j < (terms v).length := by omega
    have hw : IntKind.i64.wrap ((j : Int) + 1) = ((j + 1 : Nat) : Int) := i64succ (by omega)
    obtain ⟨n0, h0⟩ := (hb _ (List.getElem_mem hlt)).both (ih (j + 1) (by omega))
    refine Does.of n0 fun m hm => ?_
    obtain ⟨q1, q2⟩ := h0 m hm
    have hap : apart d (terms v) i j = (decide (i = j) || !belowT (underV d) (terms v)[i] (terms v)[j]) := by rw [apart, at_get hi, at_get hlt]
    rw [q_lat_listed_c3, allN, hap]
    simp only [S0, S9, S1, S2, if_true, if_false, at_get hlt, hw, q1, q2]
    rw [if_pos (by omega), if_pos (by omega)]
    by_cases he : i = j
    · rw [if_neg (by omega)]; simp [he]
    · rw [if_pos (by omega)]
      cases belowT (underV d) (terms v)[i] (terms v)[j] <;> simp [he]
theorem listed_c2 (d : Nat) (v : T) (hl : (terms v).length ≤ 1000) (hb : ∀ x ∈ terms v, ∀ y ∈ terms v, Dz i_lat_below none [A.t x, A.t y] (1, [A.t (T.bool (belowT (underV d) x y))])) : ∀ (k j : Nat), j + k = (terms v).length →
    Dz i_lat_listed (some p_lat_listed_c2) [A.t (T.node (terms v)), A.t (T.int ((terms v).length : Nat)), A.t (T.int j), A.t v] (if allN (fun i => allN (apart d (terms v) i) (terms v).length 0) k j then (4, []) else (1, [A.t (T.bool false)])) := by
  intro k
  induction k with
  | zero =>
    intro j hj
    refine Does.now fun m => ?_
    rw [q_lat_listed_c2, allN]
    simp only [S0, S9, S1, S2, if_true, if_false]
    rw [if_neg (by omega)]
  | succ k ih =>
    intro j hj
    have hlt : j < (terms v).length := by omega
    have hw : IntKind.i64.wrap ((j : Int) + 1) = ((j + 1 : Nat) : Int) := i64succ (by omega)
    obtain ⟨n0, h0⟩ := (listed_c3 d v j hlt hl (hb _ (List.getElem_mem hlt)) (terms v).length 0 (by omega)).both (ih (j + 1) (by omega))
    refine Does.of n0 fun m hm => ?_
    obtain ⟨q1, q2⟩ := h0 m hm
    have q1' : den Tryz.prog G0 ents m i_lat_listed (some p_lat_listed_c3) [A.t (T.int j), A.t (T.node (terms v)), A.t (T.int ((terms v).length : Nat)), A.t (T.int j), A.t (T.node (terms v)), A.t (T.int ((terms v).length : Nat)), A.t (T.int 0), A.t v, A.t (terms v)[j]] = _ := q1
    rw [q_lat_listed_c2, allN]
    simp only [S9, S1, terms_eq, kids_node, num_int, Int.toNat_natCast, at_get hlt, q1']
    generalize allN (apart d (terms v) j) (terms v).length 0 = c
    cases c with
    | false =>
      simp only [S0, S9, S1, S2, if_true, if_false]
      rw [if_pos (by omega), if_pos (by omega)]
      rfl
    | true =>
      simp only [S0, S9, S1, S2, if_true, if_false, hw, q2, show Nat.beq 6 6 = true from rfl, true_and]
      rw [if_pos (by omega), if_pos (by omega)]
theorem listed_does : ∀ (d e : Nat) (v : T), e ≤ 1000 → Sm d v → Dz i_lat_listed none [A.t v, A.t (T.int e)] (1, [A.t (T.bool (listV d e v))])
  | 0, _, v, _, h => h.1.elim
  | d + 1, 0, v, _, h => by
    refine Does.now fun m => ?_
    rw [q_lat_listed]
    simp only [S0, S9, S1, S2, if_true, if_false]
    rfl
  | d + 1, e + 1, v, he, h => by
    have hl := h.terms
    have hR : ∀ t ∈ terms v, ∀ f ∈ flds t, Dz i_lat_listed none [A.t (val f), A.t (T.int e)] (1, [A.t (T.bool (listV d e (val f)))]) := fun t ht f hf => listed_does d e (val f) (by omega) (h.sub ht hf)
    obtain ⟨n1, h1⟩ := listed_c1 (listV d e) d v h e (by omega) hR (terms v).length 0 (by omega)
    have q1' : ∀ m, n1 ≤ m → den Tryz.prog G0 ents m i_lat_listed (some p_lat_listed_c1) [A.t (T.int (e + 1 : Nat)), A.t (T.node (terms v)), A.t (T.int ((terms v).length : Nat)), A.t (T.int 0), A.t v] = some (if inOrder (listV d e) d (terms v) then (2, [A.t v]) else (1, [A.t (T.bool false)])) := h1
    rw [listV]
    cases ho : inOrder (listV d e) d (terms v) with
    | false =>
      rw [ho] at q1'
      refine Does.of n1 fun m hm => ?_
      rw [q_lat_listed]
      simp only [S0, S9, S1, S2, if_true, if_false, q1' m hm]
      rw [if_pos (by omega), if_neg (by omega)]
      rfl
    | true =>
      rw [ho] at q1'
      have hN : ∀ t ∈ terms v, NRt d t := fun t ht => by
        obtain ⟨i, hi, rfl⟩ := List.getElem_of_mem ht
        have := (allN_iff _ _ _).1 ho i (by omega) (by omega)
        rw [at_get hi, Bool.and_eq_true] at this
        exact NRt_of (fun f hf h => listV_NR h) this.1
      have hb : ∀ x ∈ terms v, ∀ y ∈ terms v, Dz i_lat_below none [A.t x, A.t y] (1, [A.t (T.bool (belowT (underV d) x y))]) := fun x hx y hy =>
        lbelow_does (underV d) x y (by have := h.flds hx; omega) (by have := h.flds hy; omega) (fun h4 => (hN x hx h4).1) (fun h4 => (hN y hy h4).1)
          fun h1 h2 f hf g hg => lunder_does d _ _ (h.sub hx hf) (h.sub hy hg) ((hN x hx h1).2 f hf) ((hN y hy h2).2 g hg)
      obtain ⟨n2, h2⟩ := listed_c2 d v (by omega) hb (terms v).length 0 (by omega)
      have q2' : ∀ m, n2 ≤ m → den Tryz.prog G0 ents m i_lat_listed (some p_lat_listed_c2) [A.t (T.node (terms v)), A.t (T.int ((terms v).length : Nat)), A.t (T.int 0), A.t v] = some (if allApart d (terms v) then (4, []) else (1, [A.t (T.bool false)])) := h2
      refine Does.of (n1 + n2) fun m hm => ?_
      rw [q_lat_listed]
      simp only [S0, S9, S1, S2, if_true, if_false, q1' m (by omega), q2' m (by omega)]
      rw [if_pos (by omega), if_neg (by omega)]
      cases allApart d (terms v) <;> rfl
theorem lright_does {v : T} (h : Sm 20 v) : Dz i_lat_Right none [A.t v] (1, [A.t (T.bool (refV 20 v))]) := by
  obtain ⟨n0, h0⟩ := (listed_does 20 16 v (by omega) h).both (pweight_does 20 v h)
  have hw := h.2
  refine Does.of n0 fun m hm => ?_
  obtain ⟨q1, q2⟩ := h0 m hm
  have q1' : den Tryz.prog G0 ents m i_lat_listed none [A.t v, A.t (T.int 16)] = _ := q1
  rw [refV_list, q_lat_Right]
  simp only [S0, S9, S1, S2, if_true, if_false, q1', q2]
  cases listV 20 16 v with
  | false => rfl
  | true => rw [if_pos rfl, decide_eq_true (by omega)]
end Go.Proofs.YtffncdkbcphbgaaGreatDoorFR
namespace Go.Proofs.YtffncdkbcphbgaaGreatDoorFR
open Go Go.Proofs.YtffncdkbcphbgaaGreatDoorVM
set_option linter.unusedVariables false
set_option linter.unusedSimpArgs false
set_option maxRecDepth 100000

theorem rterm_loop (R : T → Bool) (t : T) (hl : (flds t).length ≤ 1000) (hR : ∀ f ∈ flds t, Dz i_R09_Right none [A.t (val f)] (1, [A.t (T.bool (R (val f)))])) : ∀ (k j : Nat), j + k = (flds t).length →
    Dz i_R09_Term (some p_R09_Term_c1) [A.t (T.int j), A.t t] (if ((flds t).drop j).all (fullF R) then (2, []) else (1, [A.t (T.bool false)])) := by
  intro k
  induction k with
  | zero =>
    intro j hj
    refine Does.now fun m => ?_
    rw [q_R09_Term_c1, List.drop_of_length_le (by omega)]
    simp only [S0, S9, S1, S2, if_true, if_false]
    rw [if_neg (by omega)]; rfl
  | succ k ih =>
    intro j hj
    have hlt : j < (flds t).length := by omega
    have hw : IntKind.i64.wrap ((j : Int) + 1) = ((j + 1 : Nat) : Int) := i64succ (by omega)
    obtain ⟨n0, h0⟩ := (hR _ (List.getElem_mem hlt)).both (ih (j + 1) (by omega))
    refine Does.of n0 fun m hm => ?_
    obtain ⟨q1, q2⟩ := h0 m hm
    rw [q_R09_Term_c1, drop_all hlt]
    simp only [S0, S9, S1, S2, if_true, if_false, at_get hlt, val_eq, hw, q1, q2, fullF, e0_zero, Bool.not_eq_true']
    rw [if_pos (by omega), if_pos (by omega)]
    by_cases hz : (terms (val (flds t)[j])).length = 0
    · rw [if_neg (by simp [hz]), if_neg (by simp [hz])]
    · rw [if_pos (by simp [hz]), if_pos (by omega)]
      cases R (val (flds t)[j]) <;> simp [hz]
theorem rterm_does (R : T → Bool) (d : Nat) (t : T) (ht : SmT d t) (hR : kd t = 4 → ∀ f ∈ flds t, Dz i_R09_Right none [A.t (val f)] (1, [A.t (T.bool (R (val f)))])) : Dz i_R09_Term none [A.t t] (1, [A.t (T.bool (okT R d t))]) := by
  have hl := ht.1
  by_cases h5 : kd t = 5
  · obtain ⟨n0, h0⟩ := rt_does ht (Sm_any d)
    refine Does.of n0 fun m hm => ?_
    rw [q_R09_Term, okT, if_pos h5]; simp only [S9, S1]; rw [anyT_eq]
    simp only [S0, S9, S1, S2, if_true, if_false, kd_eq, h0 m hm, h5, beqI]
  by_cases h4 : kd t = 4
  · obtain ⟨n1, h1⟩ := rnames_does (flds t) (by omega)
    obtain ⟨n2, h2⟩ := rterm_loop R t (by omega) (hR h4) (flds t).length 0 (by omega)
    refine Does.of (n1 + n2) fun m hm => ?_
    have q2 := h1 m (by omega)
    have q3 : den Tryz.prog G0 ents m i_R09_Term (some p_R09_Term_c1) [A.t (T.int 0), A.t t] = _ := h2 m (by omega)
    rw [List.drop_zero] at q3
    rw [q_R09_Term, okT, if_neg h5, if_pos h4]
    simp only [S9, S1, terms_eq, flds_eq, num_int, kd_eq, h4, lo_eq, hi_eq, tx_eq, an_eq, mb_eq, eb_eq, seq_dec, q2, q3, bareT]
    have h32 : decide ((((flds t).length : Nat) : Int) > 32) = !decide ((flds t).length ≤ 32) := by rw [Bool.eq_iff_iff]; simp; omega
    have hlo : (lo t != 0) = !decide (lo t = 0) := by rw [bne, beqI]
    have hhi : (hi t != 0) = !decide (hi t = 0) := by rw [bne, beqI]
    rw [h32, hlo, hhi]
    generalize (flds t).all (fullF R) = c
    generalize decide ((flds t).length ≤ 32) = c2
    generalize names (flds t) = c3
    generalize decide (lo t = 0) = c4
    generalize decide (hi t = 0) = c5
    generalize decide (tx t = emptyB) = c6
    generalize an t = c7
    generalize mb t = c8
    cases c4 <;> cases c5 <;> cases c6 <;> cases c7 <;> cases c8 <;> cases c2 <;> cases c3 <;> cases c <;> rfl
  · obtain ⟨n0, h0⟩ := rright_does t
    refine Does.of n0 fun m hm => ?_
    rw [q_R09_Term, okT, if_neg h5, if_neg h4]
    simp only [S0, S9, S1, S2, if_true, if_false, kd_eq, h0 m hm, h5, h4, not_false_eq_true]
theorem rright_c1 (R : T → Bool) (d : Nat) (v : T) (hv : Sm (d + 1) v) (hR : ∀ t ∈ terms v, ∀ f ∈ flds t, Dz i_R09_Right none [A.t (val f)] (1, [A.t (T.bool (R (val f)))])) : ∀ (k j : Nat), j + k = (terms v).length →
    Dz i_R09_Right (some p_R09_Right_c1) [A.t (T.int j), A.t v] (if allN (fun j => okT R d (tAtD (terms v) j) && ascAt d (terms v) j) k j then (2, [A.t v]) else (1, [A.t (T.bool false)])) := by
  have hl := hv.terms
  intro k
  induction k with
  | zero =>
    intro j hj
    refine Does.now fun m => ?_
    rw [q_R09_Right_c1, allN]
    simp only [S0, S9, S1, S2, if_true, if_false]
    rw [if_neg (by omega)]
  | succ k ih =>
    intro j hj
    have hlt : j < (terms v).length := by omega
    have hw : IntKind.i64.wrap ((j : Int) + 1) = ((j + 1 : Nat) : Int) := i64succ (by omega)
    have hm := List.getElem_mem hlt
    have hs := rterm_does R d (terms v)[j] (hv.term hm) (fun _ => hR _ hm)
    rw [allN, at_get hlt]
    by_cases h0 : j = 0
    · subst h0
      obtain ⟨n0, h0⟩ := hs.both (ih (0 + 1) (by omega))
      refine Does.of n0 fun m hm => ?_
      obtain ⟨q1, q2⟩ := h0 m hm
      have hasc : ascAt d (terms v) 0 = true := rfl
      rw [hasc, q_R09_Right_c1]
      simp only [S0, S9, S1, S2, if_true, if_false, at_get hlt, hw, q1, q2, Bool.and_true]
      rw [if_pos (by omega), if_pos (by omega)]
      cases okT R d (terms v)[0] <;> simp
    · have hlt2 : j - 1 < (terms v).length := by omega
      have hp : IntKind.i64.wrap ((j : Int) - 1) = ((j - 1 : Nat) : Int) := by rw [w64 (by omega) (by omega)]; omega
      obtain ⟨n0, h0'⟩ := hs.both (ih (j + 1) (by omega))
      obtain ⟨n1, h1⟩ := rt_does (hv.term (List.getElem_mem hlt2)) (hv.term hm)
      refine Does.of (n0 + n1) fun m hm => ?_
      obtain ⟨q1, q2⟩ := h0' m (by omega)
      have q3 := h1 m (by omega)
      have hasc : ascAt d (terms v) j = decide (cmpT d (terms v)[j - 1] (terms v)[j] < 0) := by
        rw [ascAt, at_get hlt, at_get hlt2, show (j == 0) = false by simp [h0]]; rfl
      rw [hasc, q_R09_Right_c1]
      simp only [S0, S9, S1, S2, if_true, if_false, at_get hlt, at_get hlt2, hw, hp, q1, q2, q3]
      rw [if_pos (by omega), if_pos (by omega)]
      cases okT R d (terms v)[j] with
      | false => simp
      | true =>
        rw [if_pos (by rfl), if_pos (by omega), if_pos (by omega), if_pos (by omega)]
        by_cases hc : cmpT d (terms v)[j - 1] (terms v)[j] < 0
        · rw [if_neg (by omega)]; simp [hc]
        · rw [if_pos (by omega)]; simp [hc]
theorem rright_c3 (d : Nat) (v : T) (i : Nat) (hi : i < (terms v).length) (hl : (terms v).length ≤ 1000) (hb : ∀ y ∈ terms v, Dz i_R09_under none [A.t (terms v)[i], A.t y] (1, [A.t (T.bool (belowT (underV d) (terms v)[i] y))])) : ∀ (k j : Nat), j + k = (terms v).length →
    Dz i_R09_Right (some p_R09_Right_c3) [A.t (T.int i), A.t (T.int j), A.t v] (if allN (apart d (terms v) i) k j then (6, [A.t (T.int i), A.t v]) else (1, [A.t (T.bool false)])) := by
  intro k
  induction k with
  | zero =>
    intro j hj
    refine Does.now fun m => ?_
    rw [q_R09_Right_c3, allN]
    simp only [S0, S9, S1, S2, if_true, if_false]
    rw [if_neg (by omega)]
  | succ k ih =>
    intro j hj
    have hlt : j < (terms v).length := by omega
    have hw : IntKind.i64.wrap ((j : Int) + 1) = ((j + 1 : Nat) : Int) := i64succ (by omega)
    obtain ⟨n0, h0⟩ := (hb _ (List.getElem_mem hlt)).both (ih (j + 1) (by omega))
    refine Does.of n0 fun m hm => ?_
    obtain ⟨q1, q2⟩ := h0 m hm
    have hap : apart d (terms v) i j = (decide (i = j) || !belowT (underV d) (terms v)[i] (terms v)[j]) := by rw [apart, at_get hi, at_get hlt]
    rw [q_R09_Right_c3, allN, hap]
    simp only [S0, S9, S1, S2, if_true, if_false, at_get hlt, at_get hi, hw, q1, q2]
    rw [if_pos (by omega)]
    by_cases he : i = j
    · rw [if_neg (by omega)]; simp [he]
    · rw [if_pos (by omega), if_pos (by omega), if_pos (by omega)]
      cases belowT (underV d) (terms v)[i] (terms v)[j] <;> simp [he]
theorem rright_c2 (d : Nat) (v : T) (hl : (terms v).length ≤ 1000) (hb : ∀ x ∈ terms v, ∀ y ∈ terms v, Dz i_R09_under none [A.t x, A.t y] (1, [A.t (T.bool (belowT (underV d) x y))])) : ∀ (k j : Nat), j + k = (terms v).length →
    Dz i_R09_Right (some p_R09_Right_c2) [A.t (T.int j), A.t v] (if allN (fun i => allN (apart d (terms v) i) (terms v).length 0) k j then (4, []) else (1, [A.t (T.bool false)])) := by
  intro k
  induction k with
  | zero =>
    intro j hj
    refine Does.now fun m => ?_
    rw [q_R09_Right_c2, allN]
    simp only [S0, S9, S1, S2, if_true, if_false]
    rw [if_neg (by omega)]
  | succ k ih =>
    intro j hj
    have hlt : j < (terms v).length := by omega
    have hw : IntKind.i64.wrap ((j : Int) + 1) = ((j + 1 : Nat) : Int) := i64succ (by omega)
    obtain ⟨n0, h0⟩ := (rright_c3 d v j hlt hl (hb _ (List.getElem_mem hlt)) (terms v).length 0 (by omega)).both (ih (j + 1) (by omega))
    refine Does.of n0 fun m hm => ?_
    obtain ⟨q1, q2⟩ := h0 m hm
    have q1' : den Tryz.prog G0 ents m i_R09_Right (some p_R09_Right_c3) [A.t (T.int j), A.t (T.int 0), A.t v] = _ := q1
    rw [q_R09_Right_c2, allN]
    simp only [S9, S1, terms_eq, num_int, q1']
    generalize allN (apart d (terms v) j) (terms v).length 0 = c
    cases c with
    | false =>
      simp only [S0, S9, S1, S2, if_true, if_false]
      rw [if_pos (by omega)]
      rfl
    | true =>
      simp only [S0, S9, S1, S2, if_true, if_false, hw, q2, show Nat.beq 6 6 = true from rfl, true_and]
      rw [if_pos (by omega)]
theorem rright_val : ∀ (d : Nat) (v : T), d ≤ 1000 → Sm d v → Dz i_R09_Right none [A.t v] (1, [A.t (T.bool (refV d v))])
  | 0, v, _, h => h.1.elim
  | d + 1, v, hd, h => by
    have hl := h.terms
    have hwt := h.2
    obtain ⟨n0, h0⟩ := (rweight_does (d + 1) v h).both (depth_does (d + 1) v hd h)
    rw [refV]
    by_cases hdp : dep (d + 1) v ≤ 16
    rotate_left
    · refine Does.of n0 fun m hm => ?_
      obtain ⟨q1, q2⟩ := h0 m hm
      rw [q_R09_Right, decide_eq_false hdp]
      simp only [S0, S9, S1, S2, if_true, if_false, q1, q2]
      rw [if_pos (by omega), if_pos (by omega)]
      rfl
    rw [decide_eq_true hdp, Bool.true_and]
    have hR : ∀ t ∈ terms v, ∀ f ∈ flds t, Dz i_R09_Right none [A.t (val f)] (1, [A.t (T.bool (refV d (val f)))]) := fun t ht f hf => rright_val d (val f) (by omega) (h.sub ht hf)
    obtain ⟨n1, h1⟩ := rright_c1 (refV d) d v h hR (terms v).length 0 (by omega)
    have q1' : ∀ m, n1 ≤ m → den Tryz.prog G0 ents m i_R09_Right (some p_R09_Right_c1) [A.t (T.int 0), A.t v] = some (if inOrder (refV d) d (terms v) then (2, [A.t v]) else (1, [A.t (T.bool false)])) := h1
    have hb : ∀ x ∈ terms v, ∀ y ∈ terms v, Dz i_R09_under none [A.t x, A.t y] (1, [A.t (T.bool (belowT (underV d) x y))]) := fun x hx y hy =>
      runder1_does (underV d) x y (by have := h.flds hx; omega) (by have := h.flds hy; omega)
        fun h1 h2 f hf g hg => runder_does d _ _ (h.sub hx hf) (h.sub hy hg)
    obtain ⟨n2, h2⟩ := rright_c2 d v (by omega) hb (terms v).length 0 (by omega)
    have q2' : ∀ m, n2 ≤ m → den Tryz.prog G0 ents m i_R09_Right (some p_R09_Right_c2) [A.t (T.int 0), A.t v] = some (if allApart d (terms v) then (4, []) else (1, [A.t (T.bool false)])) := h2
    refine Does.of (n0 + n1 + n2) fun m hm => ?_
    obtain ⟨q1, q2⟩ := h0 m (by omega)
    rw [q_R09_Right]
    simp only [S0, S9, S1, S2, if_true, if_false, q1, q2, q1' m (by omega)]
    rw [if_pos (by omega), if_neg (by omega)]
    cases inOrder (refV d) d (terms v) with
    | false => rfl
    | true =>
      simp only [S0, S9, S1, S2, if_true, if_false, q2' m (by omega)]
      cases allApart d (terms v) <;> rfl
theorem refRight_does {v : T} (h : Sm 20 v) : Dz i_R09_Right none [A.t v] (1, [A.t (T.bool (refV 20 v))]) := rright_val 20 v (by omega) h
end Go.Proofs.YtffncdkbcphbgaaGreatDoorFR
namespace Go.Proofs.YtffncdkbcphbgaaGreatDoorFR
open Go Go.Proofs.YtffncdkbcphbgaaGreatDoorVM
set_option linter.unusedVariables false
set_option linter.unusedSimpArgs false
set_option maxRecDepth 100000

def oneT (v : T) : T := tAtD (terms v) 0
def allV (g : T → Bool) : Nat → T → Bool
  | 0, _ => false
  | d + 1, v => decide ((terms v).length = 1) && (!decide (kd (oneT v) = 5) && (if kd (oneT v) = 4 then (flds (oneT v)).all (fun f => allV g d (val f)) else g (oneT v)))
def atomS (t : T) : Bool := rightS t && one t
def readyS (t : T) : Bool := mb t || (rightS t && one t)
def refOne (w : Bool) (t : T) : Bool := one t || (w && mb t)
def waitV : Nat → T → Bool
  | 0, _ => false
  | d + 1, v => (terms v).any fun t => mb t || (flds t).any fun f => waitV d (val f)
theorem any_not {l : List T} {p : T → Bool} : (!l.any fun x => !p x) = l.all p := by
  induction l with
  | nil => rfl
  | cons x l ih => simp only [List.any_cons, List.all_cons, ← ih]; cases p x <;> simp
theorem hasA_does (l : List T) (p : T → Bool) (hl : l.length ≤ 1000) (hp : ∀ x ∈ l, Dz i_fact_all_1_Atom none [A.t x] (1, [A.t (T.bool (p x))])) : Dz i_slices_ContainsFunc_Field_all1_Atom none [A.t (T.node l)] (1, [A.t (T.bool (l.any p))]) :=
  has0_does q_slices_ContainsFunc_Field_all1_Atom q_slices_IndexFunc_Field_all1_Atom q_slices_IndexFunc_Field_all1_Atom_c1 l p (by omega) hp
theorem hasR_does (l : List T) (p : T → Bool) (hl : l.length ≤ 1000) (hp : ∀ x ∈ l, Dz i_fact_all_1_Ready1 none [A.t x] (1, [A.t (T.bool (p x))])) : Dz i_slices_ContainsFunc_Field_all1_Ready1 none [A.t (T.node l)] (1, [A.t (T.bool (l.any p))]) :=
  has0_does q_slices_ContainsFunc_Field_all1_Ready1 q_slices_IndexFunc_Field_all1_Ready1 q_slices_IndexFunc_Field_all1_Ready1_c1 l p (by omega) hp
theorem hasWF_does (l : List T) (p : T → Bool) (hl : l.length ≤ 1000) (hp : ∀ x ∈ l, Dz i_fact_waits_1_1 none [A.t x] (1, [A.t (T.bool (p x))])) : Dz i_slices_ContainsFunc_Field_waits11 none [A.t (T.node l)] (1, [A.t (T.bool (l.any p))]) :=
  has0_does q_slices_ContainsFunc_Field_waits11 q_slices_IndexFunc_Field_waits11 q_slices_IndexFunc_Field_waits11_c1 l p (by omega) hp
theorem hasW_does (l : List T) (p : T → Bool) (hl : l.length ≤ 1000) (hp : ∀ x ∈ l, Dz i_fact_waits_1 none [A.t x] (1, [A.t (T.bool (p x))])) : Dz i_slices_ContainsFunc_Term_waits1 none [A.t (T.node l)] (1, [A.t (T.bool (l.any p))]) :=
  has0_does q_slices_ContainsFunc_Term_waits1 q_slices_IndexFunc_Term_waits1 q_slices_IndexFunc_Term_waits1_c1 l p (by omega) hp
theorem atom_does (t : T) : Dz i_scalar_Atom none [A.t t] (1, [A.t (T.bool (atomS t))]) := by
  obtain ⟨n0, h0⟩ := (sright_does t).both (one_does t)
  refine Does.of n0 fun m hm => ?_
  obtain ⟨q1, q2⟩ := h0 m hm
  rw [q_scalar_Atom]; simp only [S9, S1]; rw [q1, atomS]
  cases rightS t
  · rfl
  · simp only [S0, S9, S1, S2, if_true, if_false, q2, Bool.true_and]
theorem ready1_does (t : T) : Dz i_fact_Ready_1 none [A.t t] (1, [A.t (T.bool (readyS t))]) := by
  obtain ⟨n0, h0⟩ := atom_does t
  refine Does.of n0 fun m hm => ?_
  rw [q_fact_Ready_1, readyS]; simp only [S9, S1, mb_eq]
  cases mb t
  · simp only [S0, S9, S1, S2, if_true, if_false, h0 m hm, atomS, Bool.false_or]
  · rfl
def fone (v : T) : Nat × List A := if (terms v).length = 1 ∧ kd (oneT v) ≠ 5 then (1, [A.t (oneT v), A.t (T.int 0)]) else (1, [A.t noTrm, A.t (T.int (if (terms v).length = 0 then 31 else 28))])
theorem fone_does (v : T) : Dz i_fact_one none [A.t v] (fone v) := by
  refine Does.now fun m => ?_
  rw [q_fact_one]
  unfold fone oneT
  simp only [S0, S9, S1, S2, if_true, if_false, noTrm_eq, kd_eq, e0_zero]
  by_cases h0 : (terms v).length = 0
  · rw [if_pos (by omega), if_neg (fun e => by omega), if_pos h0]
  by_cases h1 : (terms v).length = 1
  · rw [if_neg (by omega), if_pos (by omega), if_pos (by omega)]
    by_cases h5 : kd (tAtD (terms v) 0) = 5
    · rw [if_pos h5, if_neg (fun e => e.2 h5), if_neg h0]
    · rw [if_neg h5, if_pos (by omega), if_pos ⟨h1, h5⟩]
  · rw [if_neg (by omega), if_neg (by omega), if_neg (fun e => h1 e.1), if_neg h0]
theorem all_does : ∀ (d : Nat) (v : T), Sm d v → Dz i_fact_all_Atom none [A.t v] (1, [A.t (T.bool (allV atomS d v))])
  | 0, v, h => h.1.elim
  | d + 1, v, h => by
    obtain ⟨n0, h0⟩ := fone_does v
    rw [allV]
    unfold fone at h0
    by_cases h1 : (terms v).length = 1
    rotate_left
    · refine Does.of n0 fun m hm => ?_
      have q := h0 m hm
      rw [if_neg (fun e => h1 e.1)] at q
      rw [q_fact_all_Atom]; simp only [S9, S1]; rw [q, decide_eq_false h1, Bool.false_and]
      simp only [S0, S9, S1, S2, if_true, if_false]
      rw [if_pos (by split <;> omega)]
    by_cases h5 : kd (oneT v) = 5
    · refine Does.of n0 fun m hm => ?_
      have q := h0 m hm
      rw [if_neg (fun e => e.2 h5)] at q
      rw [q_fact_all_Atom]; simp only [S9, S1]; rw [q, decide_eq_true h1, decide_eq_true h5]
      simp only [S0, S9, S1, S2, if_true, if_false]
      rw [if_pos (by split <;> omega)]
      rfl
    rw [if_pos ⟨h1, h5⟩] at h0
    rw [decide_eq_true h1, decide_eq_false h5, Bool.true_and, Bool.not_false, Bool.true_and]
    have hm : oneT v ∈ terms v := by unfold oneT; rw [at_get (by omega)]; exact List.getElem_mem _
    by_cases h4 : kd (oneT v) = 4
    · have hf := h.flds hm
      obtain ⟨n1, h1'⟩ := hasA_does (flds (oneT v)) (fun f => !allV atomS d (val f)) (by omega) (fun f hf' => by
        obtain ⟨n2, h2⟩ := all_does d (val f) (h.sub hm hf')
        refine Does.of n2 fun m hm => ?_
        rw [q_fact_all_1_Atom]
        simp only [S0, S9, S1, S2, if_true, if_false, val_eq, h2 m hm])
      refine Does.of (n0 + n1) fun m hm => ?_
      rw [q_fact_all_Atom]; simp only [S9, S1]; rw [h0 m (by omega), if_pos h4]
      simp only [S0, S9, S1, S2, if_true, if_false, kd_eq, h4, h1' m (by omega), not_true_eq_false]
      rw [any_not]
    · obtain ⟨n1, h1'⟩ := atom_does (oneT v)
      refine Does.of (n0 + n1) fun m hm => ?_
      rw [q_fact_all_Atom]; simp only [S9, S1]; rw [h0 m (by omega), if_neg h4]
      simp only [S0, S9, S1, S2, if_true, if_false, kd_eq, h4, h1' m (by omega), not_true_eq_false, not_false_eq_true]
theorem all_v2_does : ∀ (d : Nat) (v : T), Sm d v → Dz i_fact_all_Ready1 none [A.t v] (1, [A.t (T.bool (allV readyS d v))])
  | 0, v, h => h.1.elim
  | d + 1, v, h => by
    obtain ⟨n0, h0⟩ := fone_does v
    rw [allV]
    unfold fone at h0
    by_cases h1 : (terms v).length = 1
    rotate_left
    · refine Does.of n0 fun m hm => ?_
      have q := h0 m hm
      rw [if_neg (fun e => h1 e.1)] at q
      rw [q_fact_all_Ready1]; simp only [S9, S1]; rw [q, decide_eq_false h1, Bool.false_and]
      simp only [S0, S9, S1, S2, if_true, if_false]
      rw [if_pos (by split <;> omega)]
    by_cases h5 : kd (oneT v) = 5
    · refine Does.of n0 fun m hm => ?_
      have q := h0 m hm
      rw [if_neg (fun e => e.2 h5)] at q
      rw [q_fact_all_Ready1]; simp only [S9, S1]; rw [q, decide_eq_true h1, decide_eq_true h5]
      simp only [S0, S9, S1, S2, if_true, if_false]
      rw [if_pos (by split <;> omega)]
      rfl
    rw [if_pos ⟨h1, h5⟩] at h0
    rw [decide_eq_true h1, decide_eq_false h5, Bool.true_and, Bool.not_false, Bool.true_and]
    have hm : oneT v ∈ terms v := by unfold oneT; rw [at_get (by omega)]; exact List.getElem_mem _
    by_cases h4 : kd (oneT v) = 4
    · have hf := h.flds hm
      obtain ⟨n1, h1'⟩ := hasR_does (flds (oneT v)) (fun f => !allV readyS d (val f)) (by omega) (fun f hf' => by
        obtain ⟨n2, h2⟩ := all_v2_does d (val f) (h.sub hm hf')
        refine Does.of n2 fun m hm => ?_
        rw [q_fact_all_1_Ready1]
        simp only [S0, S9, S1, S2, if_true, if_false, val_eq, h2 m hm])
      refine Does.of (n0 + n1) fun m hm => ?_
      rw [q_fact_all_Ready1]; simp only [S9, S1]; rw [h0 m (by omega), if_pos h4]
      simp only [S0, S9, S1, S2, if_true, if_false, kd_eq, h4, h1' m (by omega), not_true_eq_false]
      rw [any_not]
    · obtain ⟨n1, h1'⟩ := ready1_does (oneT v)
      refine Does.of (n0 + n1) fun m hm => ?_
      rw [q_fact_all_Ready1]; simp only [S9, S1]; rw [h0 m (by omega), if_neg h4]
      simp only [S0, S9, S1, S2, if_true, if_false, kd_eq, h4, h1' m (by omega), not_true_eq_false, not_false_eq_true]
theorem waits_does : ∀ (d : Nat) (v : T), Sm d v → Dz i_fact_waits none [A.t v] (1, [A.t (T.bool (waitV d v))])
  | 0, v, h => h.1.elim
  | d + 1, v, h => by
    have hl := h.terms
    obtain ⟨n0, h0⟩ := hasW_does (terms v) (fun t => mb t || (flds t).any fun f => waitV d (val f)) (by omega) (fun t ht => by
      have hf := h.flds ht
      obtain ⟨n1, h1⟩ := hasWF_does (flds t) (fun f => waitV d (val f)) (by omega) (fun f hf' => by
        obtain ⟨n2, h2⟩ := waits_does d (val f) (h.sub ht hf')
        refine Does.of n2 fun m hm => ?_
        rw [q_fact_waits_1_1]
        simp only [S0, S9, S1, S2, if_true, if_false, val_eq, h2 m hm])
      refine Does.of n1 fun m hm => ?_
      rw [q_fact_waits_1]; simp only [S9, S1, S2, mb_eq]
      cases mb t
      · simp only [S0, S9, S1, S2, if_true, if_false, h1 m hm, Bool.false_or]
      · rfl)
    refine Does.of n0 fun m hm => ?_
    rw [q_fact_waits, waitV]
    simp only [S0, S9, S1, S2, if_true, if_false, h0 m hm]
theorem fsettled_does {v : T} (h : Sm 20 v) : Dz i_fact_Settled none [A.t v] (1, [A.t (T.bool (refV 20 v && allV atomS 20 v))]) := by
  obtain ⟨n0, h0⟩ := (lright_does h).both (all_does 20 v h)
  refine Does.of n0 fun m hm => ?_
  obtain ⟨q1, q2⟩ := h0 m hm
  rw [q_fact_Settled]; simp only [S9, S1]; rw [q1]
  cases refV 20 v
  · rfl
  · simp only [S0, S9, S1, S2, if_true, if_false, q2, Bool.true_and]
theorem fready_does {v : T} (h : Sm 20 v) : Dz i_fact_Ready none [A.t v] (1, [A.t (T.bool (refV 20 v && allV readyS 20 v))]) := by
  obtain ⟨n0, h0⟩ := (lright_does h).both (all_v2_does 20 v h)
  refine Does.of n0 fun m hm => ?_
  obtain ⟨q1, q2⟩ := h0 m hm
  rw [q_fact_Ready]; simp only [S9, S1]; rw [q1]
  cases refV 20 v
  · rfl
  · simp only [S0, S9, S1, S2, if_true, if_false, q2, Bool.true_and]
theorem fwaits_does {v : T} (h : Sm 20 v) : Dz i_fact_Waits none [A.t v] (1, [A.t (T.bool (refV 20 v && waitV 20 v))]) := by
  obtain ⟨n0, h0⟩ := (lright_does h).both (waits_does 20 v h)
  refine Does.of n0 fun m hm => ?_
  obtain ⟨q1, q2⟩ := h0 m hm
  rw [q_fact_Waits]; simp only [S9, S1]; rw [q1]
  cases refV 20 v
  · rfl
  · simp only [S0, S9, S1, S2, if_true, if_false, q2, Bool.true_and]
theorem refV_NR {v : T} (h : refV 20 v = true) : NR 20 v := by
  rw [refV_eq, Bool.and_eq_true] at h
  exact okV_NR 20 v h.1
def belowV (a b : T) : Bool := refV 20 a && (refV 20 b && underV 20 a b)
theorem latbelow_does {a b : T} (ha : Sm 20 a) (hb : Sm 20 b) : Dz i_lat_Below none [A.t a, A.t b] (1, [A.t (T.bool (belowV a b))]) := by
  obtain ⟨n0, h0⟩ := (lright_does ha).both (lright_does hb)
  unfold belowV
  cases hra : refV 20 a with
  | false =>
    rw [hra] at h0
    refine Does.of n0 fun m hm => ?_
    rw [q_lat_Below]; simp only [S9, S1]; rw [(h0 m hm).1]
    rfl
  | true =>
    cases hrb : refV 20 b with
    | false =>
      rw [hra, hrb] at h0
      refine Does.of n0 fun m hm => ?_
      rw [q_lat_Below]; simp only [S9, S1]; rw [(h0 m hm).1]
      simp only [S0, S9, S1, S2, if_true, if_false, (h0 m hm).2]
      rfl
    | true =>
      rw [hra, hrb] at h0
      obtain ⟨n1, h1⟩ := lunder_does 20 a b ha hb (refV_NR hra) (refV_NR hrb)
      refine Does.of (n0 + n1) fun m hm => ?_
      rw [q_lat_Below]; simp only [S9, S1]; rw [(h0 m (by omega)).1]
      simp only [S0, S9, S1, S2, if_true, if_false, (h0 m (by omega)).2, h1 m (by omega), Bool.true_and]
def refinesV (a b : T) : Bool := (refV 20 a && allV atomS 20 a) && belowV a b
theorem frefines_does {a b : T} (ha : Sm 20 a) (hb : Sm 20 b) : Dz i_fact_Refines none [A.t a, A.t b] (1, [A.t (T.bool (refinesV a b))]) := by
  obtain ⟨n0, h0⟩ := (fsettled_does ha).both (latbelow_does ha hb)
  refine Does.of n0 fun m hm => ?_
  obtain ⟨q1, q2⟩ := h0 m hm
  rw [q_fact_Refines]; simp only [S9, S1]; rw [q1, refinesV]
  cases (refV 20 a && allV atomS 20 a)
  · rfl
  · simp only [S0, S9, S1, S2, if_true, if_false, q2, Bool.true_and]
theorem rsettled_loop (w : Bool) (g : T → Bool) (t : T) (hl : (flds t).length ≤ 1000) (hg : ∀ f ∈ flds t, Dz i_R11_settled none [A.t (val f), A.t (T.bool w)] (1, [A.t (T.bool (g (val f)))])) : ∀ (k j : Nat), j + k = (flds t).length →
    Dz i_R11_settled (some p_R11_settled_c1) [A.t (T.bool w), A.t (T.int j), A.t t] (if ((flds t).drop j).all (fun f => g (val f)) then (2, []) else (1, [A.t (T.bool false)])) := by
  intro k
  induction k with
  | zero =>
    intro j hj
    refine Does.now fun m => ?_
    rw [q_R11_settled_c1, List.drop_of_length_le (by omega)]
    simp only [S0, S9, S1, S2, if_true, if_false]
    rw [if_neg (by omega)]; rfl
  | succ k ih =>
    intro j hj
    have hlt : j < (flds t).length := by omega
    have hw : IntKind.i64.wrap ((j : Int) + 1) = ((j + 1 : Nat) : Int) := i64succ (by omega)
    obtain ⟨n0, h0⟩ := (hg _ (List.getElem_mem hlt)).both (ih (j + 1) (by omega))
    refine Does.of n0 fun m hm => ?_
    obtain ⟨q1, q2⟩ := h0 m hm
    rw [q_R11_settled_c1, drop_all hlt]
    simp only [S0, S9, S1, S2, if_true, if_false, at_get hlt, val_eq, hw, q1, q2]
    rw [if_pos (by omega), if_pos (by omega)]
    cases g (val (flds t)[j]) <;> simp
theorem rsettled_does (w : Bool) : ∀ (d : Nat) (v : T), Sm d v → Dz i_R11_settled none [A.t v, A.t (T.bool w)] (1, [A.t (T.bool (allV (refOne w) d v))])
  | 0, v, h => h.1.elim
  | d + 1, v, h => by
    rw [allV]
    by_cases h1 : (terms v).length = 1
    rotate_left
    · refine Does.now fun m => ?_
      rw [q_R11_settled, decide_eq_false h1, Bool.false_and]
      simp only [S0, S9, S1, S2, if_true, if_false, bne_eq_false_iff_eq]
      rw [if_neg (by omega)]
    by_cases h5 : kd (oneT v) = 5
    · refine Does.now fun m => ?_
      rw [q_R11_settled, decide_eq_true h1, decide_eq_true h5]
      have h5' : kd (tAtD (terms v) 0) = 5 := h5
      simp only [S0, S9, S1, S2, if_true, if_false, kd_eq, h5', bne_eq_false_iff_eq]
      rw [if_pos (by omega), if_pos (by omega)]
      rfl
    rw [decide_eq_true h1, decide_eq_false h5, Bool.true_and, Bool.not_false, Bool.true_and]
    have hm : oneT v ∈ terms v := by unfold oneT; rw [at_get (by omega)]; exact List.getElem_mem _
    have ho : tAtD (terms v) 0 = oneT v := rfl
    by_cases h4 : kd (oneT v) = 4
    · have hf := h.flds hm
      obtain ⟨n1, h1'⟩ := rsettled_loop w (allV (refOne w) d) (oneT v) (by omega) (fun f hf' => rsettled_does w d (val f) (h.sub hm hf')) (flds (oneT v)).length 0 (by omega)
      refine Does.of n1 fun m hm => ?_
      have q : den Tryz.prog G0 ents m i_R11_settled (some p_R11_settled_c1) [A.t (T.bool w), A.t (T.int 0), A.t (oneT v)] = _ := h1' m hm
      rw [List.drop_zero] at q
      rw [q_R11_settled, if_pos h4]
      simp only [S0, S9, S1, S2, if_true, if_false, ho, kd_eq, h4, q, not_true_eq_false, bne_eq_false_iff_eq]
      rw [if_pos (by omega), if_pos (by omega), if_neg (by omega), if_pos (by omega)]
      cases (flds (oneT v)).all fun f => allV (refOne w) d (val f) <;> rfl
    · obtain ⟨n1, h1'⟩ := single_does (oneT v)
      refine Does.of n1 fun m hm => ?_
      rw [q_R11_settled, if_neg h4, refOne]
      simp only [S0, S9, S1, S2, if_true, if_false, ho, kd_eq, mb_eq, h4, h1' m hm, not_true_eq_false, not_false_eq_true, bne_eq_false_iff_eq]
      rw [if_pos (by omega), if_pos (by omega), if_neg h5, if_pos (by omega)]
      cases one (oneT v) <;> cases w <;> simp
theorem r11settled_does {v : T} (h : Sm 20 v) : Dz i_R11_Settled none [A.t v] (1, [A.t (T.bool (refV 20 v && allV (refOne false) 20 v))]) := by
  obtain ⟨n0, h0⟩ := (refRight_does h).both (rsettled_does false 20 v h)
  refine Does.of n0 fun m hm => ?_
  obtain ⟨q1, q2⟩ := h0 m hm
  rw [q_R11_Settled]; simp only [S9, S1]; rw [q1]
  cases refV 20 v
  · rfl
  · simp only [S0, S9, S1, S2, if_true, if_false, q2, Bool.true_and]
def rrefinesV (a b : T) : Bool := (refV 20 a && allV (refOne false) 20 a) && (refV 20 b && underV 20 a b)
theorem rrefines_does {a b : T} (ha : Sm 20 a) (hb : Sm 20 b) : Dz i_R11_Refines none [A.t a, A.t b] (1, [A.t (T.bool (rrefinesV a b))]) := by
  obtain ⟨n0, h0⟩ := (r11settled_does ha).both (refRight_does hb)
  obtain ⟨n1, h1⟩ := runder_does 20 a b ha hb
  refine Does.of (n0 + n1) fun m hm => ?_
  obtain ⟨q1, q2⟩ := h0 m (by omega)
  rw [q_R11_Refines]; simp only [S9, S1]; rw [q1, rrefinesV]
  cases (refV 20 a && allV (refOne false) 20 a)
  · rfl
  · simp only [S0, S9, S1, S2, if_true, if_false, q2, Bool.true_and]
    cases refV 20 b
    · rfl
    · simp only [S0, S9, S1, S2, if_true, if_false, h1 m (by omega), Bool.true_and]
end Go.Proofs.YtffncdkbcphbgaaGreatDoorFR
namespace Go.Proofs.YtffncdkbcphbgaaGreatDoorFR
open Go Go.Proofs.YtffncdkbcphbgaaGreatDoorVM
set_option linter.unusedVariables false
set_option linter.unusedSimpArgs false
set_option maxRecDepth 100000

theorem right_parts {t : T} (h : rightS t = true) : op t = false ∧ flds t = [] ∧ ¬ (mb t = true ∧ one t = true) ∧ rightK (kd t) (lo t) (hi t) (tx t) (an t) = true := by
  have h1 := right_op h
  unfold rightS at h
  simp only [Bool.and_eq_true, Bool.not_eq_true', decide_eq_true_eq] at h
  refine ⟨h1.1, h1.2.1, fun e => ?_, h.2⟩
  have := h.1.2
  rw [e.1, e.2] at this
  cases this
theorem right_kd {t : T} (h : rightS t = true) : kd t = 1 ∨ kd t = 2 ∨ kd t = 3 := by
  have h2 := (right_parts h).2.2.2
  unfold rightK at h2
  split at h2
  · exact .inr (.inr (by assumption))
  · split at h2
    · exact .inr (.inl (by assumption))
    · split at h2
      · exact .inl (by assumption)
      · cases h2
theorem right_lohi {t : T} (h : rightS t = true) : lo t ≤ hi t ∧ (kd t = 3 → lo t = 0 ∧ hi t = 0) := by
  have h2 := (right_parts h).2.2.2
  unfold rightK at h2
  split at h2
  · simp only [Bool.and_eq_true, decide_eq_true_eq] at h2
    exact ⟨by omega, fun _ => h2.1⟩
  · split at h2
    · simp only [Bool.and_eq_true, decide_eq_true_eq] at h2
      exact ⟨by omega, fun e => by omega⟩
    · split at h2
      · simp only [Bool.and_eq_true, decide_eq_true_eq] at h2
        exact ⟨by omega, fun e => by omega⟩
      · cases h2
def LeS (a b : T) : Prop := rightS a = true ∧ rightS b = true ∧ kd a = kd b ∧ lo b ≤ lo a ∧ hi a ≤ hi b ∧ (an a = true → an b = true ∧ tx b = tx a) ∧ (an a = true ∨ an b = true ∨ tx a = tx b) ∧ ((mb a || mb b) && !one a) = mb a
theorem one_m0 {a b : T} (hk : kd a = kd b) (h1 : lo b ≤ lo a) (h2 : hi a ≤ hi b) (h3 : an a = true → an b = true) : one (m0 a b false) = one a := by
  have e1 : maxI (lo a) (lo b) = lo a := maxI_neg (by omega)
  have e2 : minI (hi a) (hi b) = hi a := minI_neg (by omega)
  have e3 : (an a && an b) = an a := by
    cases ha : an a with
    | false => rfl
    | true => rw [h3 ha]; rfl
  unfold one m0
  rw [kd_trm, lo_trm, hi_trm, an_trm, e1, e2, e3]
theorem below_iff (a b : T) : belowS a b = true ↔ LeS a b := by
  unfold belowS okM sameS LeS
  simp only [Bool.and_eq_true, decide_eq_true_eq, Bool.not_eq_true', decide_eq_false_iff_not, Bool.or_eq_true]
  constructor
  · rintro ⟨⟨⟨⟨⟨ra, rb⟩, hk⟩, hlh⟩, htx⟩, ⟨⟨⟨⟨⟨⟨_, _⟩, _⟩, e1⟩, e2⟩, e3⟩, e4⟩, e5⟩
    unfold mT at e1 e2 e3 e4 e5
    rw [show lo (m0 a b ((mb a || mb b) && !one (m0 a b false))) = maxI (lo a) (lo b) from rfl] at e1
    rw [show hi (m0 a b ((mb a || mb b) && !one (m0 a b false))) = minI (hi a) (hi b) from rfl] at e2
    rw [show tx (m0 a b ((mb a || mb b) && !one (m0 a b false))) = mX a b from rfl] at e3
    rw [show an (m0 a b ((mb a || mb b) && !one (m0 a b false))) = (an a && an b) from rfl] at e4
    rw [show mb (m0 a b ((mb a || mb b) && !one (m0 a b false))) = ((mb a || mb b) && !one (m0 a b false)) from rfl] at e5
    have f1 : lo b ≤ lo a := by unfold maxI at e1; split at e1 <;> omega
    have f2 : hi a ≤ hi b := by unfold minI at e2; split at e2 <;> omega
    have f3 : an a = true → an b = true ∧ tx b = tx a := by
      intro h
      rw [h] at e4
      unfold mX at e3
      rw [if_pos h] at e3
      exact ⟨by simpa using e4, e3⟩
    rw [one_m0 hk f1 f2 (fun h => (f3 h).1)] at e5
    exact ⟨ra, rb, hk, f1, f2, f3, by rcases htx with (h | h) | h; exact .inl h; exact .inr (.inl h); exact .inr (.inr h), e5⟩
  · rintro ⟨ra, rb, hk, f1, f2, f3, htx, e5⟩
    obtain ⟨o1, o2, o3, o4⟩ := right_parts ra
    have hl := right_lohi ra
    have e1 : maxI (lo a) (lo b) = lo a := maxI_neg (by omega)
    have e2 : minI (hi a) (hi b) = hi a := minI_neg (by omega)
    have e3 : mX a b = tx a := by
      unfold mX
      split
      · rename_i h; exact (f3 h).2
      · rfl
    have e4 : (an a && an b) = an a := by
      cases ha : an a with
      | false => rfl
      | true => rw [(f3 ha).1]; rfl
    have e6 := one_m0 hk f1 f2 (fun h => (f3 h).1)
    have hmt : mT a b = trm (kd a) (lo a) (hi a) (tx a) (an a) (mb a) false [] := by
      unfold mT
      rw [e6, e5]
      unfold m0
      rw [e1, e2, e3, e4]
    have hr : rightS (trm (kd a) (lo a) (hi a) (tx a) (an a) (mb a) false []) = true := by
      have hone : one (trm (kd a) (lo a) (hi a) (tx a) (an a) (mb a) false []) = one a := rfl
      unfold rightS
      rw [hone]
      show (!false && decide (([] : List T).length = 0) && !(mb a && one a) && rightK (kd a) (lo a) (hi a) (tx a) (an a)) = true
      rw [o4]
      have : (mb a && one a) = false := by
        cases h1 : mb a <;> cases h2 : one a <;> simp
        exact o3 ⟨h1, h2⟩
      rw [this]
      rfl
    rw [hmt]
    refine ⟨⟨⟨⟨⟨ra, rb⟩, hk⟩, by rw [e1, e2]; omega⟩, by rcases htx with h | h | h; exact .inl (.inl h); exact .inl (.inr h); exact .inr h⟩, ⟨⟨⟨⟨⟨⟨hr, ra⟩, rfl⟩, rfl⟩, rfl⟩, rfl⟩, rfl⟩, rfl⟩
theorem leS_refl {a : T} (h : rightS a = true) : LeS a a := by
  refine ⟨h, h, rfl, by omega, by omega, fun e => ⟨e, rfl⟩, .inr (.inr rfl), ?_⟩
  have := (right_parts h).2.2.1
  cases h1 : mb a <;> cases h2 : one a <;> simp [h1, h2] at this ⊢
theorem leS_trans {a b c : T} (h : LeS a b) (k : LeS b c) : LeS a c := by
  obtain ⟨ra, rb, hk, f1, f2, f3, f4, f5⟩ := h
  obtain ⟨_, rc, gk, g1, g2, g3, g4, g5⟩ := k
  refine ⟨ra, rc, hk.trans gk, by omega, by omega, fun e => ?_, ?_, ?_⟩
  · obtain ⟨p1, p2⟩ := f3 e
    obtain ⟨p3, p4⟩ := g3 p1
    exact ⟨p3, p4.trans p2⟩
  · rcases f4 with h | h | h
    · exact .inl h
    · exact .inr (.inl (g3 h).1)
    · rcases g4 with h2 | h2 | h2
      · exact .inr (.inl (g3 h2).1)
      · exact .inr (.inl h2)
      · exact .inr (.inr (h.trans h2))
  · have hl := right_lohi ra
    have hob : one b = true → one a = true := by
      unfold one
      rw [hk]
      split
      · intro h
        cases ha : an a with
        | false => rfl
        | true => rw [(f3 ha).1] at h; cases h
      · intro h
        have := of_decide_eq_true h
        exact decide_eq_true (by omega)
    cases h1 : mb a <;> cases h2 : mb b <;> cases h3 : mb c <;> cases h4 : one a <;> cases h5 : one b <;> simp [h1, h2, h3, h4, h5] at f5 g5 hob ⊢
theorem below_refl {d : Nat} {U : T → T → Bool} {t : T} (hn : kd t = 4 → Rise (flds t)) (hs : kd t ≠ 4 → kd t ≠ 5 → rightS t = true) (hU : kd t = 4 → ∀ f ∈ flds t, U (val f) (val f) = true) : belowT U t t = true := by
  unfold belowT
  split
  · rfl
  rename_i h5
  split
  · rename_i h4
    have hr := hn h4.1
    have hfind : ∀ i (hi : i < (flds t).length), findF (flds t) (nm (flds t)[i]) 0 = (i : Nat) := by
      intro i hi
      rw [findF_at (l := flds t) (s := nm (flds t)[i]) i 0 (fun k hk e => ?_) hi (by rw [at_get hi]), Nat.zero_add]
      have := hr k i hk hi
      rw [e, at_get hi, slt_irrefl] at this
      cases this
    have hop : (!(op t && !op t)) = true := by cases op t <;> rfl
    have hlk : lackT t t = false := by
      unfold lackT
      rw [Bool.and_eq_false_iff]
      right
      rw [List.any_eq_false]
      intro f hf
      obtain ⟨i, hi, rfl⟩ := List.getElem_of_mem hf
      rw [hfind i hi]
      simp
    rw [hop, hlk]
    simp only [Bool.not_false, Bool.true_and, List.all_eq_true]
    intro f hf
    obtain ⟨i, hi, rfl⟩ := List.getElem_of_mem hf
    unfold fitF atF
    rw [hfind i hi, Int.toNat_natCast, at_get hi, hU h4.1 _ hf, decide_eq_true (by omega)]
    rfl
  · rename_i h4
    exact (below_iff t t).2 (leS_refl (hs (fun e => h4 ⟨e, e⟩) h5))
theorem okT_parts {R : T → Bool} {d : Nat} {t : T} (h : okT R d t = true) : (kd t = 4 → Rise (flds t) ∧ bareT t = true ∧ ∀ f ∈ flds t, R (val f) = true) ∧ (kd t ≠ 4 → kd t ≠ 5 → rightS t = true) := by
  unfold okT at h
  refine ⟨fun h4 => ?_, fun h4 h5 => ?_⟩
  · rw [if_neg (by omega), if_pos h4, Bool.and_eq_true, Bool.and_eq_true, Bool.and_eq_true, List.all_eq_true] at h
    refine ⟨names_rise h.1.2, h.1.1.1, fun f hf => ?_⟩
    have := h.2 f hf
    rw [fullF, Bool.and_eq_true] at this
    exact this.2
  · rw [if_neg h5, if_neg h4] at h
    exact h
theorem okV_term {d : Nat} {v t : T} (h : okV (d + 1) v = true) (ht : t ∈ terms v) : okT (okV d) d t = true := by
  rw [okV, Bool.and_eq_true] at h
  obtain ⟨i, hi, rfl⟩ := List.getElem_of_mem ht
  have := (allN_iff _ _ _).1 h.1 i (by omega) (by omega)
  rw [at_get hi, Bool.and_eq_true] at this
  exact this.1
theorem under_refl : ∀ (d : Nat) (v : T), okV d v = true → underV d v v = true
  | 0, v, h => by cases h
  | d + 1, v, h => by
    rw [underV_succ, List.all_eq_true]
    intro t ht
    rw [List.any_eq_true]
    have hp := okT_parts (okV_term h ht)
    exact ⟨t, ht, below_refl (d := d) (fun h4 => (hp.1 h4).1) hp.2 (fun h4 f hf => under_refl d (val f) ((hp.1 h4).2.2 f hf))⟩
theorem find_some {l : List T} {s : ByteArray} : ∀ (j : Nat), 0 ≤ findF l s j → ∃ i, i < l.length ∧ findF l s j = (j + i : Nat) ∧ nm (tAtD l i) = s := by
  induction l with
  | nil => intro j h; simp [findF] at h
  | cons f l ih =>
    intro j h
    rw [findF] at h ⊢
    by_cases hf : nm f = s
    · rw [if_pos hf]
      exact ⟨0, by simp, rfl, hf⟩
    · rw [if_neg hf] at h ⊢
      obtain ⟨i, h1, h2, h3⟩ := ih (j + 1) h
      exact ⟨i + 1, by simpa using h1, by rw [h2]; congr 1; omega, h3⟩
theorem below_trans {U V W : T → T → Bool} {t u w : T} (hU : ∀ f ∈ flds t, ∀ g ∈ flds u, ∀ h ∈ flds w, U (val f) (val g) = true → V (val g) (val h) = true → W (val f) (val h) = true) (h1 : belowT U t u = true) (h2 : belowT V u w = true) : belowT W t w = true := by
  unfold belowT at h1 h2 ⊢
  by_cases w5 : kd w = 5
  · rw [if_pos w5]
  rw [if_neg w5] at h2 ⊢
  by_cases hw : kd u = 4 ∧ kd w = 4
  · rw [if_pos hw] at h2
    rw [if_neg (by omega)] at h1
    by_cases ht : kd t = 4
    rotate_left
    · rw [if_neg (fun e => ht e.1), below_iff] at h1
      have := right_kd h1.2.1
      omega
    rw [if_pos ⟨ht, hw.1⟩] at h1
    rw [if_pos ⟨ht, hw.2⟩]
    simp only [Bool.and_eq_true, List.all_eq_true] at h1 h2 ⊢
    obtain ⟨⟨a1, a2⟩, a3⟩ := h1
    obtain ⟨⟨b1, b2⟩, b3⟩ := h2
    refine ⟨⟨?_, ?_⟩, fun x hx => ?_⟩
    · cases ot : op t <;> cases ou : op u <;> cases ow : op w <;> simp [ot, ou, ow] at a1 b1 ⊢
    · -- no field is lacking
      cases ow : op w with
      | true => unfold lackT; rw [ow]; rfl
      | false =>
        have ou : op u = false := by cases h : op u <;> simp [h, ow] at b1 ⊢
        unfold lackT at a2 b2 ⊢
        rw [ou] at a2
        rw [ow] at b2 ⊢
        simp only [Bool.not_false, Bool.true_and, Bool.not_eq_true', List.any_eq_false, decide_eq_true_eq] at a2 b2 ⊢
        intro f hf
        have h3 := a2 f hf
        obtain ⟨i, hi, _, hn⟩ := find_some (l := flds u) (s := nm f) 0 (by omega)
        rw [at_get hi] at hn
        have h4 := b2 _ (List.getElem_mem hi)
        rw [hn] at h4
        exact h4
    · have h3 := b3 x hx
      unfold fitF atF at h3 ⊢
      rw [Bool.and_eq_true, decide_eq_true_eq] at h3 ⊢
      obtain ⟨i, hi, he, hn⟩ := find_some (l := flds u) (s := nm x) 0 h3.1
      rw [Nat.zero_add] at he
      have h3' := h3.2
      rw [he, Int.toNat_natCast, at_get hi] at h3'
      have h4 := a3 _ (List.getElem_mem hi)
      unfold fitF atF at h4
      rw [at_get hi] at hn
      rw [Bool.and_eq_true, decide_eq_true_eq, hn] at h4
      refine ⟨h4.1, ?_⟩
      obtain ⟨k, hk, hek, _⟩ := find_some (l := flds t) (s := nm x) 0 h4.1
      rw [Nat.zero_add] at hek
      have h4' := h4.2
      rw [hek, Int.toNat_natCast, at_get hk] at h4' ⊢
      exact hU _ (List.getElem_mem hk) _ (List.getElem_mem hi) _ hx h4' h3'
  · rw [if_neg hw, below_iff] at h2
    have ku := right_kd h2.1
    have kw := right_kd h2.2.1
    rw [if_neg (by omega), if_neg (by omega), below_iff] at h1
    rw [if_neg (by omega), below_iff]
    exact leS_trans h1 h2
theorem under_trans : ∀ (d : Nat) (a b c : T), underV d a b = true → underV d b c = true → underV d a c = true
  | 0, a, b, c, h, _ => by cases h
  | d + 1, a, b, c, h1, h2 => by
    rw [underV_succ, List.all_eq_true] at h1 h2 ⊢
    intro t ht
    have h3 := h1 t ht
    rw [List.any_eq_true] at h3 ⊢
    obtain ⟨u, hu, h3⟩ := h3
    have h4 := h2 u hu
    rw [List.any_eq_true] at h4
    obtain ⟨w, hw, h4⟩ := h4
    exact ⟨w, hw, below_trans (fun f _ g _ h _ p q => under_trans d _ _ _ p q) h3 h4⟩
theorem all_atom : ∀ (d : Nat) (v : T), okV d v = true → allV atomS d v = allV (refOne false) d v
  | 0, v, h => rfl
  | d + 1, v, h => by
    rw [allV, allV]
    by_cases h1 : (terms v).length = 1
    rotate_left
    · rw [decide_eq_false h1, Bool.false_and, Bool.false_and]
    have hm : oneT v ∈ terms v := by unfold oneT; rw [at_get (by omega)]; exact List.getElem_mem _
    have hp := okT_parts (okV_term h hm)
    by_cases h5 : kd (oneT v) = 5
    · rw [decide_eq_true h5]; simp
    by_cases h4 : kd (oneT v) = 4
    · rw [if_pos h4, if_pos h4]
      have : ((flds (oneT v)).all fun f => allV atomS d (val f)) = (flds (oneT v)).all fun f => allV (refOne false) d (val f) := by
        rw [Bool.eq_iff_iff, List.all_eq_true, List.all_eq_true]
        constructor
        · intro hh f hf; rw [← all_atom d (val f) ((hp.1 h4).2.2 f hf)]; exact hh f hf
        · intro hh f hf; rw [all_atom d (val f) ((hp.1 h4).2.2 f hf)]; exact hh f hf
      rw [this]
    · rw [if_neg h4, if_neg h4]
      have : atomS (oneT v) = refOne false (oneT v) := by
        unfold atomS refOne
        rw [hp.2 h4 h5]
        simp
      rw [this]
theorem all_ready : ∀ (d : Nat) (v : T), allV atomS d v = true → allV readyS d v = true
  | 0, v, h => by cases h
  | d + 1, v, h => by
    rw [allV] at h ⊢
    simp only [Bool.and_eq_true] at h ⊢
    refine ⟨h.1, h.2.1, ?_⟩
    have h2 := h.2.2
    split
    · rename_i h4
      rw [if_pos h4, List.all_eq_true] at h2
      rw [List.all_eq_true]
      exact fun f hf => all_ready d (val f) (h2 f hf)
    · rename_i h4
      rw [if_neg h4] at h2
      unfold atomS at h2
      unfold readyS
      rw [h2]
      cases mb (oneT v) <;> rfl
theorem one_term {v t : T} (h : (terms v).length = 1) (ht : t ∈ terms v) : t = oneT v := by
  obtain ⟨i, hi, rfl⟩ := List.getElem_of_mem ht
  unfold oneT
  rw [at_get (by omega)]
  have : i = 0 := by omega
  subst this
  rfl
theorem not_waits : ∀ (d : Nat) (v : T), okV d v = true → allV atomS d v = true → waitV d v = false
  | 0, v, h, _ => by cases h
  | d + 1, v, ho, h => by
    rw [allV] at h
    simp only [Bool.and_eq_true, decide_eq_true_eq, Bool.not_eq_true', decide_eq_false_iff_not] at h
    obtain ⟨h1, h5, h2⟩ := h
    rw [waitV, List.any_eq_false]
    intro t ht
    have he := one_term h1 ht
    have hp := okT_parts (okV_term ho ht)
    rw [← he] at h2 h5
    by_cases h4 : kd t = 4
    · obtain ⟨_, hb, hR⟩ := hp.1 h4
      rw [if_pos h4, List.all_eq_true] at h2
      have hmb : mb t = false := by
        unfold bareT at hb
        simp only [Bool.and_eq_true, Bool.not_eq_true'] at hb
        exact hb.2
      rw [hmb, Bool.false_or, Bool.not_eq_true, List.any_eq_false]
      intro f hf
      rw [not_waits d (val f) (hR f hf) (h2 f hf)]
      simp
    · rw [if_neg h4] at h2
      unfold atomS at h2
      rw [Bool.and_eq_true] at h2
      obtain ⟨_, hf, hmo, _⟩ := right_parts h2.1
      rw [hf]
      have hmb : mb t = false := by
        cases h : mb t with
        | false => rfl
        | true => exact absurd ⟨h, h2.2⟩ hmo
      rw [hmb]
      simp
theorem refV_ok {v : T} (h : refV 20 v = true) : okV 20 v = true := by
  rw [refV_eq, Bool.and_eq_true] at h
  exact h.1
theorem refines_same (a b : T) : refinesV a b = rrefinesV a b := by
  unfold refinesV rrefinesV belowV
  cases h : refV 20 a with
  | false => simp only [Bool.false_and]
  | true => simp only [all_atom 20 a (refV_ok h), Bool.true_and]
theorem refines_parts {a b : T} (h : refinesV a b = true) : refV 20 a = true ∧ allV atomS 20 a = true ∧ refV 20 b = true ∧ underV 20 a b = true := by
  unfold refinesV belowV at h
  simp only [Bool.and_eq_true] at h
  exact ⟨h.1.1, h.1.2, h.2.2.1, h.2.2.2⟩
theorem refines_of {a b : T} (h1 : refV 20 a = true) (h2 : allV atomS 20 a = true) (h3 : refV 20 b = true) (h4 : underV 20 a b = true) : refinesV a b = true := by
  unfold refinesV belowV
  rw [h1, h2, h3, h4]
  rfl
end Go.Proofs.YtffncdkbcphbgaaGreatDoorFR
namespace Go.Proofs.YtffncdkbcphbgaaGreatDoorFR
open Go Go.Proofs.YtffncdkbcphbgaaGreatDoorVM
set_option linter.unusedVariables false
set_option linter.unusedSimpArgs false
set_option maxRecDepth 100000

theorem awake_does : Dz i_L11_awake none [] (1, [A.t (T.bool true)]) := run_of 60 fun n => by kernel_rfl
theorem law_does (a b c : T) : Dz i_L11_FactRefines none [A.t a, A.t b, A.t c] (1, [A.t (T.bool true)]) := by
  obtain ⟨n1, h1⟩ := (few_does a).both (few_does b)
  obtain ⟨n2, h2⟩ := (few_does c).both awake_does
  cases hfa : few a with
  | false =>
    rw [hfa] at h1
    refine Does.of (n1 + n2) fun m hm => ?_
    rw [q_L11_FactRefines]
    simp only [S0, S9, S1, S2, if_true, if_false, (h1 m (by omega)).1, (h2 m (by omega)).2, Bool.not_false, Bool.true_eq_false]
  | true =>
  cases hfb : few b with
  | false =>
    rw [hfa, hfb] at h1
    refine Does.of (n1 + n2) fun m hm => ?_
    rw [q_L11_FactRefines]
    simp only [S0, S9, S1, S2, if_true, if_false, (h1 m (by omega)).1, (h1 m (by omega)).2, (h2 m (by omega)).2, Bool.not_false, Bool.not_true, Bool.true_eq_false, not_true_eq_false, not_false_eq_true]
  | true =>
  cases hfc : few c with
  | false =>
    rw [hfa, hfb] at h1
    rw [hfc] at h2
    refine Does.of (n1 + n2) fun m hm => ?_
    rw [q_L11_FactRefines]
    simp only [S0, S9, S1, S2, if_true, if_false, (h1 m (by omega)).1, (h1 m (by omega)).2, (h2 m (by omega)).1, (h2 m (by omega)).2, Bool.not_false, Bool.not_true, Bool.true_eq_false, not_true_eq_false, not_false_eq_true]
  | true =>
  rw [hfa, hfb] at h1
  rw [hfc] at h2
  have ha := few_sm hfa
  have hb := few_sm hfb
  have hc := few_sm hfc
  obtain ⟨n3, h3⟩ := (frefines_does ha hb).both (rrefines_does ha hb)
  obtain ⟨n4, h4⟩ := (frefines_does ha hc).both (rrefines_does ha hc)
  obtain ⟨n5, h5⟩ := (frefines_does hb hc).both (rrefines_does hb hc)
  obtain ⟨n6, h6⟩ := (fready_does ha).both (fwaits_does ha)
  obtain ⟨n7, h7⟩ := (fsettled_does ha).both (frefines_does ha ha)
  have k1 : refinesV a b = true → (refV 20 a && allV readyS 20 a) = true ∧ (refV 20 a && waitV 20 a) = false ∧ (refV 20 a && allV atomS 20 a) = true ∧ refinesV a a = true := by
    intro h
    obtain ⟨p1, p2, p3, p4⟩ := refines_parts h
    rw [p1, all_ready 20 a p2, not_waits 20 a (refV_ok p1) p2, p2]
    exact ⟨rfl, rfl, rfl, refines_of p1 p2 p1 (under_refl 20 a (refV_ok p1))⟩
  have k2 : refinesV a b = true → refinesV b c = true → refinesV a c = true := by
    intro h g
    obtain ⟨p1, p2, p3, p4⟩ := refines_parts h
    obtain ⟨r1, r2, r3, r4⟩ := refines_parts g
    exact refines_of p1 p2 r3 (under_trans 20 a b c p4 r4)
  refine Does.of (n1 + n2 + n3 + n4 + n5 + n6 + n7) fun m hm => ?_
  obtain ⟨a1, a2⟩ := h1 m (by omega)
  obtain ⟨a3, a4⟩ := h2 m (by omega)
  obtain ⟨b1, b2⟩ := h3 m (by omega)
  obtain ⟨b3, b4⟩ := h4 m (by omega)
  obtain ⟨b5, b6⟩ := h5 m (by omega)
  obtain ⟨c1, c2⟩ := h6 m (by omega)
  obtain ⟨c3, c4⟩ := h7 m (by omega)
  rw [← refines_same] at b2 b4 b6
  rw [q_L11_FactRefines]
  simp only [S0, S9, S1, S2, if_true, if_false, a1, a2, a3, a4, b1, b2, b3, b4, b5, b6, c1, c2, c3, c4, Bool.not_true, not_true_eq_false, not_false_eq_true, beq_self_eq_true, Bool.true_eq_false]
  cases hx : refinesV a b with
  | false => simp
  | true =>
    obtain ⟨e1, e2, e3, e4⟩ := k1 hx
    rw [e1, e2, e3, e4]
    cases hz : refinesV b c with
    | false => simp
    | true => rw [k2 hx hz]; simp
end Go.Proofs.YtffncdkbcphbgaaGreatDoorFR
