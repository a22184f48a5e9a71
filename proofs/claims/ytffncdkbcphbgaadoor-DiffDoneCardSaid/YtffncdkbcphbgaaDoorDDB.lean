/- A law's proof, a part: what the code answers. -/
import Derived.Test.YtffncdkbcphbgaaDoorDDA
namespace Go.Proofs.YtffncdkbcphbgaaDoorDD
open Go Go.Proofs.YtffncdkbcphbgaaDoorVM
set_option linter.unusedVariables false
set_option linter.unusedSimpArgs false
set_option maxRecDepth 100000

def lackT (a b : T) : Bool := !op a && (flds b).any fun f => decide (findF (flds a) (nm f) 0 < 0)
def atF (a f : T) : T := val (tAtD (flds a) (findF (flds a) (nm f) 0).toNat)
def fitF (U : T → T → Bool) (a f : T) : Bool := decide (0 ≤ findF (flds a) (nm f) 0) && U (atF a f) (val f)
def belowT (U : T → T → Bool) (a b : T) : Bool :=
  if kd b = 5 then true else if kd a = 4 ∧ kd b = 4 then !(op a && !op b) && !lackT b a && (flds b).all (fitF U a) else belowS a b
def underV : Nat → T → T → Bool
  | 0, _, _ => false
  | d + 1, a, b => (terms a).all fun t => (terms b).any fun u => belowT (underV d) t u
theorem underV_succ (d : Nat) (a b : T) : underV (d + 1) a b = (terms a).all fun t => (terms b).any fun u => belowT (underV d) t u := rfl
def NR : Nat → T → Prop
  | 0, _ => False
  | d + 1, v => ∀ t ∈ terms v, kd t = 4 → Rise (flds t) ∧ ∀ f ∈ flds t, NR d (val f)
def NRt (d : Nat) (t : T) : Prop := kd t = 4 → Rise (flds t) ∧ ∀ f ∈ flds t, NR d (val f)
theorem NR.term {d : Nat} {v t : T} (h : NR (d + 1) v) (ht : t ∈ terms v) : NRt d t := h t ht
theorem drop_any {l : List T} {j : Nat} (h : j < l.length) (p : T → Bool) : (l.drop j).any p = (p l[j] || (l.drop (j + 1)).any p) := by rw [List.drop_eq_getElem_cons h, List.any_cons]
theorem drop_all {l : List T} {j : Nat} (h : j < l.length) (p : T → Bool) : (l.drop j).all p = (p l[j] && (l.drop (j + 1)).all p) := by rw [List.drop_eq_getElem_cons h, List.all_cons]
theorem hasField_does (l : List T) (c : T) (p : T → Bool) (hl : l.length ≤ 1000) (hp : ∀ x ∈ l, Dz i_lat_lacks_1 none [A.t x, A.t c] (1, [A.t (T.bool (p x)), A.t c])) : Dz i_slices_ContainsFunc_Field_lacks1 none [A.t (T.node l), A.t c] (1, [A.t (T.bool (l.any p)), A.t c]) :=
  has1_does q_slices_ContainsFunc_Field_lacks1 q_slices_IndexFunc_Field_lacks1 q_slices_IndexFunc_Field_lacks1_c1 l c p (by omega) hp
theorem hasTerm_does (l : List T) (c : T) (p : T → Bool) (hl : l.length ≤ 1000) (hp : ∀ x ∈ l, Dz i_lat_under_1 none [A.t x, A.t c] (1, [A.t (T.bool (p x)), A.t c])) : Dz i_slices_ContainsFunc_Term_under1 none [A.t (T.node l), A.t c] (1, [A.t (T.bool (l.any p)), A.t c]) :=
  has1_does q_slices_ContainsFunc_Term_under1 q_slices_IndexFunc_Term_under1 q_slices_IndexFunc_Term_under1_c1 l c p (by omega) hp
theorem lacks_does (a b : T) (ha : (flds a).length ≤ 1000) (hb : (flds b).length ≤ 1000) (hr : Rise (flds a)) : Dz i_lat_lacks none [A.t a, A.t b] (1, [A.t (T.bool (lackT a b))]) := by
  have h1 : ∀ x ∈ flds b, Dz i_lat_lacks_1 none [A.t x, A.t a] (1, [A.t (T.bool (decide (findF (flds a) (nm x) 0 < 0))), A.t a]) := by
    intro x _
    obtain ⟨n0, h0⟩ := lfind_does (flds a) (nm x) ha hr
    refine Does.of n0 fun m hm => ?_
    rw [q_lat_lacks_1]
    simp only [S0, S9, S1, S2, if_true, if_false, nm_eq, h0 m hm]
  obtain ⟨n0, h0⟩ := hasField_does (flds b) a _ hb h1
  refine Does.of n0 fun m hm => ?_
  rw [q_lat_lacks, lackT]
  simp only [S0, S9, S1, S2, if_true, if_false, h0 m hm, op_eq]
  cases op a <;> rfl
theorem below_loop (U : T → T → Bool) (a : T) (l : List T) (ha : (flds a).length ≤ 1000) (hl : l.length ≤ 1000) (hr : Rise (flds a)) (hu : ∀ f ∈ flds a, ∀ g ∈ l, Dz i_lat_under none [A.t (val f), A.t (val g)] (1, [A.t (T.bool (U (val f) (val g)))])) : ∀ (k j : Nat), j + k = l.length →
    Dz i_lat_below (some p_lat_below_c1) [A.t (T.node l), A.t (T.int (l.length : Nat)), A.t (T.int j), A.t a] (if (l.drop j).all (fitF U a) then (3, []) else (1, [A.t (T.bool false)])) := by
  intro k
  induction k with
  | zero =>
    intro j hj
    refine Does.now fun m => ?_
    rw [q_lat_below_c1, List.drop_of_length_le (by omega)]
    simp only [S0, S9, S1, S2, if_true, if_false]
    rw [if_neg (by omega)]; rfl
  | succ k ih =>
    intro j hj
    have hlt : j < l.length := by omega
    have hw : IntKind.i64.wrap ((j : Int) + 1) = ((j + 1 : Nat) : Int) := i64succ (by omega)
    have hle := findF_le (flds a) (nm l[j]) 0
    rw [drop_all hlt]
    obtain ⟨n1, h1⟩ := lfind_does (flds a) (nm l[j]) ha hr
    by_cases hneg : findF (flds a) (nm l[j]) 0 < 0
    · refine Does.of n1 fun m hm => ?_
      have hf : fitF U a l[j] = false := by rw [fitF, decide_eq_false (by omega), Bool.false_and]
      rw [q_lat_below_c1]
      simp only [S0, S9, S1, S2, if_true, if_false, at_get hlt, nm_eq, h1 m hm, hf]
      rw [if_pos (by omega), if_pos (by omega), if_neg (by omega)]
      rfl
    · have hk : (findF (flds a) (nm l[j]) 0).toNat < (flds a).length := by omega
      have h2 := hu _ (List.getElem_mem hk) _ (List.getElem_mem hlt)
      have hf : fitF U a l[j] = U (val (flds a)[(findF (flds a) (nm l[j]) 0).toNat]) (val l[j]) := by rw [fitF, decide_eq_true (by omega), Bool.true_and, atF, at_get hk]
      obtain ⟨n2, h2⟩ := h2.both (ih (j + 1) (by omega))
      refine Does.of (n1 + n2) fun m hm => ?_
      obtain ⟨q2, q3⟩ := h2 m (by omega)
      have q1 := h1 m (by omega)
      rw [q_lat_below_c1, hf]
      simp only [S0, S9, S1, S2, if_true, if_false, at_get hlt, at_get hk, nm_eq, val_eq, q1, q2, q3, hw]
      rw [if_pos (by omega), if_pos (by omega), if_pos (by omega), if_pos (by omega)]
      cases U (val (flds a)[(findF (flds a) (nm l[j]) 0).toNat]) (val l[j]) <;> simp
theorem lbelow_does (U : T → T → Bool) (a b : T) (ha : (flds a).length ≤ 1000) (hb : (flds b).length ≤ 1000) (hra : kd a = 4 → Rise (flds a)) (hrb : kd b = 4 → Rise (flds b))
    (hu : kd a = 4 → kd b = 4 → ∀ f ∈ flds a, ∀ g ∈ flds b, Dz i_lat_under none [A.t (val f), A.t (val g)] (1, [A.t (T.bool (U (val f) (val g)))])) : Dz i_lat_below none [A.t a, A.t b] (1, [A.t (T.bool (belowT U a b))]) := by
  by_cases h5 : kd b = 5
  · refine Does.now fun m => ?_
    rw [q_lat_below, belowT, if_pos h5]
    simp only [S0, S9, S1, S2, if_true, if_false, kd_eq, h5]
  by_cases h4 : kd a = 4 ∧ kd b = 4
  · obtain ⟨n1, h1⟩ := lacks_does b a hb ha (hrb h4.2)
    obtain ⟨n2, h2⟩ := below_loop U a (flds b) ha hb (hra h4.1) (hu h4.1 h4.2) (flds b).length 0 (by omega)
    refine Does.of (n1 + n2) fun m hm => ?_
    have q1 := h1 m (by omega)
    have q2 : den Tryd.prog G0 ents m i_lat_below (some p_lat_below_c1) [A.t (T.node (flds b)), A.t (T.int ((flds b).length : Nat)), A.t (T.int 0), A.t a] = _ := h2 m (by omega)
    rw [List.drop_zero] at q2
    rw [q_lat_below, belowT, if_neg h5, if_pos h4]
    simp only [S9, S1, terms_eq, flds_eq, kd_eq, op_eq, h4.1, h4.2, q1, q2]
    cases op a <;> cases op b <;> cases lackT b a <;> cases (flds b).all (fitF U a) <;> rfl
  · obtain ⟨n0, h0⟩ := sbelow_does a b
    refine Does.of n0 fun m hm => ?_
    rw [q_lat_below, belowT, if_neg h5, if_neg h4]
    simp only [S0, S9, S1, S2, if_true, if_false, kd_eq, h0 m hm]
    by_cases h1 : kd a = kd b
    · have : ¬ kd a = 4 := fun e => h4 ⟨e, h1 ▸ e⟩
      simp [h1 ▸ this, h1, h5]
    · simp [h1, h5]
theorem lunder_loop (U : T → T → Bool) (l : List T) (b : T) (hl : l.length ≤ 1000) (hb : (terms b).length ≤ 1000) (hp : ∀ x ∈ l, ∀ y ∈ terms b, Dz i_lat_below none [A.t x, A.t y] (1, [A.t (T.bool (belowT U x y))])) : ∀ (k j : Nat), j + k = l.length →
    Dz i_lat_under (some p_lat_under_c1) [A.t (T.node l), A.t (T.int (l.length : Nat)), A.t (T.int j), A.t b] (if (l.drop j).all (fun t => (terms b).any fun u => belowT U t u) then (2, []) else (1, [A.t (T.bool false)])) := by
  intro k
  induction k with
  | zero =>
    intro j hj
    refine Does.now fun m => ?_
    rw [q_lat_under_c1, List.drop_of_length_le (by omega)]
    simp only [S0, S9, S1, S2, if_true, if_false]
    rw [if_neg (by omega)]; rfl
  | succ k ih =>
    intro j hj
    have hlt : j < l.length := by omega
    have hw : IntKind.i64.wrap ((j : Int) + 1) = ((j + 1 : Nat) : Int) := i64succ (by omega)
    have h1 : ∀ y ∈ terms b, Dz i_lat_under_1 none [A.t y, A.t l[j]] (1, [A.t (T.bool (belowT U l[j] y)), A.t l[j]]) := by
      intro y hy
      obtain ⟨n0, h0⟩ := hp _ (List.getElem_mem hlt) y hy
      refine Does.of n0 fun m hm => ?_
      rw [q_lat_under_1]
      simp only [S0, S9, S1, S2, if_true, if_false, h0 m hm]
    obtain ⟨n0, h0⟩ := (hasTerm_does (terms b) l[j] _ hb h1).both (ih (j + 1) (by omega))
    refine Does.of n0 fun m hm => ?_
    obtain ⟨q1, q2⟩ := h0 m hm
    rw [q_lat_under_c1, drop_all hlt]
    simp only [S0, S9, S1, S2, if_true, if_false, at_get hlt, q1, q2, hw]
    rw [if_pos (by omega), if_pos (by omega)]
    cases (terms b).any fun u => belowT U l[j] u <;> simp
theorem lunder_does : ∀ (d : Nat) (a b : T), Sm d a → Sm d b → NR d a → NR d b → Dz i_lat_under none [A.t a, A.t b] (1, [A.t (T.bool (underV d a b))])
  | 0, a, b, ha, _, _, _ => ha.1.elim
  | d + 1, a, b, ha, hb, na, nb => by
    have la := ha.terms
    have lb := hb.terms
    have hp : ∀ x ∈ terms a, ∀ y ∈ terms b, Dz i_lat_below none [A.t x, A.t y] (1, [A.t (T.bool (belowT (underV d) x y))]) := fun x hx y hy =>
      lbelow_does (underV d) x y (by have := ha.flds hx; omega) (by have := hb.flds hy; omega) (fun h => (na x hx h).1) (fun h => (nb y hy h).1)
        fun h1 h2 f hf g hg => lunder_does d _ _ (ha.sub hx hf) (hb.sub hy hg) ((na x hx h1).2 f hf) ((nb y hy h2).2 g hg)
    obtain ⟨n0, h0⟩ := lunder_loop (underV d) (terms a) b (by omega) (by omega) hp (terms a).length 0 (by omega)
    refine Does.of n0 fun m hm => ?_
    have q : den Tryd.prog G0 ents m i_lat_under (some p_lat_under_c1) [A.t (T.node (terms a)), A.t (T.int ((terms a).length : Nat)), A.t (T.int 0), A.t b] = _ := h0 m hm
    rw [List.drop_zero, ← underV_succ] at q
    rw [q_lat_under]
    simp only [S0, S9, S1, S2, if_true, if_false, q]
    cases underV (d + 1) a b <;> rfl
theorem rlack_loop (a b : T) (ha : (flds a).length ≤ 1000) (hb : (flds b).length ≤ 1000) : ∀ (k j : Nat), j + k = (flds a).length →
    Dz i_R09_under (some p_R09_under_c1) [A.t (T.int j), A.t a, A.t b] (if !op b && ((flds a).drop j).any (fun f => decide (findF (flds b) (nm f) 0 < 0)) then (1, [A.t (T.bool false)]) else (2, [A.t a, A.t b])) := by
  intro k
  induction k with
  | zero =>
    intro j hj
    refine Does.now fun m => ?_
    rw [q_R09_under_c1, List.drop_of_length_le (by omega)]
    simp only [S0, S9, S1, S2, if_true, if_false, op_eq]
    rw [if_neg (by omega)]
    simp
  | succ k ih =>
    intro j hj
    have hlt : j < (flds a).length := by omega
    have hw : IntKind.i64.wrap ((j : Int) + 1) = ((j + 1 : Nat) : Int) := i64succ (by omega)
    obtain ⟨n0, h0⟩ := (rfind_does (flds b) (nm (flds a)[j]) hb).both (ih (j + 1) (by omega))
    refine Does.of n0 fun m hm => ?_
    obtain ⟨q1, q2⟩ := h0 m hm
    rw [q_R09_under_c1, drop_any hlt]
    simp only [S0, S9, S1, S2, if_true, if_false, op_eq, at_get hlt, nm_eq, q1, q2, hw, Bool.not_eq_true']
    rw [if_pos (by omega)]
    cases ho : op b with
    | true => simp
    | false =>
      rw [if_pos rfl, if_pos (by omega)]
      by_cases h : findF (flds b) (nm (flds a)[j]) 0 < 0
      · simp [h]
      · simp [h]
theorem rbelow_loop (U : T → T → Bool) (a b : T) (ha : (flds a).length ≤ 1000) (hb : (flds b).length ≤ 1000) (hu : ∀ f ∈ flds a, ∀ g ∈ flds b, Dz i_R09_Under none [A.t (val f), A.t (val g)] (1, [A.t (T.bool (U (val f) (val g)))])) : ∀ (k j : Nat), j + k = (flds b).length →
    Dz i_R09_under (some p_R09_under_c2) [A.t (T.int j), A.t a, A.t b] (if ((flds b).drop j).all (fitF U a) then (4, []) else (1, [A.t (T.bool false)])) := by
  intro k
  induction k with
  | zero =>
    intro j hj
    refine Does.now fun m => ?_
    rw [q_R09_under_c2, List.drop_of_length_le (by omega)]
    simp only [S0, S9, S1, S2, if_true, if_false]
    rw [if_neg (by omega)]; rfl
  | succ k ih =>
    intro j hj
    have hlt : j < (flds b).length := by omega
    have hw : IntKind.i64.wrap ((j : Int) + 1) = ((j + 1 : Nat) : Int) := i64succ (by omega)
    have hle := findF_le (flds a) (nm (flds b)[j]) 0
    rw [drop_all hlt]
    obtain ⟨n1, h1⟩ := rfind_does (flds a) (nm (flds b)[j]) ha
    by_cases hneg : findF (flds a) (nm (flds b)[j]) 0 < 0
    · refine Does.of n1 fun m hm => ?_
      have hf : fitF U a (flds b)[j] = false := by rw [fitF, decide_eq_false (by omega), Bool.false_and]
      rw [q_R09_under_c2]
      simp only [S0, S9, S1, S2, if_true, if_false, at_get hlt, nm_eq, h1 m hm, hf]
      rw [if_pos (by omega), if_pos (by omega), if_neg (by omega)]
      rfl
    · have hk : (findF (flds a) (nm (flds b)[j]) 0).toNat < (flds a).length := by omega
      have h2 := hu _ (List.getElem_mem hk) _ (List.getElem_mem hlt)
      have hf : fitF U a (flds b)[j] = U (val (flds a)[(findF (flds a) (nm (flds b)[j]) 0).toNat]) (val (flds b)[j]) := by rw [fitF, decide_eq_true (by omega), Bool.true_and, atF, at_get hk]
      obtain ⟨n2, h2⟩ := h2.both (ih (j + 1) (by omega))
      refine Does.of (n1 + n2) fun m hm => ?_
      obtain ⟨q2, q3⟩ := h2 m (by omega)
      have q1 := h1 m (by omega)
      rw [q_R09_under_c2, hf]
      simp only [S0, S9, S1, S2, if_true, if_false, at_get hlt, at_get hk, nm_eq, val_eq, q1, q2, q3, hw]
      rw [if_pos (by omega), if_pos (by omega), if_pos (by omega), if_pos (by omega), if_pos (by omega)]
      cases U (val (flds a)[(findF (flds a) (nm (flds b)[j]) 0).toNat]) (val (flds b)[j]) <;> simp
theorem runder1_does (U : T → T → Bool) (a b : T) (ha : (flds a).length ≤ 1000) (hb : (flds b).length ≤ 1000)
    (hu : kd a = 4 → kd b = 4 → ∀ f ∈ flds a, ∀ g ∈ flds b, Dz i_R09_Under none [A.t (val f), A.t (val g)] (1, [A.t (T.bool (U (val f) (val g)))])) : Dz i_R09_under none [A.t a, A.t b] (1, [A.t (T.bool (belowT U a b))]) := by
  by_cases h5 : kd b = 5
  · refine Does.now fun m => ?_
    rw [q_R09_under, belowT, if_pos h5]
    simp only [S0, S9, S1, S2, if_true, if_false, kd_eq, h5]
  by_cases h4 : kd a = 4 ∧ kd b = 4
  · obtain ⟨n1, h1⟩ := rlack_loop a b ha hb (flds a).length 0 (by omega)
    obtain ⟨n2, h2⟩ := rbelow_loop U a b ha hb (hu h4.1 h4.2) (flds b).length 0 (by omega)
    refine Does.of (n1 + n2) fun m hm => ?_
    have q1 : den Tryd.prog G0 ents m i_R09_under (some p_R09_under_c1) [A.t (T.int 0), A.t a, A.t b] = _ := h1 m (by omega)
    have q2 : den Tryd.prog G0 ents m i_R09_under (some p_R09_under_c2) [A.t (T.int 0), A.t a, A.t b] = _ := h2 m (by omega)
    rw [List.drop_zero] at q1 q2
    rw [q_R09_under, belowT, if_neg h5, if_pos h4, lackT]
    simp only [S9, S1, terms_eq, flds_eq, kd_eq, op_eq, h4.1, h4.2, q1]
    generalize (flds a).any (fun f => decide (findF (flds b) (nm f) 0 < 0)) = c1 at q1 ⊢
    generalize (flds b).all (fitF U a) = c2 at q2 ⊢
    cases hoa : op a <;> cases hob : op b <;> cases c1 <;> simp [aAt_zero, aAt_succ, tree_t, q2] <;> cases c2 <;> rfl
  · obtain ⟨n0, h0⟩ := rbelow_does a b
    refine Does.of n0 fun m hm => ?_
    rw [q_R09_under, belowT, if_neg h5, if_neg h4]
    simp only [S0, S9, S1, S2, if_true, if_false, kd_eq, h0 m hm]
    by_cases h1 : kd a = 4
    · have : ¬ kd b = 4 := fun e => h4 ⟨h1, e⟩
      simp [h1, this, h5]
    · simp [h1, h5]
theorem runder_in (U : T → T → Bool) (i : Nat) (a b : T) (hi : i < (terms a).length) (hb : (terms b).length ≤ 1000) (hp : ∀ y ∈ terms b, Dz i_R09_under none [A.t (tAtD (terms a) i), A.t y] (1, [A.t (T.bool (belowT U (tAtD (terms a) i) y))])) : ∀ (k j : Nat) (met : Bool), j + k = (terms b).length →
    Dz i_R09_Under (some p_R09_Under_c2) [A.t (T.int i), A.t (T.bool met), A.t (T.int j), A.t a, A.t b] (4, [A.t (T.int i), A.t (T.bool (met || ((terms b).drop j).any fun u => belowT U (tAtD (terms a) i) u)), A.t a, A.t b]) := by
  intro k
  induction k with
  | zero =>
    intro j met hj
    refine Does.now fun m => ?_
    rw [q_R09_Under_c2, List.drop_of_length_le (by omega)]
    simp only [S0, S9, S1, S2, if_true, if_false]
    rw [if_neg (by omega)]; simp
  | succ k ih =>
    intro j met hj
    have hlt : j < (terms b).length := by omega
    have hw : IntKind.i64.wrap ((j : Int) + 1) = ((j + 1 : Nat) : Int) := i64succ (by omega)
    cases met with
    | true =>
      refine Does.now fun m => ?_
      rw [q_R09_Under_c2]
      simp only [S0, S9, S1, S2, if_true, if_false]
      rw [if_pos (by omega)]; rfl
    | false =>
      have h1 := hp _ (List.getElem_mem hlt)
      obtain ⟨n0, h0⟩ := h1.both (ih (j + 1) (belowT U (tAtD (terms a) i) (terms b)[j]) (by omega))
      refine Does.of n0 fun m hm => ?_
      obtain ⟨q1, q2⟩ := h0 m hm
      rw [q_R09_Under_c2, drop_any hlt]
      simp only [S0, S9, S1, S2, if_true, if_false, at_get hlt, q1, hw, q2, Bool.not_false]
      rw [if_pos (by omega), if_pos (by omega), if_pos (by omega), Bool.false_or]
theorem runder_loop (U : T → T → Bool) (a b : T) (ha : (terms a).length ≤ 1000) (hb : (terms b).length ≤ 1000) (hp : ∀ x ∈ terms a, ∀ y ∈ terms b, Dz i_R09_under none [A.t x, A.t y] (1, [A.t (T.bool (belowT U x y))])) : ∀ (k j : Nat), j + k = (terms a).length →
    Dz i_R09_Under (some p_R09_Under_c1) [A.t (T.int j), A.t a, A.t b] (if ((terms a).drop j).all (fun t => (terms b).any fun u => belowT U t u) then (2, []) else (1, [A.t (T.bool false)])) := by
  intro k
  induction k with
  | zero =>
    intro j hj
    refine Does.now fun m => ?_
    rw [q_R09_Under_c1, List.drop_of_length_le (by omega)]
    simp only [S0, S9, S1, S2, if_true, if_false]
    rw [if_neg (by omega)]; rfl
  | succ k ih =>
    intro j hj
    have hlt : j < (terms a).length := by omega
    have hw : IntKind.i64.wrap ((j : Int) + 1) = ((j + 1 : Nat) : Int) := i64succ (by omega)
    have hin := runder_in U j a b hlt hb (fun y hy => by rw [at_get hlt]; exact hp _ (List.getElem_mem hlt) y hy) (terms b).length 0 false (by omega)
    rw [List.drop_zero, Bool.false_or, at_get hlt] at hin
    obtain ⟨n0, h0⟩ := hin.both (ih (j + 1) (by omega))
    refine Does.of n0 fun m hm => ?_
    obtain ⟨q1, q2⟩ := h0 m hm
    have q1' : den Tryd.prog G0 ents m i_R09_Under (some p_R09_Under_c2) [A.t (T.int j), A.t (T.bool false), A.t (T.int 0), A.t a, A.t b] = _ := q1
    rw [q_R09_Under_c1, drop_all hlt]
    simp only [S0, S9, S1, S2, if_true, if_false, q1', hw, q2]
    rw [if_pos (by omega)]
    cases (terms b).any fun u => belowT U (terms a)[j] u <;> simp
theorem runder_does : ∀ (d : Nat) (a b : T), Sm d a → Sm d b → Dz i_R09_Under none [A.t a, A.t b] (1, [A.t (T.bool (underV d a b))])
  | 0, a, b, ha, _ => ha.1.elim
  | d + 1, a, b, ha, hb => by
    have la := ha.terms
    have lb := hb.terms
    have hp : ∀ x ∈ terms a, ∀ y ∈ terms b, Dz i_R09_under none [A.t x, A.t y] (1, [A.t (T.bool (belowT (underV d) x y))]) := fun x hx y hy =>
      runder1_does (underV d) x y (by have := ha.flds hx; omega) (by have := hb.flds hy; omega)
        fun h1 h2 f hf g hg => runder_does d _ _ (ha.sub hx hf) (hb.sub hy hg)
    obtain ⟨n0, h0⟩ := runder_loop (underV d) a b (by omega) (by omega) hp (terms a).length 0 (by omega)
    refine Does.of n0 fun m hm => ?_
    have q : den Tryd.prog G0 ents m i_R09_Under (some p_R09_Under_c1) [A.t (T.int 0), A.t a, A.t b] = _ := h0 m hm
    rw [List.drop_zero, ← underV_succ] at q
    rw [q_R09_Under]
    simp only [S0, S9, S1, S2, if_true, if_false, q]
    cases underV (d + 1) a b <;> rfl
end Go.Proofs.YtffncdkbcphbgaaDoorDD
namespace Go.Proofs.YtffncdkbcphbgaaDoorDD
open Go Go.Proofs.YtffncdkbcphbgaaDoorVM
set_option linter.unusedVariables false
set_option linter.unusedSimpArgs false
set_option maxRecDepth 100000

def allN (p : Nat → Bool) : Nat → Nat → Bool
  | 0, _ => true
  | k + 1, j => p j && allN p k (j + 1)
theorem allN_iff (p : Nat → Bool) : ∀ k j, allN p k j = true ↔ ∀ i, j ≤ i → i < j + k → p i = true
  | 0, j => by simp [allN]; omega
  | k + 1, j => by
    rw [allN, Bool.and_eq_true, allN_iff p k (j + 1)]
    constructor
    · intro h i h1 h2
      rcases Nat.eq_or_lt_of_le h1 with rfl | h3
      · exact h.1
      · exact h.2 i h3 (by omega)
    · intro h
      exact ⟨h j (by omega) (by omega), fun i h1 h2 => h i (by omega) (by omega)⟩
def anyT : T := trm 5 0 0 emptyB false false false []
def bareT (t : T) : Bool := decide (lo t = 0) && decide (hi t = 0) && decide (tx t = emptyB) && !an t && !mb t
def fullF (R : T → Bool) (f : T) : Bool := decide ((terms (val f)).length ≠ 0) && R (val f)
def okT (R : T → Bool) (d : Nat) (t : T) : Bool :=
  if kd t = 5 then decide (cmpT d t anyT = 0)
  else if kd t = 4 then bareT t && decide ((flds t).length ≤ 32) && names (flds t) && (flds t).all (fullF R)
  else rightS t
def ascAt (d : Nat) (l : List T) (j : Nat) : Bool := j == 0 || decide (cmpT d (tAtD l (j - 1)) (tAtD l j) < 0)
def apart (d : Nat) (l : List T) (i k : Nat) : Bool := decide (i = k) || !belowT (underV d) (tAtD l i) (tAtD l k)
def inOrder (R : T → Bool) (d : Nat) (l : List T) : Bool := allN (fun j => okT R d (tAtD l j) && ascAt d l j) l.length 0
def allApart (d : Nat) (l : List T) : Bool := allN (fun i => allN (apart d l i) l.length 0) l.length 0
def okV : Nat → T → Bool
  | 0, _ => false
  | d + 1, v => inOrder (okV d) d (terms v) && allApart d (terms v)
def listV : Nat → Nat → T → Bool
  | 0, _, _ => false
  | _ + 1, 0, _ => false
  | d + 1, e + 1, v => inOrder (listV d e) d (terms v) && allApart d (terms v)
def refV : Nat → T → Bool
  | 0, _ => false
  | d + 1, v => decide (dep (d + 1) v ≤ 16) && (inOrder (refV d) d (terms v) && allApart d (terms v))
def depT (d : Nat) (t : T) : Nat := maxN ((flds t).map fun f => dep d (val f))
theorem dep_succ (d : Nat) (v : T) : dep (d + 1) v = 1 + maxN ((terms v).map (depT d)) := id rfl
theorem maxN_le (l : List Nat) (e : Nat) : maxN l ≤ e ↔ ∀ x ∈ l, x ≤ e := by
  induction l with
  | nil => simp [maxN]
  | cons a l ih =>
    rw [max_cons, Nat.max_le, ih]
    simp
theorem any_flds {d : Nat} {t : T} (h : cmpT d t anyT = 0) : flds t = [] := by
  unfold cmpT at h
  have hp : cmpL (cmpG d) (flds t) (flds anyT) = 0 := by
    unfold fst at h
    split at h
    · exact h
    · rename_i h1; exact absurd h h1
  cases hf : flds t with
  | nil => rfl
  | cons f l =>
    rw [hf] at hp
    have : flds anyT = [] := rfl
    rw [this] at hp
    simp [cmpL] at hp
theorem okT_flds {R : T → Bool} {d : Nat} {t : T} (h : okT R d t = true) (h4 : kd t ≠ 4) : flds t = [] := by
  unfold okT at h
  split at h
  · exact any_flds (of_decide_eq_true h)
  · exact (right_op h).2.1
theorem okT_deep {R S : T → Bool} {d e : Nat} {t : T} (hR : ∀ f ∈ flds t, R (val f) = (S (val f) && decide (dep d (val f) ≤ e))) : okT R d t = (okT S d t && decide (depT d t ≤ e)) := by
  by_cases h4 : kd t = 4
  · have hall : (flds t).all (fullF R) = ((flds t).all (fullF S) && decide (depT d t ≤ e)) := by
      rw [Bool.eq_iff_iff, Bool.and_eq_true, decide_eq_true_eq, List.all_eq_true, List.all_eq_true, depT, maxN_le]
      simp only [fullF, List.mem_map, forall_exists_index, and_imp, forall_apply_eq_imp_iff₂]
      constructor
      · intro h
        refine ⟨fun f hf => ?_, fun f hf => ?_⟩
        · have := h f hf; rw [hR f hf] at this; simp only [Bool.and_eq_true, decide_eq_true_eq] at this ⊢; exact ⟨this.1, this.2.1⟩
        · have := h f hf; rw [hR f hf] at this; simp only [Bool.and_eq_true, decide_eq_true_eq] at this; exact this.2.2
      · rintro ⟨h1, h2⟩ f hf
        have := h1 f hf; rw [hR f hf]; simp only [Bool.and_eq_true, decide_eq_true_eq] at this ⊢; exact ⟨this.1, this.2, h2 f hf⟩
    unfold okT
    rw [if_neg (by omega), if_pos h4, if_neg (by omega), if_pos h4, hall, Bool.and_assoc]
    simp only [Bool.and_assoc]
  · have he : okT R d t = okT S d t := by unfold okT; rw [if_neg h4, if_neg h4]
    rw [he]
    cases hb : okT S d t with
    | false => rfl
    | true =>
      have : depT d t = 0 := by rw [depT, okT_flds hb h4]; rfl
      rw [this]; simp
theorem order_deep {R S : T → Bool} {d e : Nat} {l : List T} (hR : ∀ t ∈ l, ∀ f ∈ flds t, R (val f) = (S (val f) && decide (dep d (val f) ≤ e))) : inOrder R d l = (inOrder S d l && decide (maxN (l.map (depT d)) ≤ e)) := by
  have hT : ∀ j, j < l.length → okT R d (tAtD l j) = (okT S d (tAtD l j) && decide (depT d (tAtD l j) ≤ e)) := fun j hj => okT_deep (by rw [at_get hj]; exact hR _ (List.getElem_mem hj))
  unfold inOrder
  rw [Bool.eq_iff_iff, Bool.and_eq_true, decide_eq_true_eq, allN_iff, allN_iff, maxN_le]
  simp only [Nat.zero_le, true_implies, Nat.zero_add, List.mem_map, forall_exists_index, and_imp, forall_apply_eq_imp_iff₂]
  constructor
  · intro h
    refine ⟨fun i hi => ?_, fun t ht => ?_⟩
    · have := h i hi; rw [hT i hi] at this; simp only [Bool.and_eq_true, decide_eq_true_eq] at this ⊢; exact ⟨this.1.1, this.2⟩
    · obtain ⟨i, hi, rfl⟩ := List.getElem_of_mem ht
      have := h i hi; rw [hT i hi, at_get hi] at this; simp only [Bool.and_eq_true, decide_eq_true_eq] at this; exact this.1.2
  · rintro ⟨h1, h2⟩ i hi
    have := h1 i hi; rw [hT i hi]; simp only [Bool.and_eq_true, decide_eq_true_eq] at this ⊢
    exact ⟨⟨this.1, by rw [at_get hi]; exact h2 _ (List.getElem_mem hi)⟩, this.2⟩
theorem listV_eq : ∀ (d e : Nat) (v : T), listV d e v = (okV d v && decide (dep d v ≤ e))
  | 0, e, v => by simp [listV, okV]
  | d + 1, 0, v => by rw [dep_succ, decide_eq_false (by omega), Bool.and_false]; rfl
  | d + 1, e + 1, v => by
    rw [listV, okV, order_deep (S := okV d) (e := e) (fun t _ f _ => listV_eq d e (val f)), dep_succ]
    have : decide (1 + maxN ((terms v).map (depT d)) ≤ e + 1) = decide (maxN ((terms v).map (depT d)) ≤ e) := decide_eq_decide.2 (by omega)
    rw [this, Bool.and_assoc, Bool.and_assoc, Bool.and_comm (decide _)]
theorem refV_eq : ∀ (d : Nat) (v : T), refV d v = (okV d v && decide (dep d v ≤ 16))
  | 0, v => by simp [refV, okV]
  | d + 1, v => by
    rw [refV, okV, order_deep (S := okV d) (e := 16) (fun t _ f _ => refV_eq d (val f)), Bool.and_comm]
    cases h : decide (dep (d + 1) v ≤ 16) with
    | false => rw [Bool.and_false, Bool.and_false]
    | true =>
      have h1 := of_decide_eq_true h
      rw [dep_succ] at h1
      rw [decide_eq_true (by omega : maxN ((terms v).map (depT d)) ≤ 16)]
      simp only [Bool.and_true]
theorem refV_list (d : Nat) (v : T) : refV d v = listV d 16 v := by rw [refV_eq, listV_eq]
theorem okV_NR : ∀ (d : Nat) (v : T), okV d v = true → NR d v
  | 0, v, h => by cases h
  | d + 1, v, h => by
    rw [okV, Bool.and_eq_true] at h
    intro t ht h4
    obtain ⟨i, hi, rfl⟩ := List.getElem_of_mem ht
    have := (allN_iff _ _ _).1 h.1 i (by omega) (by omega)
    rw [at_get hi, Bool.and_eq_true] at this
    have h1 := this.1
    unfold okT at h1
    rw [if_neg (by omega), if_pos h4, Bool.and_eq_true, Bool.and_eq_true, List.all_eq_true] at h1
    refine ⟨names_rise h1.1.2, fun f hf => okV_NR d _ ?_⟩
    have := h1.2 f hf
    rw [fullF, Bool.and_eq_true] at this
    exact this.2
theorem NRt_of {d : Nat} {R : T → Bool} {t : T} (hR : ∀ f ∈ flds t, R (val f) = true → NR d (val f)) (h : okT R d t = true) : NRt d t := by
  intro h4
  unfold okT at h
  rw [if_neg (by omega), if_pos h4, Bool.and_eq_true, Bool.and_eq_true, List.all_eq_true] at h
  refine ⟨names_rise h.1.2, fun f hf => hR f hf ?_⟩
  have := h.2 f hf
  rw [fullF, Bool.and_eq_true] at this
  exact this.2
theorem listV_NR {d e : Nat} {v : T} (h : listV d e v = true) : NR d v := by
  rw [listV_eq, Bool.and_eq_true] at h
  exact okV_NR d v h.1
end Go.Proofs.YtffncdkbcphbgaaDoorDD
namespace Go.Proofs.YtffncdkbcphbgaaDoorDD
open Go Go.Proofs.YtffncdkbcphbgaaDoorVM
set_option linter.unusedVariables false
set_option linter.unusedSimpArgs false
set_option maxRecDepth 100000

theorem anyT_eq : T.node [T.int 5, T.int 0, T.int 0, T.str ByteArray.empty, T.bool false, T.bool false, T.bool false, T.node []] = anyT := id rfl
theorem Sm_any (d : Nat) : SmT d anyT := ⟨by decide, fun f hf => absurd hf (by show ¬ f ∈ []; simp)⟩
theorem beqI (a b : Int) : (a == b) = decide (a = b) := Bool.beq_eq_decide_eq a b
theorem anything_does {d : Nat} {t : T} (h : SmT d t) : Dz i_lat_anything none [A.t t] (1, [A.t (T.bool (decide (cmpT d t anyT = 0)))]) := by
  obtain ⟨n0, h0⟩ := pt_does h (Sm_any d)
  refine Does.of n0 fun m hm => ?_
  rw [q_lat_anything]; simp only [S9, S1]; rw [anyT_eq]
  simp only [S0, S9, S1, S2, if_true, if_false, h0 m hm, beqI]
theorem lbare_does (t : T) : Dz i_lat_bare none [A.t t] (1, [A.t (T.bool (bareT t))]) := by
  refine Does.now fun m => ?_
  rw [q_lat_bare]
  simp only [S9, S1, Option.map_some, Option.bind_some, aAt_zero, tree_t, tf_bool, kd_eq, lo_eq, hi_eq, tx_eq, an_eq, mb_eq, seq_dec, eb_eq, bareT, Bool.cond_eq_ite, Bool.beq_eq_decide_eq, coll]
  apply ans
  generalize mb t = m
  generalize an t = a
  generalize tx t = x
  generalize lo t = l
  generalize hi t = h
  grind
theorem shaped_loop (R : T → Bool) (l : List T) (e : Nat) (he : e ≤ 1000) (hl : l.length ≤ 1000) (hR : ∀ f ∈ l, Dz i_lat_listed none [A.t (val f), A.t (T.int e)] (1, [A.t (T.bool (R (val f)))])) : ∀ (k j : Nat), j + k = l.length →
    Dz i_lat_shaped (some p_lat_shaped_c1) [A.t (T.int (e + 1 : Nat)), A.t (T.node l), A.t (T.int (l.length : Nat)), A.t (T.int j)] (if (l.drop j).all (fullF R) then (3, []) else (1, [A.t (T.bool false)])) := by
  intro k
  induction k with
  | zero =>
    intro j hj
    refine Does.now fun m => ?_
    rw [q_lat_shaped_c1, List.drop_of_length_le (by omega)]
    simp only [S0, S9, S1, S2, if_true, if_false]
    rw [if_neg (by omega)]; rfl
  | succ k ih =>
    intro j hj
    have hlt : j < l.length := by omega
    have hw : IntKind.i64.wrap ((j : Int) + 1) = ((j + 1 : Nat) : Int) := i64succ (by omega)
    have hd : IntKind.i64.wrap (((e + 1 : Nat) : Int) - 1) = ((e : Nat) : Int) := by rw [w64 (by omega) (by omega)]; omega
    obtain ⟨n0, h0⟩ := (hR _ (List.getElem_mem hlt)).both (ih (j + 1) (by omega))
    refine Does.of n0 fun m hm => ?_
    obtain ⟨q1, q2⟩ := h0 m hm
    rw [q_lat_shaped_c1, drop_all hlt]
    simp only [S0, S9, S1, S2, if_true, if_false, at_get hlt, val_eq, hw, hd, q1, q2, fullF, e0_zero, Bool.not_eq_true']
    rw [if_pos (by omega), if_pos (by omega)]
    by_cases hz : (terms (val l[j])).length = 0
    · rw [if_neg (by simp [hz]), if_neg (by simp [hz])]
    · rw [if_pos (by simp [hz])]
      cases R (val l[j]) <;> simp [hz]
theorem shaped_does (R : T → Bool) (d : Nat) (t : T) (ht : SmT d t) (e : Nat) (he : e ≤ 1000) (hR : kd t = 4 → ∀ f ∈ flds t, Dz i_lat_listed none [A.t (val f), A.t (T.int e)] (1, [A.t (T.bool (R (val f)))])) : Dz i_lat_shaped none [A.t t, A.t (T.int (e + 1 : Nat))] (1, [A.t (T.bool (okT R d t))]) := by
  have hl := ht.1
  by_cases h5 : kd t = 5
  · obtain ⟨n0, h0⟩ := anything_does ht
    refine Does.of n0 fun m hm => ?_
    rw [q_lat_shaped, okT, if_pos h5]
    simp only [S0, S9, S1, S2, if_true, if_false, kd_eq, h0 m hm, h5]
  by_cases h4 : kd t = 4
  · obtain ⟨n1, h1⟩ := (lbare_does t).both (rising_does (flds t) (by omega))
    obtain ⟨n2, h2⟩ := shaped_loop R (flds t) e he (by omega) (hR h4) (flds t).length 0 (by omega)
    refine Does.of (n1 + n2) fun m hm => ?_
    obtain ⟨q1, q2⟩ := h1 m (by omega)
    have q3 : den Tryd.prog G0 ents m i_lat_shaped (some p_lat_shaped_c1) [A.t (T.int (e + 1 : Nat)), A.t (T.node (flds t)), A.t (T.int ((flds t).length : Nat)), A.t (T.int 0)] = _ := h2 m (by omega)
    rw [List.drop_zero] at q3
    rw [q_lat_shaped, okT, if_neg h5, if_pos h4]
    simp only [S9, S1, terms_eq, flds_eq, num_int, kd_eq, h4, q1, q2, q3]
    have h32 : decide ((((flds t).length : Nat) : Int) > 32) = !decide ((flds t).length ≤ 32) := by rw [Bool.eq_iff_iff]; simp; omega
    rw [h32]
    generalize (flds t).all (fullF R) = c
    generalize decide ((flds t).length ≤ 32) = c2
    generalize names (flds t) = c3
    generalize bareT t = c4
    cases c <;> cases c2 <;> cases c3 <;> cases c4 <;> rfl
  · obtain ⟨n0, h0⟩ := sright_does t
    refine Does.of n0 fun m hm => ?_
    rw [q_lat_shaped, okT, if_neg h5, if_neg h4]
    simp only [S0, S9, S1, S2, if_true, if_false, kd_eq, h0 m hm, h5, h4]
theorem listed_c1 (R : T → Bool) (d : Nat) (v : T) (hv : Sm (d + 1) v) (e : Nat) (he : e ≤ 1000) (hR : ∀ t ∈ terms v, ∀ f ∈ flds t, Dz i_lat_listed none [A.t (val f), A.t (T.int e)] (1, [A.t (T.bool (R (val f)))])) : ∀ (k j : Nat), j + k = (terms v).length →
    Dz i_lat_listed (some p_lat_listed_c1) [A.t (T.int (e + 1 : Nat)), A.t (T.node (terms v)), A.t (T.int ((terms v).length : Nat)), A.t (T.int j), A.t v] (if allN (fun j => okT R d (tAtD (terms v) j) && ascAt d (terms v) j) k j then (2, [A.t v]) else (1, [A.t (T.bool false)])) := by
  have hl := hv.terms
  intro k
  induction k with
  | zero =>
    intro j hj
    refine Does.now fun m => ?_
    rw [q_lat_listed_c1, allN]
    simp only [S0, S9, S1, S2, if_true, if_false]
    rw [if_neg (by omega)]
  | succ k ih =>
    intro j hj
    have hlt : j < (terms v).length := by omega
    have hw : IntKind.i64.wrap ((j : Int) + 1) = ((j + 1 : Nat) : Int) := i64succ (by omega)
    have hm := List.getElem_mem hlt
    have hs := shaped_does R d (terms v)[j] (hv.term hm) e he (fun _ => hR _ hm)
    rw [allN, at_get hlt]
    by_cases h0 : j = 0
    · subst h0
      obtain ⟨n0, h0⟩ := hs.both (ih (0 + 1) (by omega))
      refine Does.of n0 fun m hm => ?_
      obtain ⟨q1, q2⟩ := h0 m hm
      have hasc : ascAt d (terms v) 0 = true := rfl
      rw [hasc, q_lat_listed_c1]
      simp only [S0, S9, S1, S2, if_true, if_false, at_get hlt, hw, q1, q2, Bool.and_true]
      rw [if_pos (by omega), if_pos (by omega)]
      cases okT R d (terms v)[0] <;> simp
    · have hlt2 : j - 1 < (terms v).length := by omega
      have hp : IntKind.i64.wrap ((j : Int) - 1) = ((j - 1 : Nat) : Int) := by rw [w64 (by omega) (by omega)]; omega
      obtain ⟨n0, h0'⟩ := hs.both (ih (j + 1) (by omega))
      obtain ⟨n1, h1⟩ := pt_does (hv.term (List.getElem_mem hlt2)) (hv.term hm)
      refine Does.of (n0 + n1) fun m hm => ?_
      obtain ⟨q1, q2⟩ := h0' m (by omega)
      have q3 := h1 m (by omega)
      have hasc : ascAt d (terms v) j = decide (cmpT d (terms v)[j - 1] (terms v)[j] < 0) := by
        rw [ascAt, at_get hlt, at_get hlt2, show (j == 0) = false by simp [h0]]; rfl
      rw [hasc, q_lat_listed_c1]
      simp only [S0, S9, S1, S2, if_true, if_false, at_get hlt, at_get hlt2, hw, hp, q1, q2, q3]
      rw [if_pos (by omega), if_pos (by omega)]
      cases okT R d (terms v)[j] with
      | false => simp
      | true =>
        rw [if_pos (by rfl), if_pos (by omega), if_pos (by omega)]
        by_cases hc : cmpT d (terms v)[j - 1] (terms v)[j] < 0
        · rw [if_neg (by omega)]; simp [hc]
        · rw [if_pos (by omega)]; simp [hc]
theorem listed_c3 (d : Nat) (v : T) (i : Nat) (hi : i < (terms v).length) (hl : (terms v).length ≤ 1000) (hb : ∀ y ∈ terms v, Dz i_lat_below none [A.t (terms v)[i], A.t y] (1, [A.t (T.bool (belowT (underV d) (terms v)[i] y))])) : ∀ (k j : Nat), j + k = (terms v).length →
    Dz i_lat_listed (some p_lat_listed_c3) [A.t (T.int i), A.t (T.node (terms v)), A.t (T.int ((terms v).length : Nat)), A.t (T.int i), A.t (T.node (terms v)), A.t (T.int ((terms v).length : Nat)), A.t (T.int j), A.t v, A.t (terms v)[i]] (if allN (apart d (terms v) i) k j then (6, [A.t (T.node (terms v)), A.t (T.int ((terms v).length : Nat)), A.t (T.int i), A.t v]) else (1, [A.t (T.bool false)])) := by
  intro k
  induction k with
  | zero =>
    intro j hj
    refine Does.now fun m => ?_
    rw [q_lat_listed_c3, allN]
    simp only [S0, S9, S1, S2, if_true, if_false]
    rw [if_neg (by omega)]
  | succ k ih =>
    intro j hj
    have hlt : j < (terms v).length := by omega
    have hw : IntKind.i64.wrap ((j : Int) + 1) = ((j + 1 : Nat) : Int) := i64succ (by omega)
    obtain ⟨n0, h0⟩ := (hb _ (List.getElem_mem hlt)).both (ih (j + 1) (by omega))
    refine Does.of n0 fun m hm => ?_
    obtain ⟨q1, q2⟩ := h0 m hm
    have hap : apart d (terms v) i j = (decide (i = j) || !belowT (underV d) (terms v)[i] (terms v)[j]) := by rw [apart, at_get hi, at_get hlt]
    rw [q_lat_listed_c3, allN, hap]
    simp only [S0, S9, S1, S2, if_true, if_false, at_get hlt, hw, q1, q2]
    rw [if_pos (by omega), if_pos (by omega)]
    by_cases he : i = j
    · rw [if_neg (by omega)]; simp [he]
    · rw [if_pos (by omega)]
      cases belowT (underV d) (terms v)[i] (terms v)[j] <;> simp [he]
theorem listed_c2 (d : Nat) (v : T) (hl : (terms v).length ≤ 1000) (hb : ∀ x ∈ terms v, ∀ y ∈ terms v, Dz i_lat_below none [A.t x, A.t y] (1, [A.t (T.bool (belowT (underV d) x y))])) : ∀ (k j : Nat), j + k = (terms v).length →
    Dz i_lat_listed (some p_lat_listed_c2) [A.t (T.node (terms v)), A.t (T.int ((terms v).length : Nat)), A.t (T.int j), A.t v] (if allN (fun i => allN (apart d (terms v) i) (terms v).length 0) k j then (4, []) else (1, [A.t (T.bool false)])) := by
  intro k
  induction k with
  | zero =>
    intro j hj
    refine Does.now fun m => ?_
    rw [q_lat_listed_c2, allN]
    simp only [S0, S9, S1, S2, if_true, if_false]
    rw [if_neg (by omega)]
  | succ k ih =>
    intro j hj
    have hlt : j < (terms v).length := by omega
    have hw : IntKind.i64.wrap ((j : Int) + 1) = ((j + 1 : Nat) : Int) := i64succ (by omega)
    obtain ⟨n0, h0⟩ := (listed_c3 d v j hlt hl (hb _ (List.getElem_mem hlt)) (terms v).length 0 (by omega)).both (ih (j + 1) (by omega))
    refine Does.of n0 fun m hm => ?_
    obtain ⟨q1, q2⟩ := h0 m hm
    have q1' : den Tryd.prog G0 ents m i_lat_listed (some p_lat_listed_c3) [A.t (T.int j), A.t (T.node (terms v)), A.t (T.int ((terms v).length : Nat)), A.t (T.int j), A.t (T.node (terms v)), A.t (T.int ((terms v).length : Nat)), A.t (T.int 0), A.t v, A.t (terms v)[j]] = _ := q1
    rw [q_lat_listed_c2, allN]
    simp only [S9, S1, terms_eq, kids_node, num_int, Int.toNat_natCast, at_get hlt, q1']
    generalize allN (apart d (terms v) j) (terms v).length 0 = c
    cases c with
    | false =>
      simp only [S0, S9, S1, S2, if_true, if_false]
      rw [if_pos (by omega), if_pos (by omega)]
      rfl
    | true =>
      simp only [S0, S9, S1, S2, if_true, if_false, hw, q2, show Nat.beq 6 6 = true from rfl, true_and]
      rw [if_pos (by omega), if_pos (by omega)]
theorem listed_does : ∀ (d e : Nat) (v : T), e ≤ 1000 → Sm d v → Dz i_lat_listed none [A.t v, A.t (T.int e)] (1, [A.t (T.bool (listV d e v))])
  | 0, _, v, _, h => h.1.elim
  | d + 1, 0, v, _, h => by
    refine Does.now fun m => ?_
    rw [q_lat_listed]
    simp only [S0, S9, S1, S2, if_true, if_false]
    rfl
  | d + 1, e + 1, v, he, h => by
    have hl := h.terms
    have hR : ∀ t ∈ terms v, ∀ f ∈ flds t, Dz i_lat_listed none [A.t (val f), A.t (T.int e)] (1, [A.t (T.bool (listV d e (val f)))]) := fun t ht f hf => listed_does d e (val f) (by omega) (h.sub ht hf)
    obtain ⟨n1, h1⟩ := listed_c1 (listV d e) d v h e (by omega) hR (terms v).length 0 (by omega)
    have q1' : ∀ m, n1 ≤ m → den Tryd.prog G0 ents m i_lat_listed (some p_lat_listed_c1) [A.t (T.int (e + 1 : Nat)), A.t (T.node (terms v)), A.t (T.int ((terms v).length : Nat)), A.t (T.int 0), A.t v] = some (if inOrder (listV d e) d (terms v) then (2, [A.t v]) else (1, [A.t (T.bool false)])) := h1
    rw [listV]
    cases ho : inOrder (listV d e) d (terms v) with
    | false =>
      rw [ho] at q1'
      refine Does.of n1 fun m hm => ?_
      rw [q_lat_listed]
      simp only [S0, S9, S1, S2, if_true, if_false, q1' m hm]
      rw [if_pos (by omega), if_neg (by omega)]
      rfl
    | true =>
      rw [ho] at q1'
      have hN : ∀ t ∈ terms v, NRt d t := fun t ht => by
        obtain ⟨i, hi, rfl⟩ := List.getElem_of_mem ht
        have := (allN_iff _ _ _).1 ho i (by omega) (by omega)
        rw [at_get hi, Bool.and_eq_true] at this
        exact NRt_of (fun f hf h => listV_NR h) this.1
      have hb : ∀ x ∈ terms v, ∀ y ∈ terms v, Dz i_lat_below none [A.t x, A.t y] (1, [A.t (T.bool (belowT (underV d) x y))]) := fun x hx y hy =>
        lbelow_does (underV d) x y (by have := h.flds hx; omega) (by have := h.flds hy; omega) (fun h4 => (hN x hx h4).1) (fun h4 => (hN y hy h4).1)
          fun h1 h2 f hf g hg => lunder_does d _ _ (h.sub hx hf) (h.sub hy hg) ((hN x hx h1).2 f hf) ((hN y hy h2).2 g hg)
      obtain ⟨n2, h2⟩ := listed_c2 d v (by omega) hb (terms v).length 0 (by omega)
      have q2' : ∀ m, n2 ≤ m → den Tryd.prog G0 ents m i_lat_listed (some p_lat_listed_c2) [A.t (T.node (terms v)), A.t (T.int ((terms v).length : Nat)), A.t (T.int 0), A.t v] = some (if allApart d (terms v) then (4, []) else (1, [A.t (T.bool false)])) := h2
      refine Does.of (n1 + n2) fun m hm => ?_
      rw [q_lat_listed]
      simp only [S0, S9, S1, S2, if_true, if_false, q1' m (by omega), q2' m (by omega)]
      rw [if_pos (by omega), if_neg (by omega)]
      cases allApart d (terms v) <;> rfl
theorem lright_does {v : T} (h : Sm 20 v) : Dz i_lat_Right none [A.t v] (1, [A.t (T.bool (refV 20 v))]) := by
  obtain ⟨n0, h0⟩ := (listed_does 20 16 v (by omega) h).both (pweight_does 20 v h)
  have hw := h.2
  refine Does.of n0 fun m hm => ?_
  obtain ⟨q1, q2⟩ := h0 m hm
  have q1' : den Tryd.prog G0 ents m i_lat_listed none [A.t v, A.t (T.int 16)] = _ := q1
  rw [refV_list, q_lat_Right]
  simp only [S0, S9, S1, S2, if_true, if_false, q1', q2]
  cases listV 20 16 v with
  | false => rfl
  | true => rw [if_pos rfl, decide_eq_true (by omega)]
end Go.Proofs.YtffncdkbcphbgaaDoorDD
namespace Go.Proofs.YtffncdkbcphbgaaDoorDD
open Go Go.Proofs.YtffncdkbcphbgaaDoorVM
set_option linter.unusedVariables false
set_option linter.unusedSimpArgs false
set_option maxRecDepth 100000

theorem rterm_loop (R : T → Bool) (t : T) (hl : (flds t).length ≤ 1000) (hR : ∀ f ∈ flds t, Dz i_R09_Right none [A.t (val f)] (1, [A.t (T.bool (R (val f)))])) : ∀ (k j : Nat), j + k = (flds t).length →
    Dz i_R09_Term (some p_R09_Term_c1) [A.t (T.int j), A.t t] (if ((flds t).drop j).all (fullF R) then (2, []) else (1, [A.t (T.bool false)])) := by
  intro k
  induction k with
  | zero =>
    intro j hj
    refine Does.now fun m => ?_
    rw [q_R09_Term_c1, List.drop_of_length_le (by omega)]
    simp only [S0, S9, S1, S2, if_true, if_false]
    rw [if_neg (by omega)]; rfl
  | succ k ih =>
    intro j hj
    have hlt : j < (flds t).length := by omega
    have hw : IntKind.i64.wrap ((j : Int) + 1) = ((j + 1 : Nat) : Int) := i64succ (by omega)
    obtain ⟨n0, h0⟩ := (hR _ (List.getElem_mem hlt)).both (ih (j + 1) (by omega))
    refine Does.of n0 fun m hm => ?_
    obtain ⟨q1, q2⟩ := h0 m hm
    rw [q_R09_Term_c1, drop_all hlt]
    simp only [S0, S9, S1, S2, if_true, if_false, at_get hlt, val_eq, hw, q1, q2, fullF, e0_zero, Bool.not_eq_true']
    rw [if_pos (by omega), if_pos (by omega)]
    by_cases hz : (terms (val (flds t)[j])).length = 0
    · rw [if_neg (by simp [hz]), if_neg (by simp [hz])]
    · rw [if_pos (by simp [hz]), if_pos (by omega)]
      cases R (val (flds t)[j]) <;> simp [hz]
theorem rterm_does (R : T → Bool) (d : Nat) (t : T) (ht : SmT d t) (hR : kd t = 4 → ∀ f ∈ flds t, Dz i_R09_Right none [A.t (val f)] (1, [A.t (T.bool (R (val f)))])) : Dz i_R09_Term none [A.t t] (1, [A.t (T.bool (okT R d t))]) := by
  have hl := ht.1
  by_cases h5 : kd t = 5
  · obtain ⟨n0, h0⟩ := rt_does ht (Sm_any d)
    refine Does.of n0 fun m hm => ?_
    rw [q_R09_Term, okT, if_pos h5]; simp only [S9, S1]; rw [anyT_eq]
    simp only [S0, S9, S1, S2, if_true, if_false, kd_eq, h0 m hm, h5, beqI]
  by_cases h4 : kd t = 4
  · obtain ⟨n1, h1⟩ := rnames_does (flds t) (by omega)
    obtain ⟨n2, h2⟩ := rterm_loop R t (by omega) (hR h4) (flds t).length 0 (by omega)
    refine Does.of (n1 + n2) fun m hm => ?_
    have q2 := h1 m (by omega)
    have q3 : den Tryd.prog G0 ents m i_R09_Term (some p_R09_Term_c1) [A.t (T.int 0), A.t t] = _ := h2 m (by omega)
    rw [List.drop_zero] at q3
    rw [q_R09_Term, okT, if_neg h5, if_pos h4]
    simp only [S9, S1, terms_eq, flds_eq, num_int, kd_eq, h4, lo_eq, hi_eq, tx_eq, an_eq, mb_eq, eb_eq, seq_dec, q2, q3, bareT]
    have h32 : decide ((((flds t).length : Nat) : Int) > 32) = !decide ((flds t).length ≤ 32) := by rw [Bool.eq_iff_iff]; simp; omega
    have hlo : (lo t != 0) = !decide (lo t = 0) := by rw [bne, beqI]
    have hhi : (hi t != 0) = !decide (hi t = 0) := by rw [bne, beqI]
    rw [h32, hlo, hhi]
    generalize (flds t).all (fullF R) = c
    generalize decide ((flds t).length ≤ 32) = c2
    generalize names (flds t) = c3
    generalize decide (lo t = 0) = c4
    generalize decide (hi t = 0) = c5
    generalize decide (tx t = emptyB) = c6
    generalize an t = c7
    generalize mb t = c8
    cases c4 <;> cases c5 <;> cases c6 <;> cases c7 <;> cases c8 <;> cases c2 <;> cases c3 <;> cases c <;> rfl
  · obtain ⟨n0, h0⟩ := rright_does t
    refine Does.of n0 fun m hm => ?_
    rw [q_R09_Term, okT, if_neg h5, if_neg h4]
    simp only [S0, S9, S1, S2, if_true, if_false, kd_eq, h0 m hm, h5, h4, not_false_eq_true]
theorem rright_c1 (R : T → Bool) (d : Nat) (v : T) (hv : Sm (d + 1) v) (hR : ∀ t ∈ terms v, ∀ f ∈ flds t, Dz i_R09_Right none [A.t (val f)] (1, [A.t (T.bool (R (val f)))])) : ∀ (k j : Nat), j + k = (terms v).length →
    Dz i_R09_Right (some p_R09_Right_c1) [A.t (T.int j), A.t v] (if allN (fun j => okT R d (tAtD (terms v) j) && ascAt d (terms v) j) k j then (2, [A.t v]) else (1, [A.t (T.bool false)])) := by
  have hl := hv.terms
  intro k
  induction k with
  | zero =>
    intro j hj
    refine Does.now fun m => ?_
    rw [q_R09_Right_c1, allN]
    simp only [S0, S9, S1, S2, if_true, if_false]
    rw [if_neg (by omega)]
  | succ k ih =>
    intro j hj
    have hlt : j < (terms v).length := by omega
    have hw : IntKind.i64.wrap ((j : Int) + 1) = ((j + 1 : Nat) : Int) := i64succ (by omega)
    have hm := List.getElem_mem hlt
    have hs := rterm_does R d (terms v)[j] (hv.term hm) (fun _ => hR _ hm)
    rw [allN, at_get hlt]
    by_cases h0 : j = 0
    · subst h0
      obtain ⟨n0, h0⟩ := hs.both (ih (0 + 1) (by omega))
      refine Does.of n0 fun m hm => ?_
      obtain ⟨q1, q2⟩ := h0 m hm
      have hasc : ascAt d (terms v) 0 = true := rfl
      rw [hasc, q_R09_Right_c1]
      simp only [S0, S9, S1, S2, if_true, if_false, at_get hlt, hw, q1, q2, Bool.and_true]
      rw [if_pos (by omega), if_pos (by omega)]
      cases okT R d (terms v)[0] <;> simp
    · have hlt2 : j - 1 < (terms v).length := by omega
      have hp : IntKind.i64.wrap ((j : Int) - 1) = ((j - 1 : Nat) : Int) := by rw [w64 (by omega) (by omega)]; omega
      obtain ⟨n0, h0'⟩ := hs.both (ih (j + 1) (by omega))
      obtain ⟨n1, h1⟩ := rt_does (hv.term (List.getElem_mem hlt2)) (hv.term hm)
      refine Does.of (n0 + n1) fun m hm => ?_
      obtain ⟨q1, q2⟩ := h0' m (by omega)
      have q3 := h1 m (by omega)
      have hasc : ascAt d (terms v) j = decide (cmpT d (terms v)[j - 1] (terms v)[j] < 0) := by
        rw [ascAt, at_get hlt, at_get hlt2, show (j == 0) = false by simp [h0]]; rfl
      rw [hasc, q_R09_Right_c1]
      simp only [S0, S9, S1, S2, if_true, if_false, at_get hlt, at_get hlt2, hw, hp, q1, q2, q3]
      rw [if_pos (by omega), if_pos (by omega)]
      cases okT R d (terms v)[j] with
      | false => simp
      | true =>
        rw [if_pos (by rfl), if_pos (by omega), if_pos (by omega), if_pos (by omega)]
        by_cases hc : cmpT d (terms v)[j - 1] (terms v)[j] < 0
        · rw [if_neg (by omega)]; simp [hc]
        · rw [if_pos (by omega)]; simp [hc]
theorem rright_c3 (d : Nat) (v : T) (i : Nat) (hi : i < (terms v).length) (hl : (terms v).length ≤ 1000) (hb : ∀ y ∈ terms v, Dz i_R09_under none [A.t (terms v)[i], A.t y] (1, [A.t (T.bool (belowT (underV d) (terms v)[i] y))])) : ∀ (k j : Nat), j + k = (terms v).length →
    Dz i_R09_Right (some p_R09_Right_c3) [A.t (T.int i), A.t (T.int j), A.t v] (if allN (apart d (terms v) i) k j then (6, [A.t (T.int i), A.t v]) else (1, [A.t (T.bool false)])) := by
  intro k
  induction k with
  | zero =>
    intro j hj
    refine Does.now fun m => ?_
    rw [q_R09_Right_c3, allN]
    simp only [S0, S9, S1, S2, if_true, if_false]
    rw [if_neg (by omega)]
  | succ k ih =>
    intro j hj
    have hlt : j < (terms v).length := by omega
    have hw : IntKind.i64.wrap ((j : Int) + 1) = ((j + 1 : Nat) : Int) := i64succ (by omega)
    obtain ⟨n0, h0⟩ := (hb _ (List.getElem_mem hlt)).both (ih (j + 1) (by omega))
    refine Does.of n0 fun m hm => ?_
    obtain ⟨q1, q2⟩ := h0 m hm
    have hap : apart d (terms v) i j = (decide (i = j) || !belowT (underV d) (terms v)[i] (terms v)[j]) := by rw [apart, at_get hi, at_get hlt]
    rw [q_R09_Right_c3, allN, hap]
    simp only [S0, S9, S1, S2, if_true, if_false, at_get hlt, at_get hi, hw, q1, q2]
    rw [if_pos (by omega)]
    by_cases he : i = j
    · rw [if_neg (by omega)]; simp [he]
    · rw [if_pos (by omega), if_pos (by omega), if_pos (by omega)]
      cases belowT (underV d) (terms v)[i] (terms v)[j] <;> simp [he]
theorem rright_c2 (d : Nat) (v : T) (hl : (terms v).length ≤ 1000) (hb : ∀ x ∈ terms v, ∀ y ∈ terms v, Dz i_R09_under none [A.t x, A.t y] (1, [A.t (T.bool (belowT (underV d) x y))])) : ∀ (k j : Nat), j + k = (terms v).length →
    Dz i_R09_Right (some p_R09_Right_c2) [A.t (T.int j), A.t v] (if allN (fun i => allN (apart d (terms v) i) (terms v).length 0) k j then (4, []) else (1, [A.t (T.bool false)])) := by
  intro k
  induction k with
  | zero =>
    intro j hj
    refine Does.now fun m => ?_
    rw [q_R09_Right_c2, allN]
    simp only [S0, S9, S1, S2, if_true, if_false]
    rw [if_neg (by omega)]
  | succ k ih =>
    intro j hj
    have hlt : j < (terms v).length := by omega
    have hw : IntKind.i64.wrap ((j : Int) + 1) = ((j + 1 : Nat) : Int) := i64succ (by omega)
    obtain ⟨n0, h0⟩ := (rright_c3 d v j hlt hl (hb _ (List.getElem_mem hlt)) (terms v).length 0 (by omega)).both (ih (j + 1) (by omega))
    refine Does.of n0 fun m hm => ?_
    obtain ⟨q1, q2⟩ := h0 m hm
    have q1' : den Tryd.prog G0 ents m i_R09_Right (some p_R09_Right_c3) [A.t (T.int j), A.t (T.int 0), A.t v] = _ := q1
    rw [q_R09_Right_c2, allN]
    simp only [S9, S1, terms_eq, num_int, q1']
    generalize allN (apart d (terms v) j) (terms v).length 0 = c
    cases c with
    | false =>
      simp only [S0, S9, S1, S2, if_true, if_false]
      rw [if_pos (by omega)]
      rfl
    | true =>
      simp only [S0, S9, S1, S2, if_true, if_false, hw, q2, show Nat.beq 6 6 = true from rfl, true_and]
      rw [if_pos (by omega)]
theorem rright_val : ∀ (d : Nat) (v : T), d ≤ 1000 → Sm d v → Dz i_R09_Right none [A.t v] (1, [A.t (T.bool (refV d v))])
  | 0, v, _, h => h.1.elim
  | d + 1, v, hd, h => by
    have hl := h.terms
    have hwt := h.2
    obtain ⟨n0, h0⟩ := (rweight_does (d + 1) v h).both (depth_does (d + 1) v hd h)
    rw [refV]
    by_cases hdp : dep (d + 1) v ≤ 16
    rotate_left
    · refine Does.of n0 fun m hm => ?_
      obtain ⟨q1, q2⟩ := h0 m hm
      rw [q_R09_Right, decide_eq_false hdp]
      simp only [S0, S9, S1, S2, if_true, if_false, q1, q2]
      rw [if_pos (by omega), if_pos (by omega)]
      rfl
    rw [decide_eq_true hdp, Bool.true_and]
    have hR : ∀ t ∈ terms v, ∀ f ∈ flds t, Dz i_R09_Right none [A.t (val f)] (1, [A.t (T.bool (refV d (val f)))]) := fun t ht f hf => rright_val d (val f) (by omega) (h.sub ht hf)
    obtain ⟨n1, h1⟩ := rright_c1 (refV d) d v h hR (terms v).length 0 (by omega)
    have q1' : ∀ m, n1 ≤ m → den Tryd.prog G0 ents m i_R09_Right (some p_R09_Right_c1) [A.t (T.int 0), A.t v] = some (if inOrder (refV d) d (terms v) then (2, [A.t v]) else (1, [A.t (T.bool false)])) := h1
    have hb : ∀ x ∈ terms v, ∀ y ∈ terms v, Dz i_R09_under none [A.t x, A.t y] (1, [A.t (T.bool (belowT (underV d) x y))]) := fun x hx y hy =>
      runder1_does (underV d) x y (by have := h.flds hx; omega) (by have := h.flds hy; omega)
        fun h1 h2 f hf g hg => runder_does d _ _ (h.sub hx hf) (h.sub hy hg)
    obtain ⟨n2, h2⟩ := rright_c2 d v (by omega) hb (terms v).length 0 (by omega)
    have q2' : ∀ m, n2 ≤ m → den Tryd.prog G0 ents m i_R09_Right (some p_R09_Right_c2) [A.t (T.int 0), A.t v] = some (if allApart d (terms v) then (4, []) else (1, [A.t (T.bool false)])) := h2
    refine Does.of (n0 + n1 + n2) fun m hm => ?_
    obtain ⟨q1, q2⟩ := h0 m (by omega)
    rw [q_R09_Right]
    simp only [S0, S9, S1, S2, if_true, if_false, q1, q2, q1' m (by omega)]
    rw [if_pos (by omega), if_neg (by omega)]
    cases inOrder (refV d) d (terms v) with
    | false => rfl
    | true =>
      simp only [S0, S9, S1, S2, if_true, if_false, q2' m (by omega)]
      cases allApart d (terms v) <;> rfl
theorem refRight_does {v : T} (h : Sm 20 v) : Dz i_R09_Right none [A.t v] (1, [A.t (T.bool (refV 20 v))]) := rright_val 20 v (by omega) h
end Go.Proofs.YtffncdkbcphbgaaDoorDD
namespace Go.Proofs.YtffncdkbcphbgaaDoorDD
open Go Go.Proofs.YtffncdkbcphbgaaDoorVM
set_option linter.unusedVariables false
set_option linter.unusedSimpArgs false
set_option maxRecDepth 100000

theorem refV_NR {v : T} (h : refV 20 v = true) : NR 20 v := by
  rw [refV_eq, Bool.and_eq_true] at h
  exact okV_NR 20 v h.1
def belowV (a b : T) : Bool := refV 20 a && (refV 20 b && underV 20 a b)
theorem latbelow_does {a b : T} (ha : Sm 20 a) (hb : Sm 20 b) : Dz i_lat_Below none [A.t a, A.t b] (1, [A.t (T.bool (belowV a b))]) := by
  obtain ⟨n0, h0⟩ := (lright_does ha).both (lright_does hb)
  unfold belowV
  cases hra : refV 20 a with
  | false =>
    rw [hra] at h0
    refine Does.of n0 fun m hm => ?_
    rw [q_lat_Below]; simp only [S9, S1]; rw [(h0 m hm).1]
    rfl
  | true =>
    cases hrb : refV 20 b with
    | false =>
      rw [hra, hrb] at h0
      refine Does.of n0 fun m hm => ?_
      rw [q_lat_Below]; simp only [S9, S1]; rw [(h0 m hm).1]
      simp only [S0, S9, S1, S2, if_true, if_false, (h0 m hm).2]
      rfl
    | true =>
      rw [hra, hrb] at h0
      obtain ⟨n1, h1⟩ := lunder_does 20 a b ha hb (refV_NR hra) (refV_NR hrb)
      refine Does.of (n0 + n1) fun m hm => ?_
      rw [q_lat_Below]; simp only [S9, S1]; rw [(h0 m (by omega)).1]
      simp only [S0, S9, S1, S2, if_true, if_false, (h0 m (by omega)).2, h1 m (by omega), Bool.true_and]
end Go.Proofs.YtffncdkbcphbgaaDoorDD
namespace Go.Proofs.YtffncdkbcphbgaaDoorDD
open Go Go.Proofs.YtffncdkbcphbgaaDoorVM
set_option linter.unusedVariables false
set_option linter.unusedSimpArgs false
set_option maxRecDepth 100000

def oneT (v : T) : T := tAtD (terms v) 0
def allV (g : T → Bool) : Nat → T → Bool
  | 0, _ => false
  | d + 1, v => decide ((terms v).length = 1) && (!decide (kd (oneT v) = 5) && (if kd (oneT v) = 4 then (flds (oneT v)).all (fun f => allV g d (val f)) else g (oneT v)))
def atomS (t : T) : Bool := rightS t && one t
def readyS (t : T) : Bool := mb t || (rightS t && one t)
def refOne (w : Bool) (t : T) : Bool := one t || (w && mb t)
def waitV : Nat → T → Bool
  | 0, _ => false
  | d + 1, v => (terms v).any fun t => mb t || (flds t).any fun f => waitV d (val f)
theorem any_not {l : List T} {p : T → Bool} : (!l.any fun x => !p x) = l.all p := by
  induction l with
  | nil => rfl
  | cons x l ih => simp only [List.any_cons, List.all_cons, ← ih]; cases p x <;> simp
theorem hasA_does (l : List T) (p : T → Bool) (hl : l.length ≤ 1000) (hp : ∀ x ∈ l, Dz i_fact_all_1_Atom none [A.t x] (1, [A.t (T.bool (p x))])) : Dz i_slices_ContainsFunc_Field_all1_Atom none [A.t (T.node l)] (1, [A.t (T.bool (l.any p))]) :=
  has0_does q_slices_ContainsFunc_Field_all1_Atom q_slices_IndexFunc_Field_all1_Atom q_slices_IndexFunc_Field_all1_Atom_c1 l p (by omega) hp
theorem atom_does (t : T) : Dz i_scalar_Atom none [A.t t] (1, [A.t (T.bool (atomS t))]) := by
  obtain ⟨n0, h0⟩ := (sright_does t).both (one_does t)
  refine Does.of n0 fun m hm => ?_
  obtain ⟨q1, q2⟩ := h0 m hm
  rw [q_scalar_Atom]; simp only [S9, S1]; rw [q1, atomS]
  cases rightS t
  · rfl
  · simp only [S0, S9, S1, S2, if_true, if_false, q2, Bool.true_and]
def fone (v : T) : Nat × List A := if (terms v).length = 1 ∧ kd (oneT v) ≠ 5 then (1, [A.t (oneT v), A.t (T.int 0)]) else (1, [A.t noTrm, A.t (T.int (if (terms v).length = 0 then 31 else 28))])
theorem fone_does (v : T) : Dz i_fact_one none [A.t v] (fone v) := by
  refine Does.now fun m => ?_
  rw [q_fact_one]
  unfold fone oneT
  simp only [S0, S9, S1, S2, if_true, if_false, noTrm_eq, kd_eq, e0_zero]
  by_cases h0 : (terms v).length = 0
  · rw [if_pos (by omega), if_neg (fun e => by omega), if_pos h0]
  by_cases h1 : (terms v).length = 1
  · rw [if_neg (by omega), if_pos (by omega), if_pos (by omega)]
    by_cases h5 : kd (tAtD (terms v) 0) = 5
    · rw [if_pos h5, if_neg (fun e => e.2 h5), if_neg h0]
    · rw [if_neg h5, if_pos (by omega), if_pos ⟨h1, h5⟩]
  · rw [if_neg (by omega), if_neg (by omega), if_neg (fun e => h1 e.1), if_neg h0]
theorem all_does : ∀ (d : Nat) (v : T), Sm d v → Dz i_fact_all_Atom none [A.t v] (1, [A.t (T.bool (allV atomS d v))])
  | 0, v, h => h.1.elim
  | d + 1, v, h => by
    obtain ⟨n0, h0⟩ := fone_does v
    rw [allV]
    unfold fone at h0
    by_cases h1 : (terms v).length = 1
    rotate_left
    · refine Does.of n0 fun m hm => ?_
      have q := h0 m hm
      rw [if_neg (fun e => h1 e.1)] at q
      rw [q_fact_all_Atom]; simp only [S9, S1]; rw [q, decide_eq_false h1, Bool.false_and]
      simp only [S0, S9, S1, S2, if_true, if_false]
      rw [if_pos (by split <;> omega)]
    by_cases h5 : kd (oneT v) = 5
    · refine Does.of n0 fun m hm => ?_
      have q := h0 m hm
      rw [if_neg (fun e => e.2 h5)] at q
      rw [q_fact_all_Atom]; simp only [S9, S1]; rw [q, decide_eq_true h1, decide_eq_true h5]
      simp only [S0, S9, S1, S2, if_true, if_false]
      rw [if_pos (by split <;> omega)]
      rfl
    rw [if_pos ⟨h1, h5⟩] at h0
    rw [decide_eq_true h1, decide_eq_false h5, Bool.true_and, Bool.not_false, Bool.true_and]
    have hm : oneT v ∈ terms v := by unfold oneT; rw [at_get (by omega)]; exact List.getElem_mem _
    by_cases h4 : kd (oneT v) = 4
    · have hf := h.flds hm
      obtain ⟨n1, h1'⟩ := hasA_does (flds (oneT v)) (fun f => !allV atomS d (val f)) (by omega) (fun f hf' => by
        obtain ⟨n2, h2⟩ := all_does d (val f) (h.sub hm hf')
        refine Does.of n2 fun m hm => ?_
        rw [q_fact_all_1_Atom]
        simp only [S0, S9, S1, S2, if_true, if_false, val_eq, h2 m hm])
      refine Does.of (n0 + n1) fun m hm => ?_
      rw [q_fact_all_Atom]; simp only [S9, S1]; rw [h0 m (by omega), if_pos h4]
      simp only [S0, S9, S1, S2, if_true, if_false, kd_eq, h4, h1' m (by omega), not_true_eq_false]
      rw [any_not]
    · obtain ⟨n1, h1'⟩ := atom_does (oneT v)
      refine Does.of (n0 + n1) fun m hm => ?_
      rw [q_fact_all_Atom]; simp only [S9, S1]; rw [h0 m (by omega), if_neg h4]
      simp only [S0, S9, S1, S2, if_true, if_false, kd_eq, h4, h1' m (by omega), not_true_eq_false, not_false_eq_true]
theorem fsettled_does {v : T} (h : Sm 20 v) : Dz i_fact_Settled none [A.t v] (1, [A.t (T.bool (refV 20 v && allV atomS 20 v))]) := by
  obtain ⟨n0, h0⟩ := (lright_does h).both (all_does 20 v h)
  refine Does.of n0 fun m hm => ?_
  obtain ⟨q1, q2⟩ := h0 m hm
  rw [q_fact_Settled]; simp only [S9, S1]; rw [q1]
  cases refV 20 v
  · rfl
  · simp only [S0, S9, S1, S2, if_true, if_false, q2, Bool.true_and]
def refinesV (a b : T) : Bool := (refV 20 a && allV atomS 20 a) && belowV a b
theorem frefines_does {a b : T} (ha : Sm 20 a) (hb : Sm 20 b) : Dz i_fact_Refines none [A.t a, A.t b] (1, [A.t (T.bool (refinesV a b))]) := by
  obtain ⟨n0, h0⟩ := (fsettled_does ha).both (latbelow_does ha hb)
  refine Does.of n0 fun m hm => ?_
  obtain ⟨q1, q2⟩ := h0 m hm
  rw [q_fact_Refines]; simp only [S9, S1]; rw [q1, refinesV]
  cases (refV 20 a && allV atomS 20 a)
  · rfl
  · simp only [S0, S9, S1, S2, if_true, if_false, q2, Bool.true_and]
theorem rsettled_loop (w : Bool) (g : T → Bool) (t : T) (hl : (flds t).length ≤ 1000) (hg : ∀ f ∈ flds t, Dz i_R11_settled none [A.t (val f), A.t (T.bool w)] (1, [A.t (T.bool (g (val f)))])) : ∀ (k j : Nat), j + k = (flds t).length →
    Dz i_R11_settled (some p_R11_settled_c1) [A.t (T.bool w), A.t (T.int j), A.t t] (if ((flds t).drop j).all (fun f => g (val f)) then (2, []) else (1, [A.t (T.bool false)])) := by
  intro k
  induction k with
  | zero =>
    intro j hj
    refine Does.now fun m => ?_
    rw [q_R11_settled_c1, List.drop_of_length_le (by omega)]
    simp only [S0, S9, S1, S2, if_true, if_false]
    rw [if_neg (by omega)]; rfl
  | succ k ih =>
    intro j hj
    have hlt : j < (flds t).length := by omega
    have hw : IntKind.i64.wrap ((j : Int) + 1) = ((j + 1 : Nat) : Int) := i64succ (by omega)
    obtain ⟨n0, h0⟩ := (hg _ (List.getElem_mem hlt)).both (ih (j + 1) (by omega))
    refine Does.of n0 fun m hm => ?_
    obtain ⟨q1, q2⟩ := h0 m hm
    rw [q_R11_settled_c1, drop_all hlt]
    simp only [S0, S9, S1, S2, if_true, if_false, at_get hlt, val_eq, hw, q1, q2]
    rw [if_pos (by omega), if_pos (by omega)]
    cases g (val (flds t)[j]) <;> simp
theorem rsettled_does (w : Bool) : ∀ (d : Nat) (v : T), Sm d v → Dz i_R11_settled none [A.t v, A.t (T.bool w)] (1, [A.t (T.bool (allV (refOne w) d v))])
  | 0, v, h => h.1.elim
  | d + 1, v, h => by
    rw [allV]
    by_cases h1 : (terms v).length = 1
    rotate_left
    · refine Does.now fun m => ?_
      rw [q_R11_settled, decide_eq_false h1, Bool.false_and]
      simp only [S0, S9, S1, S2, if_true, if_false, bne_eq_false_iff_eq]
      rw [if_neg (by omega)]
    by_cases h5 : kd (oneT v) = 5
    · refine Does.now fun m => ?_
      rw [q_R11_settled, decide_eq_true h1, decide_eq_true h5]
      have h5' : kd (tAtD (terms v) 0) = 5 := h5
      simp only [S0, S9, S1, S2, if_true, if_false, kd_eq, h5', bne_eq_false_iff_eq]
      rw [if_pos (by omega), if_pos (by omega)]
      rfl
    rw [decide_eq_true h1, decide_eq_false h5, Bool.true_and, Bool.not_false, Bool.true_and]
    have hm : oneT v ∈ terms v := by unfold oneT; rw [at_get (by omega)]; exact List.getElem_mem _
    have ho : tAtD (terms v) 0 = oneT v := rfl
    by_cases h4 : kd (oneT v) = 4
    · have hf := h.flds hm
      obtain ⟨n1, h1'⟩ := rsettled_loop w (allV (refOne w) d) (oneT v) (by omega) (fun f hf' => rsettled_does w d (val f) (h.sub hm hf')) (flds (oneT v)).length 0 (by omega)
      refine Does.of n1 fun m hm => ?_
      have q : den Tryd.prog G0 ents m i_R11_settled (some p_R11_settled_c1) [A.t (T.bool w), A.t (T.int 0), A.t (oneT v)] = _ := h1' m hm
      rw [List.drop_zero] at q
      rw [q_R11_settled, if_pos h4]
      simp only [S0, S9, S1, S2, if_true, if_false, ho, kd_eq, h4, q, not_true_eq_false, bne_eq_false_iff_eq]
      rw [if_pos (by omega), if_pos (by omega), if_neg (by omega), if_pos (by omega)]
      cases (flds (oneT v)).all fun f => allV (refOne w) d (val f) <;> rfl
    · obtain ⟨n1, h1'⟩ := single_does (oneT v)
      refine Does.of n1 fun m hm => ?_
      rw [q_R11_settled, if_neg h4, refOne]
      simp only [S0, S9, S1, S2, if_true, if_false, ho, kd_eq, mb_eq, h4, h1' m hm, not_true_eq_false, not_false_eq_true, bne_eq_false_iff_eq]
      rw [if_pos (by omega), if_pos (by omega), if_neg h5, if_pos (by omega)]
      cases one (oneT v) <;> cases w <;> simp
theorem r11settled_does {v : T} (h : Sm 20 v) : Dz i_R11_Settled none [A.t v] (1, [A.t (T.bool (refV 20 v && allV (refOne false) 20 v))]) := by
  obtain ⟨n0, h0⟩ := (refRight_does h).both (rsettled_does false 20 v h)
  refine Does.of n0 fun m hm => ?_
  obtain ⟨q1, q2⟩ := h0 m hm
  rw [q_R11_Settled]; simp only [S9, S1]; rw [q1]
  cases refV 20 v
  · rfl
  · simp only [S0, S9, S1, S2, if_true, if_false, q2, Bool.true_and]
def rrefinesV (a b : T) : Bool := (refV 20 a && allV (refOne false) 20 a) && (refV 20 b && underV 20 a b)
end Go.Proofs.YtffncdkbcphbgaaDoorDD
namespace Go.Proofs.YtffncdkbcphbgaaDoorDD
open Go Go.Proofs.YtffncdkbcphbgaaDoorVM
set_option linter.unusedVariables false
set_option linter.unusedSimpArgs false
set_option maxRecDepth 100000

theorem right_parts {t : T} (h : rightS t = true) : op t = false ∧ flds t = [] ∧ ¬ (mb t = true ∧ one t = true) ∧ rightK (kd t) (lo t) (hi t) (tx t) (an t) = true := by
  have h1 := right_op h
  unfold rightS at h
  simp only [Bool.and_eq_true, Bool.not_eq_true', decide_eq_true_eq] at h
  refine ⟨h1.1, h1.2.1, fun e => ?_, h.2⟩
  have := h.1.2
  rw [e.1, e.2] at this
  cases this
theorem right_kd {t : T} (h : rightS t = true) : kd t = 1 ∨ kd t = 2 ∨ kd t = 3 := by
  have h2 := (right_parts h).2.2.2
  unfold rightK at h2
  split at h2
  · exact .inr (.inr (by assumption))
  · split at h2
    · exact .inr (.inl (by assumption))
    · split at h2
      · exact .inl (by assumption)
      · cases h2
theorem right_lohi {t : T} (h : rightS t = true) : lo t ≤ hi t ∧ (kd t = 3 → lo t = 0 ∧ hi t = 0) := by
  have h2 := (right_parts h).2.2.2
  unfold rightK at h2
  split at h2
  · simp only [Bool.and_eq_true, decide_eq_true_eq] at h2
    exact ⟨by omega, fun _ => h2.1⟩
  · split at h2
    · simp only [Bool.and_eq_true, decide_eq_true_eq] at h2
      exact ⟨by omega, fun e => by omega⟩
    · split at h2
      · simp only [Bool.and_eq_true, decide_eq_true_eq] at h2
        exact ⟨by omega, fun e => by omega⟩
      · cases h2
def LeS (a b : T) : Prop := rightS a = true ∧ rightS b = true ∧ kd a = kd b ∧ lo b ≤ lo a ∧ hi a ≤ hi b ∧ (an a = true → an b = true ∧ tx b = tx a) ∧ (an a = true ∨ an b = true ∨ tx a = tx b) ∧ ((mb a || mb b) && !one a) = mb a
theorem one_m0 {a b : T} (hk : kd a = kd b) (h1 : lo b ≤ lo a) (h2 : hi a ≤ hi b) (h3 : an a = true → an b = true) : one (m0 a b false) = one a := by
  have e1 : maxI (lo a) (lo b) = lo a := maxI_neg (by omega)
  have e2 : minI (hi a) (hi b) = hi a := minI_neg (by omega)
  have e3 : (an a && an b) = an a := by
    cases ha : an a with
    | false => rfl
    | true => rw [h3 ha]; rfl
  unfold one m0
  rw [kd_trm, lo_trm, hi_trm, an_trm, e1, e2, e3]
theorem below_iff (a b : T) : belowS a b = true ↔ LeS a b := by
  unfold belowS okM sameS LeS
  simp only [Bool.and_eq_true, decide_eq_true_eq, Bool.not_eq_true', decide_eq_false_iff_not, Bool.or_eq_true]
  constructor
  · rintro ⟨⟨⟨⟨⟨ra, rb⟩, hk⟩, hlh⟩, htx⟩, ⟨⟨⟨⟨⟨⟨_, _⟩, _⟩, e1⟩, e2⟩, e3⟩, e4⟩, e5⟩
    unfold mT at e1 e2 e3 e4 e5
    rw [show lo (m0 a b ((mb a || mb b) && !one (m0 a b false))) = maxI (lo a) (lo b) from rfl] at e1
    rw [show hi (m0 a b ((mb a || mb b) && !one (m0 a b false))) = minI (hi a) (hi b) from rfl] at e2
    rw [show tx (m0 a b ((mb a || mb b) && !one (m0 a b false))) = mX a b from rfl] at e3
    rw [show an (m0 a b ((mb a || mb b) && !one (m0 a b false))) = (an a && an b) from rfl] at e4
    rw [show mb (m0 a b ((mb a || mb b) && !one (m0 a b false))) = ((mb a || mb b) && !one (m0 a b false)) from rfl] at e5
    have f1 : lo b ≤ lo a := by unfold maxI at e1; split at e1 <;> omega
    have f2 : hi a ≤ hi b := by unfold minI at e2; split at e2 <;> omega
    have f3 : an a = true → an b = true ∧ tx b = tx a := by
      intro h
      rw [h] at e4
      unfold mX at e3
      rw [if_pos h] at e3
      exact ⟨by simpa using e4, e3⟩
    rw [one_m0 hk f1 f2 (fun h => (f3 h).1)] at e5
    exact ⟨ra, rb, hk, f1, f2, f3, by rcases htx with (h | h) | h; exact .inl h; exact .inr (.inl h); exact .inr (.inr h), e5⟩
  · rintro ⟨ra, rb, hk, f1, f2, f3, htx, e5⟩
    obtain ⟨o1, o2, o3, o4⟩ := right_parts ra
    have hl := right_lohi ra
    have e1 : maxI (lo a) (lo b) = lo a := maxI_neg (by omega)
    have e2 : minI (hi a) (hi b) = hi a := minI_neg (by omega)
    have e3 : mX a b = tx a := by
      unfold mX
      split
      · rename_i h; exact (f3 h).2
      · rfl
    have e4 : (an a && an b) = an a := by
      cases ha : an a with
      | false => rfl
      | true => rw [(f3 ha).1]; rfl
    have e6 := one_m0 hk f1 f2 (fun h => (f3 h).1)
    have hmt : mT a b = trm (kd a) (lo a) (hi a) (tx a) (an a) (mb a) false [] := by
      unfold mT
      rw [e6, e5]
      unfold m0
      rw [e1, e2, e3, e4]
    have hr : rightS (trm (kd a) (lo a) (hi a) (tx a) (an a) (mb a) false []) = true := by
      have hone : one (trm (kd a) (lo a) (hi a) (tx a) (an a) (mb a) false []) = one a := rfl
      unfold rightS
      rw [hone]
      show (!false && decide (([] : List T).length = 0) && !(mb a && one a) && rightK (kd a) (lo a) (hi a) (tx a) (an a)) = true
      rw [o4]
      have : (mb a && one a) = false := by
        cases h1 : mb a <;> cases h2 : one a <;> simp
        exact o3 ⟨h1, h2⟩
      rw [this]
      rfl
    rw [hmt]
    refine ⟨⟨⟨⟨⟨ra, rb⟩, hk⟩, by rw [e1, e2]; omega⟩, by rcases htx with h | h | h; exact .inl (.inl h); exact .inl (.inr h); exact .inr h⟩, ⟨⟨⟨⟨⟨⟨hr, ra⟩, rfl⟩, rfl⟩, rfl⟩, rfl⟩, rfl⟩, rfl⟩
theorem leS_refl {a : T} (h : rightS a = true) : LeS a a := by
  refine ⟨h, h, rfl, by omega, by omega, fun e => ⟨e, rfl⟩, .inr (.inr rfl), ?_⟩
  have := (right_parts h).2.2.1
  cases h1 : mb a <;> cases h2 : one a <;> simp [h1, h2] at this ⊢
theorem leS_trans {a b c : T} (h : LeS a b) (k : LeS b c) : LeS a c := by
  obtain ⟨ra, rb, hk, f1, f2, f3, f4, f5⟩ := h
  obtain ⟨_, rc, gk, g1, g2, g3, g4, g5⟩ := k
  refine ⟨ra, rc, hk.trans gk, by omega, by omega, fun e => ?_, ?_, ?_⟩
  · obtain ⟨p1, p2⟩ := f3 e
    obtain ⟨p3, p4⟩ := g3 p1
    exact ⟨p3, p4.trans p2⟩
  · rcases f4 with h | h | h
    · exact .inl h
    · exact .inr (.inl (g3 h).1)
    · rcases g4 with h2 | h2 | h2
      · exact .inr (.inl (g3 h2).1)
      · exact .inr (.inl h2)
      · exact .inr (.inr (h.trans h2))
  · have hl := right_lohi ra
    have hob : one b = true → one a = true := by
      unfold one
      rw [hk]
      split
      · intro h
        cases ha : an a with
        | false => rfl
        | true => rw [(f3 ha).1] at h; cases h
      · intro h
        have := of_decide_eq_true h
        exact decide_eq_true (by omega)
    cases h1 : mb a <;> cases h2 : mb b <;> cases h3 : mb c <;> cases h4 : one a <;> cases h5 : one b <;> simp [h1, h2, h3, h4, h5] at f5 g5 hob ⊢
theorem below_refl {d : Nat} {U : T → T → Bool} {t : T} (hn : kd t = 4 → Rise (flds t)) (hs : kd t ≠ 4 → kd t ≠ 5 → rightS t = true) (hU : kd t = 4 → ∀ f ∈ flds t, U (val f) (val f) = true) : belowT U t t = true := by
  unfold belowT
  split
  · rfl
  rename_i h5
  split
  · rename_i h4
    have hr := hn h4.1
    have hfind : ∀ i (hi : i < (flds t).length), findF (flds t) (nm (flds t)[i]) 0 = (i : Nat) := by
      intro i hi
      rw [findF_at (l := flds t) (s := nm (flds t)[i]) i 0 (fun k hk e => ?_) hi (by rw [at_get hi]), Nat.zero_add]
      have := hr k i hk hi
      rw [e, at_get hi, slt_irrefl] at this
      cases this
    have hop : (!(op t && !op t)) = true := by cases op t <;> rfl
    have hlk : lackT t t = false := by
      unfold lackT
      rw [Bool.and_eq_false_iff]
      right
      rw [List.any_eq_false]
      intro f hf
      obtain ⟨i, hi, rfl⟩ := List.getElem_of_mem hf
      rw [hfind i hi]
      simp
    rw [hop, hlk]
    simp only [Bool.not_false, Bool.true_and, List.all_eq_true]
    intro f hf
    obtain ⟨i, hi, rfl⟩ := List.getElem_of_mem hf
    unfold fitF atF
    rw [hfind i hi, Int.toNat_natCast, at_get hi, hU h4.1 _ hf, decide_eq_true (by omega)]
    rfl
  · rename_i h4
    exact (below_iff t t).2 (leS_refl (hs (fun e => h4 ⟨e, e⟩) h5))
theorem okT_parts {R : T → Bool} {d : Nat} {t : T} (h : okT R d t = true) : (kd t = 4 → Rise (flds t) ∧ bareT t = true ∧ ∀ f ∈ flds t, R (val f) = true) ∧ (kd t ≠ 4 → kd t ≠ 5 → rightS t = true) := by
  unfold okT at h
  refine ⟨fun h4 => ?_, fun h4 h5 => ?_⟩
  · rw [if_neg (by omega), if_pos h4, Bool.and_eq_true, Bool.and_eq_true, Bool.and_eq_true, List.all_eq_true] at h
    refine ⟨names_rise h.1.2, h.1.1.1, fun f hf => ?_⟩
    have := h.2 f hf
    rw [fullF, Bool.and_eq_true] at this
    exact this.2
  · rw [if_neg h5, if_neg h4] at h
    exact h
theorem okV_term {d : Nat} {v t : T} (h : okV (d + 1) v = true) (ht : t ∈ terms v) : okT (okV d) d t = true := by
  rw [okV, Bool.and_eq_true] at h
  obtain ⟨i, hi, rfl⟩ := List.getElem_of_mem ht
  have := (allN_iff _ _ _).1 h.1 i (by omega) (by omega)
  rw [at_get hi, Bool.and_eq_true] at this
  exact this.1
theorem under_refl : ∀ (d : Nat) (v : T), okV d v = true → underV d v v = true
  | 0, v, h => by cases h
  | d + 1, v, h => by
    rw [underV_succ, List.all_eq_true]
    intro t ht
    rw [List.any_eq_true]
    have hp := okT_parts (okV_term h ht)
    exact ⟨t, ht, below_refl (d := d) (fun h4 => (hp.1 h4).1) hp.2 (fun h4 f hf => under_refl d (val f) ((hp.1 h4).2.2 f hf))⟩
theorem find_some {l : List T} {s : ByteArray} : ∀ (j : Nat), 0 ≤ findF l s j → ∃ i, i < l.length ∧ findF l s j = (j + i : Nat) ∧ nm (tAtD l i) = s := by
  induction l with
  | nil => intro j h; simp [findF] at h
  | cons f l ih =>
    intro j h
    rw [findF] at h ⊢
    by_cases hf : nm f = s
    · rw [if_pos hf]
      exact ⟨0, by simp, rfl, hf⟩
    · rw [if_neg hf] at h ⊢
      obtain ⟨i, h1, h2, h3⟩ := ih (j + 1) h
      exact ⟨i + 1, by simpa using h1, by rw [h2]; congr 1; omega, h3⟩
theorem below_trans {U V W : T → T → Bool} {t u w : T} (hU : ∀ f ∈ flds t, ∀ g ∈ flds u, ∀ h ∈ flds w, U (val f) (val g) = true → V (val g) (val h) = true → W (val f) (val h) = true) (h1 : belowT U t u = true) (h2 : belowT V u w = true) : belowT W t w = true := by
  unfold belowT at h1 h2 ⊢
  by_cases w5 : kd w = 5
  · rw [if_pos w5]
  rw [if_neg w5] at h2 ⊢
  by_cases hw : kd u = 4 ∧ kd w = 4
  · rw [if_pos hw] at h2
    rw [if_neg (by omega)] at h1
    by_cases ht : kd t = 4
    rotate_left
    · rw [if_neg (fun e => ht e.1), below_iff] at h1
      have := right_kd h1.2.1
      omega
    rw [if_pos ⟨ht, hw.1⟩] at h1
    rw [if_pos ⟨ht, hw.2⟩]
    simp only [Bool.and_eq_true, List.all_eq_true] at h1 h2 ⊢
    obtain ⟨⟨a1, a2⟩, a3⟩ := h1
    obtain ⟨⟨b1, b2⟩, b3⟩ := h2
    refine ⟨⟨?_, ?_⟩, fun x hx => ?_⟩
    · cases ot : op t <;> cases ou : op u <;> cases ow : op w <;> simp [ot, ou, ow] at a1 b1 ⊢
    · -- no field is lacking
      cases ow : op w with
      | true => unfold lackT; rw [ow]; rfl
      | false =>
        have ou : op u = false := by cases h : op u <;> simp [h, ow] at b1 ⊢
        unfold lackT at a2 b2 ⊢
        rw [ou] at a2
        rw [ow] at b2 ⊢
        simp only [Bool.not_false, Bool.true_and, Bool.not_eq_true', List.any_eq_false, decide_eq_true_eq] at a2 b2 ⊢
        intro f hf
        have h3 := a2 f hf
        obtain ⟨i, hi, _, hn⟩ := find_some (l := flds u) (s := nm f) 0 (by omega)
        rw [at_get hi] at hn
        have h4 := b2 _ (List.getElem_mem hi)
        rw [hn] at h4
        exact h4
    · have h3 := b3 x hx
      unfold fitF atF at h3 ⊢
      rw [Bool.and_eq_true, decide_eq_true_eq] at h3 ⊢
      obtain ⟨i, hi, he, hn⟩ := find_some (l := flds u) (s := nm x) 0 h3.1
      rw [Nat.zero_add] at he
      have h3' := h3.2
      rw [he, Int.toNat_natCast, at_get hi] at h3'
      have h4 := a3 _ (List.getElem_mem hi)
      unfold fitF atF at h4
      rw [at_get hi] at hn
      rw [Bool.and_eq_true, decide_eq_true_eq, hn] at h4
      refine ⟨h4.1, ?_⟩
      obtain ⟨k, hk, hek, _⟩ := find_some (l := flds t) (s := nm x) 0 h4.1
      rw [Nat.zero_add] at hek
      have h4' := h4.2
      rw [hek, Int.toNat_natCast, at_get hk] at h4' ⊢
      exact hU _ (List.getElem_mem hk) _ (List.getElem_mem hi) _ hx h4' h3'
  · rw [if_neg hw, below_iff] at h2
    have ku := right_kd h2.1
    have kw := right_kd h2.2.1
    rw [if_neg (by omega), if_neg (by omega), below_iff] at h1
    rw [if_neg (by omega), below_iff]
    exact leS_trans h1 h2
theorem under_trans : ∀ (d : Nat) (a b c : T), underV d a b = true → underV d b c = true → underV d a c = true
  | 0, a, b, c, h, _ => by cases h
  | d + 1, a, b, c, h1, h2 => by
    rw [underV_succ, List.all_eq_true] at h1 h2 ⊢
    intro t ht
    have h3 := h1 t ht
    rw [List.any_eq_true] at h3 ⊢
    obtain ⟨u, hu, h3⟩ := h3
    have h4 := h2 u hu
    rw [List.any_eq_true] at h4
    obtain ⟨w, hw, h4⟩ := h4
    exact ⟨w, hw, below_trans (fun f _ g _ h _ p q => under_trans d _ _ _ p q) h3 h4⟩
theorem all_atom : ∀ (d : Nat) (v : T), okV d v = true → allV atomS d v = allV (refOne false) d v
  | 0, v, h => rfl
  | d + 1, v, h => by
    rw [allV, allV]
    by_cases h1 : (terms v).length = 1
    rotate_left
    · rw [decide_eq_false h1, Bool.false_and, Bool.false_and]
    have hm : oneT v ∈ terms v := by unfold oneT; rw [at_get (by omega)]; exact List.getElem_mem _
    have hp := okT_parts (okV_term h hm)
    by_cases h5 : kd (oneT v) = 5
    · rw [decide_eq_true h5]; simp
    by_cases h4 : kd (oneT v) = 4
    · rw [if_pos h4, if_pos h4]
      have : ((flds (oneT v)).all fun f => allV atomS d (val f)) = (flds (oneT v)).all fun f => allV (refOne false) d (val f) := by
        rw [Bool.eq_iff_iff, List.all_eq_true, List.all_eq_true]
        constructor
        · intro hh f hf; rw [← all_atom d (val f) ((hp.1 h4).2.2 f hf)]; exact hh f hf
        · intro hh f hf; rw [all_atom d (val f) ((hp.1 h4).2.2 f hf)]; exact hh f hf
      rw [this]
    · rw [if_neg h4, if_neg h4]
      have : atomS (oneT v) = refOne false (oneT v) := by
        unfold atomS refOne
        rw [hp.2 h4 h5]
        simp
      rw [this]
theorem all_ready : ∀ (d : Nat) (v : T), allV atomS d v = true → allV readyS d v = true
  | 0, v, h => by cases h
  | d + 1, v, h => by
    rw [allV] at h ⊢
    simp only [Bool.and_eq_true] at h ⊢
    refine ⟨h.1, h.2.1, ?_⟩
    have h2 := h.2.2
    split
    · rename_i h4
      rw [if_pos h4, List.all_eq_true] at h2
      rw [List.all_eq_true]
      exact fun f hf => all_ready d (val f) (h2 f hf)
    · rename_i h4
      rw [if_neg h4] at h2
      unfold atomS at h2
      unfold readyS
      rw [h2]
      cases mb (oneT v) <;> rfl
theorem one_term {v t : T} (h : (terms v).length = 1) (ht : t ∈ terms v) : t = oneT v := by
  obtain ⟨i, hi, rfl⟩ := List.getElem_of_mem ht
  unfold oneT
  rw [at_get (by omega)]
  have : i = 0 := by omega
  subst this
  rfl
theorem not_waits : ∀ (d : Nat) (v : T), okV d v = true → allV atomS d v = true → waitV d v = false
  | 0, v, h, _ => by cases h
  | d + 1, v, ho, h => by
    rw [allV] at h
    simp only [Bool.and_eq_true, decide_eq_true_eq, Bool.not_eq_true', decide_eq_false_iff_not] at h
    obtain ⟨h1, h5, h2⟩ := h
    rw [waitV, List.any_eq_false]
    intro t ht
    have he := one_term h1 ht
    have hp := okT_parts (okV_term ho ht)
    rw [← he] at h2 h5
    by_cases h4 : kd t = 4
    · obtain ⟨_, hb, hR⟩ := hp.1 h4
      rw [if_pos h4, List.all_eq_true] at h2
      have hmb : mb t = false := by
        unfold bareT at hb
        simp only [Bool.and_eq_true, Bool.not_eq_true'] at hb
        exact hb.2
      rw [hmb, Bool.false_or, Bool.not_eq_true, List.any_eq_false]
      intro f hf
      rw [not_waits d (val f) (hR f hf) (h2 f hf)]
      simp
    · rw [if_neg h4] at h2
      unfold atomS at h2
      rw [Bool.and_eq_true] at h2
      obtain ⟨_, hf, hmo, _⟩ := right_parts h2.1
      rw [hf]
      have hmb : mb t = false := by
        cases h : mb t with
        | false => rfl
        | true => exact absurd ⟨h, h2.2⟩ hmo
      rw [hmb]
      simp
theorem refV_ok {v : T} (h : refV 20 v = true) : okV 20 v = true := by
  rw [refV_eq, Bool.and_eq_true] at h
  exact h.1
theorem refines_same (a b : T) : refinesV a b = rrefinesV a b := by
  unfold refinesV rrefinesV belowV
  cases h : refV 20 a with
  | false => simp only [Bool.false_and]
  | true => simp only [all_atom 20 a (refV_ok h), Bool.true_and]
theorem refines_parts {a b : T} (h : refinesV a b = true) : refV 20 a = true ∧ allV atomS 20 a = true ∧ refV 20 b = true ∧ underV 20 a b = true := by
  unfold refinesV belowV at h
  simp only [Bool.and_eq_true] at h
  exact ⟨h.1.1, h.1.2, h.2.2.1, h.2.2.2⟩
theorem refines_of {a b : T} (h1 : refV 20 a = true) (h2 : allV atomS 20 a = true) (h3 : refV 20 b = true) (h4 : underV 20 a b = true) : refinesV a b = true := by
  unfold refinesV belowV
  rw [h1, h2, h3, h4]
  rfl
end Go.Proofs.YtffncdkbcphbgaaDoorDD
namespace Go.Proofs.YtffncdkbcphbgaaDoorDD
open Go Go.Proofs.YtffncdkbcphbgaaDoorVM
set_option linter.unusedVariables false
set_option linter.unusedSimpArgs false
set_option maxRecDepth 100000

theorem Dz.steps {i : Nat} {p : Option (List Bool)} {R : Nat × List A} (n : Nat) (I : Nat → List A) (hend : Dz i p (I n) R) (hstep : ∀ j, j < n → ∀ R, Dz i p (I (j + 1)) R → Dz i p (I j) R) : Dz i p (I 0) R := by
  have : ∀ k j, j + k = n → Dz i p (I j) R := by
    intro k
    induction k with
    | zero => intro j hj; rw [show j = n by omega]; exact hend
    | succ k ih => intro j hj; exact hstep j (by omega) R (ih (j + 1) (by omega))
  exact this n 0 (by omega)
def sameL (a b : List T) : Bool := decide (a.map T.txt = b.map T.txt)
theorem same_loop {i : Nat} {p : Option (List Bool)} (a b : List T) (hab : a.length = b.length) (I : Nat → List A)
    (hq : ∀ n j, j < a.length → den Tryd.prog G0 ents (Nat.succ n) i p (I j) = if seqB (tAtD a j).txt (tAtD b j).txt = true then den Tryd.prog G0 ents n i p (I (j + 1)) else some (1, [A.t (T.bool false)]))
    (he : ∀ n, den Tryd.prog G0 ents (Nat.succ n) i p (I a.length) = some (2, [])) : Dz i p (I 0) (if sameL a b then (2, []) else (1, [A.t (T.bool false)])) := by
  have : ∀ k j, j + k = a.length → Dz i p (I j) (if (a.drop j).map T.txt = (b.drop j).map T.txt then (2, []) else (1, [A.t (T.bool false)])) := by
    intro k
    induction k with
    | zero =>
      intro j hj
      rw [List.drop_of_length_le (by omega), List.drop_of_length_le (by omega), if_pos rfl, show j = a.length by omega]
      exact Does.now he
    | succ k ih =>
      intro j hj
      have h1 : j < a.length := by omega
      have h2 : j < b.length := by omega
      rw [List.drop_eq_getElem_cons h1, List.drop_eq_getElem_cons h2, List.map_cons, List.map_cons]
      cases hs : seqB a[j].txt b[j].txt with
      | true =>
        have e : a[j].txt = b[j].txt := (seqB_iff _ _).1 hs
        have ih' := ih (j + 1) (by omega)
        rw [e]
        simp only [List.cons.injEq, true_and]
        refine Does.next ih' fun n => ?_
        rw [hq n j h1, at_get h1, at_get h2, hs, if_pos rfl]
      | false =>
        have hne : a[j].txt ≠ b[j].txt := fun e => by rw [(seqB_iff _ _).2 e] at hs; cases hs
        rw [if_neg (fun e => hne (List.cons.inj e).1)]
        refine Does.now fun n => ?_
        rw [hq n j h1, at_get h1, at_get h2, hs, if_neg (by simp)]
  have h0 := this a.length 0 (by omega)
  unfold sameL
  simp only [List.drop_zero] at h0
  simpa using h0
theorem sameL_len {a b : List T} (h : a.length ≠ b.length) : sameL a b = false := decide_eq_false fun e => h (by simpa using congrArg List.length e)
theorem equalS_does (a b : List T) (ha : a.length ≤ 1000000) : Dz i_slices_Equal_string none [A.t (T.node a), A.t (T.node b)] (1, [A.t (T.bool (sameL a b))]) := by
  by_cases hl : a.length = b.length
  rotate_left
  · refine Does.now fun m => ?_
    rw [q_slices_Equal_string, sameL_len hl]
    simp only [S0, S9, S1, S2, if_true, if_false]
    rw [if_pos (by omega)]
  obtain ⟨n0, h0⟩ := same_loop (i := i_slices_Equal_string) (p := some p_slices_Equal_string_c1) a b hl (fun j => [A.t (T.node a), A.t (T.node b), A.t (T.int (a.length : Nat)), A.t (T.int j)]) (fun n j hj => by
    have hw : IntKind.i64.wrap ((j : Int) + 1) = ((j + 1 : Nat) : Int) := i64succ (by omega)
    rw [q_slices_Equal_string_c1]
    simp only [S0, S9, S1, S2, if_true, if_false, hw, Bool.not_eq_true']
    rw [if_pos (by omega), if_pos (by omega), if_pos (by omega)]
    cases seqB (tAtD a j).txt (tAtD b j).txt <;> simp) (fun n => by
    rw [q_slices_Equal_string_c1]
    simp only [S0, S9, S1, S2, if_true, if_false]
    rw [if_neg (by omega)])
  refine Does.of n0 fun m hm => ?_
  have q : den Tryd.prog G0 ents m i_slices_Equal_string (some p_slices_Equal_string_c1) [A.t (T.node a), A.t (T.node b), A.t (T.int (a.length : Nat)), A.t (T.int 0)] = _ := h0 m hm
  rw [q_slices_Equal_string]
  simp only [S0, S9, S1, S2, if_true, if_false, q]
  rw [if_neg (by omega)]
  cases sameL a b <;> rfl

def hasS (ss : List ByteArray) (s : ByteArray) : Bool := ss.any fun x => seqB x s
theorem hasS_iff (ss : List ByteArray) (s : ByteArray) : hasS ss s = true ↔ s ∈ ss := by
  unfold hasS
  rw [List.any_eq_true]
  constructor
  · rintro ⟨x, hx, h⟩; rw [← (seqB_iff _ _).1 h]; exact hx
  · intro h; exact ⟨s, h, (seqB_iff _ _).2 rfl⟩
def insS : List ByteArray → ByteArray → List ByteArray
  | [], s => [s]
  | x :: l, s => if sltB s x then s :: x :: l else x :: insS l s
def putS (ss : List ByteArray) (s : ByteArray) : List ByteArray := if hasS ss s then ss else insS ss s
theorem str_at {ss : List ByteArray} {j : Nat} (h : j < ss.length) : (tAtD (ss.map T.str) j).txt = ss[j] := by
  rw [at_get (by simpa using h), List.getElem_map]; rfl
theorem rhas_does (ss : List ByteArray) (s : ByteArray) (hl : ss.length ≤ 1000000) : Dz i_R17_Has none [A.t (T.node (ss.map T.str)), A.t (T.str s)] (1, [A.t (T.bool (hasS ss s))]) := by
  have hloop : ∀ k j, j + k = ss.length → Dz i_R17_Has (some p_R17_Has_c1) [A.t (T.node (ss.map T.str)), A.t (T.str s), A.t (T.int j)] (if hasS (ss.drop j) s then (1, [A.t (T.bool true)]) else (2, [])) := by
    intro k
    induction k with
    | zero =>
      intro j hj
      rw [List.drop_of_length_le (by omega)]
      refine Does.now fun m => ?_
      rw [q_R17_Has_c1]
      simp only [S0, S9, S1, S2, if_true, if_false, List.length_map]
      rw [if_neg (by omega)]; rfl
    | succ k ih =>
      intro j hj
      have hlt : j < ss.length := by omega
      have hw : IntKind.i64.wrap ((j : Int) + 1) = ((j + 1 : Nat) : Int) := i64succ (by omega)
      obtain ⟨n0, h0⟩ := ih (j + 1) (by omega)
      refine Does.of n0 fun m hm => ?_
      rw [q_R17_Has_c1, List.drop_eq_getElem_cons hlt]
      simp only [S0, S9, S1, S2, if_true, if_false, List.length_map, hw, str_at hlt, h0 m hm, hasS, List.any_cons]
      rw [if_pos (by omega), if_pos (by omega)]
      cases seqB ss[j] s <;> simp
  obtain ⟨n0, h0⟩ := hloop ss.length 0 (by omega)
  refine Does.of n0 fun m hm => ?_
  have q : den Tryd.prog G0 ents m i_R17_Has (some p_R17_Has_c1) [A.t (T.node (ss.map T.str)), A.t (T.str s), A.t (T.int 0)] = _ := h0 m hm
  rw [List.drop_zero] at q
  rw [q_R17_Has]
  simp only [S0, S9, S1, S2, if_true, if_false, q]
  cases hasS ss s <;> rfl
def putStep (s : ByteArray) (st : Bool × List T) (x : ByteArray) : Bool × List T := if (!st.1 && sltB s x) = true then (true, (st.2 ++ [T.str s]) ++ [T.str x]) else (st.1, st.2 ++ [T.str x])
theorem put_true (s : ByteArray) : ∀ (ss : List ByteArray) (out : List T), ss.foldl (putStep s) (true, out) = (true, out ++ ss.map T.str)
  | [], out => by simp
  | x :: ss, out => by
    rw [List.foldl_cons, show putStep s (true, out) x = (true, out ++ [T.str x]) from rfl, put_true s ss]
    simp
theorem put_false (s : ByteArray) : ∀ (ss : List ByteArray) (out : List T), (let st := ss.foldl (putStep s) (false, out); if st.1 then st.2 else st.2 ++ [T.str s]) = out ++ (insS ss s).map T.str
  | [], out => by simp [insS]
  | x :: ss, out => by
    rw [List.foldl_cons, insS]
    by_cases h : sltB s x = true
    · rw [show putStep s (false, out) x = (true, (out ++ [T.str s]) ++ [T.str x]) by simp [putStep, h], put_true, if_pos h]
      simp
    · rw [show putStep s (false, out) x = (false, out ++ [T.str x]) by simp [putStep, h], if_neg h]
      have := put_false s ss (out ++ [T.str x])
      rw [this]
      simp
theorem putStep_len (s : ByteArray) (st : Bool × List T) (x : ByteArray) : (putStep s st x).2.length ≤ st.2.length + 2 := by
  unfold putStep
  split <;> simp
theorem rput_does (ss : List ByteArray) (s : ByteArray) (hl : ss.length ≤ 1000000) : Dz i_R17_Put none [A.t (T.node (ss.map T.str)), A.t (T.str s)] (1, [A.t (T.node ((putS ss s).map T.str))]) := by
  have hloop : ∀ k j (st : Bool × List T), j + k = ss.length → st.2.length ≤ 2 * j → Dz i_R17_Put (some p_R17_Put_c1) [A.t (T.node (ss.map T.str)), A.t (T.str s), A.t (T.bool st.1), A.t (T.int j), A.t (T.node st.2)]
      (2, [A.t (T.str s), A.t (T.bool ((ss.drop j).foldl (putStep s) st).1), A.t (T.node ((ss.drop j).foldl (putStep s) st).2)]) := by
    intro k
    induction k with
    | zero =>
      intro j st hj hb
      rw [List.drop_of_length_le (by omega)]
      refine Does.now fun m => ?_
      rw [q_R17_Put_c1]
      simp only [S0, S9, S1, S2, if_true, if_false, List.length_map]
      rw [if_neg (by omega)]; rfl
    | succ k ih =>
      intro j st hj hb
      have hlt : j < ss.length := by omega
      have hw : IntKind.i64.wrap ((j : Int) + 1) = ((j + 1 : Nat) : Int) := i64succ (by omega)
      have hpl := putStep_len s st ss[j]
      obtain ⟨n0, h0⟩ := ih (j + 1) (putStep s st ss[j]) (by omega) (by omega)
      refine Does.of n0 fun m hm => ?_
      have q := h0 m hm
      rw [q_R17_Put_c1, List.drop_eq_getElem_cons hlt, List.foldl_cons]
      simp only [S0, S9, S1, S2, if_true, if_false, List.length_map, hw, str_at hlt, Bool.not_eq_true']
      obtain ⟨b, out⟩ := st
      simp only at hb q hpl ⊢
      have e1 : out.length + 1 < 1073741824 := by omega
      have e2 : out.length + 1 + 1 < 1073741824 := by omega
      have g1 : (0 : Int) ≤ (j : Int) := by omega
      have g2 : (j : Int) < (ss.length : Int) := by omega
      cases b with
      | true =>
        rw [show putStep s (true, out) ss[j] = (true, out ++ [T.str ss[j]]) from rfl] at q ⊢
        simp only [g1, g2, Bool.true_eq_false, if_false, Nat.succ_eq_add_one, e1, if_true, and_self]
        exact q
      | false =>
        by_cases hs : sltB s ss[j] = true
        · rw [show putStep s (false, out) ss[j] = (true, (out ++ [T.str s]) ++ [T.str ss[j]]) by simp [putStep, hs]] at q ⊢
          simp only [g1, g2, hs, if_true, Nat.succ_eq_add_one, e1, List.length_append, List.length_cons, List.length_nil, Nat.zero_add, e2, and_self]
          exact q
        · rw [show putStep s (false, out) ss[j] = (false, out ++ [T.str ss[j]]) by simp [putStep, hs]] at q ⊢
          simp only [g1, g2, hs, if_true, if_false, Nat.succ_eq_add_one, e1, and_self]
          exact q
  unfold putS
  cases hh : hasS ss s with
  | true =>
    obtain ⟨n0, h0⟩ := rhas_does ss s hl
    refine Does.of n0 fun m hm => ?_
    rw [q_R17_Put]
    simp only [S0, S9, S1, S2, if_true, if_false, h0 m hm, hh]
  | false =>
    obtain ⟨n0, h0⟩ := (rhas_does ss s hl).both (hloop ss.length 0 (false, []) (by omega) (by simp))
    refine Does.of n0 fun m hm => ?_
    obtain ⟨q1, q2⟩ := h0 m hm
    have q2' : den Tryd.prog G0 ents m i_R17_Put (some p_R17_Put_c1) [A.t (T.node (ss.map T.str)), A.t (T.str s), A.t (T.bool false), A.t (T.int 0), A.t (T.node [])] = _ := q2
    rw [List.drop_zero] at q2'
    have hp := put_false s ss []
    have hlen : (ss.foldl (putStep s) (false, [])).2.length ≤ 2 * ss.length := by
      have : ∀ (l : List ByteArray) (st : Bool × List T), (l.foldl (putStep s) st).2.length ≤ st.2.length + 2 * l.length := by
        intro l
        induction l with
        | nil => intro st; simp
        | cons x l ih => intro st; rw [List.foldl_cons]; have := ih (putStep s st x); have := putStep_len s st x; simp only [List.length_cons]; omega
      simpa using this ss (false, [])
    rw [q_R17_Put]
    simp only [S0, S9, S1, S2, if_true, if_false, q1, hh, q2', Bool.not_eq_true']
    generalize ss.foldl (putStep s) (false, []) = st at hp hlen
    obtain ⟨b, out⟩ := st
    simp only at hp hlen ⊢
    rw [List.nil_append] at hp
    cases b with
    | true => simp only [if_true] at hp; rw [← hp]; rfl
    | false =>
      simp only [Bool.false_eq_true, if_false] at hp
      rw [← hp]
      have e1 : out.length + 1 < 1073741824 := by omega
      simp [e1]
def RiseS : List ByteArray → Prop
  | [] => True
  | x :: l => (∀ y ∈ l, sltB x y = true) ∧ RiseS l
theorem riseS_ext : ∀ {a b : List ByteArray}, RiseS a → RiseS b → (∀ x, x ∈ a ↔ x ∈ b) → a = b
  | [], [], _, _, _ => rfl
  | [], y :: b, _, _, h => by have := (h y).2 List.mem_cons_self; cases this
  | x :: a, [], _, _, h => by have := (h x).1 List.mem_cons_self; cases this
  | x :: a, y :: b, ha, hb, h => by
    have hxy : x = y := by
      rcases List.mem_cons.1 ((h x).1 List.mem_cons_self) with e | e
      · exact e
      rcases List.mem_cons.1 ((h y).2 List.mem_cons_self) with e2 | e2
      · exact e2.symm
      have h1 := hb.1 x e
      have h2 := ha.1 y e2
      rw [slt_asymm h1] at h2
      cases h2
    subst hxy
    have : a = b := riseS_ext ha.2 hb.2 fun z => by
      constructor
      · intro hz
        rcases List.mem_cons.1 ((h z).1 (List.mem_cons_of_mem _ hz)) with e | e
        · subst e; have := ha.1 z hz; rw [slt_irrefl] at this; cases this
        · exact e
      · intro hz
        rcases List.mem_cons.1 ((h z).2 (List.mem_cons_of_mem _ hz)) with e | e
        · subst e; have := hb.1 z hz; rw [slt_irrefl] at this; cases this
        · exact e
    rw [this]
theorem insS_mem (ss : List ByteArray) (s x : ByteArray) : x ∈ insS ss s ↔ x = s ∨ x ∈ ss := by
  induction ss with
  | nil => simp [insS]
  | cons y l ih =>
    rw [insS]
    split
    · simp
    · rw [List.mem_cons, ih, List.mem_cons]
      constructor
      · rintro (h | h | h)
        · exact .inr (.inl h)
        · exact .inl h
        · exact .inr (.inr h)
      · rintro (h | h | h)
        · exact .inr (.inl h)
        · exact .inl h
        · exact .inr (.inr h)
theorem insS_rise {ss : List ByteArray} {s : ByteArray} (h : RiseS ss) (hn : s ∉ ss) : RiseS (insS ss s) := by
  induction ss with
  | nil => exact ⟨fun y hy => (by cases hy), trivial⟩
  | cons y l ih =>
    rw [insS]
    split
    · rename_i hs
      refine ⟨fun z hz => ?_, h⟩
      rcases List.mem_cons.1 hz with e | e
      · subst e; exact hs
      · exact slt_trans hs (h.1 z e)
    · rename_i hs
      refine ⟨fun z hz => ?_, ih h.2 (fun e => hn (List.mem_cons_of_mem _ e))⟩
      rcases (insS_mem l s z).1 hz with e | e
      · subst e
        rcases slt_tri z y with h1 | h1 | h1
        · exact absurd h1 hs
        · exact h1
        · subst h1; exact absurd List.mem_cons_self hn
      · exact h.1 z e
theorem putS_mem (ss : List ByteArray) (s x : ByteArray) : x ∈ putS ss s ↔ x = s ∨ x ∈ ss := by
  unfold putS
  split
  · rename_i h
    rw [hasS_iff] at h
    constructor
    · exact .inr
    · rintro (e | e)
      · subst e; exact h
      · exact e
  · exact insS_mem ss s x
theorem putS_rise {ss : List ByteArray} {s : ByteArray} (h : RiseS ss) : RiseS (putS ss s) := by
  unfold putS
  split
  · exact h
  · rename_i hh
    exact insS_rise h fun e => hh ((hasS_iff _ _).2 e)
theorem putS_len (ss : List ByteArray) (s : ByteArray) : (putS ss s).length ≤ ss.length + 1 := by
  have hi : ∀ l : List ByteArray, (insS l s).length = l.length + 1 := by
    intro l
    induction l with
    | nil => rfl
    | cons y l ih => rw [insS]; split <;> simp [*]
  unfold putS
  split
  · omega
  · rw [hi]; omega
theorem foldPut_mem (l : List ByteArray) : ∀ (acc : List ByteArray) (x : ByteArray), x ∈ l.foldl putS acc ↔ x ∈ acc ∨ x ∈ l := by
  induction l with
  | nil => simp
  | cons y l ih =>
    intro acc x
    rw [List.foldl_cons, ih, putS_mem, List.mem_cons]
    constructor
    · rintro ((h | h) | h)
      · exact .inr (.inl h)
      · exact .inl h
      · exact .inr (.inr h)
    · rintro (h | h | h)
      · exact .inl (.inr h)
      · exact .inl (.inl h)
      · exact .inr h
theorem foldPut_rise (l : List ByteArray) : ∀ (acc : List ByteArray), RiseS acc → RiseS (l.foldl putS acc) := by
  induction l with
  | nil => exact fun _ h => h
  | cons y l ih => intro acc h; exact ih _ (putS_rise h)
theorem foldPut_len (l : List ByteArray) : ∀ (acc : List ByteArray), (l.foldl putS acc).length ≤ acc.length + l.length := by
  induction l with
  | nil => simp
  | cons y l ih => intro acc; have := ih (putS acc y); have := putS_len acc y; simp only [List.foldl_cons, List.length_cons]; omega
end Go.Proofs.YtffncdkbcphbgaaDoorDD
namespace Go.Proofs.YtffncdkbcphbgaaDoorDD
open Go Go.Proofs.YtffncdkbcphbgaaDoorVM
set_option linter.unusedVariables false
set_option linter.unusedSimpArgs false
set_option maxRecDepth 100000

theorem cloneT_eq (n : Nat) (l : List T) : den Tryd.prog G0 ents (Nat.succ n) i_slices_Clone_Term none [A.t (T.node l)] = Option.map (fun o => (1, o)) (cloneF [A.t (T.node l)]) := by kernel_rfl
theorem cloneFd_eq (n : Nat) (l : List T) : den Tryd.prog G0 ents (Nat.succ n) i_slices_Clone_Field none [A.t (T.node l)] = Option.map (fun o => (1, o)) (cloneF [A.t (T.node l)]) := by kernel_rfl
theorem cloneF_of {l : List T} (h : l.length ≤ 1000000000) : cloneF [A.t (T.node l)] = some [A.t (T.node l)] := by
  show (bif decide (l.length ≤ 1000000000) then _ else _) = _
  rw [decide_eq_true h]; rfl
theorem cloneT_does (l : List T) (h : l.length ≤ 1000000000) : Dz i_slices_Clone_Term none [A.t (T.node l)] (1, [A.t (T.node l)]) := Does.now fun n => by rw [cloneT_eq, cloneF_of h]; rfl
theorem cloneFd_does (l : List T) (h : l.length ≤ 1000000000) : Dz i_slices_Clone_Field none [A.t (T.node l)] (1, [A.t (T.node l)]) := Does.now fun n => by rw [cloneFd_eq, cloneF_of h]; rfl
def copyF (c : T → T) (f : T) : T := .node [f.get 0, c (val f)]
def copyT (c : T → T) (t : T) : T := .node [t.get 0, t.get 1, t.get 2, t.get 3, t.get 4, t.get 5, t.get 6, .node ((flds t).map (copyF c))]
def copyV : Nat → T → T
  | 0, _ => .node [.node []]
  | d + 1, v => .node [.node ((terms v).map (copyT (copyV d)))]
def half (g : T → T) (l : List T) (j : Nat) : List T := (l.take j).map g ++ l.drop j
theorem half_zero (g : T → T) (l : List T) : half g l 0 = l := by simp [half]
theorem half_end (g : T → T) (l : List T) : half g l l.length = l.map g := by simp [half]
theorem half_len (g : T → T) (l : List T) (j : Nat) : (half g l j).length = l.length := by simp [half]; omega
theorem half_at {g : T → T} {l : List T} {j : Nat} (h : j < l.length) : tAtD (half g l j) j = l[j] := by
  rw [at_get (by rw [half_len]; exact h)]
  unfold half
  rw [List.getElem_append_right (by simp; omega)]
  simp [Nat.min_eq_left (Nat.le_of_lt h)]
theorem half_set {g : T → T} {l : List T} {j : Nat} (h : j < l.length) : (half g l j).set j (g l[j]) = half g l (j + 1) := by
  unfold half
  rw [List.set_append_right _ _ (by simp; omega), List.take_add_one, List.getElem?_eq_getElem h]
  simp only [List.length_map, List.length_take, Nat.min_eq_left (Nat.le_of_lt h), Nat.sub_self, List.map_append, Option.toList_some, List.map_cons, List.map_nil, List.append_assoc]
  rw [List.drop_eq_getElem_cons h]
  rfl
theorem copy_c2 (c : T → T) (i0 n i : Int) (x5 x6 : T) (l : List T) (hl : l.length ≤ 1000) (hc : ∀ f ∈ l, Dz i_rank_Copy none [A.t (val f)] (1, [A.t (c (val f))])) :
    Dz i_rank_Copy (some p_rank_Copy_c2) [A.t (T.int i0), A.t (T.int n), A.t (T.int i), A.t (T.int (l.length : Nat)), A.t (T.int 0), A.t x5, A.t x6, A.t (T.node l)] (4, [A.t (T.int i0), A.t (T.int n), A.t (T.int i), A.t x5, A.t (T.node x6.kids), A.t (T.node (l.map (copyF c)))]) := by
  have := Dz.steps (i := i_rank_Copy) (p := some p_rank_Copy_c2) (R := (4, [A.t (T.int i0), A.t (T.int n), A.t (T.int i), A.t x5, A.t (T.node x6.kids), A.t (T.node (l.map (copyF c)))])) l.length
    (fun j => [A.t (T.int i0), A.t (T.int n), A.t (T.int i), A.t (T.int (l.length : Nat)), A.t (T.int j), A.t x5, A.t (T.node x6.kids), A.t (T.node (half (copyF c) l j))]) (by
      refine Does.now fun m => ?_
      rw [q_rank_Copy_c2]
      simp only [S0, S9, S1, S2, if_true, if_false, half_end]
      rw [if_neg (by omega)]) (fun j hj R hR => by
      have hw : IntKind.i64.wrap ((j : Int) + 1) = ((j + 1 : Nat) : Int) := i64succ (by omega)
      obtain ⟨n0, h0⟩ := (hc _ (List.getElem_mem hj)).both hR
      refine Does.of n0 fun m hm => ?_
      obtain ⟨q1, q2⟩ := h0 m hm
      have hs := half_set (g := copyF c) hj
      unfold copyF at hs q2
      rw [← hs] at q2
      rw [q_rank_Copy_c2]
      unfold copyF
      simp only [S0, S9, S1, S2, if_true, if_false, half_len, half_at hj, val_eq, hw, q1]
      rw [if_pos (by omega), if_pos (by omega), if_pos (by omega), if_pos (by omega), if_pos (by omega)]
      exact q2)
  rw [half_zero] at this
  have h6 : ∀ R, Dz i_rank_Copy (some p_rank_Copy_c2) [A.t (T.int i0), A.t (T.int n), A.t (T.int i), A.t (T.int (l.length : Nat)), A.t (T.int 0), A.t x5, A.t (T.node x6.kids), A.t (T.node l)] R → Dz i_rank_Copy (some p_rank_Copy_c2) [A.t (T.int i0), A.t (T.int n), A.t (T.int i), A.t (T.int (l.length : Nat)), A.t (T.int 0), A.t x5, A.t x6, A.t (T.node l)] R := by
    intro R ⟨n0, h0⟩
    refine Does.of n0 fun m hm => ?_
    have := h0 (m + 1) (by omega)
    rw [q_rank_Copy_c2] at this ⊢
    exact this
  exact h6 _ this
theorem copy_does : ∀ (d : Nat) (v : T), Sm d v → Dz i_rank_Copy none [A.t v] (1, [A.t (copyV d v)])
  | 0, v, h => h.1.elim
  | d + 1, v, h => by
    have hl := h.terms
    have hloop := Dz.steps (i := i_rank_Copy) (p := some p_rank_Copy_c1) (R := (2, [A.t (T.node [T.node []]), A.t (T.node ((terms v).map (copyT (copyV d))))])) (terms v).length
      (fun j => [A.t (T.int ((terms v).length : Nat)), A.t (T.int j), A.t (T.node [T.node []]), A.t (T.node (half (copyT (copyV d)) (terms v) j))]) (by
        refine Does.now fun m => ?_
        rw [q_rank_Copy_c1]
        simp only [S0, S9, S1, S2, if_true, if_false, half_end]
        rw [if_neg (by omega)]) (fun j hj R hR => by
        have hw : IntKind.i64.wrap ((j : Int) + 1) = ((j + 1 : Nat) : Int) := i64succ (by omega)
        have hm := List.getElem_mem hj
        have hf := h.flds hm
        obtain ⟨n1, h1⟩ := (cloneFd_does (flds (terms v)[j]) (by omega)).both (copy_c2 (copyV d) j ((terms v).length : Nat) j (T.node [T.node []]) (T.node (half (copyT (copyV d)) (terms v) j)) (flds (terms v)[j]) (by omega) (fun f hf' => copy_does d _ (h.sub hm hf')))
        obtain ⟨n0, h0⟩ := hR
        refine Does.of (n0 + n1) fun m hm => ?_
        obtain ⟨q1, q2⟩ := h1 m (by omega)
        have q3 := h0 m (by omega)
        have hs := half_set (g := copyT (copyV d)) hj
        unfold copyT at hs q3
        rw [← hs] at q3
        rw [q_rank_Copy_c1]
        unfold copyT at q2 ⊢
        simp only [S0, S9, S1, S2, if_true, if_false, half_len, half_at hj, hw, q1, q2]
        rw [if_pos (by omega), if_pos (by omega), if_pos (by omega), if_pos (by omega), if_pos (by omega)]
        exact q3)
    rw [half_zero] at hloop
    obtain ⟨n0, h0⟩ := (cloneT_does (terms v) (by omega)).both hloop
    refine Does.of n0 fun m hm => ?_
    obtain ⟨q1, q2⟩ := h0 m hm
    have q2' : den Tryd.prog G0 ents m i_rank_Copy (some p_rank_Copy_c1) [A.t (T.int ((terms v).length : Nat)), A.t (T.int 0), A.t (T.node [T.node []]), A.t (T.node (terms v))] = _ := q2
    rw [q_rank_Copy]
    simp only [S0, S9, S1, S2, if_true, if_false, q1, q2']
    rfl
theorem cmpL_map {f : T → T → Int} {g : T → T} : ∀ {l : List T}, (∀ x ∈ l, f (g x) x = 0) → cmpL f (l.map g) l = 0
  | [], _ => rfl
  | x :: l, h => by rw [List.map_cons, cmpL_cons, h x List.mem_cons_self, fst_zero]; exact cmpL_map fun y hy => h y (List.mem_cons_of_mem _ hy)
theorem cmpI_self (a : Int) : cmpI a a = 0 := cmpI_zero.2 rfl
theorem cmpB_self (a : ByteArray) : cmpB a a = 0 := cmpB_zero.2 rfl
theorem cmpF1_self (a : Bool) : cmpF1 a a = 0 := cmpF1_zero.2 rfl
theorem plainC_self (t : T) : plainC t t = 0 := by
  unfold plainC
  simp only [cmpI_self, cmpB_self, cmpF1_self, fst_zero]
theorem cmpV_copy : ∀ (d : Nat) (v : T), cmpV d (copyV d v) v = 0
  | 0, v => rfl
  | d + 1, v => by
    rw [cmpV_succ]
    show cmpL (cmpT d) ((terms v).map (copyT (copyV d))) (terms v) = 0
    refine cmpL_map fun t _ => ?_
    unfold cmpT
    rw [show plainC (copyT (copyV d) t) t = plainC t t from rfl, plainC_self, fst_zero]
    show cmpL (cmpG d) ((flds t).map (copyF (copyV d))) (flds t) = 0
    refine cmpL_map fun f _ => ?_
    unfold cmpG
    rw [show nm (copyF (copyV d) f) = nm f from rfl, cmpB_self, fst_zero]
    exact cmpV_copy d (val f)
theorem copy_Vd : ∀ (d : Nat) (v : T), Vd d v → Vd d (copyV d v)
  | 0, v, h => h.elim
  | d + 1, v, h => by
    intro t ht
    have ht' : t ∈ (terms v).map (copyT (copyV d)) := ht
    obtain ⟨u, hu, rfl⟩ := List.mem_map.1 ht'
    obtain ⟨h1, h2, h3⟩ := h u hu
    have hf : flds (copyT (copyV d) u) = (flds u).map (copyF (copyV d)) := rfl
    rw [hf]
    refine ⟨by simpa using h1, h2, fun f hf' => ?_⟩
    obtain ⟨g, hg, rfl⟩ := List.mem_map.1 hf'
    exact ⟨(h3 g hg).1, copy_Vd d _ (h3 g hg).2⟩
theorem copy_wt : ∀ (d : Nat) (v : T), wt d (copyV d v) = wt d v
  | 0, v => rfl
  | d + 1, v => by
    rw [wt_succ, wt_succ]
    show sumN (((terms v).map (copyT (copyV d))).map (wtT d)) = _
    rw [List.map_map]
    congr 1
    refine List.map_congr_left fun t _ => ?_
    show 1 + sumN (((flds t).map (copyF (copyV d))).map fun f => wt d (val f)) = 1 + sumN ((flds t).map fun f => wt d (val f))
    rw [List.map_map]
    congr 2
    exact List.map_congr_left fun f _ => copy_wt d (val f)
theorem copy_Sm {d : Nat} {v : T} (h : Sm d v) : Sm d (copyV d v) := ⟨copy_Vd d v h.1, by rw [copy_wt]; exact h.2⟩
end Go.Proofs.YtffncdkbcphbgaaDoorDD
namespace Go.Proofs.YtffncdkbcphbgaaDoorDD
open Go Go.Proofs.YtffncdkbcphbgaaDoorVM
set_option linter.unusedVariables false
set_option linter.unusedSimpArgs false
set_option maxRecDepth 100000

def thV (t : T) : T := t.get 1
def deps (t : T) : List T := (t.get 2).kids
theorem S3 : (∀ t : T, (T.get t 0).txt = nm t) ∧ (∀ t, T.get t 1 = thV t) ∧ (∀ t, (T.get t 2).kids = deps t) := ⟨fun _ => rfl, fun _ => rfl, fun _ => rfl⟩
def fewTh (t : T) : Bool := decide ((nm t).size ≤ 100) && (decide ((deps t).length ≤ 20) && (few (thV t) && (deps t).all fun s => decide (s.txt.size ≤ 100)))
def fewL (l : List T) : Bool := decide (l.length ≤ 12) && l.all fewTh
theorem fewL_does (l : List T) : Dz i_L30_Few none [A.t (T.node l)] (1, [A.t (T.bool (fewL l))]) := by
  by_cases hl : l.length ≤ 12
  rotate_left
  · refine Does.now fun m => ?_
    rw [q_L30_Few, fewL, decide_eq_false hl, Bool.false_and]
    simp only [S0, S9, S1, S2, if_true, if_false]
    rw [if_pos (by omega)]
  have hin : ∀ i (hi : i < l.length), (deps l[i]).length ≤ 20 → ∀ k j, j + k = (deps l[i]).length → Dz i_L30_Few (some p_L30_Few_c2) [A.t (T.node l), A.t (T.int i), A.t (T.int j)] (if ((deps l[i]).drop j).all (fun s => decide (s.txt.size ≤ 100)) then (4, [A.t (T.node l), A.t (T.int i)]) else (1, [A.t (T.bool false)])) := by
    intro i hi hd k
    induction k with
    | zero =>
      intro j hj
      rw [List.drop_of_length_le (by omega)]
      refine Does.now fun m => ?_
      rw [q_L30_Few_c2]
      simp only [S0, S9, S1, S2, if_true, if_false, at_get hi, S3]
      rw [if_pos (by omega), if_neg (by omega)]; rfl
    | succ k ih =>
      intro j hj
      have hlt : j < (deps l[i]).length := by omega
      have hw : IntKind.i64.wrap ((j : Int) + 1) = ((j + 1 : Nat) : Int) := i64succ (by omega)
      obtain ⟨n0, h0⟩ := ih (j + 1) (by omega)
      refine Does.of n0 fun m hm => ?_
      have q := h0 m hm
      rw [q_L30_Few_c2, List.drop_eq_getElem_cons hlt, List.all_cons]
      simp only [S0, S9, S1, S2, if_true, if_false, at_get hi, at_get hlt, S3, hw, q]
      rw [if_pos (by omega), if_pos (by omega), if_pos (by omega), if_pos (by omega)]
      by_cases hs : (deps l[i])[j].txt.size ≤ 100
      · rw [if_neg (by omega)]; simp only [hs, true_and]
      · rw [if_pos (by omega)]; simp only [hs, false_and, if_false]
  have hout : ∀ k j, j + k = l.length → Dz i_L30_Few (some p_L30_Few_c1) [A.t (T.node l), A.t (T.int j)] (if (l.drop j).all fewTh then (2, []) else (1, [A.t (T.bool false)])) := by
    intro k
    induction k with
    | zero =>
      intro j hj
      rw [List.drop_of_length_le (by omega)]
      refine Does.now fun m => ?_
      rw [q_L30_Few_c1]
      simp only [S0, S9, S1, S2, if_true, if_false]
      rw [if_neg (by omega)]; rfl
    | succ k ih =>
      intro j hj
      have hlt : j < l.length := by omega
      have hw : IntKind.i64.wrap ((j : Int) + 1) = ((j + 1 : Nat) : Int) := i64succ (by omega)
      rw [List.drop_eq_getElem_cons hlt, List.all_cons]
      by_cases h1 : (nm l[j]).size ≤ 100
      rotate_left
      · refine Does.now fun m => ?_
        rw [q_L30_Few_c1, fewTh, decide_eq_false h1]
        simp only [S0, S9, S1, S2, if_true, if_false, at_get hlt, S3]
        rw [if_pos (by omega), if_pos (by omega), if_neg (by omega)]; rfl
      by_cases h2 : (deps l[j]).length ≤ 20
      rotate_left
      · refine Does.now fun m => ?_
        rw [q_L30_Few_c1, fewTh, decide_eq_false h2]
        simp only [S0, S9, S1, S2, if_true, if_false, at_get hlt, S3]
        rw [if_pos (by omega), if_pos (by omega), if_pos (by omega), if_pos (by omega), if_neg (by omega)]; simp
      obtain ⟨n1, h3⟩ := (few_does (thV l[j])).both (hin j hlt h2 (deps l[j]).length 0 (by omega))
      obtain ⟨n0, h0⟩ := ih (j + 1) (by omega)
      refine Does.of (n0 + n1) fun m hm => ?_
      obtain ⟨q1, q2⟩ := h3 m (by omega)
      have q3 := h0 m (by omega)
      have q2' : den Tryd.prog G0 ents m i_L30_Few (some p_L30_Few_c2) [A.t (T.node l), A.t (T.int j), A.t (T.int 0)] = _ := q2
      rw [List.drop_zero] at q2'
      rw [q_L30_Few_c1, fewTh, decide_eq_true h1, decide_eq_true h2]
      simp only [S0, S9, S1, S2, if_true, if_false, at_get hlt, S3, q1, q2', Bool.true_and]
      rw [if_pos (by omega), if_pos (by omega), if_pos (by omega), if_pos (by omega), if_pos (by omega), if_pos (by omega)]
      cases few (thV l[j]) with
      | false => simp
      | true =>
        cases (deps l[j]).all fun s => decide (s.txt.size ≤ 100) with
        | false => simp [Nat.beq]; rfl
        | true =>
          have hw' : IntKind.i64.wrap ((j : Int) + 1) = ((j + 1 : Nat) : Int) := hw
          simp only [S0, S9, S1, S2, if_true, if_false, hw', q3, Bool.not_true, Bool.true_and, true_and, and_self]
  obtain ⟨n0, h0⟩ := hout l.length 0 (by omega)
  refine Does.of n0 fun m hm => ?_
  have q : den Tryd.prog G0 ents m i_L30_Few (some p_L30_Few_c1) [A.t (T.node l), A.t (T.int 0)] = _ := h0 m hm
  rw [List.drop_zero] at q
  rw [q_L30_Few, fewL, decide_eq_true hl, Bool.true_and]
  simp only [S0, S9, S1, S2, if_true, if_false, q]
  rw [if_neg (by omega)]
  cases l.all fewTh <;> rfl
structure SmTh (t : T) : Prop where
  v : Sm 20 (thV t)
  d : (deps t).length ≤ 20
theorem fewL_sm {l : List T} (h : fewL l = true) : l.length ≤ 12 ∧ ∀ t ∈ l, SmTh t := by
  unfold fewL at h
  simp only [Bool.and_eq_true, decide_eq_true_eq, List.all_eq_true] at h
  refine ⟨h.1, fun t ht => ?_⟩
  have := h.2 t ht
  unfold fewTh at this
  simp only [Bool.and_eq_true, decide_eq_true_eq] at this
  exact ⟨few_sm this.2.2.1, this.2.1⟩
theorem names30_does (l : List T) (hl : l.length ≤ 1000) : Dz i_R30_Names none [A.t (T.node l)] (1, [A.t (T.node (l.map fun f => T.str (nm f)))]) := by
  obtain ⟨n0, h0⟩ := Dz.steps (i := i_R30_Names) (p := some p_R30_Names_c1) (R := (2, [A.t (T.node (l.map fun f => T.str (nm f)))])) l.length (fun j => [A.t (T.node l), A.t (T.int j), A.t (T.node ((l.take j).map fun f => T.str (nm f)))]) (by
    refine Does.now fun m => ?_
    rw [q_R30_Names_c1, List.take_length]
    simp only [S0, S9, S1, S2, if_true, if_false]
    rw [if_neg (by omega)]) (fun j hj R hR => by
    have hw : IntKind.i64.wrap ((j : Int) + 1) = ((j + 1 : Nat) : Int) := i64succ (by omega)
    have ht : (l.take (j + 1)).map (fun f => T.str (nm f)) = (l.take j).map (fun f => T.str (nm f)) ++ [T.str (nm l[j])] := by
      rw [List.take_add_one, List.getElem?_eq_getElem hj, List.map_append]; rfl
    obtain ⟨n0, h0⟩ := hR
    refine Does.of n0 fun m hm => ?_
    have q2 := h0 m hm
    rw [ht] at q2
    rw [q_R30_Names_c1]
    simp only [S0, S9, S1, S2, if_true, if_false, List.length_map, at_get hj, S3, hw, q2, List.length_take]
    rw [if_pos (by omega), if_pos (by omega), if_pos (by omega)])
  refine Does.of n0 fun m hm => ?_
  have q : den Tryd.prog G0 ents m i_R30_Names (some p_R30_Names_c1) [A.t (T.node l), A.t (T.int 0), A.t (T.node [])] = _ := h0 m hm
  rw [q_R30_Names]
  simp only [S0, S9, S1, S2, if_true, if_false, q]
theorem rrising_does (l : List T) (hl : l.length ≤ 1000) : Dz i_R02_Rising_o none [A.t (T.node (l.map fun f => T.str (nm f)))] (1, [A.t (T.bool (names l)), A.t (T.node (l.map fun f => T.str (nm f)))]) := by
  obtain ⟨n0, h0⟩ := rrising_loop l hl l.length 0 (by omega)
  refine Does.of n0 fun m hm => ?_
  have q : den Tryd.prog G0 ents m i_R02_Rising_o (some p_R02_Rising_o_c1) [A.t (T.int 0), A.t (T.node (l.map fun f => T.str (nm f)))] = _ := h0 m hm
  rw [q_R02_Rising_o]
  unfold names
  simp only [S0, S9, S1, S2, if_true, if_false, q]
  cases riseFrom l l.length 0 <;> rfl
def differs (w h : T) : Bool := !refinesV (thV h) (thV w) || !sameL (deps w) (deps h)
theorem differs_does {w h : T} (hw : SmTh w) (hh : SmTh h) : Dz i_diff_Differs none [A.t w, A.t h] (1, [A.t (T.bool (differs w h))]) := by
  obtain ⟨n0, h0⟩ := (frefines_does hh.v hw.v).both (equalS_does (deps w) (deps h) (by have := hw.d; omega))
  refine Does.of n0 fun m hm => ?_
  obtain ⟨q1, q2⟩ := h0 m hm
  rw [q_diff_Differs, differs]
  simp only [S0, S9, S1, S2, if_true, if_false, S3, q1, q2, Bool.not_eq_false']
  cases refinesV (thV h) (thV w) <;> simp
def actT (t : T) : T := .node [.str (nm t), copyV 20 (thV t), .node (deps t)]
theorem cloneS_eq (n : Nat) (l : List T) : den Tryd.prog G0 ents (Nat.succ n) i_slices_Clone_string none [A.t (T.node l)] = Option.map (fun o => (1, o)) (cloneF [A.t (T.node l)]) := by kernel_rfl
theorem cloneS_does (l : List T) (h : l.length ≤ 1000000000) : Dz i_slices_Clone_string none [A.t (T.node l)] (1, [A.t (T.node l)]) := Does.now fun n => by rw [cloneS_eq, cloneF_of h]; rfl
theorem act_does (k : Int) {t : T} (h : SmTh t) : Dz i_diff_act none [A.t (T.int k), A.t t] (1, [A.t (T.node [T.int k, actT t])]) := by
  obtain ⟨n0, h0⟩ := (copy_does 20 _ h.v).both (cloneS_does (deps t) (by have := h.d; omega))
  refine Does.of n0 fun m hm => ?_
  obtain ⟨q1, q2⟩ := h0 m hm
  rw [q_diff_act]
  simp only [S0, S9, S1, S2, if_true, if_false, S3, q1, q2]
  rfl
def side : List T → List T → Int
  | _, [] => -1
  | [], _ :: _ => 1
  | w :: _, h :: _ => if sltB (nm w) (nm h) = true then -1 else if sltB (nm h) (nm w) = true then 1 else 0
theorem side_does (ws hs : List T) : Dz i_diff_side none [A.t (T.node ws), A.t (T.node hs)] (1, [A.t (T.int (side ws hs))]) := by
  refine Does.now fun m => ?_
  rw [q_diff_side]
  match ws, hs with
  | ws, [] => simp only [S0, S9, S1, S2, if_true, if_false, List.length_nil]; rfl
  | [], h :: hs => simp only [S0, S9, S1, S2, if_true, if_false, List.length_nil, List.length_cons]; rw [if_pos (by omega), if_neg (by omega), if_neg (by omega)]; rfl
  | w :: ws, h :: hs =>
    have e1 : (tAtD (w :: ws) 0).get 0 = w.get 0 := rfl
    have e2 : (tAtD (h :: hs) 0).get 0 = h.get 0 := rfl
    simp only [S0, S9, S1, S2, if_true, if_false, List.length_cons, e1, e2, S3, side]
    have g1 : ¬ (((hs.length + 1 : Nat) : Int) = 0) := by omega
    have g2 : ((ws.length + 1 : Nat) : Int) > 0 := by omega
    have g3 : ¬ (((ws.length + 1 : Nat) : Int) = 0) := by omega
    have g4 : (0 : Int) < ((hs.length + 1 : Nat) : Int) := by omega
    have g5 : (0 : Int) < ((ws.length + 1 : Nat) : Int) := by omega
    simp only [g1, g2, g3, g4, g5, if_true, not_false_eq_true]
    by_cases c1 : sltB (nm w) (nm h) = true
    · simp only [c1, if_true]
    · by_cases c2 : sltB (nm h) (nm w) = true
      · simp only [c1, c2, if_true, if_false, Bool.false_eq_true]
      · simp only [c1, c2, if_false, Bool.false_eq_true]
def mergeA : Nat → List T → List T → List (Int × T)
  | 0, _, _ => []
  | _ + 1, [], [] => []
  | n + 1, w :: ws, [] => (2, w) :: mergeA n ws []
  | n + 1, [], h :: hs => (1, h) :: mergeA n [] hs
  | n + 1, w :: ws, h :: hs => if sltB (nm w) (nm h) = true then (2, w) :: mergeA n ws (h :: hs) else if sltB (nm h) (nm w) = true then (1, h) :: mergeA n (w :: ws) hs else if differs w h = true then (3, w) :: mergeA n ws hs else mergeA n ws hs
def mkA (x : Int × T) : T := .node [.int x.1, actT x.2]
def mkR (x : Int × T) : T := .node [.int x.1, x.2]
theorem things_loop : ∀ (n : Nat) (ws hs out : List T), ws.length + hs.length ≤ n → out.length + n ≤ 1000 → (∀ t ∈ ws, SmTh t) → (∀ t ∈ hs, SmTh t) →
    Dz i_diff_Things (some p_diff_Things_c1) [A.t (T.node ws), A.t (T.node hs), A.t (T.node out)] (2, [A.t (T.node (out ++ (mergeA n ws hs).map mkA))])
  | n, [], [], out, _, _, _, _ => by
    refine Does.now fun m => ?_
    rw [q_diff_Things_c1]
    simp only [S0, S9, S1, S2, if_true, if_false, List.length_nil]
    rw [if_pos (by rfl)]
    cases n <;> simp [mergeA]
  | 0, w :: ws, hs, out, hl, _, _, _ => by simp at hl
  | 0, [], h :: hs, out, hl, _, _, _ => by simp at hl
  | n + 1, w :: ws, [], out, hl, hb, hw, hh => by
    simp only [List.length_cons, List.length_nil] at hl
    obtain ⟨n1, h1⟩ := (side_does (w :: ws) []).both (act_does 2 (hw w List.mem_cons_self))
    obtain ⟨n2, h2⟩ := things_loop n ws [] (out ++ [mkA (2, w)]) (by simp only [List.length_nil]; omega) (by simp; omega) (fun t ht => hw t (List.mem_cons_of_mem _ ht)) hh
    refine Does.of (n1 + n2) fun m hm => ?_
    obtain ⟨q1, q2⟩ := h1 m (by omega)
    have q3 := h2 m (by omega)
    have e1 : tAtD (w :: ws) 0 = w := rfl
    have hs1 : IntKind.i64.wrap (((ws.length + 1 : Nat) : Int) + ((0 : Nat) : Int)) = ((ws.length + 1 : Nat) : Int) := by rw [w64 (by omega) (by omega)]; omega
    have e2 : ((w :: ws).take (ws.length + 1)).drop 1 = ws := by simp
    rw [q_diff_Things_c1, mergeA]
    simp only [S0, S9, S1, S2, if_true, if_false, List.length_cons, List.length_nil, q1, side, e1, q2, hs1, e2, Nat.succ_eq_add_one, eq_self, and_true]
    rw [if_neg (by omega), if_pos (by omega), if_pos (by omega), if_pos (by omega)]
    rw [show T.node [T.int 2, actT w] = mkA (2, w) from rfl, q3]
    simp
  | n + 1, [], h :: hs, out, hl, hb, hw, hh => by
    simp only [List.length_cons, List.length_nil] at hl
    obtain ⟨n1, h1⟩ := (side_does [] (h :: hs)).both (act_does 1 (hh h List.mem_cons_self))
    obtain ⟨n2, h2⟩ := things_loop n [] hs (out ++ [mkA (1, h)]) (by simp only [List.length_nil]; omega) (by simp; omega) hw (fun t ht => hh t (List.mem_cons_of_mem _ ht))
    refine Does.of (n1 + n2) fun m hm => ?_
    obtain ⟨q1, q2⟩ := h1 m (by omega)
    have q3 := h2 m (by omega)
    have e1 : tAtD (h :: hs) 0 = h := rfl
    have hs1 : IntKind.i64.wrap (((0 : Nat) : Int) + ((hs.length + 1 : Nat) : Int)) = ((hs.length + 1 : Nat) : Int) := by rw [w64 (by omega) (by omega)]; omega
    have e2 : ((h :: hs).take (hs.length + 1)).drop 1 = hs := by simp
    rw [q_diff_Things_c1, mergeA]
    simp only [S0, S9, S1, S2, if_true, if_false, List.length_cons, List.length_nil, q1, side, e1, q2, hs1, e2, Nat.succ_eq_add_one, eq_self, and_true]
    rw [if_neg (by omega), if_neg (by omega), if_neg (by omega), if_pos (by omega), if_pos (by omega), if_pos (by omega)]
    rw [show T.node [T.int 1, actT h] = mkA (1, h) from rfl, q3]
    simp
  | n + 1, w :: ws, h :: hs, out, hl, hb, hw, hh => by
    simp only [List.length_cons] at hl
    have hww := hw w List.mem_cons_self
    have hhh := hh h List.mem_cons_self
    have hw' : ∀ t ∈ ws, SmTh t := fun t ht => hw t (List.mem_cons_of_mem _ ht)
    have hh' : ∀ t ∈ hs, SmTh t := fun t ht => hh t (List.mem_cons_of_mem _ ht)
    have e1 : tAtD (w :: ws) 0 = w := rfl
    have e1' : tAtD (h :: hs) 0 = h := rfl
    have hs1 : IntKind.i64.wrap (((ws.length + 1 : Nat) : Int) + ((hs.length + 1 : Nat) : Int)) = ((ws.length + 1 + (hs.length + 1) : Nat) : Int) := by rw [w64 (by omega) (by omega)]; omega
    have e2 : ((w :: ws).take (ws.length + 1)).drop 1 = ws := by simp
    have e2' : ((h :: hs).take (hs.length + 1)).drop 1 = hs := by simp
    obtain ⟨n1, h1⟩ := side_does (w :: ws) (h :: hs)
    rw [mergeA]
    by_cases c1 : sltB (nm w) (nm h) = true
    · rw [if_pos c1]
      obtain ⟨n2, h2⟩ := (act_does 2 hww).both (things_loop n ws (h :: hs) (out ++ [mkA (2, w)]) (by simp only [List.length_cons]; omega) (by simp; omega) hw' hh)
      refine Does.of (n1 + n2) fun m hm => ?_
      have q1 := h1 m (by omega)
      obtain ⟨q2, q3⟩ := h2 m (by omega)
      rw [side, if_pos c1] at q1
      rw [q_diff_Things_c1]
      simp only [S0, S9, S1, S2, if_true, if_false, List.length_cons, q1, e1, e1', q2, hs1, e2, e2', Nat.succ_eq_add_one, eq_self, and_true]
      rw [if_neg (by omega), if_pos (by omega), if_pos (by omega), if_pos (by omega)]
      rw [show T.node [T.int 2, actT w] = mkA (2, w) from rfl, q3]
      simp
    rw [if_neg c1]
    by_cases c2 : sltB (nm h) (nm w) = true
    · rw [if_pos c2]
      obtain ⟨n2, h2⟩ := (act_does 1 hhh).both (things_loop n (w :: ws) hs (out ++ [mkA (1, h)]) (by simp only [List.length_cons]; omega) (by simp; omega) hw hh')
      refine Does.of (n1 + n2) fun m hm => ?_
      have q1 := h1 m (by omega)
      obtain ⟨q2, q3⟩ := h2 m (by omega)
      rw [side, if_neg c1, if_pos c2] at q1
      rw [q_diff_Things_c1]
      simp only [S0, S9, S1, S2, if_true, if_false, List.length_cons, q1, e1, e1', q2, hs1, e2, e2', Nat.succ_eq_add_one, eq_self, and_true]
      rw [if_neg (by omega), if_neg (by omega), if_neg (by omega), if_pos (by omega), if_pos (by omega), if_pos (by omega)]
      rw [show T.node [T.int 1, actT h] = mkA (1, h) from rfl, q3]
      simp
    rw [if_neg c2]
    have q0 : side (w :: ws) (h :: hs) = 0 := by rw [side, if_neg c1, if_neg c2]
    by_cases c3 : differs w h = true
    · rw [if_pos c3]
      obtain ⟨n2, h2⟩ := (act_does 3 hww).both (things_loop n ws hs (out ++ [mkA (3, w)]) (by omega) (by simp; omega) hw' hh')
      obtain ⟨n3, h3⟩ := differs_does hww hhh
      refine Does.of (n1 + n2 + n3) fun m hm => ?_
      have q1 := h1 m (by omega)
      obtain ⟨q2, q3⟩ := h2 m (by omega)
      have q4 := h3 m (by omega)
      rw [q0] at q1
      rw [q_diff_Things_c1]
      simp only [S0, S9, S1, S2, if_true, if_false, List.length_cons, q1, e1, e1', q2, q4, c3, hs1, e2, e2', Nat.succ_eq_add_one, eq_self, and_true]
      rw [if_neg (by omega), if_neg (by omega), if_pos (by omega), if_pos (by omega), if_pos (by omega), if_pos (by omega), if_pos (by omega), if_pos (by omega)]
      rw [show T.node [T.int 3, actT w] = mkA (3, w) from rfl, q3]
      simp
    · rw [if_neg c3]
      obtain ⟨n2, h2⟩ := things_loop n ws hs out (by omega) (by omega) hw' hh'
      obtain ⟨n3, h3⟩ := differs_does hww hhh
      refine Does.of (n1 + n2 + n3) fun m hm => ?_
      have q1 := h1 m (by omega)
      have q3 := h2 m (by omega)
      have q4 := h3 m (by omega)
      rw [q0] at q1
      rw [q_diff_Things_c1]
      simp only [S0, S9, S1, S2, if_true, if_false, List.length_cons, q1, e1, e1', q4, c3, hs1, e2, e2', Nat.succ_eq_add_one, eq_self, and_true]
      rw [if_neg (by omega), if_neg (by omega), if_pos (by omega), if_pos (by omega), if_pos (by omega), if_pos (by omega)]
      exact q3
theorem dthings_does (ws hs : List T) (hl : ws.length + hs.length ≤ 900) (hw : ∀ t ∈ ws, SmTh t) (hh : ∀ t ∈ hs, SmTh t) : Dz i_diff_Things none [A.t (T.node ws), A.t (T.node hs)] (1, [A.t (T.node ((mergeA (ws.length + hs.length) ws hs).map mkA))]) := by
  obtain ⟨n0, h0⟩ := things_loop (ws.length + hs.length) ws hs [] (Nat.le_refl _) (by simp; omega) hw hh
  refine Does.of n0 fun m hm => ?_
  rw [q_diff_Things]
  simp only [S0, S9, S1, S2, if_true, if_false, h0 m hm, List.nil_append]
end Go.Proofs.YtffncdkbcphbgaaDoorDD
namespace Go.Proofs.YtffncdkbcphbgaaDoorDD
open Go Go.Proofs.YtffncdkbcphbgaaDoorVM
set_option linter.unusedVariables false
set_option linter.unusedSimpArgs false
set_option maxRecDepth 100000

theorem tfind_does (l : List T) (s : ByteArray) (hl : l.length ≤ 1000) : Dz i_R30_Find none [A.t (T.node l), A.t (T.str s)] (1, [A.t (T.int (findF l s 0))]) := by
  have hloop : ∀ (k j : Nat), j + k = l.length → Dz i_R30_Find (some p_R30_Find_c1) [A.t (T.node l), A.t (T.str s), A.t (T.int j)] (if findF (l.drop j) s j < 0 then (2, []) else (1, [A.t (T.int (findF (l.drop j) s j))])) := by
    intro k
    induction k with
    | zero =>
      intro j hj
      refine Does.now fun m => ?_
      rw [q_R30_Find_c1, List.drop_of_length_le (by omega), findF]
      simp only [S0, S9, S1, S2, if_true, if_false]
      rw [if_neg (by omega), if_pos (by omega)]
    | succ k ih =>
      intro j hj
      have hlt : j < l.length := by omega
      have hw : IntKind.i64.wrap ((j : Int) + 1) = ((j + 1 : Nat) : Int) := i64succ (by omega)
      obtain ⟨n0, h0⟩ := ih (j + 1) (by omega)
      refine Does.of n0 fun m hm => ?_
      have q := h0 m hm
      rw [q_R30_Find_c1, List.drop_eq_getElem_cons hlt, findF]
      simp only [S0, S9, S1, S2, if_true, if_false, hw, at_get hlt, nm_eq, q, seq_dec]
      rw [if_pos (by omega), if_pos (by omega)]
      by_cases he : nm l[j] = s
      · rw [if_pos he, if_pos he, if_neg (by omega)]
      · rw [if_neg he, if_neg he]
  obtain ⟨n0, h0⟩ := hloop l.length 0 (by omega)
  have hle := findF_le l s 0
  refine Does.of n0 fun m hm => ?_
  have q : den Tryd.prog G0 ents m i_R30_Find (some p_R30_Find_c1) [A.t (T.node l), A.t (T.str s), A.t (T.int 0)] = _ := h0 m hm
  rw [List.drop_zero] at q
  rw [q_R30_Find]
  simp only [S0, S9, S1, S2, if_true, if_false, q]
  by_cases h : findF l s 0 < 0
  · have h1 : findF l s 0 = -1 := by omega
    rw [h1]
    rfl
  · simp only [if_neg h]
    rfl
theorem findF_has {l : List T} {s : ByteArray} (h : s ∈ l.map nm) : ∀ j : Nat, 0 ≤ findF l s j := by
  induction l with
  | nil => cases h
  | cons x l ih =>
    intro j
    rw [findF]
    split
    · omega
    · rename_i hx
      rw [List.map_cons] at h
      rcases List.mem_cons.1 h with e | e
      · exact absurd e.symm hx
      · exact ih e (j + 1)
theorem findF_not {l : List T} {s : ByteArray} (h : s ∉ l.map nm) : ∀ j : Nat, findF l s j = -1 := by
  induction l with
  | nil => intro j; rfl
  | cons x l ih =>
    intro j
    rw [List.map_cons, List.mem_cons, not_or] at h
    rw [findF, if_neg (fun e => h.1 e.symm)]
    exact ih h.2 (j + 1)
def gA (want have_ : List T) (s : ByteArray) : List (Int × T) :=
  let w := findF want s 0
  let h := findF have_ s 0
  if w < 0 then [(1, tAtD have_ h.toNat)] else if h < 0 then [(2, tAtD want w.toNat)] else if differs (tAtD want w.toNat) (tAtD have_ h.toNat) = true then [(3, tAtD want w.toNat)] else []
theorem gA_len (a b : List T) (s : ByteArray) : (gA a b s).length ≤ 1 := by
  unfold gA
  dsimp only
  split
  · simp
  · split
    · simp
    · split <;> simp
def names2 (a b : List T) : List ByteArray := (b.map nm).foldl putS ((a.map nm).foldl putS [])
theorem names2_len (a b : List T) : (names2 a b).length ≤ a.length + b.length := by
  have h1 := foldPut_len (a.map nm) []
  have h2 := foldPut_len (b.map nm) ((a.map nm).foldl putS [])
  simp only [List.length_map, List.length_nil] at h1 h2
  unfold names2
  omega
theorem put_step (l : List T) (acc : List ByteArray) {j : Nat} (hj : j < l.length) : ((l.map nm).take (j + 1)).foldl putS acc = putS (((l.map nm).take j).foldl putS acc) (nm l[j]) := by
  rw [List.take_add_one, List.getElem?_map, List.getElem?_eq_getElem hj, List.foldl_append]; rfl
theorem riseS_names {l : List T} (h : Rise l) : RiseS (l.map nm) := by
  induction l with
  | nil => trivial
  | cons x l ih =>
    refine ⟨fun y hy => ?_, ih fun i j hij hj => h (i + 1) (j + 1) (by omega) (by simpa using hj)⟩
    obtain ⟨t, ht, rfl⟩ := List.mem_map.1 hy
    obtain ⟨i, hi, rfl⟩ := List.getElem_of_mem ht
    have := h 0 (i + 1) (by omega) (by simpa using hi)
    rw [at_get (by simp), at_get (by simpa using hi)] at this
    simpa using this
def mergeN : Nat → List ByteArray → List ByteArray → List ByteArray
  | 0, _, _ => []
  | _ + 1, [], b => b
  | _ + 1, a, [] => a
  | n + 1, x :: a, y :: b => if sltB x y = true then x :: mergeN n a (y :: b) else if sltB y x = true then y :: mergeN n (x :: a) b else x :: mergeN n a b
theorem mergeN_mem : ∀ (n : Nat) (a b : List ByteArray), a.length + b.length ≤ n → ∀ z, z ∈ mergeN n a b ↔ z ∈ a ∨ z ∈ b
  | 0, [], [], _, z => by simp [mergeN]
  | 0, _ :: _, _, h, _ => by simp at h
  | 0, [], _ :: _, h, _ => by simp at h
  | n + 1, [], b, _, z => by simp [mergeN]
  | n + 1, x :: a, [], _, z => by simp [mergeN]
  | n + 1, x :: a, y :: b, h, z => by
    simp only [List.length_cons] at h
    rw [mergeN]
    split
    · rw [List.mem_cons, mergeN_mem n a (y :: b) (by simp only [List.length_cons]; omega)]
      simp only [List.mem_cons]
      constructor
      · rintro (h | h | h | h)
        · exact .inl (.inl h)
        · exact .inl (.inr h)
        · exact .inr (.inl h)
        · exact .inr (.inr h)
      · rintro ((h | h) | h | h)
        · exact .inl h
        · exact .inr (.inl h)
        · exact .inr (.inr (.inl h))
        · exact .inr (.inr (.inr h))
    · split
      · rw [List.mem_cons, mergeN_mem n (x :: a) b (by simp only [List.length_cons]; omega)]
        simp only [List.mem_cons]
        constructor
        · rintro (h | (h | h) | h)
          · exact .inr (.inl h)
          · exact .inl (.inl h)
          · exact .inl (.inr h)
          · exact .inr (.inr h)
        · rintro ((h | h) | h | h)
          · exact .inr (.inl (.inl h))
          · exact .inr (.inl (.inr h))
          · exact .inl h
          · exact .inr (.inr h)
      · rename_i h1 h2
        have hxy : x = y := by rcases slt_tri x y with h | h | h; exact absurd h h1; exact absurd h h2; exact h
        rw [List.mem_cons, mergeN_mem n a b (by omega), ← hxy]
        simp only [List.mem_cons]
        constructor
        · rintro (h | h | h)
          · exact .inl (.inl h)
          · exact .inl (.inr h)
          · exact .inr (.inr h)
        · rintro ((h | h) | h | h)
          · exact .inl h
          · exact .inr (.inl h)
          · exact .inl h
          · exact .inr (.inr h)
theorem mergeN_rise : ∀ (n : Nat) (a b : List ByteArray), a.length + b.length ≤ n → RiseS a → RiseS b → RiseS (mergeN n a b)
  | 0, _, _, _, _, _ => trivial
  | n + 1, [], b, _, _, hb => by simpa [mergeN] using hb
  | n + 1, x :: a, [], _, ha, _ => by simpa [mergeN] using ha
  | n + 1, x :: a, y :: b, h, ha, hb => by
    simp only [List.length_cons] at h
    rw [mergeN]
    split
    · rename_i h1
      refine ⟨fun z hz => ?_, mergeN_rise n a (y :: b) (by simp only [List.length_cons]; omega) ha.2 hb⟩
      rcases (mergeN_mem n a (y :: b) (by simp only [List.length_cons]; omega) z).1 hz with e | e
      · exact ha.1 z e
      · rcases List.mem_cons.1 e with e | e
        · subst e; exact h1
        · exact slt_trans h1 (hb.1 z e)
    · split
      · rename_i h1 h2
        refine ⟨fun z hz => ?_, mergeN_rise n (x :: a) b (by simp only [List.length_cons]; omega) ha hb.2⟩
        rcases (mergeN_mem n (x :: a) b (by simp only [List.length_cons]; omega) z).1 hz with e | e
        · rcases List.mem_cons.1 e with e | e
          · subst e; exact h2
          · exact slt_trans h2 (ha.1 z e)
        · exact hb.1 z e
      · rename_i h1 h2
        have hxy : x = y := by rcases slt_tri x y with h | h | h; exact absurd h h1; exact absurd h h2; exact h
        refine ⟨fun z hz => ?_, mergeN_rise n a b (by omega) ha.2 hb.2⟩
        rcases (mergeN_mem n a b (by omega) z).1 hz with e | e
        · exact ha.1 z e
        · rw [hxy]; exact hb.1 z e
theorem names2_merge {a b : List T} (ha : Rise a) (hb : Rise b) : names2 a b = mergeN (a.length + b.length) (a.map nm) (b.map nm) := by
  refine riseS_ext (foldPut_rise _ _ (foldPut_rise _ _ trivial)) (mergeN_rise _ _ _ (by simp) (riseS_names ha) (riseS_names hb)) fun x => ?_
  rw [mergeN_mem _ _ _ (by simp)]
  unfold names2
  rw [foldPut_mem, foldPut_mem]
  constructor
  · rintro ((h | h) | h)
    · cases h
    · exact .inl h
    · exact .inr h
  · rintro (h | h)
    · exact .inl (.inr h)
    · exact .inr h
theorem findF_cons {x : T} {l : List T} {s : ByteArray} (h : nm x ≠ s) (j : Nat) : findF (x :: l) s j = findF l s (j + 1) := by rw [findF, if_neg h]
theorem findF_shift (l : List T) (s : ByteArray) : ∀ j : Nat, findF l s (j + 1) = if findF l s j < 0 then -1 else findF l s j + 1 := by
  induction l with
  | nil => intro j; rfl
  | cons x l ih =>
    intro j
    rw [findF, findF]
    by_cases h : nm x = s
    · rw [if_pos h, if_pos h, if_neg (by omega)]; rfl
    · rw [if_neg h, if_neg h]; exact ih (j + 1)
theorem findF_tail {x : T} {l : List T} {s : ByteArray} (h : nm x ≠ s) : (findF (x :: l) s 0 < 0 ↔ findF l s 0 < 0) ∧ (0 ≤ findF l s 0 → tAtD (x :: l) (findF (x :: l) s 0).toNat = tAtD l (findF l s 0).toNat) := by
  rw [findF_cons h, findF_shift]
  refine ⟨by split <;> omega, fun h0 => ?_⟩
  rw [if_neg (by omega), show (findF l s 0 + 1).toNat = (findF l s 0).toNat + 1 by omega]
  rfl
theorem findF_head {x : T} {l : List T} : findF (x :: l) (nm x) 0 = 0 := by rw [findF, if_pos rfl]; rfl
theorem gA_left {x : T} {a b : List T} {s : ByteArray} (h : nm x ≠ s) : gA (x :: a) b s = gA a b s := by
  obtain ⟨h1, h2⟩ := findF_tail (l := a) h
  have hl := findF_le a s 0
  unfold gA
  by_cases c : findF a s 0 < 0
  · simp only [h1.2 c, c, if_true]
  · simp only [mt h1.1 c, c, if_false, h2 (by omega)]
theorem gA_right {x : T} {a b : List T} {s : ByteArray} (h : nm x ≠ s) (hs : s ∈ a.map nm ∨ s ∈ b.map nm) : gA a (x :: b) s = gA a b s := by
  obtain ⟨h1, h2⟩ := findF_tail (l := b) h
  unfold gA
  by_cases c : findF b s 0 < 0
  · have ha : ¬ findF a s 0 < 0 := by
      rcases hs with e | e
      · have := findF_has e 0; omega
      · have := findF_has e 0; omega
    simp only [h1.2 c, c, ha, if_true, if_false]
  · simp only [mt h1.1 c, c, if_false, h2 (by omega)]
theorem flat_congr {f g : ByteArray → List (Int × T)} {l : List ByteArray} (h : ∀ x ∈ l, f x = g x) : l.flatMap f = l.flatMap g := by
  induction l with
  | nil => rfl
  | cons x l ih => rw [List.flatMap_cons, List.flatMap_cons, h x List.mem_cons_self, ih fun y hy => h y (List.mem_cons_of_mem _ hy)]
theorem flat_all : ∀ (l : List T), RiseS (l.map nm) → (l.map nm).flatMap (gA l []) = l.map fun t => ((2 : Int), t)
  | [], _ => rfl
  | x :: l, h => by
    rw [List.map_cons, List.flatMap_cons, List.map_cons]
    have h1 : gA (x :: l) [] (nm x) = [(2, x)] := by unfold gA; simp only [findF_head]; rfl
    rw [h1, flat_congr fun y hy => gA_left (x := x) (a := l) (b := []) (s := y) fun e => by have := h.1 y hy; rw [e, slt_irrefl] at this; cases this]
    rw [flat_all l h.2]; rfl
theorem flat_all2 : ∀ (l : List T), RiseS (l.map nm) → (l.map nm).flatMap (gA [] l) = l.map fun t => ((1 : Int), t)
  | [], _ => rfl
  | x :: l, h => by
    rw [List.map_cons, List.flatMap_cons, List.map_cons]
    have h1 : gA [] (x :: l) (nm x) = [(1, x)] := by unfold gA; simp only [findF_head]; rfl
    rw [h1, flat_congr fun y hy => gA_right (x := x) (a := []) (b := l) (s := y) (fun e => by have := h.1 y hy; rw [e, slt_irrefl] at this; cases this) (.inr hy)]
    rw [flat_all2 l h.2]; rfl
theorem mergeA_left : ∀ (n : Nat) (a : List T), a.length ≤ n → mergeA n a [] = a.map fun t => ((2 : Int), t)
  | 0, [], _ => rfl
  | 0, _ :: _, h => by simp at h
  | n + 1, [], _ => rfl
  | n + 1, x :: a, h => by rw [mergeA, List.map_cons, mergeA_left n a (by simpa using h)]
theorem mergeA_right : ∀ (n : Nat) (a : List T), a.length ≤ n → mergeA n [] a = a.map fun t => ((1 : Int), t)
  | 0, [], _ => rfl
  | 0, _ :: _, h => by simp at h
  | n + 1, [], _ => rfl
  | n + 1, x :: a, h => by rw [mergeA, List.map_cons, mergeA_right n a (by simpa using h)]
theorem flat_merge : ∀ (n : Nat) (a b : List T), a.length + b.length ≤ n → RiseS (a.map nm) → RiseS (b.map nm) → (mergeN n (a.map nm) (b.map nm)).flatMap (gA a b) = mergeA n a b
  | 0, [], [], _, _, _ => rfl
  | 0, _ :: _, _, h, _, _ => by simp at h
  | 0, [], _ :: _, h, _, _ => by simp at h
  | n + 1, [], b, h, ha, hb => by
    rw [mergeA_right (n + 1) b (by simpa using h)]
    exact flat_all2 b hb
  | n + 1, x :: a, [], h, ha, hb => by
    rw [mergeA_left (n + 1) (x :: a) (by simpa using h)]
    exact flat_all (x :: a) ha
  | n + 1, x :: a, y :: b, h, ha, hb => by
    simp only [List.length_cons] at h
    have hm : ∀ z, z ∈ mergeN n (a.map nm) ((y :: b).map nm) ↔ _ := mergeN_mem n (a.map nm) ((y :: b).map nm) (by simp; omega)
    have hm2 : ∀ z, z ∈ mergeN n ((x :: a).map nm) (b.map nm) ↔ _ := mergeN_mem n ((x :: a).map nm) (b.map nm) (by simp; omega)
    have hm3 : ∀ z, z ∈ mergeN n (a.map nm) (b.map nm) ↔ _ := mergeN_mem n (a.map nm) (b.map nm) (by simp; omega)
    show (mergeN (n + 1) (nm x :: a.map nm) (nm y :: b.map nm)).flatMap (gA (x :: a) (y :: b)) = _
    rw [mergeN, mergeA]
    by_cases c1 : sltB (nm x) (nm y) = true
    · rw [if_pos c1, if_pos c1, List.flatMap_cons]
      have hx : nm x ∉ (y :: b).map nm := by
        intro e
        rw [List.map_cons] at e
        rcases List.mem_cons.1 e with e | e
        · rw [e, slt_irrefl] at c1; cases c1
        · have := slt_trans c1 (hb.1 _ e); rw [slt_irrefl] at this; cases this
      have h1 : gA (x :: a) (y :: b) (nm x) = [(2, x)] := by unfold gA; simp only [findF_head, findF_not hx 0]; rfl
      rw [h1]
      have h2 := flat_congr (f := gA (x :: a) (y :: b)) (g := gA a (y :: b)) (l := mergeN n (a.map nm) (nm y :: b.map nm)) fun z hz => gA_left fun e => by
        subst e
        rcases (hm _).1 hz with e | e
        · have := ha.1 _ e; rw [slt_irrefl] at this; cases this
        · exact hx e
      rw [h2]
      have := flat_merge n a (y :: b) (by simp only [List.length_cons]; omega) ha.2 hb
      rw [List.map_cons] at this
      rw [this]; rfl
    rw [if_neg c1, if_neg c1]
    by_cases c2 : sltB (nm y) (nm x) = true
    · rw [if_pos c2, if_pos c2, List.flatMap_cons]
      have hy : nm y ∉ (x :: a).map nm := by
        intro e
        rw [List.map_cons] at e
        rcases List.mem_cons.1 e with e | e
        · rw [e, slt_irrefl] at c2; cases c2
        · have := slt_trans c2 (ha.1 _ e); rw [slt_irrefl] at this; cases this
      have h1 : gA (x :: a) (y :: b) (nm y) = [(1, y)] := by unfold gA; simp only [findF_head, findF_not hy 0]; rfl
      rw [h1]
      have h2 := flat_congr (f := gA (x :: a) (y :: b)) (g := gA (x :: a) b) (l := mergeN n (nm x :: a.map nm) (b.map nm)) fun z hz => gA_right (fun e => by
        subst e
        rcases (hm2 _).1 hz with e | e
        · exact hy e
        · have := hb.1 _ e; rw [slt_irrefl] at this; cases this) ((hm2 z).1 hz)
      rw [h2]
      have := flat_merge n (x :: a) b (by simp only [List.length_cons]; omega) ha hb.2
      rw [List.map_cons] at this
      rw [this]; rfl
    rw [if_neg c2, if_neg c2, List.flatMap_cons]
    have hxy : nm x = nm y := by rcases slt_tri (nm x) (nm y) with h | h | h; exact absurd h c1; exact absurd h c2; exact h
    have h2 := flat_congr (f := gA (x :: a) (y :: b)) (g := gA a b) (l := mergeN n (a.map nm) (b.map nm)) fun z hz => by
      have hzx : nm x ≠ z := fun e => by
        subst e
        rcases (hm3 _).1 hz with e | e
        · have := ha.1 _ e; rw [slt_irrefl] at this; cases this
        · have := hb.1 _ e; rw [hxy, slt_irrefl] at this; cases this
      rw [gA_left hzx, gA_right (fun e => hzx (hxy.trans e)) ((hm3 z).1 hz)]
    rw [h2, flat_merge n a b (by omega) ha.2 hb.2]
    have h1 : gA (x :: a) (y :: b) (nm x) = if differs x y = true then [(3, x)] else [] := by
      unfold gA
      simp only [findF_head]
      rw [hxy]
      simp only [findF_head]
      rfl
    rw [h1]
    split <;> rfl
end Go.Proofs.YtffncdkbcphbgaaDoorDD
namespace Go.Proofs.YtffncdkbcphbgaaDoorDD
open Go Go.Proofs.YtffncdkbcphbgaaDoorVM
set_option linter.unusedVariables false
set_option linter.unusedSimpArgs false
set_option maxRecDepth 100000

theorem mkA_at {l : List (Int × T)} {g : Int × T → T} {j : Nat} (h : j < l.length) : tAtD (l.map g) j = g l[j] := by rw [at_get (by simpa using h), List.getElem_map]
theorem mergeA_mem : ∀ (n : Nat) (a b : List T), ∀ x ∈ mergeA n a b, x.2 ∈ a ∨ x.2 ∈ b
  | 0, _, _, x, h => by cases h
  | n + 1, [], [], x, h => by cases h
  | n + 1, w :: ws, [], x, h => by
    rw [mergeA] at h
    rcases List.mem_cons.1 h with rfl | h
    · exact .inl List.mem_cons_self
    · rcases mergeA_mem n ws [] x h with e | e
      · exact .inl (List.mem_cons_of_mem _ e)
      · cases e
  | n + 1, [], w :: ws, x, h => by
    rw [mergeA] at h
    rcases List.mem_cons.1 h with rfl | h
    · exact .inr List.mem_cons_self
    · rcases mergeA_mem n [] ws x h with e | e
      · cases e
      · exact .inr (List.mem_cons_of_mem _ e)
  | n + 1, w :: ws, y :: hs, x, h => by
    rw [mergeA] at h
    split at h
    · rcases List.mem_cons.1 h with rfl | h
      · exact .inl List.mem_cons_self
      · rcases mergeA_mem n ws (y :: hs) x h with e | e
        · exact .inl (List.mem_cons_of_mem _ e)
        · exact .inr e
    · split at h
      · rcases List.mem_cons.1 h with rfl | h
        · exact .inr List.mem_cons_self
        · rcases mergeA_mem n (w :: ws) hs x h with e | e
          · exact .inl e
          · exact .inr (List.mem_cons_of_mem _ e)
      · split at h
        · rcases List.mem_cons.1 h with rfl | h
          · exact .inl List.mem_cons_self
          · rcases mergeA_mem n ws hs x h with e | e
            · exact .inl (List.mem_cons_of_mem _ e)
            · exact .inr (List.mem_cons_of_mem _ e)
        · rcases mergeA_mem n ws hs x h with e | e
          · exact .inl (List.mem_cons_of_mem _ e)
          · exact .inr (List.mem_cons_of_mem _ e)
theorem mergeA_len : ∀ (n : Nat) (a b : List T), (mergeA n a b).length ≤ n
  | 0, _, _ => by simp [mergeA]
  | n + 1, [], [] => by simp [mergeA]
  | n + 1, w :: ws, [] => by rw [mergeA]; have := mergeA_len n ws []; simp only [List.length_cons]; omega
  | n + 1, [], w :: ws => by rw [mergeA]; have := mergeA_len n [] ws; simp only [List.length_cons]; omega
  | n + 1, w :: ws, y :: hs => by
    rw [mergeA]
    split
    · have := mergeA_len n ws (y :: hs); simp only [List.length_cons]; omega
    · split
      · have := mergeA_len n (w :: ws) hs; simp only [List.length_cons]; omega
      · split
        · have := mergeA_len n ws hs; simp only [List.length_cons]; omega
        · have := mergeA_len n ws hs; omega
theorem awake_does : Dz i_L31_awake none [] (1, [A.t (T.bool true)]) := run_of 60 fun n => by kernel_rfl
end Go.Proofs.YtffncdkbcphbgaaDoorDD
namespace Go.Proofs.YtffncdkbcphbgaaDoorDD
open Go Go.Proofs.YtffncdkbcphbgaaDoorVM
set_option linter.unusedVariables false
set_option linter.unusedSimpArgs false
set_option maxRecDepth 100000

def lnF (x : T) : ByteArray := (x.get 0).txt
def lnT (x : T) : ByteArray := (x.get 1).txt
theorem S4 : (∀ t : T, (T.get t 0).txt = lnF t) ∧ (∀ t, (T.get t 1).txt = lnT t) := ⟨fun _ => rfl, fun _ => rfl⟩
def toStep (k : ByteArray) (acc : List ByteArray) (x : T) : List ByteArray := if seqB (lnF x) k then putS acc (lnT x) else acc
def toS (lines : List T) (k : ByteArray) : List ByteArray := lines.foldl (toStep k) []
theorem toStep_len (k : ByteArray) (acc : List ByteArray) (x : T) : (toStep k acc x).length ≤ acc.length + 1 := by
  unfold toStep
  split
  · exact putS_len _ _
  · omega
theorem to_len (k : ByteArray) : ∀ (l : List T) (acc : List ByteArray), (l.foldl (toStep k) acc).length ≤ acc.length + l.length
  | [], acc => by simp
  | x :: l, acc => by have := to_len k l (toStep k acc x); have := toStep_len k acc x; simp only [List.foldl_cons, List.length_cons]; omega
theorem fold_step {α β : Type} (f : β → α → β) (l : List α) (a : β) {j : Nat} (hj : j < l.length) : (l.take (j + 1)).foldl f a = f ((l.take j).foldl f a) l[j] := by
  rw [List.take_add_one, List.getElem?_eq_getElem hj, List.foldl_append]; rfl
theorem rto_does (lines : List T) (k : ByteArray) (hl : lines.length ≤ 100000) : Dz i_R17_To_o none [A.t (T.str k), A.t (T.node lines)] (1, [A.t (T.node ((toS lines k).map T.str)), A.t (T.node lines)]) := by
  obtain ⟨n0, h0⟩ := Dz.steps (i := i_R17_To_o) (p := some p_R17_To_o_c1) (R := (2, [A.t (T.node ((toS lines k).map T.str)), A.t (T.node lines)])) lines.length (fun j => [A.t (T.str k), A.t (T.node (((lines.take j).foldl (toStep k) []).map T.str)), A.t (T.int j), A.t (T.node lines)]) (by
    refine Does.now fun m => ?_
    rw [q_R17_To_o_c1, List.take_length]
    simp only [S0, S9, S1, S2, if_true, if_false]
    rw [if_neg (by omega)]; rfl) (fun j hj R hR => by
    have hw : IntKind.i64.wrap ((j : Int) + 1) = ((j + 1 : Nat) : Int) := i64succ (by omega)
    have hb := to_len k (lines.take j) []
    rw [List.length_take, List.length_nil] at hb
    rw [fold_step _ _ _ hj] at hR
    generalize hacc : (lines.take j).foldl (toStep k) [] = acc at hR hb
    have g1 : (0 : Int) ≤ (j : Int) := by omega
    have g2 : (j : Int) < (lines.length : Int) := by omega
    unfold toStep at hR
    cases hs : seqB (lnF lines[j]) k with
    | true =>
      rw [hs] at hR
      obtain ⟨n0, h0⟩ := (rput_does acc (lnT lines[j]) (by omega)).both hR
      refine Does.of n0 fun m hm => ?_
      obtain ⟨q1, q2⟩ := h0 m hm
      rw [q_R17_To_o_c1]
      simp only [S0, S9, S1, S2, if_true, if_false, at_get hj, S4, hs, hw, q1]
      simp only [g1, g2, hj, and_self, if_true]
      exact q2
    | false =>
      rw [hs] at hR
      obtain ⟨n0, h0⟩ := hR
      refine Does.of n0 fun m hm => ?_
      have q2 := h0 m hm
      rw [q_R17_To_o_c1]
      simp only [S0, S9, S1, S2, if_true, if_false, at_get hj, S4, hs, hw]
      simp only [g1, g2, hj, and_self, if_true]
      exact q2)
  refine Does.of n0 fun m hm => ?_
  have q : den Tryd.prog G0 ents m i_R17_To_o (some p_R17_To_o_c1) [A.t (T.str k), A.t (T.node []), A.t (T.int 0), A.t (T.node lines)] = _ := h0 m hm
  rw [q_R17_To_o]
  simp only [S0, S9, S1, S2, if_true, if_false, q]
theorem rhasO_does (ss : List ByteArray) (s : ByteArray) (hl : ss.length ≤ 1000000) : Dz i_R17_Has_o none [A.t (T.str s), A.t (T.node (ss.map T.str))] (1, [A.t (T.bool (hasS ss s)), A.t (T.node (ss.map T.str))]) := by
  have hloop : ∀ k j, j + k = ss.length → Dz i_R17_Has_o (some p_R17_Has_o_c1) [A.t (T.str s), A.t (T.int j), A.t (T.node (ss.map T.str))] (if hasS (ss.drop j) s then (1, [A.t (T.bool true), A.t (T.node (ss.map T.str))]) else (2, [A.t (T.node (ss.map T.str))])) := by
    intro k
    induction k with
    | zero =>
      intro j hj
      rw [List.drop_of_length_le (by omega)]
      refine Does.now fun m => ?_
      rw [q_R17_Has_o_c1]
      simp only [S0, S9, S1, S2, if_true, if_false, List.length_map]
      rw [if_neg (by omega)]; rfl
    | succ k ih =>
      intro j hj
      have hlt : j < ss.length := by omega
      have hw : IntKind.i64.wrap ((j : Int) + 1) = ((j + 1 : Nat) : Int) := i64succ (by omega)
      obtain ⟨n0, h0⟩ := ih (j + 1) (by omega)
      refine Does.of n0 fun m hm => ?_
      rw [q_R17_Has_o_c1, List.drop_eq_getElem_cons hlt]
      simp only [S0, S9, S1, S2, if_true, if_false, List.length_map, hw, str_at hlt, h0 m hm, hasS, List.any_cons]
      rw [if_pos (by omega), if_pos (by omega), if_pos (by omega)]
      cases seqB ss[j] s <;> simp
  obtain ⟨n0, h0⟩ := hloop ss.length 0 (by omega)
  refine Does.of n0 fun m hm => ?_
  have q : den Tryd.prog G0 ents m i_R17_Has_o (some p_R17_Has_o_c1) [A.t (T.str s), A.t (T.int 0), A.t (T.node (ss.map T.str))] = _ := h0 m hm
  rw [List.drop_zero] at q
  rw [q_R17_Has_o]
  simp only [S0, S9, S1, S2, if_true, if_false, q]
  cases hasS ss s <;> rfl
def freeS (lines : List T) (out : List ByteArray) (p : ByteArray) : Bool := (toS lines p).all (hasS out)
theorem all_take {α : Type} (f : α → Bool) (l : List α) {j : Nat} (hj : j < l.length) : (l.take (j + 1)).all f = ((l.take j).all f && f l[j]) := by
  rw [List.take_add_one, List.getElem?_eq_getElem hj, List.all_append]; simp
theorem free_loop (n0 : Int) (fnd : ByteArray) (sm : Bool) (i : Int) (ks ps out : List ByteArray) (lines : List T) (hk : ks.length ≤ 1000000) (ho : out.length ≤ 1000000) :
    Dz i_R17_Order_o (some p_R17_Order_o_c3) [A.t (T.int n0), A.t (T.str fnd), A.t (T.bool sm), A.t (T.int i), A.t (T.bool true), A.t (T.node (ks.map T.str)), A.t (T.int 0), A.t (T.node (ps.map T.str)), A.t (T.node lines), A.t (T.node (out.map T.str))]
      (6, [A.t (T.int n0), A.t (T.str fnd), A.t (T.bool sm), A.t (T.int i), A.t (T.bool (ks.all (hasS out))), A.t (T.node (ps.map T.str)), A.t (T.node lines), A.t (T.node (out.map T.str))]) := by
  have h := Dz.steps (i := i_R17_Order_o) (p := some p_R17_Order_o_c3) (R := (6, [A.t (T.int n0), A.t (T.str fnd), A.t (T.bool sm), A.t (T.int i), A.t (T.bool (ks.all (hasS out))), A.t (T.node (ps.map T.str)), A.t (T.node lines), A.t (T.node (out.map T.str))])) ks.length
    (fun j => [A.t (T.int n0), A.t (T.str fnd), A.t (T.bool sm), A.t (T.int i), A.t (T.bool ((ks.take j).all (hasS out))), A.t (T.node (ks.map T.str)), A.t (T.int j), A.t (T.node (ps.map T.str)), A.t (T.node lines), A.t (T.node (out.map T.str))]) (by
      refine Does.now fun m => ?_
      rw [q_R17_Order_o_c3, List.take_length]
      simp only [S0, S9, S1, S2, if_true, if_false, List.length_map]
      rw [if_neg (by omega)]) (fun j hj R hR => by
      have hw : IntKind.i64.wrap ((j : Int) + 1) = ((j + 1 : Nat) : Int) := i64succ (by omega)
      obtain ⟨n1, h1⟩ := (rhasO_does out ks[j] ho).both hR
      refine Does.of n1 fun m hm => ?_
      obtain ⟨q1, q2⟩ := h1 m hm
      rw [all_take _ _ hj] at q2
      have g1 : (0 : Int) ≤ (j : Int) := by omega
      have g2 : (j : Int) < (ks.length : Int) := by omega
      rw [q_R17_Order_o_c3]
      simp only [S0, S9, S1, S2, if_true, if_false, List.length_map, hw, str_at hj, q1]
      simp only [g1, g2, and_self, if_true]
      cases hb : (ks.take j).all (hasS out) with
      | true => rw [hb, Bool.true_and] at q2; simp only [if_true]; exact q2
      | false => rw [hb, Bool.false_and] at q2; simp only [Bool.false_eq_true, if_false]; exact q2)
  exact h
def pickS (lines : List T) (out : List ByteArray) (ps : List ByteArray) : Option ByteArray := ps.find? fun p => !hasS out p && freeS lines out p
def stepO (lines : List T) (ps out : List ByteArray) : List ByteArray := match pickS lines out ps with | some p => out ++ [p] | none => out
theorem pick_loop (n0 : Int) (ps out : List ByteArray) (lines : List T) (hp : ps.length ≤ 100000) (ho : out.length ≤ 1000000) (hl : lines.length ≤ 100000) : ∀ k j, j + k = ps.length →
    Dz i_R17_Order_o (some p_R17_Order_o_c2) [A.t (T.int n0), A.t (T.str (ByteArray.mk (List.toArray []))), A.t (T.bool false), A.t (T.int j), A.t (T.node (ps.map T.str)), A.t (T.node lines), A.t (T.node (out.map T.str))]
      (4, [A.t (T.int n0), A.t (T.str ((pickS lines out (ps.drop j)).getD (ByteArray.mk (List.toArray [])))), A.t (T.bool (pickS lines out (ps.drop j)).isSome), A.t (T.node (ps.map T.str)), A.t (T.node lines), A.t (T.node (out.map T.str))]) := by
  intro k
  induction k with
  | zero =>
    intro j hj
    rw [List.drop_of_length_le (by omega)]
    refine Does.now fun m => ?_
    rw [q_R17_Order_o_c2]
    simp only [S0, S9, S1, S2, if_true, if_false, List.length_map]
    rw [if_neg (by omega)]; rfl
  | succ k ih =>
    intro j hj
    have hlt : j < ps.length := by omega
    have hw : IntKind.i64.wrap ((j : Int) + 1) = ((j + 1 : Nat) : Int) := i64succ (by omega)
    have g1 : (0 : Int) ≤ (j : Int) := by omega
    have g2 : (j : Int) < (ps.length : Int) := by omega
    rw [List.drop_eq_getElem_cons hlt]
    unfold pickS
    rw [List.find?_cons]
    cases hh : hasS out ps[j] with
    | true =>
      obtain ⟨n1, h1⟩ := (rhasO_does out ps[j] ho).both (ih (j + 1) (by omega))
      refine Does.of n1 fun m hm => ?_
      obtain ⟨q1, q2⟩ := h1 m hm
      unfold pickS at q2
      rw [q_R17_Order_o_c2]
      simp only [S0, S9, S1, S2, if_true, if_false, List.length_map, hw, str_at hlt, q1, hh, Bool.not_false, Bool.not_true, Bool.false_and]
      simp only [g1, g2, hlt, and_self, if_true]
      exact q2
    | false =>
      have hto := rto_does lines ps[j] hl
      have htl := to_len ps[j] lines []
      rw [List.length_nil] at htl
      obtain ⟨n1, h1⟩ := (rhasO_does out ps[j] ho).both hto
      obtain ⟨n2, h2⟩ := (free_loop n0 (ByteArray.mk (List.toArray [])) false j (toS lines ps[j]) ps out lines (by show (lines.foldl (toStep ps[j]) []).length ≤ _; omega) ho).both (ih (j + 1) (by omega))
      cases hf : freeS lines out ps[j] with
      | true =>
        -- one more round: it ends
        refine Does.of (n1 + n2 + 1) fun m hm => ?_
        obtain ⟨q1, q2⟩ := h1 m (by omega)
        have q3 := (h2 m (by omega)).1
        rw [show (toS lines ps[j]).all (hasS out) = true from hf] at q3
        obtain ⟨m, rfl⟩ : ∃ m', m = Nat.succ m' := ⟨m - 1, by omega⟩
        have e : den Tryd.prog G0 ents (Nat.succ m) i_R17_Order_o (some p_R17_Order_o_c2) [A.t (T.int n0), A.t (T.str ps[j]), A.t (T.bool true), A.t (T.int (j + 1 : Nat)), A.t (T.node (ps.map T.str)), A.t (T.node lines), A.t (T.node (out.map T.str))] = some (4, [A.t (T.int n0), A.t (T.str ps[j]), A.t (T.bool true), A.t (T.node (ps.map T.str)), A.t (T.node lines), A.t (T.node (out.map T.str))]) := by
          rw [q_R17_Order_o_c2]
          simp only [S0, S9, S1, S2, if_true, if_false, List.length_map, Bool.not_true]
          by_cases hc : ((j + 1 : Nat) : Int) < (ps.length : Int) <;> simp [hc]
        rw [q_R17_Order_o_c2]
        simp only [S0, S9, S1, S2, if_true, if_false, List.length_map, hw, str_at hlt, q1, hh, q2, q3, Bool.not_false, Bool.true_and]
        simp only [g1, g2, hlt, and_self, if_true, str_at hlt]
        exact e
      | false =>
        refine Does.of (n1 + n2) fun m hm => ?_
        obtain ⟨q1, q2⟩ := h1 m (by omega)
        obtain ⟨q3, q4⟩ := h2 m (by omega)
        rw [show (toS lines ps[j]).all (hasS out) = false from hf] at q3
        unfold pickS at q4
        rw [q_R17_Order_o_c2]
        simp only [S0, S9, S1, S2, if_true, if_false, List.length_map, hw, str_at hlt, q1, hh, q2, q3, Bool.not_false, Bool.and_false]
        simp only [g1, g2, hlt, and_self, if_true]
        exact q4
def orderN (lines : List T) (ps : List ByteArray) : Nat → List ByteArray → List ByteArray
  | 0, out => out
  | n + 1, out => orderN lines ps n (stepO lines ps out)
def orderR (lines : List T) (ps : List ByteArray) : List ByteArray := orderN lines ps ps.length []
def leftR (ps out : List ByteArray) : List ByteArray := ps.filter fun p => !hasS out p
theorem order_loop (ps : List ByteArray) (lines : List T) (hp : ps.length ≤ 100000) (hl : lines.length ≤ 100000) : ∀ (k j : Nat) (out : List ByteArray), j + k = ps.length → out.length ≤ j →
    Dz i_R17_Order_o (some p_R17_Order_o_c1) [A.t (T.int j), A.t (T.node (ps.map T.str)), A.t (T.node lines), A.t (T.node (out.map T.str))] (2, [A.t (T.node (ps.map T.str)), A.t (T.node lines), A.t (T.node ((orderN lines ps k out).map T.str))]) := by
  intro k
  induction k with
  | zero =>
    intro j out hj ho
    refine Does.now fun m => ?_
    rw [q_R17_Order_o_c1]
    simp only [S0, S9, S1, S2, if_true, if_false, List.length_map]
    rw [if_neg (by omega)]; rfl
  | succ k ih =>
    intro j out hj ho
    have hw : IntKind.i64.wrap ((j : Int) + 1) = ((j + 1 : Nat) : Int) := i64succ (by omega)
    have hpk := pick_loop j ps out lines hp (by omega) hl ps.length 0 (by omega)
    rw [List.drop_zero] at hpk
    rw [orderN]
    have hso : (stepO lines ps out).length ≤ j + 1 := by
      unfold stepO
      split
      · simp; omega
      · omega
    obtain ⟨n1, h1⟩ := hpk.both (ih (j + 1) (stepO lines ps out) (by omega) hso)
    refine Does.of n1 fun m hm => ?_
    obtain ⟨q1, q2⟩ := h1 m hm
    have q1' : den Tryd.prog G0 ents m i_R17_Order_o (some p_R17_Order_o_c2) [A.t (T.int j), A.t (T.str (ByteArray.mk (List.toArray []))), A.t (T.bool false), A.t (T.int 0), A.t (T.node (ps.map T.str)), A.t (T.node lines), A.t (T.node (out.map T.str))] = _ := q1
    rw [q_R17_Order_o_c1]
    simp only [S0, S9, S1, S2, if_true, if_false, List.length_map, q1', hw]
    have nb44 : Nat.beq 4 4 = true := rfl
    rw [if_pos (by omega)]
    unfold stepO at q2 ⊢
    cases hpp : pickS lines out ps with
    | some p =>
      rw [hpp] at q2
      have e1 : Nat.succ out.length < 1073741824 := by omega
      simp only [Option.isSome_some, Option.getD_some, if_true, e1]
      rw [List.map_append] at q2
      exact q2
    | none =>
      rw [hpp] at q2
      simp only [Option.isSome_none, Bool.false_eq_true, if_false]
      exact q2
theorem filter_take {α : Type} (f : α → Bool) (l : List α) {j : Nat} (hj : j < l.length) : (l.take (j + 1)).filter f = (l.take j).filter f ++ (if f l[j] then [l[j]] else []) := by
  rw [List.take_add_one, List.getElem?_eq_getElem hj, List.filter_append]
  cases h : f l[j] <;> simp [h]
theorem rorder_does (ps : List ByteArray) (lines : List T) (hp : ps.length ≤ 100000) (hl : lines.length ≤ 100000) : Dz i_R17_Order_o none [A.t (T.node (ps.map T.str)), A.t (T.node lines)] (1, [A.t (T.node (ps.map T.str)), A.t (T.node lines), A.t (T.node ((orderR lines ps).map T.str)), A.t (T.node ((leftR ps (orderR lines ps)).map T.str))]) := by
  have hol : (orderR lines ps).length ≤ ps.length := by
    have : ∀ (n : Nat) (out : List ByteArray), (orderN lines ps n out).length ≤ out.length + n := by
      intro n
      induction n with
      | zero => intro out; exact Nat.le_refl _
      | succ n ih =>
        intro out
        rw [orderN]
        have h1 := ih (stepO lines ps out)
        have h2 : (stepO lines ps out).length ≤ out.length + 1 := by
          unfold stepO
          split
          · simp
          · omega
        omega
    have := this ps.length []
    rw [List.length_nil, Nat.zero_add] at this
    exact this
  obtain ⟨n1, h1⟩ := order_loop ps lines hp hl ps.length 0 [] (by omega) (by simp)
  have hC := Dz.steps (i := i_R17_Order_o) (p := some p_R17_Order_o_c4) (R := (8, [A.t (T.node (ps.map T.str)), A.t (T.node lines), A.t (T.node ((orderR lines ps).map T.str)), A.t (T.node ((leftR ps (orderR lines ps)).map T.str))])) ps.length
    (fun j => [A.t (T.int j), A.t (T.node (ps.map T.str)), A.t (T.node lines), A.t (T.node ((orderR lines ps).map T.str)), A.t (T.node (((ps.take j).filter fun p => !hasS (orderR lines ps) p).map T.str))]) (by
      refine Does.now fun m => ?_
      rw [q_R17_Order_o_c4, List.take_length]
      simp only [S0, S9, S1, S2, if_true, if_false, List.length_map]
      rw [if_neg (by omega)]; rfl) (fun j hj R hR => by
      have hw : IntKind.i64.wrap ((j : Int) + 1) = ((j + 1 : Nat) : Int) := i64succ (by omega)
      have g1 : (0 : Int) ≤ (j : Int) := by omega
      have g2 : (j : Int) < (ps.length : Int) := by omega
      have hfl : ((ps.take j).filter fun p => !hasS (orderR lines ps) p).length ≤ j := Nat.le_trans (List.length_filter_le _ _) (by rw [List.length_take]; omega)
      rw [filter_take _ _ hj] at hR
      generalize ((ps.take j).filter fun p => !hasS (orderR lines ps) p) = left at hR hfl
      have e1 : Nat.succ left.length < 1073741824 := by omega
      obtain ⟨n2, h2⟩ := (rhasO_does (orderR lines ps) ps[j] (by omega)).both hR
      refine Does.of n2 fun m hm => ?_
      obtain ⟨q1, q2⟩ := h2 m hm
      rw [q_R17_Order_o_c4]
      simp only [S0, S9, S1, S2, if_true, if_false, List.length_map, hw, str_at hj, q1]
      simp only [g1, g2, hj, and_self, if_true, e1]
      cases hh : hasS (orderR lines ps) ps[j] with
      | true => rw [hh] at q2; simp only [Bool.not_true, Bool.false_eq_true, if_false, List.append_nil] at q2 ⊢; exact q2
      | false => rw [hh] at q2; simp only [Bool.not_false, if_true, List.map_append, List.map_cons, List.map_nil] at q2 ⊢; exact q2)
  obtain ⟨n2, h2⟩ := hC
  refine Does.of (n1 + n2) fun m hm => ?_
  have q1 : den Tryd.prog G0 ents m i_R17_Order_o (some p_R17_Order_o_c1) [A.t (T.int 0), A.t (T.node (ps.map T.str)), A.t (T.node lines), A.t (T.node [])] = _ := h1 m (by omega)
  have q2 : den Tryd.prog G0 ents m i_R17_Order_o (some p_R17_Order_o_c4) [A.t (T.int 0), A.t (T.node (ps.map T.str)), A.t (T.node lines), A.t (T.node ((orderR lines ps).map T.str)), A.t (T.node [])] = _ := h2 m (by omega)
  unfold orderR at q2 ⊢
  rw [q_R17_Order_o]
  simp only [S0, S9, S1, S2, if_true, if_false, q1, q2]
end Go.Proofs.YtffncdkbcphbgaaDoorDD
namespace Go.Proofs.YtffncdkbcphbgaaDoorDD
open Go Go.Proofs.YtffncdkbcphbgaaDoorVM
set_option linter.unusedVariables false
set_option linter.unusedSimpArgs false
set_option maxRecDepth 100000

def ShpV : Nat → T → Prop
  | 0, _ => True
  | d + 1, v => ∃ l, v = .node [.node l] ∧ ∀ t ∈ l, ∃ a0 a1 a2 a3 a4 a5 a6 fs, t = .node [a0, a1, a2, a3, a4, a5, a6, .node fs] ∧ ∀ f ∈ fs, ∃ s w, f = .node [.str s, w] ∧ ShpV d w
theorem map_self {α : Type} {g : α → α} : ∀ {l : List α}, (∀ x ∈ l, g x = x) → l.map g = l
  | [], _ => rfl
  | x :: l, h => by rw [List.map_cons, h x List.mem_cons_self, map_self fun y hy => h y (List.mem_cons_of_mem _ hy)]
theorem copyV_id : ∀ (d : Nat) (v : T), Vd d v → ShpV d v → copyV d v = v
  | 0, v, h, _ => h.elim
  | d + 1, v, hv, h => by
    obtain ⟨l, rfl, hl⟩ := h
    have e : copyV (d + 1) (.node [.node l]) = .node [.node (l.map (copyT (copyV d)))] := rfl
    rw [e, map_self fun t ht => ?_]
    obtain ⟨a0, a1, a2, a3, a4, a5, a6, fs, rfl, hf⟩ := hl t ht
    have e2 : copyT (copyV d) (.node [a0, a1, a2, a3, a4, a5, a6, .node fs]) = .node [a0, a1, a2, a3, a4, a5, a6, .node (fs.map (copyF (copyV d)))] := rfl
    rw [e2, map_self fun f hf' => ?_]
    have hvf := ((hv _ ht).2.2 f hf').2
    obtain ⟨s, w, rfl, hw⟩ := hf f hf'
    have e3 : copyF (copyV d) (.node [.str s, w]) = .node [.str s, copyV d w] := rfl
    rw [e3, copyV_id d w hvf hw]
theorem shp_of : ∀ (d : Nat) (v : T), TOk Tryd.prog 24 v → ShpV d v
  | 0, v, _ => trivial
  | d + 1, v, h => by
    obtain ⟨xs, rfl, hx⟩ := TOk.struct_of (fs := [(22, 1)]) (by kernel_rfl) h
    match xs, hx with
    | [x], ⟨h1, _⟩ =>
      obtain ⟨l, rfl, _, hl⟩ := TOk.row_of Tryd.underlying22 h1
      refine ⟨l, rfl, fun t ht => ?_⟩
      obtain ⟨ys, rfl, hy⟩ := TOk.struct_of (fs := [(3, 1), (3, 1), (3, 1), (9, 1), (4, 1), (4, 1), (4, 1), (49, 1)]) (by kernel_rfl) (hl t ht)
      match ys, hy with
      | [a0, a1, a2, a3, a4, a5, a6, a7], ⟨_, _, _, _, _, _, _, h7, _⟩ =>
        obtain ⟨fs, rfl, _, hf⟩ := TOk.row_of Tryd.underlying49 h7
        refine ⟨a0, a1, a2, a3, a4, a5, a6, fs, rfl, fun f hf' => ?_⟩
        obtain ⟨zs, rfl, hz⟩ := TOk.struct_of (fs := [(9, 1), (24, 1)]) (by kernel_rfl) (hf f hf')
        match zs, hz with
        | [a, w], ⟨ha, hw, _⟩ =>
          obtain ⟨s, rfl, _⟩ := TOk.str_of Tryd.underlying9 ha
          exact ⟨s, w, rfl, shp_of d w hw⟩
theorem copy_same {v : T} (hs : Sm 20 v) (h : TOk Tryd.prog 24 v) : copyV 20 v = v := copyV_id 20 v hs.1 (shp_of 20 v h)
end Go.Proofs.YtffncdkbcphbgaaDoorDD
namespace Go.Proofs.YtffncdkbcphbgaaDoorDD
open Go Go.Proofs.YtffncdkbcphbgaaDoorVM
set_option linter.unusedVariables false
set_option linter.unusedSimpArgs false
set_option maxRecDepth 100000

theorem actT_id {t : T} (hs : SmTh t) (h : TOk Tryd.prog 39 t) : actT t = t := by
  obtain ⟨xs, rfl, hx⟩ := TOk.struct_of (fs := [(9, 1), (24, 1), (35, 1)]) (by kernel_rfl) h
  match xs, hx with
  | [a, v, b], ⟨ha, hv, hb, _⟩ =>
    obtain ⟨s, rfl, _⟩ := TOk.str_of Tryd.underlying9 ha
    obtain ⟨ds, rfl, _, _⟩ := TOk.row_of Tryd.underlying35 hb
    have e : copyV 20 v = v := copy_same hs.v hv
    show T.node [.str s, copyV 20 v, .node ds] = _
    rw [e]
def rone (v : T) : T × Int := if refV 20 v = true then (if (terms v).length = 0 then (noTrm, 31) else if (terms v).length = 1 ∧ kd (oneT v) ≠ 5 then (oneT v, 0) else (noTrm, 28)) else (noTrm, 1)
theorem rone_does {v : T} (h : Sm 20 v) : Dz i_R11_One none [A.t v] (1, [A.t (rone v).1, A.t (T.int (rone v).2)]) := by
  obtain ⟨n0, h0⟩ := refRight_does h
  refine Does.of n0 fun m hm => ?_
  rw [q_R11_One]
  unfold rone oneT
  simp only [S0, S9, S1, S2, if_true, if_false, h0 m hm, noTrm_eq, kd_eq, Bool.not_eq_true']
  cases refV 20 v with
  | false => simp
  | true =>
    simp only [Bool.true_eq_false, if_false, if_true]
    by_cases h0 : (terms v).length = 0
    · rw [if_pos (by omega), if_pos h0]
    rw [if_neg (by omega), if_neg h0]
    by_cases h1 : (terms v).length = 1
    · rw [if_pos (by omega), if_pos (by omega)]
      by_cases h5 : kd (tAtD (terms v) 0) = 5
      · rw [if_pos h5, if_neg (fun e => e.2 h5)]
      · rw [if_neg h5, if_pos (by omega), if_pos ⟨h1, h5⟩]
    · rw [if_neg (by omega), if_neg (fun e => h1 e.1)]
theorem riseD_some (l : List T) (hl : l.length ≤ 1000) : ∃ b, Dz i_R02_Rising none [A.t (T.node l)] (1, [A.t (T.bool b)]) := by
  have hloop : ∀ k j, j + k = l.length → Dz i_R02_Rising (some p_R02_Rising_c1) [A.t (T.node l), A.t (T.int j)] (2, []) ∨ Dz i_R02_Rising (some p_R02_Rising_c1) [A.t (T.node l), A.t (T.int j)] (1, [A.t (T.bool false)]) := by
    intro k
    induction k with
    | zero =>
      intro j hj
      left
      refine Does.now fun m => ?_
      rw [q_R02_Rising_c1]
      simp only [S0, S9, S1, S2, if_true, if_false]
      rw [if_neg (by omega)]
    | succ k ih =>
      intro j hj
      have hlt : j < l.length := by omega
      have hw : IntKind.i64.wrap ((j : Int) + 1) = ((j + 1 : Nat) : Int) := i64succ (by omega)
      have g1 : (0 : Int) ≤ (j : Int) := by omega
      have g2 : (j : Int) < (l.length : Int) := by omega
      obtain ⟨n1, h1⟩ := rname_does (tAtD l j).txt
      cases hb : nameB (tAtD l j).txt with
      | false =>
        right
        refine Does.of n1 fun m hm => ?_
        have q1 := h1 m hm
        rw [hb] at q1
        rw [q_R02_Rising_c1]
        simp only [S0, S9, S1, S2, if_true, if_false, q1, g1, g2, and_self, Bool.not_false, Bool.true_eq_false]
      | true =>
        have step : ∀ R, (j = 0 ∨ sltB (tAtD l (j - 1)).txt (tAtD l j).txt = true) → Dz i_R02_Rising (some p_R02_Rising_c1) [A.t (T.node l), A.t (T.int (j + 1 : Nat))] R → Dz i_R02_Rising (some p_R02_Rising_c1) [A.t (T.node l), A.t (T.int j)] R := by
          intro R hc hR
          obtain ⟨n0, h0⟩ := hR
          refine Does.of (n0 + n1) fun m hm => ?_
          have q1 := h1 m (by omega)
          have q2 := h0 m (by omega)
          rw [hb] at q1
          rw [q_R02_Rising_c1]
          by_cases h0 : j = 0
          · subst h0
            simp only [S0, S9, S1, S2, if_true, if_false, q1, hw, g1, g2, and_self, Bool.not_true]
            rw [if_neg (by omega)]
            exact q2
          · have hp : IntKind.i64.wrap ((j : Int) - 1) = ((j - 1 : Nat) : Int) := by rw [w64 (by omega) (by omega)]; omega
            have g3 : (0 : Int) ≤ ((j - 1 : Nat) : Int) := by omega
            have g4 : ((j - 1 : Nat) : Int) < (l.length : Int) := by omega
            have hs : sltB (tAtD l (j - 1)).txt (tAtD l j).txt = true := hc.resolve_left h0
            simp only [S0, S9, S1, S2, if_true, if_false, q1, hw, hp, g1, g2, g3, g4, hs, and_self, Bool.not_true]
            rw [if_pos (by omega)]
            exact q2
        by_cases hc : j = 0 ∨ sltB (tAtD l (j - 1)).txt (tAtD l j).txt = true
        · rcases ih (j + 1) (by omega) with h | h
          · exact .inl (step _ hc h)
          · exact .inr (step _ hc h)
        · right
          rw [not_or] at hc
          refine Does.of n1 fun m hm => ?_
          have q1 := h1 m hm
          rw [hb] at q1
          have hp : IntKind.i64.wrap ((j : Int) - 1) = ((j - 1 : Nat) : Int) := by rw [w64 (by omega) (by omega)]; omega
          have g3 : (0 : Int) ≤ ((j - 1 : Nat) : Int) := by omega
          have g4 : ((j - 1 : Nat) : Int) < (l.length : Int) := by omega
          rw [q_R02_Rising_c1]
          simp only [S0, S9, S1, S2, if_true, if_false, q1, hw, hp, g1, g2, g3, g4, hc.2, and_self, Bool.not_true, Bool.not_eq_true']
          rw [if_pos (by omega)]
  rcases hloop l.length 0 (by omega) with ⟨n0, h0⟩ | ⟨n0, h0⟩
  · refine ⟨true, Does.of n0 fun m hm => ?_⟩
    have q : den Tryd.prog G0 ents m i_R02_Rising (some p_R02_Rising_c1) [A.t (T.node l), A.t (T.int 0)] = _ := h0 m hm
    rw [q_R02_Rising]
    simp only [S0, S9, S1, S2, if_true, if_false, q]
  · refine ⟨false, Does.of n0 fun m hm => ?_⟩
    have q : den Tryd.prog G0 ents m i_R02_Rising (some p_R02_Rising_c1) [A.t (T.node l), A.t (T.int 0)] = _ := h0 m hm
    rw [q_R02_Rising]
    simp only [S0, S9, S1, S2, if_true, if_false, q]
theorem hasD_some (l : List T) (s : ByteArray) (hl : l.length ≤ 1000) : ∃ b, Dz i_R17_Has none [A.t (T.node l), A.t (T.str s)] (1, [A.t (T.bool b)]) := by
  have hloop : ∀ k j, j + k = l.length → Dz i_R17_Has (some p_R17_Has_c1) [A.t (T.node l), A.t (T.str s), A.t (T.int j)] (2, []) ∨ Dz i_R17_Has (some p_R17_Has_c1) [A.t (T.node l), A.t (T.str s), A.t (T.int j)] (1, [A.t (T.bool true)]) := by
    intro k
    induction k with
    | zero =>
      intro j hj
      left
      refine Does.now fun m => ?_
      rw [q_R17_Has_c1]
      simp only [S0, S9, S1, S2, if_true, if_false]
      rw [if_neg (by omega)]
    | succ k ih =>
      intro j hj
      have hw : IntKind.i64.wrap ((j : Int) + 1) = ((j + 1 : Nat) : Int) := i64succ (by omega)
      have g1 : (0 : Int) ≤ (j : Int) := by omega
      have g2 : (j : Int) < (l.length : Int) := by omega
      by_cases hs : seqB (tAtD l j).txt s = true
      · right
        refine Does.now fun m => ?_
        rw [q_R17_Has_c1]
        simp only [S0, S9, S1, S2, if_true, if_false, g1, g2, and_self, hs]
      · have step : ∀ R, Dz i_R17_Has (some p_R17_Has_c1) [A.t (T.node l), A.t (T.str s), A.t (T.int (j + 1 : Nat))] R → Dz i_R17_Has (some p_R17_Has_c1) [A.t (T.node l), A.t (T.str s), A.t (T.int j)] R := by
          intro R ⟨n0, h0⟩
          refine Does.of n0 fun m hm => ?_
          rw [q_R17_Has_c1]
          simp only [S0, S9, S1, S2, if_true, if_false, g1, g2, and_self, hs, hw]
          exact h0 m hm
        rcases ih (j + 1) (by omega) with h | h
        · exact .inl (step _ h)
        · exact .inr (step _ h)
  rcases hloop l.length 0 (by omega) with ⟨n0, h0⟩ | ⟨n0, h0⟩
  · refine ⟨false, Does.of n0 fun m hm => ?_⟩
    have q : den Tryd.prog G0 ents m i_R17_Has (some p_R17_Has_c1) [A.t (T.node l), A.t (T.str s), A.t (T.int 0)] = _ := h0 m hm
    rw [q_R17_Has]
    simp only [S0, S9, S1, S2, if_true, if_false, q]
  · refine ⟨true, Does.of n0 fun m hm => ?_⟩
    have q : den Tryd.prog G0 ents m i_R17_Has (some p_R17_Has_c1) [A.t (T.node l), A.t (T.str s), A.t (T.int 0)] = _ := h0 m hm
    rw [q_R17_Has]
    simp only [S0, S9, S1, S2, if_true, if_false, q]
theorem lines_some (l : List T) (hl : l.length ≤ 12) (hd : ∀ t ∈ l, (deps t).length ≤ 20) : ∃ ls : List T, ls.length ≤ 1000 ∧ Dz i_R30_Lines none [A.t (T.node l)] (1, [A.t (T.node ls)]) := by
  have hin : ∀ i (hi : i < l.length) k j (acc : List T), j + k = (deps l[i]).length → ∃ acc', acc'.length ≤ acc.length + k ∧ Dz i_R30_Lines (some p_R30_Lines_c2) [A.t (T.node l), A.t (T.int i), A.t (T.int j), A.t (T.node acc)] (4, [A.t (T.node l), A.t (T.int i), A.t (T.node acc')]) ∨ acc.length + k ≥ 100000 := by
    intro i hi k
    have g1 : (0 : Int) ≤ (i : Int) := by omega
    have g2 : (i : Int) < (l.length : Int) := by omega
    induction k with
    | zero =>
      intro j acc hj
      refine ⟨acc, .inl ⟨by omega, Does.now fun m => ?_⟩⟩
      rw [q_R30_Lines_c2]
      simp only [S0, S9, S1, S2, if_true, if_false, g1, g2, and_self, at_get hi, S3]
      rw [if_neg (by omega)]
    | succ k ih =>
      intro j acc hj
      by_cases hbig : acc.length + (k + 1) ≥ 100000
      · exact ⟨acc, .inr hbig⟩
      have hlt : j < (deps l[i]).length := by omega
      have hdl := hd _ (List.getElem_mem hi)
      have hw : IntKind.i64.wrap ((j : Int) + 1) = ((j + 1 : Nat) : Int) := i64succ (by omega)
      have g3 : (0 : Int) ≤ (j : Int) := by omega
      have g4 : (j : Int) < ((deps l[i]).length : Int) := by omega
      have e1 : Nat.succ acc.length < 1073741824 := by omega
      obtain ⟨n1, h1⟩ := tfind_does l (deps l[i])[j].txt (by omega)
      by_cases hf : findF l (deps l[i])[j].txt 0 ≥ 0
      · obtain ⟨acc', h2⟩ := ih (j + 1) (acc ++ [T.node [T.str (nm l[i]), T.str (deps l[i])[j].txt]]) (by omega)
        rcases h2 with ⟨h2, n0, h0⟩ | h2
        · refine ⟨acc', .inl ⟨by simp only [List.length_append, List.length_cons, List.length_nil] at h2; omega, Does.of (n0 + n1) fun m hm => ?_⟩⟩
          rw [q_R30_Lines_c2]
          simp only [S0, S9, S1, S2, if_true, if_false, g1, g2, g3, g4, and_self, at_get hi, at_get hlt, S3, hw, h1 m (by omega), hf, e1]
          exact h0 m (by omega)
        · simp only [List.length_append, List.length_cons, List.length_nil] at h2; omega
      · obtain ⟨acc', h2⟩ := ih (j + 1) acc (by omega)
        rcases h2 with ⟨h2, n0, h0⟩ | h2
        · refine ⟨acc', .inl ⟨by omega, Does.of (n0 + n1) fun m hm => ?_⟩⟩
          rw [q_R30_Lines_c2]
          simp only [S0, S9, S1, S2, if_true, if_false, g1, g2, g3, g4, and_self, at_get hi, at_get hlt, S3, hw, h1 m (by omega), hf, e1]
          exact h0 m (by omega)
        · omega
  have hout : ∀ k j (acc : List T), j + k = l.length → acc.length ≤ 20 * j → ∃ acc', acc'.length ≤ 20 * l.length ∧ Dz i_R30_Lines (some p_R30_Lines_c1) [A.t (T.node l), A.t (T.int j), A.t (T.node acc)] (2, [A.t (T.node acc')]) := by
    intro k
    induction k with
    | zero =>
      intro j acc hj ha
      refine ⟨acc, by omega, Does.now fun m => ?_⟩
      rw [q_R30_Lines_c1]
      simp only [S0, S9, S1, S2, if_true, if_false]
      rw [if_neg (by omega)]
    | succ k ih =>
      intro j acc hj ha
      have hlt : j < l.length := by omega
      have hdl := hd _ (List.getElem_mem hlt)
      have hw : IntKind.i64.wrap ((j : Int) + 1) = ((j + 1 : Nat) : Int) := i64succ (by omega)
      obtain ⟨acc1, h1⟩ := hin j hlt (deps l[j]).length 0 acc (by omega)
      rcases h1 with ⟨h1, n1, h2⟩ | h1
      · obtain ⟨acc2, h3, n0, h0⟩ := ih (j + 1) acc1 (by omega) (by omega)
        refine ⟨acc2, h3, Does.of (n0 + n1) fun m hm => ?_⟩
        have q1 : den Tryd.prog G0 ents m i_R30_Lines (some p_R30_Lines_c2) [A.t (T.node l), A.t (T.int j), A.t (T.int 0), A.t (T.node acc)] = _ := h2 m (by omega)
        have g2 : (j : Int) < (l.length : Int) := by omega
        rw [q_R30_Lines_c1]
        simp only [S0, S9, S1, S2, if_true, if_false, g2, q1, hw]
        exact h0 m (by omega)
      · omega
  obtain ⟨ls, h1, n0, h0⟩ := hout l.length 0 [] (by omega) (by simp)
  refine ⟨ls, by omega, Does.of n0 fun m hm => ?_⟩
  have q : den Tryd.prog G0 ents m i_R30_Lines (some p_R30_Lines_c1) [A.t (T.node l), A.t (T.int 0), A.t (T.node [])] = _ := h0 m hm
  rw [q_R30_Lines]
  simp only [S0, S9, S1, S2, if_true, if_false, q]
def RgT (t : T) : Prop := refV 20 (thV t) = true ∧ allV atomS 20 (thV t) = true
theorem right30_some (l : List T) (hl : l.length ≤ 12) (hs : ∀ t ∈ l, SmTh t) : ∃ b, Dz i_R30_Right none [A.t (T.node l)] (1, [A.t (T.bool b)]) ∧ (b = true → names l = true ∧ ∀ t ∈ l, RgT t) := by
  have hloop : ∀ k j, j + k = l.length → (Dz i_R30_Right (some p_R30_Right_c1) [A.t (T.node l), A.t (T.int j)] (2, [A.t (T.node l)]) ∧ ∀ t ∈ l.drop j, RgT t) ∨ Dz i_R30_Right (some p_R30_Right_c1) [A.t (T.node l), A.t (T.int j)] (1, [A.t (T.bool false)]) := by
    intro k
    induction k with
    | zero =>
      intro j hj
      left
      refine ⟨Does.now fun m => ?_, fun t ht => by rw [List.drop_of_length_le (by omega)] at ht; cases ht⟩
      rw [q_R30_Right_c1]
      simp only [S0, S9, S1, S2, if_true, if_false]
      rw [if_neg (by omega)]
    | succ k ih =>
      intro j hj
      have hlt : j < l.length := by omega
      have ht := hs _ (List.getElem_mem hlt)
      have hdl := ht.d
      have hw : IntKind.i64.wrap ((j : Int) + 1) = ((j + 1 : Nat) : Int) := i64succ (by omega)
      have g1 : (0 : Int) ≤ (j : Int) := by omega
      have g2 : (j : Int) < (l.length : Int) := by omega
      obtain ⟨b1, hb1⟩ := riseD_some (deps l[j]) (by omega)
      obtain ⟨b2, hb2⟩ := hasD_some (deps l[j]) (nm l[j]) (by omega)
      obtain ⟨n1, h1⟩ := (rone_does ht.v).both (r11settled_does ht.v)
      obtain ⟨n2, h2⟩ := hb1.both hb2
      by_cases c1 : (rone (thV l[j])).2 = 0
      rotate_left
      · right
        refine Does.of (n1 + n2) fun m hm => ?_
        rw [q_R30_Right_c1]
        simp only [S0, S9, S1, S2, if_true, if_false, g1, g2, and_self, at_get hlt, S3, (h1 m (by omega)).1, c1, not_true_eq_false, not_false_eq_true, bne_eq_false_iff_eq]
      by_cases c2 : kd (rone (thV l[j])).1 = 4
      rotate_left
      · right
        refine Does.of (n1 + n2) fun m hm => ?_
        rw [q_R30_Right_c1]
        simp only [S0, S9, S1, S2, if_true, if_false, g1, g2, and_self, at_get hlt, S3, (h1 m (by omega)).1, c1, kd_eq, c2, not_true_eq_false, not_false_eq_true, bne_eq_false_iff_eq]
      cases c3 : (refV 20 (thV l[j]) && allV (refOne false) 20 (thV l[j])) with
      | false =>
        right
        rw [c3] at h1
        refine Does.of (n1 + n2) fun m hm => ?_
        rw [q_R30_Right_c1]
        simp only [S0, S9, S1, S2, if_true, if_false, g1, g2, and_self, at_get hlt, S3, (h1 m (by omega)).1, (h1 m (by omega)).2, c1, kd_eq, c2, not_true_eq_false, not_false_eq_true, bne_eq_false_iff_eq, Bool.not_false, Bool.true_eq_false]
      | true =>
        rw [c3] at h1
        have hR : RgT l[j] := by
          rw [Bool.and_eq_true] at c3
          exact ⟨c3.1, by rw [all_atom 20 _ (refV_ok c3.1)]; exact c3.2⟩
        cases b1 with
        | false =>
          right
          refine Does.of (n1 + n2) fun m hm => ?_
          rw [q_R30_Right_c1]
          simp only [S0, S9, S1, S2, if_true, if_false, g1, g2, and_self, at_get hlt, S3, (h1 m (by omega)).1, (h1 m (by omega)).2, (h2 m (by omega)).1, c1, kd_eq, c2, not_true_eq_false, not_false_eq_true, bne_eq_false_iff_eq, Bool.not_false, Bool.not_true, Bool.true_eq_false]
        | true =>
          cases b2 with
          | true =>
            right
            refine Does.of (n1 + n2) fun m hm => ?_
            rw [q_R30_Right_c1]
            simp only [S0, S9, S1, S2, if_true, if_false, g1, g2, and_self, at_get hlt, S3, (h1 m (by omega)).1, (h1 m (by omega)).2, (h2 m (by omega)).1, (h2 m (by omega)).2, c1, kd_eq, c2, not_true_eq_false, not_false_eq_true, bne_eq_false_iff_eq, Bool.not_false, Bool.not_true, Bool.true_eq_false]
          | false =>
            have step : ∀ R, Dz i_R30_Right (some p_R30_Right_c1) [A.t (T.node l), A.t (T.int (j + 1 : Nat))] R → Dz i_R30_Right (some p_R30_Right_c1) [A.t (T.node l), A.t (T.int j)] R := by
              intro R ⟨n0, h0⟩
              refine Does.of (n0 + n1 + n2) fun m hm => ?_
              rw [q_R30_Right_c1]
              simp only [S0, S9, S1, S2, if_true, if_false, g1, g2, hw, and_self, at_get hlt, S3, (h1 m (by omega)).1, (h1 m (by omega)).2, (h2 m (by omega)).1, (h2 m (by omega)).2, c1, kd_eq, c2, not_true_eq_false, not_false_eq_true, bne_eq_false_iff_eq, Bool.not_false, Bool.not_true, Bool.true_eq_false]
              exact h0 m (by omega)
            rcases ih (j + 1) (by omega) with ⟨h3, h4⟩ | h3
            · left
              refine ⟨step _ h3, fun t ht' => ?_⟩
              rw [List.drop_eq_getElem_cons hlt] at ht'
              rcases List.mem_cons.1 ht' with rfl | h5
              · exact hR
              · exact h4 t h5
            · exact .inr (step _ h3)
  rcases hloop l.length 0 (by omega) with ⟨⟨n0, h0⟩, hg⟩ | ⟨n0, h0⟩
  · rw [List.drop_zero] at hg
    obtain ⟨n1, h1⟩ := (names30_does l (by omega)).both (rrising_does l (by omega))
    obtain ⟨ls, hls, n2, h2⟩ := lines_some l hl (fun t ht => (hs t ht).d)
    obtain ⟨n3, h3⟩ := rorder_does (l.map nm) ls (by simp; omega) (by omega)
    have hmm : (l.map nm).map T.str = l.map fun f => T.str (nm f) := by rw [List.map_map]; rfl
    rw [hmm] at h3
    cases hn : names l with
    | false =>
      refine ⟨false, Does.of (n0 + n1 + n2 + n3) fun m hm => ?_, fun e => by cases e⟩
      have q : den Tryd.prog G0 ents m i_R30_Right (some p_R30_Right_c1) [A.t (T.node l), A.t (T.int 0)] = _ := h0 m (by omega)
      have g : ¬ ((l.length : Int) > 256) := by omega
      rw [q_R30_Right]
      simp only [S0, S9, S1, S2, if_true, if_false, q, g, (h1 m (by omega)).1, (h1 m (by omega)).2, hn, Bool.not_false, not_false_eq_true]
    | true =>
      refine ⟨decide ((leftR (l.map nm) (orderR ls (l.map nm))).length = 0), Does.of (n0 + n1 + n2 + n3) fun m hm => ?_, fun _ => ⟨rfl, hg⟩⟩
      have q : den Tryd.prog G0 ents m i_R30_Right (some p_R30_Right_c1) [A.t (T.node l), A.t (T.int 0)] = _ := h0 m (by omega)
      have g : ¬ ((l.length : Int) > 256) := by omega
      rw [q_R30_Right]
      simp only [S0, S9, S1, S2, if_true, if_false, q, g, (h1 m (by omega)).1, (h1 m (by omega)).2, hn, h2 m (by omega), h3 m (by omega), Bool.not_true, not_false_eq_true, List.length_map, beqI]
      have : decide (((leftR (l.map nm) (orderR ls (l.map nm))).length : Int) = 0) = decide ((leftR (l.map nm) (orderR ls (l.map nm))).length = 0) := by rw [decide_eq_decide]; omega
      rw [this]
  · refine ⟨false, Does.of n0 fun m hm => ?_, fun e => by cases e⟩
    have q : den Tryd.prog G0 ents m i_R30_Right (some p_R30_Right_c1) [A.t (T.node l), A.t (T.int 0)] = _ := h0 m hm
    rw [q_R30_Right]
    simp only [S0, S9, S1, S2, if_true, if_false, q]
end Go.Proofs.YtffncdkbcphbgaaDoorDD
namespace Go.Proofs.YtffncdkbcphbgaaDoorDD
open Go Go.Proofs.YtffncdkbcphbgaaDoorVM
set_option linter.unusedVariables false
set_option linter.unusedSimpArgs false
set_option maxRecDepth 100000

def dropT (l : List T) (s : ByteArray) : List T := l.filter fun t => !seqB (nm t) s
def gtT (x t : T) : Bool := !(sltB (nm x) (nm t) || seqB (nm x) (nm t))
def insT : List T → T → List T
  | [], t => [t]
  | x :: l, t => if gtT x t then t :: x :: l else x :: insT l t
def putT (l : List T) (t : T) : List T := insT (dropT l (nm t)) t
theorem dropT_len (l : List T) (s : ByteArray) : (dropT l s).length ≤ l.length := List.length_filter_le _ _
theorem insT_len (l : List T) (t : T) : (insT l t).length = l.length + 1 := by
  induction l with
  | nil => rfl
  | cons x l ih => rw [insT]; split <;> simp [*]
theorem putT_len (l : List T) (t : T) : (putT l t).length ≤ l.length + 1 := by
  unfold putT
  rw [insT_len]
  have := dropT_len l (nm t)
  omega
theorem drop_does (l : List T) (s : ByteArray) (hl : l.length ≤ 100000) : Dz i_R30_Drop none [A.t (T.node l), A.t (T.str s)] (1, [A.t (T.node (dropT l s))]) := by
  obtain ⟨n0, h0⟩ := Dz.steps (i := i_R30_Drop) (p := some p_R30_Drop_c1) (R := (2, [A.t (T.node (dropT l s))])) l.length (fun j => [A.t (T.node l), A.t (T.str s), A.t (T.int j), A.t (T.node (dropT (l.take j) s))]) (by
    refine Does.now fun m => ?_
    rw [q_R30_Drop_c1, List.take_length]
    simp only [S0, S9, S1, S2, if_true, if_false]
    rw [if_neg (by omega)]) (fun j hj R hR => by
    have hw : IntKind.i64.wrap ((j : Int) + 1) = ((j + 1 : Nat) : Int) := i64succ (by omega)
    have g1 : (0 : Int) ≤ (j : Int) := by omega
    have g2 : (j : Int) < (l.length : Int) := by omega
    have hb : (dropT (l.take j) s).length ≤ j := Nat.le_trans (dropT_len _ _) (by rw [List.length_take]; omega)
    have e0 : dropT (l.take (j + 1)) s = dropT (l.take j) s ++ (if (!seqB (nm l[j]) s) = true then [l[j]] else []) := filter_take _ _ hj
    rw [e0] at hR
    generalize dropT (l.take j) s = acc at hR hb
    have e1 : Nat.succ acc.length < 1073741824 := by omega
    obtain ⟨n0, h0⟩ := hR
    refine Does.of n0 fun m hm => ?_
    have q := h0 m hm
    rw [q_R30_Drop_c1]
    simp only [S0, S9, S1, S2, if_true, if_false, g1, g2, and_self, at_get hj, S3, hw, e1]
    by_cases hs : (!seqB (nm l[j]) s) = true
    · rw [if_pos hs] at q ⊢
      exact q
    · rw [if_neg hs, List.append_nil] at q
      rw [if_neg hs]
      exact q)
  refine Does.of n0 fun m hm => ?_
  have q : den Tryd.prog G0 ents m i_R30_Drop (some p_R30_Drop_c1) [A.t (T.node l), A.t (T.str s), A.t (T.int 0), A.t (T.node [])] = _ := h0 m hm
  rw [q_R30_Drop]
  simp only [S0, S9, S1, S2, if_true, if_false, q]
def pStep (t : T) (st : Bool × List T) (x : T) : Bool × List T := if (!st.1 && gtT x t) = true then (true, (st.2 ++ [t]) ++ [x]) else (st.1, st.2 ++ [x])
theorem pStep_true (t : T) : ∀ (l : List T) (out : List T), l.foldl (pStep t) (true, out) = (true, out ++ l)
  | [], out => by simp
  | x :: l, out => by
    rw [List.foldl_cons, show pStep t (true, out) x = (true, out ++ [x]) from rfl, pStep_true t l]
    simp
theorem pStep_false (t : T) : ∀ (l : List T) (out : List T), (let st := l.foldl (pStep t) (false, out); if st.1 then st.2 else st.2 ++ [t]) = out ++ insT l t
  | [], out => by simp [insT]
  | x :: l, out => by
    rw [List.foldl_cons, insT]
    by_cases h : gtT x t = true
    · rw [show pStep t (false, out) x = (true, (out ++ [t]) ++ [x]) by simp [pStep, h], pStep_true, if_pos h]
      simp
    · rw [show pStep t (false, out) x = (false, out ++ [x]) by simp [pStep, h], if_neg h]
      have := pStep_false t l (out ++ [x])
      rw [this]
      simp
theorem pStep_len (t : T) (st : Bool × List T) (x : T) : (pStep t st x).2.length ≤ st.2.length + 2 := by
  unfold pStep
  split <;> simp
theorem put_does (l : List T) (t : T) (hl : l.length ≤ 100000) : Dz i_R30_Put none [A.t (T.node l), A.t t] (1, [A.t (T.node (putT l t))]) := by
  have hdl := dropT_len l (nm t)
  have hloop : ∀ (ll : List T), ll.length ≤ 100000 → ∀ k j (st : Bool × List T), j + k = ll.length → st.2.length ≤ 2 * j → Dz i_R30_Put (some p_R30_Put_c1) [A.t (T.bool st.1), A.t (T.int j), A.t t, A.t (T.node ll), A.t (T.node st.2)]
      (2, [A.t (T.bool ((ll.drop j).foldl (pStep t) st).1), A.t t, A.t (T.node ((ll.drop j).foldl (pStep t) st).2)]) := by
    intro ll hll k
    induction k with
    | zero =>
      intro j st hj hb
      rw [List.drop_of_length_le (by omega)]
      refine Does.now fun m => ?_
      rw [q_R30_Put_c1]
      simp only [S0, S9, S1, S2, if_true, if_false]
      rw [if_neg (by omega)]; rfl
    | succ k ih =>
      intro j st hj hb
      have hlt : j < ll.length := by omega
      have hw : IntKind.i64.wrap ((j : Int) + 1) = ((j + 1 : Nat) : Int) := i64succ (by omega)
      have g1 : (0 : Int) ≤ (j : Int) := by omega
      have g2 : (j : Int) < (ll.length : Int) := by omega
      have hpl := pStep_len t st ll[j]
      obtain ⟨n0, h0⟩ := ih (j + 1) (pStep t st ll[j]) (by omega) (by omega)
      refine Does.of n0 fun m hm => ?_
      have q := h0 m hm
      have hg : Bool.or (sltB (nm ll[j]) (nm t)) (seqB (nm ll[j]) (nm t)) = !gtT ll[j] t := by unfold gtT; cases (sltB (nm ll[j]) (nm t) || seqB (nm ll[j]) (nm t)) <;> rfl
      rw [q_R30_Put_c1, List.drop_eq_getElem_cons hlt, List.foldl_cons]
      obtain ⟨b, out⟩ := st
      simp only at hb q hpl ⊢
      have e1 : Nat.succ out.length < 1073741824 := by omega
      have e2 : Nat.succ (out ++ [t]).length < 1073741824 := by rw [List.length_append]; simp only [List.length_cons, List.length_nil]; omega
      simp only [S0, S9, S1, S2, if_true, if_false, g1, g2, hlt, and_self, at_get hlt, S3, hw, hg, e1, e2, Bool.not_not, Bool.not_eq_true']
      cases b with
      | true =>
        rw [show pStep t (true, out) ll[j] = (true, out ++ [ll[j]]) from rfl] at q ⊢
        simp only [Bool.true_eq_false, if_false]
        exact q
      | false =>
        by_cases hs : gtT ll[j] t = true
        · rw [show pStep t (false, out) ll[j] = (true, (out ++ [t]) ++ [ll[j]]) by simp [pStep, hs]] at q ⊢
          simp only [hs, if_true]
          exact q
        · rw [show pStep t (false, out) ll[j] = (false, out ++ [ll[j]]) by simp [pStep, hs]] at q ⊢
          simp only [hs, if_true, if_false]
          exact q
  obtain ⟨n0, h0⟩ := (drop_does l (nm t) hl).both (hloop (dropT l (nm t)) (by omega) (dropT l (nm t)).length 0 (false, []) (by omega) (by simp))
  refine Does.of n0 fun m hm => ?_
  obtain ⟨q1, q2⟩ := h0 m hm
  have q2' : den Tryd.prog G0 ents m i_R30_Put (some p_R30_Put_c1) [A.t (T.bool false), A.t (T.int 0), A.t t, A.t (T.node (dropT l (nm t))), A.t (T.node [])] = _ := q2
  rw [List.drop_zero] at q2'
  have hp := pStep_false t (dropT l (nm t)) []
  have hlen : ((dropT l (nm t)).foldl (pStep t) (false, [])).2.length ≤ 2 * (dropT l (nm t)).length := by
    have : ∀ (ll : List T) (st : Bool × List T), (ll.foldl (pStep t) st).2.length ≤ st.2.length + 2 * ll.length := by
      intro ll
      induction ll with
      | nil => intro st; simp
      | cons x ll ih => intro st; rw [List.foldl_cons]; have := ih (pStep t st x); have := pStep_len t st x; simp only [List.length_cons]; omega
    simpa using this (dropT l (nm t)) (false, [])
  rw [q_R30_Put]
  unfold putT
  simp only [S0, S9, S1, S2, if_true, if_false, S3, q1, q2', Bool.not_eq_true']
  generalize (dropT l (nm t)).foldl (pStep t) (false, []) = st at hp hlen
  obtain ⟨b, out⟩ := st
  simp only at hp hlen ⊢
  rw [List.nil_append] at hp
  cases b with
  | true => simp only [if_true] at hp; rw [← hp]; rfl
  | false =>
    simp only [Bool.false_eq_true, if_false] at hp
    rw [← hp]
    have e1 : Nat.succ out.length < 1073741824 := by omega
    simp [e1]
def nowF (now : List T) (x : Int × T) : List T := if x.1 = 1 then dropT now (nm x.2) else putT now x.2
theorem nowF_len (now : List T) (x : Int × T) : (nowF now x).length ≤ now.length + 1 := by
  unfold nowF
  split
  · have := dropT_len now (nm x.2); omega
  · exact putT_len _ _
theorem now_len : ∀ (l : List (Int × T)) (now : List T), (l.foldl nowF now).length ≤ now.length + l.length
  | [], now => by simp
  | x :: l, now => by have := now_len l (nowF now x); have := nowF_len now x; simp only [List.foldl_cons, List.length_cons]; omega
theorem law_now (want : List T) (M : List (Int × T)) (h0 : List T) (hM : M.length ≤ 1000) (hh : h0.length ≤ 1000) : Dz i_L31_DiffDone (some p_L31_DiffDone_c1) [A.t (T.node want), A.t (T.node h0), A.t (T.int 0), A.t (T.node (M.map mkR))] (2, [A.t (T.node want), A.t (T.node (M.foldl nowF h0))]) := by
  have h := Dz.steps (i := i_L31_DiffDone) (p := some p_L31_DiffDone_c1) (R := (2, [A.t (T.node want), A.t (T.node (M.foldl nowF h0))])) M.length (fun j => [A.t (T.node want), A.t (T.node ((M.take j).foldl nowF h0)), A.t (T.int j), A.t (T.node (M.map mkR))]) (by
    refine Does.now fun m => ?_
    rw [q_L31_DiffDone_c1, List.take_length]
    simp only [S0, S9, S1, S2, if_true, if_false, List.length_map]
    rw [if_neg (by omega)]) (fun j hj R hR => by
    have hw : IntKind.i64.wrap ((j : Int) + 1) = ((j + 1 : Nat) : Int) := i64succ (by omega)
    have g1 : (0 : Int) ≤ (j : Int) := by omega
    have g2 : (j : Int) < (M.length : Int) := by omega
    have hb := now_len (M.take j) h0
    rw [List.length_take] at hb
    rw [fold_step _ _ _ hj] at hR
    generalize (M.take j).foldl nowF h0 = now at hR hb
    have e1 : (mkR M[j]).get 0 = .int M[j].1 := rfl
    have e2 : (mkR M[j]).get 1 = M[j].2 := rfl
    have e3 : thV (mkR M[j]) = M[j].2 := rfl
    unfold nowF at hR
    by_cases c : M[j].1 = 1
    · rw [if_pos c] at hR
      obtain ⟨n1, h1⟩ := (drop_does now (nm M[j].2) (by omega)).both hR
      refine Does.of n1 fun m hm => ?_
      obtain ⟨q1, q2⟩ := h1 m hm
      rw [q_L31_DiffDone_c1]
      simp only [S0, S9, S1, S2, if_true, if_false, g1, g2, hj, and_self, List.length_map, mkA_at hj, e1, e2, e3, c, S3, q1, hw]
      exact q2
    · rw [if_neg c] at hR
      obtain ⟨n1, h1⟩ := (put_does now M[j].2 (by omega)).both hR
      refine Does.of n1 fun m hm => ?_
      obtain ⟨q1, q2⟩ := h1 m hm
      rw [q_L31_DiffDone_c1]
      simp only [S0, S9, S1, S2, if_true, if_false, g1, g2, hj, and_self, List.length_map, mkA_at hj, e1, e2, e3, c, S3, q1, hw]
      exact q2)
  exact h
def tgtA : Nat → List T → List T → List T
  | 0, _, _ => []
  | _ + 1, [], _ => []
  | n + 1, w :: ws, [] => w :: tgtA n ws []
  | n + 1, w :: ws, h :: hs => if sltB (nm w) (nm h) = true then w :: tgtA n ws (h :: hs) else if sltB (nm h) (nm w) = true then tgtA n (w :: ws) hs else if differs w h = true then w :: tgtA n ws hs else h :: tgtA n ws hs
theorem ne_of_slt {a b : ByteArray} (h : sltB a b = true) : seqB a b = false := by
  cases hs : seqB a b with
  | false => rfl
  | true => rw [(seqB_iff _ _).1 hs, slt_irrefl] at h; cases h
theorem ne_of_slt' {a b : ByteArray} (h : sltB a b = true) : seqB b a = false := by rw [seq_comm]; exact ne_of_slt h
theorem dropT_app (a b : List T) (s : ByteArray) : dropT (a ++ b) s = dropT a s ++ dropT b s := List.filter_append _ _
theorem dropT_none {l : List T} {s : ByteArray} (h : ∀ x ∈ l, seqB (nm x) s = false) : dropT l s = l := List.filter_eq_self.2 fun x hx => by rw [h x hx]; rfl
theorem insT_app {pre : List T} {t : T} (h : ∀ x ∈ pre, sltB (nm x) (nm t) = true) (l : List T) : insT (pre ++ l) t = pre ++ insT l t := by
  induction pre with
  | nil => rfl
  | cons x pre ih =>
    rw [List.cons_append, insT, if_neg (by unfold gtT; rw [h x List.mem_cons_self]; simp), ih fun y hy => h y (List.mem_cons_of_mem _ hy)]; rfl
theorem insT_head {l : List T} {t : T} (h : ∀ y ∈ l, sltB (nm t) (nm y) = true) : insT l t = t :: l := by
  cases l with
  | nil => rfl
  | cons y l =>
    have h1 := h y List.mem_cons_self
    rw [insT, if_pos (by unfold gtT; rw [slt_asymm h1, ne_of_slt' h1]; rfl)]
theorem put_at {pre hs : List T} {w : T} (h1 : ∀ x ∈ pre, sltB (nm x) (nm w) = true) (h2 : ∀ y ∈ hs, sltB (nm w) (nm y) = true) : putT (pre ++ hs) w = pre ++ w :: hs := by
  unfold putT
  rw [dropT_app, dropT_none fun x hx => ne_of_slt (h1 x hx), dropT_none fun x hx => ne_of_slt' (h2 x hx), insT_app h1, insT_head h2]
theorem put_eq {pre hs : List T} {w h : T} (he : nm h = nm w) (h1 : ∀ x ∈ pre, sltB (nm x) (nm w) = true) (h2 : ∀ y ∈ hs, sltB (nm w) (nm y) = true) : putT (pre ++ h :: hs) w = pre ++ w :: hs := by
  unfold putT
  have hd : dropT (h :: hs) (nm w) = hs := by
    show List.filter _ (h :: hs) = hs
    rw [List.filter_cons, he, (seqB_iff _ _).2 rfl]
    exact dropT_none fun x hx => ne_of_slt' (h2 x hx)
  rw [dropT_app, dropT_none fun x hx => ne_of_slt (h1 x hx), hd, insT_app h1, insT_head h2]
theorem drop_at {pre hs : List T} {h : T} (h1 : ∀ x ∈ pre, sltB (nm x) (nm h) = true) (h2 : ∀ y ∈ hs, sltB (nm h) (nm y) = true) : dropT (pre ++ h :: hs) (nm h) = pre ++ hs := by
  have hd : dropT (h :: hs) (nm h) = hs := by
    show List.filter _ (h :: hs) = hs
    rw [List.filter_cons, (seqB_iff _ _).2 rfl]
    exact dropT_none fun x hx => ne_of_slt' (h2 x hx)
  rw [dropT_app, dropT_none fun x hx => ne_of_slt (h1 x hx), hd]
theorem rise_mem {x : T} {l : List T} (h : RiseS ((x :: l).map nm)) : ∀ y ∈ l, sltB (nm x) (nm y) = true := fun y hy => h.1 _ (List.mem_map_of_mem hy)
theorem now_all : ∀ (n : Nat) (ws hs pre : List T), ws.length + hs.length ≤ n → RiseS (ws.map nm) → RiseS (hs.map nm) → (∀ x ∈ pre, ∀ y ∈ ws ++ hs, sltB (nm x) (nm y) = true) → (mergeA n ws hs).foldl nowF (pre ++ hs) = pre ++ tgtA n ws hs
  | 0, [], [], pre, _, _, _, _ => by simp [mergeA, tgtA]
  | 0, _ :: _, _, _, h, _, _, _ => by simp at h
  | 0, [], _ :: _, _, h, _, _, _ => by simp at h
  | n + 1, [], [], pre, _, _, _, _ => by simp [mergeA, tgtA]
  | n + 1, [], h :: hs, pre, hl, hw, hh, hp => by
    simp only [List.length_cons, List.length_nil] at hl
    rw [mergeA, List.foldl_cons]
    have e : nowF (pre ++ h :: hs) (1, h) = pre ++ hs := by
      unfold nowF
      rw [if_pos rfl]
      exact drop_at (fun x hx => hp x hx h (by simp)) (rise_mem hh)
    rw [e, now_all n [] hs pre (by simp only [List.length_nil]; omega) trivial hh.2 (fun x hx y hy => hp x hx y (by simp only [List.nil_append] at hy ⊢; exact List.mem_cons_of_mem _ hy))]
    cases n <;> simp [tgtA]
  | n + 1, w :: ws, [], pre, hl, hw, hh, hp => by
    simp only [List.length_cons, List.length_nil] at hl
    rw [mergeA, List.foldl_cons, tgtA]
    have e : nowF (pre ++ []) (2, w) = (pre ++ [w]) ++ [] := by
      unfold nowF
      rw [if_neg (by simp), put_at (fun x hx => hp x hx w (by simp)) (fun y hy => by cases hy)]
      simp
    rw [e, now_all n ws [] (pre ++ [w]) (by simp only [List.length_nil]; omega) hw.2 trivial (fun x hx y hy => by
      rw [List.append_nil] at hy
      rcases List.mem_append.1 hx with e | e
      · exact hp x e y (by simp [hy])
      · rw [List.mem_singleton.1 e]; exact rise_mem hw y hy)]
    simp
  | n + 1, w :: ws, h :: hs, pre, hl, hw, hh, hp => by
    simp only [List.length_cons] at hl
    have hpw : ∀ x ∈ pre, sltB (nm x) (nm w) = true := fun x hx => hp x hx w (by simp)
    have hph : ∀ x ∈ pre, sltB (nm x) (nm h) = true := fun x hx => hp x hx h (by simp)
    rw [mergeA, tgtA]
    by_cases c1 : sltB (nm w) (nm h) = true
    · rw [if_pos c1, if_pos c1, List.foldl_cons]
      have e : nowF (pre ++ h :: hs) (2, w) = (pre ++ [w]) ++ h :: hs := by
        unfold nowF
        rw [if_neg (by simp), put_at hpw (fun y hy => by
          rcases List.mem_cons.1 hy with rfl | hy
          · exact c1
          · exact slt_trans c1 (rise_mem hh y hy))]
        simp
      rw [e, now_all n ws (h :: hs) (pre ++ [w]) (by simp only [List.length_cons]; omega) hw.2 hh (fun x hx y hy => by
        rcases List.mem_append.1 hx with e | e
        · refine hp x e y ?_
          rcases List.mem_append.1 hy with e2 | e2
          · simp [e2]
          · exact List.mem_append_right _ e2
        · rw [List.mem_singleton.1 e]
          rcases List.mem_append.1 hy with e2 | e2
          · exact rise_mem hw y e2
          · rcases List.mem_cons.1 e2 with rfl | e3
            · exact c1
            · exact slt_trans c1 (rise_mem hh y e3))]
      simp
    rw [if_neg c1, if_neg c1]
    by_cases c2 : sltB (nm h) (nm w) = true
    · rw [if_pos c2, if_pos c2, List.foldl_cons]
      have e : nowF (pre ++ h :: hs) (1, h) = pre ++ hs := by
        unfold nowF
        rw [if_pos rfl]
        exact drop_at hph (rise_mem hh)
      rw [e, now_all n (w :: ws) hs pre (by simp only [List.length_cons]; omega) hw hh.2 (fun x hx y hy => hp x hx y (by
        rcases List.mem_append.1 hy with e2 | e2
        · exact List.mem_append_left _ e2
        · exact List.mem_append_right _ (List.mem_cons_of_mem _ e2)))]
    rw [if_neg c2, if_neg c2]
    have hwh : nm h = nm w := by rcases slt_tri (nm w) (nm h) with h | h | h; exact absurd h c1; exact absurd h c2; exact h.symm
    by_cases c3 : differs w h = true
    · rw [if_pos c3, if_pos c3, List.foldl_cons]
      have e : nowF (pre ++ h :: hs) (3, w) = (pre ++ [w]) ++ hs := by
        unfold nowF
        rw [if_neg (by simp), put_eq hwh hpw (fun y hy => by rw [← hwh]; exact rise_mem hh y hy)]
        simp
      rw [e, now_all n ws hs (pre ++ [w]) (by omega) hw.2 hh.2 (fun x hx y hy => by
        rcases List.mem_append.1 hx with e | e
        · refine hp x e y ?_
          rcases List.mem_append.1 hy with e2 | e2
          · simp [e2]
          · simp [e2]
        · rw [List.mem_singleton.1 e]
          rcases List.mem_append.1 hy with e2 | e2
          · exact rise_mem hw y e2
          · rw [← hwh]; exact rise_mem hh y e2)]
      simp
    · rw [if_neg c3, if_neg c3]
      have e : pre ++ h :: hs = (pre ++ [h]) ++ hs := by simp
      rw [e, now_all n ws hs (pre ++ [h]) (by omega) hw.2 hh.2 (fun x hx y hy => by
        rcases List.mem_append.1 hx with e | e
        · refine hp x e y ?_
          rcases List.mem_append.1 hy with e2 | e2
          · simp [e2]
          · simp [e2]
        · rw [List.mem_singleton.1 e]
          rcases List.mem_append.1 hy with e2 | e2
          · rw [hwh]; exact rise_mem hw y e2
          · exact rise_mem hh y e2)]
      simp
theorem tgt_len : ∀ (n : Nat) (ws hs : List T), ws.length + hs.length ≤ n → (tgtA n ws hs).length = ws.length
  | 0, [], _, _ => rfl
  | 0, _ :: _, _, h => by simp at h
  | n + 1, [], _, _ => rfl
  | n + 1, w :: ws, [], h => by
    simp only [List.length_cons, List.length_nil] at h
    rw [tgtA, List.length_cons, tgt_len n ws [] (by simp only [List.length_nil]; omega), List.length_cons]
  | n + 1, w :: ws, x :: hs, h => by
    simp only [List.length_cons] at h
    rw [tgtA]
    split
    · rw [List.length_cons, tgt_len n ws (x :: hs) (by simp only [List.length_cons]; omega), List.length_cons]
    · split
      · rw [tgt_len n (w :: ws) hs (by simp only [List.length_cons]; omega)]
      · split <;> rw [List.length_cons, tgt_len n ws hs (by omega), List.length_cons]
theorem tgt_mem : ∀ (n : Nat) (ws hs : List T), ∀ y ∈ tgtA n ws hs, y ∈ ws ∨ y ∈ hs
  | 0, _, _, y, h => by cases h
  | n + 1, [], _, y, h => by cases h
  | n + 1, w :: ws, [], y, h => by
    rw [tgtA] at h
    rcases List.mem_cons.1 h with rfl | h
    · exact .inl List.mem_cons_self
    · rcases tgt_mem n ws [] y h with e | e
      · exact .inl (List.mem_cons_of_mem _ e)
      · cases e
  | n + 1, w :: ws, x :: hs, y, h => by
    rw [tgtA] at h
    split at h
    · rcases List.mem_cons.1 h with rfl | h
      · exact .inl List.mem_cons_self
      · rcases tgt_mem n ws (x :: hs) y h with e | e
        · exact .inl (List.mem_cons_of_mem _ e)
        · exact .inr e
    · split at h
      · rcases tgt_mem n (w :: ws) hs y h with e | e
        · exact .inl e
        · exact .inr (List.mem_cons_of_mem _ e)
      · split at h
        · rcases List.mem_cons.1 h with rfl | h
          · exact .inl List.mem_cons_self
          · rcases tgt_mem n ws hs y h with e | e
            · exact .inl (List.mem_cons_of_mem _ e)
            · exact .inr (List.mem_cons_of_mem _ e)
        · rcases List.mem_cons.1 h with rfl | h
          · exact .inr List.mem_cons_self
          · rcases tgt_mem n ws hs y h with e | e
            · exact .inl (List.mem_cons_of_mem _ e)
            · exact .inr (List.mem_cons_of_mem _ e)
theorem merge_cons {m : Nat} {w y : T} {ws ys : List T} (he : nm y = nm w) (hd : differs w y = false) : mergeA (m + 1) (w :: ws) (y :: ys) = mergeA m ws ys := by
  rw [mergeA, he, slt_irrefl, hd]
  simp
theorem tgt_done : ∀ (n : Nat) (ws hs : List T), (∀ w ∈ ws, differs w w = false) → ∀ m, ws.length + (tgtA n ws hs).length ≤ m ∨ True → (tgtA n ws hs).length = ws.length → mergeA m ws (tgtA n ws hs) = []
  | _, ws, hs, _, 0, _, _ => rfl
  | 0, [], _, _, m + 1, _, _ => rfl
  | 0, w :: ws, _, _, m + 1, _, h => by simp [tgtA] at h
  | n + 1, [], _, _, m + 1, _, _ => rfl
  | n + 1, w :: ws, [], hd, m + 1, _, hl => by
    rw [tgtA] at hl ⊢
    rw [merge_cons rfl (hd w List.mem_cons_self)]
    exact tgt_done n ws [] (fun x hx => hd x (List.mem_cons_of_mem _ hx)) m (.inr trivial) (by simpa using hl)
  | n + 1, w :: ws, x :: hs, hd, m + 1, _, hl => by
    have hd' : ∀ w ∈ ws, differs w w = false := fun x hx => hd x (List.mem_cons_of_mem _ hx)
    rw [tgtA] at hl ⊢
    by_cases c1 : sltB (nm w) (nm x) = true
    · rw [if_pos c1] at hl ⊢
      rw [merge_cons rfl (hd w List.mem_cons_self)]
      exact tgt_done n ws (x :: hs) hd' m (.inr trivial) (by simpa using hl)
    rw [if_neg c1] at hl ⊢
    by_cases c2 : sltB (nm x) (nm w) = true
    · rw [if_pos c2] at hl ⊢
      exact tgt_done n (w :: ws) hs hd (m + 1) (.inr trivial) hl
    rw [if_neg c2] at hl ⊢
    have hwx : nm x = nm w := by rcases slt_tri (nm w) (nm x) with h | h | h; exact absurd h c1; exact absurd h c2; exact h.symm
    by_cases c3 : differs w x = true
    · rw [if_pos c3] at hl ⊢
      rw [merge_cons rfl (hd w List.mem_cons_self)]
      exact tgt_done n ws hs hd' m (.inr trivial) (by simpa using hl)
    · rw [if_neg c3] at hl ⊢
      rw [merge_cons hwx (by cases h : differs w x with | false => rfl | true => exact absurd h c3)]
      exact tgt_done n ws hs hd' m (.inr trivial) (by simpa using hl)
theorem self_done : ∀ (m : Nat) (ws : List T), (∀ w ∈ ws, differs w w = false) → mergeA m ws ws = []
  | 0, _, _ => rfl
  | m + 1, [], _ => rfl
  | m + 1, w :: ws, hd => by rw [merge_cons rfl (hd w List.mem_cons_self)]; exact self_done m ws fun x hx => hd x (List.mem_cons_of_mem _ hx)
theorem differs_self {w : T} (h : RgT w) : differs w w = false := by
  unfold differs
  rw [refines_of h.1 h.2 h.1 (under_refl 20 _ (refV_ok h.1)), show sameL (deps w) (deps w) = true from decide_eq_true rfl]
  rfl
theorem kids_ok {t : T} (h : TOk Tryd.prog 32 t) : ∀ x ∈ t.kids, TOk Tryd.prog 39 x := by
  obtain ⟨xs, rfl, _, hx⟩ := TOk.row_of Tryd.underlying32 h
  exact hx
theorem law_does (x y : T) (hx : ∀ t ∈ x.kids, TOk Tryd.prog 39 t) (hy : ∀ t ∈ y.kids, TOk Tryd.prog 39 t) : Dz i_L31_DiffDone none [A.t x, A.t y] (1, [A.t (T.bool true)]) := by
  obtain ⟨n1, h1⟩ := (fewL_does x.kids).both (fewL_does y.kids)
  obtain ⟨n2, h2⟩ := awake_does
  cases hfa : fewL x.kids with
  | false =>
    rw [hfa] at h1
    refine Does.of (n1 + n2) fun m hm => ?_
    rw [q_L31_DiffDone]
    simp only [S0, S9, S1, S2, if_true, if_false, (h1 m (by omega)).1, h2 m (by omega), Bool.not_false, Bool.true_eq_false]
  | true =>
  cases hfb : fewL y.kids with
  | false =>
    rw [hfa, hfb] at h1
    refine Does.of (n1 + n2) fun m hm => ?_
    rw [q_L31_DiffDone]
    simp only [S0, S9, S1, S2, if_true, if_false, (h1 m (by omega)).1, (h1 m (by omega)).2, h2 m (by omega), Bool.not_false, Bool.not_true, Bool.true_eq_false, not_true_eq_false, not_false_eq_true]
  | true =>
  rw [hfa, hfb] at h1
  obtain ⟨la, sa⟩ := fewL_sm hfa
  obtain ⟨lb, sb⟩ := fewL_sm hfb
  obtain ⟨b1, hb1, hr1⟩ := right30_some x.kids la sa
  obtain ⟨b2, hb2, hr2⟩ := right30_some y.kids lb sb
  obtain ⟨n3, h3⟩ := hb1.both hb2
  cases b1 with
  | false =>
    refine Does.of (n1 + n2 + n3) fun m hm => ?_
    rw [q_L31_DiffDone]
    simp only [S0, S9, S1, S2, if_true, if_false, (h1 m (by omega)).1, (h1 m (by omega)).2, h2 m (by omega), (h3 m (by omega)).1, Bool.not_false, Bool.not_true, Bool.true_eq_false, not_true_eq_false, not_false_eq_true]
  | true =>
  cases b2 with
  | false =>
    refine Does.of (n1 + n2 + n3) fun m hm => ?_
    rw [q_L31_DiffDone]
    simp only [S0, S9, S1, S2, if_true, if_false, (h1 m (by omega)).1, (h1 m (by omega)).2, h2 m (by omega), (h3 m (by omega)).1, (h3 m (by omega)).2, Bool.not_false, Bool.not_true, Bool.true_eq_false, not_true_eq_false, not_false_eq_true]
  | true =>
  obtain ⟨hna, hga⟩ := hr1 rfl
  obtain ⟨hnb, hgb⟩ := hr2 rfl
  generalize hW : x.kids = W at *
  generalize hH : y.kids = H at *
  have hrW := riseS_names (names_rise hna)
  have hrH := riseS_names (names_rise hnb)
  have hdW : ∀ w ∈ W, differs w w = false := fun w hw => differs_self (hga w hw)
  have hact : ∀ z ∈ mergeA (W.length + H.length) W H, mkA z = mkR z := fun z hz => by
    have : actT z.2 = z.2 := by
      rcases mergeA_mem _ _ _ z hz with e | e
      · exact actT_id (sa _ e) (hx _ e)
      · exact actT_id (sb _ e) (hy _ e)
    unfold mkA mkR
    rw [this]
  have hM : (mergeA (W.length + H.length) W H).map mkA = (mergeA (W.length + H.length) W H).map mkR := List.map_congr_left hact
  have hMl := mergeA_len (W.length + H.length) W H
  have hnow := now_all (W.length + H.length) W H [] (Nat.le_refl _) hrW hrH (fun z hz => by cases hz)
  simp only [List.nil_append] at hnow
  have htl := tgt_len (W.length + H.length) W H (Nat.le_refl _)
  have htm := tgt_mem (W.length + H.length) W H
  have hsT : ∀ t ∈ tgtA (W.length + H.length) W H, SmTh t := fun t ht => by
    rcases htm t ht with e | e
    · exact sa _ e
    · exact sb _ e
  have ht := dthings_does W (tgtA (W.length + H.length) W H) (by omega) sa hsT
  rw [tgt_done (W.length + H.length) W H hdW _ (.inr trivial) htl] at ht
  have hw := dthings_does W W (by omega) sa sa
  rw [self_done _ W hdW] at hw
  obtain ⟨n4, h4⟩ := (dthings_does W H (by omega) sa sb).both (law_now W (mergeA (W.length + H.length) W H) H (by omega) (by omega))
  rw [hM, hnow] at h4
  obtain ⟨n5, h5⟩ := ht.both hw
  refine Does.of (n1 + n2 + n3 + n4 + n5) fun m hm => ?_
  rw [q_L31_DiffDone]
  simp only [S0, S9, S1, S2, if_true, if_false, hW, hH, (h1 m (by omega)).1, (h1 m (by omega)).2, h2 m (by omega), (h3 m (by omega)).1, (h3 m (by omega)).2, (h4 m (by omega)).1, (h4 m (by omega)).2, (h5 m (by omega)).1, (h5 m (by omega)).2, Bool.not_false, Bool.not_true, Bool.true_eq_false, not_true_eq_false, not_false_eq_true, List.map_nil, List.length_nil, htl]
  simp
end Go.Proofs.YtffncdkbcphbgaaDoorDD
