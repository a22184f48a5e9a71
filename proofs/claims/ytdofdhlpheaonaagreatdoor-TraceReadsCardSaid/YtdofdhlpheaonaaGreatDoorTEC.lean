/- A law's proof, a part: what the code answers. -/
import Derived.Test.YtdofdhlpheaonaaGreatDoorTEB
namespace Go.Proofs.YtdofdhlpheaonaaGreatDoorTE
open Go Go.Proofs.YtdofdhlpheaonaaGreatDoorVM
set_option linter.unusedVariables false
set_option linter.unusedSimpArgs false
set_option maxRecDepth 100000

def Wok (s : ByteArray) (d : Nat) : Prop :=
  (∀ l, Suf s l → (∀ v r, rdV d l = some (v, r) → Suf s r ∧ Dz i_R10_get none [A.t (rok s l), A.t (T.int d)] (1, [A.t (rok s r), A.t v])) ∧
    (rdV d l = none → ∃ v x, Bad s x ∧ Dz i_R10_get none [A.t (rok s l), A.t (T.int d)] (1, [A.t x, A.t v]))) ∧
  (∀ x, Bad s x → ∃ v y, Bad s y ∧ Dz i_R10_get none [A.t x, A.t (T.int d)] (1, [A.t y, A.t v]))
def zr : T := T.node [T.str emptyB, T.int 0, T.int 0]
def fA (d m i k j : Nat) (x : T) (n : Nat) (ts fs : List T) : List A :=
  [A.t (T.int (d + 1 : Nat)), A.t (T.int m), A.t (T.int i), A.t (T.int k), A.t (T.int j), A.t x, A.t zr, A.t (T.int (n / 8 : Nat)), A.t (T.int 0), A.t (T.int 0), A.t (T.str emptyB),
   A.t (T.bool (decide (n / 2 % 2 = 1))), A.t (T.bool (decide (n % 2 = 1))), A.t (T.bool (decide (n / 4 % 2 = 1))), A.t (T.node []), A.t (T.node ts), A.t (T.node fs)]
def fR (d m i : Nat) (x : T) (n : Nat) (ts fs : List T) : List A :=
  [A.t (T.int (d + 1 : Nat)), A.t (T.int m), A.t (T.int i), A.t x, A.t zr, A.t (T.int (n / 8 : Nat)), A.t (T.int 0), A.t (T.int 0), A.t (T.str emptyB),
   A.t (T.bool (decide (n / 2 % 2 = 1))), A.t (T.bool (decide (n % 2 = 1))), A.t (T.bool (decide (n / 4 % 2 = 1))), A.t (T.node []), A.t (T.node ts), A.t (T.node fs)]
theorem fl_out {d m i k j n : Nat} {x : T} {ts fs : List T} (h : k ≤ j ∨ (x.get 2).num ≠ 0) : Dz i_R10_get (some p_R10_get_c2) (fA d m i k j x n ts fs) (4, fR d m i x n ts fs) := by
  refine Does.now fun q => ?_
  unfold fA fR
  rw [q_R10_get_c2]
  simp only [S0, S9, S1, S2, if_true, if_false]
  by_cases hj : (j : Int) < (k : Int)
  · rw [if_pos hj, if_neg (by rcases h with h | h; · omega
                              · exact h)]
  · rw [if_neg hj]
theorem fl_step {d m i k j n : Nat} (hd : d ≤ 1000) (hk : k ≤ 512) (hj : j < k) {x x1 x2 v : T} {t : ByteArray} {ts fs : List T} (hf : fs.length = j) {R : Nat × List A} (h0 : (x.get 2).num = 0)
    (h1 : Dz i_R03_GetText none [A.t x, A.t (T.int (16 : Nat))] (1, [A.t x1, A.t (T.str t)])) (h2 : Dz i_R10_get none [A.t x1, A.t (T.int d)] (1, [A.t x2, A.t v]))
    (h3 : Dz i_R10_get (some p_R10_get_c2) (fA d m i k (j + 1) x2 n ts (fs ++ [T.node [T.str t, v]])) R) : Dz i_R10_get (some p_R10_get_c2) (fA d m i k j x n ts fs) R := by
  obtain ⟨n1, h1⟩ := h1.both h2
  obtain ⟨n2, h3⟩ := h3
  have hw : IntKind.u64.wrap ((j : Int) + 1) = ((j + 1 : Nat) : Int) := by rw [show (j : Int) + 1 = ((j + 1 : Nat) : Int) by omega, wu64, Nat.mod_eq_of_lt (by omega)]
  have hd1 : IntKind.i64.wrap (((d + 1 : Nat) : Int) - 1) = ((d : Nat) : Int) := by rw [w64 (by omega) (by omega)]; omega
  refine Does.of (n1 + n2) fun q hq => ?_
  obtain ⟨q1, q2⟩ := h1 q (by omega)
  have q3 := h3 q (by omega)
  have q1' : den Tryz.prog G0 ents q i_R03_GetText none [A.t x, A.t (T.int 16)] = _ := q1
  unfold fA at q3 ⊢
  rw [q_R10_get_c2]
  simp only [S0, S9, S1, S2, if_true, if_false, q1', q2, q3, hw, hd1, hf, h0]
  rw [if_pos (by omega), if_pos (by omega)]
theorem fl_ok {s : ByteArray} (hs : s.size ≤ 1000000000) {d : Nat} (hd : d ≤ 1000) (hV : Wok s d) {m i k n : Nat} (hk : k ≤ 512) (ts : List T) : ∀ (q j : Nat) (l : List UInt8) (fs : List T), j + q = k → fs.length = j → Suf s l →
    (∀ gs r, rdFs (rdV d) q l = some (gs, r) → Suf s r ∧ Dz i_R10_get (some p_R10_get_c2) (fA d m i k j (rok s l) n ts fs) (4, fR d m i (rok s r) n ts (fs ++ gs))) ∧
    (rdFs (rdV d) q l = none → ∃ x' fs', Bad s x' ∧ Dz i_R10_get (some p_R10_get_c2) (fA d m i k j (rok s l) n ts fs) (4, fR d m i x' n ts fs')) := by
  intro q
  induction q with
  | zero =>
    intro j l fs hj hf hl
    refine ⟨fun gs r h => ?_, fun h => by cases h⟩
    cases h
    exact ⟨hl, by rw [List.append_nil]; exact fl_out (.inl (by omega))⟩
  | succ q ih =>
    intro j l fs hj hf hl
    obtain ⟨a1, a2⟩ := (rtextr_does hs 16 (by omega)).1 l hl
    rw [rdFs]
    cases e1 : rdText 16 l with
    | none =>
      refine ⟨fun gs r h => by (rw [Option.bind_none] at h; cases h), fun _ => ?_⟩
      obtain ⟨x, hx, q1⟩ := a2 (by rw [tS, e1]; rfl)
      obtain ⟨w, y, hy, q2⟩ := hV.2 x hx
      exact ⟨y, _, hy, fl_step hd hk (by omega) hf rfl q1 q2 (fl_out (.inr (bad_g2 hy)))⟩
    | some p =>
      obtain ⟨t, y⟩ := p
      obtain ⟨g1, q1⟩ := a1 (T.str t) y (by rw [tS, e1]; rfl)
      obtain ⟨b1, b2⟩ := hV.1 y g1
      rw [Option.bind_some]
      dsimp only
      cases e2 : rdV d y with
      | none =>
        refine ⟨fun gs r h => by (rw [Option.bind_none] at h; cases h), fun _ => ?_⟩
        obtain ⟨w, z, hz, q2⟩ := b2 e2
        exact ⟨z, _, hz, fl_step hd hk (by omega) hf rfl q1 q2 (fl_out (.inr (bad_g2 hz)))⟩
      | some p =>
        obtain ⟨v, z⟩ := p
        obtain ⟨g2, q2⟩ := b1 v z e2
        obtain ⟨c1, c2⟩ := ih (j + 1) z (fs ++ [T.node [T.str t, v]]) (by omega) (by rw [List.length_append, List.length_singleton, hf]) g2
        rw [Option.bind_some]
        dsimp only
        refine ⟨fun gs r h => ?_, fun h => ?_⟩
        · obtain ⟨⟨us, w⟩, e3, h⟩ := map_some h
          simp only [Prod.mk.injEq] at h
          obtain ⟨rfl, rfl⟩ := h
          obtain ⟨g3, q3⟩ := c1 us w e3
          rw [List.append_assoc] at q3
          exact ⟨g3, fl_step hd hk (by omega) hf rfl q1 q2 q3⟩
        · obtain ⟨x', fs', hx, q3⟩ := c2 (map_none h)
          exact ⟨x', fs', hx, fl_step hd hk (by omega) hf rfl q1 q2 q3⟩
def gA (d m j : Nat) (x : T) (ts : List T) : List A := [A.t (T.int d), A.t (T.int m), A.t (T.int j), A.t x, A.t zr, A.t (T.node []), A.t (T.node ts)]
theorem gl_out {d m j : Nat} {x : T} {ts : List T} (h : m ≤ j ∨ (x.get 2).num ≠ 0) : Dz i_R10_get (some p_R10_get_c1) (gA d m j x ts) (2, [A.t x, A.t zr, A.t (T.node []), A.t (T.node ts)]) := by
  refine Does.now fun q => ?_
  unfold gA
  rw [q_R10_get_c1]
  simp only [S9, S1, num_int, kids_node]
  by_cases hj : (j : Int) < (m : Int)
  · rw [decide_eq_true hj, show ((x.get 2).num == 0) = false from beq_eq_false_iff_ne.2 (by rcases h with h | h; · omega
                                                                                            · exact h)]
    rfl
  · rw [decide_eq_false hj]
    rfl
theorem rbits_tab : ∀ n : Fin 48, (Int.tmod (IntKind.u64.wrap (Int.tdiv ((n.val : Nat) : Int) 2)) 2 == 1) = decide (n.val / 2 % 2 = 1) ∧ (Int.tmod ((n.val : Nat) : Int) 2 == 1) = decide (n.val % 2 = 1) ∧ (Int.tmod (IntKind.u64.wrap (Int.tdiv ((n.val : Nat) : Int) 4)) 2 == 1) = decide (n.val / 4 % 2 = 1) := by
  intro n
  have h := n.isLt
  have e2 : (2 : Int) = ((2 : Nat) : Int) := rfl
  have e4 : (4 : Int) = ((4 : Nat) : Int) := rfl
  have b : ∀ k : Nat, (((k : Nat) : Int) == 1) = decide (k = 1) := fun k => by rw [Bool.eq_iff_iff]; simp; omega
  refine ⟨?_, ?_, ?_⟩
  · rw [e2, tdivN, wu64, Nat.mod_eq_of_lt (by omega), tmodN, b]
  · rw [e2, tmodN, b]
  · rw [e4, e2, tdivN, wu64, Nat.mod_eq_of_lt (by omega), tmodN, b]
theorem kb (n k : Nat) (b : Bool) (h : b = decide (n / 8 = k)) : (((n / 8 : Nat) : Int) == ((k : Nat) : Int)) = b := by
  rw [h, Bool.eq_iff_iff]; simp only [beq_iff_eq, decide_eq_true_eq]; omega
theorem kbs {n k : Nat} (h : n / 8 = k) : (((n / 8 : Nat) : Int) == 1) = decide (k = 1) ∧ (((n / 8 : Nat) : Int) == 2) = decide (k = 2) ∧ (((n / 8 : Nat) : Int) == 3) = decide (k = 3) ∧ (((n / 8 : Nat) : Int) == 4) = decide (k = 4) :=
  ⟨kb n 1 _ (by rw [h]), kb n 2 _ (by rw [h]), kb n 3 _ (by rw [h]), kb n 4 _ (by rw [h])⟩
theorem g_12 {d m j n : Nat} (hm : m ≤ 512) (hj : j < m) (hn : n ≤ 47) (hk : n / 8 = 1 ∨ n / 8 = 2) {x y y1 y2 : T} {a b : Int} {ts : List T} (hf : ts.length = j) {R : Nat × List A} (h0 : (x.get 2).num = 0)
    (h1 : Dz i_R03_Most none [A.t x, A.t (T.int (47 : Nat))] (1, [A.t y, A.t (T.int n)])) (h2 : Dz i_R03_GetInt none [A.t y] (1, [A.t y1, A.t (T.int a)])) (h3 : Dz i_R03_GetInt none [A.t y1] (1, [A.t y2, A.t (T.int b)]))
    (h4 : Dz i_R10_get (some p_R10_get_c1) (gA d m (j + 1) y2 (ts ++ [mkT n a b emptyB []])) R) : Dz i_R10_get (some p_R10_get_c1) (gA d m j x ts) R := by
  obtain ⟨n1, h1⟩ := h1.both h2
  obtain ⟨n2, h2⟩ := h3.both h4
  have he := kind_eq hn
  obtain ⟨b1, b2, b3⟩ := rbits_tab ⟨n, by omega⟩
  have hw : IntKind.u64.wrap ((j : Int) + 1) = ((j + 1 : Nat) : Int) := by rw [show (j : Int) + 1 = ((j + 1 : Nat) : Int) by omega, wu64, Nat.mod_eq_of_lt (by omega)]
  refine Does.of (n1 + n2) fun q hq => ?_
  obtain ⟨q1, q2⟩ := h1 q (by omega)
  obtain ⟨q3, q4⟩ := h2 q (by omega)
  have q1' : den Tryz.prog G0 ents q i_R03_Most none [A.t x, A.t (T.int 47)] = _ := q1
  unfold gA at q4 ⊢
  rw [q_R10_get_c1]
  simp only [S9, S1, num_int, kids_node, q1', q2, q3, h0, he, hw, b1, b2, b3, hf, Option.map_some, Option.bind_some, aAt_zero, aAt_succ, tree_t]
  rw [decide_eq_true (show (j : Int) < (m : Int) by omega), decide_eq_true (show Nat.succ j < 1073741824 by omega)]
  rcases hk with hk | hk
  · obtain ⟨k1, k2, k3, k4⟩ := kbs hk
    simp only [k1, k2, k3, k4]
    exact q4
  · obtain ⟨k1, k2, k3, k4⟩ := kbs hk
    simp only [k1, k2, k3, k4]
    exact q4
theorem g_3 {d m j n : Nat} (hm : m ≤ 512) (hj : j < m) (hn : n ≤ 47) (hk : n / 8 = 3) {x y y1 : T} {a : ByteArray} {ts : List T} (hf : ts.length = j) {R : Nat × List A} (h0 : (x.get 2).num = 0)
    (h1 : Dz i_R03_Most none [A.t x, A.t (T.int (47 : Nat))] (1, [A.t y, A.t (T.int n)])) (h2 : Dz i_R03_GetText none [A.t y, A.t (T.int (256 : Nat))] (1, [A.t y1, A.t (T.str a)]))
    (h4 : Dz i_R10_get (some p_R10_get_c1) (gA d m (j + 1) y1 (ts ++ [mkT n 0 0 a []])) R) : Dz i_R10_get (some p_R10_get_c1) (gA d m j x ts) R := by
  obtain ⟨n1, h1⟩ := h1.both h2
  obtain ⟨n2, h2⟩ := h4
  have he := kind_eq hn
  obtain ⟨b1, b2, b3⟩ := rbits_tab ⟨n, by omega⟩
  have hw : IntKind.u64.wrap ((j : Int) + 1) = ((j + 1 : Nat) : Int) := by rw [show (j : Int) + 1 = ((j + 1 : Nat) : Int) by omega, wu64, Nat.mod_eq_of_lt (by omega)]
  refine Does.of (n1 + n2) fun q hq => ?_
  obtain ⟨q1, q2⟩ := h1 q (by omega)
  have q4 := h2 q (by omega)
  have q1' : den Tryz.prog G0 ents q i_R03_Most none [A.t x, A.t (T.int 47)] = _ := q1
  have q2' : den Tryz.prog G0 ents q i_R03_GetText none [A.t y, A.t (T.int 256)] = _ := q2
  obtain ⟨k1, k2, k3, k4⟩ := kbs hk
  unfold gA at q4 ⊢
  rw [q_R10_get_c1]
  simp only [S9, S1, num_int, txt_str, kids_node, q1', q2', h0, he, hw, b1, b2, b3, hf, k1, k2, k3, k4, Option.map_some, Option.bind_some, aAt_zero, aAt_succ, tree_t]
  rw [decide_eq_true (show (j : Int) < (m : Int) by omega), decide_eq_true (show Nat.succ j < 1073741824 by omega)]
  exact q4
theorem g_4 {d m j n k : Nat} (hm : m ≤ 512) (hj : j < m) (hn : n ≤ 47) (hk : n / 8 = 4) {x y y1 y2 : T} {ts fs : List T} (hf : ts.length = j) {R : Nat × List A} (h0 : (x.get 2).num = 0)
    (h1 : Dz i_R03_Most none [A.t x, A.t (T.int (47 : Nat))] (1, [A.t y, A.t (T.int n)])) (h2 : Dz i_R03_Most none [A.t y, A.t (T.int (32 : Nat))] (1, [A.t y1, A.t (T.int k)]))
    (h3 : Dz i_R10_get (some p_R10_get_c2) (fA d m j k 0 y1 n ts []) (4, fR d m j y2 n ts fs))
    (h4 : Dz i_R10_get (some p_R10_get_c1) (gA (d + 1) m (j + 1) y2 (ts ++ [mkT n 0 0 emptyB fs])) R) : Dz i_R10_get (some p_R10_get_c1) (gA (d + 1) m j x ts) R := by
  obtain ⟨n1, h1⟩ := h1.both h2
  obtain ⟨n2, h2⟩ := h3.both h4
  have he := kind_eq hn
  obtain ⟨b1, b2, b3⟩ := rbits_tab ⟨n, by omega⟩
  have hw : IntKind.u64.wrap ((j : Int) + 1) = ((j + 1 : Nat) : Int) := by rw [show (j : Int) + 1 = ((j + 1 : Nat) : Int) by omega, wu64, Nat.mod_eq_of_lt (by omega)]
  refine Does.of (n1 + n2) fun q hq => ?_
  obtain ⟨q1, q2⟩ := h1 q (by omega)
  obtain ⟨q3, q4⟩ := h2 q (by omega)
  have q1' : den Tryz.prog G0 ents q i_R03_Most none [A.t x, A.t (T.int 47)] = _ := q1
  have q2' : den Tryz.prog G0 ents q i_R03_Most none [A.t y, A.t (T.int 32)] = _ := q2
  have q3' : den Tryz.prog G0 ents q i_R10_get (some p_R10_get_c2) [A.t (T.int (d + 1 : Nat)), A.t (T.int m), A.t (T.int j), A.t (T.int k), A.t (T.int 0), A.t y1, A.t zr, A.t (T.int (n / 8 : Nat)), A.t (T.int 0), A.t (T.int 0), A.t (T.str ByteArray.empty),
   A.t (T.bool (decide (n / 2 % 2 = 1))), A.t (T.bool (decide (n % 2 = 1))), A.t (T.bool (decide (n / 4 % 2 = 1))), A.t (T.node []), A.t (T.node ts), A.t (T.node [])] = _ := q3
  obtain ⟨k1, k2, k3, k4⟩ := kbs hk
  unfold gA at q4 ⊢
  rw [q_R10_get_c1]
  simp only [S9, S1, num_int, tf_bool, txt_str, kids_node, q1', q2', h0, he, hw, b1, b2, b3, hf, k1, k2, k3, k4, Option.map_some, Option.bind_some, aAt_zero, aAt_succ, tree_t, q3', fR]
  rw [decide_eq_true (show (j : Int) < (m : Int) by omega), decide_eq_true (show Nat.succ j < 1073741824 by omega)]
  exact q4
theorem g_0 {d m j n : Nat} (hm : m ≤ 512) (hj : j < m) (hn : n ≤ 47) (hk : n / 8 = 0 ∨ n / 8 = 5) {x y : T} {ts : List T} (hf : ts.length = j) {R : Nat × List A} (h0 : (x.get 2).num = 0)
    (h1 : Dz i_R03_Most none [A.t x, A.t (T.int (47 : Nat))] (1, [A.t y, A.t (T.int n)]))
    (h4 : Dz i_R10_get (some p_R10_get_c1) (gA d m (j + 1) y (ts ++ [mkT n 0 0 emptyB []])) R) : Dz i_R10_get (some p_R10_get_c1) (gA d m j x ts) R := by
  obtain ⟨n1, h1⟩ := h1.both h4
  have he := kind_eq hn
  obtain ⟨b1, b2, b3⟩ := rbits_tab ⟨n, by omega⟩
  have hw : IntKind.u64.wrap ((j : Int) + 1) = ((j + 1 : Nat) : Int) := by rw [show (j : Int) + 1 = ((j + 1 : Nat) : Int) by omega, wu64, Nat.mod_eq_of_lt (by omega)]
  refine Does.of n1 fun q hq => ?_
  obtain ⟨q1, q4⟩ := h1 q (by omega)
  have q1' : den Tryz.prog G0 ents q i_R03_Most none [A.t x, A.t (T.int 47)] = _ := q1
  unfold gA at q4 ⊢
  rw [q_R10_get_c1]
  simp only [S9, S1, num_int, kids_node, q1', h0, he, hw, b1, b2, b3, hf, Option.map_some, Option.bind_some, aAt_zero, aAt_succ, tree_t]
  rw [decide_eq_true (show (j : Int) < (m : Int) by omega), decide_eq_true (show Nat.succ j < 1073741824 by omega)]
  rcases hk with hk | hk
  · obtain ⟨k1, k2, k3, k4⟩ := kbs hk
    simp only [k1, k2, k3, k4]
    exact q4
  · obtain ⟨k1, k2, k3, k4⟩ := kbs hk
    simp only [k1, k2, k3, k4]
    exact q4
theorem g_term {s : ByteArray} (hs : s.size ≤ 1000000000) {d : Nat} (hd : d ≤ 1000) (hV : Wok s d) {m j : Nat} (hm : m ≤ 512) (hj : j < m) {l : List UInt8} (hl : Suf s l) {ts : List T} (hf : ts.length = j) :
    (∀ t r, rdT (rdV d) l = some (t, r) → Suf s r ∧ ∀ R, Dz i_R10_get (some p_R10_get_c1) (gA (d + 1) m (j + 1) (rok s r) (ts ++ [t])) R → Dz i_R10_get (some p_R10_get_c1) (gA (d + 1) m j (rok s l) ts) R) ∧
    (rdT (rdV d) l = none → ∃ t x, Bad s x ∧ ∀ R, Dz i_R10_get (some p_R10_get_c1) (gA (d + 1) m (j + 1) x (ts ++ [t])) R → Dz i_R10_get (some p_R10_get_c1) (gA (d + 1) m j (rok s l) ts) R) := by
  obtain ⟨a1, a2⟩ := (rmost_does hs 47).1 l hl
  unfold rdT
  cases e1 : rdMost 47 l with
  | none =>
    refine ⟨fun t r h => by (rw [Option.bind_none] at h; cases h), fun _ => ?_⟩
    obtain ⟨y, hy, q⟩ := a2 (tN_none e1)
    exact ⟨_, y, hy, fun R h => g_0 (n := 0) hm hj (by omega) (by omega) hf rfl q h⟩
  | some p =>
    obtain ⟨n, y⟩ := p
    obtain ⟨q1, q⟩ := a1 _ _ (tN_some e1)
    have hn := (rdMost_sound e1).2
    rw [Option.bind_some]
    dsimp only
    rcases kinds hn with hk | hk | hk | hk
    · rw [if_pos hk]
      obtain ⟨b1, b2⟩ := (rint_does hs).1 y q1
      cases e2 : rdInt y with
      | none =>
        refine ⟨fun t r h => by (rw [Option.bind_none] at h; cases h), fun _ => ?_⟩
        obtain ⟨y1, hy1, q2⟩ := b2 (by rw [tI, e2]; rfl)
        obtain ⟨y2, hy2, q3⟩ := (rint_does hs).2 y1 hy1
        exact ⟨_, y2, hy2, fun R h => g_12 hm hj hn hk hf rfl q q2 q3 h⟩
      | some p =>
        obtain ⟨a, z⟩ := p
        obtain ⟨g1, q2⟩ := b1 (T.int a) z (by rw [tI, e2]; rfl)
        obtain ⟨c1, c2⟩ := (rint_does hs).1 z g1
        rw [Option.bind_some]
        dsimp only
        cases e3 : rdInt z with
        | none =>
          refine ⟨fun t r h => by (rw [Option.map_none] at h; cases h), fun _ => ?_⟩
          obtain ⟨y1, hy1, q3⟩ := c2 (by rw [tI, e3]; rfl)
          exact ⟨_, y1, hy1, fun R h => g_12 hm hj hn hk hf rfl q q2 q3 h⟩
        | some p =>
          obtain ⟨b, w⟩ := p
          obtain ⟨g2, q3⟩ := c1 (T.int b) w (by rw [tI, e3]; rfl)
          refine ⟨fun t r h => ?_, fun h => by (rw [Option.map_some] at h; cases h)⟩
          rw [Option.map_some] at h
          simp only [Option.some.injEq, Prod.mk.injEq] at h
          obtain ⟨rfl, rfl⟩ := h
          exact ⟨g2, fun R h => g_12 hm hj hn hk hf rfl q q2 q3 h⟩
    · rw [if_neg (by omega), if_pos hk]
      obtain ⟨b1, b2⟩ := (rtextr_does hs 256 (by omega)).1 y q1
      cases e2 : rdText 256 y with
      | none =>
        refine ⟨fun t r h => by (rw [Option.map_none] at h; cases h), fun _ => ?_⟩
        obtain ⟨y1, hy1, q2⟩ := b2 (by rw [tS, e2]; rfl)
        exact ⟨_, y1, hy1, fun R h => g_3 hm hj hn hk hf rfl q q2 h⟩
      | some p =>
        obtain ⟨a, z⟩ := p
        obtain ⟨g1, q2⟩ := b1 (T.str a) z (by rw [tS, e2]; rfl)
        refine ⟨fun t r h => ?_, fun h => by (rw [Option.map_some] at h; cases h)⟩
        rw [Option.map_some] at h
        simp only [Option.some.injEq, Prod.mk.injEq] at h
        obtain ⟨rfl, rfl⟩ := h
        exact ⟨g1, fun R h => g_3 hm hj hn hk hf rfl q q2 h⟩
    · rw [if_neg (by omega), if_neg (by omega), if_pos hk]
      obtain ⟨b1, b2⟩ := (rmost_does hs 32).1 y q1
      cases e2 : rdMost 32 y with
      | none =>
        refine ⟨fun t r h => by (rw [Option.bind_none] at h; cases h), fun _ => ?_⟩
        obtain ⟨y1, hy1, q2⟩ := b2 (tN_none e2)
        exact ⟨_, y1, hy1, fun R h => g_4 (k := 0) hm hj hn hk hf rfl q q2 (fl_out (.inl (Nat.le_refl _))) h⟩
      | some p =>
        obtain ⟨k, z⟩ := p
        obtain ⟨g1, q2⟩ := b1 _ _ (tN_some e2)
        have hkk := (rdMost_sound e2).2
        obtain ⟨c1, c2⟩ := fl_ok hs hd hV (m := m) (i := j) (n := n) (k := k) (by omega) ts k 0 z [] (by omega) rfl g1
        rw [Option.bind_some]
        dsimp only
        cases e3 : rdFs (rdV d) k z with
        | none =>
          refine ⟨fun t r h => by (rw [Option.map_none] at h; cases h), fun _ => ?_⟩
          obtain ⟨x', fs', h', q3⟩ := c2 e3
          exact ⟨_, x', h', fun R h => g_4 hm hj hn hk hf rfl q q2 q3 h⟩
        | some p =>
          obtain ⟨gs, w⟩ := p
          obtain ⟨g2, q3⟩ := c1 _ _ e3
          refine ⟨fun t r h => ?_, fun h => by (rw [Option.map_some] at h; cases h)⟩
          rw [Option.map_some] at h
          simp only [Option.some.injEq, Prod.mk.injEq] at h
          obtain ⟨rfl, rfl⟩ := h
          exact ⟨g2, fun R h => g_4 hm hj hn hk hf rfl q q2 q3 h⟩
    · rw [if_neg (by omega), if_neg (by omega), if_neg (by omega)]
      refine ⟨fun t r h => ?_, fun h => by cases h⟩
      simp only [Option.some.injEq, Prod.mk.injEq] at h
      obtain ⟨rfl, rfl⟩ := h
      exact ⟨q1, fun R h => g_0 hm hj hn hk hf rfl q h⟩
theorem gl_ok {s : ByteArray} (hs : s.size ≤ 1000000000) {d : Nat} (hd : d ≤ 1000) (hV : Wok s d) {m : Nat} (hm : m ≤ 512) : ∀ (k j : Nat) (l : List UInt8) (ts : List T), j + k = m → ts.length = j → Suf s l →
    (∀ us r, rdTs (rdV d) k l = some (us, r) → Suf s r ∧ Dz i_R10_get (some p_R10_get_c1) (gA (d + 1) m j (rok s l) ts) (2, [A.t (rok s r), A.t zr, A.t (T.node []), A.t (T.node (ts ++ us))])) ∧
    (rdTs (rdV d) k l = none → ∃ x ts', Bad s x ∧ Dz i_R10_get (some p_R10_get_c1) (gA (d + 1) m j (rok s l) ts) (2, [A.t x, A.t zr, A.t (T.node []), A.t (T.node ts')])) := by
  intro k
  induction k with
  | zero =>
    intro j l ts hj hf hl
    refine ⟨fun us r h => ?_, fun h => by cases h⟩
    cases h
    exact ⟨hl, by rw [List.append_nil]; exact gl_out (.inl (by omega))⟩
  | succ k ih =>
    intro j l ts hj hf hl
    obtain ⟨a1, a2⟩ := g_term hs hd hV hm (show j < m by omega) hl hf
    rw [rdTs]
    cases e1 : rdT (rdV d) l with
    | none =>
      refine ⟨fun us r h => by (rw [Option.bind_none] at h; cases h), fun _ => ?_⟩
      obtain ⟨t, x, hx, q⟩ := a2 e1
      exact ⟨x, _, hx, q _ (gl_out (.inr (bad_g2 hx)))⟩
    | some p =>
      obtain ⟨t, y⟩ := p
      obtain ⟨g1, q⟩ := a1 t y e1
      obtain ⟨b1, b2⟩ := ih (j + 1) y (ts ++ [t]) (by omega) (by rw [List.length_append, List.length_singleton, hf]) g1
      rw [Option.bind_some]
      dsimp only
      refine ⟨fun us r h => ?_, fun h => ?_⟩
      · obtain ⟨⟨vs, z⟩, e2, h⟩ := map_some h
        simp only [Prod.mk.injEq] at h
        obtain ⟨rfl, rfl⟩ := h
        obtain ⟨g2, q2⟩ := b1 vs z e2
        rw [List.append_assoc] at q2
        exact ⟨g2, q _ q2⟩
      · obtain ⟨x, ts', hx, q2⟩ := b2 (map_none h)
        exact ⟨x, ts', hx, q _ q2⟩
theorem get_start {D n : Nat} {x y z : T} {ts : List T} (h : D ≠ 0 ∨ (y.get 2).num ≠ 0) (h1 : Dz i_R03_Most none [A.t x, A.t (T.int (512 : Nat))] (1, [A.t y, A.t (T.int n)]))
    (h2 : Dz i_R10_get (some p_R10_get_c1) (gA D n 0 y []) (2, [A.t z, A.t zr, A.t (T.node []), A.t (T.node ts)])) : Dz i_R10_get none [A.t x, A.t (T.int D)] (1, [A.t z, A.t (T.node [T.node ts])]) := by
  obtain ⟨n1, h1⟩ := h1.both h2
  refine Does.of n1 fun k hk => ?_
  obtain ⟨q1, q2⟩ := h1 k (by omega)
  have q1' : den Tryz.prog G0 ents k i_R03_Most none [A.t x, A.t (T.int 512)] = _ := q1
  have q2' : den Tryz.prog G0 ents k i_R10_get (some p_R10_get_c1) [A.t (T.int D), A.t (T.int n), A.t (T.int 0), A.t y, A.t (T.node [T.str ByteArray.empty, T.int 0, T.int 0]), A.t (T.node []), A.t (T.node [])] = _ := q2
  rw [q_R10_get]
  simp only [S9, S1, num_int, txt_str, kids_node, q1', q2', Option.map_some, Option.bind_some, aAt_zero, aAt_succ, tree_t, Nat.beq_refl, cond_true]
  by_cases hD : D = 0
  · subst hD
    rw [show ((y.get 2).num == 0) = false from beq_eq_false_iff_ne.2 (h.resolve_left (fun h => h rfl))]
    rfl
  · rw [show (((D : Nat) : Int) == 0) = false from beq_eq_false_iff_ne.2 (by omega)]
    rfl
theorem get_zero {s : ByteArray} {n : Nat} {x : T} {l : List UInt8} (h1 : Dz i_R03_Most none [A.t x, A.t (T.int (512 : Nat))] (1, [A.t (rok s l), A.t (T.int n)])) :
    ∃ z, Bad s z ∧ Dz i_R10_get none [A.t x, A.t (T.int (0 : Nat))] (1, [A.t z, A.t (T.node [T.node []])]) := by
  have hb : Bad s (T.node [T.str s, T.int (pos s l : Nat), T.int 2]) := bad_mk s (pos s l : Nat) 2 (by decide)
  obtain ⟨n1, h1⟩ := h1.both (gl_out (d := 0) (m := n) (j := 0) (ts := []) (.inr (bad_g2 hb)))
  refine ⟨_, hb, Does.of n1 fun k hk => ?_⟩
  obtain ⟨q1, q2⟩ := h1 k (by omega)
  have q1' : den Tryz.prog G0 ents k i_R03_Most none [A.t x, A.t (T.int 512)] = _ := q1
  have q2' : den Tryz.prog G0 ents k i_R10_get (some p_R10_get_c1) [A.t (T.int 0), A.t (T.int n), A.t (T.int 0), A.t (T.node [T.str s, T.int (pos s l : Nat), T.int 2]), A.t (T.node [T.str ByteArray.empty, T.int 0, T.int 0]), A.t (T.node []), A.t (T.node [])] = _ := q2
  rw [q_R10_get]
  simp only [S9, S1, num_int, txt_str, kids_node, q1', rok_g0, rok_g1, rok_g2, show ((0 : Nat) : Int) = 0 from rfl, q2', Option.map_some, Option.bind_some, aAt_zero, aAt_succ, tree_t, Nat.beq_refl, cond_true]
  rfl
theorem rget_value {s : ByteArray} (hs : s.size ≤ 1000000000) : ∀ (d : Nat), d ≤ 1000 → Wok s d
  | 0, _ => by
    refine ⟨fun l hl => ⟨fun v r h => (by cases h), fun _ => ?_⟩, fun x hx => ?_⟩
    · obtain ⟨a1, a2⟩ := (rmost_does hs 512).1 l hl
      cases e1 : rdMost 512 l with
      | none =>
        obtain ⟨y, hy, q⟩ := a2 (tN_none e1)
        exact ⟨_, y, hy, get_start (n := 0) (.inr (bad_g2 hy)) q (gl_out (.inr (bad_g2 hy)))⟩
      | some p =>
        obtain ⟨n, y⟩ := p
        obtain ⟨g1, q⟩ := a1 _ _ (tN_some e1)
        obtain ⟨z, hz, q2⟩ := get_zero q
        exact ⟨_, z, hz, q2⟩
    · obtain ⟨y, hy, q⟩ := (rmost_does hs 512).2 x hx
      exact ⟨_, y, hy, get_start (n := 0) (.inr (bad_g2 hy)) q (gl_out (.inr (bad_g2 hy)))⟩
  | d + 1, hd => by
    have hV := rget_value hs d (by omega)
    refine ⟨fun l hl => ?_, fun x hx => ?_⟩
    · obtain ⟨a1, a2⟩ := (rmost_does hs 512).1 l hl
      rw [rdV]
      cases e1 : rdMost 512 l with
      | none =>
        refine ⟨fun v r h => by (rw [Option.bind_none] at h; cases h), fun _ => ?_⟩
        obtain ⟨y, hy, q⟩ := a2 (tN_none e1)
        exact ⟨_, y, hy, get_start (n := 0) (.inr (bad_g2 hy)) q (gl_out (.inr (bad_g2 hy)))⟩
      | some p =>
        obtain ⟨m, y⟩ := p
        obtain ⟨g1, q⟩ := a1 _ _ (tN_some e1)
        have hm := (rdMost_sound e1).2
        obtain ⟨b1, b2⟩ := gl_ok hs (by omega) hV hm m 0 y [] (by omega) rfl g1
        rw [Option.bind_some]
        dsimp only
        refine ⟨fun v r h => ?_, fun h => ?_⟩
        · obtain ⟨⟨us, z⟩, e2, h⟩ := map_some h
          simp only [Prod.mk.injEq] at h
          obtain ⟨rfl, rfl⟩ := h
          obtain ⟨g2, q2⟩ := b1 us z e2
          exact ⟨g2, get_start (.inl (by omega)) q q2⟩
        · obtain ⟨x, ts', hx, q2⟩ := b2 (map_none h)
          exact ⟨_, x, hx, get_start (.inl (by omega)) q q2⟩
    · obtain ⟨y, hy, q⟩ := (rmost_does hs 512).2 x hx
      exact ⟨_, y, hy, get_start (n := 0) (.inr (bad_g2 hy)) q (gl_out (.inr (bad_g2 hy)))⟩
end Go.Proofs.YtdofdhlpheaonaaGreatDoorTE
namespace Go.Proofs.YtdofdhlpheaonaaGreatDoorTE
open Go Go.Proofs.YtdofdhlpheaonaaGreatDoorVM
set_option linter.unusedVariables false
set_option linter.unusedSimpArgs false
set_option maxRecDepth 100000

theorem cmpL_map {f : T → T → Int} {g : T → T} : ∀ {l : List T}, (∀ x ∈ l, f (g x) x = 0) → cmpL f (l.map g) l = 0
  | [], _ => rfl
  | x :: l, h => by rw [List.map_cons, cmpL_cons, h x List.mem_cons_self, fst_zero]; exact cmpL_map fun y hy => h y (List.mem_cons_of_mem _ hy)
theorem cmpI_self (a : Int) : cmpI a a = 0 := cmpI_zero.2 rfl
theorem cmpB_self (a : ByteArray) : cmpB a a = 0 := cmpB_zero.2 rfl
theorem cmpF1_self (a : Bool) : cmpF1 a a = 0 := cmpF1_zero.2 rfl
theorem plainC_self (t : T) : plainC t t = 0 := by
  unfold plainC
  simp only [cmpI_self, cmpB_self, cmpF1_self, fst_zero]
theorem cmpV_self : ∀ (d : Nat) (v : T), cmpV d v v = 0
  | 0, v => rfl
  | d + 1, v => by
    rw [cmpV_succ]
    have := cmpL_map (f := cmpT d) (g := fun t => t) (l := terms v) fun t _ => by
      unfold cmpT
      rw [plainC_self, fst_zero]
      have := cmpL_map (f := cmpG d) (g := fun t => t) (l := flds t) fun f _ => by
        unfold cmpG
        rw [cmpB_self, fst_zero]
        exact cmpV_self d (val f)
      rwa [List.map_id'] at this
    rwa [List.map_id'] at this
theorem r08same_does {a b : T} (ha : Sm 20 a) (hb : Sm 20 b) : Dz i_R08_Same none [A.t a, A.t b] (1, [A.t (T.bool (decide (cmpV 20 a b = 0)))]) := by
  obtain ⟨n0, h0⟩ := rcompare_does 20 a b ha hb
  refine Does.of n0 fun m hm => ?_
  rw [q_R08_Same]
  simp only [S0, S9, S1, S2, if_true, if_false, h0 m hm, beqI]
def noV : T := .node [.node []]
theorem Sm_noV : Sm 20 noV := ⟨fun t ht => (by cases ht), by decide⟩
def decV (s : ByteArray) : T × Int :=
  match rdV 16 s.data.toList with
  | some (v, []) => if refV 20 v then (v, 0) else (noV, 2)
  | _ => (noV, 2)
theorem pos_all (s : ByteArray) : pos s s.data.toList = 0 := by unfold pos; rw [len_toList]; omega
theorem decode_gen {s : ByteArray} (hs : s.size ≤ 1000000000) (hsm : ∀ v, rdV 16 s.data.toList = some (v, []) → Sm 20 v) : Dz i_code_Decode none [A.t (T.str s)] (1, [A.t (decV s).1, A.t (T.int (decV s).2)]) := by
  have h0 : Dz i_vint_New none [A.t (T.str s)] (1, [A.t (rok s s.data.toList)]) := by
    refine Does.now fun m => ?_
    rw [q_vint_New]
    simp only [S0, S9, S1, S2, if_true, if_false, rok, pos_all]
    rfl
  obtain ⟨a1, a2⟩ := (value_does (s := s) (by omega) 16 (by omega)).1 _ (Suf.all s)
  unfold decV
  cases e : rdV 16 s.data.toList with
  | none =>
    obtain ⟨v, o, x, hx, q1⟩ := a2 e
    obtain ⟨n1, h1⟩ := h0.both q1
    have hend : o = false → ∃ e : Int, e ≠ 0 ∧ Dz i_vint_Reader_End none [A.t x] (1, [A.t (T.int e), A.t x]) := fun ho => by
      subst ho
      exact vend_bad (hx.2.resolve_left (by decide))
    cases o with
    | true =>
      refine Does.of n1 fun m hm => ?_
      obtain ⟨q1, q2⟩ := h1 m hm
      have q2' : den Tryz.prog G0 ents m i_code_reader_value none [A.t (T.int 16), A.t (T.bool false), A.t (rok s s.data.toList)] = _ := q2
      rw [q_code_Decode]
      simp only [S0, S9, S1, S2, if_true, if_false, q1, q2']
      rfl
    | false =>
      obtain ⟨z, hz, n2, h2⟩ := hend rfl
      refine Does.of (n1 + n2) fun m hm => ?_
      obtain ⟨q1, q2⟩ := h1 m (by omega)
      have q2' : den Tryz.prog G0 ents m i_code_reader_value none [A.t (T.int 16), A.t (T.bool false), A.t (rok s s.data.toList)] = _ := q2
      have hne : (z != 0) = true := bne_iff_ne.2 hz
      rw [q_code_Decode]
      simp only [S0, S9, S1, S2, if_true, if_false, q1, q2', h2 m (by omega), hne]
      rfl
  | some p =>
    obtain ⟨v, r⟩ := p
    obtain ⟨g1, u1⟩ := a1 v r e
    obtain ⟨n1, h1⟩ := h0.both u1
    obtain ⟨n2, h2⟩ := vend_ok (s := s) (by omega) g1
    cases r with
    | nil =>
      obtain ⟨n3, h3⟩ := lright_does (hsm v e)
      refine Does.of (n1 + n2 + n3) fun m hm => ?_
      obtain ⟨q1, q2⟩ := h1 m (by omega)
      have q2' : den Tryz.prog G0 ents m i_code_reader_value none [A.t (T.int 16), A.t (T.bool false), A.t (rok s s.data.toList)] = _ := q2
      have q3' : den Tryz.prog G0 ents m i_vint_Reader_End none [A.t (rok s [])] = some (1, [A.t (T.int 0), A.t (rok s [])]) := h2 m (by omega)
      rw [q_code_Decode]
      simp only [S0, S9, S1, S2, if_true, if_false, q1, q2', q3', h3 m (by omega)]
      cases refV 20 v <;> rfl
    | cons c r =>
      refine Does.of (n1 + n2) fun m hm => ?_
      obtain ⟨q1, q2⟩ := h1 m (by omega)
      have q2' : den Tryz.prog G0 ents m i_code_reader_value none [A.t (T.int 16), A.t (T.bool false), A.t (rok s s.data.toList)] = _ := q2
      have q3' : den Tryz.prog G0 ents m i_vint_Reader_End none [A.t (rok s (c :: r))] = some (1, [A.t (T.int 4), A.t (rok s (c :: r))]) := h2 m (by omega)
      rw [q_code_Decode]
      simp only [S0, S9, S1, S2, if_true, if_false, q1, q2', q3']
      rfl
theorem decode_does {s : ByteArray} (hs : s.size ≤ 512) : Dz i_code_Decode none [A.t (T.str s)] (1, [A.t (decV s).1, A.t (T.int (decV s).2)]) :=
  decode_gen (by omega) fun v e => (rdV_sm (show 16 ≤ 20 by omega) (by rw [len_toList]; exact hs) e).1
theorem rdecode_does {s : ByteArray} (hs : s.size ≤ 512) : Dz i_R10_Decode none [A.t (T.str s)] (1, [A.t (decV s).1, A.t (T.int (decV s).2)]) := by
  have hrk : rok s s.data.toList = T.node [T.str s, T.int 0, T.int 0] := by unfold rok; rw [pos_all]; rfl
  obtain ⟨a1, a2⟩ := (rget_value (s := s) (by omega) 16 (by omega)).1 _ (Suf.all s)
  rw [hrk] at a1 a2
  unfold decV
  cases e : rdV 16 s.data.toList with
  | none =>
    obtain ⟨v, x, hx, q1⟩ := a2 e
    obtain ⟨z, hz, q2⟩ := rend_bad hx
    obtain ⟨n1, h1⟩ := q1.both q2
    refine Does.of n1 fun m hm => ?_
    obtain ⟨q1, q2⟩ := h1 m hm
    have q1' : den Tryz.prog G0 ents m i_R10_get none [A.t (T.node [T.str s, T.int 0, T.int 0]), A.t (T.int 16)] = _ := q1
    have hne : (z != 0) = true := bne_iff_ne.2 hz
    rw [q_R10_Decode]
    simp only [S0, S9, S1, S2, if_true, if_false, q1', q2, hne]
    rfl
  | some p =>
    obtain ⟨v, r⟩ := p
    obtain ⟨g1, u1⟩ := a1 v r e
    have hsm := rdV_sm (show 16 ≤ 20 by omega) (by rw [len_toList]; exact hs) e
    obtain ⟨n1, h1⟩ := u1.both (rend_ok (s := s) (by omega) g1)
    obtain ⟨n2, h2⟩ := refRight_does hsm.1
    cases r with
    | nil =>
      have hb : s.data.toList = encV 20 v := by rw [hsm.2, List.append_nil]
      have hsb : sb (encV 20 v) = s := by rw [← hb, sb_toList]
      cases hr : refV 20 v with
      | false =>
        refine Does.of (n1 + n2) fun m hm => ?_
        obtain ⟨q1, q3⟩ := h1 m (by omega)
        have q1' : den Tryz.prog G0 ents m i_R10_get none [A.t (T.node [T.str s, T.int 0, T.int 0]), A.t (T.int 16)] = _ := q1
        have q3' : den Tryz.prog G0 ents m i_R03_End none [A.t (rok s [])] = some (1, [A.t (T.int 0)]) := q3
        rw [q_R10_Decode]
        simp only [S0, S9, S1, S2, if_true, if_false, q1', q3', h2 m (by omega), hr]
        rfl
      | true =>
        obtain ⟨n3, h3⟩ := of_does 20 v hsm.1 (refV_EV hr) (by rw [← hb, len_toList]; omega)
        refine Does.of (n1 + n2 + n3) fun m hm => ?_
        obtain ⟨q1, q3⟩ := h1 m (by omega)
        have q1' : den Tryz.prog G0 ents m i_R10_get none [A.t (T.node [T.str s, T.int 0, T.int 0]), A.t (T.int 16)] = _ := q1
        have q3' : den Tryz.prog G0 ents m i_R03_End none [A.t (rok s [])] = some (1, [A.t (T.int 0)]) := q3
        have q4 := h3 m (by omega)
        rw [hsb] at q4
        rw [q_R10_Decode]
        simp only [S0, S9, S1, S2, if_true, if_false, q1', q3', h2 m (by omega), hr, q4, seq_dec]
        rfl
    | cons c r =>
      refine Does.of (n1 + n2) fun m hm => ?_
      obtain ⟨q1, q3⟩ := h1 m (by omega)
      have q1' : den Tryz.prog G0 ents m i_R10_get none [A.t (T.node [T.str s, T.int 0, T.int 0]), A.t (T.int 16)] = _ := q1
      have q3' : den Tryz.prog G0 ents m i_R03_End none [A.t (rok s (c :: r))] = some (1, [A.t (T.int 4)]) := q3
      rw [q_R10_Decode]
      simp only [S0, S9, S1, S2, if_true, if_false, q1', q3']
      rfl
theorem decV_sm {s : ByteArray} (hs : s.size ≤ 512) : Sm 20 (decV s).1 := by
  unfold decV
  cases e : rdV 16 s.data.toList with
  | none => exact Sm_noV
  | some p =>
    obtain ⟨v, r⟩ := p
    have hsm := rdV_sm (show 16 ≤ 20 by omega) (by rw [len_toList]; exact hs) e
    cases r with
    | nil =>
      dsimp only
      split
      · exact hsm.1
      · exact Sm_noV
    | cons c r => exact Sm_noV
end Go.Proofs.YtdofdhlpheaonaaGreatDoorTE
namespace Go.Proofs.YtdofdhlpheaonaaGreatDoorTE
open Go Go.Proofs.YtdofdhlpheaonaaGreatDoorVM
set_option linter.unusedVariables false
set_option linter.unusedSimpArgs false
set_option maxRecDepth 100000

def re (x : T) : Int := (x.get 0).num
def rv (x : T) : T := x.get 1
def zeroR : T := .node [.int 0, noV]
def goodR (x : T) : Bool := if re x = 0 then refV 20 (rv x) else decide (1 ≤ re x) && (decide (re x ≤ 63) && decide ((terms (rv x)).length = 0))
theorem re_eq (x : T) : (T.get x 0).num = re x := id rfl
theorem rv_eq (x : T) : T.get x 1 = rv x := id rfl
theorem lz (n : Nat) : (((n : Nat) : Int) == 0) = decide (n = 0) := by rw [Bool.eq_iff_iff]; simp
theorem good_does {x : T} (h : re x = 0 → Sm 20 (rv x)) : Dz i_trace_Good none [A.t x] (1, [A.t (T.bool (goodR x))]) := by
  unfold goodR
  by_cases h0 : re x = 0
  · rw [if_pos h0]
    obtain ⟨n0, h1⟩ := lright_does (h h0)
    refine Does.of n0 fun m hm => ?_
    rw [q_trace_Good]
    simp only [S0, S9, S1, S2, if_true, if_false, re_eq, rv_eq, h0, h1 m hm]
  · rw [if_neg h0]
    refine Does.now fun m => ?_
    rw [q_trace_Good]
    simp only [S0, S9, S1, S2, if_true, if_false, re_eq, rv_eq, h0, lz]
    by_cases h1 : 1 ≤ re x
    · rw [if_pos (by omega), decide_eq_true h1]
      by_cases h2 : re x ≤ 63
      · rw [if_pos h2, decide_eq_true h2]; rfl
      · rw [if_neg h2, decide_eq_false h2]; rfl
    · rw [if_neg (by omega), decide_eq_false h1]; rfl
theorem rgood_does {x : T} (h : re x = 0 → Sm 20 (rv x)) : Dz i_R21_Good none [A.t x] (1, [A.t (T.bool (goodR x))]) := by
  unfold goodR
  by_cases h0 : re x = 0
  · rw [if_pos h0]
    obtain ⟨n0, h1⟩ := refRight_does (h h0)
    refine Does.of n0 fun m hm => ?_
    rw [q_R21_Good]
    simp only [S0, S9, S1, S2, if_true, if_false, re_eq, rv_eq, h0, h1 m hm]
  · rw [if_neg h0]
    refine Does.now fun m => ?_
    rw [q_R21_Good]
    simp only [S0, S9, S1, S2, if_true, if_false, re_eq, rv_eq, h0, lz]
    by_cases h1 : 1 ≤ re x
    · rw [if_pos (by omega), decide_eq_true h1]
      by_cases h2 : re x ≤ 63
      · rw [if_pos (by omega), decide_eq_true h2]; rfl
      · rw [if_neg (by omega), decide_eq_false h2]; rfl
    · rw [if_neg (by omega), decide_eq_false h1]; rfl
def resB (x : T) : List UInt8 := numB (re x).toNat ++ if re x = 0 then textB (sb (encV 20 (rv x))) else []
theorem result_does {x : T} (hg : goodR x = true) (h : re x = 0 → Sm 20 (rv x) ∧ (encV 20 (rv x)).length ≤ 50000000) : Dz i_R21_Result none [A.t x] (1, [A.t (T.str (sb (resB x)))]) := by
  unfold goodR at hg
  unfold resB
  have hr : ∃ n : Nat, re x = (n : Int) ∧ n ≤ 63 := by
    by_cases h0 : re x = 0
    · exact ⟨0, h0, by omega⟩
    · rw [if_neg h0] at hg
      simp only [Bool.and_eq_true, decide_eq_true_eq] at hg
      exact ⟨(re x).toNat, by omega, by omega⟩
  obtain ⟨n, hn, hn63⟩ := hr
  have hw : IntKind.u64.wrap ((n : Nat) : Int) = ((n : Nat) : Int) := by rw [wu64, Nat.mod_eq_of_lt (by omega)]
  obtain ⟨n1, h1⟩ := rnum_does n (by omega)
  have hl1 := numB_len n
  by_cases h0 : re x = 0
  · rw [if_pos h0] at hg
    obtain ⟨hs, hl⟩ := h h0
    obtain ⟨n2, h2⟩ := (of_does 20 (rv x) hs (refV_EV hg) (by omega)).both (rtext_does (sb (encV 20 (rv x))) (by rw [sb_size]; omega))
    have hl2 := textB_len (sb (encV 20 (rv x)))
    rw [sb_size] at hl2
    refine Does.of (n1 + n2) fun m hm => ?_
    have q1 := h1 m (by omega)
    obtain ⟨q2, q3⟩ := h2 m (by omega)
    have hn0 : n = 0 := by omega
    rw [q_R21_Result]
    simp only [S0, S9, S1, re_eq, rv_eq, hn, hw, q1, q2, q3, sb_size, sb_app, Int.toNat_natCast]
    subst hn0
    rw [if_pos (by rfl), if_pos (by omega), if_pos (by rfl)]
  · refine Does.of n1 fun m hm => ?_
    rw [q_R21_Result]
    simp only [S0, S9, S1, re_eq, rv_eq, hn, hw, h1 m hm, Int.toNat_natCast]
    rw [if_neg (by omega), if_neg (by omega), List.append_nil]

def readR (s : ByteArray) : T × Int :=
  match rdMost 63 s.data.toList with
  | none => (zeroR, 2)
  | some (n, r) =>
    if n = 0 then
      match rdText 1000 r with
      | none => (zeroR, 2)
      | some (t, y) => if (decV t).2 = 0 ∧ y.length = 0 then (.node [.int 0, (decV t).1], 0) else (zeroR, 2)
    else if r.length = 0 then (.node [.int (n : Nat), noV], 0) else (zeroR, 2)
theorem decV_zero {t : ByteArray} (ht : t.size ≤ 512) (h : (decV t).2 = 0) : refV 20 (decV t).1 = true ∧ t.data.toList = encV 20 (decV t).1 := by
  unfold decV at h ⊢
  cases e : rdV 16 t.data.toList with
  | none => rw [e] at h; cases h
  | some p =>
    obtain ⟨v, r⟩ := p
    rw [e] at h
    cases r with
    | cons c r => cases h
    | nil =>
      dsimp only at h ⊢
      cases hr : refV 20 v with
      | false => rw [hr] at h; cases h
      | true =>
        have hsm := rdV_sm (show 16 ≤ 20 by omega) (by rw [len_toList]; exact ht) e
        refine ⟨by rw [if_pos rfl]; exact hr, ?_⟩
        rw [if_pos rfl, hsm.2, List.append_nil]
theorem decV_two {t : ByteArray} (h : (decV t).2 ≠ 0) : (decV t).2 = 2 := by
  unfold decV at h ⊢
  cases e : rdV 16 t.data.toList with
  | none => rfl
  | some p =>
    obtain ⟨v, r⟩ := p
    rw [e] at h
    cases r with
    | cons c r => rfl
    | nil =>
      dsimp only at h ⊢
      cases hr : refV 20 v with
      | false => rfl
      | true => rw [hr] at h; exact absurd rfl h
theorem rdText_big {b c : Nat} {l : List UInt8} (hb : l.length ≤ b) (hc : l.length ≤ c) : rdText b l = rdText c l := by
  have one : ∀ b, l.length ≤ b → rdText b l = (rdNum l).bind fun p => if p.1 ≤ p.2.length then some (sb (p.2.take p.1), p.2.drop p.1) else none := by
    intro b hb
    unfold rdText rdMost
    cases e : rdNum l with
    | none => rfl
    | some p =>
      obtain ⟨n, r⟩ := p
      have h := congrArg List.length (rdNum_sound e).1
      rw [List.length_append] at h
      rw [Option.bind_some, Option.bind_some]
      dsimp only
      by_cases h1 : n ≤ b
      · rw [if_pos h1, Option.bind_some]
      · rw [if_neg h1, Option.bind_none, if_neg (by omega)]
  rw [one b hb, one c hc]
theorem vnew_does (s : ByteArray) : Dz i_vint_New none [A.t (T.str s)] (1, [A.t (rok s s.data.toList)]) := by
  refine Does.now fun m => ?_
  rw [q_vint_New]
  simp only [S0, S9, S1, S2, if_true, if_false, rok, pos_all]
  rfl
theorem read_does {s : ByteArray} (hs : s.size ≤ 500) : Dz i_trace_Read none [A.t (T.str s)] (1, [A.t (readR s).1, A.t (T.int (readR s).2)]) := by
  obtain ⟨a1, a2⟩ := (vmost_does (s := s) (by omega) 63).1 _ (Suf.all s)
  unfold readR
  cases e1 : rdMost 63 s.data.toList with
  | none =>
    obtain ⟨x, hx, q⟩ := a2 (tN_none e1)
    obtain ⟨z, hz, q2⟩ := verr_bad hx
    obtain ⟨w, hw, q3⟩ := vend_bad hx
    obtain ⟨n1, h1⟩ := (vnew_does s).both q
    obtain ⟨n2, h2⟩ := q2.both q3
    refine Does.of (n1 + n2) fun m hm => ?_
    obtain ⟨q1, q2⟩ := h1 m (by omega)
    obtain ⟨q3, q4⟩ := h2 m (by omega)
    have q2' : den Tryz.prog G0 ents m i_vint_Reader_Most none [A.t (T.int 63), A.t (rok s s.data.toList)] = _ := q2
    rw [q_trace_Read]
    simp only [S0, S9, S1, S2, if_true, if_false, q1, q2', q3, q4, hz, hw]
    rfl
  | some p =>
    obtain ⟨n, r⟩ := p
    obtain ⟨g1, q⟩ := a1 _ _ (tN_some e1)
    have hn := (rdMost_sound e1).2
    have hrl := g1.len
    dsimp only
    obtain ⟨n1, h1⟩ := (vnew_does s).both q
    obtain ⟨n2, h2⟩ := verr_ok s r
    have hw6 : IntKind.i64.wrap ((n : Nat) : Int) = ((n : Nat) : Int) := i64nat (by omega)
    by_cases h0 : n = 0
    · rw [if_pos h0]
      subst h0
      obtain ⟨b1, b2⟩ := (vtext_does (s := s) (by omega) 1048576 (by omega)).1 r g1
      have hbig : rdText 1048576 r = rdText 1000 r := rdText_big (by omega) (by omega)
      unfold tS at b1 b2
      rw [hbig] at b1 b2
      cases e2 : rdText 1000 r with
      | none =>
        obtain ⟨y, hy, q2⟩ := b2 (by rw [e2]; rfl)
        obtain ⟨n3, h3⟩ := q2.both (decode_does (s := emptyB) (by decide))
        have hd : (decV emptyB).2 = 2 := by decide +kernel
        refine Does.of (n1 + n2 + n3) fun m hm => ?_
        obtain ⟨q1, q2⟩ := h1 m (by omega)
        have q3 := h2 m (by omega)
        obtain ⟨q4, q5⟩ := h3 m (by omega)
        have q2' : den Tryz.prog G0 ents m i_vint_Reader_Most none [A.t (T.int 63), A.t (rok s s.data.toList)] = _ := q2
        have q4' : den Tryz.prog G0 ents m i_vint_Reader_GetText none [A.t (T.int 1048576), A.t (rok s r)] = _ := q4
        rw [q_trace_Read]
        simp only [S0, S9, S1, S2, if_true, if_false, q1, q2', q3, q4', hw6, q5, hd]
        rfl
      | some p =>
        obtain ⟨t, y⟩ := p
        obtain ⟨g2, q2⟩ := b1 (T.str t) y (by rw [e2]; rfl)
        have ht : t.size ≤ 500 := by
          have h := congrArg List.length (rdText_sound e2).1
          rw [textB, List.length_append, List.length_append, len_toList] at h
          omega
        dsimp only
        obtain ⟨n3, h3⟩ := q2.both (decode_does (s := t) (by omega))
        obtain ⟨n4, h4⟩ := vend_ok (s := s) (by omega) g2
        refine Does.of (n1 + n2 + n3 + n4) fun m hm => ?_
        obtain ⟨q1, q2⟩ := h1 m (by omega)
        have q3 := h2 m (by omega)
        obtain ⟨q4, q5⟩ := h3 m (by omega)
        have q6 := h4 m (by omega)
        have q2' : den Tryz.prog G0 ents m i_vint_Reader_Most none [A.t (T.int 63), A.t (rok s s.data.toList)] = _ := q2
        have q4' : den Tryz.prog G0 ents m i_vint_Reader_GetText none [A.t (T.int 1048576), A.t (rok s r)] = _ := q4
        rw [q_trace_Read]
        simp only [S0, S9, S1, S2, if_true, if_false, q1, q2', q3, q4', hw6, q5, q6]
        rw [if_pos (show ((0 : Nat) : Int) = 0 from rfl)]
        by_cases hd : (decV t).2 = 0
        · by_cases hy : y.length = 0
          · rw [if_neg (not_not_intro hd), if_pos hy, if_neg (not_not_intro rfl), if_pos ⟨hd, hy⟩]
            rfl
          · rw [if_neg (not_not_intro hd), if_neg hy, if_pos (by decide), if_neg (fun h => hy h.2)]
            rfl
        · rw [if_pos hd, if_neg (fun h => hd h.1)]
          rfl
    · rw [if_neg h0]
      obtain ⟨n4, h4⟩ := vend_ok (s := s) (by omega) g1
      refine Does.of (n1 + n2 + n4) fun m hm => ?_
      obtain ⟨q1, q2⟩ := h1 m (by omega)
      have q3 := h2 m (by omega)
      have q6 := h4 m (by omega)
      have q2' : den Tryz.prog G0 ents m i_vint_Reader_Most none [A.t (T.int 63), A.t (rok s s.data.toList)] = _ := q2
      rw [q_trace_Read]
      simp only [S0, S9, S1, S2, if_true, if_false, q1, q2', q3, hw6, q6]
      by_cases hy : r.length = 0
      · rw [if_neg (by omega), if_pos hy, if_pos hy]
        rfl
      · rw [if_neg (by omega), if_neg hy, if_neg hy]
        rfl
end Go.Proofs.YtdofdhlpheaonaaGreatDoorTE
namespace Go.Proofs.YtdofdhlpheaonaaGreatDoorTE
open Go Go.Proofs.YtdofdhlpheaonaaGreatDoorVM
set_option linter.unusedVariables false
set_option linter.unusedSimpArgs false
set_option maxRecDepth 100000

theorem readR_good {s : ByteArray} (hs : s.size ≤ 500) (h : (readR s).2 = 0) : goodR (readR s).1 = true ∧ sb (resB (readR s).1) = s ∧ Sm 20 (rv (readR s).1) := by
  unfold readR at h ⊢
  cases e1 : rdMost 63 s.data.toList with
  | none => rw [e1] at h; cases h
  | some p =>
    obtain ⟨n, r⟩ := p
    rw [e1] at h
    obtain ⟨hl, hn⟩ := rdMost_sound e1
    dsimp only at h ⊢
    by_cases h0 : n = 0
    · rw [if_pos h0] at h ⊢
      cases e2 : rdText 1000 r with
      | none => rw [e2] at h; cases h
      | some p =>
        obtain ⟨t, y⟩ := p
        rw [e2] at h
        obtain ⟨hr, ht⟩ := rdText_sound e2
        dsimp only at h ⊢
        by_cases hc : (decV t).2 = 0 ∧ y.length = 0
        · rw [if_pos hc]
          have htl : t.size ≤ 500 := by
            have h1 := congrArg List.length hl
            have h2 := congrArg List.length hr
            rw [len_toList, List.length_append] at h1
            rw [textB, List.length_append, List.length_append, len_toList] at h2
            omega
          obtain ⟨d1, d2⟩ := decV_zero (by omega) hc.1
          have hsm := decV_sm (s := t) (by omega)
          have hy : y = [] := List.length_eq_zero_iff.1 hc.2
          refine ⟨?_, ?_, hsm⟩
          · show (if (0 : Int) = 0 then refV 20 (decV t).1 else _) = true
            rw [if_pos rfl]; exact d1
          · have hb : resB (.node [.int 0, (decV t).1]) = numB 0 ++ textB t := by
              show numB 0 ++ (if (0 : Int) = 0 then textB (sb (encV 20 (decV t).1)) else []) = _
              rw [if_pos rfl, ← d2, sb_toList]
            rw [hb]
            subst h0
            rw [hy, List.append_nil] at hr
            rw [← hr, ← hl, sb_toList]
        · rw [if_neg hc] at h; cases h
    · rw [if_neg h0] at h ⊢
      by_cases hc : r.length = 0
      · rw [if_pos hc]
        have hr : r = [] := List.length_eq_zero_iff.1 hc
        refine ⟨?_, ?_, Sm_noV⟩
        · show (if ((n : Nat) : Int) = 0 then _ else decide (1 ≤ ((n : Nat) : Int)) && (decide (((n : Nat) : Int) ≤ 63) && decide ((terms noV).length = 0))) = true
          rw [if_neg (by omega), decide_eq_true (by omega), decide_eq_true (by omega)]
          rfl
        · have hb : resB (.node [.int (n : Nat), noV]) = numB n := by
            show numB (((n : Nat) : Int)).toNat ++ (if ((n : Nat) : Int) = 0 then _ else []) = _
            rw [if_neg (by omega), List.append_nil, Int.toNat_natCast]
          rw [hb]
          rw [hr, List.append_nil] at hl
          rw [← hl, sb_toList]
      · rw [if_neg hc] at h; cases h
theorem readR_two {s : ByteArray} (h : (readR s).2 ≠ 0) : (readR s).2 = 2 ∧ (readR s).1 = zeroR := by
  unfold readR at h ⊢
  cases e1 : rdMost 63 s.data.toList with
  | none => exact ⟨rfl, rfl⟩
  | some p =>
    obtain ⟨n, r⟩ := p
    rw [e1] at h
    dsimp only at h ⊢
    by_cases h0 : n = 0
    · rw [if_pos h0] at h ⊢
      cases e2 : rdText 1000 r with
      | none => exact ⟨rfl, rfl⟩
      | some p =>
        obtain ⟨t, y⟩ := p
        rw [e2] at h
        dsimp only at h ⊢
        by_cases hc : (decV t).2 = 0 ∧ y.length = 0
        · rw [if_pos hc] at h; exact absurd rfl h
        · rw [if_neg hc]; exact ⟨rfl, rfl⟩
    · rw [if_neg h0] at h ⊢
      by_cases hc : r.length = 0
      · rw [if_pos hc] at h; exact absurd rfl h
      · rw [if_neg hc]; exact ⟨rfl, rfl⟩
theorem rok_all (s : ByteArray) : rok s s.data.toList = T.node [T.str s, T.int 0, T.int 0] := by unfold rok; rw [pos_all]; rfl
theorem ite_code (o : Bool) (a b : Option (Nat × List A)) : (if (!o) = true then a else b) = if o = true then b else a := by cases o <;> rfl
theorem rread_does {s : ByteArray} (hs : s.size ≤ 500) : Dz i_R21_Read none [A.t (T.str s)] (1, [A.t (readR s).1, A.t (T.int (readR s).2)]) := by
  obtain ⟨a1, a2⟩ := (rmost_does (s := s) (by omega) 63).1 _ (Suf.all s)
  rw [rok_all] at a1 a2
  -- what is well read is of right bytes
  have fin : (readR s).2 = 0 → ∃ n0, ∀ m, n0 ≤ m → den Tryz.prog G0 ents m i_R21_Good none [A.t (readR s).1] = some (1, [A.t (T.bool true)]) ∧ den Tryz.prog G0 ents m i_R21_Result none [A.t (readR s).1] = some (1, [A.t (T.str s)]) := fun h => by
    obtain ⟨g1, g2, g3⟩ := readR_good hs h
    have b := encV_bound g3
    obtain ⟨n0, h0⟩ := (rgood_does (x := (readR s).1) (fun _ => g3)).both (result_does g1 (fun _ => ⟨g3, b⟩))
    rw [g1, g2] at h0
    exact ⟨n0, h0⟩
  unfold readR at fin ⊢
  cases e1 : rdMost 63 s.data.toList with
  | none =>
    obtain ⟨x, hx, q⟩ := a2 (tN_none e1)
    obtain ⟨z, hz, q2⟩ := rend_bad hx
    obtain ⟨n1, h1⟩ := q.both q2
    have hne : (z != 0) = true := bne_iff_ne.2 hz
    refine Does.of n1 fun m hm => ?_
    obtain ⟨q1, q2⟩ := h1 m (by omega)
    have q1' : den Tryz.prog G0 ents m i_R03_Most none [A.t (T.node [T.str s, T.int 0, T.int 0]), A.t (T.int 63)] = _ := q1
    rw [q_R21_Read]
    simp only [S0, S9, S1, S2, if_true, if_false, q1', q2, bad_g2 hx, hne]
    rfl
  | some p =>
    obtain ⟨n, r⟩ := p
    obtain ⟨g1, q⟩ := a1 _ _ (tN_some e1)
    have hn := (rdMost_sound e1).2
    have hrl := g1.len
    rw [e1] at fin
    dsimp only at fin ⊢
    obtain ⟨n1, h1⟩ := q
    have hw6 : IntKind.i64.wrap ((n : Nat) : Int) = ((n : Nat) : Int) := i64nat (by omega)
    by_cases h0 : n = 0
    · rw [if_pos h0] at fin ⊢
      subst h0
      have hw60 : IntKind.i64.wrap 0 = 0 := hw6
      obtain ⟨b1, b2⟩ := (rtextr_does (s := s) (by omega) 1000000000 (by omega)).1 r g1
      have hbig : rdText 1000000000 r = rdText 1000 r := rdText_big (by omega) (by omega)
      unfold tS at b1 b2
      rw [hbig] at b1 b2
      cases e2 : rdText 1000 r with
      | none =>
        obtain ⟨y, hy, q2⟩ := b2 (by rw [e2]; rfl)
        obtain ⟨n3, h3⟩ := q2.both (rdecode_does (s := emptyB) (by decide))
        have hd : (decV emptyB).2 = 2 := by decide +kernel
        refine Does.of (n1 + n3) fun m hm => ?_
        have q1' : den Tryz.prog G0 ents m i_R03_Most none [A.t (T.node [T.str s, T.int 0, T.int 0]), A.t (T.int 63)] = _ := h1 m (by omega)
        obtain ⟨q4, q5⟩ := h3 m (by omega)
        have q4' : den Tryz.prog G0 ents m i_R03_GetText none [A.t (rok s r), A.t (T.int 1000000000)] = _ := q4
        rw [q_R21_Read]
        simp only [S0, S9, S1, S2, if_true, if_false, q1', rok_g2, q4', hw6, q5, hd]
        rfl
      | some p =>
        obtain ⟨t, y⟩ := p
        obtain ⟨g2, q2⟩ := b1 (T.str t) y (by rw [e2]; rfl)
        have ht : t.size ≤ 500 := by
          have h := congrArg List.length (rdText_sound e2).1
          rw [textB, List.length_append, List.length_append, len_toList] at h
          omega
        rw [e2] at fin
        dsimp only at fin ⊢
        obtain ⟨n3, h3⟩ := q2.both (rdecode_does (s := t) (by omega))
        obtain ⟨n4, h4⟩ := rend_ok (s := s) (by omega) g2
        by_cases hd : (decV t).2 = 0
        · by_cases hy : y.length = 0
          · rw [if_pos ⟨hd, hy⟩] at fin ⊢
            obtain ⟨n5, h5⟩ := fin rfl
            refine Does.of (n1 + n3 + n4 + n5) fun m hm => ?_
            have q1' : den Tryz.prog G0 ents m i_R03_Most none [A.t (T.node [T.str s, T.int 0, T.int 0]), A.t (T.int 63)] = _ := h1 m (by omega)
            obtain ⟨q4, q5⟩ := h3 m (by omega)
            have q6 := h4 m (by omega)
            rw [if_pos hy] at q6
            obtain ⟨q7, q8⟩ := h5 m (by omega)
            have q4' : den Tryz.prog G0 ents m i_R03_GetText none [A.t (rok s r), A.t (T.int 1000000000)] = _ := q4
            rw [q_R21_Read]
            simp only [S0, S9, S1, S2, if_true, if_false, q1', rok_g2, q4', hw6, q5, hd, q6, show ((0 : Nat) : Int) = 0 from rfl, hw60, q7, q8, seq_dec]
            rfl
          · rw [if_neg (fun h => hy h.2)]
            refine Does.of (n1 + n3 + n4) fun m hm => ?_
            have q1' : den Tryz.prog G0 ents m i_R03_Most none [A.t (T.node [T.str s, T.int 0, T.int 0]), A.t (T.int 63)] = _ := h1 m (by omega)
            obtain ⟨q4, q5⟩ := h3 m (by omega)
            have q6 := h4 m (by omega)
            rw [if_neg hy] at q6
            have q4' : den Tryz.prog G0 ents m i_R03_GetText none [A.t (rok s r), A.t (T.int 1000000000)] = _ := q4
            rw [q_R21_Read]
            simp only [S0, S9, S1, S2, if_true, if_false, q1', rok_g2, q4', hw6, q5, hd, q6, show ((0 : Nat) : Int) = 0 from rfl]
            rfl
        · rw [if_neg (fun h => hd h.1)]
          refine Does.of (n1 + n3) fun m hm => ?_
          have q1' : den Tryz.prog G0 ents m i_R03_Most none [A.t (T.node [T.str s, T.int 0, T.int 0]), A.t (T.int 63)] = _ := h1 m (by omega)
          obtain ⟨q4, q5⟩ := h3 m (by omega)
          have q4' : den Tryz.prog G0 ents m i_R03_GetText none [A.t (rok s r), A.t (T.int 1000000000)] = _ := q4
          rw [q_R21_Read]
          simp only [S0, S9, S1, S2, if_true, if_false, q1', rok_g2, q4', hw6, q5, show ((0 : Nat) : Int) = 0 from rfl]
          rw [if_pos hd]
          rfl
    · rw [if_neg h0] at fin ⊢
      obtain ⟨n4, h4⟩ := rend_ok (s := s) (by omega) g1
      by_cases hy : r.length = 0
      · rw [if_pos hy] at fin ⊢
        obtain ⟨n5, h5⟩ := fin rfl
        refine Does.of (n1 + n4 + n5) fun m hm => ?_
        have q1' : den Tryz.prog G0 ents m i_R03_Most none [A.t (T.node [T.str s, T.int 0, T.int 0]), A.t (T.int 63)] = _ := h1 m (by omega)
        have q6 := h4 m (by omega)
        rw [if_pos hy] at q6
        obtain ⟨q7, q8⟩ := h5 m (by omega)
        have q7' : den Tryz.prog G0 ents m i_R21_Good none [A.t (T.node [T.int (n : Nat), T.node [T.node []]])] = _ := q7
        have q8' : den Tryz.prog G0 ents m i_R21_Result none [A.t (T.node [T.int (n : Nat), T.node [T.node []]])] = _ := q8
        rw [q_R21_Read]
        simp only [S0, S9, S1, S2, if_true, if_false, q1', rok_g2, hw6, q6, q7', q8', seq_dec]
        rw [if_neg (by omega)]
        rfl
      · rw [if_neg hy]
        refine Does.of (n1 + n4) fun m hm => ?_
        have q1' : den Tryz.prog G0 ents m i_R03_Most none [A.t (T.node [T.str s, T.int 0, T.int 0]), A.t (T.int 63)] = _ := h1 m (by omega)
        have q6 := h4 m (by omega)
        rw [if_neg hy] at q6
        rw [q_R21_Read]
        simp only [S0, S9, S1, S2, if_true, if_false, q1', rok_g2, hw6, q6]
        rw [if_neg (by omega)]
        rfl
end Go.Proofs.YtdofdhlpheaonaaGreatDoorTE
namespace Go.Proofs.YtdofdhlpheaonaaGreatDoorTE
open Go Go.Proofs.YtdofdhlpheaonaaGreatDoorVM
set_option linter.unusedVariables false
set_option linter.unusedSimpArgs false
set_option maxRecDepth 100000

def againAt (l : List T) (j : Nat) : Bool := (l.take j).any fun x => seqB (nm x) (nm (tAtD l j))
def okD (l : List T) (j : Nat) : Bool := !againAt l j && (nameB (nm (tAtD l j)) && goodR (val (tAtD l j)))
def rightD (l : List T) : Bool := allN (okD l) l.length 0
theorem nmT_eq (x : T) : (T.get x 0).txt = nm x := id rfl
theorem valT_eq (x : T) : T.get x 1 = val x := id rfl
theorem tright_loop (l : List T) (hl : l.length ≤ 256) (hg : ∀ d ∈ l, Sm 20 (rv (val d))) : ∀ (k j : Nat), j + k = l.length →
    Dz i_trace_Right (some p_trace_Right_c1) [A.t (T.node l), A.t (T.node l), A.t (T.int (l.length : Nat)), A.t (T.int j)] (if allN (okD l) k j then (2, []) else (1, [A.t (T.bool false)])) := by
  intro k
  induction k with
  | zero =>
    intro j hj
    refine Does.now fun m => ?_
    rw [q_trace_Right_c1, allN]
    simp only [S0, S9, S1, S2, if_true, if_false]
    rw [if_neg (by omega)]
  | succ k ih =>
    intro j hj
    have hlt : j < l.length := by omega
    have hm := List.getElem_mem hlt
    have hw : IntKind.i64.wrap ((j : Int) + 1) = ((j + 1 : Nat) : Int) := i64succ (by omega)
    have hcf : ∀ x ∈ l.take j, Dz i_trace_Right_1 none [A.t x, A.t l[j]] (1, [A.t (T.bool (seqB (nm x) (nm l[j]))), A.t l[j]]) := fun x _ => by
      refine Does.now fun m => ?_
      rw [q_trace_Right_1]
      simp only [S0, S9, S1, S2, if_true, if_false, nmT_eq]
    have hcon := has1_does q_slices_ContainsFunc_Dep_Right1 q_slices_IndexFunc_Dep_Right1 q_slices_IndexFunc_Dep_Right1_c1 (l.take j) l[j] (fun x => seqB (nm x) (nm l[j])) (by rw [List.length_take]; omega) hcf
    obtain ⟨n1, h1⟩ := hcon.both (nameR_does (nm l[j]))
    obtain ⟨n2, h2⟩ := (good_does (x := val l[j]) (fun _ => hg _ hm)).both (ih (j + 1) (by omega))
    refine Does.of (n1 + n2) fun m hmm => ?_
    obtain ⟨q1, q2⟩ := h1 m (by omega)
    obtain ⟨q3, q4⟩ := h2 m (by omega)
    have hok : okD l j = (!((l.take j).any fun x => seqB (nm x) (nm l[j])) && (nameB (nm l[j]) && goodR (val l[j]))) := by unfold okD againAt; rw [at_get hlt]
    rw [q_trace_Right_c1, allN, hok]
    simp only [S0, S9, S1, Int.toNat_natCast, at_get hlt, List.drop_zero, q1, nmT_eq, valT_eq, q2, q3, hw, q4]
    rw [if_pos (by omega), if_pos (by omega), if_pos (by simp; omega), if_pos (by first | (simp; omega) | (show decide _ = false; exact decide_eq_false (by omega)))]
    cases allN (okD l) k (j + 1) <;> cases (l.take j).any fun x => seqB (nm x) (nm l[j]) <;> cases nameB (nm l[j]) <;> cases goodR (val l[j]) <;> rfl
theorem tright_does (l : List T) (hl : l.length ≤ 256) (hg : ∀ d ∈ l, Sm 20 (rv (val d))) : Dz i_trace_Right none [A.t (T.node l)] (1, [A.t (T.bool (rightD l))]) := by
  obtain ⟨n0, h0⟩ := tright_loop l hl hg l.length 0 (by omega)
  refine Does.of n0 fun m hm => ?_
  have q : den Tryz.prog G0 ents m i_trace_Right (some p_trace_Right_c1) [A.t (T.node l), A.t (T.node l), A.t (T.int (l.length : Nat)), A.t (T.int 0)] = _ := h0 m hm
  rw [q_trace_Right]
  simp only [S0, S9, S1, S2, if_true, if_false, q]
  unfold rightD
  cases allN (okD l) l.length 0 <;> rfl
theorem take_drop_cons {l : List T} {i j : Nat} (hij : i < j) (hj : j ≤ l.length) : (l.take j).drop i = tAtD l i :: (l.take j).drop (i + 1) := by
  have h1 : i < (l.take j).length := by rw [List.length_take]; omega
  rw [List.drop_eq_getElem_cons h1, List.getElem_take, at_get (show i < l.length by omega)]
theorem rright_o_c2 (l : List T) (j : Nat) (hj : j < l.length) (hl : l.length ≤ 1000000) : ∀ (k i : Nat), i + k = j →
    Dz i_R21_Right_o (some p_R21_Right_o_c2) [A.t (T.int j), A.t (T.int i), A.t (T.node l)] (if ((l.take j).drop i).any (fun x => seqB (nm x) (nm (tAtD l j))) then (1, [A.t (T.bool false), A.t (T.node l)]) else (4, [A.t (T.int j), A.t (T.node l)])) := by
  intro k
  induction k with
  | zero =>
    intro i hi
    rw [List.drop_of_length_le (by rw [List.length_take]; omega)]
    refine Does.now fun m => ?_
    rw [q_R21_Right_o_c2]
    simp only [S0, S9, S1, S2, if_true, if_false, List.any_nil]
    rw [if_neg (by omega)]
  | succ k ih =>
    intro i hi
    have hlt : i < l.length := by omega
    have hw : IntKind.i64.wrap ((i : Int) + 1) = ((i + 1 : Nat) : Int) := i64succ (by omega)
    obtain ⟨n0, h0⟩ := ih (i + 1) (by omega)
    rw [take_drop_cons (by omega) (by omega), List.any_cons]
    refine Does.of n0 fun m hm => ?_
    rw [q_R21_Right_o_c2]
    simp only [S0, S9, S1, Int.toNat_natCast, at_get hlt, at_get hj, nmT_eq, hw]
    rw [if_pos (by omega), if_pos (by omega), if_pos (by omega), if_pos (by omega), if_pos (by omega)]
    cases hb : seqB (nm l[i]) (nm l[j]) with
    | true => rfl
    | false =>
      have := h0 m hm
      rw [at_get hj] at this
      simp only [Bool.false_eq_true, if_false, false_or]
      exact this
theorem rright_o_loop (l : List T) (hl : l.length ≤ 1000000) (hg : ∀ d ∈ l, Sm 20 (rv (val d))) : ∀ (k j : Nat), j + k = l.length →
    Dz i_R21_Right_o (some p_R21_Right_o_c1) [A.t (T.int j), A.t (T.node l)] (if allN (okD l) k j then (2, [A.t (T.node l)]) else (1, [A.t (T.bool false), A.t (T.node l)])) := by
  intro k
  induction k with
  | zero =>
    intro j hj
    refine Does.now fun m => ?_
    rw [q_R21_Right_o_c1, allN]
    simp only [S0, S9, S1, S2, if_true, if_false]
    rw [if_neg (by omega)]
  | succ k ih =>
    intro j hj
    have hlt : j < l.length := by omega
    have hm := List.getElem_mem hlt
    have hw : IntKind.i64.wrap ((j : Int) + 1) = ((j + 1 : Nat) : Int) := i64succ (by omega)
    obtain ⟨n1, h1⟩ := (rname_does (nm l[j])).both (rgood_does (x := val l[j]) (fun _ => hg _ hm))
    have hc2 := rright_o_c2 l j hlt hl j 0 (by omega)
    rw [List.drop_zero] at hc2
    obtain ⟨n2, h2⟩ := hc2.both (ih (j + 1) (by omega))
    refine Does.of (n1 + n2) fun m hmm => ?_
    obtain ⟨q1, q2⟩ := h1 m (by omega)
    obtain ⟨q3, q4⟩ := h2 m (by omega)
    have q3' : den Tryz.prog G0 ents m i_R21_Right_o (some p_R21_Right_o_c2) [A.t (T.int j), A.t (T.int 0), A.t (T.node l)] = some (if againAt l j then (1, [A.t (T.bool false), A.t (T.node l)]) else (4, [A.t (T.int j), A.t (T.node l)])) := q3
    have hok : okD l j = (!againAt l j && (nameB (nm l[j]) && goodR (val l[j]))) := by unfold okD; rw [at_get hlt]
    rw [q_R21_Right_o_c1, allN, hok]
    simp only [S0, S9, S1, Int.toNat_natCast, at_get hlt, nmT_eq, valT_eq, q1, q2, q3']
    rw [if_pos (by omega), if_pos (by omega), if_pos (by omega)]
    cases nameB (nm l[j]) with
    | false => cases againAt l j <;> rfl
    | true =>
      rw [if_pos (by rfl), if_pos (by omega), if_pos (by omega)]
      cases goodR (val l[j]) with
      | false => cases againAt l j <;> rfl
      | true =>
        cases againAt l j with
        | true => rfl
        | false =>
          simp only [S0, hw, q4, Bool.false_eq_true, if_false]
          cases allN (okD l) k (j + 1) <;> rfl
theorem rright_o_does (l : List T) (hl : l.length ≤ 256) (hg : ∀ d ∈ l, Sm 20 (rv (val d))) : Dz i_R21_Right_o none [A.t (T.node l)] (1, [A.t (T.bool (rightD l)), A.t (T.node l)]) := by
  obtain ⟨n0, h0⟩ := rright_o_loop l (by omega) hg l.length 0 (by omega)
  refine Does.of n0 fun m hm => ?_
  have q : den Tryz.prog G0 ents m i_R21_Right_o (some p_R21_Right_o_c1) [A.t (T.int 0), A.t (T.node l)] = _ := h0 m hm
  rw [q_R21_Right_o]
  simp only [S0, S9, S1, S2, if_true, if_false, q]
  unfold rightD
  cases allN (okD l) l.length 0 with
  | false => rfl
  | true =>
    have : decide (((l.length : Nat) : Int) ≤ 256) = true := decide_eq_true (by omega)
    simp only [S0, if_true, this]
def sameR (x y : T) : Bool := decide (re x = re y) && decide (cmpV 20 (rv x) (rv y) = 0)
def depAt (a b : List T) (j : Nat) : Bool := seqB (nm (tAtD a j)) (nm (tAtD b j)) && sameR (val (tAtD a j)) (val (tAtD b j))
def depsB (a b : List T) : Bool := decide (a.length = b.length) && allN (depAt a b) a.length 0
theorem rsameR_does {x y : T} (hx : Sm 20 (rv x)) (hy : Sm 20 (rv y)) : Dz i_R19_Same none [A.t x, A.t y] (1, [A.t (T.bool (sameR x y))]) := by
  obtain ⟨n0, h0⟩ := r08same_does hx hy
  refine Does.of n0 fun m hm => ?_
  rw [q_R19_Same]
  simp only [S0, S9, S1, S2, if_true, if_false, re_eq, rv_eq, h0 m hm]
  unfold sameR
  by_cases h : re x = re y
  · rw [if_pos h, decide_eq_true h]; rfl
  · rw [if_neg h, decide_eq_false h]; rfl
theorem rdeps_loop (a b : List T) (hab : a.length = b.length) (hl : a.length ≤ 1000000) (ha : ∀ d ∈ a, Sm 20 (rv (val d))) (hb : ∀ d ∈ b, Sm 20 (rv (val d))) : ∀ (k j : Nat), j + k = a.length →
    Dz i_R19_Deps (some p_R19_Deps_c1) [A.t (T.node a), A.t (T.node b), A.t (T.int j)] (if allN (depAt a b) k j then (2, []) else (1, [A.t (T.bool false)])) := by
  intro k
  induction k with
  | zero =>
    intro j hj
    refine Does.now fun m => ?_
    rw [q_R19_Deps_c1, allN]
    simp only [S0, S9, S1, S2, if_true, if_false]
    rw [if_neg (by omega)]
  | succ k ih =>
    intro j hj
    have hlt : j < a.length := by omega
    have hlt2 : j < b.length := by omega
    have hw : IntKind.i64.wrap ((j : Int) + 1) = ((j + 1 : Nat) : Int) := i64succ (by omega)
    obtain ⟨n1, h1⟩ := (rsameR_does (ha _ (List.getElem_mem hlt)) (hb _ (List.getElem_mem hlt2))).both (ih (j + 1) (by omega))
    refine Does.of n1 fun m hmm => ?_
    obtain ⟨q1, q2⟩ := h1 m (by omega)
    have hok : depAt a b j = (seqB (nm a[j]) (nm b[j]) && sameR (val a[j]) (val b[j])) := by unfold depAt; rw [at_get hlt, at_get hlt2]
    rw [q_R19_Deps_c1, allN, hok]
    simp only [S0, S9, S1, Int.toNat_natCast, at_get hlt, at_get hlt2, nmT_eq, valT_eq, q1, hw, q2]
    rw [if_pos (by omega), if_pos (by omega), if_pos (by omega)]
    cases seqB (nm a[j]) (nm b[j]) with
    | false => rfl
    | true =>
      rw [if_pos (by rfl), if_pos (by omega), if_pos (by omega)]
      cases allN (depAt a b) k (j + 1) <;> cases sameR (val a[j]) (val b[j]) <;> rfl
theorem rdeps_does (a b : List T) (hl : a.length ≤ 1000000) (hl2 : b.length ≤ 1000000) (ha : ∀ d ∈ a, Sm 20 (rv (val d))) (hb : ∀ d ∈ b, Sm 20 (rv (val d))) : Dz i_R19_Deps none [A.t (T.node a), A.t (T.node b)] (1, [A.t (T.bool (depsB a b))]) := by
  unfold depsB
  by_cases hab : a.length = b.length
  · obtain ⟨n0, h0⟩ := rdeps_loop a b hab hl ha hb a.length 0 (by omega)
    refine Does.of n0 fun m hm => ?_
    have q : den Tryz.prog G0 ents m i_R19_Deps (some p_R19_Deps_c1) [A.t (T.node a), A.t (T.node b), A.t (T.int 0)] = _ := h0 m hm
    rw [q_R19_Deps]
    simp only [S0, S9, S1, S2, if_true, if_false, q]
    rw [if_neg (by omega), decide_eq_true hab]
    cases allN (depAt a b) a.length 0 <;> rfl
  · refine Does.now fun m => ?_
    rw [q_R19_Deps]
    simp only [S0, S9, S1, S2, if_true, if_false]
    rw [if_pos (by omega), decide_eq_false hab]
    rfl
theorem depsB_self (l : List T) : depsB l l = true := by
  unfold depsB
  rw [decide_eq_true rfl, Bool.true_and, allN_iff]
  intro i _ _
  unfold depAt sameR
  rw [cmpV_self, seq_dec, decide_eq_true rfl, decide_eq_true rfl]
  rfl
end Go.Proofs.YtdofdhlpheaonaaGreatDoorTE
namespace Go.Proofs.YtdofdhlpheaonaaGreatDoorTE
open Go Go.Proofs.YtdofdhlpheaonaaGreatDoorVM
set_option linter.unusedVariables false
set_option linter.unusedSimpArgs false
set_option maxRecDepth 100000

def depB (d : T) : List UInt8 := textB (nm d) ++ textB (sb (resB (val d)))
def ofD (l : List T) : List UInt8 := numB l.length ++ l.flatMap depB
def rdDeps : Nat → List UInt8 → Option (List T × List UInt8)
  | 0, l => some ([], l)
  | m + 1, l => (rdText 16 l).bind fun p => (rdText 1000 p.2).bind fun q => if (readR q.1).2 = 0 then (rdDeps m q.2).map fun y => (T.node [T.str p.1, (readR q.1).1] :: y.1, y.2) else none
def decD (s : ByteArray) : List T × Int :=
  match rdMost 256 s.data.toList with
  | none => ([], 2)
  | some (m, r) => match rdDeps m r with
    | none => ([], 2)
    | some (l, y) => if y.length = 0 ∧ rightD l = true then (l, 0) else ([], 2)
theorem rdText_len {b : Nat} {l r : List UInt8} {t : ByteArray} (h : rdText b l = some (t, r)) : t.size + r.length ≤ l.length := by
  have e := congrArg List.length (rdText_sound h).1
  rw [textB, List.length_append, List.length_append, len_toList] at e
  omega
theorem rdDeps_sound : ∀ (m : Nat) (l : List UInt8) (us : List T) (r : List UInt8), l.length ≤ 500 → rdDeps m l = some (us, r) →
    us.length = m ∧ l = us.flatMap depB ++ r ∧ ∀ d ∈ us, Sm 20 (rv (val d)) ∧ goodR (val d) = true
  | 0, l, us, r, _, h => by
    cases h
    exact ⟨rfl, rfl, by simp⟩
  | m + 1, l, us, r, hl, h => by
    rw [rdDeps] at h
    obtain ⟨⟨s, x⟩, h1, h⟩ := bind_some h
    obtain ⟨⟨t, y⟩, h2, h⟩ := bind_some h
    dsimp only at h h2
    by_cases hc : (readR t).2 = 0
    · rw [if_pos hc] at h
      obtain ⟨⟨vs, z⟩, h3, h⟩ := map_some h
      simp only [Prod.mk.injEq] at h
      obtain ⟨rfl, rfl⟩ := h
      have l1 := rdText_len h1
      have l2 := rdText_len h2
      obtain ⟨g1, g2, g3⟩ := readR_good (s := t) (by omega) hc
      obtain ⟨e1, e2, e3⟩ := rdDeps_sound m y vs z (by omega) h3
      have en : nm (T.node [T.str s, (readR t).1]) = s := rfl
      have ev : val (T.node [T.str s, (readR t).1]) = (readR t).1 := rfl
      refine ⟨by rw [List.length_cons, e1], ?_, fun d hd => ?_⟩
      · rw [List.flatMap_cons, depB, en, ev, g2, List.append_assoc, List.append_assoc, ← e2, ← (rdText_sound h2).1, ← (rdText_sound h1).1]
      · rcases List.mem_cons.1 hd with rfl | hd
        · rw [ev]; exact ⟨g3, g1⟩
        · exact e3 d hd
    · rw [if_neg hc] at h; cases h
theorem readR_empty : (readR emptyB).2 = 2 := by decide +kernel
theorem tdec_loop {s : ByteArray} (hs : s.size ≤ 500) {m : Nat} (hm : m ≤ 256) : ∀ (k j : Nat) (l : List UInt8) (ts : List T), j + k = m → ts.length = j → Suf s l →
    (∀ us r, rdDeps k l = some (us, r) → Suf s r ∧ Dz i_trace_Decode (some p_trace_Decode_c1) [A.t (T.int m), A.t (T.int j), A.t (rok s l), A.t (T.node ts)] (2, [A.t (T.node (ts ++ us)), A.t (rok s r)])) ∧
    (rdDeps k l = none → Dz i_trace_Decode (some p_trace_Decode_c1) [A.t (T.int m), A.t (T.int j), A.t (rok s l), A.t (T.node ts)] (1, [A.t (T.node []), A.t (T.int 2)])) := by
  intro k
  induction k with
  | zero =>
    intro j l ts hj hf hl
    refine ⟨fun us r h => ?_, fun h => by cases h⟩
    cases h
    refine ⟨hl, Does.now fun q => ?_⟩
    rw [q_trace_Decode_c1]
    simp only [S0, S9, S1, S2, if_true, if_false, List.append_nil]
    rw [if_neg (by omega)]
  | succ k ih =>
    intro j l ts hj hf hl
    have hll := hl.len
    have hw : IntKind.u64.wrap ((j : Int) + 1) = ((j + 1 : Nat) : Int) := by rw [show (j : Int) + 1 = ((j + 1 : Nat) : Int) by omega, wu64, Nat.mod_eq_of_lt (by omega)]
    -- one round
    have one : ∀ (a t : ByteArray) (x1 x2 : T) (e : Int), t.size ≤ 500 → Dz i_vint_Reader_GetText none [A.t (T.int (16 : Nat)), A.t (rok s l)] (1, [A.t (T.str a), A.t x1]) → Dz i_vint_Reader_GetText none [A.t (T.int (1048576 : Nat)), A.t x1] (1, [A.t (T.str t), A.t x2]) →
        Dz i_vint_Reader_Err none [A.t x2] (1, [A.t (T.int e), A.t x2]) →
        (e ≠ 0 ∨ (readR t).2 ≠ 0 → Dz i_trace_Decode (some p_trace_Decode_c1) [A.t (T.int m), A.t (T.int j), A.t (rok s l), A.t (T.node ts)] (1, [A.t (T.node []), A.t (T.int 2)])) ∧
        (e = 0 → (readR t).2 = 0 → ∀ R, Dz i_trace_Decode (some p_trace_Decode_c1) [A.t (T.int m), A.t (T.int (j + 1 : Nat)), A.t x2, A.t (T.node (ts ++ [T.node [T.str a, (readR t).1]]))] R → Dz i_trace_Decode (some p_trace_Decode_c1) [A.t (T.int m), A.t (T.int j), A.t (rok s l), A.t (T.node ts)] R) := by
      intro a t x1 x2 e ht h1 h2 h3
      obtain ⟨n1, h1⟩ := h1.both h2
      obtain ⟨n2, h2⟩ := (read_does ht).both h3
      refine ⟨fun hc => Does.of (n1 + n2) fun q hq => ?_, fun he hc R hR => ?_⟩
      · obtain ⟨q1, q2⟩ := h1 q (by omega)
        obtain ⟨q3, q4⟩ := h2 q (by omega)
        have q1' : den Tryz.prog G0 ents q i_vint_Reader_GetText none [A.t (T.int 16), A.t (rok s l)] = _ := q1
        have q2' : den Tryz.prog G0 ents q i_vint_Reader_GetText none [A.t (T.int 1048576), A.t x1] = _ := q2
        rw [q_trace_Decode_c1]
        simp only [S0, S9, S1, q1', q2', q3, q4]
        rw [if_pos (by omega)]
        by_cases he : e = 0
        · have hr := hc.resolve_left (fun h => h he)
          have : (e != 0) = false := by rw [he]; rfl
          rw [this, if_pos rfl, if_pos hr]
        · have : (e != 0) = true := bne_iff_ne.2 he
          rw [this, if_neg (by decide)]
      · obtain ⟨n3, h3⟩ := hR
        refine Does.of (n1 + n2 + n3) fun q hq => ?_
        obtain ⟨q1, q2⟩ := h1 q (by omega)
        obtain ⟨q3, q4⟩ := h2 q (by omega)
        have q5 := h3 q (by omega)
        have q1' : den Tryz.prog G0 ents q i_vint_Reader_GetText none [A.t (T.int 16), A.t (rok s l)] = _ := q1
        have q2' : den Tryz.prog G0 ents q i_vint_Reader_GetText none [A.t (T.int 1048576), A.t x1] = _ := q2
        rw [q_trace_Decode_c1]
        simp only [S0, S9, S1, q1', q2', q3, q4, hw, q5, hf]
        have : (e != 0) = false := by rw [he]; rfl
        rw [if_pos (by omega), this, if_pos rfl, if_neg (not_not_intro hc), if_pos (by omega)]
    obtain ⟨a1, a2⟩ := (vtext_does (s := s) (by omega) 16 (by omega)).1 l hl
    rw [rdDeps]
    cases e1 : rdText 16 l with
    | none =>
      refine ⟨fun us r h => by (rw [Option.bind_none] at h; cases h), fun _ => ?_⟩
      obtain ⟨x, hx, q⟩ := a2 (by rw [tS, e1]; rfl)
      obtain ⟨y, hy, q2⟩ := (vtext_does (s := s) (by omega) 1048576 (by omega)).2 x hx
      obtain ⟨e, he, q3⟩ := verr_bad hy
      exact (one emptyB emptyB x y e (by decide) q q2 q3).1 (.inl he)
    | some p =>
      obtain ⟨a, x⟩ := p
      obtain ⟨g1, q⟩ := a1 (T.str a) x (by rw [tS, e1]; rfl)
      have hxl := g1.len
      obtain ⟨b1, b2⟩ := (vtext_does (s := s) (by omega) 1048576 (by omega)).1 x g1
      have hbig : rdText 1048576 x = rdText 1000 x := rdText_big (by omega) (by omega)
      unfold tS at b1 b2
      rw [hbig] at b1 b2
      rw [Option.bind_some]
      dsimp only
      cases e2 : rdText 1000 x with
      | none =>
        refine ⟨fun us r h => by (rw [Option.bind_none] at h; cases h), fun _ => ?_⟩
        obtain ⟨y, hy, q2⟩ := b2 (by rw [e2]; rfl)
        obtain ⟨e, he, q3⟩ := verr_bad hy
        exact (one a emptyB _ y e (by decide) q q2 q3).1 (.inl he)
      | some p =>
        obtain ⟨t, y⟩ := p
        obtain ⟨g2, q2⟩ := b1 (T.str t) y (by rw [e2]; rfl)
        have l2 := rdText_len e2
        have hone := one a t _ _ 0 (by omega) q q2 (verr_ok s y)
        rw [Option.bind_some]
        dsimp only
        by_cases hc : (readR t).2 = 0
        · rw [if_pos hc]
          obtain ⟨c1, c2⟩ := ih (j + 1) y (ts ++ [T.node [T.str a, (readR t).1]]) (by omega) (by rw [List.length_append, List.length_singleton, hf]) g2
          refine ⟨fun us r h => ?_, fun h => hone.2 rfl hc _ (c2 (map_none h))⟩
          obtain ⟨⟨vs, z⟩, e3, h⟩ := map_some h
          simp only [Prod.mk.injEq] at h
          obtain ⟨rfl, rfl⟩ := h
          obtain ⟨g3, q3⟩ := c1 vs z e3
          rw [List.append_assoc] at q3
          exact ⟨g3, hone.2 rfl hc _ q3⟩
        · rw [if_neg hc]
          exact ⟨fun us r h => by (cases h), fun _ => hone.1 (.inr hc)⟩
theorem tdec_does {s : ByteArray} (hs : s.size ≤ 500) : Dz i_trace_Decode none [A.t (T.str s)] (1, [A.t (T.node (decD s).1), A.t (T.int (decD s).2)]) := by
  obtain ⟨a1, a2⟩ := (vmost_does (s := s) (by omega) 256).1 _ (Suf.all s)
  unfold decD
  cases e1 : rdMost 256 s.data.toList with
  | none =>
    obtain ⟨x, hx, q⟩ := a2 (tN_none e1)
    obtain ⟨z, hz, q2⟩ := vend_bad hx
    have q3 : Dz i_trace_Decode (some p_trace_Decode_c1) [A.t (T.int 0), A.t (T.int 0), A.t x, A.t (T.node [])] (2, [A.t (T.node []), A.t x]) := by
      refine Does.now fun q => ?_
      rw [q_trace_Decode_c1]
      simp only [S0, S9, S1, S2, if_true, if_false]
      rw [if_neg (by omega)]
    obtain ⟨n1, h1⟩ := (vnew_does s).both q
    obtain ⟨n2, h2⟩ := q2.both q3
    have hne : (z != 0) = true := bne_iff_ne.2 hz
    refine Does.of (n1 + n2) fun m hm => ?_
    obtain ⟨q1, q2⟩ := h1 m (by omega)
    obtain ⟨q3, q4⟩ := h2 m (by omega)
    have q2' : den Tryz.prog G0 ents m i_vint_Reader_Most none [A.t (T.int 256), A.t (rok s s.data.toList)] = _ := q2
    rw [q_trace_Decode]
    simp only [S0, S9, S1, S2, if_true, if_false, q1, q2', q3, q4, hne]
    rfl
  | some p =>
    obtain ⟨n, r⟩ := p
    obtain ⟨g1, q⟩ := a1 _ _ (tN_some e1)
    have hn := (rdMost_sound e1).2
    have hrl := g1.len
    dsimp only
    obtain ⟨n1, h1⟩ := (vnew_does s).both q
    obtain ⟨b1, b2⟩ := tdec_loop hs hn n 0 r [] (by omega) rfl g1
    cases e2 : rdDeps n r with
    | none =>
      obtain ⟨n2, h2⟩ := b2 e2
      refine Does.of (n1 + n2) fun m hm => ?_
      obtain ⟨q1, q2⟩ := h1 m (by omega)
      have q2' : den Tryz.prog G0 ents m i_vint_Reader_Most none [A.t (T.int 256), A.t (rok s s.data.toList)] = _ := q2
      have q3 : den Tryz.prog G0 ents m i_trace_Decode (some p_trace_Decode_c1) [A.t (T.int n), A.t (T.int 0), A.t (rok s r), A.t (T.node [])] = _ := h2 m (by omega)
      rw [q_trace_Decode]
      simp only [S0, S9, S1, S2, if_true, if_false, q1, q2', q3]
    | some p =>
      obtain ⟨l, y⟩ := p
      obtain ⟨g2, q2⟩ := b1 l y e2
      rw [List.nil_append] at q2
      obtain ⟨f1, f2, f3⟩ := rdDeps_sound n r l y (by omega) e2
      dsimp only
      obtain ⟨n2, h2⟩ := q2.both (vend_ok (s := s) (by omega) g2)
      obtain ⟨n3, h3⟩ := tright_does l (by omega) (fun d hd => (f3 d hd).1)
      refine Does.of (n1 + n2 + n3) fun m hm => ?_
      obtain ⟨q1, q2⟩ := h1 m (by omega)
      obtain ⟨q3, q4⟩ := h2 m (by omega)
      have q5 := h3 m (by omega)
      have q2' : den Tryz.prog G0 ents m i_vint_Reader_Most none [A.t (T.int 256), A.t (rok s s.data.toList)] = _ := q2
      have q3' : den Tryz.prog G0 ents m i_trace_Decode (some p_trace_Decode_c1) [A.t (T.int n), A.t (T.int 0), A.t (rok s r), A.t (T.node [])] = _ := q3
      rw [q_trace_Decode]
      by_cases hy : y.length = 0
      · rw [if_pos hy] at q4
        simp only [S0, S9, S1, S2, if_true, if_false, q1, q2', q3', q4, q5, hy, true_and]
        cases rightD l <;> rfl
      · rw [if_neg hy] at q4
        have h4 : ((4 : Int) != 0) = true := rfl
        simp only [S0, S9, S1, S2, if_true, if_false, q1, q2', q3', q4, h4, Bool.true_eq_false]
        rw [if_neg (fun h => hy h.1)]
end Go.Proofs.YtdofdhlpheaonaaGreatDoorTE
namespace Go.Proofs.YtdofdhlpheaonaaGreatDoorTE
open Go Go.Proofs.YtdofdhlpheaonaaGreatDoorVM
set_option linter.unusedVariables false
set_option linter.unusedSimpArgs false
set_option maxRecDepth 100000

theorem rof_o_loop (l : List T) (hl : l.length ≤ 1000000) (hg : ∀ d ∈ l, Sm 20 (rv (val d)) ∧ goodR (val d) = true ∧ (nm d).size ≤ 60000000 ∧ (resB (val d)).length ≤ 60000000) : ∀ (k j : Nat) (b : List UInt8), j + k = l.length → b.length + ((l.drop j).flatMap depB).length ≤ 2000000000 →
    Dz i_R21_Of_o (some p_R21_Of_o_c1) [A.t (T.str (sb b)), A.t (T.int j), A.t (T.node l)] (2, [A.t (T.str (sb (b ++ (l.drop j).flatMap depB))), A.t (T.node l)]) := by
  intro k
  induction k with
  | zero =>
    intro j b hj hb
    refine Does.now fun m => ?_
    rw [q_R21_Of_o_c1, List.drop_of_length_le (by omega), List.flatMap_nil, List.append_nil]
    simp only [S0, S9, S1, S2, if_true, if_false]
    rw [if_neg (by omega)]
  | succ k ih =>
    intro j b hj hb
    have hlt : j < l.length := by omega
    obtain ⟨h1, h2, h3, h4⟩ := hg _ (List.getElem_mem hlt)
    have hw : IntKind.i64.wrap ((j : Int) + 1) = ((j + 1 : Nat) : Int) := i64succ (by omega)
    rw [flat_drop _ hlt] at hb ⊢
    rw [depB, List.append_assoc] at hb ⊢
    rw [List.length_append, List.length_append] at hb
    obtain ⟨n1, k1⟩ := (rtext_does (nm l[j]) h3).both (result_does h2 (fun _ => ⟨h1, encV_bound h1⟩))
    obtain ⟨n2, k2⟩ := (rtext_does (sb (resB (val l[j]))) (by rw [sb_size]; exact h4)).both (ih (j + 1) (b ++ textB (nm l[j]) ++ textB (sb (resB (val l[j])))) (by omega) (by rw [List.length_append, List.length_append]; omega))
    refine Does.of (n1 + n2) fun m hm => ?_
    obtain ⟨q1, q2⟩ := k1 m (by omega)
    obtain ⟨q3, q4⟩ := k2 m (by omega)
    rw [q_R21_Of_o_c1]
    simp only [S0, S9, S1, Int.toNat_natCast, at_get hlt, nmT_eq, valT_eq, q1, q2, q3, sb_size, sb_app, List.length_append, hw, q4]
    rw [if_pos (by omega), if_pos (by omega), if_pos (by omega), if_pos (by omega), if_pos (by omega), if_pos (by omega), if_pos (by omega)]
    simp only [List.append_assoc]
theorem rof_o_does (l : List T) (hl : l.length ≤ 1000000) (hg : ∀ d ∈ l, Sm 20 (rv (val d)) ∧ goodR (val d) = true ∧ (nm d).size ≤ 60000000 ∧ (resB (val d)).length ≤ 60000000) (hb : (ofD l).length ≤ 2000000000) :
    Dz i_R21_Of_o none [A.t (T.node l)] (1, [A.t (T.str (sb (ofD l))), A.t (T.node l)]) := by
  unfold ofD at hb ⊢
  rw [List.length_append] at hb
  obtain ⟨n1, h1⟩ := rnum_does l.length (by omega)
  obtain ⟨n2, h2⟩ := rof_o_loop l hl hg l.length 0 (numB l.length) (by omega) (by rw [List.drop_zero]; omega)
  rw [List.drop_zero] at h2
  have hw : IntKind.u64.wrap ((l.length : Nat) : Int) = ((l.length : Nat) : Int) := by rw [wu64, Nat.mod_eq_of_lt (by omega)]
  refine Does.of (n1 + n2) fun m hm => ?_
  have q2 : den Tryz.prog G0 ents m i_R21_Of_o (some p_R21_Of_o_c1) [A.t (T.str (sb (numB l.length))), A.t (T.int 0), A.t (T.node l)] = _ := h2 m (by omega)
  rw [q_R21_Of_o]
  simp only [S0, S9, S1, S2, if_true, if_false, hw, h1 m (by omega), q2]
theorem rtdec_loop {s : ByteArray} (hs : s.size ≤ 500) {m : Nat} (hm : m ≤ 256) : ∀ (k j : Nat) (l : List UInt8) (ts : List T), j + k = m → ts.length = j → Suf s l →
    (∀ us r, rdDeps k l = some (us, r) → Suf s r ∧ Dz i_R21_Decode (some p_R21_Decode_c1) [A.t (T.str s), A.t (T.int m), A.t (T.int j), A.t (rok s l), A.t (T.node ts)] (2, [A.t (T.str s), A.t (rok s r), A.t (T.node (ts ++ us))])) ∧
    (rdDeps k l = none → Dz i_R21_Decode (some p_R21_Decode_c1) [A.t (T.str s), A.t (T.int m), A.t (T.int j), A.t (rok s l), A.t (T.node ts)] (1, [A.t (T.node []), A.t (T.int 2)])) := by
  intro k
  induction k with
  | zero =>
    intro j l ts hj hf hl
    refine ⟨fun us r h => ?_, fun h => by cases h⟩
    cases h
    refine ⟨hl, Does.now fun q => ?_⟩
    rw [q_R21_Decode_c1]
    simp only [S0, S9, S1, S2, if_true, if_false, List.append_nil]
    rw [if_neg (by omega)]
  | succ k ih =>
    intro j l ts hj hf hl
    have hll := hl.len
    have hw : IntKind.u64.wrap ((j : Int) + 1) = ((j + 1 : Nat) : Int) := by rw [show (j : Int) + 1 = ((j + 1 : Nat) : Int) by omega, wu64, Nat.mod_eq_of_lt (by omega)]
    have one : ∀ (a t : ByteArray) (x1 x2 : T), t.size ≤ 500 → Dz i_R03_GetText none [A.t (rok s l), A.t (T.int (16 : Nat))] (1, [A.t x1, A.t (T.str a)]) → Dz i_R03_GetText none [A.t x1, A.t (T.int (1000000000 : Nat))] (1, [A.t x2, A.t (T.str t)]) →
        ((readR t).2 ≠ 0 → Dz i_R21_Decode (some p_R21_Decode_c1) [A.t (T.str s), A.t (T.int m), A.t (T.int j), A.t (rok s l), A.t (T.node ts)] (1, [A.t (T.node []), A.t (T.int 2)])) ∧
        ((readR t).2 = 0 → ∀ R, Dz i_R21_Decode (some p_R21_Decode_c1) [A.t (T.str s), A.t (T.int m), A.t (T.int (j + 1 : Nat)), A.t x2, A.t (T.node (ts ++ [T.node [T.str a, (readR t).1]]))] R → Dz i_R21_Decode (some p_R21_Decode_c1) [A.t (T.str s), A.t (T.int m), A.t (T.int j), A.t (rok s l), A.t (T.node ts)] R) := by
      intro a t x1 x2 ht h1 h2
      obtain ⟨n1, h1⟩ := h1.both h2
      obtain ⟨n2, h2⟩ := rread_does ht
      refine ⟨fun hc => Does.of (n1 + n2) fun q hq => ?_, fun hc R hR => ?_⟩
      · obtain ⟨q1, q2⟩ := h1 q (by omega)
        have q3 := h2 q (by omega)
        have q1' : den Tryz.prog G0 ents q i_R03_GetText none [A.t (rok s l), A.t (T.int 16)] = _ := q1
        have q2' : den Tryz.prog G0 ents q i_R03_GetText none [A.t x1, A.t (T.int 1000000000)] = _ := q2
        rw [q_R21_Decode_c1]
        simp only [S0, S9, S1, q1', q2', q3, rok_g2, if_true]
        rw [if_pos (by omega), if_pos hc]
      · obtain ⟨n3, h3⟩ := hR
        refine Does.of (n1 + n2 + n3) fun q hq => ?_
        obtain ⟨q1, q2⟩ := h1 q (by omega)
        have q3 := h2 q (by omega)
        have q5 := h3 q (by omega)
        have q1' : den Tryz.prog G0 ents q i_R03_GetText none [A.t (rok s l), A.t (T.int 16)] = _ := q1
        have q2' : den Tryz.prog G0 ents q i_R03_GetText none [A.t x1, A.t (T.int 1000000000)] = _ := q2
        rw [q_R21_Decode_c1]
        simp only [S0, S9, S1, q1', q2', q3, hw, q5, hf, rok_g2, if_true]
        rw [if_pos (by omega), if_neg (not_not_intro hc), if_pos (by omega)]
    have hz : (readR emptyB).2 ≠ 0 := by rw [readR_empty]; decide
    obtain ⟨a1, a2⟩ := (rtextr_does (s := s) (by omega) 16 (by omega)).1 l hl
    rw [rdDeps]
    cases e1 : rdText 16 l with
    | none =>
      refine ⟨fun us r h => by (rw [Option.bind_none] at h; cases h), fun _ => ?_⟩
      obtain ⟨x, hx, q⟩ := a2 (by rw [tS, e1]; rfl)
      obtain ⟨y, hy, q2⟩ := (rtextr_does (s := s) (by omega) 1000000000 (by omega)).2 x hx
      exact (one emptyB emptyB x y (by decide) q q2).1 hz
    | some p =>
      obtain ⟨a, x⟩ := p
      obtain ⟨g1, q⟩ := a1 (T.str a) x (by rw [tS, e1]; rfl)
      have hxl := g1.len
      obtain ⟨b1, b2⟩ := (rtextr_does (s := s) (by omega) 1000000000 (by omega)).1 x g1
      have hbig : rdText 1000000000 x = rdText 1000 x := rdText_big (by omega) (by omega)
      unfold tS at b1 b2
      rw [hbig] at b1 b2
      rw [Option.bind_some]
      dsimp only
      cases e2 : rdText 1000 x with
      | none =>
        refine ⟨fun us r h => by (rw [Option.bind_none] at h; cases h), fun _ => ?_⟩
        obtain ⟨y, hy, q2⟩ := b2 (by rw [e2]; rfl)
        exact (one a emptyB _ y (by decide) q q2).1 hz
      | some p =>
        obtain ⟨t, y⟩ := p
        obtain ⟨g2, q2⟩ := b1 (T.str t) y (by rw [e2]; rfl)
        have l2 := rdText_len e2
        have hone := one a t _ _ (by omega) q q2
        rw [Option.bind_some]
        dsimp only
        by_cases hc : (readR t).2 = 0
        · rw [if_pos hc]
          obtain ⟨c1, c2⟩ := ih (j + 1) y (ts ++ [T.node [T.str a, (readR t).1]]) (by omega) (by rw [List.length_append, List.length_singleton, hf]) g2
          refine ⟨fun us r h => ?_, fun h => hone.2 hc _ (c2 (map_none h))⟩
          obtain ⟨⟨vs, z⟩, e3, h⟩ := map_some h
          simp only [Prod.mk.injEq] at h
          obtain ⟨rfl, rfl⟩ := h
          obtain ⟨g3, q3⟩ := c1 vs z e3
          rw [List.append_assoc] at q3
          exact ⟨g3, hone.2 hc _ q3⟩
        · rw [if_neg hc]
          exact ⟨fun us r h => by (cases h), fun _ => hone.1 hc⟩
theorem flat_mem {α : Type} (f : α → List UInt8) {l : List α} {x : α} (h : x ∈ l) : (f x).length ≤ (l.flatMap f).length := by
  induction l with
  | nil => cases h
  | cons y l ih =>
    rw [List.flatMap_cons, List.length_append]
    rcases List.mem_cons.1 h with rfl | h
    · omega
    · have := ih h
      omega
theorem rtdec_does {s : ByteArray} (hs : s.size ≤ 500) : Dz i_R21_Decode none [A.t (T.str s)] (1, [A.t (T.node (decD s).1), A.t (T.int (decD s).2)]) := by
  obtain ⟨a1, a2⟩ := (rmost_does (s := s) (by omega) 256).1 _ (Suf.all s)
  rw [rok_all] at a1 a2
  unfold decD
  cases e1 : rdMost 256 s.data.toList with
  | none =>
    obtain ⟨x, hx, q⟩ := a2 (tN_none e1)
    obtain ⟨z, hz, q2⟩ := rend_bad hx
    have q3 : Dz i_R21_Decode (some p_R21_Decode_c1) [A.t (T.str s), A.t (T.int 0), A.t (T.int 0), A.t x, A.t (T.node [])] (2, [A.t (T.str s), A.t x, A.t (T.node [])]) := by
      refine Does.now fun q => ?_
      rw [q_R21_Decode_c1]
      simp only [S0, S9, S1, S2, if_true, if_false]
      rw [if_neg (by omega)]
    obtain ⟨n1, h1⟩ := q
    obtain ⟨n2, h2⟩ := q2.both q3
    have hne : (z != 0) = true := bne_iff_ne.2 hz
    refine Does.of (n1 + n2) fun m hm => ?_
    obtain ⟨q3, q4⟩ := h2 m (by omega)
    have q2' : den Tryz.prog G0 ents m i_R03_Most none [A.t (T.node [T.str s, T.int 0, T.int 0]), A.t (T.int 256)] = _ := h1 m (by omega)
    rw [q_R21_Decode]
    simp only [S0, S9, S1, S2, if_true, if_false, q2', q3, q4, hne]
    rfl
  | some p =>
    obtain ⟨n, r⟩ := p
    obtain ⟨g1, q⟩ := a1 _ _ (tN_some e1)
    obtain ⟨hsn, hn⟩ := rdMost_sound e1
    have hrl := g1.len
    dsimp only
    obtain ⟨n1, h1⟩ := q
    obtain ⟨b1, b2⟩ := rtdec_loop hs hn n 0 r [] (by omega) rfl g1
    cases e2 : rdDeps n r with
    | none =>
      obtain ⟨n2, h2⟩ := b2 e2
      refine Does.of (n1 + n2) fun m hm => ?_
      have q2' : den Tryz.prog G0 ents m i_R03_Most none [A.t (T.node [T.str s, T.int 0, T.int 0]), A.t (T.int 256)] = _ := h1 m (by omega)
      have q3 : den Tryz.prog G0 ents m i_R21_Decode (some p_R21_Decode_c1) [A.t (T.str s), A.t (T.int n), A.t (T.int 0), A.t (rok s r), A.t (T.node [])] = _ := h2 m (by omega)
      rw [q_R21_Decode]
      simp only [S0, S9, S1, S2, if_true, if_false, q2', q3]
    | some p =>
      obtain ⟨l, y⟩ := p
      obtain ⟨g2, q2⟩ := b1 l y e2
      rw [List.nil_append] at q2
      obtain ⟨f1, f2, f3⟩ := rdDeps_sound n r l y (by omega) e2
      dsimp only
      obtain ⟨n2, h2⟩ := q2.both (rend_ok (s := s) (by omega) g2)
      obtain ⟨n3, h3⟩ := rright_o_does l (by omega) (fun d hd => (f3 d hd).1)
      by_cases hy : y.length = 0
      · have hy0 : y = [] := List.length_eq_zero_iff.1 hy
        have hall : sb (ofD l) = s := by
          unfold ofD
          rw [hy0, List.append_nil] at f2
          rw [f1, ← f2, ← hsn, sb_toList]
        have hlen : (ofD l).length ≤ 500 := by rw [← sb_size, hall]; exact hs
        have hmem : ∀ d ∈ l, (depB d).length ≤ 500 := fun d hd => by
          have h5 := flat_mem depB hd
          unfold ofD at hlen
          rw [List.length_append] at hlen
          omega
        obtain ⟨n4, h4⟩ := rof_o_does l (by omega) (fun d hd => by
          have h5 := hmem d hd
          rw [depB, List.length_append, textB, textB, List.length_append, List.length_append, len_toList, sb_list] at h5
          exact ⟨(f3 d hd).1, (f3 d hd).2, by omega, by omega⟩) (by omega)
        rw [hall] at h4
        refine Does.of (n1 + n2 + n3 + n4) fun m hm => ?_
        have q2' : den Tryz.prog G0 ents m i_R03_Most none [A.t (T.node [T.str s, T.int 0, T.int 0]), A.t (T.int 256)] = _ := h1 m (by omega)
        obtain ⟨q3, q4⟩ := h2 m (by omega)
        have q5 := h3 m (by omega)
        have q3' : den Tryz.prog G0 ents m i_R21_Decode (some p_R21_Decode_c1) [A.t (T.str s), A.t (T.int n), A.t (T.int 0), A.t (rok s r), A.t (T.node [])] = _ := q3
        rw [if_pos hy] at q4
        rw [q_R21_Decode]
        simp only [S0, S9, S1, S2, if_true, if_false, q2', q3', q4, q5, h4 m (by omega), hy, true_and, seq_dec]
        cases rightD l <;> rfl
      · refine Does.of (n1 + n2 + n3) fun m hm => ?_
        have q2' : den Tryz.prog G0 ents m i_R03_Most none [A.t (T.node [T.str s, T.int 0, T.int 0]), A.t (T.int 256)] = _ := h1 m (by omega)
        obtain ⟨q3, q4⟩ := h2 m (by omega)
        have q3' : den Tryz.prog G0 ents m i_R21_Decode (some p_R21_Decode_c1) [A.t (T.str s), A.t (T.int n), A.t (T.int 0), A.t (rok s r), A.t (T.node [])] = _ := q3
        rw [if_neg hy] at q4
        have h4 : ((4 : Int) != 0) = true := rfl
        rw [q_R21_Decode]
        simp only [S0, S9, S1, S2, if_true, if_false, q2', q3', q4, h4, Bool.true_eq_false]
        rw [if_neg (fun h => hy h.1)]
theorem awake_does : Dz i_L21_awake none [] (1, [A.t (T.bool true)]) := run_of 60 fun n => by kernel_rfl
theorem decD_len {s : ByteArray} (hs : s.size ≤ 500) : (decD s).1.length ≤ 256 ∧ ∀ d ∈ (decD s).1, Sm 20 (rv (val d)) := by
  unfold decD
  cases e1 : rdMost 256 s.data.toList with
  | none => exact ⟨by decide, fun d hd => by cases hd⟩
  | some p =>
    obtain ⟨n, r⟩ := p
    obtain ⟨hsn, hn⟩ := rdMost_sound e1
    have h1 := congrArg List.length hsn
    rw [len_toList, List.length_append] at h1
    dsimp only
    cases e2 : rdDeps n r with
    | none => exact ⟨by decide, fun d hd => by cases hd⟩
    | some p =>
      obtain ⟨l, y⟩ := p
      obtain ⟨f1, f2, f3⟩ := rdDeps_sound n r l y (by omega) e2
      dsimp only
      split
      · exact ⟨by show l.length ≤ 256; omega, fun d hd => (f3 d hd).1⟩
      · exact ⟨by decide, fun d hd => by cases hd⟩
theorem readR_sm {s : ByteArray} (hs : s.size ≤ 500) : Sm 20 (rv (readR s).1) := by
  by_cases h : (readR s).2 = 0
  · exact (readR_good hs h).2.2
  · rw [(readR_two h).2]; exact Sm_noV
theorem law_does (t : T) : Dz i_L21_TraceReads none [A.t t] (1, [A.t (T.bool true)]) := by
  obtain ⟨n1, h1⟩ := awake_does
  by_cases hs : t.txt.size > 500
  · refine Does.of n1 fun m hm => ?_
    rw [q_L21_TraceReads]
    simp only [S0, S9, S1, S2, if_true, if_false, h1 m hm]
    rw [if_pos (by omega)]
  · have hs' : t.txt.size ≤ 500 := by omega
    obtain ⟨n2, h2⟩ := (read_does hs').both (rread_does hs')
    obtain ⟨n3, h3⟩ := (tdec_does hs').both (rtdec_does hs')
    have hsm := readR_sm hs'
    obtain ⟨d1, d2⟩ := decD_len hs'
    obtain ⟨n4, h4⟩ := (rsameR_does hsm hsm).both (rdeps_does _ _ (by omega) (by omega) d2 d2)
    have hsame : sameR (readR t.txt).1 (readR t.txt).1 = true := by
      unfold sameR
      rw [cmpV_self, decide_eq_true rfl, decide_eq_true rfl]
      rfl
    rw [hsame, depsB_self] at h4
    refine Does.of (n1 + n2 + n3 + n4) fun m hm => ?_
    obtain ⟨q1, q2⟩ := h2 m (by omega)
    obtain ⟨q3, q4⟩ := h3 m (by omega)
    obtain ⟨q5, q6⟩ := h4 m (by omega)
    rw [q_L21_TraceReads]
    simp only [S0, S9, S1, S2, if_true, if_false, h1 m (by omega), q1, q2, q3, q4, q5, q6, beq_self_eq_true]
    rw [if_neg (by omega)]
end Go.Proofs.YtdofdhlpheaonaaGreatDoorTE
